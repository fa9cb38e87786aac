/- The row: the law answers true whatever the input, and the input reads as it did. No condition. -/
import Derived.Test.YtelcehjliighfaaGreatRows
import Derived.Test.YtelcehjliighfaaGreatProg
import Derived.WalkKit
import Derived.KernelRfl
import Derived.JoinedOf
import Derived.Maps.AppendAt
import Derived.Still
import Derived.ProofKit
import Derived.OpenShut
import Derived.StillTail
import Derived.Deep.Upon
import Derived.WalkSpells
import Derived.Maps.Range
import Derived.DeepKeys4
import Derived.Maps.Keyed
import Derived.ChangeOld
import Derived.Below
import Derived.SizedLaws
import Derived.Test.YtelcehjliighfaaGreatPLopg
set_option linter.unusedVariables false
set_option linter.unusedSimpArgs false
set_option maxRecDepth 10000
set_option maxHeartbeats 8000000
open Nat (reduceEqDiff reduceSub reduceAdd)
namespace Go.Proofs.YtelcehjliighfaaGreat.G
open Go Go.RowKit
theorem redS_snoc (l:List (List Int)) (x:List Int):redS (l++[x])=putS (redS l) x:=by
 unfold redS;rw [List.foldl_append]
 rfl
abbrev R3:=List (List (List Int))
def r3_ (now:R3) (n:Nat):List (List Int):=now.getD n []
section
variable (ds : List Int) (fs : List (List Term)) (now : R3)
def mvJ (n k:Nat) (u:List Int) (j:Nat):List (List Int):=((csS ds fs k).take j).map fun c=>pvS ds fs ((n:Int) - k) k c u
def mvI (n k i:Nat):List (List Int):=((r3_ now (n - k)).take i).flatMap fun u=>mvJ ds fs n k u (csS ds fs k).length
def mvN (n:Nat):Nat→List (List Int)
 | 0=>[]
 | k+1=>mvN n k++mvI ds fs now n (k+1) (r3_ now (n - (k+1))).length
def mvS (m:Nat):R3:=(List.range m).map fun n=>redS (mvN ds fs now n n)
def bgS (m:Nat):R3:=(List.range m).map fun n=>if n=0 then [[1]] else []
def nowK (m:Nat):Nat→R3
 | 0=>bgS m
 | k+1=>mvS ds fs (nowK m k) m
def allE:Bool:=now.all fun r=>decide (r.length=0)
def lopV (m:Nat):Nat:=(List.range m).findIdx fun k=>allE (nowK ds fs m (k+1))
end
section
variable {ds : List Int} {fs : List (List Term)} {now : R3} {m n k i j t : Nat} {u x : List Int}
theorem mvJ_zero:mvJ ds fs n k u 0=[]:=rfl
theorem mvJ_succ (hj:j<(csS ds fs k).length):mvJ ds fs n k u (j+1)=mvJ ds fs n k u j++[pvS ds fs ((n:Int) - k) k (rw_ (csS ds fs k) j) u]:=by
 unfold mvJ;rw [rw_take hj,List.map_append]
 rfl
theorem mvI_zero:mvI ds fs now n k 0=[]:=rfl
theorem mvI_succ (hi:i<(r3_ now (n - k)).length):mvI ds fs now n k (i+1)=mvI ds fs now n k i++mvJ ds fs n k (rw_ (r3_ now (n - k)) i) (csS ds fs k).length:=by
 unfold mvI;rw [rw_take hi,List.flatMap_append]
 simp
@[simp] theorem mvS_len:(mvS ds fs now m).length=m:=by simp [mvS]
theorem mvS_at (h:n<m):r3_ (mvS ds fs now m) n=redS (mvN ds fs now n n):=by simp [r3_,mvS,List.getD_eq_getElem?_getD,h]
theorem bgS_at (h:n<m):r3_ (bgS m) n=if n=0 then [[1]] else []:=by simp [r3_,bgS,List.getD_eq_getElem?_getD,h]
theorem nowK_len : ∀k:Nat,(nowK ds fs m k).length=m
 | 0=>by simp [nowK,bgS]
 | k+1=>by simp [nowK]
theorem mvI_mem:x∈mvI ds fs now n k (r3_ now (n - k)).length↔∃u∈r3_ now (n - k),∃c∈csS ds fs k,x=pvS ds fs ((n:Int) - k) k c u:=by
 unfold mvI mvJ;simp only [List.take_length,List.mem_flatMap,List.mem_map]
 constructor
 ·rintro ⟨u,hu,c,hc,rfl⟩;exact ⟨u,hu,c,hc,rfl⟩
 ·rintro ⟨u,hu,c,hc,rfl⟩;exact ⟨u,hu,c,hc,rfl⟩
theorem mvN_mem : ∀{k:Nat},x∈mvN ds fs now n k↔∃l:Nat,(1≤l∧l≤k)∧∃u∈r3_ now (n - l),∃c∈csS ds fs l,x=pvS ds fs ((n:Int) - l) l c u
 | 0=>by
  constructor
  ·intro h;cases h
  ·rintro ⟨l,h,_⟩;omega
 | k+1=>by
  show x∈mvN ds fs now n k++mvI ds fs now n (k+1) (r3_ now (n - (k+1))).length↔_
  rw [List.mem_append,mvN_mem,mvI_mem]
  constructor
  ·rintro (⟨l,h1,h2⟩ | h)
   ·exact ⟨l,by omega,h2⟩
   ·exact ⟨k+1,by omega,h⟩
  ·rintro ⟨l,h1,h2⟩
   rcases Nat.lt_or_ge l (k+1) with h3 | h3
   ·exact .inl ⟨l,by omega,h2⟩
   ·obtain rfl:l=k+1:=by omega
    exact .inr h2
def NowOk (ds:List Int) (m:Nat) (now:R3):Prop:=∀n,n<m→Red (monL ds n).length (r3_ now n)
theorem pv_ok (hA:AlgOk ds fs) (h8:ds.length≤8) (hd : ∀j,j<ds.length→1≤ds.getD j 0∧ds.getD j 0≤12) {n k:Int} {c u:List Int} (hu:u.length≤(monL ds n).length) (hc:c.length≤(monL ds k).length):RowOk (monL ds (n+k)).length (pvS ds fs n k c u):=
 byS_ok (cfR_ok ((sumR_mon h8 hu).times (sumR_mon h8 hc))) (bdS_red hA h8 hd).row
theorem mvN_ok (hA:AlgOk ds fs) (h8:ds.length≤8) (hd : ∀j,j<ds.length→1≤ds.getD j 0∧ds.getD j 0≤12) (hN:NowOk ds m now) (hn:n<m) (hk:k≤n) : ∀x∈mvN ds fs now n k,RowOk (monL ds n).length x:=fun x hx=>by
 obtain ⟨l,hl,u,hu,c,hc,rfl⟩:=mvN_mem.1 hx
 have h1:=(hN (n - l) (by omega)).row u hu
 have h2:=(csS_red (n:=(l:Int)) hA h8 hd).row c hc
 have e:((n - l:Nat):Int)=(n:Int) - l:=by omega
 have h3:=pv_ok hA h8 hd (n:=(n:Int) - l) (k:=l) (c:=c) (u:=u) (by rw [← e];exact Nat.le_of_eq h1.len) (Nat.le_of_eq h2.len)
 rwa [Int.sub_add_cancel] at h3
theorem mvS_ok (hA:AlgOk ds fs) (h8:ds.length≤8) (hd : ∀j,j<ds.length→1≤ds.getD j 0∧ds.getD j 0≤12) (hN:NowOk ds m now):NowOk ds m (mvS ds fs now m):=fun n hn=>by
 rw [mvS_at hn]
 exact (redS_ok (mvN_ok hA h8 hd hN hn (Nat.le_refl _))).1
theorem mon_zero (hd : ∀j,j<ds.length→1≤ds.getD j 0∧ds.getD j 0≤12) (h8:ds.length≤8):(monL ds ((0:Nat):Int)).length=1:=by
 have h1:monS ds 0=[zP]:=by
  have hz:zP∈monS ds 0:=mon_in (M:=0) h8 hd (by decide) ⟨zP_nn.1,fun j=>by rw [zP_get];omega⟩ ⟨fun i _=>zP_get i,fun i _ _=>by rw [zP_get];omega⟩ (wsum_zero zP_get _)
  have hu : ∀p∈monS ds 0,p=zP:=fun p hp=>by
   have h2:=mon_wt h8 hp;have hp0:=mon_pok h8 hp;have hx:=mon_ex h8 hp hd;refine list8 hp0.len zP_nn.1 fun j _=>?_;rw [zP_get]
   rcases Nat.lt_or_ge j ds.length with hj | hj
   ·have h3:=wsum_ge (ds:=ds) (p:=p) (fun i=>by
     rcases Nat.lt_or_ge i ds.length with hi | hi
     ·have:=hd i hi;omega
     ·rw [getD_ge hi];omega) (fun i=>(hp0.bd i).1) ds.length hj
    have h4:=hd j hj;have h5:=hp0.bd j;rw [h2] at h3;have h6:1 * p.getD j 0≤ds.getD j 0 * p.getD j 0:=Int.mul_le_mul_of_nonneg_right h4.1 h5.1
    omega
   ·exact hx.out j hj
  have hn:=mon_nodup ds 0 h8;generalize monS ds 0=l at hz hu hn
  match l,hz,hu,hn with
  | [a],_,hu,_=>rw [hu a (by simp)]
  | a::b::l,_,hu,hn=>
   have h1:=hu a (by simp);have h2:=hu b (by simp);rw [h1,h2] at hn
   simp at hn
 unfold monL
 show ((monS ds 0).take 121).length=1
 rw [h1]
 rfl
theorem bgS_ok (hd : ∀j,j<ds.length→1≤ds.getD j 0∧ds.getD j 0≤12) (h8:ds.length≤8):NowOk ds m (bgS m):=fun n hn=>by
 rw [bgS_at hn]
 by_cases h:n=0
 ·subst h
  rw [if_pos rfl,mon_zero hd h8]
  refine ⟨fun r hr=>?_,by simp,fun r hr=>?_,fun r hr s hs h=>?_⟩
  ·rw [List.mem_singleton.1 hr]
   refine ⟨rfl,fun k=>?_⟩
   cases k with
   | zero=>simp
   | succ k=>simp
  ·rw [List.mem_singleton.1 hr]
   decide
  ·rw [List.mem_singleton.1 hr,List.mem_singleton.1 hs] at h
   exact absurd rfl h
 ·rw [if_neg h]
  exact Red.nil
theorem nowK_ok (hA:AlgOk ds fs) (h8:ds.length≤8) (hd : ∀j,j<ds.length→1≤ds.getD j 0∧ds.getD j 0≤12) : ∀k,NowOk ds m (nowK ds fs m k)
 | 0=>bgS_ok hd h8
 | k+1=>mvS_ok hA h8 hd (nowK_ok hA h8 hd k)
theorem nowK_low : ∀(k:Nat) {n:Nat},n<k→n<m→r3_ (nowK ds fs m k) n=[]
 | 0,_,h,_=>by omega
 | k+1,n,h,hn=>by
  show r3_ (mvS ds fs (nowK ds fs m k) m) n=[]
  rw [mvS_at hn]
  have e:mvN ds fs (nowK ds fs m k) n n=[]:=List.eq_nil_iff_forall_not_mem.2 fun x hx=>by
   obtain ⟨l,hl,u,hu,_⟩:=mvN_mem.1 hx
   rw [nowK_low k (by omega) (by omega)] at hu
   cases hu
  rw [e]
  rfl
theorem allE_iff {now:R3}:allE now=true↔∀n,n<now.length→r3_ now n=[]:=by
 unfold allE;rw [List.all_eq_true]
 constructor
 ·intro h n hn;have h1:=h now[n] (List.getElem_mem hn)
  have h2:now[n].length=0:=by simpa using h1
  unfold r3_;rw [List.getD_eq_getElem?_getD,List.getElem?_eq_getElem hn];exact List.length_eq_zero_iff.1 h2
 ·intro h r hr;obtain ⟨n,hn,rfl⟩:=List.mem_iff_getElem.1 hr;have h1:=h n hn;unfold r3_ at h1;rw [List.getD_eq_getElem?_getD,List.getElem?_eq_getElem hn] at h1;have h2:now[n]=[]:=h1;rw [h2]
  rfl
theorem lop_end (hm:0<m):allE (nowK ds fs m (m - 1+1))=true:=allE_iff.2 fun n hn=>by
 rw [nowK_len] at hn
 exact nowK_low _ (by omega) hn
theorem lop_hit {k:Nat} (hk:k<m) (h : ∀j,j<k→allE (nowK ds fs m (j+1))=false) (h2:allE (nowK ds fs m (k+1))=true):lopV ds fs m=k:=by
 unfold lopV
 have hk2:k<(List.range m).length:=by simpa using hk
 rw [List.findIdx_eq hk2];exact ⟨by simpa using h2,fun j hj=>by simpa using h j hj⟩
end
def Rows3 (H:HP) (q:Option Addr) (xs:R3):Prop:=∀i,i<xs.length→∃q' c',cellO H q i=some (.slice q' (r3_ xs i).length c')∧(r3_ xs i).length≤c' ∧RowsR H q' (r3_ xs i)
theorem Rows3.le {H H':HP} {q:Option Addr} {xs:R3} (h:Rows3 H q xs) (hle:Le H H'):Rows3 H' q xs:=fun i hi=>by
 obtain ⟨q',c',h1,h2,h3⟩:=h i hi
 exact ⟨q',c',cellO_le hle h1,h2,h3.le hle⟩
theorem Rows3.sm {H:HP} {q:Option Addr} {xs:R3} (h:Rows3 H q xs) {i:Nat} (hi:i<xs.length):q.isSome=true:=by
 obtain ⟨_,_,h1,_⟩:=h i hi;exact cellO_some h1
abbrev F2:=List (List (List Term))
def f2_ (xs:F2) (i:Nat):List (List Term):=xs.getD i []
def Forms2 (H:HP) (q:Option Addr) (xs:F2):Prop:=∀i,i<xs.length→∃q' c',cellO H q i=some (.slice q' (f2_ xs i).length c')∧(f2_ xs i).length≤c' ∧Forms H q' (f2_ xs i)
theorem Forms2.le {H H':HP} {q:Option Addr} {xs:F2} (h:Forms2 H q xs) (hle:Le H H'):Forms2 H' q xs:=fun i hi=>by
 obtain ⟨q',c',h1,h2,h3⟩:=h i hi
 exact ⟨q',c',cellO_le hle h1,h2,h3.le hle⟩
theorem Forms2.sm {H:HP} {q:Option Addr} {xs:F2} (h:Forms2 H q xs) {i:Nat} (hi:i<xs.length):q.isSome=true:=by
 obtain ⟨_,_,h1,_⟩:=h i hi;exact cellO_some h1
def Sl3 (H:HP) (vals:List Value) (xs:R3):Prop:=vals.length=xs.length∧∀i,i<xs.length→∃q c,vals[i]? = some (.slice q (r3_ xs i).length c)∧(r3_ xs i).length≤c∧RowsR H q (r3_ xs i)
theorem Sl3.le {H H':HP} {vals:List Value} {xs:R3} (h:Sl3 H vals xs) (hle:Le H H'):Sl3 H' vals xs:=⟨h.1,fun i hi=>by
 obtain ⟨q,c,h1,h2,h3⟩:=h.2 i hi
 exact ⟨q,c,h1,h2,h3.le hle⟩⟩
theorem Sl3.nil (H:HP):Sl3 H [] []:=⟨rfl,fun i hi=>by simp at hi⟩
theorem Sl3.snoc {H:HP} {vals:List Value} {xs:R3} {q:Option Addr} {c m:Nat} {r:List (List Int)} (h:Sl3 H vals xs) (hr:RowsR H q r) (hm:r.length=m) (hc:m≤c):Sl3 H (vals++[.slice q m c]) (xs++[r]):=by
 subst hm;refine ⟨by simp [h.1],fun i hi=>?_⟩
 by_cases e:i<xs.length
 ·obtain ⟨q',c',h1,h2,h3⟩:=h.2 i e
  have er:r3_ (xs++[r]) i=r3_ xs i:=by simp [r3_,List.getD_eq_getElem?_getD,List.getElem?_append_left e]
  rw [er];exact ⟨q',c',by rw [List.getElem?_append_left (by rw [h.1];exact e)];exact h1,h2,h3⟩
 ·obtain rfl:i=xs.length:=by simp at hi;omega
  have er:r3_ (xs++[r]) xs.length=r:=by simp [r3_,List.getD_eq_getElem?_getD]
  rw [er];exact ⟨q,c,by rw [← h.1];simp,hc,hr⟩
theorem Sl3.rows3 {E:TypeId} {h H:HP} {q:Option Addr} {m c:Nat} {vals:List Value} {xs:R3} (hs:Sl3 H vals xs) (hle:Le H h) (hh:(own E 1 q m c vals).holds h):Rows3 h q xs:=fun i hi=>by
 obtain ⟨q',c',h1,h2,h3⟩:=hs.2 i hi
 exact ⟨q',c',own_reads hh i _ h1,h2,h3.le hle⟩
def SlF2 (H:HP) (vals:List Value) (xs:F2):Prop:=vals.length=xs.length∧∀i,i<xs.length→∃q c,vals[i]? = some (.slice q (f2_ xs i).length c)∧(f2_ xs i).length≤c∧Forms H q (f2_ xs i)
theorem SlF2.le {H H':HP} {vals:List Value} {xs:F2} (h:SlF2 H vals xs) (hle:Le H H'):SlF2 H' vals xs:=⟨h.1,fun i hi=>by
 obtain ⟨q,c,h1,h2,h3⟩:=h.2 i hi
 exact ⟨q,c,h1,h2,h3.le hle⟩⟩
theorem SlF2.nil (H:HP):SlF2 H [] []:=⟨rfl,fun i hi=>by simp at hi⟩
theorem SlF2.snoc {H:HP} {vals:List Value} {xs:F2} {q:Option Addr} {c m:Nat} {r:List (List Term)} (h:SlF2 H vals xs) (hr:Forms H q r) (hm:r.length=m) (hc:m≤c):SlF2 H (vals++[.slice q m c]) (xs++[r]):=by
 subst hm;refine ⟨by simp [h.1],fun i hi=>?_⟩
 by_cases e:i<xs.length
 ·obtain ⟨q',c',h1,h2,h3⟩:=h.2 i e
  have er:f2_ (xs++[r]) i=f2_ xs i:=by simp [f2_,List.getD_eq_getElem?_getD,List.getElem?_append_left e]
  rw [er];exact ⟨q',c',by rw [List.getElem?_append_left (by rw [h.1];exact e)];exact h1,h2,h3⟩
 ·obtain rfl:i=xs.length:=by simp at hi;omega
  have er:f2_ (xs++[r]) xs.length=r:=by simp [f2_,List.getD_eq_getElem?_getD]
  rw [er];exact ⟨q,c,by rw [← h.1];simp,hc,hr⟩
theorem SlF2.forms2 {E:TypeId} {h H:HP} {q:Option Addr} {m c:Nat} {vals:List Value} {xs:F2} (hs:SlF2 H vals xs) (hle:Le H h) (hh:(own E 1 q m c vals).holds h):Forms2 h q xs:=fun i hi=>by
 obtain ⟨q',c',h1,h2,h3⟩:=hs.2 i hi
 exact ⟨q',c',own_reads hh i _ h1,h2,h3.le hle⟩
theorem u74:Tryz.prog.underlying 74=some (TypeDesc.slice 34):=by kernel_rfl
theorem u75:Tryz.prog.underlying 75=some (TypeDesc.slice 31):=by kernel_rfl
theorem u77:Tryz.prog.underlying 77=some (TypeDesc.struct #[{name:="rows",type:=75,offset:=0,embedded:=false,tag:="",pkgPath:="loop.example/g01219/spec",byteOffset:=0}]):=by kernel_rfl
theorem sz75:Size Tryz.prog 75 1:=by unfold Size;kernel_rfl
theorem sz77:Size Tryz.prog 77 1:=by unfold Size;kernel_rfl
theorem by31:Bytes Tryz.prog 31 24:=by unfold Bytes;kernel_rfl
theorem ze31:Zero Tryz.prog 31 [.slice none 0 0]:=by unfold Zero;kernel_rfl
theorem bz77 : ∀w,(Instr.build 77 #[]).run Tryz.prog w = .ok (.agg [.slice none 0 0].toArray) w:=fun _=>by kernel_rfl
theorem ze77:Zero Tryz.prog 77 [.slice none 0 0]:=by unfold Zero;kernel_rfl
theorem pl75:Plain Tryz.prog 75:=⟨_,u75,rfl⟩
theorem ag77:Agg Tryz.prog 77 1:=⟨_,u77,rfl,by kernel_rfl⟩
def clsL (ds:List Int) (fs:List (List Term)) (m:Nat):F2:=(List.range m).map fun k:Nat=>fmR (monL ds (k:Int)) (csS ds fs (k:Int))
@[simp] theorem clsL_len (ds:List Int) (fs:List (List Term)) (m:Nat):(clsL ds fs m).length=m:=by simp [clsL]
theorem clsL_at {ds:List Int} {fs:List (List Term)} {m k:Nat} (h:k<m):f2_ (clsL ds fs m) k=fmR (monL ds (k:Int)) (csS ds fs (k:Int)):=by simp [f2_,clsL,List.getD_eq_getElem?_getD,h]
theorem mvS_succ (ds:List Int) (fs:List (List Term)) (now:R3) (n:Nat):mvS ds fs now (n+1)=mvS ds fs now n++[redS (mvN ds fs now n n)]:=by
 unfold mvS;rw [List.range_succ,List.map_append]
 rfl
theorem allE_succ (ds:List Int) (fs:List (List Term)) (now:R3) (n:Nat):allE (mvS ds fs now (n+1))=(allE (mvS ds fs now n) && decide ((redS (mvN ds fs now n n)).length=0)):=by
 rw [mvS_succ];unfold allE;rw [List.all_append]
 simp
theorem any_t {ds:List Int} {fs:List (List Term)} {now:R3} {n:Nat} (h:(!allE (mvS ds fs now n))=true):true = !allE (mvS ds fs now (n+1)):=by
 rw [allE_succ]
 cases hA:allE (mvS ds fs now n) with
 | true=>rw [hA] at h;cases h
 | false=>rfl
theorem any_f {ds:List Int} {fs:List (List Term)} {now:R3} {n:Nat} (h:(!allE (mvS ds fs now n))=false) (l:Nat) (hl:l=(redS (mvN ds fs now n n)).length):decide ((l:Int)>0) = !allE (mvS ds fs now (n+1)):=by
 subst hl;rw [allE_succ]
 cases hA:allE (mvS ds fs now n) with
 | false=>rw [hA] at h;cases h
 | true=>
  by_cases h0:(redS (mvN ds fs now n n)).length=0
  ·rw [decide_eq_true h0,decide_eq_false (by omega)];rfl
  ·rw [decide_eq_false h0,decide_eq_true (by omega)];rfl
theorem CJ.fixA {P:Program} {c0:Code} {Q:Exit→Act→World→Prop} {n:Nat} {B:World} {H0 H:HP} {us:List (Nat × Value)} {L L1:List SA} {A:SA} (hr:Rm L A L1) (h : ∀H',Le H H' →A.holds H' →CJ P c0 Q n B H0 us H' L1):CJ P c0 Q n B H0 us H L:=fun a w hF hH=>(EF (R:=fun a w=>c0.wp P Q a w) hr fun H' h1 h2=>h H' h1 h2) a w hF hH
theorem mvX_ok {ds:List Int} {fs:List (List Term)} {now:R3} {m n k i j:Nat} (hA:AlgOk ds fs) (h8:ds.length≤8) (hd : ∀j,j<ds.length→1≤ds.getD j 0∧ds.getD j 0≤12) (hN:NowOk ds m now) (hn:n<m) (hk:k+1≤n) {u:List Int} (hu:u∈r3_ now (n - (k+1))) : ∀x∈mvN ds fs now n k++mvI ds fs now n (k+1) i++mvJ ds fs n (k+1) u j,RowOk (monL ds n).length x:=fun x hx=>by
 have key : ∀u∈r3_ now (n - (k+1)),∀c∈csS ds fs ((k+1:Nat):Int),RowOk (monL ds n).length (pvS ds fs ((n:Int) - ((k+1:Nat):Int)) ((k+1:Nat):Int) c u):=fun u hu c hc=>by
  have h1:=(hN (n - (k+1)) (by omega)).row u hu
  have h2:=(csS_red (n:=((k+1:Nat):Int)) hA h8 hd).row c hc
  have e:((n - (k+1):Nat):Int)=(n:Int) - ((k+1:Nat):Int):=by omega
  have h3:=pv_ok (fs:=fs) hA h8 hd (n:=(n:Int) - ((k+1:Nat):Int)) (k:=((k+1:Nat):Int)) (c:=c) (u:=u) (by rw [← e];exact Nat.le_of_eq h1.len) (Nat.le_of_eq h2.len)
  rwa [Int.sub_add_cancel] at h3
 rcases List.mem_append.1 hx with hx | hx
 ·rcases List.mem_append.1 hx with hx | hx
  ·exact mvN_ok hA h8 hd hN hn (by omega) x hx
  ·obtain ⟨u',hu',h⟩:=List.mem_flatMap.1 hx
   obtain ⟨c,hc,rfl⟩:=List.mem_map.1 h
   exact key u' (List.mem_of_mem_take hu') c (List.mem_of_mem_take hc)
 ·obtain ⟨c,hc,rfl⟩:=List.mem_map.1 hx
  exact key u hu c (List.mem_of_mem_take hc)
theorem Hp.byN {B:World} {H0 H:HP} {L:List SA} {w:World} {q q2:Option Addr} {c c2 W:Nat} {row:List Int} {rs:List (List Int)} (hrs:RowsR H q2 rs) (hw:RowOk W row) (hW : ∀r∈rs,RowOk W r∧ldR r<W) (hn:rs.length≤1000000) (hWn:W≤1000000) (hH:Hp B H0 H (own 2 1 q row.length c (intsC row)::L) w) :
 Calls Tryz.prog 70 [.slice q row.length c,.slice q2 rs.length c2].toArray w fun e w'=>∃q c vs,e = .returned (.slice q (byS row rs).length c)∧Hp B H0 H (mlt (InK q c (byS row rs)) H vs::L) w':=
 hH.lend .z fun H1 hle hA _ hH1=>(l03By_c (crow:=c) (crs:=c2) (own_ints hA) (hrs.le hle) hw hW hn hWn (own_le hA) hH1).mono fun e w' h=>by
  obtain ⟨H',q',c',hle',hI,hc,he,hH'⟩:=h
  obtain ⟨vs',h2⟩:=hH.melt (K:=InK q' c' (byS row rs)) hH' (hle.trans hle') ⟨hI,hc⟩
  exact ⟨q',c',vs',he,h2⟩
theorem Hp.putN {B:World} {H0 H:HP} {L:List SA} {w:World} {q q2:Option Addr} {c c2 W:Nat} {row:List Int} {rs:List (List Int)} {vs:Vs} (hrs:RowsR H q2 rs) (hR:Red W rs) (hw:RowOk W row) (hWn:W≤100000) (hc2:rs.length≤c2) (hH:Hp B H0 H (mlt (InK q c row) H vs::L) w) :
 Calls Tryz.prog 49 [.slice q2 rs.length c2,.slice q row.length c].toArray w fun e w'=>∃q c vs,e = .returned (.slice q (putS rs row).length c)∧Hp B H0 H (mlt (RwK q c (putS rs row)) H vs::L) w':=
 hH.lend .z fun H1 hle hA _ hH1=>(l03Put_c (crow:=c) (crs:=c2) (hrs.le hle) (mlt_ints hle hA).1 hR hw hWn (mlt_ints hle hA).2 hc2 hH1).mono fun e w' h=>by
  obtain ⟨H',q',c',hle',hI,hc,he,hH'⟩:=h
  obtain ⟨vs',h2⟩:=hH.melt (K:=RwK q' c' (putS rs row)) hH' (hle.trans hle') ⟨hI,hc⟩
  exact ⟨q',c',vs',he,h2⟩
theorem l03More_c {B:World} {H0 H:HP} {L:List SA} {w:World} {qad qaf:Option Addr} {cad caf:Nat} {ad:List Int} {af:List (List Term)} {m:Int} {qs:Option Addr} {cs:Nat} {s:R3} {qcl:Option Addr} {ccl:Nat} {cl:List (List (List Term))} (had:Ints H qad ad) (haf:Forms H qaf af) (hs:Rows3 H qs s) (hcl:Forms2 H qcl cl) (hG:isAlg ad af=true) (hm:0≤m∧m≤20) (hsl:s.length=m.toNat+1) (hsN:NowOk ad (m.toNat+1) s) (hce:cl=clsL ad af (m.toNat+1)) (hfit : ∀t:Int,0≤t→t≤m+1→fitB ad t=true) (hH:Hp B H0 H L w):Calls Tryz.prog 39 [.agg [.slice qad ad.length cad,.slice qaf af.length caf].toArray,.int .i64 m,.agg [.slice qs s.length cs].toArray,.slice qcl cl.length ccl].toArray w fun e w'=>∃H' q c,Le H H' ∧Rows3 H' q (mvS ad af s (m.toNat+1))∧(mvS ad af s (m.toNat+1)).length≤c∧e = .returned (.tuple #[.agg [.slice q (mvS ad af s (m.toNat+1)).length c].toArray,.bool (!allE (mvS ad af s (m.toNat+1)))])∧Hp B H0 H' L w':=by
 refine Jx Tryz.func39 rfl 102 rfl rfl [(0,.agg [.slice qad ad.length cad,.slice qaf af.length caf].toArray),(1,.int .i64 m),(2,.agg [.slice qs s.length cs].toArray),(3,.slice qcl cl.length ccl)] rfl hH ?_;have hw0:=hH.old;have hw1:=hH.le;clear hH;have hwf:=haf.wfss;have hA:=isAlg_ok hG hwf;have h8:=hA.hn;have hd:=alg_112 hG;have hmT : ∀t:Int,0≤t→t≤m→monT ad t=monL ad t:=fun t h1 h2=>monT_L (hfit t h1 (by omega));refine Je fun _ hK1 _=>(Jb (Ee rfl rfl rfl fun g4=>(Ee rfl rfl rfl fun g6=>(JU ze77 rfl fun g8=>(Jg (Jd rfl) rfl (Jf (Ja (hK1 (Je fun _ hK2 _=>(Jb (J.own0 31 1 (Jg (Ez bz77) rfl (JU ze77 rfl fun g10=>(JK rfl rfl (by first | exact bytesC_one _ | exact intsC_one _ | exact Term.c_one _ | simp [Value.oneCell']) (by simpa [*] using sz77) (by simp [*]) At.z (Jg (Jd rfl) rfl ?_)))))))))))))));refine Jf (Ja (hK2 (Je fun _ hK3 _=>(Je fun _ hK4 _=>(Jb (Jg (Jd rfl) rfl (Jf (Ja (hK4 (Jk (JC (σ:=HP × Option Addr × Nat × List Value × Nat) (fun ⟨Hn,q,c,vals,n⟩=>[(12,.int .i64 (n:Int)),(11,.bool (!allE (mvS ad af s n)))]) (fun ⟨Hn,q,c,vals,n⟩=>Hn) (fun ⟨Hn,q,c,vals,n⟩=>obj g10 (.cells [.slice q n c].toArray 77 (0,0))::own 31 1 q n c vals::obj g8 (.cells [.slice none 0 0].toArray 77 (0,0))::obj g6 (.cells [.slice qs s.length cs].toArray 77 (0,0))::obj g4 (.cells [.slice qad ad.length cad,.slice qaf af.length caf].toArray 36 (0,0))::L) (fun ⟨Hn,q,c,vals,n⟩=>Le H Hn∧Sl3 Hn vals (mvS ad af s n)∧n≤m.toNat+1) (fun ⟨Hn,q,c,vals,n⟩=>m.toNat+1 - n) (H,none,0, [],0) ⟨Le.refl _,Sl3.nil _,by omega⟩ ⟨rfl,⟨rfl,trivial⟩⟩ rfl rfl ?_)))))))))));rintro ⟨Hn,q,c,vals,n⟩ ⟨hln,hS,hn⟩ _ hAg0;replace had:=had.le hln;replace haf:=haf.le hln;replace hs:=hs.le hln;replace hcl:=hcl.le hln;refine Je fun _ hK5 _=>(Je fun _ hK6 _=>(Jb (Jg (Jc rfl) rfl (Jg (Jc rfl) rfl (Jg (ET rfl rfl) rfl (Jf (Ja (hK6 (Jo rfl (fun h23=>?_) (fun h23=>?_))))))))))
 ·
  have hnm:n<m.toNat+1:=by omega
  have hmTn:=hmT (n:Int) (by omega) (by omega);have hmln:=monL_len ad (n:Int);have hbdR:=bdS_red (n:=(n:Int)) hA h8 hd;have hbdl:=bdS_len (n:=(n:Int)) hA h8 hd;refine Jm (Ja (hK5 (Je fun _ hK7 _=>(Jk (Je fun _ hK8 _=>(Ej (Rs:=[_,_,_,_,_]) 11 [[], [0], [], [0,1,2], [], [], [0,1,2,3,4,5], [], [0,1,2,3,4,5,6], [0,1,2,3,4,5,6,8], [0,1,2,3,4,5,6,7,8,9]] [[], [15], [], [], [15], [], [], [], [], [], []] [[], [], [], [], [], [], [], [], [], [], []] rfl rfl (by kernel_rfl) ?_))))));apply Jl 1 rfl
  iterate 3 focus (intros;(conv=>lhs;simp only [Jh,Jr,JM,Jt,JH,eq_self,reduceEqDiff,reduceIte,reduceSub,reduceAdd,JxA,JxB]);all_goals rfl)
  ·
   intro gh X K zq zc zq2 zc2 zb zv hK;refine Jg (Js u36 rfl sz22 rfl) rfl (Ji ?_);exact hK zq zc zq2 zc2 zb zv
  ·
   intro gh gh' h
   rfl
  apply Jl 2 rfl
  iterate 3 focus (intros;(conv=>lhs;simp only [Jh,Jr,JM,Jt,JH,eq_self,reduceEqDiff,reduceIte,reduceSub,reduceAdd,JxA,JxB]);all_goals rfl)
  ·
   intro gh X K zq zc zq2 zc2 zb zv hK;refine Jg (Jv rfl At.z rfl pl22) rfl (Ji ?_);exact hK zq zc zq2 zc2 zb zv
  ·
   intro gh gh' h
   rfl
  apply Jl 3 rfl
  iterate 3 focus (intros;(conv=>lhs;simp only [Jh,Jr,JM,Jt,JH,eq_self,reduceEqDiff,reduceIte,reduceSub,reduceAdd,JxA,JxB]);all_goals rfl)
  ·
   intro gh X K zq zc zq2 zc2 zb zv hK;refine Jg (Jc rfl) rfl (Ji ?_);exact hK zq zc zq2 zc2 zb zv
  ·
   intro gh gh' h
   rfl
  apply JZ 4 rfl
  iterate 3 focus (intros;(conv=>lhs;simp only [Jh,Jr,JM,Jt,JH,eq_self,reduceEqDiff,reduceIte,reduceSub,reduceAdd,JxA,JxB]);all_goals rfl)
  ·
   intro gh X K zq zc zq2 zc2 zb zv hK;refine Jy fn68 rfl rfl fun w hH=>(l01Monomials_c had hd h8 (by omega) hH).mono ?_;rintro _ w ⟨qo29,co29,rfl,hH⟩;refine ⟨_,rfl,fun a hF=>JR hF hH ?_⟩;refine Ji ?_;exact hK qo29 co29 zq2 zc2 zb zv
  ·
   intro gh gh' h;refine ⟨?_,?_⟩ <;> rfl
  apply Jl 5 rfl
  iterate 3 focus (intros;(conv=>lhs;simp only [Jh,Jr,JM,Jt,JH,eq_self,reduceEqDiff,reduceIte,reduceSub,reduceAdd,JxA,JxB]);all_goals rfl)
  ·
   intro gh X K zq zc zq2 zc2 zb zv hK;refine Jg (JA rfl At.z (by simpa [*] using ag36)) rfl (Ji ?_);exact hK zq zc zq2 zc2 zb zv
  ·
   intro gh gh' h
   rfl
  apply Jl 6 rfl
  iterate 3 focus (intros;(conv=>lhs;simp only [Jh,Jr,JM,Jt,JH,eq_self,reduceEqDiff,reduceIte,reduceSub,reduceAdd,JxA,JxB]);all_goals rfl)
  ·
   intro gh X K zq zc zq2 zc2 zb zv hK;refine Jg (Jc rfl) rfl (Ji ?_);exact hK zq zc zq2 zc2 zb zv
  ·
   intro gh gh' h
   rfl
  apply JZ 7 rfl
  iterate 3 focus (intros;(conv=>lhs;simp only [Jh,Jr,JM,Jt,JH,eq_self,reduceEqDiff,reduceIte,reduceSub,reduceAdd,JxA,JxB]);all_goals rfl)
  ·
   intro gh X K zq zc zq2 zc2 zb zv hK;refine Jy fn69 rfl rfl fun w hH=>(l03Bounds_m had haf hG (by omega) (fun h=>⟨hfit _ (by omega) (by omega),by rw [Int.sub_add_cancel];exact hfit _ (by omega) (by omega)⟩) hH).mono ?_;rintro _ w ⟨qo32,co32,vso32,rfl,hH⟩;refine ⟨_,rfl,fun a hF=>JR hF hH ?_⟩;refine Ji ?_;exact hK qo32 co32 zq2 zc2 zb vso32
  ·
   intro gh gh' h;refine ⟨?_,?_⟩ <;> (first | simp only [h 3 rfl] | rfl)
  apply JZ 8 rfl
  iterate 3 focus (intros;(conv=>lhs;simp only [Jh,Jr,JM,Jt,JH,eq_self,reduceEqDiff,reduceIte,reduceSub,reduceAdd,JxA,JxB]);all_goals rfl)
  ·
   intro gh X K zq zc zq2 zc2 zb zv hK;refine EL (EP u31 sz22) rfl fun qo33 co33=>(Ji ?_);exact hK qo33 co33 zq2 zc2 zb zv
  ·
   intro gh gh' h;refine ⟨?_,?_⟩ <;> rfl
  apply Jl 9 rfl
  iterate 3 focus (intros;(conv=>lhs;simp only [Jh,Jr,JM,Jt,JH,eq_self,reduceEqDiff,reduceIte,reduceSub,reduceAdd,JxA,JxB]);all_goals rfl)
  ·
   intro gh X K zq zc zq2 zc2 zb zv hK;refine Jg (Jd rfl) rfl (Ji ?_);exact hK zq zc zq2 zc2 zb zv
  ·
   intro gh gh' h
   first | simp only [h 3 rfl,h 6 rfl] | rfl
  apply Jl 10 rfl
  iterate 3 focus (intros;(conv=>lhs;simp only [Jh,Jr,JM,Jt,JH,eq_self,reduceEqDiff,reduceIte,reduceSub,reduceAdd,JxA,JxB]);all_goals rfl)
  ·
   intro gh X K zq zc zq2 zc2 zb zv hK;refine Jg (Jd rfl) rfl (Ji ?_);exact hK zq zc zq2 zc2 zb zv
  ·
   intro gh gh' h
   first | simp only [h 3 rfl,h 6 rfl] | rfl
  apply Jl 11 rfl
  iterate 3 focus (intros;(conv=>lhs;simp only [Jh,Jr,JM,Jt,JH,eq_self,reduceEqDiff,reduceIte,reduceSub,reduceAdd,JxA,JxB]);all_goals rfl)
  ·
   intro gh X K zq zc zq2 zc2 zb zv hK;refine Jg (Jd rfl) rfl (Ji ?_);exact hK zq zc zq2 zc2 zb zv
  ·
   intro gh gh' h
   first | simp only [h 3 rfl,h 6 rfl,h 7 rfl] | rfl
  apply Ei [0,1,2,3,4,5,6,7,8,9,10] [0,1,2,3,4,5,6,7,8,9,10,11,12,13,14,15] foll0 rfl rfl rfl (by rfl)
  iterate 2 focus (intros;(conv=>lhs;simp only [Jh,Jr,JM,Jt,JH,eq_self,reduceEqDiff,reduceIte,reduceSub,reduceAdd,JxA,JxB]);all_goals rfl)
  intro gh;generalize (gh 3).c=co29;generalize (gh 3).q=qo29;generalize (gh 6).c=co32;generalize (gh 6).q=qo32;generalize (gh 6).vs=vso32;generalize (gh 7).c=co33;generalize (gh 7).q=qo33;clear gh;have hnil:=SlF.nil Hn;refine EF .z fun Ho29 hleo29 hAo29=>?_;replace had:=had.le hleo29;replace haf:=haf.le hleo29;replace hs:=hs.le hleo29;replace hcl:=hcl.le hleo29;replace hS:=hS.le hleo29;replace hnil:=hnil.le hleo29;have hxo29:=own_monos (monT_8 h8) hAo29;have hco29:=own_le hAo29;refine EF .z fun Ho32 hleo32 hAo32=>?_;replace had:=had.le hleo32;replace haf:=haf.le hleo32;replace hs:=hs.le hleo32;replace hcl:=hcl.le hleo32;replace hS:=hS.le hleo32;replace hnil:=hnil.le hleo32;replace hxo29:=hxo29.le hleo32;obtain ⟨hxo32,hco32⟩:=mlt_rows (hleo29.trans hleo32) hAo32;rw [hmTn] at hxo29;rw [hmTn];refine EF .z fun Ho33 hleo33 hAo33=>?_;replace had:=had.le hleo33;replace haf:=haf.le hleo33;replace hs:=hs.le hleo33;replace hcl:=hcl.le hleo33;replace hS:=hS.le hleo33;replace hnil:=hnil.le hleo33;replace hxo29:=hxo29.le hleo33;replace hxo32:=hxo32.le hleo33;have hxo33:=hnil.rows (Le.refl _) hAo33;have hco33:=own_le hAo33;refine Ja (hK8 (Je fun _ hK9 _=>(Je fun _ hK10 _=>(Jb (Jg (Jd rfl) rfl (Jf (Ja (hK10 (Jk (JC (σ:=HP × Option Addr × Nat × Nat) (fun ⟨Hk,q1,c1,kk⟩=>[(16,.int .i64 ((kk+1:Nat):Int)),(15,.slice q1 (redS (mvN ad af s n kk)).length c1)]) (fun ⟨Hk,q1,c1,kk⟩=>Hk) (fun ⟨Hk,q1,c1,kk⟩=>obj g10 (.cells [.slice q n c].toArray 77 (0,0))::own 31 1 q n c vals::obj g8 (.cells [.slice none 0 0].toArray 77 (0,0))::obj g6 (.cells [.slice qs s.length cs].toArray 77 (0,0))::obj g4 (.cells [.slice qad ad.length cad,.slice qaf af.length caf].toArray 36 (0,0))::L) (fun ⟨Hk,q1,c1,kk⟩=>Le Ho33 Hk∧RowsR Hk q1 (redS (mvN ad af s n kk))∧(redS (mvN ad af s n kk)).length≤c1∧kk≤n) (fun ⟨Hk,q1,c1,kk⟩=>n - kk) (Ho33,qo33,co33,0) ⟨Le.refl _,hxo33,hco33,by omega⟩ ⟨rfl,⟨rfl,trivial⟩⟩ rfl rfl ?_))))))))));rintro ⟨Hk,q1,c1,kk⟩ ⟨hlk,hS1,hc1,hkk⟩ _ hAg1;replace had:=had.le hlk;replace haf:=haf.le hlk;replace hs:=hs.le hlk;replace hcl:=hcl.le hlk;replace hS:=hS.le hlk;replace hnil:=hnil.le hlk;replace hxo29:=hxo29.le hlk;replace hxo32:=hxo32.le hlk;replace hxo33:=hxo33.le hlk;refine Je fun _ hK11 _=>(Je fun _ hK12 _=>(Jb (Jg (Jc rfl) rfl (Jg (Jc rfl) rfl (Jg (ET rfl rfl) rfl (Jf (Ja (hK12 (Jo rfl (fun h36=>?_) (fun h36=>?_))))))))))
  ·
   have hk1:kk+1≤n:=by omega
   have hnk:(n:Int) - ((kk+1:Nat):Int)=((n - (kk+1)):Nat):=by omega
   have hmTk:=hmT ((n:Int) - ((kk+1:Nat):Int)) (by omega) (by omega);have hmlk:=monL_len ad ((n:Int) - ((kk+1:Nat):Int));have hRk:=hsN (n - (kk+1)) (by omega);rw [← hnk] at hRk;have hrc:=hRk.count;have hcsR:=csS_red (n:=((kk+1:Nat):Int)) hA h8 hd;have hcsl:=csS_len (n:=((kk+1:Nat):Int)) hA h8 hd;refine Jm (Ja (hK11 (Je fun _ hK13 _=>(Jk (Je fun _ hK14 _=>(Ej (Rs:=[_,_,_,_,_]) 15 [[], [0], [], [], [2,3], [0,1,2,3,4], [0,1,2,3,4,5], [], [7], [], [], [9,10], [7,8,9,10,11], [0,1,2,3,4,5,6,7,8,9,10,11,12], [0,1,2,3,4,5,6,7,8,9,10,11,12,13]] [[], [18], [], [], [], [], [], [], [19], [], [], [], [], [12], []] [[], [], [], [], [], [], [], [], [], [], [], [], [], [], []] rfl rfl (by kernel_rfl) ?_))))));apply Jl 1 rfl
   iterate 3 focus (intros;(conv=>lhs;simp only [Jh,Jr,JM,Jt,JH,eq_self,reduceEqDiff,reduceIte,reduceSub,reduceAdd,JxA,JxB]);all_goals rfl)
   ·
    intro gh X K zq zc zq2 zc2 zb zv hK;refine Jg (Js u77 rfl sz75 rfl) rfl (Ji ?_);exact hK zq zc zq2 zc2 zb zv
   ·
    intro gh gh' h
    rfl
   apply Jl 2 rfl
   iterate 3 focus (intros;(conv=>lhs;simp only [Jh,Jr,JM,Jt,JH,eq_self,reduceEqDiff,reduceIte,reduceSub,reduceAdd,JxA,JxB]);all_goals rfl)
   ·
    intro gh X K zq zc zq2 zc2 zb zv hK;refine Jg (Jv rfl At.z rfl pl75) rfl (Ji ?_);exact hK zq zc zq2 zc2 zb zv
   ·
    intro gh gh' h
    rfl
   apply Jl 3 rfl
   iterate 3 focus (intros;(conv=>lhs;simp only [Jh,Jr,JM,Jt,JH,eq_self,reduceEqDiff,reduceIte,reduceSub,reduceAdd,JxA,JxB]);all_goals rfl)
   ·
    intro gh X K zq zc zq2 zc2 zb zv hK;refine Jg (Jc rfl) rfl (Ji ?_);exact hK zq zc zq2 zc2 zb zv
   ·
    intro gh gh' h
    rfl
   apply Jl 4 rfl
   iterate 3 focus (intros;(conv=>lhs;simp only [Jh,Jr,JM,Jt,JH,eq_self,reduceEqDiff,reduceIte,reduceSub,reduceAdd,JxA,JxB]);all_goals rfl)
   ·
    intro gh X K zq zc zq2 zc2 zb zv hK;refine Jg (Jc rfl) rfl (Ji ?_);exact hK zq zc zq2 zc2 zb zv
   ·
    intro gh gh' h
    rfl
   apply Jl 5 rfl
   iterate 3 focus (intros;(conv=>lhs;simp only [Jh,Jr,JM,Jt,JH,eq_self,reduceEqDiff,reduceIte,reduceSub,reduceAdd,JxA,JxB]);all_goals rfl)
   ·
    intro gh X K zq zc zq2 zc2 zb zv hK;refine Jg (EQ rfl rfl (by first | exact nw _ (by omega) | rfl)) rfl (Ji ?_);exact hK zq zc zq2 zc2 zb zv
   ·
    intro gh gh' h
    rfl
   apply Jl 6 rfl
   iterate 3 focus (intros;(conv=>lhs;simp only [Jh,Jr,JM,Jt,JH,eq_self,reduceEqDiff,reduceIte,reduceSub,reduceAdd,JxA,JxB]);all_goals rfl)
   ·
    intro gh X K zq zc zq2 zc2 zb zv hK;refine Jg (JQ (i':=(n - (kk+1))) u75 sz31 rfl rfl (by omega) (by omega) hs.sm) rfl (Ji ?_);exact hK zq zc zq2 zc2 zb zv
   ·
    intro gh gh' h
    rfl
   obtain ⟨qe45,ce45,he45,le45,Fe45⟩:=hs (n - (kk+1)) (by omega);apply Jl 7 rfl
   iterate 3 focus (intros;(conv=>lhs;simp only [Jh,Jr,JM,Jt,JH,eq_self,reduceEqDiff,reduceIte,reduceSub,reduceAdd,JxA,JxB]);all_goals rfl)
   ·
    intro gh X K zq zc zq2 zc2 zb zv hK;refine Jg (JF rfl he45 pl31) rfl (Ji ?_);exact hK zq zc zq2 zc2 zb zv
   ·
    intro gh gh' h
    rfl
   apply Jl 8 rfl
   iterate 3 focus (intros;(conv=>lhs;simp only [Jh,Jr,JM,Jt,JH,eq_self,reduceEqDiff,reduceIte,reduceSub,reduceAdd,JxA,JxB]);all_goals rfl)
   ·
    intro gh X K zq zc zq2 zc2 zb zv hK;refine Jg (Js u36 rfl sz22 rfl) rfl (Ji ?_);exact hK zq zc zq2 zc2 zb zv
   ·
    intro gh gh' h
    rfl
   apply Jl 9 rfl
   iterate 3 focus (intros;(conv=>lhs;simp only [Jh,Jr,JM,Jt,JH,eq_self,reduceEqDiff,reduceIte,reduceSub,reduceAdd,JxA,JxB]);all_goals rfl)
   ·
    intro gh X K zq zc zq2 zc2 zb zv hK;refine Jg (Jv rfl At.z rfl pl22) rfl (Ji ?_);exact hK zq zc zq2 zc2 zb zv
   ·
    intro gh gh' h
    rfl
   apply Jl 10 rfl
   iterate 3 focus (intros;(conv=>lhs;simp only [Jh,Jr,JM,Jt,JH,eq_self,reduceEqDiff,reduceIte,reduceSub,reduceAdd,JxA,JxB]);all_goals rfl)
   ·
    intro gh X K zq zc zq2 zc2 zb zv hK;refine Jg (Jc rfl) rfl (Ji ?_);exact hK zq zc zq2 zc2 zb zv
   ·
    intro gh gh' h
    rfl
   apply Jl 11 rfl
   iterate 3 focus (intros;(conv=>lhs;simp only [Jh,Jr,JM,Jt,JH,eq_self,reduceEqDiff,reduceIte,reduceSub,reduceAdd,JxA,JxB]);all_goals rfl)
   ·
    intro gh X K zq zc zq2 zc2 zb zv hK;refine Jg (Jc rfl) rfl (Ji ?_);exact hK zq zc zq2 zc2 zb zv
   ·
    intro gh gh' h
    rfl
   apply Jl 12 rfl
   iterate 3 focus (intros;(conv=>lhs;simp only [Jh,Jr,JM,Jt,JH,eq_self,reduceEqDiff,reduceIte,reduceSub,reduceAdd,JxA,JxB]);all_goals rfl)
   ·
    intro gh X K zq zc zq2 zc2 zb zv hK;refine Jg (EQ rfl rfl (by first | exact nw _ (by omega) | rfl)) rfl (Ji ?_);exact hK zq zc zq2 zc2 zb zv
   ·
    intro gh gh' h
    rfl
   apply JZ 13 rfl
   iterate 3 focus (intros;(conv=>lhs;simp only [Jh,Jr,JM,Jt,JH,eq_self,reduceEqDiff,reduceIte,reduceSub,reduceAdd,JxA,JxB]);all_goals rfl)
   ·
    intro gh X K zq zc zq2 zc2 zb zv hK;refine Jy fn68 rfl rfl fun w hH=>(l01Monomials_c had hd h8 (by omega) hH).mono ?_;rintro _ w ⟨qo51,co51,rfl,hH⟩;refine ⟨_,rfl,fun a hF=>JR hF hH ?_⟩;refine Ji ?_;exact hK qo51 co51 zq2 zc2 zb zv
   ·
    intro gh gh' h;refine ⟨?_,?_⟩ <;> rfl
   apply JZ 14 rfl
   iterate 3 focus (intros;(conv=>lhs;simp only [Jh,Jr,JM,Jt,JH,eq_self,reduceEqDiff,reduceIte,reduceSub,reduceAdd,JxA,JxB]);all_goals rfl)
   ·
    intro gh X K zq zc zq2 zc2 zb zv hK;refine Jy fn66 rfl rfl fun w hH=>hH.lend .z fun Hl1 hle1 hA1 hB1 hH=>(l03Forms_c (W:=0) (Fe45.le hle1) (own_monos (monT_8 h8) hA1) (by rw [hmTk];exact hRk.row) (by omega) (by rw [hmTk];omega) (by rw [hmTk];exact monL_mn h8) hH).mono ?_;rintro _ w ⟨qo52,co52,vso52,rfl,hH⟩;replace hH:=hB1 _ _ hH;refine ⟨_,rfl,fun a hF=>JR hF hH ?_⟩;refine Jw .z (Jw (.s .z) (Ji ?_));exact hK qo52 co52 zq2 zc2 zb vso52
   ·
    intro gh gh' h;refine ⟨?_,?_⟩ <;> (first | simp only [h 12 rfl] | rfl)
   apply Jl 15 rfl
   iterate 3 focus (intros;(conv=>lhs;simp only [Jh,Jr,JM,Jt,JH,eq_self,reduceEqDiff,reduceIte,reduceSub,reduceAdd,JxA,JxB]);all_goals rfl)
   ·
    intro gh X K zq zc zq2 zc2 zb zv hK;refine Jg (Jd rfl) rfl (Ji ?_);exact hK zq zc zq2 zc2 zb zv
   ·
    intro gh gh' h
    first | simp only [h 12 rfl,h 13 rfl] | rfl
   apply Ei [0,1,2,3,4,5,6,7,8,9,10,11,12,13,14] [0,1,2,3,4,5,6,7,8,9,10,11,12,13,14,15,16,17,18,19] foll0 rfl rfl rfl (by rfl)
   iterate 2 focus (intros;(conv=>lhs;simp only [Jh,Jr,JM,Jt,JH,eq_self,reduceEqDiff,reduceIte,reduceSub,reduceAdd,JxA,JxB]);all_goals rfl)
   intro gh;generalize (gh 12).c=co51;generalize (gh 12).q=qo51;generalize (gh 13).c=co52;generalize (gh 13).q=qo52;generalize (gh 13).vs=vso52;clear gh;refine EF .z fun Ho51 hleo51 hAo51=>?_;replace had:=had.le hleo51;replace haf:=haf.le hleo51;replace hs:=hs.le hleo51;replace hcl:=hcl.le hleo51;replace hS:=hS.le hleo51;replace hnil:=hnil.le hleo51;replace hxo29:=hxo29.le hleo51;replace hxo32:=hxo32.le hleo51;replace hxo33:=hxo33.le hleo51;replace hS1:=hS1.le hleo51;replace Fe45:=Fe45.le hleo51;have hxo51:=own_monos (monT_8 h8) hAo51;have hco51:=own_le hAo51;refine EF .z fun Ho52 hleo52 hAo52=>?_;replace had:=had.le hleo52;replace haf:=haf.le hleo52;replace hs:=hs.le hleo52;replace hcl:=hcl.le hleo52;replace hS:=hS.le hleo52;replace hnil:=hnil.le hleo52;replace hxo29:=hxo29.le hleo52;replace hxo32:=hxo32.le hleo52;replace hxo33:=hxo33.le hleo52;replace hS1:=hS1.le hleo52;replace Fe45:=Fe45.le hleo52;replace hxo51:=hxo51.le hleo52;have hxo52:=(own_forms (by rw [hmTk];exact fmR_wf (monL_mn h8) hRk.row) hAo52);have hco52:=own_le hAo52.1;rw [hmTk] at hxo52;rw [hmTk];refine Ja (hK14 (Je fun _ hK15 _=>(Jb (Jg (Jd rfl) rfl (Jf (Ja (hK15 (Jk (JC (σ:=HP × Option Addr × Nat × Nat) (fun ⟨H2,q2,c2,i⟩=>[(18,.int .i64 (i:Int)),(15,.slice q2 (redS (mvN ad af s n kk++mvI ad af s n (kk+1) i)).length c2)]) (fun ⟨H2,q2,c2,i⟩=>H2) (fun ⟨H2,q2,c2,i⟩=>obj g10 (.cells [.slice q n c].toArray 77 (0,0))::own 31 1 q n c vals::obj g8 (.cells [.slice none 0 0].toArray 77 (0,0))::obj g6 (.cells [.slice qs s.length cs].toArray 77 (0,0))::obj g4 (.cells [.slice qad ad.length cad,.slice qaf af.length caf].toArray 36 (0,0))::L) (fun ⟨H2,q2,c2,i⟩=>Le Ho52 H2∧RowsR H2 q2 (redS (mvN ad af s n kk++mvI ad af s n (kk+1) i))∧(redS (mvN ad af s n kk++mvI ad af s n (kk+1) i)).length≤c2∧i≤(r3_ s (n - (kk+1))).length) (fun ⟨H2,q2,c2,i⟩=>(r3_ s (n - (kk+1))).length - i) (Ho52,q1,c1,0) ⟨Le.refl _,by rw [mvI_zero,List.append_nil];exact hS1,by rw [mvI_zero,List.append_nil];exact hc1,by omega⟩ ⟨rfl,⟨(congrArg (fun X=>some (Value.slice q1 (redS X).length c1)) (show mvN ad af s n kk=mvN ad af s n kk++mvI ad af s n (kk+1) 0 by rw [mvI_zero,List.append_nil])),trivial⟩⟩ rfl rfl ?_)))))))));rintro ⟨H2,q2,c2,i⟩ ⟨hl2,hS2,hc2,hi⟩ _ hAg2;replace had:=had.le hl2;replace haf:=haf.le hl2;replace hs:=hs.le hl2;replace hcl:=hcl.le hl2;replace hS:=hS.le hl2;replace hnil:=hnil.le hl2;replace hxo29:=hxo29.le hl2;replace hxo32:=hxo32.le hl2;replace hxo33:=hxo33.le hl2;replace hS1:=hS1.le hl2;replace Fe45:=Fe45.le hl2;replace hxo51:=hxo51.le hl2;replace hxo52:=hxo52.le hl2;refine Je fun _ hK16 _=>(Je fun _ hK17 _=>(Jb (Jg (Jc rfl) rfl (Jg (Jc rfl) rfl (Jg (Jn u34 rfl rfl) rfl (Jg (JO rfl rfl) rfl (Jf (Ja (hK17 (Jo rfl (fun h56=>?_) (fun h56=>?_)))))))))))
   ·
    rw [fmR_len] at h56
    have hi1:i<(r3_ s (n - (kk+1))).length:=by omega
    have hru:=hRk.row _ (rw_mem hi1);have hc9:=clsL_at (ds:=ad) (fs:=af) (m:=m.toNat+1) (k:=kk+1) (by omega);refine Jm (Ja (hK16 (Je fun _ hK18 _=>(Jk (Je fun _ hK19 _=>(Jb (Jg (Jd rfl) rfl (Jf (Ja (hK19 (Jk (JC (σ:=HP × Option Addr × Nat × Nat) (fun ⟨H3,q3,c3,j⟩=>[(19,.int .i64 (j:Int)),(15,.slice q3 (redS (mvN ad af s n kk++mvI ad af s n (kk+1) i++mvJ ad af n (kk+1) (rw_ (r3_ s (n - (kk+1))) i) j)).length c3)]) (fun ⟨H3,q3,c3,j⟩=>H3) (fun ⟨H3,q3,c3,j⟩=>obj g10 (.cells [.slice q n c].toArray 77 (0,0))::own 31 1 q n c vals::obj g8 (.cells [.slice none 0 0].toArray 77 (0,0))::obj g6 (.cells [.slice qs s.length cs].toArray 77 (0,0))::obj g4 (.cells [.slice qad ad.length cad,.slice qaf af.length caf].toArray 36 (0,0))::L) (fun ⟨H3,q3,c3,j⟩=>Le H2 H3∧RowsR H3 q3 (redS (mvN ad af s n kk++mvI ad af s n (kk+1) i++mvJ ad af n (kk+1) (rw_ (r3_ s (n - (kk+1))) i) j))∧(redS (mvN ad af s n kk++mvI ad af s n (kk+1) i++mvJ ad af n (kk+1) (rw_ (r3_ s (n - (kk+1))) i) j)).length≤c3∧j≤(csS ad af ((kk+1:Nat):Int)).length) (fun ⟨H3,q3,c3,j⟩=>(csS ad af ((kk+1:Nat):Int)).length - j) (H2,q2,c2,0) ⟨Le.refl _,by rw [mvJ_zero,List.append_nil];exact hS2,by rw [mvJ_zero,List.append_nil];exact hc2,by omega⟩ ⟨rfl,⟨(congrArg (fun X=>some (Value.slice q2 (redS X).length c2)) (show mvN ad af s n kk++mvI ad af s n (kk+1) i=mvN ad af s n kk++mvI ad af s n (kk+1) i++mvJ ad af n (kk+1) (rw_ (r3_ s (n - (kk+1))) i) 0 by rw [mvJ_zero,List.append_nil])),trivial⟩⟩ rfl rfl ?_))))))))))));rintro ⟨H3,q3,c3,j⟩ ⟨hl3,hS3,hc3,hj⟩ _ hAg3;replace had:=had.le hl3;replace haf:=haf.le hl3;replace hs:=hs.le hl3;replace hcl:=hcl.le hl3;replace hS:=hS.le hl3;replace hnil:=hnil.le hl3;replace hxo29:=hxo29.le hl3;replace hxo32:=hxo32.le hl3;replace hxo33:=hxo33.le hl3;replace hS1:=hS1.le hl3;replace Fe45:=Fe45.le hl3;replace hxo51:=hxo51.le hl3;replace hxo52:=hxo52.le hl3;replace hS2:=hS2.le hl3;refine Je fun _ hK20 _=>(Je fun _ hK21 _=>(Jb (Jg (Jc rfl) rfl (Jg (Jc rfl) rfl (Jg (Jc rfl) rfl (Jg (JQ (i':=(kk+1)) u74 sz34 rfl rfl rfl (by rw [hce,clsL_len];omega) hcl.sm) rfl ?_))))));obtain ⟨qe63,ce63,he63,le63,Fe63⟩:=hcl (kk+1) (by rw [hce,clsL_len];omega);refine Jg (JF rfl he63 pl34) rfl (Jg (Jn u34 rfl rfl) rfl (Jg (JO rfl rfl) rfl (Jf (Ja (hK21 (Jo rfl (fun h65=>?_) (fun h65=>?_)))))))
    ·
     rw [hce,hc9,fmR_len] at h65
     have hj1:j<(csS ad af ((kk+1:Nat):Int)).length:=by omega
     have hrw:=hcsR.row _ (rw_mem hj1)
     have tf:toS (fm (fmR (monL ad ((n:Int) - ((kk+1:Nat):Int))) (r3_ s (n - (kk+1)))) i)=sumR (monL ad ((n:Int) - ((kk+1:Nat):Int))) (rw_ (r3_ s (n - (kk+1))) i):=by rw [fmR_at hi1];exact fmS_mon h8 hru
     have tg:toS (fm (f2_ cl (kk+1)) j)=sumR (monL ad ((kk+1:Nat):Int)) (rw_ (csS ad af ((kk+1:Nat):Int)) j):=by rw [hce,hc9,fmR_at hj1];exact fmS_mon h8 hrw
     have s1:=sumR_mon (n:=(n:Int) - ((kk+1:Nat):Int)) h8 (row:=(rw_ (r3_ s (n - (kk+1))) i)) (Nat.le_of_eq hru.len);have s2:=sumR_mon (n:=((kk+1:Nat):Int)) h8 (row:=(rw_ (csS ad af ((kk+1:Nat):Int)) j)) (Nat.le_of_eq hrw.len)
     have hlf:(fm (fmR (monL ad ((n:Int) - ((kk+1:Nat):Int))) (r3_ s (n - (kk+1)))) i).length≤121:=by rw [fmR_at hi1];exact Nat.le_trans (fmS_len _ _) (by omega)
     have hlg:(fm (f2_ cl (kk+1)) j).length≤121:=by rw [hce,hc9,fmR_at hj1];exact Nat.le_trans (fmS_len _ _) (monL_len _ _)
     have hlm0:(fm (fmR (monL ad ((n:Int) - ((kk+1:Nat):Int))) (r3_ s (n - (kk+1)))) i).length * (fm (f2_ cl (kk+1)) j).length≤121 * 121:=Nat.mul_le_mul hlf hlg
     have hlm:(fm (fmR (monL ad ((n:Int) - ((kk+1:Nat):Int))) (r3_ s (n - (kk+1)))) i).length * (fm (f2_ cl (kk+1)) j).length≤1000000000000:=by omega
     have htl:=times_len ad (toS (fm (fmR (monL ad ((n:Int) - ((kk+1:Nat):Int))) (r3_ s (n - (kk+1)))) i)) (toS (fm (f2_ cl (kk+1)) j));rw [toS_len,toS_len] at htl;have htm:=times_mon h8 hd s1 s2 (sumR_key (Nat.le_of_eq hru.len)) (sumR_key (Nat.le_of_eq hrw.len)) (by rw [Int.sub_add_cancel];exact hfit _ (by omega) (by omega)) (by omega);rw [Int.sub_add_cancel] at htm
     have hvec:vec (ofS (timesS ad (toS (fm (fmR (monL ad ((n:Int) - ((kk+1:Nat):Int))) (r3_ s (n - (kk+1)))) i)) (toS (fm (f2_ cl (kk+1)) j)))) (monL ad (n:Int))=rowP ad (n:Int) (sumR (monL ad ((n:Int) - ((kk+1:Nat):Int))) (rw_ (r3_ s (n - (kk+1))) i)) (sumR (monL ad ((kk+1:Nat):Int)) (rw_ (csS ad af ((kk+1:Nat):Int)) j)):=by rw [tf,tg,vec_mon h8 (by rw [toS_ofS];exact s1.times s2) (by rw [toS_ofS];exact htm),toS_ofS];rfl
     have hpv:pvS ad af ((n:Int) - ((kk+1:Nat):Int)) ((kk+1:Nat):Int) (rw_ (csS ad af ((kk+1:Nat):Int)) j) (rw_ (r3_ s (n - (kk+1))) i)=byS (vec (ofS (timesS ad (toS (fm (fmR (monL ad ((n:Int) - ((kk+1:Nat):Int))) (r3_ s (n - (kk+1)))) i)) (toS (fm (f2_ cl (kk+1)) j)))) (monL ad (n:Int))) (bdS ad af (n:Int)):=by unfold pvS;rw [Int.sub_add_cancel,hvec]
     have hRd3:=(redS_ok (mvX_ok (i:=i) (j:=j) (fs:=af) hA h8 hd hsN hnm hk1 (rw_mem hi1))).1;refine Jm (Ja (hK20 (Je fun _ hK22 _=>(Jk (Ej (Rs:=[_,_,_,_,_]) 21 [[], [], [1], [], [], [3,4], [3,4,5], [], [], [7,8], [7,8,9], [], [7,8,9,10,11], [7,8,9,10,11,12], [1,2,3,4,5,6,7,8,9,10,11,12,13], [], [1,2,3,4,5,6,7,8,9,10,11,12,13,14,15], [], [1,2,3,4,5,6,7,8,9,10,11,12,13,14,15,16,17], [0,1,2,3,4,5,6,7,8,9,10,11,12,13,14,15,16,17,18], [0,1,2,3,4,5,6,7,8,9,10,11,12,13,14,15,16,17,18,19]] [[], [], [25], [], [], [], [], [], [], [], [], [], [], [], [], [], [14], [], [], [], []] [[], [], [], [], [], [], [], [], [], [], [], [], [], [], [], [], [], [], [16], [18], []] rfl rfl (by kernel_rfl) ?_)))));apply Jl 1 rfl
     iterate 3 focus (intros;(conv=>lhs;simp only [Jh,Jr,JM,Jt,JH,eq_self,reduceEqDiff,reduceIte,reduceSub,reduceAdd,JxA,JxB]);all_goals rfl)
     ·
      intro gh X K zq zc zq2 zc2 zb zv hK;refine Jg (Jc rfl) rfl (Ji ?_);exact hK zq zc zq2 zc2 zb zv
     ·
      intro gh gh' h
      rfl
     apply Jl 2 rfl
     iterate 3 focus (intros;(conv=>lhs;simp only [Jh,Jr,JM,Jt,JH,eq_self,reduceEqDiff,reduceIte,reduceSub,reduceAdd,JxA,JxB]);all_goals rfl)
     ·
      intro gh X K zq zc zq2 zc2 zb zv hK;refine Jg (Js u36 rfl sz22 rfl) rfl (Ji ?_);exact hK zq zc zq2 zc2 zb zv
     ·
      intro gh gh' h
      rfl
     apply Jl 3 rfl
     iterate 3 focus (intros;(conv=>lhs;simp only [Jh,Jr,JM,Jt,JH,eq_self,reduceEqDiff,reduceIte,reduceSub,reduceAdd,JxA,JxB]);all_goals rfl)
     ·
      intro gh X K zq zc zq2 zc2 zb zv hK;refine Jg (Jv rfl At.z rfl pl22) rfl (Ji ?_);exact hK zq zc zq2 zc2 zb zv
     ·
      intro gh gh' h
      rfl
     apply Jl 4 rfl
     iterate 3 focus (intros;(conv=>lhs;simp only [Jh,Jr,JM,Jt,JH,eq_self,reduceEqDiff,reduceIte,reduceSub,reduceAdd,JxA,JxB]);all_goals rfl)
     ·
      intro gh X K zq zc zq2 zc2 zb zv hK;refine Jg (Jc rfl) rfl (Ji ?_);exact hK zq zc zq2 zc2 zb zv
     ·
      intro gh gh' h
      rfl
     apply Jl 5 rfl
     iterate 3 focus (intros;(conv=>lhs;simp only [Jh,Jr,JM,Jt,JH,eq_self,reduceEqDiff,reduceIte,reduceSub,reduceAdd,JxA,JxB]);all_goals rfl)
     ·
      intro gh X K zq zc zq2 zc2 zb zv hK;refine Jg (Jc rfl) rfl (Ji ?_);exact hK zq zc zq2 zc2 zb zv
     ·
      intro gh gh' h
      rfl
     apply Jl 6 rfl
     iterate 3 focus (intros;(conv=>lhs;simp only [Jh,Jr,JM,Jt,JH,eq_self,reduceEqDiff,reduceIte,reduceSub,reduceAdd,JxA,JxB]);all_goals rfl)
     ·
      intro gh X K zq zc zq2 zc2 zb zv hK;refine Jg (JQ u34 sz40 rfl rfl rfl (by rw [fmR_len];omega) hxo52.sm) rfl (Ji ?_);exact hK zq zc zq2 zc2 zb zv
     ·
      intro gh gh' h
      rfl
     obtain ⟨qe74,ce74,he74,le74,Fe74⟩:=hxo52 i (by rw [fmR_len];omega);apply Jl 7 rfl
     iterate 3 focus (intros;(conv=>lhs;simp only [Jh,Jr,JM,Jt,JH,eq_self,reduceEqDiff,reduceIte,reduceSub,reduceAdd,JxA,JxB]);all_goals rfl)
     ·
      intro gh X K zq zc zq2 zc2 zb zv hK;refine Jg (JP (cs:=[_]) rfl (one_cell he74) (hxo52.sm (i:=i) (by rw [fmR_len];omega)) ag40) rfl (Ji ?_);exact hK zq zc zq2 zc2 zb zv
     ·
      intro gh gh' h
      rfl
     apply Jl 8 rfl
     iterate 3 focus (intros;(conv=>lhs;simp only [Jh,Jr,JM,Jt,JH,eq_self,reduceEqDiff,reduceIte,reduceSub,reduceAdd,JxA,JxB]);all_goals rfl)
     ·
      intro gh X K zq zc zq2 zc2 zb zv hK;refine Jg (Jc rfl) rfl (Ji ?_);exact hK zq zc zq2 zc2 zb zv
     ·
      intro gh gh' h
      rfl
     apply Jl 9 rfl
     iterate 3 focus (intros;(conv=>lhs;simp only [Jh,Jr,JM,Jt,JH,eq_self,reduceEqDiff,reduceIte,reduceSub,reduceAdd,JxA,JxB]);all_goals rfl)
     ·
      intro gh X K zq zc zq2 zc2 zb zv hK;refine Jg (Jc rfl) rfl (Ji ?_);exact hK zq zc zq2 zc2 zb zv
     ·
      intro gh gh' h
      rfl
     apply Jl 10 rfl
     iterate 3 focus (intros;(conv=>lhs;simp only [Jh,Jr,JM,Jt,JH,eq_self,reduceEqDiff,reduceIte,reduceSub,reduceAdd,JxA,JxB]);all_goals rfl)
     ·
      intro gh X K zq zc zq2 zc2 zb zv hK;refine Jg (JQ (i':=(kk+1)) u74 sz34 rfl rfl rfl (by rw [hce,clsL_len];omega) hcl.sm) rfl (Ji ?_);exact hK zq zc zq2 zc2 zb zv
     ·
      intro gh gh' h
      rfl
     obtain ⟨qe78,ce78,he78,le78,Fe78⟩:=hcl (kk+1) (by rw [hce,clsL_len];omega);apply Jl 11 rfl
     iterate 3 focus (intros;(conv=>lhs;simp only [Jh,Jr,JM,Jt,JH,eq_self,reduceEqDiff,reduceIte,reduceSub,reduceAdd,JxA,JxB]);all_goals rfl)
     ·
      intro gh X K zq zc zq2 zc2 zb zv hK;refine Jg (JF rfl he78 pl34) rfl (Ji ?_);exact hK zq zc zq2 zc2 zb zv
     ·
      intro gh gh' h
      rfl
     apply Jl 12 rfl
     iterate 3 focus (intros;(conv=>lhs;simp only [Jh,Jr,JM,Jt,JH,eq_self,reduceEqDiff,reduceIte,reduceSub,reduceAdd,JxA,JxB]);all_goals rfl)
     ·
      intro gh X K zq zc zq2 zc2 zb zv hK;refine Jg (Jc rfl) rfl (Ji ?_);exact hK zq zc zq2 zc2 zb zv
     ·
      intro gh gh' h
      rfl
     apply Jl 13 rfl
     iterate 3 focus (intros;(conv=>lhs;simp only [Jh,Jr,JM,Jt,JH,eq_self,reduceEqDiff,reduceIte,reduceSub,reduceAdd,JxA,JxB]);all_goals rfl)
     ·
      intro gh X K zq zc zq2 zc2 zb zv hK;refine Jg (JQ (i':=j) u34 sz40 rfl rfl rfl (by rw [hce,hc9,fmR_len];omega) Fe78.sm) rfl (Ji ?_);exact hK zq zc zq2 zc2 zb zv
     ·
      intro gh gh' h
      rfl
     obtain ⟨qe81,ce81,he81,le81,Fe81⟩:=Fe78 j (by rw [hce,hc9,fmR_len];omega);apply Jl 14 rfl
     iterate 3 focus (intros;(conv=>lhs;simp only [Jh,Jr,JM,Jt,JH,eq_self,reduceEqDiff,reduceIte,reduceSub,reduceAdd,JxA,JxB]);all_goals rfl)
     ·
      intro gh X K zq zc zq2 zc2 zb zv hK;refine Jg (JP (cs:=[_]) rfl (one_cell he81) (Fe78.sm (i:=j) (by rw [hce,hc9,fmR_len];omega)) ag40) rfl (Ji ?_);exact hK zq zc zq2 zc2 zb zv
     ·
      intro gh gh' h
      rfl
     apply JZ 15 rfl
     iterate 3 focus (intros;(conv=>lhs;simp only [Jh,Jr,JM,Jt,JH,eq_self,reduceEqDiff,reduceIte,reduceSub,reduceAdd,JxA,JxB]);all_goals rfl)
     ·
      intro gh X K zq zc zq2 zc2 zb zv hK;refine Jy fn51 rfl rfl fun w hH=>(l01Times_c (M:=20) (N:=20) had Fe74 Fe81 hA.hn hA.hd (by rw [tf];exact sumR_kex h8 hd (Nat.le_of_eq hru.len)) (by rw [tg];exact sumR_kex h8 hd (Nat.le_of_eq hrw.len)) (by rw [tf];exact s1.g) (by rw [tg];exact s2.g) (by omega) hlm (by omega) hH).mono ?_;rintro _ w ⟨qo82,co82,rfl,hH⟩;refine ⟨_,rfl,fun a hF=>JR hF hH ?_⟩;refine Ji ?_;exact hK qo82 co82 zq2 zc2 zb zv
     ·
      intro gh gh' h;refine ⟨?_,?_⟩ <;> rfl
     apply Jl 16 rfl
     iterate 3 focus (intros;(conv=>lhs;simp only [Jh,Jr,JM,Jt,JH,eq_self,reduceEqDiff,reduceIte,reduceSub,reduceAdd,JxA,JxB]);all_goals rfl)
     ·
      intro gh X K zq zc zq2 zc2 zb zv hK;refine Jg (Jc rfl) rfl (Ji ?_);exact hK zq zc zq2 zc2 zb zv
     ·
      intro gh gh' h
      rfl
     apply JZ 17 rfl
     iterate 3 focus (intros;(conv=>lhs;simp only [Jh,Jr,JM,Jt,JH,eq_self,reduceEqDiff,reduceIte,reduceSub,reduceAdd,JxA,JxB]);all_goals rfl)
     ·
      intro gh X K zq zc zq2 zc2 zb zv hK;refine Jy fn71 rfl rfl fun w hH=>hH.lend .z fun Hl1 hle1 hA1 hB1 hH=>(l03Vector_c (own_terms (by rw [tf,tg];exact (s1.times s2).wf (by omega)) hA1) (hxo29.le hle1) (by omega) (by rw [ofS_len];omega) (monL_mn h8) hH).mono ?_;rintro _ w ⟨qo84,co84,rfl,hH⟩;replace hH:=hB1 _ _ hH;refine ⟨_,rfl,fun a hF=>JR hF hH ?_⟩;refine Jw .z (Jw (.s .z) (Ji ?_));exact hK qo84 co84 zq2 zc2 zb zv
     ·
      intro gh gh' h;refine ⟨?_,?_⟩ <;> (first | simp only [h 14 rfl] | rfl)
     apply Jl 18 rfl
     iterate 3 focus (intros;(conv=>lhs;simp only [Jh,Jr,JM,Jt,JH,eq_self,reduceEqDiff,reduceIte,reduceSub,reduceAdd,JxA,JxB]);all_goals rfl)
     ·
      intro gh X K zq zc zq2 zc2 zb zv hK;refine Jg (Jc rfl) rfl (Ji ?_);exact hK zq zc zq2 zc2 zb zv
     ·
      intro gh gh' h
      rfl
     apply JZ 19 rfl
     iterate 3 focus (intros;(conv=>lhs;simp only [Jh,Jr,JM,Jt,JH,eq_self,reduceEqDiff,reduceIte,reduceSub,reduceAdd,JxA,JxB]);all_goals rfl)
     ·
      intro gh X K zq zc zq2 zc2 zb zv hK;refine Jy fn70 rfl rfl fun w hH=>(Hp.byN hxo32 (by rw [hvec];exact rowP_ok s1 s2) hbdR.led (by omega) (by omega) (hH.front .z)).mono ?_;rintro _ w ⟨qo86,co86,vso86,rfl,hH⟩;refine ⟨_,rfl,fun a hF=>JR hF hH ?_⟩;refine Ji ?_;exact hK qo86 co86 zq2 zc2 zb vso86
     ·
      intro gh gh' h;refine ⟨?_,?_⟩ <;> (first | simp only [h 14 rfl,h 16 rfl] | rfl)
     apply JZ 20 rfl
     iterate 3 focus (intros;(conv=>lhs;simp only [Jh,Jr,JM,Jt,JH,eq_self,reduceEqDiff,reduceIte,reduceSub,reduceAdd,JxA,JxB]);all_goals rfl)
     ·
      intro gh X K zq zc zq2 zc2 zb zv hK;refine Jy fn49 rfl rfl fun w hH=>(Hp.putN hS3 hRd3 (by rw [hvec];exact byS_ok (rowP_ok s1 s2) hbdR.row) (by omega) hc3 (hH.front .z)).mono ?_;rintro _ w ⟨qo87,co87,vso87,rfl,hH⟩;refine ⟨_,rfl,fun a hF=>JR hF hH ?_⟩;refine Ji ?_;exact hK qo87 co87 zq2 zc2 zb vso87
     ·
      intro gh gh' h;refine ⟨?_,?_⟩ <;> (first | simp only [h 14 rfl,h 16 rfl,h 18 rfl] | rfl)
     apply Jl 21 rfl
     iterate 3 focus (intros;(conv=>lhs;simp only [Jh,Jr,JM,Jt,JH,eq_self,reduceEqDiff,reduceIte,reduceSub,reduceAdd,JxA,JxB]);all_goals rfl)
     ·
      intro gh X K zq zc zq2 zc2 zb zv hK;refine Jg (Jd rfl) rfl (Ji ?_);exact hK zq zc zq2 zc2 zb zv
     ·
      intro gh gh' h
      first | simp only [h 14 rfl,h 16 rfl,h 18 rfl,h 19 rfl] | rfl
     apply Ei [0,1,2,3,4,5,6,7,8,9,10,11,12,13,14,15,16,17,18,19,20] [0,1,2,3,4,5,6,7,8,9,10,11,12,13,14,15,17,19,20,21,22,23,24,25] foll0 rfl rfl rfl (by rfl)
     iterate 2 focus (intros;(conv=>lhs;simp only [Jh,Jr,JM,Jt,JH,eq_self,reduceEqDiff,reduceIte,reduceSub,reduceAdd,JxA,JxB]);all_goals rfl)
     intro gh;generalize (gh 14).c=co82;generalize (gh 14).q=qo82;generalize (gh 16).c=co84;generalize (gh 16).q=qo84;generalize (gh 18).c=co86;generalize (gh 18).q=qo86;generalize (gh 18).vs=vso86;generalize (gh 19).c=co87;generalize (gh 19).q=qo87;generalize (gh 19).vs=vso87;clear gh;refine EF (.s .z) fun Ho87 hleo87 hAo87=>?_;replace had:=had.le hleo87;replace haf:=haf.le hleo87;replace hs:=hs.le hleo87;replace hcl:=hcl.le hleo87;replace hS:=hS.le hleo87;replace hnil:=hnil.le hleo87;replace hxo29:=hxo29.le hleo87;replace hxo32:=hxo32.le hleo87;replace hxo33:=hxo33.le hleo87;replace hS1:=hS1.le hleo87;replace Fe45:=Fe45.le hleo87;replace hxo51:=hxo51.le hleo87;replace hxo52:=hxo52.le hleo87;replace hS2:=hS2.le hleo87;replace hS3:=hS3.le hleo87;replace Fe63:=Fe63.le hleo87;replace Fe74:=Fe74.le hleo87;replace Fe78:=Fe78.le hleo87;replace Fe81:=Fe81.le hleo87;obtain ⟨hxo87,hco87⟩:=mlt_rows hleo87 hAo87;refine JD (Ja (hK22 (Jb (Jg (Jc rfl) rfl (Jg (Jz rfl rfl (by first | exact nw _ (by omega) | rfl)) rfl (Jg (Jd rfl) rfl (Jf (Ja (JN .z ?_)))))))));exact hAg3 (Ho87,qo87,co87,j+1) ⟨(hl3.trans hleo87),by rw [mvJ_succ hj1,← List.append_assoc,redS_snoc,hpv];exact hxo87,by rw [mvJ_succ hj1,← List.append_assoc,redS_snoc,hpv];exact hco87,by omega⟩ (by show (csS ad af ((kk+1:Nat):Int)).length - (j+1)<(csS ad af ((kk+1:Nat):Int)).length - j;omega) 33 rfl rfl ⟨rfl,⟨(by rw [mvJ_succ hj1,← List.append_assoc,redS_snoc,hpv];rfl),trivial⟩⟩ rfl rfl
    ·
     rw [hce,hc9,fmR_len] at h65
     have hje:j=(csS ad af ((kk+1:Nat):Int)).length:=by omega
     refine JG (Jj (Jj (JL (JD (Ja (hK18 (Jb (Jg (Jc rfl) rfl (Jg (Jz rfl rfl (by first | exact nw _ (by omega) | rfl)) rfl (Jg (Jd rfl) rfl (Jf (Ja ?_))))))))))));exact hAg2 (H3,q3,c3,i+1) ⟨(hl2.trans hl3),by rw [mvI_succ hi1,← List.append_assoc,← hje];exact hS3,by rw [mvI_succ hi1,← List.append_assoc,← hje];exact hc3,by omega⟩ (by show (r3_ s (n - (kk+1))).length - (i+1)<(r3_ s (n - (kk+1))).length - i;omega) 19 rfl rfl ⟨rfl,⟨(congrArg (fun X=>some (Value.slice q3 (redS X).length c3)) (show mvN ad af s n kk++mvI ad af s n (kk+1) i++mvJ ad af n (kk+1) (rw_ (r3_ s (n - (kk+1))) i) j=mvN ad af s n kk++mvI ad af s n (kk+1) (i+1) by rw [mvI_succ hi1,← List.append_assoc,← hje])),trivial⟩⟩ rfl rfl
   ·
    rw [fmR_len] at h56
    have hie:i=(r3_ s (n - (kk+1))).length:=by omega
    refine JG (Jj (Jj (JL (JD (Ja (hK13 (Jb (Jg (Jc rfl) rfl (Jg (Jz rfl rfl (by first | exact nw _ (by omega) | rfl)) rfl (Jg (Jd rfl) rfl (Jf (Ja ?_))))))))))));exact hAg1 (H2,q2,c2,kk+1) ⟨(((hlk.trans hleo51).trans hleo52).trans hl2),by show RowsR _ _ (redS (mvN ad af s n kk++mvI ad af s n (kk+1) (r3_ s (n - (kk+1))).length));rw [← hie];exact hS2,by show (redS (mvN ad af s n kk++mvI ad af s n (kk+1) (r3_ s (n - (kk+1))).length)).length≤c2;rw [← hie];exact hc2,by omega⟩ (by show n - (kk+1)<n - kk;omega) 30 rfl rfl ⟨rfl,⟨(by show some (Value.slice q2 (redS (mvN ad af s n kk++mvI ad af s n (kk+1) i)).length c2)=some (Value.slice q2 (redS (mvN ad af s n kk++mvI ad af s n (kk+1) (r3_ s (n - (kk+1))).length)).length c2);rw [← hie]),trivial⟩⟩ rfl rfl
  ·
   refine JG (Jj (Jj (JL (Ja (hK9 (Je fun _ hK23 _=>(Jb (Jg (Js u77 rfl sz75 rfl) rfl (Jg (Jv rfl At.z rfl pl75) rfl (Jg (Jc rfl) rfl (EL (EB u75 ze31 sz31 rfl rfl) rfl fun qo91 co91=>(EA u75 ze31 sz31 by31 rfl rfl rfl rfl (by omega) .z (.s .z) (fun _ _=>(.s .z)) rfl fun qo92 co92=>?_))))))))))))
   have hke:kk=n:=by omega
   have hS9:Sl3 _ (vals++[.slice q1 (redS (mvN ad af s n kk)).length c1]) (mvS ad af s n++[redS (mvN ad af s n n)]):=hS.snoc (by have h9:=hS1;rw [hke] at h9;exact h9) (by rw [hke]) hc1;refine Jg (Js u77 rfl sz75 rfl) rfl (Er rfl rfl rfl rfl sz75 (by simp [*]) (.s .z) (Jf (Ja (hK23 (Jb (Jg (Jc rfl) rfl (Jg (Jc rfl) rfl (Ek (jd:=95) rfl (fun hg95=>?_) (fun hg95=>?_)))))))))
   ·
    try have hg95p:=of_decide_eq_true hg95
    refine JW rfl rfl rfl hg95 (JW rfl rfl rfl hg95 (JW rfl rfl rfl hg95 (Jg (Ea rfl hg95 rfl) rfl (Jg (Jd rfl) rfl (Jf (JD (Ja (hK7 (Jb (Jg (Jc rfl) rfl (Jg (Jz rfl rfl (by first | exact nw _ (by omega) | rfl)) rfl (Jg (Jd rfl) rfl (Jf (Ja (JN .z ?_)))))))))))))));exact hAg0 (Hk,qo92,co92,_,n+1) ⟨((((hln.trans hleo29).trans hleo32).trans hleo33).trans hlk),by rw [mvS_succ];exact hS9,by omega⟩ (by show m.toNat+1 - (n+1)<m.toNat+1 - n;omega) 38 rfl rfl ⟨rfl,⟨(congrArg (fun b=>some (Value.bool b)) (any_t hg95)),trivial⟩⟩ rfl rfl
   ·
    try have hg95p:=of_decide_eq_false hg95
    refine JX (Jc rfl) rfl rfl rfl hg95 (JX (Jn u31 rfl rfl) rfl rfl rfl hg95 (JX (EH rfl rfl) rfl rfl rfl hg95 (Jg (JY rfl hg95 rfl) rfl (Jg (Jd rfl) rfl (Jf (JD (Ja (hK7 (Jb (Jg (Jc rfl) rfl (Jg (Jz rfl rfl (by first | exact nw _ (by omega) | rfl)) rfl (Jg (Jd rfl) rfl (Jf (Ja (JN .z ?_)))))))))))))));exact hAg0 (Hk,qo92,co92,_,n+1) ⟨((((hln.trans hleo29).trans hleo32).trans hleo33).trans hlk),by rw [mvS_succ];exact hS9,by omega⟩ (by show m.toNat+1 - (n+1)<m.toNat+1 - n;omega) 38 rfl rfl ⟨rfl,⟨(congrArg (fun b=>some (Value.bool b)) (any_f hg95 _ (by rw [hke]))),trivial⟩⟩ rfl rfl
 ·
  refine JG (Jj (Jj (JL (Ja (hK3 (Je fun _ hK24 _=>(CJ.fixA (.s .z) fun Hz hlez hAz=>?_)))))));replace had:=had.le hlez;replace haf:=haf.le hlez;replace hs:=hs.le hlez;replace hcl:=hcl.le hlez;replace hS:=hS.le hlez;have hxz:=hS.rows3 (Le.refl _) hAz;have hcz:=own_le hAz;refine Jb (Jg (JA rfl At.z (by simpa [*] using ag77)) rfl (Jg (Jc rfl) rfl (JK rfl rfl (by first | exact bytesC_one _ | exact intsC_one _ | exact Term.c_one _ | simp [Value.oneCell']) (by simpa [*] using sz77) (by simp [*]) (.s .z) (Jg (Jd rfl) rfl (Jf (Ja (hK24 (Ju (EC rfl (Res.agg rfl (.s .z) (by simpa [*] using ag77)) (Res.tmp rfl) fun w hH=>?_)))))))));replace hH:=hH.sublist (.cons _ (.cons _ (.cons _ (.cons _ (List.Sublist.refl _)))))
  have hne:n=m.toNat+1:=by omega
  subst hne;exact ⟨_,q,c,(hln.trans hlez),hxz,by rw [mvS_len];exact hcz,by rw [mvS_len],hH⟩
theorem by34:Bytes Tryz.prog 34 24:=by unfold Bytes;kernel_rfl
theorem ze34:Zero Tryz.prog 34 [.slice none 0 0]:=by unfold Zero;kernel_rfl
theorem fn37:Fn Tryz.prog 37:=⟨_,Tryz.func37,by kernel_rfl,rfl⟩
theorem fn38:Fn Tryz.prog 38:=⟨_,Tryz.func38,by kernel_rfl,rfl⟩
theorem fn39:Fn Tryz.prog 39:=⟨_,Tryz.func39,by kernel_rfl,rfl⟩
def lpV (ds:List Int) (fs:List (List Term)) (m:Int):Int:=if allC ds fs m=0 then (lopV ds fs (m.toNat+1):Int) else 0
def bg1 (n:Nat):List (List Int):=if n=0 then [[1]] else []
theorem bgS_succ (n:Nat):bgS (n+1)=bgS n++[bg1 n]:=by
 unfold bgS bg1;rw [List.range_succ,List.map_append]
 rfl
@[simp] theorem bgS_len (n:Nat):(bgS n).length=n:=by simp [bgS]
theorem clsL_succ (ds:List Int) (fs:List (List Term)) (n:Nat):clsL ds fs (n+1)=clsL ds fs n++[fmR (monL ds (n:Int)) (csS ds fs (n:Int))]:=by
 unfold clsL;rw [List.range_succ,List.map_append]
 rfl
theorem bg1_0 {n:Nat} (h:(n:Int)=0):bg1 n=[[1]]:=if_pos (by omega)
theorem bg1_n {n:Nat} (h : ¬(n:Int)=0):bg1 n=[]:=if_neg (by omega)
theorem lpV_n {ds:List Int} {fs:List (List Term)} {m:Int} (h:allC ds fs m≠0):lpV ds fs m=0:=if_neg h
theorem lpV_y {ds:List Int} {fs:List (List Term)} {m:Int} {k:Nat} (h:allC ds fs m=0) (hk:k<m.toNat+1) (h1 : ∀j,j<k→allE (nowK ds fs (m.toNat+1) (j+1))=false) (h2:allE (nowK ds fs (m.toNat+1) (k+1))=true):lpV ds fs m=k:=by
 unfold lpV;rw [if_pos h,lop_hit hk h1 h2]
theorem lop_next {ds:List Int} {fs:List (List Term)} {m k:Nat} (hk:k<m+1) (h:allE (nowK ds fs (m+1) (k+1))=false):k+1<m+1:=by
 refine Classical.byContradiction fun h2=>?_
 obtain rfl:k=m:=by omega
 have h3:=lop_end (ds:=ds) (fs:=fs) (m:=k+1) (by omega);rw [show k+1 - 1+1=k+1 by omega] at h3;rw [h3] at h
 cases h
theorem sLength_c {B:World} {H0 H:HP} {L:List SA} {w:World} {qad qaf:Option Addr} {cad caf:Nat} {ad:List Int} {af:List (List Term)} {m:Int} (had:Ints H qad ad) (haf:Forms H qaf af) (hn8:ad.length≤1048576) (hn9:af.length≤1048576) (hl9 : ∀i,i<af.length→(fm af i).length≤1048576) (hH:Hp B H0 H L w):Calls Tryz.prog 18 [.agg [.slice qad ad.length cad,.slice qaf af.length caf].toArray,.int .i64 m].toArray w fun e w'=>e = .returned (.tuple #[.int .i64 (lpV ad af m),.int .i64 (allC ad af m)])∧Hp B H0 H L w':=by
 refine Jx Tryz.func18 rfl 58 rfl rfl [(0,.agg [.slice qad ad.length cad,.slice qaf af.length caf].toArray),(1,.int .i64 m)] rfl hH ?_;have hw0:=hH.old;have hw1:=hH.le;clear hH;refine Je fun _ hK1 _=>(Jb (Ee rfl rfl rfl fun g2=>(Jg (Jd rfl) rfl (Jg (Jd rfl) rfl (Jf (Ja (hK1 (Je fun _ hK2 _=>(Je fun _ hK3 _=>(Jb (Jg (JA rfl At.z (by simpa [*] using ag36)) rfl (Jg (Jc rfl) rfl (Jy fn37 rfl rfl fun w hH=>(l03All_c had haf (by omega) (by omega) hl9 hH).mono ?_)))))))))))));rintro _ w ⟨rfl,hH⟩;refine ⟨_,rfl,fun a hF=>JR hF hH ?_⟩;refine Jg (Jd rfl) rfl (Jf (Ja (hK3 (Je fun _ hK4 _=>(Jb (Jg (Jc rfl) rfl (Jg (Em rfl rfl) rfl (Jf (Ja (hK4 (Jo rfl (fun h18=>?_) (fun h18=>?_))))))))))))
 ·
  refine Je fun _ hK5 _=>(Jb (Jg (Jc rfl) rfl (Jg (Jd rfl) rfl (Jg (Jd rfl) rfl (Jf (Ja (hK5 (Ju (Jp (EC rfl (Res.tmp rfl) (Res.tmp rfl) fun w hH=>?_))))))))));replace hH:=hH.sublist (.cons _ (List.Sublist.refl _));rw [lpV_n h18];exact ⟨rfl,hH.weaken (Le.refl _) hw0 hw1⟩
 ·
  have h0:allC ad af m=0:=Decidable.not_not.1 h18;obtain ⟨hG,hm20,hwi⟩:=allC_y h0;have hwf:=haf.wfss;have hw:=hwf;have hA:=isAlg_ok hG hwf;have h8:=hA.hn;have hd:=alg_112 hG;have hfits : ∀t:Int,0≤t→t≤m+1→fitB ad t=true:=fun t h1 h2=>wi_fit hwi (by omega) h2;refine Jm (Ja (hK2 (Je fun _ hK6 _=>(Jb (EL (EP u74 sz34) rfl fun qo20 co20=>(J.own0 31 1 (Jg (Ez bz77) rfl (JU ze77 rfl fun g8=>(Jg (Jd rfl) rfl (JK rfl rfl (by first | exact bytesC_one _ | exact intsC_one _ | exact Term.c_one _ | simp [Value.oneCell']) (by simpa [*] using sz77) (by simp [*]) At.z (Jf (Ja (hK6 (Je fun _ hK7 _=>(Je fun _ hK8 _=>(Jb ?_))))))))))))))));refine Jg (Jd rfl) rfl (Jf (Ja (hK8 (Jk (JC (σ:=HP × Option Addr × Nat × List Value × Option Addr × Nat × List Value × Nat) (fun ⟨Hn,qc,cc,valc,q,c,vals,n⟩=>[(9,.int .i64 (n:Int)),(7,.slice qc n cc)]) (fun ⟨Hn,qc,cc,valc,q,c,vals,n⟩=>Hn) (fun ⟨Hn,qc,cc,valc,q,c,vals,n⟩=>obj g8 (.cells [.slice q n c].toArray 77 (0,0))::own 31 1 q n c vals::own 34 1 qc n cc valc::obj g2 (.cells [.slice qad ad.length cad,.slice qaf af.length caf].toArray 36 (0,0))::L) (fun ⟨Hn,qc,cc,valc,q,c,vals,n⟩=>Le H Hn∧SlF2 Hn valc (clsL ad af n)∧Sl3 Hn vals (bgS n)∧n≤m.toNat+1) (fun ⟨Hn,qc,cc,valc,q,c,vals,n⟩=>m.toNat+1 - n) (H,qo20,co20, [],none,0, [],0) ⟨Le.refl _,SlF2.nil _,Sl3.nil _,by omega⟩ ⟨rfl,⟨rfl,trivial⟩⟩ rfl rfl ?_)))));rintro ⟨Hn,qc,cc,valc,q,c,vals,n⟩ ⟨hln,hT,hS,hn⟩ _ hAg0;replace had:=had.le hln;replace haf:=haf.le hln;refine Je fun _ hK9 _=>(Je fun _ hK10 _=>(Jb (Jg (Jc rfl) rfl (Jg (Jc rfl) rfl (Jg (ET rfl rfl) rfl (Jf (Ja (hK10 (Jo rfl (fun h24=>?_) (fun h24=>?_))))))))))
  ·
   have hfk:fit3 ad (n:Int):=wi_f3 hwi (by omega) (by omega);have hcsR:=csS_red (n:=(n:Int)) hA h8 hd;refine Jm (Ja (hK9 (Je fun _ hK11 _=>(Jk (Je fun _ hK12 _=>(Jb (Jg (Jc rfl) rfl (Jg (JA rfl (.s (.s (.s .z))) (by simpa [*] using ag36)) rfl (Jg (Jc rfl) rfl (Jy fn38 rfl rfl fun w hH=>(l03ClassForms_c had haf hG (by omega) hfk hH).mono ?_))))))))));rintro _ w ⟨qo30,co30,vso30,rfl,hH⟩;refine ⟨_,rfl,fun a hF=>JR hF hH ?_⟩;refine Ew .z fun Ho30 hleo30 hAo30=>?_;replace had:=had.le hleo30;replace haf:=haf.le hleo30;replace hT:=hT.le hleo30;replace hS:=hS.le hleo30;have hxo30:=(own_forms (fmR_wf (monL_mn h8) hcsR.row) hAo30);have hco30:=own_le hAo30.1;refine EL (EB u74 ze34 sz34 rfl rfl) rfl fun qo31 co31=>(EA u74 ze34 sz34 by34 rfl rfl rfl rfl (by omega) .z (.s (.s .z)) (fun _ _=>(.s (.s .z))) rfl fun qo32 co32=>?_);have hT2:=hT.snoc (r:=fmR (monL ad (n:Int)) (csS ad af (n:Int))) hxo30 rfl hco30;refine Jg (Jd rfl) rfl (Jf (Ja (hK12 (Je fun _ hK13 _=>(Jb (EL (EP u31 sz22) rfl fun qo33 co33=>?_))))));have hnil:=SlF.nil Ho30;refine Ew .z fun Ho33 hleo33 hAo33=>?_;replace had:=had.le hleo33;replace haf:=haf.le hleo33;replace hT:=hT.le hleo33;replace hS:=hS.le hleo33;replace hxo30:=hxo30.le hleo33;replace hT2:=hT2.le hleo33;replace hnil:=hnil.le hleo33;have hxo33:=hnil.rows (Le.refl _) hAo33;have hco33:=own_le hAo33;refine Jg (Jd rfl) rfl (Jf (Ja (hK13 (CJ.cutU (σ:=HP × Option Addr × Nat) (fun ⟨Hj,qj,cj⟩=>[(10,.slice qj (bg1 n).length cj)]) (fun ⟨Hj,qj,cj⟩=>Hj) (fun ⟨Hj,qj,cj⟩=>obj g8 (.cells [.slice q n c].toArray 77 (0,0))::own 31 1 q n c vals::own 34 1 qo32 (n+1) co32 (valc++[.slice qo30 (fmR (monL ad (n:Int)) (csS ad af (n:Int))).length co30])::obj g2 (.cells [.slice qad ad.length cad,.slice qaf af.length caf].toArray 36 (0,0))::L) (fun ⟨Hj,qj,cj⟩=>Le Ho33 Hj∧RowsR Hj qj (bg1 n)∧(bg1 n).length≤cj) ?_ ?_))))
   ·
    intro _ hMt1;refine Je fun _ hK14 _=>(Jb (Jg (Jc rfl) rfl (Jg (EI rfl rfl) rfl (Jf (Ja (hK14 (Jo rfl (fun h35=>?_) (fun h35=>?_))))))))
    ·
     refine Jb (EL (MK.lit1I u22 ze2 sz2 rfl) rfl fun qo36 co36=>(Ew .z fun Ho36 hleo36 hAo36=>?_));replace had:=had.le hleo36;replace haf:=haf.le hleo36;replace hT:=hT.le hleo36;replace hS:=hS.le hleo36;replace hxo30:=hxo30.le hleo36;replace hT2:=hT2.le hleo36;replace hnil:=hnil.le hleo36;replace hxo33:=hxo33.le hleo36;have hxo36:=own_ints hAo36;have hco36:=own_le hAo36;refine EL (EB u31 ze22 sz22 rfl rfl) rfl fun qo37 co37=>?_;have hS1:=(SlF.nil Ho36).snoc hxo36 rfl hco36;refine Ew .z fun Ho37 hleo37 hAo37=>?_;replace had:=had.le hleo37;replace haf:=haf.le hleo37;replace hT:=hT.le hleo37;replace hS:=hS.le hleo37;replace hxo30:=hxo30.le hleo37;replace hT2:=hT2.le hleo37;replace hnil:=hnil.le hleo37;replace hxo33:=hxo33.le hleo37;replace hxo36:=hxo36.le hleo37;replace hS1:=hS1.le hleo37;have hxo37:=hS1.rows (Le.refl _) hAo37;have hco37:=own_le hAo37;refine Jg (Jd rfl) rfl (Jf (Ja (JN .z ?_)));exact hMt1 (Ho37,qo37,co37) ⟨(hleo36.trans hleo37),by rw [bg1_0 h35];exact hxo37,by rw [bg1_0 h35];exact hco37⟩ 5 rfl rfl ⟨(by rw [bg1_0 h35];rfl),trivial⟩ rfl rfl
    ·
     refine Jm (Ja (JN .z ?_));exact hMt1 (Ho33,qo33,co33) ⟨(Le.refl _),by rw [bg1_n h35];exact hxo33,by rw [bg1_n h35];exact hco33⟩ 2 rfl rfl ⟨(by rw [bg1_n h35];rfl),trivial⟩ rfl rfl
   ·
    rintro ⟨Hj,qj,cj⟩ ⟨hlj,hJ,hJc⟩;replace had:=had.le hlj;replace haf:=haf.le hlj;replace hT:=hT.le hlj;replace hS:=hS.le hlj;replace hxo30:=hxo30.le hlj;replace hT2:=hT2.le hlj;replace hnil:=hnil.le hlj;replace hxo33:=hxo33.le hlj;refine Jb (Jg (Js u77 rfl sz75 rfl) rfl (Jg (Jv rfl At.z rfl pl75) rfl (Jg (Jc rfl) rfl (EL (EB u75 ze31 sz31 rfl rfl) rfl fun qo41 co41=>(EA u75 ze31 sz31 by31 rfl rfl rfl rfl (by omega) .z (.s .z) (fun _ _=>(.s .z)) rfl fun qo42 co42=>?_)))));have hS9:=hS.snoc (r:=bg1 n) hJ rfl hJc;refine Jg (Js u77 rfl sz75 rfl) rfl (Er rfl rfl rfl rfl sz75 (by simp [*]) (.s .z) (Jf (JD (Ja (hK11 (Jb (Jg (Jc rfl) rfl (Jg (Jz rfl rfl (by first | exact nw _ (by omega) | rfl)) rfl (Jg (Jd rfl) rfl (Jf (Ja (JN .z ?_))))))))))));exact hAg0 (Hj,qo32,co32,_,qo42,co42,_,n+1) ⟨(((hln.trans hleo30).trans hleo33).trans hlj),by rw [clsL_succ];exact hT2,by rw [bgS_succ];exact hS9,by omega⟩ (by show m.toNat+1 - (n+1)<m.toNat+1 - n;omega) 24 rfl rfl ⟨rfl,⟨rfl,trivial⟩⟩ rfl rfl
  ·
   refine JG (Jj (Jj (JL (Ja (hK7 (Je fun _ hK15 _=>?_))))))
   have hne:n=m.toNat+1:=by omega
   subst hne;refine CJ.fixA (.s (.s .z)) fun Ho20 hleo20 hAo20=>?_;replace had:=had.le hleo20;replace haf:=haf.le hleo20;replace hT:=hT.le hleo20;replace hS:=hS.le hleo20;have hxo20:=hT.forms2 (Le.refl _) hAo20;have hco20:=own_le hAo20;refine CJ.fixA (.s .z) fun Hz hlez hAz=>?_;replace had:=had.le hlez;replace haf:=haf.le hlez;replace hT:=hT.le hlez;replace hS:=hS.le hlez;replace hxo20:=hxo20.le hlez;have hxz:=hS.rows3 (Le.refl _) hAz;have hcz:=own_le hAz;refine Jb (Jg (Jd rfl) rfl (Jf (Ja (hK15 (Jk (JC (σ:=HP × Option Addr × Nat × Nat) (fun ⟨Hk,q2,c2,k⟩=>[(11,.int .i64 (k:Int))]) (fun ⟨Hk,q2,c2,k⟩=>Hk) (fun ⟨Hk,q2,c2,k⟩=>obj g8 (.cells [.slice q2 (nowK ad af (m.toNat+1) k).length c2].toArray 77 (0,0))::obj g2 (.cells [.slice qad ad.length cad,.slice qaf af.length caf].toArray 36 (0,0))::L) (fun ⟨Hk,q2,c2,k⟩=>Le Hz Hk∧Rows3 Hk q2 (nowK ad af (m.toNat+1) k)∧k<(m.toNat+1)∧∀j,j<k→allE (nowK ad af (m.toNat+1) (j+1))=false) (fun ⟨Hk,q2,c2,k⟩=>(m.toNat+1) - k) (Hz,q,c,0) ⟨Le.refl _,hxz,by omega,fun j hj=>by omega⟩ ⟨rfl,trivial⟩ rfl (by dsimp only;rw [nowK_len]) ?_))))));rintro ⟨Hk,q2,c2,k⟩ ⟨hlk,hR3,hkM,hlo⟩ _ hAg1;replace had:=had.le hlk;replace haf:=haf.le hlk;replace hT:=hT.le hlk;replace hS:=hS.le hlk;replace hxo20:=hxo20.le hlk;replace hxz:=hxz.le hlk;refine Je fun _ hK16 _=>(Jk (Je fun _ hK17 _=>(Jb (Jg (JA rfl (.s .z) (by simpa [*] using ag36)) rfl (Jg (Jc rfl) rfl (Jg (JA rfl At.z (by simpa [*] using ag77)) rfl (Jg (EK (v':=.slice qc (clsL ad af (m.toNat+1)).length cc) (by rw [clsL_len]) (Jc rfl)) rfl (Jy fn39 rfl rfl fun w hH=>(l03More_c had haf hR3 hxo20 hG (by omega) (nowK_len k) (nowK_ok hA h8 hd k) rfl hfits hH).mono ?_))))))));rintro _ w ⟨Hf51,qf51,cf51,hlf51,hI51,hcc51,rfl,hH⟩;refine ⟨_,rfl,fun a hF=>JR hF hH ?_⟩;replace had:=had.le hlf51;replace haf:=haf.le hlf51;replace hT:=hT.le hlf51;replace hS:=hS.le hlf51;replace hxo20:=hxo20.le hlf51;replace hxz:=hxz.le hlf51;replace hR3:=hR3.le hlf51;refine Jg (Jc rfl) rfl (Jg (JJ rfl rfl) rfl (Jg (JJ rfl rfl) rfl (JU ze77 rfl fun g12=>(JK rfl rfl (by first | exact bytesC_one _ | exact intsC_one _ | exact Term.c_one _ | simp [Value.oneCell']) (by simpa [*] using sz77) (by simp [*]) At.z (Jg (Jd rfl) rfl (Jf (Ja (hK17 (Je fun _ hK18 _=>(Je fun _ hK19 _=>(Jb (Jg (Jc rfl) rfl (Jg (En rfl) rfl (Jf (Ja (hK19 ?_))))))))))))))));refine Eh rfl (fun h55=>?_) (fun h55=>?_)
   ·
    have hend:allE (nowK ad af (m.toNat+1) (k+1))=true:=by have h9:=h55;show allE (mvS ad af (nowK ad af (m.toNat+1) k) (m.toNat+1))=true;simpa using h9
    refine Je fun _ hK20 _=>(Jb (Jg (Jc rfl) rfl (Jg (Jd rfl) rfl (Jg (Jd rfl) rfl (Jf (Ja (hK20 (Ju (Jp (JT (Jp (Jp (JT (EC rfl (Res.tmp rfl) (Res.tmp rfl) fun w hH=>?_))))))))))))));replace hH:=hH.sublist (.cons _ (.cons _ (.cons _ (List.Sublist.refl _))));rw [lpV_y h0 hkM hlo hend,h0];exact ⟨rfl,hH.weaken ((((hln.trans hleo20).trans hlez).trans hlk).trans hlf51) hw0 hw1⟩
   ·
    have hgo:allE (nowK ad af (m.toNat+1) (k+1))=false:=by have h9:=h55;show allE (mvS ad af (nowK ad af (m.toNat+1) k) (m.toNat+1))=false;simpa using h9
    refine Jm (Ja (hK18 (Jb (Jg (JA rfl At.z (by simpa [*] using ag77)) rfl (JK rfl rfl (by first | exact bytesC_one _ | exact intsC_one _ | exact Term.c_one _ | simp [Value.oneCell']) (by simpa [*] using sz77) (by simp [*]) (.s .z) (Jf (JD (Ja (hK16 (Jb (Jg (Jc rfl) rfl (Jg (Jz rfl rfl (by first | exact nw _ (by omega) | rfl)) rfl (Jg (Jd rfl) rfl (Jf (Ja (JN .z ?_))))))))))))))));exact hAg1 (Hf51,qf51,cf51,k+1) ⟨(hlk.trans hlf51),hI51,lop_next hkM hgo,upto hlo hgo⟩ (by show (m.toNat+1) - (k+1)<(m.toNat+1) - k;omega) 17 rfl rfl ⟨rfl,trivial⟩ rfl rfl
theorem fn42:Fn Tryz.prog 42:=⟨_,Tryz.func42,by kernel_rfl,rfl⟩
theorem combine_c {B:World} {H0 H:HP} {L:List SA} {w:World} {bc lc:Nat} {bca:Nat} {qcad qcaf:Option Addr} {ccad ccaf:Nat} {cad:List Int} {caf:List (List Term)} {lsc:List (Int × Lv)} {n:Int} {qrow:Option Addr} {crow:Nat} {row:List Int} (pc0:CellAt H bc 0 (.pointer (some ⟨bca,0,none⟩))) (pc1:CellAt H bc 1 (.map (some lc))) (pcad:CellAt H bca 0 (.slice qcad cad.length ccad)) (pcaf:CellAt H bca 1 (.slice qcaf caf.length ccaf)) (hcad:Ints H qcad cad) (hcaf:Forms H qcaf caf) (hrow:Ints H qrow row) (hGc:isAlg cad caf=true) (hn:0≤n∧n≤39) (hfit:fit3 cad n) (hCc:CpxOk H cad caf (fun _=>False) lsc) (hNc:Nxt (fun _=>False) lsc) (hro:RowOk (csS cad caf n).length row) (hH:Hp B H0 H (cpx lc lsc::L) w):Calls Tryz.prog 44 [.pointer (some ⟨bc,0,none⟩),.int .i64 n,.slice qrow row.length crow].toArray w fun e w'=>∃H' ls' b,Le H H' ∧CpxOk H' cad caf (fun _=>False) ls' ∧Nxt (fun _=>False) ls' ∧e = .returned (.map (some b))∧Hp B H0 H' (osum b (cmbS (monL cad n) (csS cad caf n) row (csS cad caf n).length)::cpx lc ls'::L) w':=by
 refine Jx Tryz.func44 rfl 33 rfl rfl [(0,.pointer (some ⟨bc,0,none⟩)),(1,.int .i64 n),(2,.slice qrow row.length crow)] rfl hH ?_;clear hH;have hwc:=hcaf.wfss;have hAc:=isAlg_ok hGc hwc;have h8c:=hAc.hn;have hdc:=alg_112 hGc;have hml:=monL_len cad n;have hcsR:=csS_red (n:=n) hAc h8c hdc;have hcsl:=csS_len (n:=n) hAc h8c hdc;have hbdR:=bdS_red (n:=n) hAc h8c hdc;have hbdl:=bdS_len (n:=n) hAc h8c hdc;have hclR:=clS_red (n:=n) hAc h8c hdc;have hcll:=clS_len (n:=n) hAc h8c hdc;have hwc2:=hwc;have hrwl:=hro.len;have hlnc : ∀i,i<(csS cad caf n).length→(rw_ (csS cad caf n) i).length=(monL cad n).length:=fun i hi=>(hcsR.row _ (rw_mem hi)).len;refine Je fun _ hK1 _=>(Jb (Jg (Jd rfl) rfl (Jf (Ja (hK1 (Je fun _ hK2 _=>(Jb (EO pwE (Value.int .i64) pwOk rfl fun bm12=>(Jg (Jd rfl) rfl (Jf (Ja (hK2 (Je fun _ hK3 _=>(Je fun _ hK4 _=>(Jb (Jg (Jc rfl) rfl ?_))))))))))))))));refine Jg (Jn u22 rfl rfl) rfl (Jg (Jc rfl) rfl (Jf (Ja (hK4 (Jk (JC (σ:=HP × List (Int × Lv) × Nat) (fun ⟨Hk,lsk,k⟩=>[(15,.int .i64 (k:Int))]) (fun ⟨Hk,lsk,k⟩=>Hk) (fun ⟨Hk,lsk,k⟩=>osum bm12 (cmbS (monL cad n) (csS cad caf n) row k)::cpx lc lsk::L) (fun ⟨Hk,lsk,k⟩=>Le H Hk∧(CpxOk Hk cad caf (fun _=>False) lsk∧Nxt (fun _=>False) lsk)∧k≤(csS cad caf n).length) (fun ⟨Hk,lsk,k⟩=>(csS cad caf n).length - k) (H,lsc,0) ⟨Le.refl _,⟨hCc,hNc⟩,by omega⟩ ⟨rfl,trivial⟩ rfl rfl ?_))))));rintro ⟨Hk,lsk,k⟩ ⟨hlk,⟨hCk,hNk⟩,hk⟩ _ hAg0;replace pc0:=pc0.le hlk;replace pc1:=pc1.le hlk;replace pcad:=pcad.le hlk;replace pcaf:=pcaf.le hlk;replace hcad:=hcad.le hlk;replace hcaf:=hcaf.le hlk;replace hrow:=hrow.le hlk;replace hCc:=hCc.le hlk;refine Je fun _ hK5 _=>(Jb (Jg (JO rfl rfl) rfl (Jf (Ja (hK5 (Je fun _ hK6 _=>(Jo rfl (fun h16=>?_) (fun h16=>?_))))))))
 ·
  have hk1:k<(csS cad caf n).length:=by omega
  obtain ⟨hsk,hskk⟩:=cmb_ok (w:=row) (monL_pok h8c) hlnc k (by omega);obtain ⟨hso24,hk24⟩:=cfM_ok (n:=n) (i:=(k:Int)) hAc h8c hdc (by omega);have hrv:=hro.val k;refine Jm (Ja (hK6 (Je fun _ hK7 _=>(Jk (Je fun _ hK8 _=>(Jb (Jg (Jc rfl) rfl (Jg (JQ u22 sz2 rfl rfl rfl (by omega) hrow.sm) rfl (Jg (JF rfl (hrow _ (by omega)) pl2) rfl (Jg (Jd rfl) rfl (Jg (Jd rfl) rfl (Jf (Ja (hK8 (Je fun _ hK9 _=>(Jb ?_))))))))))))))));refine Jg (Jc rfl) rfl (Jg (Jc rfl) rfl (Jg (Jc rfl) rfl (Jy fn42 rfl rfl fun w hH=>(classForm_c pc0 pc1 pcad pcaf hcad hcaf hGc (by omega) hfit hCk hNk (by omega) (hH.front (.s .z))).mono ?_)));rintro _ w ⟨Hf24,ls24,bo24,v24,hlf24,hC24,hN24,hv24,rfl,hH⟩;refine ⟨_,rfl,fun a hF=>JR hF hH ?_⟩;replace pc0:=pc0.le hlf24;replace pc1:=pc1.le hlf24;replace pcad:=pcad.le hlf24;replace pcaf:=pcaf.le hlf24;replace hcad:=hcad.le hlf24;replace hcaf:=hcaf.le hlf24;replace hrow:=hrow.le hlf24;replace hCc:=hCc.le hlf24;replace hCk:=hCk.le hlf24;refine Jg (Jc rfl) rfl (Jg (JJ rfl rfl) rfl (Jg (JJ rfl rfl) rfl (Jg (Jd rfl) rfl (Jg (Jd rfl) rfl (Jf (Ja (hK9 ?_)))))));have hc1:(0≤(k:Int)∧(k:Int)<((csS cad caf n).length:Int)):=⟨by omega,by omega⟩;obtain rfl:=hv24 hc1;refine CJ.reL (L':=osum bo24 (cfM cad caf n (k:Int))::_::_::_) (fun w hH=>by rw [if_pos hc1] at hH;exact hH) (Jb (Jg (Jc rfl) rfl (Jg (Jc rfl) rfl (Jg (Jc rfl) rfl (Jy fn83 rfl rfl fun w hH=>hH.lend .z fun Hl1 hle1 hA1 hB1 hH=>(addAll_c (cmb_ok (w:=row) (monL_pok h8c) hlnc k hk).1 (omap_H hA1) hso24 (by omega) (by omega) hrv (hH.front (.s .z))).mono ?_)))));rintro _ w ⟨rfl,hH⟩;replace hH:=hB1 _ _ hH;refine ⟨_,rfl,fun a hF=>JR hF hH ?_⟩;refine Jf (JD (Ja (hK7 (Jb (Jg (Jz rfl rfl (by first | exact nw _ (by omega) | rfl)) rfl (Jg (Jc rfl) rfl (Jf (Ja (JN .z ?_)))))))));exact hAg0 (Hf24,ls24,k+1) ⟨(hlk.trans hlf24),⟨hC24,hN24⟩,by omega⟩ (by show (csS cad caf n).length - (k+1)<(csS cad caf n).length - k;omega) 22 rfl rfl ⟨rfl,trivial⟩ rfl rfl
 ·
  refine JG (Jj (Jj (JL (Ja (hK3 (Je fun _ hK10 _=>(Jb (Jg (Jc rfl) rfl (Jg (Jd rfl) rfl (Jf (Ja (hK10 (Ju (Jq rfl (Res.tmp rfl) fun w hH=>?_))))))))))))));replace hH:=hH.sublist (.cons_cons _ (.cons_cons _ (List.Sublist.refl _)))
  have hke:k=(csS cad caf n).length:=by omega
  rw [hke] at hH;exact ⟨_,_,_,hlk,hCk,hNk,rfl,hH⟩
def KCx (cad:List Int) (caf:List (List Term)) (lc:Nat):HP→SA→Prop:=fun F A=>∃ls',CpxOk F cad caf (fun _=>False) ls' ∧Nxt (fun _=>False) ls' ∧A=cpx lc ls'
section
variable {B : World} {H0 H : HP} {L : List SA} {w : World} {bc lc bca : Nat} {qcad qcaf : Option Addr} {ccad ccaf : Nat} {cad : List Int} {caf : List (List Term)} {lsc : List (Int × Lv)} {n : Int} {vs : Vs}
theorem Hp.kcx (hC:CpxOk H cad caf (fun _=>False) lsc) (hN:Nxt (fun _=>False) lsc) (hH:Hp B H0 H (cpx lc lsc::L) w) : ∃vs,Hp B H0 H (mltA (KCx cad caf lc) H vs::L) w:=Hp.meltA hH hH (Le.refl _) ⟨lsc,hC,hN,rfl⟩
theorem combine_m {qrow:Option Addr} {crow:Nat} {row:List Int} (pc0:CellAt H bc 0 (.pointer (some ⟨bca,0,none⟩))) (pc1:CellAt H bc 1 (.map (some lc))) (pcad:CellAt H bca 0 (.slice qcad cad.length ccad)) (pcaf:CellAt H bca 1 (.slice qcaf caf.length ccaf)) (hcad:Ints H qcad cad) (hcaf:Forms H qcaf caf) (hr:Ints H qrow row) (hGc:isAlg cad caf=true) (hn:0≤n∧n≤39) (hfit:fit3 cad n) (hro:RowOk (csS cad caf n).length row) (hH:Hp B H0 H (mltA (KCx cad caf lc) H vs::L) w):Calls Tryz.prog 44 [.pointer (some ⟨bc,0,none⟩),.int .i64 n,.slice qrow row.length crow].toArray w fun e w'=>∃b vs,e = .returned (.map (some b))∧Hp B H0 H (osum b (cmbS (monL cad n) (csS cad caf n) row (csS cad caf n).length)::mltA (KCx cad caf lc) H vs::L) w':=by
 obtain ⟨F,A,hle,⟨ls,hC,hN,rfl⟩,hF⟩:=hH.unmeltA;refine (combine_c (pc0.le hle) (pc1.le hle) (pcad.le hle) (pcaf.le hle) (hcad.le hle) (hcaf.le hle) (hr.le hle) hGc hn hfit hC hN hro hF).mono ?_;rintro e w' ⟨H',ls',b,hle',hC',hN',he,hH'⟩;obtain ⟨vs',hv⟩:=Hp.meltA hH (hH'.front (.s .z)) (hle.trans hle') (K:=KCx cad caf lc) ⟨ls',hC',hN',rfl⟩;exact ⟨b,vs',he,hv.front (.s .z)⟩
theorem class_mm {b:Nat} {Ms:Int} {s:Sm} (pc0:CellAt H bc 0 (.pointer (some ⟨bca,0,none⟩))) (pc1:CellAt H bc 1 (.map (some lc))) (pcad:CellAt H bca 0 (.slice qcad cad.length ccad)) (pcaf:CellAt H bca 1 (.slice qcaf caf.length ccaf)) (hcad:Ints H qcad cad) (hcaf:Forms H qcaf caf) (ks:Sok Ms s) (hGc:isAlg cad caf=true) (hn:0≤n∧n≤39) (hfit:fit3 cad n) (hM:Ms≤1000000) (hin : ∀x∈s,x.1∈monL cad n) (hH:Hp B H0 H (osum b s::mltA (KCx cad caf lc) H vs::L) w):Calls Tryz.prog 43 [.pointer (some ⟨bc,0,none⟩),.int .i64 n,.map (some b)].toArray w fun e w'=>∃q c vs,e = .returned (.slice q (clV cad caf n ((monL cad n).map (cf s))).length c)∧Hp B H0 H (own 2 1 q (clV cad caf n ((monL cad n).map (cf s))).length c (intsC (clV cad caf n ((monL cad n).map (cf s))))::mltA (KCx cad caf lc) H vs::L) w':=by
 obtain ⟨F,A,hle,⟨ls,hC,hN,rfl⟩,hF⟩:=(hH.front (.s .z)).unmeltA;refine (hF.front (.s .z)).lend .z fun H1 hle1 hA1 _ hH1=>?_;have h1:=hle.trans hle1;refine (class_c (pc0.le h1) (pc1.le h1) (pcad.le h1) (pcaf.le h1) (hcad.le h1) (hcaf.le h1) (omap_H hA1) ks hGc hn hfit (hC.le hle1) hN hM hin hH1).mono ?_;rintro e w' ⟨H',ls',q,c,hle',hC',hN',_,he,hH'⟩;obtain ⟨vs',hv⟩:=Hp.meltA hH (hH'.front (.s .z)) (h1.trans hle') (K:=KCx cad caf lc) ⟨ls',hC',hN',rfl⟩;exact ⟨q,c,vs',he,hv.front (.s .z)⟩
end
abbrev evS (s:Sl):Value:=.slice s.q s.k s.c
structure Bl where
 q:Option Addr
 c:Nat
 vals:List Value
 rows:List (List Int)
def Bl.sl (x:Bl):Sl:=⟨x.q,x.rows.length,x.c⟩
abbrev blB (x:Bl):SA:=own 22 1 x.q x.rows.length x.c x.vals
def nxO:List (Int × Bl)→SA
 | []=>emp
 | x::ys=>star (blB x.2) (nxO ys)
def nxK (ys:List (Int × Bl)):List (Int × Sl):=ys.map fun x=>(x.1,x.2.sl)
def nxM (b:Nat) (ys:List (Int × Bl)):SA:=star (omap ekI evS okI b (nxK ys)) (nxO ys)
def nxF (ys:List (Int × Bl)) (t:Int):List (List Int):=((ys.find? fun x=>decide (x.1=t)).map fun x=>x.2.rows).getD []
structure NxOk (H:HP) (ys:List (Int × Bl)):Prop where
 nd:(ys.map (·.1)).Nodup
 ok : ∀x∈ys,SlF H x.2.vals x.2.rows
theorem NxOk.le {H H':HP} {ys:List (Int × Bl)} (h:NxOk H ys) (hle:Le H H'):NxOk H' ys:=⟨h.nd,fun x hx=>(h.ok x hx).le hle⟩
theorem NxOk.nil (H:HP):NxOk H []:=⟨by simp,fun x hx=>by cases hx⟩
structure NxOut (ys rest:List (Int × Bl)) (t:Int) (y:Bl):Prop where
 ne : ∀z∈rest,z.1≠t
 row:y.rows=nxF ys t
 look:(look (nxK ys) t).elim (Value.slice none 0 0) evS=evS y.sl
 put : ∀s,(putM (nxK ys) t s).Perm ((t,s)::nxK rest)
 oth : ∀u,u≠t→nxF rest u=nxF ys u
 sub : ∀z∈rest,z∈ys
theorem find_none {ys:List (Int × Bl)} {t:Int} (h : ∀z∈ys,z.1≠t):(ys.find? fun x=>decide (x.1=t))=none:=List.find?_eq_none.2 fun x hx=>by simpa using h x hx
theorem find_mid {t:Int} {y:Bl} {l2:List (Int × Bl)} : ∀{l1:List (Int × Bl)},(∀z∈l1,z.1≠t)→((l1++(t,y)::l2).find? fun x=>decide (x.1=t))=some (t,y)
 | [],_=>by simp
 | a::l1,h=>by
  have h1:=h a (by simp)
  rw [JxA,List.find?_cons,decide_eq_false h1]
  exact find_mid fun z hz=>h z (by simp [hz])
theorem find_oth {t u:Int} {y:Bl} {l2:List (Int × Bl)} (hu:u≠t) : ∀{l1:List (Int × Bl)},((l1++(t,y)::l2).find? fun x=>decide (x.1=u))=((l1++l2).find? fun x=>decide (x.1=u))
 | []=>by
  rw [JxB,List.find?_cons,decide_eq_false (Ne.symm hu)]
  rfl
 | a::l1=>by
  rw [JxA,JxA,List.find?_cons,List.find?_cons,find_oth hu]
section
variable {B : World} {H0 H : HP} {L : List SA} {w : World}
theorem Hp.nxPerm {ys zs:List (Int × Bl)} (hp:ys.Perm zs) : ∀{L:List SA},Hp B H0 H (nxO ys::L) w→Hp B H0 H (nxO zs::L) w:=by
 induction hp with
 | nil=>exact fun h=>h
 | cons x _ ih=>exact fun h=>((ih (h.unstar.front (.s .z))).front (.s .z)).star
 | swap x y l=>
  intro L h;have h1:=h.unstar;have h2:=(h1.front (.s .z)).unstar;have h3:=h2.front (.s (.s .z));have h4:=h3.front (.s (.s .z));have h5:=h4.front (.s .z);exact (h5.star.front (.s (.z))).star
 | trans _ _ h1 h2=>exact fun h=>h2 (h1 h)
theorem Hp.omPerm {b:Nat} {xs ys:List (Int × Sl)} (hp:xs.Perm ys) (h:Hp B H0 H (omap ekI evS okI b xs::L) w):Hp B H0 H (omap ekI evS okI b ys::L) w:=by
 obtain ⟨es,clock,h1,h2⟩:=(h.objs _ List.mem_cons_self).1;exact h.upd .z ⟨rfl,rfl,rfl,Nat.le_refl _,fun _ _ _=>rfl⟩ ⟨es,clock,h1,h2.perm hp⟩ fun x hx=>⟨.inl hx,by rw [show x=b from hx];exact hp_lt h1⟩
theorem Hp.nxIn {b:Nat} {rest:List (Int × Bl)} {t:Int} {y:Bl} {xs:List (Int × Sl)} (hp:xs.Perm ((t,y.sl)::nxK rest)) (h:Hp B H0 H (omap ekI evS okI b xs::blB y::nxO rest::L) w):Hp B H0 H (nxM b ((t,y)::rest)::L) w:=by
 have h1:=Hp.omPerm hp h;have h2:=h1.front (.s .z);have h3:=h2.front (.s (.s .z));have h4:=h3.front (.s .z);exact (h4.star.front (.s .z)).star
theorem nxK_nd {ys:List (Int × Bl)} (h:(ys.map (·.1)).Nodup):((nxK ys).map (·.1)).Nodup:=by
 unfold nxK;rw [List.map_map];exact h
theorem Hp.nxOut {b:Nat} {ys:List (Int × Bl)} (t:Int) (hN:NxOk H ys) (h:Hp B H0 H (nxM b ys::L) w) : ∃rest y,NxOut ys rest t y∧SlF H y.vals y.rows∧NxOk H rest∧Hp B H0 H (omap ekI evS okI b (nxK ys)::blB y::nxO rest::L) w:=by
 have hu:=h.unstar
 by_cases hc : ∃z∈ys,z.1=t
 ·obtain ⟨z,hz,e⟩:=hc;obtain ⟨t',y⟩:=z;obtain rfl:t'=t:=e;obtain ⟨l1,l2,hl⟩:=List.append_of_mem hz;have hnd:=hN.nd;rw [hl,List.map_append,List.map_cons,List.nodup_append] at hnd;obtain ⟨n1,n2,n3⟩:=hnd;have n2:=List.nodup_cons.1 n2;have h1 : ∀z∈l1,z.1≠t':=fun z hz e=>n3 z.1 (List.mem_map.2 ⟨z,hz,rfl⟩) t' (by simp) e;have h2 : ∀z∈l2,z.1≠t':=fun z hz e=>n2.1 (by rw [← e];exact List.mem_map.2 ⟨z,hz,rfl⟩);refine ⟨l1++l2,y,⟨fun z hz=>(List.mem_append.1 hz).elim (h1 z) (h2 z),?_,?_,fun s=>?_,fun u hu=>?_,fun z hz=>by rw [hl];rcases List.mem_append.1 hz with h | h <;> simp [h]⟩,hN.ok _ hz,⟨?_,fun x hx=>hN.ok x (by rw [hl];rcases List.mem_append.1 hx with h | h <;> simp [h])⟩,?_⟩
  ·unfold nxF;rw [hl,find_mid h1]
   rfl
  ·rw [look_some (nxK_nd hN.nd) (b:=y.sl) (List.mem_map.2 ⟨(t',y),hz,rfl⟩)]
   rfl
  ·have e1:delM (nxK ys) t'=nxK (l1++l2):=by
    have d1:=delM_none (xs:=nxK l1) (k:=t') fun x hx=>by
     obtain ⟨z,hz,rfl⟩:=List.mem_map.1 hx;exact h1 z hz
    have d2:=delM_none (xs:=nxK l2) (k:=t') fun x hx=>by
     obtain ⟨z,hz,rfl⟩:=List.mem_map.1 hx;exact h2 z hz
    unfold delM at d1 d2 ⊢
    have e2:nxK ys=nxK l1++(t',y.sl)::nxK l2:=by rw [hl];simp [nxK]
    rw [e2,List.filter_append,List.filter_cons_of_neg (by simp),d1,d2]
    simp [nxK]
   show ((t',s)::delM (nxK ys) t').Perm _
   rw [e1]
  ·unfold nxF;rw [hl,find_oth hu]
  ·rw [List.map_append,List.nodup_append];exact ⟨n1,n2.2,fun a ha c hc=>n3 a ha c (by simp [hc])⟩
  ·have h3:=Hp.nxPerm (zs:=(t',y)::(l1++l2)) (by rw [hl];exact List.perm_middle) (hu.front (.s .z));exact h3.unstar.front (.s (.s .z))
 ·have h1 : ∀z∈ys,z.1≠t:=fun z hz e=>hc ⟨z,hz,e⟩;refine ⟨ys,⟨none,0, [], []⟩,⟨h1,?_,?_,fun s=>?_,fun u _=>rfl,fun z hz=>hz⟩,SlF.nil H,hN,(hu.own0 22 1).front (.s .z) |>.front (.s .z) |> fun h9=>(h9.front (.s .z))⟩
  ·unfold nxF;rw [find_none h1]
   rfl
  ·rw [look_none fun x hx=>by
    obtain ⟨z,hz,rfl⟩:=List.mem_map.1 hx
    exact h1 z hz]
   rfl
  ·show ((t,s)::delM (nxK ys) t).Perm _
   rw [delM_none fun x hx=>by
    obtain ⟨z,hz,rfl⟩:=List.mem_map.1 hx
    exact h1 z hz]
end
theorem monS_zero {ds:List Int} (hd : ∀j,j<ds.length→1≤ds.getD j 0∧ds.getD j 0≤12) (h8:ds.length≤8):monL ds 0=[zP]:=by
 have hl:(monL ds 0).length=1:=mon_zero hd h8
 have hz:zP∈monL ds 0:=by
  unfold monL;refine List.mem_take_iff_getElem.2 ?_;have hz:zP∈monS ds 0:=mon_in (M:=0) h8 hd (by decide) ⟨zP_nn.1,fun j=>by rw [zP_get];omega⟩ ⟨fun i _=>zP_get i,fun i _ _=>by rw [zP_get];omega⟩ (wsum_zero zP_get _);obtain ⟨i,hi,e⟩:=List.mem_iff_getElem.1 hz
  have h1:(monS ds 0).length=1:=by
   unfold monL at hl;rw [List.length_take] at hl
   omega
  exact ⟨i,by omega,e⟩
 match h:monL ds 0,hl,hz with
 | [a],_,hz=>rw [List.mem_singleton.1 hz]
theorem cs_zero {ds:List Int} {fs:List (List Term)} (hG:isAlg ds fs=true) (hw:Wfss fs) (hf:fit3 ds 0):csS ds fs 0=[[1]]:=by
 have hA:=isAlg_ok hG hw;have h8:=hA.hn;have hd:=alg_112 hG;have hm:=monS_zero hd h8
 have hcl:ClV ds fs 0 (vR [1]):=fun G=>by
  unfold evV;rw [hm]
  show Mo (1 * dG ds fs G zP 8+0) 0
  rw [dG_zP];exact Mo.refl _
 have h1:=closed_cl hG hw (u:=[1]) (by rw [hm];rfl) hcl;have hb:bdS ds fs 0=[]:=if_neg (by omega)
 have h2:=cl_cs hG hw h1 (y:=vR [1]) (by
  rw [hb]
  exact ⟨.zero fun k=>by show Mo (vR [1] k + -1 * vR [1] k) 0;unfold Mo;omega,fun b hb=>by cases hb⟩)
 have hR:=csS_red (n:=(0:Int)) hA h8 hd;rw [hm] at hR;generalize csS ds fs 0=R at h2 hR
 have key : ∀r∈R,r=[1]:=fun r hr=>by
  have h3:=hR.one r hr;have h4:=(hR.row r hr).len
  have h5:ldR r=0:=by have:=h3.1;simp at this;exact this
  match r,h4 with
  | [a],_=>
   have h6:=h3.2;rw [h5] at h6;have h7:a=1:=h6;rw [h7]
 match R,h2,hR,key with
 | [],h2,_,_=>
  have h3:=h2.none 0;have h4:Mo 1 0:=h3;unfold Mo at h4
  omega
 | [a],_,_,key=>rw [key a (by simp)]
 | a::b::R,_,hR,key=>
  have h3:=(List.pairwise_cons.1 hR.srt).1 b (by simp);rw [key a (by simp),key b (by simp)] at h3
  omega
theorem rel_one (k:Nat):relS [[1]] (vR [1]) k=[1].getD k 0:=by
 show 1 * [1].getD k 0+0=_
 omega
theorem eqv_zero {ds:List Int} {fs:List (List Term)} (hG:isAlg ds fs=true) (hw:Wfss fs) (hf:fit3 ds 0):Eqv ds fs 0 [[1]] [[1]]:=by
 constructor
 ·intro u hu;rw [List.mem_singleton.1 hu];refine ⟨vR [1],Spn.row (by simp),fun i=>?_⟩;rw [cs_zero hG hw hf,rel_one];exact Mo.refl _
 ·intro w hw2;rw [List.mem_singleton.1 hw2,cs_zero hG hw hf]
  exact (Spn.row (rs:=[[1]]) (r:=[1]) (by simp)).congr fun k=>by rw [rel_one];exact Mo.refl _
structure Re where
 q:Option Addr
 c:Nat
 r:List (List Int)
abbrev evR (x:Re):Value:=.slice x.q x.r.length x.c
def spF (zs:List (Int × Re)) (t:Int):List (List Int):=((zs.find? fun x=>decide (x.1=t)).map fun x=>x.2.r).getD []
def evJ (ds:List Int) (fs:List (List Term)) (n k:Int) (w:List Int) (j:Nat):List (Int × List Int):=((csS ds fs k).take j).map fun c=>(n+k,cvS ds fs n k c w)
def evI (ds:List Int) (fs:List (List Term)) (n k:Int) (rows:List (List Int)) (i:Nat):List (Int × List Int):=(rows.take i).flatMap fun w=>evJ ds fs n k w (csS ds fs k).length
def evN (ds:List Int) (fs:List (List Term)) (n:Int) (rows:List (List Int)):Nat→List (Int × List Int)
 | 0=>[]
 | k+1=>evN ds fs n rows k++evI ds fs n ((k+1:Nat):Int) rows rows.length
def evZ (ds:List Int) (fs:List (List Term)) (m:Int) (zs:List (Int × Re)):List (Int × List Int):=zs.flatMap fun x=>evN ds fs x.1 x.2.r (m - x.1).toNat
def at_ (E:List (Int × List Int)) (t:Int):List (List Int):=(E.filter fun e=>decide (e.1=t)).map (·.2)
section
variable {ds : List Int} {fs : List (List Term)} {n k m t : Int} {w v x : List Int} {rows : List (List Int)} {i j : Nat} {E F : List (Int × List Int)} {zs : List (Int × Re)}
theorem evJ_succ (hj:j<(csS ds fs k).length):evJ ds fs n k w (j+1)=evJ ds fs n k w j++[(n+k,cvS ds fs n k (rw_ (csS ds fs k) j) w)]:=by
 unfold evJ;rw [rw_take hj,List.map_append]
 rfl
theorem evI_succ (hi:i<rows.length):evI ds fs n k rows (i+1)=evI ds fs n k rows i++evJ ds fs n k (rw_ rows i) (csS ds fs k).length:=by
 unfold evI;rw [rw_take hi,List.flatMap_append]
 simp
theorem at_app (E F:List (Int × List Int)) (t:Int):at_ (E++F) t=at_ E t++at_ F t:=by simp [at_]
theorem at_one (s:Int) (v:List Int) (t:Int):at_ [(s,v)] t=if s=t then [v] else []:=by
 unfold at_
 by_cases h:s=t <;> simp [h]
theorem at_mem:x∈at_ E t↔(t,x)∈E:=by
 unfold at_;rw [List.mem_map]
 constructor
 ·rintro ⟨⟨s,y⟩,h,rfl⟩;obtain ⟨h1,h2⟩:=List.mem_filter.1 h
  have h3:s=t:=by simpa using h2
  rw [← h3];exact h1
 ·intro h;exact ⟨(t,x),List.mem_filter.2 ⟨h,by simp⟩,rfl⟩
theorem evN_mem {e:Int × List Int} : ∀{l:Nat},e∈evN ds fs n rows l↔∃k:Nat,(1≤k∧k≤l)∧∃w∈rows,∃c∈csS ds fs (k:Int),e=(n+(k:Int),cvS ds fs n k c w)
 | 0=>by
  constructor
  ·intro h;cases h
  ·rintro ⟨k,h,_⟩;omega
 | l+1=>by
  show e∈evN ds fs n rows l++evI ds fs n ((l+1:Nat):Int) rows rows.length↔_
  rw [List.mem_append,evN_mem]
  have hI:e∈evI ds fs n ((l+1:Nat):Int) rows rows.length↔∃w∈rows,∃c∈csS ds fs ((l+1:Nat):Int),e=(n+((l+1:Nat):Int),cvS ds fs n ((l+1:Nat):Int) c w):=by
   unfold evI evJ
   simp only [List.take_length,List.mem_flatMap,List.mem_map]
   constructor
   ·rintro ⟨w,hw,c,hc,rfl⟩
    exact ⟨w,hw,c,hc,rfl⟩
   ·rintro ⟨w,hw,c,hc,rfl⟩
    exact ⟨w,hw,c,hc,rfl⟩
  rw [hI]
  constructor
  ·rintro (⟨k,h1,h2⟩ | h)
   ·exact ⟨k,by omega,h2⟩
   ·exact ⟨l+1,by omega,h⟩
  ·rintro ⟨k,h1,h2⟩
   rcases Nat.lt_or_ge k (l+1) with h3 | h3
   ·exact .inl ⟨k,by omega,h2⟩
   ·obtain rfl:k=l+1:=by omega
    exact .inr h2
theorem spF_mem (hn:(zs.map (·.1)).Nodup) {y:Re} (h:(t,y)∈zs):spF zs t=y.r:=by
 obtain ⟨l1,l2,hl⟩:=List.append_of_mem h;rw [hl,List.map_append,List.map_cons,List.nodup_append] at hn;have h1 : ∀z∈l1,z.1≠t:=fun z hz e=>hn.2.2 z.1 (List.mem_map.2 ⟨z,hz,rfl⟩) t (by simp) e;unfold spF;rw [hl,List.find?_append,List.find?_eq_none.2 fun z hz=>by simpa using h1 z hz]
 simp
theorem spF_in (h:x∈spF zs t) : ∃y,(t,y)∈zs∧x∈y.r:=by
 unfold spF at h
 cases hf:zs.find? fun x=>decide (x.1=t) with
 | none=>rw [hf] at h;cases h
 | some z=>
  rw [hf] at h;obtain ⟨t',y⟩:=z;have h1:=List.find?_some hf
  have h2:t'=t:=by simpa using h1
  subst h2;exact ⟨y,List.mem_of_find?_eq_some hf,h⟩
theorem cvS_ok (hA:AlgOk ds fs) (h8:ds.length≤8) (hd : ∀j,j<ds.length→1≤ds.getD j 0∧ds.getD j 0≤12) {c:List Int} (hc:c∈csS ds fs k):RowOk (csS ds fs (n+k)).length (cvS ds fs n k c w):=by
 have hck:=(csS_red (n:=k) hA h8 hd).row c hc;have hcn:=csS_red (n:=n) hA h8 hd;obtain ⟨ha,_⟩:=cmb_ok (w:=w) (monL_pok (n:=n) h8) (fun i hi=>(hcn.row _ (rw_mem hi)).len) (csS ds fs n).length (Nat.le_refl _);have hb:=sumR_mon (n:=k) h8 (row:=c) (Nat.le_of_eq hck.len);have hv:=byS_ok (rowP_ok (t:=n+k) (ds:=ds) ha hb) (bdS_red (n:=n+k) hA h8 hd).row;refine ⟨by unfold cvS;exact clV_len _ _ _ _,fun i=>?_⟩;unfold cvS clV
 rcases Nat.lt_or_ge i (csS ds fs (n+k)).length with hi | hi
 ·have e:((csS ds fs (n+k)).map fun r=>(byS (rowP ds (n+k) (cmbS (monL ds n) (csS ds fs n) w (csS ds fs n).length) (sumR (monL ds k) c)) (bdS ds fs (n+k))).getD (ldR r) 0).getD i 0=(byS (rowP ds (n+k) (cmbS (monL ds n) (csS ds fs n) w (csS ds fs n).length) (sumR (monL ds k) c)) (bdS ds fs (n+k))).getD (ldR (rw_ (csS ds fs (n+k)) i)) 0:=by simp [rw_,List.getD_eq_getElem?_getD,hi]
  rw [e];exact hv.val _
 ·rw [getD_ge (by simpa using hi)]
  omega
end
structure SpOk (ds:List Int) (fs:List (List Term)) (m:Int) (k:Nat) (zs:List (Int × Re)):Prop where
 nd:(zs.map (·.1)).Nodup
 key : ∀x∈zs,0≤x.1∧x.1≤m
 red : ∀x∈zs,Red (csS ds fs x.1).length x.2.r
 eqv : ∀n:Int,0≤n→n≤m→Eqv ds fs n (r3_ (nowK ds fs (m.toNat+1) k) n.toNat) (spF zs n)
section
variable {ds : List Int} {fs : List (List Term)} {m : Int} {k : Nat} {zs zs' : List (Int × Re)} {E : List (Int × List Int)}
theorem SpOk.zero (hG:isAlg ds fs=true) (hw:Wfss fs) (hm:0≤m) (hf:fit3 ds 0) {q:Option Addr} {c:Nat}:SpOk ds fs m 0 [(0,⟨q,c, [[1]]⟩)]:=by
 refine ⟨by simp,fun x hx=>?_,fun x hx=>?_,fun n h0 h1=>?_⟩
 ·rw [List.mem_singleton.1 hx];exact ⟨Int.le_refl _,hm⟩
 ·rw [List.mem_singleton.1 hx]
  show Red (csS ds fs 0).length [[1]]
  rw [cs_zero hG hw hf];have h1:=csS_red (n:=(0:Int)) (isAlg_ok hG hw) (isAlg_ok hG hw).hn (alg_112 hG)
  rwa [cs_zero hG hw hf,monS_zero (alg_112 hG) (isAlg_ok hG hw).hn] at h1
 ·show Eqv ds fs n (r3_ (bgS (m.toNat+1)) n.toNat) _
  rw [bgS_at (by omega)]
  by_cases e:n=0
  ·subst e;exact eqv_zero hG hw hf
  ·rw [if_neg (by omega)]
   have e2:spF [(0,(⟨q,c, [[1]]⟩:Re))] n=[]:=by
    unfold spF;rw [List.find?_cons,decide_eq_false (Ne.symm e)]
    rfl
   rw [e2];exact ⟨fun u hu=>by (cases hu),fun w hw=>by (cases hw)⟩
theorem SpOk.step (hG:isAlg ds fs=true) (hw:Wfss fs) (hm:0≤m∧m≤20) (hf : ∀t:Int,0≤t→t≤m→fit3 ds t) (h:SpOk ds fs m k zs) (hE:E.Perm (evZ ds fs m zs)) (hnd:(zs'.map (·.1)).Nodup) (hkey : ∀x∈zs',0≤x.1∧x.1≤m) (hsp : ∀t,spF zs' t=redS (at_ E t)):SpOk ds fs m (k+1) zs' ∧∀t:Int,0≤t→t≤m→(r3_ (nowK ds fs (m.toNat+1) (k+1)) t.toNat=[]↔spF zs' t=[]):=by
 have hA:=isAlg_ok hG hw;have h8:=hA.hn;have hd:=alg_112 hG;have hN:=nowK_ok (m:=m.toNat+1) hA h8 hd k
 have hWok : ∀t:Int,∀x∈at_ E t,RowOk (csS ds fs t).length x:=fun t x hx=>by
  have h1:=hE.subset (at_mem.1 hx);obtain ⟨z,hz,h2⟩:=List.mem_flatMap.1 h1;obtain ⟨l,hl,w,hw,c,hc,e⟩:=evN_mem.1 h2;have e1:t=z.1+(l:Int):=congrArg Prod.fst e;have e2:x=cvS ds fs z.1 l c w:=congrArg Prod.snd e;rw [e1,e2];exact cvS_ok hA h8 hd hc
 have hUok : ∀t:Int,0≤t→t≤m→∀u∈mvN ds fs (nowK ds fs (m.toNat+1) k) t.toNat t.toNat,RowOk (monL ds (t.toNat:Int)).length u:=fun t h0 h1=>mvN_ok hA h8 hd hN (by omega) (Nat.le_refl _)
 have hstep : ∀t:Int,0≤t→t≤m→Eqv ds fs t (r3_ (nowK ds fs (m.toNat+1) (k+1)) t.toNat) (spF zs' t):=fun t h0 h1=>by
  show Eqv ds fs t (r3_ (mvS ds fs (nowK ds fs (m.toNat+1) k) (m.toNat+1)) t.toNat) _
  rw [mvS_at (by omega),hsp];refine Eqv.red ?_ (hUok t h0 h1) (hWok t);refine Eqv.step (m:=m) (now:=fun n=>r3_ (nowK ds fs (m.toNat+1) k) n.toNat) (sp:=spF zs) (fun n k h2 h3 h4=>⟨hG,hw,by omega,by omega,by omega,hf n h2 (by omega),hf k (by omega) (by omega),hf (n+k) (by omega) h4⟩) (fun n h2 h3=>⟨h.eqv n h2 h3,fun u hu=>?_⟩) h1 (fun x=>?_) fun x=>?_
  ·have h4:=((hN n.toNat (by omega)).row u hu).len
   rwa [Int.toNat_of_nonneg h2] at h4
  ·rw [mvN_mem]
   constructor
   ·rintro ⟨l,h2,u,hu,c,hc,rfl⟩;refine ⟨(l:Int),by omega,u,?_,c,hc,?_⟩
    ·show u∈r3_ _ (t - (l:Int)).toNat
     rw [show (t - (l:Int)).toNat=t.toNat - l by omega];exact hu
    ·rw [Int.toNat_of_nonneg h0]
   ·rintro ⟨l,h2,u,hu,c,hc,rfl⟩;refine ⟨l.toNat,by omega,u,?_,c,?_,?_⟩
    ·rw [show t.toNat - l.toNat=(t - l).toNat by omega];exact hu
    ·rw [Int.toNat_of_nonneg (by omega)];exact hc
    ·rw [Int.toNat_of_nonneg h0,Int.toNat_of_nonneg (show 0≤l by omega)]
  ·rw [at_mem,hE.mem_iff];unfold evZ;rw [List.mem_flatMap]
   constructor
   ·rintro ⟨z,hz,h2⟩;obtain ⟨l,hl,w,hw,c,hc,e⟩:=evN_mem.1 h2;have e1:t=z.1+(l:Int):=congrArg Prod.fst e;have e2:x=cvS ds fs z.1 l c w:=congrArg Prod.snd e;have hk:=h.key z hz;refine ⟨(l:Int),by omega,w,?_,c,hc,?_⟩
    ·rw [show t - (l:Int)=z.1 by omega,spF_mem h.nd (y:=z.2) hz];exact hw
    ·rw [e2,show t - (l:Int)=z.1 by omega]
   ·rintro ⟨l,h2,w,hw,c,hc,rfl⟩;obtain ⟨y,hy,hwy⟩:=spF_in hw;refine ⟨(t - l,y),hy,evN_mem.2 ⟨l.toNat,by show 1≤l.toNat∧l.toNat≤(m - (t - l)).toNat;omega,w,hwy,c,by rw [Int.toNat_of_nonneg (by omega)];exact hc,?_⟩⟩;rw [Int.toNat_of_nonneg (by omega)]
    show (t,_)=(t - l+l,_)
    rw [Int.sub_add_cancel]
 have hred : ∀x∈zs',Red (csS ds fs x.1).length x.2.r:=fun x hx=>by
  have h1:=hsp x.1;rw [spF_mem hnd (y:=x.2) hx] at h1;rw [h1];exact (redS_ok (hWok x.1)).1
 refine ⟨⟨hnd,hkey,hred,hstep⟩,fun t h0 h1=>?_⟩;have hU:=(mvS_ok hA h8 hd hN) t.toNat (by omega)
 have hW:Red (csS ds fs t).length (spF zs' t):=by
  rw [hsp];exact (redS_ok (hWok t)).1
 exact (hstep t h0 h1).nil hU hW (csS_red hA h8 hd)
end
def MapE (H:HP) (b:Nat) (es:Array MapEntry) (clk:Nat) (zs:List (Int × Re)):Prop:=H b=some (.map es clk)∧EntOk ekI evR okI es clk zs
theorem MapE.le {H H':HP} {b:Nat} {es:Array MapEntry} {clk:Nat} {zs:List (Int × Re)} (h:MapE H b es clk zs) (hle:Le H H'):MapE H' b es clk zs:=⟨hle _ _ h.1,h.2⟩
def ReOk (H:HP) (zs:List (Int × Re)):Prop:=∀x∈zs,RowsR H x.2.q x.2.r∧x.2.r.length≤x.2.c
theorem ReOk.le {H H':HP} {zs:List (Int × Re)} (h:ReOk H zs) (hle:Le H H'):ReOk H' zs:=fun x hx=>⟨(h x hx).1.le hle,(h x hx).2⟩
def nxR (ys:List (Int × Bl)):List (Int × Re):=ys.map fun x=>(x.1,⟨x.2.q,x.2.c,x.2.rows⟩)
def NxEv (ys:List (Int × Bl)) (E:List (Int × List Int)):Prop:=∀t,nxF ys t=at_ E t
theorem NxEv.nil:NxEv [] []:=fun t=>rfl
theorem NxEv.snoc {ys rest:List (Int × Bl)} {E:List (Int × List Int)} {t:Int} {y y':Bl} {v:List Int} (hO:NxOut ys rest t y) (h:NxEv ys E) (hr:y'.rows=y.rows++[v]):NxEv ((t,y')::rest) (E++[(t,v)]):=fun u=>by
 rw [at_app,at_one,← h u]
 by_cases e:t=u
 ·subst e
  rw [if_pos rfl,← hO.row,← hr]
  unfold nxF
  rw [List.find?_cons,decide_eq_true (show ((t,y'):Int × Bl).1=t from rfl)]
  rfl
 ·rw [if_neg e,List.append_nil,← hO.oth u (Ne.symm e)]
  unfold nxF
  rw [List.find?_cons,decide_eq_false (show ¬((t,y'):Int × Bl).1=u from e)]
theorem NxOk.cons {H:HP} {ys rest:List (Int × Bl)} {t:Int} {y y':Bl} (hO:NxOut ys rest t y) (h:NxOk H rest) (hs:SlF H y'.vals y'.rows):NxOk H ((t,y')::rest):=⟨by
 rw [List.map_cons,List.nodup_cons]
 exact ⟨fun hm=>by obtain ⟨z,hz,e⟩:=List.mem_map.1 hm;exact hO.ne z hz e,h.nd⟩,fun x hx=>by
 rcases List.mem_cons.1 hx with rfl | hx
 ·exact hs
 ·exact h.ok x hx⟩
theorem ent_conv {es:Array MapEntry} {clk:Nat} {zs:List (Int × Re)} (h:EntOk ekI evS okI es clk (zs.map fun x=>(x.1,(⟨x.2.q,x.2.r.length,x.2.c⟩:Sl)))):EntOk ekI evR okI es clk zs:=⟨h.st,by
 have h1:=h.pm
 rw [List.map_map] at h1
 exact h1,fun x hx=>h.ok (x.1,⟨x.2.q,x.2.r.length,x.2.c⟩) (List.mem_map.2 ⟨x,hx,rfl⟩)⟩
section
variable {P : Program} {c0 : Code} {Q : Exit → Act → World → Prop} {n : Nat} {B : World} {H0 H : HP} {us : List (Nat × Value)} {L L1 : List SA} {w : World} {R : Act → World → Prop}
theorem Hp.omConv {b:Nat} {zs:List (Int × Re)} (h:Hp B H0 H (omap ekI evS okI b (zs.map fun x=>(x.1,(⟨x.2.q,x.2.r.length,x.2.c⟩:Sl)))::L) w):Hp B H0 H (omap ekI evR okI b zs::L) w:=by
 obtain ⟨es,clk,h1,h2⟩:=(h.objs _ List.mem_cons_self).1;exact h.upd .z ⟨rfl,rfl,rfl,Nat.le_refl _,fun _ _ _=>rfl⟩ ⟨es,clk,h1,ent_conv h2⟩ fun x hx=>⟨.inl hx,by rw [show x=b from hx];exact hp_lt h1⟩
theorem CJ.fixMap {b:Nat} {zs:List (Int × Re)} (hr:Rm L (omap ekI evR okI b zs) L1) (k : ∀H' es clk,Le H H' →MapE H' b es clk zs→CJ P c0 Q n B H0 us H' L1):CJ P c0 Q n B H0 us H L:=fun a w hF hH=>hH.lend hr fun H' h1 h2 _ h4=>by
 obtain ⟨es,clk,h5,h6⟩:=h2
 exact k H' es clk h1 ⟨h5,h6⟩ a w hF h4
theorem Hp.nxNew {b:Nat} (h:Hp B H0 H (omap ekI evS okI b []::L) w):Hp B H0 H (nxM b []::L) w:=(h.emp.front (.s .z)).star
theorem CJ.kcxC {cad:List Int} {caf:List (List Term)} {lc:Nat} {ls:List (Int × Lv)} (hr:Rm L (cpx lc ls) L1) (hC:CpxOk H cad caf (fun _=>False) ls) (hN:Nxt (fun _=>False) ls) (k : ∀vs,CJ P c0 Q n B H0 us H (mltA (KCx cad caf lc) H vs::L1)):CJ P c0 Q n B H0 us H L:=fun a w hF hH=>by
 obtain ⟨vs,h⟩:=Hp.kcx hC hN (hH.front hr)
 exact k vs a w hF h
theorem CJ.nxOutC {b:Nat} {ys:List (Int × Bl)} (t:Int) (hr:Rm L (nxM b ys) L1) (hN:NxOk H ys) (k : ∀rest y,NxOut ys rest t y→SlF H y.vals y.rows→NxOk H rest→CJ P c0 Q n B H0 us H (omap ekI evS okI b (nxK ys)::blB y::nxO rest::L1)):CJ P c0 Q n B H0 us H L:=fun a w hF hH=>by
 obtain ⟨rest,y,h1,h2,h3,h4⟩:=Hp.nxOut t hN (hH.front hr)
 exact k rest y h1 h2 h3 a w hF h4
theorem Hp.nxFixO : ∀{ys:List (Int × Bl)} {H:HP} {L:List SA},(∀x∈ys,SlF H x.2.vals x.2.rows)→Hp B H0 H (nxO ys::L) w→∃H',Le H H' ∧ReOk H' (nxR ys)∧Hp B H0 H' L w
 | [],H,L,_,h=>⟨H,Le.refl _,(fun x (hx:x∈([]:List (Int × Re)))=>nomatch hx),h.tail⟩
 | x::ys,H,L,hs,h=>by
  have h1:=h.unstar
  have h2:=hs x (by simp)
  refine h1.lend .z fun H1 hle1 hA1 _ hH1=>?_
  obtain ⟨H',hle',hR,hH'⟩:=Hp.nxFixO (fun z hz=>(hs z (by simp [hz])).le hle1) hH1
  refine ⟨H',hle1.trans hle',fun z hz=>?_,hH'⟩
  rcases List.mem_cons.1 (show z∈(x.1,(⟨x.2.q,x.2.c,x.2.rows⟩:Re))::nxR ys from hz) with rfl | hz
  ·exact ⟨((h2.le hle1).rows (Le.refl _) hA1).le hle',own_le hA1⟩
  ·exact hR z hz
theorem CJ.nxFix {b:Nat} {ys:List (Int × Bl)} (hr:Rm L (nxM b ys) L1) (hN:NxOk H ys) (k : ∀H',Le H H' →ReOk H' (nxR ys)→CJ P c0 Q n B H0 us H' (omap ekI evR okI b (nxR ys)::L1)):CJ P c0 Q n B H0 us H L:=fun a w hF hH=>by
 have h1:=(hH.front hr).unstar
 obtain ⟨H',hle,hR,h2⟩:=Hp.nxFixO hN.ok (h1.front (.s .z))
 refine k H' hle hR a w hF (Hp.omConv ?_)
 have e:(nxR ys).map (fun x=>(x.1,(⟨x.2.q,x.2.r.length,x.2.c⟩:Sl)))=nxK ys:=by
  unfold nxR nxK
  rw [List.map_map]
  rfl
 rw [e]
 exact h2
end
theorem nxR_sp (ys:List (Int × Bl)) (t:Int):spF (nxR ys) t=nxF ys t:=by
 unfold spF nxF nxR
 induction ys with
 | nil=>rfl
 | cons x ys ih=>
  rw [List.map_cons,List.find?_cons,List.find?_cons]
  by_cases h:x.1=t
  ·rw [decide_eq_true h]
   rfl
  ·rw [decide_eq_false h];exact ih
theorem nxR_nd {ys:List (Int × Bl)} (h:(ys.map (·.1)).Nodup):((nxR ys).map (·.1)).Nodup:=by
 unfold nxR;rw [List.map_map];exact h
section
variable {ds : List Int} {fs : List (List Term)} {n k m t : Int} {w : List Int} {rows : List (List Int)} {i j l : Nat} {E F D R : List (Int × List Int)} {zs ls vs : List (Int × Re)} {ys : List (Int × Bl)}
theorem evJ_pre (j:Nat) : ∃R,evJ ds fs n k w (csS ds fs k).length=evJ ds fs n k w j++R:=⟨((csS ds fs k).drop j).map fun c=>(n+k,cvS ds fs n k c w),by
 unfold evJ
 rw [List.take_length,← List.map_append,List.take_append_drop]⟩
theorem evI_pre (i:Nat) : ∃R,evI ds fs n k rows rows.length=evI ds fs n k rows i++R:=⟨(rows.drop i).flatMap fun w=>evJ ds fs n k w (csS ds fs k).length,by
 unfold evI
 rw [List.take_length,← List.flatMap_append,List.take_append_drop]⟩
theorem evN_pre {a:Nat} : ∀{b:Nat},a≤b→∃R,evN ds fs n rows b=evN ds fs n rows a++R
 | 0,h=>⟨[],by rw [Nat.le_zero.1 h];simp⟩
 | b+1,h=>by
  rcases Nat.lt_or_ge a (b+1) with h1 | h1
  ·obtain ⟨R,hR⟩:=evN_pre (Nat.le_of_lt_succ h1)
   exact ⟨R++evI ds fs n ((b+1:Nat):Int) rows rows.length,by rw [← List.append_assoc,← hR];rfl⟩
  ·obtain rfl:a=b+1:=by omega
   exact ⟨[],by simp⟩
theorem ev_pre {a:Nat} (hl:a+1≤l) (hi:i<rows.length) (j:Nat) : ∃R,evN ds fs n rows l=evN ds fs n rows a++evI ds fs n ((a+1:Nat):Int) rows i++evJ ds fs n ((a+1:Nat):Int) (rw_ rows i) j++R:=by
 obtain ⟨R1,h1⟩:=evN_pre (ds:=ds) (fs:=fs) (n:=n) (rows:=rows) hl;obtain ⟨R2,h2⟩:=evI_pre (ds:=ds) (fs:=fs) (n:=n) (k:=((a+1:Nat):Int)) (rows:=rows) (i+1);obtain ⟨R3,h3⟩:=evJ_pre (ds:=ds) (fs:=fs) (n:=n) (k:=((a+1:Nat):Int)) (w:=rw_ rows i) j;refine ⟨R3++(R2++R1),?_⟩;have e:evN ds fs n rows (a+1)=evN ds fs n rows a++evI ds fs n ((a+1:Nat):Int) rows rows.length:=rfl;rw [h1,e,h2,evI_succ hi,h3];simp only [List.append_assoc]
theorem at_len (E:List (Int × List Int)) (t:Int):(at_ E t).length≤E.length:=by
 unfold at_;rw [List.length_map];exact List.length_filter_le _ _
theorem at_none (h : ∀e∈E,e.1≠t):at_ E t=[]:=by
 unfold at_;rw [List.filter_eq_nil_iff.2 fun e he=>by simpa using h e he]
 rfl
theorem at_perm (h:E.Perm F):(at_ E t).Perm (at_ F t):=(h.filter _).map _
theorem evI_len:(evI ds fs n k rows rows.length).length=rows.length * (csS ds fs k).length:=by
 unfold evI;rw [List.take_length,List.length_flatMap]
 have e:(fun w:List Int=>(evJ ds fs n k w (csS ds fs k).length).length)=fun _=>(csS ds fs k).length:=by
  funext w
  unfold evJ;rw [List.length_map,List.take_length]
 rw [e,List.map_const',List.sum_replicate_nat]
theorem evI_at (h:n+k≠t):at_ (evI ds fs n k rows i) t=[]:=at_none fun e he=>by
 unfold evI evJ at he
 obtain ⟨w,_,h1⟩:=List.mem_flatMap.1 he
 obtain ⟨c,_,rfl⟩:=List.mem_map.1 h1
 exact h
theorem evN_at (hc : ∀k,(csS ds fs k).length≤121) : ∀l:Nat,(at_ (evN ds fs n rows l) t).length≤rows.length * 121∧(n+(l:Int)<t→at_ (evN ds fs n rows l) t=[])
 | 0=>⟨Nat.zero_le _,fun _=>rfl⟩
 | l+1=>by
  obtain ⟨h1,h2⟩:=evN_at hc l
  have e:evN ds fs n rows (l+1)=evN ds fs n rows l++evI ds fs n ((l+1:Nat):Int) rows rows.length:=rfl
  rw [e,at_app]
  by_cases h3:n+((l+1:Nat):Int)=t
  ·rw [h2 (by omega),JxB]
   refine ⟨Nat.le_trans (at_len _ _) ?_,fun h=>by omega⟩
   rw [evI_len]
   exact Nat.mul_le_mul_left _ (hc _)
  ·rw [evI_at h3,List.append_nil]
   exact ⟨h1,fun h=>h2 (by omega)⟩
theorem evZ_at (hc : ∀k,(csS ds fs k).length≤121) : ∀{zs:List (Int × Re)},(∀x∈zs,x.2.r.length≤121)→(at_ (evZ ds fs m zs) t).length≤zs.length * 14641
 | [],_=>Nat.zero_le _
 | x::zs,h=>by
  have e:evZ ds fs m (x::zs)=evN ds fs x.1 x.2.r (m - x.1).toNat++evZ ds fs m zs:=rfl
  rw [e,at_app,List.length_append,List.length_cons]
  have h1:=(evN_at (n:=x.1) (t:=t) (rows:=x.2.r) hc (m - x.1).toNat).1
  have h2:=h x (by simp)
  have h3:=evZ_at hc (zs:=zs) fun y hy=>h y (by simp [hy])
  omega
theorem len_of : ∀{M:Nat} {l:List Int},l.Nodup→(∀x∈l,0≤x∧x<(M:Int))→l.length≤M
 | 0, [],_,_=>Nat.le_refl _
 | 0,a::l,_,h=>by have:=h a (by simp);omega
 | M+1,l,hn,h=>by
  by_cases hc:(M:Int)∈l
  ·obtain ⟨l1,l2,rfl⟩:=List.append_of_mem hc
   rw [List.nodup_append] at hn
   obtain ⟨n1,n2,n3⟩:=hn
   have n4:=List.nodup_cons.1 n2
   have h1:=len_of (M:=M) (l:=l1++l2) (by
    rw [List.nodup_append]
    exact ⟨n1,n4.2,fun a ha b hb=>n3 a ha b (by simp [hb])⟩) fun x hx=>by
    have h2:x∈l1++(M:Int)::l2:=by rcases List.mem_append.1 hx with h | h <;> simp [h]
    have h3:=h x h2
    have h4:x≠(M:Int):=fun e=>by
     subst e
     rcases List.mem_append.1 hx with h | h
     ·exact n3 _ h _ (by simp) rfl
     ·exact n4.1 h
    omega
   rw [List.length_append] at h1 ⊢
   rw [List.length_cons]
   omega
  ·have:=len_of (M:=M) (l:=l) hn fun x hx=>by
    have h3:=h x hx
    have h4:x≠(M:Int):=fun e=>hc (e ▸ hx)
    omega
   omega
theorem ev_ok (hA:AlgOk ds fs) (h8:ds.length≤8) (hd : ∀j,j<ds.length→1≤ds.getD j 0∧ds.getD j 0≤12) (hE:E.Perm (evZ ds fs m zs)) : ∀x∈at_ E t,RowOk (csS ds fs t).length x:=fun x hx=>by
 obtain ⟨z,hz,h2⟩:=List.mem_flatMap.1 (hE.subset (at_mem.1 hx))
 obtain ⟨l,hl,w,hw,c,hc,e⟩:=evN_mem.1 h2
 have e1:t=z.1+(l:Int):=congrArg Prod.fst e
 have e2:x=cvS ds fs z.1 l c w:=congrArg Prod.snd e
 rw [e1,e2]
 exact cvS_ok hA h8 hd hc
theorem SpOk.bd {k:Nat} (h:SpOk ds fs m k zs) (hA:AlgOk ds fs) (h8:ds.length≤8) (hd : ∀j,j<ds.length→1≤ds.getD j 0∧ds.getD j 0≤12) (hm:0≤m∧m≤20) (t:Int):(at_ (evZ ds fs m zs) t).length≤307461:=by
 have h1:=evZ_at (m:=m) (t:=t) (fun k=>csS_len (n:=k) hA h8 hd) (zs:=zs) fun x hx=>Nat.le_trans (h.red x hx).count (csS_len hA h8 hd)
 have h2:=len_of (M:=21) h.nd fun x hx=>by
  obtain ⟨z,hz,rfl⟩:=List.mem_map.1 hx;have:=h.key z hz
  omega
 rw [List.length_map] at h2
 omega
theorem evZ_mid {l1 l2:List (Int × Re)} {u:Int × Re}:evZ ds fs m (l1++u::l2)=evZ ds fs m l1++(evN ds fs u.1 u.2.r (m - u.1).toNat++evZ ds fs m l2):=by
 unfold evZ;rw [List.flatMap_append,List.flatMap_cons]
theorem ev_next {l1 l2:List (Int × Re)} {u:Int × Re} (h:(D++evZ ds fs m (l1++u::l2)).Perm F) {a:Nat} (ha:(m - u.1).toNat=a):(D++evN ds fs u.1 u.2.r a++evZ ds fs m (l1++l2)).Perm F:=by
 subst ha;refine List.Perm.trans ?_ h;rw [evZ_mid,List.append_assoc];refine List.Perm.append_left D ?_
 have e:evZ ds fs m (l1++l2)=evZ ds fs m l1++evZ ds fs m l2:=by unfold evZ;rw [List.flatMap_append]
 rw [e,← List.append_assoc,← List.append_assoc];exact List.Perm.append_right _ List.perm_append_comm
theorem ev_bd {l1 l2:List (Int × Re)} {u:Int × Re} {B a:Nat} (hb:(at_ F t).length≤B) (h:(D++evZ ds fs m (l1++u::l2)).Perm F) (hl:a+1≤(m - u.1).toNat) (hi:i<u.2.r.length) (j:Nat):(at_ (D++evN ds fs u.1 u.2.r a++evI ds fs u.1 ((a+1:Nat):Int) u.2.r i++evJ ds fs u.1 ((a+1:Nat):Int) (rw_ u.2.r i) j) t).length≤B:=by
 obtain ⟨R,hR⟩:=ev_pre (ds:=ds) (fs:=fs) (n:=u.1) hl hi j;have h1:=(at_perm (t:=t) h).length_eq;rw [evZ_mid,hR] at h1;simp only [at_app,List.length_append] at h1 ⊢
 omega
def anyR (vs:List (Int × Re)):Bool:=vs.any fun x=>decide (0<x.2.r.length)
theorem anyR_T {x:Int × Re} (h:anyR vs=true):anyR (x::vs)=true:=by
 unfold anyR at h ⊢;rw [List.any_cons,h,Bool.or_true]
theorem anyR_F {x:Int × Re} (h:anyR vs=false):anyR (x::vs)=decide (0<x.2.r.length):=by
 unfold anyR at h ⊢;rw [List.any_cons,h,Bool.or_false]
structure RdOk (zs ls vs:List (Int × Re)):Prop where
 pm:((ls++vs).map (·.1)).Perm (zs.map (·.1))
 sub : ∀x∈ls,x∈zs
 im : ∀x∈vs,∃y:Re,(x.1,y)∈zs∧x.2.r=redS y.r
theorem RdOk.zero (zs:List (Int × Re)):RdOk zs zs []:=⟨by rw [List.append_nil],fun _ h=>h,fun x hx=>by simp at hx⟩
theorem RdOk.next (h:RdOk zs ls vs) {l1 l2:List (Int × Re)} {u:Int × Re} (hl:ls=l1++u::l2) (q:Option Addr) (c:Nat):RdOk zs (l1++l2) ((u.1,⟨q,c,redS u.2.r⟩)::vs):=by
 subst hl;refine ⟨?_,fun x hx=>h.sub x (by rcases List.mem_append.1 hx with h | h <;> simp [h]),fun x hx=>?_⟩
 ·refine List.Perm.trans ?_ h.pm;simp only [List.map_append,List.map_cons,List.append_assoc,JxA];exact List.Perm.append_left _ List.perm_middle
 ·rcases List.mem_cons.1 hx with rfl | hx
  ·exact ⟨u.2,h.sub u (by simp),rfl⟩
  ·exact h.im x hx
theorem RdOk.nd (h:RdOk zs ls vs) (hn:(zs.map (·.1)).Nodup):((ls++vs).map (·.1)).Nodup:=h.pm.nodup_iff.2 hn
theorem spF_none (h : ∀z∈zs,z.1≠t):spF zs t=[]:=by
 unfold spF;rw [List.find?_eq_none.2 fun z hz=>by simpa using h z hz]
 rfl
theorem RdOk.sp (h:RdOk zs [] vs) (hn:(zs.map (·.1)).Nodup) (t:Int):spF vs t=redS (spF zs t):=by
 have hv:=h.nd hn;have hp:=h.pm;rw [JxB] at hv hp
 by_cases hc : ∃z∈vs,z.1=t
 ·obtain ⟨⟨t',y⟩,hz,e⟩:=hc;obtain rfl:t'=t:=e;obtain ⟨y0,hy,e⟩:=h.im _ hz;rw [spF_mem hv hz,spF_mem hn hy];exact e
 ·rw [spF_none fun z hz e=>hc ⟨z,hz,e⟩,spF_none fun z hz e=>by
   obtain ⟨z',h1,h2⟩:=List.mem_map.1 (hp.symm.subset (List.mem_map.2 ⟨z,hz,rfl⟩))
   exact hc ⟨z',h1,h2.trans e⟩]
  rfl
theorem step_any {k:Nat} (hG:isAlg ds fs=true) (hw:Wfss fs) (hm:0≤m∧m≤20) (hf : ∀t:Int,0≤t→t≤m→fit3 ds t) (h:SpOk ds fs m k zs) (hE:E.Perm (evZ ds fs m zs)) (hv:NxEv ys E) (hk : ∀x∈ys,0≤x.1∧x.1≤m) (hn:(ys.map (·.1)).Nodup) (hR:RdOk (nxR ys) [] vs):SpOk ds fs m (k+1) vs∧allE (nowK ds fs (m.toNat+1) (k+1)) = !anyR vs:=by
 have hn2:=nxR_nd hn;have hvn:=hR.nd hn2;rw [JxB] at hvn
 have hkey : ∀x∈vs,0≤x.1∧x.1≤m:=fun x hx=>by
  obtain ⟨y,hy,_⟩:=hR.im x hx;obtain ⟨z,hz,e⟩:=List.mem_map.1 hy;have e1:z.1=x.1:=congrArg Prod.fst e;rw [← e1];exact hk z hz
 obtain ⟨h1,h2⟩:=h.step hG hw hm hf hE hvn hkey fun t=>by rw [hR.sp hn2,nxR_sp,hv t]
 refine ⟨h1,?_⟩
 cases ha:anyR vs with
 | false=>
  refine allE_iff.2 fun n hn=>?_;rw [nowK_len] at hn
  have h3:r3_ (nowK ds fs (m.toNat+1) (k+1)) ((n:Int)).toNat=[]:=(h2 (n:Int) (by omega) (by omega)).2 (by
   refine List.eq_nil_iff_forall_not_mem.2 fun x hx=>?_;obtain ⟨y,hy,hxy⟩:=spF_in hx;have h4:(vs.any fun x=>decide (0<x.2.r.length))=false:=ha;have h5:=(List.any_eq_false.1 h4) _ hy
   have h6:y.r.length=0:=by simpa using h5
   rw [List.eq_nil_of_length_eq_zero h6] at hxy
   simp at hxy)
  rwa [Int.toNat_natCast] at h3
 | true=>
  show allE _=false
  refine Bool.eq_false_iff.2 fun hall=>?_;have h4:(vs.any fun x=>decide (0<x.2.r.length))=true:=ha;obtain ⟨x,hx,h5⟩:=List.any_eq_true.1 h4;have hkx:=hkey x hx;have h6:=(h2 x.1 hkx.1 hkx.2).1 (allE_iff.1 hall x.1.toNat (by rw [nowK_len];omega));rw [spF_mem hvn (y:=x.2) hx] at h6;rw [h6] at h5
  simp at h5
end
section
variable {P : Program} {c0 : Code} {Q : Exit → Act → World → Prop} {n : Nat} {B : World} {H0 H : HP} {us : List (Nat × Value)} {L L1 : List SA} {w : World}
theorem Hp.nxPut {b:Nat} {ys rest:List (Int × Bl)} {t:Int} {y:Bl} {q:Option Addr} {c:Nat} {v:List Int} {val:Value} (hO:NxOut ys rest t y) (h:Hp B H0 H (omap ekI evS okI b (putM (nxK ys) t ⟨q,y.rows.length+1,c⟩)::own 22 1 q (y.rows.length+1) c (y.vals++[val])::nxO rest::L) w):Hp B H0 H (nxM b ((t,⟨q,c,y.vals++[val],y.rows++[v]⟩)::rest)::L) w:=by
 have e:(y.rows++[v]).length=y.rows.length+1:=by simp
 refine Hp.nxIn (y:=⟨q,c,y.vals++[val],y.rows++[v]⟩) (xs:=putM (nxK ys) t ⟨q,y.rows.length+1,c⟩) ?_ ?_
 ·show (putM (nxK ys) t ⟨q,y.rows.length+1,c⟩).Perm ((t,⟨q,(y.rows++[v]).length,c⟩)::nxK rest)
  rw [e];exact hO.put _
 ·show Hp B H0 H (_::own 22 1 q (y.rows++[v]).length c (y.vals++[val])::_) w
  rw [e];exact h
theorem CJ.mirFix {b r:Nat} {vs:List (Int × Re)} {last:Option (Int × Re)} (hr:Rm L (mir ekI evR okI b r last [] vs) L1) (k : ∀H' es clk,Le H H' →MapE H' b es clk vs→CJ P c0 Q n B H0 us H' L1):CJ P c0 Q n B H0 us H L:=CJ.reL (fun w hH=>Hp.mirEnd (hH.front hr)) (CJ.fixMap .z k)
end
theorem u84:Tryz.prog.underlying 84=some (TypeDesc.map 2 31):=by kernel_rfl
theorem zv31:ZeroV Tryz.prog 31 (.slice none 0 0):=fun _=>by kernel_rfl
theorem fn40:Fn Tryz.prog 40:=⟨_,Tryz.func40,by kernel_rfl,rfl⟩
theorem fn43:Fn Tryz.prog 43:=⟨_,Tryz.func43,by kernel_rfl,rfl⟩
theorem fn44:Fn Tryz.prog 44:=⟨_,Tryz.func44,by kernel_rfl,rfl⟩
theorem dec_len (n:Nat):decide (0<n)=decide ((n:Int)>0):=decide_eq_decide.2 (by omega)
theorem Length_c {B:World} {H0 H:HP} {L:List SA} {w:World} {qad qaf:Option Addr} {cad caf:Nat} {ad:List Int} {af:List (List Term)} {m:Int} (had:Ints H qad ad) (haf:Forms H qaf af) (hn8:ad.length≤1048576) (hn9:af.length≤1048576) (hl9 : ∀i,i<af.length→(fm af i).length≤1048576) (hH:Hp B H0 H L w):Calls Tryz.prog 19 [.agg [.slice qad ad.length cad,.slice qaf af.length caf].toArray,.int .i64 m].toArray w fun e w'=>e = .returned (.tuple #[.int .i64 (lpV ad af m),.int .i64 (allC ad af m)])∧Hp B H0 H L w':=by
 refine Jx Tryz.func19 rfl 123 rfl rfl [(0,.agg [.slice qad ad.length cad,.slice qaf af.length caf].toArray),(1,.int .i64 m)] rfl hH ?_;have hw0:=hH.old;have hw1:=hH.le;clear hH;refine Je fun _ hK1 _=>(Jb (Ee rfl rfl rfl fun g2=>(J.freezeRow .z fun Hz2 hlez2 hcz2=>?_)));replace had:=had.le hlez2;replace haf:=haf.le hlez2;have pad:CellAt Hz2 g2 0 (.slice qad ad.length cad):=hcz2 0 _ rfl;have paf:CellAt Hz2 g2 1 (.slice qaf af.length caf):=hcz2 1 _ rfl;refine Jg (Jd rfl) rfl (Jg (Jd rfl) rfl (Jf (Ja (hK1 (Je fun _ hK2 _=>(Jb (Jg (Jc rfl) rfl (Jy fn40 rfl rfl fun w hH=>(askedUpTo_c pad paf had haf hn8 hn9 hl9 hH).mono ?_))))))));rintro _ w ⟨Hf24,bn24,ln24,hlf24,pn240,pn241,rfl,hH⟩;refine ⟨_,rfl,fun a hF=>JR hF hH ?_⟩;replace had:=had.le hlf24;replace haf:=haf.le hlf24;replace pad:=pad.le hlf24;replace paf:=paf.le hlf24;refine Jg (Jc rfl) rfl (Jg (JJ rfl rfl) rfl (Jg (JJ rfl rfl) rfl (Jg (Jd rfl) rfl (Jg (Jd rfl) rfl (Jf (Ja (hK2 (Je fun _ hK3 _=>(Je fun _ hK4 _=>(Jb (Jg (Jc rfl) rfl (Jg (Em rfl rfl) rfl (Jf (Ja (hK4 (Jo rfl (fun h28=>?_) (fun h28=>?_)))))))))))))))))
 ·
  refine Je fun _ hK5 _=>(Jb (Jg (Jc rfl) rfl (Jg (Jd rfl) rfl (Jg (Jd rfl) rfl (Jf (Ja (hK5 (Ju (Jp (EC rfl (Res.tmp rfl) (Res.tmp rfl) fun w hH=>?_))))))))));replace hH:=hH.sublist (.cons _ (List.Sublist.refl _));rw [lpV_n h28];exact ⟨rfl,hH.weaken (hlez2.trans hlf24) hw0 hw1⟩
 ·
  have h0:allC ad af m=0:=Decidable.not_not.1 h28;obtain ⟨hG,hm20,hwi⟩:=allC_y h0;have hwf:=haf.wfss;have hw:=hwf;have hA:=isAlg_ok hG hwf;have h8:=hA.hn;have hd:=alg_112 hG;have hft : ∀t:Int,0≤t→t≤m→fit3 ad t:=fun t h1 h2=>wi_f3 hwi (by omega) (by omega);refine Jm (Ja (hK3 (Je fun _ hK6 _=>(Jb (EO ekI evS okI rfl fun bm30=>(EL (MK.lit1I u22 ze2 sz2 rfl) rfl fun qo31 co31=>(Ew .z fun Ho31 hleo31 hAo31=>?_)))))));replace had:=had.le hleo31;replace haf:=haf.le hleo31;replace pad:=pad.le hleo31;replace paf:=paf.le hleo31;replace pn240:=pn240.le hleo31;replace pn241:=pn241.le hleo31;have hxo31:=own_ints hAo31;have hco31:=own_le hAo31;refine EL (EB u31 ze22 sz22 rfl rfl) rfl fun qo32 co32=>?_;have hS1:=(SlF.nil Ho31).snoc hxo31 rfl hco31;refine Ew .z fun Ho32 hleo32 hAo32=>?_;replace had:=had.le hleo32;replace haf:=haf.le hleo32;replace pad:=pad.le hleo32;replace paf:=paf.le hleo32;replace pn240:=pn240.le hleo32;replace pn241:=pn241.le hleo32;replace hxo31:=hxo31.le hleo32;replace hS1:=hS1.le hleo32;have hxo32:=hS1.rows (Le.refl _) hAo32;have hco32:=own_le hAo32;refine J.insert (ek:=ekI) (ev:=evS) (ok:=okI) (v:=(⟨qo32,1,co32⟩:Sl)) u84 kI rfl rfl rfl ⟨by omega,by omega⟩ At.z (Jg (Jc rfl) rfl (Jg (Jd rfl) rfl (Jf (Ja (hK6 (Je fun _ hK7 _=>(CJ.reL (fun w hH=>Hp.omConv (zs:=[(0,(⟨qo32,co32, [[1]]⟩:Re))]) hH) (CJ.fixMap .z fun Hm es0 clk0 hlem hME0=>?_))))))));replace had:=had.le hlem;replace haf:=haf.le hlem;replace pad:=pad.le hlem;replace paf:=paf.le hlem;replace pn240:=pn240.le hlem;replace pn241:=pn241.le hlem;replace hxo31:=hxo31.le hlem;replace hS1:=hS1.le hlem;replace hxo32:=hxo32.le hlem;refine Jb (Jg (Jd rfl) rfl (Jf (Ja (hK7 (Jk (JC (σ:=HP × List (Int × Lv) × Nat × Array MapEntry × Nat × List (Int × Re) × Nat) (fun ⟨Hk,lsk,b,es,clk,zs,k⟩=>[(9,.int .i64 (k:Int)),(8,.map (some b))]) (fun ⟨Hk,lsk,b,es,clk,zs,k⟩=>Hk) (fun ⟨Hk,lsk,b,es,clk,zs,k⟩=>cpx ln24 lsk::L) (fun ⟨Hk,lsk,b,es,clk,zs,k⟩=>Le Hm Hk∧(CpxOk Hk ad af (fun _=>False) lsk∧Nxt (fun _=>False) lsk)∧MapE Hk b es clk zs∧ReOk Hk zs∧SpOk ad af m k zs∧k<(m.toNat+1)∧∀j,j<k→allE (nowK ad af (m.toNat+1) (j+1))=false) (fun ⟨Hk,lsk,b,es,clk,zs,k⟩=>(m.toNat+1) - k) (Hm, [],bm30,es0,clk0, [(0,(⟨qo32,co32, [[1]]⟩:Re))],0) ⟨Le.refl _,⟨CpxOk.nil,Nxt.nil _⟩,hME0,fun x hx=>by rw [List.mem_singleton.1 hx];exact ⟨hxo32,hco32⟩,SpOk.zero hG hw hm20.1 (hft 0 (Int.le_refl _) hm20.1),by omega,fun j hj=>by omega⟩ ⟨rfl,⟨rfl,trivial⟩⟩ rfl rfl ?_))))));rintro ⟨Hk,lsk,b,es,clk,zs,k⟩ ⟨hlk,⟨hCk,hNk⟩,hME,hRO,hSp,hkM,hlo⟩ _ hAg0;replace had:=had.le hlk;replace haf:=haf.le hlk;replace pad:=pad.le hlk;replace paf:=paf.le hlk;replace pn240:=pn240.le hlk;replace pn241:=pn241.le hlk;replace hxo31:=hxo31.le hlk;replace hS1:=hS1.le hlk;replace hxo32:=hxo32.le hlk;replace hME0:=hME0.le hlk;refine Je fun _ hK8 _=>(Jk (Je fun _ hK9 _=>(Jb (EO ekI evS okI rfl fun bm36=>(J.reL (fun w hH=>Hp.nxNew hH) (Jg (Jd rfl) rfl (Jg (Jd rfl) rfl (Jf (Ja (hK9 (Je fun _ hK10 _=>(Je fun _ hK11 _=>(Jb (Jg (Jc rfl) rfl (J.range u84 rfl hME.1 hME.2 rfl fun r38=>?_)))))))))))))));refine Jf (Ja (hK11 (Jk (JC (σ:=HP × List (Int × Lv) × Option (Int × Re) × List (Int × Re) × List (Int × Bl) × List (Int × List Int)) (fun ⟨Hr,lsr,la,lr,ys,D⟩=>[]) (fun ⟨Hr,lsr,la,lr,ys,D⟩=>Hr) (fun ⟨Hr,lsr,la,lr,ys,D⟩=>itr ekI evR b es clk r38 la lr::nxM bm36 ys::cpx ln24 lsr::L) (fun ⟨Hr,lsr,la,lr,ys,D⟩=>Le Hk Hr∧(CpxOk Hr ad af (fun _=>False) lsr∧Nxt (fun _=>False) lsr)∧NxOk Hr ys∧NxEv ys D∧(∀x∈ys,0≤x.1∧x.1≤m)∧(D++evZ ad af m lr).Perm (evZ ad af m zs)∧∀x∈lr,x∈zs) (fun ⟨Hr,lsr,la,lr,ys,D⟩=>lr.length) (Hk,lsk,none,zs, [], []) ⟨Le.refl _,⟨hCk,hNk⟩,NxOk.nil _,NxEv.nil,(fun x (hx:x∈([]:List (Int × Bl)))=>nomatch hx),List.Perm.refl _,fun _ h=>h⟩ trivial rfl rfl ?_))));rintro ⟨Hr,lsr,la,lr,ys,D⟩ ⟨hlr,⟨hCr,hNr⟩,hNx,hEv,hKy,hPm,hsub⟩ _ hAg1;replace had:=had.le hlr;replace haf:=haf.le hlr;replace pad:=pad.le hlr;replace paf:=paf.le hlr;replace pn240:=pn240.le hlr;replace pn241:=pn241.le hlr;replace hxo31:=hxo31.le hlr;replace hS1:=hS1.le hlr;replace hxo32:=hxo32.le hlr;replace hME0:=hME0.le hlr;replace hCk:=hCk.le hlr;replace hME:=hME.le hlr;replace hRO:=hRO.le hlr;refine Je fun _ hK12 _=>(Jb (J.next rfl hME.1 hME.2 (fun _ _=>At.z) rfl (fun hE39=>?_) (fun nx39 la39 lb39 hL39=>?_)))
  ·
   have hPm9:D.Perm (evZ ad af m zs):=by
    have h9:=hPm;have e9:evZ ad af m ([]:List (Int × Re))=[]:=rfl;rw [hE39,e9,List.append_nil] at h9;exact h9
   refine Jg (JJ rfl rfl) rfl (Jf (Ja (hK12 (Je fun _ hK13 _=>(Eo rfl (JG (Jj (Jj (JL (Ja (hK10 (Je fun _ hK14 _=>(Je fun _ hK15 _=>(CJ.nxFix (.s .z) hNx fun H24 hle24 hRx=>?_))))))))))))));replace had:=had.le hle24;replace haf:=haf.le hle24;replace pad:=pad.le hle24;replace paf:=paf.le hle24;replace pn240:=pn240.le hle24;replace pn241:=pn241.le hle24;replace hxo31:=hxo31.le hle24;replace hS1:=hS1.le hle24;replace hxo32:=hxo32.le hle24;replace hME0:=hME0.le hle24;replace hCk:=hCk.le hle24;replace hME:=hME.le hle24;replace hRO:=hRO.le hle24;replace hCr:=hCr.le hle24;replace hNx:=hNx.le hle24;refine Jb (Jg (Jc rfl) rfl (J.rangeO (ek:=ekI) (ev:=evR) (ok:=okI) u84 rfl (fun _=>At.z) rfl fun r101=>(Jf (Ja (hK15 (Jk (JC (σ:=HP × Option (Int × Re) × List (Int × Re) × List (Int × Re)) (fun ⟨Hb,l5,lb,vb⟩=>[(11,.bool (anyR vb))]) (fun ⟨Hb,l5,lb,vb⟩=>Hb) (fun ⟨Hb,l5,lb,vb⟩=>mir ekI evR okI bm36 r101 l5 lb vb::itr ekI evR b es clk r38 la lr::cpx ln24 lsr::L) (fun ⟨Hb,l5,lb,vb⟩=>Le H24 Hb∧ReOk Hb vb∧RdOk (nxR ys) lb vb) (fun ⟨Hb,l5,lb,vb⟩=>lb.length) (H24,none,nxR ys, []) ⟨Le.refl _,(fun x (hx:x∈([]:List (Int × Re)))=>nomatch hx),RdOk.zero _⟩ ⟨rfl,trivial⟩ rfl rfl ?_)))))));rintro ⟨Hb,l5,lb,vb⟩ ⟨hlb,hVb,hRd⟩ _ hAg2;replace had:=had.le hlb;replace haf:=haf.le hlb;replace pad:=pad.le hlb;replace paf:=paf.le hlb;replace pn240:=pn240.le hlb;replace pn241:=pn241.le hlb;replace hxo31:=hxo31.le hlb;replace hS1:=hS1.le hlb;replace hxo32:=hxo32.le hlb;replace hME0:=hME0.le hlb;replace hCk:=hCk.le hlb;replace hME:=hME.le hlb;replace hRO:=hRO.le hlb;replace hCr:=hCr.le hlb;replace hNx:=hNx.le hlb;replace hRx:=hRx.le hlb;refine Je fun _ hK16 _=>(Jb (J.nextO rfl (fun _ _ _=>At.z) rfl (fun hE102=>?_) (fun nx102 la102 lb102 hL102=>?_)))
   ·
    refine Jg (JJ rfl rfl) rfl (Jf (Ja (hK16 (Je fun _ hK17 _=>(Eo rfl (JG (Jj (Jj (JL (Ja (hK14 (Je fun _ hK18 _=>(Je fun _ hK19 _=>?_)))))))))))));subst hE102;refine CJ.mirFix .z fun H29 es29 clk29 hle29 hME29=>?_;replace had:=had.le hle29;replace haf:=haf.le hle29;replace pad:=pad.le hle29;replace paf:=paf.le hle29;replace pn240:=pn240.le hle29;replace pn241:=pn241.le hle29;replace hxo31:=hxo31.le hle29;replace hS1:=hS1.le hle29;replace hxo32:=hxo32.le hle29;replace hME0:=hME0.le hle29;replace hCk:=hCk.le hle29;replace hME:=hME.le hle29;replace hRO:=hRO.le hle29;replace hCr:=hCr.le hle29;replace hNx:=hNx.le hle29;replace hRx:=hRx.le hle29;replace hVb:=hVb.le hle29;obtain ⟨hSp9,hAll⟩:=step_any hG hw hm20 hft hSp hPm9 hEv hKy hNx.nd hRd;refine Jb (Jg (Jc rfl) rfl (Jg (En rfl) rfl (Jf (Ja (hK19 (Eh rfl (fun h120=>?_) (fun h120=>?_)))))))
    ·
     have hend:allE (nowK ad af (m.toNat+1) (k+1))=true:=by rw [hAll];exact h120
     refine Je fun _ hK20 _=>(Jb (Jg (Jc rfl) rfl (Jg (Jd rfl) rfl (Jg (Jd rfl) rfl (Jf (Ja (hK20 (Ju (Jp (JT (Jp (Jp (JT (EC rfl (Res.tmp rfl) (Res.tmp rfl) fun w hH=>?_))))))))))))));replace hH:=hH.sublist (.cons _ (.cons _ (List.Sublist.refl _)));rw [lpV_y h0 hkM hlo hend,h0];exact ⟨rfl,hH.weaken (((((((((hlez2.trans hlf24).trans hleo31).trans hleo32).trans hlem).trans hlk).trans hlr).trans hle24).trans hlb).trans hle29) hw0 hw1⟩
    ·
     have hgo:allE (nowK ad af (m.toNat+1) (k+1))=false:=by rw [hAll];exact h120
     refine Jm (Ja (hK18 (Jb (Jg (Jc rfl) rfl (Jg (Jd rfl) rfl (Jf (JD (Ja (hK8 (Jb (Jg (Jc rfl) rfl (Jg (Jz rfl rfl (by first | exact nw _ (by omega) | rfl)) rfl (Jg (Jd rfl) rfl (Jf (Ja (JN .z ?_))))))))))))))));exact hAg0 (H29,lsr,bm36,es29,clk29,vb,k+1) ⟨((((hlk.trans hlr).trans hle24).trans hlb).trans hle29),⟨hCr,hNr⟩,hME29,hVb,hSp9,lop_next hkM hgo,upto hlo hgo⟩ (by show (m.toNat+1) - (k+1)<(m.toNat+1) - k;omega) 21 rfl rfl ⟨rfl,⟨rfl,trivial⟩⟩ rfl rfl
   ·
    have hz102:nx102∈nxR ys:=hRd.sub nx102 (by rw [hL102];simp);obtain ⟨hEx,hExc⟩:=hRx nx102 hz102
    have hk102:0≤nx102.1∧nx102.1≤m:=by
     obtain ⟨z,hz,e⟩:=List.mem_map.1 hz102;have h9:=hKy z hz;rw [← e];exact h9
    have he102:nx102.2.r=at_ D nx102.1:=by
     rw [← spF_mem (nxR_nd hNx.nd) (y:=nx102.2) hz102,nxR_sp,hEv]
    have hok102 : ∀r∈nx102.2.r,RowOk (csS ad af nx102.1).length r:=by
     rw [he102];exact ev_ok hA h8 hd hPm9
    have hlen102:nx102.2.r.length≤307461:=by
     rw [he102,(at_perm hPm9).length_eq];exact hSp.bd hA h8 hd hm20 _
    have hcl102:=csS_len (n:=nx102.1) hA h8 hd;refine Jg (JJ rfl rfl) rfl (Jf (Ja (hK16 (Je fun _ hK21 _=>(ED rfl (Jm (Ja (hK21 (Jk (Je fun _ hK22 _=>(Jb (Jg (PR.entryO rfl At.z) rfl (Jg (JJ rfl rfl) rfl (Jg (JJ rfl rfl) rfl (Jg (Jd rfl) rfl (Jg (Jd rfl) rfl ?_))))))))))))))));refine Jf (Ja (hK22 (Je fun _ hK23 _=>(Jb (Jg (Jc rfl) rfl (Jg (Jc rfl) rfl (Jg (Jc rfl) rfl (Jy fn46 rfl rfl fun w hH=>(reduce_c hEx hok102 (by omega) (by omega) hH).mono ?_))))))));rintro _ w ⟨qo110,co110,vso110,rfl,hH⟩;refine ⟨_,rfl,fun a hF=>JR hF hH ?_⟩;refine Ew .z fun Ho110 hleo110 hAo110=>?_;replace had:=had.le hleo110;replace haf:=haf.le hleo110;replace pad:=pad.le hleo110;replace paf:=paf.le hleo110;replace pn240:=pn240.le hleo110;replace pn241:=pn241.le hleo110;replace hxo31:=hxo31.le hleo110;replace hS1:=hS1.le hleo110;replace hxo32:=hxo32.le hleo110;replace hME0:=hME0.le hleo110;replace hCk:=hCk.le hleo110;replace hME:=hME.le hleo110;replace hRO:=hRO.le hleo110;replace hCr:=hCr.le hleo110;replace hNx:=hNx.le hleo110;replace hRx:=hRx.le hleo110;replace hVb:=hVb.le hleo110;replace hEx:=hEx.le hleo110;have hxo110:=own_rows hAo110;have hco110:=own_le hAo110.1;have hRd9:=hRd.next hL102 qo110 co110;have hnd9:=hRd9.nd (nxR_nd hNx.nd);refine J.updO (ek:=ekI) (ev:=evR) (ok:=okI) (k:=nx102.1) (v0:=nx102.2) (v:=(⟨qo110,co110,redS nx102.2.r⟩:Re)) u84 kI rfl rfl rfl ⟨by omega,by omega⟩ At.z (Jf (Ja (hK23 (Jb (Jg (Jc rfl) rfl (Jg (Jc rfl) rfl (Ek (jd:=112) rfl (fun hg112=>?_) (fun hg112=>?_))))))))
    ·
     try have hg112p:=of_decide_eq_true hg112
     refine JW rfl rfl rfl hg112 (JW rfl rfl rfl hg112 (JW rfl rfl rfl hg112 (JW rfl rfl rfl hg112 (JW rfl rfl rfl hg112 (Jg (Ea rfl hg112 rfl) rfl (Jg (Jd rfl) rfl (Jf (JD (Ja ?_)))))))))
     exact hAg2 (Ho110,none,la102++lb102,(nx102.1,(⟨qo110,co110,redS nx102.2.r⟩:Re))::vb) ⟨(hlb.trans hleo110),(fun x hx=>by
      rcases List.mem_cons.1 hx with rfl | hx
      ·exact ⟨hxo110,hco110⟩
      ·exact hVb x hx),hRd9⟩ (by rw [hL102];simp) 21 rfl rfl ⟨(by rw [anyR_T hg112];rfl),trivial⟩ rfl rfl
    ·
     try have hg112p:=of_decide_eq_false hg112
     refine JX (Jc rfl) rfl rfl rfl hg112 (JX (Jc rfl) rfl rfl rfl hg112 (JX (EK (v':=.slice qo110 (redS nx102.2.r).length co110) (by rw [look_some (b:=(⟨qo110,co110,redS nx102.2.r⟩:Re)) hnd9 (by simp)];rfl) (PR.lookM (ek:=ekI) (ev:=evR) (ok:=okI) u84 kI zv31 rfl At.z rfl ⟨by omega,by omega⟩)) rfl rfl rfl hg112 (JX (Jn u31 rfl rfl) rfl rfl rfl hg112 (JX (EH rfl rfl) rfl rfl rfl hg112 (Jg (JY rfl hg112 rfl) rfl (Jg (Jd rfl) rfl (Jf (JD (Ja ?_)))))))))
     exact hAg2 (Ho110,none,la102++lb102,(nx102.1,(⟨qo110,co110,redS nx102.2.r⟩:Re))::vb) ⟨(hlb.trans hleo110),(fun x hx=>by
      rcases List.mem_cons.1 hx with rfl | hx
      ·exact ⟨hxo110,hco110⟩
      ·exact hVb x hx),hRd9⟩ (by rw [hL102];simp) 21 rfl rfl ⟨(by rw [anyR_F hg112,dec_len];rfl),trivial⟩ rfl rfl
  ·
   have hz39:nx39∈zs:=hsub nx39 (by rw [hL39];simp);have hk39:=hSp.key nx39 hz39;obtain ⟨hEr,hErc⟩:=hRO nx39 hz39;have hrd:=hSp.red nx39 hz39;have hrl:=hrd.count;have hcl39:=csS_len (n:=nx39.1) hA h8 hd;have hfn:=hft nx39.1 hk39.1 hk39.2;have hcsn:=csS_red (n:=nx39.1) hA h8 hd;have hlnc : ∀i,i<(csS ad af nx39.1).length→(rw_ (csS ad af nx39.1) i).length=(monL ad nx39.1).length:=fun i hi=>(hcsn.row _ (rw_mem hi)).len;refine Jg (JJ rfl rfl) rfl (Jf (Ja (hK12 (Je fun _ hK24 _=>(ED rfl (Jm (Ja (hK24 (Jk (Je fun _ hK25 _=>(Jb (Jg (PR.entry rfl hME.1 hME.2 At.z) rfl (Jg (JJ rfl rfl) rfl (Jg (JJ rfl rfl) rfl (Jg (Jd rfl) rfl (Jg (Jd rfl) rfl ?_))))))))))))))));refine Jf (Ja (hK25 (Je fun _ hK26 _=>(Jb (Jg (Jd rfl) rfl (Jf (Ja (hK26 (Jk (JC (σ:=HP × List (Int × Lv) × List (Int × Bl) × Nat) (fun ⟨Hs,lss,yt,kk⟩=>[(14,.int .i64 ((kk+1:Nat):Int))]) (fun ⟨Hs,lss,yt,kk⟩=>Hs) (fun ⟨Hs,lss,yt,kk⟩=>itr ekI evR b es clk r38 (some nx39) (la39++lb39)::nxM bm36 yt::cpx ln24 lss::L) (fun ⟨Hs,lss,yt,kk⟩=>Le Hr Hs∧(CpxOk Hs ad af (fun _=>False) lss∧Nxt (fun _=>False) lss)∧NxOk Hs yt∧NxEv yt (D++evN ad af nx39.1 nx39.2.r kk)∧(∀x∈yt,0≤x.1∧x.1≤m)∧nx39.1+(kk:Int)≤m) (fun ⟨Hs,lss,yt,kk⟩=>(m - nx39.1).toNat - kk) (_,lsr,ys,0) ⟨Le.refl _,⟨hCr,hNr⟩,hNx,(by show NxEv ys (D++[]);rw [List.append_nil];exact hEv),hKy,by omega⟩ ⟨rfl,trivial⟩ rfl rfl ?_))))))))));rintro ⟨Hs,lss,yt,kk⟩ ⟨hls,⟨hCs,hNs⟩,hNxs,hEvs,hKys,hkk⟩ _ hAg3;replace had:=had.le hls;replace haf:=haf.le hls;replace pad:=pad.le hls;replace paf:=paf.le hls;replace pn240:=pn240.le hls;replace pn241:=pn241.le hls;replace hxo31:=hxo31.le hls;replace hS1:=hS1.le hls;replace hxo32:=hxo32.le hls;replace hME0:=hME0.le hls;replace hCk:=hCk.le hls;replace hME:=hME.le hls;replace hRO:=hRO.le hls;replace hCr:=hCr.le hls;replace hNx:=hNx.le hls;replace hEr:=hEr.le hls;refine Je fun _ hK27 _=>(Je fun _ hK28 _=>(Jb (Jg (Jc rfl) rfl (Jg (Jc rfl) rfl (Jg (Jz rfl rfl (by first | exact nw _ (by omega) | rfl)) rfl (Jg (Jc rfl) rfl (Jg (ET rfl rfl) rfl (Jf (Ja (hK28 (Jo rfl (fun h48=>?_) (fun h48=>?_))))))))))))
   ·
    have hfs:=hft ((kk+1:Nat):Int) (by omega) (by omega);have hftt:=hft (nx39.1+((kk+1:Nat):Int)) (by omega) (by omega);have hcls:=csS_len (n:=((kk+1:Nat):Int)) hA h8 hd;refine Jm (Ja (hK27 (Je fun _ hK29 _=>(Jk (Je fun _ hK30 _=>(Jb (Jg (Jc rfl) rfl (Jg (Jn u31 rfl rfl) rfl (Jg (Jc rfl) rfl (Jf (Ja (hK30 (Jk (JC (σ:=HP × List (Int × Lv) × List (Int × Bl) × Nat) (fun ⟨Hi,lsi,yi,i⟩=>[(53,.int .i64 (i:Int))]) (fun ⟨Hi,lsi,yi,i⟩=>Hi) (fun ⟨Hi,lsi,yi,i⟩=>itr ekI evR b es clk r38 (some nx39) (la39++lb39)::nxM bm36 yi::cpx ln24 lsi::L) (fun ⟨Hi,lsi,yi,i⟩=>Le Hs Hi∧(CpxOk Hi ad af (fun _=>False) lsi∧Nxt (fun _=>False) lsi)∧NxOk Hi yi∧NxEv yi (D++evN ad af nx39.1 nx39.2.r kk++evI ad af nx39.1 ((kk+1:Nat):Int) nx39.2.r i)∧(∀x∈yi,0≤x.1∧x.1≤m)∧i≤nx39.2.r.length) (fun ⟨Hi,lsi,yi,i⟩=>nx39.2.r.length - i) (_,lss,yt,0) ⟨Le.refl _,⟨hCs,hNs⟩,hNxs,(by show NxEv yt (D++evN ad af nx39.1 nx39.2.r kk++[]);rw [List.append_nil];exact hEvs),hKys,by omega⟩ ⟨rfl,trivial⟩ rfl rfl ?_))))))))))))));rintro ⟨Hi,lsi,yi,i⟩ ⟨hli,⟨hCi,hNi⟩,hNxi,hEvi,hKyi,hi⟩ _ hAg4;replace had:=had.le hli;replace haf:=haf.le hli;replace pad:=pad.le hli;replace paf:=paf.le hli;replace pn240:=pn240.le hli;replace pn241:=pn241.le hli;replace hxo31:=hxo31.le hli;replace hS1:=hS1.le hli;replace hxo32:=hxo32.le hli;replace hME0:=hME0.le hli;replace hCk:=hCk.le hli;replace hME:=hME.le hli;replace hRO:=hRO.le hli;replace hCr:=hCr.le hli;replace hNx:=hNx.le hli;replace hEr:=hEr.le hli;replace hCs:=hCs.le hli;replace hNxs:=hNxs.le hli;refine Je fun _ hK31 _=>(Jb (Jg (JO rfl rfl) rfl (Jf (Ja (hK31 (Je fun _ hK32 _=>(Jo rfl (fun h54=>?_) (fun h54=>?_))))))))
    ·
     have hi1:i<nx39.2.r.length:=by omega
     have hro:=hrd.row _ (rw_mem hi1);refine Jm (Ja (hK32 (Je fun _ hK33 _=>(Jk (Je fun _ hK34 _=>(Jb (Jg (JQ u31 sz22 rfl rfl rfl hi1 hEr.sm) rfl ?_)))))));obtain ⟨qe56,ce56,he56,le56,Fe56⟩:=hEr i hi1;refine Jg (JF rfl he56 pl22) rfl (Jg (Jd rfl) rfl (Jf (Ja (hK34 (Je fun _ hK35 _=>(Jb (Jg (Jc rfl) rfl (Jg (Jc rfl) rfl (Jy fn41 rfl rfl fun w hH=>(at_c pn240 pn241 pad paf had haf hd h8 (by omega) hA hfs (fun m hm hf=>hom_of hG hw h8 hd (by omega) hf) hCi hNi (hH.front (.s (.s .z)))).mono ?_)))))))));rintro _ w ⟨Hf59,ls59,⟨b59,p59,⟨ql59,kl59,cl59⟩,⟨qm59,km59,cm59⟩,⟨qz59,kz59,cz59⟩,⟨qy59,ky59,cy59⟩,⟨qx59,kx59,cx59⟩⟩,hlf59,hC59,hN59,hx59,⟨hL59,hM59,hkp59⟩,rfl,hH⟩;refine ⟨_,rfl,fun a hF=>JR hF hH ?_⟩;replace had:=had.le hlf59;replace haf:=haf.le hlf59;replace pad:=pad.le hlf59;replace paf:=paf.le hlf59;replace pn240:=pn240.le hlf59;replace pn241:=pn241.le hlf59;replace hxo31:=hxo31.le hlf59;replace hS1:=hS1.le hlf59;replace hxo32:=hxo32.le hlf59;replace hME0:=hME0.le hlf59;replace hCk:=hCk.le hlf59;replace hME:=hME.le hlf59;replace hRO:=hRO.le hlf59;replace hCr:=hCr.le hlf59;replace hNx:=hNx.le hlf59;replace hEr:=hEr.le hlf59;replace hCs:=hCs.le hlf59;replace hNxs:=hNxs.le hlf59;replace hCi:=hCi.le hlf59;replace hNxi:=hNxi.le hlf59;replace Fe56:=Fe56.le hlf59;obtain rfl:kl59=(monL ad (((kk+1:Nat):Int))).length:=(hC59.ok _ hx59).one.len;have hpw59:Pows Hf59 ql59 (monL ad (((kk+1:Nat):Int))):=(hC59.ok _ hx59).one.pw;have hpl59:SumH Hf59 (.map (some p59)) (plM (monL ad (((kk+1:Nat):Int)))):=(hC59.ok _ hx59).one.pl;obtain ⟨⟨e1,hz59⟩,⟨e2,hb59⟩,e3,hs59⟩:(kz59=(clS ad af (((kk+1:Nat):Int))).length∧RowsR Hf59 qz59 (clS ad af (((kk+1:Nat):Int))))∧(ky59=(bdS ad af (((kk+1:Nat):Int))).length∧RowsR Hf59 qy59 (bdS ad af (((kk+1:Nat):Int))))∧kx59=(csS ad af (((kk+1:Nat):Int))).length∧RowsR Hf59 qx59 (csS ad af (((kk+1:Nat):Int))):=hL59;subst e1 e2 e3;refine Jg (JI rfl) rfl (Jg (Js u88 rfl sz31 rfl) rfl (Jg (PR.loadCx (b:=b59) (k:=5) (v:=.slice qx59 (csS ad af (((kk+1:Nat):Int))).length cx59) rfl At.z hx59 rfl rfl pl31) rfl (Jg (Jn u31 rfl rfl) rfl (Jg (Jc rfl) rfl (Jf (Ja (hK35 (Jk (JC (σ:=HP × List (Int × Lv) × List (Int × Bl) × Nat) (fun ⟨Hj,lsj,yj,j⟩=>[(64,.int .i64 (j:Int))]) (fun ⟨Hj,lsj,yj,j⟩=>Hj) (fun ⟨Hj,lsj,yj,j⟩=>cpx ln24 lsj::itr ekI evR b es clk r38 (some nx39) (la39++lb39)::nxM bm36 yj::L) (fun ⟨Hj,lsj,yj,j⟩=>Le Hf59 Hj∧(CpxOk Hj ad af (fun _=>False) lsj∧Nxt (fun _=>False) lsj)∧NxOk Hj yj∧NxEv yj (D++evN ad af nx39.1 nx39.2.r kk++evI ad af nx39.1 ((kk+1:Nat):Int) nx39.2.r i++evJ ad af nx39.1 ((kk+1:Nat):Int) (rw_ nx39.2.r i) j)∧(∀x∈yj,0≤x.1∧x.1≤m)∧j≤(csS ad af ((kk+1:Nat):Int)).length) (fun ⟨Hj,lsj,yj,j⟩=>(csS ad af ((kk+1:Nat):Int)).length - j) (_,ls59,yi,0) ⟨Le.refl _,⟨hC59,hN59⟩,hNxi,(by show NxEv yi (D++evN ad af nx39.1 nx39.2.r kk++evI ad af nx39.1 ((kk+1:Nat):Int) nx39.2.r i++[]);rw [List.append_nil];exact hEvi),hKyi,by omega⟩ ⟨rfl,trivial⟩ rfl rfl ?_)))))))));rintro ⟨Hj,lsj,yj,j⟩ ⟨hlj,⟨hCj,hNj⟩,hNxj,hEvj,hKyj,hj⟩ _ hAg5;replace had:=had.le hlj;replace haf:=haf.le hlj;replace pad:=pad.le hlj;replace paf:=paf.le hlj;replace pn240:=pn240.le hlj;replace pn241:=pn241.le hlj;replace hxo31:=hxo31.le hlj;replace hS1:=hS1.le hlj;replace hxo32:=hxo32.le hlj;replace hME0:=hME0.le hlj;replace hCk:=hCk.le hlj;replace hME:=hME.le hlj;replace hRO:=hRO.le hlj;replace hCr:=hCr.le hlj;replace hNx:=hNx.le hlj;replace hEr:=hEr.le hlj;replace hCs:=hCs.le hlj;replace hNxs:=hNxs.le hlj;replace hCi:=hCi.le hlj;replace hNxi:=hNxi.le hlj;replace Fe56:=Fe56.le hlj;replace hC59:=hC59.le hlj;replace hpw59:=hpw59.le hlj;replace hpl59:=hpl59.le hlj;replace hz59:=hz59.le hlj;replace hb59:=hb59.le hlj;replace hs59:=hs59.le hlj;refine Je fun _ hK36 _=>(Jb (Jg (JO rfl rfl) rfl (Jf (Ja (hK36 (Je fun _ hK37 _=>(Jo rfl (fun h65=>?_) (fun h65=>?_))))))))
     ·
      have hj1:j<(csS ad af ((kk+1:Nat):Int)).length:=by omega
      refine Jm (Ja (hK37 (Je fun _ hK38 _=>(Jk (Je fun _ hK39 _=>(Jb (Jg (Jc rfl) rfl (Jg (Jd rfl) rfl (Jf (Ja (hK39 (Je fun _ hK40 _=>(Jb (Jg (Jc rfl) rfl (Jg (Jc rfl) rfl (Jg (Jc rfl) rfl ?_))))))))))))))));refine Jy fn42 rfl rfl fun w hH=>(classForm_c pn240 pn241 pad paf had haf hG (by omega) hfs hCj hNj (by omega) (hH.front .z)).mono ?_;rintro _ w ⟨Hf71,ls71,bo71,v71,hlf71,hC71,hN71,hv71,rfl,hH⟩;refine ⟨_,rfl,fun a hF=>JR hF hH ?_⟩;replace had:=had.le hlf71;replace haf:=haf.le hlf71;replace pad:=pad.le hlf71;replace paf:=paf.le hlf71;replace pn240:=pn240.le hlf71;replace pn241:=pn241.le hlf71;replace hxo31:=hxo31.le hlf71;replace hS1:=hS1.le hlf71;replace hxo32:=hxo32.le hlf71;replace hME0:=hME0.le hlf71;replace hCk:=hCk.le hlf71;replace hME:=hME.le hlf71;replace hRO:=hRO.le hlf71;replace hCr:=hCr.le hlf71;replace hNx:=hNx.le hlf71;replace hEr:=hEr.le hlf71;replace hCs:=hCs.le hlf71;replace hNxs:=hNxs.le hlf71;replace hCi:=hCi.le hlf71;replace hNxi:=hNxi.le hlf71;replace Fe56:=Fe56.le hlf71;replace hC59:=hC59.le hlf71;replace hpw59:=hpw59.le hlf71;replace hpl59:=hpl59.le hlf71;replace hz59:=hz59.le hlf71;replace hb59:=hb59.le hlf71;replace hs59:=hs59.le hlf71;replace hCj:=hCj.le hlf71;replace hNxj:=hNxj.le hlf71;refine Jg (Jc rfl) rfl (Jg (JJ rfl rfl) rfl (Jg (JJ rfl rfl) rfl (Jg (Jd rfl) rfl (Jg (Jd rfl) rfl (Jf (Ja (hK40 ?_)))))));have hc1:(0≤(j:Int)∧(j:Int)<((csS ad af ((kk+1:Nat):Int)).length:Int)):=⟨by omega,by omega⟩;obtain rfl:=hv71 hc1;refine CJ.reL (L':=osum bo71 (cfM ad af ((kk+1:Nat):Int) (j:Int))::_::_::_::_) (fun w hH=>by rw [if_pos hc1] at hH;exact hH) (CJ.kcxC (.s .z) hC71 hN71 fun vc21=>(CJ.nxOutC (nx39.1+((kk+1:Nat):Int)) (.s (.s (.s .z))) hNxj fun rest21 y21 hO hsl21 hNr21=>?_))
      have hb21:y21.rows.length≤307461:=by
       rw [hO.row,hEvj];exact ev_bd (hSp.bd hA h8 hd hm20 _) (by rw [← hL39];exact hPm) (by omega) hi1 j
      obtain ⟨hsk,hskk⟩:=cmb_ok (w:=rw_ nx39.2.r i) (monL_pok h8) hlnc (csS ad af nx39.1).length (Nat.le_refl _);obtain ⟨hso71,hk71⟩:=cfM_ok (n:=((kk+1:Nat):Int)) (i:=(j:Int)) hA h8 hd (by omega);refine Ej (Rs:=[_,_,_,_,_,_]) 25 [[], [], [], [1,2], [], [], [], [5,6], [4,5,6,7], [], [], [], [10,11], [], [], [], [13,14,15], [], [17], [], [13,14,15,16,17,18,19], [9,10,11,12,13,14,15,16,17,18,19,20], [9,10,11,12,13,14,15,16,17,18,19,20,21], [4,5,6,7,8,9,10,11,12,13,14,15,16,17,18,19,20,21,22], [0,1,2,3,4,5,6,7,8,9,10,11,12,13,14,15,16,17,18,19,20,21,22,23]] [[], [], [], [], [], [], [], [], [25], [], [], [], [], [], [], [], [], [], [], [], [16,29], [], [], [22], []] [[], [], [], [], [], [], [], [], [], [], [], [], [], [], [], [], [28], [], [], [], [], [16,20], [], [26], [25]] rfl rfl (by kernel_rfl) ?_;apply Jl 1 rfl
      iterate 3 focus (intros;(conv=>lhs;simp only [Jh,Jr,JM,Jt,JH,eq_self,reduceEqDiff,reduceIte,reduceSub,reduceAdd,JxA,JxB]);all_goals rfl)
      ·
       intro gh X K zq zc zq2 zc2 zb zv hK;refine Jg (Jc rfl) rfl (Ji ?_);exact hK zq zc zq2 zc2 zb zv
      ·
       intro gh gh' h
       rfl
      apply Jl 2 rfl
      iterate 3 focus (intros;(conv=>lhs;simp only [Jh,Jr,JM,Jt,JH,eq_self,reduceEqDiff,reduceIte,reduceSub,reduceAdd,JxA,JxB]);all_goals rfl)
      ·
       intro gh X K zq zc zq2 zc2 zb zv hK;refine Jg (Jc rfl) rfl (Ji ?_);exact hK zq zc zq2 zc2 zb zv
      ·
       intro gh gh' h
       rfl
      apply Jl 3 rfl
      iterate 3 focus (intros;(conv=>lhs;simp only [Jh,Jr,JM,Jt,JH,eq_self,reduceEqDiff,reduceIte,reduceSub,reduceAdd,JxA,JxB]);all_goals rfl)
      ·
       intro gh X K zq zc zq2 zc2 zb zv hK;refine Jg (Jc rfl) rfl (Ji ?_);exact hK zq zc zq2 zc2 zb zv
      ·
       intro gh gh' h
       rfl
      apply Jl 4 rfl
      iterate 3 focus (intros;(conv=>lhs;simp only [Jh,Jr,JM,Jt,JH,eq_self,reduceEqDiff,reduceIte,reduceSub,reduceAdd,JxA,JxB]);all_goals rfl)
      ·
       intro gh X K zq zc zq2 zc2 zb zv hK;refine Jg (Jz rfl rfl (by first | exact nw _ (by omega) | rfl)) rfl (Ji ?_);exact hK zq zc zq2 zc2 zb zv
      ·
       intro gh gh' h
       rfl
      apply Jl 5 rfl
      iterate 3 focus (intros;(conv=>lhs;simp only [Jh,Jr,JM,Jt,JH,eq_self,reduceEqDiff,reduceIte,reduceSub,reduceAdd,JxA,JxB]);all_goals rfl)
      ·
       intro gh X K zq zc zq2 zc2 zb zv hK;refine Jg (Jc rfl) rfl (Ji ?_);exact hK zq zc zq2 zc2 zb zv
      ·
       intro gh gh' h
       rfl
      apply Jl 6 rfl
      iterate 3 focus (intros;(conv=>lhs;simp only [Jh,Jr,JM,Jt,JH,eq_self,reduceEqDiff,reduceIte,reduceSub,reduceAdd,JxA,JxB]);all_goals rfl)
      ·
       intro gh X K zq zc zq2 zc2 zb zv hK;refine Jg (Jc rfl) rfl (Ji ?_);exact hK zq zc zq2 zc2 zb zv
      ·
       intro gh gh' h
       rfl
      apply Jl 7 rfl
      iterate 3 focus (intros;(conv=>lhs;simp only [Jh,Jr,JM,Jt,JH,eq_self,reduceEqDiff,reduceIte,reduceSub,reduceAdd,JxA,JxB]);all_goals rfl)
      ·
       intro gh X K zq zc zq2 zc2 zb zv hK;refine Jg (Jc rfl) rfl (Ji ?_);exact hK zq zc zq2 zc2 zb zv
      ·
       intro gh gh' h
       rfl
      apply Jl 8 rfl
      iterate 3 focus (intros;(conv=>lhs;simp only [Jh,Jr,JM,Jt,JH,eq_self,reduceEqDiff,reduceIte,reduceSub,reduceAdd,JxA,JxB]);all_goals rfl)
      ·
       intro gh X K zq zc zq2 zc2 zb zv hK;refine Jg (Jz rfl rfl (by first | exact nw _ (by omega) | rfl)) rfl (Ji ?_);exact hK zq zc zq2 zc2 zb zv
      ·
       intro gh gh' h
       rfl
      apply Jl 9 rfl
      iterate 3 focus (intros;(conv=>lhs;simp only [Jh,Jr,JM,Jt,JH,eq_self,reduceEqDiff,reduceIte,reduceSub,reduceAdd,JxA,JxB]);all_goals rfl)
      ·
       intro gh X K zq zc zq2 zc2 zb zv hK;refine Jg (EK (v':=.slice y21.q y21.rows.length y21.c) hO.look (PR.lookO (ek:=ekI) (ev:=evS) (ok:=okI) u84 kI zv31 rfl At.z rfl ⟨by omega,by omega⟩)) rfl (Ji ?_);exact hK zq zc zq2 zc2 zb zv
      ·
       intro gh gh' h
       rfl
      apply Jl 10 rfl
      iterate 3 focus (intros;(conv=>lhs;simp only [Jh,Jr,JM,Jt,JH,eq_self,reduceEqDiff,reduceIte,reduceSub,reduceAdd,JxA,JxB]);all_goals rfl)
      ·
       intro gh X K zq zc zq2 zc2 zb zv hK;refine Jg (Jc rfl) rfl (Ji ?_);exact hK zq zc zq2 zc2 zb zv
      ·
       intro gh gh' h
       rfl
      apply Jl 11 rfl
      iterate 3 focus (intros;(conv=>lhs;simp only [Jh,Jr,JM,Jt,JH,eq_self,reduceEqDiff,reduceIte,reduceSub,reduceAdd,JxA,JxB]);all_goals rfl)
      ·
       intro gh X K zq zc zq2 zc2 zb zv hK;refine Jg (Jc rfl) rfl (Ji ?_);exact hK zq zc zq2 zc2 zb zv
      ·
       intro gh gh' h
       rfl
      apply Jl 12 rfl
      iterate 3 focus (intros;(conv=>lhs;simp only [Jh,Jr,JM,Jt,JH,eq_self,reduceEqDiff,reduceIte,reduceSub,reduceAdd,JxA,JxB]);all_goals rfl)
      ·
       intro gh X K zq zc zq2 zc2 zb zv hK;refine Jg (Jc rfl) rfl (Ji ?_);exact hK zq zc zq2 zc2 zb zv
      ·
       intro gh gh' h
       rfl
      apply Jl 13 rfl
      iterate 3 focus (intros;(conv=>lhs;simp only [Jh,Jr,JM,Jt,JH,eq_self,reduceEqDiff,reduceIte,reduceSub,reduceAdd,JxA,JxB]);all_goals rfl)
      ·
       intro gh X K zq zc zq2 zc2 zb zv hK;refine Jg (Jz rfl rfl (by first | exact nw _ (by omega) | rfl)) rfl (Ji ?_);exact hK zq zc zq2 zc2 zb zv
      ·
       intro gh gh' h
       rfl
      apply Jl 14 rfl
      iterate 3 focus (intros;(conv=>lhs;simp only [Jh,Jr,JM,Jt,JH,eq_self,reduceEqDiff,reduceIte,reduceSub,reduceAdd,JxA,JxB]);all_goals rfl)
      ·
       intro gh X K zq zc zq2 zc2 zb zv hK;refine Jg (Jc rfl) rfl (Ji ?_);exact hK zq zc zq2 zc2 zb zv
      ·
       intro gh gh' h
       rfl
      apply Jl 15 rfl
      iterate 3 focus (intros;(conv=>lhs;simp only [Jh,Jr,JM,Jt,JH,eq_self,reduceEqDiff,reduceIte,reduceSub,reduceAdd,JxA,JxB]);all_goals rfl)
      ·
       intro gh X K zq zc zq2 zc2 zb zv hK;refine Jg (Jc rfl) rfl (Ji ?_);exact hK zq zc zq2 zc2 zb zv
      ·
       intro gh gh' h
       rfl
      apply Jl 16 rfl
      iterate 3 focus (intros;(conv=>lhs;simp only [Jh,Jr,JM,Jt,JH,eq_self,reduceEqDiff,reduceIte,reduceSub,reduceAdd,JxA,JxB]);all_goals rfl)
      ·
       intro gh X K zq zc zq2 zc2 zb zv hK;refine Jg (Jc rfl) rfl (Ji ?_);exact hK zq zc zq2 zc2 zb zv
      ·
       intro gh gh' h
       rfl
      apply GJ.st2 17 rfl
      iterate 3 focus (intros;(conv=>lhs;simp only [Jh,Jr,JM,Jt,JH,eq_self,reduceEqDiff,reduceIte,reduceSub,reduceAdd,JxA,JxB]);all_goals rfl)
      ·
       intro gh X K zq zc zq2 zc2 zb zv hK;refine Jy fn44 rfl rfl fun w hH=>(combine_m pn240 pn241 pad paf had haf Fe56 hG (by omega) hfn hro (hH.front .z)).mono ?_;rintro _ w ⟨bo90,vo90,rfl,hH⟩;refine ⟨_,rfl,fun a hF9=>JR hF9 hH ?_⟩;refine Ji ?_;exact hK zq zc zq2 zc2 bo90 vo90
      ·
       intro gh gh' h;refine ⟨?_,?_,?_⟩ <;> rfl
      apply Jl 18 rfl
      iterate 3 focus (intros;(conv=>lhs;simp only [Jh,Jr,JM,Jt,JH,eq_self,reduceEqDiff,reduceIte,reduceSub,reduceAdd,JxA,JxB]);all_goals rfl)
      ·
       intro gh X K zq zc zq2 zc2 zb zv hK;refine Jg (Js u36 rfl sz22 rfl) rfl (Ji ?_);exact hK zq zc zq2 zc2 zb zv
      ·
       intro gh gh' h
       rfl
      apply Jl 19 rfl
      iterate 3 focus (intros;(conv=>lhs;simp only [Jh,Jr,JM,Jt,JH,eq_self,reduceEqDiff,reduceIte,reduceSub,reduceAdd,JxA,JxB]);all_goals rfl)
      ·
       intro gh X K zq zc zq2 zc2 zb zv hK;refine Jg (JF (q:=some ⟨g2,0,none⟩) (k:=0) rfl pad pl22) rfl (Ji ?_);exact hK zq zc zq2 zc2 zb zv
      ·
       intro gh gh' h
       rfl
      apply Jl 20 rfl
      iterate 3 focus (intros;(conv=>lhs;simp only [Jh,Jr,JM,Jt,JH,eq_self,reduceEqDiff,reduceIte,reduceSub,reduceAdd,JxA,JxB]);all_goals rfl)
      ·
       intro gh X K zq zc zq2 zc2 zb zv hK;refine Jg (Jc rfl) rfl (Ji ?_);exact hK zq zc zq2 zc2 zb zv
      ·
       intro gh gh' h
       rfl
      apply JZ 21 rfl
      iterate 3 focus (intros;(conv=>lhs;simp only [Jh,Jr,JM,Jt,JH,eq_self,reduceEqDiff,reduceIte,reduceSub,reduceAdd,JxA,JxB]);all_goals rfl)
      ·
       intro gh X K zq zc zq2 zc2 zb zv hK;refine Jy fn45 rfl rfl fun w hH=>hH.lend .z fun Hl1 hle1 hA1 hB1 hH=>hH.lend (.s .z) fun Hl2 hle2 hA2 hB2 hH=>(times_c ((omap_H hA1).le hle2) hsk ((had.le hle1).le hle2) (omap_H hA2) hso71 hA.hn hA.hd (by omega) hH).mono ?_;rintro _ w ⟨bo94,rfl,hH⟩;replace hH:=hB2 _ _ hH;replace hH:=hB1 _ _ hH;refine ⟨_,rfl,fun a hF=>JR hF hH ?_⟩;refine Jw (.s .z) (Jw (.s (.s (.s .z))) (Jw (.s (.s .z)) (Jw (.s (.s (.s .z))) (Ji ?_))));exact hK zq zc zq2 zc2 bo94 zv
      ·
       intro gh gh' h;refine ⟨?_,?_⟩ <;> (first | simp only [h 16 rfl] | rfl)
      apply GJ.st3 22 rfl
      iterate 3 focus (intros;(conv=>lhs;simp only [Jh,Jr,JM,Jt,JH,eq_self,reduceEqDiff,reduceIte,reduceSub,reduceAdd,JxA,JxB]);all_goals rfl)
      ·
       intro gh X K zq zc zq2 zc2 zb zv hK;refine Jy fn43 rfl rfl fun w hH=>(class_mm (n:=(nx39.1+((kk+1:Nat):Int))) (Ms:=40) pn240 pn241 pad paf had haf (hsk.times hso71) hG (by omega) hftt (by omega) (times_mon h8 hd hsk hso71 hskk hk71 hftt.1.1 (by omega)) ((hH.front (.s .z)).front (.s (.s .z)))).mono ?_;rintro _ w ⟨qo95,co95,vo95,rfl,hH⟩;refine ⟨_,rfl,fun a hF9=>JR hF9 hH ?_⟩;refine Ji ?_;exact hK qo95 co95 zq2 zc2 zb vo95
      ·
       intro gh gh' h;refine ⟨?_,?_,?_,?_⟩ <;> (first | simp only [h 16 rfl,h 20 rfl] | rfl)
      apply JZ 23 rfl
      iterate 3 focus (intros;(conv=>lhs;simp only [Jh,Jr,JM,Jt,JH,eq_self,reduceEqDiff,reduceIte,reduceSub,reduceAdd,JxA,JxB]);all_goals rfl)
      ·
       intro gh X K zq zc zq2 zc2 zb zv hK;refine EL (EB u31 ze22 sz22 rfl rfl) rfl fun qo96 co96=>(Ji ?_);exact hK qo96 co96 zq2 zc2 zb zv
      ·
       intro gh gh' h;refine ⟨?_,?_⟩ <;> (first | simp only [h 16 rfl,h 20 rfl,h 21 rfl] | rfl)
      apply JZ 24 rfl
      iterate 3 focus (intros;(conv=>lhs;simp only [Jh,Jr,JM,Jt,JH,eq_self,reduceEqDiff,reduceIte,reduceSub,reduceAdd,JxA,JxB]);all_goals rfl)
      ·
       intro gh X K zq zc zq2 zc2 zb zv hK;refine EA u31 ze22 sz22 by22 rfl rfl rfl rfl (by omega) (.s .z) At.z (fun _ _=>At.z) rfl fun qo97 co97=>(Jw .z (Jw (.s .z) (Ji ?_)));exact hK qo97 co97 zq2 zc2 zb zv
      ·
       intro gh gh' h;refine ⟨?_,?_⟩ <;> (first | simp only [h 16 rfl,h 20 rfl,h 21 rfl,h 22 rfl] | rfl)
      apply ES 25 rfl
      iterate 3 focus (intros;(conv=>lhs;simp only [Jh,Jr,JM,Jt,JH,eq_self,reduceEqDiff,reduceIte,reduceSub,reduceAdd,JxA,JxB]);all_goals rfl)
      ·
       intro gh X K hK;refine J.mapUpdate (ek:=ekI) (ev:=evS) (ok:=okI) (v:=(⟨(gh 23).q,y21.rows.length+1,(gh 23).c⟩:Sl)) u84 kI rfl rfl rfl ⟨by omega,by omega⟩ At.z (Ji ?_);exact hK
      ·
       intro gh gh' h
       first | simp only [h 16 rfl,h 20 rfl,h 21 rfl,h 22 rfl,h 23 rfl] | rfl
      apply Ei [0,1,2,3,4,5,6,7,8,9,10,11,12,13,14,15,16,17,18,19,20,21,22,23,24] [0,1,2,3,4,5,6,7,8,9,10,11,12,13,14,15,17,18,19,21,22,23,24,27,29,30] foll0 rfl rfl rfl (by rfl)
      iterate 2 focus (intros;(conv=>lhs;simp only [Jh,Jr,JM,Jt,JH,eq_self,reduceEqDiff,reduceIte,reduceSub,reduceAdd,JxA,JxB]);all_goals rfl)
      intro gh;generalize (gh 16).b=bo90;generalize (gh 16).vs=vo90;generalize (gh 20).b=bo94;generalize (gh 21).c=co95;generalize (gh 21).q=qo95;generalize (gh 21).vs=vo95;generalize (gh 22).c=co96;generalize (gh 22).q=qo96;generalize (gh 23).c=co97;generalize (gh 23).q=qo97;clear gh;refine EJ.unmeltA (.s .z) fun Hz Az hlez hKz=>?_;obtain ⟨lsz,hCz,hNz,rfl⟩:=hKz;replace had:=had.le hlez;replace haf:=haf.le hlez;replace pad:=pad.le hlez;replace paf:=paf.le hlez;replace pn240:=pn240.le hlez;replace pn241:=pn241.le hlez;replace hxo31:=hxo31.le hlez;replace hS1:=hS1.le hlez;replace hxo32:=hxo32.le hlez;replace hME0:=hME0.le hlez;replace hCk:=hCk.le hlez;replace hME:=hME.le hlez;replace hRO:=hRO.le hlez;replace hCr:=hCr.le hlez;replace hNx:=hNx.le hlez;replace hEr:=hEr.le hlez;replace hCs:=hCs.le hlez;replace hNxs:=hNxs.le hlez;replace hCi:=hCi.le hlez;replace hNxi:=hNxi.le hlez;replace Fe56:=Fe56.le hlez;replace hC59:=hC59.le hlez;replace hpw59:=hpw59.le hlez;replace hpl59:=hpl59.le hlez;replace hz59:=hz59.le hlez;replace hb59:=hb59.le hlez;replace hs59:=hs59.le hlez;replace hCj:=hCj.le hlez;replace hNxj:=hNxj.le hlez;replace hC71:=hC71.le hlez;replace hsl21:=hsl21.le hlez;replace hNr21:=hNr21.le hlez;refine EF (.s .z) fun Ho95 hleo95 hAo95=>?_;replace had:=had.le hleo95;replace haf:=haf.le hleo95;replace pad:=pad.le hleo95;replace paf:=paf.le hleo95;replace pn240:=pn240.le hleo95;replace pn241:=pn241.le hleo95;replace hxo31:=hxo31.le hleo95;replace hS1:=hS1.le hleo95;replace hxo32:=hxo32.le hleo95;replace hME0:=hME0.le hleo95;replace hCk:=hCk.le hleo95;replace hME:=hME.le hleo95;replace hRO:=hRO.le hleo95;replace hCr:=hCr.le hleo95;replace hNx:=hNx.le hleo95;replace hEr:=hEr.le hleo95;replace hCs:=hCs.le hleo95;replace hNxs:=hNxs.le hleo95;replace hCi:=hCi.le hleo95;replace hNxi:=hNxi.le hleo95;replace Fe56:=Fe56.le hleo95;replace hC59:=hC59.le hleo95;replace hpw59:=hpw59.le hleo95;replace hpl59:=hpl59.le hleo95;replace hz59:=hz59.le hleo95;replace hb59:=hb59.le hleo95;replace hs59:=hs59.le hleo95;replace hCj:=hCj.le hleo95;replace hNxj:=hNxj.le hleo95;replace hC71:=hC71.le hleo95;replace hsl21:=hsl21.le hleo95;replace hNr21:=hNr21.le hleo95;replace hCz:=hCz.le hleo95;have hxo95:=own_ints hAo95;have hco95:=own_le hAo95;refine Jw (.s (.s (.s (.s (.s (.s (.s .z))))))) (Jw (.s (.s (.s (.s (.s (.s (.s .z))))))) (Jw (.s (.s (.s (.s .z)))) (Jw (.s (.s (.s (.s .z)))) (Jw (.s (.s (.s (.s .z)))) (Jw (.s (.s (.s (.s (.s (.s (.s .z))))))) (Jw (.s (.s (.s (.s (.s (.s .z)))))) (Jw (.s (.s (.s (.s (.s (.s (.s .z))))))) (EJ.reL (fun w hH=>Hp.nxPut (v:=(cvS ad af nx39.1 ((kk+1:Nat):Int) (rw_ (csS ad af ((kk+1:Nat):Int)) j) (rw_ nx39.2.r i))) hO hH) ?_))))))));have hNx9:NxOk Ho95 (((nx39.1+((kk+1:Nat):Int)),(⟨qo97,co97,y21.vals++[.slice qo95 (cvS ad af nx39.1 ((kk+1:Nat):Int) (rw_ (csS ad af ((kk+1:Nat):Int)) j) (rw_ nx39.2.r i)).length co95],y21.rows++[(cvS ad af nx39.1 ((kk+1:Nat):Int) (rw_ (csS ad af ((kk+1:Nat):Int)) j) (rw_ nx39.2.r i))]⟩:Bl))::rest21):=NxOk.cons hO hNr21 (hsl21.snoc (r:=(cvS ad af nx39.1 ((kk+1:Nat):Int) (rw_ (csS ad af ((kk+1:Nat):Int)) j) (rw_ nx39.2.r i))) hxo95 rfl hco95);have hEv9:=NxEv.snoc (v:=(cvS ad af nx39.1 ((kk+1:Nat):Int) (rw_ (csS ad af ((kk+1:Nat):Int)) j) (rw_ nx39.2.r i))) (y':=(⟨qo97,co97,y21.vals++[.slice qo95 (cvS ad af nx39.1 ((kk+1:Nat):Int) (rw_ (csS ad af ((kk+1:Nat):Int)) j) (rw_ nx39.2.r i)).length co95],y21.rows++[(cvS ad af nx39.1 ((kk+1:Nat):Int) (rw_ (csS ad af ((kk+1:Nat):Int)) j) (rw_ nx39.2.r i))]⟩:Bl)) hO hEvj rfl
      have hKy9 : ∀x∈(((nx39.1+((kk+1:Nat):Int)),(⟨qo97,co97,y21.vals++[.slice qo95 (cvS ad af nx39.1 ((kk+1:Nat):Int) (rw_ (csS ad af ((kk+1:Nat):Int)) j) (rw_ nx39.2.r i)).length co95],y21.rows++[(cvS ad af nx39.1 ((kk+1:Nat):Int) (rw_ (csS ad af ((kk+1:Nat):Int)) j) (rw_ nx39.2.r i))]⟩:Bl))::rest21:List (Int × Bl)),0≤x.1∧x.1≤m:=fun x hx=>by
       rcases List.mem_cons.1 hx with rfl | hx
       ·exact ⟨by show 0≤(nx39.1+((kk+1:Nat):Int));omega,by show (nx39.1+((kk+1:Nat):Int))≤m;omega⟩
       ·exact hKyj x (hO.sub x hx)
      refine JD (Ja (hK38 (Jb (Jg (Jz rfl rfl (by first | exact nw _ (by omega) | rfl)) rfl (Jg (Jc rfl) rfl (Jf (Ja (JN (.s (.s .z)) (JN (.s (.s .z)) (JN (.s (.s .z)) (Jw .z (Jw (.s (.s .z)) (Jw (.s (.s .z)) ?_)))))))))))));exact hAg5 (Ho95,lsz,_,j+1) ⟨(((hlj.trans hlf71).trans hlez).trans hleo95),⟨hCz,hNz⟩,hNx9,(by rw [evJ_succ hj1,← List.append_assoc];exact hEv9),hKy9,by omega⟩ (by show (csS ad af ((kk+1:Nat):Int)).length - (j+1)<(csS ad af ((kk+1:Nat):Int)).length - j;omega) 39 rfl rfl ⟨rfl,trivial⟩ rfl rfl
     ·
      refine JG (Jj (Jj (JL (JD (Ja (hK33 (Jb (Jg (Jz rfl rfl (by first | exact nw _ (by omega) | rfl)) rfl (Jg (Jc rfl) rfl (Jf (Ja (Jw .z (Jw (.s (.s .z)) (Jw (.s (.s .z)) ?_))))))))))))))
      exact hAg4 (Hj,lsj,yj,i+1) ⟨((hli.trans hlf59).trans hlj),⟨hCj,hNj⟩,hNxj,(by
       have hje:j=(csS ad af ((kk+1:Nat):Int)).length:=by omega
       subst hje;rw [evI_succ hi1,← List.append_assoc]
       exact hEvj),hKyj,by omega⟩ (by show nx39.2.r.length - (i+1)<nx39.2.r.length - i;omega) 17 rfl rfl ⟨rfl,trivial⟩ rfl rfl
    ·
     refine JG (Jj (Jj (JL (JD (Ja (hK29 (Jb (Jg (Jc rfl) rfl (Jg (Jz rfl rfl (by first | exact nw _ (by omega) | rfl)) rfl (Jg (Jd rfl) rfl (Jf (Ja ?_))))))))))))
     exact hAg3 (Hi,lsi,yi,kk+1) ⟨(hls.trans hli),⟨hCi,hNi⟩,hNxi,(by
      have hie:i=nx39.2.r.length:=by omega
      subst hie
      show NxEv yi (D++(evN ad af nx39.1 nx39.2.r kk++evI ad af nx39.1 ((kk+1:Nat):Int) nx39.2.r nx39.2.r.length))
      rw [← List.append_assoc]
      exact hEvi),hKyi,by omega⟩ (by show (m - nx39.1).toNat - (kk+1)<(m - nx39.1).toNat - kk;omega) 14 rfl rfl ⟨rfl,trivial⟩ rfl rfl
   ·
    refine JG (Jj (Jj (JL (JD (Ja ?_)))));exact hAg1 (Hs,lss,some nx39,la39++lb39,yt,D++evN ad af nx39.1 nx39.2.r kk) ⟨(hlr.trans hls),⟨hCs,hNs⟩,hNxs,hEvs,hKys,ev_next (by rw [← hL39];exact hPm) (by omega),fun x hx=>hsub x (by rw [hL39];rcases List.mem_append.1 hx with h | h <;> simp [h])⟩ (by rw [hL39];simp) 14 rfl rfl trivial rfl rfl
theorem ag25:Agg Tryz.prog 25 2:=⟨_,u25,rfl,by kernel_rfl⟩
theorem fn12:Fn Tryz.prog 12:=⟨_,Tryz.func12,by kernel_rfl,rfl⟩
theorem fn18:Fn Tryz.prog 18:=⟨_,Tryz.func18,by kernel_rfl,rfl⟩
theorem fn19:Fn Tryz.prog 19:=⟨_,Tryz.func19,by kernel_rfl,rfl⟩
theorem fn5:Fn Tryz.prog 5:=⟨_,Tryz.func5,by kernel_rfl,rfl⟩
theorem fn8:Fn Tryz.prog 8:=⟨_,Tryz.func8,by kernel_rfl,rfl⟩
theorem lawLength_c {B:World} {H0 H:HP} {L:List SA} {w:World} {qad qaf:Option Addr} {cad caf:Nat} {ad:List Int} {af:List (List Term)} {m:Int} (had:Ints H qad ad) (haf:Forms H qaf af) (hn:ad.length≤9223372036854775807∧af.length≤9223372036854775807) (hl : ∀i,i<af.length→(fm af i).length≤9223372036854775807) (hH:Hp B H0 H L w):Calls Tryz.prog 4 [.agg [.slice qad ad.length cad,.slice qaf af.length caf].toArray,.int .i64 m].toArray w fun e w'=>e = .returned (.bool true)∧Below B.heap.size B w':=by
 refine Jx Tryz.func4 rfl 44 rfl rfl [(0,.agg [.slice qad ad.length cad,.slice qaf af.length caf].toArray),(1,.int .i64 m)] rfl hH ?_;clear hH;refine Je fun _ hK1 _=>(Jb (Ee rfl rfl rfl fun g2=>(Jg (Jd rfl) rfl (Jf (Ja (hK1 (Je fun _ hK2 _=>(Jb (Jg (Jd rfl) rfl (Jf (Ja (hK2 (Je fun _ hK3 _=>(Jb (Jg (JA rfl At.z (by simpa [*] using ag25)) rfl (Jg (Jc rfl) rfl ?_))))))))))))))));refine Jy fn5 rfl rfl fun w hH=>(szAlgebra_c had haf (by omega) hl hH).mono ?_;rintro _ w ⟨rfl,hH⟩;refine ⟨_,rfl,fun a hF=>JR hF hH ?_⟩;refine Jg (Jd rfl) rfl (Jf (Ja (hK3 (Je fun _ hK4 _=>(Je fun _ hK5 _=>(Jb (Jg (Jc rfl) rfl (Jg (JO rfl rfl) rfl (Jf (Ja (hK5 (Jo rfl (fun h11=>?_) (fun h11=>?_)))))))))))))
 ·
  refine Je fun _ hK6 _=>(Jb (Jg (Jd rfl) rfl (Jf (Ja (hK6 (Ju (Jp (Jq rfl (Res.tmp rfl) fun w hH=>?_))))))));replace hH:=hH.tail
  first | exact ⟨rfl,hH.below⟩ | exact absurd rfl h11p | exact absurd rfl h11 | (exfalso;omega) | (simp at h11;done)
 ·
  have hsz:ad.length+af.length+tot af≤1048576:=by unfold szv at h11;split at h11 <;> omega
  have hl6 : ∀i,i<af.length→(fm af i).length≤1048576:=fun i hi=>by have:=tot_fm hi;omega
  refine Jm (Ja (hK4 (Je fun _ hK7 _=>(Jb (Jg (JA rfl At.z (by simpa [*] using ag25)) rfl (Jy fn8 rfl rfl fun w hH=>(toAlgebra_c had haf (by omega) hl6 hH).mono ?_))))));rintro _ w ⟨qdo18,cdo18,qfo18,cfo18,vso18,rfl,hH⟩;refine ⟨_,rfl,fun a hF=>JR hF hH ?_⟩;refine Jg (Jc rfl) rfl (Jy fn18 rfl rfl fun w hH=>hH.lend .z fun Hl1 hle1 hA1 hB1 hH=>hH.lend .z fun Hl2 hle2 hA2 hB2 hH=>(sLength_c ((own_ints hA1).le hle2) (own_forms haf.wfss hA2) (by omega) (by omega) hl6 hH).mono ?_);rintro _ w ⟨rfl,hH⟩;replace hH:=hB2 _ _ hH;replace hH:=hB1 _ _ hH;refine ⟨_,rfl,fun a hF=>JR hF hH ?_⟩;refine Jg (Jc rfl) rfl (Jg (JJ rfl rfl) rfl (Jg (JJ rfl rfl) rfl (Jg (Jd rfl) rfl (Jg (Jd rfl) rfl (Jf (Ja (hK7 (Je fun _ hK8 _=>(Jb (Jg (JA rfl (.s (.s .z)) (by simpa [*] using ag25)) rfl (Jy fn8 rfl rfl fun w hH=>(toAlgebra_c had haf (by omega) hl6 hH).mono ?_)))))))))));rintro _ w ⟨qdo24,cdo24,qfo24,cfo24,vso24,rfl,hH⟩;refine ⟨_,rfl,fun a hF=>JR hF hH ?_⟩;refine JU ze36 rfl fun g8=>(JK rfl rfl (by first | exact bytesC_one _ | exact intsC_one _ | exact Term.c_one _ | simp [Value.oneCell']) (by simpa [*] using sz36) (by simp [*]) At.z (Jf (Ja (hK8 (Je fun _ hK9 _=>(Jb (Jg (JA rfl At.z (by simpa [*] using ag36)) rfl (Jg (Jc rfl) rfl (Jy fn19 rfl rfl fun w hH=>hH.lend (.s .z) fun Hl1 hle1 hA1 hB1 hH=>hH.lend (.s .z) fun Hl2 hle2 hA2 hB2 hH=>(Length_c ((own_ints hA1).le hle2) (own_forms haf.wfss hA2) (by omega) (by omega) hl6 hH).mono ?_)))))))));rintro _ w ⟨rfl,hH⟩;replace hH:=hB2 _ _ hH;replace hH:=hB1 _ _ hH;refine ⟨_,rfl,fun a hF=>JR hF hH ?_⟩;refine Jg (Jc rfl) rfl (Jg (JJ rfl rfl) rfl (Jg (JJ rfl rfl) rfl (Jg (Jd rfl) rfl (Jg (Jd rfl) rfl (Jf (Ja (hK9 (Je fun _ hK10 _=>(Je fun _ hK11 _=>(Jb (Jg (Jc rfl) rfl (Jg (Jc rfl) rfl (Jg (Em rfl rfl) rfl (Jg (Jc rfl) rfl (Ek (jd:=34) rfl (fun hg34=>?_) (fun hg34=>?_))))))))))))))))
  ·
   try have hg34p:=of_decide_eq_true hg34
   refine JW rfl rfl rfl hg34 (JW rfl rfl rfl hg34 (JW rfl rfl rfl hg34 (Jg (Ea rfl hg34 rfl) rfl (Jf (Ja (hK11 (ED rfl (Je fun _ hK12 _=>(Jb (Jg (Jd rfl) rfl (Jf (Ja (hK12 (Ju (Jp (Jq rfl (Res.tmp rfl) fun w hH=>?_))))))))))))))));replace hH:=hH.tail;replace hH:=hH.tail;replace hH:=hH.tail;replace hH:=hH.tail;replace hH:=hH.tail;replace hH:=hH.tail
   first | exact ⟨rfl,hH.below⟩ | exact absurd rfl hg34p | exact absurd rfl hg34 | (exfalso;omega) | (simp at hg34;done)
  ·
   try have hg34p:=of_decide_eq_false hg34
   refine JX (Jc rfl) rfl rfl rfl hg34 (JX (Jc rfl) rfl rfl rfl hg34 (JX (Em rfl rfl) rfl rfl rfl hg34 (Jg (JY rfl hg34 rfl) rfl (Jf (Ja (hK11 (Jo rfl (fun hc38=>?_) (fun hc38=>?_))))))))
   ·
    refine Je fun _ hK13 _=>(Jb (Jg (Jd rfl) rfl (Jf (Ja (hK13 (Ju (Jp (Jq rfl (Res.tmp rfl) fun w hH=>?_))))))));replace hH:=hH.tail;replace hH:=hH.tail;replace hH:=hH.tail;replace hH:=hH.tail;replace hH:=hH.tail;replace hH:=hH.tail
    first | exact ⟨rfl,hH.below⟩ | exact absurd rfl hc38p | exact absurd rfl hc38 | (exfalso;omega) | (simp at hc38;done)
   ·
    refine Jm (Ja (hK10 (Je fun _ hK14 _=>(Je fun _ hK15 _=>(Ej (Rs:=[_,_,_,_,_,_]) 5 [[], [], [1], [0,1,2], [0,1,2,3]] [[7], [10], [], [2,5,6], []] [[], [], [], [], []] rfl rfl (by kernel_rfl) ?_)))));apply Jl 1 rfl
    iterate 3 focus (intros;(conv=>lhs;simp only [Jh,Jr,JM,Jt,JH,eq_self,reduceEqDiff,reduceIte,reduceSub,reduceAdd,JxA,JxB]);all_goals rfl)
    ·
     intro gh X K zq zc zq2 zc2 zb zv hK;refine Jg (JA rfl At.z (by simpa [*] using ag36)) rfl (Ji ?_);exact hK zq zc zq2 zc2 zb zv
    ·
     intro gh gh' h
     rfl
    apply Jl 2 rfl
    iterate 3 focus (intros;(conv=>lhs;simp only [Jh,Jr,JM,Jt,JH,eq_self,reduceEqDiff,reduceIte,reduceSub,reduceAdd,JxA,JxB]);all_goals rfl)
    ·
     intro gh X K zq zc zq2 zc2 zb zv hK;refine Jg (JA rfl At.z (by simpa [*] using ag25)) rfl (Ji ?_);exact hK zq zc zq2 zc2 zb zv
    ·
     intro gh gh' h
     rfl
    apply GJ.st2 3 rfl
    iterate 3 focus (intros;(conv=>lhs;simp only [Jh,Jr,JM,Jt,JH,eq_self,reduceEqDiff,reduceIte,reduceSub,reduceAdd,JxA,JxB]);all_goals rfl)
    ·
     intro gh X K zq zc zq2 zc2 zb zv hK;refine Jy fn8 rfl rfl fun w hH=>(toAlgebra_c had haf (by omega) hl6 hH).mono ?_;rintro _ w ⟨qdo41,cdo41,qfo41,cfo41,vso41,rfl,hH⟩;refine ⟨_,rfl,fun a hF=>JR hF hH ?_⟩;refine Ji ?_;exact hK qdo41 cdo41 qfo41 cfo41 zb vso41
    ·
     intro gh gh' h;refine ⟨?_,?_,?_⟩ <;> rfl
    apply Jl 4 rfl
    iterate 3 focus (intros;(conv=>lhs;simp only [Jh,Jr,JM,Jt,JH,eq_self,reduceEqDiff,reduceIte,reduceSub,reduceAdd,JxA,JxB]);all_goals rfl)
    ·
     intro gh X K zq zc zq2 zc2 zb zv hK;refine Jy fn12 rfl rfl fun w hH=>hH.lend (.s (.s .z)) fun Hl1 hle1 hA1 hB1 hH=>hH.lend (.s (.s .z)) fun Hl2 hle2 hA2 hB2 hH=>hH.lend .z fun Hl3 hle3 hA3 hB3 hH=>hH.lend .z fun Hl4 hle4 hA4 hB4 hH=>(eqAlgebra_c ((((own_ints hA1).le hle2).le hle3).le hle4) (((own_forms haf.wfss hA2).le hle3).le hle4) ((own_ints hA3).le hle4) (own_forms haf.wfss hA4) (by omega) (by omega) hl hH).mono ?_;rintro _ w ⟨rfl,hH⟩;replace hH:=hB4 _ _ hH;replace hH:=hB3 _ _ hH;replace hH:=hB2 _ _ hH;replace hH:=hB1 _ _ hH;refine ⟨_,rfl,fun a hF=>JR hF hH ?_⟩;refine Jw (.s .z) (Jw (.s .z) (Jw (.s (.s (.s .z))) (Jw (.s (.s (.s .z))) (Ji ?_))));exact hK zq zc zq2 zc2 zb zv
    ·
     intro gh gh' h
     first | simp only [h 2 rfl] | rfl
    apply Jl 5 rfl
    iterate 3 focus (intros;(conv=>lhs;simp only [Jh,Jr,JM,Jt,JH,eq_self,reduceEqDiff,reduceIte,reduceSub,reduceAdd,JxA,JxB]);all_goals rfl)
    ·
     intro gh X K zq zc zq2 zc2 zb zv hK;refine Jg (En rfl) rfl (Ji ?_);exact hK zq zc zq2 zc2 zb zv
    ·
     intro gh gh' h
     first | simp only [h 2 rfl] | rfl
    apply Ei [0,1,2,3,4] [0,1,2,3,4,5,6,7,8,9,10] foll0 rfl rfl rfl (by rfl)
    iterate 2 focus (intros;(conv=>lhs;simp only [Jh,Jr,JM,Jt,JH,eq_self,reduceEqDiff,reduceIte,reduceSub,reduceAdd,JxA,JxB]);all_goals rfl)
    intro gh;generalize (gh 2).c=cdo41;generalize (gh 2).c2=cfo41;generalize (gh 2).q=qdo41;generalize (gh 2).q2=qfo41;generalize (gh 2).vs=vso41;clear gh;refine Ja (hK15 (Eh rfl (fun hc43=>?_) (fun hc43=>?_)))
    ·
     refine Je fun _ hK16 _=>(Jb (Jg (Jd rfl) rfl (Jf (Ja (hK16 (Ju (Jp (Jq rfl (Res.tmp rfl) fun w hH=>?_))))))));replace hH:=hH.tail;replace hH:=hH.tail;replace hH:=hH.tail;replace hH:=hH.tail;replace hH:=hH.tail;replace hH:=hH.tail;replace hH:=hH.tail;replace hH:=hH.tail
     first | exact ⟨rfl,hH.below⟩ | exact absurd rfl hc43p | exact absurd rfl hc43 | (exfalso;omega) | (simp at hc43;done)
    ·
     refine Jm (Ja (hK14 (Je fun _ hK17 _=>(Jb (Jg (Jd rfl) rfl (Jf (Ja (hK17 (Ju (Jq rfl (Res.tmp rfl) fun w hH=>?_))))))))));replace hH:=hH.tail;replace hH:=hH.tail;replace hH:=hH.tail;replace hH:=hH.tail;replace hH:=hH.tail;replace hH:=hH.tail;replace hH:=hH.tail;replace hH:=hH.tail
     first | exact ⟨rfl,hH.below⟩ | exact absurd rfl hc43p | exact absurd rfl hc43 | (exfalso;omega) | (simp at hc43;done)
end Go.Proofs.YtelcehjliighfaaGreat.G
namespace Go.Proofs.YtelcehjliighfaaGreat.fnExactLengthOfProducts
open Go.ChangeShapes Go.WideShapes Go.ChangeAt Go.RowKit
open Go.Proofs.YtelcehjliighfaaGreat.G
theorem u25:Tryz.prog.underlying 25=some (TypeDesc.struct #[{name:="Degrees",type:=22,offset:=0,embedded:=false,tag:="",pkgPath:="",byteOffset:=0},{name:="Images",type:=23,offset:=1,embedded:=false,tag:="",pkgPath:="",byteOffset:=24}]):=by kernel_rfl
theorem u22:Tryz.prog.underlying 22=some (TypeDesc.slice 2):=by kernel_rfl
theorem u2:Tryz.prog.underlying 2=some (TypeDesc.int .i64):=by kernel_rfl
theorem u23:Tryz.prog.underlying 23=some (TypeDesc.slice 28):=by kernel_rfl
theorem u28:Tryz.prog.underlying 28=some (TypeDesc.struct #[{name:="Terms",type:=26,offset:=0,embedded:=false,tag:="",pkgPath:="",byteOffset:=0}]):=by kernel_rfl
theorem u26:Tryz.prog.underlying 26=some (TypeDesc.slice 110):=by kernel_rfl
theorem u110:Tryz.prog.underlying 110=some (TypeDesc.struct #[{name:="Monomial",type:=104,offset:=0,embedded:=false,tag:="",pkgPath:="",byteOffset:=0},{name:="Factor",type:=2,offset:=8,embedded:=false,tag:="",pkgPath:="",byteOffset:=8}]):=by kernel_rfl
theorem u104:Tryz.prog.underlying 104=some (TypeDesc.array 8 5):=by kernel_rfl
theorem u5:Tryz.prog.underlying 5=some (TypeDesc.int .u8):=by kernel_rfl
theorem u4:Tryz.prog.underlying 4=some (TypeDesc.bool):=by kernel_rfl
theorem own:ownKnob Tryz.prog.godebug=none:=by kernel_rfl
theorem lifted (os:Os) (started:os.Started) (H:Type) (enc:TypeId × Value→H):ReturnsInHanded {} Tryz.checked os 4 .any (Rows.fnExactLengthOfProductsSpec.pre6 enc Tryz.prog Tryz.f4 Rows.fnExactLengthOfProductsRow.domain false) (Rows.fnExactLengthOfProductsSpec.post enc Tryz.prog Tryz.f4 false true false false):=by
 refine returnsInHanded_of_change_sized (C:=Tryz.checked) own started (by kernel_rfl) Tryz.func4
  (ChangeSpec.witness6 (enc:=enc) (C:=Tryz.checked) false ⟨#[],#[.agg #[.slice none 0 0,.slice none 0 0],.int .i64 0], []⟩ 12 (by kernel_rfl) (by kernel_rfl) (by kernel_rfl) (by kernel_rfl)) ?_
 intro W base args ds gs before hval0 hW hcnd hsz0 _;have hval : ∀(j:Nat) t v,Tryz.f4.params[j]? = some t→args[j]? = some v→Value.okWide Tryz.prog W .any base t v:=hval0;have hW':=hW;obtain ⟨p,q,hA0,hV,rfl,hfz,hnd⟩:=hW;have hA:DataW.TrodAll enc Tryz.prog W 0 (fun _=>true) true Tryz.f4.params.toList args.toList ds p:=hA0;rw [Tryz.params4] at hA hval;obtain ⟨v0,JM,d0,ds0,p0,q0,hargs,rfl,rfl,h0,r0⟩:=trodAll_cons hA;obtain ⟨v1,vs1,d1,ds1,p1,q1,rfl,rfl,rfl,h1,r1⟩:=trodAll_cons r0;obtain ⟨rfl,rfl,rfl⟩:=trodAll_nil r1
 obtain rfl:args = #[v0,v1]:=by cases args;simp_all
 obtain ⟨rfl,rfl⟩:=trodVars_none hV;obtain ⟨q0d,c0d,ds0,q0f,c0f,fs0,rfl,X0,F0,le0,fl0⟩:=openV_alg u25 rfl rfl rfl rfl (by kernel_rfl) (by kernel_rfl) (by kernel_rfl) u22 u2 (by kernel_rfl) u23 (by kernel_rfl) (fun n l y hy=>tr_form u28 rfl rfl (by kernel_rfl) (by kernel_rfl) u26 (by kernel_rfl) u110 rfl rfl rfl rfl u104 u5 (by kernel_rfl) (by kernel_rfl) u2 (by kernel_rfl) hy) (hval 0 25 v0 rfl rfl) h0;obtain ⟨a1,rfl,lo1,hi1⟩:=openV_int u2 (hval 1 2 v1 rfl rfl) h1;clear hA0 hval0 hsz0;refine ((lawLength_c X0 F0 le0 fl0 (Hp.start (H:=hp W) fun _ _ h=>h)).mono fun e W' ⟨he,bel⟩=>?_);subst he;exact ⟨_,rfl,law_post (f:=Tryz.f4) (by kernel_rfl) (by kernel_rfl) rfl rfl u4 rfl hW' bel⟩
theorem joined:joinedFacts Tryz.prog 4 Tryz.f4 Rows.fnExactLengthOfProductsSpec Rows.fnExactLengthOfProductsRow=true:=by
 unfold joinedFacts;simp only [Bool.and_eq_true]
 repeat' apply And.intro
 all_goals first
  | with_reducible exact Facts.fEnter
  | with_reducible exact Facts.fLaid
  | with_reducible exact Facts.fMaps
  | with_reducible exact Facts.fHeard
  | (rw [Facts.fMake];rfl)
  | (rw [Facts.fLift];rfl)
  | (rw [Facts.fKeys];rfl)
  | (rw [Facts.fStops];rfl)
  | (rw [Facts.fStopK];rfl)
  | as_aux_lemma=>kernel_rfl
theorem over:Rows.fnExactLengthOfProductsRow.holds Tryz.pinned (OpenSpec.ofChange Rows.fnExactLengthOfProductsSpec):=
 OpenClaim.holds_of_wide 4 Tryz.f4 rfl rfl rfl rfl rfl rfl rfl ⟨rfl,rfl,rfl,rfl,rfl⟩ rfl rfl rfl rfl rfl (by as_aux_lemma=>kernel_rfl) Tryz.func4 joined
  (of_decide_eq_true (by as_aux_lemma=>kernel_rfl)) (by unfold Func.isWrapper;first | (rw [if_pos (by decide +kernel)];kernel_rfl) | (rw [if_neg (by decide +kernel)];exact ⟨rfl,rfl⟩))
  (fun os started H enc _=>lifted os started H enc)
theorem proved:Rows.FnExactLengthOfProductsSaid:=over
#print axioms proved
end Go.Proofs.YtelcehjliighfaaGreat.fnExactLengthOfProducts
namespace Go.Proofs.YtelcehjliighfaaGreat
theorem fnExactLengthOfProducts_holds:Rows.FnExactLengthOfProductsSaid:=fnExactLengthOfProducts.proved
end Go.Proofs.YtelcehjliighfaaGreat
