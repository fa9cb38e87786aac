/- A part of the walk of one law: what the functions compute. No condition. -/
import Derived.Test.YtelcehjliighfaaGreatRows
import Derived.Test.YtelcehjliighfaaGreatProg
import Derived.WalkKit
import Derived.KernelRfl
import Derived.JoinedOf
import Derived.Maps.AppendAt
import Derived.Still
import Derived.ProofKit
import Derived.OpenShut
import Derived.StillTail
import Derived.Deep.Upon
import Derived.WalkSpells
import Derived.Maps.Range
import Derived.DeepKeys4
import Derived.Maps.Keyed
import Derived.ChangeOld
import Derived.Below
import Derived.SizedLaws
import Derived.Test.YtelcehjliighfaaGreatPIndd
set_option linter.unusedVariables false
set_option linter.unusedSimpArgs false
set_option maxRecDepth 10000
set_option maxHeartbeats 8000000
open Nat (reduceEqDiff reduceSub reduceAdd)
namespace Go.Proofs.YtelcehjliighfaaGreat.G
open Go Go.RowKit
theorem u23:Tryz.prog.underlying 23=some (TypeDesc.slice 28):=by kernel_rfl
theorem u25:Tryz.prog.underlying 25=some (TypeDesc.struct #[{name:="Degrees",type:=22,offset:=0,embedded:=false,tag:="",pkgPath:="",byteOffset:=0},{name:="Images",type:=23,offset:=1,embedded:=false,tag:="",pkgPath:="",byteOffset:=24}]):=by kernel_rfl
theorem sz23:Size Tryz.prog 23 1:=by unfold Size;kernel_rfl
theorem sz28:Size Tryz.prog 28 1:=by unfold Size;kernel_rfl
theorem sz36:Size Tryz.prog 36 2:=by unfold Size;kernel_rfl
theorem by40:Bytes Tryz.prog 40 24:=by unfold Bytes;kernel_rfl
theorem ze36:Zero Tryz.prog 36 [.slice none 0 0,.slice none 0 0]:=by unfold Zero;kernel_rfl
theorem pl23:Plain Tryz.prog 23:=⟨_,u23,rfl⟩
theorem ag28:Agg Tryz.prog 28 1:=⟨_,u28,rfl,by kernel_rfl⟩
theorem fn20:Fn Tryz.prog 20:=⟨_,Tryz.func20,by kernel_rfl,rfl⟩
theorem fn21:Fn Tryz.prog 21:=⟨_,Tryz.func21,by kernel_rfl,rfl⟩
theorem fn25:Fn Tryz.prog 25:=⟨_,Tryz.func25,by kernel_rfl,rfl⟩
theorem fn26:Fn Tryz.prog 26:=⟨_,Tryz.func26,by kernel_rfl,rfl⟩
theorem fn6:Fn Tryz.prog 6:=⟨_,Tryz.func6,by kernel_rfl,rfl⟩
theorem fn9:Fn Tryz.prog 9:=⟨_,Tryz.func9,by kernel_rfl,rfl⟩
def szv (x:Int):Int:=if x<0 then -1 else x
def updV (vs:Vs) (k:Nat) (x:Option Addr × Nat):Vs:=fun j=>if j=k then x else vs j
theorem ownTs_congr {T:TypeId} : ∀{gs:List (List Term)} {vs vs':Vs},(∀j,j<gs.length→vs j=vs' j)→ownTs T vs gs=ownTs T vs' gs
 | [],_,_,_=>rfl
 | g::gs,vs,vs',h=>by
  have h0:=h 0 (by simp)
  have ih:=ownTs_congr (T:=T) (gs:=gs) (vs:=vs.tl) (vs':=vs'.tl) fun j hj=>h (j+1) (by simpa using hj)
  simp only [ownTs,h0,ih]
theorem slicesC_congr : ∀{gs:List (List Term)} {vs vs':Vs},(∀j,j<gs.length→vs j=vs' j)→slicesC vs gs=slicesC vs' gs
 | [],_,_,_=>rfl
 | g::gs,vs,vs',h=>by
  have h0:=h 0 (by simp)
  have ih:=slicesC_congr (gs:=gs) (vs:=vs.tl) (vs':=vs'.tl) fun j hj=>h (j+1) (by simpa using hj)
  simp only [slicesC,h0,ih]
theorem slicesC_app : ∀(vs:Vs) (gs:List (List Term)) (f:List Term),slicesC vs (gs++[f])=slicesC vs gs++[.slice (vs gs.length).1 f.length (vs gs.length).2]
 | vs, [],f=>rfl
 | vs,g::gs,f=>by
  simp only [JxA,slicesC]
  rw [slicesC_app vs.tl gs f]
  rfl
theorem take_fm {fs:List (List Term)} {k:Nat} (hk:k<fs.length):fs.take (k+1)=fs.take k++[fm fs k]:=by
 rw [List.take_succ_eq_append_getElem hk,fm_eq hk]
def fillF (vs:Vs) (fs:List (List Term)) (k:Nat):List Value:=slicesC vs (fs.take k)++List.replicate (fs.length - k) (.slice none 0 0)
@[simp] theorem fillF_len {vs:Vs} {fs:List (List Term)} {k:Nat} (hk:k≤fs.length):(fillF vs fs k).length=fs.length:=by simp [fillF];omega
theorem slicesC_upd {vs:Vs} {fs:List (List Term)} {k:Nat} (hk:k<fs.length) (x:Option Addr × Nat):slicesC (updV vs k x) (fs.take (k+1))=slicesC vs (fs.take k)++[.slice x.1 (fm fs k).length x.2]:=by
 have hl:(fs.take k).length=k:=List.length_take_of_le (by omega);rw [take_fm hk,slicesC_app,hl,slicesC_congr (vs':=vs) fun j hj=>by unfold updV;rw [if_neg (by omega)]]
 simp [updV]
theorem fillF_step {vs:Vs} {fs:List (List Term)} {k:Nat} (hk:k<fs.length) (q:Option Addr) (c:Nat):(fillF vs fs k).take k++[.slice q (fm fs k).length c]++(fillF vs fs k).drop (k+1)=fillF (updV vs k (q,c)) fs (k+1):=by
 have hl:(slicesC vs (fs.take k)).length=k:=by simp;omega
 unfold fillF;rw [slicesC_upd hk,List.take_append_of_le_length (by omega),List.take_of_length_le (by omega),List.drop_append,List.drop_of_length_le (by omega),JxB,hl,List.drop_replicate]
 congr 2
 omega
theorem fillF_end (vs:Vs) (fs:List (List Term)):fillF vs fs fs.length=slicesC vs fs:=by simp [fillF]
theorem flat1 (z:Value) : ∀m,(List.replicate m [z]).flatten=List.replicate m z
 | 0=>rfl
 | m+1=>by rw [List.replicate_succ,List.replicate_succ,List.flatten_cons,flat1 z m];rfl
section
variable {P : Program} {ops : Array Oper} {Q : Exit → Act → World → Prop} {n : Nat} {B : World} {H0 H : HP} {rest : List Oper} {us : List (Nat × Value)} {L : List SA} {t : TypeId} {p : String} {af : Array Edge} {d : Nat} {x y : Operand} {R : Act → World → Prop}
theorem J.makeSl (T:TypeId) {ty e:TypeId} {k k':IntKind} {i j:Int} {m:Nat} (hu:P.underlying ty=some (.slice e)) (hz:Zero P e [.slice none 0 0]) (hs:Size P e 1) (hb:Bytes P e 24) (hx:opv us x=some (.int k i)) (hy:opv us y=some (.int k' j)) (hi:i=(m:Int)) (hj:j=(m:Int)) (hl:m≤1048576) (hd:Nat.blt d n=true) (hk : ∀g,J P ops Q n B H0 rest ((d,.slice (some ⟨g,0,none⟩) m m)::us) H (obj g (.cells (List.replicate m (.slice none 0 0)).toArray e (0,0))::ownTs T nilVs []::L)):J P ops Q n B H0 (⟨some d,.makeSlice ty x y,t,p,af,none⟩::rest) us H L:=by
 refine J.make hu hz hs hb hx hy hi hj (Nat.le_refl _) (by omega) (by omega) hd fun g=>?_;rw [flat1];exact fun a w hF hH=>hk g a w hF (hH.emp.front (.s .z))
theorem EJ.tsSnoc {T:TypeId} {q:Option Addr} {c k:Nat} {fs:List (List Term)} {vs:Vs} (hk:k<fs.length) (h:EJ R n B H0 us H (ownTs T (updV vs k (q,c)) (fs.take (k+1))::L)):EJ R n B H0 us H (own T 9 q (fm fs k).length c (tsC (fm fs k))::ownTs T vs (fs.take k)::L):=fun a w hF hH=>by
 have hl:(fs.take k).length=k:=List.length_take_of_le (by omega)
 rw [take_fm hk] at h
 refine h a w hF (Hp.fsOut ?_)
 rw [hl,show updV vs k (q,c) k=(q,c) by simp [updV],ownTs_congr (vs':=vs) fun j hj=>by unfold updV;rw [if_neg (by omega)]]
 exact hH
end
theorem tot_pre {fs:List (List Term)} {i:Nat} (hi:i≤fs.length):tot (fs.take i)≤tot fs:=by
 conv=>rhs;rw [← List.take_append_drop i fs,tot_app]
 omega
theorem tot_fm {fs:List (List Term)} {i:Nat} (hi:i<fs.length):(fm fs i).length≤tot fs:=by
 have h1:=tot_succ hi;have h2:=tot_pre (fs:=fs) (i:=i+1) hi
 omega
theorem toFormS_c {B:World} {H0 H:HP} {L:List SA} {w:World} {qfs:Option Addr} {cfs:Nat} {fs:List (List Term)} (hfs:Forms H qfs fs) (hn:fs.length≤1048576) (hl : ∀i,i<fs.length→(fm fs i).length≤1048576) (hH:Hp B H0 H L w):Calls Tryz.prog 26 [.slice qfs fs.length cfs].toArray w fun e w'=>∃q c vs,e = .returned (.slice q fs.length c)∧Hp B H0 H (ownFs 40 107 q c vs fs::L) w':=by
 refine Jx Tryz.func26 rfl 23 rfl rfl [(0,.slice qfs fs.length cfs)] rfl hH ?_;clear hH;refine Je fun _ hK1 _=>(Jb (Jg (Jd rfl) rfl (Jf (Ja (hK1 (Je fun _ hK2 _=>(Jb (Jg (Jc rfl) rfl (Jg (Jo u23 rfl rfl) rfl (J.makeSl 107 (m:=fs.length) u34 ze40 sz40 by40 rfl rfl rfl rfl (by omega) rfl fun g7=>(Jg (Jd rfl) rfl (Jf (Ja (hK2 (Je fun _ hK3 _=>(Je fun _ hK4 _=>?_))))))))))))))));refine Jb (Jg (Jd rfl) rfl (Jf (Ja (hK4 (Jp (JD (σ:=Vs × Nat) (fun ⟨vs,k⟩=>[(4,.int .i64 (k:Int))]) (fun ⟨vs,k⟩=>H) (fun ⟨vs,k⟩=>obj g7 (.cells (fillF vs fs k).toArray 40 (0,0))::ownTs 107 vs (fs.take k)::L) (fun ⟨vs,k⟩=>k≤fs.length) (fun ⟨vs,k⟩=>fs.length - k) (nilVs,0) (by show 0≤fs.length;omega) ⟨rfl,trivial⟩ rfl (by simp [fillF,slicesC]) ?_))))));rintro ⟨vs,k⟩ hI _ hAg0;have hk:=hI;refine Je fun _ hK5 _=>(Je fun _ hK6 _=>(Jb (Jg (Jc rfl) rfl (Jg (Jc rfl) rfl (Jg (Jo u23 rfl rfl) rfl (Jg (JJ rfl rfl) rfl (Jf (Ja (hK6 (Jq rfl (fun h11=>?_) (fun h11=>?_)))))))))))
 ·
  have hlk:=hl k (by omega);refine Jn (Ja (hK5 (Je fun _ hK7 _=>(Jp (Jb (Jg (Jc rfl) rfl (Jg (Jc rfl) rfl (Jg (Jc rfl) rfl (Jg (Jc rfl) rfl (Jg (JL u23 sz28 rfl rfl rfl (by omega) hfs.sm) rfl ?_))))))))));obtain ⟨qe19,ce19,he19,le19,Fe19⟩:=hfs k (by omega);refine Jg (JM (cs:=[_]) rfl (one_cell he19) (hfs.sm (i:=k) (by omega)) ag28) rfl (Ju fn9 rfl rfl fun w hH=>(toForm_c Fe19 (by omega) hH).mono ?_);rintro _ w ⟨qo20,co20,rfl,hH⟩;refine ⟨_,rfl,fun a hF=>JH hF hH ?_⟩;refine Jg (PR.idxO1 u34 sz40 rfl rfl rfl (by omega)) rfl (J.stores (vs:=[.slice qo20 (fm fs k).length co20]) rfl rfl rfl (by simp [Value.oneCell']) sz40 (by rw [fillF_len (by omega)];simp;omega) (.s .z) (Jf (JF (Ja (hK7 (Jb (Jg (Jc rfl) rfl (Jg (Jz rfl rfl (by first | exact nw _ (by omega) | rfl)) rfl (Jg (Jd rfl) rfl (Jf (Ja (Jw (.s .z) (Jw (.s (.s .z)) (Jw (.s (.s .z)) (EJ.tsSnoc (by omega) ?_)))))))))))))));refine Jw .z (Jw (.s .z) ?_);exact hAg0 (updV vs k (qo20,co20),k+1) (by show k+1≤fs.length;omega) (by show fs.length - (k+1)<fs.length - k;omega) 16 rfl rfl ⟨rfl,trivial⟩ rfl (by dsimp only;rw [← fillF_step (by omega)];rfl)
 ·
  refine JG (Jj (Jj (JK (Ja (hK3 (Je fun _ hK8 _=>(Jb (Jg (Jc rfl) rfl (Jg (Jd rfl) rfl (Jf (Ja (hK8 (Jt (Jr rfl (Res.tmp rfl) fun w hH=>?_))))))))))))));replace hH:=hH.sublist (.cons_cons _ (.cons_cons _ (List.Sublist.refl _)))
  obtain rfl:k=fs.length:=by omega
  rw [fillF_end,List.take_length] at hH;exact ⟨_,_,_,rfl,(own_full _ 1 hH (by simp) (by simp only [maxLen];omega)).star⟩
theorem szFormS_c {B:World} {H0 H:HP} {L:List SA} {w:World} {qfs:Option Addr} {cfs:Nat} {fs:List (List Term)} {left:Int} (hfs:Forms H qfs fs) (hn:0≤left∧left≤1000000000∧fs.length≤9223372036854775807) (hl : ∀i,i<fs.length→(fm fs i).length≤9223372036854775807) (hH:Hp B H0 H L w):Calls Tryz.prog 21 [.slice qfs fs.length cfs,.int .i64 left].toArray w fun e w'=>e = .returned (.int .i64 (szv (left - fs.length - tot fs)))∧Hp B H0 H L w':=by
 refine Jx Tryz.func21 rfl 27 rfl rfl [(0,.slice qfs fs.length cfs),(1,.int .i64 left)] rfl hH ?_;clear hH;refine Je fun _ hK1 _=>(Jb (Jg (Jd rfl) rfl (Jf (Ja (hK1 (Je fun _ hK2 _=>(Jb (Jg (Jc rfl) rfl (Jg (Jc rfl) rfl (Jg (Jo u23 rfl rfl) rfl (Jg (EH rfl rfl (by first | exact nw _ (by omega) | rfl)) rfl (Jg (Jd rfl) rfl (Jf (Ja (hK2 (Je fun _ hK3 _=>?_))))))))))))))));refine Je fun _ hK4 _=>(Jb (Jg (Jc rfl) rfl (Jg (JJ rfl rfl) rfl (Jf (Ja (hK4 (Jq rfl (fun h11=>?_) (fun h11=>?_))))))))
 ·
  refine Je fun _ hK5 _=>(Jb (Jg (Jd rfl) rfl (Jf (Ja (hK5 (Jt (Jk (Jr rfl (Res.tmp rfl) fun w hH=>?_))))))));exact ⟨ri (by unfold szv;rw [if_pos (by omega)]),hH⟩
 ·
  refine Jn (Ja (hK3 (Je fun _ hK6 _=>(Je fun _ hK7 _=>(Jb (Jg (Jd rfl) rfl (Jf (Ja (hK7 (Jp (JD (σ:=Nat) (fun (k:Nat)=>[(5,.int .i64 (k:Int)),(1,.int .i64 (left - fs.length - tot (fs.take k)))]) (fun (k:Nat)=>H) (fun (k:Nat)=>L) (fun (k:Nat)=>k≤fs.length∧0≤left - fs.length - tot (fs.take k)) (fun (k:Nat)=>fs.length - k) 0 ⟨by omega,by simp [tot];omega⟩ ⟨rfl,⟨(vi (by simp [tot])),trivial⟩⟩ rfl rfl ?_)))))))))));rintro k ⟨hk,hI⟩ _ hAg0
  skip
  refine Je fun _ hK8 _=>(Je fun _ hK9 _=>(Jb (Jg (Jc rfl) rfl (Jg (Jc rfl) rfl (Jg (Jo u23 rfl rfl) rfl (Jg (JJ rfl rfl) rfl (Jf (Ja (hK9 (Jq rfl (fun h15=>?_) (fun h15=>?_)))))))))))
  ·
   have hlk:=hl k (by omega);have ts:=tot_succ (fs:=fs) (i:=k) (by omega);have tp:=tot_pre (fs:=fs) (i:=k+1) (by omega);refine Jn (Ja (hK8 (Je fun _ hK10 _=>(Jp (Je fun _ hK11 _=>(Jb (Jg (Jc rfl) rfl (Jg (Jc rfl) rfl (Jg (JL u23 sz28 rfl rfl rfl (by omega) hfs.sm) rfl ?_)))))))));obtain ⟨qe21,ce21,he21,le21,Fe21⟩:=hfs k (by omega);refine Jg (JM (cs:=[_]) rfl (one_cell he21) (hfs.sm (i:=k) (by omega)) ag28) rfl (Jg (Jc rfl) rfl (Ju fn6 rfl rfl fun w hH=>(szForm_c Fe21 (by omega) hH).mono ?_));rintro _ w ⟨rfl,hH⟩;refine ⟨_,rfl,fun a hF=>JH hF hH ?_⟩;refine Jg (Jd rfl) rfl (Jf (Ja (hK11 (Je fun _ hK12 _=>(Jb (Jg (Jc rfl) rfl (Jg (JJ rfl rfl) rfl (Jf (Ja (hK12 (Jq rfl (fun h25=>?_) (fun h25=>?_))))))))))))
   ·
    refine Je fun _ hK13 _=>(Jb (Jg (Jd rfl) rfl (Jf (Ja (hK13 (Jt (JO (Jk (Jk (JO (Jk (Jr rfl (Res.tmp rfl) fun w hH=>?_))))))))))));exact ⟨ri (by unfold szv;rw [if_pos (by split at h25 <;> omega)]),hH⟩
   ·
    refine Jn (JF (Ja (hK10 (Jb (Jg (Jc rfl) rfl (Jg (Jz rfl rfl (by first | exact nw _ (by omega) | rfl)) rfl (Jg (Jd rfl) rfl (Jf (Ja ?_)))))))));exact hAg0 (k+1) ⟨by omega,by split at h25 <;> omega⟩ (by omega) 18 rfl rfl ⟨rfl,⟨(vi (by split at h25 <;> split <;> omega)),trivial⟩⟩ rfl rfl
  ·
   refine JG (Jj (Jj (JK (Ja (hK6 (Je fun _ hK14 _=>(Jb (Jg (Jc rfl) rfl (Jg (Jd rfl) rfl (Jf (Ja (hK14 (Jt (Jr rfl (Res.tmp rfl) fun w hH=>?_))))))))))))))
   obtain rfl:k=fs.length:=by omega
   rw [List.take_length] at hI ⊢;exact ⟨ri (by unfold szv;rw [if_neg (by omega)]),hH⟩
theorem szInt64S_c {B:World} {H0 H:HP} {L:List SA} {w:World} {qxs:Option Addr} {cxs:Nat} {xs:List Int} {left:Int} (hxs:Ints H qxs xs) (hn:0≤left∧left≤1000000000∧xs.length≤9223372036854775807) (hH:Hp B H0 H L w):Calls Tryz.prog 20 [.slice qxs xs.length cxs,.int .i64 left].toArray w fun e w'=>e = .returned (.int .i64 (if left - xs.length<0 then -1 else left - xs.length))∧Hp B H0 H L w':=by
 refine Jx Tryz.func20 rfl 12 rfl rfl [(0,.slice qxs xs.length cxs),(1,.int .i64 left)] rfl hH ?_;clear hH;refine Je fun _ hK1 _=>(Jb (Jg (Jd rfl) rfl (Jf (Ja (hK1 (Je fun _ hK2 _=>(Jb (Jg (Jc rfl) rfl (Jg (Jc rfl) rfl (Jg (Jo u22 rfl rfl) rfl (Jg (EH rfl rfl (by first | exact nw _ (by omega) | rfl)) rfl (Jg (Jd rfl) rfl (Jf (Ja (hK2 (Je fun _ hK3 _=>?_))))))))))))))));refine Je fun _ hK4 _=>(Jb (Jg (Jc rfl) rfl (Jg (JJ rfl rfl) rfl (Jf (Ja (hK4 (Jq rfl (fun h10=>?_) (fun h10=>?_))))))))
 ·
  refine Je fun _ hK5 _=>(Jb (Jg (Jd rfl) rfl (Jf (Ja (hK5 (Jt (Jk (Jr rfl (Res.tmp rfl) fun w hH=>?_))))))));exact ⟨ri (if_pos h10).symm,hH⟩
 ·
  refine Jn (Ja (hK3 (Je fun _ hK6 _=>(Jb (Jg (Jc rfl) rfl (Jg (Jd rfl) rfl (Jf (Ja (hK6 (Jt (Jr rfl (Res.tmp rfl) fun w hH=>?_)))))))))));exact ⟨ri (if_neg h10).symm,hH⟩
theorem szAlgebra_c {B:World} {H0 H:HP} {L:List SA} {w:World} {qad qaf:Option Addr} {cad caf:Nat} {ad:List Int} {af:List (List Term)} {left:Int} (had:Ints H qad ad) (haf:Forms H qaf af) (hn:0≤left∧left≤1000000000∧ad.length≤9223372036854775807∧af.length≤9223372036854775807) (hl : ∀i,i<af.length→(fm af i).length≤9223372036854775807) (hH:Hp B H0 H L w):Calls Tryz.prog 5 [.agg [.slice qad ad.length cad,.slice qaf af.length caf].toArray,.int .i64 left].toArray w fun e w'=>e = .returned (.int .i64 (szv (left - ad.length - af.length - tot af)))∧Hp B H0 H L w':=by
 refine Jx Tryz.func5 rfl 18 rfl rfl [(0,.agg [.slice qad ad.length cad,.slice qaf af.length caf].toArray),(1,.int .i64 left)] rfl hH ?_;clear hH;refine Je fun _ hK1 _=>(Jb (JW rfl rfl rfl fun g2=>(Jg (Jd rfl) rfl (Jf (Ja (hK1 (Je fun _ hK2 _=>(Jb (Jg (Jl u25 rfl sz22 rfl) rfl (Jg (Js rfl At.z rfl pl22) rfl (Jg (Jc rfl) rfl (Ju fn20 rfl rfl fun w hH=>(szInt64S_c had (by omega) hH).mono ?_))))))))))));rintro _ w ⟨rfl,hH⟩;refine ⟨_,rfl,fun a hF=>JH hF hH ?_⟩;refine Jg (Jd rfl) rfl (Jf (Ja (hK2 (Je fun _ hK3 _=>(Je fun _ hK4 _=>(Jb (Jg (Jc rfl) rfl (Jg (JJ rfl rfl) rfl (Jf (Ja (hK4 (Jq rfl (fun h10=>?_) (fun h10=>?_)))))))))))))
 ·
  refine Je fun _ hK5 _=>(Jb (Jg (Jd rfl) rfl (Jf (Ja (hK5 (Jt (Jk (Jr rfl (Res.tmp rfl) fun w hH=>?_))))))));replace hH:=hH.tail;exact ⟨ri (by unfold szv;rw [if_pos (by split at h10 <;> omega)]),hH⟩
 ·
  refine Jn (Ja (hK3 (Je fun _ hK6 _=>(Jb (Jg (Jl u25 rfl sz23 rfl) rfl (Jg (Js rfl At.z rfl pl23) rfl (Jg (Jc rfl) rfl (Ju fn21 rfl rfl fun w hH=>(szFormS_c haf (by split at h10 <;> split <;> omega) hl hH).mono ?_))))))));rintro _ w ⟨rfl,hH⟩;refine ⟨_,rfl,fun a hF=>JH hF hH ?_⟩;refine Jg (Jd rfl) rfl (Jf (Ja (hK6 (Je fun _ hK7 _=>(Je fun _ hK8 _=>(Jb (Jg (Jc rfl) rfl (Jg (JJ rfl rfl) rfl (Jf (Ja (hK8 (Jq rfl (fun h16=>?_) (fun h16=>?_)))))))))))))
  ·
   refine Je fun _ hK9 _=>(Jb (Jg (Jd rfl) rfl (Jf (Ja (hK9 (Jt (Jk (Jr rfl (Res.tmp rfl) fun w hH=>?_))))))));replace hH:=hH.tail;have e9:=h16;unfold szv at e9 ⊢;exact ⟨ri (by rw [if_pos (by split at h10 <;> split at e9 <;> omega)]),hH⟩
  ·
   refine Jn (Ja (hK7 (Je fun _ hK10 _=>(Jb (Jg (Jc rfl) rfl (Jg (Jd rfl) rfl (Jf (Ja (hK10 (Jt (Jr rfl (Res.tmp rfl) fun w hH=>?_)))))))))));replace hH:=hH.tail;exact ⟨ri (by unfold szv at h16 ⊢;split at h10 <;> split at h16 <;> split <;> omega),hH⟩
theorem toAlgebra_c {B:World} {H0 H:HP} {L:List SA} {w:World} {qad qaf:Option Addr} {cad caf:Nat} {ad:List Int} {af:List (List Term)} (had:Ints H qad ad) (haf:Forms H qaf af) (hn:ad.length≤1048576∧af.length≤1048576) (hl : ∀i,i<af.length→(fm af i).length≤1048576) (hH:Hp B H0 H L w):Calls Tryz.prog 8 [.agg [.slice qad ad.length cad,.slice qaf af.length caf].toArray].toArray w fun e w'=>∃qd cd qf cf vs,e = .returned (.agg [.slice qd ad.length cd,.slice qf af.length cf].toArray)∧Hp B H0 H (own 2 1 qd ad.length cd (intsC ad)::ownFs 40 107 qf cf vs af::L) w':=by
 refine Jx Tryz.func8 rfl 13 rfl rfl [(0,.agg [.slice qad ad.length cad,.slice qaf af.length caf].toArray)] rfl hH ?_;clear hH;refine Je fun _ hK1 _=>(Jb (JW rfl rfl rfl fun g1=>(JP ze36 rfl fun g2=>(Jf (Ja (hK1 (Je fun _ hK2 _=>(Jb (JP ze36 rfl fun g3=>(Jf (Ja (hK2 (Je fun _ hK3 _=>(Jb (Jg (Jl u25 rfl sz22 rfl) rfl (Jg (Js rfl (.s (.s .z)) rfl pl22) rfl ?_))))))))))))))));refine Ju fn25 rfl rfl fun w hH=>(toInt64S_c had (by omega) hH).mono ?_;rintro _ w ⟨qo6,co6,rfl,hH⟩;refine ⟨_,rfl,fun a hF=>JH hF hH ?_⟩;refine Jg (Jl u36 rfl sz22 rfl) rfl (Et rfl rfl rfl rfl sz22 (by simp [*]) (.s .z) (Jf (Ja (hK3 (Je fun _ hK4 _=>(Jb (Jg (Jl u25 rfl sz23 rfl) rfl (Jg (Js rfl (.s (.s (.s .z))) rfl pl23) rfl (Ju fn26 rfl rfl fun w hH=>(toFormS_c haf (by omega) hl hH).mono ?_)))))))));rintro _ w ⟨qo10,co10,vso10,rfl,hH⟩;refine ⟨_,rfl,fun a hF=>JH hF hH ?_⟩;refine Jg (Jl u36 rfl sz34 rfl) rfl (Et rfl rfl rfl rfl sz34 (by simp [*]) (.s (.s .z)) (Jf (Ja (hK4 (Je fun _ hK5 _=>(Jb (Jg (Jm rfl (.s (.s .z)) (by simpa [*] using ag36)) rfl (JB rfl rfl (by first | exact bytesC_one _ | exact intsC_one _ | exact Term.c_one _ | simp [Value.oneCell']) (by simpa [*] using sz36) (by simp [*]) (.s (.s (.s .z))) (Jf (Ja (hK5 (Jt (Jr rfl (Res.agg rfl (.s (.s (.s .z))) (by simpa [*] using ag36)) fun w hH=>?_)))))))))))));replace hH:=hH.sublist (.cons_cons _ (.cons_cons _ (.cons _ (.cons _ (.cons _ (List.Sublist.refl _))))));exact ⟨_,_,_,_,_,rfl,hH.front (.s .z)⟩
section
variable {P : Program} {n : Nat} {B : World} {H0 H : HP} {us : List (Nat × Value)} {L : List SA} {t : TypeId} {x : Operand}
theorem PR.loadHb {ty:TypeId} {b:Nat} {u v:Value} (hx:opv us x=some (.pointer (some ⟨b,0,none⟩))) (h0:CellAt H b 0 u) (h1:CellAt H b 1 v) (hp:Agg P ty 2):PR P n B H0 us H L (.load ty x) t (.agg [u,v].toArray):=
 JM (q:=some ⟨b,0,none⟩) (k:=0) (cs:=[u,v]) hx (fun j w hj=>by
  match j,hj with
  | 0,hj=>simp at hj;subst hj;exact h0
  | 1,hj=>simp at hj;subst hj;exact h1
  | j+2,hj=>simp at hj) rfl hp
end
theorem isAlg_deg {ds:List Int} {fs:List (List Term)} (h:isAlg ds fs=true):isDeg ds=true:=by
 unfold isAlg at h;simp only [Bool.and_eq_true] at h;exact h.1.1.1
theorem isClosed_c {B:World} {H0 H:HP} {L:List SA} {w:World} {ba:Nat} {qad qaf:Option Addr} {cad caf:Nat} {ad:List Int} {af:List (List Term)} {qts:Option Addr} {cts:Nat} {ts:List Term} {Mi Ms:Int} (pad:CellAt H ba 0 (.slice qad ad.length cad)) (paf:CellAt H ba 1 (.slice qaf af.length caf)) (had:Ints H qad ad) (haf:Forms H qaf af) (hts:Terms H qts ts) (hn:ad.length≤8) (hd : ∀j,0≤ad.getD j 0∧ad.getD j 0≤12) (hf:Fok Mi af) (hl:af.length=ad.length) (hs:Sok Ms (toS ts)) (ho:Occ af.length (toS ts)) (hM:0≤Mi∧Ms+Mi+Ms≤1000000) (hll:ts.length≤1000000000) (hH:Hp B H0 H L w):Calls Tryz.prog 55 [.pointer (some ⟨ba,0,none⟩),.agg [.slice qts ts.length cts].toArray].toArray w fun e w'=>e = .returned (.bool (decide ((dS ad af (toS ts)).length=0)))∧Hp B H0 H L w':=by
 refine Jx Tryz.func55 rfl 11 rfl rfl [(0,.pointer (some ⟨ba,0,none⟩)),(1,.agg [.slice qts ts.length cts].toArray)] rfl hH ?_;clear hH;refine Je fun _ hK1 _=>(Jb (JW rfl rfl rfl fun g3=>(Jg (Jd rfl) rfl (Jf (Ja (hK1 (Je fun _ hK2 _=>(Jb (Jg (Jc rfl) rfl (Jg (Jm rfl At.z (by simpa [*] using ag40)) rfl (Ju fn57 rfl rfl fun w hH=>(sumOf_c hts hs (by omega) hH).mono ?_)))))))))));rintro _ w ⟨bo7,rfl,hH⟩;refine ⟨_,rfl,fun a hF=>JH hF hH ?_⟩;refine Ju fn109 rfl rfl fun w hH=>hH.lend .z fun Hl1 hle1 hA1 hB1 hH=>(d_c (pad.le hle1) (paf.le hle1) (had.le hle1) (haf.le hle1) (omap_H hA1) hs hn hd hf hl ho hM hH).mono ?_;rintro _ w ⟨bo8,rfl,hH⟩;replace hH:=hB1 _ _ hH;refine ⟨_,rfl,fun a hF=>JH hF hH ?_⟩;refine Jg (PR.lenO u92 rfl (.s .z) rfl) rfl (Jg (EL rfl rfl) rfl (Jg (Jd rfl) rfl (Jf (Ja (hK2 (Jt (Jr rfl (Res.tmp rfl) fun w hH=>?_)))))));replace hH:=hH.tail;replace hH:=hH.tail;replace hH:=hH.tail;exact ⟨rb (decide_eq_decide.2 (by omega)),hH⟩
theorem u66:Tryz.prog.underlying 66=some (TypeDesc.pointer 36):=by kernel_rfl
theorem pl66:Plain Tryz.prog 66:=⟨_,u66,rfl⟩
theorem fn103:Fn Tryz.prog 103:=⟨_,Tryz.func103,by kernel_rfl,rfl⟩
theorem fn105:Fn Tryz.prog 105:=⟨_,Tryz.func105,by kernel_rfl,rfl⟩
theorem fn73:Fn Tryz.prog 73:=⟨_,Tryz.func73,by kernel_rfl,rfl⟩
def codeA (ds:List Int) (fs:List (List Term)) (gs:List (List Term)):Int:=if isAlg ds fs && gs.all (isForm ds) then 0 else 1
theorem any_no {ds:List Int} : ∀gs:List (List Term),(gs.any fun ts=>!(isForm ds ts)) = !(gs.all (isForm ds))
 | []=>rfl
 | g::gs=>by simp only [List.any_cons,List.all_cons,any_no gs,Bool.not_and]
theorem algebraCode1_c {B:World} {H0 H:HP} {L:List SA} {w:World} {qts:Option Addr} {cts:Nat} {ts:List Term} {bba:Nat} {ba:Nat} {qad qaf:Option Addr} {cad caf:Nat} {ad:List Int} {af:List (List Term)} (hts:Terms H qts ts) (kba:cellO H (some ⟨bba,0,none⟩) 0=some (.pointer (some ⟨ba,0,none⟩))) (pad:CellAt H ba 0 (.slice qad ad.length cad)) (paf:CellAt H ba 1 (.slice qaf af.length caf)) (had:Ints H qad ad) (haf:Forms H qaf af) (hn8:ad.length≤1048576) (hlt:ts.length≤9223372036854775807) (hH:Hp B H0 H L w):Calls Tryz.prog 105 [.agg [.slice qts ts.length cts].toArray,.pointer (some ⟨bba,0,none⟩)].toArray w fun e w'=>e = .returned (.bool (!(isForm ad ts)))∧Hp B H0 H L w':=by
 refine Jx Tryz.func105 rfl 11 rfl rfl [(0,.agg [.slice qts ts.length cts].toArray),(1,.pointer (some ⟨bba,0,none⟩))] rfl hH ?_;clear hH;refine Je fun _ hK1 _=>(Jb (JW rfl rfl rfl fun g2=>(Jg (Jd rfl) rfl (Jf (Ja (hK1 (Je fun _ hK2 _=>(Er [[], [0], [1], [2], []] (by kernel_rfl) (JA (fun gh=>JE (q:=some ⟨bba,0,none⟩) (k:=0) rfl kba pl66) (JA (fun gh=>Jv rfl) (JA (fun gh=>Jl u36 rfl sz22 rfl) (JA (fun gh=>JE (q:=some ⟨ba,0,none⟩) (k:=0) rfl pad pl22) (JA (fun gh=>Jm rfl At.z (by simpa [*] using ag40)) (Ec 5 1 foll0 (by kernel_rfl) rfl rfl fun gh=>(En (us':=(4,_)::(5,_)::(6,_)::(7,_)::(8,_)::_) (L':=_) rfl rfl ?_)))))))))))))));refine Ju fn106 rfl rfl fun w hH=>(isForm_c had hts hn8 hlt hH).mono ?_;rintro _ w ⟨rfl,hH⟩;refine ⟨_,rfl,fun a hF=>JH hF hH ?_⟩;refine Jf (Eb (JC (Em rfl) rfl (JC (Jd rfl) rfl (Ed (Ja (hK2 (Jt (Jr rfl (Res.tmp rfl) fun w hH=>?_))))))));replace hH:=hH.tail;exact ⟨rfl,hH⟩
theorem algebraCode_c {B:World} {H0 H:HP} {L:List SA} {w:World} {ba:Nat} {qad qaf:Option Addr} {cad caf:Nat} {ad:List Int} {af:List (List Term)} {qfs:Option Addr} {cfs:Nat} {fs:List (List Term)} (pad:CellAt H ba 0 (.slice qad ad.length cad)) (paf:CellAt H ba 1 (.slice qaf af.length caf)) (had:Ints H qad ad) (haf:Forms H qaf af) (hfs:Forms H qfs fs) (hn8:ad.length≤1048576) (hn9:af.length≤1048576) (hl9 : ∀i,i<af.length→(fm af i).length≤1048576) (hnf:fs.length≤9223372036854775807) (hlf : ∀i,i<fs.length→(fm fs i).length≤9223372036854775807) (hH:Hp B H0 H L w):Calls Tryz.prog 53 [.pointer (some ⟨ba,0,none⟩),.slice qfs fs.length cfs].toArray w fun e w'=>e = .returned (.int .i64 (codeA ad af fs))∧Hp B H0 H L w':=by
 refine Jx Tryz.func53 rfl 18 rfl rfl [(0,.pointer (some ⟨ba,0,none⟩)),(1,.slice qfs fs.length cfs)] rfl hH ?_;have hw0:=hH.old;have hw1:=hH.le;clear hH;refine Je fun _ hK1 _=>(Jb (JW rfl rfl rfl fun g2=>(Jg (Jd rfl) rfl (Jf (Ja (hK1 (Je fun _ hK2 _=>(Jb (Jg (Js rfl At.z rfl pl66) rfl (Jg (Jv rfl) rfl (Jg (PR.loadHb rfl pad paf ag36) rfl (Ju fn103 rfl rfl fun w hH=>(IsAlgebra_c had haf hn8 hn9 hl9 hH).mono ?_))))))))))));rintro _ w ⟨rfl,hH⟩;refine ⟨_,rfl,fun a hF=>JH hF hH ?_⟩;refine Jg (Em rfl) rfl (Jg (Jc rfl) rfl (Ek (jd:=11) rfl (fun h11=>?_) (fun h11=>?_)))
 ·
  try have h11p:=of_decide_eq_true h11
  refine JQ rfl rfl rfl h11 (JQ rfl rfl rfl h11 (JQ rfl rfl rfl h11 (Jg (JY rfl h11 rfl) rfl (Jg (Jd rfl) rfl (Jf (Ja (hK2 (Je fun _ hK3 _=>(Jb (Jg (Jc rfl) rfl (Ju fn73 rfl rfl fun w hH=>(when_c hH).mono ?_)))))))))));rintro _ w ⟨rfl,hH⟩;refine ⟨_,rfl,fun a hF=>JH hF hH ?_⟩;refine Jg (Jd rfl) rfl (Jf (Ja (hK3 (Jt (Jr rfl (Res.tmp rfl) fun w hH=>?_)))));replace hH:=hH.tail;exact ⟨ri (by unfold codeA;rw [show isAlg ad af=false by simpa using h11];rfl),hH⟩
 ·
  try have h11p:=of_decide_eq_false h11
  refine JV (Jc rfl) rfl rfl rfl h11 (JV (PR.makeFunc (ys:=[]) (zs:=[_]) rfl rfl) rfl rfl rfl h11 (J.freezeRow .z fun H3 hle3 hc3=>?_));have hfs3:=hfs.le hle3;have hcl:ClF B H0 H3 105 #[.pointer (some ⟨g2,0,none⟩)] (fun ts=>ts.length≤9223372036854775807) (fun ts=>!(isForm ad ts)):=fun H' L w q c x hle hS hx hH=>algebraCode1_c hx (cellO_le hle (hc3 0 _ rfl)) (pad.le (hle3.trans hle)) (paf.le (hle3.trans hle)) (had.le (hle3.trans hle)) (haf.le (hle3.trans hle)) hn8 hS hH;refine EW fn104 rfl rfl h11 rfl rfl fun w hH=>(ContainsFuncF_c hfs3 fn105 hcl hnf hlf hH).mono ?_;rintro _ w ⟨rfl,hH⟩;refine ⟨_,rfl,fun a hF=>JH hF hH ?_⟩;refine Jg (JX rfl h11 rfl) rfl (Jg (Jd rfl) rfl (Jf (Ja (hK2 (Je fun _ hK4 _=>(Jb (Jg (Jc rfl) rfl (Ju fn73 rfl rfl fun w hH=>(when_c hH).mono ?_))))))));rintro _ w ⟨rfl,hH⟩;refine ⟨_,rfl,fun a hF=>JH hF hH ?_⟩;refine Jg (Jd rfl) rfl (Jf (Ja (hK4 (Jt (Jr rfl (Res.tmp rfl) fun w hH=>?_)))));exact ⟨ri (by unfold codeA;rw [show isAlg ad af=true by simpa using h11,any_no];cases fs.all (isForm ad) <;> rfl),hH.weaken hle3 hw0 hw1⟩
theorem u31:Tryz.prog.underlying 31=some (TypeDesc.slice 22):=by kernel_rfl
theorem rows_eq_of {xs ys:List (List Int)} (hl:(xs.length:Int)=ys.length) (h : ∀j,j<xs.length→rw_ xs j=rw_ ys j):xs=ys:=by
 apply List.ext_getElem (by omega);intro j h1 h2;have:=h j h1
 rwa [rw_,rw_,List.getD_eq_getElem?_getD,List.getD_eq_getElem?_getD,List.getElem?_eq_getElem h1,List.getElem?_eq_getElem h2] at this
theorem eqInt64SS_c {B:World} {H0 H:HP} {L:List SA} {w:World} {qxs:Option Addr} {cxs:Nat} {xs:List (List Int)} {qys:Option Addr} {cys:Nat} {ys:List (List Int)} (hxs:RowsR H qxs xs) (hys:RowsR H qys ys) (hn:xs.length≤9223372036854775807) (hf : ∀i,i<xs.length→(rw_ xs i).length≤1048576) (hH:Hp B H0 H L w):Calls Tryz.prog 11 [.slice qxs xs.length cxs,.slice qys ys.length cys].toArray w fun e w'=>e = .returned (.bool (decide (xs=ys)))∧Hp B H0 H L w':=by
 refine Jx Tryz.func11 rfl 27 rfl rfl [(0,.slice qxs xs.length cxs),(1,.slice qys ys.length cys)] rfl hH ?_;clear hH;refine Je fun _ hK1 _=>(Jb (Jg (Jd rfl) rfl (Jf (Ja (hK1 (Je fun _ hK2 _=>(Je fun _ hK3 _=>(Jb (Jg (Jc rfl) rfl (Jg (Jo u31 rfl rfl) rfl (Jg (Jc rfl) rfl (Jg (Jo u31 rfl rfl) rfl (Jg (Eo rfl rfl) rfl (Jf (Ja (hK3 ?_))))))))))))))));refine Jq rfl (fun h10=>?_) (fun h10=>?_)
 ·
  refine Je fun _ hK4 _=>(Jb (Jg (Jd rfl) rfl (Jf (Ja (hK4 (Jt (Jk (Jr rfl (Res.tmp rfl) fun w hH=>?_))))))));exact ⟨rb (decide_eq_false (fun e=>h10 (by rw [e]))).symm,hH⟩
 ·
  refine Jn (Ja (hK2 (Je fun _ hK5 _=>(Je fun _ hK6 _=>(Jb (Jg (Jd rfl) rfl (Jf (Ja (hK6 (Jp (JD (σ:=Nat) (fun (k:Nat)=>[(5,.int .i64 (k:Int))]) (fun (k:Nat)=>H) (fun (k:Nat)=>L) (fun (k:Nat)=>k≤xs.length∧∀j,j<k→rw_ xs j=rw_ ys j) (fun (k:Nat)=>xs.length - k) 0 ⟨by omega,fun j hj=>by omega⟩ ⟨rfl,trivial⟩ rfl rfl ?_)))))))))));rintro k hI _ hAg0;have hk:=hI.1;refine Je fun _ hK7 _=>(Je fun _ hK8 _=>(Jb (Jg (Jc rfl) rfl (Jg (Jc rfl) rfl (Jg (Jo u31 rfl rfl) rfl (Jg (JJ rfl rfl) rfl (Jf (Ja (hK8 (Jq rfl (fun hc14=>?_) (fun hc14=>?_)))))))))))
  ·
   refine Jn (Ja (hK7 (Je fun _ hK9 _=>(Jp (Je fun _ hK10 _=>(Er [[], [], [0,1], [2], [], [], [4,5], [6]] (by kernel_rfl) (JA (fun gh=>Jc rfl) (JA (fun gh=>Jc rfl) (JA (fun gh=>JL u31 sz22 rfl rfl rfl (by omega) hxs.sm) ?_)))))))));obtain ⟨qe20,ce20,he20,le20,Fe20⟩:=hxs k (by omega);refine JA (fun gh=>JE rfl he20 pl22) (JA (fun gh=>Jc rfl) (JA (fun gh=>Jc rfl) (JA (fun gh=>JL u31 sz22 rfl rfl rfl (by omega) hys.sm) ?_)));obtain ⟨qe24,ce24,he24,le24,Fe24⟩:=hys k (by omega);refine JA (fun gh=>JE rfl he24 pl22) (Ec 8 1 foll0 (by kernel_rfl) rfl rfl fun gh=>(En (us':=(17,_)::(18,_)::(19,_)::(20,_)::(21,_)::(22,_)::(23,_)::(24,_)::_) (L':=_) rfl rfl (Ju fn30 rfl rfl fun w hH=>(eqInt64S_c Fe20 Fe24 (hf k (by omega)) hH).mono ?_)));rintro _ w ⟨rfl,hH⟩;refine ⟨_,rfl,fun a hF=>JH hF hH ?_⟩;refine Jf (Eb (JC (Em rfl) rfl (Ed (Ja (hK10 (Ei rfl (fun h26=>?_) (fun h26=>?_)))))))
   ·
    refine Je fun _ hK11 _=>(Jb (Jg (Jd rfl) rfl (Jf (Ja (hK11 (Jt (JO (Jk (Jk (JO (Jk (Jr rfl (Res.tmp rfl) fun w hH=>?_))))))))))));exact ⟨rb (decide_eq_false (fun e=>(by rw [e] at h26;simp at h26))).symm,hH⟩
   ·
    refine Jn (JF (Ja (hK9 (Jb (Jg (Jc rfl) rfl (Jg (Jz rfl rfl (by first | exact nw _ (by omega) | rfl)) rfl (Jg (Jd rfl) rfl (Jf (Ja ?_)))))))));exact hAg0 (k+1) ⟨by omega,upto hI.2 (of_decide_eq_true (notf h26))⟩ (by omega) 18 rfl rfl ⟨rfl,trivial⟩ rfl rfl
  ·
   refine JG (Jj (Jj (JK (Ja (hK5 (Je fun _ hK12 _=>(Jb (Jg (Jd rfl) rfl (Jf (Ja (hK12 (Jt (Jr rfl (Res.tmp rfl) fun w hH=>?_)))))))))))));exact ⟨rb (decide_eq_true (rows_eq_of (by omega) (fun j hj=>hI.2 j (by omega)))).symm,hH⟩
def ClR (B:World) (H0 H:HP) (g:Nat) (cap:Array Value) (S:List Int→Prop) (p:List Int→Bool):Prop:=∀(H':HP) (L:List SA) (w:World) (q:Option Addr) (c:Nat) (x:List Int),Le H H' →S x→Ints H' q x→Hp B H0 H' L w→Calls Tryz.prog g (#[]++[.slice q x.length c].toArray++cap) w fun e w'=>e = .returned (.bool (p x))∧Hp B H0 H' L w'
def idxR (xs:List (List Int)) (p:List Int→Bool):Int:=if xs.any p then (xs.findIdx p:Int) else -1
theorem rw_eq {xs:List (List Int)} {j:Nat} (hj:j<xs.length):xs[j]=rw_ xs j:=by simp [rw_,List.getD_eq_getElem?_getD,List.getElem?_eq_getElem hj]
theorem idxR_hit {xs:List (List Int)} {p:List Int→Bool} {k:Nat} (hk:k<xs.length) (h : ∀j,j<k→p (rw_ xs j)=false) (hp:p (rw_ xs k)=true):idxR xs p=k:=by
 unfold idxR;have ha:xs.any p=true:=List.any_eq_true.2 ⟨xs[k],List.getElem_mem hk,by rw [rw_eq];exact hp⟩;rw [if_pos ha]
 have:xs.findIdx p=k:=by
  rw [List.findIdx_eq hk];exact ⟨by rw [rw_eq];exact hp,fun j hj=>by rw [rw_eq];exact h j hj⟩
 rw [this]
theorem idxR_miss {xs:List (List Int)} {p:List Int→Bool} (h : ∀j,j<xs.length→p (rw_ xs j)=false):idxR xs p = -1:=by
 unfold idxR;rw [if_neg];intro ha;obtain ⟨x,hx,hp⟩:=List.any_eq_true.1 ha;obtain ⟨j,hj,rfl⟩:=List.mem_iff_getElem.1 hx;rw [rw_eq hj,h j hj] at hp
 cases hp
theorem IndexFuncR_c {B:World} {H0 H:HP} {L:List SA} {w:World} {qxs:Option Addr} {cxs:Nat} {xs:List (List Int)} {gp:Nat} {capp:Array Value} {Sp:List Int→Prop} {p:List Int→Bool} (hxs:RowsR H qxs xs) (hgp:Fn Tryz.prog gp) (hp:ClR B H0 H gp capp Sp p) (hn:xs.length≤9223372036854775807) (hS : ∀i,i<xs.length→Sp (rw_ xs i)) (hH:Hp B H0 H L w):Calls Tryz.prog 87 [.slice qxs xs.length cxs,.func (.func gp) #[] capp].toArray w fun e w'=>e = .returned (.int .i64 (idxR xs p))∧Hp B H0 H L w':=by
 refine Jx Tryz.func87 rfl 19 rfl rfl [(0,.slice qxs xs.length cxs),(1,.func (.func gp) #[] capp)] rfl hH ?_;clear hH;refine Je fun _ hK1 _=>(Jb (Jg (Jd rfl) rfl (Jf (Ja (hK1 (Je fun _ hK2 _=>(Je fun _ hK3 _=>(Jb (Jg (Jc rfl) rfl (Jg (Jo u31 rfl rfl) rfl (Jg (Jc rfl) rfl (Jf (Ja (hK3 (Jp (JD (σ:=Nat) (fun (k:Nat)=>[(8,.int .i64 (k:Int))]) (fun (k:Nat)=>H) (fun (k:Nat)=>L) (fun (k:Nat)=>k≤xs.length∧∀j,j<k→p (rw_ xs j)=false) (fun (k:Nat)=>xs.length - k) 0 ⟨by omega,fun j hj=>by omega⟩ ⟨rfl,trivial⟩ rfl rfl ?_))))))))))))))));rintro k hI _ hAg0;have hk:=hI.1;refine Je fun _ hK4 _=>(Jb (Jg (JJ rfl rfl) rfl (Jf (Ja (hK4 (Je fun _ hK5 _=>(Jq rfl (fun hc9=>?_) (fun hc9=>?_))))))))
 ·
  refine Jn (Ja (hK5 (Je fun _ hK6 _=>(Jp (Je fun _ hK7 _=>(Jb (Jg (Jc rfl) rfl (Jg (Jd rfl) rfl (Jf (Ja (hK7 (Je fun _ hK8 _=>(Jb (Jg (Jc rfl) rfl (Jg (Jc rfl) rfl (Jg (Jc rfl) rfl ?_))))))))))))))));refine Jg (JL u31 sz22 rfl rfl rfl (by omega) hxs.sm) rfl ?_;obtain ⟨qe15,ce15,he15,le15,Fe15⟩:=hxs k (by omega);refine Jg (JE rfl he15 pl22) rfl (J.callV hgp rfl rfl rfl fun w hH=>(hp _ _ w _ _ _ (Le.refl _) (hS _ (by omega)) Fe15 hH).mono ?_);rintro _ w ⟨rfl,hH⟩;refine ⟨_,rfl,fun a hF=>JH hF hH ?_⟩;refine Jf (Ja (hK8 (Ei rfl (fun h16=>?_) (fun h16=>?_))))
  ·
   refine Je fun _ hK9 _=>(Jb (Jg (Jc rfl) rfl (Jg (Jd rfl) rfl (Jf (Ja (hK9 (Jt (JO (Jk (Jk (JO (Jk (Jr rfl (Res.tmp rfl) fun w hH=>?_)))))))))))));exact ⟨ri (idxR_hit (by omega) hI.2 h16).symm,hH⟩
  ·
   refine Jn (JF (Ja (hK6 (Jb (Jg (Jz rfl rfl (by first | exact nw _ (by omega) | rfl)) rfl (Jg (Jc rfl) rfl (Jf (Ja ?_))))))));exact hAg0 (k+1) ⟨by omega,upto hI.2 h16⟩ (by omega) 12 rfl rfl ⟨rfl,trivial⟩ rfl rfl
 ·
  refine JG (Jj (Jj (JK (Ja (hK2 (Je fun _ hK10 _=>(Jb (Jg (Jd rfl) rfl (Jf (Ja (hK10 (Jt (Jr rfl (Res.tmp rfl) fun w hH=>?_)))))))))))));exact ⟨ri (idxR_miss (fun j hj=>hI.2 j (by omega))).symm,hH⟩
theorem isDeg_pos1 {ds:List Int} (h:isDeg ds=true) : ∀j,j<ds.length→1≤ds.getD j 0:=by
 intro j hj;unfold isDeg at h;rw [Bool.and_eq_true] at h;have:=List.all_eq_true.1 h.2 (ds.getD j 0) (by rw [List.getD_eq_getElem?_getD,List.getElem?_eq_getElem hj];exact List.getElem_mem hj);rw [Bool.and_eq_true,decide_eq_true_eq] at this
 omega
theorem fn36:Fn Tryz.prog 36:=⟨_,Tryz.func36,by kernel_rfl,rfl⟩
theorem markInt64SS_s {B:World} {H0 H:HP} {L:List SA} {w:World} {qfs:Option Addr} {cfs:Nat} {vs:Vs} {fs:List (List Int)} {k:Int} (hn:0≤k∧k+(totI fs:Nat)≤9223372036854775807) (hl:fs.length≤9223372036854775807) (hq:0<fs.length→qfs.isSome=true) (hH:Hp B H0 H (emp::ownIs 2 vs fs::own 22 1 qfs fs.length cfs (slicesI vs fs)::L) w):Calls Tryz.prog 16 [.slice qfs fs.length cfs,.int .i64 k].toArray w fun e w'=>e = .returned (.int .i64 (k+(totI fs:Nat)))∧Hp B H0 H (ownIs 2 vs (marksIs k fs)::own 22 1 qfs fs.length cfs (slicesI vs fs)::L) w':=by
 refine Jx Tryz.func16 rfl 19 rfl rfl [(0,.slice qfs fs.length cfs),(1,.int .i64 k)] rfl hH ?_;clear hH;refine Je fun _ hK1 _=>(Jb (Jg (Jd rfl) rfl (Jf (Ja (hK1 (Je fun _ hK2 _=>(Je fun _ hK3 _=>(Jb (Jg (Jd rfl) rfl (Jf (Ja (hK3 (Jp (JD (σ:=Nat) (fun (i:Nat)=>[(5,.int .i64 (i:Int)),(1,.int .i64 (k+(totI (fs.take i):Nat)))]) (fun (i:Nat)=>H) (fun (i:Nat)=>ownIs 2 vs (marksIs k (fs.take i))::ownIs 2 (vs.dr i) (fs.drop i)::own 22 1 qfs fs.length cfs (slicesI vs fs)::L) (fun (i:Nat)=>i≤fs.length) (fun (i:Nat)=>fs.length - i) 0 (by omega) ⟨rfl,⟨(vi (by simp [totI])),trivial⟩⟩ rfl rfl ?_))))))))))))));rintro i hI _ hAg0;have hk:=hI;refine Je fun _ hK4 _=>(Je fun _ hK5 _=>(Jb (Jg (Jc rfl) rfl (Jg (Jc rfl) rfl (Jg (Jo u31 rfl rfl) rfl (Jg (JJ rfl rfl) rfl (Jf (Ja (hK5 (Jq rfl (fun hc9=>?_) (fun hc9=>?_)))))))))))
 ·
  refine Jn (Ja (hK4 (Je fun _ hK6 _=>(Jp (Jb (Jg (Jc rfl) rfl (Jg (Jc rfl) rfl (Jg (JL u31 sz22 rfl rfl rfl (by omega) (fun _=>hq (by omega))) rfl (Jg (ED rfl (.s (.s .z)) (slicesI_get (i:=i) (by omega)) pl22) rfl (Jg (Jc rfl) rfl (Ju fn33 rfl rfl fun w hH=>(markInt64S_c (by have:=totI_take_le (fs:=fs) (i:=i) (by omega);omega) (Hp.isIn (i:=i) (hH.front (.s .z)) (by omega))).mono ?_)))))))))));rintro _ w ⟨rfl,hH⟩
  have hH2:=Hp.isOut (f:=marks (k+(totI (fs.take i):Nat)) (rw_ fs i).length) (vs:=vs) (gs:=marksIs k (fs.take i)) (by
   have e:(marksIs k (fs.take i)).length=i:=by simp;omega
   rw [e,marks_length]
   exact hH.front (.s (.s .z)) |>.front (.s .z))
  refine ⟨_,rfl,fun a hF=>JH hF hH2 ?_⟩;refine Jg (Jd rfl) rfl (Jf (JF (Ja (hK6 (Jb (Jg (Jc rfl) rfl (Jg (Jz rfl rfl (by first | exact nw _ (by omega) | rfl)) rfl (Jg (Jd rfl) rfl (Jf (Ja ?_))))))))));exact hAg0 (i+1) (by omega) (by omega) 16 rfl rfl ⟨rfl,⟨(vi (by rw [totI_succ (by omega)];omega)),trivial⟩⟩ rfl (by rw [marksIs_succ (by omega)])
 ·
  refine JG (Jj (Jj (JK (Ja (hK2 (Je fun _ hK7 _=>(Jb (Jg (Jc rfl) rfl (Jg (Jd rfl) rfl (Jf (Ja (hK7 (Jt (Jr rfl (Res.tmp rfl) fun w hH=>?_))))))))))))));replace hH:=hH.sublist (.cons_cons _ (.cons _ (.cons_cons _ (List.Sublist.refl _))))
  obtain rfl:i=fs.length:=by omega
  rw [List.take_length] at hH;exact ⟨by rw [List.take_length],hH⟩
theorem markInt64SS_c {B:World} {H0 H:HP} {L:List SA} {w:World} {q:Option Addr} {c:Nat} {vs:Vs} {fs:List (List Int)} {k:Int} (hn:0≤k∧k+(totI fs:Nat)≤9223372036854775807) (hl:fs.length≤9223372036854775807) (hH:Hp B H0 H (ownRs 22 2 q c vs fs::L) w):Calls Tryz.prog 16 [.slice q fs.length c,.int .i64 k].toArray w fun e w'=>e = .returned (.int .i64 (k+(totI fs:Nat)))∧Hp B H0 H (ownRs 22 2 q c vs (marksIs k fs)::L) w':=by
 have hu:=hH.unstar
 have hq:0<fs.length→q.isSome=true:=fun h=>by
  rcases (hu.objs _ (List.mem_cons_self)).1.2 with ⟨_,h2,_⟩ | ⟨g,cur,rfl,_⟩
  ·omega
  ·rfl
 refine (markInt64SS_s hn hl hq ((hu.front (.s .z)).emp)).mono ?_;rintro _ w ⟨rfl,h⟩;refine ⟨rfl,?_⟩;have h2:=(h.front (.s .z)).star;unfold ownRs;rw [slicesI_marks,marksIs_length];exact h2
theorem heldInt64SS_c {B:World} {H0 H:HP} {L:List SA} {w:World} {qxs:Option Addr} {cxs:Nat} {xs:List (List Int)} {kxs:Int} (hxs:MRows H qxs kxs xs) (hn:0≤kxs∧kxs+(totI xs:Nat)≤9223372036854775807) (hl:xs.length≤9223372036854775807) (hH:Hp B H0 H L w):Calls Tryz.prog 17 [.slice qxs xs.length cxs,.int .i64 kxs].toArray w fun e w'=>e = .returned (.int .i64 (kxs+(totI xs:Nat)))∧Hp B H0 H L w':=by
 refine Jx Tryz.func17 rfl 21 rfl rfl [(0,.slice qxs xs.length cxs),(1,.int .i64 kxs)] rfl hH ?_;clear hH;refine Je fun _ hK1 _=>(Jb (Jg (Jd rfl) rfl (Jf (Ja (hK1 (Je fun _ hK2 _=>(Je fun _ hK3 _=>(Jb (Jg (Jd rfl) rfl (Jf (Ja (hK3 (Jp (JD (σ:=Nat) (fun (i:Nat)=>[(5,.int .i64 (i:Int)),(1,.int .i64 (kxs+(totI (xs.take i):Nat)))]) (fun (i:Nat)=>H) (fun (i:Nat)=>L) (fun (i:Nat)=>i≤xs.length) (fun (i:Nat)=>xs.length - i) 0 (by omega) ⟨rfl,⟨(vi (by simp [totI])),trivial⟩⟩ rfl rfl ?_))))))))))))));rintro i hI _ hAg0;have hk:=hI;refine Je fun _ hK4 _=>(Je fun _ hK5 _=>(Jb (Jg (Jc rfl) rfl (Jg (Jc rfl) rfl (Jg (Jo u31 rfl rfl) rfl (Jg (JJ rfl rfl) rfl (Jf (Ja (hK5 (Jq rfl (fun hc9=>?_) (fun hc9=>?_)))))))))))
 ·
  refine Jn (Ja (hK4 (Je fun _ hK6 _=>(Jp (Je fun _ hK7 _=>(Jb (Jg (Jc rfl) rfl (Jg (Jc rfl) rfl (Jg (JL u31 sz22 rfl rfl rfl (by omega) hxs.sm) rfl ?_)))))))));obtain ⟨qe15,ce15,he15,Fe15⟩:=hxs i (by omega);refine Jg (JE rfl he15 pl22) rfl (Jg (Jc rfl) rfl (Ju fn36 rfl rfl fun w hH=>(heldInt64S_c Fe15 (by have:=totI_take_le (fs:=xs) (i:=i) (by omega);omega) hH).mono ?_));rintro _ w ⟨rfl,hH⟩;refine ⟨_,rfl,fun a hF=>JH hF hH ?_⟩;refine Jg (Jd rfl) rfl (Jf (Ja (hK7 (Je fun _ hK8 _=>(Jb (Jg (Jc rfl) rfl (Jg (JJ rfl rfl) rfl (Jf (Ja (hK8 (Jq rfl (fun hc19=>?_) (fun hc19=>?_))))))))))))
  ·
   refine Je fun _ hK9 _=>(Jb (Jg (Jd rfl) rfl (Jf (Ja (hK9 (Jt (JO (Jk (Jk (JO (Jk (Jr rfl (Res.tmp rfl) fun w hH=>?_))))))))))))
   omega
  ·
   refine Jn (JF (Ja (hK6 (Jb (Jg (Jc rfl) rfl (Jg (Jz rfl rfl (by first | exact nw _ (by omega) | rfl)) rfl (Jg (Jd rfl) rfl (Jf (Ja ?_)))))))));exact hAg0 (i+1) (by omega) (by omega) 18 rfl rfl ⟨rfl,⟨(vi (by rw [totI_succ (by omega)];omega)),trivial⟩⟩ rfl rfl
 ·
  refine JG (Jj (Jj (JK (Ja (hK2 (Je fun _ hK10 _=>(Jb (Jg (Jc rfl) rfl (Jg (Jd rfl) rfl (Jf (Ja (hK10 (Jt (Jr rfl (Res.tmp rfl) fun w hH=>?_))))))))))))))
  obtain rfl:i=xs.length:=by omega
  exact ⟨by rw [List.take_length],hH⟩
theorem fn143:Fn Tryz.prog 143:=⟨_,Tryz.func143,by kernel_rfl,rfl⟩
theorem GrowI_c {B:World} {H0 H:HP} {L:List SA} {w:World} {n:Nat} (hn:n≤1048576) (hH:Hp B H0 H L w):Calls Tryz.prog 143 [.slice none 0 0,.int .i64 (n:Int)].toArray w fun e w'=>∃q c,e = .returned (.slice q ([]:List Int).length c)∧Hp B H0 H (own 2 1 q ([]:List Int).length c (intsC [])::L) w':=by
 refine Jx Tryz.func143 rfl 27 rfl rfl [(0,.slice none 0 0),(1,.int .i64 (n:Int))] rfl hH ?_;clear hH;refine Je fun _ hK1 _=>(Jb (Jg (Jd rfl) rfl (Jf (Ja (hK1 (Je fun _ hK2 _=>(Je fun _ hK3 _=>(Jb (Jg (Jc rfl) rfl (Jg (JJ rfl rfl) rfl (Jf (Ja (hK3 (Jq rfl (fun h6=>?_) (fun h6=>?_)))))))))))))))
 ·
  exact absurd h6 (by omega)
 ·
  refine Jn (Ja (hK2 (Je fun _ hK4 _=>(Je fun _ hK5 _=>(Jb (Jg (Jc rfl) rfl (Jg (Jc rfl) rfl (Jg (PR.capS u22 rfl) rfl (Jg (Jc rfl) rfl (Jg (Jo u22 rfl rfl) rfl (Jg (EH rfl rfl (by first | exact nw _ (by omega) | rfl)) rfl (Jg (EH rfl rfl (by first | exact nw _ (by omega) | rfl)) rfl (Jg (Jd rfl) rfl (Jf (Ja (hK5 ?_))))))))))))))));refine Je fun _ hK6 _=>(Jb (Jg (Jc rfl) rfl (Jg (EK rfl rfl) rfl (Jf (Ja (hK6 (Jq rfl (fun h16=>?_) (fun h16=>?_))))))))
  ·
   refine Jb (Jg (Jc rfl) rfl (Jg (Jc rfl) rfl (Jg (PR.capS u22 rfl) rfl (Jg (PR.sliceHi (i':=0) u22 sz2 rfl rfl rfl (by omega)) rfl (Jg (Jc rfl) rfl (J.appendMk (m:=n) u22 u3 ze2 sz2 by2 rfl rfl rfl (by omega) (by omega) (by omega) rfl fun gG cG=>(Jg (Jc rfl) rfl (Jg (Jo u22 rfl rfl) rfl (Jg (PR.sliceHi (i':=0) u22 sz2 rfl rfl rfl (by omega)) rfl (Jg (Jd rfl) rfl (Jf (Ja (hK4 (Je fun _ hK7 _=>(Jb ?_)))))))))))))));refine Jg (Jc rfl) rfl (Jg (Jd rfl) rfl (Jf (Ja (hK7 (Jt (Jr rfl (Res.tmp rfl) fun w hH=>?_))))));replace hH:=hH.sublist (.cons_cons _ (List.Sublist.refl _));exact ⟨some ⟨gG,0,none⟩,cG,rfl,hH⟩
  ·
   refine Jn (Ja (hK4 (Je fun _ hK8 _=>(Jb (Jg (Jc rfl) rfl (Jg (Jd rfl) rfl (Jf (Ja (hK8 (Jt (Jr rfl (Res.tmp rfl) fun w hH=>?_)))))))))));replace hH:=hH.sublist (List.Sublist.refl _);exact ⟨none,0,rfl,hH.own0 2 1⟩
theorem ConcatI_c {B:World} {H0 H:HP} {L:List SA} {w:World} {qrs:Option Addr} {crs:Nat} {rs:List (List Int)} (hrs:RowsR H qrs rs) (hn:rs.length≤1048576) (ht:totI rs≤1048576) (hH:Hp B H0 H L w):Calls Tryz.prog 121 [.slice qrs rs.length crs].toArray w fun e w'=>∃q c,e = .returned (.slice q rs.flatten.length c)∧Hp B H0 H (own 2 1 q rs.flatten.length c (intsC rs.flatten)::L) w':=by
 refine Jx Tryz.func121 rfl 36 rfl rfl [(0,.slice qrs rs.length crs)] rfl hH ?_;clear hH;refine Je fun _ hK1 _=>(Jb (Jg (Jd rfl) rfl (Jf (Ja (hK1 (Je fun _ hK2 _=>(Jb (Jg (Jd rfl) rfl (Jf (Ja (hK2 (Je fun _ hK3 _=>(Je fun _ hK4 _=>(Jb (Jg (Jc rfl) rfl (Jg (Jo u31 rfl rfl) rfl ?_))))))))))))))));refine Jg (Jc rfl) rfl (Jf (Ja (hK4 (Jp (JD (σ:=Nat) (fun (k:Nat)=>[(11,.int .i64 (k:Int)),(3,.int .i64 ((totI (rs.take k):Nat):Int))]) (fun (k:Nat)=>H) (fun (k:Nat)=>L) (fun (k:Nat)=>k≤rs.length) (fun (k:Nat)=>rs.length - k) 0 (by omega) ⟨rfl,⟨(vi (by simp [totI])),trivial⟩⟩ rfl rfl ?_)))));rintro k hk _ hAg0;have htl:k<rs.length→totI (rs.take k)+(rw_ rs k).length≤totI rs:=fun h=>totI_take_le h;have hts:k<rs.length→totI (rs.take (k+1))=totI (rs.take k)+(rw_ rs k).length:=fun h=>totI_succ h;refine Je fun _ hK5 _=>(Jb (Jg (JJ rfl rfl) rfl (Jf (Ja (hK5 (Je fun _ hK6 _=>(Jq rfl (fun hc12=>?_) (fun hc12=>?_))))))))
 ·
  refine Jn (Ja (hK6 (Je fun _ hK7 _=>(Jp (Je fun _ hK8 _=>(Jb (Jg (JL u31 sz22 rfl rfl rfl (by omega) hrs.sm) rfl ?_)))))));obtain ⟨qe14,ce14,he14,le14,Fe14⟩:=hrs k (by omega);refine Jg (JE rfl he14 pl22) rfl (Jg (Jd rfl) rfl (Jf (Ja (hK8 (Je fun _ hK9 _=>(Jb (Jg (Jc rfl) rfl (Jg (Jc rfl) rfl (Jg (Jo u22 rfl rfl) rfl (Jg (Jz rfl rfl (by first | exact nw _ (by omega) | rfl)) rfl (Jg (Jd rfl) rfl (Jf (Ja (hK9 (Je fun _ hK10 _=>(Jb ?_))))))))))))))));refine Jg (Jc rfl) rfl (Jg (JJ rfl rfl) rfl (Jf (Ja (hK10 (Jq rfl (fun h20=>?_) (fun h20=>?_))))))
  ·
   exact absurd h20 (by omega)
  ·
   refine Jn (JF (Ja (hK7 (Jb (Jg (Jz rfl rfl (by first | exact nw _ (by omega) | rfl)) rfl (Jg (Jc rfl) rfl (Jf (Ja ?_))))))));exact hAg0 (k+1) (by omega) (by omega) 15 rfl rfl ⟨rfl,⟨(vi (by rw [hts (by omega)];omega)),trivial⟩⟩ rfl rfl
 ·
  refine JG (Jj (Jj (JK (Ja (hK3 (Je fun _ hK11 _=>(Jb (Jg (Jc (by rw [show k=rs.length by omega,List.take_length];rfl)) rfl (Ju fn143 rfl rfl fun w hH=>(GrowI_c (n:=totI rs) (by omega) hH).mono ?_)))))))));rintro _ w ⟨qo24,co24,rfl,hH⟩;refine ⟨_,rfl,fun a hF=>JH hF hH ?_⟩;refine Jg (Jd rfl) rfl (Jf (Ja (hK11 (Je fun _ hK12 _=>(Je fun _ hK13 _=>(Jb (Jg (Jc rfl) rfl (Jg (Jo u31 rfl rfl) rfl (Jg (Jc rfl) rfl (Jf (Ja (hK13 (Jp (JD (σ:=Option Addr × Nat × Nat) (fun ⟨q,c,k⟩=>[(27,.int .i64 (k:Int)),(6,.slice q (flK rs k).length c)]) (fun ⟨q,c,k⟩=>H) (fun ⟨q,c,k⟩=>own 2 1 q (flK rs k).length c (intsC (flK rs k))::L) (fun ⟨q,c,k⟩=>k≤rs.length) (fun ⟨q,c,k⟩=>rs.length - k) (qo24,co24,0) (by show 0≤rs.length;omega) ⟨rfl,⟨rfl,trivial⟩⟩ rfl rfl ?_))))))))))))));rintro ⟨q,c,k⟩ hk2 _ hAg1;have hfl:=flK_len rs k;have htl:k<rs.length→totI (rs.take k)+(rw_ rs k).length≤totI rs:=fun h=>totI_take_le h;refine Je fun _ hK14 _=>(Jb (Jg (JJ rfl rfl) rfl (Jf (Ja (hK14 (Je fun _ hK15 _=>(Jq rfl (fun hc28=>?_) (fun hc28=>?_))))))))
  ·
   refine Jn (Ja (hK15 (Je fun _ hK16 _=>(Jp (Je fun _ hK17 _=>(Jb (Jg (JL u31 sz22 rfl rfl rfl (by omega) hrs.sm) rfl ?_)))))));obtain ⟨qe30,ce30,he30,le30,Fe30⟩:=hrs k (by omega);refine Jg (JE rfl he30 pl22) rfl (Jg (Jd rfl) rfl (Jf (Ja (hK17 (Jb (Jg (Jc rfl) rfl (Jg (Jc rfl) rfl (J.appendHI u22 ze2 sz2 by2 rfl rfl Fe30 (by omega) At.z (fun _ _=>At.z) rfl fun qo33 co33=>(Jg (Jd rfl) rfl (Jf (JF (Ja (hK16 (Jb (Jg (Jz rfl rfl (by first | exact nw _ (by omega) | rfl)) rfl (Jg (Jc rfl) rfl ?_))))))))))))))));refine Jf (Ja ?_);exact hAg1 (qo33,co33,k+1) (by show k+1≤rs.length;omega) (by show rs.length - (k+1)<rs.length - k;omega) 12 rfl rfl ⟨rfl,⟨(by dsimp only;rw [flK_succ (by omega)];rfl),trivial⟩⟩ rfl (by dsimp only;rw [flK_succ (by omega)])
  ·
   refine JG (Jj (Jj (JK (Ja (hK12 (Je fun _ hK18 _=>(Jb (Jg (Jc rfl) rfl (Jg (Jd rfl) rfl (Jf (Ja (hK18 (Jt (Jr rfl (Res.tmp rfl) fun w hH=>?_))))))))))))));replace hH:=hH.sublist (.cons_cons _ (List.Sublist.refl _))
   obtain rfl:k=rs.length:=by omega
   rw [flK_end] at hH ⊢;exact ⟨_,_,rfl,hH⟩
def Mo (a b:Int):Prop:=a % 10007=b % 10007
theorem Mo.refl (a:Int):Mo a a:=rfl
theorem Mo.symm {a b:Int} (h:Mo a b):Mo b a:=Eq.symm h
theorem Mo.trans {a b c:Int} (h:Mo a b) (k:Mo b c):Mo a c:=Eq.trans h k
theorem Mo.add {a b c d:Int} (h:Mo a b) (k:Mo c d):Mo (a+c) (b+d):=by unfold Mo at *;omega
theorem Mo.mul {a b:Int} (h:Mo a b) (c:Int):Mo (a * c) (b * c):=by
 unfold Mo at *;rw [Int.mul_emod,h,← Int.mul_emod]
theorem Mo.mull {a b:Int} (h:Mo a b) (c:Int):Mo (c * a) (c * b):=by
 rw [Int.mul_comm c a,Int.mul_comm c b];exact h.mul c
theorem Mo.fld (a:Int):Mo (G.fld a) a:=by unfold Mo;rw [fld_eq];omega
def zP:Pw:=List.replicate 8 0
theorem zP_get (j:Nat):zP.getD j 0=0:=by
 unfold zP;rw [List.getD_eq_getElem?_getD,List.getElem?_replicate]
 split <;> rfl
theorem wsum_add {ds p q:Pw} (hp:p.length=8) (hq:q.length=8) : ∀n:Nat,wsum ds (addp p q) n=wsum ds p n+wsum ds q n
 | 0=>rfl
 | n+1=>by
  simp only [wsum]
  rw [wsum_add hp hq n,addp_get hp hq,Int.mul_add]
  omega
structure Dg (ds:Pw):Prop where
 hn:ds.length≤8
 pos : ∀j,j<ds.length→1≤ds.getD j 0
 hd : ∀j,0≤ds.getD j 0∧ds.getD j 0≤12
section
variable {ds ws : Pw} {ss : Nat → Sm} {s : Sm} {n : Nat} {M : Int}
theorem scl_len (s:Sm) (k:Int):(scl s k).length=s.length:=by simp [scl]
end
theorem wsum_nn0 {ws p:Pw} (hw : ∀j,0≤ws.getD j 0) (hp : ∀j,0≤p.getD j 0) : ∀k:Nat,0≤wsum ws p k
 | 0=>by simp [wsum]
 | k+1=>by have:=wsum_nn0 hw hp k;have:=Int.mul_nonneg (hw k) (hp k);simp only [wsum];omega
theorem degOk_wt {ds:List Int} {ts:List Term} {x:Int} (hn:ds.length≤8) (hd : ∀j,0≤ds.getD j 0∧ds.getD j 0≤12) (hw:Wfs ts) (h:degOk ds ts x=true) : ∀y∈toS ts,wsum ds y.1 ds.length=x:=by
 intro y hy;unfold degOk at h;obtain ⟨h1,h2⟩:=Bool.and_eq_true_iff.1 h;obtain ⟨t,ht,rfl⟩:=List.mem_map.1 hy;obtain ⟨j,hj,rfl⟩:=List.mem_iff_getElem.1 ht
 have h3:wd ds ts j=wd ds ts 0:=by simpa using List.all_eq_true.1 h1 j (by simpa using hj)
 have h4:=degF_neg hn hd hw h1
 have h5:degF ds ts=x:=by
  rcases (Bool.or_eq_true_iff.1 h2) with h | h
  ·exact absurd (of_decide_eq_true h) (fun e=>h4.1 e (by omega))
  ·exact of_decide_eq_true h
 unfold degF outAt at h5;rw [h1,if_pos rfl,if_neg (by omega)] at h5;rw [tm_eq hj]
 show wd ds ts j=x
 omega
theorem isAlg_im {ds:List Int} {fs:List (List Term)} (h:isAlg ds fs=true):imsOk ds fs=true:=by
 unfold isAlg at h;simp only [Bool.and_eq_true] at h;exact h.1.2
theorem dS_len {ds:List Int} {fs:List (List Term)} {ts:List Term} (hL : ∀i,i<fs.length→(fm fs i).length≤10000) (ho:Occ fs.length (toS ts)):(dS ds fs (toS ts)).length≤ts.length * 80000:=by
 have h1:=acc_len (dAll ds fs (toS ts)) [];have h2:=dAll_len (ds:=ds) hL ho;rw [toS_len] at h2;unfold dS;simp only [List.length_nil] at h1
 omega
def ldR (r:List Int):Nat:=r.findIdx fun x=>decide (x≠0)
theorem ldR_lt {r:List Int} {k:Nat} (h:k<ldR r):r.getD k 0=0:=by
 rcases Nat.lt_or_ge k r.length with hk | hk
 ·have h1:=List.not_of_lt_findIdx h;rw [List.getD_eq_getElem?_getD,List.getElem?_eq_getElem hk]
  simpa using h1
 ·rw [List.getD_eq_getElem?_getD,List.getElem?_eq_none hk]
  rfl
theorem ldR_ne {r:List Int} (h:ldR r<r.length):r.getD (ldR r) 0≠0:=by
 have h1:=List.findIdx_getElem (p:=fun x:Int=>decide (x≠0)) (w:=h);rw [List.getD_eq_getElem?_getD,List.getElem?_eq_getElem h];have h2:r[r.findIdx fun x=>decide (x≠0)]≠0:=of_decide_eq_true h1;exact h2
theorem ldR_of {r:List Int} {k:Nat} (h0 : ∀j,j<k→r.getD j 0=0) (h:r.getD k 0≠0):ldR r=k:=by
 have hk:k<r.length:=by
  rcases Nat.lt_or_ge k r.length with hk | hk
  ·exact hk
  ·rw [List.getD_eq_getElem?_getD,List.getElem?_eq_none hk] at h;exact absurd rfl h
 rcases Nat.lt_trichotomy (ldR r) k with h1 | h1 | h1
 ·exact absurd (h0 _ h1) (ldR_ne (by omega))
 ·exact h1
 ·exact absurd (ldR_lt h1) h
theorem ldR_end {r:List Int} (h : ¬ldR r<r.length) : ∀k,r.getD k 0=0:=fun k=>by
 rcases Nat.lt_or_ge k r.length with hk | hk
 ·exact ldR_lt (by omega)
 ·rw [List.getD_eq_getElem?_getD,List.getElem?_eq_none hk]
  rfl
abbrev Vc:=Nat→Int
abbrev vR (r:List Int):Vc:=fun k=>r.getD k 0
inductive Spn (rs:List (List Int)):Vc→Prop
 | zero {v:Vc}:(∀k,Mo (v k) 0)→Spn rs v
 | add {u v:Vc} {r:List Int} {c:Int}:r∈rs→Spn rs u→(∀k,Mo (v k) (c * r.getD k 0+u k))→Spn rs v
theorem Spn.congr {rs:List (List Int)} {u v:Vc} (h:Spn rs u) (e : ∀k,Mo (v k) (u k)):Spn rs v:=by
 cases h with
 | zero h=>exact .zero fun k=>(e k).trans (h k)
 | add hr hu h=>exact .add hr hu fun k=>(e k).trans (h k)
theorem Spn.row {rs:List (List Int)} {r:List Int} (hr:r∈rs):Spn rs (vR r):=
 .add (u:=fun _=>0) (c:=1) hr (.zero fun _=>Mo.refl _) fun k=>by simp [Mo]
theorem Spn.plus {rs:List (List Int)} {u v:Vc} (hu:Spn rs u) (hv:Spn rs v):Spn rs (fun k=>u k+v k):=by
 induction hu with
 | zero h=>exact hv.congr fun k=>by have:=(h k).add (Mo.refl (v k));simpa using this
 | add hr _ h ih=>
  exact .add hr ih fun k=>by
   have:=(h k).add (Mo.refl (v k));rw [Int.add_assoc] at this;exact this
theorem Spn.mul {rs:List (List Int)} {u:Vc} (hu:Spn rs u) (c:Int):Spn rs (fun k=>c * u k):=by
 induction hu with
 | zero h=>exact .zero fun k=>by have:=(h k).mull c;simpa using this
 | @add u v r d hr _ h ih=>
  exact .add (c:=c * d) hr ih fun k=>by
   have:=(h k).mull c;rw [Int.mul_add,← Int.mul_assoc] at this;exact this
theorem Spn.sub {rs ss:List (List Int)} {v:Vc} (h:Spn rs v) (hs : ∀r∈rs,Spn ss (vR r)):Spn ss v:=by
 induction h with
 | zero h=>exact .zero h
 | @add u v r c hr _ h ih=>exact (((hs r hr).mul c).plus ih).congr h
structure RowOk (W:Nat) (r:List Int):Prop where
 len:r.length=W
 val : ∀k,0≤r.getD k 0∧r.getD k 0≤10006
structure Red (W:Nat) (R:List (List Int)):Prop where
 row : ∀r∈R,RowOk W r
 srt:R.Pairwise fun r s=>ldR r<ldR s
 one : ∀r∈R,ldR r<W∧r.getD (ldR r) 0=1
 zer : ∀r∈R,∀s∈R,ldR r≠ldR s→s.getD (ldR r) 0=0
theorem sum_mo {α:Type} {f g:α→Int} : ∀{l:List α},(∀x∈l,Mo (f x) (g x))→Mo (l.map f).sum (l.map g).sum
 | [],_=>Mo.refl _
 | a::l,h=>by
  simp only [List.map_cons,List.sum_cons]
  exact (h a (by simp)).add (sum_mo fun x hx=>h x (by simp [hx]))
theorem sum_zero {α:Type} {g:α→Int} : ∀{l:List α},(∀x∈l,g x=0)→(l.map g).sum=0
 | [],_=>rfl
 | a::l,h=>by
  simp only [List.map_cons,List.sum_cons]
  rw [h a (by simp),sum_zero fun x hx=>h x (by simp [hx])]
  rfl
theorem sum_plus {α:Type} {f g:α→Int} (c:Int) : ∀{l:List α},(l.map fun x=>c * f x+g x).sum=c * (l.map f).sum+(l.map g).sum
 | []=>by simp
 | a::l=>by
  simp only [List.map_cons,List.sum_cons]
  rw [sum_plus c,Int.mul_add]
  omega
theorem sum_single {α:Type} {f:α→Nat} {g:α→Int} : ∀{l:List α},l.Pairwise (fun a b=>f a<f b)→∀{r:α},r∈l→(∀s∈l,f s≠f r→g s=0)→(l.map g).sum=g r
 | [],_,_,hr,_=>by simp at hr
 | a::l,hp,r,hr,h=>by
  rw [List.pairwise_cons] at hp
  simp only [List.map_cons,List.sum_cons]
  rcases List.mem_cons.1 hr with rfl | hr
  ·rw [sum_zero fun s hs=>h s (by simp [hs]) (by have:=hp.1 s hs;omega)]
   omega
  ·rw [sum_single hp.2 hr fun s hs=>h s (by simp [hs]),h a (by simp) (by have:=hp.1 r hr;omega)]
   omega
theorem Red.at {W:Nat} {R:List (List Int)} (h:Red W R) {v:Vc} (hv:Spn R v) : ∀k,Mo (v k) (R.map fun s=>v (ldR s) * s.getD k 0).sum:=by
 induction hv with
 | zero hz=>
  intro k;refine (hz k).trans ?_
  have h1:=sum_mo (l:=R) (f:=fun s=>(0:Int)) (g:=fun s=>_ * s.getD k 0) fun s _=>by
   have:=(hz (ldR s)).mul (s.getD k 0);rw [Int.zero_mul] at this;exact this.symm
  rw [sum_zero fun x _=>rfl] at h1;exact h1
 | @add u v r c hr _ e ih=>
  intro k;refine (e k).trans ?_
  have h1:=sum_mo (l:=R) (f:=fun s=>v (ldR s) * s.getD k 0) (g:=fun s=>c * (r.getD (ldR s) 0 * s.getD k 0)+u (ldR s) * s.getD k 0) fun s _=>by
   have:=(e (ldR s)).mul (s.getD k 0);rw [Int.add_mul,Int.mul_assoc] at this;exact this
  have h2:=sum_single (l:=R) (f:=ldR) (g:=fun s=>r.getD (ldR s) 0 * s.getD k 0) h.srt hr fun s hs hne=>by rw [h.zer s hs r hr hne,Int.zero_mul]
  rw [(h.one r hr).2,Int.one_mul] at h2;rw [sum_plus,h2] at h1;exact (((Mo.refl (c * r.getD k 0))).add (ih k)).trans h1.symm
theorem Red.lead {W:Nat} {R:List (List Int)} (h:Red W R) {v:Vc} (hv:Spn R v) {k:Nat} (h0 : ∀j,j<k→Mo (v j) 0) (h1 : ¬Mo (v k) 0) : ∃r∈R,ldR r=k:=by
 refine Classical.byContradiction fun hc=>h1 ((h.at hv k).trans ?_)
 have h2:=sum_mo (l:=R) (f:=fun s=>v (ldR s) * s.getD k 0) (g:=fun s=>(0:Int)) fun s hs=>by
  rcases Nat.lt_trichotomy (ldR s) k with h3 | h3 | h3
  ·have:=(h0 _ h3).mul (s.getD k 0)
   rwa [Int.zero_mul] at this
  ·exact absurd ⟨s,hs,h3⟩ hc
  ·rw [ldR_lt h3,Int.mul_zero];exact Mo.refl _
 rwa [sum_zero (l:=R) fun x _=>rfl] at h2
theorem Mo.val {a b:Int} (h:Mo a b) (ha:0≤a∧a≤10006) (hb:0≤b∧b≤10006):a=b:=by unfold Mo at h;omega
theorem Red.mem {W:Nat} {R S:List (List Int)} (hR:Red W R) (hS:Red W S) (h : ∀v,Spn R v↔Spn S v) {r:List Int} (hr:r∈R):r∈S:=by
 have hv:=(h _).1 (Spn.row hr);have h1:=hR.one r hr;obtain ⟨s,hs,e⟩:=hS.lead hv (k:=ldR r) (fun j hj=>by show Mo (r.getD j 0) 0;rw [ldR_lt hj];exact Mo.refl _) (by show ¬Mo (r.getD (ldR r) 0) 0;rw [h1.2];unfold Mo;omega);have hrs:=hR.row r hr;have hss:=hS.row s hs
 have:r=s:=by
  refine List.ext_getElem (by rw [hrs.len,hss.len]) fun k hk1 hk2=>?_;have h2:=hS.at hv k
  rw [sum_single hS.srt hs fun t ht hne=>by
   obtain ⟨r',hr',e'⟩:=hR.lead ((h _).2 (Spn.row ht)) (k:=ldR t) (fun j hj=>by show Mo (t.getD j 0) 0;rw [ldR_lt hj];exact Mo.refl _) (by show ¬Mo (t.getD (ldR t) 0) 0;rw [(hS.one t ht).2];unfold Mo;omega)
   show r.getD (ldR t) 0 * _=0
   rw [← e',hR.zer r' hr' r hr (by omega),Int.zero_mul],e] at h2
  have h3:Mo (r.getD k 0) (s.getD k 0):=by
   have h4:vR r (ldR r)=1:=h1.2;rw [h4,Int.one_mul] at h2;exact h2
  have h5:=h3.val (hrs.val k) (hss.val k);rw [List.getD_eq_getElem?_getD,List.getD_eq_getElem?_getD,List.getElem?_eq_getElem hk1,List.getElem?_eq_getElem hk2] at h5;exact h5
 rw [this];exact hs
theorem srt_ext {α:Type} {f:α→Nat} : ∀{R S:List α},R.Pairwise (fun a b=>f a<f b)→S.Pairwise (fun a b=>f a<f b)→(∀x,x∈R↔x∈S)→R=S
 | [], [],_,_,_=>rfl
 | [],s::S,_,_,h=>by have:=(h s).2 (by simp);simp at this
 | r::R, [],_,_,h=>by have:=(h r).1 (by simp);simp at this
 | r::R,s::S,hR,hS,h=>by
  rw [List.pairwise_cons] at hR hS
  have e:r=s:=by
   rcases List.mem_cons.1 ((h r).1 (by simp)) with h1 | h1
   ·exact h1
   ·rcases List.mem_cons.1 ((h s).2 (by simp)) with h2 | h2
    ·exact h2.symm
    ·have:=hS.1 r h1
     have:=hR.1 s h2
     omega
  subst e
  rw [srt_ext hR.2 hS.2 fun x=>⟨fun hx=>by
   rcases List.mem_cons.1 ((h x).1 (by simp [hx])) with h1 | h1
   ·have:=hR.1 x hx;rw [h1] at this;omega
   ·exact h1,fun hx=>by
   rcases List.mem_cons.1 ((h x).2 (by simp [hx])) with h1 | h1
   ·have:=hS.1 x hx;rw [h1] at this;omega
   ·exact h1⟩]
theorem Red.unique {W:Nat} {R S:List (List Int)} (hR:Red W R) (hS:Red W S) (h : ∀v,Spn R v↔Spn S v):R=S:=
 srt_ext hR.srt hS.srt fun _=>⟨fun hx=>hR.mem hS h hx,fun hx=>hS.mem hR (fun v=>(h v).symm) hx⟩
def invN:Nat→Nat→Nat→Nat→Nat
 | 0,_,o,_=>o
 | f+1,k,o,s=>if k=0 then o else invN f (k / 2) (if k % 2=1 then o * s % 10007 else o) (s * s % 10007)
def chkI (x:Nat):Bool:=Nat.beq (x * invN 14 10005 1 x % 10007) 1
def chkR:Nat→Nat→Bool
 | 0,lo=>chkI lo
 | d+1,lo=>chkR d lo && chkR d (lo+2 ^ d)
theorem chkR_at : ∀{d lo:Nat},chkR d lo=true→∀x,lo≤x→x<lo+2 ^ d→chkI x=true
 | 0,lo,h,x,h1,h2=>by
  have:x=lo:=by simp at h2;omega
  rw [this]
  exact h
 | d+1,lo,h,x,h1,h2=>by
  simp only [chkR,Bool.and_eq_true] at h
  rw [Nat.pow_succ] at h2
  by_cases hx:x<lo+2 ^ d
  ·exact chkR_at h.1 x h1 hx
  ·exact chkR_at h.2 x (by omega) (by omega)
theorem inv_a:chkR 13 1=true:=by kernel_rfl
theorem inv_b:chkR 13 1815=true:=by kernel_rfl
theorem inv_n {x:Nat} (h:1≤x∧x≤10006):x * invN 14 10005 1 x % 10007=1:=by
 have h1:chkI x=true:=by
  by_cases hx:x<1815
  ·exact chkR_at inv_a x h.1 (by have h13:2 ^ 13=8192:=(by decide);omega)
  ·exact chkR_at inv_b x (by omega) (by have h13:2 ^ 13=8192:=(by decide);omega)
 exact Nat.eq_of_beq_eq_true h1
def invL:Nat→Int→Int→Int→Int
 | 0,_,o,_=>o
 | f+1,k,o,s=>if k=0 then o else invL f (k / 2) (if k % 2=1 then o * s % 10007 else o) (s * s % 10007)
theorem invL_N : ∀(f k o s:Nat),invL f (k:Int) (o:Int) (s:Int)=(invN f k o s:Nat)
 | 0,_,_,_=>rfl
 | f+1,k,o,s=>by
  simp only [invL,invN]
  by_cases h:k=0
  ·rw [if_pos h,if_pos (by omega)]
  ·rw [if_neg h,if_neg (by omega)]
   have e1:((k / 2:Nat):Int)=(k:Int) / 2:=by omega
   have e2 : ∀a b:Nat,((a * b % 10007:Nat):Int)=(a:Int) * b % 10007:=fun a b=>by rw [Int.natCast_emod,Int.natCast_mul];rfl
   by_cases h2:k % 2=1
   ·rw [if_pos h2,if_pos (by omega),← invL_N,e1,e2,e2]
   ·rw [if_neg h2,if_neg (by omega),← invL_N,e1,e2]
def ivZ (x:Int):Int:=invL 14 10005 1 x
theorem ivZ_N (x:Nat):ivZ (x:Int)=(invN 14 10005 1 x:Nat):=invL_N 14 10005 1 x
theorem ivZ_mul {x:Int} (h:1≤x∧x≤10006):x * ivZ x % 10007=1:=by
 obtain ⟨n,rfl⟩ : ∃n:Nat,x=n:=⟨x.toNat,by omega⟩;rw [ivZ_N];have h1:=congrArg (fun m:Nat=>(m:Int)) (inv_n (x:=n) (by omega));simp only [Int.natCast_emod,Int.natCast_mul] at h1;exact h1
theorem invN_bd : ∀(f k o s:Nat),o≤10006→invN f k o s≤10006
 | 0,_,_,_,h=>h
 | f+1,k,o,s,h=>by
  simp only [invN]
  split
  ·exact h
  ·refine invN_bd f _ _ _ ?_
   split
   ·have:=Nat.mod_lt (o * s) (show 0<10007 by omega);omega
   ·exact h
theorem ivZ_bd {x:Int} (h:0≤x):0≤ivZ x∧ivZ x≤10006:=by
 obtain ⟨n,rfl⟩ : ∃n:Nat,x=n:=⟨x.toNat,by omega⟩;rw [ivZ_N];have:=invN_bd 14 10005 1 n (by omega)
 omega
def lessS (row other:List Int) (k:Int):List Int:=(List.range row.length).map fun i=>fld (row.getD i 0 - k * other.getD i 0)
@[simp] theorem lessS_len (row other:List Int) (k:Int):(lessS row other k).length=row.length:=by simp [lessS]
theorem getD_out {r:List Int} {k:Nat} (h : ¬k<r.length):r.getD k 0=0:=by
 rw [List.getD_eq_getElem?_getD,List.getElem?_eq_none (by omega)]
 rfl
theorem lessS_get {row other:List Int} {k:Int} {i:Nat} (h:i<row.length):(lessS row other k).getD i 0=fld (row.getD i 0 - k * other.getD i 0):=by simp [lessS,List.getD_eq_getElem?_getD,h]
theorem lessS_all {row other:List Int} {k:Int} (h:other.length=row.length) (i:Nat):(lessS row other k).getD i 0=fld (row.getD i 0 - k * other.getD i 0):=by
 by_cases hi:i<row.length
 ·exact lessS_get hi
 ·rw [getD_out (by simpa using hi),getD_out hi,getD_out (by omega),Int.mul_zero]
  rfl
theorem lessS_mo {row other:List Int} {k:Int} (h:other.length=row.length) (i:Nat):Mo ((lessS row other k).getD i 0) (row.getD i 0 - k * other.getD i 0):=by
 rw [lessS_all h];exact Mo.fld _
theorem RowOk.less {W:Nat} {row other:List Int} {k:Int} (h:RowOk W row) (ho:other.length=row.length):RowOk W (lessS row other k):=⟨by rw [lessS_len];exact h.len,fun i=>by rw [lessS_all ho];exact fld_bd _⟩
theorem RowOk.ext {W:Nat} {r s:List Int} (hr:RowOk W r) (hs:RowOk W s) (h : ∀k,r.getD k 0=s.getD k 0):r=s:=by
 refine List.ext_getElem (by rw [hr.len,hs.len]) fun k hk1 hk2=>?_;have h5:=h k;rw [List.getD_eq_getElem?_getD,List.getD_eq_getElem?_getD,List.getElem?_eq_getElem hk1,List.getElem?_eq_getElem hk2] at h5;exact h5
theorem lessS_0 {W:Nat} {row other:List Int} (h:RowOk W row) (ho:other.length=row.length):lessS row other 0=row:=(h.less ho).ext h fun k=>by
 rw [lessS_all ho,Int.zero_mul,Int.sub_zero]
 have:=h.val k
 exact fld_id (by omega)
section
variable {W : Nat} {R rows : List (List Int)} {row r s : List Int} {v : Vc}
def oneBy (row r:List Int):List Int:=lessS row r (row.getD (ldR r) 0)
def byS (row:List Int) (rows:List (List Int)):List Int:=rows.foldl oneBy row
theorem RowOk.one (h:RowOk W row) (hr:RowOk W r):RowOk W (oneBy row r):=h.less (by rw [hr.len,h.len])
theorem oneBy_get (h:RowOk W row) (hr:RowOk W r) (k:Nat):(oneBy row r).getD k 0=fld (row.getD k 0 - row.getD (ldR r) 0 * r.getD k 0):=lessS_all (by rw [hr.len,h.len]) k
theorem fld_0:fld 0=0:=by rw [fld_eq];rfl
theorem byS_ok : ∀{B:List (List Int)} {row:List Int},RowOk W row→(∀r∈B,RowOk W r)→RowOk W (byS row B)
 | [],_,h,_=>h
 | r::B,row,h,hB=>byS_ok (B:=B) (h.one (hB r (by simp))) fun s hs=>hB s (by simp [hs])
theorem byS_keep {ℓ:Nat} : ∀{B:List (List Int)} {row:List Int},RowOk W row→(∀r∈B,RowOk W r)→row.getD ℓ 0=0→(∀s∈B,s.getD ℓ 0=0)→(byS row B).getD ℓ 0=0
 | [],_,_,_,h0,_=>h0
 | r::B,row,h,hB,h0,hz=>byS_keep (B:=B) (h.one (hB r (by simp))) (fun s hs=>hB s (by simp [hs])) (by rw [oneBy_get h (hB r (by simp)),h0,hz r (by simp),Int.mul_zero,Int.sub_zero,fld_0]) fun s hs=>hz s (by simp [hs])
theorem byS_zero (hR:Red W R) : ∀{A B:List (List Int)} {row:List Int},A++B=R→RowOk W row→∀r∈B,(byS row B).getD (ldR r) 0=0
 | _, [],_,_,_,r,hr=>by simp at hr
 | A,b::B,row,e,h,r,hr=>by
  have hmem : ∀s∈b::B,s∈R:=fun s hs=>by rw [← e];simp only [List.mem_append];exact .inr hs
  have hb:=hR.row b (hmem b (by simp))
  rcases List.mem_cons.1 hr with rfl | hr
  ·refine byS_keep (B:=B) (h.one hb) (fun s hs=>hR.row s (hmem s (by simp [hs]))) ?_ fun s hs=>?_
   ·rw [oneBy_get h hb,(hR.one r (hmem r (by simp))).2,Int.mul_one,Int.sub_self,fld_0]
   ·have hs2:=hR.srt
    rw [← e,List.pairwise_append] at hs2
    have:=(List.pairwise_cons.1 hs2.2.1).1 s hs
    exact hR.zer r (hmem r (by simp)) s (hmem s (by simp [hs])) (by omega)
  ·exact byS_zero hR (A:=A++[b]) (B:=B) (by rw [← e];simp) (h.one hb) r hr
theorem oneBy_spn {ss:List (List Int)} (h:RowOk W row) (hr:RowOk W r) (h1:Spn ss (vR row)) (h2:Spn ss (vR r)):Spn ss (vR (oneBy row r)):=
 (h1.plus (h2.mul (- row.getD (ldR r) 0))).congr fun k=>by
  have:=lessS_mo (row:=row) (other:=r) (k:=row.getD (ldR r) 0) (by rw [hr.len,h.len]) k
  rw [Int.sub_eq_add_neg,← Int.neg_mul] at this
  exact this
theorem oneBy_back {ss:List (List Int)} (h:RowOk W row) (hr:RowOk W r) (h1:Spn ss (vR (oneBy row r))) (h2:Spn ss (vR r)):Spn ss (vR row):=
 (h1.plus (h2.mul (row.getD (ldR r) 0))).congr fun k=>by
  have h3:=lessS_mo (row:=row) (other:=r) (k:=row.getD (ldR r) 0) (by rw [hr.len,h.len]) k
  have h4:=h3.add (Mo.refl (row.getD (ldR r) 0 * r.getD k 0))
  rw [Int.sub_add_cancel] at h4
  exact h4.symm
theorem byS_spn {ss:List (List Int)} : ∀{B:List (List Int)} {row:List Int},RowOk W row→(∀r∈B,RowOk W r)→(∀r∈B,Spn ss (vR r))→(Spn ss (vR (byS row B))↔Spn ss (vR row))
 | [],_,_,_,_=>Iff.rfl
 | r::B,row,h,hB,hs=>(byS_spn (B:=B) (h.one (hB r (by simp))) (fun s hs=>hB s (by simp [hs])) fun s h=>hs s (by simp [h])).trans
  ⟨fun h1=>oneBy_back h (hB r (by simp)) h1 (hs r (by simp)),fun h1=>oneBy_spn h (hB r (by simp)) h1 (hs r (by simp))⟩
def unitS (row:List Int):List Int:=lessS (List.replicate row.length 0) row (fld (-(ivZ (row.getD (ldR row) 0))))
theorem rep_get (n k:Nat):(List.replicate n (0:Int)).getD k 0=0:=by
 rw [List.getD_eq_getElem?_getD,List.getElem?_replicate]
 split <;> rfl
theorem unitS_mo (row:List Int) (k:Nat):Mo ((unitS row).getD k 0) (ivZ (row.getD (ldR row) 0) * row.getD k 0):=by
 unfold unitS;refine (lessS_mo (by simp) k).trans ?_;rw [rep_get,Int.zero_sub,← Int.neg_mul]
 have h1:Mo (-(fld (-(ivZ (row.getD (ldR row) 0))))) (ivZ (row.getD (ldR row) 0)):=by
  rw [fld_eq];unfold Mo
  omega
 exact h1.mul _
theorem RowOk.unit (h:RowOk W row):RowOk W (unitS row):=by
 unfold unitS;refine RowOk.less ⟨by rw [List.length_replicate];exact h.len,fun k=>by rw [rep_get];omega⟩ (by simp)
theorem unitS_lt (h:RowOk W row) {k:Nat} (hk:row.getD k 0=0):(unitS row).getD k 0=0:=by
 have h1:=unitS_mo row k;rw [hk,Int.mul_zero] at h1;exact h1.val (h.unit.val k) (by omega)
theorem unitS_at (h:RowOk W row) (hl:ldR row<row.length):(unitS row).getD (ldR row) 0=1:=by
 have h1:=unitS_mo row (ldR row);have h2:=h.val (ldR row);have h3:=ldR_ne hl;have h4:=ivZ_mul (x:=row.getD (ldR row) 0) (by omega);rw [Int.mul_comm] at h1;refine (Mo.val (h1.trans (show Mo _ 1 from ?_)) (h.unit.val _) (by omega));unfold Mo
 omega
theorem unitS_ld (h:RowOk W row) (hl:ldR row<row.length):ldR (unitS row)=ldR row:=
 ldR_of (fun j hj=>unitS_lt h (ldR_lt hj)) (by rw [unitS_at h hl];omega)
theorem unitS_spn {ss:List (List Int)} (h:RowOk W row) (hl:ldR row<row.length):Spn ss (vR (unitS row))↔Spn ss (vR row):=by
 refine ⟨fun h1=>(h1.mul (row.getD (ldR row) 0)).congr fun k=>?_,fun h1=>(h1.mul _).congr fun k=>unitS_mo row k⟩;have h2:=h.val (ldR row);have h3:=ldR_ne hl;have h4:=ivZ_mul (x:=row.getD (ldR row) 0) (by omega);have h5:=(unitS_mo row k).mull (row.getD (ldR row) 0);rw [← Int.mul_assoc] at h5
 have h6:Mo (row.getD (ldR row) 0 * ivZ (row.getD (ldR row) 0)) 1:=by unfold Mo;omega
 have h7:=h5.trans (h6.mul (row.getD k 0));rw [Int.one_mul] at h7;exact h7.symm
def insS (u:List Int):List (List Int)→List (List Int)
 | []=>[u]
 | r::rs=>if ldR u<ldR r then u::(r::rs).map (fun x=>lessS x u (x.getD (ldR u) 0)) else lessS r u (r.getD (ldR u) 0)::insS u rs
def putS (rows:List (List Int)) (row:List Int):List (List Int):=
 if ldR (byS row rows)<(byS row rows).length then insS (unitS (byS row rows)) rows else rows
def redS (rows:List (List Int)):List (List Int):=rows.foldl putS []
theorem insS_mem (u:List Int) : ∀(R:List (List Int)) (x:List Int),x∈insS u R↔x=u∨∃r∈R,x=oneBy r u
 | [],x=>by simp [insS]
 | r::R,x=>by
  simp only [insS]
  split
  ·simp only [List.mem_cons,List.mem_map]
   constructor
   ·rintro (h | ⟨y,h,e⟩)
    ·exact .inl h
    ·exact .inr ⟨y,h,e.symm⟩
   ·rintro (h | ⟨y,h,e⟩)
    ·exact .inl h
    ·exact .inr ⟨y,h,e.symm⟩
  ·simp only [List.mem_cons,insS_mem u R x]
   constructor
   ·rintro (h | h | ⟨y,h,e⟩)
    ·exact .inr ⟨r,.inl rfl,h⟩
    ·exact .inl h
    ·exact .inr ⟨y,.inr h,e⟩
   ·rintro (h | ⟨y,h | h,e⟩)
    ·exact .inr (.inl h)
    ·subst h;exact .inl e
    ·exact .inr (.inr ⟨y,h,e⟩)
theorem insS_srt {u:List Int} : ∀{R:List (List Int)},R.Pairwise (fun r s=>ldR r<ldR s)→(∀r∈R,ldR r≠ldR u)→(∀r∈R,ldR (oneBy r u)=ldR r)→(insS u R).Pairwise fun r s=>ldR r<ldR s
 | [],_,_,_=>by simp [insS]
 | r::R,hp,hne,he=>by
  have hp':=List.pairwise_cons.1 hp
  simp only [insS]
  split
  ·rename_i hlt
   refine List.pairwise_cons.2 ⟨fun x hx=>?_,?_⟩
   ·obtain ⟨y,hy,rfl⟩:=List.mem_map.1 hx
    have:=he y hy
    unfold oneBy at this
    rw [this]
    rcases List.mem_cons.1 hy with rfl | hy
    ·exact hlt
    ·have:=hp'.1 y hy;omega
   ·rw [List.pairwise_map]
    refine hp.imp_of_mem fun {a b} ha hb hab=>?_
    have h1:=he a ha
    have h2:=he b hb
    unfold oneBy at h1 h2
    rw [h1,h2]
    exact hab
  ·rename_i hlt
   refine List.pairwise_cons.2 ⟨fun x hx=>?_,insS_srt hp'.2 (fun s hs=>hne s (by simp [hs])) fun s hs=>he s (by simp [hs])⟩
   have h1:=he r (by simp)
   unfold oneBy at h1
   rw [h1]
   rcases (insS_mem u R x).1 hx with rfl | ⟨y,hy,rfl⟩
   ·have:=hne r (by simp);omega
   ·rw [he y (by simp [hy])]
    exact hp'.1 y hy
theorem putS_ok (hR:Red W R) (h:RowOk W row):Red W (putS R row)∧∀v,Spn (putS R row) v↔Spn (row::R) v:=by
 have hb:=byS_ok h hR.row;have hz:=byS_zero hR (A:=[]) (B:=R) rfl h;have hsp : ∀ss:List (List Int),(∀r∈R,Spn ss (vR r))→(Spn ss (vR (byS row R))↔Spn ss (vR row)):=fun ss hs=>byS_spn h hR.row hs;unfold putS
 split
 ·rename_i hl
  have hlW:ldR (byS row R)<W:=by rw [← hb.len];exact hl
  have hu:=hb.unit;have hul:=unitS_ld hb hl;have hua:=unitS_at hb hl
  have hne : ∀r∈R,ldR r≠ldR (unitS (byS row R)):=fun r hr e=>by
   have h1:=hz r hr;rw [e,hul] at h1;exact ldR_ne hl h1
  have huz : ∀r∈R,(unitS (byS row R)).getD (ldR r) 0=0:=fun r hr=>unitS_lt hb (hz r hr)
  have hkeep : ∀r∈R,∀s∈R,(oneBy s (unitS (byS row R))).getD (ldR r) 0=s.getD (ldR r) 0:=fun r hr s hs=>by
   rw [oneBy_get (hR.row s hs) hu,huz r hr,Int.mul_zero,Int.sub_zero];have:=(hR.row s hs).val (ldR r);exact fld_id (by omega)
  have hld : ∀r∈R,ldR (oneBy r (unitS (byS row R)))=ldR r:=fun r hr=>by
   refine ldR_of (fun j hj=>?_) (by rw [hkeep r hr r hr,(hR.one r hr).2];omega);rw [oneBy_get (hR.row r hr) hu,ldR_lt hj]
   rcases Nat.lt_or_ge j (ldR (unitS (byS row R))) with h1 | h1
   ·rw [ldR_lt h1,Int.mul_zero,Int.sub_zero,fld_0]
   ·rw [ldR_lt (r:=r) (k:=ldR (unitS (byS row R))) (by omega),Int.zero_mul,Int.sub_zero,fld_0]
  refine ⟨⟨fun x hx=>?_,insS_srt hR.srt hne hld,fun x hx=>?_,fun x hx y hy hxy=>?_⟩,fun v=>⟨fun hv=>hv.sub fun x hx=>?_,fun hv=>hv.sub fun x hx=>?_⟩⟩
  ·rcases (insS_mem _ R x).1 hx with rfl | ⟨r,hr,rfl⟩
   ·exact hu
   ·exact (hR.row r hr).one hu
  ·rcases (insS_mem _ R x).1 hx with rfl | ⟨r,hr,rfl⟩
   ·rw [hul,hua];exact ⟨hlW,rfl⟩
   ·rw [hld r hr,hkeep r hr r hr];exact hR.one r hr
  ·rcases (insS_mem _ R x).1 hx with rfl | ⟨r,hr,rfl⟩ <;> rcases (insS_mem _ R y).1 hy with rfl | ⟨s,hs,rfl⟩
   ·exact absurd rfl hxy
   ·rw [oneBy_get (hR.row s hs) hu,hul,hua,Int.mul_one,Int.sub_self,fld_0]
   ·rw [hld r hr];exact huz r hr
   ·rw [hld r hr,hld s hs] at hxy;rw [hld r hr,hkeep r hr s hs];exact hR.zer r hr s hs hxy
  ·have hu2:Spn (row::R) (vR (unitS (byS row R))):=(unitS_spn hb hl).2 ((hsp _ fun r hr=>.row (by simp [hr])).2 (.row (by simp)))
   rcases (insS_mem _ R x).1 hx with rfl | ⟨r,hr,rfl⟩
   ·exact hu2
   ·exact oneBy_spn (hR.row r hr) hu (.row (by simp [hr])) hu2
  ·have hu2:Spn (insS (unitS (byS row R)) R) (vR (unitS (byS row R))):=.row ((insS_mem _ R _).2 (.inl rfl));have hR2 : ∀r∈R,Spn (insS (unitS (byS row R)) R) (vR r):=fun r hr=>oneBy_back (hR.row r hr) hu (.row ((insS_mem _ R _).2 (.inr ⟨r,hr,rfl⟩))) hu2
   rcases List.mem_cons.1 hx with rfl | hx
   ·exact (hsp _ hR2).1 ((unitS_spn hb hl).1 hu2)
   ·exact hR2 x hx
 ·rename_i hl
  refine ⟨hR,fun v=>⟨fun hv=>hv.sub fun x hx=>.row (by simp [hx]),fun hv=>hv.sub fun x hx=>?_⟩⟩
  rcases List.mem_cons.1 hx with rfl | hx
  ·exact (hsp R fun r hr=>.row hr).1 (.zero fun k=>by show Mo ((byS x R).getD k 0) 0;rw [ldR_end hl];exact Mo.refl _)
  ·exact .row hx
theorem Red.nil:Red W []:=⟨fun _ h=>by simp at h,List.Pairwise.nil,fun _ h=>by simp at h,fun _ h=>by simp at h⟩
theorem foldl_put : ∀{rows R:List (List Int)},Red W R→(∀r∈rows,RowOk W r)→Red W (rows.foldl putS R)∧∀v,Spn (rows.foldl putS R) v↔Spn (rows++R) v
 | [],R,hR,_=>⟨hR,fun v=>Iff.rfl⟩
 | r::rows,R,hR,h=>by
  have h1:=putS_ok hR (h r (by simp))
  have h2:=foldl_put (rows:=rows) h1.1 fun s hs=>h s (List.mem_cons_of_mem _ hs)
  refine ⟨h2.1,fun v=>(h2.2 v).trans ⟨fun hv=>hv.sub fun x hx=>?_,fun hv=>hv.sub fun x hx=>?_⟩⟩
  ·rcases List.mem_append.1 hx with hx | hx
   ·exact .row (by simp [hx])
   ·exact ((h1.2 _).1 (.row hx)).sub fun y hy=>.row (by rcases List.mem_cons.1 hy with rfl | hy <;> simp [*])
  ·rcases List.mem_append.1 hx with hx | hx
   ·rcases List.mem_cons.1 hx with rfl | hx
    ·exact ((h1.2 _).2 (.row (by simp))).sub fun y hy=>.row (by simp [hy])
    ·exact .row (by simp [hx])
   ·exact ((h1.2 _).2 (.row (by simp [hx]))).sub fun y hy=>.row (by simp [hy])
theorem redS_ok (h : ∀r∈rows,RowOk W r):Red W (redS rows)∧∀v,Spn (redS rows) v↔Spn rows v:=by
 have:=foldl_put (W:=W) (R:=[]) Red.nil h
 rwa [List.append_nil] at this
theorem redS_eq (h : ∀r∈rows,RowOk W r) (hR:Red W R) (hs : ∀v,Spn R v↔Spn rows v):R=redS rows:=
 hR.unique (redS_ok h).1 fun v=>(hs v).trans ((redS_ok h).2 v).symm
end
theorem mem_rw {rs:List (List Int)} {r:List Int}:r∈rs↔∃i,i<rs.length∧rw_ rs i=r:=by
 constructor
 ·intro h;obtain ⟨i,hi,rfl⟩:=List.mem_iff_getElem.1 h;exact ⟨i,hi,by simp [rw_,List.getD_eq_getElem?_getD,hi]⟩
 ·rintro ⟨i,hi,rfl⟩
  simp [rw_,List.getD_eq_getElem?_getD,hi]
structure GaJ (W:Nat) (rows work:List (List Int)) (d c:Nat):Prop where
 row : ∀i,i<work.length→RowOk W (rw_ work i)
 hd:d≤work.length
 hc:c≤W
 one : ∀i,i<d→ldR (rw_ work i)<c∧(rw_ work i).getD (ldR (rw_ work i)) 0=1
 zer : ∀i,i<d→∀j,j<work.length→j≠i→(rw_ work j).getD (ldR (rw_ work i)) 0=0
 srt : ∀i j,i<j→j<d→ldR (rw_ work i)<ldR (rw_ work j)
 low : ∀i,d≤i→i<work.length→∀k,k<c→(rw_ work i).getD k 0=0
 spn : ∀v,Spn work v↔Spn rows v
theorem GaJ.start {W:Nat} {rows:List (List Int)} (h : ∀r∈rows,RowOk W r):GaJ W rows rows 0 0:=
 ⟨fun i hi=>h _ (mem_rw.2 ⟨i,hi,rfl⟩),by omega,by omega,fun i hi=>by omega,fun i hi=>by omega,fun i j _ hj=>by omega,fun i _ _ k hk=>by omega,fun v=>Iff.rfl⟩
theorem GaJ.skip {W:Nat} {rows work:List (List Int)} {d c:Nat} (h:GaJ W rows work d c) (hc:c<W) (hz : ∀i,d≤i→i<work.length→(rw_ work i).getD c 0=0):GaJ W rows work d (c+1):=
 ⟨h.row,h.hd,by omega,fun i hi=>⟨by have:=(h.one i hi).1;omega,(h.one i hi).2⟩,h.zer,h.srt,fun i h1 h2 k hk=>by
  by_cases e:k=c
  ·rw [e];exact hz i h1 h2
  ·exact h.low i h1 h2 k (by omega),h.spn⟩
def swp (d j i:Nat):Nat:=if i=d then j else if i=j then d else i
theorem GaJ.ld_q {W:Nat} {rows work:List (List Int)} {d c j:Nat} (h:GaJ W rows work d c) (hj:d≤j) (hjn:j<work.length) (hq:(rw_ work j).getD c 0≠0):ldR (rw_ work j)=c:=ldR_of (fun k hk=>h.low j hj hjn k hk) hq
theorem GaJ.step {W:Nat} {rows work work':List (List Int)} {d c j:Nat} (h:GaJ W rows work d c) (hj:d≤j) (hjn:j<work.length) (hq:(rw_ work j).getD c 0≠0) (hl:work'.length=work.length) (hu:rw_ work' d=unitS (rw_ work j)) (ho : ∀i,i<work.length→i≠d→rw_ work' i=oneBy (rw_ work (swp d j i)) (unitS (rw_ work j))):GaJ W rows work' (d+1) (c+1):=by
 have hqr:=h.row j hjn;have hld:=h.ld_q hj hjn hq
 have hcW:c<W:=by
  rcases Nat.lt_or_ge c W with h1 | h1
  ·exact h1
  ·exact absurd (getD_out (by rw [hqr.len];omega)) hq
 have hll:ldR (rw_ work j)<(rw_ work j).length:=by rw [hld,hqr.len];exact hcW
 have hur:=hqr.unit;have hul:=unitS_ld hqr hll;have hua:=unitS_at hqr hll;rw [hld] at hul hua;have huz : ∀k,k<c→(unitS (rw_ work j)).getD k 0=0:=fun k hk=>ldR_lt (by omega)
 have hsw : ∀i,i<work.length→swp d j i<work.length:=fun i hi=>by unfold swp;split <;> (try split) <;> omega
 have hget : ∀i,i<work.length→i≠d→∀k,k<c→(rw_ work' i).getD k 0=(rw_ work (swp d j i)).getD k 0:=fun i hi hne k hk=>by
  rw [ho i hi hne,oneBy_get (h.row _ (hsw i hi)) hur,huz k hk,Int.mul_zero,Int.sub_zero];have:=(h.row _ (hsw i hi)).val k;exact fld_id (by omega)
 have hgc : ∀i,i<work.length→i≠d→(rw_ work' i).getD c 0=0:=fun i hi hne=>by
  rw [ho i hi hne,oneBy_get (h.row _ (hsw i hi)) hur,hul,hua,Int.mul_one,Int.sub_self,fld_0]
 have hld' : ∀i,i<d→ldR (rw_ work' i)=ldR (rw_ work i):=fun i hi=>by
  have h1:=h.one i hi
  have hs:swp d j i=i:=by unfold swp;rw [if_neg (by omega),if_neg (by omega)]
  refine ldR_of (fun k hk=>?_) ?_
  ·rw [hget i (by have:=h.hd;omega) (by omega) k (by omega),hs];exact ldR_lt hk
  ·rw [hget i (by have:=h.hd;omega) (by omega) _ h1.1,hs,h1.2]
   omega
 have hrow : ∀i,i<work'.length→RowOk W (rw_ work' i):=fun i hi=>by
  by_cases e:i=d
  ·rw [e,hu];exact hur
  ·rw [ho i (by omega) e];exact (h.row _ (hsw i (by omega))).one hur
 refine ⟨hrow,by omega,by omega,fun i hi=>?_,fun i hi m hm hne=>?_,fun i m him hm=>?_,fun i hi hin k hk=>?_,fun v=>?_⟩
 ·by_cases e:i=d
  ·rw [e,hu,hul,hua];exact ⟨by omega,rfl⟩
  ·have h1:=h.one i (by omega)
   have hs:swp d j i=i:=by unfold swp;rw [if_neg e,if_neg (by omega)]
   rw [hld' i (by omega),hget i (by have:=h.hd;omega) e _ h1.1,hs];exact ⟨by omega,h1.2⟩
 ·by_cases e:i=d
  ·subst e;rw [hu,hul];exact hgc m (by omega) hne
  ·have h1:=h.one i (by omega);rw [hld' i (by omega)]
   by_cases em:m=d
   ·subst em;rw [hu];exact huz _ h1.1
   ·rw [hget m (by omega) em _ h1.1];refine h.zer i (by omega) _ (hsw m (by omega)) ?_;unfold swp
    split <;> (try split) <;> omega
 ·by_cases em:m=d
  ·subst em;rw [hu,hul,hld' i him];exact (h.one i him).1
  ·rw [hld' i (by omega),hld' m (by omega)];exact h.srt i m him (by omega)
 ·by_cases ek:k=c
  ·rw [ek];exact hgc i (by omega) (by omega)
  ·rw [hget i (by omega) (by omega) k (by omega)];refine h.low _ ?_ (hsw i (by omega)) k (by omega);unfold swp
   split <;> (try split) <;> omega
 ·refine Iff.trans ⟨fun hv=>hv.sub fun x hx=>?_,fun hv=>hv.sub fun x hx=>?_⟩ (h.spn v)
  ·obtain ⟨i,hi,rfl⟩:=mem_rw.1 hx;have hus:Spn work (vR (unitS (rw_ work j))):=(unitS_spn hqr hll).2 (.row (mem_rw.2 ⟨j,hjn,rfl⟩))
   by_cases e:i=d
   ·rw [e,hu];exact hus
   ·rw [ho i (by omega) e];exact oneBy_spn (h.row _ (hsw i (by omega))) hur (.row (mem_rw.2 ⟨_,hsw i (by omega),rfl⟩)) hus
  ·obtain ⟨i,hi,rfl⟩:=mem_rw.1 hx
   have hdn:d<work'.length:=by omega
   have hus:Spn work' (vR (unitS (rw_ work j))):=by rw [← hu];exact .row (mem_rw.2 ⟨d,hdn,rfl⟩)
   by_cases e:i=j
   ·rw [e];exact (unitS_spn hqr hll).1 hus
   ·have hne:swp d j i≠d:=by unfold swp;split <;> (try split) <;> omega
    have hss:swp d j (swp d j i)=i:=by unfold swp;split <;> (try split) <;> (try split) <;> (try split) <;> (try split) <;> omega
    refine oneBy_back (h.row i hi) hur ?_ hus;have:=ho (swp d j i) (hsw i hi) hne;rw [hss] at this;rw [← this];exact .row (mem_rw.2 ⟨_,by rw [hl];exact hsw i hi,rfl⟩)
theorem GaJ.done {W:Nat} {rows work:List (List Int)} {d c:Nat} (h:GaJ W rows work d c) (hrows : ∀r∈rows,RowOk W r) (he:d=work.length∨c=W):work.take d=redS rows:=by
 have hgt : ∀i,i<d→rw_ (work.take d) i=rw_ work i:=fun i hi=>by simp [rw_,List.getD_eq_getElem?_getD,List.getElem?_take,hi]
 have htl:(work.take d).length=d:=List.length_take_of_le h.hd;refine redS_eq hrows ⟨fun r hr=>?_,?_,fun r hr=>?_,fun r hr s hs hne=>?_⟩ fun v=>Iff.trans ⟨fun hv=>hv.sub fun x hx=>.row (List.mem_of_mem_take hx),fun hv=>hv.sub fun x hx=>?_⟩ (h.spn v)
 ·obtain ⟨i,hi,rfl⟩:=mem_rw.1 hr;rw [hgt i (by omega)];exact h.row i (by have:=h.hd;omega)
 ·rw [List.pairwise_iff_getElem];intro i j hi hj hij;have h1:=h.srt i j hij (by omega);rw [← hgt i (by omega),← hgt j (by omega)] at h1;rw [rw_eq hi,rw_eq hj];exact h1
 ·obtain ⟨i,hi,rfl⟩:=mem_rw.1 hr;rw [hgt i (by omega)];have:=h.one i (by omega);exact ⟨by have:=h.hc;omega,this.2⟩
 ·obtain ⟨i,hi,rfl⟩:=mem_rw.1 hr;obtain ⟨j,hj,rfl⟩:=mem_rw.1 hs;rw [hgt i (by omega)] at hne ⊢;rw [hgt j (by omega)] at hne ⊢;exact h.zer i (by omega) j (by have:=h.hd;omega) fun e=>hne (by rw [e])
 ·obtain ⟨i,hi,rfl⟩:=mem_rw.1 hx
  by_cases hid:i<d
  ·rw [← hgt i hid];exact .row (mem_rw.2 ⟨i,by omega,rfl⟩)
  ·refine .zero fun k=>?_
   show Mo ((rw_ work i).getD k 0) 0
   have:(rw_ work i).getD k 0=0:=by
    rcases he with he | he
    ·omega
    ·rcases Nat.lt_or_ge k W with hk | hk
     ·exact h.low i (by omega) hi k (by omega)
     ·exact getD_out (by rw [(h.row i hi).len];omega)
   rw [this];exact Mo.refl _
def dnL (t:Int):List Int:=((List.range (t+1).toNat).map fun k:Nat=>(k:Int)).reverse
theorem dnL_neg {t:Int} (h:t<0):dnL t=[]:=by
 unfold dnL;rw [show (t+1).toNat=0 by omega]
 rfl
theorem dnL_succ {t:Int} (h:0≤t):dnL t=t::dnL (t - 1):=by
 obtain ⟨n,rfl⟩ : ∃n:Nat,t=n:=⟨t.toNat,by omega⟩;unfold dnL;rw [show ((n:Int)+1).toNat=n+1 by omega,show ((n:Int) - 1+1).toNat=n by omega,List.range_succ,List.map_append,List.reverse_append]
 rfl
theorem dnL_mem {k t:Int}:k∈dnL t↔0≤k∧k≤t:=by
 unfold dnL;simp only [List.mem_reverse,List.mem_map,List.mem_range]
 constructor
 ·rintro ⟨a,h1,rfl⟩
  omega
 ·intro h;exact ⟨k.toNat,by omega,by omega⟩
theorem dnL_srt (t:Int):(dnL t).Pairwise fun a b=>b<a:=by
 unfold dnL;rw [List.pairwise_reverse,List.pairwise_map]
 exact List.pairwise_lt_range.imp fun h=>by omega
def topM (d n:Int):Int:=if d.tmod 2=1 then min (min (n.tdiv d) 20) 1 else min (n.tdiv d) 20
theorem topM_le {d n k:Int} (hd:1≤d) (hn:k * d≤n) (hk:0≤k∧k≤20) (ho:d.tmod 2=1→k≤1):k≤topM d n:=by
 have h0:0≤k * d:=Int.mul_nonneg hk.1 (by omega)
 have h1:k≤n.tdiv d:=by
  rw [Int.tdiv_eq_ediv_of_nonneg (by omega)];exact (Int.le_ediv_iff_mul_le (by omega)).2 hn
 unfold topM
 split
 ·rename_i h
  have:=ho h
  omega
 ·omega
theorem topM_bd {d n k:Int} (h:k≤topM d n):k≤20∧(d.tmod 2=1→k≤1):=by
 unfold topM at h
 split at h
 ·omega
 ·exact ⟨by omega,fun e=>absurd e (by assumption)⟩
def enumF:List Int→Nat→List Int→Int→List (List Int)
 | [],_,m,n=>if n=0 then [m] else []
 | d::ds,i,m,n=>(dnL (topM d n)).flatMap fun k=>enumF ds (i+1) (m.set i k) (n - k * d)
def wsF:List Int→List Int→Nat→Int
 | [],_,_=>0
 | d::ds,p,i=>d * p.getD i 0+wsF ds p (i+1)
theorem enumF_mem : ∀{ds:List Int} {i:Nat} {m p:List Int} {n:Int},i+ds.length≤8→m.length=8→p∈enumF ds i m n→p.length=8∧(∀j,j<i∨i+ds.length≤j→p.getD j 0=m.getD j 0)∧(∀t,t<ds.length→0≤p.getD (i+t) 0∧p.getD (i+t) 0≤20∧((ds.getD t 0).tmod 2=1→p.getD (i+t) 0≤1))∧wsF ds p i=n
 | [],i,m,p,n,_,hm,h=>by
  simp only [enumF] at h
  split at h
  ·rw [List.mem_singleton.1 h]
   exact ⟨hm,fun j _=>rfl,fun t ht=>by simp at ht,by simp [wsF, *]⟩
  ·simp at h
 | d::ds,i,m,p,n,hi,hm,h=>by
  simp only [enumF,List.mem_flatMap] at h
  obtain ⟨k,hk,h⟩:=h
  simp only [List.length_cons] at hi
  obtain ⟨h1,h2,h3,h4⟩:=enumF_mem (ds:=ds) (by omega) (by simpa using hm) h
  have hpi:p.getD i 0=k:=by
   rw [h2 i (.inl (by omega)),getD_set8,if_pos ⟨rfl,by omega⟩]
  have hk2:=dnL_mem.1 hk
  have hk3:=topM_bd hk2.2
  refine ⟨h1,fun j hj=>?_,fun t ht=>?_,?_⟩
  ·simp only [List.length_cons] at hj
   rw [h2 j (by omega),getD_set8,if_neg (by omega)]
  ·cases t with
   | zero=>rw [Nat.add_zero,hpi];exact ⟨hk2.1,hk3.1,hk3.2⟩
   | succ t=>
    have:=h3 t (by simpa using ht)
    rw [show i+1+t=i+(t+1) by omega] at this
    exact this
  ·simp only [wsF]
   rw [h4,hpi,Int.mul_comm]
   omega
theorem wsF_nn {p:List Int} (hp : ∀j,0≤p.getD j 0) : ∀{ds:List Int} {i:Nat},(∀t,t<ds.length→1≤ds.getD t 0)→0≤wsF ds p i
 | [],_,_=>by simp [wsF]
 | d::ds,i,h=>by
  have h1:=wsF_nn hp (ds:=ds) (i:=i+1) fun t ht=>by have:=h (t+1) (by simpa using ht);simpa using this
  have h2:=h 0 (by simp)
  simp only [List.getD_cons_zero] at h2
  have h3:0≤d * p.getD i 0:=Int.mul_nonneg (by omega) (hp i)
  simp only [wsF]
  omega
theorem enumF_in : ∀{ds:List Int} {i:Nat} {m p:List Int} {n:Int},i+ds.length≤8→m.length=8→p.length=8→(∀t,t<ds.length→1≤ds.getD t 0)→(∀j,j<i∨i+ds.length≤j→p.getD j 0=m.getD j 0)→(∀j,0≤p.getD j 0)→
 (∀t,t<ds.length→p.getD (i+t) 0≤20∧((ds.getD t 0).tmod 2=1→p.getD (i+t) 0≤1))→wsF ds p i=n→p∈enumF ds i m n
 | [],i,m,p,n,_,hm,hp,_,ha,_,_,hw=>by
  have e:n=0:=by rw [← hw];rfl
  simp only [enumF]
  rw [if_pos e,List.mem_singleton]
  exact list_eq_of (by omega) fun j _=>ha j (by simp;omega)
 | d::ds,i,m,p,n,hi,hm,hp,hd,ha,h0,hb,hw=>by
  simp only [List.length_cons] at hi
  simp only [wsF] at hw
  simp only [enumF,List.mem_flatMap]
  have hd0:=hd 0 (by simp)
  simp only [List.getD_cons_zero] at hd0
  have hb0:=hb 0 (by simp)
  simp only [Nat.add_zero,List.getD_cons_zero] at hb0
  have hds : ∀t,t<ds.length→1≤ds.getD t 0:=fun t ht=>by have:=hd (t+1) (by simpa using ht);simpa using this
  have hnn:=wsF_nn h0 (i:=i+1) hds
  have hc:p.getD i 0 * d=d * p.getD i 0:=Int.mul_comm _ _
  refine ⟨p.getD i 0,dnL_mem.2 ⟨h0 i,topM_le hd0 (by omega) ⟨h0 i,hb0.1⟩ hb0.2⟩,enumF_in (by omega) (by simpa using hm) hp hds (fun j hj=>?_) h0 (fun t ht=>?_) (by omega)⟩
  ·rw [getD_set8]
   split
   ·rename_i e;rw [e.1]
   ·rename_i e
    exact ha j (by simp only [List.length_cons];omega)
  ·have:=hb (t+1) (by simpa using ht)
   rw [show i+(t+1)=i+1+t by omega] at this
   simpa using this
theorem enumF_srt : ∀{ds:List Int} {i:Nat} {m:List Int} {n:Int},i+ds.length≤8→m.length=8→(enumF ds i m n).Pairwise fun p q=>before p q=true
 | [],i,m,n,_,_=>by
  simp only [enumF]
  split <;> simp
 | d::ds,i,m,n,hi,hm=>by
  simp only [List.length_cons] at hi
  simp only [enumF]
  rw [List.pairwise_flatMap]
  refine ⟨fun k _=>enumF_srt (by omega) (by simpa using hm),(dnL_srt _).imp fun {a b} hab p hp q hq=>?_⟩
  obtain ⟨_,p2,_,_⟩:=enumF_mem (by omega) (by simpa using hm) hp
  obtain ⟨_,q2,_,_⟩:=enumF_mem (by omega) (by simpa using hm) hq
  refine before_iff.2 ⟨i,by omega,fun j hj=>?_,?_⟩
  ·rw [p2 j (.inl (by omega)),q2 j (.inl (by omega)),getD_set8,getD_set8,if_neg (by omega),if_neg (by omega)]
  ·rw [p2 i (.inl (by omega)),q2 i (.inl (by omega)),getD_set8,getD_set8,if_pos ⟨rfl,by omega⟩,if_pos ⟨rfl,by omega⟩]
   exact hab
def monS (ds:List Int) (n:Int):List Pw:=enumF ds 0 zP n
theorem fn125:Fn Tryz.prog 125:=⟨_,Tryz.func125,by kernel_rfl,rfl⟩
theorem fn82:Fn Tryz.prog 82:=⟨_,Tryz.func82,by kernel_rfl,rfl⟩
theorem invL_0 : ∀(f:Nat) (o s:Int),invL f 0 o s=o
 | 0,_,_=>rfl
 | f+1,_,_=>by simp [invL]
theorem invL_odd {f:Nat} {k o s:Int} (hk:0<k) (h:k.tmod 2=1):invL f (k.tdiv 2) ((o * s).tmod 10007) ((s * s).tmod 10007)=invL (f+1) k o s∨¬(0≤o∧0≤s):=by
 by_cases hb:0≤o∧0≤s
 ·left
  have e1:k.tmod 2=k % 2:=Int.tmod_eq_emod_of_nonneg (by omega);simp only [invL];rw [if_neg (by omega),if_pos (by omega),Int.tdiv_eq_ediv_of_nonneg (by omega),Int.tmod_eq_emod_of_nonneg (Int.mul_nonneg hb.1 hb.2),Int.tmod_eq_emod_of_nonneg (Int.mul_nonneg hb.2 hb.2)]
 ·exact .inr hb
theorem invL_even {f:Nat} {k o s:Int} (hk:0<k) (h : ¬k.tmod 2=1):invL f (k.tdiv 2) o ((s * s).tmod 10007)=invL (f+1) k o s∨¬0≤s:=by
 by_cases hb:0≤s
 ·left
  have e1:k.tmod 2=k % 2:=Int.tmod_eq_emod_of_nonneg (by omega);simp only [invL];rw [if_neg (by omega),if_neg (by omega),Int.tdiv_eq_ediv_of_nonneg (by omega),Int.tmod_eq_emod_of_nonneg (Int.mul_nonneg hb hb)]
 ·exact .inr hb
structure InvI (x:Int) (f:Nat) (k o s:Int):Prop where
 kb:0≤k∧k<2 ^ f
 kl:k≤10005
 ob:0≤o∧o≤10006
 sb:0≤s∧s≤10006
 eq:invL f k o s=ivZ x
theorem InvI.start {x:Int} (h:0≤x∧x≤10006):InvI x 14 10005 1 x:=⟨⟨by omega,by decide⟩,by omega,by omega,h,rfl⟩
theorem InvI.pos {x k o s:Int} {f:Nat} (h:InvI x f k o s) (hk:k>0) : ∃f',f=f'+1:=by
 cases f with
 | zero=>have:=h.kb;simp at this;omega
 | succ f=>exact ⟨f,rfl⟩
theorem InvI.prod {x k o s:Int} {f:Nat} (h:InvI x f k o s):0≤o * s∧o * s≤100120036∧0≤s * s∧s * s≤100120036:=by
 have ho:=h.ob;have hs:=h.sb;refine ⟨Int.mul_nonneg ho.1 hs.1,?_,Int.mul_nonneg hs.1 hs.1,?_⟩
 ·exact (Int.mul_le_mul ho.2 hs.2 hs.1 (by omega):o * s≤10006 * 10006)
 ·exact (Int.mul_le_mul hs.2 hs.2 hs.1 (by omega):s * s≤10006 * 10006)
theorem InvI.odd {x k o s:Int} {f:Nat} (h:InvI x (f+1) k o s) (hk:k>0) (h1:k.tmod 2=1):InvI x f (k.tdiv 2) ((o * s).tmod 10007) ((s * s).tmod 10007):=by
 have hp:=h.prod;have hk2:=h.kb;have hkl:=h.kl;rw [Int.pow_succ] at hk2;refine ⟨by rw [Int.tdiv_eq_ediv_of_nonneg (by omega)];omega,by rw [Int.tdiv_eq_ediv_of_nonneg (by omega)];omega,by rw [Int.tmod_eq_emod_of_nonneg (by omega)];omega,by rw [Int.tmod_eq_emod_of_nonneg (by omega)];omega,?_⟩;rw [← h.eq];exact (invL_odd hk h1).resolve_right fun hn=>hn ⟨h.ob.1,h.sb.1⟩
theorem InvI.even {x k o s:Int} {f:Nat} (h:InvI x (f+1) k o s) (hk:k>0) (h1 : ¬k.tmod 2=1):InvI x f (k.tdiv 2) o ((s * s).tmod 10007):=by
 have hp:=h.prod;have hk2:=h.kb;have hkl:=h.kl;rw [Int.pow_succ] at hk2;refine ⟨by rw [Int.tdiv_eq_ediv_of_nonneg (by omega)];omega,by rw [Int.tdiv_eq_ediv_of_nonneg (by omega)];omega,h.ob,by rw [Int.tmod_eq_emod_of_nonneg (by omega)];omega,?_⟩;rw [← h.eq];exact (invL_even hk h1).resolve_right fun hn=>hn h.sb.1
theorem InvI.end {x k o s:Int} {f:Nat} (h:InvI x f k o s) (hk : ¬k>0):o=ivZ x:=by
 have:k=0:=by have:=h.kb;omega
 subst this;rw [← h.eq,invL_0]
def lsK (row other:List Int) (f:Int) (k:Nat):List Int:=(List.range row.length).map fun i=>if i<k then fld (row.getD i 0 - f * other.getD i 0) else row.getD i 0
@[simp] theorem lsK_len (row other:List Int) (f:Int) (k:Nat):(lsK row other f k).length=row.length:=by simp [lsK]
theorem lsK_get {row other:List Int} {f:Int} {k i:Nat} (h:i<row.length):(lsK row other f k).getD i 0=if i<k then fld (row.getD i 0 - f * other.getD i 0) else row.getD i 0:=by simp [lsK,List.getD_eq_getElem?_getD,h]
theorem lsK_zero (row other:List Int) (f:Int):lsK row other f 0=row:=list_eq_of (by simp) fun j hj=>by rw [lsK_get (by simpa using hj),if_neg (by omega)]
theorem lsK_set {row other:List Int} {f:Int} {k:Nat} (hk:k<row.length):(lsK row other f k).set k (fld (row.getD k 0 - f * other.getD k 0))=lsK row other f (k+1):=list_eq_of (by simp) fun j hj=>by
 have hj':j<row.length:=by simpa using hj
 rw [getD_set8,lsK_get hj',lsK_get hj']
 by_cases e:k=j
 ·subst e
  rw [if_pos ⟨rfl,by simpa using hk⟩,if_pos (by omega)]
 ·rw [if_neg fun h=>e h.1]
  by_cases h:j<k
  ·rw [if_pos h,if_pos (by omega)]
  ·rw [if_neg h,if_neg (by omega)]
theorem lsK_end (row other:List Int) (f:Int):lsK row other f row.length=lessS row other f:=list_eq_of (by simp) fun j hj=>by
 have hj':j<row.length:=by simpa using hj
 rw [lsK_get hj',if_pos hj',lessS_get hj']
theorem fld_subt (a b:Int):fld (a - b.tmod 10007)=fld (a - b):=by
 obtain ⟨r,hr⟩:=tmod_p b;rw [fld_eq,fld_eq]
 omega
def nzI (x:Int):Bool:=decide (x≠0)
theorem idxOf_ld {r:List Int} (h:ldR r<r.length):idxOf r nzI=ldR r:=by
 have h1:=idxOf_hit (p:=nzI) h (fun j hj=>by unfold nzI;rw [ldR_lt hj];rfl) (by unfold nzI;exact decide_eq_true (ldR_ne h));exact h1
theorem idxOf_nl {r:List Int} (h : ¬ldR r<r.length):idxOf r nzI = -1:=idxOf_miss fun j _=>by unfold nzI;rw [ldR_end h j];rfl
def zR (r:List Int):Bool:=decide (¬ldR r<r.length)
theorem zR_eq (r:List Int):decide (idxOf r nzI<0)=zR r:=by
 unfold zR
 by_cases h:ldR r<r.length
 ·rw [idxOf_ld h];exact decide_eq_decide.2 (by omega)
 ·rw [idxOf_nl h];exact decide_eq_decide.2 (by omega)
theorem mulb {a b:Int} (ha:0≤a∧a≤10006) (hb:0≤b∧b≤10006):0≤a * b∧a * b≤100120036:=
 ⟨Int.mul_nonneg ha.1 hb.1,(Int.mul_le_mul ha.2 hb.2 hb.1 (by omega):a * b≤10006 * 10006)⟩
theorem byS_app (row:List Int) (a:List (List Int)) (r:List Int):byS row (a++[r])=oneBy (byS row a) r:=by unfold byS;rw [List.foldl_append];rfl
theorem rw_take {rs:List (List Int)} {k:Nat} (hk:k<rs.length):rs.take (k+1)=rs.take k++[rw_ rs k]:=by
 rw [List.take_succ_eq_append_getElem hk]
 simp [rw_,List.getD_eq_getElem?_getD,List.getElem?_eq_getElem hk]
theorem rw_mem {rs:List (List Int)} {k:Nat} (hk:k<rs.length):rw_ rs k∈rs:=mem_rw.2 ⟨k,hk,rfl⟩
theorem byS_take {row:List Int} {rs:List (List Int)} {k:Nat} (hk:k<rs.length):byS row (rs.take (k+1))=oneBy (byS row (rs.take k)) (rw_ rs k):=by rw [rw_take hk,byS_app]
theorem inverse_c {B:World} {H0 H:HP} {L:List SA} {w:World} {x:Int} (hx:0≤x∧x≤10006) (hH:Hp B H0 H L w):Calls Tryz.prog 89 [.int .i64 x].toArray w fun e w'=>e = .returned (.int .i64 (ivZ x))∧Hp B H0 H L w':=by
 refine Jx Tryz.func89 rfl 21 rfl rfl [(0,.int .i64 x)] rfl hH ?_;clear hH;refine Je fun _ hK1 _=>(Jb (Jg (Jd rfl) rfl (Jf (Ja (hK1 (Je fun _ hK2 _=>(Jb (Jg (Jd rfl) rfl (Jf (Ja (hK2 (Je fun _ hK3 _=>(Je fun _ hK4 _=>(Jb (Jg (Jd rfl) rfl (Jf ?_))))))))))))))));refine Ja (hK4 (Jp (JD (σ:=Nat × Int × Int × Int) (fun ⟨f,k,o,s⟩=>[(4,.int .i64 k),(3,.int .i64 o),(0,.int .i64 s)]) (fun ⟨f,k,o,s⟩=>H) (fun ⟨f,k,o,s⟩=>L) (fun ⟨f,k,o,s⟩=>InvI x f k o s) (fun ⟨f,k,o,s⟩=>f) (14,10005,1,x) (InvI.start hx) ⟨rfl,⟨rfl,⟨rfl,trivial⟩⟩⟩ rfl rfl ?_)));rintro ⟨f,k,o,s⟩ hI _ hAg0;have hpr:=hI.prod;have hkk:=hI.kb;have hkl:=hI.kl;have ho9:=hI.ob;have hs9:=hI.sb;refine Je fun _ hK5 _=>(Je fun _ hK6 _=>(Jb (Jg (Jc rfl) rfl (Jg (EK rfl rfl) rfl (Jf (Ja (hK6 (Jq rfl (fun h6=>?_) (fun h6=>?_)))))))))
 ·
  obtain ⟨f,rfl⟩:=hI.pos h6;refine Jn (Ja (hK5 (Je fun _ hK7 _=>(Jp (Je fun _ hK8 _=>(Je fun _ hK9 _=>(Jb (Jg (Jc rfl) rfl (Jg (EF rfl rfl (by decide) rfl) rfl (Jg (EL rfl rfl) rfl (Jf (Ja (hK9 (Jq rfl (fun h11=>?_) (fun h11=>?_)))))))))))))))
  ·
   refine Jb (Jg (Jc rfl) rfl (Jg (Jc rfl) rfl (Jg (EO rfl rfl (by first | exact nw _ (by omega) | rfl)) rfl (Jg (EF rfl rfl (by decide) rfl) rfl (Jg (Jd rfl) rfl (Jf (Ja (hK8 (Jb (Jg (Jc rfl) rfl (Jg (Jc rfl) rfl (Jg (EO rfl rfl (by first | exact nw _ (by omega) | rfl)) rfl (Jg (EF rfl rfl (by decide) rfl) rfl (Jg (Jd rfl) rfl (Jf ?_)))))))))))))));refine JF (Ja (hK7 (Jb (Jg (Jc rfl) rfl (Jg (PR.quo rfl rfl (by decide) (nw _ (by rw [Int.tdiv_eq_ediv_of_nonneg (by omega)];omega))) rfl (Jg (Jd rfl) rfl (Jf (Ja ?_))))))));exact hAg0 (f,k.tdiv 2,(o * s).tmod 10007,(s * s).tmod 10007) (hI.odd h6 h11) (by show f<f+1;omega) 21 rfl rfl ⟨rfl,⟨rfl,⟨rfl,trivial⟩⟩⟩ rfl rfl
  ·
   refine Jn (Ja (hK8 (Jb (Jg (Jc rfl) rfl (Jg (Jc rfl) rfl (Jg (EO rfl rfl (by first | exact nw _ (by omega) | rfl)) rfl (Jg (EF rfl rfl (by decide) rfl) rfl (Jg (Jd rfl) rfl (Jf (JF (Ja (hK7 (Jb (Jg (Jc rfl) rfl (Jg (PR.quo rfl rfl (by decide) (nw _ (by rw [Int.tdiv_eq_ediv_of_nonneg (by omega)];omega))) rfl (Jg (Jd rfl) rfl ?_))))))))))))))));refine Jf (Ja ?_);exact hAg0 (f,k.tdiv 2,o,(s * s).tmod 10007) (hI.even h6 h11) (by show f<f+1;omega) 16 rfl rfl ⟨rfl,⟨rfl,⟨rfl,trivial⟩⟩⟩ rfl rfl
 ·
  refine JG (Jj (Jj (JK (Ja (hK3 (Je fun _ hK10 _=>(Jb (Jg (Jc rfl) rfl (Jg (Jd rfl) rfl (Jf (Ja (hK10 (Jt (Jr rfl (Res.tmp rfl) fun w hH=>?_))))))))))))));exact ⟨ri (hI.end h6),hH⟩
theorem l01Inverse_c {B:World} {H0 H:HP} {L:List SA} {w:World} {x:Int} (hx:0≤x∧x≤10006) (hH:Hp B H0 H L w):Calls Tryz.prog 99 [.int .i64 x].toArray w fun e w'=>e = .returned (.int .i64 (ivZ x))∧Hp B H0 H L w':=by
 refine Jx Tryz.func99 rfl 23 rfl rfl [(0,.int .i64 x)] rfl hH ?_;clear hH;refine Je fun _ hK1 _=>(Jb (Jg (Jd rfl) rfl (Jf (Ja (hK1 (Je fun _ hK2 _=>(Jb (Jg (Jc rfl) rfl (Jg (Jd rfl) rfl (Jg (Jd rfl) rfl (Jf (Ja (hK2 (Je fun _ hK3 _=>(Je fun _ hK4 _=>(Jb ?_))))))))))))))));refine Jg (Jd rfl) rfl (Jf (Ja (hK4 (Jp (JD (σ:=Nat × Int × Int × Int) (fun ⟨f,k,o,s⟩=>[(5,.int .i64 k),(3,.int .i64 o),(4,.int .i64 s)]) (fun ⟨f,k,o,s⟩=>H) (fun ⟨f,k,o,s⟩=>L) (fun ⟨f,k,o,s⟩=>InvI x f k o s) (fun ⟨f,k,o,s⟩=>f) (14,10005,1,x) (InvI.start hx) ⟨rfl,⟨rfl,⟨rfl,trivial⟩⟩⟩ rfl rfl ?_)))));rintro ⟨f,k,o,s⟩ hI _ hAg0;have hpr:=hI.prod;have hkk:=hI.kb;have hkl:=hI.kl;have ho9:=hI.ob;have hs9:=hI.sb;refine Je fun _ hK5 _=>(Je fun _ hK6 _=>(Jb (Jg (Jc rfl) rfl (Jg (EK rfl rfl) rfl (Jf (Ja (hK6 (Jq rfl (fun h8=>?_) (fun h8=>?_)))))))))
 ·
  obtain ⟨f,rfl⟩:=hI.pos h8;refine Jn (Ja (hK5 (Je fun _ hK7 _=>(Jp (Je fun _ hK8 _=>(Je fun _ hK9 _=>(Jb (Jg (Jc rfl) rfl (Jg (EF rfl rfl (by decide) rfl) rfl (Jg (EL rfl rfl) rfl (Jf (Ja (hK9 (Jq rfl (fun h13=>?_) (fun h13=>?_)))))))))))))))
  ·
   refine Jb (Jg (Jc rfl) rfl (Jg (Jc rfl) rfl (Jg (EO rfl rfl (by first | exact nw _ (by omega) | rfl)) rfl (Jg (EF rfl rfl (by decide) rfl) rfl (Jg (Jd rfl) rfl (Jf (Ja (hK8 (Jb (Jg (Jc rfl) rfl (Jg (Jc rfl) rfl (Jg (EO rfl rfl (by first | exact nw _ (by omega) | rfl)) rfl (Jg (EF rfl rfl (by decide) rfl) rfl (Jg (Jd rfl) rfl (Jf ?_)))))))))))))));refine JF (Ja (hK7 (Jb (Jg (Jc rfl) rfl (Jg (PR.quo rfl rfl (by decide) (nw _ (by rw [Int.tdiv_eq_ediv_of_nonneg (by omega)];omega))) rfl (Jg (Jd rfl) rfl (Jf (Ja ?_))))))));exact hAg0 (f,k.tdiv 2,(o * s).tmod 10007,(s * s).tmod 10007) (hI.odd h8 h13) (by show f<f+1;omega) 21 rfl rfl ⟨rfl,⟨rfl,⟨rfl,trivial⟩⟩⟩ rfl rfl
  ·
   refine Jn (Ja (hK8 (Jb (Jg (Jc rfl) rfl (Jg (Jc rfl) rfl (Jg (EO rfl rfl (by first | exact nw _ (by omega) | rfl)) rfl (Jg (EF rfl rfl (by decide) rfl) rfl (Jg (Jd rfl) rfl (Jf (JF (Ja (hK7 (Jb (Jg (Jc rfl) rfl (Jg (PR.quo rfl rfl (by decide) (nw _ (by rw [Int.tdiv_eq_ediv_of_nonneg (by omega)];omega))) rfl (Jg (Jd rfl) rfl ?_))))))))))))))));refine Jf (Ja ?_);exact hAg0 (f,k.tdiv 2,o,(s * s).tmod 10007) (hI.even h8 h13) (by show f<f+1;omega) 16 rfl rfl ⟨rfl,⟨rfl,⟨rfl,trivial⟩⟩⟩ rfl rfl
 ·
  refine JG (Jj (Jj (JK (Ja (hK3 (Je fun _ hK10 _=>(Jb (Jg (Jc rfl) rfl (Jg (Jd rfl) rfl (Jf (Ja (hK10 (Jt (Jr rfl (Res.tmp rfl) fun w hH=>?_))))))))))))));exact ⟨ri (hI.end h8),hH⟩
theorem takeAway_c {B:World} {H0 H:HP} {L:List SA} {w:World} {qrow:Option Addr} {crow mrow:Nat} {row:List Int} {qr:Option Addr} {cr:Nat} {r:List Int} {f:Int} (erow:row.length=mrow) (hr:Ints H qr r) (hl:r.length=row.length) (hrb : ∀k,0≤r.getD k 0∧r.getD k 0≤10006) (hwb : ∀k,0≤row.getD k 0∧row.getD k 0≤10006) (hf:0≤f∧f≤10006) (hn:row.length≤1048576) (hH:Hp B H0 H (own 2 1 qrow mrow crow (intsC row)::L) w):Calls Tryz.prog 90 [.slice qrow mrow crow,.slice qr r.length cr,.int .i64 f].toArray w fun e w'=>e = .returned (.tuple #[])∧Hp B H0 H (own 2 1 qrow mrow crow (intsC (lessS row r f))::L) w':=by
 refine Jx Tryz.func90 rfl 29 rfl rfl [(0,.slice qrow mrow crow),(1,.slice qr r.length cr),(2,.int .i64 f)] rfl hH ?_;clear hH;subst erow;refine Je fun _ hK1 _=>(Jb (Jg (Jc rfl) rfl (Jg (Jo u22 rfl rfl) rfl (Jg (Jc rfl) rfl (Jf (Ja (hK1 (Jp (JD (σ:=Nat) (fun (k:Nat)=>[(10,.int .i64 (k:Int))]) (fun (k:Nat)=>H) (fun (k:Nat)=>own 2 1 qrow row.length crow (intsC (lsK row r f k))::L) (fun (k:Nat)=>k≤r.length) (fun (k:Nat)=>r.length - k) 0 (by omega) ⟨rfl,trivial⟩ rfl (by rw [lsK_zero]) ?_)))))))));rintro k hk _ hAg0;refine Je fun _ hK2 _=>(Jb (Jg (JJ rfl rfl) rfl (Jf (Ja (hK2 (Je fun _ hK3 _=>(Jq rfl (fun h11=>?_) (fun h11=>?_))))))))
 ·
  have hkl:k<row.length:=by omega
  have hg9:(lsK row r f k).getD k 0=row.getD k 0:=by rw [lsK_get hkl,if_neg (by omega)]
  have hrk:=hrb k;have hwk:=hwb k;have hmk:=mulb hf hrk;have htk:=tmod_bd (f * r.getD k 0);refine Jn (Ja (hK3 (Je fun _ hK4 _=>(Jp (Je fun _ hK5 _=>(Jb (Jg (Jc rfl) rfl (Jg (JL u22 sz2 rfl rfl rfl (by omega) hr.sm) rfl (Jg (JE rfl (hr _ (by omega)) pl2) rfl (Jg (Jd rfl) rfl (Jg (Jd rfl) rfl (Jf (Ja (hK5 (Jb (Jg (Jc rfl) rfl ?_))))))))))))))));refine Jg (Jc rfl) rfl (Jg (Jc rfl) rfl (Jg (Jc rfl) rfl (Jg (Eu u22 sz2 rfl rfl rfl (by omega) At.z) rfl (Jg (ED rfl At.z ((intsC_get (by simp;omega)).trans (congrArg (fun x=>some (Value.int .i64 x)) hg9)) pl2) rfl (Jg (Jc rfl) rfl (Jg (Jc rfl) rfl (Jg (EO rfl rfl (nw _ (by omega))) rfl (Jg (EF rfl rfl (by decide) rfl) rfl (Jg (EH rfl rfl (nw _ (by omega))) rfl (Ju fn126 rfl rfl fun w hH=>(field_c (by omega) hH).mono ?_))))))))));rintro _ w ⟨rfl,hH⟩;refine ⟨_,rfl,fun a hF=>JH hF hH ?_⟩;refine Jg (Eu u22 sz2 rfl rfl rfl (by omega) At.z) rfl (ET rfl rfl sz2 (by omega) At.z (Jf (JF (Ja (hK4 (Jb (Jg (Jz rfl rfl (by first | exact nw _ (by omega) | rfl)) rfl (Jg (Jc rfl) rfl (Jf (Ja ?_))))))))));exact hAg0 (k+1) (by omega) (by omega) 22 rfl rfl ⟨rfl,trivial⟩ rfl (by rw [fld_subt,lsK_set (by omega)])
 ·
  refine JG (Jj (Jj (JK (EJ.ret0 rfl fun w hH=>?_))));replace hH:=hH.sublist (.cons_cons _ (List.Sublist.refl _))
  obtain rfl:k=row.length:=by omega
  rw [lsK_end] at hH;exact ⟨rfl,hH⟩
theorem lead1_c {B:World} {H0 H:HP} {L:List SA} {w:World} {x:Int} (hH:Hp B H0 H L w):Calls Tryz.prog 125 [.int .i64 x].toArray w fun e w'=>e = .returned (.bool (nzI x))∧Hp B H0 H L w':=by
 refine Jx Tryz.func125 rfl 5 rfl rfl [(0,.int .i64 x)] rfl hH ?_;clear hH;refine Je fun _ hK1 _=>(Jb (Jg (Jd rfl) rfl (Jf (Ja (hK1 (Je fun _ hK2 _=>(Jb (Jg (Jc rfl) rfl (Jg (Eo rfl rfl) rfl (Jg (Jd rfl) rfl (Jf (Ja (hK2 (Jt (Jr rfl (Res.tmp rfl) fun w hH=>?_)))))))))))))));exact ⟨rfl,hH⟩
theorem lead_c {B:World} {H0 H:HP} {L:List SA} {w:World} {qr:Option Addr} {cr:Nat} {r:List Int} (hr:Ints H qr r) (hn:r.length≤1048576) (hH:Hp B H0 H L w):Calls Tryz.prog 82 [.slice qr r.length cr].toArray w fun e w'=>e = .returned (.int .i64 (idxOf r nzI))∧Hp B H0 H L w':=by
 refine Jx Tryz.func82 rfl 5 rfl rfl [(0,.slice qr r.length cr)] rfl hH ?_;clear hH;refine Je fun _ hK1 _=>(Jb (Jg (Jd rfl) rfl (Jf (Ja (hK1 (Je fun _ hK2 _=>(Jb (Jg (Jc rfl) rfl (Ju fn124 rfl rfl fun w hH=>(IndexFuncI_c hr fn125 (fun x w hH=>by simpa only [Array.append_empty,Array.empty_append] using lead1_c hH) (by omega) hH).mono ?_)))))))));rintro _ w ⟨rfl,hH⟩;refine ⟨_,rfl,fun a hF=>JH hF hH ?_⟩;refine Jg (Jd rfl) rfl (Jf (Ja (hK2 (Jt (Jr rfl (Res.tmp rfl) fun w hH=>?_)))));exact ⟨rfl,hH⟩
theorem isZero_c {B:World} {H0 H:HP} {L:List SA} {w:World} {qr:Option Addr} {cr:Nat} {r:List Int} (hr:Ints H qr r) (hn:r.length≤1048576) (hH:Hp B H0 H L w):Calls Tryz.prog 122 [.slice qr r.length cr].toArray w fun e w'=>e = .returned (.bool (zR r))∧Hp B H0 H L w':=by
 refine Jx Tryz.func122 rfl 6 rfl rfl [(0,.slice qr r.length cr)] rfl hH ?_;clear hH;refine Je fun _ hK1 _=>(Jb (Jg (Jd rfl) rfl (Jf (Ja (hK1 (Je fun _ hK2 _=>(Jb (Jg (Jc rfl) rfl (Ju fn82 rfl rfl fun w hH=>(lead_c hr hn hH).mono ?_)))))))));rintro _ w ⟨rfl,hH⟩;refine ⟨_,rfl,fun a hF=>JH hF hH ?_⟩;refine Jg (JJ rfl rfl) rfl (Jg (Jd rfl) rfl (Jf (Ja (hK2 (Jt (Jr rfl (Res.tmp rfl) fun w hH=>?_))))));exact ⟨rb (zR_eq r),hH⟩
theorem rows_ext {a b:List (List Int)} (hl:a.length=b.length) (h : ∀i,i<b.length→rw_ a i=rw_ b i):a=b:=by
 refine List.ext_getElem hl fun i h1 h2=>?_;have:=h i h2;unfold rw_ at this;rw [List.getD_eq_getElem?_getD,List.getD_eq_getElem?_getD,List.getElem?_eq_getElem h1,List.getElem?_eq_getElem h2] at this;exact this
theorem rw_map {n:Nat} {f:Nat→List Int} {i:Nat} (hi:i<n):rw_ ((List.range n).map f) i=f i:=by simp [rw_,List.getD_eq_getElem?_getD,hi]
def swR (rs:List (List Int)) (d j:Nat):List (List Int):=(List.range rs.length).map fun i=>rw_ rs (swp d j i)
@[simp] theorem swR_len (rs:List (List Int)) (d j:Nat):(swR rs d j).length=rs.length:=by simp [swR]
theorem swR_get {rs:List (List Int)} {d j i:Nat} (hi:i<rs.length):rw_ (swR rs d j) i=rw_ rs (swp d j i):=rw_map hi
theorem swp_d (d j:Nat):swp d j d=j:=by unfold swp;rw [if_pos rfl]
theorem swp_if (d j i:Nat):(if i=j then d else if i=d then j else i)=swp d j i:=by unfold swp;split <;> split <;> omega
theorem swp_lt {d j i n:Nat} (hd:d<n) (hj:j<n) (hi:i<n):swp d j i<n:=by unfold swp;split <;> (try split) <;> omega
theorem swp_inj {d j i k:Nat} (h:i≠k):swp d j i≠swp d j k:=by unfold swp;split <;> (try split) <;> (try split) <;> (try split) <;> omega
def scK (r:List Int) (b:Int) (k:Nat):List Int:=(List.range r.length).map fun i=>if i<k then (r.getD i 0 * b).tmod 10007 else r.getD i 0
@[simp] theorem scK_len (r:List Int) (b:Int) (k:Nat):(scK r b k).length=r.length:=by simp [scK]
theorem scK_get {r:List Int} {b:Int} {k i:Nat} (h:i<r.length):(scK r b k).getD i 0=if i<k then (r.getD i 0 * b).tmod 10007 else r.getD i 0:=by simp [scK,List.getD_eq_getElem?_getD,h]
theorem scK_zero (r:List Int) (b:Int):scK r b 0=r:=list_eq_of (by simp) fun j hj=>by rw [scK_get (by simpa using hj),if_neg (by omega)]
theorem scK_set {r:List Int} {b:Int} {k:Nat} (hk:k<r.length):(scK r b k).set k ((r.getD k 0 * b).tmod 10007)=scK r b (k+1):=list_eq_of (by simp) fun j hj=>by
 have hj':j<r.length:=by simpa using hj
 rw [getD_set8,scK_get hj',scK_get hj']
 by_cases e:k=j
 ·subst e
  rw [if_pos ⟨rfl,by simpa using hk⟩,if_pos (by omega)]
 ·rw [if_neg fun h=>e h.1]
  by_cases h:j<k
  ·rw [if_pos h,if_pos (by omega)]
  ·rw [if_neg h,if_neg (by omega)]
theorem scK_end {W c:Nat} {r:List Int} (h:RowOk W r) (hl:ldR r=c) (hc:c<W):scK r (ivZ (r.getD c 0)) r.length=unitS r:=by
 subst hl;have hu:=h.unit;refine list_eq_of (by rw [scK_len,h.len,hu.len]) fun j hj=>?_
 have hj':j<r.length:=by simpa using hj
 rw [scK_get hj',if_pos hj'];have h1:=h.val j;have h2:=h.val (ldR r);have h3:=ivZ_bd h2.1;have h4:=mulb h1 h3;rw [Int.tmod_eq_emod_of_nonneg h4.1];refine Mo.val ?_ (by omega) (hu.val j);refine (show Mo (r.getD j 0 * ivZ (r.getD (ldR r) 0) % 10007) (r.getD j 0 * ivZ (r.getD (ldR r) 0)) by unfold Mo;omega).trans ?_;rw [Int.mul_comm];exact (unitS_mo r j).symm
def tkK (wk:List (List Int)) (u:List Int) (d i:Nat):List (List Int):=(List.range wk.length).map fun t=>if t=d then u else if t<i then oneBy (rw_ wk t) u else rw_ wk t
@[simp] theorem tkK_len (wk:List (List Int)) (u:List Int) (d i:Nat):(tkK wk u d i).length=wk.length:=by simp [tkK]
theorem tkK_get {wk:List (List Int)} {u:List Int} {d i t:Nat} (h:t<wk.length):rw_ (tkK wk u d i) t=if t=d then u else if t<i then oneBy (rw_ wk t) u else rw_ wk t:=rw_map h
theorem tkK_d {wk:List (List Int)} {u:List Int} {d i:Nat} (h:d<wk.length):rw_ (tkK wk u d i) d=u:=by rw [tkK_get h,if_pos rfl]
theorem tkK_i {wk:List (List Int)} {u:List Int} {d i:Nat} (h:i<wk.length) (hd:i≠d):rw_ (tkK wk u d i) i=rw_ wk i:=by rw [tkK_get h,if_neg hd,if_neg (by omega)]
theorem tkK_zero {wk:List (List Int)} {u:List Int} {d:Nat}:tkK wk u d 0=wk.set d u:=rows_ext (by simp) fun i hi=>by
 have hi':i<wk.length:=by simpa using hi
 rw [tkK_get hi',rw_set]
 by_cases e:i=d
 ·rw [if_pos e,if_pos ⟨e.symm,by omega⟩]
 ·rw [if_neg e,if_neg (by omega),if_neg fun h=>e h.1.symm]
theorem tkK_set {wk:List (List Int)} {u:List Int} {d i:Nat} (hi:i<wk.length) (hd:i≠d):(tkK wk u d i).set i (oneBy (rw_ wk i) u)=tkK wk u d (i+1):=rows_ext (by simp) fun t ht=>by
 have ht':t<wk.length:=by simpa using ht
 rw [rw_set,tkK_get ht',tkK_get ht']
 by_cases e:i=t
 ·subst e
  rw [if_pos ⟨rfl,by simpa using hi⟩,if_neg hd,if_pos (by omega)]
 ·rw [if_neg fun h=>e h.1]
  by_cases e2:t=d
  ·rw [if_pos e2,if_pos e2]
  ·rw [if_neg e2,if_neg e2]
   by_cases h:t<i
   ·rw [if_pos h,if_pos (by omega)]
   ·rw [if_neg h,if_neg (by omega)]
theorem tkK_same {wk:List (List Int)} {u:List Int} {d i:Nat} (h:i<wk.length→i≠d→oneBy (rw_ wk i) u=rw_ wk i):tkK wk u d i=tkK wk u d (i+1):=rows_ext (by simp) fun t ht=>by
 have ht':t<wk.length:=by simpa using ht
 rw [tkK_get ht',tkK_get ht']
 by_cases e2:t=d
 ·rw [if_pos e2,if_pos e2]
 ·rw [if_neg e2,if_neg e2]
  by_cases h1:t<i
  ·rw [if_pos h1,if_pos (by omega)]
  ·rw [if_neg h1]
   by_cases h2:t=i
   ·subst h2
    rw [if_pos (by omega),h ht' e2]
   ·rw [if_neg (by omega)]
theorem idxR_neg {xs:List (List Int)} {p:List Int→Bool} (h:idxR xs p<0) : ∀i,i<xs.length→p (rw_ xs i)=false:=fun i hi=>by
 cases hp:p (rw_ xs i) with
 | false=>rfl
 | true=>
  exfalso
  unfold idxR at h
  rw [if_pos (List.any_eq_true.2 ⟨xs[i],List.getElem_mem hi,by rw [rw_eq];exact hp⟩)] at h
  omega
theorem idxR_pos {xs:List (List Int)} {p:List Int→Bool} (h : ¬idxR xs p<0) : ∃k,k<xs.length∧idxR xs p=(k:Nat)∧p (rw_ xs k)=true:=by
 unfold idxR at h ⊢
 by_cases ha:xs.any p=true
 ·rw [if_pos ha] at h ⊢;have hlt:xs.findIdx p<xs.length:=List.findIdx_lt_length.2 (List.any_eq_true.1 ha);refine ⟨_,hlt,rfl,?_⟩;rw [← rw_eq hlt];exact List.findIdx_getElem
 ·rw [if_neg ha] at h
  omega
theorem rw_drop {xs:List (List Int)} {d i:Nat}:rw_ (xs.drop d) i=rw_ xs (d+i):=by simp [rw_,List.getD_eq_getElem?_getD,List.getElem?_drop]
theorem GaJ.round {W:Nat} {rs work:List (List Int)} {d c j:Nat} (h:GaJ W rs work d c) (hj:d≤j) (hjn:j<work.length) (hq:(rw_ work j).getD c 0≠0):GaJ W rs (tkK (swR work d j) (unitS (rw_ work j)) d work.length) (d+1) (c+1):=
 h.step hj hjn hq (by simp) (tkK_d (by simpa using (by omega:d<work.length))) fun i hi hne=>by
  rw [tkK_get (by simpa using hi),if_neg hne,if_pos hi,swR_get hi]
theorem oneBy_zero {W:Nat} {r u:List Int} (hr:RowOk W r) (hu:RowOk W u) (h:r.getD (ldR u) 0=0):oneBy r u=r:=by
 unfold oneBy;rw [h];exact lessS_0 hr (by rw [hr.len,hu.len])
section
variable {B : World} {H0 H : HP} {L : List SA} {w : World} {T : TypeId} {vs : Vs} {wk : List (List Int)} {u : List Int} {d i : Nat}
theorem Hp.tk0 (h:Hp B H0 H (own T 1 (vs d).1 (rw_ wk d).length (vs d).2 (intsC u)::ownIx T vs wk (less1 (fun _=>true) d)::L) w) (hd:d<wk.length) (hu:u.length=(rw_ wk d).length):Hp B H0 H (rowA T vs (tkK wk u d 0) d::ownIx T vs (tkK wk u d 0) (less1 (fun _=>true) d)::L) w:=by
 rw [← hu] at h;have h1:=h.putRow hd rfl;rw [← tkK_zero] at h1;exact h1.pick (by simpa using hd) rfl
theorem Hp.tkPut (h:Hp B H0 H (rowA T vs wk d::ownIx T vs wk (less1 (fun _=>true) d)::L) w) (hd:d<wk.length):Hp B H0 H (ownIx T vs wk (fun _=>true)::L) w:=by
 have h1:=h.putRow hd rfl
 rw [show wk.set d (rw_ wk d)=wk from rows_ext (by simp) fun i hi=>by
  rw [rw_set]
  split
  ·rename_i e;rw [e.1]
  ·rfl] at h1
 exact h1
theorem Hp.tkStep {r:List Int} (h:Hp B H0 H (rowA T vs (tkK wk u d i) d::own T 1 (vs i).1 (rw_ (tkK wk u d i) i).length (vs i).2 (intsC r)::ownIx T vs (tkK wk u d i) (less1 (less1 (fun _=>true) d) i)::L) w) (hd:d<wk.length) (hi:i<wk.length) (hne:i≠d) (hr:r=oneBy (rw_ wk i) u) (hl:r.length=(rw_ (tkK wk u d i) i).length):Hp B H0 H (rowA T vs (tkK wk u d (i+1)) d::ownIx T vs (tkK wk u d (i+1)) (less1 (fun _=>true) d)::L) w:=by
 rw [← hl] at h;have h1:=(h.front (.s .z)).front (.s (.s .z));have h2:=(h1.front (.s .z)).putRow (by simpa using hi) (less1_iff.2 ⟨rfl,hne⟩);rw [hr,tkK_set hi hne] at h2;have h3:=h2.front (.s .z)
 have e:rowA T vs (tkK wk u d i) d=rowA T vs (tkK wk u d (i+1)) d:=by
  show own _ _ _ _ _ _=own _ _ _ _ _ _
  rw [tkK_d hd,tkK_d hd]
 rw [e] at h3;exact h3
end
theorem reduce1_c {B:World} {H0 H:HP} {L:List SA} {w:World} {qr:Option Addr} {cr:Nat} {r:List Int} {bc:Nat} {c:Int} (hr:Ints H qr r) (kc:cellO H (some ⟨bc,0,none⟩) 0=some (.int .i64 c)) (hc:0≤c∧c.toNat<r.length) (hH:Hp B H0 H L w):Calls Tryz.prog 88 [.slice qr r.length cr,.pointer (some ⟨bc,0,none⟩)].toArray w fun e w'=>e = .returned (.bool (decide (r.getD c.toNat 0≠0)))∧Hp B H0 H L w':=by
 refine Jx Tryz.func88 rfl 9 rfl rfl [(0,.slice qr r.length cr),(1,.pointer (some ⟨bc,0,none⟩))] rfl hH ?_;clear hH;refine Je fun _ hK1 _=>(Jb (Jg (Jd rfl) rfl (Jf (Ja (hK1 (Je fun _ hK2 _=>(Jb (Jg (Jc rfl) rfl (Jg (JE (q:=some ⟨bc,0,none⟩) (k:=0) rfl kc pl3) rfl (Jg (JL (i':=c.toNat) u22 sz2 rfl rfl (by omega) (by omega) hr.sm) rfl (Jg (JE rfl (hr _ (by omega)) pl2) rfl (Jg (Eo rfl rfl) rfl (Jg (Jd rfl) rfl (Jf (Ja (hK2 ?_))))))))))))))));refine Jt (Jr rfl (Res.tmp rfl) fun w hH=>?_);exact ⟨rfl,hH⟩
theorem by22:Bytes Tryz.prog 22 24:=by unfold Bytes;kernel_rfl
theorem ze22:Zero Tryz.prog 22 [.slice none 0 0]:=by unfold Zero;kernel_rfl
theorem ze3:Zero Tryz.prog 3 [.int .i64 0]:=by unfold Zero;kernel_rfl
theorem fn86:Fn Tryz.prog 86:=⟨_,Tryz.func86,by kernel_rfl,rfl⟩
theorem fn87:Fn Tryz.prog 87:=⟨_,Tryz.func87,by kernel_rfl,rfl⟩
theorem fn88:Fn Tryz.prog 88:=⟨_,Tryz.func88,by kernel_rfl,rfl⟩
theorem fn89:Fn Tryz.prog 89:=⟨_,Tryz.func89,by kernel_rfl,rfl⟩
theorem fn90:Fn Tryz.prog 90:=⟨_,Tryz.func90,by kernel_rfl,rfl⟩
theorem reduce_c {B:World} {H0 H:HP} {L:List SA} {w:World} {qrs:Option Addr} {crs:Nat} {rs:List (List Int)} {W:Nat} (hrs:RowsR H qrs rs) (hW : ∀r∈rs,RowOk W r) (hn:rs.length≤1048576) (hWn:W≤1048576) (hH:Hp B H0 H L w):Calls Tryz.prog 46 [.slice qrs rs.length crs].toArray w fun e w'=>∃q c vs,e = .returned (.slice q (redS rs).length c)∧Hp B H0 H (ownRs 22 2 q c vs (redS rs)::L) w':=by
 refine Jx Tryz.func46 rfl 132 rfl rfl [(0,.slice qrs rs.length crs)] rfl hH ?_;clear hH;refine Je fun _ hK1 _=>(Jb (Jg (Jd rfl) rfl (Jf (Ja (hK1 (Je fun _ hK2 _=>(Jb (EI (EP u31 sz22) rfl fun qo13 co13=>(J.is0 2 (Jg (Jd rfl) rfl (Jf (Ja (hK2 (Je fun _ hK3 _=>(Je fun _ hK4 _=>(Jb ?_))))))))))))))));refine Jg (Jc rfl) rfl (Jg (Jo u31 rfl rfl) rfl (Jg (Jc rfl) rfl (Jf (Ja (hK4 (Jp (JD (σ:=Option Addr × Nat × Vs × Nat) (fun ⟨q0,c0,vsa,k⟩=>[(16,.int .i64 (k:Int)),(3,.slice q0 k c0)]) (fun ⟨q0,c0,vsa,k⟩=>H) (fun ⟨q0,c0,vsa,k⟩=>ownIs 2 vsa (rs.take k)::own 22 1 q0 k c0 (slicesI vsa (rs.take k))::L) (fun ⟨q0,c0,vsa,k⟩=>k≤rs.length) (fun ⟨q0,c0,vsa,k⟩=>rs.length - k) (qo13,co13,nilVs,0) (by show 0≤rs.length;omega) ⟨rfl,⟨rfl,trivial⟩⟩ rfl rfl ?_)))))));rintro ⟨q0,c0,vsa,k⟩ hI _ hAg0;have hk:=hI;have htk:(rs.take k).length=k:=List.length_take_of_le hk;refine Je fun _ hK5 _=>(Jb (Jg (JJ rfl rfl) rfl (Jf (Ja (hK5 (Je fun _ hK6 _=>(Jq rfl (fun hc17=>?_) (fun hc17=>?_))))))))
 ·
  refine Jn (Ja (hK6 (Je fun _ hK7 _=>(Jp (Je fun _ hK8 _=>(Jb (Jg (JL u31 sz22 rfl rfl rfl (by omega) hrs.sm) rfl ?_)))))));obtain ⟨qe19,ce19,he19,le19,Fe19⟩:=hrs k (by omega);refine Jg (JE rfl he19 pl22) rfl (Jg (Jd rfl) rfl (Jf (Ja (hK8 (Jb (Jg (Jc rfl) rfl (Jg (Jc rfl) rfl (Ju fn86 rfl rfl fun w hH=>(CloneI_c Fe19 (by have:=(hW _ (rw_mem (show k<rs.length by omega))).len;omega) hH).mono ?_))))))));rintro _ w ⟨qo22,co22,rfl,hH⟩;refine ⟨_,rfl,fun a hF=>JH hF hH ?_⟩;refine EI (EN u31 ze22 sz22 rfl rfl) rfl fun qo23 co23=>(EG u31 ze22 sz22 by22 rfl rfl rfl rfl (by omega) .z (.s (.s .z)) (fun _ _=>(.s (.s .z))) rfl fun qo24 co24=>(Jg (Jd rfl) rfl (Jf (JF (Ja (hK7 (Jb (Jg (Jz rfl rfl (by first | exact nw _ (by omega) | rfl)) rfl (Jg (Jc rfl) rfl (Jf (Ja (Jw (.s (.s (.s .z))) (Jw (.s .z) (Jw (.s (.s (.s .z))) (Jw (.s (.s (.s .z))) ?_)))))))))))))));refine EJ.isSnoc (rs:=rs.take k) htk rfl (JN (.s .z) ?_);exact hAg0 (qo24,co24,setV vsa k (qo22,co22),k+1) (by show k+1≤rs.length;omega) (by show rs.length - (k+1)<rs.length - k;omega) 14 rfl rfl ⟨rfl,⟨rfl,trivial⟩⟩ rfl (by dsimp only;rw [rw_take (by omega),slicesI_set htk])
 ·
  refine JG (Jj (Jj (JK (Ja (hK3 (Je fun _ hK9 _=>(Jb (Jg (Jd rfl) rfl (Jf (Ja (hK9 (Je fun _ hK10 _=>(Je fun _ hK11 _=>(Jb (JP ze3 rfl fun g7=>(Et rfl rfl rfl rfl sz3 (by simp [*]) At.z ?_))))))))))))))))
  obtain rfl:k=rs.length:=by omega
  refine J.reL (L':=ownIx 2 vsa rs (fun _=>true)::obj g7 (.cells [.int .i64 (0:Int)].toArray 3 (0,0))::own 22 1 q0 rs.length c0 (slicesI vsa rs)::L) (fun w hH=>by dsimp only at hH;rw [List.take_length] at hH;exact (hH.front (.s .z)).toIx) (Jf (Ja (hK11 (Jp (JD (σ:=Vs × List (List Int) × Nat × Nat × Nat) (fun ⟨vs,wk,d,c,g⟩=>[(6,.int .i64 (d:Int)),(7,.pointer (some ⟨g,0,none⟩))]) (fun ⟨vs,wk,d,c,g⟩=>H) (fun ⟨vs,wk,d,c,g⟩=>ownIx 2 vs wk (fun _=>true)::obj g (.cells [.int .i64 (c:Int)].toArray 3 (0,0))::own 22 1 q0 rs.length c0 (slicesI vs wk)::L) (fun ⟨vs,wk,d,c,g⟩=>GaJ W rs wk d c∧wk.length=rs.length) (fun ⟨vs,wk,d,c,g⟩=>W - c) (vsa,rs,0,0,g7) ⟨GaJ.start hW,rfl⟩ ⟨rfl,⟨rfl,trivial⟩⟩ rfl rfl ?_)))));rintro ⟨vs,wk,d,c,g⟩ ⟨hG,hwl⟩ _ hAg1;have hGd:=hG.hd;have hGc:=hG.hc;refine Je fun _ hK12 _=>(Je fun _ hK13 _=>(EC foll0 (by kernel_rfl) (JC (Jc rfl) rfl (JC (Jc rfl) rfl (JC (Jo u31 rfl rfl) rfl (JC (JJ rfl rfl) rfl (JC (Jc rfl) rfl (JS.splitB (jd:=30) rfl (fun hg30=>?_) (fun hg30=>?_)))))))))
  ·
   try have hg30p:=of_decide_eq_true hg30
   refine JS.gy (Js rfl (.s .z) rfl pl3) rfl rfl rfl hg30 (JS.gy (Jc rfl) rfl rfl rfl hg30 (JS.gy (Eu (i':=0) u31 sz22 rfl rfl rfl (by omega) (.s (.s .z))) rfl rfl rfl hg30 (JS.gy (ED rfl (.s (.s .z)) (slicesI_get (i:=0) (by omega)) pl22) rfl rfl rfl hg30 (JS.gy (Jo u22 rfl rfl) rfl rfl rfl hg30 (JS.gy (JJ rfl rfl) rfl rfl rfl hg30 (JC (JY rfl hg30 rfl) rfl (Ed (Ja (hK13 (Jq rfl (fun h37=>?_) (fun h37=>?_)))))))))))
   ·
    have hdl:d<wk.length:=by omega
    have hcW:c<W:=by have:=(hG.row 0 (by omega)).len;omega
    refine Jn (Ja (hK12 (Je fun _ hK14 _=>(Jp (Je fun _ hK15 _=>(Jb (Jg (Jc rfl) rfl (Jg (Jc rfl) rfl (Jg (Ep (v':=.slice (q0.map fun a=>a.add d) (wk.drop d).length (c0 - d)) (by rw [List.length_drop,hwl]) (PR.sliceW (i':=d) u31 sz22 rfl rfl rfl (by omega) (.s (.s .z)))) rfl (Jg (PR.makeFunc (ys:=[]) (zs:=[_]) rfl rfl) rfl (Ju fn87 rfl rfl fun w hH=>hH.lend (.s .z) fun Hl1 hl1 hA1 hB1 hH=>hH.lend (.s .z) fun Hl2 hl2 hA2 hB2 hH=>hH.lend .z fun Hl3 hl3 hA3 hB3 hH=>(IndexFuncR_c (xs:=wk.drop d) (Sp:=fun x=>x.length=W) (p:=fun r=>decide (r.getD (c:Int).toNat 0≠0)) ((ownIx_rows hA2 hl3 hA3).drop d) fn88 (fun H' L w q c' x hle hS hx hH=>by rw [Array.empty_append];exact reduce1_c (c:=(c:Int)) hx (cellO_le ((hl2.trans hl3).trans hle) (obj_cell hA1 rfl)) ⟨by omega,by rw [Int.toNat_natCast,hS];omega⟩ hH) (by rw [List.length_drop];omega) (fun i hi=>by rw [rw_drop];exact (hG.row _ (by rw [List.length_drop] at hi;omega)).len) hH).mono ?_)))))))))));rintro _ w ⟨rfl,hH⟩;replace hH:=hB1 _ _ (hB2 _ _ (hB3 _ _ hH));refine ⟨_,rfl,fun a hF=>JH hF hH ?_⟩;refine Jg (Jd rfl) rfl (Jf (Ja (hK15 (Je fun _ hK16 _=>(Je fun _ hK17 _=>(Jb (Jg (Jc rfl) rfl (Jg (JJ rfl rfl) rfl (Jf (Ja (hK17 (Jq rfl (fun h46=>?_) (fun h46=>?_)))))))))))))
    ·
     have hz : ∀i,d≤i→i<wk.length→(rw_ wk i).getD c 0=0:=fun i h1 h2=>by have h3:=idxR_neg h46 (i - d) (by rw [List.length_drop];omega);rw [rw_drop,show d+(i - d)=i by omega] at h3;simpa using h3
     refine JG (Jj (JK (Ja (hK14 (Je fun _ hK18 _=>(Je fun _ hK19 _=>(Jb (Jg (Js rfl At.z rfl pl3) rfl (Jf (Ja (hK19 (Jb (JP ze3 rfl fun g7=>(Et rfl rfl rfl rfl sz3 (by simp [*]) At.z (Jf (Ja (hK18 ?_)))))))))))))))));refine Jb (Jg (Js rfl At.z rfl pl3) rfl (Jg (Jz rfl rfl (by first | exact nw _ (by omega) | rfl)) rfl (Et rfl rfl rfl rfl sz3 (by simp [*]) At.z (Jf (Ja (JN (.s .z) (Jw (.s .z) (Jw (.s .z) (Jw (.s (.s .z)) ?_)))))))));exact hAg1 (vs,wk,d,c+1,g7) ⟨hG.skip hcW (fun i h1 h2=>hz i h1 h2),hwl⟩ (by show W - (c+1)<W - c;omega) 26 rfl rfl ⟨rfl,⟨rfl,trivial⟩⟩ rfl rfl
    ·
     obtain ⟨j,hj,hjl,ej,hq⟩ : ∃j,d≤j∧j<wk.length∧idxR (wk.drop d) (fun r=>decide (r.getD (c:Int).toNat 0≠0))=((j - d:Nat):Int)∧(rw_ wk j).getD c 0≠0:=by
      obtain ⟨k2,hk2,e2,hp2⟩:=idxR_pos h46;rw [List.length_drop] at hk2;refine ⟨d+k2,by omega,by omega,by rw [e2];congr 1;omega,?_⟩;rw [rw_drop] at hp2
      simpa using hp2
     rw [ej];refine Jn (Ja (hK16 (Je fun _ hK20 _=>(Ea (Rs:=[_,_,_]) 20 [[], [], [], [], [], [3,4], [], [], [], [7,8], [6,7,8,9], [6,7,8,9,10], [], [], [12,13], [12,13,14], [0,1,6,7,8,9,10,11,12,13,14,15], [0,1,6,7,8,9,10,11,12,13,14,15,16], [0,1,2,3,4,5,6,7,8,9,10,11,12,13,14,15,16,17], [0,1,2,3,4,5,6,7,8,9,10,11,12,13,14,15,16,17,18]] [[], [], [], [], [], [], [], [], [], [], [21], [21], [], [], [21], [21], [21], [], [17], []] [[], [], [], [], [], [], [], [], [], [], [], [], [], [], [], [], [], [21], [], [17]] rfl rfl (by kernel_rfl) ?_))));apply Ji 1 rfl rfl rfl
     ·intros;conv=>lhs;simp only [Jh,reduceEqDiff,reduceAdd]
     ·exact Jc rfl
     apply Ji 2 rfl rfl rfl
     ·intros;conv=>lhs;simp only [Jh,reduceEqDiff,reduceAdd]
     ·exact Jc rfl
     apply Ji 3 rfl rfl rfl
     ·intros;conv=>lhs;simp only [Jh,reduceEqDiff,reduceAdd]
     ·exact Jc rfl
     apply Ji 4 rfl rfl rfl
     ·intros;conv=>lhs;simp only [Jh,reduceEqDiff,reduceAdd]
     ·exact Jc rfl
     apply Ji 5 rfl rfl rfl
     ·intros;conv=>lhs;simp only [Jh,reduceEqDiff,reduceAdd]
     ·exact Jc rfl
     apply Ji 6 rfl rfl rfl
     ·intros;conv=>lhs;simp only [Jh,reduceEqDiff,reduceAdd]
     ·exact Jz rfl rfl (by first | exact nw _ (by omega) | rfl)
     apply Ji 7 rfl rfl rfl
     ·intros;conv=>lhs;simp only [Jh,reduceEqDiff,reduceAdd]
     ·exact Jc rfl
     apply Ji 8 rfl rfl rfl
     ·intros;conv=>lhs;simp only [Jh,reduceEqDiff,reduceAdd]
     ·exact Jc rfl
     apply Ji 9 rfl rfl rfl
     ·intros;conv=>lhs;simp only [Jh,reduceEqDiff,reduceAdd]
     ·exact Jc rfl
     apply Ji 10 rfl rfl rfl
     ·intros;conv=>lhs;simp only [Jh,reduceEqDiff,reduceAdd]
     ·exact Jz rfl rfl (by first | exact nw _ (by omega) | rfl)
     apply Ji 11 rfl rfl rfl
     ·intros;conv=>lhs;simp only [Jh,reduceEqDiff,reduceAdd]
     ·exact Eu (i':=j) u31 sz22 rfl rfl (by omega) (by omega) At.z
     apply Ji 12 rfl rfl rfl
     ·intros;conv=>lhs;simp only [Jh,reduceEqDiff,reduceAdd]
     ·exact ED rfl At.z (slicesI_get hjl) pl22
     apply Ji 13 rfl rfl rfl
     ·intros;conv=>lhs;simp only [Jh,reduceEqDiff,reduceAdd]
     ·exact Jc rfl
     apply Ji 14 rfl rfl rfl
     ·intros;conv=>lhs;simp only [Jh,reduceEqDiff,reduceAdd]
     ·exact Jc rfl
     apply Ji 15 rfl rfl rfl
     ·intros;conv=>lhs;simp only [Jh,reduceEqDiff,reduceAdd]
     ·exact Eu u31 sz22 rfl rfl rfl (by omega) At.z
     apply Ji 16 rfl rfl rfl
     ·intros;conv=>lhs;simp only [Jh,reduceEqDiff,reduceAdd]
     ·exact ED rfl At.z (slicesI_get hdl) pl22
     apply Ji 17 rfl rfl rfl
     ·intros;conv=>lhs;simp only [Jh,reduceEqDiff,reduceAdd]
     ·exact Eu u31 sz22 rfl rfl rfl (by omega) At.z
     apply EZ 18 rfl
     ·intros;conv=>lhs;simp only [Jh,reduceEqDiff,reduceAdd]
     ·
      intro gh X K hK;refine J.storeW rfl rfl rfl rfl sz22 (by omega) At.z (Jy ?_);exact hK
     ·intro gh gh' h;rfl
     apply Ji 19 rfl rfl rfl
     ·intros;conv=>lhs;simp only [Jh,reduceEqDiff,reduceAdd]
     ·exact Eu (i':=j) u31 sz22 rfl rfl (by omega) (by omega) At.z
     apply EZ 20 rfl
     ·intros;conv=>lhs;simp only [Jh,reduceEqDiff,reduceAdd]
     ·
      intro gh X K hK;refine J.storeW rfl rfl rfl rfl sz22 (by omega) At.z (Jy ?_);exact hK
     ·intro gh gh' h;rfl
     apply JZ [0,1,2,3,4,5,6,7,8,9,10,11,12,13,14,15,16,17,18,19] [0,1,2,3,4,5,6,7,8,9,10,11,12,13,14,15,16,18,19,20,22] foll0 rfl rfl rfl (by rfl)
     iterate 2 focus (intros;(conv=>lhs;simp only [JU,Ej,Ka,El,Es,eq_self,reduceEqDiff,reduceIte,reduceSub,reduceAdd,JxA,JxB]);all_goals rfl)
     intro gh;clear gh;rw [slicesI_set2 (vs':=fun i=>vs (swp d j i)) (rs':=swR wk d j) hdl hjl (by simp) (fun i hi=>by rw [swp_if]) (fun i hi=>by rw [swp_if,swR_get hi])];refine EJ.reL (fun w hH=>(((hH.front (.s (.s .z))).permIx (vs':=fun i=>vs (swp d j i)) (rs':=swR wk d j) (σ:=swp d j) (by simp) (fun i hi=>swp_lt hdl hjl hi) (fun i k _ _ h=>swp_inj h) (fun i hi=>rfl) (fun i hi=>swR_get hi)).pick (j:=d) (by simpa using hdl) rfl)) ?_;generalize (fun i=>vs (swp d j i))=vsb
     have hd1:d<(swR wk d j).length:=by simpa using hdl
     have hrj:=hG.row j hjl
     have hud:rw_ (swR wk d j) d=rw_ wk j:=by rw [swR_get hdl,swp_d]
     have hru : ∀i,i<wk.length→RowOk W (rw_ (swR wk d j) i):=fun i hi=>by rw [swR_get hi];exact hG.row _ (swp_lt hdl hjl hi)
     have hld:=hG.ld_q hj hjl hq
     have hlu:(rw_ (swR wk d j) d).length=W:=by rw [hud];exact hrj.len
     have hvu : ∀k,0≤(rw_ (swR wk d j) d).getD k 0∧(rw_ (swR wk d j) d).getD k 0≤10006:=by rw [hud];exact hrj.val
     have hvc:=hvu c;have hvi:=ivZ_bd hvc.1;refine Ja (hK20 (Je fun _ hK21 _=>(Er [[], [], [0,1], [2], []] (by kernel_rfl) (JA (fun gh=>Jc rfl) (JA (fun gh=>Jc rfl) (JA (fun gh=>Eu u31 sz22 rfl rfl rfl (by omega) (.s (.s .z))) (JA (fun gh=>ED rfl (.s (.s .z)) (slicesI_get hd1) pl22) (JA (fun gh=>Js rfl (.s (.s (.s .z))) rfl pl3) (Ec 5 3 foll0 (by kernel_rfl) rfl rfl fun gh=>(En (us':=(65,_)::(66,_)::(67,_)::(68,_)::(69,_)::_) (L':=_) rfl rfl (Jg (Eu u22 sz2 rfl rfl rfl (by omega) At.z) rfl (Jg (ED rfl At.z (intsC_get (by first | omega | (simp;omega))) pl2) rfl (Ju fn89 rfl rfl fun w hH=>(inverse_c hvc hH).mono ?_)))))))))))));rintro _ w ⟨rfl,hH⟩;refine ⟨_,rfl,fun a hF=>JH hF hH ?_⟩;refine Jf (Eb (JC (Jd rfl) rfl (Ed (Ja (hK21 (Je fun _ hK22 _=>(Je fun _ hK23 _=>(Jb (Jg (Jc rfl) rfl (Jg (Jc rfl) rfl (Jg (Eu u31 sz22 rfl rfl rfl (by omega) (.s (.s .z))) rfl (Jg (ED rfl (.s (.s .z)) (slicesI_get hd1) pl22) rfl (Jg (Jo u22 rfl rfl) rfl (Jg (Jc rfl) rfl (Jf ?_)))))))))))))));refine Ja (hK23 (Jp (JD (σ:=Nat) (fun (k:Nat)=>[(78,.int .i64 (k:Int))]) (fun (k:Nat)=>H) (fun (k:Nat)=>own 2 1 (vsb d).1 (rw_ (swR wk d j) d).length (vsb d).2 (intsC (scK (rw_ (swR wk d j) d) (ivZ ((rw_ (swR wk d j) d).getD c 0)) k))::ownIx 2 vsb (swR wk d j) (less1 (fun _=>true) d)::own 22 1 q0 rs.length c0 (slicesI vsb (swR wk d j))::obj g (.cells [.int .i64 (c:Int)].toArray 3 (0,0))::L) (fun (k:Nat)=>k≤W) (fun (k:Nat)=>W - k) 0 (by omega) ⟨rfl,trivial⟩ rfl (by rw [scK_zero];rfl) ?_)));rintro k hk _ hAg2;refine Je fun _ hK24 _=>(Jb (Jg (JJ rfl rfl) rfl (Jf (Ja (hK24 (Je fun _ hK25 _=>(Jq rfl (fun h79=>?_) (fun h79=>?_))))))))
     ·
      have hg9:(scK (rw_ (swR wk d j) d) (ivZ ((rw_ (swR wk d j) d).getD c 0)) k).getD k 0=(rw_ (swR wk d j) d).getD k 0:=by rw [scK_get (by omega),if_neg (by omega)]
      have hvk:=hvu k;have hmk:=mulb hvk hvi;refine Jn (Ja (hK25 (Je fun _ hK26 _=>(Jp (Je fun _ hK27 _=>(Jb (Jg (Jc rfl) rfl (Jg (Jd rfl) rfl (Jf (Ja (hK27 (Er [[], [], [0,1], [2], [], [], [], [5,6], [7], [], [8,9], [10], [], [11,12], [13]] (by kernel_rfl) (JA (fun gh=>Jc rfl) (JA (fun gh=>Jc rfl) (JA (fun gh=>Eu u31 sz22 rfl rfl rfl (by omega) (.s (.s .z))) (JA (fun gh=>ED rfl (.s (.s .z)) (slicesI_get hd1) pl22) ?_))))))))))))))));refine JA (fun gh=>Jc rfl) (JA (fun gh=>Jc rfl) (JA (fun gh=>Jc rfl) (JA (fun gh=>Eu u31 sz22 rfl rfl rfl (by omega) (.s (.s .z))) (JA (fun gh=>ED rfl (.s (.s .z)) (slicesI_get hd1) pl22) (JA (fun gh=>Jc rfl) (JA (fun gh=>Eu u22 sz2 rfl rfl rfl (by omega) At.z) (JA (fun gh=>ED rfl At.z ((intsC_get (by simp;omega)).trans (congrArg (fun x=>some (Value.int .i64 x)) hg9)) pl2) (JA (fun gh=>Jc rfl) (JA (fun gh=>EO rfl rfl (nw _ (by omega))) (JA (fun gh=>EF rfl rfl (by decide) rfl) (Ec 15 2 foll0 (by kernel_rfl) rfl rfl fun gh=>(En (us':=(81,_)::(82,_)::(83,_)::(84,_)::(85,_)::(86,_)::(87,_)::(88,_)::(89,_)::(90,_)::(91,_)::(92,_)::(93,_)::(94,_)::(95,_)::_) (L':=_) rfl rfl (Jg (Eu u22 sz2 rfl rfl rfl (by omega) At.z) rfl (ET rfl rfl sz2 (by omega) At.z ?_))))))))))))));refine Jf (Eb (Ed (JF (Ja (hK26 (Jb (Jg (Jz rfl rfl (by first | exact nw _ (by omega) | rfl)) rfl (Jg (Jc rfl) rfl (Jf (Ja ?_))))))))));exact hAg2 (k+1) (by omega) (by omega) 22 rfl rfl ⟨rfl,trivial⟩ rfl (by rw [scK_set (by omega)])
     ·
      refine JG (Jj (Jj (JK (Ja (hK22 (Je fun _ hK28 _=>(Je fun _ hK29 _=>(Jb (Jg (Jc rfl) rfl ?_)))))))))
      have hkW:k=W:=by omega
      rw [hkW]
      have e9:scK (rw_ (swR wk d j) d) (ivZ ((rw_ (swR wk d j) d).getD c 0)) W=(unitS (rw_ wk j)):=by
       have h9:=scK_end hrj hld hcW;rw [hrj.len] at h9;rw [hud];exact h9
      rw [e9];refine J.reL (fun w hH=>hH.tk0 hd1 (by rw [hrj.unit.len,hlu])) ?_;rw [show slicesI vsb (swR wk d j)=slicesI vsb (tkK (swR wk d j) (unitS (rw_ wk j)) d 0) from by rw [tkK_zero,slicesI_row (by rw [hrj.unit.len,hlu])]];have hU:=hrj.unit
      have hUl:ldR (unitS (rw_ wk j))=c:=by rw [unitS_ld hrj (by rw [hld,hrj.len];exact hcW),hld]
      refine Jg (Jo u31 rfl rfl) rfl (Jg (Jc rfl) rfl (Jf (Ja (hK29 (Jp (JD (σ:=Nat) (fun (i:Nat)=>[(100,.int .i64 (i:Int))]) (fun (i:Nat)=>H) (fun (i:Nat)=>rowA 2 vsb (tkK (swR wk d j) (unitS (rw_ wk j)) d i) d::ownIx 2 vsb (tkK (swR wk d j) (unitS (rw_ wk j)) d i) (less1 (fun _=>true) d)::own 22 1 q0 rs.length c0 (slicesI vsb (tkK (swR wk d j) (unitS (rw_ wk j)) d i))::obj g (.cells [.int .i64 (c:Int)].toArray 3 (0,0))::L) (fun (i:Nat)=>i≤wk.length) (fun (i:Nat)=>wk.length - i) 0 (by omega) ⟨rfl,trivial⟩ rfl rfl ?_))))));rintro i hi _ hAg3
      have htl:(tkK (swR wk d j) (unitS (rw_ wk j)) d i).length=wk.length:=by simp
      have htd:d<(tkK (swR wk d j) (unitS (rw_ wk j)) d i).length:=by omega
      have htd2:rw_ (tkK (swR wk d j) (unitS (rw_ wk j)) d i) d=(unitS (rw_ wk j)):=tkK_d hd1;refine Je fun _ hK30 _=>(Jb (Jg (JJ rfl rfl) rfl (Jf (Ja (hK30 (Je fun _ hK31 _=>(Jq rfl (fun h101=>?_) (fun h101=>?_))))))))
      ·
       have hik:i<wk.length:=by omega
       have hri:=hru i hik;refine Jn (Ja (hK31 (Je fun _ hK32 _=>(Jp (Je fun _ hK33 _=>(Jb (Jg (Jc rfl) rfl (Jg (Eu u31 sz22 rfl rfl rfl (by omega) (.s (.s .z))) rfl (Jg (ED rfl (.s (.s .z)) (slicesI_get (by simpa using hik)) pl22) rfl (Jg (Jd rfl) rfl (Jg (Jd rfl) rfl (Jf (Ja (hK33 (Je fun _ hK34 _=>(Jb ?_))))))))))))))));refine Jg (Jc rfl) rfl (Jg (Jc rfl) rfl (Jg (Eo rfl rfl) rfl (Jg (Jc rfl) rfl (Ek (jd:=108) rfl (fun h108=>?_) (fun h108=>?_)))))
       ·
        try have h108p:=of_decide_eq_true h108
        have hne:i≠d:=by omega
        have hti:rw_ (tkK (swR wk d j) (unitS (rw_ wk j)) d i) i=rw_ (swR wk d j) i:=tkK_i (by simpa using hik) hne
        have hli:(rw_ (tkK (swR wk d j) (unitS (rw_ wk j)) d i) i).length=W:=by rw [hti];exact hri.len
        refine JV (Jc rfl) rfl rfl rfl h108 (JV (Js rfl (.s (.s (.s .z))) rfl pl3) rfl rfl rfl h108 (JV (PR.idxX (vs:=vsb) (rs:=(tkK (swR wk d j) (unitS (rw_ wk j)) d i)) (j:=i) (p:=less1 (fun _=>true) d) u22 sz2 rfl rfl rfl (by omega) (by omega) (less1_iff.2 ⟨rfl,hne⟩) (.s .z)) rfl rfl rfl h108 (JV (PR.loadX rfl (.s .z) (by omega) (less1_iff.2 ⟨rfl,hne⟩) (by omega) pl2) rfl rfl rfl h108 (JV (Eo rfl rfl) rfl rfl rfl h108 (Jg (JY rfl h108 rfl) rfl (Jf (Ja (hK34 (Jq rfl (fun h114=>?_) (fun h114=>?_))))))))))
        ·
         refine CJ.reL (fun w hH=>(hH.front (.s .z)).pick (j:=i) (by omega) (less1_iff.2 ⟨rfl,hne⟩)) ?_;have hvi2:=hri.val;refine Er [[], [], [], [1,2], [3], [], [], [5,6], [7]] (by kernel_rfl) (JA (fun gh=>Jc rfl) (JA (fun gh=>Jc rfl) (JA (fun gh=>Jc rfl) (JA (fun gh=>Eu u31 sz22 rfl rfl rfl (by omega) (.s (.s (.s .z)))) (JA (fun gh=>ED rfl (.s (.s (.s .z))) (slicesI_get htd) pl22) (JA (fun gh=>Jc rfl) (JA (fun gh=>Js rfl (.s (.s (.s (.s .z)))) rfl pl3) (JA (fun gh=>Eu u22 sz2 rfl rfl rfl (by omega) At.z) (JA (fun gh=>ED rfl At.z (intsC_get (by first | omega | (simp;omega))) pl2) (Ec 9 1 foll0 (by kernel_rfl) rfl rfl fun gh=>(En (us':=(115,_)::(116,_)::(117,_)::(118,_)::(119,_)::(120,_)::(121,_)::(122,_)::(123,_)::_) (L':=_) rfl rfl (Ju fn90 rfl rfl fun w hH=>hH.lend (.s (.s .z)) fun Hl1 hle1 hA1 hB1 hH=>(takeAway_c rfl (own_ints hA1) (by rw [hli,htd2,hU.len]) (by rw [htd2];exact hU.val) (by rw [hti];exact hvi2) (by rw [hti];exact hvi2 c) (by omega) (hH.front .z)).mono ?_))))))))))));rintro _ w ⟨rfl,hH⟩;replace hH:=hB1 _ _ hH;refine ⟨_,rfl,fun a hF=>JH hF hH ?_⟩;refine J.reL (fun w hH=>hH.tkStep hd1 (by simpa using hik) hne (by rw [hti,htd2];unfold oneBy;rw [hUl]) (by simp)) ?_;rw [show slicesI vsb (tkK (swR wk d j) (unitS (rw_ wk j)) d i)=slicesI vsb (tkK (swR wk d j) (unitS (rw_ wk j)) d (i+1)) from by rw [← tkK_set (by simpa using hik) hne,slicesI_row (by rw [hti];unfold oneBy;simp)]];refine Jf (Eb (Ed (JF (Ja (hK32 (Jb (Jg (Jz rfl rfl (by first | exact nw _ (by omega) | rfl)) rfl (Jg (Jc rfl) rfl (Jf (Ja ?_))))))))));exact hAg3 (i+1) (by omega) (by omega) 29 rfl rfl ⟨rfl,trivial⟩ rfl rfl
        ·
         refine Jn (JF (Ja (hK32 (Jb (Jg (Jz rfl rfl (by first | exact nw _ (by omega) | rfl)) rfl (Jg (Jc rfl) rfl (Jf (Ja ?_))))))));exact hAg3 (i+1) (by omega) (by omega) 19 rfl rfl ⟨rfl,trivial⟩ rfl (by rw [tkK_same (fun h1 h2=>oneBy_zero hri hU (by rw [hUl,← hti];exact Decidable.not_not.1 h114))])
       ·
        try have h108p:=of_decide_eq_false h108
        refine JQ rfl rfl rfl h108 (JQ rfl rfl rfl h108 (JQ rfl rfl rfl h108 (JQ rfl rfl rfl h108 (JQ rfl rfl rfl h108 (Jg (JX rfl h108 rfl) rfl (Jf (Ja (hK34 (EE rfl (Jn (JF (Ja (hK32 (Jb (Jg (Jz rfl rfl (by first | exact nw _ (by omega) | rfl)) rfl (Jg (Jc rfl) rfl ?_))))))))))))))));refine Jf (Ja ?_);exact hAg3 (i+1) (by omega) (by omega) 19 rfl rfl ⟨rfl,trivial⟩ rfl (by rw [tkK_same (fun _ h2=>absurd (by omega:i=d) h2)])
      ·
       refine JG (Jj (Jj (JK (Ja (hK28 (Jb (Jg (Jc rfl) rfl ?_)))))))
       obtain rfl:i=wk.length:=by omega
       refine J.reL (fun w hH=>hH.tkPut (by simpa using hdl)) (Jg (Jz rfl rfl (by first | exact nw _ (by omega) | rfl)) rfl (Jg (Jd rfl) rfl (Jf (JF (Ja (hK14 (Je fun _ hK35 _=>(Je fun _ hK36 _=>(Jb (Jg (Js rfl (.s (.s .z)) rfl pl3) rfl (Jf (Ja (hK36 (Jb (JP ze3 rfl fun g7=>(Et rfl rfl rfl rfl sz3 (by simp [*]) At.z ?_))))))))))))))));refine Jf (Ja (hK35 (Jb (Jg (Js rfl At.z rfl pl3) rfl (Jg (Jz rfl rfl (by first | exact nw _ (by omega) | rfl)) rfl (Et rfl rfl rfl rfl sz3 (by simp [*]) At.z (Jf (Ja (JN (.s (.s (.s .z))) (Jw (.s (.s .z)) (Jw (.s .z) (Jw (.s (.s .z)) ?_))))))))))));exact hAg1 (vsb,(tkK (swR wk d j) (unitS (rw_ wk j)) d wk.length),d+1,c+1,g7) ⟨hG.round hj hjl hq,by simpa using hwl⟩ (by show W - (c+1)<W - c;omega) 69 rfl rfl ⟨rfl,⟨rfl,trivial⟩⟩ rfl rfl
   ·
    refine JG (Jj (Jj (JK (Ja (hK10 (Je fun _ hK37 _=>(Jb (Jg (Jc rfl) rfl (J.know (fun w hH=>own_le (hH.objs (own 22 1 q0 rs.length c0 (slicesI vs wk)) (by simp)).1) fun hcap=>(Jg (Jc rfl) rfl (Jg (PR.sliceHi (i':=d) u31 sz22 rfl rfl rfl (by omega)) rfl (Jg (Jd rfl) rfl (Jf (Ja (hK37 (Jt ?_))))))))))))))));refine Jr rfl (Res.tmp rfl) fun w hH=>?_;replace hH:=hH.sublist (.cons_cons _ (.cons _ (.cons_cons _ (List.Sublist.refl _))));have hdn:=hG.done hW (.inr (by have:=(hG.row 0 (by omega)).len;omega));have hl9:(wk.take d).length=d:=List.length_take_of_le hGd;rw [← hdn];have h8:=(((hH.takeIx hGd).ofIx).front (.s .z)).ownTake (m':=d) (by omega);rw [slicesI_take] at h8;exact ⟨q0,c0,vs,by rw [hl9],by unfold ownRs;rw [hl9];exact h8.star⟩
  ·
   try have hg30p:=of_decide_eq_false hg30
   refine JS.gn rfl rfl rfl hg30 (JS.gn rfl rfl rfl hg30 (JS.gn rfl rfl rfl hg30 (JS.gn rfl rfl rfl hg30 (JS.gn rfl rfl rfl hg30 (JS.gn rfl rfl rfl hg30 (JC (JX rfl hg30 rfl) rfl (Ed (Ja (hK13 (EE rfl (JG (Jj (Jj (JK (Ja (hK10 ?_))))))))))))))));refine Je fun _ hK38 _=>(Jb (Jg (Jc rfl) rfl (J.know (fun w hH=>own_le (hH.objs (own 22 1 q0 rs.length c0 (slicesI vs wk)) (by simp)).1) fun hcap=>(Jg (Jc rfl) rfl (Jg (PR.sliceHi (i':=d) u31 sz22 rfl rfl rfl (by omega)) rfl (Jg (Jd rfl) rfl (Jf (Ja (hK38 (Jt (Jr rfl (Res.tmp rfl) fun w hH=>?_)))))))))));replace hH:=hH.sublist (.cons_cons _ (.cons _ (.cons_cons _ (List.Sublist.refl _))));have hdn:=hG.done hW (.inl (by omega));have hl9:(wk.take d).length=d:=List.length_take_of_le hGd;rw [← hdn];have h8:=(((hH.takeIx hGd).ofIx).front (.s .z)).ownTake (m':=d) (by omega);rw [slicesI_take] at h8;exact ⟨q0,c0,vs,by rw [hl9],by unfold ownRs;rw [hl9];exact h8.star⟩
theorem reduceBy_c {B:World} {H0 H:HP} {L:List SA} {w:World} {qrow:Option Addr} {crow:Nat} {row:List Int} {qrs:Option Addr} {crs:Nat} {rs:List (List Int)} {W:Nat} (hrow:Ints H qrow row) (hrs:RowsR H qrs rs) (hw:RowOk W row) (hW : ∀r∈rs,RowOk W r∧ldR r<W) (hn:rs.length≤1048576) (hWn:W≤1048576) (hH:Hp B H0 H L w):Calls Tryz.prog 78 [.slice qrow row.length crow,.slice qrs rs.length crs].toArray w fun e w'=>∃q c,e = .returned (.slice q (byS row rs).length c)∧Hp B H0 H (own 2 1 q (byS row rs).length c (intsC (byS row rs))::L) w':=by
 refine Jx Tryz.func78 rfl 25 rfl rfl [(0,.slice qrow row.length crow),(1,.slice qrs rs.length crs)] rfl hH ?_;clear hH;have hwl:=hw.len;refine Je fun _ hK1 _=>(Jb (Jg (Jd rfl) rfl (Jf (Ja (hK1 (Je fun _ hK2 _=>(Jb (Jg (Jc rfl) rfl (Ju fn86 rfl rfl fun w hH=>(CloneI_c hrow (by omega) hH).mono ?_)))))))));rintro _ w ⟨qo8,co8,rfl,hH⟩;refine ⟨_,rfl,fun a hF=>JH hF hH ?_⟩;refine Jg (Jd rfl) rfl (Jf (Ja (hK2 (Je fun _ hK3 _=>(Je fun _ hK4 _=>(Jb (Jg (Jc rfl) rfl (Jg (Jo u31 rfl rfl) rfl (Jg (Jc rfl) rfl (Jf (Ja (hK4 (Jp (JD (σ:=Nat) (fun (k:Nat)=>[(11,.int .i64 (k:Int))]) (fun (k:Nat)=>H) (fun (k:Nat)=>own 2 1 qo8 row.length co8 (intsC (byS row (rs.take k)))::L) (fun (k:Nat)=>k≤rs.length) (fun (k:Nat)=>rs.length - k) 0 (by omega) ⟨rfl,trivial⟩ rfl rfl ?_))))))))))))));rintro k hk _ hAg0;refine Je fun _ hK5 _=>(Jb (Jg (JJ rfl rfl) rfl (Jf (Ja (hK5 (Je fun _ hK6 _=>(Jq rfl (fun h12=>?_) (fun h12=>?_))))))))
 ·
  have hrk:=hW _ (rw_mem (show k<rs.length by omega));have hbk:=byS_ok (B:=rs.take k) hw (fun r hr=>(hW r (List.mem_of_mem_take hr)).1);have hbl:=hbk.len;have hrl:=hrk.1.len;have hld:=idxOf_ld (r:=rw_ rs k) (by omega);have hbv:=hbk.val (ldR (rw_ rs k));refine Jn (Ja (hK6 (Je fun _ hK7 _=>(Jp (Je fun _ hK8 _=>(Jb (Jg (JL u31 sz22 rfl rfl rfl (by omega) hrs.sm) rfl ?_)))))));obtain ⟨qe14,ce14,he14,le14,Fe14⟩:=hrs k (by omega);refine Jg (JE rfl he14 pl22) rfl (Jg (Jd rfl) rfl (Jf (Ja (hK8 (Jb (Jg (Jc rfl) rfl (Jg (Jc rfl) rfl (Jg (Jc rfl) rfl (Jg (Jc rfl) rfl (Ju fn82 rfl rfl fun w hH=>(lead_c Fe14 (by omega) hH).mono ?_))))))))));rintro _ w ⟨rfl,hH⟩;refine ⟨_,rfl,fun a hF=>JH hF hH ?_⟩;rw [hld];refine Jg (Eu (i':=ldR (rw_ rs k)) u22 sz2 rfl rfl rfl (by omega) At.z) rfl (Jg (ED rfl At.z (intsC_get (by omega)) pl2) rfl (Ju fn90 rfl rfl fun w hH=>(takeAway_c (by rw [hbl,hwl]) Fe14 (by rw [hbl,hrl]) hrk.1.val hbk.val hbv (by omega) (hH.front .z)).mono ?_));rintro _ w ⟨rfl,hH⟩;refine ⟨_,rfl,fun a hF=>JH hF hH ?_⟩;refine Jf (JF (Ja (hK7 (Jb (Jg (Jz rfl rfl (by first | exact nw _ (by omega) | rfl)) rfl (Jg (Jc rfl) rfl (Jf (Ja ?_))))))));exact hAg0 (k+1) (by omega) (by omega) 15 rfl rfl ⟨rfl,trivial⟩ rfl (by rw [byS_take (by omega)];rfl)
 ·
  refine JG (Jj (Jj (JK (Ja (hK3 (Je fun _ hK9 _=>(Jb (Jg (Jc rfl) rfl (Jg (Jd rfl) rfl (Jf (Ja (hK9 (Jt (Jr rfl (Res.tmp rfl) fun w hH=>?_))))))))))))));replace hH:=hH.sublist (.cons_cons _ (List.Sublist.refl _))
  obtain rfl:k=rs.length:=by omega
  have hl9:=(byS_ok hw (fun r hr=>(hW r hr).1)).len;rw [List.take_length] at hH;exact ⟨qo8,co8,by rw [hl9,hwl],by rw [hl9,← hwl];exact hH⟩
theorem fn121:Fn Tryz.prog 121:=⟨_,Tryz.func121,by kernel_rfl,rfl⟩
theorem fn122:Fn Tryz.prog 122:=⟨_,Tryz.func122,by kernel_rfl,rfl⟩
theorem fn46:Fn Tryz.prog 46:=⟨_,Tryz.func46,by kernel_rfl,rfl⟩
theorem Concat_2 {B:World} {H0 H:HP} {L:List SA} {w:World} {q:Option Addr} {c:Nat} {xs ys:List Int} (h:RowsR H q [xs,ys]) (hn:xs.length+ys.length≤1000000) (hH:Hp B H0 H L w):Calls Tryz.prog 121 [.slice q 2 c].toArray w fun e w'=>∃q c,e = .returned (.slice q (xs++ys).length c)∧Hp B H0 H (own 2 1 q (xs++ys).length c (intsC (xs++ys))::L) w':=by
 have h1:=ConcatI_c (crs:=c) (rs:=[xs,ys]) h (by simp) (by simp [totI];omega) hH
 have e:[xs,ys].flatten=xs++ys:=by simp
 rw [e] at h1;exact h1
def uniR (n k:Nat):List Int:=(List.replicate n 0).set k 1
@[simp] theorem uniR_len (n k:Nat):(uniR n k).length=n:=by simp [uniR]
theorem uniR_get {n k j:Nat}:(uniR n k).getD j 0=if k=j∧k<n then 1 else 0:=by
 unfold uniR;rw [getD_set8,rep_get,List.length_replicate]
theorem uniR_ok {n k:Nat}:RowOk n (uniR n k):=⟨by simp,fun j=>by rw [uniR_get];split <;> omega⟩
theorem app_get {a b:List Int} {j:Nat}:(a++b).getD j 0=if j<a.length then a.getD j 0 else b.getD (j - a.length) 0:=by
 rw [List.getD_eq_getElem?_getD,List.getElem?_append]
 split <;> rw [List.getD_eq_getElem?_getD]
theorem RowOk.app {V W:Nat} {a b:List Int} (ha:RowOk V a) (hb:RowOk W b):RowOk (V+W) (a++b):=⟨by rw [List.length_append,ha.len,hb.len],fun j=>by
 rw [app_get]
 split
 ·exact ha.val _
 ·exact hb.val _⟩
theorem RowOk.drop {V W:Nat} {a:List Int} (ha:RowOk (V+W) a):RowOk W (a.drop V):=⟨by rw [List.length_drop,ha.len];omega,fun j=>by
 have e:(a.drop V).getD j 0=a.getD (V+j) 0:=by simp [List.getD_eq_getElem?_getD,List.getElem?_drop]
 rw [e]
 exact ha.val _⟩
def wdK (rs:List (List Int)) (n k:Nat):List (List Int):=(List.range k).map fun i=>rw_ rs i++uniR n i
theorem wdK_len (rs:List (List Int)) (n k:Nat):(wdK rs n k).length=k:=by simp [wdK]
theorem wdK_succ (rs:List (List Int)) (n k:Nat):wdK rs n (k+1)=wdK rs n k++[rw_ rs k++uniR n k]:=by
 unfold wdK;rw [List.range_succ,List.map_append]
 rfl
def wdS (rs:List (List Int)) (n:Nat):List (List Int):=wdK rs n rs.length
theorem wdS_ok {W n:Nat} {rs:List (List Int)} (h : ∀r∈rs,RowOk W r) : ∀r∈wdS rs n,RowOk (W+n) r:=fun r hr=>by
 obtain ⟨i,hi,rfl⟩:=List.mem_map.1 hr
 exact (h _ (rw_mem (List.mem_range.1 hi))).app uniR_ok
def fzK (R:List (List Int)) (W m:Nat):List (List Int):=((R.take m).filter fun r=>zR (r.take W)).map fun r=>r.drop W
def fzS (R:List (List Int)) (W:Nat):List (List Int):=(R.filter fun r=>zR (r.take W)).map fun r=>r.drop W
theorem fzK_end (R:List (List Int)) (W:Nat):fzK R W R.length=fzS R W:=by unfold fzK;rw [List.take_length];rfl
theorem fzK_yes {R:List (List Int)} {W m:Nat} (hm:m<R.length) (h:zR ((rw_ R m).take W)=true):fzK R W (m+1)=fzK R W m++[(rw_ R m).drop W]:=by
 unfold fzK;rw [rw_take hm,List.filter_append,List.map_append]
 simp [h]
theorem fzK_no {R:List (List Int)} {W m:Nat} (hm:m<R.length) (h:zR ((rw_ R m).take W)=false):fzK R W (m+1)=fzK R W m:=by
 unfold fzK;rw [rw_take hm,List.filter_append,List.map_append]
 simp [h]
theorem fzK_len (R:List (List Int)) (W:Nat) : ∀m,(fzK R W m).length≤m:=fun m=>by
 unfold fzK
 rw [List.length_map]
 exact Nat.le_trans (List.length_filter_le _ _) (List.length_take_le _ _)
theorem fzS_ok {V W:Nat} {R:List (List Int)} (h : ∀r∈R,RowOk (V+W) r) : ∀r∈fzS R V,RowOk W r:=fun r hr=>by
 obtain ⟨s,hs,rfl⟩:=List.mem_map.1 hr
 exact (h s (List.mem_filter.1 hs).1).drop
def kerS (rs:List (List Int)) (W:Nat):List (List Int):=redS (fzS (redS (wdS rs rs.length)) W)
theorem Red.count {W:Nat} {R:List (List Int)} (h:Red W R):R.length≤W:=by
 have key : ∀(l:List (List Int)) (lo:Nat),(∀r∈l,lo≤ldR r∧ldR r<W)→l.Pairwise (fun r s=>ldR r<ldR s)→l.length+lo≤W∨l=[]:=by
  intro l
  induction l with
  | nil=>intro _ _ _;exact .inr rfl
  | cons r l ih=>
   intro lo h1 h2
   left
   have h3:=List.pairwise_cons.1 h2;have h4:=h1 r (by simp)
   rcases ih (lo+1) (fun s hs=>⟨by have:=h3.1 s hs;omega,(h1 s (by simp [hs])).2⟩) h3.2 with h5 | h5
   ·simp only [List.length_cons];omega
   ·subst h5;simp only [List.length_cons,List.length_nil];omega
 rcases key R 0 (fun r hr=>⟨by omega,(h.one r hr).1⟩) h.srt with h1 | h1
 ·omega
 ·rw [h1];simp
theorem kernel_c {B:World} {H0 H:HP} {L:List SA} {w:World} {qrs:Option Addr} {crs:Nat} {rs:List (List Int)} {W:Nat} (hrs:RowsR H qrs rs) (hW : ∀r∈rs,RowOk W r) (hn:rs.length≤400000) (hWn:W≤400000) (hH:Hp B H0 H L w):Calls Tryz.prog 76 [.slice qrs rs.length crs,.int .i64 (W:Int)].toArray w fun e w'=>∃q c vs,e = .returned (.slice q (kerS rs W).length c)∧Hp B H0 H (ownRs 22 2 q c vs (kerS rs W)::L) w':=by
 refine Jx Tryz.func76 rfl 57 rfl rfl [(0,.slice qrs rs.length crs),(1,.int .i64 (W:Int))] rfl hH ?_;have hw0:=hH.old;have hw1:=hH.le;clear hH;refine Je fun _ hK1 _=>(Jb (Jg (Jd rfl) rfl (Jf (Ja (hK1 (Je fun _ hK2 _=>(Jb (Jg (Jc rfl) rfl (Jg (Jo u31 rfl rfl) rfl (EI (EP u31 sz22) rfl fun qo15 co15=>(Jg (Jd rfl) rfl (Jg (Jd rfl) rfl (Jf (Ja (hK2 (Je fun _ hK3 _=>?_))))))))))))))));refine Je fun _ hK4 _=>(Jb (Jg (Jc rfl) rfl (Jg (Jo u31 rfl rfl) rfl (Jg (Jc rfl) rfl (Jf (Ja (hK4 (Jp (JD (σ:=HP × Option Addr × Nat × List Value × Nat) (fun ⟨Hk,q,c,vals,k⟩=>[(18,.int .i64 (k:Int)),(6,.slice q k c)]) (fun ⟨Hk,q,c,vals,k⟩=>Hk) (fun ⟨Hk,q,c,vals,k⟩=>own 22 1 q k c vals::L) (fun ⟨Hk,q,c,vals,k⟩=>Le H Hk∧SlF Hk vals (wdK rs rs.length k)∧k≤rs.length) (fun ⟨Hk,q,c,vals,k⟩=>rs.length - k) (H,qo15,co15, [],0) ⟨Le.refl _,SlF.nil _,by omega⟩ ⟨rfl,⟨rfl,trivial⟩⟩ rfl rfl ?_)))))))));rintro ⟨Hk,q,c,vals,k⟩ ⟨hlk,hS,hk⟩ _ hAg0;replace hrs:=hrs.le hlk;refine Je fun _ hK5 _=>(Jb (Jg (JJ rfl rfl) rfl (Jf (Ja (hK5 (Je fun _ hK6 _=>(Jq rfl (fun h19=>?_) (fun h19=>?_))))))))
 ·
  have hrk:=(hW _ (rw_mem (show k<rs.length by omega))).len;refine Jn (Ja (hK6 (Je fun _ hK7 _=>(Jp (Je fun _ hK8 _=>(Jb (Jg (Jc rfl) rfl (Jg (JL u31 sz22 rfl rfl rfl (by omega) hrs.sm) rfl ?_))))))));obtain ⟨qe22,ce22,he22,le22,Fe22⟩:=hrs k (by omega);refine Jg (JE rfl he22 pl22) rfl (Jg (Jd rfl) rfl (Jg (Jd rfl) rfl (Jf (Ja (hK8 (Je fun _ hK9 _=>(Jb (Jg (Jc rfl) rfl (EI (MK.makeI (m:=rs.length) u22 ze2 sz2 by2 rfl rfl rfl rfl (by omega)) rfl fun qo24 co24=>(Jg (Jd rfl) rfl (Jf (Ja (hK9 (Je fun _ hK10 _=>(Jb (Jg (Jc rfl) rfl ?_))))))))))))))));refine Jg (Jc rfl) rfl (Jg (Eu u22 sz2 rfl rfl rfl (by simp;omega) At.z) rfl (ET rfl rfl sz2 (by simp;omega) At.z (Ev .z fun Ho24 hleo24 hAo24=>?_)));replace hrs:=hrs.le hleo24;replace hS:=hS.le hleo24;replace Fe22:=Fe22.le hleo24;have hxo24:=own_ints hAo24;have hco24:=own_le hAo24;refine Jf (Ja (hK10 (Jb (Jg (Jc rfl) rfl (Jg (Jc rfl) rfl (Jg (Ep (v':=.slice qo24 (uniR rs.length k).length co24) (by rw [uniR_len,List.length_replicate]) (Jc rfl)) rfl (J.lit2 u31 ze22 sz22 rfl rfl rfl rfl rfl fun g31=>(Ev .z fun H31 hle31 hA31=>?_))))))));replace hrs:=hrs.le hle31;replace hS:=hS.le hle31;replace Fe22:=Fe22.le hle31;replace hxo24:=hxo24.le hle31;have hxu:Ints H31 qo24 (uniR rs.length k):=hxo24;have hx31:=obj_rows2 hA31 Fe22 hxu le22 (by rw [uniR_len];simpa using hco24);refine Ju fn121 rfl rfl fun w hH=>(Concat_2 (xs:=rw_ rs k) (ys:=uniR rs.length k) hx31 (by rw [uniR_len];omega) hH).mono ?_;rintro _ w ⟨qo32,co32,rfl,hH⟩;refine ⟨_,rfl,fun a hF=>JH hF hH ?_⟩;refine Ev .z fun Ho32 hleo32 hAo32=>?_;replace hrs:=hrs.le hleo32;replace hS:=hS.le hleo32;replace Fe22:=Fe22.le hleo32;replace hxo24:=hxo24.le hleo32;replace hx31:=hx31.le hleo32;have hxo32:=own_ints hAo32;have hco32:=own_le hAo32;refine EI (EN u31 ze22 sz22 rfl rfl) rfl fun qo33 co33=>(EG u31 ze22 sz22 by22 rfl rfl rfl rfl (by omega) .z At.z (fun _ _=>At.z) rfl fun qo34 co34=>?_);have hS2:=hS.snoc hxo32 rfl hco32;refine Jg (Jd rfl) rfl (Jf (JF (Ja (hK7 (Jb (Jg (Jz rfl rfl (by first | exact nw _ (by omega) | rfl)) rfl (Jg (Jc rfl) rfl (Jf (Ja (JN .z ?_))))))))));exact hAg0 (Ho32,qo34,co34,_,k+1) ⟨(((hlk.trans hleo24).trans hle31).trans hleo32),by rw [wdK_succ];exact hS2,by omega⟩ (by show rs.length - (k+1)<rs.length - k;omega) 24 rfl rfl ⟨rfl,⟨rfl,trivial⟩⟩ rfl rfl
 ·
  refine JG (Jj (Jj (JK (Ja (hK3 (Je fun _ hK11 _=>(Jb (EI (EP u31 sz22) rfl fun qo36 co36=>?_))))))))
  obtain rfl:k=rs.length:=by omega
  have hRR:=(redS_ok (wdS_ok (n:=rs.length) hW)).1;have hRc:=hRR.count;refine Jg (Jd rfl) rfl (Jf (Ja (hK11 (Je fun _ hK12 _=>(Je fun _ hK13 _=>(Jb (Jg (Ep (v':=.slice q (wdS rs rs.length).length c) (by rw [show (wdS rs rs.length).length=rs.length from wdK_len _ _ _]) (Jc rfl)) rfl (Ev (.s .z) fun Ho15 hleo15 hAo15=>?_))))))));replace hrs:=hrs.le hleo15;replace hS:=hS.le hleo15;have hxo15:=hS.rows (Le.refl _) hAo15;have hco15:=own_le hAo15;rw [show wdK rs rs.length rs.length=wdS rs rs.length from rfl] at hxo15;refine Ju fn46 rfl rfl fun w hH=>(reduce_c (W:=W+rs.length) hxo15 (wdS_ok hW) (by rw [show (wdS rs rs.length).length=rs.length from wdK_len _ _ _];omega) (by omega) hH).mono ?_;rintro _ w ⟨qo38,co38,vso38,rfl,hH⟩;refine ⟨_,rfl,fun a hF=>JH hF hH ?_⟩;refine Ev .z fun Ho38 hleo38 hAo38=>?_;replace hrs:=hrs.le hleo38;replace hS:=hS.le hleo38;replace hxo15:=hxo15.le hleo38;have hxo38:=own_rows hAo38;have hco38:=own_le hAo38.1;refine Jg (Jo u31 rfl rfl) rfl (Jg (Jc rfl) rfl (Jf (Ja (hK13 (Jp (JD (σ:=HP × Option Addr × Nat × List Value × Nat) (fun ⟨Hm,q2,c2,vals2,m⟩=>[(40,.int .i64 (m:Int)),(10,.slice q2 (fzK (redS (wdS rs rs.length)) W m).length c2)]) (fun ⟨Hm,q2,c2,vals2,m⟩=>Hm) (fun ⟨Hm,q2,c2,vals2,m⟩=>own 22 1 q2 (fzK (redS (wdS rs rs.length)) W m).length c2 vals2::L) (fun ⟨Hm,q2,c2,vals2,m⟩=>Le Ho38 Hm∧SlF Hm vals2 (fzK (redS (wdS rs rs.length)) W m)∧m≤(redS (wdS rs rs.length)).length) (fun ⟨Hm,q2,c2,vals2,m⟩=>(redS (wdS rs rs.length)).length - m) (Ho38,qo36,co36, [],0) ⟨Le.refl _,SlF.nil _,by omega⟩ ⟨rfl,⟨rfl,trivial⟩⟩ rfl rfl ?_))))));rintro ⟨Hm,q2,c2,vals2,m⟩ ⟨hlm,hT,hm⟩ _ hAg1;replace hrs:=hrs.le hlm;replace hS:=hS.le hlm;replace hxo15:=hxo15.le hlm;replace hxo38:=hxo38.le hlm;refine Je fun _ hK14 _=>(Jb (Jg (JJ rfl rfl) rfl (Jf (Ja (hK14 (Je fun _ hK15 _=>(Jq rfl (fun h41=>?_) (fun h41=>?_))))))))
  ·
   have hrm:=hRR.row _ (rw_mem (show m<(redS (wdS rs rs.length)).length by omega));have hrl:=hrm.len;have hfl:=fzK_len (redS (wdS rs rs.length)) W m
   have hn0:0<rs.length:=by
    rcases Nat.eq_zero_or_pos rs.length with h0 | h0
    ·exfalso
     obtain rfl:rs=[]:=List.length_eq_zero_iff.1 h0;exact absurd h41 (by simp [wdS,wdK,redS])
    ·exact h0
   refine Jn (Ja (hK15 (Je fun _ hK16 _=>(Jp (Je fun _ hK17 _=>(Jb (Jg (JL u31 sz22 rfl rfl rfl (by omega) hxo38.sm) rfl ?_)))))));obtain ⟨qe43,ce43,he43,le43,Fe43⟩:=hxo38 m (by omega);refine Jg (JE rfl he43 pl22) rfl (Jg (Jd rfl) rfl (Jf (Ja (hK17 (Je fun _ hK18 _=>(Jb (Jg (Jc rfl) rfl (Jg (Jc rfl) rfl (Jg (Ep (v':=.slice qe43 ((rw_ (redS (wdS rs rs.length)) m).take W).length ce43) (by rw [List.length_take_of_le (by omega)]) (PR.sliceHi (i':=W) u22 sz2 rfl rfl rfl (by omega))) rfl (Ju fn122 rfl rfl fun w hH=>(isZero_c (ints_pre Fe43 W) (by rw [List.length_take_of_le (by omega)];omega) hH).mono ?_))))))))));rintro _ w ⟨rfl,hH⟩;refine ⟨_,rfl,fun a hF=>JH hF hH ?_⟩;refine Jf (Ja (hK18 (Ei rfl (fun h47=>?_) (fun h47=>?_))))
   ·
    refine Jb (Jg (Jc rfl) rfl (Jg (Jc rfl) rfl (Jg (Jc rfl) rfl (Jg (PR.sliceLH (i':=W) u22 sz2 rfl (Fe43.sm (i:=0) (by omega)) rfl rfl (by omega) (by omega)) rfl (EI (EN u31 ze22 sz22 rfl rfl) rfl fun qo52 co52=>(EG u31 ze22 sz22 by22 rfl rfl rfl rfl (by omega) .z At.z (fun _ _=>At.z) rfl fun qo53 co53=>?_))))));have hT3:=hT.snoc (ints_drop Fe43 W) (m:=(rw_ (redS (wdS rs rs.length)) m).length - W) (c:=ce43 - W) (by rw [List.length_drop]) (by omega);refine Jg (Jd rfl) rfl (Jf (JF (Ja (hK16 (Jb (Jg (Jz rfl rfl (by first | exact nw _ (by omega) | rfl)) rfl (Jg (Jc rfl) rfl (Jf (Ja (JN .z ?_))))))))));exact hAg1 (Hm,qo53,co53,_,m+1) ⟨hlm,by rw [fzK_yes (by omega) h47];exact hT3,by omega⟩ (by show (redS (wdS rs rs.length)).length - (m+1)<(redS (wdS rs rs.length)).length - m;omega) 19 rfl rfl ⟨rfl,⟨(by rw [fzK_yes (by omega) h47,List.length_append];rfl),trivial⟩⟩ rfl (by dsimp only;rw [fzK_yes (by omega) h47,List.length_append];rfl)
   ·
    refine Jn (JF (Ja (hK16 (Jb (Jg (Jz rfl rfl (by first | exact nw _ (by omega) | rfl)) rfl (Jg (Jc rfl) rfl (Jf (Ja ?_))))))));exact hAg1 (Hm,q2,c2,vals2,m+1) ⟨hlm,by rw [fzK_no (by omega) h47];exact hT,by omega⟩ (by show (redS (wdS rs rs.length)).length - (m+1)<(redS (wdS rs rs.length)).length - m;omega) 12 rfl rfl ⟨rfl,⟨(by rw [fzK_no (by omega) h47];rfl),trivial⟩⟩ rfl (by dsimp only;rw [fzK_no (by omega) h47])
  ·
   refine JG (Jj (Jj (JK (Ja (hK12 (Je fun _ hK19 _=>(Jb (Jg (Ep (v':=.slice q2 (fzS (redS (wdS rs rs.length)) W).length c2) (by rw [← fzK_end,show m=(redS (wdS rs rs.length)).length by omega]) (Jc rfl)) rfl ?_))))))))
   have hT4:SlF Hm vals2 (fzS (redS (wdS rs rs.length)) W):=by
    rw [show m=(redS (wdS rs rs.length)).length by omega,fzK_end] at hT;exact hT
   refine Ev .z fun Ho36 hleo36 hAo36=>?_;replace hrs:=hrs.le hleo36;replace hS:=hS.le hleo36;replace hxo15:=hxo15.le hleo36;replace hxo38:=hxo38.le hleo36;replace hT:=hT.le hleo36;replace hT4:=hT4.le hleo36;have hxo36:=hT4.rows (Le.refl _) hAo36;have hco36:=own_le hAo36;refine Ju fn46 rfl rfl fun w hH=>(reduce_c (W:=rs.length) hxo36 (fzS_ok hRR.row) (by have:=fzK_len (redS (wdS rs rs.length)) W (redS (wdS rs rs.length)).length;rw [fzK_end] at this;omega) (by omega) hH).mono ?_;rintro _ w ⟨qo56,co56,vso56,rfl,hH⟩;refine ⟨_,rfl,fun a hF=>JH hF hH ?_⟩;refine Jg (Jd rfl) rfl (Jf (Ja (hK19 (Jt (Jr rfl (Res.tmp rfl) fun w hH=>?_)))));replace hH:=hH.sublist (.cons_cons _ (List.Sublist.refl _));exact ⟨_,_,_,rfl,hH.weaken ((((hlk.trans hleo15).trans hleo38).trans hlm).trans hleo36) hw0 hw1⟩
theorem u191:Tryz.prog.underlying 191=some (TypeDesc.struct #[{name:="degrees",type:=22,offset:=0,embedded:=false,tag:="",pkgPath:="loop.example/g01219/impl",byteOffset:=0},{name:="most",type:=3,offset:=1,embedded:=false,tag:="",pkgPath:="loop.example/g01219/impl",byteOffset:=24},{name:="out",type:=85,offset:=2,embedded:=false,tag:="",pkgPath:="loop.example/g01219/impl",byteOffset:=32}]):=by kernel_rfl
theorem u85:Tryz.prog.underlying 85=some (TypeDesc.slice 148):=by kernel_rfl
theorem sz85:Size Tryz.prog 85 1:=by unfold Size;kernel_rfl
theorem by148:Bytes Tryz.prog 148 64:=by unfold Bytes;kernel_rfl
theorem pl85:Plain Tryz.prog 85:=⟨_,u85,rfl⟩
theorem fn144:Fn Tryz.prog 144:=⟨_,Tryz.func144,by kernel_rfl,rfl⟩
def capL (M:Nat) (a b:List Pw):List Pw:=a++b.take (M - a.length)
theorem capL_nil (M:Nat) (a:List Pw):capL M a []=a:=by simp [capL]
theorem capL_full {M:Nat} {a:List Pw} (h:M≤a.length) (b:List Pw):capL M a b=a:=by unfold capL;rw [show M - a.length=0 by omega,List.take_zero,List.append_nil]
theorem capL_app (M:Nat) (a b c:List Pw):capL M (capL M a b) c=capL M a (b++c):=by
 unfold capL;rw [List.append_assoc,List.take_append,List.length_append,List.length_take]
 congr 3
 omega
theorem capL_len {M:Nat} {a b:List Pw} (h:a.length≤M):(capL M a b).length≤M:=by
 unfold capL;rw [List.length_append,List.length_take]
 omega
theorem capL_one {M:Nat} {a:List Pw} (h:a.length<M) (p:Pw):capL M a [p]=a++[p]:=by
 unfold capL;rw [List.take_of_length_le (by simp;omega)]
theorem capL_zero (M:Nat) (b:List Pw):capL M [] b=b.take M:=by simp [capL]
theorem enum_end {ds:List Int} {i:Nat} {m:Pw} {n:Int} (hi:i=ds.length):enumF (ds.drop i) i m n=if n=0 then [m] else []:=by
 subst hi;rw [List.drop_length]
 rfl
abbrev enS (ds:List Int) (i:Nat) (m:Pw) (n:Int):List Pw:=enumF (ds.drop i) i m n
def enG (ds:List Int) (i:Nat) (m:Pw) (n e:Int):List Pw:=enS ds (i+1) (m.set i e) (n - e * ds.getD i 0)
theorem enum_go {ds:List Int} {i:Nat} {m:Pw} {n:Int} (hi:i<ds.length):enS ds i m n=(dnL (topM (ds.getD i 0) n)).flatMap (enG ds i m n):=by
 unfold enS enG;rw [List.drop_eq_getElem_cons hi]
 have:ds.getD i 0=ds[i]:=by simp [List.getD_eq_getElem?_getD,List.getElem?_eq_getElem hi]
 rw [this]
 rfl
theorem enG_set {ds:List Int} {i:Nat} {m mm:Pw} {n e:Int} (h : ∀v:Int,mm.set i v=m.set i v):enS ds (i+1) (mm.set i e) (n - e * ds.getD i 0)=enG ds i m n e:=by unfold enG;rw [h]
structure EnI (ds:List Int) (i:Nat) (m:Pw) (n e:Int) (A:List Pw) (mm:Pw):Prop where
 len:mm.length=8
 set : ∀v:Int,mm.set i v=m.set i v
 eq:A++(dnL e).flatMap (enG ds i m n)=enS ds i m n
 lo : -1000001≤e
 hi:e≤topM (ds.getD i 0) n
theorem topM_20 (d n:Int):topM d n≤20:=by unfold topM;split <;> omega
theorem tdiv_b {n d:Int} (hd:1≤d) (hn : -1000000≤n∧n≤1000000) : -1000000≤n.tdiv d∧n.tdiv d≤1000000:=by
 rcases Int.le_total 0 n with h | h
 ·rw [Int.tdiv_eq_ediv_of_nonneg h];have h1:=Int.ediv_nonneg h (by omega:0≤d);have h2:=Int.ediv_le_self d h
  omega
 ·have e:n = -(-n):=by omega
  rw [e,Int.neg_tdiv,Int.tdiv_eq_ediv_of_nonneg (by omega)];have h1:=Int.ediv_nonneg (by omega:0≤ -n) (by omega:0≤d);have h2:=Int.ediv_le_self d (by omega:0≤ -n)
  omega
theorem topM_lo {d n:Int} (hd:1≤d) (hn : -1000000≤n∧n≤1000000) : -1000000≤topM d n:=by
 have:=tdiv_b hd hn;unfold topM
 split <;> omega
theorem EnI.start {ds:List Int} {i:Nat} {m:Pw} {n:Int} (hm:m.length=8) (hi:i<ds.length) (hd:1≤ds.getD i 0) (hn : -1000000≤n∧n≤1000000):EnI ds i m n (topM (ds.getD i 0) n) [] m:=
 ⟨hm,fun _=>rfl,by rw [enum_go hi];rfl,by have:=topM_lo hd hn;omega,Int.le_refl _⟩
theorem EnI.next {ds:List Int} {i:Nat} {m mm:Pw} {n e:Int} {A:List Pw} (h:EnI ds i m n e A mm) (he:0≤e):EnI ds i m n (e - 1) (A++enG ds i m n e) (mm.set i e):=
 ⟨by simpa using h.len,fun v=>by rw [List.set_set];exact h.set v,by rw [← h.eq,dnL_succ he,List.flatMap_cons,List.append_assoc],by omega,by have:=h.hi;omega⟩
theorem EnI.end {ds:List Int} {i:Nat} {m mm:Pw} {n e:Int} {A:List Pw} (h:EnI ds i m n e A mm) (he:e<0):A=enS ds i m n:=by
 rw [← h.eq,dnL_neg he]
 simp
theorem left_b {d n k:Int} (hd:1≤d∧d≤12) (hk:0≤k) (ht:k≤topM d n) (hn : -1000000≤n∧n≤1000000):(0≤k * d∧k * d≤240)∧ -1000000≤n - k * d∧n - k * d≤1000000:=by
 have h20:=topM_20 d n;have h0:0≤k * d:=Int.mul_nonneg hk (by omega);have h1:k * d≤20 * 12:=Int.mul_le_mul (by omega) hd.2 (by omega) (by omega);refine ⟨⟨h0,by omega⟩,?_,by omega⟩
 rcases Int.le_total 0 n with hn0 | hn0
 ·omega
 ·have h2:k=0:=by
   have h3:n.tdiv d≤0:=by
    have e:n = -(-n):=by omega
    rw [e,Int.neg_tdiv,Int.tdiv_eq_ediv_of_nonneg (by omega)];have:=Int.ediv_nonneg (by omega:0≤ -n) (by omega:0≤d)
    omega
   unfold topM at ht
   split at ht <;> omega
  rw [h2]
  omega
theorem min_if (i j:Int):(if j<i then j else i)=min i j:=by omega
theorem topM_odd {d n:Int} (h:d.tmod 2=1):min (min (n.tdiv d) 20) 1=topM d n:=by unfold topM;rw [if_pos h]
theorem topM_even {d n:Int} (h : ¬d.tmod 2=1):min (n.tdiv d) 20=topM d n:=by unfold topM;rw [if_neg h]
theorem fromX_c {B:World} {H0 H:HP} {L:List SA} {w:World} {i:Nat} {m:List Int} {n:Int} {gl most:Nat} {qd qo:Option Addr} {cd co:Nat} {ds:List Int} {acc:List Pw} (hm:m.length=8) (hds:Ints H qd ds) (hd : ∀j,j<ds.length→1≤ds.getD j 0∧ds.getD j 0≤12) (hi:i≤ds.length) (h8:ds.length≤8) (hn : -1000000≤n∧n≤1000000) (ha:acc.length≤most+1) (hmost:most≤100000) (hrec:i<ds.length→∀(m':Pw) (n':Int) (acc':List Pw) (qo':Option Addr) (co':Nat),m'.length=8→ -1000000≤n' ∧n' ≤1000000→acc'.length≤most+1→∀(L:List SA) (w:World),Hp B H0 H (obj gl (.cells [.slice qd ds.length cd,.int .i64 (most:Int),.slice qo' acc'.length co'].toArray 191 (0,0))::own 148 8 qo' acc'.length co' (psC acc')::L) w→Calls Tryz.prog 144 [.pointer (some ⟨gl,0,none⟩),.int .i64 ((i+1:Nat):Int),.agg (intsC m').toArray,.int .i64 n'].toArray w fun r w'=>r = .returned (.tuple #[])∧∃qo2 co2,Hp B H0 H (obj gl (.cells [.slice qd ds.length cd,.int .i64 (most:Int),.slice qo2 (capL (most+1) acc' (enS ds (i+1) m' n')).length co2].toArray 191 (0,0))::own 148 8 qo2 (capL (most+1) acc' (enS ds (i+1) m' n')).length co2 (psC (capL (most+1) acc' (enS ds (i+1) m' n')))::L) w') (hH:Hp B H0 H (obj gl (.cells [.slice qd ds.length cd,.int .i64 (most:Int),.slice qo acc.length co].toArray 191 (0,0))::own 148 8 qo acc.length co (psC acc)::L) w):Calls Tryz.prog 144 [.pointer (some ⟨gl,0,none⟩),.int .i64 (i:Int),.agg (intsC m).toArray,.int .i64 n].toArray w fun e w'=>e = .returned (.tuple #[])∧∃qo2 co2,Hp B H0 H (obj gl (.cells [.slice qd ds.length cd,.int .i64 (most:Int),.slice qo2 (capL (most+1) acc (enS ds i m n)).length co2].toArray 191 (0,0))::own 148 8 qo2 (capL (most+1) acc (enS ds i m n)).length co2 (psC (capL (most+1) acc (enS ds i m n)))::L) w':=by
 refine Jx Tryz.func144 rfl 74 rfl rfl [(0,.pointer (some ⟨gl,0,none⟩)),(1,.int .i64 (i:Int)),(2,.agg (intsC m).toArray),(3,.int .i64 n)] rfl hH ?_;clear hH;refine Je fun _ hK1 _=>(Jb (JW rfl rfl rfl fun g6=>(Jf (Ja (hK1 (Je fun _ hK2 _=>(Je fun _ hK3 _=>(EC foll0 (by kernel_rfl) (JC (Jc rfl) rfl (JC (Jv rfl) rfl (JC (Jl u191 rfl sz85 rfl) rfl (JC (Js rfl (.s .z) rfl pl85) rfl (JC (Jo u85 rfl rfl) rfl (JC (Jc rfl) rfl (JC (Jv rfl) rfl ?_)))))))))))))));refine JC (Jl u191 rfl sz3 rfl) rfl (JC (Js rfl (.s .z) rfl pl3) rfl (JC (EK rfl rfl) rfl (Ed (Ja (hK3 (Jq rfl (fun h20=>?_) (fun h20=>?_)))))))
 ·
  refine Jt (Jk (EJ.ret0r rfl fun w hH=>?_));replace hH:=hH.sublist (.cons _ (.cons_cons _ (.cons_cons _ (List.Sublist.refl _))));rw [capL_full (by omega)];exact ⟨rfl,qo,co,hH⟩
 ·
  refine Jn (Ja (hK2 (Je fun _ hK4 _=>(Je fun _ hK5 _=>(Jb (Jg (Jc rfl) rfl (Jg (Jc rfl) rfl (Jg (Jv rfl) rfl (Jg (Jl u191 rfl sz22 rfl) rfl (Jg (Js rfl (.s .z) rfl pl22) rfl (Jg (Jo u22 rfl rfl) rfl (Jg (EL rfl rfl) rfl (Jf (Ja (hK5 (Jq rfl (fun h27=>?_) (fun h27=>?_)))))))))))))))))
  ·
   refine Je fun _ hK6 _=>(Je fun _ hK7 _=>(Jb (Jg (Jc rfl) rfl (Jg (EL rfl rfl) rfl (Jf (Ja (hK7 (Jq rfl (fun h29=>?_) (fun h29=>?_)))))))))
   ·
    refine Ea (Rs:=[_,_,_]) 11 [[], [], [1], [1,2], [1,2,3], [], [5], [1,2,3,4,5,6], [0,1,2,3,4,5,6,7], [0,1,2,3,4,5,6,7,8], [0,1,2,3,4,5,6,7,8,9]] [[], [], [], [], [12], [11], [], [6], [], [], []] [[], [], [], [], [], [], [], [13], [], [], [12]] rfl rfl (by kernel_rfl) ?_;apply Ji 1 rfl rfl rfl
    ·intros;conv=>lhs;simp only [Jh,reduceEqDiff,reduceAdd]
    ·exact Jc rfl
    apply Ji 2 rfl rfl rfl
    ·intros;conv=>lhs;simp only [Jh,reduceEqDiff,reduceAdd]
    ·exact Jc rfl
    apply Ji 3 rfl rfl rfl
    ·intros;conv=>lhs;simp only [Jh,reduceEqDiff,reduceAdd]
    ·exact Jv rfl
    apply Ji 4 rfl rfl rfl
    ·intros;conv=>lhs;simp only [Jh,reduceEqDiff,reduceAdd]
    ·exact Jl u191 rfl sz85 rfl
    apply Ji 5 rfl rfl rfl
    ·intros;conv=>lhs;simp only [Jh,reduceEqDiff,reduceAdd]
    ·exact Js rfl At.z rfl pl85
    apply Ji 6 rfl rfl rfl
    ·intros;conv=>lhs;simp only [Jh,reduceEqDiff,reduceAdd]
    ·exact Jm rfl At.z (by simpa [*] using ag148)
    apply JR 7 rfl
    ·intros;conv=>lhs;simp only [Jh,reduceEqDiff,reduceAdd]
    ·
     intro gh X K zq zc zq2 zc2 zb zv hK;refine EI (MK.lit8 cf8I u85 ze148 rfl sz148 hm rfl) rfl fun qo36 co36=>(Jy ?_);exact hK qo36 co36 zq2 zc2 zb zv
    ·intro gh gh' h;refine ⟨?_,?_⟩ <;> rfl
    apply JR 8 rfl
    ·intros;conv=>lhs;simp only [Jh,reduceEqDiff,reduceAdd]
    ·
     intro gh X K zq zc zq2 zc2 zb zv hK;refine J.append8 cf8I u85 ze148 rfl sz148 by148 rfl rfl rfl (by omega) (.s .z) At.z (fun _ _=>At.z) rfl fun qo37 co37=>(Jw .z (Jw (.s .z) (Jy ?_)));exact hK qo37 co37 zq2 zc2 zb zv
    ·intro gh gh' h;refine ⟨?_,?_⟩ <;> (first | simp only [h 6 rfl] | rfl)
    apply Ef 9 rfl rfl rfl
    ·intros;conv=>lhs;simp only [Jh,reduceEqDiff,reduceAdd]
    ·exact Jv rfl
    ·intro gh gh' h;first | simp only [h 6 rfl,h 7 rfl] | rfl
    apply Ef 10 rfl rfl rfl
    ·intros;conv=>lhs;simp only [Jh,reduceEqDiff,reduceAdd]
    ·exact Jl u191 rfl sz85 rfl
    ·intro gh gh' h;first | simp only [h 6 rfl,h 7 rfl] | rfl
    apply EZ 11 rfl
    ·intros;conv=>lhs;simp only [Jh,reduceEqDiff,reduceAdd]
    ·
     intro gh X K hK;refine Et rfl rfl rfl rfl sz85 (by simp [*]) At.z (Jy ?_);exact hK
    ·intro gh gh' h;first | simp only [h 6 rfl,h 7 rfl] | rfl
    apply JZ [0,1,2,3,4,5,6,7,8,9,10] [0,1,2,3,4,5,6,7,8,9,10,11] foll0 rfl rfl rfl (by rfl)
    iterate 2 focus (intros;(conv=>lhs;simp only [JU,Ej,Ka,El,Es,eq_self,reduceEqDiff,reduceIte,reduceSub,reduceAdd,JxA,JxB]);all_goals rfl)
    intro gh;generalize (gh 6).c=co36;generalize (gh 6).q=qo36;generalize (gh 7).c=co37;generalize (gh 7).q=qo37;clear gh;refine Ja (hK6 (Jt (Jk (EJ.ret0r rfl fun w hH=>?_))));replace hH:=hH.sublist (.cons _ (.cons_cons _ (.cons_cons _ (.cons _ (List.Sublist.refl _)))));rw [show enS ds i m n=[m] from by rw [enS,enum_end (by omega),if_pos h29],capL_one (by omega),List.length_append];exact ⟨rfl,qo37,co37,hH.front (.s .z)⟩
   ·
    refine Jn (Ja (hK6 (Jt (Jk (EJ.ret0r rfl fun w hH=>?_)))));replace hH:=hH.sublist (.cons _ (.cons_cons _ (.cons_cons _ (List.Sublist.refl _))));rw [show enS ds i m n=[] from by rw [enS,enum_end (by omega),if_neg h29],capL_nil];exact ⟨rfl,qo,co,hH⟩
  ·
   have hil:i<ds.length:=by omega
   have hdi:=hd i hil;have htb:=tdiv_b hdi.1 hn;have htt:=tmod_bd n;refine Jn (Ja (hK4 (Je fun _ hK8 _=>(Jb (Jg (Jc rfl) rfl (Jg (Jv rfl) rfl (Jg (Jl u191 rfl sz22 rfl) rfl (Jg (Js rfl (.s .z) rfl pl22) rfl (Jg (Jc rfl) rfl (Jg (JL u22 sz2 rfl rfl rfl (by omega) hds.sm) rfl (Jg (JE rfl (hds _ (by omega)) pl2) rfl (Jg (Jd rfl) rfl (Jf (Ja (hK8 (Je fun _ hK9 _=>?_))))))))))))))));refine Jb (Jg (Jc rfl) rfl (Jg (Jc rfl) rfl (Jg (PR.quo rfl rfl (by omega) (nw _ (by omega))) rfl (Jg (Ep (v':=.int .i64 (min (n.tdiv (ds.getD i 0)) 20)) (by rw [min_if]) (PR.min2 rfl rfl)) rfl (Jg (Jd rfl) rfl (Jf (Ja (hK9 (CJ.cutU (σ:=Unit) (fun (_:Unit)=>[(9,.int .i64 (topM (ds.getD i 0) n))]) (fun (_:Unit)=>H) (fun (_:Unit)=>obj g6 (.cells (intsC m).toArray 148 (0,0))::obj gl (.cells [.slice qd ds.length cd,.int .i64 (most:Int),.slice qo acc.length co].toArray 191 (0,0))::own 148 8 qo acc.length co (psC acc)::L) (fun (_:Unit)=>True) ?_ ?_)))))))))
   ·
    intro _ hMt1;refine Je fun _ hK10 _=>(Jb (Jg (Jc rfl) rfl (Jg (EF rfl rfl (by decide) rfl) rfl (Jg (EL rfl rfl) rfl (Jf (Ja (hK10 (Jq rfl (fun h53=>?_) (fun h53=>?_)))))))))
    ·
     refine Jb (Jg (Jc rfl) rfl (Jg (Ep (v':=.int .i64 (min (min (n.tdiv (ds.getD i 0)) 20) 1)) (by rw [min_if]) (PR.min2 rfl rfl)) rfl (Jg (Jd rfl) rfl (Jf (Ja ?_)))));exact hMt1 () trivial 6 rfl rfl ⟨(vi (topM_odd h53)),trivial⟩ rfl rfl
    ·
     refine Jn (Ja ?_);exact hMt1 () trivial 3 rfl rfl ⟨(vi (topM_even h53)),trivial⟩ rfl rfl
   ·
    rintro _ _;refine Je fun _ hK11 _=>(Jb (Jg (Jc rfl) rfl (Jg (Jd rfl) rfl (Jf (Ja (hK11 (Jp (JD (σ:=Int × List Pw × Pw × Option Addr × Nat) (fun ⟨e,A,mm,qo1,co1⟩=>[(10,.int .i64 e)]) (fun ⟨e,A,mm,qo1,co1⟩=>H) (fun ⟨e,A,mm,qo1,co1⟩=>obj g6 (.cells (intsC mm).toArray 148 (0,0))::obj gl (.cells [.slice qd ds.length cd,.int .i64 (most:Int),.slice qo1 (capL (most+1) acc A).length co1].toArray 191 (0,0))::own 148 8 qo1 (capL (most+1) acc A).length co1 (psC (capL (most+1) acc A))::L) (fun ⟨e,A,mm,qo1,co1⟩=>EnI ds i m n e A mm) (fun ⟨e,A,mm,qo1,co1⟩=>(e+1).toNat) (topM (ds.getD i 0) n, [],m,qo,co) (EnI.start hm hil hdi.1 hn) ⟨rfl,trivial⟩ rfl (by dsimp only;rw [capL_nil]) ?_))))))));rintro ⟨e,A,mm,qo1,co1⟩ hI _ hAg0;have hlo:=hI.lo;have hhi:=hI.hi;have h20:=topM_20 (ds.getD i 0) n;have hmml:=hI.len;refine Je fun _ hK12 _=>(Je fun _ hK13 _=>(Jb (Jg (Jc rfl) rfl (Jg (PR.geq rfl rfl) rfl (Jf (Ja (hK13 (Jq rfl (fun h58=>?_) (fun h58=>?_)))))))))
    ·
     have hlb:=left_b hdi h58 hhi hn;refine Jn (Ja (hK12 (Je fun _ hK14 _=>(Jp (Je fun _ hK15 _=>(Jb (Jg (Jc rfl) rfl (Jg (Jc rfl) rfl (Jg (JT u148 sz3 rfl rfl rfl (by omega)) rfl (J.storeI rfl rfl sz3 (by simp [*];omega) At.z (Jf (Ja (hK15 (Jb (Jg (Jc rfl) rfl (Jg (Jc rfl) rfl ?_))))))))))))))));refine Jg (Jz rfl rfl (by first | exact nw _ (by omega) | rfl)) rfl (Jg (Jm rfl At.z (by simpa [*] using ag148)) rfl (Jg (Jc rfl) rfl (Jg (Jc rfl) rfl (Jg (Jc rfl) rfl (Jg (EO rfl rfl (nw _ (by omega))) rfl (Jg (EH rfl rfl (nw _ (by omega))) rfl (Ju fn144 rfl rfl fun w hH=>(hrec hil (mm.set i e) (n - e * ds.getD i 0) (capL (most+1) acc A) qo1 co1 (by simpa using hmml) hlb.2 (capL_len ha) _ _ ((hH.front (.s (.s .z))).front (.s (.s .z)))).mono ?_)))))));rintro _ w ⟨rfl,qo2,co2,hH⟩;refine ⟨_,rfl,fun a hF=>JH hF hH ?_⟩;refine Jf (JF (Ja (hK14 (Jb (Jg (Jc rfl) rfl (Jg (EH rfl rfl (by first | exact nw _ (by omega) | rfl)) rfl (Jg (Jd rfl) rfl (Jf (Ja (Jw (.s .z) (Jw (.s .z) (Jw (.s (.s .z)) ?_))))))))))));exact hAg0 (e - 1,A++enG ds i m n e,mm.set i e,qo2,co2) (hI.next h58) (by show (e - 1+1).toNat<(e+1).toNat;omega) 19 rfl rfl ⟨rfl,trivial⟩ rfl (by dsimp only;rw [← capL_app,← enG_set hI.set])
    ·
     refine JG (Jj (Jj (JK (EJ.ret0 rfl fun w hH=>?_))));replace hH:=hH.sublist (.cons _ (.cons_cons _ (.cons_cons _ (List.Sublist.refl _))));rw [← hI.end (by omega)];exact ⟨rfl,qo1,co1,hH⟩
theorem bd191_0_1 : ∀(q0:Option Addr) (m0 c0:Nat) (n1:Int) w,(Instr.build 191 #[(0,.slice q0 m0 c0),(1,.int .i64 n1)]).run Tryz.prog w = .ok (.agg [.slice q0 m0 c0,.int .i64 n1,.slice none 0 0].toArray) w:=fun q0 m0 c0 n1 _=>by kernel_rfl
theorem from_n {B:World} {H0 H:HP} {gl most:Nat} {qd:Option Addr} {cd:Nat} {ds:List Int} (hds:Ints H qd ds) (hd : ∀j,j<ds.length→1≤ds.getD j 0∧ds.getD j 0≤12) (h8:ds.length≤8) (hmost:most≤100000) : ∀(k i:Nat) (m:Pw) (n:Int) (acc:List Pw) (qo:Option Addr) (co:Nat),ds.length - i≤k→i≤ds.length→m.length=8→ -1000000≤n∧n≤1000000→acc.length≤most+1→∀(L:List SA) (w:World),Hp B H0 H (obj gl (.cells [.slice qd ds.length cd,.int .i64 (most:Int),.slice qo acc.length co].toArray 191 (0,0))::own 148 8 qo acc.length co (psC acc)::L) w→Calls Tryz.prog 144 [.pointer (some ⟨gl,0,none⟩),.int .i64 (i:Int),.agg (intsC m).toArray,.int .i64 n].toArray w fun r w'=>r = .returned (.tuple #[])∧∃qo2 co2,Hp B H0 H (obj gl (.cells [.slice qd ds.length cd,.int .i64 (most:Int),.slice qo2 (capL (most+1) acc (enS ds i m n)).length co2].toArray 191 (0,0))::own 148 8 qo2 (capL (most+1) acc (enS ds i m n)).length co2 (psC (capL (most+1) acc (enS ds i m n)))::L) w'
 | 0,i,m,n,acc,qo,co,hk,hi,hm,hn,ha,L,w,hH=>fromX_c hm hds hd hi h8 hn ha hmost (fun h=>by omega) hH
 | k+1,i,m,n,acc,qo,co,hk,hi,hm,hn,ha,L,w,hH=>fromX_c hm hds hd hi h8 hn ha hmost (fun h m' n' acc' qo' co' h1 h2 h3 L w hH=>from_n hds hd h8 hmost k (i+1) m' n' acc' qo' co' (by omega) (by omega) h1 h2 h3 L w hH) hH
theorem mon_cap {ds:List Int} {n:Int} (most:Nat) (m:Pw) (hm:m=zP):capL (most+1) [] (enS ds 0 m n)=(monS ds n).take (most+1):=by
 subst hm;rw [capL_zero]
 rfl
theorem take_dec {α:Type} {l:List α} {most:Nat}:(decide (((l.take (most+1)).length:Int)≤(most:Int)))=decide (l.length≤most):=by
 rw [List.length_take];simp only [decide_eq_decide]
 omega
theorem monS_neg {ds:List Int} {n:Int} (hd : ∀j,j<ds.length→1≤ds.getD j 0∧ds.getD j 0≤12) (h8:ds.length≤8) (hn:n<0):monS ds n=[]:=by
 rcases hh:monS ds n with _ | ⟨p,ps⟩
 ·rfl
 ·have h1:=enumF_mem (ds:=ds) (i:=0) (m:=zP) (p:=p) (n:=n) (by omega) rfl (by show p∈monS ds n;rw [hh];simp)
  have key : ∀(l:List Int) (i:Nat),(∀t,t<l.length→1≤l.getD t 0∧0≤p.getD (i+t) 0)→0≤wsF l p i:=by
   intro l
   induction l with
   | nil=>intro i _;simp [wsF]
   | cons d l ih=>
    intro i h;have h0:=h 0 (by simp);simp only [List.getD_cons_zero,Nat.add_zero] at h0;have:=ih (i+1) (fun t ht=>by have:=h (t+1) (by simpa using ht);simp only [List.getD_cons_succ] at this;rw [show i+1+t=i+(t+1) by omega];exact this);have h3:0≤d * p.getD i 0:=Int.mul_nonneg (by omega) h0.2;simp only [wsF]
    omega
  have h2:=key ds 0 (fun t ht=>⟨(hd t ht).1,(h1.2.2.1 t ht).1⟩)
  omega
theorem monomials_c {B:World} {H0 H:HP} {L:List SA} {w:World} {qds:Option Addr} {cds:Nat} {ds:List Int} {n:Int} {most:Nat} (hds:Ints H qds ds) (hd : ∀j,j<ds.length→1≤ds.getD j 0∧ds.getD j 0≤12) (h8:ds.length≤8) (hn : -1000000≤n∧n≤1000000) (hmost:most≤100000) (hH:Hp B H0 H L w):Calls Tryz.prog 123 [.slice qds ds.length cds,.int .i64 n,.int .i64 (most:Int)].toArray w fun e w'=>∃q c,e = .returned (.tuple #[.slice q ((monS ds n).take (most+1)).length c,.bool (decide ((monS ds n).length≤most))])∧Hp B H0 H (own 148 8 q ((monS ds n).take (most+1)).length c (psC ((monS ds n).take (most+1)))::L) w':=by
 refine Jx Tryz.func123 rfl 30 rfl rfl [(0,.slice qds ds.length cds),(1,.int .i64 n),(2,.int .i64 (most:Int))] rfl hH ?_;clear hH;refine Je fun _ hK1 _=>(Jb (Jg (Jd rfl) rfl (Jg (Jd rfl) rfl (Jf (Ja (hK1 (Je fun _ hK2 _=>(Jb (Jg (Jc rfl) rfl (Jg (Jc rfl) rfl (Jg (PR.build2 rfl rfl (fun w=>bd191_0_1 _ _ _ _ w)) rfl (JW rfl rfl rfl fun g12=>(J.own0 148 8 (Jg (Jd rfl) rfl (Jf ?_)))))))))))))));refine Ja (hK2 (Je fun _ hK3 _=>(Je fun _ hK4 _=>(Jb (Jg (Jc rfl) rfl (Jg (PR.geq rfl rfl) rfl (Jf (Ja (hK4 (Jq rfl (fun h14=>?_) (fun h14=>?_)))))))))))
 ·
  refine Jb (Jg (Jc rfl) rfl (Jg (EB bz148) rfl (Jg (Jc rfl) rfl (Ju fn144 rfl rfl fun w hH=>(from_n hds hd h8 hmost ds.length 0 zP n [] none 0 (by omega) (by omega) rfl hn (by simp) _ _ (hH.front (.s .z))).mono ?_))));rintro _ w ⟨rfl,qo2,co2,hH⟩;refine ⟨_,rfl,fun a hF=>JH hF hH ?_⟩;refine Jf (Ja (hK3 (Je fun _ hK5 _=>(EC foll0 (by kernel_rfl) (JC (Jc rfl) rfl (JC (Jv rfl) rfl (JC (Jl u191 rfl sz85 rfl) rfl (JC (Js rfl At.z rfl pl85) rfl (JC (Jc rfl) rfl (JC (Jv rfl) rfl (JC (Jl u191 rfl sz85 rfl) rfl (JC (Js rfl At.z rfl pl85) rfl (JC (Jo u85 rfl rfl) rfl (JC (Jc rfl) rfl (JC (PR.leq rfl rfl) rfl ?_)))))))))))))));refine JC (Jd rfl) rfl (JC (Jd rfl) rfl (Ed (Ja (hK5 (Jt (Eg rfl (Res.tmp rfl) (Res.tmp rfl) fun w hH=>?_))))));replace hH:=hH.sublist (.cons _ (.cons_cons _ (List.Sublist.refl _)));rw [mon_cap most _ rfl] at hH ⊢;exact ⟨qo2,co2,by rw [take_dec],hH⟩
 ·
  refine Jn (Ja (hK3 (Je fun _ hK6 _=>(EC foll0 (by kernel_rfl) (JC (Jc rfl) rfl (JC (Jv rfl) rfl (JC (Jl u191 rfl sz85 rfl) rfl (JC (Js rfl (.s .z) rfl pl85) rfl (JC (Jc rfl) rfl (JC (Jv rfl) rfl (JC (Jl u191 rfl sz85 rfl) rfl (JC (Js rfl (.s .z) rfl pl85) rfl (JC (Jo u85 rfl rfl) rfl (JC (Jc rfl) rfl (JC (PR.leq rfl rfl) rfl ?_)))))))))))))));refine JC (Jd rfl) rfl (JC (Jd rfl) rfl (Ed (Ja (hK6 (Jt (Eg rfl (Res.tmp rfl) (Res.tmp rfl) fun w hH=>?_))))));replace hH:=hH.sublist (.cons_cons _ (.cons _ (List.Sublist.refl _)));rw [monS_neg hd h8 (by omega)];exact ⟨none,0,rfl,hH⟩
theorem u126:Tryz.prog.underlying 126=some (TypeDesc.struct #[{name:="a",type:=66,offset:=0,embedded:=false,tag:="",pkgPath:="loop.example/g01219/impl",byteOffset:=0},{name:="levels",type:=124,offset:=1,embedded:=false,tag:="",pkgPath:="loop.example/g01219/impl",byteOffset:=8}]):=by kernel_rfl
theorem sz66:Size Tryz.prog 66 1:=by unfold Size;kernel_rfl
theorem fn110:Fn Tryz.prog 110:=⟨_,Tryz.func110,by kernel_rfl,rfl⟩
theorem fn123:Fn Tryz.prog 123:=⟨_,Tryz.func123,by kernel_rfl,rfl⟩
def fitB (ds:List Int) (n:Int):Bool:=decide ((monS ds n).length≤120)
def upB (ds:List Int) (n:Int):Bool:=(List.range (n+2).toNat).all fun k:Nat=>fitB ds (k:Int)
def upC (ds:List Int) (n:Int):Int:=if upB ds n then 0 else 3
theorem upC_no {ds:List Int} {n:Int} {i:Nat} (hi:(i:Int)<n+2) (h:fitB ds (i:Int)=false):upC ds n=3:=by
 unfold upC upB;rw [if_neg];intro hh;have:=List.all_eq_true.1 hh i (List.mem_range.2 (by omega));rw [h] at this;exact absurd this (by decide)
theorem upC_yes {ds:List Int} {n:Int} (h : ∀i:Nat,(i:Int)<n+2→fitB ds (i:Int)=true):upC ds n=0:=by
 unfold upC upB;rw [if_pos];exact List.all_eq_true.2 fun i hi=>h i (by have:=List.mem_range.1 hi;omega)
theorem not_f {b:Bool} (h:(!b)=true):b=false:=by cases b <;> simp_all
theorem not_t {b:Bool} (h:(!b)=false):b=true:=by cases b <;> simp_all
theorem fits_c {B:World} {H0 H:HP} {L:List SA} {w:World} {bc lc:Nat} {bca:Nat} {qcad qcaf:Option Addr} {ccad ccaf:Nat} {cad:List Int} {caf:List (List Term)} {n:Int} (pc0:CellAt H bc 0 (.pointer (some ⟨bca,0,none⟩))) (pc1:CellAt H bc 1 (.map (some lc))) (pcad:CellAt H bca 0 (.slice qcad cad.length ccad)) (pcaf:CellAt H bca 1 (.slice qcaf caf.length ccaf)) (hcad:Ints H qcad cad) (hcaf:Forms H qcaf caf) (hd : ∀j,j<cad.length→1≤cad.getD j 0∧cad.getD j 0≤12) (h8:cad.length≤8) (hn : -1000000≤n∧n≤1000000) (hH:Hp B H0 H L w):Calls Tryz.prog 110 [.pointer (some ⟨bc,0,none⟩),.int .i64 n].toArray w fun e w'=>e = .returned (.bool (fitB cad n))∧Hp B H0 H L w':=by
 refine Jx Tryz.func110 rfl 20 rfl rfl [(0,.pointer (some ⟨bc,0,none⟩)),(1,.int .i64 n)] rfl hH ?_;clear hH;refine Je fun _ hK1 _=>(Jb (Jg (Jd rfl) rfl (Jf (Ja (hK1 (Je fun _ hK2 _=>(Jb (Jg (Jc rfl) rfl (Jg (Jv rfl) rfl (Jg (Jl u126 rfl sz66 rfl) rfl (Jg (JE (q:=some ⟨bc,0,none⟩) (k:=0) rfl pc0 pl66) rfl (Jg (Jv rfl) rfl (Jg (Jl u36 rfl sz22 rfl) rfl (Jg (JE (q:=some ⟨bca,0,none⟩) (k:=0) rfl pcad pl22) rfl (Jg (Jc rfl) rfl ?_)))))))))))))));refine Ju fn123 rfl rfl fun w hH=>(monomials_c (most:=120) hcad hd h8 (by omega) (by omega) hH).mono ?_;rintro _ w ⟨qo16,co16,rfl,hH⟩;refine ⟨_,rfl,fun a hF=>JH hF hH ?_⟩;refine Jg (Jc rfl) rfl (Jg (JI rfl rfl) rfl (Jg (JI rfl rfl) rfl (Jg (Jd rfl) rfl (Jg (Jd rfl) rfl (Jf (Ja (hK2 (Je fun _ hK3 _=>(Jb (Jg (Jc rfl) rfl (Jg (Jd rfl) rfl (Jf (Ja (hK3 (Jt (Jr rfl (Res.tmp rfl) fun w hH=>?_))))))))))))))));replace hH:=hH.tail;exact ⟨rfl,hH⟩
theorem upTo_c {B:World} {H0 H:HP} {L:List SA} {w:World} {bc lc:Nat} {bca:Nat} {qcad qcaf:Option Addr} {ccad ccaf:Nat} {cad:List Int} {caf:List (List Term)} {n:Int} (pc0:CellAt H bc 0 (.pointer (some ⟨bca,0,none⟩))) (pc1:CellAt H bc 1 (.map (some lc))) (pcad:CellAt H bca 0 (.slice qcad cad.length ccad)) (pcaf:CellAt H bca 1 (.slice qcaf caf.length ccaf)) (hcad:Ints H qcad cad) (hcaf:Forms H qcaf caf) (hd : ∀j,j<cad.length→1≤cad.getD j 0∧cad.getD j 0≤12) (h8:cad.length≤8) (hn : -1≤n∧n≤99999) (hH:Hp B H0 H L w):Calls Tryz.prog 59 [.pointer (some ⟨bc,0,none⟩),.int .i64 n].toArray w fun e w'=>e = .returned (.int .i64 (upC cad n))∧Hp B H0 H L w':=by
 refine Jx Tryz.func59 rfl 16 rfl rfl [(0,.pointer (some ⟨bc,0,none⟩)),(1,.int .i64 n)] rfl hH ?_;clear hH;refine Je fun _ hK1 _=>(Jb (Jg (Jd rfl) rfl (Jf (Ja (hK1 (Je fun _ hK2 _=>(Je fun _ hK3 _=>(Jb (Jg (Jc rfl) rfl (Jg (Jz rfl rfl (nw _ (by omega))) rfl (Jg (Jc rfl) rfl (Jf (Ja (hK3 (Jp (JD (σ:=Nat) (fun (i:Nat)=>[(8,.int .i64 (i:Int))]) (fun (i:Nat)=>H) (fun (i:Nat)=>L) (fun (i:Nat)=>(i:Int)≤n+2∧∀j:Nat,j<i→fitB cad (j:Int)=true) (fun (i:Nat)=>(n+2 - i).toNat) 0 ⟨by omega,fun j hj=>by omega⟩ ⟨rfl,trivial⟩ rfl rfl ?_))))))))))))))));rintro i ⟨hi,hI⟩ _ hAg0;refine Je fun _ hK4 _=>(Jb (Jg (JJ rfl rfl) rfl (Jf (Ja (hK4 (Je fun _ hK5 _=>(Jq rfl (fun h9=>?_) (fun h9=>?_))))))))
 ·
  refine Jn (Ja (hK5 (Je fun _ hK6 _=>(Jp (Je fun _ hK7 _=>(Jb (Jg (Jc rfl) rfl (Jg (Jd rfl) rfl (Jf (Ja (hK7 (Je fun _ hK8 _=>(Jb (Jg (Jc rfl) rfl (Jg (Jc rfl) rfl (Ju fn110 rfl rfl fun w hH=>(fits_c pc0 pc1 pcad pcaf hcad hcaf hd h8 (by omega) hH).mono ?_))))))))))))))));rintro _ w ⟨rfl,hH⟩;refine ⟨_,rfl,fun a hF=>JH hF hH ?_⟩;refine Jg (Em rfl) rfl (Jf (Ja (hK8 (Ei rfl (fun h14=>?_) (fun h14=>?_)))))
  ·
   refine Je fun _ hK9 _=>(Jb (Jg (Jd rfl) rfl (Jf (Ja (hK9 (Jt (JO (Jk (Jk (JO (Jk (Jr rfl (Res.tmp rfl) fun w hH=>?_))))))))))));exact ⟨by rw [upC_no (i:=i) (by omega) (not_f h14)],hH⟩
  ·
   refine Jn (JF (Ja (hK6 (Jb (Jg (Jz rfl rfl (by first | exact nw _ (by omega) | rfl)) rfl (Jg (Jc rfl) rfl (Jf (Ja ?_))))))));exact hAg0 (i+1) ⟨by omega,upto hI (not_t h14)⟩ (by show (n+2 - ((i+1:Nat):Int)).toNat<(n+2 - (i:Int)).toNat;omega) 10 rfl rfl ⟨rfl,trivial⟩ rfl rfl
 ·
  refine JG (Jj (Jj (JK (Ja (hK2 (Je fun _ hK10 _=>(Jb (Jg (Jd rfl) rfl (Jf (Ja (hK10 (Jt (Jr rfl (Res.tmp rfl) fun w hH=>?_)))))))))))));exact ⟨by rw [upC_yes (fun j hj=>hI j (by omega))],hH⟩
end Go.Proofs.YtelcehjliighfaaGreat.G
