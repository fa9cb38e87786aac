/- A part of the walk of one law: what the functions compute. No condition. -/
import Derived.Test.YtelcehjliighfaaGreatRows
import Derived.Test.YtelcehjliighfaaGreatProg
import Derived.WalkKit
import Derived.KernelRfl
import Derived.JoinedOf
import Derived.Maps.AppendAt
import Derived.Still
import Derived.ProofKit
import Derived.OpenShut
import Derived.StillTail
import Derived.Deep.Upon
import Derived.WalkSpells
import Derived.Maps.Range
import Derived.DeepKeys4
import Derived.Maps.Keyed
import Derived.ChangeOld
import Derived.Below
import Derived.SizedLaws
import Derived.Test.YtelcehjliighfaaGreatPIndg
set_option linter.unusedVariables false
set_option linter.unusedSimpArgs false
set_option maxRecDepth 10000
set_option maxHeartbeats 8000000
open Nat (reduceEqDiff reduceSub reduceAdd)
namespace Go.Proofs.YtelcehjliighfaaGreat.G
open Go Go.RowKit
theorem bd56_0_1_2 : ∀(q0:Option Addr) (m0 c0:Nat) (q1:Option Addr) (m1 c1:Nat) (q2:Option Addr) (m2 c2:Nat) w,(Instr.build 56 #[(0,.agg [.slice q0 m0 c0].toArray),(1,.agg [.slice q1 m1 c1].toArray),(2,.agg [.slice q2 m2 c2].toArray)]).run Tryz.prog w = .ok (.agg [.slice q0 m0 c0,.slice q1 m1 c1,.slice q2 m2 c2,.int .i64 0,.int .i64 0,.int .i64 0,.slice none 0 0,.slice none 0 0].toArray) w:=fun q0 m0 c0 q1 m1 c1 q2 m2 c2 _=>by kernel_rfl
section
variable {P : Program} {ops : Array Oper} {Q : Exit → Act → World → Prop} {n : Nat} {B : World} {H0 H : HP} {rest : List Oper} {us : List (Nat × Value)} {L L' : List SA} {t : TypeId} {p : String} {af : Array Edge} {d : Nat} {x y : Operand}
theorem J.lit3A {ty e:TypeId} {u v u' cu cv cu' z:Value} {x':Operand} (hu:P.underlying ty=some (.slice e)) (hz:Zero P e [z]) (hs:Size P e 1) (hx:opv us x=some u) (hy:opv us y=some v) (hx':opv us x'=some u') (hcu:u.cells = #[cu]) (hcv:v.cells = #[cv]) (hcu':u'.cells = #[cu']) (hd:Nat.blt d n=true) (hk : ∀g,J P ops Q n B H0 rest ((d,.slice (some ⟨g,0,none⟩) 3 3)::us) H (obj g (.cells [cu,cv,cu'].toArray e (0,0))::L)):J P ops Q n B H0 (⟨some d,.buildSlice ty 3 #[(0,x),(1,y),(2,x')],t,p,af,none⟩::rest) us H L:=by
 refine J.val hd fun a w hF hH=>⟨.slice (some ⟨w.heap.size,0,none⟩) 3 3,w.alloc (.cells [cu,cv,cu'].toArray e),?_,fun a' hF'=>hk _ a' _ hF' (hH.alloc _)⟩;obtain ⟨z',hr,hc⟩:=hz.run w
 simp [execOp,Instr.buildSlice,run_underlying hu,hs.run,Instr.fill,newRow,hF.ev hx,hF.ev hy,hF.ev hx',hcu,hcv,hcu',hr,hc,Array.setIfInBounds,show Array.range 3 = #[0,1,2] from by decide]
end
section
variable {P : Program} {n : Nat} {B : World} {H0 H : HP} {us : List (Nat × Value)} {L : List SA} {t : TypeId}
theorem PR.buildN {ty:TypeId} {parts:Array (Nat × Operand)} {vs cs:List Value} (hx:(parts.toList.map Prod.snd).map (opv us)=vs.map some) (hb : ∀w,(Instr.build ty ((parts.toList.map Prod.fst).zip vs).toArray).run P w = .ok (.agg cs.toArray) w):PR P n B H0 us H L (.build ty parts) t (.agg cs.toArray):=
 fun _ _ _ _ a w hF _=>by
  have h2 : ∀(xs:List (Nat × Operand)) (ws:List Value),(xs.map Prod.snd).map (opv us)=ws.map some→xs.map (fun q=>(q.1,a.eval q.2))=(xs.map Prod.fst).zip ws:=by
   intro xs
   induction xs with
   | nil=>intro ws h;rfl
   | cons x xs ih=>
    intro ws h
    cases ws with
    | nil=>simp at h
    | cons v ws=>
     simp only [List.map_cons,List.cons.injEq] at h
     simp only [List.map_cons,List.zip_cons_cons,hF.ev h.1,ih ws h.2]
  have h3:parts.map (fun q=>(q.1,a.eval q.2))=((parts.toList.map Prod.fst).zip vs).toArray:=by
   apply Array.toList_inj.1
   rw [Array.toList_map,h2 _ _ hx]
  have h4:=hb w
  rw [← h3] at h4
  simp [execOp,h4]
end
theorem forms_three {H:HP} {g:Nat} {qx qy qz:Option Addr} {cx cy cz:Nat} {x y z:List Term} (h0:cellO H (some ⟨g,0,none⟩) 0=some (.slice qx x.length cx)) (h1:cellO H (some ⟨g,0,none⟩) 1=some (.slice qy y.length cy)) (h2:cellO H (some ⟨g,0,none⟩) 2=some (.slice qz z.length cz)) (hcx:x.length≤cx) (hcy:y.length≤cy) (hcz:z.length≤cz) (hx:Terms H qx x) (hy:Terms H qy y) (hz:Terms H qz z):Forms H (some ⟨g,0,none⟩) [x,y,z]
 | 0,_=>⟨qx,cx,h0,hcx,hx⟩
 | 1,_=>⟨qy,cy,h1,hcy,hy⟩
 | 2,_=>⟨qz,cz,h2,hcz,hz⟩
 | i+3,h=>absurd h (by simp)
theorem all_three {P:List Term→Prop} {x y z:List Term} (hx:P x) (hy:P y) (hz:P z) : ∀i,i<3→P (fm [x,y,z] i)
 | 0,_=>hx
 | 1,_=>hy
 | 2,_=>hz
 | i+3,h=>absurd h (by omega)
def trB (ds:List Int) (fs:List (List Term)) (ts:List Term):Bool:=homog ds ts && (decide (0≤degF ds ts) && decide ((dS ds fs (toS ts)).length=0))
def trD (ds:List Int) (x y z:List Term):Int:=degF ds x+degF ds y+degF ds z
def trC (ds:List Int) (fs:List (List Term)) (x y z:List Term):Int:=
 if isAlg ds fs && (isForm ds x && (isForm ds y && isForm ds z)) then if trB ds fs x && (trB ds fs y && trB ds fs z) then if trD ds x y z - 1>14 then 2 else if wiB ds 0 (trD ds x y z - 1+1) then 0 else 3 else 5 else 1
def dgK (ds:List Int) (fs:List (List Term)) (k:Nat):List Int:=(fs.take k).map (degF ds)
theorem dgK_len (ds:List Int) (fs:List (List Term)) (k:Nat):(dgK ds fs k).length≤fs.length:=by
 unfold dgK;rw [List.length_map,List.length_take]
 omega
theorem dgK_succ {ds:List Int} {fs:List (List Term)} {k:Nat} (hk:k<fs.length):dgK ds fs (k+1)=dgK ds fs k++[degF ds (fm fs k)]:=by
 unfold dgK;rw [List.take_succ_eq_append_getElem hk,List.map_append]
 simp [fm,List.getD_eq_getElem?_getD,List.getElem?_eq_getElem hk]
section
variable {ds : List Int} {fs : List (List Term)} {x y z ts : List Term}
theorem trF_n : ∀{i:Nat},i<3→isForm ds (fm [x,y,z] i)=false→(isForm ds x && (isForm ds y && isForm ds z))=false
 | 0,_,h=>by rw [show isForm ds x=false from h];rfl
 | 1,_,h=>by rw [show isForm ds y=false from h];simp
 | 2,_,h=>by rw [show isForm ds z=false from h];simp
 | i+3,h,_=>absurd h (by omega)
theorem trB_n : ∀{i:Nat},i<3→trB ds fs (fm [x,y,z] i)=false→(trB ds fs x && (trB ds fs y && trB ds fs z))=false
 | 0,_,h=>by rw [show trB ds fs x=false from h];rfl
 | 1,_,h=>by rw [show trB ds fs y=false from h];simp
 | 2,_,h=>by rw [show trB ds fs z=false from h];simp
 | i+3,h,_=>absurd h (by omega)
theorem trF_y (h : ∀i,i<3→isForm ds (fm [x,y,z] i)=true):(isForm ds x && (isForm ds y && isForm ds z))=true:=by
 rw [show isForm ds x=true from h 0 (by omega),show isForm ds y=true from h 1 (by omega),show isForm ds z=true from h 2 (by omega)]
 rfl
theorem trB_y (h : ∀i,i<3→trB ds fs (fm [x,y,z] i)=true):(trB ds fs x && (trB ds fs y && trB ds fs z))=true:=by
 rw [show trB ds fs x=true from h 0 (by omega),show trB ds fs y=true from h 1 (by omega),show trB ds fs z=true from h 2 (by omega)]
 rfl
theorem trC_1 (h:isAlg ds fs=false):trC ds fs x y z=1:=by unfold trC;rw [h];rfl
theorem trC_1f (h:(isForm ds x && (isForm ds y && isForm ds z))=false):trC ds fs x y z=1:=by unfold trC;rw [h,Bool.and_false];rfl
theorem trC_5 (hG:isAlg ds fs=true) (hF:(isForm ds x && (isForm ds y && isForm ds z))=true) (h:(trB ds fs x && (trB ds fs y && trB ds fs z))=false):trC ds fs x y z=5:=by unfold trC;rw [hG,hF,h];rfl
theorem trC_r (hG:isAlg ds fs=true) (hF:(isForm ds x && (isForm ds y && isForm ds z))=true) (h:(trB ds fs x && (trB ds fs y && trB ds fs z))=true):trC ds fs x y z=if trD ds x y z - 1>14 then 2 else if wiB ds 0 (trD ds x y z - 1+1) then 0 else 3:=by unfold trC;rw [hG,hF,h];rfl
theorem trB_1 (h:(!homog ds ts)=true):trB ds fs ts=false:=by unfold trB;rw [not_f h];rfl
theorem trB_2 (h:degF ds ts<0):trB ds fs ts=false:=by unfold trB;rw [decide_eq_false (show ¬0≤degF ds ts by omega)];simp
theorem trB_3 (h:0<(dS ds fs (toS ts)).length):trB ds fs ts=false:=by unfold trB;rw [decide_eq_false (show ¬(dS ds fs (toS ts)).length=0 by omega)];simp
theorem trB_4 (h1:(!homog ds ts)=false) (h2 : ¬degF ds ts<0) (h3 : ¬0<(dS ds fs (toS ts)).length):trB ds fs ts=true:=by
 unfold trB;rw [not_t h1,decide_eq_true (show 0≤degF ds ts by omega),decide_eq_true (show (dS ds fs (toS ts)).length=0 by omega)]
 rfl
theorem trC_z (h:trC ds fs x y z=0):isAlg ds fs=true∧(isForm ds x && (isForm ds y && isForm ds z))=true∧(trB ds fs x && (trB ds fs y && trB ds fs z))=true∧trD ds x y z≤15∧wiB ds 0 (trD ds x y z)=true:=by
 cases hG:isAlg ds fs with
 | false=>rw [trC_1 hG] at h;cases h
 | true=>
  cases hF:(isForm ds x && (isForm ds y && isForm ds z)) with
  | false=>rw [trC_1f hF] at h;cases h
  | true=>
   cases hB:(trB ds fs x && (trB ds fs y && trB ds fs z)) with
   | false=>rw [trC_5 hG hF hB] at h;cases h
   | true=>
    rw [trC_r hG hF hB,Int.sub_add_cancel] at h
    split at h
    ·cases h
    ·rename_i h1
     cases hw:wiB ds 0 (trD ds x y z) with
     | false=>rw [hw] at h;cases h
     | true=>exact ⟨rfl,rfl,rfl,by omega,rfl⟩
theorem degF_le (hA:AlgOk ds fs) (hw:Wfs ts):degF ds ts≤24480:=by
 unfold degF
 split
 ·unfold outAt
  split
  ·omega
  ·rename_i h0
   exact (wd_bd hA.hn hA.hd (Wfs.at hw (i:=0) (by omega)).mono).2
 ·omega
theorem tri_ok (hwf:Wfss fs) (hx:Wfs x) (hy:Wfs y) (hz:Wfs z) (h:trC ds fs x y z=0):TriOk ds (toS x) (toS y) (toS z) (degF ds x) (degF ds y) (degF ds z):=by
 obtain ⟨hG,hF,hB,h15,hwi⟩:=trC_z h;have hA:=isAlg_ok hG hwf;have hd:=alg_112 hG;simp only [Bool.and_eq_true] at hF hB;obtain ⟨f1,f2,f3⟩:=hF;obtain ⟨b1,b2,b3⟩:=hB;unfold trB at b1 b2 b3;simp only [Bool.and_eq_true,decide_eq_true_eq] at b1 b2 b3;unfold trD at h15 hwi;have hfit : ∀k:Int,0≤k→k≤degF ds x+degF ds y+degF ds z→fitB ds k=true:=fun k h0 h1=>wi_fit hwi (by omega) h1
 exact ⟨b1.2.1,b2.2.1,b3.2.1,h15,isForm_sok hx f1,isForm_sok hy f2,isForm_sok hz f3,
  form_mon hA hd hx f1 b1.1 rfl (by omega) (hfit _ (by omega) (by omega)),form_mon hA hd hy f2 b2.1 rfl (by omega) (hfit _ (by omega) (by omega)),form_mon hA hd hz f3 b3.1 rfl (by omega) (hfit _ (by omega) (by omega)),hfit⟩
end
theorem l07Degrees_c {B:World} {H0 H:HP} {L:List SA} {w:World} {qad qaf:Option Addr} {cad caf:Nat} {ad:List Int} {af:List (List Term)} {qx:Option Addr} {cx:Nat} {x:List Term} {qy:Option Addr} {cy:Nat} {y:List Term} {qz:Option Addr} {cz:Nat} {z:List Term} (had:Ints H qad ad) (haf:Forms H qaf af) (hx:Terms H qx x) (hy:Terms H qy y) (hz:Terms H qz z) (hn8:ad.length≤1048576) (hn9:af.length≤1048576) (hl9 : ∀i,i<af.length→(fm af i).length≤1048576) (hlx:x.length≤9223372036854775807) (hly:y.length≤9223372036854775807) (hlz:z.length≤9223372036854775807) (hcx:x.length≤cx) (hcy:y.length≤cy) (hcz:z.length≤cz) (hH:Hp B H0 H L w):Calls Tryz.prog 47 [.agg [.slice qad ad.length cad,.slice qaf af.length caf].toArray,.agg [.slice qx x.length cx].toArray,.agg [.slice qy y.length cy].toArray,.agg [.slice qz z.length cz].toArray].toArray w fun e w'=>∃P Q R,(trC ad af x y z=0→P=degF ad x∧Q=degF ad y∧R=degF ad z)∧e = .returned (.tuple #[.agg [.slice qx x.length cx,.slice qy y.length cy,.slice qz z.length cz,.int .i64 P,.int .i64 Q,.int .i64 R,.slice none 0 0,.slice none 0 0].toArray,.int .i64 (trC ad af x y z)])∧Hp B H0 H L w':=by
 refine Jx Tryz.func47 rfl 113 rfl rfl [(0,.agg [.slice qad ad.length cad,.slice qaf af.length caf].toArray),(1,.agg [.slice qx x.length cx].toArray),(2,.agg [.slice qy y.length cy].toArray),(3,.agg [.slice qz z.length cz].toArray)] rfl hH ?_;have hw0:=hH.old;have hw1:=hH.le;clear hH;refine Je fun _ hK1 _=>(Jb (JW rfl rfl rfl fun g4=>(JW rfl rfl rfl fun g5=>(JW rfl rfl rfl fun g6=>(JW rfl rfl rfl fun g7=>(JP ze56 rfl fun g8=>(Jg (Jd rfl) rfl (Jf (Ja (hK1 (Je fun _ hK2 _=>(Ea (Rs:=[_,_,_,_,_]) 13 [[], [], [], [0,1,2], [], [], [], [4,5,6], [], [], [0,1,2,3,9], [0,1,2,3,4,5,6,7,9,10], [0,1,2,3,4,5,6,7,8,9,10,11]] [[16], [15], [14], [], [16], [15], [14], [], [], [], [], [], []] [[], [], [], [], [], [], [], [], [], [], [9], [], []] rfl rfl (by kernel_rfl) ?_))))))))))));apply Ji 1 rfl rfl rfl
 ·intros;conv=>lhs;simp only [Jh,reduceEqDiff,reduceAdd]
 ·exact Jm rfl At.z (by simpa [*] using ag40)
 apply Ji 2 rfl rfl rfl
 ·intros;conv=>lhs;simp only [Jh,reduceEqDiff,reduceAdd]
 ·exact Jm rfl At.z (by simpa [*] using ag40)
 apply Ji 3 rfl rfl rfl
 ·intros;conv=>lhs;simp only [Jh,reduceEqDiff,reduceAdd]
 ·exact Jm rfl At.z (by simpa [*] using ag40)
 apply Ji 4 rfl rfl rfl
 ·intros;conv=>lhs;simp only [Jh,reduceEqDiff,reduceAdd]
 ·exact PR.buildN (vs:=[_,_,_]) rfl (fun w=>bd56_0_1_2 _ _ _ _ _ _ _ _ _ w)
 apply Ji 5 rfl rfl rfl
 ·intros;conv=>lhs;simp only [Jh,reduceEqDiff,reduceAdd]
 ·exact Jm rfl At.z (by simpa [*] using ag40)
 apply Ji 6 rfl rfl rfl
 ·intros;conv=>lhs;simp only [Jh,reduceEqDiff,reduceAdd]
 ·exact Jm rfl At.z (by simpa [*] using ag40)
 apply Ji 7 rfl rfl rfl
 ·intros;conv=>lhs;simp only [Jh,reduceEqDiff,reduceAdd]
 ·exact Jm rfl At.z (by simpa [*] using ag40)
 apply JR 8 rfl
 ·intros;conv=>lhs;simp only [Jh,reduceEqDiff,reduceAdd]
 ·
  intro gh X K zq zc zq2 zc2 zb zv hK;refine J.lit3A u34 ze40 sz40 rfl rfl rfl rfl rfl rfl rfl fun g25=>(Jy ?_);exact hK zq zc zq2 zc2 g25 zv
 ·intro gh gh' h;refine ⟨?_,?_⟩ <;> rfl
 apply JR 9 rfl
 ·intros;conv=>lhs;simp only [Jh,reduceEqDiff,reduceAdd]
 ·
  intro gh X K zq zc zq2 zc2 zb zv hK;refine EI (MK.lit0I u22 sz2) rfl fun qo26 co26=>(Jy ?_);exact hK qo26 co26 zq2 zc2 zb zv
 ·intro gh gh' h;refine ⟨?_,?_⟩ <;> rfl
 apply JR 10 rfl
 ·intros;conv=>lhs;simp only [Jh,reduceEqDiff,reduceAdd]
 ·
  intro gh X K zq zc zq2 zc2 zb zv hK;refine JP ze56 rfl fun g10=>(Jy ?_);exact hK zq zc zq2 zc2 g10 zv
 ·intro gh gh' h;refine ⟨?_,?_⟩ <;> rfl
 apply EZ 11 rfl
 ·intros;conv=>lhs;simp only [Jh,reduceEqDiff,reduceAdd]
 ·
  intro gh X K hK;refine JB rfl rfl (by first | exact bytesC_one _ | exact intsC_one _ | exact Term.c_one _ | simp [Value.oneCell']) (by simpa [*] using sz56) (by simp [*]) At.z (Jy ?_);exact hK
 ·intro gh gh' h;first | simp only [h 9 rfl] | rfl
 apply Ef 12 rfl rfl rfl
 ·intros;conv=>lhs;simp only [Jh,reduceEqDiff,reduceAdd]
 ·exact Jd rfl
 ·intro gh gh' h;first | simp only [h 7 rfl,h 9 rfl] | rfl
 apply Ef 13 rfl rfl rfl
 ·intros;conv=>lhs;simp only [Jh,reduceEqDiff,reduceAdd]
 ·exact Jd rfl
 ·intro gh gh' h;first | simp only [h 7 rfl,h 8 rfl,h 9 rfl] | rfl
 apply JZ [0,1,2,3,4,5,6,7,8,9,10,11,12] [0,1,2,3,4,5,6,7,8,10,11,12,13,14,15,16,17] foll0 rfl rfl rfl (by rfl)
 iterate 2 focus (intros;(conv=>lhs;simp only [JU,Ej,Ka,El,Es,eq_self,reduceEqDiff,reduceIte,reduceSub,reduceAdd,JxA,JxB]);all_goals rfl)
 intro gh;generalize (gh 7).b=g25;generalize (gh 8).c=co26;generalize (gh 8).q=qo26;generalize (gh 9).b=g10;clear gh;refine EJ.freezeRow .z fun H25 hle25 hc25=>?_;replace had:=had.le hle25;replace haf:=haf.le hle25;replace hx:=hx.le hle25;replace hy:=hy.le hle25;replace hz:=hz.le hle25;have hF3:=forms_three (hc25 0 _ rfl) (hc25 1 _ rfl) (hc25 2 _ rfl) hcx hcy hcz hx hy hz;have hW3:Wfss [x,y,z]:=hF3.wfss;refine Ja (hK2 (Je fun _ hK3 _=>(Je fun _ hK4 _=>(Jb (Jg (Jm rfl (.s (.s (.s (.s (.s (.s .z)))))) (by simpa [*] using ag36)) rfl (Ju fn63 rfl rfl fun w hH=>(l02Is_c had haf (by omega) (by omega) hl9 hH).mono ?_))))));rintro _ w ⟨rfl,hH⟩;refine ⟨_,rfl,fun a hF=>JH hF hH ?_⟩;refine Jg (Em rfl) rfl (Jf (Ja (hK4 (Ei rfl (fun h29=>?_) (fun h29=>?_)))))
 ·
  refine Je fun _ hK5 _=>(Jb (Jg (Jm rfl (.s .z) (by simpa [*] using ag56)) rfl (JB rfl rfl (by first | exact bytesC_one _ | exact intsC_one _ | exact Term.c_one _ | simp [Value.oneCell']) (by simpa [*] using sz56) (by simp [*]) (.s (.s .z)) (Jg (Jd rfl) rfl (Jf (Ja (hK5 (Jt (Jk (Eg rfl (Res.agg rfl (.s (.s .z)) (by simpa [*] using ag56)) (Res.tmp rfl) fun w hH=>?_))))))))));replace hH:=hH.tail;replace hH:=hH.tail;replace hH:=hH.tail;replace hH:=hH.tail;replace hH:=hH.tail;replace hH:=hH.tail;replace hH:=hH.tail;have hc:=trC_1 (x:=x) (y:=y) (z:=z) (not_f h29);exact ⟨0,0,0,fun h=>(by rw [hc] at h;cases h),by rw [hc],hH.weaken hle25 hw0 hw1⟩
 ·
  have hG:isAlg ad af=true:=not_t h29;have hwf:=haf.wfss;have hA:=isAlg_ok hG hwf;have h8:=hA.hn;have hd:=alg_112 hG;have hpos9 : ∀j,j<ad.length→0≤ad.getD j 0:=fun j _=>(hA.hd j).1;have hl3 : ∀i,i<3→(fm [x,y,z] i).length≤9223372036854775807:=all_three (P:=fun ts=>ts.length≤9223372036854775807) hlx hly hlz;refine Jn (Ja (hK3 (Je fun _ hK6 _=>(Je fun _ hK7 _=>(Jb (Jg (Jd rfl) rfl (Jf (Ja (hK7 (Jp (JD (σ:=Nat) (fun (i:Nat)=>[(13,.int .i64 (i:Int))]) (fun (i:Nat)=>H25) (fun (i:Nat)=>own 2 1 qo26 ([]:List Int).length co26 (intsC [])::obj g10 (.cells [.slice qx x.length cx,.slice qy y.length cy,.slice qz z.length cz,.int .i64 0,.int .i64 0,.int .i64 0,.slice none 0 0,.slice none 0 0].toArray 56 (0,0))::obj g8 (.cells [.slice none 0 0,.slice none 0 0,.slice none 0 0,.int .i64 0,.int .i64 0,.int .i64 0,.slice none 0 0,.slice none 0 0].toArray 56 (0,0))::obj g7 (.cells [.slice qz z.length cz].toArray 40 (0,0))::obj g6 (.cells [.slice qy y.length cy].toArray 40 (0,0))::obj g5 (.cells [.slice qx x.length cx].toArray 40 (0,0))::obj g4 (.cells [.slice qad ad.length cad,.slice qaf af.length caf].toArray 36 (0,0))::L) (fun (i:Nat)=>i≤3∧∀j,j<i→isForm ad (fm [x,y,z] j)=true) (fun (i:Nat)=>3 - i) 0 ⟨by omega,fun j hj=>by omega⟩ ⟨rfl,trivial⟩ rfl rfl ?_)))))))))));rintro i ⟨hi,hI⟩ _ hAg0;refine Je fun _ hK8 _=>(Je fun _ hK9 _=>(Jb (Jg (Jc rfl) rfl (Jg (JJ rfl rfl) rfl (Jf (Ja (hK9 (Jq rfl (fun h32=>?_) (fun h32=>?_)))))))))
  ·
   have hi1:i<3:=by omega
   have hl3i:=hl3 i hi1;refine Jn (Ja (hK8 (Je fun _ hK10 _=>(Jp (Je fun _ hK11 _=>(Er [[], [0], [], [], [2,3], [4]] (by kernel_rfl) (JA (fun gh=>Jl u36 rfl sz22 rfl) (JA (fun gh=>Js rfl (.s (.s (.s (.s (.s (.s .z)))))) rfl pl22) (JA (fun gh=>Jc rfl) (JA (fun gh=>Jc rfl) (JA (fun gh=>JL u34 sz40 rfl rfl rfl hi1 hF3.sm) ?_)))))))))));obtain ⟨qe40,ce40,he40,le40,Fe40⟩:=hF3 i hi1;refine JA (fun gh=>JM (cs:=[_]) rfl (one_cell he40) (hF3.sm (i:=i) hi1) ag40) (Ec 6 1 foll0 (by kernel_rfl) rfl rfl fun gh=>(En (us':=(35,_)::(36,_)::(37,_)::(38,_)::(39,_)::(40,_)::_) (L':=_) rfl rfl (Ju fn91 rfl rfl fun w hH=>(l01Is_c had Fe40 (by omega) hpos9 hl3i hH).mono ?_)));rintro _ w ⟨rfl,hH⟩;refine ⟨_,rfl,fun a hF=>JH hF hH ?_⟩;refine Jf (Eb (JC (Em rfl) rfl (Ed (Ja (hK11 (Ei rfl (fun h42=>?_) (fun h42=>?_)))))))
   ·
    refine Je fun _ hK12 _=>(Jb (Jg (Jm rfl (.s .z) (by simpa [*] using ag56)) rfl (JB rfl rfl (by first | exact bytesC_one _ | exact intsC_one _ | exact Term.c_one _ | simp [Value.oneCell']) (by simpa [*] using sz56) (by simp [*]) (.s (.s .z)) (Jg (Jd rfl) rfl (Jf (Ja (hK12 (Jt (JO (Jk (Jk (JO (Jk (Eg rfl (Res.agg rfl (.s (.s .z)) (by simpa [*] using ag56)) (Res.tmp rfl) fun w hH=>?_))))))))))))));replace hH:=hH.tail;replace hH:=hH.tail;replace hH:=hH.tail;replace hH:=hH.tail;replace hH:=hH.tail;replace hH:=hH.tail;replace hH:=hH.tail;have hc:=trC_1f (fs:=af) (trF_n hi1 (not_f h42));exact ⟨0,0,0,fun h=>(by rw [hc] at h;cases h),by rw [hc],hH.weaken hle25 hw0 hw1⟩
   ·
    have hfi:isForm ad (fm [x,y,z] i)=true:=not_t h42;refine Jn (JF (Ja (hK10 (Jb (Jg (Jc rfl) rfl (Jg (Jz rfl rfl (by first | exact nw _ (by omega) | rfl)) rfl (Jg (Jd rfl) rfl (Jf (Ja ?_)))))))))
    exact hAg0 (i+1) ⟨by omega,fun j hj=>by
     rcases Nat.lt_or_ge j i with h | h
     ·exact hI j h
     ·rw [show j=i by omega];exact hfi⟩ (by show 3 - (i+1)<3 - i;omega) 14 rfl rfl ⟨rfl,trivial⟩ rfl rfl
  ·
   obtain rfl:i=3:=by omega
   have hFF:=trF_y hI;refine JG (Jj (Jj (JK (Ja (hK6 (Je fun _ hK13 _=>(Je fun _ hK14 _=>(Jb (Jg (Jd rfl) rfl (Jf (Ja (hK14 (Jp (JD (σ:=Nat × Option Addr × Nat) (fun ⟨i,q,c⟩=>[(14,.int .i64 (i:Int)),(12,.slice q (dgK ad [x,y,z] i).length c)]) (fun ⟨i,q,c⟩=>H25) (fun ⟨i,q,c⟩=>own 2 1 q (dgK ad [x,y,z] i).length c (intsC (dgK ad [x,y,z] i))::obj g10 (.cells [.slice qx x.length cx,.slice qy y.length cy,.slice qz z.length cz,.int .i64 0,.int .i64 0,.int .i64 0,.slice none 0 0,.slice none 0 0].toArray 56 (0,0))::obj g8 (.cells [.slice none 0 0,.slice none 0 0,.slice none 0 0,.int .i64 0,.int .i64 0,.int .i64 0,.slice none 0 0,.slice none 0 0].toArray 56 (0,0))::obj g7 (.cells [.slice qz z.length cz].toArray 40 (0,0))::obj g6 (.cells [.slice qy y.length cy].toArray 40 (0,0))::obj g5 (.cells [.slice qx x.length cx].toArray 40 (0,0))::obj g4 (.cells [.slice qad ad.length cad,.slice qaf af.length caf].toArray 36 (0,0))::L) (fun ⟨i,q,c⟩=>i≤3∧∀j,j<i→trB ad af (fm [x,y,z] j)=true) (fun ⟨i,q,c⟩=>3 - i) (0,qo26,co26) ⟨by omega,fun j hj=>by omega⟩ ⟨rfl,⟨rfl,trivial⟩⟩ rfl rfl ?_))))))))))))));rintro ⟨i,q,c⟩ ⟨hi2,hJ⟩ _ hAg1;refine Je fun _ hK15 _=>(Je fun _ hK16 _=>(Jb (Jg (Jc rfl) rfl (Jg (JJ rfl rfl) rfl (Jf (Ja (hK16 (Jq rfl (fun h45=>?_) (fun h45=>?_)))))))))
   ·
    have hi3:i<3:=by omega
    have hl3i:=hl3 i hi3;have hFo:=hI i hi3;have hwi:=hW3.fm i;have hF4:=isForm_len4 hFo;have hFs9:=isForm_sok hwi hFo;have hFk:=isForm_kex hA.hd hA.hn hwi hFo;have hdl9:(dgK ad [x,y,z] i).length≤3:=dgK_len ad [x,y,z] i;have hocc:=Ex.occ hFk hA.hl;have hdl:=dS_len (ds:=ad) hA.len hocc;have hds:=dS_sok (ds:=ad) hFs9 hA.fok hocc;refine Jn (Ja (hK15 (Je fun _ hK17 _=>(Jp (Je fun _ hK18 _=>(Er [[], [0], [], [], [2,3], [4]] (by kernel_rfl) (JA (fun gh=>Jl u36 rfl sz22 rfl) (JA (fun gh=>Js rfl (.s (.s (.s (.s (.s (.s .z)))))) rfl pl22) (JA (fun gh=>Jc rfl) (JA (fun gh=>Jc rfl) (JA (fun gh=>JL u34 sz40 rfl rfl rfl hi3 hF3.sm) ?_)))))))))));obtain ⟨qe54,ce54,he54,le54,Fe54⟩:=hF3 i hi3;refine JA (fun gh=>JM (cs:=[_]) rfl (one_cell he54) (hF3.sm (i:=i) hi3) ag40) (Ec 6 1 foll0 (by kernel_rfl) rfl rfl fun gh=>(En (us':=(49,_)::(50,_)::(51,_)::(52,_)::(53,_)::(54,_)::_) (L':=_) rfl rfl (Ju fn92 rfl rfl fun w hH=>(l01Degree_c had Fe54 hA.hn hA.hd hl3i hH).mono ?_)));rintro _ w ⟨rfl,hH⟩;refine ⟨_,rfl,fun a hF=>JH hF hH ?_⟩;refine Jf (Eb (JC (Jc rfl) rfl (JC (JI rfl rfl) rfl (JC (JI rfl rfl) rfl (JC (Jd rfl) rfl (JC (Jd rfl) rfl (Ed (Ja (hK18 (Je fun _ hK19 _=>(Je fun _ hK20 _=>(Er [[], [0], [1], [2], [3,2], [2,4], [5], [6], [6], [6], [8,9,6], [10,6]] (by kernel_rfl) (JA (fun gh=>Jc rfl) (JA (fun gh=>Em rfl) (JA (fun gh=>Jc rfl) ?_)))))))))))))));refine EV 2 rfl (fun h60=>?_) (fun h60=>?_)
    ·
     try have h60p:=of_decide_eq_true h60
     refine Ee rfl (fun gh=>rfl) h60 (Ee rfl (fun gh=>rfl) h60 (JA (fun gh=>JY rfl h60 rfl) (JA (fun gh=>Jc rfl) (Ee rfl (fun gh=>rfl) rfl (Ee rfl (fun gh=>rfl) rfl (Ee rfl (fun gh=>rfl) rfl (Ee rfl (fun gh=>rfl) rfl (Ee rfl (fun gh=>rfl) rfl (Ec 12 1 foll0 (by kernel_rfl) rfl rfl fun gh=>(En (us':=(58,_)::(59,_)::(60,_)::(61,_)::(62,_)::(63,_)::(64,_)::(65,_)::(66,_)::(67,_)::(68,_)::(69,_)::_) (L':=_) rfl rfl (JQ rfl rfl rfl rfl (Jf (Eb (JS.gn rfl rfl rfl rfl ?_))))))))))))));refine JS.gn rfl rfl rfl rfl (JS.gn rfl rfl rfl rfl (JC (JY rfl rfl rfl) rfl (Ed (Ja (hK20 (Ew rfl (Je fun _ hK21 _=>(Jb (Jg (Jm rfl (.s .z) (by simpa [*] using ag56)) rfl (JB rfl rfl (by first | exact bytesC_one _ | exact intsC_one _ | exact Term.c_one _ | simp [Value.oneCell']) (by simpa [*] using sz56) (by simp [*]) (.s (.s .z)) (Jg (Jd rfl) rfl (Jf (Ja (hK21 (Jt (Jk ?_))))))))))))))));refine JO (Jk (Jk (JO (Jk (Eg rfl (Res.agg rfl (.s (.s .z)) (by simpa [*] using ag56)) (Res.tmp rfl) fun w hH=>?_)))));replace hH:=hH.tail;replace hH:=hH.tail;replace hH:=hH.tail;replace hH:=hH.tail;replace hH:=hH.tail;replace hH:=hH.tail;replace hH:=hH.tail;have hc:=trC_5 hG hFF (trB_n hi3 (trB_1 h60));exact ⟨0,0,0,fun h=>(by rw [hc] at h;cases h),by rw [hc],hH.weaken hle25 hw0 hw1⟩
    ·
     try have h60p:=of_decide_eq_false h60
     refine Eh (fun gh=>Jc rfl) rfl (fun gh=>rfl) h60 (Eh (fun gh=>JJ rfl rfl) rfl (fun gh=>rfl) h60 (JA (fun gh=>JX rfl h60 rfl) (JA (fun gh=>Jc rfl) (EV 6 rfl (fun h64=>?_) (fun h64=>?_)))))
     ·
      try have h64p:=of_decide_eq_true h64
      refine Ee rfl (fun gh=>rfl) h64 (Ee rfl (fun gh=>rfl) h64 (Ee rfl (fun gh=>rfl) h64 (Ee rfl (fun gh=>rfl) h64 (Ee rfl (fun gh=>rfl) h64 (Ec 12 1 foll0 (by kernel_rfl) rfl rfl fun gh=>(En (us':=(58,_)::(59,_)::(60,_)::(61,_)::(62,_)::(63,_)::(64,_)::(65,_)::(66,_)::(67,_)::(68,_)::(69,_)::_) (L':=_) rfl rfl (JQ rfl rfl rfl h64 (Jf (Eb (JS.gn rfl rfl rfl h64 (JS.gn rfl rfl rfl h64 (JS.gn rfl rfl rfl h64 (JC (JY rfl h64 rfl) rfl (Ed ?_))))))))))))));refine Ja (hK20 (Ew rfl (Je fun _ hK22 _=>(Jb (Jg (Jm rfl (.s .z) (by simpa [*] using ag56)) rfl (JB rfl rfl (by first | exact bytesC_one _ | exact intsC_one _ | exact Term.c_one _ | simp [Value.oneCell']) (by simpa [*] using sz56) (by simp [*]) (.s (.s .z)) (Jg (Jd rfl) rfl (Jf (Ja (hK22 (Jt (Jk (JO (Jk (Jk (JO ?_))))))))))))))));refine Jk (Eg rfl (Res.agg rfl (.s (.s .z)) (by simpa [*] using ag56)) (Res.tmp rfl) fun w hH=>?_);replace hH:=hH.tail;replace hH:=hH.tail;replace hH:=hH.tail;replace hH:=hH.tail;replace hH:=hH.tail;replace hH:=hH.tail;replace hH:=hH.tail;have hc:=trC_5 hG hFF (trB_n hi3 (trB_2 h64p));exact ⟨0,0,0,fun h=>(by rw [hc] at h;cases h),by rw [hc],hH.weaken hle25 hw0 hw1⟩
     ·
      try have h64p:=of_decide_eq_false h64
      refine Eh (fun gh=>Jm rfl (.s (.s (.s (.s (.s (.s .z)))))) (by simpa [*] using ag36)) rfl (fun gh=>rfl) h64 (Eh (fun gh=>Jc rfl) rfl (fun gh=>rfl) h64 (Eh (fun gh=>Jc rfl) rfl (fun gh=>rfl) h64 (Eh (fun gh=>JL u34 sz40 rfl rfl rfl hi3 hF3.sm) rfl (fun gh=>rfl) h64 ?_)));obtain ⟨qe69,ce69,he69,le69,Fe69⟩:=hF3 i hi3;refine Eh (fun gh=>JM (cs:=[_]) rfl (one_cell he69) (hF3.sm (i:=i) hi3) ag40) rfl (fun gh=>rfl) h64 (Ec 12 1 foll0 (by kernel_rfl) rfl rfl fun gh=>(En (us':=(58,_)::(59,_)::(60,_)::(61,_)::(62,_)::(63,_)::(64,_)::(65,_)::(66,_)::(67,_)::(68,_)::(69,_)::_) (L':=_) rfl rfl (EW fn93 rfl rfl h64 rfl rfl fun w hH=>(l02D_c (Mi:=20) (Ms:=20) had haf Fe69 hA.hn hA.hd hA.fok hA.hl hA.kex hFs9 hFk (by omega) hA.len (by omega) hH).mono ?_)));rintro _ w ⟨qo70,co70,rfl,hH⟩;refine ⟨_,rfl,fun a hF=>JH hF hH ?_⟩;refine Jf (Eb (JS.gy (PR.fieldV u40 rfl pl38 rfl rfl) rfl rfl rfl h64 (JS.gy (Jo u38 rfl rfl) rfl rfl rfl h64 (JS.gy (EK rfl rfl) rfl rfl rfl h64 (JC (JX rfl h64 rfl) rfl (Ed (Ja (hK20 (Jq rfl (fun h74=>?_) (fun h74=>?_))))))))))
      ·
       refine Je fun _ hK23 _=>(Jb (Jg (Jm rfl (.s (.s .z)) (by simpa [*] using ag56)) rfl (JB rfl rfl (by first | exact bytesC_one _ | exact intsC_one _ | exact Term.c_one _ | simp [Value.oneCell']) (by simpa [*] using sz56) (by simp [*]) (.s (.s (.s .z))) (Jg (Jd rfl) rfl (Jf (Ja (hK23 (Jt (Jk (JO (Jk (Jk (JO (Jk (Eg rfl (Res.agg rfl (.s (.s (.s .z))) (by simpa [*] using ag56)) (Res.tmp rfl) fun w hH=>?_)))))))))))))));replace hH:=hH.tail;replace hH:=hH.tail;replace hH:=hH.tail;replace hH:=hH.tail;replace hH:=hH.tail;replace hH:=hH.tail;replace hH:=hH.tail;replace hH:=hH.tail;have hc:=trC_5 hG hFF (trB_n hi3 (trB_3 (by rw [ofS_len] at h74;omega)));exact ⟨0,0,0,fun h=>(by rw [hc] at h;cases h),by rw [hc],hH.weaken hle25 hw0 hw1⟩
      ·
       have htb:=trB_4 (fs:=af) h60 h64p (by rw [ofS_len] at h74;omega);refine Jn (Ja (hK19 (Jb (Jg (Jc rfl) rfl (Jg (Jc rfl) rfl (EI (MK.lit1I u22 ze2 sz2 rfl) rfl fun qo78 co78=>(J.appendOI u22 ze2 sz2 by2 rfl rfl (by simp only [List.length_cons,List.length_nil];omega) .z (.s .z) (fun _ _=>(.s .z)) rfl fun qo79 co79=>(Jg (Jd rfl) rfl (Jf (JF (Ja (hK17 (Jb (Jg (Jc rfl) rfl (Jg (Jz rfl rfl (by first | exact nw _ (by omega) | rfl)) rfl (Jg (Jd rfl) rfl ?_))))))))))))))));refine Jf (Ja (JN .z (JN .z ?_)))
       exact hAg1 (i+1,qo79,co79) ⟨by omega,fun j hj=>by
        rcases Nat.lt_or_ge j i with h | h
        ·exact hJ j h
        ·rw [show j=i by omega];exact htb⟩ (by show 3 - (i+1)<3 - i;omega) 41 rfl rfl ⟨rfl,⟨(by rw [dgK_succ hi3];rfl),trivial⟩⟩ rfl (by dsimp only;rw [dgK_succ hi3])
   ·
    obtain rfl:i=3:=by omega
    have hBB:=trB_y hJ;have hux:=degF_le (ts:=x) hA (hW3.fm 0);have huy:=degF_le (ts:=y) hA (hW3.fm 1);have huz:=degF_le (ts:=z) hA (hW3.fm 2);have hgx:=degF_ge (ts:=x) hA (hW3.fm 0);have hgy:=degF_ge (ts:=y) hA (hW3.fm 1);have hgz:=degF_ge (ts:=z) hA (hW3.fm 2);refine JG (Jj (Jj (JK (Ja (hK13 (Je fun _ hK24 _=>(Jb (Jg (Jc rfl) rfl (Jg (Eu (i':=0) u22 sz2 rfl rfl rfl (by show 0<3;omega) At.z) rfl (Jg (Ep (v':=.int .i64 (degF ad x)) rfl (ED rfl At.z (intsC_get (by show 0<3;omega)) pl2)) rfl (Jg (Jl u56 rfl sz2 rfl) rfl (Et rfl rfl rfl rfl sz2 (by simp [*]) (.s .z) (Jf (Ja (hK24 (Je fun _ hK25 _=>?_))))))))))))))));refine Jb (Jg (Jc rfl) rfl (Jg (Eu (i':=1) u22 sz2 rfl rfl rfl (by show 1<3;omega) At.z) rfl (Jg (Ep (v':=.int .i64 (degF ad y)) rfl (ED rfl At.z (intsC_get (by show 1<3;omega)) pl2)) rfl (Jg (Jl u56 rfl sz2 rfl) rfl (Et rfl rfl rfl rfl sz2 (by simp [*]) (.s .z) (Jf (Ja (hK25 (Je fun _ hK26 _=>(Jb (Jg (Jc rfl) rfl (Jg (Eu (i':=2) u22 sz2 rfl rfl rfl (by show 2<3;omega) At.z) rfl (Jg (Ep (v':=.int .i64 (degF ad z)) rfl (ED rfl At.z (intsC_get (by show 2<3;omega)) pl2)) rfl (Jg (Jl u56 rfl sz2 rfl) rfl (Et rfl rfl rfl rfl sz2 (by simp [*]) (.s .z) ?_)))))))))))))));refine Jf (Ja (hK26 (Je fun _ hK27 _=>(Jb (Jg (Jl u56 rfl sz2 rfl) rfl (Jg (Js rfl (.s .z) rfl pl2) rfl (Jg (Jl u56 rfl sz2 rfl) rfl (Jg (Js rfl (.s .z) rfl pl2) rfl (Jg (Jz rfl rfl (by first | exact nw _ (by omega) | rfl)) rfl (Jg (Jl u56 rfl sz2 rfl) rfl (Jg (Js rfl (.s .z) rfl pl2) rfl (Jg (Jz rfl rfl (by first | exact nw _ (by omega) | rfl)) rfl (Jg (EH rfl rfl (by first | exact nw _ (by omega) | rfl)) rfl (Jg (Jd rfl) rfl (Jf ?_)))))))))))))));refine Ja (hK27 (Je fun _ hK28 _=>(Jp (Je fun _ hK29 _=>(Jb (Jg (Jc rfl) rfl (Jg (EK rfl rfl) rfl (Jg (Jd rfl) rfl (Jf (Ja (hK29 (Jq rfl (fun h101=>?_) (fun h101=>?_)))))))))))))
    ·
     refine Je fun _ hK30 _=>(Jb (Jg (Jm rfl (.s .z) (by simpa [*] using ag56)) rfl (JB rfl rfl (by first | exact bytesC_one _ | exact intsC_one _ | exact Term.c_one _ | simp [Value.oneCell']) (by simpa [*] using sz56) (by simp [*]) (.s (.s .z)) (Jg (Jd rfl) rfl (Jf (Ja (hK30 (Jt (JO (Jk (Eg rfl (Res.agg rfl (.s (.s .z)) (by simpa [*] using ag56)) (Res.tmp rfl) fun w hH=>?_)))))))))));replace hH:=hH.tail;replace hH:=hH.tail;replace hH:=hH.tail;replace hH:=hH.tail;replace hH:=hH.tail;replace hH:=hH.tail;replace hH:=hH.tail;have hc:trC ad af x y z=2:=(trC_r hG hFF hBB).trans (if_pos h101);exact ⟨_,_,_,fun h=>(by rw [hc] at h;cases h),by rw [hc];rfl,hH.weaken hle25 hw0 hw1⟩
    ·
     refine Je fun _ hK31 _=>(Jb (Jg (Jm rfl (.s (.s (.s (.s (.s (.s .z)))))) (by simpa [*] using ag36)) rfl (Jg (Jc rfl) rfl (Jg (Jz rfl rfl (by first | exact nw _ (by omega) | rfl)) rfl (Ju fn65 rfl rfl fun w hH=>(l03Within_c had haf hd h8 (by omega) (by omega) hH).mono ?_)))));rintro _ w ⟨rfl,hH⟩;refine ⟨_,rfl,fun a hF=>JH hF hH ?_⟩;refine Jg (Em rfl) rfl (Jg (Jd rfl) rfl (Jf (Ja (hK31 (Ei rfl (fun h105=>?_) (fun h105=>?_))))))
     ·
      refine Je fun _ hK32 _=>(Jb (Jg (Jm rfl (.s .z) (by simpa [*] using ag56)) rfl (JB rfl rfl (by first | exact bytesC_one _ | exact intsC_one _ | exact Term.c_one _ | simp [Value.oneCell']) (by simpa [*] using sz56) (by simp [*]) (.s (.s .z)) (Jg (Jd rfl) rfl (Jf (Ja (hK32 (Jt (JO (Jk (Eg rfl (Res.agg rfl (.s (.s .z)) (by simpa [*] using ag56)) (Res.tmp rfl) fun w hH=>?_)))))))))));replace hH:=hH.tail;replace hH:=hH.tail;replace hH:=hH.tail;replace hH:=hH.tail;replace hH:=hH.tail;replace hH:=hH.tail;replace hH:=hH.tail;have hc:trC ad af x y z=3:=(trC_r hG hFF hBB).trans ((if_neg h101).trans (by rw [show wiB ad 0 (trD ad x y z - 1+1)=false from not_f h105];rfl));exact ⟨_,_,_,fun h=>(by rw [hc] at h;cases h),by rw [hc];rfl,hH.weaken hle25 hw0 hw1⟩
     ·
      refine Jn (JF (Ja (hK28 (Je fun _ hK33 _=>(Jb (Jg (Jm rfl (.s .z) (by simpa [*] using ag56)) rfl (JB rfl rfl (by first | exact bytesC_one _ | exact intsC_one _ | exact Term.c_one _ | simp [Value.oneCell']) (by simpa [*] using sz56) (by simp [*]) (.s (.s .z)) (Jg (Jd rfl) rfl (Jf (Ja (hK33 (Jt (Eg rfl (Res.agg rfl (.s (.s .z)) (by simpa [*] using ag56)) (Res.tmp rfl) fun w hH=>?_)))))))))))));replace hH:=hH.tail;replace hH:=hH.tail;replace hH:=hH.tail;replace hH:=hH.tail;replace hH:=hH.tail;replace hH:=hH.tail;replace hH:=hH.tail;have hc:trC ad af x y z=0:=(trC_r hG hFF hBB).trans ((if_neg h101).trans (by rw [show wiB ad 0 (trD ad x y z - 1+1)=true from not_t h105];rfl));exact ⟨_,_,_,fun _=>⟨rfl,rfl,rfl⟩,by rw [hc];rfl,hH.weaken hle25 hw0 hw1⟩
theorem fn38:Fn Tryz.prog 38:=⟨_,Tryz.func38,by kernel_rfl,rfl⟩
theorem fn50:Fn Tryz.prog 50:=⟨_,Tryz.func50,by kernel_rfl,rfl⟩
theorem redS_snoc (l:List (List Int)) (r:List Int):redS (l++[r])=putS (redS l) r:=by
 unfold redS;rw [List.foldl_append]
 rfl
def rwA (ds:List Int) (fs:List (List Term)) (n m:Int) (x:Sm) (k:Nat):List (List Int):=((csS ds fs m).take k).map fun r=>clV ds fs n ((monL ds n).map (cf (timesS ds x (sumR (monL ds m) r))))
def rwB (ds:List Int) (fs:List (List Term)) (n m:Int) (z:Sm) (k:Nat):List (List Int):=((csS ds fs m).take k).map fun r=>clV ds fs n ((monL ds n).map (cf (timesS ds (sumR (monL ds m) r) z)))
def rwX (ds:List Int) (fs:List (List Term)) (x:Sm) (p q r:Int):List (List Int):=if q+r>0 then rwA ds fs (p+q+r - 1) (q+r - 1) x (csS ds fs (q+r - 1)).length else []
def rwZ (ds:List Int) (fs:List (List Term)) (z:Sm) (p q r:Int):List (List Int):=if p+q>0 then rwB ds fs (p+q+r - 1) (p+q - 1) z (csS ds fs (p+q - 1)).length else []
def inS (ds:List Int) (fs:List (List Term)) (x z:Sm) (p q r:Int):List (List Int):=redS (rwX ds fs x p q r++rwZ ds fs z p q r)
section
variable {ds : List Int} {fs : List (List Term)} {n m p q r : Int} {x z : Sm} {k : Nat}
theorem rwA_succ (hk:k<(csS ds fs m).length):rwA ds fs n m x (k+1)=rwA ds fs n m x k++[clV ds fs n ((monL ds n).map (cf (timesS ds x (sumR (monL ds m) (rw_ (csS ds fs m) k)))))]:=by
 unfold rwA;rw [rw_take hk,List.map_append]
 rfl
theorem rwB_succ (hk:k<(csS ds fs m).length):rwB ds fs n m z (k+1)=rwB ds fs n m z k++[clV ds fs n ((monL ds n).map (cf (timesS ds (sumR (monL ds m) (rw_ (csS ds fs m) k)) z)))]:=by
 unfold rwB;rw [rw_take hk,List.map_append]
 rfl
theorem rwA_len (hk:k≤(csS ds fs m).length):(rwA ds fs n m x k).length=k:=by
 unfold rwA;rw [List.length_map,List.length_take_of_le hk]
theorem rwB_len (hk:k≤(csS ds fs m).length):(rwB ds fs n m z k).length=k:=by
 unfold rwB;rw [List.length_map,List.length_take_of_le hk]
theorem clV_row (hA:AlgOk ds fs) (h8:ds.length≤8) (hd : ∀j,j<ds.length→1≤ds.getD j 0∧ds.getD j 0≤12) {v:List Int} (hv:RowOk (monL ds n).length v):RowOk (csS ds fs n).length (clV ds fs n v):=⟨clV_len _ _ _ _,fun i=>by
 have hb:=byS_ok hv (bdS_red (n:=n) hA h8 hd).row
 by_cases hi:i<(csS ds fs n).length
 ·have e:(clV ds fs n v).getD i 0=(byS v (bdS ds fs n)).getD (ldR (rw_ (csS ds fs n) i)) 0:=by
   simp [clV,rw_,List.getD_eq_getElem?_getD,List.getElem?_eq_getElem hi]
  rw [e]
  exact hb.val _
 ·rw [getD_ge (by rw [clV_len];omega)]
  omega⟩
theorem rwA_row (hG:isAlg ds fs=true) (hw:Wfss fs) (hx:Sok 20 x) : ∀v∈rwA ds fs n m x k,RowOk (csS ds fs n).length v:=fun v hv=>by
 obtain ⟨r,hr,rfl⟩:=List.mem_map.1 hv
 have hA:=isAlg_ok hG hw
 exact clV_row hA hA.hn (alg_112 hG) (cfR_ok (hx.times (sumR_mon hA.hn (Nat.le_of_eq ((csS_red hA hA.hn (alg_112 hG)).row r (List.mem_of_mem_take hr)).len))))
theorem rwB_row (hG:isAlg ds fs=true) (hw:Wfss fs) (hz:Sok 20 z) : ∀v∈rwB ds fs n m z k,RowOk (csS ds fs n).length v:=fun v hv=>by
 obtain ⟨r,hr,rfl⟩:=List.mem_map.1 hv
 have hA:=isAlg_ok hG hw
 exact clV_row hA hA.hn (alg_112 hG) (cfR_ok ((sumR_mon hA.hn (Nat.le_of_eq ((csS_red hA hA.hn (alg_112 hG)).row r (List.mem_of_mem_take hr)).len)).times hz))
theorem rwX_row (hG:isAlg ds fs=true) (hw:Wfss fs) (hx:Sok 20 x) : ∀v∈rwX ds fs x p q r,RowOk (csS ds fs (p+q+r - 1)).length v:=fun v hv=>by
 unfold rwX at hv
 split at hv
 ·exact rwA_row hG hw hx v hv
 ·simp at hv
theorem rwX_y (h:q+r>0):rwX ds fs x p q r=rwA ds fs (p+q+r - 1) (q+r - 1) x (csS ds fs (q+r - 1)).length:=if_pos h
theorem rwX_n (h : ¬q+r>0):rwX ds fs x p q r=[]:=if_neg h
theorem rwZ_y (h:p+q>0):rwZ ds fs z p q r=rwB ds fs (p+q+r - 1) (p+q - 1) z (csS ds fs (p+q - 1)).length:=if_pos h
theorem rwZ_n (h : ¬p+q>0):rwZ ds fs z p q r=[]:=if_neg h
theorem app_row {W:Nat} {A B:List (List Int)} (hA : ∀v∈A,RowOk W v) (hB : ∀v∈B,RowOk W v) : ∀v∈A++B,RowOk W v:=fun v hv=>(List.mem_append.1 hv).elim (hA v) (hB v)
end
theorem Hp.putM {B:World} {H0 H:HP} {L:List SA} {w:World} {q q2:Option Addr} {c c2 W:Nat} {row:List Int} {rs:List (List Int)} (hrs:RowsR H q2 rs) (hR:Red W rs) (hw:RowOk W row) (hWn:W≤100000) (hcs:rs.length≤c2) (hH:Hp B H0 H (own 2 1 q row.length c (intsC row)::L) w) :
 Calls Tryz.prog 49 [.slice q2 rs.length c2,.slice q row.length c].toArray w fun e w'=>∃q c vs,e = .returned (.slice q (putS rs row).length c)∧Hp B H0 H (mlt (RwK q c (putS rs row)) H vs::L) w':=
 hH.lend .z fun H1 hle hA _ hH1=>(l03Put_c (crow:=c) (crs:=c2) (hrs.le hle) (own_ints hA) hR hw hWn (own_le hA) hcs hH1).mono fun e w' h=>by
  obtain ⟨H',q',c',hle',hI,hc,he,hH'⟩:=h
  obtain ⟨vs',h2⟩:=hH.melt (K:=RwK q' c' (putS rs row)) hH' (hle.trans hle') ⟨hI,hc⟩
  exact ⟨q',c',vs',he,h2⟩
theorem l07Rows_c {B:World} {H0 H:HP} {L:List SA} {w:World} {qad qaf:Option Addr} {cad caf:Nat} {ad:List Int} {af:List (List Term)} {qtx qty qtz qtu qtv:Option Addr} {ctx cty ctz mtu ctu mtv ctv:Nat} {tx ty tz:List Term} {tp tq tr:Int} (had:Ints H qad ad) (haf:Forms H qaf af) (htx:Terms H qtx tx) (hty:Terms H qty ty) (htz:Terms H qtz tz) (hG:isAlg ad af=true) (hT:TriOk ad (toS tx) (toS ty) (toS tz) tp tq tr) (hH:Hp B H0 H L w):Calls Tryz.prog 24 [.agg [.slice qad ad.length cad,.slice qaf af.length caf].toArray,.agg [.slice qtx tx.length ctx,.slice qty ty.length cty,.slice qtz tz.length ctz,.int .i64 tp,.int .i64 tq,.int .i64 tr,.slice qtu mtu ctu,.slice qtv mtv ctv].toArray].toArray w fun e w'=>∃H' q c,Le H H' ∧RowsR H' q ((inS ad af (toS tx) (toS tz) tp tq tr))∧((inS ad af (toS tx) (toS tz) tp tq tr)).length≤c∧e = .returned (.slice q ((inS ad af (toS tx) (toS tz) tp tq tr)).length c)∧Hp B H0 H' L w':=by
 refine Jx Tryz.func24 rfl 90 rfl rfl [(0,.agg [.slice qad ad.length cad,.slice qaf af.length caf].toArray),(1,.agg [.slice qtx tx.length ctx,.slice qty ty.length cty,.slice qtz tz.length ctz,.int .i64 tp,.int .i64 tq,.int .i64 tr,.slice qtu mtu ctu,.slice qtv mtv ctv].toArray)] rfl hH ?_;have hw0:=hH.old;have hw1:=hH.le;clear hH;have hwf:=haf.wfss;have hA:=isAlg_ok hG hwf;have h8:=hA.hn;have hd:=alg_112 hG;obtain ⟨hp0,hq0,hr0,hi15,hsx,hsy,hsz,hkx,hky,hkz,hfit⟩:=hT;have hlx:=len_mon hsx hkx;have hlz:=len_mon hsz hkz;rw [toS_len] at hlx hlz;have hkex:KEx ad (toS tx):=fun x hx=>monL_ex h8 hd _ (hkx x hx);have hkez:KEx ad (toS tz):=fun x hx=>monL_ex h8 hd _ (hkz x hx);have hcsn:=csS_len (n:=(tp+tq+tr - 1)) hA h8 hd;have hfit3 : ∀k:Int,0≤k→k+1≤tp+tq+tr→fit3 ad k:=fun k h0 h1=>⟨⟨hfit _ h0 (by omega),hfit _ (by omega) h1⟩,fun h2=>hfit _ (by omega) (by omega)⟩;refine Je fun _ hK1 _=>(Jb (JW rfl rfl rfl fun g2=>(JW rfl rfl rfl fun g3=>(Jg (Jd rfl) rfl (Jf (Ja (hK1 (Je fun _ hK2 _=>(Jb (Jg (Jl u56 rfl sz2 rfl) rfl (Jg (Js rfl At.z rfl pl2) rfl (Jg (Jl u56 rfl sz2 rfl) rfl (Jg (Js rfl At.z rfl pl2) rfl (Jg (Jz rfl rfl (by first | exact nw _ (by omega) | rfl)) rfl (Jg (Jl u56 rfl sz2 rfl) rfl ?_)))))))))))))));refine Jg (Js rfl At.z rfl pl2) rfl (Jg (Jz rfl rfl (by first | exact nw _ (by omega) | rfl)) rfl (Jg (EH rfl rfl (by first | exact nw _ (by omega) | rfl)) rfl (EI (EP u31 sz22) rfl fun qo20 co20=>?_)));have hnil:=SlF.nil H;refine Jg (Jd rfl) rfl (Jg (Jd rfl) rfl (Ev .z fun Ho20 hleo20 hAo20=>?_));replace had:=had.le hleo20;replace haf:=haf.le hleo20;replace htx:=htx.le hleo20;replace hty:=hty.le hleo20;replace htz:=htz.le hleo20;replace hnil:=hnil.le hleo20;have hxo20:=hnil.rows (Le.refl _) hAo20;have hco20:=own_le hAo20;refine Jf (Ja (hK2 (CJ.cutU (σ:=HP × Option Addr × Nat) (fun ⟨Hj,qj,cj⟩=>[(6,.slice qj (redS (rwX ad af (toS tx) tp tq tr)).length cj)]) (fun ⟨Hj,qj,cj⟩=>Hj) (fun ⟨Hj,qj,cj⟩=>obj g3 (.cells [.slice qtx tx.length ctx,.slice qty ty.length cty,.slice qtz tz.length ctz,.int .i64 tp,.int .i64 tq,.int .i64 tr,.slice qtu mtu ctu,.slice qtv mtv ctv].toArray 56 (0,0))::obj g2 (.cells [.slice qad ad.length cad,.slice qaf af.length caf].toArray 36 (0,0))::L) (fun ⟨Hj,qj,cj⟩=>Le Ho20 Hj∧RowsR Hj qj (redS (rwX ad af (toS tx) tp tq tr))∧(redS (rwX ad af (toS tx) tp tq tr)).length≤cj) ?_ ?_)))
 ·
  intro _ hMt1;refine Je fun _ hK3 _=>(Jb (Jg (Jl u56 rfl sz2 rfl) rfl (Jg (Js rfl At.z rfl pl2) rfl (Jg (Jl u56 rfl sz2 rfl) rfl (Jg (Js rfl At.z rfl pl2) rfl (Jg (Jz rfl rfl (by first | exact nw _ (by omega) | rfl)) rfl (Jg (EK rfl rfl) rfl (Jf (Ja (hK3 (Jq rfl (fun h26=>?_) (fun h26=>?_))))))))))))
  ·
   have hft:fit3 ad (tp+tq+tr - 1):=hfit3 _ (by omega) (by omega);have hfm:fit3 ad (tq+tr - 1):=hfit3 _ (by omega) (by omega);have hcm:=csS_red (n:=(tq+tr - 1)) hA h8 hd;have hcml:=csS_len (n:=(tq+tr - 1)) hA h8 hd;have hfrl:=fmR_len (monL ad (tq+tr - 1)) (csS ad af (tq+tr - 1))
   have hmn : ∀s:Sm,Sok 20 s→(∀x∈s,x.1∈monL ad (tq+tr - 1))→∀x∈timesS ad (toS tx) s,x.1∈monL ad (tp+tq+tr - 1):=fun s hs hk=>by
    have e:tp+(tq+tr - 1)=(tp+tq+tr - 1):=by omega
    have h9:=times_mon h8 hd hsx hs hkx hk (by rw [e];exact hft.1.1) (by omega)
    rwa [e] at h9
   refine Je fun _ hK4 _=>(Jb (Jg (Jm rfl (.s .z) (by simpa [*] using ag36)) rfl (Jg (Jl u56 rfl sz2 rfl) rfl (Jg (Js rfl At.z rfl pl2) rfl (Jg (Jl u56 rfl sz2 rfl) rfl (Jg (Js rfl At.z rfl pl2) rfl (Jg (Jz rfl rfl (by first | exact nw _ (by omega) | rfl)) rfl (Jg (EH rfl rfl (by first | exact nw _ (by omega) | rfl)) rfl (Ju fn38 rfl rfl fun w hH=>(l03ClassForms_c had haf hG (by omega) hfm hH).mono ?_)))))))));rintro _ w ⟨qo34,co34,vso34,rfl,hH⟩;refine ⟨_,rfl,fun a hF=>JH hF hH ?_⟩;refine Ev .z fun Ho34 hleo34 hAo34=>?_;replace had:=had.le hleo34;replace haf:=haf.le hleo34;replace htx:=htx.le hleo34;replace hty:=hty.le hleo34;replace htz:=htz.le hleo34;replace hnil:=hnil.le hleo34;replace hxo20:=hxo20.le hleo34;have hxo34:=(own_forms (fmR_wf (monL_mn h8) hcm.row) hAo34);have hco34:=own_le hAo34.1;refine Jg (Jd rfl) rfl (Jf (Ja (hK4 (Je fun _ hK5 _=>(Jb (Jg (Jd rfl) rfl (Jf (Ja (hK5 (Jp (JD (σ:=HP × Option Addr × Nat × Nat) (fun ⟨Hk,q,c,k⟩=>[(8,.int .i64 (k:Int)),(6,.slice q (redS (rwA ad af (tp+tq+tr - 1) (tq+tr - 1) (toS tx) k)).length c)]) (fun ⟨Hk,q,c,k⟩=>Hk) (fun ⟨Hk,q,c,k⟩=>obj g3 (.cells [.slice qtx tx.length ctx,.slice qty ty.length cty,.slice qtz tz.length ctz,.int .i64 tp,.int .i64 tq,.int .i64 tr,.slice qtu mtu ctu,.slice qtv mtv ctv].toArray 56 (0,0))::obj g2 (.cells [.slice qad ad.length cad,.slice qaf af.length caf].toArray 36 (0,0))::L) (fun ⟨Hk,q,c,k⟩=>Le Ho34 Hk∧RowsR Hk q (redS (rwA ad af (tp+tq+tr - 1) (tq+tr - 1) (toS tx) k))∧(redS (rwA ad af (tp+tq+tr - 1) (tq+tr - 1) (toS tx) k)).length≤c∧k≤(csS ad af (tq+tr - 1)).length) (fun ⟨Hk,q,c,k⟩=>(csS ad af (tq+tr - 1)).length - k) (Ho34,qo20,co20,0) ⟨Le.refl _,hxo20,hco20,by omega⟩ ⟨rfl,⟨rfl,trivial⟩⟩ rfl rfl ?_)))))))))));rintro ⟨Hk,q,c,k⟩ ⟨hlk,hS,hSc,hk⟩ _ hAg0;replace had:=had.le hlk;replace haf:=haf.le hlk;replace htx:=htx.le hlk;replace hty:=hty.le hlk;replace htz:=htz.le hlk;replace hnil:=hnil.le hlk;replace hxo20:=hxo20.le hlk;replace hxo34:=hxo34.le hlk;have hRk:Red (csS ad af (tp+tq+tr - 1)).length (redS (rwA ad af (tp+tq+tr - 1) (tq+tr - 1) (toS tx) k)):=(redS_ok (rwA_row hG hwf hsx)).1;have hRc:=hRk.count;refine Je fun _ hK6 _=>(Je fun _ hK7 _=>(Jb (Jg (Jc rfl) rfl (Jg (Jc rfl) rfl (Jg (Jo u34 rfl rfl) rfl (Jg (JJ rfl rfl) rfl (Jf (Ja (hK7 (Jq rfl (fun h38=>?_) (fun h38=>?_)))))))))))
   ·
    have hk1:k<(csS ad af (tq+tr - 1)).length:=by omega
    have hi2:k<(fmR (monL ad (tq+tr - 1)) (csS ad af (tq+tr - 1))).length:=by omega
    have hfb:=cf_fm (n:=(tq+tr - 1)) (i:=(k:Int)) hA h8 hd (by omega);have hlb:=cf_len (ds:=ad) (fs:=af) (n:=(tq+tr - 1)) (i:=(k:Int)) (by omega);obtain ⟨hs2,hk2m⟩:=cfM_ok (n:=(tq+tr - 1)) (i:=(k:Int)) hA h8 hd (by omega);unfold cfM at hs2 hk2m hfb;simp only [Int.toNat_natCast] at hfb hlb hs2 hk2m;have hmul:tx.length * (fm (fmR (monL ad (tq+tr - 1)) (csS ad af (tq+tr - 1))) k).length≤121 * 121:=Nat.mul_le_mul hlx hlb;have htl:=times_len ad (toS tx) (toS (fm (fmR (monL ad (tq+tr - 1)) (csS ad af (tq+tr - 1))) k));rw [toS_len,toS_len] at htl;refine Jn (Ja (hK6 (Je fun _ hK8 _=>(Jp (Ea (Rs:=[_,_]) 15 [[], [], [], [], [3], [], [5], [], [], [7,8], [7,8,9], [3,4,5,6,7,8,9,10], [1,2,3,4,5,6,7,8,9,10,11], [0,1,2,3,4,5,6,7,8,9,10,11,12], [0,1,2,3,4,5,6,7,8,9,10,11,12,13]] [[], [16], [], [], [16], [], [15], [], [], [], [], [], [11], [], []] [[], [], [], [], [], [], [], [], [], [], [], [], [], [12], []] rfl rfl (by kernel_rfl) ?_)))));apply Ji 1 rfl rfl rfl
    ·intros;conv=>lhs;simp only [Jh,reduceEqDiff,reduceAdd]
    ·exact Jc rfl
    apply Ji 2 rfl rfl rfl
    ·intros;conv=>lhs;simp only [Jh,reduceEqDiff,reduceAdd]
    ·exact Jm rfl At.z (by simpa [*] using ag36)
    apply Ji 3 rfl rfl rfl
    ·intros;conv=>lhs;simp only [Jh,reduceEqDiff,reduceAdd]
    ·exact Jc rfl
    apply Ji 4 rfl rfl rfl
    ·intros;conv=>lhs;simp only [Jh,reduceEqDiff,reduceAdd]
    ·exact Jl u36 rfl sz22 rfl
    apply Ji 5 rfl rfl rfl
    ·intros;conv=>lhs;simp only [Jh,reduceEqDiff,reduceAdd]
    ·exact Js rfl At.z rfl pl22
    apply Ji 6 rfl rfl rfl
    ·intros;conv=>lhs;simp only [Jh,reduceEqDiff,reduceAdd]
    ·exact Jl u56 rfl sz40 rfl
    apply Ji 7 rfl rfl rfl
    ·intros;conv=>lhs;simp only [Jh,reduceEqDiff,reduceAdd]
    ·exact EX [_] rfl At.z (ag_one rfl) ag40
    apply Ji 8 rfl rfl rfl
    ·intros;conv=>lhs;simp only [Jh,reduceEqDiff,reduceAdd]
    ·exact Jc rfl
    apply Ji 9 rfl rfl rfl
    ·intros;conv=>lhs;simp only [Jh,reduceEqDiff,reduceAdd]
    ·exact Jc rfl
    apply Ji 10 rfl rfl rfl
    ·intros;conv=>lhs;simp only [Jh,reduceEqDiff,reduceAdd]
    ·exact JL u34 sz40 rfl rfl rfl hi2 hxo34.sm
    obtain ⟨qe51,ce51,he51,le51,Fe51⟩:=hxo34 k hi2;apply Ji 11 rfl rfl rfl
    ·intros;conv=>lhs;simp only [Jh,reduceEqDiff,reduceAdd]
    ·exact JM (cs:=[_]) rfl (one_cell he51) (hxo34.sm (i:=k) hi2) ag40
    apply JR 12 rfl
    ·intros;conv=>lhs;simp only [Jh,reduceEqDiff,reduceAdd]
    ·
     intro gh X K zq zc zq2 zc2 zb zv hK;refine Ju fn51 rfl rfl fun w hH=>(l01Times_c (M:=20) (N:=20) had htx Fe51 hA.hn hA.hd hkex (by rw [hfb];exact sumR_kex h8 hd (Nat.le_of_eq (hcm.row _ (rw_mem hk1)).len)) hsx.g (by rw [hfb];exact hs2.g) (by omega) (by omega) (by omega) hH).mono ?_;rintro _ w ⟨qo52,co52,rfl,hH⟩;refine ⟨_,rfl,fun a hF=>JH hF hH ?_⟩;refine Jy ?_;exact hK qo52 co52 zq2 zc2 zb zv
    ·intro gh gh' h;refine ⟨?_,?_⟩ <;> rfl
    apply JR 13 rfl
    ·intros;conv=>lhs;simp only [Jh,reduceEqDiff,reduceAdd]
    ·
     intro gh X K zq zc zq2 zc2 zb zv hK;refine Ju fn50 rfl rfl fun w hH=>hH.lend .z fun Hl1 hle1 hA1 hB1 hH=>(l03Class_c (M:=40) (had.le hle1) (haf.le hle1) (own_terms (by rw [hfb];exact (hsx.times hs2).wf (by omega)) hA1) hG (by omega) hft (by rw [ofS_len];omega) (by rw [toS_ofS,hfb];exact hsx.times hs2) (by rw [toS_ofS,hfb];exact hmn _ hs2 hk2m) hH).mono ?_;rintro _ w ⟨qo53,co53,rfl,hH⟩;replace hH:=hB1 _ _ hH;refine ⟨_,rfl,fun a hF=>JH hF hH ?_⟩;refine Jw .z (Jw (.s .z) (Jy ?_));exact hK qo53 co53 zq2 zc2 zb zv
    ·intro gh gh' h;refine ⟨?_,?_⟩ <;> (first | simp only [h 11 rfl] | rfl)
    apply JR 14 rfl
    ·intros;conv=>lhs;simp only [Jh,reduceEqDiff,reduceAdd]
    ·
     intro gh X K zq zc zq2 zc2 zb zv hK;refine Ju fn49 rfl rfl fun w hH=>(Hp.putM hS hRk (clV_row hA h8 hd (cfR_ok (by rw [toS_ofS,hfb];exact hsx.times hs2))) (by omega) hSc (hH.front .z)).mono ?_;rintro _ w ⟨qo54,co54,vso54,rfl,hH⟩;refine ⟨_,rfl,fun a hF=>JH hF hH ?_⟩;refine Jy ?_;exact hK qo54 co54 zq2 zc2 zb vso54
    ·intro gh gh' h;refine ⟨?_,?_⟩ <;> (first | simp only [h 11 rfl,h 12 rfl] | rfl)
    apply Ef 15 rfl rfl rfl
    ·intros;conv=>lhs;simp only [Jh,reduceEqDiff,reduceAdd]
    ·exact Jd rfl
    ·intro gh gh' h;first | simp only [h 11 rfl,h 12 rfl,h 13 rfl] | rfl
    apply JZ [0,1,2,3,4,5,6,7,8,9,10,11,12,13,14] [0,1,2,3,4,5,6,7,8,9,10,11,13,14,15,16] foll0 rfl rfl rfl (by rfl)
    iterate 2 focus (intros;(conv=>lhs;simp only [JU,Ej,Ka,El,Es,eq_self,reduceEqDiff,reduceIte,reduceSub,reduceAdd,JxA,JxB]);all_goals rfl)
    intro gh;generalize (gh 11).c=co52;generalize (gh 11).q=qo52;generalize (gh 12).c=co53;generalize (gh 12).q=qo53;generalize (gh 13).c=co54;generalize (gh 13).q=qo54;generalize (gh 13).vs=vso54;clear gh;refine EA (.s .z) fun Ho54 hleo54 hAo54=>?_;replace had:=had.le hleo54;replace haf:=haf.le hleo54;replace htx:=htx.le hleo54;replace hty:=hty.le hleo54;replace htz:=htz.le hleo54;replace hnil:=hnil.le hleo54;replace hxo20:=hxo20.le hleo54;replace hxo34:=hxo34.le hleo54;replace hS:=hS.le hleo54;replace Fe51:=Fe51.le hleo54;obtain ⟨hxo54,hco54⟩:=mlt_rows hleo54 hAo54;simp only [toS_ofS,hfb] at hxo54 hco54 ⊢;refine JF (Ja (hK8 (Jb (Jg (Jc rfl) rfl (Jg (Jz rfl rfl (by first | exact nw _ (by omega) | rfl)) rfl (Jg (Jd rfl) rfl (Jf (Ja (JN .z ?_)))))))));exact hAg0 (Ho54,qo54,co54,k+1) ⟨(hlk.trans hleo54),by rw [rwA_succ hk1,redS_snoc];exact hxo54,by rw [rwA_succ hk1,redS_snoc];exact hco54,by omega⟩ (by show (csS ad af (tq+tr - 1)).length - (k+1)<(csS ad af (tq+tr - 1)).length - k;omega) 24 rfl rfl ⟨rfl,⟨(by rw [rwA_succ hk1,redS_snoc];rfl),trivial⟩⟩ rfl rfl
   ·
    refine JG (Jj (Jj (JK (Ja ?_))));exact hMt1 (Hk,q,c) ⟨(hleo34.trans hlk),by rw [rwX_y h26,← show k=(csS ad af (tq+tr - 1)).length by omega];exact hS,by rw [rwX_y h26,← show k=(csS ad af (tq+tr - 1)).length by omega];exact hSc⟩ 22 rfl rfl ⟨(by rw [rwX_y h26,← show k=(csS ad af (tq+tr - 1)).length by omega];rfl),trivial⟩ rfl rfl
  ·
   refine Jn (Ja ?_);exact hMt1 (Ho20,qo20,co20) ⟨(Le.refl _),by rw [rwX_n h26];exact hxo20,by rw [rwX_n h26];exact hco20⟩ 6 rfl rfl ⟨(by rw [rwX_n h26];rfl),trivial⟩ rfl rfl
 ·
  rintro ⟨Hj,qj,cj⟩ ⟨hlj,hJ,hJc⟩;replace had:=had.le hlj;replace haf:=haf.le hlj;replace htx:=htx.le hlj;replace hty:=hty.le hlj;replace htz:=htz.le hlj;replace hnil:=hnil.le hlj;replace hxo20:=hxo20.le hlj;refine Je fun _ hK9 _=>(Je fun _ hK10 _=>(Jb (Jg (Jl u56 rfl sz2 rfl) rfl (Jg (Js rfl At.z rfl pl2) rfl (Jg (Jl u56 rfl sz2 rfl) rfl (Jg (Js rfl At.z rfl pl2) rfl (Jg (Jz rfl rfl (by first | exact nw _ (by omega) | rfl)) rfl (Jg (EK rfl rfl) rfl (Jf (Ja (hK10 (Jq rfl (fun h60=>?_) (fun h60=>?_)))))))))))))
  ·
   have hft:fit3 ad (tp+tq+tr - 1):=hfit3 _ (by omega) (by omega);have hfm:fit3 ad (tp+tq - 1):=hfit3 _ (by omega) (by omega);have hcm:=csS_red (n:=(tp+tq - 1)) hA h8 hd;have hcml:=csS_len (n:=(tp+tq - 1)) hA h8 hd;have hfrl:=fmR_len (monL ad (tp+tq - 1)) (csS ad af (tp+tq - 1))
   have hmn : ∀s:Sm,Sok 20 s→(∀x∈s,x.1∈monL ad (tp+tq - 1))→∀x∈timesS ad s (toS tz),x.1∈monL ad (tp+tq+tr - 1):=fun s hs hk=>by
    have e:(tp+tq - 1)+tr=(tp+tq+tr - 1):=by omega
    have h9:=times_mon h8 hd hs hsz hk hkz (by rw [e];exact hft.1.1) (by omega)
    rwa [e] at h9
   refine Je fun _ hK11 _=>(Jb (Jg (Jm rfl (.s .z) (by simpa [*] using ag36)) rfl (Jg (Jl u56 rfl sz2 rfl) rfl (Jg (Js rfl At.z rfl pl2) rfl (Jg (Jl u56 rfl sz2 rfl) rfl (Jg (Js rfl At.z rfl pl2) rfl (Jg (Jz rfl rfl (by first | exact nw _ (by omega) | rfl)) rfl (Jg (EH rfl rfl (by first | exact nw _ (by omega) | rfl)) rfl (Ju fn38 rfl rfl fun w hH=>(l03ClassForms_c had haf hG (by omega) hfm hH).mono ?_)))))))));rintro _ w ⟨qo68,co68,vso68,rfl,hH⟩;refine ⟨_,rfl,fun a hF=>JH hF hH ?_⟩;refine Ev .z fun Ho68 hleo68 hAo68=>?_;replace had:=had.le hleo68;replace haf:=haf.le hleo68;replace htx:=htx.le hleo68;replace hty:=hty.le hleo68;replace htz:=htz.le hleo68;replace hnil:=hnil.le hleo68;replace hxo20:=hxo20.le hleo68;replace hJ:=hJ.le hleo68;have hxo68:=(own_forms (fmR_wf (monL_mn h8) hcm.row) hAo68);have hco68:=own_le hAo68.1;refine Jg (Jd rfl) rfl (Jf (Ja (hK11 (Je fun _ hK12 _=>(Jb (Jg (Jd rfl) rfl (Jf (Ja (hK12 (Jp (JD (σ:=HP × Option Addr × Nat × Nat) (fun ⟨Hk,q,c,k⟩=>[(10,.int .i64 (k:Int)),(6,.slice q (redS (rwX ad af (toS tx) tp tq tr++rwB ad af (tp+tq+tr - 1) (tp+tq - 1) (toS tz) k)).length c)]) (fun ⟨Hk,q,c,k⟩=>Hk) (fun ⟨Hk,q,c,k⟩=>obj g3 (.cells [.slice qtx tx.length ctx,.slice qty ty.length cty,.slice qtz tz.length ctz,.int .i64 tp,.int .i64 tq,.int .i64 tr,.slice qtu mtu ctu,.slice qtv mtv ctv].toArray 56 (0,0))::obj g2 (.cells [.slice qad ad.length cad,.slice qaf af.length caf].toArray 36 (0,0))::L) (fun ⟨Hk,q,c,k⟩=>Le Ho68 Hk∧RowsR Hk q (redS (rwX ad af (toS tx) tp tq tr++rwB ad af (tp+tq+tr - 1) (tp+tq - 1) (toS tz) k))∧(redS (rwX ad af (toS tx) tp tq tr++rwB ad af (tp+tq+tr - 1) (tp+tq - 1) (toS tz) k)).length≤c∧k≤(csS ad af (tp+tq - 1)).length) (fun ⟨Hk,q,c,k⟩=>(csS ad af (tp+tq - 1)).length - k) (Ho68,qj,cj,0) ⟨Le.refl _,by rw [show rwB ad af (tp+tq+tr - 1) (tp+tq - 1) (toS tz) 0=[] from rfl,List.append_nil];exact hJ,by rw [show rwB ad af (tp+tq+tr - 1) (tp+tq - 1) (toS tz) 0=[] from rfl,List.append_nil];exact hJc,by omega⟩ ⟨rfl,⟨(by rw [show rwB ad af (tp+tq+tr - 1) (tp+tq - 1) (toS tz) 0=[] from rfl,List.append_nil];rfl),trivial⟩⟩ rfl rfl ?_)))))))))));rintro ⟨Hk,q,c,k⟩ ⟨hlk,hS,hSc,hk⟩ _ hAg1;replace had:=had.le hlk;replace haf:=haf.le hlk;replace htx:=htx.le hlk;replace hty:=hty.le hlk;replace htz:=htz.le hlk;replace hnil:=hnil.le hlk;replace hxo20:=hxo20.le hlk;replace hJ:=hJ.le hlk;replace hxo68:=hxo68.le hlk;have hRk:Red (csS ad af (tp+tq+tr - 1)).length (redS (rwX ad af (toS tx) tp tq tr++rwB ad af (tp+tq+tr - 1) (tp+tq - 1) (toS tz) k)):=(redS_ok (app_row (rwX_row hG hwf hsx) (rwB_row hG hwf hsz))).1;have hRc:=hRk.count;refine Je fun _ hK13 _=>(Je fun _ hK14 _=>(Jb (Jg (Jc rfl) rfl (Jg (Jc rfl) rfl (Jg (Jo u34 rfl rfl) rfl (Jg (JJ rfl rfl) rfl (Jf (Ja (hK14 (Jq rfl (fun h72=>?_) (fun h72=>?_)))))))))))
   ·
    have hk1:k<(csS ad af (tp+tq - 1)).length:=by omega
    have hi2:k<(fmR (monL ad (tp+tq - 1)) (csS ad af (tp+tq - 1))).length:=by omega
    have hfb:=cf_fm (n:=(tp+tq - 1)) (i:=(k:Int)) hA h8 hd (by omega);have hlb:=cf_len (ds:=ad) (fs:=af) (n:=(tp+tq - 1)) (i:=(k:Int)) (by omega);obtain ⟨hs2,hk2m⟩:=cfM_ok (n:=(tp+tq - 1)) (i:=(k:Int)) hA h8 hd (by omega);unfold cfM at hs2 hk2m hfb;simp only [Int.toNat_natCast] at hfb hlb hs2 hk2m;have hmul:(fm (fmR (monL ad (tp+tq - 1)) (csS ad af (tp+tq - 1))) k).length * tz.length≤121 * 121:=Nat.mul_le_mul hlb hlz;have htl:=times_len ad (toS (fm (fmR (monL ad (tp+tq - 1)) (csS ad af (tp+tq - 1))) k)) (toS tz);rw [toS_len,toS_len] at htl;refine Jn (Ja (hK13 (Je fun _ hK15 _=>(Jp (Ea (Rs:=[_,_]) 15 [[], [], [], [], [3], [], [], [5,6], [5,6,7], [], [9], [3,4,5,6,7,8,9,10], [1,2,3,4,5,6,7,8,9,10,11], [0,1,2,3,4,5,6,7,8,9,10,11,12], [0,1,2,3,4,5,6,7,8,9,10,11,12,13]] [[], [16], [], [], [16], [], [], [], [], [], [15], [], [11], [], []] [[], [], [], [], [], [], [], [], [], [], [], [], [], [12], []] rfl rfl (by kernel_rfl) ?_)))));apply Ji 1 rfl rfl rfl
    ·intros;conv=>lhs;simp only [Jh,reduceEqDiff,reduceAdd]
    ·exact Jc rfl
    apply Ji 2 rfl rfl rfl
    ·intros;conv=>lhs;simp only [Jh,reduceEqDiff,reduceAdd]
    ·exact Jm rfl At.z (by simpa [*] using ag36)
    apply Ji 3 rfl rfl rfl
    ·intros;conv=>lhs;simp only [Jh,reduceEqDiff,reduceAdd]
    ·exact Jc rfl
    apply Ji 4 rfl rfl rfl
    ·intros;conv=>lhs;simp only [Jh,reduceEqDiff,reduceAdd]
    ·exact Jl u36 rfl sz22 rfl
    apply Ji 5 rfl rfl rfl
    ·intros;conv=>lhs;simp only [Jh,reduceEqDiff,reduceAdd]
    ·exact Js rfl At.z rfl pl22
    apply Ji 6 rfl rfl rfl
    ·intros;conv=>lhs;simp only [Jh,reduceEqDiff,reduceAdd]
    ·exact Jc rfl
    apply Ji 7 rfl rfl rfl
    ·intros;conv=>lhs;simp only [Jh,reduceEqDiff,reduceAdd]
    ·exact Jc rfl
    apply Ji 8 rfl rfl rfl
    ·intros;conv=>lhs;simp only [Jh,reduceEqDiff,reduceAdd]
    ·exact JL u34 sz40 rfl rfl rfl hi2 hxo68.sm
    obtain ⟨qe83,ce83,he83,le83,Fe83⟩:=hxo68 k hi2;apply Ji 9 rfl rfl rfl
    ·intros;conv=>lhs;simp only [Jh,reduceEqDiff,reduceAdd]
    ·exact JM (cs:=[_]) rfl (one_cell he83) (hxo68.sm (i:=k) hi2) ag40
    apply Ji 10 rfl rfl rfl
    ·intros;conv=>lhs;simp only [Jh,reduceEqDiff,reduceAdd]
    ·exact Jl u56 rfl sz40 rfl
    apply Ji 11 rfl rfl rfl
    ·intros;conv=>lhs;simp only [Jh,reduceEqDiff,reduceAdd]
    ·exact EX [_] rfl At.z (ag_one rfl) ag40
    apply JR 12 rfl
    ·intros;conv=>lhs;simp only [Jh,reduceEqDiff,reduceAdd]
    ·
     intro gh X K zq zc zq2 zc2 zb zv hK;refine Ju fn51 rfl rfl fun w hH=>(l01Times_c (M:=20) (N:=20) had Fe83 htz hA.hn hA.hd (by rw [hfb];exact sumR_kex h8 hd (Nat.le_of_eq (hcm.row _ (rw_mem hk1)).len)) hkez (by rw [hfb];exact hs2.g) hsz.g (by omega) (by omega) (by omega) hH).mono ?_;rintro _ w ⟨qo86,co86,rfl,hH⟩;refine ⟨_,rfl,fun a hF=>JH hF hH ?_⟩;refine Jy ?_;exact hK qo86 co86 zq2 zc2 zb zv
    ·intro gh gh' h;refine ⟨?_,?_⟩ <;> rfl
    apply JR 13 rfl
    ·intros;conv=>lhs;simp only [Jh,reduceEqDiff,reduceAdd]
    ·
     intro gh X K zq zc zq2 zc2 zb zv hK;refine Ju fn50 rfl rfl fun w hH=>hH.lend .z fun Hl1 hle1 hA1 hB1 hH=>(l03Class_c (M:=40) (had.le hle1) (haf.le hle1) (own_terms (by rw [hfb];exact (hs2.times hsz).wf (by omega)) hA1) hG (by omega) hft (by rw [ofS_len];omega) (by rw [toS_ofS,hfb];exact hs2.times hsz) (by rw [toS_ofS,hfb];exact hmn _ hs2 hk2m) hH).mono ?_;rintro _ w ⟨qo87,co87,rfl,hH⟩;replace hH:=hB1 _ _ hH;refine ⟨_,rfl,fun a hF=>JH hF hH ?_⟩;refine Jw .z (Jw (.s .z) (Jy ?_));exact hK qo87 co87 zq2 zc2 zb zv
    ·intro gh gh' h;refine ⟨?_,?_⟩ <;> (first | simp only [h 11 rfl] | rfl)
    apply JR 14 rfl
    ·intros;conv=>lhs;simp only [Jh,reduceEqDiff,reduceAdd]
    ·
     intro gh X K zq zc zq2 zc2 zb zv hK;refine Ju fn49 rfl rfl fun w hH=>(Hp.putM hS hRk (clV_row hA h8 hd (cfR_ok (by rw [toS_ofS,hfb];exact hs2.times hsz))) (by omega) hSc (hH.front .z)).mono ?_;rintro _ w ⟨qo88,co88,vso88,rfl,hH⟩;refine ⟨_,rfl,fun a hF=>JH hF hH ?_⟩;refine Jy ?_;exact hK qo88 co88 zq2 zc2 zb vso88
    ·intro gh gh' h;refine ⟨?_,?_⟩ <;> (first | simp only [h 11 rfl,h 12 rfl] | rfl)
    apply Ef 15 rfl rfl rfl
    ·intros;conv=>lhs;simp only [Jh,reduceEqDiff,reduceAdd]
    ·exact Jd rfl
    ·intro gh gh' h;first | simp only [h 11 rfl,h 12 rfl,h 13 rfl] | rfl
    apply JZ [0,1,2,3,4,5,6,7,8,9,10,11,12,13,14] [0,1,2,3,4,5,6,7,8,9,10,11,13,14,15,16] foll0 rfl rfl rfl (by rfl)
    iterate 2 focus (intros;(conv=>lhs;simp only [JU,Ej,Ka,El,Es,eq_self,reduceEqDiff,reduceIte,reduceSub,reduceAdd,JxA,JxB]);all_goals rfl)
    intro gh;generalize (gh 11).c=co86;generalize (gh 11).q=qo86;generalize (gh 12).c=co87;generalize (gh 12).q=qo87;generalize (gh 13).c=co88;generalize (gh 13).q=qo88;generalize (gh 13).vs=vso88;clear gh;refine EA (.s .z) fun Ho88 hleo88 hAo88=>?_;replace had:=had.le hleo88;replace haf:=haf.le hleo88;replace htx:=htx.le hleo88;replace hty:=hty.le hleo88;replace htz:=htz.le hleo88;replace hnil:=hnil.le hleo88;replace hxo20:=hxo20.le hleo88;replace hJ:=hJ.le hleo88;replace hxo68:=hxo68.le hleo88;replace hS:=hS.le hleo88;replace Fe83:=Fe83.le hleo88;obtain ⟨hxo88,hco88⟩:=mlt_rows hleo88 hAo88;simp only [toS_ofS,hfb] at hxo88 hco88 ⊢;refine JF (Ja (hK15 (Jb (Jg (Jc rfl) rfl (Jg (Jz rfl rfl (by first | exact nw _ (by omega) | rfl)) rfl (Jg (Jd rfl) rfl (Jf (Ja (JN .z ?_)))))))));exact hAg1 (Ho88,qo88,co88,k+1) ⟨(hlk.trans hleo88),by rw [rwB_succ hk1,← List.append_assoc,redS_snoc];exact hxo88,by rw [rwB_succ hk1,← List.append_assoc,redS_snoc];exact hco88,by omega⟩ (by show (csS ad af (tp+tq - 1)).length - (k+1)<(csS ad af (tp+tq - 1)).length - k;omega) 24 rfl rfl ⟨rfl,⟨(by rw [rwB_succ hk1,← List.append_assoc,redS_snoc];rfl),trivial⟩⟩ rfl rfl
   ·
    refine JG (Jj (Jj (JK (Ja (hK9 (Je fun _ hK16 _=>(Jb (Jg (Jc rfl) rfl (Jg (Jd rfl) rfl (Jf (Ja (hK16 (Jt (Jr rfl (Res.tmp rfl) fun w hH=>?_))))))))))))));replace hH:=hH.tail;replace hH:=hH.tail
    have hke:k=(csS ad af (tp+tq - 1)).length:=by omega
    unfold inS;rw [rwZ_y h60,← hke];exact ⟨_,_,_,(((hleo20.trans hlj).trans hleo68).trans hlk),hS,hSc,rfl,hH⟩
  ·
   refine Jn (Ja (hK9 (Je fun _ hK17 _=>(Jb (Jg (Jc rfl) rfl (Jg (Jd rfl) rfl (Jf (Ja (hK17 (Jt (Jr rfl (Res.tmp rfl) fun w hH=>?_)))))))))));replace hH:=hH.tail;replace hH:=hH.tail;unfold inS;rw [rwZ_n h60,List.append_nil];exact ⟨_,_,_,(hleo20.trans hlj),hJ,hJc,rfl,hH⟩
theorem fn23:Fn Tryz.prog 23:=⟨_,Tryz.func23,by kernel_rfl,rfl⟩
theorem fn24:Fn Tryz.prog 24:=⟨_,Tryz.func24,by kernel_rfl,rfl⟩
theorem fn47:Fn Tryz.prog 47:=⟨_,Tryz.func47,by kernel_rfl,rfl⟩
theorem fn48:Fn Tryz.prog 48:=⟨_,Tryz.func48,by kernel_rfl,rfl⟩
def exB (ds:List Int) (fs:List (List Term)) (p q r:Int) (x y z:Sm):Bool:=prB ds fs (p+q) (xyS ds p x y) && prB ds fs (q+r) (xyS ds q y z)
def mkC (ds:List Int) (fs:List (List Term)) (x y z:List Term):Int:=if trC ds fs x y z=0 then if exB ds fs (degF ds x) (degF ds y) (degF ds z) (toS x) (toS y) (toS z) then 0 else 4 else trC ds fs x y z
def inV (ds:List Int) (fs:List (List Term)) (x y z:List Term):List (List Int):=if mkC ds fs x y z=0 then inS ds fs (toS x) (toS z) (degF ds x) (degF ds y) (degF ds z) else []
section
variable {ds : List Int} {fs : List (List Term)} {x y z : List Term}
theorem mkC_n (h:trC ds fs x y z≠0):mkC ds fs x y z=trC ds fs x y z:=if_neg h
theorem mkC_y (h:trC ds fs x y z=0):mkC ds fs x y z=if exB ds fs (degF ds x) (degF ds y) (degF ds z) (toS x) (toS y) (toS z) then 0 else 4:=if_pos h
theorem mkC_4 (h:trC ds fs x y z=0) (h2:exB ds fs (degF ds x) (degF ds y) (degF ds z) (toS x) (toS y) (toS z)=false):mkC ds fs x y z=4:=by rw [mkC_y h,h2];rfl
theorem mkC_0 (h:trC ds fs x y z=0) (h2:exB ds fs (degF ds x) (degF ds y) (degF ds z) (toS x) (toS y) (toS z)=true):mkC ds fs x y z=0:=by rw [mkC_y h,h2];rfl
theorem mkC_t (h:mkC ds fs x y z=0):trC ds fs x y z=0:=by
 unfold mkC at h
 split at h
 ·assumption
 ·exact h
theorem inV_n (h:mkC ds fs x y z≠0):inV ds fs x y z=[]:=if_neg h
theorem inV_y (h:mkC ds fs x y z=0):inV ds fs x y z=inS ds fs (toS x) (toS z) (degF ds x) (degF ds y) (degF ds z):=if_pos h
end
theorem l07Make_c {B:World} {H0 H:HP} {L:List SA} {w:World} {qad qaf:Option Addr} {cad caf:Nat} {ad:List Int} {af:List (List Term)} {qx:Option Addr} {cx:Nat} {x:List Term} {qy:Option Addr} {cy:Nat} {y:List Term} {qz:Option Addr} {cz:Nat} {z:List Term} (had:Ints H qad ad) (haf:Forms H qaf af) (hx:Terms H qx x) (hy:Terms H qy y) (hz:Terms H qz z) (hn8:ad.length≤1048576) (hn9:af.length≤1048576) (hl9 : ∀i,i<af.length→(fm af i).length≤1048576) (hlx:x.length≤9223372036854775807) (hly:y.length≤9223372036854775807) (hlz:z.length≤9223372036854775807) (hcx:x.length≤cx) (hcy:y.length≤cy) (hcz:z.length≤cz) (hH:Hp B H0 H L w):Calls Tryz.prog 23 [.agg [.slice qad ad.length cad,.slice qaf af.length caf].toArray,.agg [.slice qx x.length cx].toArray,.agg [.slice qy y.length cy].toArray,.agg [.slice qz z.length cz].toArray].toArray w fun e w'=>∃P Q R q1 m1 c1 q2 m2 c2,(mkC ad af x y z=0→P=degF ad x∧Q=degF ad y∧R=degF ad z)∧e = .returned (.tuple #[.agg [.slice qx x.length cx,.slice qy y.length cy,.slice qz z.length cz,.int .i64 P,.int .i64 Q,.int .i64 R,.slice q1 m1 c1,.slice q2 m2 c2].toArray,.int .i64 (mkC ad af x y z)])∧Hp B H0 H L w':=by
 refine Jx Tryz.func23 rfl 36 rfl rfl [(0,.agg [.slice qad ad.length cad,.slice qaf af.length caf].toArray),(1,.agg [.slice qx x.length cx].toArray),(2,.agg [.slice qy y.length cy].toArray),(3,.agg [.slice qz z.length cz].toArray)] rfl hH ?_;clear hH;refine Je fun _ hK1 _=>(Jb (JW rfl rfl rfl fun g4=>(JW rfl rfl rfl fun g5=>(JW rfl rfl rfl fun g6=>(JW rfl rfl rfl fun g7=>(JP ze56 rfl fun g8=>(Jg (Jd rfl) rfl (Jf (Ja (hK1 (Je fun _ hK2 _=>(Jb (Jg (Jm rfl (.s (.s (.s (.s .z)))) (by simpa [*] using ag36)) rfl (Jg (Jm rfl (.s (.s (.s .z))) (by simpa [*] using ag40)) rfl (Jg (Jm rfl (.s (.s .z)) (by simpa [*] using ag40)) rfl ?_)))))))))))))));refine Jg (Jm rfl (.s .z) (by simpa [*] using ag40)) rfl (Ju fn47 rfl rfl fun w hH=>(l07Degrees_c had haf hx hy hz (by omega) (by omega) hl9 hlx hly hlz hcx hcy hcz hH).mono ?_);rintro _ w ⟨P19,Q19,R19,hPQ19,rfl,hH⟩;refine ⟨_,rfl,fun a hF=>JH hF hH ?_⟩;refine Jg (Jc rfl) rfl (Jg (JI rfl rfl) rfl (Jg (JI rfl rfl) rfl (JP ze56 rfl fun g10=>(JB rfl rfl (by first | exact bytesC_one _ | exact intsC_one _ | exact Term.c_one _ | simp [Value.oneCell']) (by simpa [*] using sz56) (by simp [*]) At.z (Jg (Jd rfl) rfl (Jf (Ja (hK2 (Je fun _ hK3 _=>(Je fun _ hK4 _=>(Jb (Jg (Jc rfl) rfl (Jg (Eo rfl rfl) rfl (Jf (Ja (hK4 ?_))))))))))))))));refine Jq rfl (fun h23=>?_) (fun h23=>?_)
 ·
  refine Je fun _ hK5 _=>(Jb (Jg (Jm rfl At.z (by simpa [*] using ag56)) rfl (Jg (Jc rfl) rfl (JB rfl rfl (by first | exact bytesC_one _ | exact intsC_one _ | exact Term.c_one _ | simp [Value.oneCell']) (by simpa [*] using sz56) (by simp [*]) (.s .z) (Jg (Jd rfl) rfl (Jf (Ja (hK5 (Jt (Jk (Eg rfl (Res.agg rfl (.s .z) (by simpa [*] using ag56)) (Res.tmp rfl) fun w hH=>?_)))))))))));replace hH:=hH.tail;replace hH:=hH.tail;replace hH:=hH.tail;replace hH:=hH.tail;replace hH:=hH.tail;replace hH:=hH.tail;exact ⟨_,_,_,_,_,_,_,_,_,fun h=>absurd ((mkC_n h23).symm.trans h) h23,by rw [mkC_n h23];rfl,hH⟩
 ·
  have h0:trC ad af x y z=0:=Decidable.not_not.1 h23;obtain ⟨rfl,rfl,rfl⟩:=hPQ19 h0;have hT:=tri_ok haf.wfss hx.wfs hy.wfs hz.wfs h0;have hG:=(trC_z h0).1;refine Jn (Ja (hK3 (Je fun _ hK6 _=>(Jb (Jg (Jm rfl (.s (.s (.s (.s (.s .z))))) (by simpa [*] using ag36)) rfl (Jg (Jm rfl At.z (by simpa [*] using ag56)) rfl (Ju fn48 rfl rfl fun w hH=>(l07Parts_c had haf hx hy hz hG hT hH).mono ?_)))))));rintro _ w ⟨qu29,mu29,cu29,qv29,mv29,cv29,rfl,hH⟩;refine ⟨_,rfl,fun a hF=>JH hF hH ?_⟩;refine Jg (Jc rfl) rfl (Jg (JI rfl rfl) rfl (Jg (JI rfl rfl) rfl (JP ze56 rfl fun g12=>(JB rfl rfl (by first | exact bytesC_one _ | exact intsC_one _ | exact Term.c_one _ | simp [Value.oneCell']) (by simpa [*] using sz56) (by simp [*]) At.z (Jg (Jd rfl) rfl (Jf (Ja (hK6 (Je fun _ hK7 _=>(Je fun _ hK8 _=>(Jb (Jg (Jc rfl) rfl (Jg (Em rfl) rfl (Jf (Ja (hK8 ?_))))))))))))))));refine Ei rfl (fun h33=>?_) (fun h33=>?_)
  ·
   refine Je fun _ hK9 _=>(Jb (Jg (Jm rfl (.s .z) (by simpa [*] using ag56)) rfl (JB rfl rfl (by first | exact bytesC_one _ | exact intsC_one _ | exact Term.c_one _ | simp [Value.oneCell']) (by simpa [*] using sz56) (by simp [*]) (.s (.s .z)) (Jg (Jd rfl) rfl (Jf (Ja (hK9 (Jt (Jk (Eg rfl (Res.agg rfl (.s (.s .z)) (by simpa [*] using ag56)) (Res.tmp rfl) fun w hH=>?_))))))))));replace hH:=hH.tail;replace hH:=hH.tail;replace hH:=hH.tail;replace hH:=hH.tail;replace hH:=hH.tail;replace hH:=hH.tail;replace hH:=hH.tail;have hc:=mkC_4 h0 (not_f h33);exact ⟨_,_,_,_,_,_,_,_,_,fun h=>(by rw [hc] at h;cases h),by rw [hc],hH⟩
  ·
   refine Jn (Ja (hK7 (Je fun _ hK10 _=>(Jb (Jg (Jm rfl At.z (by simpa [*] using ag56)) rfl (JB rfl rfl (by first | exact bytesC_one _ | exact intsC_one _ | exact Term.c_one _ | simp [Value.oneCell']) (by simpa [*] using sz56) (by simp [*]) (.s (.s .z)) (Jg (Jd rfl) rfl (Jf (Ja (hK10 (Jt (Eg rfl (Res.agg rfl (.s (.s .z)) (by simpa [*] using ag56)) (Res.tmp rfl) fun w hH=>?_))))))))))));replace hH:=hH.tail;replace hH:=hH.tail;replace hH:=hH.tail;replace hH:=hH.tail;replace hH:=hH.tail;replace hH:=hH.tail;replace hH:=hH.tail;have hc:=mkC_0 h0 (not_t h33);exact ⟨_,_,_,_,_,_,_,_,_,fun _=>⟨rfl,rfl,rfl⟩,by rw [hc],hH⟩
theorem sIndeterminacy_c {B:World} {H0 H:HP} {L:List SA} {w:World} {qad qaf:Option Addr} {cad caf:Nat} {ad:List Int} {af:List (List Term)} {qx:Option Addr} {cx:Nat} {x:List Term} {qy:Option Addr} {cy:Nat} {y:List Term} {qz:Option Addr} {cz:Nat} {z:List Term} (had:Ints H qad ad) (haf:Forms H qaf af) (hx:Terms H qx x) (hy:Terms H qy y) (hz:Terms H qz z) (hn8:ad.length≤1048576) (hn9:af.length≤1048576) (hl9 : ∀i,i<af.length→(fm af i).length≤1048576) (hlx:x.length≤9223372036854775807) (hly:y.length≤9223372036854775807) (hlz:z.length≤9223372036854775807) (hcx:x.length≤cx) (hcy:y.length≤cy) (hcz:z.length≤cz) (hH:Hp B H0 H L w):Calls Tryz.prog 7 [.agg [.slice qad ad.length cad,.slice qaf af.length caf].toArray,.agg [.slice qx x.length cx].toArray,.agg [.slice qy y.length cy].toArray,.agg [.slice qz z.length cz].toArray].toArray w fun e w'=>∃H' q c,Le H H' ∧RowsR H' q (inV ad af x y z)∧(inV ad af x y z).length≤c∧e = .returned (.tuple #[.slice q (inV ad af x y z).length c,.int .i64 (mkC ad af x y z)])∧Hp B H0 H' L w':=by
 refine Jx Tryz.func7 rfl 26 rfl rfl [(0,.agg [.slice qad ad.length cad,.slice qaf af.length caf].toArray),(1,.agg [.slice qx x.length cx].toArray),(2,.agg [.slice qy y.length cy].toArray),(3,.agg [.slice qz z.length cz].toArray)] rfl hH ?_;clear hH;refine Je fun _ hK1 _=>(Jb (JW rfl rfl rfl fun g4=>(JW rfl rfl rfl fun g5=>(JW rfl rfl rfl fun g6=>(JW rfl rfl rfl fun g7=>(Jg (Jd rfl) rfl (Jg (Jd rfl) rfl (Jf (Ja (hK1 (Je fun _ hK2 _=>(Jb (Jg (Jm rfl (.s (.s (.s .z))) (by simpa [*] using ag36)) rfl (Jg (Jm rfl (.s (.s .z)) (by simpa [*] using ag40)) rfl (Jg (Jm rfl (.s .z) (by simpa [*] using ag40)) rfl ?_)))))))))))))));refine Jg (Jm rfl At.z (by simpa [*] using ag40)) rfl (Ju fn23 rfl rfl fun w hH=>(l07Make_c had haf hx hy hz (by omega) (by omega) hl9 hlx hly hlz hcx hcy hcz hH).mono ?_);rintro _ w ⟨P17,Q17,R17,qu17,mu17,cu17,qv17,mv17,cv17,hPQ17,rfl,hH⟩;refine ⟨_,rfl,fun a hF=>JH hF hH ?_⟩;refine Jg (Jc rfl) rfl (Jg (JI rfl rfl) rfl (Jg (JI rfl rfl) rfl (JP ze56 rfl fun g10=>(JB rfl rfl (by first | exact bytesC_one _ | exact intsC_one _ | exact Term.c_one _ | simp [Value.oneCell']) (by simpa [*] using sz56) (by simp [*]) At.z (Jg (Jd rfl) rfl (Jf (Ja (hK2 (Je fun _ hK3 _=>(Je fun _ hK4 _=>(Jb (Jg (Jc rfl) rfl (Jg (Eo rfl rfl) rfl (Jf (Ja (hK4 ?_))))))))))))))));refine Jq rfl (fun h21=>?_) (fun h21=>?_)
 ·
  refine Je fun _ hK5 _=>(Jb (Jg (Jc rfl) rfl (Jg (Jd rfl) rfl (Jg (Jd rfl) rfl (Jf (Ja (hK5 (Jt (Jk (Eg rfl (Res.tmp rfl) (Res.tmp rfl) fun w hH=>?_))))))))));replace hH:=hH.tail;replace hH:=hH.tail;replace hH:=hH.tail;replace hH:=hH.tail;replace hH:=hH.tail;rw [inV_n h21];exact ⟨_,none,0,(Le.refl _),RowsR.nil _ _,Nat.zero_le _,rfl,hH⟩
 ·
  have h0:mkC ad af x y z=0:=Decidable.not_not.1 h21;obtain ⟨rfl,rfl,rfl⟩:=hPQ17 h0;have h1:=mkC_t h0;have hT:=tri_ok haf.wfss hx.wfs hy.wfs hz.wfs h1;have hG:=(trC_z h1).1;refine Jn (Ja (hK3 (Je fun _ hK6 _=>(Jb (Jg (Jm rfl (.s (.s (.s (.s .z)))) (by simpa [*] using ag36)) rfl (Jg (Jm rfl At.z (by simpa [*] using ag56)) rfl (Ju fn24 rfl rfl fun w hH=>(l07Rows_c had haf hx hy hz hG hT hH).mono ?_)))))));rintro _ w ⟨Hf25,qf25,cf25,hlf25,hI25,hcc25,rfl,hH⟩;refine ⟨_,rfl,fun a hF=>JH hF hH ?_⟩;replace had:=had.le hlf25;replace haf:=haf.le hlf25;replace hx:=hx.le hlf25;replace hy:=hy.le hlf25;replace hz:=hz.le hlf25;refine Jg (Jd rfl) rfl (Jg (Jd rfl) rfl (Jf (Ja (hK6 (Jt (Eg rfl (Res.tmp rfl) (Res.tmp rfl) fun w hH=>?_))))));replace hH:=hH.tail;replace hH:=hH.tail;replace hH:=hH.tail;replace hH:=hH.tail;replace hH:=hH.tail;rw [inV_y h0,h0];exact ⟨_,_,_,hlf25,hI25,hcc25,rfl,hH⟩
theorem signed_c {B:World} {H0 H:HP} {L:List SA} {w:World} {n:Int} {vs:Value} {Ms:Int} {s:Sm} (hs:SumH H vs s) (ks:Sok Ms s) (hM:Ms≤1000000) (hH:Hp B H0 H L w):Calls Tryz.prog 111 [.int .i64 n,vs].toArray w fun e w'=>∃b,e = .returned (.map (some b))∧Hp B H0 H (osum b (sgS n s)::L) w':=by
 refine Jx Tryz.func111 rfl 17 rfl rfl [(0,.int .i64 n),(1,vs)] rfl hH ?_;clear hH;refine Je fun _ hK1 _=>(Jb (Jg (Jd rfl) rfl (Jf (Ja (hK1 (Je fun _ hK2 _=>(Jb (ER pwE (Value.int .i64) pwOk rfl fun bm6=>(Jg (Jd rfl) rfl (Jf (Ja (hK2 (Je fun _ hK3 _=>(Je fun _ hK4 _=>(Jb (Jg (Jc rfl) rfl ?_))))))))))))))));refine Jg (EF rfl rfl (by decide) rfl) rfl (Jg (EL rfl rfl) rfl (Jf (Ja (hK4 (Jq rfl (fun h9=>?_) (fun h9=>?_))))))
 ·
  refine Jb (Jg (Jc rfl) rfl (Jg (Jc rfl) rfl (Ju fn83 rfl rfl fun w hH=>(addAll_c Sok.nil hs ks (by omega) (by omega) (by omega) (hH.front .z)).mono ?_)));rintro _ w ⟨rfl,hH⟩;refine ⟨_,rfl,fun a hF=>JH hF hH ?_⟩;refine Jf (Ja (hK3 (Je fun _ hK5 _=>(Jb (Jg (Jc rfl) rfl (Jg (Jd rfl) rfl (Jf (Ja (hK5 (Jt (Jr rfl (Res.tmp rfl) fun w hH=>?_)))))))))));replace hH:=hH.sublist (.cons_cons _ (List.Sublist.refl _))
  have e9:sgS n s=acc [] (scl s 1):=by unfold sgS sgF7;rw [if_pos h9]
  rw [← e9] at hH;exact ⟨_,rfl,hH⟩
 ·
  refine Jb (Jg (Jc rfl) rfl (Jg (Jc rfl) rfl (Ju fn83 rfl rfl fun w hH=>(addAll_c Sok.nil hs ks (by omega) (by omega) (by omega) (hH.front .z)).mono ?_)));rintro _ w ⟨rfl,hH⟩;refine ⟨_,rfl,fun a hF=>JH hF hH ?_⟩;refine Jf (Ja (hK3 (Je fun _ hK6 _=>(Jb (Jg (Jc rfl) rfl (Jg (Jd rfl) rfl (Jf (Ja (hK6 (Jt (Jr rfl (Res.tmp rfl) fun w hH=>?_)))))))))));replace hH:=hH.sublist (.cons_cons _ (List.Sublist.refl _));rw [← sgS_odd h9] at hH;exact ⟨_,rfl,hH⟩
theorem isBoundaryP_c {B:World} {H0 H:HP} {L:List SA} {w:World} {bc lc:Nat} {bca:Nat} {qcad qcaf:Option Addr} {ccad ccaf:Nat} {cad:List Int} {caf:List (List Term)} {lsc:List (Int × Lv)} {n:Int} {vs:Value} {Ms:Int} {s:Sm} (pc0:CellAt H bc 0 (.pointer (some ⟨bca,0,none⟩))) (pc1:CellAt H bc 1 (.map (some lc))) (pcad:CellAt H bca 0 (.slice qcad cad.length ccad)) (pcaf:CellAt H bca 1 (.slice qcaf caf.length ccaf)) (hcad:Ints H qcad cad) (hcaf:Forms H qcaf caf) (hs:SumH H vs s) (ks:Sok Ms s) (hGc:isAlg cad caf=true) (hn:0≤n∧n≤39) (hfit:fitP cad n) (hCc:CpxOk H cad caf (fun _=>False) lsc) (hNc:Nxt (fun _=>False) lsc) (hM:Ms≤1000000) (hin : ∀x∈s,x.1∈monL cad n) (hH:Hp B H0 H (cpx lc lsc::L) w):Calls Tryz.prog 112 [.pointer (some ⟨bc,0,none⟩),.int .i64 n,vs].toArray w fun e w'=>∃H' ls',Le H H' ∧CpxOk H' cad caf (fun _=>False) ls' ∧Nxt (fun _=>False) ls' ∧e = .returned (.bool (prB cad caf n s))∧Hp B H0 H' (cpx lc ls'::L) w':=by
 refine Jx Tryz.func112 rfl 20 rfl rfl [(0,.pointer (some ⟨bc,0,none⟩)),(1,.int .i64 n),(2,vs)] rfl hH ?_;clear hH;have hwc:=hcaf.wfss;have hAc:=isAlg_ok hGc hwc;have h8c:=hAc.hn;have hdc:=alg_112 hGc;have hml:=monL_len cad n;have hcsR:=csS_red (n:=n) hAc h8c hdc;have hcsl:=csS_len (n:=n) hAc h8c hdc;have hbdR:=bdS_red (n:=n) hAc h8c hdc;have hbdl:=bdS_len (n:=n) hAc h8c hdc;have hclR:=clS_red (n:=n) hAc h8c hdc;have hcll:=clS_len (n:=n) hAc h8c hdc;have hvo:=cfR_ok (ds:=cad) (n:=n) ks;have hbo:=byS_ok hvo hbdR.row;have hbl:=hbo.len;refine Je fun _ hK1 _=>(Jb (Jg (Jd rfl) rfl (Jf (Ja (hK1 (Je fun _ hK2 _=>(Jb (Jg (Jc rfl) rfl (Jg (Jc rfl) rfl (Ju fn41 rfl rfl fun w hH=>(atP_c pc0 pc1 pcad pcaf hcad hcaf hdc h8c (by omega) hAc hfit (fun m hm hf=>hom_of hGc hwc h8c hdc (by omega) hf) hCc hNc (hH.front .z)).mono ?_))))))))));rintro _ w ⟨Hf10,ls10,⟨b10,p10,⟨ql10,kl10,cl10⟩,⟨qm10,km10,cm10⟩,⟨qz10,kz10,cz10⟩,⟨qy10,ky10,cy10⟩,⟨qx10,kx10,cx10⟩⟩,hlf10,hC10,hN10,hx10,⟨hL10,hM10,hkp10⟩,rfl,hH⟩;refine ⟨_,rfl,fun a hF=>JH hF hH ?_⟩;replace pc0:=pc0.le hlf10;replace pc1:=pc1.le hlf10;replace pcad:=pcad.le hlf10;replace pcaf:=pcaf.le hlf10;replace hcad:=hcad.le hlf10;replace hcaf:=hcaf.le hlf10;replace hs:=hs.le hlf10;replace hCc:=hCc.le hlf10;obtain rfl:kl10=(monL cad (n)).length:=(hC10.ok _ hx10).one.len;have hpw10:Pows Hf10 ql10 (monL cad (n)):=(hC10.ok _ hx10).one.pw;have hpl10:SumH Hf10 (.map (some p10)) (plM (monL cad (n))):=(hC10.ok _ hx10).one.pl;obtain ⟨e2,hb10⟩:ky10=(bdS cad caf (n)).length∧RowsR Hf10 qy10 (bdS cad caf (n)):=hL10.1;subst e2;refine Jg (Jd rfl) rfl (Jf (Ja (hK2 (Je fun _ hK3 _=>(Ea (Rs:=[_]) 10 [[], [], [0,1], [], [3], [3,4], [3,4,5], [0,1,2,3,4,5,6], [0,1,2,3,4,5,6,7], [0,1,2,3,4,5,6,7,8]] [[], [], [10], [], [], [], [10], [2], [7], []] [[], [], [], [], [], [], [], [], [], []] rfl rfl (by kernel_rfl) ?_)))));apply Ji 1 rfl rfl rfl
 ·intros;conv=>lhs;simp only [Jh,reduceEqDiff,reduceAdd]
 ·exact Jc rfl
 apply Ji 2 rfl rfl rfl
 ·intros;conv=>lhs;simp only [Jh,reduceEqDiff,reduceAdd]
 ·exact Jc rfl
 apply JR 3 rfl
 ·intros;conv=>lhs;simp only [Jh,reduceEqDiff,reduceAdd]
 ·
  intro gh X K zq zc zq2 zc2 zb zv hK;refine Ju fn81 rfl rfl fun w hH=>hH.lend .z fun Hl1 hle1 hA1 hB1 hH=>(row_c (cpx_cell hx10 hA1 rfl) (cpx_cell hx10 hA1 rfl) (hs.le hle1) ks (hpw10.le hle1) (hpl10.le hle1) (monL_nodup h8c _) (by omega) hin (by omega) hH).mono ?_;rintro _ w ⟨qo13,co13,rfl,hH⟩;replace hH:=hB1 _ _ hH;refine ⟨_,rfl,fun a hF=>JH hF hH ?_⟩;refine Jw .z (Jw (.s .z) (Jy ?_));exact hK qo13 co13 zq2 zc2 zb zv
 ·intro gh gh' h;refine ⟨?_,?_⟩ <;> rfl
 apply Ji 4 rfl rfl rfl
 ·intros;conv=>lhs;simp only [Jh,reduceEqDiff,reduceAdd]
 ·exact Jc rfl
 apply Ji 5 rfl rfl rfl
 ·intros;conv=>lhs;simp only [Jh,reduceEqDiff,reduceAdd]
 ·exact Jv rfl
 apply Ji 6 rfl rfl rfl
 ·intros;conv=>lhs;simp only [Jh,reduceEqDiff,reduceAdd]
 ·exact Jl u88 rfl sz31 rfl
 apply Ji 7 rfl rfl rfl
 ·intros;conv=>lhs;simp only [Jh,reduceEqDiff,reduceAdd]
 ·exact ES (b:=b10) (k:=4) (v:=.slice qy10 (bdS cad caf (n)).length cy10) rfl At.z hx10 rfl rfl pl31
 apply JR 8 rfl
 ·intros;conv=>lhs;simp only [Jh,reduceEqDiff,reduceAdd]
 ·
  intro gh X K zq zc zq2 zc2 zb zv hK;refine Ju fn78 rfl rfl fun w hH=>hH.lend .z fun Hl1 hle1 hA1 hB1 hH=>(reduceBy_c (own_ints hA1) (hb10.le hle1) (hvo) hbdR.led (by omega) (by omega) hH).mono ?_;rintro _ w ⟨qo18,co18,rfl,hH⟩;replace hH:=hB1 _ _ hH;refine ⟨_,rfl,fun a hF=>JH hF hH ?_⟩;refine Jw .z (Jw (.s .z) (Jy ?_));exact hK qo18 co18 zq2 zc2 zb zv
 ·intro gh gh' h;refine ⟨?_,?_⟩ <;> (first | simp only [h 2 rfl] | rfl)
 apply Ez 9 rfl
 ·intros;conv=>lhs;simp only [Jh,reduceEqDiff,reduceAdd]
 ·
  intro gh X K zq zc zq2 zc2 zb zv hK;refine Ju fn122 rfl rfl fun w hH=>hH.lend .z fun Hl1 hle1 hA1 hB1 hH=>(isZero_c (own_ints hA1) (by omega) hH).mono ?_;rintro _ w ⟨rfl,hH⟩;replace hH:=hB1 _ _ hH;refine ⟨_,rfl,fun a hF=>JH hF hH ?_⟩;refine Jy ?_;exact hK zq zc zq2 zc2 zb zv
 ·intro gh gh' h;first | simp only [h 2 rfl,h 7 rfl] | rfl
 apply Ef 10 rfl rfl rfl
 ·intros;conv=>lhs;simp only [Jh,reduceEqDiff,reduceAdd]
 ·exact Jd rfl
 ·intro gh gh' h;first | simp only [h 2 rfl,h 7 rfl] | rfl
 apply JZ [0,1,2,3,4,5,6,7,8,9] [0,1,2,3,4,5,6,7,8,9,10] foll0 rfl rfl rfl (by rfl)
 iterate 2 focus (intros;(conv=>lhs;simp only [JU,Ej,Ka,El,Es,eq_self,reduceEqDiff,reduceIte,reduceSub,reduceAdd,JxA,JxB]);all_goals rfl)
 intro gh;generalize (gh 2).c=co13;generalize (gh 2).q=qo13;generalize (gh 7).c=co18;generalize (gh 7).q=qo18;clear gh;refine Ja (hK3 (Jt (Jr rfl (Res.tmp rfl) fun w hH=>?_)));replace hH:=hH.sublist (.cons _ (.cons _ (.cons_cons _ (List.Sublist.refl _))));exact ⟨_,_,hlf10,hC10,hN10,rfl,hH⟩
def KCx (cad:List Int) (caf:List (List Term)) (lc:Nat):HP→SA→Prop:=fun F A=>∃ls',CpxOk F cad caf (fun _=>False) ls' ∧Nxt (fun _=>False) ls' ∧A=cpx lc ls'
section
variable {B : World} {H0 H : HP} {L : List SA} {w : World} {bc lc bca : Nat} {qcad qcaf : Option Addr} {ccad ccaf : Nat} {cad : List Int} {caf : List (List Term)} {n : Int} {v : Value} {Ms : Int} {s : Sm}
theorem isBoundary_m1 {ls:List (Int × Lv)} (pc0:CellAt H bc 0 (.pointer (some ⟨bca,0,none⟩))) (pc1:CellAt H bc 1 (.map (some lc))) (pcad:CellAt H bca 0 (.slice qcad cad.length ccad)) (pcaf:CellAt H bca 1 (.slice qcaf caf.length ccaf)) (hcad:Ints H qcad cad) (hcaf:Forms H qcaf caf) (hs:SumH H v s) (ks:Sok Ms s) (hGc:isAlg cad caf=true) (hn:0≤n∧n≤39) (hfit:fitP cad n) (hC:CpxOk H cad caf (fun _=>False) ls) (hN:Nxt (fun _=>False) ls) (hM:Ms≤1000000) (hin : ∀x∈s,x.1∈monL cad n) (hH:Hp B H0 H (cpx lc ls::L) w) :
 Calls Tryz.prog 112 [.pointer (some ⟨bc,0,none⟩),.int .i64 n,v].toArray w fun e w'=>∃vs,e = .returned (.bool (prB cad caf n s))∧Hp B H0 H (mltA (KCx cad caf lc) H vs::L) w':=
 (isBoundaryP_c pc0 pc1 pcad pcaf hcad hcaf hs ks hGc hn hfit hC hN hM hin hH).mono fun e w' ⟨H',ls',hle,hC',hN',he,hH'⟩=>by
  obtain ⟨vs,hv⟩:=Hp.meltA hH hH' hle (K:=KCx cad caf lc) ⟨ls',hC',hN',rfl⟩
  exact ⟨vs,he,hv⟩
theorem isBoundary_m2 {vs:Vs} (pc0:CellAt H bc 0 (.pointer (some ⟨bca,0,none⟩))) (pc1:CellAt H bc 1 (.map (some lc))) (pcad:CellAt H bca 0 (.slice qcad cad.length ccad)) (pcaf:CellAt H bca 1 (.slice qcaf caf.length ccaf)) (hcad:Ints H qcad cad) (hcaf:Forms H qcaf caf) (hs:SumH H v s) (ks:Sok Ms s) (hGc:isAlg cad caf=true) (hn:0≤n∧n≤39) (hfit:fitP cad n) (hM:Ms≤1000000) (hin : ∀x∈s,x.1∈monL cad n) (hH:Hp B H0 H (mltA (KCx cad caf lc) H vs::L) w):Calls Tryz.prog 112 [.pointer (some ⟨bc,0,none⟩),.int .i64 n,v].toArray w fun e w'=>∃vs,e = .returned (.bool (prB cad caf n s))∧Hp B H0 H (mltA (KCx cad caf lc) H vs::L) w':=by
 obtain ⟨F,A,hle,⟨ls,hC,hN,rfl⟩,h1⟩:=hH.unmeltA;refine (isBoundaryP_c (pc0.le hle) (pc1.le hle) (pcad.le hle) (pcaf.le hle) (hcad.le hle) (hcaf.le hle) (hs.le hle) ks hGc hn hfit hC hN hM hin h1).mono fun e w' ⟨H',ls',hle',hC',hN',he,hH'⟩=>?_;obtain ⟨vs,hv⟩:=Hp.meltA hH hH' (hle.trans hle') (K:=KCx cad caf lc) ⟨ls',hC',hN',rfl⟩;exact ⟨vs,he,hv⟩
end
theorem primitive_c {B:World} {H0 H:HP} {L:List SA} {w:World} {bc lc:Nat} {bca:Nat} {qcad qcaf:Option Addr} {ccad ccaf:Nat} {cad:List Int} {caf:List (List Term)} {lsc:List (Int × Lv)} {n:Int} {vs:Value} {Ms:Int} {s:Sm} (pc0:CellAt H bc 0 (.pointer (some ⟨bca,0,none⟩))) (pc1:CellAt H bc 1 (.map (some lc))) (pcad:CellAt H bca 0 (.slice qcad cad.length ccad)) (pcaf:CellAt H bca 1 (.slice qcaf caf.length ccaf)) (hcad:Ints H qcad cad) (hcaf:Forms H qcaf caf) (hs:SumH H vs s) (ks:Sok Ms s) (hGc:isAlg cad caf=true) (hn:1≤n∧n≤39) (hfit:fit3 cad (n - 1)) (hCc:CpxOk H cad caf (fun _=>False) lsc) (hNc:Nxt (fun _=>False) lsc) (hpos:0<(matS cad caf (n - 1)).length) (hM:Ms≤1000000) (hin : ∀x∈s,x.1∈monL cad n) (hH:Hp B H0 H (cpx lc lsc::L) w):Calls Tryz.prog 141 [.pointer (some ⟨bc,0,none⟩),.int .i64 n,vs].toArray w fun e w'=>∃H' ls' b,Le H H' ∧CpxOk H' cad caf (fun _=>False) ls' ∧Nxt (fun _=>False) ls' ∧e = .returned (.map (some b))∧Hp B H0 H' (cpx lc ls'::L) w':=by
 refine Jx Tryz.func141 rfl 107 rfl rfl [(0,.pointer (some ⟨bc,0,none⟩)),(1,.int .i64 n),(2,vs)] rfl hH ?_;clear hH;have hwc:=hcaf.wfss;have hAc:=isAlg_ok hGc hwc;have h8c:=hAc.hn;have hdc:=alg_112 hGc;have hml:=monL_len cad n;have hmlm:=monL_len cad (n - 1);have hmlen:=matS_len cad caf (n - 1);have hmok:=matS_ok (n:=n - 1) hAc h8c hdc;rw [Int.sub_add_cancel] at hmok;have hclR:=clS_red (n:=n - 1) hAc h8c hdc;have hcll:=clS_len (n:=n - 1) hAc h8c hdc;have hvo:=cfR_ok (ds:=cad) (n:=n) ks;have hRR:=(redS_ok (wdS_ok (n:=(matS cad caf (n - 1)).length) hmok)).1;have hRc:=hRR.count;refine Je fun _ hK1 _=>(Jb (Jg (Jd rfl) rfl (Jf (Ja (hK1 (Je fun _ hK2 _=>(Jb (Jg (Jc rfl) rfl (Jg (Jc rfl) rfl (Jg (EH rfl rfl (by first | exact nw _ (by omega) | rfl)) rfl (Ju fn41 rfl rfl fun w hH=>(at_c pc0 pc1 pcad pcaf hcad hcaf hdc h8c (by omega) hAc hfit (fun m hm hf=>hom_of hGc hwc h8c hdc (by omega) hf) hCc hNc (hH.front .z)).mono ?_)))))))))));rintro _ w ⟨Hf21,ls21,⟨b21,p21,⟨ql21,kl21,cl21⟩,⟨qm21,km21,cm21⟩,⟨qz21,kz21,cz21⟩,⟨qy21,ky21,cy21⟩,⟨qx21,kx21,cx21⟩⟩,hlf21,hC21,hN21,hx21,⟨hL21,hM21,hkp21⟩,rfl,hH⟩;refine ⟨_,rfl,fun a hF=>JH hF hH ?_⟩;replace pc0:=pc0.le hlf21;replace pc1:=pc1.le hlf21;replace pcad:=pcad.le hlf21;replace pcaf:=pcaf.le hlf21;replace hcad:=hcad.le hlf21;replace hcaf:=hcaf.le hlf21;replace hs:=hs.le hlf21;replace hCc:=hCc.le hlf21;obtain rfl:kl21=(monL cad (n - 1)).length:=(hC21.ok _ hx21).one.len;have hpw21:Pows Hf21 ql21 (monL cad (n - 1)):=(hC21.ok _ hx21).one.pw;have hpl21:SumH Hf21 (.map (some p21)) (plM (monL cad (n - 1))):=(hC21.ok _ hx21).one.pl;obtain ⟨⟨e1,hz21⟩,⟨e2,hb21⟩,e3,hs21⟩:(kz21=(clS cad caf (n - 1)).length∧RowsR Hf21 qz21 (clS cad caf (n - 1)))∧(ky21=(bdS cad caf (n - 1)).length∧RowsR Hf21 qy21 (bdS cad caf (n - 1)))∧kx21=(csS cad caf (n - 1)).length∧RowsR Hf21 qx21 (csS cad caf (n - 1)):=hL21;subst e1 e2 e3;obtain ⟨e21,hm21⟩:km21=(matS cad caf (n - 1)).length∧RowsR Hf21 qm21 (matS cad caf (n - 1)):=hM21;subst e21;obtain ⟨⟨bn,pn,⟨qln,kln,cln⟩,⟨qmn,kmn,cmn⟩,⟨qzn,kzn,czn⟩,⟨qyn,kyn,cyn⟩,⟨qxn,kxn,cxn⟩⟩,hxn⟩:=key_mem (hN21 _ hx21 (fun h=>h) (hm21.sm (i:=0) hpos));rw [show n - 1+1=n from Int.sub_add_cancel n 1] at hxn;obtain rfl:kln=(monL cad n).length:=(hC21.ok _ hxn).one.len;have hpwn:Pows Hf21 qln (monL cad n):=(hC21.ok _ hxn).one.pw;have hpln:SumH Hf21 (.map (some pn)) (plM (monL cad n)):=(hC21.ok _ hxn).one.pl;refine Jg (Jd rfl) rfl (Jf (Ja (hK2 (Je fun _ hK3 _=>(Ea (Rs:=[_]) 10 [[], [], [], [1,2], [1,2,3], [1,2,3,4], [1,2,3,4,5], [1,2,3,4,5,6], [0,1,2,3], [0,1,2,3,4,5,6,7,8]] [[], [], [], [10], [], [], [10], [], [], []] [[], [], [], [], [], [], [], [], [], []] rfl rfl (by kernel_rfl) ?_)))));apply JR 1 rfl
 ·intros;conv=>lhs;simp only [Jh,reduceEqDiff,reduceAdd]
 ·
  intro gh X K zq zc zq2 zc2 zb zv hK;refine EI (EP u31 sz22) rfl fun qo22 co22=>(Jy ?_);exact hK qo22 co22 zq2 zc2 zb zv
 ·intro gh gh' h;refine ⟨?_,?_⟩ <;> rfl
 apply Ji 2 rfl rfl rfl
 ·intros;conv=>lhs;simp only [Jh,reduceEqDiff,reduceAdd]
 ·exact Jc rfl
 apply Ji 3 rfl rfl rfl
 ·intros;conv=>lhs;simp only [Jh,reduceEqDiff,reduceAdd]
 ·exact Jc rfl
 apply Ez 4 rfl
 ·intros;conv=>lhs;simp only [Jh,reduceEqDiff,reduceAdd]
 ·
  intro gh X K zq zc zq2 zc2 zb zv hK;refine Ju fn77 rfl rfl fun w hH=>(bareK_c (n:=n) pc0 pc1 pcad pcaf hcad hcaf (by omega) (cpx_look hC21.nd hxn) (hH.front .z).unstar).mono ?_;rintro _ w ⟨rfl,hH⟩;replace hH:=Hp.star hH;refine ⟨_,rfl,fun a hF9=>JH hF9 hH ?_⟩;refine Jy ?_;exact hK zq zc zq2 zc2 zb zv
 ·intro gh gh' h;rfl
 apply Ji 5 rfl rfl rfl
 ·intros;conv=>lhs;simp only [Jh,reduceEqDiff,reduceAdd]
 ·exact Jv rfl
 apply Ji 6 rfl rfl rfl
 ·intros;conv=>lhs;simp only [Jh,reduceEqDiff,reduceAdd]
 ·exact Jl u88 rfl sz85 rfl
 apply Ji 7 rfl rfl rfl
 ·intros;conv=>lhs;simp only [Jh,reduceEqDiff,reduceAdd]
 ·exact ES (b:=bn) (k:=0) (v:=.slice qln (monL cad n).length cln) rfl At.z hxn rfl rfl pl85
 apply Ji 8 rfl rfl rfl
 ·intros;conv=>lhs;simp only [Jh,reduceEqDiff,reduceAdd]
 ·exact Jo u85 rfl rfl
 apply Ef 9 rfl rfl rfl
 ·intros;conv=>lhs;simp only [Jh,reduceEqDiff,reduceAdd]
 ·exact Jd rfl
 ·intro gh gh' h;first | simp only [h 0 rfl] | rfl
 apply Ef 10 rfl rfl rfl
 ·intros;conv=>lhs;simp only [Jh,reduceEqDiff,reduceAdd]
 ·exact Jd rfl
 ·intro gh gh' h;first | simp only [h 0 rfl] | rfl
 apply JZ [0,1,2,3,4,5,6,7,8,9] [0,1,2,3,4,5,6,7,8,9,10] foll0 rfl rfl rfl (by rfl)
 iterate 2 focus (intros;(conv=>lhs;simp only [JU,Ej,Ka,El,Es,eq_self,reduceEqDiff,reduceIte,reduceSub,reduceAdd,JxA,JxB]);all_goals rfl)
 intro gh;generalize (gh 0).c=co22;generalize (gh 0).q=qo22;clear gh;refine Ja (hK3 (Je fun _ hK4 _=>(Je fun _ hK5 _=>(Jb (Jg (Jc rfl) rfl (Jg (Jv rfl) rfl (Jg (Jl u88 rfl sz31 rfl) rfl (Jg (ES (b:=b21) (k:=2) (v:=.slice qm21 (matS cad caf (n - 1)).length cm21) rfl (.s .z) hx21 rfl rfl pl31) rfl (Jg (Jo u31 rfl rfl) rfl (Jg (Jc rfl) rfl (Jf (Ja (hK5 (Jp (JD (σ:=HP × Option Addr × Nat × List Value × Nat) (fun ⟨Hk,q,c,vals,k⟩=>[(35,.int .i64 (k:Int)),(8,.slice q k c)]) (fun ⟨Hk,q,c,vals,k⟩=>Hk) (fun ⟨Hk,q,c,vals,k⟩=>own 22 1 q k c vals::cpx lc ls21::L) (fun ⟨Hk,q,c,vals,k⟩=>Le Hf21 Hk∧SlF Hk vals (wdK (matS cad caf (n - 1)) (matS cad caf (n - 1)).length k)∧k≤(matS cad caf (n - 1)).length) (fun ⟨Hk,q,c,vals,k⟩=>(matS cad caf (n - 1)).length - k) (Hf21,qo22,co22, [],0) ⟨Le.refl _,SlF.nil _,by omega⟩ ⟨rfl,⟨rfl,trivial⟩⟩ rfl rfl ?_)))))))))))))));rintro ⟨Hk,q,c,vals,k⟩ ⟨hlk,hS,hk⟩ _ hAg0;replace pc0:=pc0.le hlk;replace pc1:=pc1.le hlk;replace pcad:=pcad.le hlk;replace pcaf:=pcaf.le hlk;replace hcad:=hcad.le hlk;replace hcaf:=hcaf.le hlk;replace hs:=hs.le hlk;replace hCc:=hCc.le hlk;replace hC21:=hC21.le hlk;replace hpw21:=hpw21.le hlk;replace hpl21:=hpl21.le hlk;replace hz21:=hz21.le hlk;replace hb21:=hb21.le hlk;replace hs21:=hs21.le hlk;replace hm21:=hm21.le hlk;replace hpwn:=hpwn.le hlk;replace hpln:=hpln.le hlk;refine Je fun _ hK6 _=>(Jb (Jg (JJ rfl rfl) rfl (Jf (Ja (hK6 (Je fun _ hK7 _=>(Jq rfl (fun h36=>?_) (fun h36=>?_))))))))
 ·
  have hk1:k<(matS cad caf (n - 1)).length:=by omega
  have hrk:=(hmok _ (rw_mem hk1)).len;refine Jn (Ja (hK7 (Je fun _ hK8 _=>(Jp (Je fun _ hK9 _=>(Jb (Jg (Jc rfl) rfl (Jg (JL u31 sz22 rfl rfl rfl hk1 hm21.sm) rfl ?_))))))));obtain ⟨qe39,ce39,he39,le39,Fe39⟩:=hm21 k hk1;refine Jg (JE rfl he39 pl22) rfl (Jg (Jd rfl) rfl (Jg (Jd rfl) rfl (Jf (Ja (hK9 (Je fun _ hK10 _=>(Jb (Jg (Jc rfl) rfl (Jg (Jv rfl) rfl (Jg (Jl u88 rfl sz85 rfl) rfl (Jg (ES (b:=b21) (k:=0) (v:=.slice ql21 (monL cad (n - 1)).length cl21) rfl (.s .z) hx21 rfl rfl pl85) rfl (Jg (Jo u85 rfl rfl) rfl (EI (MK.makeI (m:=(matS cad caf (n - 1)).length) u22 ze2 sz2 by2 rfl rfl (by rw [matS_len]) (by rw [matS_len]) (by omega)) rfl fun qo45 co45=>(Jg (Jd rfl) rfl (Jf ?_)))))))))))))));refine Ja (hK10 (Je fun _ hK11 _=>(Jb (Jg (Jc rfl) rfl (Jg (Jc rfl) rfl (Jg (Eu u22 sz2 rfl rfl rfl (by simp;omega) At.z) rfl (ET rfl rfl sz2 (by simp;omega) At.z (Ev .z fun Ho45 hleo45 hAo45=>?_))))))));replace pc0:=pc0.le hleo45;replace pc1:=pc1.le hleo45;replace pcad:=pcad.le hleo45;replace pcaf:=pcaf.le hleo45;replace hcad:=hcad.le hleo45;replace hcaf:=hcaf.le hleo45;replace hs:=hs.le hleo45;replace hCc:=hCc.le hleo45;replace hC21:=hC21.le hleo45;replace hpw21:=hpw21.le hleo45;replace hpl21:=hpl21.le hleo45;replace hz21:=hz21.le hleo45;replace hb21:=hb21.le hleo45;replace hs21:=hs21.le hleo45;replace hm21:=hm21.le hleo45;replace hpwn:=hpwn.le hleo45;replace hpln:=hpln.le hleo45;replace hS:=hS.le hleo45;replace Fe39:=Fe39.le hleo45;have hxo45:=own_ints hAo45;have hco45:=own_le hAo45;refine Jf (Ja (hK11 (Jb (Jg (Jc rfl) rfl (Jg (Jc rfl) rfl (Jg (Ep (v':=.slice qo45 (uniR (matS cad caf (n - 1)).length k).length co45) (by rw [uniR_len,List.length_replicate]) (Jc rfl)) rfl (J.lit2 u31 ze22 sz22 rfl rfl rfl rfl rfl fun g52=>(Ev .z fun H52 hle52 hA52=>?_))))))));replace pc0:=pc0.le hle52;replace pc1:=pc1.le hle52;replace pcad:=pcad.le hle52;replace pcaf:=pcaf.le hle52;replace hcad:=hcad.le hle52;replace hcaf:=hcaf.le hle52;replace hs:=hs.le hle52;replace hCc:=hCc.le hle52;replace hC21:=hC21.le hle52;replace hpw21:=hpw21.le hle52;replace hpl21:=hpl21.le hle52;replace hz21:=hz21.le hle52;replace hb21:=hb21.le hle52;replace hs21:=hs21.le hle52;replace hm21:=hm21.le hle52;replace hpwn:=hpwn.le hle52;replace hpln:=hpln.le hle52;replace hS:=hS.le hle52;replace Fe39:=Fe39.le hle52;replace hxo45:=hxo45.le hle52;have hxu:Ints H52 qo45 (uniR (matS cad caf (n - 1)).length k):=hxo45;have hx52:=obj_rows2 hA52 Fe39 hxu le39 (by rw [uniR_len];simpa using hco45);refine Ju fn121 rfl rfl fun w hH=>(Concat_2 (xs:=rw_ (matS cad caf (n - 1)) k) (ys:=uniR (matS cad caf (n - 1)).length k) hx52 (by rw [uniR_len];omega) hH).mono ?_;rintro _ w ⟨qo53,co53,rfl,hH⟩;refine ⟨_,rfl,fun a hF=>JH hF hH ?_⟩;refine Ev .z fun Ho53 hleo53 hAo53=>?_;replace pc0:=pc0.le hleo53;replace pc1:=pc1.le hleo53;replace pcad:=pcad.le hleo53;replace pcaf:=pcaf.le hleo53;replace hcad:=hcad.le hleo53;replace hcaf:=hcaf.le hleo53;replace hs:=hs.le hleo53;replace hCc:=hCc.le hleo53;replace hC21:=hC21.le hleo53;replace hpw21:=hpw21.le hleo53;replace hpl21:=hpl21.le hleo53;replace hz21:=hz21.le hleo53;replace hb21:=hb21.le hleo53;replace hs21:=hs21.le hleo53;replace hm21:=hm21.le hleo53;replace hpwn:=hpwn.le hleo53;replace hpln:=hpln.le hleo53;replace hS:=hS.le hleo53;replace Fe39:=Fe39.le hleo53;replace hxo45:=hxo45.le hleo53;replace hx52:=hx52.le hleo53;have hxo53:=own_ints hAo53;have hco53:=own_le hAo53;refine EI (EN u31 ze22 sz22 rfl rfl) rfl fun qo54 co54=>(EG u31 ze22 sz22 by22 rfl rfl rfl rfl (by omega) .z At.z (fun _ _=>At.z) rfl fun qo55 co55=>?_);have hS2:=hS.snoc hxo53 rfl hco53;refine Jg (Jd rfl) rfl (Jf (JF (Ja (hK8 (Jb (Jg (Jz rfl rfl (by first | exact nw _ (by omega) | rfl)) rfl (Jg (Jc rfl) rfl (Jf (Ja (JN .z ?_))))))))));exact hAg0 (Ho53,qo55,co55,_,k+1) ⟨(((hlk.trans hleo45).trans hle52).trans hleo53),by rw [wdK_succ];exact hS2,by omega⟩ (by show (matS cad caf (n - 1)).length - (k+1)<(matS cad caf (n - 1)).length - k;omega) 28 rfl rfl ⟨rfl,⟨rfl,trivial⟩⟩ rfl rfl
 ·
  refine JG (Jj (Jj (JK (Ja (hK4 (Je fun _ hK12 _=>(Ea (Rs:=[_,_]) 12 [[], [], [0,1], [], [0,1,2,3], [], [5], [5,6], [5,6,7], [5,6,7,8], [0,1,2,3,4,5,6,7,8,9], [0,1,2,3,4,5,6,7,8,9,10]] [[], [], [13], [], [13], [], [], [], [13], [], [], []] [[], [], [], [], [], [], [], [], [], [], [4], []] rfl rfl (by kernel_rfl) ?_)))))));apply Ji 1 rfl rfl rfl
  ·intros;conv=>lhs;simp only [Jh,reduceEqDiff,reduceAdd]
  ·exact Jc rfl
  apply Ji 2 rfl rfl rfl
  ·intros;conv=>lhs;simp only [Jh,reduceEqDiff,reduceAdd]
  ·exact Jc rfl
  apply Ez 3 rfl
  ·intros;conv=>lhs;simp only [Jh,reduceEqDiff,reduceAdd]
  ·
   intro gh X K zq zc zq2 zc2 zb zv hK;refine Ju fn77 rfl rfl fun w hH=>(bareK_c (n:=n) pc0 pc1 pcad pcaf hcad hcaf (by omega) (cpx_look hC21.nd hxn) (hH.front .z).unstar).mono ?_;rintro _ w ⟨rfl,hH⟩;replace hH:=Hp.star hH;refine ⟨_,rfl,fun a hF9=>JH hF9 hH ?_⟩;refine Jy ?_;exact hK zq zc zq2 zc2 zb zv
  ·intro gh gh' h;rfl
  apply Ji 4 rfl rfl rfl
  ·intros;conv=>lhs;simp only [Jh,reduceEqDiff,reduceAdd]
  ·exact Jc rfl
  apply JR 5 rfl
  ·intros;conv=>lhs;simp only [Jh,reduceEqDiff,reduceAdd]
  ·
   intro gh X K zq zc zq2 zc2 zb zv hK;refine Ju fn81 rfl rfl fun w hH=>hH.lend .z fun Hl1 hle1 hA1 hB1 hH=>(row_c (cpx_cell hxn hA1 rfl) (cpx_cell hxn hA1 rfl) (hs.le hle1) ks (hpwn.le hle1) (hpln.le hle1) (monL_nodup h8c _) (by omega) hin (by omega) hH).mono ?_;rintro _ w ⟨qo61,co61,rfl,hH⟩;replace hH:=hB1 _ _ hH;refine ⟨_,rfl,fun a hF=>JH hF hH ?_⟩;refine Jw .z (Jw (.s .z) (Jy ?_));exact hK qo61 co61 zq2 zc2 zb zv
  ·intro gh gh' h;refine ⟨?_,?_⟩ <;> rfl
  apply Ji 6 rfl rfl rfl
  ·intros;conv=>lhs;simp only [Jh,reduceEqDiff,reduceAdd]
  ·exact Jc rfl
  apply Ji 7 rfl rfl rfl
  ·intros;conv=>lhs;simp only [Jh,reduceEqDiff,reduceAdd]
  ·exact Jv rfl
  apply Ji 8 rfl rfl rfl
  ·intros;conv=>lhs;simp only [Jh,reduceEqDiff,reduceAdd]
  ·exact Jl u88 rfl sz85 rfl
  apply Ji 9 rfl rfl rfl
  ·intros;conv=>lhs;simp only [Jh,reduceEqDiff,reduceAdd]
  ·exact ES (b:=b21) (k:=0) (v:=.slice ql21 (monL cad (n - 1)).length cl21) rfl At.z hx21 rfl rfl pl85
  apply Ji 10 rfl rfl rfl
  ·intros;conv=>lhs;simp only [Jh,reduceEqDiff,reduceAdd]
  ·exact Jo u85 rfl rfl
  apply JR 11 rfl
  ·intros;conv=>lhs;simp only [Jh,reduceEqDiff,reduceAdd]
  ·
   intro gh X K zq zc zq2 zc2 zb zv hK;refine J.appendZ (m:=(matS cad caf (n - 1)).length) u22 u3 ze2 sz2 by2 rfl rfl rfl (by rw [matS_len]) (by omega) (by simp;omega) At.z (fun _ _=>At.z) rfl fun qo67 co67=>(Jy ?_);exact hK qo67 co67 zq2 zc2 zb zv
  ·intro gh gh' h;refine ⟨?_,?_⟩ <;> (first | simp only [h 4 rfl] | rfl)
  apply Ef 12 rfl rfl rfl
  ·intros;conv=>lhs;simp only [Jh,reduceEqDiff,reduceAdd]
  ·exact Jd rfl
  ·intro gh gh' h;first | simp only [h 4 rfl,h 10 rfl] | rfl
  apply JZ [0,1,2,3,4,5,6,7,8,9,10,11] [0,1,2,3,5,6,7,8,9,10,11,12,13] foll0 rfl rfl rfl (by rfl)
  iterate 2 focus (intros;(conv=>lhs;simp only [JU,Ej,Ka,El,Es,eq_self,reduceEqDiff,reduceIte,reduceSub,reduceAdd,JxA,JxB]);all_goals rfl)
  intro gh;generalize (gh 4).c=co61;generalize (gh 4).q=qo61;generalize (gh 10).c=co67;generalize (gh 10).q=qo67;clear gh;refine Ja (hK12 (Je fun _ hK13 _=>(Je fun _ hK14 _=>(Jb (Jg (Ep (v':=.slice q (wdS (matS cad caf (n - 1)) (matS cad caf (n - 1)).length).length c) (by rw [show (wdS (matS cad caf (n - 1)) (matS cad caf (n - 1)).length).length=(matS cad caf (n - 1)).length from wdK_len _ _ _,show k=(matS cad caf (n - 1)).length by omega]) (Jc rfl)) rfl ?_)))))
  obtain rfl:k=(matS cad caf (n - 1)).length:=by omega
  refine Ev (.s .z) fun Ho22 hleo22 hAo22=>?_;replace pc0:=pc0.le hleo22;replace pc1:=pc1.le hleo22;replace pcad:=pcad.le hleo22;replace pcaf:=pcaf.le hleo22;replace hcad:=hcad.le hleo22;replace hcaf:=hcaf.le hleo22;replace hs:=hs.le hleo22;replace hCc:=hCc.le hleo22;replace hC21:=hC21.le hleo22;replace hpw21:=hpw21.le hleo22;replace hpl21:=hpl21.le hleo22;replace hz21:=hz21.le hleo22;replace hb21:=hb21.le hleo22;replace hs21:=hs21.le hleo22;replace hm21:=hm21.le hleo22;replace hpwn:=hpwn.le hleo22;replace hpln:=hpln.le hleo22;replace hS:=hS.le hleo22;have hxo22:=hS.rows (Le.refl _) hAo22;have hco22:=own_le hAo22;rw [show wdK (matS cad caf (n - 1)) (matS cad caf (n - 1)).length (matS cad caf (n - 1)).length=wdS (matS cad caf (n - 1)) (matS cad caf (n - 1)).length from rfl] at hxo22;refine Ju fn46 rfl rfl fun w hH=>(reduce_c (W:=(monL cad n).length+(matS cad caf (n - 1)).length) hxo22 (wdS_ok hmok) (by rw [show (wdS (matS cad caf (n - 1)) (matS cad caf (n - 1)).length).length=(matS cad caf (n - 1)).length from wdK_len _ _ _];omega) (by omega) hH).mono ?_;rintro _ w ⟨qo69,co69,vso69,rfl,hH⟩;refine ⟨_,rfl,fun a hF=>JH hF hH ?_⟩;refine Ev .z fun Ho69 hleo69 hAo69=>?_;replace pc0:=pc0.le hleo69;replace pc1:=pc1.le hleo69;replace pcad:=pcad.le hleo69;replace pcaf:=pcaf.le hleo69;replace hcad:=hcad.le hleo69;replace hcaf:=hcaf.le hleo69;replace hs:=hs.le hleo69;replace hCc:=hCc.le hleo69;replace hC21:=hC21.le hleo69;replace hpw21:=hpw21.le hleo69;replace hpl21:=hpl21.le hleo69;replace hz21:=hz21.le hleo69;replace hb21:=hb21.le hleo69;replace hs21:=hs21.le hleo69;replace hm21:=hm21.le hleo69;replace hpwn:=hpwn.le hleo69;replace hpln:=hpln.le hleo69;replace hS:=hS.le hleo69;replace hxo22:=hxo22.le hleo69;have hxo69:=own_rows hAo69;have hco69:=own_le hAo69.1;refine Jg (Jo u31 rfl rfl) rfl (Jg (Jc rfl) rfl (Jf (Ja (hK14 (Jp (JD (σ:=List Int × Nat) (fun ⟨t,m⟩=>[(71,.int .i64 (m:Int)),(13,.slice qo67 t.length co67)]) (fun ⟨t,m⟩=>Ho69) (fun ⟨t,m⟩=>own 2 1 qo67 t.length co67 (intsC t)::cpx lc ls21::L) (fun ⟨t,m⟩=>RowOk ((monL cad n).length+(matS cad caf (n - 1)).length) t∧m≤(redS (wdS (matS cad caf (n - 1)) (matS cad caf (n - 1)).length)).length) (fun ⟨t,m⟩=>(redS (wdS (matS cad caf (n - 1)) (matS cad caf (n - 1)).length)).length - m) (wid ((monL cad n).map (cf s)) (matS cad caf (n - 1)).length,0) ⟨wid_ok hvo,Nat.zero_le _⟩ ⟨rfl,⟨rfl,trivial⟩⟩ rfl rfl ?_))))));rintro ⟨t,m⟩ ⟨ht,hm⟩ _ hAg1;have htl:=ht.len;refine Je fun _ hK15 _=>(Jb (Jg (JJ rfl rfl) rfl (Jf (Ja (hK15 (Je fun _ hK16 _=>(Jq rfl (fun h72=>?_) (fun h72=>?_))))))))
  ·
   have hm1:m<(redS (wdS (matS cad caf (n - 1)) (matS cad caf (n - 1)).length)).length:=by omega
   have hrm:=hRR.led _ (rw_mem hm1);have hrl:=hrm.1.len;have hld:=idxOf_ld (r:=rw_ (redS (wdS (matS cad caf (n - 1)) (matS cad caf (n - 1)).length)) m) (by omega);have htv:=ht.val (ldR (rw_ (redS (wdS (matS cad caf (n - 1)) (matS cad caf (n - 1)).length)) m));have hrle:=hrm.2;refine Jn (Ja (hK16 (Je fun _ hK17 _=>(Jp (Je fun _ hK18 _=>(Jb (Jg (JL u31 sz22 rfl rfl rfl hm1 hxo69.sm) rfl ?_)))))));obtain ⟨qe74,ce74,he74,le74,Fe74⟩:=hxo69 m hm1;refine Jg (JE rfl he74 pl22) rfl (Jg (Jd rfl) rfl (Jf (Ja (hK18 (Je fun _ hK19 _=>(Jb (Jg (Jc rfl) rfl (Ju fn82 rfl rfl fun w hH=>(lead_c Fe74 (by omega) hH).mono ?_))))))));rintro _ w ⟨rfl,hH⟩;refine ⟨_,rfl,fun a hF=>JH hF hH ?_⟩;rw [hld];refine Jg (Jd rfl) rfl (Jf (Ja (hK19 (Je fun _ hK20 _=>(Jb (Jg (Jc rfl) rfl (Jg (Jc rfl) rfl (Jg (JJ rfl rfl) rfl (Jf (Ja (hK20 (Jq rfl (fun h79=>?_) (fun h79=>?_)))))))))))))
   ·
    refine Jb (Jg (Jc rfl) rfl (Jg (Jc rfl) rfl (Jg (Jc rfl) rfl (Jg (Jc rfl) rfl (Jg (Eu u22 sz2 rfl rfl rfl (by omega) At.z) rfl (Jg (ED rfl At.z (intsC_get (by first | omega | (simp;omega))) pl2) rfl (Ju fn90 rfl rfl fun w hH=>(takeAway_c rfl Fe74 (by omega) hrm.1.val ht.val htv (by omega) (hH.front .z)).mono ?_)))))));rintro _ w ⟨rfl,hH⟩;refine ⟨_,rfl,fun a hF=>JH hF hH ?_⟩;refine Jf (JF (Ja (hK17 (Jb (Jg (Jz rfl rfl (by first | exact nw _ (by omega) | rfl)) rfl (Jg (Jc rfl) rfl (Jf (Ja ?_))))))));exact hAg1 (lessS t (rw_ (redS (wdS (matS cad caf (n - 1)) (matS cad caf (n - 1)).length)) m) (t.getD (ldR (rw_ (redS (wdS (matS cad caf (n - 1)) (matS cad caf (n - 1)).length)) m)) 0),m+1) ⟨ht.less (by rw [hrm.1.len,ht.len]),by show m+1≤_;omega⟩ (by show (redS (wdS (matS cad caf (n - 1)) (matS cad caf (n - 1)).length)).length - (m+1)<(redS (wdS (matS cad caf (n - 1)) (matS cad caf (n - 1)).length)).length - m;omega) 21 rfl rfl ⟨rfl,⟨(by rw [lessS_len];rfl),trivial⟩⟩ rfl (by dsimp only;rw [lessS_len])
   ·
    refine Jn (JF (Ja (hK17 (Jb (Jg (Jz rfl rfl (by first | exact nw _ (by omega) | rfl)) rfl (Jg (Jc rfl) rfl (Jf (Ja ?_))))))));exact hAg1 (t,m+1) ⟨ht,by show m+1≤_;omega⟩ (by show (redS (wdS (matS cad caf (n - 1)) (matS cad caf (n - 1)).length)).length - (m+1)<(redS (wdS (matS cad caf (n - 1)) (matS cad caf (n - 1)).length)).length - m;omega) 14 rfl rfl ⟨rfl,⟨rfl,trivial⟩⟩ rfl rfl
  ·
   refine JG (Jj (Jj (JK (Ja (hK13 (Je fun _ hK21 _=>(Jb (Jg (Jc rfl) rfl (Jg (Jv rfl) rfl (Jg (Jl u88 rfl sz85 rfl) rfl (Jg (ES (b:=b21) (k:=0) (v:=.slice ql21 (monL cad (n - 1)).length cl21) rfl (.s .z) hx21 rfl rfl pl85) rfl (Jg (Jo u85 rfl rfl) rfl (EI (MK.makeI (m:=(monL cad (n - 1)).length) u22 ze2 sz2 by2 rfl rfl rfl rfl (by omega)) rfl fun qo93 co93=>(Jg (Jd rfl) rfl (Jf ?_)))))))))))))));refine Ja (hK21 (Je fun _ hK22 _=>(Jb (Jg (Jc rfl) rfl (Jg (Jc rfl) rfl (Jg (Jc rfl) rfl (Ev (.s .z) fun Ho61 hleo61 hAo61=>?_)))))));replace pc0:=pc0.le hleo61;replace pc1:=pc1.le hleo61;replace pcad:=pcad.le hleo61;replace pcaf:=pcaf.le hleo61;replace hcad:=hcad.le hleo61;replace hcaf:=hcaf.le hleo61;replace hs:=hs.le hleo61;replace hCc:=hCc.le hleo61;replace hC21:=hC21.le hleo61;replace hpw21:=hpw21.le hleo61;replace hpl21:=hpl21.le hleo61;replace hz21:=hz21.le hleo61;replace hb21:=hb21.le hleo61;replace hs21:=hs21.le hleo61;replace hm21:=hm21.le hleo61;replace hpwn:=hpwn.le hleo61;replace hpln:=hpln.le hleo61;replace hS:=hS.le hleo61;replace hxo22:=hxo22.le hleo61;replace hxo69:=hxo69.le hleo61;have hxo61:=own_ints hAo61;have hco61:=own_le hAo61;refine Jg (Ep (v':=.slice (qo67.map fun a=>a.add (monL cad n).length) (t.drop (monL cad n).length).length (co67 - (monL cad n).length)) (by rw [List.length_drop]) (PR.sliceLH (i':=(monL cad n).length) u22 sz2 rfl (hxo61.sm (i:=0) (by omega)) rfl rfl (by omega) (by omega))) rfl (Ju fn90 rfl rfl fun w hH=>(takeAway_c rfl (ints_drop hxo61 (monL cad n).length) (by rw [List.length_drop,List.length_replicate];omega) (RowOk.drop ht).val (fun j=>by rw [rep_get];omega) (by omega) (by simp;omega) (hH.front .z)).mono ?_);rintro _ w ⟨rfl,hH⟩;refine ⟨_,rfl,fun a hF=>JH hF hH ?_⟩;refine Jf (Ja (hK22 (Je fun _ hK23 _=>?_)));have hown:RowOk (monL cad (n - 1)).length (lessS (List.replicate (monL cad (n - 1)).length 0) (t.drop (monL cad n).length) 1):=(RowOk.zeros _).less (by rw [(RowOk.drop ht).len,List.length_replicate];omega);have hbol:=(byS_ok hown hclR.row).len;refine Jb (Jg (Jc rfl) rfl (Jg (Ep (v':=.slice qo93 (lessS (List.replicate (monL cad (n - 1)).length 0) (t.drop (monL cad n).length) 1).length co93) (by rw [lessS_len]) (Jc rfl)) rfl (Jg (Jc rfl) rfl (Jg (Jv rfl) rfl (Jg (Jl u88 rfl sz31 rfl) rfl (Jg (ES (b:=b21) (k:=3) (v:=.slice qz21 (clS cad caf (n - 1)).length cz21) rfl (.s .z) hx21 rfl rfl pl31) rfl (Ju fn78 rfl rfl fun w hH=>hH.lend .z fun Hl1 hle1 hA1 hB1 hH=>(reduceBy_c (W:=(monL cad (n - 1)).length) (own_ints hA1) (hz21.le hle1) (hown) hclR.led (by omega) (by omega) hH).mono ?_)))))));rintro _ w ⟨qo105,co105,rfl,hH⟩;replace hH:=hB1 _ _ hH;refine ⟨_,rfl,fun a hF=>JH hF hH ?_⟩;refine Ju fn80 rfl rfl fun w hH=>hH.lend (.s (.s .z)) fun Hl1 hle1 hA1 hB1 hH=>hH.lend (.s .z) fun Hl2 hle2 hA2 hB2 hH=>(sum_c (M:=20) (cellO_le hle2 (cpx_cell hx21 hA1 rfl)) (cellO_le hle2 (cpx_cell hx21 hA1 rfl)) (own_ints hA2) ((hpw21.le hle1).le hle2) (monL_pok h8c) (by omega) (by omega) (fun j=>by have:=(byS_ok hown hclR.row).val j;omega) (by omega) hH).mono ?_;rintro _ w ⟨bo106,rfl,hH⟩;replace hH:=hB2 _ _ hH;replace hH:=hB1 _ _ hH;refine ⟨_,rfl,fun a hF=>JH hF hH ?_⟩;refine Jg (Jd rfl) rfl (Jf (Ja (hK23 (Jt (Jr rfl (Res.tmp rfl) fun w hH=>?_)))));replace hH:=hH.sublist (.cons_cons _ (.cons _ (.cons _ (.cons _ (List.Sublist.refl _)))));exact ⟨_,_,_,((((hlf21.trans hlk).trans hleo22).trans hleo69).trans hleo61),hC21,hN21,rfl,hH⟩
theorem u120:Tryz.prog.underlying 120=some (TypeDesc.struct #[{name:="c",type:=81,offset:=0,embedded:=false,tag:="",pkgPath:="loop.example/g01219/impl",byteOffset:=0},{name:="x",type:=92,offset:=1,embedded:=false,tag:="",pkgPath:="loop.example/g01219/impl",byteOffset:=8},{name:="y",type:=92,offset:=2,embedded:=false,tag:="",pkgPath:="loop.example/g01219/impl",byteOffset:=16},{name:="z",type:=92,offset:=3,embedded:=false,tag:="",pkgPath:="loop.example/g01219/impl",byteOffset:=24},{name:="p",type:=2,offset:=4,embedded:=false,tag:="",pkgPath:="loop.example/g01219/impl",byteOffset:=32},{name:="q",type:=2,offset:=5,embedded:=false,tag:="",pkgPath:="loop.example/g01219/impl",byteOffset:=40},{name:="r",type:=2,offset:=6,embedded:=false,tag:="",pkgPath:="loop.example/g01219/impl",byteOffset:=48},{name:="u",type:=92,offset:=7,embedded:=false,tag:="",pkgPath:="loop.example/g01219/impl",byteOffset:=56},{name:="v",type:=92,offset:=8,embedded:=false,tag:="",pkgPath:="loop.example/g01219/impl",byteOffset:=64}]):=by kernel_rfl
theorem u81:Tryz.prog.underlying 81=some (TypeDesc.pointer 126):=by kernel_rfl
theorem sz81:Size Tryz.prog 81 1:=by unfold Size;kernel_rfl
theorem pl81:Plain Tryz.prog 81:=⟨_,u81,rfl⟩
theorem fn111:Fn Tryz.prog 111:=⟨_,Tryz.func111,by kernel_rfl,rfl⟩
theorem fn112:Fn Tryz.prog 112:=⟨_,Tryz.func112,by kernel_rfl,rfl⟩
theorem fn113:Fn Tryz.prog 113:=⟨_,Tryz.func113,by kernel_rfl,rfl⟩
theorem fn141:Fn Tryz.prog 141:=⟨_,Tryz.func141,by kernel_rfl,rfl⟩
theorem degree3_c {B:World} {H0 H:HP} {L:List SA} {w:World} {v0:Value} {bt:Nat} {vx vy vz vu vv:Value} {tp tq tr:Int} (hdb:0≤tp∧tp≤100000∧0≤tq∧tq≤100000∧0≤tr∧tr≤100000) (hH:Hp B H0 H (obj bt (.cells [v0,vx,vy,vz,.int .i64 tp,.int .i64 tq,.int .i64 tr,vu,vv].toArray 120 (0,0))::L) w):Calls Tryz.prog 58 [.pointer (some ⟨bt,0,none⟩)].toArray w fun e w'=>e = .returned (.int .i64 (tp+tq+tr - 1))∧Hp B H0 H (obj bt (.cells [v0,vx,vy,vz,.int .i64 tp,.int .i64 tq,.int .i64 tr,vu,vv].toArray 120 (0,0))::L) w':=by
 refine Jx Tryz.func58 rfl 18 rfl rfl [(0,.pointer (some ⟨bt,0,none⟩))] rfl hH ?_;clear hH;refine Je fun _ hK1 _=>(Jb (Jg (Jd rfl) rfl (Jf (Ja (hK1 (Je fun _ hK2 _=>(EC foll0 (by kernel_rfl) (JC (Jc rfl) rfl (JC (Jv rfl) rfl (JC (Jl u120 rfl sz2 rfl) rfl (JC (Js rfl At.z rfl pl2) rfl (JC (Jc rfl) rfl (JC (Jv rfl) rfl (JC (Jl u120 rfl sz2 rfl) rfl (JC (Js rfl At.z rfl pl2) rfl ?_)))))))))))))));refine JC (Jz rfl rfl (by first | exact nw _ (by omega) | rfl)) rfl (JC (Jc rfl) rfl (JC (Jv rfl) rfl (JC (Jl u120 rfl sz2 rfl) rfl (JC (Js rfl At.z rfl pl2) rfl (JC (Jz rfl rfl (by first | exact nw _ (by omega) | rfl)) rfl (JC (EH rfl rfl (by first | exact nw _ (by omega) | rfl)) rfl (JC (Jd rfl) rfl (Ed (Ja (hK2 (Jt (Jr rfl (Res.tmp rfl) fun w hH=>?_))))))))))));replace hH:=hH.sublist (.cons_cons _ (List.Sublist.refl _));exact ⟨rfl,hH⟩
theorem tprim_c {B:World} {H0 H:HP} {L:List SA} {w:World} {n:Int} {vs:Value} {Ms:Int} {s:Sm} {bt:Nat} {vx vy vz vu vv:Value} {tp tq tr:Int} {bc lc:Nat} {bca:Nat} {qcad qcaf:Option Addr} {ccad ccaf:Nat} {cad:List Int} {caf:List (List Term)} {lsc:List (Int × Lv)} (hs:SumH H vs s) (ks:Sok Ms s) (pc0:CellAt H bc 0 (.pointer (some ⟨bca,0,none⟩))) (pc1:CellAt H bc 1 (.map (some lc))) (pcad:CellAt H bca 0 (.slice qcad cad.length ccad)) (pcaf:CellAt H bca 1 (.slice qcaf caf.length ccaf)) (hcad:Ints H qcad cad) (hcaf:Forms H qcaf caf) (hGc:isAlg cad caf=true) (hCc:CpxOk H cad caf (fun _=>False) lsc) (hNc:Nxt (fun _=>False) lsc) (hn:0≤n∧n≤39) (hfit:0<n→fit3 cad (n - 1)) (hpr:prB cad caf n s=true) (hM:Ms≤1000000) (hin : ∀x∈s,x.1∈monL cad n) (hH:Hp B H0 H (obj bt (.cells [.pointer (some ⟨bc,0,none⟩),vx,vy,vz,.int .i64 tp,.int .i64 tq,.int .i64 tr,vu,vv].toArray 120 (0,0))::cpx lc lsc::L) w):Calls Tryz.prog 113 [.pointer (some ⟨bt,0,none⟩),.int .i64 n,vs].toArray w fun e w'=>∃H' ls' b,Le H H' ∧CpxOk H' cad caf (fun _=>False) ls' ∧Nxt (fun _=>False) ls' ∧e = .returned (.map (some b))∧Hp B H0 H' (obj bt (.cells [.pointer (some ⟨bc,0,none⟩),vx,vy,vz,.int .i64 tp,.int .i64 tq,.int .i64 tr,vu,vv].toArray 120 (0,0))::cpx lc ls'::L) w':=by
 refine Jx Tryz.func113 rfl 18 rfl rfl [(0,.pointer (some ⟨bt,0,none⟩)),(1,.int .i64 n),(2,vs)] rfl hH ?_;clear hH;refine Je fun _ hK1 _=>(Jb (Jg (Jd rfl) rfl (Jf (Ja (hK1 (Je fun _ hK2 _=>(Je fun _ hK3 _=>(Jb (Jg (Jc rfl) rfl (Jg (PR.lenH u92 rfl hs rfl) rfl (Jg (EL rfl rfl) rfl (Jf (Ja (hK3 (Jq rfl (fun h9=>?_) (fun h9=>?_))))))))))))))))
 ·
  refine Je fun _ hK4 _=>(Jb (ER pwE (Value.int .i64) pwOk rfl fun bm10=>(Jg (Jd rfl) rfl (Jf (Ja (hK4 (Jt (Jk (Jr rfl (Res.tmp rfl) fun w hH=>?_)))))))));replace hH:=hH.sublist (.cons _ (.cons_cons _ (.cons_cons _ (List.Sublist.refl _))));exact ⟨_,_,_,(Le.refl _),hCc,hNc,rfl,hH⟩
 ·
  have hne:s≠ []:=fun e=>h9 (by rw [e];rfl);obtain ⟨hn0,hpos⟩:=prB_pos ks hin hne hpr;refine Jn (Ja (hK2 (Je fun _ hK5 _=>(Jb (Jg (Jc rfl) rfl (Jg (Jv rfl) rfl (Jg (Jl u120 rfl sz81 rfl) rfl (Jg (Js rfl At.z rfl pl81) rfl (Jg (Jc rfl) rfl (Jg (Jc rfl) rfl (Ju fn141 rfl rfl fun w hH=>(primitive_c pc0 pc1 pcad pcaf hcad hcaf hs ks hGc (by omega) (hfit (by omega)) hCc hNc hpos (by omega) hin (hH.front (.s .z))).mono ?_)))))))))));rintro _ w ⟨Hf17,ls17,bo17,hlf17,hC17,hN17,rfl,hH⟩;refine ⟨_,rfl,fun a hF=>JH hF hH ?_⟩;replace hs:=hs.le hlf17;replace pc0:=pc0.le hlf17;replace pc1:=pc1.le hlf17;replace pcad:=pcad.le hlf17;replace pcaf:=pcaf.le hlf17;replace hcad:=hcad.le hlf17;replace hcaf:=hcaf.le hlf17;replace hCc:=hCc.le hlf17;refine Jg (Jd rfl) rfl (Jf (Ja (hK5 (Jt (Jr rfl (Res.tmp rfl) fun w hH=>?_)))));replace hH:=hH.sublist (.cons_cons _ (.cons_cons _ (List.Sublist.refl _)));exact ⟨_,_,_,hlf17,hC17,hN17,rfl,hH.front (.s .z)⟩
section
variable {B : World} {H0 H : HP} {L : List SA} {w : World} {bt : Nat} {vx vy vz vu vv : Value} {tp tq tr : Int} {bc lc : Nat} {bca : Nat} {qcad qcaf : Option Addr} {ccad ccaf : Nat} {cad : List Int} {caf : List (List Term)} {n : Int} {v : Value} {Ms : Int} {s : Sm}
theorem tprim_m1 {ls:List (Int × Lv)} (hs:SumH H v s) (ks:Sok Ms s) (pc0:CellAt H bc 0 (.pointer (some ⟨bca,0,none⟩))) (pc1:CellAt H bc 1 (.map (some lc))) (pcad:CellAt H bca 0 (.slice qcad cad.length ccad)) (pcaf:CellAt H bca 1 (.slice qcaf caf.length ccaf)) (hcad:Ints H qcad cad) (hcaf:Forms H qcaf caf) (hGc:isAlg cad caf=true) (hC:CpxOk H cad caf (fun _=>False) ls) (hN:Nxt (fun _=>False) ls) (hn:0≤n∧n≤39) (hfit:0<n→fit3 cad (n - 1)) (hpr:prB cad caf n s=true) (hM:Ms≤1000000) (hin : ∀x∈s,x.1∈monL cad n) (hH:Hp B H0 H (obj bt (.cells [.pointer (some ⟨bc,0,none⟩),vx,vy,vz,.int .i64 tp,.int .i64 tq,.int .i64 tr,vu,vv].toArray 120 (0,0))::cpx lc ls::L) w) :
 Calls Tryz.prog 113 [.pointer (some ⟨bt,0,none⟩),.int .i64 n,v].toArray w fun e w'=>∃b vs,e = .returned (.map (some b))∧Hp B H0 H (mltA (KCx cad caf lc) H vs::obj bt (.cells [.pointer (some ⟨bc,0,none⟩),vx,vy,vz,.int .i64 tp,.int .i64 tq,.int .i64 tr,vu,vv].toArray 120 (0,0))::L) w':=
 (tprim_c hs ks pc0 pc1 pcad pcaf hcad hcaf hGc hC hN hn hfit hpr hM hin hH).mono fun e w' ⟨H',ls',b,hle,hC',hN',he,hH'⟩=>by
  obtain ⟨vs,hv⟩:=Hp.meltA hH (hH'.front (.s .z)) hle (K:=KCx cad caf lc) ⟨ls',hC',hN',rfl⟩
  exact ⟨b,vs,he,hv⟩
theorem tprim_m2 {vs:Vs} (hs:SumH H v s) (ks:Sok Ms s) (pc0:CellAt H bc 0 (.pointer (some ⟨bca,0,none⟩))) (pc1:CellAt H bc 1 (.map (some lc))) (pcad:CellAt H bca 0 (.slice qcad cad.length ccad)) (pcaf:CellAt H bca 1 (.slice qcaf caf.length ccaf)) (hcad:Ints H qcad cad) (hcaf:Forms H qcaf caf) (hGc:isAlg cad caf=true) (hn:0≤n∧n≤39) (hfit:0<n→fit3 cad (n - 1)) (hpr:prB cad caf n s=true) (hM:Ms≤1000000) (hin : ∀x∈s,x.1∈monL cad n) (hH:Hp B H0 H (mltA (KCx cad caf lc) H vs::obj bt (.cells [.pointer (some ⟨bc,0,none⟩),vx,vy,vz,.int .i64 tp,.int .i64 tq,.int .i64 tr,vu,vv].toArray 120 (0,0))::L) w):Calls Tryz.prog 113 [.pointer (some ⟨bt,0,none⟩),.int .i64 n,v].toArray w fun e w'=>∃b vs,e = .returned (.map (some b))∧Hp B H0 H (mltA (KCx cad caf lc) H vs::obj bt (.cells [.pointer (some ⟨bc,0,none⟩),vx,vy,vz,.int .i64 tp,.int .i64 tq,.int .i64 tr,vu,vv].toArray 120 (0,0))::L) w':=by
 obtain ⟨F,A,hle,⟨ls,hC,hN,rfl⟩,h1⟩:=hH.unmeltA;refine (tprim_c (hs.le hle) ks (pc0.le hle) (pc1.le hle) (pcad.le hle) (pcaf.le hle) (hcad.le hle) (hcaf.le hle) hGc hC hN hn hfit hpr hM hin (h1.front (.s .z))).mono fun e w' ⟨H',ls',b,hle',hC',hN',he,hH'⟩=>?_;obtain ⟨vs,hv⟩:=Hp.meltA hH (hH'.front (.s .z)) (hle.trans hle') (K:=KCx cad caf lc) ⟨ls',hC',hN',rfl⟩;exact ⟨b,vs,he,hv⟩
end
theorem exists_c {B:World} {H0 H:HP} {L:List SA} {w:World} {bt:Nat} {vx vy vz vu vv:Value} {tp tq tr:Int} {bc lc:Nat} {bca:Nat} {qcad qcaf:Option Addr} {ccad ccaf:Nat} {cad:List Int} {caf:List (List Term)} {lsc:List (Int × Lv)} {x y z:Sm} (pc0:CellAt H bc 0 (.pointer (some ⟨bca,0,none⟩))) (pc1:CellAt H bc 1 (.map (some lc))) (pcad:CellAt H bca 0 (.slice qcad cad.length ccad)) (pcaf:CellAt H bca 1 (.slice qcaf caf.length ccaf)) (hcad:Ints H qcad cad) (hcaf:Forms H qcaf caf) (hx:SumH H vx x) (hy:SumH H vy y) (hz:SumH H vz z) (hGc:isAlg cad caf=true) (hCc:CpxOk H cad caf (fun _=>False) lsc) (hNc:Nxt (fun _=>False) lsc) (hT:TriOk cad x y z tp tq tr) (hH:Hp B H0 H (obj bt (.cells [.pointer (some ⟨bc,0,none⟩),vx,vy,vz,.int .i64 tp,.int .i64 tq,.int .i64 tr,vu,vv].toArray 120 (0,0))::cpx lc lsc::L) w):Calls Tryz.prog 60 [.pointer (some ⟨bt,0,none⟩)].toArray w fun e w'=>∃H' ls' u' v',Le H H' ∧CpxOk H' cad caf (fun _=>False) ls' ∧Nxt (fun _=>False) ls' ∧e = .returned (.bool (exB cad caf tp tq tr x y z))∧Hp B H0 H' (obj bt (.cells [.pointer (some ⟨bc,0,none⟩),vx,vy,vz,.int .i64 tp,.int .i64 tq,.int .i64 tr,u',v'].toArray 120 (0,0))::cpx lc ls'::L) w':=by
 refine Jx Tryz.func60 rfl 110 rfl rfl [(0,.pointer (some ⟨bt,0,none⟩))] rfl hH ?_;clear hH;have hwc:=hcaf.wfss;have hAc:=isAlg_ok hGc hwc;have h8c:=hAc.hn;have hdc:=alg_112 hGc;obtain ⟨hp0,hq0,hr0,hi15,kx,ky,kz,hkx,hky,hkz,hfit⟩:=hT;have hfit3 : ∀k:Int,0≤k→k+1≤tp+tq+tr→fit3 cad k:=fun k h0 h1=>⟨⟨hfit _ h0 (by omega),hfit _ (by omega) h1⟩,fun h2=>hfit _ (by omega) (by omega)⟩;have hxy:=pair_ok hGc kx ky hkx hky (hfit _ (by omega) (by omega)) (by omega);have hyz:=pair_ok hGc ky kz hky hkz (hfit _ (by omega) (by omega)) (by omega);refine Je fun _ hK1 _=>(Jb (Jg (Jd rfl) rfl (Jf (Ja (hK1 (Je fun _ hK2 _=>(Jb (Jg (Jc rfl) rfl (Jg (Jv rfl) rfl (Jg (Jl u120 rfl sz81 rfl) rfl (Jg (Js rfl At.z rfl pl81) rfl (Jg (Jv rfl) rfl (Jg (Jl u126 rfl sz66 rfl) rfl (Jg (JE (q:=some ⟨bc,0,none⟩) (k:=0) rfl pc0 pl66) rfl (Jg (Jv rfl) rfl ?_)))))))))))))));refine Jg (Jl u36 rfl sz22 rfl) rfl (Jg (JE (q:=some ⟨bca,0,none⟩) (k:=0) rfl pcad pl22) rfl (Jg (Jd rfl) rfl (Jf (Ja (hK2 (Je fun _ hK3 _=>(Ea (Rs:=[_,_]) 32 [[], [0], [0,1], [0,1,2], [], [4], [4,5], [4,5,6], [0,1,2,3,4,5,6,7], [], [], [10], [10,11], [10,11,12], [0,1,2,3,4,5,6,7,8,9,10,11,12,13], [], [15], [15,16], [15,16,17], [], [19], [19,20], [19,20,21], [0,1,2,3,4,5,6,7,8,9,10,11,12,13,14,15,16,17,18,19,20,21,22], [], [], [25], [25,26], [25,26,27], [0,1,2,3,4,5,6,7,8,9,10,11,12,13,14,15,16,17,18,19,20,21,22,23,24,25,26,27,28], [0,1,2,3,4,5,6,7,8,9,10,11,12,13,14,15,16,17,18,19,20,21,22,23,24,25,26,27,28,29], [0,1,2,3,4,5,6,7,8,9,10,11,12,13,14,15,16,17,18,19,20,21,22,23,24,25,26,27,28,29,30]] [[], [], [], [32], [], [], [], [32], [], [], [], [], [], [32], [8], [], [], [], [32], [], [], [], [32], [], [], [], [], [], [32], [23], [], []] [[], [], [], [], [], [], [], [], [], [], [], [], [], [], [], [], [], [], [], [], [], [], [], [], [], [], [], [], [], [], [], []] rfl rfl (by kernel_rfl) ?_)))))));apply Ji 1 rfl rfl rfl
 ·intros;conv=>lhs;simp only [Jh,reduceEqDiff,reduceAdd]
 ·exact Jc rfl
 apply Ji 2 rfl rfl rfl
 ·intros;conv=>lhs;simp only [Jh,reduceEqDiff,reduceAdd]
 ·exact Jv rfl
 apply Ji 3 rfl rfl rfl
 ·intros;conv=>lhs;simp only [Jh,reduceEqDiff,reduceAdd]
 ·exact Jl u120 rfl sz2 rfl
 apply Ji 4 rfl rfl rfl
 ·intros;conv=>lhs;simp only [Jh,reduceEqDiff,reduceAdd]
 ·exact Js rfl At.z rfl pl2
 apply Ji 5 rfl rfl rfl
 ·intros;conv=>lhs;simp only [Jh,reduceEqDiff,reduceAdd]
 ·exact Jc rfl
 apply Ji 6 rfl rfl rfl
 ·intros;conv=>lhs;simp only [Jh,reduceEqDiff,reduceAdd]
 ·exact Jv rfl
 apply Ji 7 rfl rfl rfl
 ·intros;conv=>lhs;simp only [Jh,reduceEqDiff,reduceAdd]
 ·exact Jl u120 rfl sz92 rfl
 apply Ji 8 rfl rfl rfl
 ·intros;conv=>lhs;simp only [Jh,reduceEqDiff,reduceAdd]
 ·exact Js rfl At.z rfl pl92
 apply JR 9 rfl
 ·intros;conv=>lhs;simp only [Jh,reduceEqDiff,reduceAdd]
 ·
  intro gh X K zq zc zq2 zc2 zb zv hK;refine Ju fn111 rfl rfl fun w hH=>(signed_c hx kx (by omega) hH).mono ?_;rintro _ w ⟨bo24,rfl,hH⟩;refine ⟨_,rfl,fun a hF=>JH hF hH ?_⟩;refine Jy ?_;exact hK zq zc zq2 zc2 bo24 zv
 ·intro gh gh' h;refine ⟨?_,?_⟩ <;> rfl
 apply Ji 10 rfl rfl rfl
 ·intros;conv=>lhs;simp only [Jh,reduceEqDiff,reduceAdd]
 ·exact Jc rfl
 apply Ji 11 rfl rfl rfl
 ·intros;conv=>lhs;simp only [Jh,reduceEqDiff,reduceAdd]
 ·exact Jc rfl
 apply Ji 12 rfl rfl rfl
 ·intros;conv=>lhs;simp only [Jh,reduceEqDiff,reduceAdd]
 ·exact Jv rfl
 apply Ji 13 rfl rfl rfl
 ·intros;conv=>lhs;simp only [Jh,reduceEqDiff,reduceAdd]
 ·exact Jl u120 rfl sz92 rfl
 apply Ji 14 rfl rfl rfl
 ·intros;conv=>lhs;simp only [Jh,reduceEqDiff,reduceAdd]
 ·exact Js rfl At.z rfl pl92
 apply JR 15 rfl
 ·intros;conv=>lhs;simp only [Jh,reduceEqDiff,reduceAdd]
 ·
  intro gh X K zq zc zq2 zc2 zb zv hK;refine Ju fn45 rfl rfl fun w hH=>hH.lend .z fun Hl1 hle1 hA1 hB1 hH=>(times_c (omap_H hA1) (sgS_sok kx _) (hcad.le hle1) (hy.le hle1) ky hAc.hn hAc.hd (by omega) hH).mono ?_;rintro _ w ⟨bo30,rfl,hH⟩;replace hH:=hB1 _ _ hH;refine ⟨_,rfl,fun a hF=>JH hF hH ?_⟩;refine Jw .z (Jw (.s .z) (Jy ?_));exact hK zq zc zq2 zc2 bo30 zv
 ·intro gh gh' h;refine ⟨?_,?_⟩ <;> (first | simp only [h 8 rfl] | rfl)
 apply Ji 16 rfl rfl rfl
 ·intros;conv=>lhs;simp only [Jh,reduceEqDiff,reduceAdd]
 ·exact Jc rfl
 apply Ji 17 rfl rfl rfl
 ·intros;conv=>lhs;simp only [Jh,reduceEqDiff,reduceAdd]
 ·exact Jv rfl
 apply Ji 18 rfl rfl rfl
 ·intros;conv=>lhs;simp only [Jh,reduceEqDiff,reduceAdd]
 ·exact Jl u120 rfl sz2 rfl
 apply Ji 19 rfl rfl rfl
 ·intros;conv=>lhs;simp only [Jh,reduceEqDiff,reduceAdd]
 ·exact Js rfl At.z rfl pl2
 apply Ji 20 rfl rfl rfl
 ·intros;conv=>lhs;simp only [Jh,reduceEqDiff,reduceAdd]
 ·exact Jc rfl
 apply Ji 21 rfl rfl rfl
 ·intros;conv=>lhs;simp only [Jh,reduceEqDiff,reduceAdd]
 ·exact Jv rfl
 apply Ji 22 rfl rfl rfl
 ·intros;conv=>lhs;simp only [Jh,reduceEqDiff,reduceAdd]
 ·exact Jl u120 rfl sz92 rfl
 apply Ji 23 rfl rfl rfl
 ·intros;conv=>lhs;simp only [Jh,reduceEqDiff,reduceAdd]
 ·exact Js rfl At.z rfl pl92
 apply JR 24 rfl
 ·intros;conv=>lhs;simp only [Jh,reduceEqDiff,reduceAdd]
 ·
  intro gh X K zq zc zq2 zc2 zb zv hK;refine Ju fn111 rfl rfl fun w hH=>(signed_c hy ky (by omega) hH).mono ?_;rintro _ w ⟨bo39,rfl,hH⟩;refine ⟨_,rfl,fun a hF=>JH hF hH ?_⟩;refine Jy ?_;exact hK zq zc zq2 zc2 bo39 zv
 ·intro gh gh' h;refine ⟨?_,?_⟩ <;> (first | simp only [h 8 rfl,h 14 rfl] | rfl)
 apply Ji 25 rfl rfl rfl
 ·intros;conv=>lhs;simp only [Jh,reduceEqDiff,reduceAdd]
 ·exact Jc rfl
 apply Ji 26 rfl rfl rfl
 ·intros;conv=>lhs;simp only [Jh,reduceEqDiff,reduceAdd]
 ·exact Jc rfl
 apply Ji 27 rfl rfl rfl
 ·intros;conv=>lhs;simp only [Jh,reduceEqDiff,reduceAdd]
 ·exact Jv rfl
 apply Ji 28 rfl rfl rfl
 ·intros;conv=>lhs;simp only [Jh,reduceEqDiff,reduceAdd]
 ·exact Jl u120 rfl sz92 rfl
 apply Ji 29 rfl rfl rfl
 ·intros;conv=>lhs;simp only [Jh,reduceEqDiff,reduceAdd]
 ·exact Js rfl At.z rfl pl92
 apply JR 30 rfl
 ·intros;conv=>lhs;simp only [Jh,reduceEqDiff,reduceAdd]
 ·
  intro gh X K zq zc zq2 zc2 zb zv hK;refine Ju fn45 rfl rfl fun w hH=>hH.lend .z fun Hl1 hle1 hA1 hB1 hH=>(times_c (omap_H hA1) (sgS_sok ky _) (hcad.le hle1) (hz.le hle1) kz hAc.hn hAc.hd (by omega) hH).mono ?_;rintro _ w ⟨bo45,rfl,hH⟩;replace hH:=hB1 _ _ hH;refine ⟨_,rfl,fun a hF=>JH hF hH ?_⟩;refine Jw .z (Jw (.s .z) (Jy ?_));exact hK zq zc zq2 zc2 bo45 zv
 ·intro gh gh' h;refine ⟨?_,?_⟩ <;> (first | simp only [h 8 rfl,h 14 rfl,h 23 rfl] | rfl)
 apply Ef 31 rfl rfl rfl
 ·intros;conv=>lhs;simp only [Jh,reduceEqDiff,reduceAdd]
 ·exact Jd rfl
 ·intro gh gh' h;first | simp only [h 8 rfl,h 14 rfl,h 23 rfl,h 29 rfl] | rfl
 apply Ef 32 rfl rfl rfl
 ·intros;conv=>lhs;simp only [Jh,reduceEqDiff,reduceAdd]
 ·exact Jd rfl
 ·intro gh gh' h;first | simp only [h 8 rfl,h 14 rfl,h 23 rfl,h 29 rfl] | rfl
 apply JZ [0,1,2,3,4,5,6,7,8,9,10,11,12,13,14,15,16,17,18,19,20,21,22,23,24,25,26,27,28,29,30,31] [0,1,2,3,4,5,6,7,8,9,10,11,12,13,14,15,16,17,18,19,20,21,22,23,24,25,26,27,28,29,30,31,32,33] foll0 rfl rfl rfl (by rfl)
 iterate 2 focus (intros;(conv=>lhs;simp only [JU,Ej,Ka,El,Es,eq_self,reduceEqDiff,reduceIte,reduceSub,reduceAdd,JxA,JxB]);all_goals rfl)
 intro gh;generalize (gh 8).b=bo24;generalize (gh 14).b=bo30;generalize (gh 23).b=bo39;generalize (gh 29).b=bo45;clear gh;refine EA (.s .z) fun Ho30 hleo30 hAo30=>?_;replace pc0:=pc0.le hleo30;replace pc1:=pc1.le hleo30;replace pcad:=pcad.le hleo30;replace pcaf:=pcaf.le hleo30;replace hcad:=hcad.le hleo30;replace hcaf:=hcaf.le hleo30;replace hx:=hx.le hleo30;replace hy:=hy.le hleo30;replace hz:=hz.le hleo30;replace hCc:=hCc.le hleo30;have hxo30:=omap_H hAo30;refine EA (.s (.s .z)) fun Ho45 hleo45 hAo45=>?_;replace pc0:=pc0.le hleo45;replace pc1:=pc1.le hleo45;replace pcad:=pcad.le hleo45;replace pcaf:=pcaf.le hleo45;replace hcad:=hcad.le hleo45;replace hcaf:=hcaf.le hleo45;replace hx:=hx.le hleo45;replace hy:=hy.le hleo45;replace hz:=hz.le hleo45;replace hCc:=hCc.le hleo45;replace hxo30:=hxo30.le hleo45;have hxo45:=omap_H hAo45;refine Ja (hK3 (Je fun _ hK4 _=>(Je fun _ hK5 _=>?_)))
 rcases Bool.eq_false_or_eq_true ((!prB cad caf (tp+tq) (timesS cad (sgS tp x) y))) with hb62 | hb62
 ·
  refine Ea (Rs:=[_,_,_,_]) 34 [[], [0], [0,1], [0,1,2], [], [4], [4,5], [4,5,6], [], [8], [8,9], [8,9,10], [4,5,6,7,8,9,10,11], [], [0,1,2,3,4,5,6,7,8,9,10,11,12,13], [0,1,2,3,4,5,6,7,8,9,10,11,12,13,14], [0,1,2,3,4,5,6,7,8,9,10,11,12,13,14,15], [0,1,2,3,4,5,6,7,8,9,10,11,12,13,14,15,16], [0,1,2,3,4,5,6,7,8,9,10,11,12,13,14,15,16,17], [0,1,2,3,4,5,6,7,8,9,10,11,12,13,14,15,16,17,18], [0,1,2,3,4,5,6,7,8,9,10,11,12,13,14,15,16,17,18,19], [0,1,2,3,4,5,6,7,8,9,10,11,12,13,14,15,16], [0,1,2,3,4,5,6,7,8,9,10,11,12,13,14,15,16,21], [0,1,2,3,4,5,6,7,8,9,10,11,12,13,14,15,16,21,22], [0,1,2,3,4,5,6,7,8,9,10,11,12,13,14,15,16,21,22,23], [0,1,2,3,4,5,6,7,8,9,10,11,12,13,14,15,16], [0,1,2,3,4,5,6,7,8,9,10,11,12,13,14,15,16,25], [0,1,2,3,4,5,6,7,8,9,10,11,12,13,14,15,16,25,26], [0,1,2,3,4,5,6,7,8,9,10,11,12,13,14,15,16,25,26,27], [0,1,2,3,4,5,6,7,8,9,10,11,12,13,14,15,16,21,22,23,24,25,26,27,28], [0,1,2,3,4,5,6,7,8,9,10,11,12,13,14,15,16], [0,1,2,3,4,5,6,7,8,9,10,11,12,13,14,15,16,17,18,19,20,21,22,23,24,25,26,27,28,29,30], [0,1,2,3,4,5,6,7,8,9,10,11,12,13,14,15,16,17,18,19,20,21,22,23,24,25,26,27,28,29,30,31], [0,1,2,3,4,5,6,7,8,9,10,11,12,13,14,15,16,17,18,19,20,21,22,23,24,25,26,27,28,29,30,31,32]] [[], [], [], [36], [], [], [], [36], [], [], [], [36], [], [], [], [], [], [], [], [], [], [], [], [], [], [], [], [], [], [], [], [], [], []] [[], [], [], [], [], [], [], [], [], [], [], [], [], [], [37], [], [], [], [], [], [], [], [], [], [], [], [], [], [], [], [], [], [], []] rfl rfl (by kernel_rfl) ?_;apply Ji 1 rfl rfl rfl
  ·intros;conv=>lhs;simp only [Jh,reduceEqDiff,reduceAdd]
  ·exact Jc rfl
  apply Ji 2 rfl rfl rfl
  ·intros;conv=>lhs;simp only [Jh,reduceEqDiff,reduceAdd]
  ·exact Jv rfl
  apply Ji 3 rfl rfl rfl
  ·intros;conv=>lhs;simp only [Jh,reduceEqDiff,reduceAdd]
  ·exact Jl u120 rfl sz81 rfl
  apply Ji 4 rfl rfl rfl
  ·intros;conv=>lhs;simp only [Jh,reduceEqDiff,reduceAdd]
  ·exact Js rfl At.z rfl pl81
  apply Ji 5 rfl rfl rfl
  ·intros;conv=>lhs;simp only [Jh,reduceEqDiff,reduceAdd]
  ·exact Jc rfl
  apply Ji 6 rfl rfl rfl
  ·intros;conv=>lhs;simp only [Jh,reduceEqDiff,reduceAdd]
  ·exact Jv rfl
  apply Ji 7 rfl rfl rfl
  ·intros;conv=>lhs;simp only [Jh,reduceEqDiff,reduceAdd]
  ·exact Jl u120 rfl sz2 rfl
  apply Ji 8 rfl rfl rfl
  ·intros;conv=>lhs;simp only [Jh,reduceEqDiff,reduceAdd]
  ·exact Js rfl At.z rfl pl2
  apply Ji 9 rfl rfl rfl
  ·intros;conv=>lhs;simp only [Jh,reduceEqDiff,reduceAdd]
  ·exact Jc rfl
  apply Ji 10 rfl rfl rfl
  ·intros;conv=>lhs;simp only [Jh,reduceEqDiff,reduceAdd]
  ·exact Jv rfl
  apply Ji 11 rfl rfl rfl
  ·intros;conv=>lhs;simp only [Jh,reduceEqDiff,reduceAdd]
  ·exact Jl u120 rfl sz2 rfl
  apply Ji 12 rfl rfl rfl
  ·intros;conv=>lhs;simp only [Jh,reduceEqDiff,reduceAdd]
  ·exact Js rfl At.z rfl pl2
  apply Ji 13 rfl rfl rfl
  ·intros;conv=>lhs;simp only [Jh,reduceEqDiff,reduceAdd]
  ·exact Jz rfl rfl (by first | exact nw _ (by omega) | rfl)
  apply Ji 14 rfl rfl rfl
  ·intros;conv=>lhs;simp only [Jh,reduceEqDiff,reduceAdd]
  ·exact Jc rfl
  apply JR 15 rfl
  ·intros;conv=>lhs;simp only [Jh,reduceEqDiff,reduceAdd]
  ·
   intro gh X K zq zc zq2 zc2 zb zv hK;refine Ju fn112 rfl rfl fun w hH=>(isBoundary_m1 (Ms:=40) pc0 pc1 pcad pcaf hcad hcaf hxo30 hxy.1 hGc (by omega) ⟨hfit _ (by omega) (by omega),fun h9=>hfit _ (by omega) (by omega)⟩ hCc hNc (by omega) hxy.2.1 (hH.front .z)).mono ?_;rintro _ w ⟨vo60,rfl,hH⟩;refine ⟨_,rfl,fun a hF9=>JH hF9 hH ?_⟩;refine Jy ?_;exact hK zq zc zq2 zc2 zb vo60
  ·intro gh gh' h;refine ⟨?_,?_⟩ <;> rfl
  apply Ef 16 rfl rfl rfl
  ·intros;conv=>lhs;simp only [Jh,reduceEqDiff,reduceAdd]
  ·exact Em rfl
  ·intro gh gh' h;first | simp only [h 14 rfl] | rfl
  apply Ef 17 rfl rfl rfl
  ·intros;conv=>lhs;simp only [Jh,reduceEqDiff,reduceAdd]
  ·exact Jc rfl
  ·intro gh gh' h;first | simp only [h 14 rfl] | rfl
  apply Ez 18 rfl
  ·intros;conv=>lhs;simp only [Jh,reduceEqDiff,reduceAdd]
  ·
   intro gh X K zq zc zq2 zc2 zb zv hK;refine JQ rfl rfl rfl hb62 (Jy ?_);exact hK zq zc zq2 zc2 zb zv
  ·intro gh gh' h;first | simp only [h 14 rfl] | rfl
  apply Ez 19 rfl
  ·intros;conv=>lhs;simp only [Jh,reduceEqDiff,reduceAdd]
  ·
   intro gh X K zq zc zq2 zc2 zb zv hK;refine JQ rfl rfl rfl hb62 (Jy ?_);exact hK zq zc zq2 zc2 zb zv
  ·intro gh gh' h;first | simp only [h 14 rfl] | rfl
  apply Ez 20 rfl
  ·intros;conv=>lhs;simp only [Jh,reduceEqDiff,reduceAdd]
  ·
   intro gh X K zq zc zq2 zc2 zb zv hK;refine JQ rfl rfl rfl hb62 (Jy ?_);exact hK zq zc zq2 zc2 zb zv
  ·intro gh gh' h;first | simp only [h 14 rfl] | rfl
  apply Ez 21 rfl
  ·intros;conv=>lhs;simp only [Jh,reduceEqDiff,reduceAdd]
  ·
   intro gh X K zq zc zq2 zc2 zb zv hK;refine JQ rfl rfl rfl hb62 (Jy ?_);exact hK zq zc zq2 zc2 zb zv
  ·intro gh gh' h;first | simp only [h 14 rfl] | rfl
  apply Ez 22 rfl
  ·intros;conv=>lhs;simp only [Jh,reduceEqDiff,reduceAdd]
  ·
   intro gh X K zq zc zq2 zc2 zb zv hK;refine JQ rfl rfl rfl hb62 (Jy ?_);exact hK zq zc zq2 zc2 zb zv
  ·intro gh gh' h;first | simp only [h 14 rfl] | rfl
  apply Ez 23 rfl
  ·intros;conv=>lhs;simp only [Jh,reduceEqDiff,reduceAdd]
  ·
   intro gh X K zq zc zq2 zc2 zb zv hK;refine JQ rfl rfl rfl hb62 (Jy ?_);exact hK zq zc zq2 zc2 zb zv
  ·intro gh gh' h;first | simp only [h 14 rfl] | rfl
  apply Ez 24 rfl
  ·intros;conv=>lhs;simp only [Jh,reduceEqDiff,reduceAdd]
  ·
   intro gh X K zq zc zq2 zc2 zb zv hK;refine JQ rfl rfl rfl hb62 (Jy ?_);exact hK zq zc zq2 zc2 zb zv
  ·intro gh gh' h;first | simp only [h 14 rfl] | rfl
  apply Ez 25 rfl
  ·intros;conv=>lhs;simp only [Jh,reduceEqDiff,reduceAdd]
  ·
   intro gh X K zq zc zq2 zc2 zb zv hK;refine JQ rfl rfl rfl hb62 (Jy ?_);exact hK zq zc zq2 zc2 zb zv
  ·intro gh gh' h;first | simp only [h 14 rfl] | rfl
  apply Ez 26 rfl
  ·intros;conv=>lhs;simp only [Jh,reduceEqDiff,reduceAdd]
  ·
   intro gh X K zq zc zq2 zc2 zb zv hK;refine JQ rfl rfl rfl hb62 (Jy ?_);exact hK zq zc zq2 zc2 zb zv
  ·intro gh gh' h;first | simp only [h 14 rfl] | rfl
  apply Ez 27 rfl
  ·intros;conv=>lhs;simp only [Jh,reduceEqDiff,reduceAdd]
  ·
   intro gh X K zq zc zq2 zc2 zb zv hK;refine JQ rfl rfl rfl hb62 (Jy ?_);exact hK zq zc zq2 zc2 zb zv
  ·intro gh gh' h;first | simp only [h 14 rfl] | rfl
  apply Ez 28 rfl
  ·intros;conv=>lhs;simp only [Jh,reduceEqDiff,reduceAdd]
  ·
   intro gh X K zq zc zq2 zc2 zb zv hK;refine JQ rfl rfl rfl hb62 (Jy ?_);exact hK zq zc zq2 zc2 zb zv
  ·intro gh gh' h;first | simp only [h 14 rfl] | rfl
  apply Ez 29 rfl
  ·intros;conv=>lhs;simp only [Jh,reduceEqDiff,reduceAdd]
  ·
   intro gh X K zq zc zq2 zc2 zb zv hK;refine JQ rfl rfl rfl hb62 (Jy ?_);exact hK zq zc zq2 zc2 zb zv
  ·intro gh gh' h;first | simp only [h 14 rfl] | rfl
  apply Ez 30 rfl
  ·intros;conv=>lhs;simp only [Jh,reduceEqDiff,reduceAdd]
  ·
   intro gh X K zq zc zq2 zc2 zb zv hK;refine JQ rfl rfl rfl hb62 (Jy ?_);exact hK zq zc zq2 zc2 zb zv
  ·intro gh gh' h;first | simp only [h 14 rfl] | rfl
  apply Ez 31 rfl
  ·intros;conv=>lhs;simp only [Jh,reduceEqDiff,reduceAdd]
  ·
   intro gh X K zq zc zq2 zc2 zb zv hK;refine JQ rfl rfl rfl hb62 (Jy ?_);exact hK zq zc zq2 zc2 zb zv
  ·intro gh gh' h;first | simp only [h 14 rfl] | rfl
  apply Ez 32 rfl
  ·intros;conv=>lhs;simp only [Jh,reduceEqDiff,reduceAdd]
  ·
   intro gh X K zq zc zq2 zc2 zb zv hK;refine JQ rfl rfl rfl hb62 (Jy ?_);exact hK zq zc zq2 zc2 zb zv
  ·intro gh gh' h;first | simp only [h 14 rfl] | rfl
  apply Ez 33 rfl
  ·intros;conv=>lhs;simp only [Jh,reduceEqDiff,reduceAdd]
  ·
   intro gh X K zq zc zq2 zc2 zb zv hK;refine JQ rfl rfl rfl hb62 (Jy ?_);exact hK zq zc zq2 zc2 zb zv
  ·intro gh gh' h;first | simp only [h 14 rfl] | rfl
  apply Ef 34 rfl rfl rfl
  ·intros;conv=>lhs;simp only [Jh,reduceEqDiff,reduceAdd]
  ·exact JY rfl hb62 rfl
  ·intro gh gh' h;first | simp only [h 14 rfl] | rfl
  apply JZ [0,1,2,3,4,5,6,7,8,9,10,11,12,13,14,15,16,17,18,19,20,21,22,23,24,25,26,27,28,29,30,31,32,33] [0,1,2,3,4,5,6,7,8,9,10,11,12,13,14,15,16,17,18,19,20,21,22,23,24,25,26,27,28,29,30,31,32,33,34,35,36] foll0 rfl rfl rfl (by rfl)
  iterate 2 focus (intros;(conv=>lhs;simp only [JU,Ej,Ka,El,Es,eq_self,reduceEqDiff,reduceIte,reduceSub,reduceAdd,JxA,JxB]);all_goals rfl)
  intro gh;generalize (gh 14).vs=vo60;clear gh;refine EY .z fun Hz3 Az3 hlez3 hKz3=>?_;obtain ⟨ls3,hC3,hN3,rfl⟩:=hKz3;replace pc0:=pc0.le hlez3;replace pc1:=pc1.le hlez3;replace pcad:=pcad.le hlez3;replace pcaf:=pcaf.le hlez3;replace hcad:=hcad.le hlez3;replace hcaf:=hcaf.le hlez3;replace hx:=hx.le hlez3;replace hy:=hy.le hlez3;replace hz:=hz.le hlez3;replace hCc:=hCc.le hlez3;replace hxo30:=hxo30.le hlez3;replace hxo45:=hxo45.le hlez3;refine Ja (hK5 (Ew rfl (Je fun _ hK6 _=>(Jb (Jg (Jd rfl) rfl (Jf (Ja (hK6 (Jt (Jk (Jr rfl (Res.tmp rfl) fun w hH=>?_)))))))))));replace hH:=hH.sublist (.cons_cons _ (.cons _ (.cons _ (.cons_cons _ (List.Sublist.refl _)))));have e1:prB cad caf (tp+tq) (xyS cad tp x y)=false:=not_f hb62;exact ⟨_,_,_,_,((hleo30.trans hleo45).trans hlez3),hC3,hN3,by unfold exB;rw [e1];rfl,hH.front (.s .z)⟩
 ·
  refine Ea (Rs:=[_,_,_,_]) 34 [[], [0], [0,1], [0,1,2], [], [4], [4,5], [4,5,6], [], [8], [8,9], [8,9,10], [4,5,6,7,8,9,10,11], [], [0,1,2,3,4,5,6,7,8,9,10,11,12,13], [0,1,2,3,4,5,6,7,8,9,10,11,12,13,14], [0,1,2,3,4,5,6,7,8,9,10,11,12,13,14,15], [0,1,2,3,4,5,6,7,8,9,10,11,12,13,14,15,16], [0,1,2,3,4,5,6,7,8,9,10,11,12,13,14,15,16,17], [0,1,2,3,4,5,6,7,8,9,10,11,12,13,14,15,16,17,18], [0,1,2,3,4,5,6,7,8,9,10,11,12,13,14,15,16,17,18,19], [0,1,2,3,4,5,6,7,8,9,10,11,12,13,14,15,16], [0,1,2,3,4,5,6,7,8,9,10,11,12,13,14,15,16,21], [0,1,2,3,4,5,6,7,8,9,10,11,12,13,14,15,16,21,22], [0,1,2,3,4,5,6,7,8,9,10,11,12,13,14,15,16,21,22,23], [0,1,2,3,4,5,6,7,8,9,10,11,12,13,14,15,16], [0,1,2,3,4,5,6,7,8,9,10,11,12,13,14,15,16,25], [0,1,2,3,4,5,6,7,8,9,10,11,12,13,14,15,16,25,26], [0,1,2,3,4,5,6,7,8,9,10,11,12,13,14,15,16,25,26,27], [0,1,2,3,4,5,6,7,8,9,10,11,12,13,14,15,16,21,22,23,24,25,26,27,28], [0,1,2,3,4,5,6,7,8,9,10,11,12,13,14,15,16], [0,1,2,3,4,5,6,7,8,9,10,11,12,13,14,15,16,17,18,19,20,21,22,23,24,25,26,27,28,29,30], [0,1,2,3,4,5,6,7,8,9,10,11,12,13,14,15,16,17,18,19,20,21,22,23,24,25,26,27,28,29,30,31], [0,1,2,3,4,5,6,7,8,9,10,11,12,13,14,15,16,17,18,19,20,21,22,23,24,25,26,27,28,29,30,31,32]] [[], [], [], [36], [], [], [], [36], [], [], [], [36], [], [], [], [], [], [], [], [], [36], [], [], [], [36], [], [], [], [36], [], [], [], [], []] [[], [], [], [], [], [], [], [], [], [], [], [], [], [], [37], [], [], [], [], [], [], [], [], [], [], [], [], [], [], [], [], [14], [], []] rfl rfl (by kernel_rfl) ?_;apply Ji 1 rfl rfl rfl
  ·intros;conv=>lhs;simp only [Jh,reduceEqDiff,reduceAdd]
  ·exact Jc rfl
  apply Ji 2 rfl rfl rfl
  ·intros;conv=>lhs;simp only [Jh,reduceEqDiff,reduceAdd]
  ·exact Jv rfl
  apply Ji 3 rfl rfl rfl
  ·intros;conv=>lhs;simp only [Jh,reduceEqDiff,reduceAdd]
  ·exact Jl u120 rfl sz81 rfl
  apply Ji 4 rfl rfl rfl
  ·intros;conv=>lhs;simp only [Jh,reduceEqDiff,reduceAdd]
  ·exact Js rfl At.z rfl pl81
  apply Ji 5 rfl rfl rfl
  ·intros;conv=>lhs;simp only [Jh,reduceEqDiff,reduceAdd]
  ·exact Jc rfl
  apply Ji 6 rfl rfl rfl
  ·intros;conv=>lhs;simp only [Jh,reduceEqDiff,reduceAdd]
  ·exact Jv rfl
  apply Ji 7 rfl rfl rfl
  ·intros;conv=>lhs;simp only [Jh,reduceEqDiff,reduceAdd]
  ·exact Jl u120 rfl sz2 rfl
  apply Ji 8 rfl rfl rfl
  ·intros;conv=>lhs;simp only [Jh,reduceEqDiff,reduceAdd]
  ·exact Js rfl At.z rfl pl2
  apply Ji 9 rfl rfl rfl
  ·intros;conv=>lhs;simp only [Jh,reduceEqDiff,reduceAdd]
  ·exact Jc rfl
  apply Ji 10 rfl rfl rfl
  ·intros;conv=>lhs;simp only [Jh,reduceEqDiff,reduceAdd]
  ·exact Jv rfl
  apply Ji 11 rfl rfl rfl
  ·intros;conv=>lhs;simp only [Jh,reduceEqDiff,reduceAdd]
  ·exact Jl u120 rfl sz2 rfl
  apply Ji 12 rfl rfl rfl
  ·intros;conv=>lhs;simp only [Jh,reduceEqDiff,reduceAdd]
  ·exact Js rfl At.z rfl pl2
  apply Ji 13 rfl rfl rfl
  ·intros;conv=>lhs;simp only [Jh,reduceEqDiff,reduceAdd]
  ·exact Jz rfl rfl (by first | exact nw _ (by omega) | rfl)
  apply Ji 14 rfl rfl rfl
  ·intros;conv=>lhs;simp only [Jh,reduceEqDiff,reduceAdd]
  ·exact Jc rfl
  apply JR 15 rfl
  ·intros;conv=>lhs;simp only [Jh,reduceEqDiff,reduceAdd]
  ·
   intro gh X K zq zc zq2 zc2 zb zv hK;refine Ju fn112 rfl rfl fun w hH=>(isBoundary_m1 (Ms:=40) pc0 pc1 pcad pcaf hcad hcaf hxo30 hxy.1 hGc (by omega) ⟨hfit _ (by omega) (by omega),fun h9=>hfit _ (by omega) (by omega)⟩ hCc hNc (by omega) hxy.2.1 (hH.front .z)).mono ?_;rintro _ w ⟨vo60,rfl,hH⟩;refine ⟨_,rfl,fun a hF9=>JH hF9 hH ?_⟩;refine Jy ?_;exact hK zq zc zq2 zc2 zb vo60
  ·intro gh gh' h;refine ⟨?_,?_⟩ <;> rfl
  apply Ef 16 rfl rfl rfl
  ·intros;conv=>lhs;simp only [Jh,reduceEqDiff,reduceAdd]
  ·exact Em rfl
  ·intro gh gh' h;first | simp only [h 14 rfl] | rfl
  apply Ef 17 rfl rfl rfl
  ·intros;conv=>lhs;simp only [Jh,reduceEqDiff,reduceAdd]
  ·exact Jc rfl
  ·intro gh gh' h;first | simp only [h 14 rfl] | rfl
  apply Ez 18 rfl
  ·intros;conv=>lhs;simp only [Jh,reduceEqDiff,reduceAdd]
  ·
   intro gh X K zq zc zq2 zc2 zb zv hK;refine JV (Jc rfl) rfl rfl rfl hb62 (Jy ?_);exact hK zq zc zq2 zc2 zb zv
  ·intro gh gh' h;first | simp only [h 14 rfl] | rfl
  apply Ez 19 rfl
  ·intros;conv=>lhs;simp only [Jh,reduceEqDiff,reduceAdd]
  ·
   intro gh X K zq zc zq2 zc2 zb zv hK;refine JV (Jv rfl) rfl rfl rfl hb62 (Jy ?_);exact hK zq zc zq2 zc2 zb zv
  ·intro gh gh' h;first | simp only [h 14 rfl] | rfl
  apply Ez 20 rfl
  ·intros;conv=>lhs;simp only [Jh,reduceEqDiff,reduceAdd]
  ·
   intro gh X K zq zc zq2 zc2 zb zv hK;refine JV (Jl u120 rfl sz81 rfl) rfl rfl rfl hb62 (Jy ?_);exact hK zq zc zq2 zc2 zb zv
  ·intro gh gh' h;first | simp only [h 14 rfl] | rfl
  apply Ez 21 rfl
  ·intros;conv=>lhs;simp only [Jh,reduceEqDiff,reduceAdd]
  ·
   intro gh X K zq zc zq2 zc2 zb zv hK;refine JV (Js rfl At.z rfl pl81) rfl rfl rfl hb62 (Jy ?_);exact hK zq zc zq2 zc2 zb zv
  ·intro gh gh' h;first | simp only [h 14 rfl] | rfl
  apply Ez 22 rfl
  ·intros;conv=>lhs;simp only [Jh,reduceEqDiff,reduceAdd]
  ·
   intro gh X K zq zc zq2 zc2 zb zv hK;refine JV (Jc rfl) rfl rfl rfl hb62 (Jy ?_);exact hK zq zc zq2 zc2 zb zv
  ·intro gh gh' h;first | simp only [h 14 rfl] | rfl
  apply Ez 23 rfl
  ·intros;conv=>lhs;simp only [Jh,reduceEqDiff,reduceAdd]
  ·
   intro gh X K zq zc zq2 zc2 zb zv hK;refine JV (Jv rfl) rfl rfl rfl hb62 (Jy ?_);exact hK zq zc zq2 zc2 zb zv
  ·intro gh gh' h;first | simp only [h 14 rfl] | rfl
  apply Ez 24 rfl
  ·intros;conv=>lhs;simp only [Jh,reduceEqDiff,reduceAdd]
  ·
   intro gh X K zq zc zq2 zc2 zb zv hK;refine JV (Jl u120 rfl sz2 rfl) rfl rfl rfl hb62 (Jy ?_);exact hK zq zc zq2 zc2 zb zv
  ·intro gh gh' h;first | simp only [h 14 rfl] | rfl
  apply Ez 25 rfl
  ·intros;conv=>lhs;simp only [Jh,reduceEqDiff,reduceAdd]
  ·
   intro gh X K zq zc zq2 zc2 zb zv hK;refine JV (Js rfl At.z rfl pl2) rfl rfl rfl hb62 (Jy ?_);exact hK zq zc zq2 zc2 zb zv
  ·intro gh gh' h;first | simp only [h 14 rfl] | rfl
  apply Ez 26 rfl
  ·intros;conv=>lhs;simp only [Jh,reduceEqDiff,reduceAdd]
  ·
   intro gh X K zq zc zq2 zc2 zb zv hK;refine JV (Jc rfl) rfl rfl rfl hb62 (Jy ?_);exact hK zq zc zq2 zc2 zb zv
  ·intro gh gh' h;first | simp only [h 14 rfl] | rfl
  apply Ez 27 rfl
  ·intros;conv=>lhs;simp only [Jh,reduceEqDiff,reduceAdd]
  ·
   intro gh X K zq zc zq2 zc2 zb zv hK;refine JV (Jv rfl) rfl rfl rfl hb62 (Jy ?_);exact hK zq zc zq2 zc2 zb zv
  ·intro gh gh' h;first | simp only [h 14 rfl] | rfl
  apply Ez 28 rfl
  ·intros;conv=>lhs;simp only [Jh,reduceEqDiff,reduceAdd]
  ·
   intro gh X K zq zc zq2 zc2 zb zv hK;refine JV (Jl u120 rfl sz2 rfl) rfl rfl rfl hb62 (Jy ?_);exact hK zq zc zq2 zc2 zb zv
  ·intro gh gh' h;first | simp only [h 14 rfl] | rfl
  apply Ez 29 rfl
  ·intros;conv=>lhs;simp only [Jh,reduceEqDiff,reduceAdd]
  ·
   intro gh X K zq zc zq2 zc2 zb zv hK;refine JV (Js rfl At.z rfl pl2) rfl rfl rfl hb62 (Jy ?_);exact hK zq zc zq2 zc2 zb zv
  ·intro gh gh' h;first | simp only [h 14 rfl] | rfl
  apply Ez 30 rfl
  ·intros;conv=>lhs;simp only [Jh,reduceEqDiff,reduceAdd]
  ·
   intro gh X K zq zc zq2 zc2 zb zv hK;refine JV (Jz rfl rfl (by first | exact nw _ (by omega) | rfl)) rfl rfl rfl hb62 (Jy ?_);exact hK zq zc zq2 zc2 zb zv
  ·intro gh gh' h;first | simp only [h 14 rfl] | rfl
  apply Ez 31 rfl
  ·intros;conv=>lhs;simp only [Jh,reduceEqDiff,reduceAdd]
  ·
   intro gh X K zq zc zq2 zc2 zb zv hK;refine JV (Jc rfl) rfl rfl rfl hb62 (Jy ?_);exact hK zq zc zq2 zc2 zb zv
  ·intro gh gh' h;first | simp only [h 14 rfl] | rfl
  apply JR 32 rfl
  ·intros;conv=>lhs;simp only [Jh,reduceEqDiff,reduceAdd]
  ·
   intro gh X K zq zc zq2 zc2 zb zv hK;refine EW fn112 rfl rfl hb62 rfl rfl fun w hH=>(isBoundary_m2 (Ms:=40) pc0 pc1 pcad pcaf hcad hcaf hxo45 hyz.1 hGc (by omega) ⟨hfit _ (by omega) (by omega),fun h9=>hfit _ (by omega) (by omega)⟩ (by omega) hyz.2.1 (hH.front .z)).mono ?_;rintro _ w ⟨vo77,rfl,hH⟩;refine ⟨_,rfl,fun a hF9=>JH hF9 hH ?_⟩;refine Jy ?_;exact hK zq zc zq2 zc2 zb vo77
  ·intro gh gh' h;refine ⟨?_,?_⟩ <;> (first | simp only [h 14 rfl] | rfl)
  apply Ez 33 rfl
  ·intros;conv=>lhs;simp only [Jh,reduceEqDiff,reduceAdd]
  ·
   intro gh X K zq zc zq2 zc2 zb zv hK;refine JV (Em rfl) rfl rfl rfl hb62 (Jy ?_);exact hK zq zc zq2 zc2 zb zv
  ·intro gh gh' h;first | simp only [h 14 rfl,h 31 rfl] | rfl
  apply Ef 34 rfl rfl rfl
  ·intros;conv=>lhs;simp only [Jh,reduceEqDiff,reduceAdd]
  ·exact JX rfl hb62 rfl
  ·intro gh gh' h;first | simp only [h 14 rfl,h 31 rfl] | rfl
  apply JZ [0,1,2,3,4,5,6,7,8,9,10,11,12,13,14,15,16,17,18,19,20,21,22,23,24,25,26,27,28,29,30,31,32,33] [0,1,2,3,4,5,6,7,8,9,10,11,12,13,15,16,17,18,19,20,21,22,23,24,25,26,27,28,29,30,31,32,33,34,35,36] foll0 rfl rfl rfl (by rfl)
  iterate 2 focus (intros;(conv=>lhs;simp only [JU,Ej,Ka,El,Es,eq_self,reduceEqDiff,reduceIte,reduceSub,reduceAdd,JxA,JxB]);all_goals rfl)
  intro gh;generalize (gh 14).vs=vo60;generalize (gh 31).vs=vo77;clear gh;refine EY .z fun Hz3 Az3 hlez3 hKz3=>?_;obtain ⟨ls3,hC3,hN3,rfl⟩:=hKz3;replace pc0:=pc0.le hlez3;replace pc1:=pc1.le hlez3;replace pcad:=pcad.le hlez3;replace pcaf:=pcaf.le hlez3;replace hcad:=hcad.le hlez3;replace hcaf:=hcaf.le hlez3;replace hx:=hx.le hlez3;replace hy:=hy.le hlez3;replace hz:=hz.le hlez3;replace hCc:=hCc.le hlez3;replace hxo30:=hxo30.le hlez3;replace hxo45:=hxo45.le hlez3;refine Ja (hK5 (Ei rfl (fun h79=>?_) (fun h79=>?_)))
  ·
   refine Je fun _ hK7 _=>(Jb (Jg (Jd rfl) rfl (Jf (Ja (hK7 (Jt (Jk (Jr rfl (Res.tmp rfl) fun w hH=>?_))))))));replace hH:=hH.sublist (.cons_cons _ (.cons _ (.cons _ (.cons_cons _ (List.Sublist.refl _)))));have e1:prB cad caf (tq+tr) (xyS cad tq y z)=false:=not_f h79;exact ⟨_,_,_,_,((hleo30.trans hleo45).trans hlez3),hC3,hN3,by unfold exB;rw [e1,Bool.and_false],hH.front (.s .z)⟩
  ·
   refine Jn (Ja (hK4 (Je fun _ hK8 _=>(Ea (Rs:=[_,_,_,_]) 32 [[], [], [], [], [3], [3,4], [3,4,5], [], [7], [7,8], [7,8,9], [3,4,5,6,7,8,9,10], [], [2,3,4,5,6,7,8,9,10,11,12], [], [], [15], [15,16], [15,16,17], [], [19], [19,20], [19,20,21], [15,16,17,18,19,20,21,22], [], [2,3,4,5,6,7,8,9,10,11,12,13,14,15,16,17,18,19,20,21,22,23,24], [0,2,3,4,5,6,7,8,9,10,11,12,13,14,15,16,17,18,19,20,21,22,23,24,25], [0,2,3,4,5,6,7,8,9,10,11,12,13,14,15,16,17,18,19,20,21,22,23,24,25,26], [0,2,3,4,5,6,7,8,9,10,11,12,13,14,15,16,17,18,19,20,21,22,23,24,25,26,27], [0,1,2,3,4,5,6,7,8,9,10,11,12,13,14,15,16,17,18,19,20,21,22,23,24,25,26,27,28], [0,1,2,3,4,5,6,7,8,9,10,11,12,13,14,15,16,17,18,19,20,21,22,23,24,25,26,27,28,29], [0,1,2,3,4,5,6,7,8,9,10,11,12,13,14,15,16,17,18,19,20,21,22,23,24,25,26,27,28,29,30]] [[], [], [], [], [], [], [35], [], [], [], [35], [], [], [35], [], [], [], [], [35], [], [], [], [35], [], [], [35], [], [], [], [], [], []] [[], [], [], [], [], [], [], [], [], [], [], [], [], [32], [], [], [], [], [], [], [], [], [], [], [], [13], [], [], [35], [], [], [28]] rfl rfl (by kernel_rfl) ?_))));apply Ji 1 rfl rfl rfl
   ·intros;conv=>lhs;simp only [Jh,reduceEqDiff,reduceAdd]
   ·exact Jc rfl
   apply Ji 2 rfl rfl rfl
   ·intros;conv=>lhs;simp only [Jh,reduceEqDiff,reduceAdd]
   ·exact Jc rfl
   apply Ji 3 rfl rfl rfl
   ·intros;conv=>lhs;simp only [Jh,reduceEqDiff,reduceAdd]
   ·exact Jc rfl
   apply Ji 4 rfl rfl rfl
   ·intros;conv=>lhs;simp only [Jh,reduceEqDiff,reduceAdd]
   ·exact Jc rfl
   apply Ji 5 rfl rfl rfl
   ·intros;conv=>lhs;simp only [Jh,reduceEqDiff,reduceAdd]
   ·exact Jv rfl
   apply Ji 6 rfl rfl rfl
   ·intros;conv=>lhs;simp only [Jh,reduceEqDiff,reduceAdd]
   ·exact Jl u120 rfl sz2 rfl
   apply Ji 7 rfl rfl rfl
   ·intros;conv=>lhs;simp only [Jh,reduceEqDiff,reduceAdd]
   ·exact Js rfl At.z rfl pl2
   apply Ji 8 rfl rfl rfl
   ·intros;conv=>lhs;simp only [Jh,reduceEqDiff,reduceAdd]
   ·exact Jc rfl
   apply Ji 9 rfl rfl rfl
   ·intros;conv=>lhs;simp only [Jh,reduceEqDiff,reduceAdd]
   ·exact Jv rfl
   apply Ji 10 rfl rfl rfl
   ·intros;conv=>lhs;simp only [Jh,reduceEqDiff,reduceAdd]
   ·exact Jl u120 rfl sz2 rfl
   apply Ji 11 rfl rfl rfl
   ·intros;conv=>lhs;simp only [Jh,reduceEqDiff,reduceAdd]
   ·exact Js rfl At.z rfl pl2
   apply Ji 12 rfl rfl rfl
   ·intros;conv=>lhs;simp only [Jh,reduceEqDiff,reduceAdd]
   ·exact Jz rfl rfl (by first | exact nw _ (by omega) | rfl)
   apply Ji 13 rfl rfl rfl
   ·intros;conv=>lhs;simp only [Jh,reduceEqDiff,reduceAdd]
   ·exact Jc rfl
   apply JR 14 rfl
   ·intros;conv=>lhs;simp only [Jh,reduceEqDiff,reduceAdd]
   ·
    intro gh X K zq zc zq2 zc2 zb zv hK;refine Ju fn113 rfl rfl fun w hH=>(tprim_m1 (Ms:=40) hxo30 hxy.1 pc0 pc1 pcad pcaf hcad hcaf hGc hC3 hN3 (by omega) (fun h9=>hfit3 _ (by omega) (by omega)) (not_t hb62) (by omega) hxy.2.1 (hH.front (.s .z))).mono ?_;rintro _ w ⟨bo93,vo93,rfl,hH⟩;refine ⟨_,rfl,fun a hF9=>JH hF9 hH ?_⟩;refine Jy ?_;exact hK zq zc zq2 zc2 bo93 vo93
   ·intro gh gh' h;refine ⟨?_,?_⟩ <;> rfl
   apply Ji 15 rfl rfl rfl
   ·intros;conv=>lhs;simp only [Jh,reduceEqDiff,reduceAdd]
   ·exact Jc rfl
   apply Ji 16 rfl rfl rfl
   ·intros;conv=>lhs;simp only [Jh,reduceEqDiff,reduceAdd]
   ·exact Jc rfl
   apply Ji 17 rfl rfl rfl
   ·intros;conv=>lhs;simp only [Jh,reduceEqDiff,reduceAdd]
   ·exact Jv rfl
   apply Ji 18 rfl rfl rfl
   ·intros;conv=>lhs;simp only [Jh,reduceEqDiff,reduceAdd]
   ·exact Jl u120 rfl sz2 rfl
   apply Ji 19 rfl rfl rfl
   ·intros;conv=>lhs;simp only [Jh,reduceEqDiff,reduceAdd]
   ·exact Js rfl At.z rfl pl2
   apply Ji 20 rfl rfl rfl
   ·intros;conv=>lhs;simp only [Jh,reduceEqDiff,reduceAdd]
   ·exact Jc rfl
   apply Ji 21 rfl rfl rfl
   ·intros;conv=>lhs;simp only [Jh,reduceEqDiff,reduceAdd]
   ·exact Jv rfl
   apply Ji 22 rfl rfl rfl
   ·intros;conv=>lhs;simp only [Jh,reduceEqDiff,reduceAdd]
   ·exact Jl u120 rfl sz2 rfl
   apply Ji 23 rfl rfl rfl
   ·intros;conv=>lhs;simp only [Jh,reduceEqDiff,reduceAdd]
   ·exact Js rfl At.z rfl pl2
   apply Ji 24 rfl rfl rfl
   ·intros;conv=>lhs;simp only [Jh,reduceEqDiff,reduceAdd]
   ·exact Jz rfl rfl (by first | exact nw _ (by omega) | rfl)
   apply Ji 25 rfl rfl rfl
   ·intros;conv=>lhs;simp only [Jh,reduceEqDiff,reduceAdd]
   ·exact Jc rfl
   apply JR 26 rfl
   ·intros;conv=>lhs;simp only [Jh,reduceEqDiff,reduceAdd]
   ·
    intro gh X K zq zc zq2 zc2 zb zv hK;refine Ju fn113 rfl rfl fun w hH=>(tprim_m2 (Ms:=40) hxo45 hyz.1 pc0 pc1 pcad pcaf hcad hcaf hGc (by omega) (fun h9=>hfit3 _ (by omega) (by omega)) (not_t h79) (by omega) hyz.2.1 ((hH.front (.s .z)).front (.s .z))).mono ?_;rintro _ w ⟨bo105,vo105,rfl,hH⟩;refine ⟨_,rfl,fun a hF9=>JH hF9 hH ?_⟩;refine Jy ?_;exact hK zq zc zq2 zc2 bo105 vo105
   ·intro gh gh' h;refine ⟨?_,?_⟩ <;> (first | simp only [h 13 rfl] | rfl)
   apply Ef 27 rfl rfl rfl
   ·intros;conv=>lhs;simp only [Jh,reduceEqDiff,reduceAdd]
   ·exact Jv rfl
   ·intro gh gh' h;first | simp only [h 13 rfl,h 25 rfl] | rfl
   apply Ef 28 rfl rfl rfl
   ·intros;conv=>lhs;simp only [Jh,reduceEqDiff,reduceAdd]
   ·exact Jl u120 rfl sz92 rfl
   ·intro gh gh' h;first | simp only [h 13 rfl,h 25 rfl] | rfl
   apply EZ 29 rfl
   ·intros;conv=>lhs;simp only [Jh,reduceEqDiff,reduceAdd]
   ·
    intro gh X K hK;refine Et rfl rfl rfl rfl sz92 (by simp [*]) At.z (Jy ?_);exact hK
   ·intro gh gh' h;first | simp only [h 13 rfl,h 25 rfl] | rfl
   apply Ef 30 rfl rfl rfl
   ·intros;conv=>lhs;simp only [Jh,reduceEqDiff,reduceAdd]
   ·exact Jv rfl
   ·intro gh gh' h;first | simp only [h 13 rfl,h 25 rfl] | rfl
   apply Ef 31 rfl rfl rfl
   ·intros;conv=>lhs;simp only [Jh,reduceEqDiff,reduceAdd]
   ·exact Jl u120 rfl sz92 rfl
   ·intro gh gh' h;first | simp only [h 13 rfl,h 25 rfl] | rfl
   apply EZ 32 rfl
   ·intros;conv=>lhs;simp only [Jh,reduceEqDiff,reduceAdd]
   ·
    intro gh X K hK;refine Et rfl rfl rfl rfl sz92 (by simp [*]) At.z (Jy ?_);exact hK
   ·intro gh gh' h;first | simp only [h 13 rfl,h 25 rfl] | rfl
   apply JZ [0,1,2,3,4,5,6,7,8,9,10,11,12,13,14,15,16,17,18,19,20,21,22,23,24,25,26,27,28,29,30,31] [0,1,2,3,4,5,6,7,8,9,10,11,12,14,15,16,17,18,19,20,21,22,23,24,25,26,27,29,30,31,33,34] foll0 rfl rfl rfl (by rfl)
   iterate 2 focus (intros;(conv=>lhs;simp only [JU,Ej,Ka,El,Es,eq_self,reduceEqDiff,reduceIte,reduceSub,reduceAdd,JxA,JxB]);all_goals rfl)
   intro gh;generalize (gh 13).b=bo93;generalize (gh 13).vs=vo93;generalize (gh 25).b=bo105;generalize (gh 25).vs=vo105;clear gh;refine EY .z fun Hz5 Az5 hlez5 hKz5=>?_;obtain ⟨ls5,hC5,hN5,rfl⟩:=hKz5;replace pc0:=pc0.le hlez5;replace pc1:=pc1.le hlez5;replace pcad:=pcad.le hlez5;replace pcaf:=pcaf.le hlez5;replace hcad:=hcad.le hlez5;replace hcaf:=hcaf.le hlez5;replace hx:=hx.le hlez5;replace hy:=hy.le hlez5;replace hz:=hz.le hlez5;replace hCc:=hCc.le hlez5;replace hxo30:=hxo30.le hlez5;replace hxo45:=hxo45.le hlez5;replace hC3:=hC3.le hlez5;refine Ja (hK8 (Je fun _ hK9 _=>(Jb (Jg (Jd rfl) rfl (Jf (Ja (hK9 (Jt (Jr rfl (Res.tmp rfl) fun w hH=>?_)))))))));replace hH:=hH.sublist (.cons_cons _ (.cons_cons _ (.cons _ (.cons _ (List.Sublist.refl _)))));have e1:prB cad caf (tp+tq) (xyS cad tp x y)=true:=not_t hb62;have e2:prB cad caf (tq+tr) (xyS cad tq y z)=true:=not_t h79;exact ⟨_,_,_,_,(((hleo30.trans hleo45).trans hlez3).trans hlez5),hC5,hN5,by unfold exB;rw [e1,e2];rfl,hH.front (.s .z)⟩
end Go.Proofs.YtelcehjliighfaaGreat.G
