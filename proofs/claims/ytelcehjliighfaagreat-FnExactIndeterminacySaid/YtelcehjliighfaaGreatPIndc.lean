/- A part of the walk of one law: what the functions compute. No condition. -/
import Derived.Test.YtelcehjliighfaaGreatRows
import Derived.Test.YtelcehjliighfaaGreatProg
import Derived.WalkKit
import Derived.KernelRfl
import Derived.JoinedOf
import Derived.Maps.AppendAt
import Derived.Still
import Derived.ProofKit
import Derived.OpenShut
import Derived.StillTail
import Derived.Deep.Upon
import Derived.WalkSpells
import Derived.Maps.Range
import Derived.DeepKeys4
import Derived.Maps.Keyed
import Derived.ChangeOld
import Derived.Below
import Derived.SizedLaws
import Derived.Test.YtelcehjliighfaaGreatPIndb
set_option linter.unusedVariables false
set_option linter.unusedSimpArgs false
set_option maxRecDepth 10000
set_option maxHeartbeats 8000000
open Nat (reduceEqDiff reduceSub reduceAdd)
namespace Go.Proofs.YtelcehjliighfaaGreat.G
open Go Go.RowKit
theorem u107:Tryz.prog.underlying 107=some (TypeDesc.struct #[{name:="Monomial",type:=105,offset:=0,embedded:=false,tag:="",pkgPath:="",byteOffset:=0},{name:="Factor",type:=2,offset:=8,embedded:=false,tag:="",pkgPath:="",byteOffset:=8}]):=by kernel_rfl
theorem u110:Tryz.prog.underlying 110=some (TypeDesc.struct #[{name:="Monomial",type:=104,offset:=0,embedded:=false,tag:="",pkgPath:="",byteOffset:=0},{name:="Factor",type:=2,offset:=8,embedded:=false,tag:="",pkgPath:="",byteOffset:=8}]):=by kernel_rfl
theorem u26:Tryz.prog.underlying 26=some (TypeDesc.slice 110):=by kernel_rfl
theorem u28:Tryz.prog.underlying 28=some (TypeDesc.struct #[{name:="Terms",type:=26,offset:=0,embedded:=false,tag:="",pkgPath:="",byteOffset:=0}]):=by kernel_rfl
theorem u38:Tryz.prog.underlying 38=some (TypeDesc.slice 107):=by kernel_rfl
theorem u40:Tryz.prog.underlying 40=some (TypeDesc.struct #[{name:="Terms",type:=38,offset:=0,embedded:=false,tag:="",pkgPath:="",byteOffset:=0}]):=by kernel_rfl
theorem sz104:Size Tryz.prog 104 8:=by unfold Size;kernel_rfl
theorem sz107:Size Tryz.prog 107 9:=by unfold Size;kernel_rfl
theorem sz110:Size Tryz.prog 110 9:=by unfold Size;kernel_rfl
theorem sz26:Size Tryz.prog 26 1:=by unfold Size;kernel_rfl
theorem sz38:Size Tryz.prog 38 1:=by unfold Size;kernel_rfl
theorem sz40:Size Tryz.prog 40 1:=by unfold Size;kernel_rfl
theorem by107:Bytes Tryz.prog 107 16:=by unfold Bytes;kernel_rfl
theorem ze107:Zero Tryz.prog 107 [.int .u8 0,.int .u8 0,.int .u8 0,.int .u8 0,.int .u8 0,.int .u8 0,.int .u8 0,.int .u8 0,.int .i64 0]:=by unfold Zero;kernel_rfl
theorem ze40:Zero Tryz.prog 40 [.slice none 0 0]:=by unfold Zero;kernel_rfl
theorem pl26:Plain Tryz.prog 26:=⟨_,u26,rfl⟩
theorem pl38:Plain Tryz.prog 38:=⟨_,u38,rfl⟩
theorem ag104:Agg Tryz.prog 104 8:=⟨_,u104,rfl,by kernel_rfl⟩
theorem ag107:Agg Tryz.prog 107 9:=⟨_,u107,rfl,by kernel_rfl⟩
theorem ag110:Agg Tryz.prog 110 9:=⟨_,u110,rfl,by kernel_rfl⟩
theorem ag40:Agg Tryz.prog 40 1:=⟨_,u40,rfl,by kernel_rfl⟩
theorem fn102:Fn Tryz.prog 102:=⟨_,Tryz.func102,by kernel_rfl,rfl⟩
theorem fn114:Fn Tryz.prog 114:=⟨_,Tryz.func114,by kernel_rfl,rfl⟩
theorem fn22:Fn Tryz.prog 22:=⟨_,Tryz.func22,by kernel_rfl,rfl⟩
theorem fn27:Fn Tryz.prog 27:=⟨_,Tryz.func27,by kernel_rfl,rfl⟩
theorem fn32:Fn Tryz.prog 32:=⟨_,Tryz.func32,by kernel_rfl,rfl⟩
theorem fn52:Fn Tryz.prog 52:=⟨_,Tryz.func52,by kernel_rfl,rfl⟩
theorem fn62:Fn Tryz.prog 62:=⟨_,Tryz.func62,by kernel_rfl,rfl⟩
theorem szTermS_c {B:World} {H0 H:HP} {L:List SA} {w:World} {qts:Option Addr} {cts:Nat} {ts:List Term} {left:Int} (hts:Terms H qts ts) (hn:0≤left∧left≤1000000000∧ts.length≤9223372036854775807) (hH:Hp B H0 H L w):Calls Tryz.prog 22 [.slice qts ts.length cts,.int .i64 left].toArray w fun e w'=>e = .returned (.int .i64 (if left - ts.length<0 then -1 else left - ts.length))∧Hp B H0 H L w':=by
 refine Jx Tryz.func22 rfl 12 rfl rfl [(0,.slice qts ts.length cts),(1,.int .i64 left)] rfl hH ?_;clear hH;refine Je fun _ hK1 _=>(Jb (Jg (Jd rfl) rfl (Jf (Ja (hK1 (Je fun _ hK2 _=>(Jb (Jg (Jc rfl) rfl (Jg (Jc rfl) rfl (Jg (Jo u26 rfl rfl) rfl (Jg (EH rfl rfl (by first | exact nw _ (by omega) | rfl)) rfl (Jg (Jd rfl) rfl (Jf (Ja (hK2 (Je fun _ hK3 _=>?_))))))))))))))));refine Je fun _ hK4 _=>(Jb (Jg (Jc rfl) rfl (Jg (JJ rfl rfl) rfl (Jf (Ja (hK4 (Jq rfl (fun h10=>?_) (fun h10=>?_))))))))
 ·
  refine Je fun _ hK5 _=>(Jb (Jg (Jd rfl) rfl (Jf (Ja (hK5 (Jt (Jk (Jr rfl (Res.tmp rfl) fun w hH=>?_))))))));exact ⟨by rw [if_pos h10],hH⟩
 ·
  refine Jn (Ja (hK3 (Je fun _ hK6 _=>(Jb (Jg (Jc rfl) rfl (Jg (Jd rfl) rfl (Jf (Ja (hK6 (Jt (Jr rfl (Res.tmp rfl) fun w hH=>?_)))))))))));exact ⟨by rw [if_neg h10],hH⟩
theorem szForm_c {B:World} {H0 H:HP} {L:List SA} {w:World} {qts:Option Addr} {cts:Nat} {ts:List Term} {left:Int} (hts:Terms H qts ts) (hn:0≤left∧left≤1000000000∧ts.length≤9223372036854775807) (hH:Hp B H0 H L w):Calls Tryz.prog 6 [.agg [.slice qts ts.length cts].toArray,.int .i64 left].toArray w fun e w'=>e = .returned (.int .i64 (if left - ts.length<0 then -1 else left - ts.length))∧Hp B H0 H L w':=by
 refine Jx Tryz.func6 rfl 12 rfl rfl [(0,.agg [.slice qts ts.length cts].toArray),(1,.int .i64 left)] rfl hH ?_;clear hH;refine Je fun _ hK1 _=>(Jb (JW rfl rfl rfl fun g2=>(Jg (Jd rfl) rfl (Jf (Ja (hK1 (Je fun _ hK2 _=>(Jb (Jg (Jl u28 rfl sz26 rfl) rfl (Jg (Js rfl At.z rfl pl26) rfl (Jg (Jc rfl) rfl (Ju fn22 rfl rfl fun w hH=>(szTermS_c hts hn hH).mono ?_))))))))))));rintro _ w ⟨rfl,hH⟩;refine ⟨_,rfl,fun a hF=>JH hF hH ?_⟩;refine Jg (Jd rfl) rfl (Jf (Ja (hK2 (Je fun _ hK3 _=>(Je fun _ hK4 _=>(Jb (Jg (Jc rfl) rfl (Jg (JJ rfl rfl) rfl (Jf (Ja (hK4 (Jq rfl (fun h10=>?_) (fun h10=>?_)))))))))))))
 ·
  refine Je fun _ hK5 _=>(Jb (Jg (Jd rfl) rfl (Jf (Ja (hK5 (Jt (Jk (Jr rfl (Res.tmp rfl) fun w hH=>?_))))))));replace hH:=hH.tail;exact ⟨ri (by split at h10 <;> split <;> omega),hH⟩
 ·
  refine Jn (Ja (hK3 (Je fun _ hK6 _=>(Jb (Jg (Jc rfl) rfl (Jg (Jd rfl) rfl (Jf (Ja (hK6 (Jt (Jr rfl (Res.tmp rfl) fun w hH=>?_)))))))))));replace hH:=hH.tail;exact ⟨ri (by split at h10 <;> rfl),hH⟩
theorem toTerm_c {B:World} {H0 H:HP} {L:List SA} {w:World} {t:Term} (ht:t.wf) (hH:Hp B H0 H L w):Calls Tryz.prog 52 [.agg t.c.toArray].toArray w fun e w'=>e = .returned (.agg t.c.toArray)∧Hp B H0 H L w':=by
 refine Jx Tryz.func52 rfl 12 rfl rfl [(0,.agg t.c.toArray)] rfl hH ?_;clear hH;refine Je fun _ hK1 _=>(Jb (JW rfl rfl rfl fun g1=>(JP (cs:=(default:Term).c) ze107 rfl fun g2=>(Jf (Ja (hK1 (Je fun _ hK2 _=>(Jb (JP (cs:=(default:Term).c) ze107 rfl fun g3=>(Jf (Ja (hK2 (Je fun _ hK3 _=>(Jb (Jg (Jl u110 rfl sz104 rfl) rfl (Jg (EU rfl (.s (.s .z)) ht ag104) rfl ?_))))))))))))))));refine Ju fn102 rfl rfl fun w hH=>(toMonomial_c ht.mono hH).mono ?_;rintro _ w ⟨rfl,hH⟩;refine ⟨_,rfl,fun a hF=>JH hF hH ?_⟩;refine Jg (Jl u107 rfl sz105 rfl) rfl (J.stMono rfl rfl sz105 zero_wf ht.mono At.z (Jf (Ja (hK3 (Je fun _ hK4 _=>(Jb (Jg (Jl u110 rfl sz2 rfl) rfl (Jg (PR.ldFac rfl (.s (.s .z)) ht pl2) rfl (Jg (Jl u107 rfl sz2 rfl) rfl (J.stFac rfl rfl sz2 (Term.wf.of ht.mono zero_wf.fac) At.z (Jf (Ja (hK4 (Je fun _ hK5 _=>(Jb (Jg (PR.ldTerm rfl At.z (Term.wf.of (Term.wf.of ht.mono zero_wf.fac).mono ht.fac) ag107) rfl ?_))))))))))))))));refine J.stTerm rfl rfl sz107 zero_wf (Term.wf.of (Term.wf.of ht.mono zero_wf.fac).mono ht.fac) (.s .z) (Jf (Ja (hK5 (Jt (Jr rfl (Res.agg rfl (.s .z) (by rw [Term.c_length ht];exact ag107)) fun w hH=>?_)))));replace hH:=hH.tail;replace hH:=hH.tail;replace hH:=hH.tail;exact ⟨rfl,hH⟩
theorem toTermS_c {B:World} {H0 H:HP} {L:List SA} {w:World} {qts:Option Addr} {cts:Nat} {ts:List Term} (hts:Terms H qts ts) (hn:ts.length≤1048576) (hH:Hp B H0 H L w):Calls Tryz.prog 27 [.slice qts ts.length cts].toArray w fun e w'=>∃q c,e = .returned (.slice q ts.length c)∧Hp B H0 H (own 107 9 q ts.length c (tsC ts)::L) w':=by
 refine Jx Tryz.func27 rfl 23 rfl rfl [(0,.slice qts ts.length cts)] rfl hH ?_;clear hH;refine Je fun _ hK1 _=>(Jb (Jg (Jd rfl) rfl (Jf (Ja (hK1 (Je fun _ hK2 _=>(Jb (Jg (Jc rfl) rfl (Jg (Jo u26 rfl rfl) rfl (J.makeT u38 ze107 sz107 by107 rfl rfl rfl rfl (by omega) rfl fun g7=>(Jg (Jd rfl) rfl (Jf (Ja (hK2 (Je fun _ hK3 _=>(Je fun _ hK4 _=>?_))))))))))))))));refine Jb (Jg (Jd rfl) rfl (Jf (Ja (hK4 (Jp (JD (σ:=Nat) (fun (k:Nat)=>[(4,.int .i64 (k:Int))]) (fun (k:Nat)=>H) (fun (k:Nat)=>obj g7 (.cells (tsC (ts.take k++List.replicate (ts.length - k) default)).toArray 107 (0,0))::L) (fun (k:Nat)=>k≤ts.length) (fun (k:Nat)=>ts.length - k) 0 (by omega) ⟨rfl,trivial⟩ rfl rfl ?_))))));rintro k hI _ hAg0;have hk:=hI;refine Je fun _ hK5 _=>(Je fun _ hK6 _=>(Jb (Jg (Jc rfl) rfl (Jg (Jc rfl) rfl (Jg (Jo u26 rfl rfl) rfl (Jg (JJ rfl rfl) rfl (Jf (Ja (hK6 (Jq rfl (fun hc11=>?_) (fun hc11=>?_)))))))))))
 ·
  refine Jn (Ja (hK5 (Je fun _ hK7 _=>(Jp (Jb (Jg (Jc rfl) rfl (Jg (Jc rfl) rfl (Jg (Jc rfl) rfl (Jg (Jc rfl) rfl (Jg (Ey u26 sz110 rfl rfl rfl (by omega) hts.sm) rfl (Jg (JM rfl (hts.cell _ (by omega)) (hts.sm (i:=k) (by omega)) (by rw [Term.c_length (hts.wf _ (by omega))];exact ag110)) rfl (Ju fn52 rfl rfl fun w hH=>(toTerm_c (hts.wf k (by omega)) hH).mono ?_))))))))))));rintro _ w ⟨rfl,hH⟩;refine ⟨_,rfl,fun a hF=>JH hF hH ?_⟩;refine Jg (PR.idxO u38 sz107 rfl rfl rfl (by omega)) rfl (J.storeT rfl rfl sz107 (by simp;omega) (fillT_wf hts.wfs _ _) (hts.wf k (by omega)) At.z (Jf (JF (Ja (hK7 (Jb (Jg (Jc rfl) rfl (Jg (Jz rfl rfl (by first | exact nw _ (by omega) | rfl)) rfl (Jg (Jd rfl) rfl (Jf (Ja ?_)))))))))));exact hAg0 (k+1) (by omega) (by omega) 16 rfl rfl ⟨rfl,trivial⟩ rfl (by rw [← fillT_step (by omega)])
 ·
  refine JG (Jj (Jj (JK (Ja (hK3 (Je fun _ hK8 _=>(Jb (Jg (Jc rfl) rfl (Jg (Jd rfl) rfl (Jf (Ja (hK8 (Jt (Jr rfl (Res.tmp rfl) fun w hH=>?_))))))))))))))
  obtain rfl:k=ts.length:=by omega
  rw [fillT_end] at hH;exact ⟨_,_,rfl,own_full _ 9 hH (tsC_length hts.wfs) (by simp only [maxLen];omega)⟩
theorem toForm_c {B:World} {H0 H:HP} {L:List SA} {w:World} {qts:Option Addr} {cts:Nat} {ts:List Term} (hts:Terms H qts ts) (hn:ts.length≤1048576) (hH:Hp B H0 H L w):Calls Tryz.prog 9 [.agg [.slice qts ts.length cts].toArray].toArray w fun e w'=>∃q c,e = .returned (.agg [.slice q ts.length c].toArray)∧Hp B H0 H (own 107 9 q ts.length c (tsC ts)::L) w':=by
 refine Jx Tryz.func9 rfl 9 rfl rfl [(0,.agg [.slice qts ts.length cts].toArray)] rfl hH ?_;clear hH;refine Je fun _ hK1 _=>(Jb (JW rfl rfl rfl fun g1=>(JP ze40 rfl fun g2=>(Jf (Ja (hK1 (Je fun _ hK2 _=>(Jb (JP ze40 rfl fun g3=>(Jf (Ja (hK2 (Je fun _ hK3 _=>(Jb (Jg (Jl u28 rfl sz26 rfl) rfl (Jg (Js rfl (.s (.s .z)) rfl pl26) rfl ?_))))))))))))))));refine Ju fn27 rfl rfl fun w hH=>(toTermS_c hts (by omega) hH).mono ?_;rintro _ w ⟨qo6,co6,rfl,hH⟩;refine ⟨_,rfl,fun a hF=>JH hF hH ?_⟩;refine Jg (Jl u40 rfl sz38 rfl) rfl (Et rfl rfl rfl rfl sz38 (by simp [*]) (.s .z) (Jf (Ja (hK3 (Je fun _ hK4 _=>(Jb (Jg (Jm rfl (.s .z) (by simpa [*] using ag40)) rfl (JB rfl rfl (by first | exact bytesC_one _ | exact intsC_one _ | exact Term.c_one _ | simp [Value.oneCell']) (by simpa [*] using sz40) (by simp [*]) (.s (.s .z)) (Jf (Ja (hK4 (Jt (Jr rfl (Res.agg rfl (.s (.s .z)) (by simpa [*] using ag40)) fun w hH=>?_)))))))))))));replace hH:=hH.sublist (.cons_cons _ (.cons _ (.cons _ (.cons _ (List.Sublist.refl _)))));exact ⟨_,_,rfl,hH⟩
def cmp (p q:List Int):Int:=match (List.range 8).find? (fun i=>decide (p.getD i 0≠q.getD i 0)) with | some i=>q.getD i 0 - p.getD i 0 | none=>0
def before (a b:List Int):Bool:=decide (cmp a b<0)
theorem range_find {p:Nat→Bool} {k n:Nat} (hk:k<n) (h : ∀j,j<k→p j=false) (hp:p k=true):(List.range n).find? p=some k:=by
 rw [List.find?_eq_some_iff_getElem];exact ⟨hp,k,by simp [hk],by simp,fun j hj=>by simp [h j hj]⟩
theorem range_find_none {p:Nat→Bool} {n:Nat} (h : ∀j,j<n→p j=false):(List.range n).find? p=none:=by
 rw [List.find?_eq_none];intro j hj
 simp [h j (List.mem_range.1 hj)]
theorem cmp_hit {p q:List Int} {k:Nat} (hk:k<8) (h : ∀j,j<k→p.getD j 0=q.getD j 0) (hn:p.getD k 0≠q.getD k 0):cmp p q=q.getD k 0 - p.getD k 0:=by
 unfold cmp;rw [range_find (p:=fun i=>decide (p.getD i 0≠q.getD i 0)) hk (fun j hj=>decide_eq_false (by simpa using h j hj)) (decide_eq_true hn)]
theorem cmp_miss {p q:List Int} (h : ∀j,j<8→p.getD j 0=q.getD j 0):cmp p q=0:=by
 unfold cmp;rw [range_find_none (p:=fun i=>decide (p.getD i 0≠q.getD i 0)) (fun j hj=>decide_eq_false (by simpa using h j hj))]
theorem before_hit {p q:List Int} {k:Nat} (hk:k<8) (h : ∀j,j<k→p.getD j 0=q.getD j 0) (hn:p.getD k 0≠q.getD k 0):before p q=decide (p.getD k 0>q.getD k 0):=by
 unfold before;rw [cmp_hit hk h hn];exact decide_eq_decide.2 (by omega)
theorem before_miss {p q:List Int} (h : ∀j,j<8→p.getD j 0=q.getD j 0):before p q=false:=by
 unfold before;rw [cmp_miss h]
 rfl
def goodAt (ds:List Int) (ts:List Term) (i:Nat):Bool:=
 isMono ds (tm ts i).mono && (decide (1≤(tm ts i).fac) && decide ((tm ts i).fac≤10006)) && (decide (i=0) || before (tm ts (i - 1)).mono (tm ts i).mono)
def isForm (ds:List Int) (ts:List Term):Bool:=decide (ts.length≤400) && (List.range ts.length).all (goodAt ds ts)
theorem isForm_long {ds:List Int} {ts:List Term} (h : ¬(ts.length:Int)≤400):isForm ds ts=false:=by
 unfold isForm;rw [decide_eq_false (by omega)]
 rfl
theorem isForm_bad {ds:List Int} {ts:List Term} {k:Nat} (hk:k<ts.length) (h:goodAt ds ts k=false):isForm ds ts=false:=by
 unfold isForm;rw [Bool.and_eq_false_iff];exact .inr (List.all_eq_false.2 ⟨k,by simpa using hk,by simp [h]⟩)
theorem isForm_good {ds:List Int} {ts:List Term} (h : ∀j,j<ts.length→goodAt ds ts j=true):isForm ds ts=decide ((ts.length:Int)≤400):=by
 unfold isForm;rw [List.all_eq_true.2 (fun j hj=>h j (by simpa using hj)),Bool.and_true];exact decide_eq_decide.2 (by omega)
theorem mono_eq_of {a b:List Int} (ha:Mono a) (hb:Mono b) (h : ∀j,j<8→a.getD j 0=b.getD j 0):a=b:=list_eq_of (by rw [ha.len,hb.len]) (fun j hj=>h j (by rw [ha.len] at hj;exact hj))
theorem eqMonomial_c {B:World} {H0 H:HP} {L:List SA} {w:World} {a:List Int} {b:List Int} (ha:Mono a) (hb:Mono b) (hH:Hp B H0 H L w):Calls Tryz.prog 114 [.agg (bytesC a).toArray,.agg (bytesC b).toArray].toArray w fun e w'=>e = .returned (.bool (decide (a=b)))∧Hp B H0 H L w':=by
 refine Jx Tryz.func114 rfl 17 rfl rfl [(0,.agg (bytesC a).toArray),(1,.agg (bytesC b).toArray)] rfl hH ?_;have hal:=ha.len;have hbl:=hb.len;clear hH;refine Je fun _ hK1 _=>(Jb (JW rfl rfl rfl fun g2=>(JW rfl rfl rfl fun g3=>(Jg (Jd rfl) rfl (Jf (Ja (hK1 (Je fun _ hK2 _=>(Je fun _ hK3 _=>(Jb (Jg (Jd rfl) rfl (Jf (Ja (hK3 (Jp (JD (σ:=Nat) (fun (k:Nat)=>[(5,.int .i64 (k:Int))]) (fun (k:Nat)=>H) (fun (k:Nat)=>obj g3 (.cells (bytesC b).toArray 105 (0,0))::obj g2 (.cells (bytesC a).toArray 105 (0,0))::L) (fun (k:Nat)=>k≤8∧∀j,j<k→a.getD j 0=b.getD j 0) (fun (k:Nat)=>8 - k) 0 ⟨by omega,fun j hj=>by omega⟩ ⟨rfl,trivial⟩ rfl rfl ?_))))))))))))))));rintro k hI _ hAg0;have hk:=hI.1;refine Je fun _ hK4 _=>(Je fun _ hK5 _=>(Jb (Jg (Jc rfl) rfl (Jg (JJ rfl rfl) rfl (Jf (Ja (hK5 (Jq rfl (fun hc7=>?_) (fun hc7=>?_)))))))))
 ·
  refine Jn (Ja (hK4 (Je fun _ hK6 _=>(Jp (Je fun _ hK7 _=>(EC foll0 (by kernel_rfl) (JC (Jc rfl) rfl (JC (JT u105 sz5 rfl rfl rfl (by omega)) rfl (JC (Js rfl (.s .z) (by first | exact bytesC_get (by simp [*];omega) | exact intsC_get (by simp [*];omega)) pl5) rfl (JC (Jc rfl) rfl (JC (JT u105 sz5 rfl rfl rfl (by omega)) rfl (JC (Js rfl At.z (by first | exact bytesC_get (by simp [*];omega) | exact intsC_get (by simp [*];omega)) pl5) rfl (JC (Eo rfl rfl) rfl (Ed (Ja (hK7 ?_))))))))))))))));refine Jq rfl (fun h16=>?_) (fun h16=>?_)
  ·
   refine Je fun _ hK8 _=>(Jb (Jg (Jd rfl) rfl (Jf (Ja (hK8 (Jt (JO (Jk (Jk (JO (Jk (Jr rfl (Res.tmp rfl) fun w hH=>?_))))))))))));replace hH:=hH.tail;replace hH:=hH.tail;exact ⟨rb (decide_eq_false (fun e=>h16 (by rw [e]))).symm,hH⟩
  ·
   refine Jn (JF (Ja (hK6 (Jb (Jg (Jc rfl) rfl (Jg (Jz rfl rfl (by first | exact nw _ (by omega) | rfl)) rfl (Jg (Jd rfl) rfl (Jf (Ja ?_)))))))));exact hAg0 (k+1) ⟨by omega,upto hI.2 (by omega)⟩ (by omega) 13 rfl rfl ⟨rfl,trivial⟩ rfl rfl
 ·
  refine JG (Jj (Jj (JK (Ja (hK2 (Je fun _ hK9 _=>(Jb (Jg (Jd rfl) rfl (Jf (Ja (hK9 (Jt (Jr rfl (Res.tmp rfl) fun w hH=>?_)))))))))))));replace hH:=hH.tail;replace hH:=hH.tail;exact ⟨rb (decide_eq_true (mono_eq_of ha hb (fun j hj=>hI.2 j (by omega)))).symm,hH⟩
theorem eqTerm_c {B:World} {H0 H:HP} {L:List SA} {w:World} {a:Term} {b:Term} (ha:a.wf) (hb:b.wf) (hH:Hp B H0 H L w):Calls Tryz.prog 62 [.agg a.c.toArray,.agg b.c.toArray].toArray w fun e w'=>e = .returned (.bool (decide (a=b)))∧Hp B H0 H L w':=by
 refine Jx Tryz.func62 rfl 16 rfl rfl [(0,.agg a.c.toArray),(1,.agg b.c.toArray)] rfl hH ?_;clear hH;refine Je fun _ hK1 _=>(Jb (JW rfl rfl rfl fun g2=>(JW rfl rfl rfl fun g3=>(Jg (Jd rfl) rfl (Jf (Ja (hK1 (Je fun _ hK2 _=>(Je fun _ hK3 _=>(Jb (Jg (Jl u107 rfl sz105 rfl) rfl (Jg (EU rfl (.s .z) ha ag105) rfl (Jg (Jl u107 rfl sz105 rfl) rfl (Jg (EU rfl At.z hb ag105) rfl (Ju fn114 rfl rfl fun w hH=>(eqMonomial_c ha.mono hb.mono hH).mono ?_)))))))))))))));rintro _ w ⟨rfl,hH⟩;refine ⟨_,rfl,fun a hF=>JH hF hH ?_⟩;refine Jg (Em rfl) rfl (Jf (Ja (hK3 (Ei rfl (fun h10=>?_) (fun h10=>?_)))))
 ·
  refine Je fun _ hK4 _=>(Jb (Jg (Jd rfl) rfl (Jf (Ja (hK4 (Jt (Jk (Jr rfl (Res.tmp rfl) fun w hH=>?_))))))));replace hH:=hH.tail;replace hH:=hH.tail;exact ⟨rb (decide_eq_false (fun e=>(by rw [e] at h10;simp at h10))).symm,hH⟩
 ·
  refine Jn (Ja (hK2 (Je fun _ hK5 _=>(Je fun _ hK6 _=>(Jb (Jg (Jl u107 rfl sz2 rfl) rfl (Jg (PR.ldFac rfl (.s .z) ha pl2) rfl (Jg (Jl u107 rfl sz2 rfl) rfl (Jg (PR.ldFac rfl At.z hb pl2) rfl (Jg (Eo rfl rfl) rfl (Jf (Ja (hK6 (Jq rfl (fun h15=>?_) (fun h15=>?_)))))))))))))))
  ·
   refine Je fun _ hK7 _=>(Jb (Jg (Jd rfl) rfl (Jf (Ja (hK7 (Jt (Jk (Jr rfl (Res.tmp rfl) fun w hH=>?_))))))));replace hH:=hH.tail;replace hH:=hH.tail;exact ⟨rb (decide_eq_false (fun e=>h15 (by rw [e]))).symm,hH⟩
  ·
   refine Jn (Ja (hK5 (Je fun _ hK8 _=>(Jb (Jg (Jd rfl) rfl (Jf (Ja (hK8 (Jt (Jr rfl (Res.tmp rfl) fun w hH=>?_))))))))));replace hH:=hH.tail;replace hH:=hH.tail;exact ⟨rb (decide_eq_true (Term.eq_of (of_decide_eq_true (notf h10)) (by omega))).symm,hH⟩
theorem eqTermS_c {B:World} {H0 H:HP} {L:List SA} {w:World} {qxs:Option Addr} {cxs:Nat} {xs:List Term} {qys:Option Addr} {cys:Nat} {ys:List Term} (hxs:Terms H qxs xs) (hys:Terms H qys ys) (hn:xs.length≤9223372036854775807) (hH:Hp B H0 H L w):Calls Tryz.prog 32 [.slice qxs xs.length cxs,.slice qys ys.length cys].toArray w fun e w'=>e = .returned (.bool (decide (xs=ys)))∧Hp B H0 H L w':=by
 refine Jx Tryz.func32 rfl 27 rfl rfl [(0,.slice qxs xs.length cxs),(1,.slice qys ys.length cys)] rfl hH ?_;clear hH;refine Je fun _ hK1 _=>(Jb (Jg (Jd rfl) rfl (Jf (Ja (hK1 (Je fun _ hK2 _=>(Je fun _ hK3 _=>(Jb (Jg (Jc rfl) rfl (Jg (Jo u38 rfl rfl) rfl (Jg (Jc rfl) rfl (Jg (Jo u38 rfl rfl) rfl (Jg (Eo rfl rfl) rfl (Jf (Ja (hK3 ?_))))))))))))))));refine Jq rfl (fun h10=>?_) (fun h10=>?_)
 ·
  refine Je fun _ hK4 _=>(Jb (Jg (Jd rfl) rfl (Jf (Ja (hK4 (Jt (Jk (Jr rfl (Res.tmp rfl) fun w hH=>?_))))))));exact ⟨rb (decide_eq_false (fun e=>h10 (by rw [e]))).symm,hH⟩
 ·
  refine Jn (Ja (hK2 (Je fun _ hK5 _=>(Je fun _ hK6 _=>(Jb (Jg (Jd rfl) rfl (Jf (Ja (hK6 (Jp (JD (σ:=Nat) (fun (k:Nat)=>[(5,.int .i64 (k:Int))]) (fun (k:Nat)=>H) (fun (k:Nat)=>L) (fun (k:Nat)=>k≤xs.length∧∀j,j<k→tm xs j=tm ys j) (fun (k:Nat)=>xs.length - k) 0 ⟨by omega,fun j hj=>by omega⟩ ⟨rfl,trivial⟩ rfl rfl ?_)))))))))));rintro k hI _ hAg0;have hk:=hI.1;refine Je fun _ hK7 _=>(Je fun _ hK8 _=>(Jb (Jg (Jc rfl) rfl (Jg (Jc rfl) rfl (Jg (Jo u38 rfl rfl) rfl (Jg (JJ rfl rfl) rfl (Jf (Ja (hK8 (Jq rfl (fun hc14=>?_) (fun hc14=>?_)))))))))))
  ·
   refine Jn (Ja (hK7 (Je fun _ hK9 _=>(Jp (Je fun _ hK10 _=>(Er [[], [], [0,1], [2], [], [], [4,5], [6]] (by kernel_rfl) (JA (fun gh=>Jc rfl) (JA (fun gh=>Jc rfl) (JA (fun gh=>Ey u38 sz107 rfl rfl rfl (by omega) hxs.sm) (JA (fun gh=>JM rfl (hxs.cell _ (by omega)) (hxs.sm (i:=k) (by omega)) (by rw [Term.c_length (hxs.wf _ (by omega))];exact ag107)) (JA (fun gh=>Jc rfl) (JA (fun gh=>Jc rfl) (JA (fun gh=>Ey u38 sz107 rfl rfl rfl (by omega) hys.sm) (JA (fun gh=>JM rfl (hys.cell _ (by omega)) (hys.sm (i:=k) (by omega)) (by rw [Term.c_length (hys.wf _ (by omega))];exact ag107)) (Ec 8 1 foll0 (by kernel_rfl) rfl rfl fun gh=>?_)))))))))))))));refine En (us':=(17,_)::(18,_)::(19,_)::(20,_)::(21,_)::(22,_)::(23,_)::(24,_)::_) (L':=_) rfl rfl (Ju fn62 rfl rfl fun w hH=>(eqTerm_c (hxs.wf k (by omega)) (hys.wf k (by omega)) hH).mono ?_);rintro _ w ⟨rfl,hH⟩;refine ⟨_,rfl,fun a hF=>JH hF hH ?_⟩;refine Jf (Eb (JC (Em rfl) rfl (Ed (Ja (hK10 (Ei rfl (fun h26=>?_) (fun h26=>?_)))))))
   ·
    refine Je fun _ hK11 _=>(Jb (Jg (Jd rfl) rfl (Jf (Ja (hK11 (Jt (JO (Jk (Jk (JO (Jk (Jr rfl (Res.tmp rfl) fun w hH=>?_))))))))))));exact ⟨rb (decide_eq_false (fun e=>(by rw [e] at h26;simp at h26))).symm,hH⟩
   ·
    refine Jn (JF (Ja (hK9 (Jb (Jg (Jc rfl) rfl (Jg (Jz rfl rfl (by first | exact nw _ (by omega) | rfl)) rfl (Jg (Jd rfl) rfl (Jf (Ja ?_)))))))));exact hAg0 (k+1) ⟨by omega,upto hI.2 (of_decide_eq_true (notf h26))⟩ (by omega) 18 rfl rfl ⟨rfl,trivial⟩ rfl rfl
  ·
   refine JG (Jj (Jj (JK (Ja (hK5 (Je fun _ hK12 _=>(Jb (Jg (Jd rfl) rfl (Jf (Ja (hK12 (Jt (Jr rfl (Res.tmp rfl) fun w hH=>?_)))))))))))));exact ⟨rb (decide_eq_true (terms_eq_of (by omega) (fun j hj=>hI.2 j (by omega)))).symm,hH⟩
theorem eqForm_c {B:World} {H0 H:HP} {L:List SA} {w:World} {qxs:Option Addr} {cxs:Nat} {xs:List Term} {qys:Option Addr} {cys:Nat} {ys:List Term} (hxs:Terms H qxs xs) (hys:Terms H qys ys) (hn:xs.length≤9223372036854775807) (hH:Hp B H0 H L w):Calls Tryz.prog 13 [.agg [.slice qxs xs.length cxs].toArray,.agg [.slice qys ys.length cys].toArray].toArray w fun e w'=>e = .returned (.bool (decide (xs=ys)))∧Hp B H0 H L w':=by
 refine Jx Tryz.func13 rfl 11 rfl rfl [(0,.agg [.slice qxs xs.length cxs].toArray),(1,.agg [.slice qys ys.length cys].toArray)] rfl hH ?_;clear hH;refine Je fun _ hK1 _=>(Jb (JW rfl rfl rfl fun g2=>(JW rfl rfl rfl fun g3=>(Jg (Jd rfl) rfl (Jf (Ja (hK1 (Je fun _ hK2 _=>(Je fun _ hK3 _=>(Jb (Jg (Jl u40 rfl sz38 rfl) rfl (Jg (Js rfl (.s .z) rfl pl38) rfl (Jg (Jl u40 rfl sz38 rfl) rfl (Jg (Js rfl At.z rfl pl38) rfl (Ju fn32 rfl rfl fun w hH=>(eqTermS_c hxs hys (by omega) hH).mono ?_)))))))))))))));rintro _ w ⟨rfl,hH⟩;refine ⟨_,rfl,fun a hF=>JH hF hH ?_⟩;refine Jg (Em rfl) rfl (Jf (Ja (hK3 (Ei rfl (fun h10=>?_) (fun h10=>?_)))))
 ·
  refine Je fun _ hK4 _=>(Jb (Jg (Jd rfl) rfl (Jf (Ja (hK4 (Jt (Jk (Jr rfl (Res.tmp rfl) fun w hH=>?_))))))));replace hH:=hH.tail;replace hH:=hH.tail;exact ⟨rb (nott h10).symm,hH⟩
 ·
  refine Jn (Ja (hK2 (Je fun _ hK5 _=>(Jb (Jg (Jd rfl) rfl (Jf (Ja (hK5 (Jt (Jr rfl (Res.tmp rfl) fun w hH=>?_))))))))));replace hH:=hH.tail;replace hH:=hH.tail;exact ⟨rb (notf h10).symm,hH⟩
theorem l01Before_c {B:World} {H0 H:HP} {L:List SA} {w:World} {a:List Int} {b:List Int} (ha:Mono a) (hb:Mono b) (hH:Hp B H0 H L w):Calls Tryz.prog 128 [.agg (bytesC a).toArray,.agg (bytesC b).toArray].toArray w fun e w'=>e = .returned (.bool (before a b))∧Hp B H0 H L w':=by
 refine Jx Tryz.func128 rfl 24 rfl rfl [(0,.agg (bytesC a).toArray),(1,.agg (bytesC b).toArray)] rfl hH ?_;have hal:=ha.len;have hbl:=hb.len;clear hH;refine Je fun _ hK1 _=>(Jb (JW rfl rfl rfl fun g2=>(JW rfl rfl rfl fun g3=>(Jg (Jd rfl) rfl (Jf (Ja (hK1 (Je fun _ hK2 _=>(Je fun _ hK3 _=>(Jb (Jg (Jd rfl) rfl (Jf (Ja (hK3 (Jp (JD (σ:=Nat) (fun (k:Nat)=>[(5,.int .i64 (k:Int))]) (fun (k:Nat)=>H) (fun (k:Nat)=>obj g3 (.cells (bytesC b).toArray 105 (0,0))::obj g2 (.cells (bytesC a).toArray 105 (0,0))::L) (fun (k:Nat)=>k≤8∧∀j,j<k→a.getD j 0=b.getD j 0) (fun (k:Nat)=>8 - k) 0 ⟨by omega,fun j hj=>by omega⟩ ⟨rfl,trivial⟩ rfl rfl ?_))))))))))))))));rintro k hI _ hAg0;have hk:=hI.1;refine Je fun _ hK4 _=>(Je fun _ hK5 _=>(Jb (Jg (Jc rfl) rfl (Jg (JJ rfl rfl) rfl (Jf (Ja (hK5 (Jq rfl (fun hc7=>?_) (fun hc7=>?_)))))))))
 ·
  refine Jn (Ja (hK4 (Je fun _ hK6 _=>(Jp (Je fun _ hK7 _=>(EC foll0 (by kernel_rfl) (JC (Jc rfl) rfl (JC (JT u105 sz5 rfl rfl rfl (by omega)) rfl (JC (Js rfl (.s .z) (by first | exact bytesC_get (by simp [*];omega) | exact intsC_get (by simp [*];omega)) pl5) rfl (JC (Jc rfl) rfl (JC (JT u105 sz5 rfl rfl rfl (by omega)) rfl (JC (Js rfl At.z (by first | exact bytesC_get (by simp [*];omega) | exact intsC_get (by simp [*];omega)) pl5) rfl (JC (Eo rfl rfl) rfl (Ed (Ja (hK7 ?_))))))))))))))));refine Jq rfl (fun h16=>?_) (fun h16=>?_)
  ·
   refine Je fun _ hK8 _=>(EC foll0 (by kernel_rfl) (JC (Jc rfl) rfl (JC (JT u105 sz5 rfl rfl rfl (by omega)) rfl (JC (Js rfl (.s .z) (by first | exact bytesC_get (by simp [*];omega) | exact intsC_get (by simp [*];omega)) pl5) rfl (JC (Jc rfl) rfl (JC (JT u105 sz5 rfl rfl rfl (by omega)) rfl (JC (Js rfl At.z (by first | exact bytesC_get (by simp [*];omega) | exact intsC_get (by simp [*];omega)) pl5) rfl (JC (EK rfl rfl) rfl (JC (Jd rfl) rfl (Ed (Ja (hK8 (Jt (JO (Jk ?_)))))))))))))));refine Jk (JO (Jk (Jr rfl (Res.tmp rfl) fun w hH=>?_)));replace hH:=hH.tail;replace hH:=hH.tail;exact ⟨rb (before_hit (by omega) hI.2 h16).symm,hH⟩
  ·
   refine Jn (JF (Ja (hK6 (Jb (Jg (Jc rfl) rfl (Jg (Jz rfl rfl (by first | exact nw _ (by omega) | rfl)) rfl (Jg (Jd rfl) rfl (Jf (Ja ?_)))))))));exact hAg0 (k+1) ⟨by omega,upto hI.2 (by omega)⟩ (by omega) 13 rfl rfl ⟨rfl,trivial⟩ rfl rfl
 ·
  refine JG (Jj (Jj (JK (Ja (hK2 (Je fun _ hK9 _=>(Jb (Jg (Jd rfl) rfl (Jf (Ja (hK9 (Jt (Jr rfl (Res.tmp rfl) fun w hH=>?_)))))))))))));replace hH:=hH.tail;replace hH:=hH.tail;exact ⟨rb (before_miss (fun j hj=>hI.2 j (by omega))).symm,hH⟩
theorem compare_c {B:World} {H0 H:HP} {L:List SA} {w:World} {a:List Int} {b:List Int} (ha:a.length=8) (hb:b.length=8) (hsa:Small a) (hsb:Small b) (hH:Hp B H0 H L w):Calls Tryz.prog 139 [.agg (intsC a).toArray,.agg (intsC b).toArray].toArray w fun e w'=>e = .returned (.int .i64 (cmp a b))∧Hp B H0 H L w':=by
 refine Jx Tryz.func139 rfl 24 rfl rfl [(0,.agg (intsC a).toArray),(1,.agg (intsC b).toArray)] rfl hH ?_;clear hH;refine Je fun _ hK1 _=>(Jb (JW rfl rfl rfl fun g2=>(JW rfl rfl rfl fun g3=>(Jg (Jd rfl) rfl (Jf (Ja (hK1 (Je fun _ hK2 _=>(Je fun _ hK3 _=>(Jb (Jg (Jc rfl) rfl (Jf (Ja (hK3 (Jp (JD (σ:=Nat) (fun (k:Nat)=>[(6,.int .i64 (k:Int))]) (fun (k:Nat)=>H) (fun (k:Nat)=>obj g3 (.cells (intsC b).toArray 148 (0,0))::obj g2 (.cells (intsC a).toArray 148 (0,0))::L) (fun (k:Nat)=>k≤8∧∀j,j<k→a.getD j 0=b.getD j 0) (fun (k:Nat)=>8 - k) 0 ⟨by omega,fun j hj=>by omega⟩ ⟨rfl,trivial⟩ rfl rfl ?_))))))))))))))));rintro k hI _ hAg0;have hk:=hI.1;have ba:=hsa k;have bb:=hsb k;refine Je fun _ hK4 _=>(Jb (Jg (JJ rfl rfl) rfl (Jf (Ja (hK4 (Je fun _ hK5 _=>(Jq rfl (fun hc7=>?_) (fun hc7=>?_))))))))
 ·
  refine Jn (Ja (hK5 (Je fun _ hK6 _=>(Jp (Je fun _ hK7 _=>(Jb (Jg (Jc rfl) rfl (Jg (Jd rfl) rfl (Jf (Ja (hK7 (Je fun _ hK8 _=>(EC foll0 (by kernel_rfl) (JC (Jc rfl) rfl (JC (JT u148 sz3 rfl rfl rfl (by omega)) rfl (JC (Js rfl (.s .z) (by first | exact bytesC_get (by simp [*];omega) | exact intsC_get (by simp [*];omega)) pl3) rfl ?_))))))))))))))));refine JC (Jc rfl) rfl (JC (JT u148 sz3 rfl rfl rfl (by omega)) rfl (JC (Js rfl At.z (by first | exact bytesC_get (by simp [*];omega) | exact intsC_get (by simp [*];omega)) pl3) rfl (JC (Eo rfl rfl) rfl (Ed (Ja (hK8 (Jq rfl (fun h15=>?_) (fun h15=>?_))))))))
  ·
   refine Je fun _ hK9 _=>(EC foll0 (by kernel_rfl) (JC (Jc rfl) rfl (JC (JT u148 sz3 rfl rfl rfl (by omega)) rfl (JC (Js rfl At.z (by first | exact bytesC_get (by simp [*];omega) | exact intsC_get (by simp [*];omega)) pl3) rfl (JC (Jc rfl) rfl (JC (JT u148 sz3 rfl rfl rfl (by omega)) rfl (JC (Js rfl (.s .z) (by first | exact bytesC_get (by simp [*];omega) | exact intsC_get (by simp [*];omega)) pl3) rfl (JC (EH rfl rfl (by first | exact nw _ (by omega) | rfl)) rfl (JC (Jd rfl) rfl (Ed (Ja (hK9 (Jt (JO (Jk ?_)))))))))))))));refine Jk (JO (Jk (Jr rfl (Res.tmp rfl) fun w hH=>?_)));replace hH:=hH.tail;replace hH:=hH.tail;exact ⟨ri (cmp_hit (by omega) hI.2 h15).symm,hH⟩
  ·
   refine Jn (JF (Ja (hK6 (Jb (Jg (Jz rfl rfl (by first | exact nw _ (by omega) | rfl)) rfl (Jg (Jc rfl) rfl (Jf (Ja ?_))))))));exact hAg0 (k+1) ⟨by omega,upto hI.2 (by omega)⟩ (by omega) 13 rfl rfl ⟨rfl,trivial⟩ rfl rfl
 ·
  refine JG (Jj (Jj (JK (Ja (hK2 (Je fun _ hK10 _=>(Jb (Jg (Jd rfl) rfl (Jf (Ja (hK10 (Jt (Jr rfl (Res.tmp rfl) fun w hH=>?_)))))))))))));replace hH:=hH.tail;replace hH:=hH.tail;exact ⟨ri (cmp_miss (fun j hj=>hI.2 j (by omega))).symm,hH⟩
theorem isFactor_c {B:World} {H0 H:HP} {L:List SA} {w:World} {x:Int} (hH:Hp B H0 H L w):Calls Tryz.prog 138 [.int .i64 x].toArray w fun e w'=>e = .returned (.bool (decide (1≤x) && decide (x≤10006)))∧Hp B H0 H L w':=by
 refine Jx Tryz.func138 rfl 5 rfl rfl [(0,.int .i64 x)] rfl hH ?_;clear hH;refine Je fun _ hK1 _=>(Jb (Jg (Jd rfl) rfl (Jf (Ja (hK1 (Je fun _ hK2 _=>(Jb (Jg (Jc rfl) rfl (Ju fn79 rfl rfl fun w hH=>(within_c hH).mono ?_)))))))));rintro _ w ⟨rfl,hH⟩;refine ⟨_,rfl,fun a hF=>JH hF hH ?_⟩;refine Jg (Jd rfl) rfl (Jf (Ja (hK2 (Jt (Jr rfl (Res.tmp rfl) fun w hH=>?_)))));exact ⟨rfl,hH⟩
theorem fn107:Fn Tryz.prog 107:=⟨_,Tryz.func107,by kernel_rfl,rfl⟩
theorem fn127:Fn Tryz.prog 127:=⟨_,Tryz.func127,by kernel_rfl,rfl⟩
theorem fn128:Fn Tryz.prog 128:=⟨_,Tryz.func128,by kernel_rfl,rfl⟩
theorem fn137:Fn Tryz.prog 137:=⟨_,Tryz.func137,by kernel_rfl,rfl⟩
theorem fn138:Fn Tryz.prog 138:=⟨_,Tryz.func138,by kernel_rfl,rfl⟩
theorem fn139:Fn Tryz.prog 139:=⟨_,Tryz.func139,by kernel_rfl,rfl⟩
theorem good_mono {ds:List Int} {ts:List Term} {i:Nat} (h:isMono ds (tm ts i).mono=false):goodAt ds ts i=false:=by unfold goodAt;rw [h];rfl
theorem good_fac {ds:List Int} {ts:List Term} {i:Nat} (h:(decide (1≤(tm ts i).fac) && decide ((tm ts i).fac≤10006))=false):goodAt ds ts i=false:=by unfold goodAt;rw [h,Bool.and_false];rfl
theorem good_ord {ds:List Int} {ts:List Term} {i:Nat} (h0:0<i) (h:before (tm ts (i - 1)).mono (tm ts i).mono=false):goodAt ds ts i=false:=by unfold goodAt;rw [h,show decide (i=0)=false from decide_eq_false (by omega)];simp
theorem good_yes {ds:List Int} {ts:List Term} {i:Nat} (h1:isMono ds (tm ts i).mono=true) (h2:(decide (1≤(tm ts i).fac) && decide ((tm ts i).fac≤10006))=true) (h3:i=0∨before (tm ts (i - 1)).mono (tm ts i).mono=true):goodAt ds ts i=true:=by
 unfold goodAt;rw [h1,h2]
 rcases h3 with h3 | h3
 ·rw [decide_eq_true h3];rfl
 ·rw [h3];simp
theorem before_le {p q:List Int} (h:cmp p q≥0):before p q=false:=decide_eq_false (by omega)
theorem before_lt {p q:List Int} (h : ¬cmp p q≥0):before p q=true:=decide_eq_true (by omega)
theorem isForm_c {B:World} {H0 H:HP} {L:List SA} {w:World} {qds:Option Addr} {cds:Nat} {ds:List Int} {qts:Option Addr} {cts:Nat} {ts:List Term} (hds:Ints H qds ds) (hts:Terms H qts ts) (hn:ds.length≤1048576) (hl:ts.length≤9223372036854775807) (hH:Hp B H0 H L w):Calls Tryz.prog 106 [.slice qds ds.length cds,.agg [.slice qts ts.length cts].toArray].toArray w fun e w'=>e = .returned (.bool (isForm ds ts))∧Hp B H0 H L w':=by
 refine Jx Tryz.func106 rfl 48 rfl rfl [(0,.slice qds ds.length cds),(1,.agg [.slice qts ts.length cts].toArray)] rfl hH ?_;clear hH;refine Je fun _ hK1 _=>(Jb (JW rfl rfl rfl fun g3=>(Jg (Jd rfl) rfl (Jf (Ja (hK1 (Je fun _ hK2 _=>(Je fun _ hK3 _=>(Jb (Jg (Jl u40 rfl sz38 rfl) rfl (Jg (Js rfl At.z rfl pl38) rfl (Jg (Jo u38 rfl rfl) rfl (Jg (EK rfl rfl) rfl (Jf (Ja (hK3 ?_))))))))))))))));refine Jq rfl (fun h10=>?_) (fun h10=>?_)
 ·
  refine Je fun _ hK4 _=>(Jb (Jg (Jd rfl) rfl (Jf (Ja (hK4 (Jt (Jk (Jr rfl (Res.tmp rfl) fun w hH=>?_))))))));replace hH:=hH.tail;exact ⟨rb (isForm_long (by omega)).symm,hH⟩
 ·
  refine Jn (Ja (hK2 (Je fun _ hK5 _=>(Je fun _ hK6 _=>(Jb (Jg (Jl u40 rfl sz38 rfl) rfl (Jg (Js rfl At.z rfl pl38) rfl (Jg (Jo u38 rfl rfl) rfl (Jg (Jc rfl) rfl (Jf (Ja (hK6 (Jp (JD (σ:=Nat) (fun (k:Nat)=>[(14,.int .i64 (k:Int))]) (fun (k:Nat)=>H) (fun (k:Nat)=>obj g3 (.cells [.slice qts ts.length cts].toArray 40 (0,0))::L) (fun (k:Nat)=>k≤ts.length∧∀j,j<k→goodAt ds ts j=true) (fun (k:Nat)=>ts.length - k) 0 ⟨by omega,fun j hj=>by omega⟩ ⟨rfl,trivial⟩ rfl rfl ?_))))))))))))));rintro k hI _ hAg0;have hk:=hI.1;refine Je fun _ hK7 _=>(Jb (Jg (JJ rfl rfl) rfl (Jf (Ja (hK7 (Je fun _ hK8 _=>(Jq rfl (fun hc15=>?_) (fun hc15=>?_))))))))
  ·
   refine Jn (Ja (hK8 (Je fun _ hK9 _=>(Jp (Je fun _ hK10 _=>(Jb (Jg (Jc rfl) rfl (Jg (Ey u38 sz107 rfl rfl rfl (by omega) hts.sm) rfl (Jg (JM rfl (hts.cell _ (by omega)) (hts.sm (i:=k) (by omega)) (by rw [Term.c_length (hts.wf _ (by omega))];exact ag107)) rfl (JP (cs:=(default:Term).c) ze107 rfl fun g6=>(Jg (Jd rfl) rfl (J.stTerm rfl rfl sz107 zero_wf (hts.wf k (by omega)) At.z (Jf (Ja (hK10 (Je fun _ hK11 _=>?_))))))))))))))));refine Je fun _ hK12 _=>(Jb (Jg (Jc rfl) rfl (Jg (Jl u107 rfl sz105 rfl) rfl (Jg (EU rfl At.z (hts.wf k (by omega)) ag105) rfl (Ju fn137 rfl rfl fun w hH=>(isMonomial_c hds (hts.wf k (by omega)).mono (by omega) hH).mono ?_)))));rintro _ w ⟨rfl,hH⟩;refine ⟨_,rfl,fun a hF=>JH hF hH ?_⟩;refine Jg (Em rfl) rfl (Jg (Jc rfl) rfl (Ek (jd:=24) rfl (fun h24=>?_) (fun h24=>?_)))
   ·
    try have h24p:=of_decide_eq_true h24
    refine JQ rfl rfl rfl h24 (JQ rfl rfl rfl h24 (JQ rfl rfl rfl h24 (JQ rfl rfl rfl h24 (Jg (JY rfl h24 rfl) rfl (Jf (Ja (hK12 (Ew rfl (Je fun _ hK13 _=>(Jb (Jg (Jd rfl) rfl (Jf (Ja (hK13 (Jt (Jk ?_))))))))))))))));refine JO (Jk (Jk (JO (Jk (Jr rfl (Res.tmp rfl) fun w hH=>?_)))));replace hH:=hH.tail;replace hH:=hH.tail;exact ⟨rb (isForm_bad (k:=k) (by omega) (good_mono (nott h24))).symm,hH⟩
   ·
    try have h24p:=of_decide_eq_false h24
    refine JV (Jl u107 rfl sz2 rfl) rfl rfl rfl h24 (JV (PR.ldFac rfl At.z (hts.wf k (by omega)) pl2) rfl rfl rfl h24 (EW fn138 rfl rfl h24 rfl rfl fun w hH=>(isFactor_c hH).mono ?_));rintro _ w ⟨rfl,hH⟩;refine ⟨_,rfl,fun a hF=>JH hF hH ?_⟩;refine JV (Em rfl) rfl rfl rfl h24 (Jg (JX rfl h24 rfl) rfl (Jf (Ja (hK12 (Ei rfl (fun h29=>?_) (fun h29=>?_))))))
    ·
     refine Je fun _ hK14 _=>(Jb (Jg (Jd rfl) rfl (Jf (Ja (hK14 (Jt (Jk (JO (Jk (Jk (JO (Jk (Jr rfl (Res.tmp rfl) fun w hH=>?_)))))))))))));replace hH:=hH.tail;replace hH:=hH.tail;exact ⟨rb (isForm_bad (k:=k) (by omega) (good_fac (nott h29))).symm,hH⟩
    ·
     refine Jn (Ja (hK11 (Je fun _ hK15 _=>(Er [[], [0], [1], [2], [3,2], [2], [5,2], [4,6,2], [7,2], [8,2], [9,2], [2], [11,2]] (by kernel_rfl) (JA (fun gh=>Jc rfl) (JA (fun gh=>EK rfl rfl) (JA (fun gh=>Jc rfl) (EV 2 rfl (fun h32=>?_) (fun h32=>?_)))))))))
     ·
      try have h32p:=of_decide_eq_true h32
      refine Eh (fun gh=>Jl u40 rfl sz38 rfl) rfl (fun gh=>rfl) h32 (Eh (fun gh=>Js rfl (.s .z) rfl pl38) rfl (fun gh=>rfl) h32 (Eh (fun gh=>Jc rfl) rfl (fun gh=>rfl) h32 (Eh (fun gh=>EH rfl rfl (by first | exact nw _ (by omega) | rfl)) rfl (fun gh=>rfl) h32 (Eh (fun gh=>Ey (i':=(k - 1)) u38 sz107 rfl rfl (by omega) (by omega) hts.sm) rfl (fun gh=>rfl) h32 (Eh (fun gh=>EM u107 rfl sz105 rfl (hts.sm (i:=(k - 1)) (by omega))) rfl (fun gh=>rfl) h32 (Eh (fun gh=>JM rfl (hts.mono (by omega)) (hts.sm (i:=(k - 1)) (by omega)) (by rw [bytesC_length,(hts.wf _ (by omega)).mono.len];exact ag105)) rfl (fun gh=>rfl) h32 (HJ.gcall fn107 rfl (fun gh=>rfl) h32 (fun gh=>rfl) (fun w X hH=>powerOf_c (hts.wf (k - 1) (by omega)).mono hH) (Eh (fun gh=>Jl u107 rfl sz105 rfl) rfl (fun gh=>rfl) h32 (Eh (fun gh=>EU rfl At.z (hts.wf k (by omega)) ag105) rfl (fun gh=>rfl) h32 (Ec 13 2 foll0 (by kernel_rfl) rfl rfl fun gh=>(En (us':=(30,_)::(31,_)::(32,_)::(33,_)::(34,_)::(35,_)::(36,_)::(37,_)::(38,_)::(39,_)::(40,_)::(41,_)::(42,_)::_) (L':=_) rfl rfl (EW fn107 rfl rfl h32 rfl rfl fun w hH=>(powerOf_c (hts.wf k (by omega)).mono hH).mono ?_))))))))))));rintro _ w ⟨rfl,hH⟩;refine ⟨_,rfl,fun a hF=>JH hF hH ?_⟩;refine EW fn139 rfl rfl h32 rfl rfl fun w hH=>(compare_c (hts.wf (k - 1) (by omega)).mono.len (hts.wf k (by omega)).mono.len (hts.wf _ (by omega)).mono.small (hts.wf _ (by omega)).mono.small hH).mono ?_;rintro _ w ⟨rfl,hH⟩;refine ⟨_,rfl,fun a hF=>JH hF hH ?_⟩;refine Jf (Eb (JS.gy (PR.geq rfl rfl) rfl rfl rfl h32 (JC (JY rfl h32 rfl) rfl (Ed (Ja (hK15 (Jq rfl (fun h46=>?_) (fun h46=>?_))))))))
      ·
       refine Je fun _ hK16 _=>(Jb (Jg (Jd rfl) rfl (Jf (Ja (hK16 (Jt (JO (Jk (Jk (JO (Jk (Jr rfl (Res.tmp rfl) fun w hH=>?_))))))))))));replace hH:=hH.tail;replace hH:=hH.tail;exact ⟨rb (isForm_bad (k:=k) (by omega) (good_ord (by omega) (before_le h46))).symm,hH⟩
      ·
       refine Jn (JF (Ja (hK9 (Jb (Jg (Jz rfl rfl (by first | exact nw _ (by omega) | rfl)) rfl (Jg (Jc rfl) rfl (Jf (Ja (JN .z ?_)))))))));exact hAg0 (k+1) ⟨by omega,upto hI.2 (good_yes (notf h24) (notf h29) (.inr (before_lt h46)))⟩ (by omega) 37 rfl rfl ⟨rfl,trivial⟩ rfl rfl
     ·
      try have h32p:=of_decide_eq_false h32
      refine Ee rfl (fun gh=>rfl) h32 (Ee rfl (fun gh=>rfl) h32 (Ee rfl (fun gh=>rfl) h32 (Ee rfl (fun gh=>rfl) h32 (Ee rfl (fun gh=>rfl) h32 (Ee rfl (fun gh=>rfl) h32 (Ee rfl (fun gh=>rfl) h32 (Ee rfl (fun gh=>rfl) h32 (Ee rfl (fun gh=>rfl) h32 (Ee rfl (fun gh=>rfl) h32 (Ec 13 2 foll0 (by kernel_rfl) rfl rfl fun gh=>(En (us':=(30,_)::(31,_)::(32,_)::(33,_)::(34,_)::(35,_)::(36,_)::(37,_)::(38,_)::(39,_)::(40,_)::(41,_)::(42,_)::_) (L':=_) rfl rfl (JQ rfl rfl rfl h32 (JQ rfl rfl rfl h32 (Jf ?_))))))))))))));refine Eb (JS.gn rfl rfl rfl h32 (JC (JX rfl h32 rfl) rfl (Ed (Ja (hK15 (EE rfl (Jn (JF (Ja (hK9 (Jb (Jg (Jz rfl rfl (by first | exact nw _ (by omega) | rfl)) rfl (Jg (Jc rfl) rfl (Jf (Ja (JN .z ?_))))))))))))))));exact hAg0 (k+1) ⟨by omega,upto hI.2 (good_yes (notf h24) (notf h29) (.inl (by omega)))⟩ (by omega) 37 rfl rfl ⟨rfl,trivial⟩ rfl rfl
  ·
   refine JG (Jj (Jj (JK (Ja (hK5 (Je fun _ hK17 _=>(Jb (Jg (Jd rfl) rfl (Jf (Ja (hK17 (Jt (Jr rfl (Res.tmp rfl) fun w hH=>?_)))))))))))));replace hH:=hH.tail;exact ⟨rb ((isForm_good (fun j hj=>hI.2 j (by omega))).trans (decide_eq_true (by omega))).symm,hH⟩
theorem l01Is_c {B:World} {H0 H:HP} {L:List SA} {w:World} {qds:Option Addr} {cds:Nat} {ds:List Int} {qts:Option Addr} {cts:Nat} {ts:List Term} (hds:Ints H qds ds) (hts:Terms H qts ts) (hn:ds.length≤1048576) (hp : ∀j,j<ds.length→0≤ds.getD j 0) (hl:ts.length≤9223372036854775807) (hH:Hp B H0 H L w):Calls Tryz.prog 91 [.slice qds ds.length cds,.agg [.slice qts ts.length cts].toArray].toArray w fun e w'=>e = .returned (.bool (isForm ds ts))∧Hp B H0 H L w':=by
 refine Jx Tryz.func91 rfl 51 rfl rfl [(0,.slice qds ds.length cds),(1,.agg [.slice qts ts.length cts].toArray)] rfl hH ?_;clear hH;refine Je fun _ hK1 _=>(Jb (JW rfl rfl rfl fun g3=>(Jg (Jd rfl) rfl (Jf (Ja (hK1 (Je fun _ hK2 _=>(Je fun _ hK3 _=>(Jb (Jg (Jd rfl) rfl (Jf (Ja (hK3 (Jp (JD (σ:=Nat) (fun (k:Nat)=>[(5,.int .i64 (k:Int))]) (fun (k:Nat)=>H) (fun (k:Nat)=>obj g3 (.cells [.slice qts ts.length cts].toArray 40 (0,0))::L) (fun (k:Nat)=>k≤ts.length∧∀j,j<k→goodAt ds ts j=true) (fun (k:Nat)=>ts.length - k) 0 ⟨by omega,fun j hj=>by omega⟩ ⟨rfl,trivial⟩ rfl rfl ?_)))))))))))))));rintro k hI _ hAg0;have hk:=hI.1;refine Je fun _ hK4 _=>(Je fun _ hK5 _=>(Jb (Jg (Jc rfl) rfl (Jg (Jl u40 rfl sz38 rfl) rfl (Jg (Js rfl At.z rfl pl38) rfl (Jg (Jo u38 rfl rfl) rfl (Jg (JJ rfl rfl) rfl (Jf (Ja (hK5 (Jq rfl (fun hc11=>?_) (fun hc11=>?_))))))))))))
 ·
  refine Jn (Ja (hK4 (Je fun _ hK6 _=>(Jp (Je fun _ hK7 _=>(Jb (Jg (Jl u40 rfl sz38 rfl) rfl (Jg (Js rfl At.z rfl pl38) rfl (Jg (Jc rfl) rfl (Jg (Ey u38 sz107 rfl rfl rfl (by omega) hts.sm) rfl (Jg (JM rfl (hts.cell _ (by omega)) (hts.sm (i:=k) (by omega)) (by rw [Term.c_length (hts.wf _ (by omega))];exact ag107)) rfl (JP (cs:=(default:Term).c) ze107 rfl fun g6=>(J.stTerm rfl rfl sz107 zero_wf (hts.wf k (by omega)) At.z (Jf (Ja (hK7 ?_))))))))))))))));refine Je fun _ hK8 _=>(Er [[], [], [1], [0,2], [3], [4], [5], [6,5], [7,5], [8,5], [5,9], [10], [11], [12,11], [13,11], [14], [15,14], [14], [17,14], [16,18,14], [19,14], [20,14], [14], [22,14]] (by kernel_rfl) (JA (fun gh=>Jc rfl) (JA (fun gh=>Jl u107 rfl sz105 rfl) (JA (fun gh=>EU rfl At.z (hts.wf k (by omega)) ag105) (HJ.call fn127 (fun gh=>rfl) (fun w X hH=>l01Mono_c hds (hts.wf k (by omega)).mono (by omega) hp hH) (JA (fun gh=>Em rfl) (JA (fun gh=>Jc rfl) (EV 5 rfl (fun h24=>?_) (fun h24=>?_)))))))))
  ·
   try have h24p:=of_decide_eq_true h24
   refine Ee rfl (fun gh=>rfl) h24 (Ee rfl (fun gh=>rfl) h24 (Ee rfl (fun gh=>rfl) h24 (Ee rfl (fun gh=>rfl) h24 (JA (fun gh=>JY rfl h24 rfl) (JA (fun gh=>Jc rfl) (Ee rfl (fun gh=>rfl) rfl (Ee rfl (fun gh=>rfl) rfl (Ee rfl (fun gh=>rfl) rfl (EQ rfl (fun gh=>rfl) (EQ rfl (fun gh=>rfl) (EQ rfl (fun gh=>rfl) (EQ rfl (fun gh=>rfl) (EQ rfl (fun gh=>rfl) (EQ rfl (fun gh=>rfl) ?_))))))))))))));refine EQ rfl (fun gh=>rfl) (EQ rfl (fun gh=>rfl) (EQ rfl (fun gh=>rfl) (Ec 24 1 foll0 (by kernel_rfl) rfl rfl fun gh=>(En (us':=(19,_)::(20,_)::(21,_)::(22,_)::(23,_)::(24,_)::(25,_)::(26,_)::(27,_)::(28,_)::(29,_)::(30,_)::(31,_)::(32,_)::(33,_)::(34,_)::(35,_)::(36,_)::(37,_)::(38,_)::(39,_)::(40,_)::(41,_)::(42,_)::_) (L':=_) rfl rfl (J.gu rfl rfl rfl (Jf (Eb (JS.gu rfl rfl rfl (JS.gn rfl rfl rfl rfl (JC (JY rfl rfl rfl) rfl (Ed (Ja (hK8 (Ew rfl (Je fun _ hK9 _=>?_)))))))))))))));refine Jb (Jg (Jd rfl) rfl (Jf (Ja (hK9 (Jt (JO (Jk (Jk (JO (Jk (Jr rfl (Res.tmp rfl) fun w hH=>?_)))))))))));replace hH:=hH.tail;replace hH:=hH.tail;exact ⟨rb (isForm_bad (k:=k) (by omega) (good_mono (nott h24))).symm,hH⟩
  ·
   try have h24p:=of_decide_eq_false h24
   refine Eh (fun gh=>Jl u107 rfl sz2 rfl) rfl (fun gh=>rfl) h24 (Eh (fun gh=>PR.ldFac rfl At.z (hts.wf k (by omega)) pl2) rfl (fun gh=>rfl) h24 (HJ.gcall fn64 rfl (fun gh=>rfl) h24 (fun gh=>rfl) (fun w X hH=>l01In_c hH) (Eh (fun gh=>Em rfl) rfl (fun gh=>rfl) h24 (JA (fun gh=>JX rfl h24 rfl) (JA (fun gh=>Jc rfl) (EV 11 rfl (fun h30=>?_) (fun h30=>?_)))))))
   ·
    try have h30p:=of_decide_eq_true h30
    refine Ee rfl (fun gh=>rfl) h30 (Ee rfl (fun gh=>rfl) h30 (Ee rfl (fun gh=>rfl) h30 (EQ rfl (fun gh=>rfl) (EQ rfl (fun gh=>rfl) (EQ rfl (fun gh=>rfl) (EQ rfl (fun gh=>rfl) (EQ rfl (fun gh=>rfl) (EQ rfl (fun gh=>rfl) (EQ rfl (fun gh=>rfl) (EQ rfl (fun gh=>rfl) (EQ rfl (fun gh=>rfl) (Ec 24 1 foll0 (by kernel_rfl) rfl rfl fun gh=>(En (us':=(19,_)::(20,_)::(21,_)::(22,_)::(23,_)::(24,_)::(25,_)::(26,_)::(27,_)::(28,_)::(29,_)::(30,_)::(31,_)::(32,_)::(33,_)::(34,_)::(35,_)::(36,_)::(37,_)::(38,_)::(39,_)::(40,_)::(41,_)::(42,_)::_) (L':=_) rfl rfl (J.gu rfl rfl rfl ?_))))))))))))));refine Jf (Eb (JS.gu rfl rfl rfl (JS.gn rfl rfl rfl h30 (JC (JY rfl h30 rfl) rfl (Ed (Ja (hK8 (Ew rfl (Je fun _ hK10 _=>(Jb (Jg (Jd rfl) rfl (Jf (Ja (hK10 (Jt (JO ?_))))))))))))))));refine Jk (Jk (JO (Jk (Jr rfl (Res.tmp rfl) fun w hH=>?_))));replace hH:=hH.tail;replace hH:=hH.tail;exact ⟨rb (isForm_bad (k:=k) (by omega) (good_fac (nott h30))).symm,hH⟩
   ·
    try have h30p:=of_decide_eq_false h30
    refine Eh (fun gh=>Jc rfl) rfl (fun gh=>rfl) h30 (Eh (fun gh=>EK rfl rfl) rfl (fun gh=>rfl) h30 (Eh (fun gh=>Jc rfl) rfl (fun gh=>rfl) h30 (EV 14 rfl (fun h33=>?_) (fun h33=>?_))))
    ·
     try have h33p:=of_decide_eq_true h33
     refine Eh (fun gh=>Jl u40 rfl sz38 rfl) rfl (fun gh=>rfl) h33 (Eh (fun gh=>Js rfl (.s .z) rfl pl38) rfl (fun gh=>rfl) h33 (Eh (fun gh=>Jc rfl) rfl (fun gh=>rfl) h33 (Eh (fun gh=>EH rfl rfl (by first | exact nw _ (by omega) | rfl)) rfl (fun gh=>rfl) h33 (Eh (fun gh=>Ey (i':=(k - 1)) u38 sz107 rfl rfl (by omega) (by omega) hts.sm) rfl (fun gh=>rfl) h33 (Eh (fun gh=>EM u107 rfl sz105 rfl (hts.sm (i:=(k - 1)) (by omega))) rfl (fun gh=>rfl) h33 (Eh (fun gh=>JM rfl (hts.mono (by omega)) (hts.sm (i:=(k - 1)) (by omega)) (by rw [bytesC_length,(hts.wf _ (by omega)).mono.len];exact ag105)) rfl (fun gh=>rfl) h33 (Eh (fun gh=>Jl u107 rfl sz105 rfl) rfl (fun gh=>rfl) h33 (Eh (fun gh=>EU rfl At.z (hts.wf k (by omega)) ag105) rfl (fun gh=>rfl) h33 (Ec 24 1 foll0 (by kernel_rfl) rfl rfl fun gh=>(En (us':=(19,_)::(20,_)::(21,_)::(22,_)::(23,_)::(24,_)::(25,_)::(26,_)::(27,_)::(28,_)::(29,_)::(30,_)::(31,_)::(32,_)::(33,_)::(34,_)::(35,_)::(36,_)::(37,_)::(38,_)::(39,_)::(40,_)::(41,_)::(42,_)::_) (L':=_) rfl rfl (EW fn128 rfl rfl h33 rfl rfl fun w hH=>(l01Before_c (hts.wf (k - 1) (by omega)).mono (hts.wf k (by omega)).mono hH).mono ?_)))))))))));rintro _ w ⟨rfl,hH⟩;refine ⟨_,rfl,fun a hF=>JH hF hH ?_⟩;refine Jf (Eb (JS.gy (Em rfl) rfl rfl rfl h33 (JS.gy (JY rfl h33 rfl) rfl rfl rfl h30 (JC (JX rfl h30 rfl) rfl (Ed (Ja (hK8 (Ei rfl (fun h46=>?_) (fun h46=>?_)))))))))
     ·
      refine Je fun _ hK11 _=>(Jb (Jg (Jd rfl) rfl (Jf (Ja (hK11 (Jt (JO (Jk (Jk (JO (Jk (Jr rfl (Res.tmp rfl) fun w hH=>?_))))))))))));replace hH:=hH.tail;replace hH:=hH.tail;exact ⟨rb (isForm_bad (k:=k) (by omega) (good_ord (by omega) (nott h46))).symm,hH⟩
     ·
      refine Jn (JF (Ja (hK6 (Jb (Jg (Jc rfl) rfl (Jg (Jz rfl rfl (by first | exact nw _ (by omega) | rfl)) rfl (Jg (Jd rfl) rfl (Jf (Ja (JN .z ?_))))))))));exact hAg0 (k+1) ⟨by omega,upto hI.2 (good_yes (notf h24) (notf h30) (.inr (notf h46)))⟩ (by omega) 43 rfl rfl ⟨rfl,trivial⟩ rfl rfl
    ·
     try have h33p:=of_decide_eq_false h33
     refine Ee rfl (fun gh=>rfl) h33 (Ee rfl (fun gh=>rfl) h33 (Ee rfl (fun gh=>rfl) h33 (Ee rfl (fun gh=>rfl) h33 (Ee rfl (fun gh=>rfl) h33 (Ee rfl (fun gh=>rfl) h33 (Ee rfl (fun gh=>rfl) h33 (Ee rfl (fun gh=>rfl) h33 (Ee rfl (fun gh=>rfl) h33 (Ec 24 1 foll0 (by kernel_rfl) rfl rfl fun gh=>(En (us':=(19,_)::(20,_)::(21,_)::(22,_)::(23,_)::(24,_)::(25,_)::(26,_)::(27,_)::(28,_)::(29,_)::(30,_)::(31,_)::(32,_)::(33,_)::(34,_)::(35,_)::(36,_)::(37,_)::(38,_)::(39,_)::(40,_)::(41,_)::(42,_)::_) (L':=_) rfl rfl (JQ rfl rfl rfl h33 (Jf (Eb (JS.gn rfl rfl rfl h33 ?_))))))))))))));refine JS.gy (JX rfl h33 rfl) rfl rfl rfl h30 (JC (JX rfl h30 rfl) rfl (Ed (Ja (hK8 (EE rfl (Jn (JF (Ja (hK6 (Jb (Jg (Jc rfl) rfl (Jg (Jz rfl rfl (by first | exact nw _ (by omega) | rfl)) rfl (Jg (Jd rfl) rfl (Jf (Ja (JN .z ?_))))))))))))))));exact hAg0 (k+1) ⟨by omega,upto hI.2 (good_yes (notf h24) (notf h30) (.inl (by omega)))⟩ (by omega) 43 rfl rfl ⟨rfl,trivial⟩ rfl rfl
 ·
  refine JG (Jj (Jj (JK (Ja (hK2 (Je fun _ hK12 _=>(Jb (Jg (Jl u40 rfl sz38 rfl) rfl (Jg (Js rfl At.z rfl pl38) rfl (Jg (Jo u38 rfl rfl) rfl (Jg (PR.leq rfl rfl) rfl (Jg (Jd rfl) rfl (Jf (Ja (hK12 (Jt ?_))))))))))))))));refine Jr rfl (Res.tmp rfl) fun w hH=>?_;replace hH:=hH.tail;exact ⟨rb (isForm_good (fun j hj=>hI.2 j (by omega))).symm,hH⟩
theorem fn108:Fn Tryz.prog 108:=⟨_,Tryz.func108,by kernel_rfl,rfl⟩
theorem fn129:Fn Tryz.prog 129:=⟨_,Tryz.func129,by kernel_rfl,rfl⟩
def wd (ds:List Int) (ts:List Term) (i:Nat):Int:=wsum ds (tm ts i).mono ds.length
theorem wd_bd {ds:List Int} {ts:List Term} {i:Nat} (hn:ds.length≤8) (hd : ∀j,0≤ds.getD j 0∧ds.getD j 0≤12) (hw:Mono (tm ts i).mono):0≤wd ds ts i∧wd ds ts i≤24480:=by
 have h:=wsum_bd hd hw.bd ds.length;unfold wd
 omega
def outAt (ds:List Int) (ts:List Term) (k:Nat):Int:=if k=0 then -1 else wd ds ts 0
theorem outAt_pos {ds:List Int} {ts:List Term} {k:Nat} (h:outAt ds ts k≥0):0<k∧outAt ds ts k=wd ds ts 0:=by
 unfold outAt at h ⊢
 by_cases e:k=0
 ·rw [if_pos e] at h;omega
 ·exact ⟨by omega,if_neg e⟩
theorem outAt_neg {ds:List Int} {ts:List Term} {k:Nat} (h0:0≤wd ds ts 0) (h : ¬outAt ds ts k≥0):k=0:=by
 unfold outAt at h
 by_cases e:k=0
 ·exact e
 ·rw [if_neg e] at h;omega
theorem outAt_succ {ds:List Int} {ts:List Term} {k:Nat} (h:wd ds ts k=wd ds ts 0):wd ds ts k=outAt ds ts (k+1):=by unfold outAt;rw [if_neg (by omega),h]
def homog (ds:List Int) (ts:List Term):Bool:=(List.range ts.length).all fun i=>decide (wd ds ts i=wd ds ts 0)
def degF (ds:List Int) (ts:List Term):Int:=if homog ds ts then outAt ds ts ts.length else 0
theorem homog_no {ds:List Int} {ts:List Term} {k:Nat} (hk:k<ts.length) (h:wd ds ts k≠wd ds ts 0):homog ds ts=false:=by
 unfold homog;exact List.all_eq_false.2 ⟨k,by simpa using hk,by simpa using h⟩
theorem homog_yes {ds:List Int} {ts:List Term} (h : ∀j,j<ts.length→wd ds ts j=wd ds ts 0):homog ds ts=true:=by
 unfold homog
 exact List.all_eq_true.2 fun j hj=>by simpa using h j (by simpa using hj)
theorem degRet {ds:List Int} {ts:List Term} {v:Int} {b:Bool} (hb:homog ds ts=b) (hv:v=if b then outAt ds ts ts.length else 0):Ending.returned (.tuple #[.int .i64 v,.bool b]) = .returned (.tuple #[.int .i64 (degF ds ts),.bool (homog ds ts)]):=by
 rw [hv,degF,hb]
theorem degreeOf_c {B:World} {H0 H:HP} {L:List SA} {w:World} {qds:Option Addr} {cds:Nat} {ds:List Int} {qts:Option Addr} {cts:Nat} {ts:List Term} (hds:Ints H qds ds) (hts:Terms H qts ts) (hn:ds.length≤8) (hd : ∀j,0≤ds.getD j 0∧ds.getD j 0≤12) (hl:ts.length≤9223372036854775807) (hH:Hp B H0 H L w):Calls Tryz.prog 54 [.slice qds ds.length cds,.agg [.slice qts ts.length cts].toArray].toArray w fun e w'=>e = .returned (.tuple #[.int .i64 (degF ds ts),.bool (homog ds ts)])∧Hp B H0 H L w':=by
 refine Jx Tryz.func54 rfl 32 rfl rfl [(0,.slice qds ds.length cds),(1,.agg [.slice qts ts.length cts].toArray)] rfl hH ?_;clear hH;refine Je fun _ hK1 _=>(Jb (JW rfl rfl rfl fun g3=>(Jg (Jd rfl) rfl (Jg (Jd rfl) rfl (Jf (Ja (hK1 (Je fun _ hK2 _=>(Jb (Jg (Jd rfl) rfl (Jf (Ja (hK2 (Je fun _ hK3 _=>(Je fun _ hK4 _=>(Jb ?_))))))))))))))));refine Jg (Jl u40 rfl sz38 rfl) rfl (Jg (Js rfl At.z rfl pl38) rfl (Jg (Jo u38 rfl rfl) rfl (Jg (Jc rfl) rfl (Jf (Ja (hK4 (Jp (JD (σ:=Nat) (fun (k:Nat)=>[(13,.int .i64 (k:Int)),(6,.int .i64 (outAt ds ts k))]) (fun (k:Nat)=>H) (fun (k:Nat)=>obj g3 (.cells [.slice qts ts.length cts].toArray 40 (0,0))::L) (fun (k:Nat)=>k≤ts.length∧∀j,j<k→wd ds ts j=wd ds ts 0) (fun (k:Nat)=>ts.length - k) 0 ⟨by omega,fun j hj=>by omega⟩ ⟨rfl,⟨rfl,trivial⟩⟩ rfl rfl ?_))))))));rintro k hI _ hAg0;have hk:=hI.1;refine Je fun _ hK5 _=>(Jb (Jg (JJ rfl rfl) rfl (Jf (Ja (hK5 (Je fun _ hK6 _=>(Jq rfl (fun hc14=>?_) (fun hc14=>?_))))))))
 ·
  refine Jn (Ja (hK6 (Je fun _ hK7 _=>(Jp (Je fun _ hK8 _=>(Jb (Jg (Ey u38 sz107 rfl rfl rfl (by omega) hts.sm) rfl (Jg (JM rfl (hts.cell _ (by omega)) (hts.sm (i:=k) (by omega)) (by rw [Term.c_length (hts.wf _ (by omega))];exact ag107)) rfl (JP (cs:=(default:Term).c) ze107 rfl fun g8=>(J.stTerm rfl rfl sz107 zero_wf (hts.wf k (by omega)) At.z (Jf (Ja (hK8 (Je fun _ hK9 _=>(Jb (Jg (Jl u107 rfl sz105 rfl) rfl ?_))))))))))))))));refine Jg (EU rfl At.z (hts.wf k (by omega)) ag105) rfl (Ju fn107 rfl rfl fun w hH=>(powerOf_c (hts.wf k (by omega)).mono hH).mono ?_);rintro _ w ⟨rfl,hH⟩;refine ⟨_,rfl,fun a hF=>JH hF hH ?_⟩;refine Jg (Jc rfl) rfl (Ju fn108 rfl rfl fun w hH=>(degree_c (hts.wf k (by omega)).mono.len hds hn hd (hts.wf k (by omega)).mono.small hH).mono ?_);rintro _ w ⟨rfl,hH⟩;refine ⟨_,rfl,fun a hF=>JH hF hH ?_⟩;refine Jg (Jd rfl) rfl (Jf (Ja (hK9 (Je fun _ hK10 _=>(Je fun _ hK11 _=>(Jb (Jg (Jc rfl) rfl (Jg (PR.geq rfl rfl) rfl (Jg (Jc rfl) rfl (Ek (jd:=24) rfl (fun h24=>?_) (fun h24=>?_)))))))))))
  ·
   try have h24p:=of_decide_eq_true h24
   refine JV (Jc rfl) rfl rfl rfl h24 (JV (Jc rfl) rfl rfl rfl h24 (JV (Eo rfl rfl) rfl rfl rfl h24 (Jg (JY rfl h24 rfl) rfl (Jf (Ja (hK11 (Jq rfl (fun h28=>?_) (fun h28=>?_))))))))
   ·
    refine Je fun _ hK12 _=>(Jb (Jg (Jd rfl) rfl (Jg (Jd rfl) rfl (Jf (Ja (hK12 (Jt (Jk (JO (Jk (Jk (JO (Jk (Eg rfl (Res.tmp rfl) (Res.tmp rfl) fun w hH=>?_))))))))))))));replace hH:=hH.tail;replace hH:=hH.tail;exact ⟨degRet (homog_no (k:=k) (by omega) (fun e=>h28 (e.trans (outAt_pos h24p).2.symm))) rfl,hH⟩
   ·
    have h28x:wd ds ts k=wd ds ts 0:=(Decidable.not_not.1 h28).trans (outAt_pos h24p).2;refine Jn (Ja (hK10 (Jb (Jg (Jc rfl) rfl (Jg (Jd rfl) rfl (Jf (JF (Ja (hK7 (Jb (Jg (Jz rfl rfl (by first | exact nw _ (by omega) | rfl)) rfl (Jg (Jc rfl) rfl (Jf (Ja (JN .z ?_)))))))))))))));exact hAg0 (k+1) ⟨by omega,upto hI.2 h28x⟩ (by omega) 23 rfl rfl ⟨rfl,⟨(vi (outAt_succ (h28x))),trivial⟩⟩ rfl rfl
  ·
   try have h24p:=of_decide_eq_false h24
   refine JQ rfl rfl rfl h24 (JQ rfl rfl rfl h24 (JQ rfl rfl rfl h24 (Jg (JX rfl h24 rfl) rfl (Jf (Ja (hK11 (EE rfl (Jn (Ja (hK10 (Jb (Jg (Jc rfl) rfl (Jg (Jd rfl) rfl (Jf (JF (Ja (hK7 ?_)))))))))))))))));refine Jb (Jg (Jz rfl rfl (by first | exact nw _ (by omega) | rfl)) rfl (Jg (Jc rfl) rfl (Jf (Ja (JN .z ?_)))));exact hAg0 (k+1) ⟨by omega,upto hI.2 (congrArg (wd ds ts) (outAt_neg (wd_bd hn hd (hts.wf 0 (by omega)).mono).1 h24p))⟩ (by omega) 23 rfl rfl ⟨rfl,⟨(vi (outAt_succ ((congrArg (wd ds ts) (outAt_neg (wd_bd hn hd (hts.wf 0 (by omega)).mono).1 h24p))))),trivial⟩⟩ rfl rfl
 ·
  refine JG (Jj (Jj (JK (Ja (hK3 (Je fun _ hK13 _=>(Jb (Jg (Jc rfl) rfl (Jg (Jd rfl) rfl (Jg (Jd rfl) rfl (Jf (Ja (hK13 (Jt (Eg rfl (Res.tmp rfl) (Res.tmp rfl) fun w hH=>?_)))))))))))))));replace hH:=hH.tail
  obtain rfl:k=ts.length:=by omega
  exact ⟨degRet (homog_yes hI.2) rfl,hH⟩
theorem l01Degree_c {B:World} {H0 H:HP} {L:List SA} {w:World} {qds:Option Addr} {cds:Nat} {ds:List Int} {qts:Option Addr} {cts:Nat} {ts:List Term} (hds:Ints H qds ds) (hts:Terms H qts ts) (hn:ds.length≤8) (hd : ∀j,0≤ds.getD j 0∧ds.getD j 0≤12) (hl:ts.length≤9223372036854775807) (hH:Hp B H0 H L w):Calls Tryz.prog 92 [.slice qds ds.length cds,.agg [.slice qts ts.length cts].toArray].toArray w fun e w'=>e = .returned (.tuple #[.int .i64 (degF ds ts),.bool (homog ds ts)])∧Hp B H0 H L w':=by
 refine Jx Tryz.func92 rfl 37 rfl rfl [(0,.slice qds ds.length cds),(1,.agg [.slice qts ts.length cts].toArray)] rfl hH ?_;clear hH;refine Je fun _ hK1 _=>(Jb (JW rfl rfl rfl fun g3=>(Jg (Jd rfl) rfl (Jg (Jd rfl) rfl (Jf (Ja (hK1 (Je fun _ hK2 _=>(Je fun _ hK3 _=>(Jb (Jg (Jl u40 rfl sz38 rfl) rfl (Jg (Js rfl At.z rfl pl38) rfl (Jg (Jo u38 rfl rfl) rfl (Jg (EL rfl rfl) rfl (Jf ?_)))))))))))))));refine Ja (hK3 (Jq rfl (fun h11=>?_) (fun h11=>?_)))
 ·
  refine Je fun _ hK4 _=>(Jb (Jg (Jd rfl) rfl (Jg (Jd rfl) rfl (Jf (Ja (hK4 (Jt (Jk (Eg rfl (Res.tmp rfl) (Res.tmp rfl) fun w hH=>?_)))))))));replace hH:=hH.tail;exact ⟨degRet (homog_yes (fun j hj=>by omega)) (by rw [if_pos rfl];unfold outAt;rw [if_pos (by omega)]),hH⟩
 ·
  refine Jn (Ja (hK2 (Je fun _ hK5 _=>(Jb (Jg (Jc rfl) rfl (Jg (Jl u40 rfl sz38 rfl) rfl (Jg (Js rfl At.z rfl pl38) rfl (Jg (Ey (i':=0) u38 sz107 rfl rfl rfl (by omega) hts.sm) rfl (Jg (EM u107 rfl sz105 rfl (hts.sm (i:=0) (by omega))) rfl (Jg (JM rfl (hts.mono (by omega)) (hts.sm (i:=0) (by omega)) (by rw [bytesC_length,(hts.wf _ (by omega)).mono.len];exact ag105)) rfl (Ju fn129 rfl rfl fun w hH=>(l01Weight_c hds (hts.wf 0 (by omega)).mono hn hd hH).mono ?_)))))))))));rintro _ w ⟨rfl,hH⟩;refine ⟨_,rfl,fun a hF=>JH hF hH ?_⟩;refine Jg (Jd rfl) rfl (Jf (Ja (hK5 (Je fun _ hK6 _=>(Je fun _ hK7 _=>(Jb (Jg (Jd rfl) rfl (Jf (Ja (hK7 (Jp (JD (σ:=Nat) (fun (k:Nat)=>[(7,.int .i64 (k:Int))]) (fun (k:Nat)=>H) (fun (k:Nat)=>obj g3 (.cells [.slice qts ts.length cts].toArray 40 (0,0))::L) (fun (k:Nat)=>1≤k∧k≤ts.length∧∀j,j<k→wd ds ts j=wd ds ts 0) (fun (k:Nat)=>ts.length - k) 1 ⟨by omega,by omega,fun j hj=>by rw [show j=0 by omega]⟩ ⟨rfl,trivial⟩ rfl rfl ?_))))))))))));rintro k hI _ hAg0;have hk:=hI.2.1;refine Je fun _ hK8 _=>(Je fun _ hK9 _=>(Jb (Jg (Jc rfl) rfl (Jg (Jl u40 rfl sz38 rfl) rfl (Jg (Js rfl At.z rfl pl38) rfl (Jg (Jo u38 rfl rfl) rfl (Jg (JJ rfl rfl) rfl (Jf (Ja (hK9 (Jq rfl (fun hc23=>?_) (fun hc23=>?_))))))))))))
  ·
   refine Jn (Ja (hK8 (Je fun _ hK10 _=>(Jp (Je fun _ hK11 _=>(Jb (Jg (Jc rfl) rfl (Jg (Jl u40 rfl sz38 rfl) rfl (Jg (Js rfl At.z rfl pl38) rfl (Jg (Jc rfl) rfl (Jg (Ey u38 sz107 rfl rfl rfl (by omega) hts.sm) rfl (Jg (EM u107 rfl sz105 rfl (hts.sm (i:=k) (by omega))) rfl (Jg (JM rfl (hts.mono (by omega)) (hts.sm (i:=k) (by omega)) (by rw [bytesC_length,(hts.wf _ (by omega)).mono.len];exact ag105)) rfl (Ju fn129 rfl rfl fun w hH=>(l01Weight_c hds (hts.wf k (by omega)).mono hn hd hH).mono ?_))))))))))))));rintro _ w ⟨rfl,hH⟩;refine ⟨_,rfl,fun a hF=>JH hF hH ?_⟩;refine Jg (Jc rfl) rfl (Jg (Eo rfl rfl) rfl (Jf (Ja (hK11 (Jq rfl (fun h35=>?_) (fun h35=>?_))))))
   ·
    refine Je fun _ hK12 _=>(Jb (Jg (Jd rfl) rfl (Jg (Jd rfl) rfl (Jf (Ja (hK12 (Jt (JO (Jk (Jk (JO (Jk (Eg rfl (Res.tmp rfl) (Res.tmp rfl) fun w hH=>?_)))))))))))));replace hH:=hH.tail;exact ⟨degRet (homog_no (k:=k) (by omega) h35) rfl,hH⟩
   ·
    refine Jn (JF (Ja (hK10 (Jb (Jg (Jc rfl) rfl (Jg (Jz rfl rfl (by first | exact nw _ (by omega) | rfl)) rfl (Jg (Jd rfl) rfl (Jf (Ja ?_)))))))));exact hAg0 (k+1) ⟨by omega,by omega,upto hI.2.2 (Decidable.not_not.1 h35)⟩ (by omega) 19 rfl rfl ⟨rfl,trivial⟩ rfl rfl
  ·
   refine JG (Jj (Jj (JK (Ja (hK6 (Je fun _ hK13 _=>(Jb (Jg (Jc rfl) rfl (Jg (Jd rfl) rfl (Jg (Jd rfl) rfl (Jf (Ja (hK13 (Jt (Eg rfl (Res.tmp rfl) (Res.tmp rfl) fun w hH=>?_)))))))))))))));replace hH:=hH.tail
   obtain rfl:k=ts.length:=by omega
   exact ⟨degRet (homog_yes hI.2.2) (by rw [if_pos rfl];unfold outAt;rw [if_neg (by omega)];rfl),hH⟩
theorem markInt64S_s {B:World} {H0 H:HP} {L:List SA} {w:World} {gxs mxs cxs:Nat} {xs:List Value} {k:Int} (hm:mxs≤xs.length) (hn:0≤k∧k+mxs≤9223372036854775807) (hH:Hp B H0 H (obj gxs (.cells xs.toArray 2 (0,0))::L) w):Calls Tryz.prog 33 [.slice (some ⟨gxs,0,none⟩) mxs cxs,.int .i64 k].toArray w fun e w'=>e = .returned (.int .i64 (k+mxs))∧Hp B H0 H (obj gxs (.cells (intsC (marks k mxs)++xs.drop mxs).toArray 2 (0,0))::L) w':=by
 refine Jx Tryz.func33 rfl 19 rfl rfl [(0,.slice (some ⟨gxs,0,none⟩) mxs cxs),(1,.int .i64 k)] rfl hH ?_;clear hH;refine Je fun _ hK1 _=>(Jb (Jg (Jd rfl) rfl (Jf (Ja (hK1 (Je fun _ hK2 _=>(Je fun _ hK3 _=>(Jb (Jg (Jd rfl) rfl (Jf (Ja (hK3 (Jp (JD (σ:=Nat) (fun (i:Nat)=>[(5,.int .i64 (i:Int)),(1,.int .i64 (k+i))]) (fun (i:Nat)=>H) (fun (i:Nat)=>obj gxs (.cells ((intsC (marks k mxs)).take i++xs.drop i).toArray 2 (0,0))::L) (fun (i:Nat)=>i≤mxs) (fun (i:Nat)=>mxs - i) 0 (by omega) ⟨rfl,⟨(vi (by omega)),trivial⟩⟩ rfl (by simp) ?_))))))))))))));rintro i hI _ hAg0;have hk:=hI;refine Je fun _ hK4 _=>(Je fun _ hK5 _=>(Jb (Jg (Jc rfl) rfl (Jg (Jc rfl) rfl (Jg (Jo u22 rfl rfl) rfl (Jg (JJ rfl rfl) rfl (Jf (Ja (hK5 (Jq rfl (fun hc9=>?_) (fun hc9=>?_)))))))))))
 ·
  refine Jn (Ja (hK4 (Je fun _ hK6 _=>(Jp (Je fun _ hK7 _=>(Jb (Jg (Jc rfl) rfl (Jg (Jc rfl) rfl (Jg (Jc rfl) rfl (Jg (PR.idxO1 u22 sz2 rfl rfl rfl (by omega)) rfl (Et rfl rfl rfl rfl sz2 (by simp;omega) .z (Jf (Ja (hK7 (Jb (Jg (Jc rfl) rfl ?_))))))))))))))));refine Jg (Jz rfl rfl (by first | exact nw _ (by omega) | rfl)) rfl (Jg (Jd rfl) rfl (Jf (JF (Ja (hK6 (Jb (Jg (Jc rfl) rfl (Jg (Jz rfl rfl (by first | exact nw _ (by omega) | rfl)) rfl (Jg (Jd rfl) rfl (Jf (Ja ?_)))))))))));exact hAg0 (i+1) (by omega) (by omega) 16 rfl rfl ⟨rfl,⟨(vi (by omega)),trivial⟩⟩ rfl (by rw [← fill_flat (by omega) (marksC_get (by omega))])
 ·
  refine JG (Jj (Jj (JK (Ja (hK2 (Je fun _ hK8 _=>(Jb (Jg (Jc rfl) rfl (Jg (Jd rfl) rfl (Jf (Ja (hK8 (Jt (Jr rfl (Res.tmp rfl) fun w hH=>?_))))))))))))))
  obtain rfl:i=mxs:=by omega
  exact ⟨rfl,by simpa [List.take_of_length_le] using hH⟩
theorem markInt64S_0 {B:World} {H0 H:HP} {L:List SA} {w:World} {qxs:Option Addr} {cxs:Nat} {k:Int} (hH:Hp B H0 H L w):Calls Tryz.prog 33 [.slice qxs 0 cxs,.int .i64 k].toArray w fun e w'=>e = .returned (.int .i64 k)∧Hp B H0 H L w':=by
 refine Jx Tryz.func33 rfl 19 rfl rfl [(0,.slice qxs 0 cxs),(1,.int .i64 k)] rfl hH ?_;clear hH;refine Je fun _ hK1 _=>(Jb (Jg (Jd rfl) rfl (Jf (Ja (hK1 (Je fun _ hK2 _=>(Je fun _ hK3 _=>(Jb (Jg (Jd rfl) rfl (Jf (Ja (hK3 (Jp (JD (σ:=Unit) (fun (_:Unit)=>[(5,.int .i64 0),(1,.int .i64 k)]) (fun (_:Unit)=>H) (fun (_:Unit)=>L) (fun (_:Unit)=>True) (fun (_:Unit)=>0) () trivial ⟨rfl,⟨rfl,trivial⟩⟩ rfl rfl ?_))))))))))))));rintro _ hI _ hAg0;refine Je fun _ hK4 _=>(Je fun _ hK5 _=>(Jb (Jg (Jc rfl) rfl (Jg (Jc rfl) rfl (Jg (Jo u22 rfl rfl) rfl (Jg (JJ rfl rfl) rfl (Jf (Ja (hK5 (Jq rfl (fun hc9=>?_) (fun hc9=>?_)))))))))))
 ·
  exact absurd hc9 (by simp)
 ·
  refine JG (Jj (Jj (JK (Ja (hK2 (Je fun _ hK6 _=>(Jb (Jg (Jc rfl) rfl (Jg (Jd rfl) rfl (Jf (Ja (hK6 (Jt (Jr rfl (Res.tmp rfl) fun w hH=>?_))))))))))))));exact ⟨rfl,hH⟩
theorem markInt64S_c {B:World} {H0 H:HP} {L:List SA} {w:World} {q:Option Addr} {c m:Nat} {cells:List Value} {k:Int} (hn:0≤k∧k+m≤9223372036854775807) (hH:Hp B H0 H (own 2 1 q m c cells::L) w):Calls Tryz.prog 33 [.slice q m c,.int .i64 k].toArray w fun e w'=>e = .returned (.int .i64 (k+m))∧Hp B H0 H (own 2 1 q m c (intsC (marks k m))::L) w':=by
 refine hH.openOwn (by decide) (fun h1 h2 h3 h4=>?_) (fun g cs h1 h2 h3 h4 h5 h6 hG=>?_)
 ·subst h1 h2 h3 h4;refine (markInt64S_0 hH).mono ?_;rintro _ w ⟨rfl,h⟩;exact ⟨by simp,h⟩
 ·subst h1;refine (markInt64S_s (xs:=cs) (by omega) hn hG).mono ?_;rintro _ w ⟨rfl,h⟩;exact ⟨rfl,h.shutOwn (by simp;omega) h4 h5 (by rw [Nat.mul_one,List.take_append_of_le_length (by simp),List.take_of_length_le (by simp)])⟩
theorem heldInt64S_c {B:World} {H0 H:HP} {L:List SA} {w:World} {qxs:Option Addr} {cxs xs:Nat} {kxs:Int} (hxs:MInts H qxs kxs xs) (hn:0≤kxs∧kxs+xs≤9223372036854775807) (hH:Hp B H0 H L w):Calls Tryz.prog 36 [.slice qxs xs cxs,.int .i64 kxs].toArray w fun e w'=>e = .returned (.int .i64 (kxs+xs))∧Hp B H0 H L w':=by
 refine Jx Tryz.func36 rfl 21 rfl rfl [(0,.slice qxs xs cxs),(1,.int .i64 kxs)] rfl hH ?_;clear hH;refine Je fun _ hK1 _=>(Jb (Jg (Jd rfl) rfl (Jf (Ja (hK1 (Je fun _ hK2 _=>(Je fun _ hK3 _=>(Jb (Jg (Jd rfl) rfl (Jf (Ja (hK3 (Jp (JD (σ:=Nat) (fun (i:Nat)=>[(5,.int .i64 (i:Int)),(1,.int .i64 (kxs+i))]) (fun (i:Nat)=>H) (fun (i:Nat)=>L) (fun (i:Nat)=>i≤xs) (fun (i:Nat)=>xs - i) 0 (by omega) ⟨rfl,⟨(vi (by omega)),trivial⟩⟩ rfl rfl ?_))))))))))))));rintro i hI _ hAg0;have hk:=hI;refine Je fun _ hK4 _=>(Je fun _ hK5 _=>(Jb (Jg (Jc rfl) rfl (Jg (Jc rfl) rfl (Jg (Jo u22 rfl rfl) rfl (Jg (JJ rfl rfl) rfl (Jf (Ja (hK5 (Jq rfl (fun hc9=>?_) (fun hc9=>?_)))))))))))
 ·
  refine Jn (Ja (hK4 (Je fun _ hK6 _=>(Jp (Je fun _ hK7 _=>(Je fun _ hK8 _=>(Jb (Jg (Jc rfl) rfl (Jg (Jc rfl) rfl (Jg (JL u22 sz2 rfl rfl rfl (by omega) hxs.sm) rfl (Jg (JE rfl (hxs _ (by omega)) pl2) rfl (Jg (Jc rfl) rfl (Jg (Eo rfl rfl) rfl (Jf (Ja (hK8 ?_))))))))))))))));refine Jq rfl (fun hc17=>?_) (fun hc17=>?_)
  ·
   refine Je fun _ hK9 _=>(Jb (Jg (Jd rfl) rfl (Jf (Ja (hK9 (Jt (Jk (JO (Jk (Jk (JO (Jk (Jr rfl (Res.tmp rfl) fun w hH=>?_)))))))))))));exact absurd rfl hc17
  ·
   refine Jn (Ja (hK7 (Jb (Jg (Jc rfl) rfl (Jg (Jz rfl rfl (by first | exact nw _ (by omega) | rfl)) rfl (Jg (Jd rfl) rfl (Jf (JF (Ja (hK6 (Jb (Jg (Jc rfl) rfl (Jg (Jz rfl rfl (by first | exact nw _ (by omega) | rfl)) rfl (Jg (Jd rfl) rfl (Jf (Ja ?_))))))))))))))));exact hAg0 (i+1) (by omega) (by omega) 18 rfl rfl ⟨rfl,⟨(vi (by omega)),trivial⟩⟩ rfl rfl
 ·
  refine JG (Jj (Jj (JK (Ja (hK2 (Je fun _ hK10 _=>(Jb (Jg (Jc rfl) rfl (Jg (Jd rfl) rfl (Jf (Ja (hK10 (Jt (Jr rfl (Res.tmp rfl) fun w hH=>?_))))))))))))))
  obtain rfl:i=xs:=by omega
  exact ⟨rfl,hH⟩
theorem when_c {B:World} {H0 H:HP} {L:List SA} {w:World} {b:Bool} {x:Int} (hH:Hp B H0 H L w):Calls Tryz.prog 73 [.bool b,.int .i64 x].toArray w fun e w'=>e = .returned (.int .i64 (if b then x else 0))∧Hp B H0 H L w':=by
 refine Jx Tryz.func73 rfl 7 rfl rfl [(0,.bool b),(1,.int .i64 x)] rfl hH ?_;clear hH;refine Je fun _ hK1 _=>(Jb (Jg (Jd rfl) rfl (Jf (Ja (hK1 (Je fun _ hK2 _=>(Je fun _ hK3 _=>(Jb (Jg (Jc rfl) rfl (Jf (Ja (hK3 (Ei rfl (fun h5=>?_) (fun h5=>?_))))))))))))))
 ·
  refine Je fun _ hK4 _=>(Jb (Jg (Jc rfl) rfl (Jg (Jd rfl) rfl (Jf (Ja (hK4 (Jt (Jk (Jr rfl (Res.tmp rfl) fun w hH=>?_)))))))));exact ⟨by rw [if_pos h5],hH⟩
 ·
  refine Jn (Ja (hK2 (Je fun _ hK5 _=>(Jb (Jg (Jd rfl) rfl (Jf (Ja (hK5 (Jt (Jr rfl (Res.tmp rfl) fun w hH=>?_))))))))));exact ⟨by rw [if_neg (by rw [h5];simp)],hH⟩
def upd (out:List Int) (k n:Nat):List Int:=out.set k (out.getD k 0+out.getD (k - n) 0)
def passE (n:Nat):Nat→List Int→List Int
 | 0,out=>out
 | c+1,out=>upd (passE n c out) (n+c) n
def passO (n m:Nat):Nat→List Int→List Int
 | 0,out=>out
 | c+1,out=>upd (passO n m c out) (m - c) n
def pass (m:Nat) (d:Int) (out:List Int):List Int:=if d.tmod 2=1 then passO d.toNat m (m+1 - d.toNat) out else passE d.toNat (m+1 - d.toNat) out
@[simp] theorem upd_length (out:List Int) (k n:Nat):(upd out k n).length=out.length:=by simp [upd]
@[simp] theorem passE_length (n c:Nat) (out:List Int):(passE n c out).length=out.length:=by induction c with | zero=>rfl | succ c ih=>simp [passE,ih]
@[simp] theorem passO_length (n m c:Nat) (out:List Int):(passO n m c out).length=out.length:=by induction c with | zero=>rfl | succ c ih=>simp [passO,ih]
@[simp] theorem pass_length (m:Nat) (d:Int) (out:List Int):(pass m d out).length=out.length:=by unfold pass;split <;> simp
def cap:Nat→Int
 | 0=>1
 | i+1=>41 * cap i
theorem tmod_two {d:Int} (h:0≤d):d.tmod 2=0∨d.tmod 2=1:=by rw [Int.tmod_eq_emod_of_nonneg h];omega
theorem fn35:Fn Tryz.prog 35:=⟨_,Tryz.func35,by kernel_rfl,rfl⟩
theorem markTermS_s {B:World} {H0 H:HP} {L:List SA} {w:World} {gxs mxs cxs:Nat} {xs:List Value} {k:Int} (hm:mxs * 9≤xs.length) (hn:0≤k∧k+9 * mxs≤9223372036854775807) (hH:Hp B H0 H (obj gxs (.cells xs.toArray 107 (0,0))::L) w):Calls Tryz.prog 35 [.slice (some ⟨gxs,0,none⟩) mxs cxs,.int .i64 k].toArray w fun e w'=>e = .returned (.int .i64 (k+9 * mxs))∧Hp B H0 H (obj gxs (.cells (tsC (marksT k mxs)++xs.drop (mxs * 9)).toArray 107 (0,0))::L) w':=by
 refine Jx Tryz.func35 rfl 35 rfl rfl [(0,.slice (some ⟨gxs,0,none⟩) mxs cxs),(1,.int .i64 k)] rfl hH ?_;clear hH
 have hML:(tsC (marksT k mxs)).length=mxs * 9:=by rw [tsC_length (marksT_wfs hn),marksT_length]
 refine Je fun _ hK1 _=>(Jb (Jg (Jd rfl) rfl (Jf (Ja (hK1 (Je fun _ hK2 _=>(Je fun _ hK3 _=>(Jb (Jg (Jd rfl) rfl (Jf (Ja (hK3 (Jp (JD (σ:=Nat) (fun (i:Nat)=>[(5,.int .i64 (i:Int)),(1,.int .i64 (k+9 * i))]) (fun (i:Nat)=>H) (fun (i:Nat)=>obj gxs (.cells ((tsC (marksT k mxs)).take (i * 9)++xs.drop (i * 9)).toArray 107 (0,0))::L) (fun (i:Nat)=>i≤mxs) (fun (i:Nat)=>mxs - i) 0 (by omega) ⟨rfl,⟨(vi (by omega)),trivial⟩⟩ rfl (by simp) ?_))))))))))))));rintro i hI _ hAg0;have hk:=hI;refine Je fun _ hK4 _=>(Je fun _ hK5 _=>(Jb (Jg (Jc rfl) rfl (Jg (Jc rfl) rfl (Jg (Jo u38 rfl rfl) rfl (Jg (JJ rfl rfl) rfl (Jf (Ja (hK5 (Jq rfl (fun hc10=>?_) (fun hc10=>?_)))))))))))
 ·
  refine Jn (Ja (hK4 (Je fun _ hK6 _=>(Jp (Je fun _ hK7 _=>(Je fun _ hK8 _=>(Jb (Jg (Jd rfl) rfl (Jf (Ja (hK8 (Jp (JD (σ:=Nat) (fun (j:Nat)=>[(6,.int .i64 (j:Int)),(1,.int .i64 (k+9 * i+j))]) (fun (j:Nat)=>H) (fun (j:Nat)=>obj gxs (.cells ((tsC (marksT k mxs)).take (i * 9+j)++xs.drop (i * 9+j)).toArray 107 (0,0))::L) (fun (j:Nat)=>j≤8) (fun (j:Nat)=>8 - j) 0 (by omega) ⟨rfl,⟨(vi (by omega)),trivial⟩⟩ rfl rfl ?_)))))))))))));rintro j hJ _ hAg1;have hj:=hJ;refine Je fun _ hK9 _=>(Je fun _ hK10 _=>(Jb (Jg (Jc rfl) rfl (Jg (JJ rfl rfl) rfl (Jf (Ja (hK10 (Jq rfl (fun hc14=>?_) (fun hc14=>?_)))))))))
  ·
   refine Jn (Ja (hK9 (Je fun _ hK11 _=>(Jp (Je fun _ hK12 _=>(Jb (Jg (Jc rfl) rfl (Jg (Jc rfl) rfl (Jg (Jc rfl) rfl (Jg (Jc rfl) rfl (Jg (PR.conv u3 u5 rfl rfl) rfl (Jg (PR.idxO u38 sz107 rfl rfl rfl (by omega)) rfl (Jg (Jl u107 rfl sz105 rfl) rfl (Jg (PR.idxB u105 sz5 rfl rfl rfl (by omega)) rfl (Et rfl rfl rfl rfl sz5 (by show i * 9+0+j<_;simp only [List.length_append,List.length_take,List.length_drop];omega) .z ?_)))))))))))))));refine Jf (Ja (hK12 (Jb (Jg (Jc rfl) rfl (Jg (Jz rfl rfl (by first | exact nw _ (by omega) | rfl)) rfl (Jg (Jd rfl) rfl (Jf (JF (Ja (hK11 (Jb (Jg (Jc rfl) rfl (Jg (Jz rfl rfl (by first | exact nw _ (by omega) | rfl)) rfl (Jg (Jd rfl) rfl (Jf (Ja ?_))))))))))))))));exact hAg1 (j+1) (by omega) (by omega) 18 rfl rfl ⟨rfl,⟨(vi (by omega)),trivial⟩⟩ rfl (by have e:=fill_flat (M:=tsC (marksT k mxs)) (cs:=xs) (p:=i * 9+j) (by omega) (marksTC_byte hn (by omega) (by omega));rw [show i * 9+(j+1)=i * 9+j+1 by omega,← e];rfl)
  ·
   refine JG (Jj (Jj (JK (Ja (hK7 (Je fun _ hK13 _=>(Jb (Jg (Jc rfl) rfl (Jg (Jc rfl) rfl (Jg (Jc rfl) rfl (Jg (PR.idxO u38 sz107 rfl rfl rfl (by omega)) rfl (Jg (Jl u107 rfl sz2 rfl) rfl (Et rfl rfl rfl rfl sz2 (by show i * 9+8<_;simp only [List.length_append,List.length_take,List.length_drop];omega) .z (Jf (Ja (hK13 ?_))))))))))))))));refine Jb (Jg (Jc rfl) rfl (Jg (Jz rfl rfl (by first | exact nw _ (by omega) | rfl)) rfl (Jg (Jd rfl) rfl (Jf (JF (Ja (hK6 (Jb (Jg (Jc rfl) rfl (Jg (Jz rfl rfl (by first | exact nw _ (by omega) | rfl)) rfl (Jg (Jd rfl) rfl (Jf (Ja ?_)))))))))))));exact hAg0 (i+1) (by omega) (by omega) 22 rfl rfl ⟨rfl,⟨(vi (by omega)),trivial⟩⟩ rfl (by have e:=fill_flat (M:=tsC (marksT k mxs)) (cs:=xs) (p:=i * 9+8) (by omega) (marksTC_fac hn (by omega));obtain rfl:j=8:=(by omega);rw [show (i+1) * 9=i * 9+8+1 by omega,← e,show k+9 * (i:Int)+((8:Nat):Int)=k+9 * (i:Int)+8 by omega];rfl)
 ·
  refine JG (Jj (Jj (JK (Ja (hK2 (Je fun _ hK14 _=>(Jb (Jg (Jc rfl) rfl (Jg (Jd rfl) rfl (Jf (Ja (hK14 (Jt (Jr rfl (Res.tmp rfl) fun w hH=>?_))))))))))))))
  obtain rfl:i=mxs:=by omega
  rw [List.take_of_length_le (by omega)] at hH;exact ⟨rfl,hH⟩
theorem markTermS_0 {B:World} {H0 H:HP} {L:List SA} {w:World} {qxs:Option Addr} {cxs:Nat} {k:Int} (hH:Hp B H0 H L w):Calls Tryz.prog 35 [.slice qxs 0 cxs,.int .i64 k].toArray w fun e w'=>e = .returned (.int .i64 k)∧Hp B H0 H L w':=by
 refine Jx Tryz.func35 rfl 35 rfl rfl [(0,.slice qxs 0 cxs),(1,.int .i64 k)] rfl hH ?_;clear hH;refine Je fun _ hK1 _=>(Jb (Jg (Jd rfl) rfl (Jf (Ja (hK1 (Je fun _ hK2 _=>(Je fun _ hK3 _=>(Jb (Jg (Jd rfl) rfl (Jf (Ja (hK3 (Jp (JD (σ:=Unit) (fun (_:Unit)=>[(5,.int .i64 0),(1,.int .i64 k)]) (fun (_:Unit)=>H) (fun (_:Unit)=>L) (fun (_:Unit)=>True) (fun (_:Unit)=>0) () trivial ⟨rfl,⟨rfl,trivial⟩⟩ rfl rfl ?_))))))))))))));rintro _ hI _ hAg0;refine Je fun _ hK4 _=>(Je fun _ hK5 _=>(Jb (Jg (Jc rfl) rfl (Jg (Jc rfl) rfl (Jg (Jo u38 rfl rfl) rfl (Jg (JJ rfl rfl) rfl (Jf (Ja (hK5 (Jq rfl (fun hc10=>?_) (fun hc10=>?_)))))))))))
 ·
  exact absurd hc10 (by simp)
 ·
  refine JG (Jj (Jj (JK (Ja (hK2 (Je fun _ hK6 _=>(Jb (Jg (Jc rfl) rfl (Jg (Jd rfl) rfl (Jf (Ja (hK6 (Jt (Jr rfl (Res.tmp rfl) fun w hH=>?_))))))))))))));exact ⟨rfl,hH⟩
theorem markTermS_c {B:World} {H0 H:HP} {L:List SA} {w:World} {q:Option Addr} {c m:Nat} {cells:List Value} {k:Int} (hn:0≤k∧k+9 * (m:Nat)≤9223372036854775807) (hH:Hp B H0 H (own 107 9 q m c cells::L) w):Calls Tryz.prog 35 [.slice q m c,.int .i64 k].toArray w fun e w'=>e = .returned (.int .i64 (k+9 * (m:Nat)))∧Hp B H0 H (own 107 9 q m c (tsC (marksT k m))::L) w':=by
 refine hH.openOwn (by decide) (fun h1 h2 h3 h4=>?_) (fun g cs h1 h2 h3 h4 h5 h6 hG=>?_)
 ·subst h1 h2 h3 h4;refine (markTermS_0 hH).mono ?_;rintro _ w ⟨rfl,h⟩;exact ⟨by simp,h⟩
 ·subst h1;refine (markTermS_s (xs:=cs) (by omega) hn hG).mono ?_;rintro _ w ⟨rfl,h⟩
  have hl:(tsC (marksT k m)).length=m * 9:=by rw [tsC_length (marksT_wfs hn),marksT_length]
  exact ⟨rfl,h.shutOwn (by simp only [List.length_append,List.length_drop];omega) h4 h5 (by rw [List.take_append_of_le_length (by omega),List.take_of_length_le (by omega)])⟩
theorem markForm_c {B:World} {H0 H:HP} {L:List SA} {w:World} {qf:Option Addr} {mf cf:Nat} {cellsf:List Value} {k:Int} (hn:0≤k∧k+9 * (mf:Nat)≤9223372036854775807) (hH:Hp B H0 H (own 107 9 qf mf cf cellsf::L) w):Calls Tryz.prog 15 [.agg [.slice qf mf cf].toArray,.int .i64 k].toArray w fun e w'=>e = .returned (.int .i64 (k+9 * (mf:Nat)))∧Hp B H0 H (own 107 9 qf mf cf (tsC (marksT k mf))::L) w':=by
 refine Jx Tryz.func15 rfl 10 rfl rfl [(0,.agg [.slice qf mf cf].toArray),(1,.int .i64 k)] rfl hH ?_;clear hH;refine Je fun _ hK1 _=>(Jb (JW rfl rfl rfl fun g2=>(Jg (Jd rfl) rfl (Jf (Ja (hK1 (Je fun _ hK2 _=>(Jb (Jg (Jl u40 rfl sz38 rfl) rfl (Jg (Js rfl At.z rfl pl38) rfl (Jg (Jc rfl) rfl (Ju fn35 rfl rfl fun w hH=>(markTermS_c hn (hH.front (.s .z))).mono ?_))))))))))));rintro _ w ⟨rfl,hH⟩;refine ⟨_,rfl,fun a hF=>JH hF hH ?_⟩;refine Jg (Jd rfl) rfl (Jf (Ja (hK2 (Je fun _ hK3 _=>(Jb (Jg (Jc rfl) rfl (Jg (Jd rfl) rfl (Jf (Ja (hK3 (Jt (Jr rfl (Res.tmp rfl) fun w hH=>?_))))))))))));replace hH:=hH.sublist (.cons_cons _ (.cons _ (List.Sublist.refl _)));exact ⟨rfl,hH⟩
theorem u34:Tryz.prog.underlying 34=some (TypeDesc.slice 40):=by kernel_rfl
theorem u36:Tryz.prog.underlying 36=some (TypeDesc.struct #[{name:="Degrees",type:=22,offset:=0,embedded:=false,tag:="",pkgPath:="",byteOffset:=0},{name:="Images",type:=34,offset:=1,embedded:=false,tag:="",pkgPath:="",byteOffset:=24}]):=by kernel_rfl
theorem sz22:Size Tryz.prog 22 1:=by unfold Size;kernel_rfl
theorem sz34:Size Tryz.prog 34 1:=by unfold Size;kernel_rfl
theorem pl22:Plain Tryz.prog 22:=⟨_,u22,rfl⟩
theorem pl34:Plain Tryz.prog 34:=⟨_,u34,rfl⟩
theorem fn13:Fn Tryz.prog 13:=⟨_,Tryz.func13,by kernel_rfl,rfl⟩
theorem fn30:Fn Tryz.prog 30:=⟨_,Tryz.func30,by kernel_rfl,rfl⟩
theorem fn31:Fn Tryz.prog 31:=⟨_,Tryz.func31,by kernel_rfl,rfl⟩
theorem fn33:Fn Tryz.prog 33:=⟨_,Tryz.func33,by kernel_rfl,rfl⟩
theorem fn34:Fn Tryz.prog 34:=⟨_,Tryz.func34,by kernel_rfl,rfl⟩
theorem markFormS_s {B:World} {H0 H:HP} {L:List SA} {w:World} {qfs:Option Addr} {cfs:Nat} {vs:Vs} {fs:List (List Term)} {k:Int} (hn:0≤k∧k+9 * (tot fs:Nat)≤9223372036854775807) (hl:fs.length≤9223372036854775807) (hq:0<fs.length→qfs.isSome=true) (hH:Hp B H0 H (emp::ownTs 107 vs fs::own 40 1 qfs fs.length cfs (slicesC vs fs)::L) w):Calls Tryz.prog 34 [.slice qfs fs.length cfs,.int .i64 k].toArray w fun e w'=>e = .returned (.int .i64 (k+9 * (tot fs:Nat)))∧Hp B H0 H (ownTs 107 vs (marksFs k fs)::own 40 1 qfs fs.length cfs (slicesC vs fs)::L) w':=by
 refine Jx Tryz.func34 rfl 20 rfl rfl [(0,.slice qfs fs.length cfs),(1,.int .i64 k)] rfl hH ?_;clear hH;refine Je fun _ hK1 _=>(Jb (Jg (Jd rfl) rfl (Jf (Ja (hK1 (Je fun _ hK2 _=>(Je fun _ hK3 _=>(Jb (Jg (Jd rfl) rfl (Jf (Ja (hK3 (Jp (JD (σ:=Nat) (fun (i:Nat)=>[(5,.int .i64 (i:Int)),(1,.int .i64 (k+9 * (tot (fs.take i):Nat)))]) (fun (i:Nat)=>H) (fun (i:Nat)=>ownTs 107 vs (marksFs k (fs.take i))::ownTs 107 (vs.dr i) (fs.drop i)::own 40 1 qfs fs.length cfs (slicesC vs fs)::L) (fun (i:Nat)=>i≤fs.length) (fun (i:Nat)=>fs.length - i) 0 (by omega) ⟨rfl,⟨(vi (by simp [tot])),trivial⟩⟩ rfl rfl ?_))))))))))))));rintro i hI _ hAg0;have hk:=hI;refine Je fun _ hK4 _=>(Je fun _ hK5 _=>(Jb (Jg (Jc rfl) rfl (Jg (Jc rfl) rfl (Jg (Jo u34 rfl rfl) rfl (Jg (JJ rfl rfl) rfl (Jf (Ja (hK5 (Jq rfl (fun hc9=>?_) (fun hc9=>?_)))))))))))
 ·
  refine Jn (Ja (hK4 (Je fun _ hK6 _=>(Jp (Jb (Jg (Jc rfl) rfl (Jg (Jc rfl) rfl (Jg (JL u34 sz40 rfl rfl rfl (by omega) (fun _=>hq (by omega))) rfl (Jg (EM u40 rfl sz38 rfl (hq (by omega))) rfl (Jg (ED rfl (.s (.s .z)) (slicesC_get (i:=i) (by omega)) pl38) rfl (Jg (Jc rfl) rfl (Ju fn35 rfl rfl fun w hH=>(markTermS_c (by have:=tot_take_le (fs:=fs) (i:=i) (by omega);omega) (Hp.fsIn (i:=i) (hH.front (.s .z)) (by omega))).mono ?_))))))))))));rintro _ w ⟨rfl,hH⟩
  have hH2:=Hp.fsOut (f:=marksT (k+9 * (tot (fs.take i):Nat)) (fm fs i).length) (vs:=vs) (gs:=marksFs k (fs.take i)) (by
   have e:(marksFs k (fs.take i)).length=i:=by simp;omega
   rw [e,marksT_length]
   exact hH.front (.s (.s .z)) |>.front (.s .z))
  refine ⟨_,rfl,fun a hF=>JH hF hH2 ?_⟩;refine Jg (Jd rfl) rfl (Jf (JF (Ja (hK6 (Jb (Jg (Jc rfl) rfl (Jg (Jz rfl rfl (by first | exact nw _ (by omega) | rfl)) rfl (Jg (Jd rfl) rfl (Jf (Ja ?_))))))))));exact hAg0 (i+1) (by omega) (by omega) 17 rfl rfl ⟨rfl,⟨(vi (by rw [tot_succ (by omega)];omega)),trivial⟩⟩ rfl (by rw [marksFs_succ (by omega)])
 ·
  refine JG (Jj (Jj (JK (Ja (hK2 (Je fun _ hK7 _=>(Jb (Jg (Jc rfl) rfl (Jg (Jd rfl) rfl (Jf (Ja (hK7 (Jt (Jr rfl (Res.tmp rfl) fun w hH=>?_))))))))))))));replace hH:=hH.sublist (.cons_cons _ (.cons _ (.cons_cons _ (List.Sublist.refl _))))
  obtain rfl:i=fs.length:=by omega
  rw [List.take_length] at hH;exact ⟨by rw [List.take_length],hH⟩
theorem markFormS_c {B:World} {H0 H:HP} {L:List SA} {w:World} {q:Option Addr} {c:Nat} {vs:Vs} {fs:List (List Term)} {k:Int} (hn:0≤k∧k+9 * (tot fs:Nat)≤9223372036854775807) (hl:fs.length≤9223372036854775807) (hH:Hp B H0 H (ownFs 40 107 q c vs fs::L) w):Calls Tryz.prog 34 [.slice q fs.length c,.int .i64 k].toArray w fun e w'=>e = .returned (.int .i64 (k+9 * (tot fs:Nat)))∧Hp B H0 H (ownFs 40 107 q c vs (marksFs k fs)::L) w':=by
 have hu:=hH.unstar
 have hq:0<fs.length→q.isSome=true:=fun h=>by
  rcases (hu.objs _ (List.mem_cons_self)).1.2 with ⟨_,h2,_⟩ | ⟨g,cur,rfl,_⟩
  ·omega
  ·rfl
 refine (markFormS_s hn hl hq ((hu.front (.s .z)).emp)).mono ?_;rintro _ w ⟨rfl,h⟩;refine ⟨rfl,?_⟩;have h2:=(h.front (.s .z)).star;unfold ownFs;rw [slicesC_marks,marksFs_length];exact h2
theorem markAlgebra_c {B:World} {H0 H:HP} {L:List SA} {w:World} {qad qaf:Option Addr} {ma cad caf:Nat} {cellsa:List Value} {vsa:Vs} {a:List (List Term)} {k:Int} (hn:0≤k∧k+ma+9 * (tot a:Nat)≤9223372036854775807) (hl:a.length≤9223372036854775807) (hH:Hp B H0 H (own 2 1 qad ma cad cellsa::ownFs 40 107 qaf caf vsa a::L) w):Calls Tryz.prog 14 [.agg [.slice qad ma cad,.slice qaf a.length caf].toArray,.int .i64 k].toArray w fun e w'=>e = .returned (.int .i64 (k+ma+9 * (tot a:Nat)))∧Hp B H0 H (own 2 1 qad ma cad (intsC (marks k ma))::ownFs 40 107 qaf caf vsa (marksFs (k+ma) a)::L) w':=by
 refine Jx Tryz.func14 rfl 14 rfl rfl [(0,.agg [.slice qad ma cad,.slice qaf a.length caf].toArray),(1,.int .i64 k)] rfl hH ?_;clear hH;refine Je fun _ hK1 _=>(Jb (JW rfl rfl rfl fun g2=>(Jg (Jd rfl) rfl (Jf (Ja (hK1 (Je fun _ hK2 _=>(Jb (Jg (Jl u36 rfl sz22 rfl) rfl (Jg (Js rfl At.z rfl pl22) rfl (Jg (Jc rfl) rfl (Ju fn33 rfl rfl fun w hH=>(markInt64S_c (by omega) (hH.front (.s .z))).mono ?_))))))))))));rintro _ w ⟨rfl,hH⟩;refine ⟨_,rfl,fun a hF=>JH hF hH ?_⟩;refine Jg (Jd rfl) rfl (Jf (Ja (hK2 (Je fun _ hK3 _=>(Jb (Jg (Jl u36 rfl sz34 rfl) rfl (Jg (Js rfl (.s .z) rfl pl34) rfl (Jg (Jc rfl) rfl (Ju fn34 rfl rfl fun w hH=>(markFormS_c (by omega) (by omega) (hH.front (.s (.s .z)))).mono ?_)))))))));rintro _ w ⟨rfl,hH⟩;refine ⟨_,rfl,fun a hF=>JH hF hH ?_⟩;refine Jg (Jd rfl) rfl (Jf (Ja (hK3 (Je fun _ hK4 _=>(Jb (Jg (Jc rfl) rfl (Jg (Jd rfl) rfl (Jf (Ja (hK4 (Jt (Jr rfl (Res.tmp rfl) fun w hH=>?_))))))))))));replace hH:=hH.sublist (.cons_cons _ (.cons_cons _ (.cons _ (List.Sublist.refl _))));exact ⟨rfl,hH.front (.s .z)⟩
theorem eqFormS_c {B:World} {H0 H:HP} {L:List SA} {w:World} {qxs:Option Addr} {cxs:Nat} {xs:List (List Term)} {qys:Option Addr} {cys:Nat} {ys:List (List Term)} (hxs:Forms H qxs xs) (hys:Forms H qys ys) (hn:xs.length≤9223372036854775807) (hf : ∀i,i<xs.length→(fm xs i).length≤9223372036854775807) (hH:Hp B H0 H L w):Calls Tryz.prog 31 [.slice qxs xs.length cxs,.slice qys ys.length cys].toArray w fun e w'=>e = .returned (.bool (decide (xs=ys)))∧Hp B H0 H L w':=by
 refine Jx Tryz.func31 rfl 27 rfl rfl [(0,.slice qxs xs.length cxs),(1,.slice qys ys.length cys)] rfl hH ?_;clear hH;refine Je fun _ hK1 _=>(Jb (Jg (Jd rfl) rfl (Jf (Ja (hK1 (Je fun _ hK2 _=>(Je fun _ hK3 _=>(Jb (Jg (Jc rfl) rfl (Jg (Jo u34 rfl rfl) rfl (Jg (Jc rfl) rfl (Jg (Jo u34 rfl rfl) rfl (Jg (Eo rfl rfl) rfl (Jf (Ja (hK3 ?_))))))))))))))));refine Jq rfl (fun h10=>?_) (fun h10=>?_)
 ·
  refine Je fun _ hK4 _=>(Jb (Jg (Jd rfl) rfl (Jf (Ja (hK4 (Jt (Jk (Jr rfl (Res.tmp rfl) fun w hH=>?_))))))));exact ⟨rb (decide_eq_false (fun e=>h10 (by rw [e]))).symm,hH⟩
 ·
  refine Jn (Ja (hK2 (Je fun _ hK5 _=>(Je fun _ hK6 _=>(Jb (Jg (Jd rfl) rfl (Jf (Ja (hK6 (Jp (JD (σ:=Nat) (fun (k:Nat)=>[(5,.int .i64 (k:Int))]) (fun (k:Nat)=>H) (fun (k:Nat)=>L) (fun (k:Nat)=>k≤xs.length∧∀j,j<k→fm xs j=fm ys j) (fun (k:Nat)=>xs.length - k) 0 ⟨by omega,fun j hj=>by omega⟩ ⟨rfl,trivial⟩ rfl rfl ?_)))))))))));rintro k hI _ hAg0;have hk:=hI.1;refine Je fun _ hK7 _=>(Je fun _ hK8 _=>(Jb (Jg (Jc rfl) rfl (Jg (Jc rfl) rfl (Jg (Jo u34 rfl rfl) rfl (Jg (JJ rfl rfl) rfl (Jf (Ja (hK8 (Jq rfl (fun hc14=>?_) (fun hc14=>?_)))))))))))
  ·
   refine Jn (Ja (hK7 (Je fun _ hK9 _=>(Jp (Je fun _ hK10 _=>(Er [[], [], [0,1], [2], [], [], [4,5], [6]] (by kernel_rfl) (JA (fun gh=>Jc rfl) (JA (fun gh=>Jc rfl) (JA (fun gh=>JL u34 sz40 rfl rfl rfl (by omega) hxs.sm) ?_)))))))));obtain ⟨qe20,ce20,he20,le20,Fe20⟩:=hxs k (by omega);refine JA (fun gh=>JM (cs:=[_]) rfl (one_cell he20) (hxs.sm (i:=k) (by omega)) ag40) (JA (fun gh=>Jc rfl) (JA (fun gh=>Jc rfl) (JA (fun gh=>JL u34 sz40 rfl rfl rfl (by omega) hys.sm) ?_)));obtain ⟨qe24,ce24,he24,le24,Fe24⟩:=hys k (by omega);refine JA (fun gh=>JM (cs:=[_]) rfl (one_cell he24) (hys.sm (i:=k) (by omega)) ag40) (Ec 8 1 foll0 (by kernel_rfl) rfl rfl fun gh=>(En (us':=(17,_)::(18,_)::(19,_)::(20,_)::(21,_)::(22,_)::(23,_)::(24,_)::_) (L':=_) rfl rfl (Ju fn13 rfl rfl fun w hH=>(eqForm_c Fe20 Fe24 (hf k (by omega)) hH).mono ?_)));rintro _ w ⟨rfl,hH⟩;refine ⟨_,rfl,fun a hF=>JH hF hH ?_⟩;refine Jf (Eb (JC (Em rfl) rfl (Ed (Ja (hK10 (Ei rfl (fun h26=>?_) (fun h26=>?_)))))))
   ·
    refine Je fun _ hK11 _=>(Jb (Jg (Jd rfl) rfl (Jf (Ja (hK11 (Jt (JO (Jk (Jk (JO (Jk (Jr rfl (Res.tmp rfl) fun w hH=>?_))))))))))));exact ⟨rb (decide_eq_false (fun e=>(by rw [e] at h26;simp at h26))).symm,hH⟩
   ·
    refine Jn (JF (Ja (hK9 (Jb (Jg (Jc rfl) rfl (Jg (Jz rfl rfl (by first | exact nw _ (by omega) | rfl)) rfl (Jg (Jd rfl) rfl (Jf (Ja ?_)))))))));exact hAg0 (k+1) ⟨by omega,upto hI.2 (of_decide_eq_true (notf h26))⟩ (by omega) 18 rfl rfl ⟨rfl,trivial⟩ rfl rfl
  ·
   refine JG (Jj (Jj (JK (Ja (hK5 (Je fun _ hK12 _=>(Jb (Jg (Jd rfl) rfl (Jf (Ja (hK12 (Jt (Jr rfl (Res.tmp rfl) fun w hH=>?_)))))))))))));exact ⟨rb (decide_eq_true (forms_eq_of (by omega) (fun j hj=>hI.2 j (by omega)))).symm,hH⟩
theorem eqAlgebra_c {B:World} {H0 H:HP} {L:List SA} {w:World} {qad qaf:Option Addr} {cad caf:Nat} {ad:List Int} {af:List (List Term)} {qbd qbf:Option Addr} {cbd cbf:Nat} {bd:List Int} {bf:List (List Term)} (had:Ints H qad ad) (haf:Forms H qaf af) (hbd:Ints H qbd bd) (hbf:Forms H qbf bf) (hd:ad.length≤1048576) (hn:af.length≤9223372036854775807) (hf : ∀i,i<af.length→(fm af i).length≤9223372036854775807) (hH:Hp B H0 H L w):Calls Tryz.prog 12 [.agg [.slice qad ad.length cad,.slice qaf af.length caf].toArray,.agg [.slice qbd bd.length cbd,.slice qbf bf.length cbf].toArray].toArray w fun e w'=>e = .returned (.bool (decide (ad=bd) && decide (af=bf)))∧Hp B H0 H L w':=by
 refine Jx Tryz.func12 rfl 17 rfl rfl [(0,.agg [.slice qad ad.length cad,.slice qaf af.length caf].toArray),(1,.agg [.slice qbd bd.length cbd,.slice qbf bf.length cbf].toArray)] rfl hH ?_;clear hH;refine Je fun _ hK1 _=>(Jb (JW rfl rfl rfl fun g2=>(JW rfl rfl rfl fun g3=>(Jg (Jd rfl) rfl (Jf (Ja (hK1 (Je fun _ hK2 _=>(Je fun _ hK3 _=>(Jb (Jg (Jl u36 rfl sz22 rfl) rfl (Jg (Js rfl (.s .z) rfl pl22) rfl (Jg (Jl u36 rfl sz22 rfl) rfl (Jg (Js rfl At.z rfl pl22) rfl (Ju fn30 rfl rfl fun w hH=>(eqInt64S_c had hbd hd hH).mono ?_)))))))))))))));rintro _ w ⟨rfl,hH⟩;refine ⟨_,rfl,fun a hF=>JH hF hH ?_⟩;refine Jg (Em rfl) rfl (Jf (Ja (hK3 (Ei rfl (fun h10=>?_) (fun h10=>?_)))))
 ·
  refine Je fun _ hK4 _=>(Jb (Jg (Jd rfl) rfl (Jf (Ja (hK4 (Jt (Jk (Jr rfl (Res.tmp rfl) fun w hH=>?_))))))));replace hH:=hH.tail;replace hH:=hH.tail;exact ⟨rb (by rw [nott h10];rfl),hH⟩
 ·
  refine Jn (Ja (hK2 (Je fun _ hK5 _=>(Je fun _ hK6 _=>(Jb (Jg (Jl u36 rfl sz34 rfl) rfl (Jg (Js rfl (.s .z) rfl pl34) rfl (Jg (Jl u36 rfl sz34 rfl) rfl (Jg (Js rfl At.z rfl pl34) rfl (Ju fn31 rfl rfl fun w hH=>(eqFormS_c haf hbf hn hf hH).mono ?_))))))))));rintro _ w ⟨rfl,hH⟩;refine ⟨_,rfl,fun a hF=>JH hF hH ?_⟩;refine Jg (Em rfl) rfl (Jf (Ja (hK6 (Ei rfl (fun h16=>?_) (fun h16=>?_)))))
  ·
   refine Je fun _ hK7 _=>(Jb (Jg (Jd rfl) rfl (Jf (Ja (hK7 (Jt (Jk (Jr rfl (Res.tmp rfl) fun w hH=>?_))))))));replace hH:=hH.tail;replace hH:=hH.tail;exact ⟨rb (by rw [nott h16,Bool.and_false]),hH⟩
  ·
   refine Jn (Ja (hK5 (Je fun _ hK8 _=>(Jb (Jg (Jd rfl) rfl (Jf (Ja (hK8 (Jt (Jr rfl (Res.tmp rfl) fun w hH=>?_))))))))));replace hH:=hH.tail;replace hH:=hH.tail;exact ⟨rb (by rw [notf h10,notf h16];rfl),hH⟩
theorem CloneI_c {B:World} {H0 H:HP} {L:List SA} {w:World} {qxs:Option Addr} {cxs:Nat} {xs:List Int} (hxs:Ints H qxs xs) (hn:xs.length≤1048576) (hH:Hp B H0 H L w):Calls Tryz.prog 86 [.slice qxs xs.length cxs].toArray w fun e w'=>∃q c,e = .returned (.slice q xs.length c)∧Hp B H0 H (own 2 1 q xs.length c (intsC xs)::L) w':=by
 refine Jx Tryz.func86 rfl 8 rfl rfl [(0,.slice qxs xs.length cxs)] rfl hH ?_;clear hH;refine Je fun _ hK1 _=>(Jb (Jg (Jd rfl) rfl (Jf (Ja (hK1 (Je fun _ hK2 _=>(Je fun _ hK3 _=>(Jb (Jg (Jc rfl) rfl (Jg (PR.eqlNil u22 rfl rfl) rfl (Jf (Ja (hK3 (Ei rfl (fun h4=>?_) (fun h4=>?_)))))))))))))))
 ·
  refine Je fun _ hK4 _=>(Jb (Jg (Jd rfl) rfl (Jf (Ja (hK4 (Jt (Jk (Jr rfl (Res.tmp rfl) fun w hH=>?_))))))));replace hH:=hH.sublist (List.Sublist.refl _);have e1:=hxs.none_nil h4;subst e1;exact ⟨none,0,rfl,hH.own0 2 1⟩
 ·
  refine Jn (Ja (hK2 (Je fun _ hK5 _=>(Jb (EI (MK.lit0I u22 sz2) rfl fun qo5 co5=>(Jg (Jc rfl) rfl (J.appendHI u22 ze2 sz2 by2 rfl rfl hxs (by simp;omega) At.z (fun _ _=>At.z) rfl fun qo7 co7=>(Jg (Jd rfl) rfl (Jf (Ja (hK5 (Jt (Jr rfl (Res.tmp rfl) fun w hH=>?_)))))))))))));replace hH:=hH.sublist (.cons_cons _ (List.Sublist.refl _));exact ⟨_,_,rfl,hH⟩
theorem bz40 : ∀w,(Instr.build 40 #[]).run Tryz.prog w = .ok (.agg [.slice none 0 0].toArray) w:=fun _=>by kernel_rfl
def inDeg (ds:List Int) (n:Int) (t:Term):Bool:=decide (wsum ds t.mono ds.length=n)
def part (ds:List Int) (ts:List Term) (n:Int):List Term:=ts.filter (inDeg ds n)
theorem take_tm {ts:List Term} {k:Nat} (hk:k<ts.length):ts.take (k+1)=ts.take k++[tm ts k]:=by
 rw [List.take_succ_eq_append_getElem hk]
 simp [tm,List.getD_eq_getElem?_getD,List.getElem?_eq_getElem hk]
theorem tm_eq {xs:List Term} {j:Nat} (hj:j<xs.length):xs[j]=tm xs j:=by simp [tm,List.getD_eq_getElem?_getD,List.getElem?_eq_getElem hj]
def keptK (ts:List Term) (p:Term→Bool) (j:Nat):List Term:=(ts.take j).filter fun t=>!p t
structure Dl (ts:List Term) (p:Term→Bool) (cs cur:List Value) (j:Nat):Prop where
 len:cur.length=cs.length
 front:cur.take ((keptK ts p j).length * 9)=tsC (keptK ts p j)
 back:cur.drop (j * 9)=cs.drop (j * 9)
theorem Dl.at {ts:List Term} {p:Term→Bool} {cs cur:List Value} {j:Nat} (h:Dl ts p cs cur j) (hw:Wfs ts) (hj:j<ts.length) (hcs:cs.take (ts.length * 9)=tsC ts) : ∀x v,(tm ts j).c[x]? = some v→cur[j * 9+x]? = some v:=by
 intro x v hx
 have hx9:x<9:=by rw [← Term.c_length (hw.at hj)];exact (List.getElem?_eq_some_iff.1 hx).1
 have h1:=tsC_get hw hj hx;rw [← hcs,List.getElem?_take,if_pos (by omega)] at h1;have h2:=congrArg (·[x]?) h.back;simp only [List.getElem?_drop] at h2;rw [h2];exact h1
theorem Hp.weaken {B:World} {H0 H H2:HP} {L:List SA} {w:World} (h:Hp B H0 H2 L w) (hle:Le H H2) (ho : ∀b,b<B.heap.size→H b=H0 b) (h1:Le H0 H):Hp B H0 H L w:=
 ⟨h.below,fun b o hb=>h.agree b o (hle b o hb),ho,h1,fun A hA=>⟨(h.objs A hA).1,fun b hb=>⟨((h.objs A hA).2 b hb).1,((h.objs A hA).2 b hb).2.1,by
  cases e:H b with
  | none=>rfl
  | some o=>have:=hle b o e;rw [((h.objs A hA).2 b hb).2.2] at this;cases this⟩⟩,h.sep⟩
abbrev Pw:=List Int
abbrev Sm:=List (Pw × Int)
theorem tmod_p (x:Int) : ∃r,x.tmod 10007=x - 10007 * r:=⟨x.tdiv 10007,by have:=Int.tmod_add_mul_tdiv x 10007;omega⟩
theorem tmod_bd (x:Int) : -10007<x.tmod 10007∧x.tmod 10007<10007:=by
 rcases Int.le_total 0 x with h | h
 ·rw [Int.tmod_eq_emod_of_nonneg h]
  omega
 ·have e:x = -(-x):=by omega
  rw [e,Int.neg_tmod,Int.tmod_eq_emod_of_nonneg (by omega)]
  omega
def fld (x:Int):Int:=(x.tmod 10007+10007).tmod 10007
theorem fld_eq (x:Int):fld x=x % 10007:=by
 unfold fld;obtain ⟨r,hr⟩:=tmod_p x;have hb:=tmod_bd x;rw [Int.tmod_eq_emod_of_nonneg (by omega)]
 omega
theorem fld_bd (x:Int):0≤fld x∧fld x≤10006:=by rw [fld_eq];omega
theorem fld_tmod (a x:Int):fld (a+x.tmod 10007)=fld (a+x):=by
 rw [fld_eq,fld_eq];obtain ⟨r,hr⟩:=tmod_p x
 omega
theorem fld_fld (a x:Int):fld (a+fld x)=fld (a+x):=by rw [fld_eq,fld_eq,fld_eq];omega
theorem first_of (f:Nat→Bool) : ∀n:Nat,(∀j,j<n→f j=false)∨∃k,k<n∧f k=true∧∀j,j<k→f j=false
 | 0=>.inl fun j hj=>by omega
 | n+1=>by
  rcases first_of f n with h | ⟨k,h1,h2,h3⟩
  ·cases hb:f n with
   | true=>exact .inr ⟨n,by omega,hb,h⟩
   | false=>exact .inl (upto h hb)
  ·exact .inr ⟨k,by omega,h2,h3⟩
theorem before_iff {p q:Pw}:before p q=true↔∃k,k<8∧(∀j,j<k→p.getD j 0=q.getD j 0)∧q.getD k 0<p.getD k 0:=by
 constructor
 ·intro h
  rcases first_of (fun j=>decide (p.getD j 0≠q.getD j 0)) 8 with h1 | ⟨k,h1,h2,h3⟩
  ·rw [before_miss fun j hj=>by simpa using h1 j hj] at h
   cases h
  ·have e : ∀j,j<k→p.getD j 0=q.getD j 0:=fun j hj=>by simpa using h3 j hj
   rw [before_hit h1 e (by simpa using h2)] at h;exact ⟨k,h1,e,by simpa using h⟩
 ·rintro ⟨k,h1,h2,h3⟩;rw [before_hit h1 h2 (by omega)]
  simpa using h3
theorem before_irr (p:Pw):before p p=false:=before_miss fun _ _=>rfl
theorem before_tr {p q r:Pw} (h1:before p q=true) (h2:before q r=true):before p r=true:=by
 obtain ⟨k,a1,a2,a3⟩:=before_iff.1 h1;obtain ⟨m,b1,b2,b3⟩:=before_iff.1 h2;refine before_iff.2 ?_
 rcases Nat.lt_trichotomy k m with h | h | h
 ·exact ⟨k,a1,fun j hj=>by rw [a2 j hj,b2 j (by omega)],by rw [← b2 k h];exact a3⟩
 ·subst h;exact ⟨k,a1,fun j hj=>by rw [a2 j hj,b2 j hj],by omega⟩
 ·exact ⟨m,b1,fun j hj=>by rw [a2 j (by omega),b2 j hj],by rw [a2 m h];exact b3⟩
theorem before_as {p q:Pw} (h:before p q=true):before q p=false:=by
 cases hb:before q p with
 | false=>rfl
 | true=>have:=before_tr h hb;rw [before_irr] at this;cases this
theorem before_ne {p q:Pw} (h:before p q=true):p≠q:=fun e=>by subst e;rw [before_irr] at h;cases h
theorem before_tot {p q:Pw} (hp:p.length=8) (hq:q.length=8) (h1:before p q=false) (h2:before q p=false):p=q:=by
 refine list_eq_of (by omega) fun j hj=>?_
 rcases first_of (fun j=>decide (p.getD j 0≠q.getD j 0)) 8 with h | ⟨k,a1,a2,a3⟩
 ·simpa using h j (by omega)
 ·have e : ∀j,j<k→p.getD j 0=q.getD j 0:=fun j hj=>by simpa using a3 j hj
  have hne:p.getD k 0≠q.getD k 0:=by simpa using a2
  rw [before_hit a1 e hne] at h1;rw [before_hit a1 (fun j hj=>(e j hj).symm) (Ne.symm hne)] at h2;have a:=of_decide_eq_false h1;have b:=of_decide_eq_false h2
  omega
structure Pok (M:Int) (p:Pw):Prop where
 len:p.length=8
 bd : ∀j,0≤p.getD j 0∧p.getD j 0≤M
theorem Pok.small {M:Int} {p:Pw} (h:Pok M p) (hM:M≤1000000):Small p:=fun j=>by have:=h.bd j;omega
theorem Pok.mono {M M':Int} {p:Pw} (h:Pok M p) (hM:M≤M'):Pok M' p:=⟨h.len,fun j=>by have:=h.bd j;omega⟩
structure Sok (M:Int) (s:Sm):Prop where
 srt:s.Pairwise fun x y=>before x.1 y.1=true
 key : ∀x∈s,Pok M x.1
 val : ∀x∈s,1≤x.2∧x.2≤10006
theorem Sok.nil {M:Int}:Sok M []:=⟨List.Pairwise.nil,fun _ h=>by simp at h,fun _ h=>by simp at h⟩
theorem Sok.tail {M:Int} {x:Pw × Int} {s:Sm} (h:Sok M (x::s)):Sok M s:=⟨(List.pairwise_cons.1 h.srt).2,fun y hy=>h.key y (by simp [hy]),fun y hy=>h.val y (by simp [hy])⟩
theorem Sok.nodup {M:Int} {s:Sm} (h:Sok M s):(s.map (·.1)).Nodup:=by
 rw [List.Nodup,List.pairwise_map];exact h.srt.imp fun h=>before_ne h
def cf:Sm→Pw→Int
 | [],_=>0
 | x::s,p=>if x.1=p then x.2 else cf s p
theorem look_cf (s:Sm) (p:Pw):(look s p).elim (Value.int .i64 0) (Value.int .i64) = .int .i64 (cf s p):=by
 induction s with
 | nil=>rfl
 | cons x s ih=>
  unfold look at ih ⊢;rw [List.find?_cons]
  by_cases e:x.1=p
  ·rw [decide_eq_true e]
   simp [cf,e]
  ·rw [decide_eq_false e];simp only [cf,if_neg e];exact ih
theorem cf_none {s:Sm} {p:Pw} (h : ∀x∈s,x.1≠p):cf s p=0:=by
 induction s with
 | nil=>rfl
 | cons x s ih=>
  simp only [cf];rw [if_neg (h x (by simp)),ih fun y hy=>h y (by simp [hy])]
theorem cf_bd {M:Int} {s:Sm} (h:Sok M s) (p:Pw):0≤cf s p∧cf s p≤10006:=by
 induction s with
 | nil=>simp [cf]
 | cons x s ih=>
  simp only [cf];have:=h.val x (by simp)
  split
  ·omega
  ·exact ih h.tail
theorem Sok.ext {M N:Int} : ∀{s t:Sm},Sok M s→Sok N t→(∀p,cf s p=cf t p)→s=t
 | [], [],_,_,_=>rfl
 | [],y::t,_,ht,h=>by
  have h1:=h y.1
  have h2:=ht.val y (by simp)
  simp [cf] at h1
  omega
 | x::s, [],hs,_,h=>by
  have h1:=h x.1
  have h2:=hs.val x (by simp)
  simp [cf] at h1
  omega
 | x::s,y::t,hs,ht,h=>by
  have sx:=(List.pairwise_cons.1 hs.srt).1
  have sy:=(List.pairwise_cons.1 ht.srt).1
  have vx:=hs.val x (by simp)
  have vy:=ht.val y (by simp)
  have hxy:x.1=y.1:=by
   refine before_tot (hs.key x (by simp)).len (ht.key y (by simp)).len ?_ ?_
   ·cases hb:before x.1 y.1 with
    | false=>rfl
    | true=>
     have h1:=h x.1
     rw [cf_none (s:=y::t) (fun z hz=>by
      rcases List.mem_cons.1 hz with rfl | hz
      ·exact (before_ne hb).symm
      ·exact (before_ne (before_tr hb (sy z hz))).symm)] at h1
     simp [cf] at h1
     omega
   ·cases hb:before y.1 x.1 with
    | false=>rfl
    | true=>
     have h1:=h y.1
     rw [cf_none (s:=x::s) (fun z hz=>by
      rcases List.mem_cons.1 hz with rfl | hz
      ·exact (before_ne hb).symm
      ·exact (before_ne (before_tr hb (sx z hz))).symm)] at h1
     simp [cf] at h1
     omega
  have h2:x.2=y.2:=by
   have h1:=h x.1
   simp only [cf,if_true] at h1
   rwa [if_pos hxy.symm] at h1
  have e:x=y:=by cases x;cases y;simp_all
  subst e
  rw [Sok.ext hs.tail ht.tail fun p=>?_]
  by_cases hp:x.1=p
  ·subst hp
   rw [cf_none fun z hz=>(before_ne (sx z hz)).symm,cf_none fun z hz=>(before_ne (sy z hz)).symm]
  ·have h1:=h p
   simp only [cf] at h1
   rwa [if_neg hp,if_neg hp] at h1
def addS:Sm→Pw→Int→Sm
 | [],p,k=>if fld k=0 then [] else [(p,fld k)]
 | x::s,p,k=>if p=x.1 then (if fld (x.2+k)=0 then s else (p,fld (x.2+k))::s)
  else if before p x.1 then (if fld k=0 then x::s else (p,fld k)::x::s) else x::addS s p k
theorem addS_mem {p:Pw} {k:Int} : ∀{s:Sm} {y:Pw × Int},y∈addS s p k→y.1=p∨y∈s
 | [],y,h=>by
  simp only [addS] at h
  split at h
  ·simp at h
  ·simp at h;exact .inl (by rw [h])
 | x::s,y,h=>by
  simp only [addS] at h
  split at h
  ·split at h
   ·exact .inr (by simp [h])
   ·rcases List.mem_cons.1 h with h | h
    ·exact .inl (by rw [h])
    ·exact .inr (by simp [h])
  ·split at h
   ·split at h
    ·exact .inr h
    ·rcases List.mem_cons.1 h with h | h
     ·exact .inl (by rw [h])
     ·exact .inr h
   ·rcases List.mem_cons.1 h with h | h
    ·exact .inr (by simp [h])
    ·rcases addS_mem h with h | h
     ·exact .inl h
     ·exact .inr (by simp [h])
theorem Sok.add {M:Int} {p:Pw} (hp:Pok M p) (k:Int) : ∀{s:Sm},Sok M s→Sok M (addS s p k)
 | [],_=>by
  simp only [addS]
  split
  ·exact Sok.nil
  ·have:=fld_bd k
   exact ⟨by simp,fun x hx=>by simp at hx;rw [hx];exact hp,fun x hx=>by simp at hx;rw [hx];simp;omega⟩
 | x::s,h=>by
  have sx:=(List.pairwise_cons.1 h.srt).1
  simp only [addS]
  split
  ·rename_i e
   split
   ·exact h.tail
   ·have:=fld_bd (x.2+k)
    refine ⟨List.pairwise_cons.2 ⟨fun y hy=>by rw [e];exact sx y hy,h.tail.srt⟩,fun y hy=>?_,fun y hy=>?_⟩
    ·rcases List.mem_cons.1 hy with rfl | hy
     ·exact hp
     ·exact h.tail.key y hy
    ·rcases List.mem_cons.1 hy with rfl | hy
     ·simp;omega
     ·exact h.tail.val y hy
  ·rename_i e
   split
   ·rename_i hb
    split
    ·exact h
    ·have:=fld_bd k
     refine ⟨List.pairwise_cons.2 ⟨fun y hy=>?_,h.srt⟩,fun y hy=>?_,fun y hy=>?_⟩
     ·rcases List.mem_cons.1 hy with rfl | hy
      ·exact hb
      ·exact before_tr hb (sx y hy)
     ·rcases List.mem_cons.1 hy with rfl | hy
      ·exact hp
      ·exact h.key y hy
     ·rcases List.mem_cons.1 hy with rfl | hy
      ·simp;omega
      ·exact h.val y hy
   ·rename_i hb
    have hb':before x.1 p=true:=by
     cases hc:before x.1 p with
     | true=>rfl
     | false=>exact absurd (before_tot hp.len (h.key x (by simp)).len (by simpa using hb) hc) e
    have ih:=Sok.add hp k h.tail
    refine ⟨List.pairwise_cons.2 ⟨fun y hy=>?_,ih.srt⟩,fun y hy=>?_,fun y hy=>?_⟩
    ·rcases addS_mem hy with hy | hy
     ·rw [hy];exact hb'
     ·exact sx y hy
    ·rcases List.mem_cons.1 hy with rfl | hy
     ·exact h.key _ (by simp)
     ·exact ih.key y hy
    ·rcases List.mem_cons.1 hy with rfl | hy
     ·exact h.val _ (by simp)
     ·exact ih.val y hy
theorem cf_add {M:Int} {p:Pw} (k:Int) (q:Pw) : ∀{s:Sm},Sok M s→cf (addS s p k) q=if p=q then fld (cf s p+k) else cf s q
 | [],_=>by
  simp only [addS,cf]
  rw [Int.zero_add]
  by_cases e:p=q
  ·rw [if_pos e]
   split
   ·rename_i h;rw [h];rfl
   ·simp [cf,e]
  ·rw [if_neg e]
   split
   ·rfl
   ·simp [cf,e]
 | x::s,h=>by
  have sx:=(List.pairwise_cons.1 h.srt).1
  have nx : ∀r,r=x.1→cf s r=0:=fun r hr=>cf_none fun z hz=>by rw [hr];exact (before_ne (sx z hz)).symm
  simp only [addS]
  by_cases e:p=x.1
  ·rw [if_pos e]
   have e1:cf (x::s) p=x.2:=by simp [cf,e]
   rw [e1]
   by_cases e2:p=q
   ·rw [if_pos e2]
    split
    ·rename_i hz
     rw [hz,nx q (by rw [← e2,e])]
    ·simp [cf,e2]
   ·rw [if_neg e2]
    have e3:cf (x::s) q=cf s q:=by simp only [cf];rw [if_neg (by rw [← e];exact e2)]
    rw [e3]
    split
    ·rfl
    ·simp [cf,e2]
  ·rw [if_neg e]
   have e1:cf (x::s) p=cf s p:=by simp only [cf];rw [if_neg (Ne.symm e)]
   split
   ·rename_i hb
    have np:cf s p=0:=cf_none fun z hz=>(before_ne (before_tr hb (sx z hz))).symm
    rw [e1,np,Int.zero_add]
    by_cases e2:p=q
    ·rw [if_pos e2]
     split
     ·rename_i hz
      rw [hz,← e2,e1,np]
     ·simp [cf,e2]
    ·rw [if_neg e2]
     split
     ·rfl
     ·simp only [cf];rw [if_neg e2]
   ·simp only [cf]
    rw [cf_add k q h.tail,if_neg (Ne.symm e)]
    by_cases e2:p=q
    ·rw [if_pos e2,if_neg (by rw [← e2];exact Ne.symm e),if_pos e2]
    ·rw [if_neg e2,if_neg e2]
theorem addS_congr {k k':Int} (h : ∀a,fld (a+k)=fld (a+k')) (p:Pw) : ∀s:Sm,addS s p k=addS s p k'
 | []=>by
  have h0:=h 0
  rw [Int.zero_add,Int.zero_add] at h0
  simp only [addS,h0]
 | x::s=>by
  have h0:=h 0
  rw [Int.zero_add,Int.zero_add] at h0
  simp only [addS,h0,h x.2,addS_congr h p s]
def acc (s:Sm) (l:Sm):Sm:=l.foldl (fun a x=>addS a x.1 x.2) s
theorem acc_nil (s:Sm):acc s []=s:=rfl
theorem acc_cons (s:Sm) (x:Pw × Int) (l:Sm):acc s (x::l)=acc (addS s x.1 x.2) l:=rfl
theorem acc_app (s l m:Sm):acc s (l++m)=acc (acc s l) m:=by unfold acc;rw [List.foldl_append]
theorem acc_one (s l:Sm) (x:Pw × Int):acc s (l++[x])=addS (acc s l) x.1 x.2:=by rw [acc_app];rfl
theorem Sok.acc {M:Int} : ∀{l s:Sm},Sok M s→(∀x∈l,Pok M x.1)→Sok M (G.acc s l)
 | [],_,h,_=>h
 | x::l,s,h,hl=>by
  rw [acc_cons]
  exact Sok.acc (h.add (hl x (by simp)) x.2) fun y hy=>hl y (by simp [hy])
def tot_:Sm→Pw→Int
 | [],_=>0
 | x::l,p=>(if x.1=p then x.2 else 0)+tot_ l p
theorem tot_perm {l m:Sm} (h:l.Perm m) (p:Pw):tot_ l p=tot_ m p:=by
 induction h with
 | nil=>rfl
 | cons x _ ih=>simp only [tot_,ih]
 | swap x y l=>simp only [tot_];omega
 | trans _ _ h1 h2=>rw [h1,h2]
theorem cf_acc {M:Int} (p:Pw) : ∀{l s:Sm},Sok M s→(∀x∈l,Pok M x.1)→cf (acc s l) p=fld (cf s p+tot_ l p)
 | [],s,h,_=>by
  have:=cf_bd h p
  simp only [acc_nil,tot_]
  rw [fld_eq]
  omega
 | x::l,s,h,hl=>by
  rw [acc_cons,cf_acc p (h.add (hl x (by simp)) x.2) fun y hy=>hl y (by simp [hy]),cf_add x.2 p h]
  simp only [tot_]
  by_cases e:x.1=p
  ·rw [if_pos e,if_pos e,e]
   simp only [fld_eq]
   omega
  ·rw [if_neg e,if_neg e,Int.zero_add]
theorem acc_perm {M:Int} {s l m:Sm} (h:Sok M s) (hl : ∀x∈l,Pok M x.1) (hp:l.Perm m):acc s l=acc s m:=
 Sok.ext (h.acc hl) (h.acc fun x hx=>hl x (hp.mem_iff.2 hx)) fun p=>by rw [cf_acc p h hl,cf_acc p h fun x hx=>hl x (hp.mem_iff.2 hx),tot_perm hp]
theorem acc_congr {α:Type} {f g:α→Pw × Int} : ∀{l:List α} (s:Sm),(∀x∈l,(f x).1=(g x).1∧∀a,fld (a+(f x).2)=fld (a+(g x).2))→acc s (l.map f)=acc s (l.map g)
 | [],_,_=>rfl
 | x::l,s,h=>by
  obtain ⟨h1,h2⟩:=h x (by simp)
  simp only [List.map_cons,acc_cons]
  rw [h1,addS_congr h2,acc_congr _ fun y hy=>h y (by simp [hy])]
theorem acc_self {M:Int} {s:Sm} (h:Sok M s):acc [] s=s:=
 Sok.ext (Sok.nil.acc h.key) h fun p=>by
  rw [cf_acc p Sok.nil h.key]
  have key : ∀{t:Sm},(t.map (·.1)).Nodup→tot_ t p=cf t p:=by
   intro t
   induction t with
   | nil=>intro _;rfl
   | cons x t ih=>
    intro hn
    simp only [List.map_cons,List.nodup_cons] at hn
    simp only [tot_,cf]
    by_cases e:x.1=p
    ·rw [if_pos e,if_pos e,ih hn.2,cf_none fun z hz e2=>hn.1 (by rw [e,← e2];exact List.mem_map.2 ⟨z,hz,rfl⟩)]
     omega
    ·rw [if_neg e,if_neg e,ih hn.2]
     omega
  rw [key h.nodup]
  have:=cf_bd h p
  simp only [cf]
  rw [fld_eq]
  omega
theorem filt_ne {s:Sm} {p:Pw} (h : ∀x∈s,x.1≠p):(s.filter fun x=>decide (x.1≠p))=s:=by
 rw [List.filter_eq_self];intro x hx
 simpa using h x hx
theorem put_add {M:Int} {p:Pw} (hp:Pok M p) (k:Int) : ∀{s:Sm},Sok M s→fld (cf s p+k)≠0→(putM s p (fld (cf s p+k))).Perm (addS s p k)
 | [],_,hz=>by
  simp only [cf,Int.zero_add] at hz ⊢
  simp only [addS]
  rw [if_neg hz]
  exact List.Perm.refl _
 | x::s,h,hz=>by
  have sx:=(List.pairwise_cons.1 h.srt).1
  simp only [addS]
  by_cases e:p=x.1
  ·have e1:cf (x::s) p=x.2:=by simp [cf,e]
   rw [e1] at hz ⊢
   rw [if_pos e,if_neg hz]
   unfold putM
   rw [List.filter_cons,if_neg (by simp [e]),filt_ne fun z hz=>by rw [e];exact (before_ne (sx z hz)).symm]
  ·have e1:cf (x::s) p=cf s p:=by simp only [cf];rw [if_neg (Ne.symm e)]
   rw [e1] at hz ⊢
   rw [if_neg e]
   split
   ·rename_i hb
    have np : ∀z∈s,z.1≠p:=fun z hz=>(before_ne (before_tr hb (sx z hz))).symm
    rw [cf_none np,Int.zero_add] at hz ⊢
    rw [if_neg hz]
    unfold putM
    rw [filt_ne fun z hz=>by
     rcases List.mem_cons.1 hz with rfl | hz
     ·exact Ne.symm e
     ·exact np z hz]
   ·have ih:=put_add hp k h.tail hz
    unfold putM at ih ⊢
    rw [List.filter_cons,if_pos (by simpa using Ne.symm e)]
    exact (List.Perm.swap _ _ _).trans (ih.cons x)
theorem del_add {M:Int} {p:Pw} (hp:Pok M p) (k:Int) : ∀{s:Sm},Sok M s→fld (cf s p+k)=0→(delM s p).Perm (addS s p k)
 | [],_,hz=>by
  simp only [cf,Int.zero_add] at hz
  simp only [addS]
  rw [if_pos hz]
  exact List.Perm.refl _
 | x::s,h,hz=>by
  have sx:=(List.pairwise_cons.1 h.srt).1
  simp only [addS]
  by_cases e:p=x.1
  ·have e1:cf (x::s) p=x.2:=by simp [cf,e]
   rw [e1] at hz
   rw [if_pos e,if_pos hz]
   unfold delM
   rw [List.filter_cons,if_neg (by simp [e]),filt_ne fun z hz=>by rw [e];exact (before_ne (sx z hz)).symm]
  ·have e1:cf (x::s) p=cf s p:=by simp only [cf];rw [if_neg (Ne.symm e)]
   rw [e1] at hz
   rw [if_neg e]
   split
   ·rename_i hb
    have np : ∀z∈s,z.1≠p:=fun z hz=>(before_ne (before_tr hb (sx z hz))).symm
    rw [cf_none np,Int.zero_add] at hz
    rw [if_pos hz]
    unfold delM
    rw [filt_ne fun z hz=>by
     rcases List.mem_cons.1 hz with rfl | hz
     ·exact Ne.symm e
     ·exact np z hz]
   ·have ih:=del_add hp k h.tail hz
    unfold delM at ih ⊢
    rw [List.filter_cons,if_pos (by simpa using Ne.symm e)]
    exact ih.cons x
def addp (p q:Pw):Pw:=(List.range 8).map fun i=>p.getD i 0+q.getD i 0
@[simp] theorem addp_len (p q:Pw):(addp p q).length=8:=by simp [addp]
theorem getD_ge {p:Pw} {j:Nat} (h:p.length≤j):p.getD j 0=0:=by rw [List.getD_eq_getElem?_getD,List.getElem?_eq_none h];rfl
theorem addp_get {p q:Pw} (hp:p.length=8) (hq:q.length=8) (j:Nat):(addp p q).getD j 0=p.getD j 0+q.getD j 0:=by
 rcases Nat.lt_or_ge j 8 with h | h
 ·simp [addp,List.getD_eq_getElem?_getD,h]
 ·rw [getD_ge (by simp;omega),getD_ge (by omega),getD_ge (by omega)]
  rfl
theorem Pok.add {M N:Int} {p q:Pw} (hp:Pok M p) (hq:Pok N q):Pok (M+N) (addp p q):=⟨by simp,fun j=>by
 rw [addp_get hp.len hq.len]
 have:=hp.bd j
 have:=hq.bd j
 omega⟩
def oin (ds p:Pw) (i:Nat):Nat→Int
 | 0=>0
 | m+1=>oin ds p i m+(ds.getD (i+1+m) 0).tmod 2 * p.getD (i+1+m) 0
def oddTo (ds p q:Pw):Nat→Int
 | 0=>0
 | i+1=>oddTo ds p q i+(if (ds.getD i 0).tmod 2≠0∧0<q.getD i 0 then oin ds p i (ds.length - (i+1)) else 0)
def hitAt (ds p q:Pw) (i:Nat):Bool:=decide ((ds.getD i 0).tmod 2≠0) && (decide (0<p.getD i 0) && decide (0<q.getD i 0))
def hits (ds p q:Pw):Bool:=(List.range ds.length).any (hitAt ds p q)
def sgn (ds p q:Pw):Int:=if hits ds p q then 0 else if (oddTo ds p q ds.length).tmod 2=1 then -1 else 1
theorem hits_yes {ds p q:Pw} {i:Nat} (hi:i<ds.length) (h:hitAt ds p q i=true):hits ds p q=true:=List.any_eq_true.2 ⟨i,List.mem_range.2 hi,h⟩
theorem hits_no {ds p q:Pw} (h : ∀i,i<ds.length→hitAt ds p q i=false):hits ds p q=false:=by
 unfold hits;rw [List.any_eq_false];intro i hi;rw [h i (List.mem_range.1 hi)]
 simp
theorem sgn_cases (ds p q:Pw):sgn ds p q=0∨sgn ds p q=1∨sgn ds p q = -1:=by
 unfold sgn
 split
 ·exact .inl rfl
 ·split
  ·exact .inr (.inr rfl)
  ·exact .inr (.inl rfl)
theorem deg2 {ds:Pw} (hd : ∀j,0≤ds.getD j 0∧ds.getD j 0≤12) (j:Nat):(ds.getD j 0).tmod 2=0∨(ds.getD j 0).tmod 2=1:=by
 have:=hd j;rw [Int.tmod_eq_emod_of_nonneg this.1]
 omega
theorem oin_bd {ds p:Pw} {M:Int} (hd : ∀j,0≤ds.getD j 0∧ds.getD j 0≤12) (hp : ∀j,0≤p.getD j 0∧p.getD j 0≤M) (i:Nat) : ∀m:Nat,0≤oin ds p i m∧oin ds p i m≤m * M
 | 0=>by simp [oin]
 | m+1=>by
  have h1:=oin_bd hd hp i m
  have h2:=hp (i+1+m)
  have e:((m+1:Nat):Int) * M=m * M+M:=by rw [Int.natCast_add,Int.add_mul];simp
  rw [e]
  simp only [oin]
  rcases deg2 hd (i+1+m) with h | h
  ·rw [h,Int.zero_mul];omega
  ·rw [h,Int.one_mul];omega
theorem oddTo_bd {ds p q:Pw} {M:Int} (hn:ds.length≤8) (hd : ∀j,0≤ds.getD j 0∧ds.getD j 0≤12) (hp : ∀j,0≤p.getD j 0∧p.getD j 0≤M) : ∀i:Nat,0≤oddTo ds p q i∧oddTo ds p q i≤i * (8 * M)
 | 0=>by simp [oddTo]
 | i+1=>by
  have h1:=oddTo_bd hn hd hp (q:=q) i
  have h2:=oin_bd hd hp i (ds.length - (i+1))
  have hM:=hp 0
  have h3:((ds.length - (i+1):Nat):Int) * M≤8 * M:=Int.mul_le_mul_of_nonneg_right (by omega) (by omega)
  have e:((i+1:Nat):Int) * (8 * M)=i * (8 * M)+8 * M:=by rw [Int.natCast_add,Int.add_mul];simp
  rw [e]
  simp only [oddTo]
  split <;> omega
def mul1 (ds:Pw) (x:Pw × Int) (t:Sm):Sm:=t.flatMap fun y=>if sgn ds x.1 y.1=0 then [] else [(addp x.1 y.1,(sgn ds x.1 y.1 * x.2 * y.2).tmod 10007)]
def mulL (ds:Pw) (s t:Sm):Sm:=s.flatMap fun x=>mul1 ds x t
def timesS (ds:Pw) (s t:Sm):Sm:=acc [] (mulL ds s t)
theorem mul1_mem {ds:Pw} {x:Pw × Int} {t:Sm} {z:Pw × Int} (h:z∈mul1 ds x t) : ∃y∈t,sgn ds x.1 y.1≠0∧z.1=addp x.1 y.1:=by
 obtain ⟨y,hy,hz⟩:=List.mem_flatMap.1 h
 split at hz
 ·simp at hz
 ·rename_i hs
  simp at hz
  exact ⟨y,hy,hs,by rw [hz]⟩
theorem mulL_mem {ds:Pw} {s t:Sm} {z:Pw × Int} (h:z∈mulL ds s t) : ∃x∈s,∃y∈t,sgn ds x.1 y.1≠0∧z.1=addp x.1 y.1:=by
 obtain ⟨x,hx,hz⟩:=List.mem_flatMap.1 h;obtain ⟨y,hy,h1,h2⟩:=mul1_mem hz;exact ⟨x,hx,y,hy,h1,h2⟩
theorem mulL_pok {ds:Pw} {s t:Sm} {M N:Int} (hs:Sok M s) (ht:Sok N t) : ∀z∈mulL ds s t,Pok (M+N) z.1:=fun z hz=>by
 obtain ⟨x,hx,y,hy,_,e⟩:=mulL_mem hz
 rw [e]
 exact (hs.key x hx).add (ht.key y hy)
theorem Sok.times {ds:Pw} {s t:Sm} {M N:Int} (hs:Sok M s) (ht:Sok N t):Sok (M+N) (timesS ds s t):=Sok.nil.acc (mulL_pok hs ht)
theorem mul1_perm {ds:Pw} {x:Pw × Int} {t t':Sm} (h:t.Perm t'):(mul1 ds x t).Perm (mul1 ds x t'):=h.flatMap_right _
theorem mulL_perm {ds:Pw} {s s' t:Sm} (h:s.Perm s'):(mulL ds s t).Perm (mulL ds s' t):=h.flatMap_right _
theorem mulL_mid {ds:Pw} {l1 l2:Sm} {x:Pw × Int} {t:Sm}:(mulL ds (l1++x::l2) t).Perm (mul1 ds x t++mulL ds (l1++l2) t):=by
 refine (mulL_perm List.perm_middle).trans ?_
 show (mul1 ds x t++mulL ds (l1++l2) t).Perm _
 exact List.Perm.refl _
theorem mul1_mid {ds:Pw} {x y:Pw × Int} {l1 l2:Sm}:(mul1 ds x (l1++y::l2)).Perm ((if sgn ds x.1 y.1=0 then [] else [(addp x.1 y.1,(sgn ds x.1 y.1 * x.2 * y.2).tmod 10007)])++mul1 ds x (l1++l2)):=
 mul1_perm List.perm_middle
def scl (t:Sm) (k:Int):Sm:=t.map fun y=>(y.1,(y.2 * k).tmod 10007)
theorem scl_key {t:Sm} {k:Int} {z:Pw × Int} (h:z∈scl t k) : ∃y∈t,z.1=y.1:=by
 obtain ⟨y,hy,rfl⟩:=List.mem_map.1 h;exact ⟨y,hy,rfl⟩
theorem scl_pok {M:Int} {t:Sm} (h:Sok M t) (k:Int) : ∀z∈scl t k,Pok M z.1:=fun z hz=>by
 obtain ⟨y,hy,e⟩:=scl_key hz
 rw [e]
 exact h.key y hy
theorem u92:Tryz.prog.underlying 92=some (TypeDesc.map 148 2):=by kernel_rfl
theorem zv2:ZeroV Tryz.prog 2 (.int .i64 0):=fun _=>by kernel_rfl
def pwE (p:Pw):Value:=.agg (intsC p).toArray
def pwOk (p:Pw):Prop:=p.length=8∧Small p
theorem pwOk_of {M:Int} {p:Pw} (h:Pok M p) (hM:M≤1000000):pwOk p:=⟨h.len,h.small hM⟩
theorem pwE_inj (x y:Pw) (h:pwE x=pwE y):x=y:=by
 unfold pwE intsC at h;have h1:=congrArg (fun v=>match v with | Value.agg cs=>cs.toList | _=>[]) h
 simp at h1
 exact (List.map_inj_right (fun a b h=>by injection h)).1 h1
theorem keyLits8 {P:Program} {t e:TypeId} {d:Nat} {p:Pw} (ht:P.underlying t=some (.array 8 e)) (he:P.underlying e=some (.int .i64)) (hc:P.cellsOf e=1) (hct:P.cellsOf t=8) (h:pwOk p) : ∃ls,P.keyLits (d+2) t (intsC p)=some ls:=by
 unfold Program.keyLits;rw [ht];simp only [intsC_length,hct,h.1,if_true]
 have key : ∀i,i<8→∃l,P.keyLits (d+1) e (((intsC p).drop (i * P.cellsOf e)).take (P.cellsOf e))=some l:=by
  intro i hi;have hb:=h.2 i;rw [hc,Nat.mul_one,List.drop_eq_getElem_cons (by simp [h.1];omega),List.take_succ_cons,List.take_zero]
  have e1:(intsC p)[i]'(by simp [h.1];omega) = .int .i64 (p.getD i 0):=by
   have:=intsC_get (m:=p) (i:=i) (by rw [h.1];omega);rw [List.getElem?_eq_getElem (by simp [h.1];omega)] at this;exact Option.some.inj this
  rw [e1];refine ⟨[.int .i64 (p.getD i 0)],?_⟩;generalize p.getD i 0=x at hb
  have hw:(Lit.int .i64 x).wf=true:=by
   simp [Lit.wf,IntKind.min,IntKind.max,IntKind.signed,IntKind.bits]
   omega
  unfold Program.keyLits;rw [he]
  simp [hw]
 have hm : ∀(l:List Nat),(∀i∈l,i<8)→∃r,l.mapM (fun i=>P.keyLits (d+1) e (((intsC p).drop (i * P.cellsOf e)).take (P.cellsOf e)))=some r:=by
  intro l
  induction l with
  | nil=>intro _;exact ⟨[],rfl⟩
  | cons i l ih=>
   intro hl;obtain ⟨a,ha⟩:=key i (hl i (by simp));obtain ⟨r,hr⟩:=ih fun j hj=>hl j (by simp [hj]);exact ⟨a::r,by simp [List.mapM_cons,ha,hr]⟩
 obtain ⟨r,hr⟩:=hm (List.range 8) fun i hi=>List.mem_range.1 hi;rw [hr];exact ⟨_,rfl⟩
theorem pwK:KeyT Tryz.prog 148 pwE pwOk:=KeyT.of (Go.Maps.Keyed.of_law (deep_law_laid (m:=5) (by kernel_rfl) (by decide) (of_decide_eq_true (by kernel_rfl)) (by kernel_rfl) (by kernel_rfl))) pwE_inj fun p hp=>by
 obtain ⟨ls,hl⟩:=keyLits8 (P:=Tryz.prog) (t:=148) (e:=3) (d:=Tryz.prog.types.size - 1) u148 u3 (by kernel_rfl) (by kernel_rfl) hp
 have e1:Tryz.prog.types.size - 1+2=Tryz.prog.types.size+1:=by kernel_rfl
 rw [e1] at hl
 have hc8:Tryz.prog.cellsOf 148=8:=by kernel_rfl
 have hf:(pwE p).formed Tryz.prog 148=true:=by
  simp [pwE,Value.formed,u148,hc8,hp.1]
 refine ⟨.string (keyBytes ls),?_⟩
 unfold keyOf
 rw [u148]
 simp only []
 have hkt:Tryz.prog.keyType 148=true:=by kernel_rfl
 rw [hkt,hf]
 simp only [Bool.and_self,if_true]
 have:(pwE p).cells.toList=intsC p:=by simp [pwE,Value.cells]
 rw [this,hl]
 rfl
abbrev SumH (H:HP) (v:Value) (s:Sm):Prop:=MapH pwE (Value.int .i64) pwOk H v s
abbrev osum (b:Nat) (s:Sm):SA:=omap pwE (Value.int .i64) pwOk b s
section
variable {P : Program} {ops : Array Oper} {Q : Exit → Act → World → Prop} {n : Nat} {B : World} {H0 H : HP} {rest : List Oper} {us : List (Nat × Value)} {L L' : List SA} {t : TypeId} {p : String} {af : Array Edge} {d : Nat} {x y z : Operand}
theorem PR.sumO {ty K:TypeId} {s:Sm} {q:Pw} {b:Nat} (hK:KeyT P K pwE pwOk) (hu:P.underlying ty=some (.map K 2)) (hz:ZeroV P 2 (.int .i64 0)) (hx:opv us x=some (.map (some b))) (hat:At L (osum b s) (osum b s) L) (hy:opv us y=some (.agg (intsC q).toArray)) (hk:pwOk q):PR P n B H0 us H L (.lookup ty x y false) t (.int .i64 (cf s q)):=by
 rw [← look_cf];exact PR.lookO hu hK hz hx hat hy hk
theorem J.permO {b:Nat} {s s':Sm} {L1:List SA} (hp:s.Perm s') (hat:At L (osum b s) (osum b s') L1) (k:J P ops Q n B H0 rest us H L1):J P ops Q n B H0 rest us H L:=fun a w hF hH=>k a w hF (hH.reAt hat (by
 obtain ⟨es,clock,h1,h2⟩:=(hH.objs _ hat.mem).1
 exact ⟨es,clock,h1,h2.perm hp⟩) fun _ h=>h)
theorem At.both {A A' A'':SA} (h:At L A A'' L') : ∃L1,At L A A' L1∧At L1 A' A'' L':=by
 induction h with
 | z=>exact ⟨_,.z,.z⟩
 | s _ ih=>
  obtain ⟨L1,h1,h2⟩:=ih;exact ⟨_,.s h1,.s h2⟩
theorem J.putP {ty K e:TypeId} {b:Nat} {s s':Sm} {q:Pw} {v:Int} (hK:KeyT P K pwE pwOk) (hu:P.underlying ty=some (.map K e)) (hx:opv us x=some (.map (some b))) (hy:opv us y=some (.agg (intsC q).toArray)) (hz:opv us z=some (.int .i64 v)) (hk:pwOk q) (hp:(putM s q v).Perm s') (hat:At L (osum b s) (osum b s') L') (kk:J P ops Q n B H0 rest us H L'):J P ops Q n B H0 (⟨none,.mapUpdate ty x y z,t,p,af,none⟩::rest) us H L:=by
 obtain ⟨L1,h1,h2⟩:=hat.both (A':=osum b (putM s q v));exact J.mapUpdate hu hK hx hy hz hk h1 (J.permO hp h2 kk)
theorem J.putAdd {ty K e:TypeId} {b:Nat} {s:Sm} {q:Pw} {M v k:Int} (hK:KeyT P K pwE pwOk) (hu:P.underlying ty=some (.map K e)) (hx:opv us x=some (.map (some b))) (hy:opv us y=some (.agg (intsC q).toArray)) (hz:opv us z=some (.int .i64 v)) (hk:pwOk q) (hs:Sok M s) (hq:Pok M q) (hv:v=fld (cf s q+k)) (h0:v≠0) (hat:At L (osum b s) (osum b (addS s q k)) L') (kk:J P ops Q n B H0 rest us H L'):J P ops Q n B H0 (⟨none,.mapUpdate ty x y z,t,p,af,none⟩::rest) us H L:=by
 subst hv;exact J.putP hK hu hx hy hz hk (put_add hq k hs h0) hat kk
theorem J.putOne {ty K e:TypeId} {b:Nat} {q:Pw} {v:Int} (hK:KeyT P K pwE pwOk) (hu:P.underlying ty=some (.map K e)) (hx:opv us x=some (.map (some b))) (hy:opv us y=some (.agg (intsC q).toArray)) (hz:opv us z=some (.int .i64 v)) (hk:pwOk q)
 (hat:At L (osum b []) (osum b [(q,v)]) L') (kk:J P ops Q n B H0 rest us H L'):J P ops Q n B H0 (⟨none,.insert ty x y z,t,p,af,none⟩::rest) us H L:=J.insert hu hK hx hy hz hk hat kk
theorem J.delAdd {ty tk K e:TypeId} {b:Nat} {s:Sm} {q:Pw} {M k:Int} (hK:KeyT P K pwE pwOk) (hu:P.underlying ty=some (.map K e)) (hx:opv us x=some (.map (some b))) (hy:opv us y=some (.agg (intsC q).toArray)) (hk:pwOk q) (hs:Sok M s) (hq:Pok M q) (h0:fld (cf s q+k)=0) (hat:At L (osum b s) (osum b (addS s q k)) L') (kk:J P ops Q n B H0 rest us H L'):J P ops Q n B H0 (⟨none,.call {callee:=.builtin .delete,args:=#[x,y],argTypes:=#[ty,tk]},t,p,af,none⟩::rest) us H L:=by
 obtain ⟨L1,h1,h2⟩:=hat.both (A':=osum b (delM s q));exact J.delete hu hK hx hy hk h1 (J.permO (del_add hq k hs h0) h2 kk)
end
theorem Sok.one {M:Int} {p:Pw} (h:Pok M p) {k:Int} (hk:1≤k∧k≤10006):Sok M [(p,k)]:=⟨by simp,fun x hx=>by simp at hx;rw [hx];exact h,fun x hx=>by simp at hx;rw [hx];exact hk⟩
theorem fn126:Fn Tryz.prog 126:=⟨_,Tryz.func126,by kernel_rfl,rfl⟩
theorem fn85:Fn Tryz.prog 85:=⟨_,Tryz.func85,by kernel_rfl,rfl⟩
theorem field_c {B:World} {H0 H:HP} {L:List SA} {w:World} {x:Int} (hx : -1000000000000≤x∧x≤1000000000000) (hH:Hp B H0 H L w):Calls Tryz.prog 126 [.int .i64 x].toArray w fun e w'=>e = .returned (.int .i64 (fld x))∧Hp B H0 H L w':=by
 refine Jx Tryz.func126 rfl 7 rfl rfl [(0,.int .i64 x)] rfl hH ?_;clear hH;have hb:=tmod_bd x;refine Je fun _ hK1 _=>(Jb (Jg (Jd rfl) rfl (Jf (Ja (hK1 (Je fun _ hK2 _=>(Jb (Jg (Jc rfl) rfl (Jg (EF rfl rfl (by decide) rfl) rfl (Jg (Jz rfl rfl (by first | exact nw _ (by omega) | rfl)) rfl (Jg (EF rfl rfl (by decide) rfl) rfl (Jg (Jd rfl) rfl (Jf (Ja (hK2 (Jt ?_))))))))))))))));refine Jr rfl (Res.tmp rfl) fun w hH=>?_;exact ⟨rfl,hH⟩
theorem add_c {B:World} {H0 H:HP} {L:List SA} {w:World} {bs:Nat} {Ms:Int} {s:Sm} {Mp:Int} {p:List Int} {k:Int} (ks:Sok Ms s) (hp:Pok Mp p) (hM:Ms≤1000000) (hpM:Mp≤Ms) (hk : -1000000000≤k∧k≤1000000000) (hH:Hp B H0 H (osum bs s::L) w):Calls Tryz.prog 85 [.map (some bs),.agg (intsC p).toArray,.int .i64 k].toArray w fun e w'=>e = .returned (.tuple #[])∧Hp B H0 H (osum bs (addS s p k)::L) w':=by
 refine Jx Tryz.func85 rfl 20 rfl rfl [(0,.map (some bs)),(1,.agg (intsC p).toArray),(2,.int .i64 k)] rfl hH ?_;clear hH;have hp8:=hp.len;have hc:=cf_bd ks p;refine Je fun _ hK1 _=>(Jb (JW rfl rfl rfl fun g4=>(Jf (Ja (hK1 (Je fun _ hK2 _=>(Jb (Jg (Jc rfl) rfl (Jg (Jm rfl At.z (by simpa [*] using ag148)) rfl (Jg (PR.sumO pwK u92 zv2 rfl (.s .z) rfl (pwOk_of hp (by omega))) rfl (Jg (Jc rfl) rfl (Jg (Jz rfl rfl (by first | exact nw _ (by omega) | rfl)) rfl (Ju fn126 rfl rfl fun w hH=>(field_c (by omega) hH).mono ?_)))))))))))));rintro _ w ⟨rfl,hH⟩;refine ⟨_,rfl,fun a hF=>JH hF hH ?_⟩;refine Jg (Jd rfl) rfl (Jf (Ja (hK2 (Je fun _ hK3 _=>(Jb (Jg (Jc rfl) rfl (Jg (Eo rfl rfl) rfl (Jf (Ja (hK3 (Jq rfl (fun h14=>?_) (fun h14=>?_))))))))))))
 ·
  refine Jb (Jg (Jc rfl) rfl (Jg (Jm rfl At.z (by simpa [*] using ag148)) rfl (Jg (Jc rfl) rfl (J.putAdd pwK u92 rfl rfl rfl (pwOk_of hp (by omega)) ks (hp.mono hpM) rfl h14 (.s .z) (Jf (EJ.ret0 rfl fun w hH=>?_))))));replace hH:=hH.sublist (.cons _ (.cons_cons _ (List.Sublist.refl _)));exact ⟨rfl,hH⟩
 ·
  refine Jb (Jg (Jc rfl) rfl (Jg (Jm rfl At.z (by simpa [*] using ag148)) rfl (J.delAdd pwK u92 rfl rfl (pwOk_of hp (by omega)) ks (hp.mono hpM) (Decidable.not_not.1 h14) (.s .z) (Jf (EJ.ret0 rfl fun w hH=>?_)))));replace hH:=hH.sublist (.cons _ (.cons_cons _ (List.Sublist.refl _)));exact ⟨rfl,hH⟩
theorem scl_mid {l1 l2:Sm} {x:Pw × Int} {k:Int}:(scl (l1++x::l2) k).Perm ((x.1,(x.2 * k).tmod 10007)::scl (l1++l2) k):=by
 unfold scl;exact (List.perm_middle).map _
theorem rot {α:Type} (a b:List α) (x:α) {l m:List α} (h:(a++l).Perm m) (h2:l.Perm (x::b)):(a++[x]++b).Perm m:=by
 rw [List.append_assoc];exact (List.Perm.append_left a h2.symm).trans h
theorem perm_nil {α:Type} {a l m:List α} (h:(a++l).Perm m) (h2:l=[]):a.Perm m:=by
 subst h2
 rwa [List.append_nil] at h
theorem addAll_c {B:World} {H0 H:HP} {L:List SA} {w:World} {bs:Nat} {Ms:Int} {s:Sm} {vt:Value} {Mt:Int} {t:Sm} {k:Int} (ks:Sok Ms s) (ht:SumH H vt t) (kt:Sok Mt t) (hM:Ms≤1000000) (htM:Mt≤Ms) (hk:0≤k∧k≤10006) (hH:Hp B H0 H (osum bs s::L) w):Calls Tryz.prog 83 [.map (some bs),vt,.int .i64 k].toArray w fun e w'=>e = .returned (.tuple #[])∧Hp B H0 H (osum bs (acc s (scl t k))::L) w':=by
 refine Jx Tryz.func83 rfl 22 rfl rfl [(0,.map (some bs)),(1,vt),(2,.int .i64 k)] rfl hH ?_;clear hH;obtain ⟨bt,est,clt,rfl,hbt,het⟩:=ht;have ht:SumH H (.map (some bt)) t:=⟨bt,est,clt,rfl,hbt,het⟩;refine Je fun _ hK1 _=>(Jb (Jg (Jc rfl) rfl (J.range u92 rfl hbt het rfl fun r9=>(Jf (Ja (hK1 (Jp (JD (σ:=Option (Pw × Int) × Sm × Sm) (fun ⟨la,ls,dn⟩=>[]) (fun ⟨la,ls,dn⟩=>H) (fun ⟨la,ls,dn⟩=>itr pwE (Value.int .i64) bt est clt r9 la ls::osum bs (acc s dn)::L) (fun ⟨la,ls,dn⟩=>(dn++scl ls k).Perm (scl t k)∧∀x∈ls,x∈t) (fun ⟨la,ls,dn⟩=>ls.length) (none,t, []) ⟨List.Perm.refl _,fun _ h=>h⟩ trivial rfl rfl ?_))))))));rintro ⟨la,ls,dn⟩ hI _ hAg0;have ksn:Sok Ms (acc s dn):=ks.acc fun x hx=>(scl_pok kt k x (hI.1.mem_iff.1 (by simp [hx]))).mono htM;refine Je fun _ hK2 _=>(Jb (J.next rfl hbt het (fun _ _=>At.z) rfl (fun hE10=>?_) (fun nx10 la10 lb10 hL10=>?_)))
 ·
  refine Jg (JI rfl rfl) rfl (Jf (Ja (hK2 (Je fun _ hK3 _=>(EE rfl (JG (Jj (Jj (JK (EJ.ret0 rfl fun w hH=>?_))))))))));replace hH:=hH.sublist (.cons _ (.cons_cons _ (List.Sublist.refl _)));rw [acc_perm ks (fun x hx=>(scl_pok kt k x ((perm_nil hI.1 (by rw [hE10];rfl)).mem_iff.1 hx)).mono htM) (perm_nil hI.1 (by rw [hE10];rfl))] at hH;exact ⟨rfl,hH⟩
 ·
  subst hL10;have hu:=hI.2 nx10 (by simp);have hu8:=(kt.key nx10 hu).len;have hv:=kt.val nx10 hu;have hm:=mul_bd (a:=nx10.2) (b:=k) (A:=10006) (B:=10006) (by omega) hk;have hb:=tmod_bd (nx10.2 * k);refine Jg (JI rfl rfl) rfl (Jf (Ja (hK2 (Je fun _ hK4 _=>(Ew rfl (Jn (Ja (hK4 (Jp (Je fun _ hK5 _=>(Jb (Jg (PR.entry rfl hbt het At.z) rfl (Jg (JI rfl rfl) rfl (Jg (JI rfl rfl) rfl (JP ze148 rfl fun g6=>(JB rfl rfl (by first | exact bytesC_one _ | exact intsC_one _ | exact Term.c_one _ | simp [Value.oneCell']) (by simpa [*] using sz148) (by simp [*]) At.z ?_))))))))))))))));refine Jg (Jd rfl) rfl (Jf (Ja (hK5 (Jb (Jg (Jc rfl) rfl (Jg (Jm rfl At.z (by simpa [*] using ag148)) rfl (Jg (Jc rfl) rfl (Jg (Jc rfl) rfl (Jg (EO rfl rfl (by first | exact nw _ (by omega) | rfl)) rfl (Jg (EF rfl rfl (by decide) rfl) rfl (Ju fn85 rfl rfl fun w hH=>(add_c ksn (kt.key nx10 hu) (by omega) (by omega) (by omega) (hH.front (.s (.s .z)))).mono ?_)))))))))));rintro _ w ⟨rfl,hH⟩;refine ⟨_,rfl,fun a hF=>JH hF hH ?_⟩;refine Jf (JF (Ja (JN (.s .z) (Jw .z (Jw (.s .z) ?_)))));exact hAg0 (some nx10,la10++lb10,dn++[(nx10.1,(nx10.2 * k).tmod 10007)]) ⟨rot _ _ _ hI.1 scl_mid,fun x hx=>hI.2 x (by simp at hx ⊢;rcases hx with h | h <;> simp [h])⟩ (by simp) 14 rfl rfl trivial rfl (by simp only [acc_one])
def prodP (ds p q:Pw):Pw:=if hits ds p q then List.replicate 8 0 else addp p q
def addTo (p q:Pw) (k:Nat):Pw:=(List.range 8).map fun i=>if i<k then p.getD i 0+q.getD i 0 else p.getD i 0
@[simp] theorem addTo_len (p q:Pw) (k:Nat):(addTo p q k).length=8:=by simp [addTo]
theorem addTo_get {p q:Pw} {k i:Nat} (h:i<8):(addTo p q k).getD i 0=if i<k then p.getD i 0+q.getD i 0 else p.getD i 0:=by
 simp [addTo,List.getD_eq_getElem?_getD,h]
theorem addTo_zero {p q:Pw} (hp:p.length=8):addTo p q 0=p:=list_eq_of (by simp [hp]) fun j hj=>by
 rw [addTo_get (by simpa using hj),if_neg (by omega)]
theorem addTo_end (p q:Pw):addTo p q 8=addp p q:=list_eq_of (by simp) fun j hj=>by
 have hj8:j<8:=by simpa using hj
 rw [addTo_get hj8,if_pos hj8]
 simp [addp,List.getD_eq_getElem?_getD,hj8]
theorem addTo_set {p q:Pw} {k:Nat} (hk:k<8):(addTo p q k).set k (p.getD k 0+q.getD k 0)=addTo p q (k+1):=list_eq_of (by simp) fun j hj=>by
 have hj8:j<8:=by simpa using hj
 rw [addTo_get hj8]
 by_cases e:k=j
 ·subst e
  simp [List.getD_eq_getElem?_getD,hk]
 ·rw [List.getD_eq_getElem?_getD,List.getElem?_set_ne e,← List.getD_eq_getElem?_getD,addTo_get hj8]
  by_cases h:j<k
  ·rw [if_pos h,if_pos (by omega)]
  ·rw [if_neg h,if_neg (by omega)]
theorem sgn_hit {ds p q:Pw} {i:Nat} (hi:i<ds.length) (h:hitAt ds p q i=true):sgn ds p q=0∧prodP ds p q=List.replicate 8 0:=by
 have:=hits_yes hi h;unfold sgn prodP;rw [this];exact ⟨rfl,rfl⟩
theorem sgn_free {ds p q:Pw} (h : ∀i,i<ds.length→hitAt ds p q i=false):sgn ds p q=(if (oddTo ds p q ds.length).tmod 2=1 then -1 else 1)∧prodP ds p q=addp p q:=by
 have:=hits_no h;unfold sgn prodP;rw [this];exact ⟨rfl,rfl⟩
theorem odd_skip {ds p q:Pw} {k:Nat} (h : ¬((ds.getD k 0).tmod 2≠0∧0<q.getD k 0)):oddTo ds p q k=oddTo ds p q (k+1):=by
 simp only [oddTo];rw [if_neg h]
 omega
theorem odd_take {ds p q:Pw} {k m:Nat} (h:(ds.getD k 0).tmod 2≠0∧0<q.getD k 0) (hm:m=ds.length - (k+1)):oddTo ds p q k+oin ds p k m=oddTo ds p q (k+1):=by
 subst hm;simp only [oddTo];rw [if_pos h]
theorem hit_even {ds p q:Pw} {k:Nat} (h:(ds.getD k 0).tmod 2=0):hitAt ds p q k=false:=by unfold hitAt;rw [decide_eq_false (p:=(ds.getD k 0).tmod 2≠0) (fun h'=>h' h)];rfl
theorem hit_p {ds p q:Pw} {k:Nat} (h : ¬p.getD k 0>0):hitAt ds p q k=false:=by unfold hitAt;rw [decide_eq_false (by omega : ¬0<p.getD k 0)];simp
theorem hit_q {ds p q:Pw} {k:Nat} (h : ¬q.getD k 0>0):hitAt ds p q k=false:=by unfold hitAt;rw [decide_eq_false (by omega : ¬0<q.getD k 0)];simp
theorem hit_yes {ds p q:Pw} {k:Nat} (h1 : ¬(ds.getD k 0).tmod 2=0) (h2:p.getD k 0>0) (h3:q.getD k 0>0):hitAt ds p q k=true:=by
 unfold hitAt;rw [decide_eq_true h1,decide_eq_true (by omega:0<p.getD k 0),decide_eq_true (by omega:0<q.getD k 0)]
 rfl
theorem timesP_c {B:World} {H0 H:HP} {L:List SA} {w:World} {Mp:Int} {p:List Int} {qds:Option Addr} {cds:Nat} {ds:List Int} {Mq:Int} {q:List Int} (hp:Pok Mp p) (hds:Ints H qds ds) (hq:Pok Mq q) (hn:ds.length≤8) (hd : ∀j,0≤ds.getD j 0∧ds.getD j 0≤12) (hM:Mp≤1000000∧Mq≤1000000) (hH:Hp B H0 H L w):Calls Tryz.prog 84 [.agg (intsC p).toArray,.slice qds ds.length cds,.agg (intsC q).toArray].toArray w fun e w'=>e = .returned (.tuple #[.agg (intsC (prodP ds p q)).toArray,.int .i64 (sgn ds p q)])∧Hp B H0 H L w':=by
 refine Jx Tryz.func84 rfl 75 rfl rfl [(0,.agg (intsC p).toArray),(1,.slice qds ds.length cds),(2,.agg (intsC q).toArray)] rfl hH ?_;clear hH;have hp8:=hp.len;have hq8:=hq.len;refine Je fun _ hK1 _=>(Jb (JW rfl rfl rfl fun g3=>(JW rfl rfl rfl fun g5=>(JP ze148 rfl fun g6=>(Jg (Jd rfl) rfl (Jf (Ja (hK1 (Je fun _ hK2 _=>(Jb (Jg (Jd rfl) rfl (Jf (Ja (hK2 (Je fun _ hK3 _=>(Je fun _ hK4 _=>?_))))))))))))))));refine Jb (Jg (Jc rfl) rfl (Jg (Jo u22 rfl rfl) rfl (Jg (Jc rfl) rfl (Jf (Ja (hK4 (Jp (JD (σ:=Nat) (fun (k:Nat)=>[(15,.int .i64 (k:Int)),(8,.int .i64 (oddTo ds p q k))]) (fun (k:Nat)=>H) (fun (k:Nat)=>obj g6 (.cells (intsC (List.replicate 8 0)).toArray 148 (0,0))::obj g5 (.cells (intsC q).toArray 148 (0,0))::obj g3 (.cells (intsC p).toArray 148 (0,0))::L) (fun (k:Nat)=>k≤ds.length∧∀j,j<k→hitAt ds p q j=false) (fun (k:Nat)=>ds.length - k) 0 ⟨by omega,fun j hj=>by omega⟩ ⟨rfl,⟨rfl,trivial⟩⟩ rfl rfl ?_))))))));rintro k ⟨hkI,hhI⟩ _ hAg0;have hk:=hkI;have ob:=oddTo_bd hn hd hp.bd (q:=q) k;have kM:((k:Nat):Int) * (8 * Mp)≤8 * (8 * 1000000):=Int.mul_le_mul (by omega) (by omega) (by have:=hp.bd 0;omega) (by omega);have hb:=hd k;refine Je fun _ hK5 _=>(Jb (Jg (JJ rfl rfl) rfl (Jf (Ja (hK5 (Je fun _ hK6 _=>(Jq rfl (fun hc16=>?_) (fun hc16=>?_))))))))
 ·
  refine Jn (Ja (hK6 (Je fun _ hK7 _=>(Jp (Je fun _ hK8 _=>(Jb (Jg (Jc rfl) rfl (Jg (JL u22 sz2 rfl rfl rfl (by omega) hds.sm) rfl (Jg (JE rfl (hds _ (by omega)) pl2) rfl (Jg (Jd rfl) rfl (Jg (Jd rfl) rfl (Jf (Ja (hK8 (Je fun _ hK9 _=>(Je fun _ hK10 _=>?_))))))))))))))));refine Jb (Jg (Jc rfl) rfl (Jg (EF rfl rfl (by decide) rfl) rfl (Jg (EL rfl rfl) rfl (Jf (Ja (hK10 (Jq rfl (fun h22=>?_) (fun h22=>?_))))))))
  ·
   refine JG (Jj (JK (Ja (hK7 (Jb (Jg (Jz rfl rfl (by first | exact nw _ (by omega) | rfl)) rfl (Jg (Jc rfl) rfl (Jf (Ja ?_)))))))));exact hAg0 (k+1) ⟨by omega,upto hhI (hit_even h22)⟩ (by omega) 13 rfl rfl ⟨rfl,⟨(vi (odd_skip (fun h=>h.1 h22))),trivial⟩⟩ rfl rfl
  ·
   refine Jn (Ja (hK9 (Je fun _ hK11 _=>(Je fun _ hK12 _=>(Jb (Jg (Jc rfl) rfl (Jg (JT u148 sz3 rfl rfl rfl (by omega)) rfl (Jg (Js rfl (.s (.s .z)) (by first | exact bytesC_get (by simp [*];omega) | exact intsC_get (by simp [*];omega)) pl3) rfl (Jg (EK rfl rfl) rfl (Jg (Jc rfl) rfl (Ek (jd:=27) rfl (fun h27=>?_) (fun h27=>?_))))))))))))
   ·
    try have h27p:=of_decide_eq_true h27
    refine JV (Jc rfl) rfl rfl rfl h27 (JV (JT u148 sz3 rfl rfl rfl (by omega)) rfl rfl rfl h27 (JV (Js rfl (.s .z) (by first | exact bytesC_get (by simp [*];omega) | exact intsC_get (by simp [*];omega)) pl3) rfl rfl rfl h27 (JV (EK rfl rfl) rfl rfl rfl h27 (Jg (JY rfl h27 rfl) rfl (Jf (Ja (hK12 (Jq rfl (fun h32=>?_) (fun h32=>?_)))))))))
    ·
     refine Je fun _ hK13 _=>(Jb (Jg (EB bz148) rfl (JB rfl rfl (by first | exact bytesC_one _ | exact intsC_one _ | exact Term.c_one _ | simp [Value.oneCell']) (by simpa [*] using sz148) (by simp [*]) At.z (Jg (Jd rfl) rfl (Jf (Ja (hK13 (Jt (Jk (JO (Jk (Jk (JO (Jk (Eg rfl (Res.agg rfl At.z (by simpa [*] using ag148)) (Res.tmp rfl) fun w hH=>?_)))))))))))))));replace hH:=hH.tail;replace hH:=hH.tail;replace hH:=hH.tail;obtain ⟨e1,e2⟩:=sgn_hit (by omega) (hit_yes h22 h27p h32);rw [e1,e2];exact ⟨rfl,hH⟩
    ·
     refine Jn (Ja (hK11 (Je fun _ hK14 _=>(Jb (Jg (Jc rfl) rfl (Jg (JT u148 sz3 rfl rfl rfl (by omega)) rfl (Jg (Js rfl (.s .z) (by first | exact bytesC_get (by simp [*];omega) | exact intsC_get (by simp [*];omega)) pl3) rfl (Jg (EK rfl rfl) rfl (Jf (Ja (hK14 (Jq rfl (fun h37=>?_) (fun h37=>?_)))))))))))))
     ·
      refine Je fun _ hK15 _=>(Jb (Jg (Jc rfl) rfl (Jg (Jz rfl rfl (by first | exact nw _ (by omega) | rfl)) rfl (Jg (Jd rfl) rfl (Jf (Ja (hK15 (Jp (JD (σ:=Nat) (fun (m:Nat)=>[(11,.int .i64 ((k+1+m:Nat):Int)),(8,.int .i64 (oddTo ds p q k+oin ds p k m))]) (fun (m:Nat)=>H) (fun (m:Nat)=>obj g6 (.cells (intsC (List.replicate 8 0)).toArray 148 (0,0))::obj g5 (.cells (intsC q).toArray 148 (0,0))::obj g3 (.cells (intsC p).toArray 148 (0,0))::L) (fun (m:Nat)=>k+1+m≤ds.length) (fun (m:Nat)=>ds.length - (k+1+m)) 0 (by omega) ⟨(vi (by omega)),⟨(vi (by simp [oin])),trivial⟩⟩ rfl rfl ?_)))))))));rintro m hI _ hAg1;have hm9:=hI;have ob:=oin_bd hd hp.bd k m;have o2:=deg2 hd (k+1+m);have pb:=hp.bd (k+1+m)
      have tp:0≤(ds.getD (k+1+m) 0).tmod 2 * p.getD (k+1+m) 0∧(ds.getD (k+1+m) 0).tmod 2 * p.getD (k+1+m) 0≤1000000:=by rcases o2 with h | h <;> rw [h] <;> first | (rw [Int.zero_mul];omega) | (rw [Int.one_mul];omega)
      have mM:((m:Nat):Int) * Mp≤8 * 1000000:=Int.mul_le_mul (by omega) (by omega) (by have:=hp.bd 0;omega) (by omega);refine Je fun _ hK16 _=>(Je fun _ hK17 _=>(Jb (Jg (Jc rfl) rfl (Jg (Jc rfl) rfl (Jg (Jo u22 rfl rfl) rfl (Jg (JJ rfl rfl) rfl (Jf (Ja (hK17 (Jq rfl (fun hc43=>?_) (fun hc43=>?_)))))))))))
      ·
       refine Jn (Ja (hK16 (Je fun _ hK18 _=>(Jp (EC foll0 (by kernel_rfl) (JC (Jc rfl) rfl (JC (Jc rfl) rfl (JC (Jc rfl) rfl (JC (JL u22 sz2 rfl rfl rfl (by omega) hds.sm) rfl (JC (JE rfl (hds _ (by omega)) pl2) rfl (JC (EF rfl rfl (by decide) rfl) rfl (JC (Jc rfl) rfl (JC (JT u148 sz3 rfl rfl rfl (by omega)) rfl (JC (Js rfl (.s (.s .z)) (by first | exact bytesC_get (by simp [*];omega) | exact intsC_get (by simp [*];omega)) pl3) rfl (JC (EO rfl rfl (by first | exact nw _ (by omega) | rfl)) rfl ?_)))))))))))))));refine JC (Jz rfl rfl (by first | exact nw _ (by omega) | rfl)) rfl (JC (Jd rfl) rfl (Ed (JF (Ja (hK18 (Jb (Jg (Jc rfl) rfl (Jg (Jz rfl rfl (by first | exact nw _ (by omega) | rfl)) rfl (Jg (Jd rfl) rfl (Jf (Ja ?_)))))))))));exact hAg1 (m+1) (by omega) (by omega) 21 rfl rfl ⟨(vi (by omega)),⟨(vi (by simp only [oin];omega)),trivial⟩⟩ rfl rfl
      ·
       refine JG (Jj (Jj (JK (JF (Ja (hK7 (Jb (Jg (Jz rfl rfl (by first | exact nw _ (by omega) | rfl)) rfl (Jg (Jc rfl) rfl (Jf (Ja ?_)))))))))));exact hAg0 (k+1) ⟨by omega,upto hhI (hit_q (by omega))⟩ (by omega) 36 rfl rfl ⟨rfl,⟨(vi (odd_take ⟨h22,by omega⟩ (by omega))),trivial⟩⟩ rfl rfl
     ·
      refine Jn (JF (Ja (hK7 (Jb (Jg (Jz rfl rfl (by first | exact nw _ (by omega) | rfl)) rfl (Jg (Jc rfl) rfl (Jf (Ja ?_))))))));exact hAg0 (k+1) ⟨by omega,upto hhI (hit_q (by omega))⟩ (by omega) 27 rfl rfl ⟨rfl,⟨(vi (odd_skip (fun h=>by omega))),trivial⟩⟩ rfl rfl
   ·
    try have h27p:=of_decide_eq_false h27
    refine JQ rfl rfl rfl h27 (JQ rfl rfl rfl h27 (JQ rfl rfl rfl h27 (JQ rfl rfl rfl h27 (Jg (JX rfl h27 rfl) rfl (Jf (Ja (hK12 (EE rfl (Jn (Ja (hK11 (Je fun _ hK19 _=>(Jb (Jg (Jc rfl) rfl (Jg (JT u148 sz3 rfl rfl rfl (by omega)) rfl (Jg (Js rfl (.s .z) (by first | exact bytesC_get (by simp [*];omega) | exact intsC_get (by simp [*];omega)) pl3) rfl ?_))))))))))))))));refine Jg (EK rfl rfl) rfl (Jf (Ja (hK19 (Jq rfl (fun h37=>?_) (fun h37=>?_)))))
    ·
     refine Je fun _ hK20 _=>(Jb (Jg (Jc rfl) rfl (Jg (Jz rfl rfl (by first | exact nw _ (by omega) | rfl)) rfl (Jg (Jd rfl) rfl (Jf (Ja (hK20 (Jp (JD (σ:=Nat) (fun (m:Nat)=>[(11,.int .i64 ((k+1+m:Nat):Int)),(8,.int .i64 (oddTo ds p q k+oin ds p k m))]) (fun (m:Nat)=>H) (fun (m:Nat)=>obj g6 (.cells (intsC (List.replicate 8 0)).toArray 148 (0,0))::obj g5 (.cells (intsC q).toArray 148 (0,0))::obj g3 (.cells (intsC p).toArray 148 (0,0))::L) (fun (m:Nat)=>k+1+m≤ds.length) (fun (m:Nat)=>ds.length - (k+1+m)) 0 (by omega) ⟨(vi (by omega)),⟨(vi (by simp [oin])),trivial⟩⟩ rfl rfl ?_)))))))));rintro m hI _ hAg2;have hm9:=hI;have ob:=oin_bd hd hp.bd k m;have o2:=deg2 hd (k+1+m);have pb:=hp.bd (k+1+m)
     have tp:0≤(ds.getD (k+1+m) 0).tmod 2 * p.getD (k+1+m) 0∧(ds.getD (k+1+m) 0).tmod 2 * p.getD (k+1+m) 0≤1000000:=by rcases o2 with h | h <;> rw [h] <;> first | (rw [Int.zero_mul];omega) | (rw [Int.one_mul];omega)
     have mM:((m:Nat):Int) * Mp≤8 * 1000000:=Int.mul_le_mul (by omega) (by omega) (by have:=hp.bd 0;omega) (by omega);refine Je fun _ hK21 _=>(Je fun _ hK22 _=>(Jb (Jg (Jc rfl) rfl (Jg (Jc rfl) rfl (Jg (Jo u22 rfl rfl) rfl (Jg (JJ rfl rfl) rfl (Jf (Ja (hK22 (Jq rfl (fun hc43=>?_) (fun hc43=>?_)))))))))))
     ·
      refine Jn (Ja (hK21 (Je fun _ hK23 _=>(Jp (EC foll0 (by kernel_rfl) (JC (Jc rfl) rfl (JC (Jc rfl) rfl (JC (Jc rfl) rfl (JC (JL u22 sz2 rfl rfl rfl (by omega) hds.sm) rfl (JC (JE rfl (hds _ (by omega)) pl2) rfl (JC (EF rfl rfl (by decide) rfl) rfl (JC (Jc rfl) rfl (JC (JT u148 sz3 rfl rfl rfl (by omega)) rfl (JC (Js rfl (.s (.s .z)) (by first | exact bytesC_get (by simp [*];omega) | exact intsC_get (by simp [*];omega)) pl3) rfl (JC (EO rfl rfl (by first | exact nw _ (by omega) | rfl)) rfl ?_)))))))))))))));refine JC (Jz rfl rfl (by first | exact nw _ (by omega) | rfl)) rfl (JC (Jd rfl) rfl (Ed (JF (Ja (hK23 (Jb (Jg (Jc rfl) rfl (Jg (Jz rfl rfl (by first | exact nw _ (by omega) | rfl)) rfl (Jg (Jd rfl) rfl (Jf (Ja ?_)))))))))));exact hAg2 (m+1) (by omega) (by omega) 21 rfl rfl ⟨(vi (by omega)),⟨(vi (by simp only [oin];omega)),trivial⟩⟩ rfl rfl
     ·
      refine JG (Jj (Jj (JK (JF (Ja (hK7 (Jb (Jg (Jz rfl rfl (by first | exact nw _ (by omega) | rfl)) rfl (Jg (Jc rfl) rfl (Jf (Ja ?_)))))))))));exact hAg0 (k+1) ⟨by omega,upto hhI (hit_p h27p)⟩ (by omega) 36 rfl rfl ⟨rfl,⟨(vi (odd_take ⟨h22,by omega⟩ (by omega))),trivial⟩⟩ rfl rfl
    ·
     refine Jn (JF (Ja (hK7 (Jb (Jg (Jz rfl rfl (by first | exact nw _ (by omega) | rfl)) rfl (Jg (Jc rfl) rfl (Jf (Ja ?_))))))));exact hAg0 (k+1) ⟨by omega,upto hhI (hit_p h27p)⟩ (by omega) 27 rfl rfl ⟨rfl,⟨(vi (odd_skip (fun h=>by omega))),trivial⟩⟩ rfl rfl
 ·
  refine JG (Jj (Jj (JK (Ja (hK3 (Je fun _ hK24 _=>(Je fun _ hK25 _=>(Jb (Jg (Jc rfl) rfl (Jf (Ja (hK25 (Jp (JD (σ:=Nat) (fun (i:Nat)=>[(58,.int .i64 (i:Int))]) (fun (i:Nat)=>H) (fun (i:Nat)=>obj g6 (.cells (intsC (List.replicate 8 0)).toArray 148 (0,0))::obj g5 (.cells (intsC q).toArray 148 (0,0))::obj g3 (.cells (intsC (addTo p q i)).toArray 148 (0,0))::L) (fun (i:Nat)=>i≤8) (fun (i:Nat)=>8 - i) 0 (by omega) ⟨rfl,trivial⟩ rfl (by rw [addTo_zero hp8]) ?_))))))))))))));rintro i hI _ hAg3;have hi:=hI;have pb:=hp.bd i;have qb:=hq.bd i
  have ag:i<8→(addTo p q i).getD i 0=p.getD i 0:=fun h=>by rw [addTo_get h,if_neg (by omega)]
  refine Je fun _ hK26 _=>(Jb (Jg (JJ rfl rfl) rfl (Jf (Ja (hK26 (Je fun _ hK27 _=>(Jq rfl (fun hc59=>?_) (fun hc59=>?_))))))))
  ·
   refine Jn (Ja (hK27 (Je fun _ hK28 _=>(Jp (Je fun _ hK29 _=>(Jb (Jg (Jc rfl) rfl (Jg (Jd rfl) rfl (Jf (Ja (hK29 (Er [[], [0], [1], [], [3], [4]] (by kernel_rfl) (JA (fun gh=>Jc rfl) (JA (fun gh=>JT u148 sz3 rfl rfl rfl (by omega)) (JA (fun gh=>Js rfl (.s (.s .z)) (by first | exact bytesC_get (by simp [*];omega) | exact intsC_get (by simp [*];omega)) pl3) (JA (fun gh=>Jc rfl) ?_))))))))))))))));refine JA (fun gh=>JT u148 sz3 rfl rfl rfl (by omega)) (JA (fun gh=>Js rfl (.s .z) (by first | exact bytesC_get (by simp [*];omega) | exact intsC_get (by simp [*];omega)) pl3) (Ec 6 3 foll0 (by kernel_rfl) rfl rfl fun gh=>(En (us':=(61,_)::(62,_)::(63,_)::(64,_)::(65,_)::(66,_)::_) (L':=_) rfl rfl (Jg (Jz rfl rfl (by first | exact nw _ (by omega) | rfl)) rfl (Jg (JT u148 sz3 rfl rfl rfl (by omega)) rfl (J.storeI rfl rfl sz3 (by simp [*];omega) (.s (.s .z)) (Jf (Eb (Ed (JF (Ja (hK28 (Jb (Jg (Jz rfl rfl (by first | exact nw _ (by omega) | rfl)) rfl (Jg (Jc rfl) rfl ?_)))))))))))))));refine Jf (Ja ?_);exact hAg3 (i+1) (by omega) (by omega) 14 rfl rfl ⟨rfl,trivial⟩ rfl (by simp only [ag (by omega),addTo_set (show i<8 by omega)])
  ·
   refine JG (Jj (Jj (JK (Ja (hK24 (Je fun _ hK30 _=>(Je fun _ hK31 _=>(Jb (Jg (Jc rfl) rfl (Jg (EF rfl rfl (by decide) rfl) rfl (Jg (EL rfl rfl) rfl (Jf (Ja (hK31 (Jq rfl (fun h72=>?_) (fun h72=>?_))))))))))))))))
   ·
    refine Je fun _ hK32 _=>(Jb (Jg (Jm rfl (.s (.s .z)) (by simpa [*] using ag148)) rfl (JB rfl rfl (by first | exact bytesC_one _ | exact intsC_one _ | exact Term.c_one _ | simp [Value.oneCell']) (by simpa [*] using sz148) (by simp [*]) At.z (Jg (Jd rfl) rfl (Jf (Ja (hK32 (Jt (Jk (Eg rfl (Res.agg rfl At.z (by simpa [*] using ag148)) (Res.tmp rfl) fun w hH=>?_))))))))));replace hH:=hH.tail;replace hH:=hH.tail;replace hH:=hH.tail
    have hk9:k=ds.length:=by omega
    have hi9:i=8:=by omega
    subst hi9;obtain ⟨e1,e2⟩:=sgn_free (p:=p) (q:=q) (fun j hj=>hhI j (by omega));rw [hk9] at h72;rw [e1,e2,addTo_end,if_pos h72];exact ⟨rfl,hH⟩
   ·
    refine Jn (Ja (hK30 (Je fun _ hK33 _=>(Jb (Jg (Jm rfl (.s (.s .z)) (by simpa [*] using ag148)) rfl (JB rfl rfl (by first | exact bytesC_one _ | exact intsC_one _ | exact Term.c_one _ | simp [Value.oneCell']) (by simpa [*] using sz148) (by simp [*]) At.z (Jg (Jd rfl) rfl (Jf (Ja (hK33 (Jt (Eg rfl (Res.agg rfl At.z (by simpa [*] using ag148)) (Res.tmp rfl) fun w hH=>?_))))))))))));replace hH:=hH.tail;replace hH:=hH.tail;replace hH:=hH.tail
    have hk9:k=ds.length:=by omega
    have hi9:i=8:=by omega
    subst hi9;obtain ⟨e1,e2⟩:=sgn_free (p:=p) (q:=q) (fun j hj=>hhI j (by omega));rw [hk9] at h72;rw [e1,e2,addTo_end,if_neg h72];exact ⟨rfl,hH⟩
theorem fn84:Fn Tryz.prog 84:=⟨_,Tryz.func84,by kernel_rfl,rfl⟩
theorem prodP_pok {M N:Int} {ds p q:Pw} (hp:Pok M p) (hq:Pok N q):Pok (M+N) (prodP ds p q):=by
 unfold prodP
 split
 ·refine ⟨by simp,fun j=>?_⟩;have h1:=hp.bd 0;have h2:=hq.bd 0
  have:(List.replicate 8 (0:Int)).getD j 0=0:=by
   rw [List.getD_eq_getElem?_getD,List.getElem?_replicate]
   split <;> rfl
  rw [this]
  omega
 ·exact hp.add hq
theorem prodP_of {ds p q:Pw} (h:sgn ds p q≠0):prodP ds p q=addp p q:=by
 unfold prodP;unfold sgn at h
 split
 ·rename_i hh
  rw [if_pos hh] at h;exact absurd rfl h
 ·rfl
theorem mul_sb {a b A B:Int} (h1 : -A≤a∧a≤A) (h2:0≤b∧b≤B) : -(A * B)≤a * b∧a * b≤A * B:=by
 have hA:0≤A:=by omega
 have e1:A * b≤A * B:=Int.mul_le_mul_of_nonneg_left h2.2 hA;have e2:a * b≤A * b:=Int.mul_le_mul_of_nonneg_right h1.2 h2.1;have e3 : -A * b≤a * b:=Int.mul_le_mul_of_nonneg_right h1.1 h2.1;rw [Int.neg_mul] at e3
 omega
theorem mul1_some {ds:Pw} {x y:Pw × Int} {l1 l2 R:Sm} (h:sgn ds x.1 y.1≠0):(mul1 ds x (l1++y::l2)++R).Perm ((addp x.1 y.1,(sgn ds x.1 y.1 * x.2 * y.2).tmod 10007)::(mul1 ds x (l1++l2)++R)):=by
 have:=mul1_mid (ds:=ds) (x:=x) (y:=y) (l1:=l1) (l2:=l2);rw [if_neg h] at this;exact List.Perm.append_right R this
theorem mul1_zero {ds:Pw} {x y:Pw × Int} {l1 l2 R:Sm} (h:sgn ds x.1 y.1=0):(mul1 ds x (l1++y::l2)++R).Perm (mul1 ds x (l1++l2)++R):=by
 have:=mul1_mid (ds:=ds) (x:=x) (y:=y) (l1:=l1) (l2:=l2);rw [if_pos h] at this;exact List.Perm.append_right R this
theorem perm_to {α:Type} {a l l' m:List α} (h:(a++l).Perm m) (h2:l.Perm l'):(a++l').Perm m:=(List.Perm.append_left a h2.symm).trans h
theorem times_c {B:World} {H0 H:HP} {L:List SA} {w:World} {vs:Value} {Ms:Int} {s:Sm} {qds:Option Addr} {cds:Nat} {ds:List Int} {vt:Value} {Mt:Int} {t:Sm} (hs:SumH H vs s) (ks:Sok Ms s) (hds:Ints H qds ds) (ht:SumH H vt t) (kt:Sok Mt t) (hn:ds.length≤8) (hd : ∀j,0≤ds.getD j 0∧ds.getD j 0≤12) (hM:Ms+Mt≤1000000) (hH:Hp B H0 H L w):Calls Tryz.prog 45 [vs,.slice qds ds.length cds,vt].toArray w fun e w'=>∃b,e = .returned (.map (some b))∧Hp B H0 H (osum b (timesS ds s t)::L) w':=by
 refine Jx Tryz.func45 rfl 48 rfl rfl [(0,vs),(1,.slice qds ds.length cds),(2,vt)] rfl hH ?_;clear hH;obtain ⟨bs,ess,cls,rfl,hbs,hes⟩:=hs;have hs:SumH H (.map (some bs)) s:=⟨bs,ess,cls,rfl,hbs,hes⟩;obtain ⟨bt,est,clt,rfl,hbt,het⟩:=ht;have ht:SumH H (.map (some bt)) t:=⟨bt,est,clt,rfl,hbt,het⟩;refine Je fun _ hK1 _=>(Jb (Jg (Jd rfl) rfl (Jf (Ja (hK1 (Je fun _ hK2 _=>(Jb (ER pwE (Value.int .i64) pwOk rfl fun bm14=>(Jg (Jd rfl) rfl (Jf (Ja (hK2 (Je fun _ hK3 _=>(Je fun _ hK4 _=>(Jb (Jg (Jc rfl) rfl ?_))))))))))))))));refine J.range u92 rfl hbs hes rfl fun r16=>(Jf (Ja (hK4 (Jp (JD (σ:=Option (Pw × Int) × Sm × Sm) (fun ⟨la,ls,dn⟩=>[]) (fun ⟨la,ls,dn⟩=>H) (fun ⟨la,ls,dn⟩=>itr pwE (Value.int .i64) bs ess cls r16 la ls::osum bm14 (acc [] dn)::L) (fun ⟨la,ls,dn⟩=>(dn++mulL ds ls t).Perm (mulL ds s t)∧∀x∈ls,x∈s) (fun ⟨la,ls,dn⟩=>ls.length) (none,s, []) ⟨List.Perm.refl _,fun _ h=>h⟩ trivial rfl rfl ?_)))));rintro ⟨la,ls,dn⟩ hI _ hAg0;have k0:Sok (Ms+Mt) (acc [] dn):=Sok.nil.acc fun x hx=>mulL_pok ks kt x (hI.1.mem_iff.1 (by simp [hx]));refine Je fun _ hK5 _=>(Jb (J.next rfl hbs hes (fun _ _=>At.z) rfl (fun hE17=>?_) (fun nx17 la17 lb17 hL17=>?_)))
 ·
  refine Jg (JI rfl rfl) rfl (Jf (Ja (hK5 (Je fun _ hK6 _=>(EE rfl (JG (Jj (Jj (JK (Ja (hK3 (Je fun _ hK7 _=>(Jb (Jg (Jc rfl) rfl (Jg (Jd rfl) rfl (Jf ?_))))))))))))))));refine Ja (hK7 (Jt (Jr rfl (Res.tmp rfl) fun w hH=>?_)));replace hH:=hH.sublist (.cons _ (.cons_cons _ (List.Sublist.refl _)));have hp9:=perm_nil hI.1 (by rw [hE17];rfl);have e9:acc [] dn=timesS ds s t:=acc_perm Sok.nil (fun x hx=>mulL_pok ks kt x (hp9.mem_iff.1 hx)) hp9;rw [e9] at hH;exact ⟨_,rfl,hH⟩
 ·
  subst hL17;have hu:=hI.2 nx17 (by simp);have hup:=ks.key nx17 hu;have hu8:=hup.len;have hv:=ks.val nx17 hu;have hu0:=hup.bd 0;refine Jg (JI rfl rfl) rfl (Jf (Ja (hK5 (Je fun _ hK8 _=>(Ew rfl (Jn (Ja (hK8 (Jp (Je fun _ hK9 _=>(Jb (Jg (PR.entry rfl hbs hes At.z) rfl (Jg (JI rfl rfl) rfl (Jg (JI rfl rfl) rfl (JP ze148 rfl fun g8=>(JB rfl rfl (by first | exact bytesC_one _ | exact intsC_one _ | exact Term.c_one _ | simp [Value.oneCell']) (by simpa [*] using sz148) (by simp [*]) At.z ?_))))))))))))))));refine Jg (Jd rfl) rfl (Jf (Ja (hK9 (Je fun _ hK10 _=>(Jb (Jg (Jc rfl) rfl (J.range u92 rfl hbt het rfl fun r23=>(Jf (Ja (hK10 (Jp (JD (σ:=Option (Pw × Int) × Sm × Sm) (fun ⟨la2,ls2,dn2⟩=>[]) (fun ⟨la2,ls2,dn2⟩=>H) (fun ⟨la2,ls2,dn2⟩=>itr pwE (Value.int .i64) bt est clt r23 la2 ls2::obj g8 (.cells (intsC nx17.1).toArray 148 (0,0))::itr pwE (Value.int .i64) bs ess cls r16 (some nx17) (la17++lb17)::osum bm14 (acc [] dn2)::L) (fun ⟨la2,ls2,dn2⟩=>(dn2++(mul1 ds nx17 ls2++mulL ds (la17++lb17) t)).Perm (mulL ds s t)∧∀x∈ls2,x∈t) (fun ⟨la2,ls2,dn2⟩=>ls2.length) (none,t,dn) ⟨perm_to hI.1 mulL_mid,fun _ h=>h⟩ trivial rfl rfl ?_))))))))))));rintro ⟨la2,ls2,dn2⟩ hI2 _ hAg1;have k1:Sok (Ms+Mt) (acc [] dn2):=Sok.nil.acc fun x hx=>mulL_pok ks kt x (hI2.1.mem_iff.1 (by simp [hx]));refine Je fun _ hK11 _=>(Jb (J.next rfl hbt het (fun _ _=>At.z) rfl (fun hE24=>?_) (fun nx24 la24 lb24 hL24=>?_)))
  ·
   refine Jg (JI rfl rfl) rfl (Jf (Ja (hK11 (Je fun _ hK12 _=>(EE rfl (JG (Jj (Jj (JK (JF (Ja (JN .z (JN .z ?_)))))))))))));exact hAg0 (some nx17,la17++lb17,dn2) ⟨by have h9:=hI2.1;rw [hE24] at h9;exact h9,fun x hx=>hI.2 x (by simp at hx ⊢;rcases hx with h | h <;> simp [h])⟩ (by simp) 11 rfl rfl trivial rfl rfl
  ·
   subst hL24;have hu2:=hI2.2 nx24 (by simp);have hup2:=kt.key nx24 hu2;have hu82:=hup2.len;have hv2:=kt.val nx24 hu2;have hu02:=hup2.bd 0
   have sb : -1≤sgn ds nx17.1 nx24.1∧sgn ds nx17.1 nx24.1≤1:=by rcases sgn_cases ds nx17.1 nx24.1 with h | h | h <;> omega
   have sb1:=mul_sb (b:=nx17.2) (B:=10006) sb (by omega);have sb2:=mul_sb (b:=nx24.2) (B:=10006) sb1 (by omega);have sb3:=tmod_bd (sgn ds nx17.1 nx24.1 * nx17.2 * nx24.2);have pp8:=(prodP_pok (ds:=ds) hup hup2).len;refine Jg (JI rfl rfl) rfl (Jf (Ja (hK11 (Je fun _ hK13 _=>(Ew rfl (Jn (Ja (hK13 (Jp (Je fun _ hK14 _=>(Jb (Jg (PR.entry rfl hbt het At.z) rfl (Jg (JI rfl rfl) rfl (Jg (JI rfl rfl) rfl (JP ze148 rfl fun g10=>(JB rfl rfl (by first | exact bytesC_one _ | exact intsC_one _ | exact Term.c_one _ | simp [Value.oneCell']) (by simpa [*] using sz148) (by simp [*]) At.z ?_))))))))))))))));refine Jg (Jd rfl) rfl (Jf (Ja (hK14 (Je fun _ hK15 _=>(Jb (Jg (Jm rfl (.s (.s .z)) (by simpa [*] using ag148)) rfl (Jg (Jc rfl) rfl (Jg (Jm rfl At.z (by simpa [*] using ag148)) rfl (Ju fn84 rfl rfl fun w hH=>(timesP_c hup hds hup2 hn hd (by omega) hH).mono ?_)))))))));rintro _ w ⟨rfl,hH⟩;refine ⟨_,rfl,fun a hF=>JH hF hH ?_⟩;refine Jg (Jc rfl) rfl (Jg (JI rfl rfl) rfl (Jg (JI rfl rfl) rfl (JP ze148 rfl fun g12=>(JB rfl rfl (by first | exact bytesC_one _ | exact intsC_one _ | exact Term.c_one _ | simp [Value.oneCell']) (by simpa [*] using sz148) (by simp [*]) At.z (Jg (Jd rfl) rfl (Jf (Ja (hK15 (Je fun _ hK16 _=>(Jb (Jg (Jc rfl) rfl (Jg (Eo rfl rfl) rfl (Jf (Ja (hK16 (Jq rfl (fun h37=>?_) (fun h37=>?_)))))))))))))))))
   ·
    have e37:=prodP_of h37;refine Jb (Jg (Jc rfl) rfl (Jg (Jm rfl At.z (by simpa [*] using ag148)) rfl (Jg (Jc rfl) rfl (Jg (Jc rfl) rfl (Jg (EO rfl rfl (by first | exact nw _ (by omega) | rfl)) rfl (Jg (Jc rfl) rfl (Jg (EO rfl rfl (by first | exact nw _ (by omega) | rfl)) rfl (Jg (EF rfl rfl (by decide) rfl) rfl (Ju fn85 rfl rfl fun w hH=>(add_c k1 (prodP_pok hup hup2) (by omega) (by omega) (by omega) (hH.front (.s (.s (.s (.s (.s .z))))))).mono ?_)))))))));rintro _ w ⟨rfl,hH⟩;refine ⟨_,rfl,fun a hF=>JH hF hH ?_⟩;refine Jf (JF (Ja (JN (.s .z) (JN (.s .z) (Jw .z (Jw (.s (.s (.s .z))) (Jw (.s (.s (.s .z))) (Jw (.s (.s (.s .z))) ?_))))))));exact hAg1 (some nx24,la24++lb24,dn2++[(addp nx17.1 nx24.1,(sgn ds nx17.1 nx24.1 * nx17.2 * nx24.2).tmod 10007)]) ⟨rot _ _ _ hI2.1 (mul1_some h37),fun x hx=>hI2.2 x (by simp at hx ⊢;rcases hx with h | h <;> simp [h])⟩ (by simp) 27 rfl rfl trivial rfl (by simp only [acc_one,e37])
   ·
    have e37:sgn ds nx17.1 nx24.1=0:=Decidable.not_not.1 h37;refine Jn (JF (Ja (JN .z (JN .z ?_))));exact hAg1 (some nx24,la24++lb24,dn2) ⟨perm_to hI2.1 (mul1_zero e37),fun x hx=>hI2.2 x (by simp at hx ⊢;rcases hx with h | h <;> simp [h])⟩ (by simp) 18 rfl rfl trivial rfl rfl
theorem Mono.pok {m:List Int} (h:Mono m):Pok 255 m:=⟨h.len,h.bd⟩
def toS (ts:List Term):Sm:=ts.map fun t=>(t.mono,t.fac)
theorem toS_take {ts:List Term} {k:Nat} (hk:k<ts.length):toS (ts.take (k+1))=toS (ts.take k)++[((tm ts k).mono,(tm ts k).fac)]:=by
 rw [take_tm hk]
 simp [toS]
theorem toS_mem {ts:List Term} {x:Pw × Int} (h:x∈toS ts) : ∃t∈ts,x=(t.mono,t.fac):=by
 obtain ⟨t,ht,rfl⟩:=List.mem_map.1 h;exact ⟨t,ht,rfl⟩
theorem toS_put {ts:List Term} {k:Nat} {M:Int} (h:Sok M (toS ts)) (hk:k<ts.length):(putM (toS (ts.take k)) (tm ts k).mono (tm ts k).fac).Perm (toS (ts.take (k+1))):=by
 rw [toS_take hk];have hn:=h.nodup
 have e0:toS ts=toS (ts.take k)++toS (ts.drop k):=by
  rw [toS,toS,toS,← List.map_append,List.take_append_drop]
 have hd:ts.drop k=tm ts k::ts.drop (k+1):=by
  rw [List.drop_eq_getElem_cons hk]
  simp [tm,List.getD_eq_getElem?_getD,List.getElem?_eq_getElem hk]
 have hne : ∀x∈toS (ts.take k),x.1≠(tm ts k).mono:=fun x hx e=>by
  rw [e0,hd,List.map_append,List.nodup_append] at hn;refine hn.2.2 x.1 (List.mem_map.2 ⟨x,hx,rfl⟩) (tm ts k).mono ?_ e
  simp [toS]
 unfold putM;rw [filt_ne hne];exact (List.perm_append_singleton _ _).symm
theorem sumOf_c {B:World} {H0 H:HP} {L:List SA} {w:World} {qts:Option Addr} {cts:Nat} {ts:List Term} {Mf:Int} (hts:Terms H qts ts) (hk:Sok Mf (toS ts)) (hl:ts.length≤9223372036854775807) (hH:Hp B H0 H L w):Calls Tryz.prog 57 [.agg [.slice qts ts.length cts].toArray].toArray w fun e w'=>∃b,e = .returned (.map (some b))∧Hp B H0 H (osum b (toS ts)::L) w':=by
 refine Jx Tryz.func57 rfl 22 rfl rfl [(0,.agg [.slice qts ts.length cts].toArray)] rfl hH ?_;clear hH;refine Je fun _ hK1 _=>(Jb (JW rfl rfl rfl fun g1=>(Jg (Jd rfl) rfl (Jf (Ja (hK1 (Je fun _ hK2 _=>(Jb (ER pwE (Value.int .i64) pwOk rfl fun bm6=>(Jg (Jd rfl) rfl (Jf (Ja (hK2 (Je fun _ hK3 _=>(Je fun _ hK4 _=>(Jb ?_))))))))))))))));refine Jg (Jl u40 rfl sz38 rfl) rfl (Jg (Js rfl (.s .z) rfl pl38) rfl (Jg (Jo u38 rfl rfl) rfl (Jg (Jc rfl) rfl (Jf (Ja (hK4 (Jp (JD (σ:=Nat) (fun (k:Nat)=>[(10,.int .i64 (k:Int))]) (fun (k:Nat)=>H) (fun (k:Nat)=>osum bm6 (toS (ts.take k))::obj g1 (.cells [.slice qts ts.length cts].toArray 40 (0,0))::L) (fun (k:Nat)=>k≤ts.length) (fun (k:Nat)=>ts.length - k) 0 (by omega) ⟨rfl,trivial⟩ rfl rfl ?_))))))));rintro k hI _ hAg0;refine Je fun _ hK5 _=>(Jb (Jg (JJ rfl rfl) rfl (Jf (Ja (hK5 (Je fun _ hK6 _=>(Jq rfl (fun hc11=>?_) (fun hc11=>?_))))))))
 ·
  refine Jn (Ja (hK6 (Je fun _ hK7 _=>(Jp (Je fun _ hK8 _=>(Jb (Jg (Ey u38 sz107 rfl rfl rfl (by omega) hts.sm) rfl (Jg (JM rfl (hts.cell _ (by omega)) (hts.sm (i:=k) (by omega)) (by rw [Term.c_length (hts.wf _ (by omega))];exact ag107)) rfl (JP (cs:=(default:Term).c) ze107 rfl fun g5=>(J.stTerm rfl rfl sz107 zero_wf (hts.wf k (by omega)) At.z (Jf (Ja (hK8 (Er [[], [], [1], [2], [], [4]] (by kernel_rfl) (JA (fun gh=>Jc rfl) (JA (fun gh=>Jl u107 rfl sz105 rfl) ?_))))))))))))))));refine JA (fun gh=>EU rfl At.z (hts.wf k (by omega)) ag105) (HJ.call fn107 (fun gh=>rfl) (fun w X hH=>powerOf_c (hts.wf k (by omega)).mono hH) (JA (fun gh=>Jl u107 rfl sz2 rfl) (JA (fun gh=>PR.ldFac rfl At.z (hts.wf k (by omega)) pl2) (Ec 6 1 foll0 (by kernel_rfl) rfl rfl fun gh=>(En (us':=(14,_)::(15,_)::(16,_)::(17,_)::(18,_)::(19,_)::_) (L':=_) rfl rfl (J.putP pwK u92 rfl rfl rfl (pwOk_of (Mono.pok (hts.wf k (by omega)).mono) (by decide)) (toS_put hk (by omega)) (.s .z) (Jf (Eb (Ed (JF (Ja (hK7 (Jb (Jg (Jz rfl rfl (by first | exact nw _ (by omega) | rfl)) rfl (Jg (Jc rfl) rfl ?_)))))))))))))));refine Jf (Ja (JN .z ?_));exact hAg0 (k+1) (by omega) (by omega) 13 rfl rfl ⟨rfl,trivial⟩ rfl rfl
 ·
  refine JG (Jj (Jj (JK (Ja (hK3 (Je fun _ hK9 _=>(Jb (Jg (Jc rfl) rfl (Jg (Jd rfl) rfl (Jf (Ja (hK9 (Jt (Jr rfl (Res.tmp rfl) fun w hH=>?_))))))))))))));replace hH:=hH.sublist (.cons_cons _ (.cons _ (List.Sublist.refl _)))
  obtain rfl:k=ts.length:=by omega
  rw [List.take_length] at hH;exact ⟨_,rfl,hH⟩
theorem u186:Tryz.prog.underlying 186=some (TypeDesc.array 8 92):=by kernel_rfl
theorem sz186:Size Tryz.prog 186 8:=by unfold Size;kernel_rfl
theorem sz92:Size Tryz.prog 92 1:=by unfold Size;kernel_rfl
theorem ze186:Zero Tryz.prog 186 [.map none,.map none,.map none,.map none,.map none,.map none,.map none,.map none]:=by unfold Zero;kernel_rfl
theorem bz186 : ∀w,(Instr.build 186 #[]).run Tryz.prog w = .ok (.agg [.map none,.map none,.map none,.map none,.map none,.map none,.map none,.map none].toArray) w:=fun _=>by kernel_rfl
theorem ag186:Agg Tryz.prog 186 8:=⟨_,u186,rfl,by kernel_rfl⟩
theorem fn57:Fn Tryz.prog 57:=⟨_,Tryz.func57,by kernel_rfl,rfl⟩
def CellAt (H:HP) (b k:Nat) (v:Value):Prop:=cellO H (some ⟨b,0,none⟩) k=some v
theorem CellAt.le {H H':HP} {b k:Nat} {v:Value} (h:CellAt H b k v) (hle:Le H H'):CellAt H' b k v:=cellO_le hle h
def imgs (bs:Nat→Nat) (ss:Nat→Sm) (n:Nat):SA where
 fp:=fun b=>∃i,i<n∧b=bs i
 holds:=fun h=>∀i,i<n→∃es clock,h (bs i)=some (.map es clock)∧EntOk pwE (Value.int .i64) pwOk es clock (ss i)
 loc:=fun h h' hb hh i hi=>by
  obtain ⟨es,clock,h1,h2⟩:=hh i hi
  exact ⟨es,clock,by rw [← hb (bs i) ⟨i,hi,rfl⟩];exact h1,h2⟩
def updN (bs:Nat→Nat) (n b:Nat):Nat→Nat:=fun i=>if i=n then b else bs i
theorem imgs_H {bs:Nat→Nat} {ss:Nat→Sm} {n:Nat} {h:HP} (hh:(imgs bs ss n).holds h) {i:Nat} (hi:i<n):SumH h (.map (some (bs i))) (ss i):=by
 obtain ⟨es,clock,h1,h2⟩:=hh i hi;exact ⟨bs i,es,clock,rfl,h1,h2⟩
section
variable {P : Program} {ops : Array Oper} {Q : Exit → Act → World → Prop} {n : Nat} {B : World} {H0 H : HP} {rest : List Oper} {us : List (Nat × Value)} {L L' : List SA} {R : Act → World → Prop}
theorem EJ.im0 (bs:Nat→Nat) (ss:Nat→Sm) (k:EJ R n B H0 us H (imgs bs ss 0::L)):EJ R n B H0 us H L:=fun a w hF hH=>k a w hF (hH.emp.reAt .z (fun i hi=>by omega) fun b hb=>by obtain ⟨i,hi,_⟩:=hb;omega)
theorem J.im0 (bs:Nat→Nat) (ss:Nat→Sm) (k:J P ops Q n B H0 rest us H (imgs bs ss 0::L)):J P ops Q n B H0 rest us H L:=fun a w hF hH=>k a w hF (hH.emp.reAt .z (fun i hi=>by omega) fun b hb=>by obtain ⟨i,hi,_⟩:=hb;omega)
theorem EJ.imSnoc {b m:Nat} {s:Sm} {bs:Nat→Nat} {ss:Nat→Sm} (hs:ss m=s) (k:EJ R n B H0 us H (imgs (updN bs m b) ss (m+1)::L)):EJ R n B H0 us H (osum b s::imgs bs ss m::L):=fun a w hF hH=>by
 have h1:=hH.star
 obtain ⟨⟨hA,hC,_⟩,_⟩:=h1.objs (star (osum b s) (imgs bs ss m)) (by simp)
 refine k a w hF (h1.reAt .z (fun i hi=>?_) fun x hx=>?_)
 ·by_cases e:i=m
  ·obtain ⟨es,clock,h2,h3⟩:=hA
   exact ⟨es,clock,by simpa [updN,e] using h2,by rw [e,hs];exact h3⟩
  ·obtain ⟨es,clock,h2,h3⟩:=hC i (by omega)
   exact ⟨es,clock,by simpa [updN,e] using h2,h3⟩
 ·obtain ⟨i,hi,rfl⟩:=hx
  by_cases e:i=m
  ·left
   show updN bs m b i=b
   simp [updN,e]
  ·right
   exact ⟨i,by omega,by simp [updN,e]⟩
theorem Ev {A:SA} (hr:Rm L A L') (k : ∀H',Le H H' →A.holds H' →J P ops Q n B H0 rest us H' L'):J P ops Q n B H0 rest us H L:=fun a w hF hH=>hH.lend hr fun H' h1 h2 _ h4=>k H' h1 h2 a w hF h4
theorem EA {A:SA} (hr:Rm L A L') (k : ∀H',Le H H' →A.holds H' →EJ R n B H0 us H' L'):EJ R n B H0 us H L:=fun a w hF hH=>hH.lend hr fun H' h1 h2 _ h4=>k H' h1 h2 a w hF h4
end
def imgK (bs:Nat→Nat) (k:Nat):List Value:=(List.range 8).map fun i=>if i<k then .map (some (bs i)) else .map none
@[simp] theorem imgK_len (bs:Nat→Nat) (k:Nat):(imgK bs k).length=8:=by simp [imgK]
theorem imgK_one (bs:Nat→Nat) (k:Nat) : ∀u∈imgK bs k,u.oneCell'=true:=by
 intro u hu;obtain ⟨i,_,rfl⟩:=List.mem_map.1 hu
 split <;> rfl
theorem imgK_get {bs:Nat→Nat} {k i:Nat} (h:i<8) (hk:i<k):(imgK bs k)[i]? = some (.map (some (bs i))):=by
 simp [imgK,h,hk]
theorem imgK_zero (bs:Nat→Nat):imgK bs 0=[.map none,.map none,.map none,.map none,.map none,.map none,.map none,.map none]:=by
 simp [imgK]
 rfl
theorem imgK_set {bs:Nat→Nat} {k b:Nat} (hk:k<8):(imgK bs k).set k (.map (some b))=imgK (updN bs k b) (k+1):=by
 apply List.ext_getElem?;intro i
 rcases Nat.lt_or_ge i 8 with hi | hi
 ·by_cases e:k=i
  ·subst e;rw [List.getElem?_set_self (by simp [hk])]
   simp [imgK,hi,updN]
  ·rw [List.getElem?_set_ne e]
   have:(i<k+1)↔i<k:=by omega
   simp [imgK,hi,updN,this,Ne.symm e]
 ·rw [List.getElem?_eq_none (by simp;omega),List.getElem?_eq_none (by simp;omega)]
def Fok (M:Int) (fs:List (List Term)):Prop:=∀i,i<fs.length→Sok M (toS (fm fs i))∧(fm fs i).length≤9223372036854775807
theorem images_c {B:World} {H0 H:HP} {L:List SA} {w:World} {ba:Nat} {qad qaf:Option Addr} {cad caf:Nat} {ad:List Int} {af:List (List Term)} {Mi:Int} (pad:CellAt H ba 0 (.slice qad ad.length cad)) (paf:CellAt H ba 1 (.slice qaf af.length caf)) (had:Ints H qad ad) (haf:Forms H qaf af) (hf:Fok Mi af) (hn:af.length≤8) (hH:Hp B H0 H L w):Calls Tryz.prog 140 [.pointer (some ⟨ba,0,none⟩)].toArray w fun e w'=>∃bs:Nat→Nat,e = .returned (.agg (imgK bs af.length).toArray)∧Hp B H0 H (imgs bs (fun i=>toS (fm af i)) af.length::L) w':=by
 refine Jx Tryz.func140 rfl 23 rfl rfl [(0,.pointer (some ⟨ba,0,none⟩))] rfl hH ?_;clear hH;refine Je fun _ hK1 _=>(Jb (JP ze186 rfl fun g2=>(Jf (Ja (hK1 (Je fun _ hK2 _=>(Jb (Jg (EB bz186) rfl (JP ze186 rfl fun g3=>(JB rfl rfl (by simp [Value.oneCell']) sz186 (by simp) .z (J.im0 (fun _=>0) (fun i=>toS (fm af i)) (Jf (Ja (hK2 (Je fun _ hK3 _=>(Je fun _ hK4 _=>?_))))))))))))))));refine Jb (Jg (Jc rfl) rfl (Jg (Jv rfl) rfl (Jg (Jl u36 rfl sz34 rfl) rfl (Jg (JE (q:=some ⟨ba,0,none⟩) (k:=1) rfl paf pl34) rfl (Jg (Jo u34 rfl rfl) rfl (Jg (Jc rfl) rfl (Jf (Ja (hK4 (Jp (JD (σ:=Nat × (Nat→Nat)) (fun ⟨k,bs⟩=>[(12,.int .i64 (k:Int))]) (fun ⟨k,bs⟩=>H) (fun ⟨k,bs⟩=>imgs bs (fun i=>toS (fm af i)) k::obj g3 (.cells (imgK bs k).toArray 186 (0,0))::obj g2 (.cells (imgK (fun _=>0) 0).toArray 186 (0,0))::L) (fun ⟨k,bs⟩=>k≤af.length) (fun ⟨k,bs⟩=>af.length - k) (0,fun _=>0) (by omega) ⟨rfl,trivial⟩ rfl (by simp only [imgK_zero]) ?_)))))))))));rintro ⟨k,bs⟩ hI _ hAg0;have hk:=hI;refine Je fun _ hK5 _=>(Jb (Jg (JJ rfl rfl) rfl (Jf (Ja (hK5 (Je fun _ hK6 _=>(Jq rfl (fun hc13=>?_) (fun hc13=>?_))))))))
 ·
  refine Jn (Ja (hK6 (Je fun _ hK7 _=>(Jp (Je fun _ hK8 _=>(Jb (Jg (Jc rfl) rfl (Jg (JL u34 sz40 rfl rfl rfl (by omega) haf.sm) rfl ?_))))))));obtain ⟨qe16,ce16,he16,le16,Fe16⟩:=haf k (by omega);refine Jg (JM (cs:=[_]) rfl (one_cell he16) (haf.sm (i:=k) (by omega)) ag40) rfl (JP ze40 rfl fun g5=>(Jg (Jd rfl) rfl (JB rfl rfl (by first | exact bytesC_one _ | exact intsC_one _ | exact Term.c_one _ | simp [Value.oneCell']) (by simpa [*] using sz40) (by simp [*]) At.z (Jf (Ja (hK8 (Jb (Jg (Jc rfl) rfl (Jg (Jm rfl At.z (by simpa [*] using ag40)) rfl (Ju fn57 rfl rfl fun w hH=>(sumOf_c Fe16 (hf k (by omega)).1 (hf k (by omega)).2 hH).mono ?_))))))))));rintro _ w ⟨bo19,rfl,hH⟩;refine ⟨_,rfl,fun a hF=>JH hF hH ?_⟩;refine Jg (JT u186 sz92 rfl rfl rfl (by omega)) rfl (Et rfl rfl rfl rfl sz92 (by simp;omega) (.s (.s (.s .z))) (Jf (JF (Ja (hK7 (Jb (Jg (Jz rfl rfl (by first | exact nw _ (by omega) | rfl)) rfl (Jg (Jc rfl) rfl (Jf (Ja (Jw (.s (.s (.s (.s .z)))) (Jw (.s (.s (.s (.s .z)))) (Jw (.s (.s (.s .z))) (Jw (.s (.s (.s (.s .z)))) (Jw (.s (.s (.s (.s .z)))) ?_)))))))))))))));refine EJ.imSnoc rfl (JN (.s .z) ?_);exact hAg0 (k+1,updN bs k bo19) (show k+1≤af.length by omega) (show af.length - (k+1)<af.length - k by omega) 13 rfl rfl ⟨rfl,trivial⟩ rfl (by simp only [imgK_set (show k<8 by omega)])
 ·
  refine JG (Jj (Jj (JK (Ja (hK3 (Je fun _ hK9 _=>(Jb (Jg (Jm rfl (.s .z) (by simpa using ag186)) rfl (JB rfl rfl (imgK_one _ _) (by simpa using sz186) (by simp) (.s (.s .z)) (Jf (Ja (hK9 (Jt (Jr rfl (Res.agg rfl (.s (.s .z)) (by simpa using ag186)) fun w hH=>?_))))))))))))));replace hH:=hH.sublist (.cons_cons _ (.cons _ (.cons _ (List.Sublist.refl _))))
  obtain rfl:k=af.length:=by omega
  exact ⟨bs,rfl,hH⟩
end Go.Proofs.YtelcehjliighfaaGreat.G
