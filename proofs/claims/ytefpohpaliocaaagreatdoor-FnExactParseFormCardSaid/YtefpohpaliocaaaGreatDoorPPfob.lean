/- A part of the walk of one law: what the functions compute. No condition. -/
import Derived.Test.YtefpohpaliocaaaGreatDoorRows
import Derived.Test.YtefpohpaliocaaaGreatDoorProg
import Derived.WalkKit
import Derived.KernelRfl
import Derived.JoinedOf
import Derived.Maps.AppendAt
import Derived.Still
import Derived.ProofKit
import Derived.OpenShut
import Derived.StillTail
import Derived.Deep.Upon
import Derived.WalkSpells
import Derived.Maps.Range
import Derived.Laws.Concat
import Derived.Laws.IdiomStrings
import Derived.Laws.Strings
import Derived.Lib.ItoaNum
import Derived.Lib.Join
import Derived.Lib.LaidTab
import Derived.Laws.Strings2
import Derived.Laws.Strings3
import Derived.Laws.Slices
import Derived.DeepKeys4
import Derived.Lib.SplitLaws
import Derived.Lib.AtoiTie
import Derived.Lib.ParseIntBTie
import Derived.Shelf.Strings.Builder1
import Derived.Shelf.Strings.Builder2
import Derived.Shelf.Strings.OnBuilder
import Derived.Shelf.Strings.BuilderF
import Derived.Shelf.Strings.BuilderK
import Derived.Shelf.Utf8.RuneCount
import Derived.Shelf.Strconv.Atoi
import Derived.Shelf.Strconv.Itoa0
import Derived.Shelf.Strconv.Itoa1
import Derived.Shelf.LaysM
import Derived.Shelf.Strconv.Itoa2
import Derived.Shelf.Strconv.Itoa3
import Derived.Shelf.Strconv.Itoa4
import Derived.Shelf.Strconv.AtoiErrFast
import Derived.Shelf.Strconv.ParseIntEmpty
import Derived.Shelf.Strconv.AtoiFail
import Derived.Shelf.Strconv.Clone
import Derived.Shelf.Strconv.SyntaxError
import Derived.Shelf.LaysC
import Derived.Shelf.Strconv.ToError
import Derived.Shelf.Strconv.Lower
import Derived.Shelf.Strconv.ParseUint10
import Derived.Shelf.Strconv.ParseUint10Empty
import Derived.Shelf.Strconv.ParseUint10Any
import Derived.Shelf.Strconv.ParseInt10
import Derived.Shelf.Strconv.AtoiLong
import Derived.Shelf.Strconv.AtoiInnerAll
import Derived.Shelf.Strconv.RangeError
import Derived.Shelf.Strconv.ToErrorRange
import Derived.Shelf.Strconv.AtoiAll
import Derived.Shelf.Strconv.ErrVarAll
import Derived.Shelf.Strconv.ParseUintEmpty
import Derived.Shelf.Strconv.ParseUint10b64
import Derived.Shelf.Strconv.ParseUint10b32
import Derived.Shelf.Strconv.ParseUint10b16
import Derived.Shelf.Strconv.ParseUint10b8
import Derived.Shelf.Strconv.ParseUint10At
import Derived.Shelf.Strconv.ParseInt10At64
import Derived.Shelf.Strconv.ParseInt10At32
import Derived.Shelf.Strconv.ParseInt10At16
import Derived.Shelf.Strconv.ParseInt10At8
import Derived.Shelf.Strconv.ParseInt10All
import Derived.Shelf.Strconv.ParseIntPublic10
import Derived.Shelf.Strconv.ErrVarParseInt
import Derived.Shelf.Strings.Search1
import Derived.Shelf.Strings.Search2
import Derived.Shelf.Strings.Search3
import Derived.Shelf.Strings.Cut
import Derived.Shelf.Strings.Count
import Derived.Shelf.Strings.Shaped
import Derived.Shelf.Strings.Split
import Derived.Shelf.Strings.SplitShaped
import Derived.Shelf.Unicode.Decode
import Derived.Shelf.Strings.RuneCount
import Derived.Shelf.Strings.Explode
import Derived.Shelf.Unicode.DecodeSlow
import Derived.Shelf.Unicode.DecodeAny
import Derived.Lib.AtoiErrMem
import Derived.Lib.SmallJoins
import Derived.WalkSmall
import Derived.WideLaws
import Derived.Lib.AppendIntMem
import Derived.Test.YtefpohpaliocaaaGreatDoorCards
import Derived.Test.YtefpohpaliocaaaGreatDoorTie
import Derived.LaidMore
import Derived.Stop.Joined
import Derived.Stop.LaidErr
import Derived.SevenTiedAt
import Derived.MakeChecks
import Derived.Shelf.Vars
import Derived.Lay
import Derived.ChangeOld
import Derived.Below
import Derived.SizedLaws
import Derived.Test.YtefpohpaliocaaaGreatDoorPPfoa
set_option linter.unusedVariables false
set_option linter.unusedSimpArgs false
set_option maxRecDepth 10000
set_option maxHeartbeats 8000000
open Nat (reduceEqDiff reduceSub reduceAdd)
namespace Go.Proofs.YtefpohpaliocaaaGreatDoor.G
open Go Go.RowKit
theorem u2:Tryz.prog.underlying 2=some (TypeDesc.int .i64):=by kernel_rfl
theorem u22:Tryz.prog.underlying 22=some (TypeDesc.slice 2):=by kernel_rfl
theorem u5:Tryz.prog.underlying 5=some (TypeDesc.int .u8):=by kernel_rfl
theorem u65:Tryz.prog.underlying 65=some (TypeDesc.array 8 5):=by kernel_rfl
theorem sz2:Size Tryz.prog 2 1:=by unfold Size;kernel_rfl
theorem sz5:Size Tryz.prog 5 1:=by unfold Size;kernel_rfl
theorem pl2:Plain Tryz.prog 2:=⟨_,u2,rfl⟩
theorem pl5:Plain Tryz.prog 5:=⟨_,u5,rfl⟩
theorem ag65:Agg Tryz.prog 65 8:=⟨_,u65,rfl,by kernel_rfl⟩
theorem fn39:Fn Tryz.prog 39:=⟨_,Tryz.func39,by kernel_rfl,rfl⟩
def most (ds:List Int) (i:Nat):Int:=if i<ds.length then (if (ds.getD i 0).tmod 2=1 then 1 else 20) else 0
theorem most_ge {ds:List Int} {k:Nat} (h:(ds.length:Int)≤k):most ds k=0:=by unfold most;rw [if_neg (by omega)]
theorem most_odd {ds:List Int} {k:Nat} (h : ¬((ds.length:Int)≤k)) (ho:(ds.getD k 0).tmod 2≠0) (hp:0≤ds.getD k 0):most ds k=1:=by
 unfold most;rw [Int.tmod_eq_emod_of_nonneg hp] at ho ⊢;rw [if_pos (by omega),if_pos (by omega)]
theorem most_even {ds:List Int} {k:Nat} (h : ¬((ds.length:Int)≤k)) (ho : ¬(ds.getD k 0).tmod 2≠0):most ds k=20:=by
 unfold most;rw [if_pos (by omega),if_neg (by omega)]
def isMono (ds m:List Int):Bool:=(List.range 8).all fun i=>decide (m.getD i 0≤most ds i)
theorem isMono_false {ds m:List Int} {k:Nat} (hk:k<8) (h:most ds k<m.getD k 0):isMono ds m=false:=by
 unfold isMono;rw [List.all_eq_false];exact ⟨k,by simp [hk],by rw [decide_eq_true_eq];omega⟩
theorem isMono_true {ds m:List Int} (h : ∀j,j<8→m.getD j 0≤most ds j):isMono ds m=true:=by
 unfold isMono;rw [List.all_eq_true];intro j hj
 simpa using h j (by simpa using hj)
theorem within_c {B:World} {H0 H:HP} {L:List SA} {w:World} {x:Int} {lo:Int} {hi:Int} (hH:Hp B H0 H L w):Calls Tryz.prog 45 [.int .i64 x,.int .i64 lo,.int .i64 hi].toArray w fun e w'=>e = .returned (.bool (decide (lo≤x) && decide (x≤hi)))∧Hp B H0 H L w':=by
 refine Jt Tryz.func45 rfl 15 rfl rfl [(0,.int .i64 x),(1,.int .i64 lo),(2,.int .i64 hi)] rfl hH ?_;clear hH;refine Je fun _ hK1 _=>(Jb (Jg (Jd rfl) rfl (Jf (Ja (hK1 (Je fun _ hK2 _=>(Jb (Jg (Jc rfl) rfl (Jg (Jc rfl) rfl (Jg (PR.geq rfl rfl) rfl (Jg (Jc rfl) rfl (JQ (jd:=10) rfl (fun hg10=>?_) (fun hg10=>?_)))))))))))))
 ·
  try have hg10p:=of_decide_eq_true hg10
  refine JL (Jc rfl) rfl rfl rfl hg10 (JL (Jc rfl) rfl rfl rfl hg10 (JL (PR.leq rfl rfl) rfl rfl rfl hg10 (Jg (JH rfl hg10 rfl) rfl (Jg (Jd rfl) rfl (Jf (Ja (hK2 (Jl (Jk rfl (Res.tmp rfl) fun w hH=>?_)))))))));exact ⟨by simp [*],hH⟩
 ·
  try have hg10p:=of_decide_eq_false hg10
  refine Jz rfl rfl rfl hg10 (Jz rfl rfl rfl hg10 (Jz rfl rfl rfl hg10 (Jg (JD rfl hg10 rfl) rfl (Jg (Jd rfl) rfl (Jf (Ja (hK2 (Jl (Jk rfl (Res.tmp rfl) fun w hH=>?_)))))))));exact ⟨by simp [*],hH⟩
theorem isMonomial_c {B:World} {H0 H:HP} {L:List SA} {w:World} {qds:Option Addr} {cds:Nat} {ds:List Int} {m:List Int} (hds:Ints H qds ds) (hm:Mono m) (hn:ds.length≤1048576) (hH:Hp B H0 H L w):Calls Tryz.prog 69 [.slice qds ds.length cds,.agg (bytesC m).toArray].toArray w fun e w'=>e = .returned (.bool (isMono ds m))∧Hp B H0 H L w':=by
 refine Jt Tryz.func69 rfl 27 rfl rfl [(0,.slice qds ds.length cds),(1,.agg (bytesC m).toArray)] rfl hH ?_;have hml:=hm.len;clear hH;refine Je fun _ hK1 _=>(Jb (Eo rfl rfl rfl fun g3=>(Jg (Jd rfl) rfl (Jf (Ja (hK1 (Je fun _ hK2 _=>(Je fun _ hK3 _=>(Jb (Jg (Js rfl At.z (by simpa [*] using ag65)) rfl (Jg (Jc rfl) rfl (Jf (Ja (hK3 (Jo (JC (σ:=Nat) (fun (k:Nat)=>[(9,.int .i64 (k:Int))]) (fun (k:Nat)=>H) (fun (k:Nat)=>obj g3 (.cells (bytesC m).toArray 65 (0,0))::L) (fun (k:Nat)=>k≤8∧∀j,j<k→m.getD j 0≤most ds j) (fun (k:Nat)=>8 - k) 0 ⟨by omega,fun j hj=>by omega⟩ ⟨rfl,trivial⟩ rfl rfl ?_))))))))))))))));rintro k hI _ hAg0;obtain ⟨hk,hm9⟩:=hI;have hml:=hm.len;refine Je fun _ hK4 _=>(Jb (Jg (JJ rfl rfl) rfl (Jf (Ja (hK4 (Je fun _ hK5 _=>(Jj rfl (fun hc10=>?_) (fun hc10=>?_))))))))
 ·
  refine Ji (Ja (hK5 (Je fun _ hK6 _=>(Jo (Je fun _ hK7 _=>(Jb (Jg (Jc rfl) rfl (Jg (PR.index u65 sz5 pl5 rfl rfl rfl (by omega) (by first | exact bytesC_get (by simp [*];omega) | exact intsC_get (by simp [*];omega))) rfl (Jg (Jd rfl) rfl (Jg (Jd rfl) rfl (Jf (Ja (hK7 (Je fun _ hK8 _=>(Jb (Jg (Jd rfl) rfl ?_))))))))))))))));refine Jf (Ja (hK8 (CJ.cutU (σ:=Unit) (fun (_:Unit)=>[(7,.int .u8 (most ds k))]) (fun (_:Unit)=>H) (fun (_:Unit)=>obj g3 (.cells (bytesC m).toArray 65 (0,0))::L) (fun (_:Unit)=>True) ?_ ?_)))
  ·
   intro _ hMt1;refine Je fun _ hK9 _=>(Jb (Jg (Jc rfl) rfl (Jg (Jc rfl) rfl (Jg (Jp u22 rfl rfl) rfl (Jg (JJ rfl rfl) rfl (Jf (Ja (hK9 (Jj rfl (fun hc16=>?_) (fun hc16=>?_))))))))))
   ·
    refine Je fun _ hK10 _=>(Jb (Jg (Jd rfl) rfl (Jf (Ja (hK10 (Je fun _ hK11 _=>(Jb (Jg (Jc rfl) rfl (Jg (Jc rfl) rfl (Jg (PR.idx1 u22 sz2 rfl rfl rfl (by omega) hds.sm) rfl (Jg (Ef rfl (hds _ (by omega)) pl2) rfl (Jg (PR.rem rfl rfl (by decide) rfl) rfl (Jg (PR.eql rfl rfl) rfl (Jf (Ja (hK11 ?_))))))))))))))));refine Jj rfl (fun hc22=>?_) (fun hc22=>?_)
    ·
     refine Jb (Jg (Jd rfl) rfl (Jf (Ja ?_)));exact hMt1 () trivial 12 rfl rfl ⟨(vi8 (by unfold most;rw [if_pos (by omega),if_pos hc22])),trivial⟩ rfl rfl
    ·
     refine Ji (Ja ?_);exact hMt1 () trivial 11 rfl rfl ⟨(vi8 (by unfold most;rw [if_pos (by omega),if_neg hc22])),trivial⟩ rfl rfl
   ·
    refine Ji (Ja ?_);exact hMt1 () trivial 4 rfl rfl ⟨(vi8 (by unfold most;rw [if_neg (by omega)])),trivial⟩ rfl rfl
  ·
   rintro _ _;refine Je fun _ hK12 _=>(Jb (Jg (Jc rfl) rfl (Jg (Jc rfl) rfl (Jg (JZ rfl rfl) rfl (Jf (Ja (hK12 (Jj rfl (fun hc25=>?_) (fun hc25=>?_)))))))))
   ·
    refine Je fun _ hK13 _=>(Jb (Jg (Jd rfl) rfl (Jf (Ja (hK13 (Jl (Jw (Jh (Jh (Jw (Jh (Jk rfl (Res.tmp rfl) fun w hH=>?_))))))))))));replace hH:=hH.tail;exact ⟨by rw [isMono_false (k:=k) (by omega) (by omega)],hH⟩
   ·
    refine Ji (JE (Ja (hK6 (Jb (Jg (Jx rfl rfl (by first | exact nw _ (by omega) | rfl)) rfl (Jg (Jc rfl) rfl (Jf (Ja ?_))))))));exact hAg0 (k+1) ⟨by omega,fun j hj=>by rcases Nat.lt_or_ge j k with h | h;exact hm9 j h;obtain rfl:j=k:=(by omega);omega⟩ (by omega) 13 rfl rfl ⟨rfl,trivial⟩ rfl rfl
 ·
  refine JK (Jm (Jm (JO (Ja (hK2 (Je fun _ hK14 _=>(Jb (Jg (Jd rfl) rfl (Jf (Ja (hK14 (Jl (Jk rfl (Res.tmp rfl) fun w hH=>?_)))))))))))));replace hH:=hH.tail;exact ⟨by rw [isMono_true (fun j hj=>hm9 j (by omega))],hH⟩
def isDeg (ds:List Int):Bool:=decide (ds.length≤8) && ds.all fun x=>decide (1≤x) && decide (x≤12)
theorem all_false {ds:List Int} {p:Int→Bool} {k:Nat} (hk:k<ds.length) (h:p (ds.getD k 0)=false):ds.all p=false:=by
 rw [List.all_eq_false];exact ⟨ds.getD k 0,by rw [List.getD_eq_getElem?_getD,List.getElem?_eq_getElem hk];exact List.getElem_mem hk,by rw [h];simp⟩
theorem all_true {ds:List Int} {p:Int→Bool} (h : ∀j,j<ds.length→p (ds.getD j 0)=true):ds.all p=true:=by
 rw [List.all_eq_true];intro x hx;obtain ⟨j,hj,rfl⟩:=List.mem_iff_getElem.1 hx;have:=h j hj
 rwa [List.getD_eq_getElem?_getD,List.getElem?_eq_getElem hj] at this
theorem isDeg_false {ds:List Int} {k:Nat} (hk:k<ds.length) (h:(decide (1≤ds.getD k 0) && decide (ds.getD k 0≤12))=false):isDeg ds=false:=by
 unfold isDeg;rw [all_false hk h,Bool.and_false]
theorem isDeg_true {ds:List Int} (h : ∀j,j<ds.length→(decide (1≤ds.getD j 0) && decide (ds.getD j 0≤12))=true):isDeg ds=decide ((ds.length:Int)≤8):=by
 unfold isDeg;rw [all_true h,Bool.and_true];exact decide_eq_decide.2 (by omega)
theorem upto {p:Nat→Prop} {k:Nat} (h : ∀j,j<k→p j) (hk:p k) : ∀j,j<k+1→p j:=fun j hj=>by
 rcases Nat.lt_or_ge j k with h1 | h1
 ·exact h j h1
 ·obtain rfl:j=k:=by omega
  exact hk
theorem l01In_c {B:World} {H0 H:HP} {L:List SA} {w:World} {x:Int} {lo:Int} {hi:Int} (hH:Hp B H0 H L w):Calls Tryz.prog 39 [.int .i64 x,.int .i64 lo,.int .i64 hi].toArray w fun e w'=>e = .returned (.bool (decide (lo≤x) && decide (x≤hi)))∧Hp B H0 H L w':=by
 refine Jt Tryz.func39 rfl 15 rfl rfl [(0,.int .i64 x),(1,.int .i64 lo),(2,.int .i64 hi)] rfl hH ?_;clear hH;refine Je fun _ hK1 _=>(Jb (Jg (Jd rfl) rfl (Jf (Ja (hK1 (Je fun _ hK2 _=>(Jb (Jg (Jc rfl) rfl (Jg (Jc rfl) rfl (Jg (PR.geq rfl rfl) rfl (Jg (Jc rfl) rfl (JQ (jd:=10) rfl (fun hg10=>?_) (fun hg10=>?_)))))))))))))
 ·
  try have hg10p:=of_decide_eq_true hg10
  refine JL (Jc rfl) rfl rfl rfl hg10 (JL (Jc rfl) rfl rfl rfl hg10 (JL (PR.leq rfl rfl) rfl rfl rfl hg10 (Jg (JH rfl hg10 rfl) rfl (Jg (Jd rfl) rfl (Jf (Ja (hK2 (Jl (Jk rfl (Res.tmp rfl) fun w hH=>?_)))))))));exact ⟨by simp [*],hH⟩
 ·
  try have hg10p:=of_decide_eq_false hg10
  refine Jz rfl rfl rfl hg10 (Jz rfl rfl rfl hg10 (Jz rfl rfl rfl hg10 (Jg (JD rfl hg10 rfl) rfl (Jg (Jd rfl) rfl (Jf (Ja (hK2 (Jl (Jk rfl (Res.tmp rfl) fun w hH=>?_)))))))));exact ⟨by simp [*],hH⟩
theorem l01Degrees_c {B:World} {H0 H:HP} {L:List SA} {w:World} {qds:Option Addr} {cds:Nat} {ds:List Int} (hds:Ints H qds ds) (hn:ds.length≤1048576) (hH:Hp B H0 H L w):Calls Tryz.prog 24 [.slice qds ds.length cds].toArray w fun e w'=>e = .returned (.bool (isDeg ds))∧Hp B H0 H L w':=by
 refine Jt Tryz.func24 rfl 19 rfl rfl [(0,.slice qds ds.length cds)] rfl hH ?_;clear hH;refine Je fun _ hK1 _=>(Jb (Jg (Jd rfl) rfl (Jf (Ja (hK1 (Je fun _ hK2 _=>(Je fun _ hK3 _=>(Jb (Jg (Jd rfl) rfl (Jf (Ja (hK3 (Jo (JC (σ:=Nat) (fun (k:Nat)=>[(3,.int .i64 (k:Int))]) (fun (k:Nat)=>H) (fun (k:Nat)=>L) (fun (k:Nat)=>k≤ds.length∧∀j,j<k→(decide (1≤ds.getD j 0) && decide (ds.getD j 0≤12))=true) (fun (k:Nat)=>ds.length - k) 0 ⟨by omega,fun j hj=>by omega⟩ ⟨rfl,trivial⟩ rfl rfl ?_))))))))))))));rintro k hI _ hAg0;have hk:=hI.1;refine Je fun _ hK4 _=>(Je fun _ hK5 _=>(Jb (Jg (Jc rfl) rfl (Jg (Jc rfl) rfl (Jg (Jp u22 rfl rfl) rfl (Jg (JJ rfl rfl) rfl (Jf (Ja (hK5 (Jj rfl (fun hc7=>?_) (fun hc7=>?_)))))))))))
 ·
  refine Ji (Ja (hK4 (Je fun _ hK6 _=>(Jo (Je fun _ hK7 _=>(Jb (Jg (Jc rfl) rfl (Jg (Jc rfl) rfl (Jg (PR.idx1 u22 sz2 rfl rfl rfl (by omega) hds.sm) rfl (Jg (Ef rfl (hds _ (by omega)) pl2) rfl (JA fn39 rfl rfl fun w hH=>(l01In_c hH).mono ?_)))))))))));rintro _ w ⟨rfl,hH⟩;refine ⟨_,rfl,fun a hF=>JR hF hH ?_⟩;refine Jg (Ec rfl) rfl (Jf (Ja (hK7 (JW rfl (fun hc=>?_) (fun hc=>?_)))))
  ·
   refine Je fun _ hK8 _=>(Jb (Jg (Jd rfl) rfl (Jf (Ja (hK8 (Jl (Jw (Jh (Jh (Jw (Jh (Jk rfl (Res.tmp rfl) fun w hH=>?_))))))))))));exact ⟨rb (isDeg_false (k:=k) (by omega) (nott hc)).symm,hH⟩
  ·
   refine Ji (JE (Ja (hK6 (Jb (Jg (Jc rfl) rfl (Jg (Jx rfl rfl (by first | exact nw _ (by omega) | rfl)) rfl (Jg (Jd rfl) rfl (Jf (Ja ?_)))))))));exact hAg0 (k+1) ⟨by omega,upto hI.2 (notf hc)⟩ (by omega) 14 rfl rfl ⟨rfl,trivial⟩ rfl rfl
 ·
  refine JK (Jm (Jm (JO (Ja (hK2 (Je fun _ hK9 _=>(Jb (Jg (Jc rfl) rfl (Jg (Jp u22 rfl rfl) rfl (Jg (PR.leq rfl rfl) rfl (Jg (Jd rfl) rfl (Jf (Ja (hK9 (Jl (Jk rfl (Res.tmp rfl) fun w hH=>?_))))))))))))))));exact ⟨rb (isDeg_true (fun j hj=>hI.2 j (by omega))).symm,hH⟩
theorem l01Mono_c {B:World} {H0 H:HP} {L:List SA} {w:World} {qds:Option Addr} {cds:Nat} {ds:List Int} {m:List Int} (hds:Ints H qds ds) (hm:Mono m) (hn:ds.length≤1048576) (hp : ∀j,j<ds.length→0≤ds.getD j 0) (hH:Hp B H0 H L w):Calls Tryz.prog 63 [.slice qds ds.length cds,.agg (bytesC m).toArray].toArray w fun e w'=>e = .returned (.bool (isMono ds m))∧Hp B H0 H L w':=by
 refine Jt Tryz.func63 rfl 38 rfl rfl [(0,.slice qds ds.length cds),(1,.agg (bytesC m).toArray)] rfl hH ?_;have hml:=hm.len;clear hH;refine Je fun _ hK1 _=>(Jb (Eo rfl rfl rfl fun g3=>(Jg (Jd rfl) rfl (Jf (Ja (hK1 (Je fun _ hK2 _=>(Je fun _ hK3 _=>(Jb (Jg (Jd rfl) rfl (Jf (Ja (hK3 (Jo (JC (σ:=Nat) (fun (k:Nat)=>[(5,.int .i64 (k:Int))]) (fun (k:Nat)=>H) (fun (k:Nat)=>obj g3 (.cells (bytesC m).toArray 65 (0,0))::L) (fun (k:Nat)=>k≤8∧∀j,j<k→m.getD j 0≤most ds j) (fun (k:Nat)=>8 - k) 0 ⟨by omega,fun j hj=>by omega⟩ ⟨rfl,trivial⟩ rfl rfl ?_)))))))))))))));rintro k hI _ hAg0;have hk:=hI.1;refine Je fun _ hK4 _=>(Je fun _ hK5 _=>(Jb (Jg (Jc rfl) rfl (Jg (JJ rfl rfl) rfl (Jf (Ja (hK5 (Jj rfl (fun hc7=>?_) (fun hc7=>?_)))))))))
 ·
  refine Ji (Ja (hK4 (Je fun _ hK6 _=>(Jo (Jo (Je fun _ hK7 _=>(Jb (Jg (Jc rfl) rfl (Jg (Jc rfl) rfl (Jg (Jp u22 rfl rfl) rfl (Jg (PR.geq rfl rfl) rfl (Jg (Jd rfl) rfl (Jf (Ja (hK7 (Jj rfl (fun h10=>?_) (fun h10=>?_)))))))))))))))))
  ·
   refine Je fun _ hK8 _=>(Jb (Jg (Jc rfl) rfl (Jg (JP u65 sz5 rfl rfl rfl (by omega)) rfl (Jg (JB rfl At.z (by first | exact bytesC_get (by simp [*];omega) | exact intsC_get (by simp [*];omega)) pl5) rfl (Jg (Ej rfl rfl) rfl (Jf (Ja (hK8 (Jj rfl (fun h18=>?_) (fun h18=>?_))))))))))
   ·
    refine Je fun _ hK9 _=>(Jb (Jg (Jd rfl) rfl (Jf (Ja (hK9 (Jl (Jw (Jw (Jh (Jh (Jw (Jh (Jk rfl (Res.tmp rfl) fun w hH=>?_)))))))))))));replace hH:=hH.tail;exact ⟨rb (isMono_false (k:=k) (by omega) (by rw [most_ge h10];have:=(hm.bd k).1;omega)).symm,hH⟩
   ·
    refine Ji (JE (JE (Ja (hK6 (Jb (Jg (Jc rfl) rfl (Jg (Jx rfl rfl (by first | exact nw _ (by omega) | rfl)) rfl (Jg (Jd rfl) rfl (Jf (Ja ?_))))))))));exact hAg0 (k+1) ⟨by omega,upto hI.2 (by rw [most_ge h10];omega)⟩ (by omega) 15 rfl rfl ⟨rfl,trivial⟩ rfl rfl
  ·
   refine Je fun _ hK10 _=>(Jb (Jg (Jc rfl) rfl (Jg (JP u65 sz5 rfl rfl rfl (by omega)) rfl (Jg (JB rfl At.z (by first | exact bytesC_get (by simp [*];omega) | exact intsC_get (by simp [*];omega)) pl5) rfl (Jg (JZ rfl rfl) rfl (Jg (Jc rfl) rfl (JQ (jd:=24) rfl (fun h24=>?_) (fun h24=>?_))))))))
   ·
    try have h24p:=of_decide_eq_true h24
    refine Jz rfl rfl rfl h24 (Jz rfl rfl rfl h24 (Jz rfl rfl rfl h24 (Jz rfl rfl rfl h24 (Jz rfl rfl rfl h24 (Jz rfl rfl rfl h24 (Jz rfl rfl rfl h24 (J.gu rfl rfl rfl (J.gu rfl rfl rfl (J.gu rfl rfl rfl (J.gu rfl rfl rfl (Jz rfl rfl rfl h24 (Jg (JH rfl h24 rfl) rfl (Jg (Jd rfl) rfl (Jf ?_))))))))))))));refine Ja (hK10 (En rfl (Je fun _ hK11 _=>(Jb (Jg (Jd rfl) rfl (Jf (Ja (hK11 (Jl (Jw (Jw (Jh (Jh (Jw (Jh (Jk rfl (Res.tmp rfl) fun w hH=>?_))))))))))))))));replace hH:=hH.tail;exact ⟨rb (isMono_false (k:=k) (by omega) (by have:most ds k≤20:=(by unfold most;split <;> (try split) <;> omega);omega)).symm,hH⟩
   ·
    try have h24p:=of_decide_eq_false h24
    refine JL (Jc rfl) rfl rfl rfl h24 (JL (Jc rfl) rfl rfl rfl h24 (JL (PR.idx1 u22 sz2 rfl rfl rfl (by omega) hds.sm) rfl rfl rfl h24 (JL (Ef rfl (hds _ (by omega)) pl2) rfl rfl rfl h24 (JL (PR.rem rfl rfl (by decide) rfl) rfl rfl rfl h24 (JL (Ej rfl rfl) rfl rfl rfl h24 (JL (Jc rfl) rfl rfl rfl h24 (JQ (jd:=31) rfl (fun h31=>?_) (fun h31=>?_))))))))
    ·
     try have h31p:=of_decide_eq_true h31
     refine JL (Jc rfl) rfl rfl rfl h31 (JL (JP u65 sz5 rfl rfl rfl (by omega)) rfl rfl rfl h31 (JL (JB rfl At.z (by first | exact bytesC_get (by simp [*];omega) | exact intsC_get (by simp [*];omega)) pl5) rfl rfl rfl h31 (JL (JZ rfl rfl) rfl rfl rfl h31 (JL (JH rfl h31 rfl) rfl rfl rfl h24 (Jg (JD rfl h24 rfl) rfl (Jg (Jd rfl) rfl (Jf (Ja (hK10 (Jj rfl (fun h19=>?_) (fun h19=>?_)))))))))))
     ·
      refine Je fun _ hK12 _=>(Jb (Jg (Jd rfl) rfl (Jf (Ja (hK12 (Jl (Jw (Jw (Jh (Jh (Jw (Jh (Jk rfl (Res.tmp rfl) fun w hH=>?_)))))))))))));replace hH:=hH.tail;exact ⟨rb (isMono_false (k:=k) (by omega) (by rw [most_odd h10 h31p (hp k (by omega))];omega)).symm,hH⟩
     ·
      refine Ji (JE (JE (Ja (hK6 (Jb (Jg (Jc rfl) rfl (Jg (Jx rfl rfl (by first | exact nw _ (by omega) | rfl)) rfl (Jg (Jd rfl) rfl (Jf (Ja ?_))))))))));exact hAg0 (k+1) ⟨by omega,upto hI.2 (by rw [most_odd h10 h31p (hp k (by omega))];omega)⟩ (by omega) 30 rfl rfl ⟨rfl,trivial⟩ rfl rfl
    ·
     try have h31p:=of_decide_eq_false h31
     refine Jz rfl rfl rfl h31 (Jz rfl rfl rfl h31 (Jz rfl rfl rfl h31 (Jz rfl rfl rfl h31 (JL (JD rfl h31 rfl) rfl rfl rfl h24 (Jg (JD rfl h24 rfl) rfl (Jg (Jd rfl) rfl (Jf (Ja (hK10 (CJ.condF rfl (Ji (JE (JE (Ja (hK6 (Jb ?_))))))))))))))));refine Jg (Jc rfl) rfl (Jg (Jx rfl rfl (by first | exact nw _ (by omega) | rfl)) rfl (Jg (Jd rfl) rfl (Jf (Ja ?_))));exact hAg0 (k+1) ⟨by omega,upto hI.2 (by rw [most_even h10 h31p];omega)⟩ (by omega) 30 rfl rfl ⟨rfl,trivial⟩ rfl rfl
 ·
  refine JK (Jm (Jm (JO (Ja (hK2 (Je fun _ hK13 _=>(Jb (Jg (Jd rfl) rfl (Jf (Ja (hK13 (Jl (Jk rfl (Res.tmp rfl) fun w hH=>?_)))))))))))));replace hH:=hH.tail;exact ⟨rb (isMono_true (fun j hj=>hI.2 j (by omega))).symm,hH⟩
theorem by2:Bytes Tryz.prog 2 8:=by unfold Bytes;kernel_rfl
theorem ze2:Zero Tryz.prog 2 [.int .i64 0]:=by unfold Zero;kernel_rfl
theorem fn43:Fn Tryz.prog 43:=⟨_,Tryz.func43,by kernel_rfl,rfl⟩
theorem fn44:Fn Tryz.prog 44:=⟨_,Tryz.func44,by kernel_rfl,rfl⟩
theorem fn45:Fn Tryz.prog 45:=⟨_,Tryz.func45,by kernel_rfl,rfl⟩
theorem fn67:Fn Tryz.prog 67:=⟨_,Tryz.func67,by kernel_rfl,rfl⟩
theorem foll0:Tryz.prog.follows .mixedOrders=true:=by kernel_rfl
theorem list_eq_of {xs ys:List Int} (hl:(xs.length:Int)=ys.length) (h : ∀j,j<xs.length→xs.getD j 0=ys.getD j 0):xs=ys:=by
 apply List.ext_getElem (by omega);intro j h1 h2;have:=h j h1
 rwa [List.getD_eq_getElem?_getD,List.getD_eq_getElem?_getD,List.getElem?_eq_getElem h1,List.getElem?_eq_getElem h2] at this
theorem eqInt64S_c {B:World} {H0 H:HP} {L:List SA} {w:World} {qxs:Option Addr} {cxs:Nat} {xs:List Int} {qys:Option Addr} {cys:Nat} {ys:List Int} (hxs:Ints H qxs xs) (hys:Ints H qys ys) (hn:xs.length≤1048576) (hH:Hp B H0 H L w):Calls Tryz.prog 14 [.slice qxs xs.length cxs,.slice qys ys.length cys].toArray w fun e w'=>e = .returned (.bool (decide (xs=ys)))∧Hp B H0 H L w':=by
 refine Jt Tryz.func14 rfl 26 rfl rfl [(0,.slice qxs xs.length cxs),(1,.slice qys ys.length cys)] rfl hH ?_;clear hH;refine Je fun _ hK1 _=>(Jb (Jg (Jd rfl) rfl (Jf (Ja (hK1 (Je fun _ hK2 _=>(Je fun _ hK3 _=>(Jb (Jg (Jc rfl) rfl (Jg (Jp u22 rfl rfl) rfl (Jg (Jc rfl) rfl (Jg (Jp u22 rfl rfl) rfl (Jg (Ej rfl rfl) rfl (Jf (Ja (hK3 ?_))))))))))))))));refine Jj rfl (fun h10=>?_) (fun h10=>?_)
 ·
  refine Je fun _ hK4 _=>(Jb (Jg (Jd rfl) rfl (Jf (Ja (hK4 (Jl (Jh (Jk rfl (Res.tmp rfl) fun w hH=>?_))))))));exact ⟨rb (decide_eq_false (fun e=>h10 (by rw [e]))).symm,hH⟩
 ·
  refine Ji (Ja (hK2 (Je fun _ hK5 _=>(Je fun _ hK6 _=>(Jb (Jg (Jd rfl) rfl (Jf (Ja (hK6 (Jo (JC (σ:=Nat) (fun (k:Nat)=>[(5,.int .i64 (k:Int))]) (fun (k:Nat)=>H) (fun (k:Nat)=>L) (fun (k:Nat)=>k≤xs.length∧∀j,j<k→xs.getD j 0=ys.getD j 0) (fun (k:Nat)=>xs.length - k) 0 ⟨by omega,fun j hj=>by omega⟩ ⟨rfl,trivial⟩ rfl rfl ?_)))))))))));rintro k hI _ hAg0;have hk:=hI.1;refine Je fun _ hK7 _=>(Je fun _ hK8 _=>(Jb (Jg (Jc rfl) rfl (Jg (Jc rfl) rfl (Jg (Jp u22 rfl rfl) rfl (Jg (JJ rfl rfl) rfl (Jf (Ja (hK8 (Jj rfl (fun hc14=>?_) (fun hc14=>?_)))))))))))
  ·
   refine Ji (Ja (hK7 (Je fun _ hK9 _=>(Jo (Je fun _ hK10 _=>(CJ.regionD foll0 (by kernel_rfl) (JI (Jc rfl) rfl (JI (Jc rfl) rfl (JI (PR.idx1 u22 sz2 rfl rfl rfl (by omega) hxs.sm) rfl (JI (Ef rfl (hxs _ (by omega)) pl2) rfl (JI (Jc rfl) rfl (JI (Jc rfl) rfl (JI (PR.idx1 u22 sz2 rfl rfl rfl (by omega) hys.sm) rfl (JI (Ef rfl (hys _ (by omega)) pl2) rfl (JI (Ej rfl rfl) rfl ?_)))))))))))))));refine Ek (Ja (hK10 (Jj rfl (fun h25=>?_) (fun h25=>?_))))
   ·
    refine Je fun _ hK11 _=>(Jb (Jg (Jd rfl) rfl (Jf (Ja (hK11 (Jl (Jw (Jh (Jh (Jw (Jh (Jk rfl (Res.tmp rfl) fun w hH=>?_))))))))))));exact ⟨rb (decide_eq_false (fun e=>h25 (by rw [e]))).symm,hH⟩
   ·
    refine Ji (JE (Ja (hK9 (Jb (Jg (Jc rfl) rfl (Jg (Jx rfl rfl (by first | exact nw _ (by omega) | rfl)) rfl (Jg (Jd rfl) rfl (Jf (Ja ?_)))))))));exact hAg0 (k+1) ⟨by omega,upto hI.2 (by omega)⟩ (by omega) 17 rfl rfl ⟨rfl,trivial⟩ rfl rfl
  ·
   refine JK (Jm (Jm (JO (Ja (hK5 (Je fun _ hK12 _=>(Jb (Jg (Jd rfl) rfl (Jf (Ja (hK12 (Jl (Jk rfl (Res.tmp rfl) fun w hH=>?_)))))))))))));exact ⟨rb (decide_eq_true (list_eq_of (by omega) (fun j hj=>hI.2 j (by omega)))).symm,hH⟩
theorem toInt64S_c {B:World} {H0 H:HP} {L:List SA} {w:World} {qxs:Option Addr} {cxs:Nat} {xs:List Int} (hxs:Ints H qxs xs) (hn:xs.length≤1048576) (hH:Hp B H0 H L w):Calls Tryz.prog 11 [.slice qxs xs.length cxs].toArray w fun e w'=>∃q c,e = .returned (.slice q xs.length c)∧Hp B H0 H (own 2 1 q xs.length c (intsC xs)::L) w':=by
 refine Jt Tryz.func11 rfl 22 rfl rfl [(0,.slice qxs xs.length cxs)] rfl hH ?_;clear hH;refine Je fun _ hK1 _=>(Jb (Jg (Jd rfl) rfl (Jf (Ja (hK1 (Je fun _ hK2 _=>(Jb (Jg (Jc rfl) rfl (Jg (Jp u22 rfl rfl) rfl (J.makeI u22 ze2 sz2 by2 rfl rfl rfl rfl (by omega) rfl fun g7=>(Jg (Jd rfl) rfl (Jf (Ja (hK2 (Je fun _ hK3 _=>(Je fun _ hK4 _=>?_))))))))))))))));refine Jb (Jg (Jd rfl) rfl (Jf (Ja (hK4 (Jo (JC (σ:=Nat) (fun (k:Nat)=>[(4,.int .i64 (k:Int))]) (fun (k:Nat)=>H) (fun (k:Nat)=>obj g7 (.cells (intsC (xs.take k++List.replicate (xs.length - k) 0)).toArray 2 (0,0))::L) (fun (k:Nat)=>k≤xs.length) (fun (k:Nat)=>xs.length - k) 0 (by omega) ⟨rfl,trivial⟩ rfl rfl ?_))))));rintro k hI _ hAg0;refine Je fun _ hK5 _=>(Je fun _ hK6 _=>(Jb (Jg (Jc rfl) rfl (Jg (Jc rfl) rfl (Jg (Jp u22 rfl rfl) rfl (Jg (JJ rfl rfl) rfl (Jf (Ja (hK6 (Jj rfl (fun hc11=>?_) (fun hc11=>?_)))))))))))
 ·
  refine Ji (Ja (hK5 (Je fun _ hK7 _=>(Jo (Jb (Jg (Jc rfl) rfl (Jg (Jc rfl) rfl (Jg (Jc rfl) rfl (Jg (Jc rfl) rfl (Jg (PR.idx1 u22 sz2 rfl rfl rfl (by omega) hxs.sm) rfl (Jg (Ef rfl (hxs _ (by omega)) pl2) rfl (Jg (PR.idxO1 u22 sz2 rfl rfl rfl (by omega)) rfl (J.storeI rfl rfl sz2 (by simp;omega) At.z (Jf (JE ?_)))))))))))))));refine Ja (hK7 (Jb (Jg (Jc rfl) rfl (Jg (Jx rfl rfl (by first | exact nw _ (by omega) | rfl)) rfl (Jg (Jd rfl) rfl (Jf (Ja ?_)))))));exact hAg0 (k+1) (by omega) (by omega) 15 rfl rfl ⟨rfl,trivial⟩ rfl (by rw [← fill_step (by omega)])
 ·
  refine JK (Jm (Jm (JO (Ja (hK3 (Je fun _ hK8 _=>(Jb (Jg (Jc rfl) rfl (Jg (Jd rfl) rfl (Jf (Ja (hK8 (Jl (Jk rfl (Res.tmp rfl) fun w hH=>?_))))))))))))))
  obtain rfl:k=xs.length:=by omega
  rw [fill_end] at hH;exact ⟨_,_,rfl,own_full _ 1 hH (by simp) (by simp only [maxLen];omega)⟩
def idxOf (xs:List Int) (p:Int→Bool):Int:=if xs.any p then (xs.findIdx p:Int) else -1
theorem idxOf_hit {xs:List Int} {p:Int→Bool} {k:Nat} (hk:k<xs.length) (h : ∀j,j<k→p (xs.getD j 0)=false) (hp:p (xs.getD k 0)=true):idxOf xs p=k:=by
 have hg : ∀j,(hj:j<xs.length)→xs[j]=xs.getD j 0:=fun j hj=>by rw [List.getD_eq_getElem?_getD,List.getElem?_eq_getElem hj];rfl
 unfold idxOf;have ha:xs.any p=true:=List.any_eq_true.2 ⟨xs[k],List.getElem_mem hk,by rw [hg];exact hp⟩;rw [if_pos ha]
 have:xs.findIdx p=k:=by
  rw [List.findIdx_eq hk];exact ⟨by rw [hg];exact hp,fun j hj=>by rw [hg];exact h j hj⟩
 rw [this]
theorem idxOf_miss {xs:List Int} {p:Int→Bool} (h : ∀j,j<xs.length→p (xs.getD j 0)=false):idxOf xs p = -1:=by
 unfold idxOf;rw [if_neg];intro ha;obtain ⟨x,hx,hp⟩:=List.any_eq_true.1 ha;obtain ⟨j,hj,rfl⟩:=List.mem_iff_getElem.1 hx;have:=h j hj;rw [List.getD_eq_getElem?_getD,List.getElem?_eq_getElem hj] at this;rw [show (some xs[j]).getD 0=xs[j] from rfl,hp] at this
 cases this
theorem idxOf_ge (xs:List Int) (p:Int→Bool):decide (0≤idxOf xs p)=xs.any p:=by
 unfold idxOf
 by_cases h:xs.any p=true
 ·rw [if_pos h,h];exact decide_eq_true (by omega)
 ·rw [if_neg h]
  have:xs.any p=false:=by simpa using h
  rw [this]
  rfl
theorem isDeg_any {ds:List Int} (h:(ds.length:Int)≤8):(!(ds.any fun x=>!(decide (1≤x) && decide (x≤12))))=isDeg ds:=by
 unfold isDeg;rw [decide_eq_true (by omega),Bool.true_and,List.all_eq_not_any_not]
theorem IndexFuncI_c {B:World} {H0 H:HP} {L:List SA} {w:World} {qxs:Option Addr} {cxs:Nat} {xs:List Int} {gp:Nat} {capp:Array Value} {p:Int→Bool} (hxs:Ints H qxs xs) (hgp:Fn Tryz.prog gp) (hp : ∀(x:Int) (w:World),Hp B H0 H L w→Calls Tryz.prog gp (#[]++[.int .i64 x].toArray++capp) w fun e w'=>e = .returned (.bool (p x))∧Hp B H0 H L w') (hn:xs.length≤1048576) (hH:Hp B H0 H L w):Calls Tryz.prog 67 [.slice qxs xs.length cxs,.func (.func gp) #[] capp].toArray w fun e w'=>e = .returned (.int .i64 (idxOf xs p))∧Hp B H0 H L w':=by
 refine Jt Tryz.func67 rfl 19 rfl rfl [(0,.slice qxs xs.length cxs),(1,.func (.func gp) #[] capp)] rfl hH ?_;clear hH;refine Je fun _ hK1 _=>(Jb (Jg (Jd rfl) rfl (Jf (Ja (hK1 (Je fun _ hK2 _=>(Je fun _ hK3 _=>(Jb (Jg (Jc rfl) rfl (Jg (Jp u22 rfl rfl) rfl (Jg (Jc rfl) rfl (Jf (Ja (hK3 (Jo (JC (σ:=Nat) (fun (k:Nat)=>[(8,.int .i64 (k:Int))]) (fun (k:Nat)=>H) (fun (k:Nat)=>L) (fun (k:Nat)=>k≤xs.length∧∀j,j<k→p (xs.getD j 0)=false) (fun (k:Nat)=>xs.length - k) 0 ⟨by omega,fun j hj=>by omega⟩ ⟨rfl,trivial⟩ rfl rfl ?_))))))))))))))));rintro k hI _ hAg0;have hk:=hI.1;refine Je fun _ hK4 _=>(Jb (Jg (JJ rfl rfl) rfl (Jf (Ja (hK4 (Je fun _ hK5 _=>(Jj rfl (fun hc9=>?_) (fun hc9=>?_))))))))
 ·
  refine Ji (Ja (hK5 (Je fun _ hK6 _=>(Jo (Je fun _ hK7 _=>(Jb (Jg (Jc rfl) rfl (Jg (Jd rfl) rfl (Jf (Ja (hK7 (Je fun _ hK8 _=>(Jb (Jg (Jc rfl) rfl (Jg (Jc rfl) rfl (Jg (Jc rfl) rfl ?_))))))))))))))));refine Jg (PR.idx1 u22 sz2 rfl rfl rfl (by omega) hxs.sm) rfl (Jg (Ef rfl (hxs _ (by omega)) pl2) rfl (J.callV hgp rfl rfl rfl fun w hH=>(hp _ w hH).mono ?_));rintro _ w ⟨rfl,hH⟩;refine ⟨_,rfl,fun a hF=>JR hF hH ?_⟩;refine Jf (Ja (hK8 (JW rfl (fun h16=>?_) (fun h16=>?_))))
  ·
   refine Je fun _ hK9 _=>(Jb (Jg (Jc rfl) rfl (Jg (Jd rfl) rfl (Jf (Ja (hK9 (Jl (Jw (Jh (Jh (Jw (Jh (Jk rfl (Res.tmp rfl) fun w hH=>?_)))))))))))));exact ⟨ri (idxOf_hit (by omega) hI.2 h16).symm,hH⟩
  ·
   refine Ji (JE (Ja (hK6 (Jb (Jg (Jx rfl rfl (by first | exact nw _ (by omega) | rfl)) rfl (Jg (Jc rfl) rfl (Jf (Ja ?_))))))));exact hAg0 (k+1) ⟨by omega,upto hI.2 h16⟩ (by omega) 12 rfl rfl ⟨rfl,trivial⟩ rfl rfl
 ·
  refine JK (Jm (Jm (JO (Ja (hK2 (Je fun _ hK10 _=>(Jb (Jg (Jd rfl) rfl (Jf (Ja (hK10 (Jl (Jk rfl (Res.tmp rfl) fun w hH=>?_)))))))))))));exact ⟨ri (idxOf_miss (fun j hj=>hI.2 j (by omega))).symm,hH⟩
theorem ContainsFuncI_c {B:World} {H0 H:HP} {L:List SA} {w:World} {qxs:Option Addr} {cxs:Nat} {xs:List Int} {gp:Nat} {capp:Array Value} {p:Int→Bool} (hxs:Ints H qxs xs) (hgp:Fn Tryz.prog gp) (hp : ∀(x:Int) (w:World),Hp B H0 H L w→Calls Tryz.prog gp (#[]++[.int .i64 x].toArray++capp) w fun e w'=>e = .returned (.bool (p x))∧Hp B H0 H L w') (hn:xs.length≤1048576) (hH:Hp B H0 H L w):Calls Tryz.prog 43 [.slice qxs xs.length cxs,.func (.func gp) #[] capp].toArray w fun e w'=>e = .returned (.bool (xs.any p))∧Hp B H0 H L w':=by
 refine Jt Tryz.func43 rfl 9 rfl rfl [(0,.slice qxs xs.length cxs),(1,.func (.func gp) #[] capp)] rfl hH ?_;clear hH;refine Je fun _ hK1 _=>(Jb (Jg (Jd rfl) rfl (Jf (Ja (hK1 (Je fun _ hK2 _=>(Jb (Jg (Jc rfl) rfl (Jg (Jc rfl) rfl (JA fn67 rfl rfl fun w hH=>(IndexFuncI_c hxs hgp hp (by omega) hH).mono ?_))))))))));rintro _ w ⟨rfl,hH⟩;refine ⟨_,rfl,fun a hF=>JR hF hH ?_⟩;refine Jg (PR.geq rfl rfl) rfl (Jg (Jd rfl) rfl (Jf (Ja (hK2 (Jl (Jk rfl (Res.tmp rfl) fun w hH=>?_))))));exact ⟨rb (idxOf_ge xs p),hH⟩
theorem AreDegrees1_c {B:World} {H0 H:HP} {L:List SA} {w:World} {x:Int} (hH:Hp B H0 H L w):Calls Tryz.prog 44 [.int .i64 x].toArray w fun e w'=>e = .returned (.bool (!(decide (1≤x) && decide (x≤12))))∧Hp B H0 H L w':=by
 refine Jt Tryz.func44 rfl 6 rfl rfl [(0,.int .i64 x)] rfl hH ?_;clear hH;refine Je fun _ hK1 _=>(Jb (Jg (Jd rfl) rfl (Jf (Ja (hK1 (Je fun _ hK2 _=>(Jb (Jg (Jc rfl) rfl (JA fn45 rfl rfl fun w hH=>(within_c hH).mono ?_)))))))));rintro _ w ⟨rfl,hH⟩;refine ⟨_,rfl,fun a hF=>JR hF hH ?_⟩;refine Jg (Ec rfl) rfl (Jg (Jd rfl) rfl (Jf (Ja (hK2 (Jl (Jk rfl (Res.tmp rfl) fun w hH=>?_))))));exact ⟨rfl,hH⟩
theorem AreDegrees_c {B:World} {H0 H:HP} {L:List SA} {w:World} {qds:Option Addr} {cds:Nat} {ds:List Int} (hds:Ints H qds ds) (hn:ds.length≤1048576) (hH:Hp B H0 H L w):Calls Tryz.prog 26 [.slice qds ds.length cds].toArray w fun e w'=>e = .returned (.bool (isDeg ds))∧Hp B H0 H L w':=by
 refine Jt Tryz.func26 rfl 11 rfl rfl [(0,.slice qds ds.length cds)] rfl hH ?_;clear hH;refine Je fun _ hK1 _=>(Jb (Jg (Jd rfl) rfl (Jf (Ja (hK1 (Je fun _ hK2 _=>(Jb (Jg (Jc rfl) rfl (Jg (Jp u22 rfl rfl) rfl (Jg (PR.leq rfl rfl) rfl (Jg (Jc rfl) rfl (JQ (jd:=6) rfl (fun hg6=>?_) (fun hg6=>?_)))))))))))))
 ·
  try have hg6p:=of_decide_eq_true hg6
  refine JL (Jc rfl) rfl rfl rfl hg6 (J.gcall fn43 rfl rfl hg6 rfl rfl fun w hH=>(ContainsFuncI_c hds fn44 (fun x w hH=>by simpa only [Array.append_empty,Array.empty_append] using AreDegrees1_c hH) (by omega) hH).mono ?_);rintro _ w ⟨rfl,hH⟩;refine ⟨_,rfl,fun a hF=>JR hF hH ?_⟩;refine JL (Ec rfl) rfl rfl rfl hg6 (Jg (JH rfl hg6 rfl) rfl (Jg (Jd rfl) rfl (Jf (Ja (hK2 (Jl (Jk rfl (Res.tmp rfl) fun w hH=>?_)))))));exact ⟨rb (isDeg_any hg6p),hH⟩
 ·
  try have hg6p:=of_decide_eq_false hg6
  refine Jz rfl rfl rfl hg6 (Jz rfl rfl rfl hg6 (Jz rfl rfl rfl hg6 (Jg (JD rfl hg6 rfl) rfl (Jg (Jd rfl) rfl (Jf (Ja (hK2 (Jl (Jk rfl (Res.tmp rfl) fun w hH=>?_)))))))));exact ⟨rb (by unfold isDeg;rw [decide_eq_false (by omega)];rfl),hH⟩
theorem u3:Tryz.prog.underlying 3=some (TypeDesc.int .i64):=by kernel_rfl
theorem u97:Tryz.prog.underlying 97=some (TypeDesc.array 8 3):=by kernel_rfl
theorem sz3:Size Tryz.prog 3 1:=by unfold Size;kernel_rfl
theorem sz97:Size Tryz.prog 97 8:=by unfold Size;kernel_rfl
theorem ze97:Zero Tryz.prog 97 [.int .i64 0,.int .i64 0,.int .i64 0,.int .i64 0,.int .i64 0,.int .i64 0,.int .i64 0,.int .i64 0]:=by unfold Zero;kernel_rfl
theorem bz97 : ∀w,(Instr.build 97 #[]).run Tryz.prog w = .ok (.agg [.int .i64 0,.int .i64 0,.int .i64 0,.int .i64 0,.int .i64 0,.int .i64 0,.int .i64 0,.int .i64 0].toArray) w:=fun _=>by kernel_rfl
theorem pl3:Plain Tryz.prog 3:=⟨_,u3,rfl⟩
theorem ag97:Agg Tryz.prog 97 8:=⟨_,u97,rfl,by kernel_rfl⟩
def wsum (ds m:List Int):Nat→Int
 | 0=>0
 | k+1=>wsum ds m k+ds.getD k 0 * m.getD k 0
theorem isDeg_bd {ds:List Int} (h:isDeg ds=true) : ∀j,0≤ds.getD j 0∧ds.getD j 0≤12:=by
 intro j
 rcases Nat.lt_or_ge j ds.length with hj | hj
 ·unfold isDeg at h;rw [Bool.and_eq_true] at h;have:=List.all_eq_true.1 h.2 (ds.getD j 0) (by rw [List.getD_eq_getElem?_getD,List.getElem?_eq_getElem hj];exact List.getElem_mem hj);rw [Bool.and_eq_true,decide_eq_true_eq,decide_eq_true_eq] at this
  omega
 ·rw [List.getD_eq_getElem?_getD,List.getElem?_eq_none hj]
  simp
def Small (p:List Int):Prop:=∀j,0≤p.getD j 0∧p.getD j 0≤1000000
theorem Mono.small {m:List Int} (h:Mono m):Small m:=fun j=>by have:=h.bd j;omega
theorem powerOf_c {B:World} {H0 H:HP} {L:List SA} {w:World} {m:List Int} (hm:Mono m) (hH:Hp B H0 H L w):Calls Tryz.prog 71 [.agg (bytesC m).toArray].toArray w fun e w'=>e = .returned (.agg (intsC m).toArray)∧Hp B H0 H L w':=by
 refine Jt Tryz.func71 rfl 18 rfl rfl [(0,.agg (bytesC m).toArray)] rfl hH ?_;have hml:=hm.len;clear hH;refine Je fun _ hK1 _=>(Jb (Eo rfl rfl rfl fun g1=>(JU ze97 rfl fun g2=>(Jf (Ja (hK1 (Je fun _ hK2 _=>(Jb (Jg (JX bz97) rfl (JU ze97 rfl fun g3=>(Jr rfl rfl (by first | exact bytesC_one _ | exact intsC_one _ | exact Term.c_one _ | simp [Value.oneCell']) (by simpa [*] using sz97) (by simp [*]) At.z (Jf (Ja (hK2 (Je fun _ hK3 _=>(Je fun _ hK4 _=>?_))))))))))))))));refine Jb (Jg (Js rfl (.s (.s .z)) (by simpa [*] using ag65)) rfl (Jg (Jc rfl) rfl (Jf (Ja (hK4 (Jo (JC (σ:=Nat) (fun (k:Nat)=>[(8,.int .i64 (k:Int))]) (fun (k:Nat)=>H) (fun (k:Nat)=>obj g3 (.cells (intsC (m.take k++List.replicate (m.length - k) 0)).toArray 97 (0,0))::obj g2 (.cells (intsC (List.replicate 8 0)).toArray 97 (0,0))::obj g1 (.cells (bytesC m).toArray 65 (0,0))::L) (fun (k:Nat)=>k≤8) (fun (k:Nat)=>8 - k) 0 (by omega) ⟨rfl,trivial⟩ rfl (by rw [hml];rfl) ?_)))))));rintro k hI _ hAg0;have hb:=hm.bd k;refine Je fun _ hK5 _=>(Jb (Jg (JJ rfl rfl) rfl (Jf (Ja (hK5 (Je fun _ hK6 _=>(Jj rfl (fun hc9=>?_) (fun hc9=>?_))))))))
 ·
  refine Ji (Ja (hK6 (Je fun _ hK7 _=>(Jo (Je fun _ hK8 _=>(Jb (Jg (Jc rfl) rfl (Jg (PR.index u65 sz5 pl5 rfl rfl rfl (by omega) (bytesC_get (by omega))) rfl (Jg (Jd rfl) rfl (Jg (Jd rfl) rfl (Jf (Ja (hK8 (Jb (Jg (Jc rfl) rfl (Jg (Jc rfl) rfl ?_))))))))))))))));refine Jg (Ee u5 u3 rfl (by first | exact nw _ (by omega) | rfl)) rfl (Jg (JP u97 sz3 rfl rfl rfl (by omega)) rfl (J.storeI rfl rfl sz3 (by simp;omega) At.z (Jf (JE (Ja (hK7 (Jb (Jg (Jx rfl rfl (by first | exact nw _ (by omega) | rfl)) rfl (Jg (Jc rfl) rfl (Jf (Ja ?_)))))))))));exact hAg0 (k+1) (by omega) (by omega) 12 rfl rfl ⟨rfl,trivial⟩ rfl (by rw [← fill_step (by omega)])
 ·
  refine JK (Jm (Jm (JO (Ja (hK3 (Je fun _ hK9 _=>(Jb (Jg (Js rfl At.z (by simpa [*] using ag97)) rfl (Jr rfl rfl (by first | exact bytesC_one _ | exact intsC_one _ | exact Term.c_one _ | simp [Value.oneCell']) (by simpa [*] using sz97) (by simp [*]) (.s .z) (Jf (Ja (hK9 (Jl (Jk rfl (Res.agg rfl (.s .z) (by simpa [*] using ag97)) fun w hH=>?_))))))))))))));replace hH:=hH.tail;replace hH:=hH.tail;replace hH:=hH.tail
  obtain rfl:k=m.length:=by omega
  exact ⟨by rw [fill_end],hH⟩
theorem u31:Tryz.prog.underlying 31=some (TypeDesc.slice 69):=by kernel_rfl
theorem u33:Tryz.prog.underlying 33=some (TypeDesc.struct #[{name:="Terms",type:=31,offset:=0,embedded:=false,tag:="",pkgPath:="",byteOffset:=0}]):=by kernel_rfl
theorem u69:Tryz.prog.underlying 69=some (TypeDesc.struct #[{name:="Monomial",type:=65,offset:=0,embedded:=false,tag:="",pkgPath:="",byteOffset:=0},{name:="Factor",type:=2,offset:=8,embedded:=false,tag:="",pkgPath:="",byteOffset:=8}]):=by kernel_rfl
theorem sz31:Size Tryz.prog 31 1:=by unfold Size;kernel_rfl
theorem sz65:Size Tryz.prog 65 8:=by unfold Size;kernel_rfl
theorem sz69:Size Tryz.prog 69 9:=by unfold Size;kernel_rfl
theorem pl31:Plain Tryz.prog 31:=⟨_,u31,rfl⟩
theorem ag69:Agg Tryz.prog 69 9:=⟨_,u69,rfl,by kernel_rfl⟩
theorem fn28:Fn Tryz.prog 28:=⟨_,Tryz.func28,by kernel_rfl,rfl⟩
theorem fn49:Fn Tryz.prog 49:=⟨_,Tryz.func49,by kernel_rfl,rfl⟩
theorem fn74:Fn Tryz.prog 74:=⟨_,Tryz.func74,by kernel_rfl,rfl⟩
def cmp (p q:List Int):Int:=match (List.range 8).find? (fun i=>decide (p.getD i 0≠q.getD i 0)) with | some i=>q.getD i 0 - p.getD i 0 | none=>0
def before (a b:List Int):Bool:=decide (cmp a b<0)
theorem range_find {p:Nat→Bool} {k n:Nat} (hk:k<n) (h : ∀j,j<k→p j=false) (hp:p k=true):(List.range n).find? p=some k:=by
 rw [List.find?_eq_some_iff_getElem];exact ⟨hp,k,by simp [hk],by simp,fun j hj=>by simp [h j hj]⟩
theorem range_find_none {p:Nat→Bool} {n:Nat} (h : ∀j,j<n→p j=false):(List.range n).find? p=none:=by
 rw [List.find?_eq_none];intro j hj
 simp [h j (List.mem_range.1 hj)]
theorem cmp_hit {p q:List Int} {k:Nat} (hk:k<8) (h : ∀j,j<k→p.getD j 0=q.getD j 0) (hn:p.getD k 0≠q.getD k 0):cmp p q=q.getD k 0 - p.getD k 0:=by
 unfold cmp;rw [range_find (p:=fun i=>decide (p.getD i 0≠q.getD i 0)) hk (fun j hj=>decide_eq_false (by simpa using h j hj)) (decide_eq_true hn)]
theorem cmp_miss {p q:List Int} (h : ∀j,j<8→p.getD j 0=q.getD j 0):cmp p q=0:=by
 unfold cmp;rw [range_find_none (p:=fun i=>decide (p.getD i 0≠q.getD i 0)) (fun j hj=>decide_eq_false (by simpa using h j hj))]
theorem before_hit {p q:List Int} {k:Nat} (hk:k<8) (h : ∀j,j<k→p.getD j 0=q.getD j 0) (hn:p.getD k 0≠q.getD k 0):before p q=decide (p.getD k 0>q.getD k 0):=by
 unfold before;rw [cmp_hit hk h hn];exact decide_eq_decide.2 (by omega)
theorem before_miss {p q:List Int} (h : ∀j,j<8→p.getD j 0=q.getD j 0):before p q=false:=by
 unfold before;rw [cmp_miss h]
 rfl
def goodAt (ds:List Int) (ts:List Term) (i:Nat):Bool:=
 isMono ds (tm ts i).mono && (decide (1≤(tm ts i).fac) && decide ((tm ts i).fac≤10006)) && (decide (i=0) || before (tm ts (i - 1)).mono (tm ts i).mono)
def isForm (ds:List Int) (ts:List Term):Bool:=decide (ts.length≤400) && (List.range ts.length).all (goodAt ds ts)
theorem isForm_long {ds:List Int} {ts:List Term} (h : ¬(ts.length:Int)≤400):isForm ds ts=false:=by
 unfold isForm;rw [decide_eq_false (by omega)]
 rfl
theorem isForm_bad {ds:List Int} {ts:List Term} {k:Nat} (hk:k<ts.length) (h:goodAt ds ts k=false):isForm ds ts=false:=by
 unfold isForm;rw [Bool.and_eq_false_iff];exact .inr (List.all_eq_false.2 ⟨k,by simpa using hk,by simp [h]⟩)
theorem isForm_good {ds:List Int} {ts:List Term} (h : ∀j,j<ts.length→goodAt ds ts j=true):isForm ds ts=decide ((ts.length:Int)≤400):=by
 unfold isForm;rw [List.all_eq_true.2 (fun j hj=>h j (by simpa using hj)),Bool.and_true];exact decide_eq_decide.2 (by omega)
theorem mono_eq_of {a b:List Int} (ha:Mono a) (hb:Mono b) (h : ∀j,j<8→a.getD j 0=b.getD j 0):a=b:=list_eq_of (by rw [ha.len,hb.len]) (fun j hj=>h j (by rw [ha.len] at hj;exact hj))
theorem eqMonomial_c {B:World} {H0 H:HP} {L:List SA} {w:World} {a:List Int} {b:List Int} (ha:Mono a) (hb:Mono b) (hH:Hp B H0 H L w):Calls Tryz.prog 74 [.agg (bytesC a).toArray,.agg (bytesC b).toArray].toArray w fun e w'=>e = .returned (.bool (decide (a=b)))∧Hp B H0 H L w':=by
 refine Jt Tryz.func74 rfl 17 rfl rfl [(0,.agg (bytesC a).toArray),(1,.agg (bytesC b).toArray)] rfl hH ?_;have hal:=ha.len;have hbl:=hb.len;clear hH;refine Je fun _ hK1 _=>(Jb (Eo rfl rfl rfl fun g2=>(Eo rfl rfl rfl fun g3=>(Jg (Jd rfl) rfl (Jf (Ja (hK1 (Je fun _ hK2 _=>(Je fun _ hK3 _=>(Jb (Jg (Jd rfl) rfl (Jf (Ja (hK3 (Jo (JC (σ:=Nat) (fun (k:Nat)=>[(5,.int .i64 (k:Int))]) (fun (k:Nat)=>H) (fun (k:Nat)=>obj g3 (.cells (bytesC b).toArray 65 (0,0))::obj g2 (.cells (bytesC a).toArray 65 (0,0))::L) (fun (k:Nat)=>k≤8∧∀j,j<k→a.getD j 0=b.getD j 0) (fun (k:Nat)=>8 - k) 0 ⟨by omega,fun j hj=>by omega⟩ ⟨rfl,trivial⟩ rfl rfl ?_))))))))))))))));rintro k hI _ hAg0;have hk:=hI.1;refine Je fun _ hK4 _=>(Je fun _ hK5 _=>(Jb (Jg (Jc rfl) rfl (Jg (JJ rfl rfl) rfl (Jf (Ja (hK5 (Jj rfl (fun hc7=>?_) (fun hc7=>?_)))))))))
 ·
  refine Ji (Ja (hK4 (Je fun _ hK6 _=>(Jo (Je fun _ hK7 _=>(CJ.regionD foll0 (by kernel_rfl) (JI (Jc rfl) rfl (JI (JP u65 sz5 rfl rfl rfl (by omega)) rfl (JI (JB rfl (.s .z) (by first | exact bytesC_get (by simp [*];omega) | exact intsC_get (by simp [*];omega)) pl5) rfl (JI (Jc rfl) rfl (JI (JP u65 sz5 rfl rfl rfl (by omega)) rfl (JI (JB rfl At.z (by first | exact bytesC_get (by simp [*];omega) | exact intsC_get (by simp [*];omega)) pl5) rfl (JI (Ej rfl rfl) rfl (Ek (Ja (hK7 ?_))))))))))))))));refine Jj rfl (fun h16=>?_) (fun h16=>?_)
  ·
   refine Je fun _ hK8 _=>(Jb (Jg (Jd rfl) rfl (Jf (Ja (hK8 (Jl (Jw (Jh (Jh (Jw (Jh (Jk rfl (Res.tmp rfl) fun w hH=>?_))))))))))));replace hH:=hH.tail;replace hH:=hH.tail;exact ⟨rb (decide_eq_false (fun e=>h16 (by rw [e]))).symm,hH⟩
  ·
   refine Ji (JE (Ja (hK6 (Jb (Jg (Jc rfl) rfl (Jg (Jx rfl rfl (by first | exact nw _ (by omega) | rfl)) rfl (Jg (Jd rfl) rfl (Jf (Ja ?_)))))))));exact hAg0 (k+1) ⟨by omega,upto hI.2 (by omega)⟩ (by omega) 13 rfl rfl ⟨rfl,trivial⟩ rfl rfl
 ·
  refine JK (Jm (Jm (JO (Ja (hK2 (Je fun _ hK9 _=>(Jb (Jg (Jd rfl) rfl (Jf (Ja (hK9 (Jl (Jk rfl (Res.tmp rfl) fun w hH=>?_)))))))))))));replace hH:=hH.tail;replace hH:=hH.tail;exact ⟨rb (decide_eq_true (mono_eq_of ha hb (fun j hj=>hI.2 j (by omega)))).symm,hH⟩
theorem eqTerm_c {B:World} {H0 H:HP} {L:List SA} {w:World} {a:Term} {b:Term} (ha:a.wf) (hb:b.wf) (hH:Hp B H0 H L w):Calls Tryz.prog 49 [.agg a.c.toArray,.agg b.c.toArray].toArray w fun e w'=>e = .returned (.bool (decide (a=b)))∧Hp B H0 H L w':=by
 refine Jt Tryz.func49 rfl 16 rfl rfl [(0,.agg a.c.toArray),(1,.agg b.c.toArray)] rfl hH ?_;clear hH;refine Je fun _ hK1 _=>(Jb (Eo rfl rfl rfl fun g2=>(Eo rfl rfl rfl fun g3=>(Jg (Jd rfl) rfl (Jf (Ja (hK1 (Je fun _ hK2 _=>(Je fun _ hK3 _=>(Jb (Jg (JG u69 rfl sz65 rfl) rfl (Jg (PR.ldMono rfl (.s .z) ha ag65) rfl (Jg (JG u69 rfl sz65 rfl) rfl (Jg (PR.ldMono rfl At.z hb ag65) rfl (JA fn74 rfl rfl fun w hH=>(eqMonomial_c ha.mono hb.mono hH).mono ?_)))))))))))))));rintro _ w ⟨rfl,hH⟩;refine ⟨_,rfl,fun a hF=>JR hF hH ?_⟩;refine Jg (Ec rfl) rfl (Jf (Ja (hK3 (JW rfl (fun h10=>?_) (fun h10=>?_)))))
 ·
  refine Je fun _ hK4 _=>(Jb (Jg (Jd rfl) rfl (Jf (Ja (hK4 (Jl (Jh (Jk rfl (Res.tmp rfl) fun w hH=>?_))))))));replace hH:=hH.tail;replace hH:=hH.tail;exact ⟨rb (decide_eq_false (fun e=>(by rw [e] at h10;simp at h10))).symm,hH⟩
 ·
  refine Ji (Ja (hK2 (Je fun _ hK5 _=>(Je fun _ hK6 _=>(Jb (Jg (JG u69 rfl sz2 rfl) rfl (Jg (PR.ldFac rfl (.s .z) ha pl2) rfl (Jg (JG u69 rfl sz2 rfl) rfl (Jg (PR.ldFac rfl At.z hb pl2) rfl (Jg (Ej rfl rfl) rfl (Jf (Ja (hK6 (Jj rfl (fun h15=>?_) (fun h15=>?_)))))))))))))))
  ·
   refine Je fun _ hK7 _=>(Jb (Jg (Jd rfl) rfl (Jf (Ja (hK7 (Jl (Jh (Jk rfl (Res.tmp rfl) fun w hH=>?_))))))));replace hH:=hH.tail;replace hH:=hH.tail;exact ⟨rb (decide_eq_false (fun e=>h15 (by rw [e]))).symm,hH⟩
  ·
   refine Ji (Ja (hK5 (Je fun _ hK8 _=>(Jb (Jg (Jd rfl) rfl (Jf (Ja (hK8 (Jl (Jk rfl (Res.tmp rfl) fun w hH=>?_))))))))));replace hH:=hH.tail;replace hH:=hH.tail;exact ⟨rb (decide_eq_true (Term.eq_of (of_decide_eq_true (notf h10)) (by omega))).symm,hH⟩
theorem eqTermS_c {B:World} {H0 H:HP} {L:List SA} {w:World} {qxs:Option Addr} {cxs:Nat} {xs:List Term} {qys:Option Addr} {cys:Nat} {ys:List Term} (hxs:Terms H qxs xs) (hys:Terms H qys ys) (hn:xs.length≤9223372036854775807) (hH:Hp B H0 H L w):Calls Tryz.prog 28 [.slice qxs xs.length cxs,.slice qys ys.length cys].toArray w fun e w'=>e = .returned (.bool (decide (xs=ys)))∧Hp B H0 H L w':=by
 refine Jt Tryz.func28 rfl 27 rfl rfl [(0,.slice qxs xs.length cxs),(1,.slice qys ys.length cys)] rfl hH ?_;clear hH;refine Je fun _ hK1 _=>(Jb (Jg (Jd rfl) rfl (Jf (Ja (hK1 (Je fun _ hK2 _=>(Je fun _ hK3 _=>(Jb (Jg (Jc rfl) rfl (Jg (Jp u31 rfl rfl) rfl (Jg (Jc rfl) rfl (Jg (Jp u31 rfl rfl) rfl (Jg (Ej rfl rfl) rfl (Jf (Ja (hK3 ?_))))))))))))))));refine Jj rfl (fun h10=>?_) (fun h10=>?_)
 ·
  refine Je fun _ hK4 _=>(Jb (Jg (Jd rfl) rfl (Jf (Ja (hK4 (Jl (Jh (Jk rfl (Res.tmp rfl) fun w hH=>?_))))))));exact ⟨rb (decide_eq_false (fun e=>h10 (by rw [e]))).symm,hH⟩
 ·
  refine Ji (Ja (hK2 (Je fun _ hK5 _=>(Je fun _ hK6 _=>(Jb (Jg (Jd rfl) rfl (Jf (Ja (hK6 (Jo (JC (σ:=Nat) (fun (k:Nat)=>[(5,.int .i64 (k:Int))]) (fun (k:Nat)=>H) (fun (k:Nat)=>L) (fun (k:Nat)=>k≤xs.length∧∀j,j<k→tm xs j=tm ys j) (fun (k:Nat)=>xs.length - k) 0 ⟨by omega,fun j hj=>by omega⟩ ⟨rfl,trivial⟩ rfl rfl ?_)))))))))));rintro k hI _ hAg0;have hk:=hI.1;refine Je fun _ hK7 _=>(Je fun _ hK8 _=>(Jb (Jg (Jc rfl) rfl (Jg (Jc rfl) rfl (Jg (Jp u31 rfl rfl) rfl (Jg (JJ rfl rfl) rfl (Jf (Ja (hK8 (Jj rfl (fun hc14=>?_) (fun hc14=>?_)))))))))))
  ·
   refine Ji (Ja (hK7 (Je fun _ hK9 _=>(Jo (Je fun _ hK10 _=>(CJ.head [[], [], [0,1], [2], [], [], [4,5], [6]] (by kernel_rfl) (JF (fun gh=>Jc rfl) (JF (fun gh=>Jc rfl) (JF (fun gh=>Ep u31 sz69 rfl rfl rfl (by omega) hxs.sm) (JF (fun gh=>Ea rfl (hxs.cell _ (by omega)) (hxs.sm (i:=k) (by omega)) (by rw [Term.c_length (hxs.wf _ (by omega))];exact ag69)) (JF (fun gh=>Jc rfl) (JF (fun gh=>Jc rfl) (JF (fun gh=>Ep u31 sz69 rfl rfl rfl (by omega) hys.sm) (JF (fun gh=>Ea rfl (hys.cell _ (by omega)) (hys.sm (i:=k) (by omega)) (by rw [Term.c_length (hys.wf _ (by omega))];exact ag69)) (El 8 1 foll0 (by kernel_rfl) rfl rfl fun gh=>?_)))))))))))))));refine J.conv (us':=(17,_)::(18,_)::(19,_)::(20,_)::(21,_)::(22,_)::(23,_)::(24,_)::_) (L':=_) rfl rfl (JA fn49 rfl rfl fun w hH=>(eqTerm_c (hxs.wf k (by omega)) (hys.wf k (by omega)) hH).mono ?_);rintro _ w ⟨rfl,hH⟩;refine ⟨_,rfl,fun a hF=>JR hF hH ?_⟩;refine Jf (Ei (JI (Ec rfl) rfl (Ek (Ja (hK10 (JW rfl (fun h26=>?_) (fun h26=>?_)))))))
   ·
    refine Je fun _ hK11 _=>(Jb (Jg (Jd rfl) rfl (Jf (Ja (hK11 (Jl (Jw (Jh (Jh (Jw (Jh (Jk rfl (Res.tmp rfl) fun w hH=>?_))))))))))));exact ⟨rb (decide_eq_false (fun e=>(by rw [e] at h26;simp at h26))).symm,hH⟩
   ·
    refine Ji (JE (Ja (hK9 (Jb (Jg (Jc rfl) rfl (Jg (Jx rfl rfl (by first | exact nw _ (by omega) | rfl)) rfl (Jg (Jd rfl) rfl (Jf (Ja ?_)))))))));exact hAg0 (k+1) ⟨by omega,upto hI.2 (of_decide_eq_true (notf h26))⟩ (by omega) 18 rfl rfl ⟨rfl,trivial⟩ rfl rfl
  ·
   refine JK (Jm (Jm (JO (Ja (hK5 (Je fun _ hK12 _=>(Jb (Jg (Jd rfl) rfl (Jf (Ja (hK12 (Jl (Jk rfl (Res.tmp rfl) fun w hH=>?_)))))))))))));exact ⟨rb (decide_eq_true (terms_eq_of (by omega) (fun j hj=>hI.2 j (by omega)))).symm,hH⟩
theorem eqForm_c {B:World} {H0 H:HP} {L:List SA} {w:World} {qxs:Option Addr} {cxs:Nat} {xs:List Term} {qys:Option Addr} {cys:Nat} {ys:List Term} (hxs:Terms H qxs xs) (hys:Terms H qys ys) (hn:xs.length≤9223372036854775807) (hH:Hp B H0 H L w):Calls Tryz.prog 13 [.agg [.slice qxs xs.length cxs].toArray,.agg [.slice qys ys.length cys].toArray].toArray w fun e w'=>e = .returned (.bool (decide (xs=ys)))∧Hp B H0 H L w':=by
 refine Jt Tryz.func13 rfl 11 rfl rfl [(0,.agg [.slice qxs xs.length cxs].toArray),(1,.agg [.slice qys ys.length cys].toArray)] rfl hH ?_;clear hH;refine Je fun _ hK1 _=>(Jb (Eo rfl rfl rfl fun g2=>(Eo rfl rfl rfl fun g3=>(Jg (Jd rfl) rfl (Jf (Ja (hK1 (Je fun _ hK2 _=>(Je fun _ hK3 _=>(Jb (Jg (JG u33 rfl sz31 rfl) rfl (Jg (JB rfl (.s .z) rfl pl31) rfl (Jg (JG u33 rfl sz31 rfl) rfl (Jg (JB rfl At.z rfl pl31) rfl (JA fn28 rfl rfl fun w hH=>(eqTermS_c hxs hys (by omega) hH).mono ?_)))))))))))))));rintro _ w ⟨rfl,hH⟩;refine ⟨_,rfl,fun a hF=>JR hF hH ?_⟩;refine Jg (Ec rfl) rfl (Jf (Ja (hK3 (JW rfl (fun h10=>?_) (fun h10=>?_)))))
 ·
  refine Je fun _ hK4 _=>(Jb (Jg (Jd rfl) rfl (Jf (Ja (hK4 (Jl (Jh (Jk rfl (Res.tmp rfl) fun w hH=>?_))))))));replace hH:=hH.tail;replace hH:=hH.tail;exact ⟨rb (nott h10).symm,hH⟩
 ·
  refine Ji (Ja (hK2 (Je fun _ hK5 _=>(Jb (Jg (Jd rfl) rfl (Jf (Ja (hK5 (Jl (Jk rfl (Res.tmp rfl) fun w hH=>?_))))))))));replace hH:=hH.tail;replace hH:=hH.tail;exact ⟨rb (notf h10).symm,hH⟩
theorem l01Before_c {B:World} {H0 H:HP} {L:List SA} {w:World} {a:List Int} {b:List Int} (ha:Mono a) (hb:Mono b) (hH:Hp B H0 H L w):Calls Tryz.prog 64 [.agg (bytesC a).toArray,.agg (bytesC b).toArray].toArray w fun e w'=>e = .returned (.bool (before a b))∧Hp B H0 H L w':=by
 refine Jt Tryz.func64 rfl 24 rfl rfl [(0,.agg (bytesC a).toArray),(1,.agg (bytesC b).toArray)] rfl hH ?_;have hal:=ha.len;have hbl:=hb.len;clear hH;refine Je fun _ hK1 _=>(Jb (Eo rfl rfl rfl fun g2=>(Eo rfl rfl rfl fun g3=>(Jg (Jd rfl) rfl (Jf (Ja (hK1 (Je fun _ hK2 _=>(Je fun _ hK3 _=>(Jb (Jg (Jd rfl) rfl (Jf (Ja (hK3 (Jo (JC (σ:=Nat) (fun (k:Nat)=>[(5,.int .i64 (k:Int))]) (fun (k:Nat)=>H) (fun (k:Nat)=>obj g3 (.cells (bytesC b).toArray 65 (0,0))::obj g2 (.cells (bytesC a).toArray 65 (0,0))::L) (fun (k:Nat)=>k≤8∧∀j,j<k→a.getD j 0=b.getD j 0) (fun (k:Nat)=>8 - k) 0 ⟨by omega,fun j hj=>by omega⟩ ⟨rfl,trivial⟩ rfl rfl ?_))))))))))))))));rintro k hI _ hAg0;have hk:=hI.1;refine Je fun _ hK4 _=>(Je fun _ hK5 _=>(Jb (Jg (Jc rfl) rfl (Jg (JJ rfl rfl) rfl (Jf (Ja (hK5 (Jj rfl (fun hc7=>?_) (fun hc7=>?_)))))))))
 ·
  refine Ji (Ja (hK4 (Je fun _ hK6 _=>(Jo (Je fun _ hK7 _=>(CJ.regionD foll0 (by kernel_rfl) (JI (Jc rfl) rfl (JI (JP u65 sz5 rfl rfl rfl (by omega)) rfl (JI (JB rfl (.s .z) (by first | exact bytesC_get (by simp [*];omega) | exact intsC_get (by simp [*];omega)) pl5) rfl (JI (Jc rfl) rfl (JI (JP u65 sz5 rfl rfl rfl (by omega)) rfl (JI (JB rfl At.z (by first | exact bytesC_get (by simp [*];omega) | exact intsC_get (by simp [*];omega)) pl5) rfl (JI (Ej rfl rfl) rfl (Ek (Ja (hK7 ?_))))))))))))))));refine Jj rfl (fun h16=>?_) (fun h16=>?_)
  ·
   refine Je fun _ hK8 _=>(CJ.regionD foll0 (by kernel_rfl) (JI (Jc rfl) rfl (JI (JP u65 sz5 rfl rfl rfl (by omega)) rfl (JI (JB rfl (.s .z) (by first | exact bytesC_get (by simp [*];omega) | exact intsC_get (by simp [*];omega)) pl5) rfl (JI (Jc rfl) rfl (JI (JP u65 sz5 rfl rfl rfl (by omega)) rfl (JI (JB rfl At.z (by first | exact bytesC_get (by simp [*];omega) | exact intsC_get (by simp [*];omega)) pl5) rfl (JI (JZ rfl rfl) rfl (JI (Jd rfl) rfl (Ek (Ja (hK8 (Jl (Jw (Jh ?_)))))))))))))));refine Jh (Jw (Jh (Jk rfl (Res.tmp rfl) fun w hH=>?_)));replace hH:=hH.tail;replace hH:=hH.tail;exact ⟨rb (before_hit (by omega) hI.2 h16).symm,hH⟩
  ·
   refine Ji (JE (Ja (hK6 (Jb (Jg (Jc rfl) rfl (Jg (Jx rfl rfl (by first | exact nw _ (by omega) | rfl)) rfl (Jg (Jd rfl) rfl (Jf (Ja ?_)))))))));exact hAg0 (k+1) ⟨by omega,upto hI.2 (by omega)⟩ (by omega) 13 rfl rfl ⟨rfl,trivial⟩ rfl rfl
 ·
  refine JK (Jm (Jm (JO (Ja (hK2 (Je fun _ hK9 _=>(Jb (Jg (Jd rfl) rfl (Jf (Ja (hK9 (Jl (Jk rfl (Res.tmp rfl) fun w hH=>?_)))))))))))));replace hH:=hH.tail;replace hH:=hH.tail;exact ⟨rb (before_miss (fun j hj=>hI.2 j (by omega))).symm,hH⟩
theorem compare_c {B:World} {H0 H:HP} {L:List SA} {w:World} {a:List Int} {b:List Int} (ha:a.length=8) (hb:b.length=8) (hsa:Small a) (hsb:Small b) (hH:Hp B H0 H L w):Calls Tryz.prog 72 [.agg (intsC a).toArray,.agg (intsC b).toArray].toArray w fun e w'=>e = .returned (.int .i64 (cmp a b))∧Hp B H0 H L w':=by
 refine Jt Tryz.func72 rfl 24 rfl rfl [(0,.agg (intsC a).toArray),(1,.agg (intsC b).toArray)] rfl hH ?_;clear hH;refine Je fun _ hK1 _=>(Jb (Eo rfl rfl rfl fun g2=>(Eo rfl rfl rfl fun g3=>(Jg (Jd rfl) rfl (Jf (Ja (hK1 (Je fun _ hK2 _=>(Je fun _ hK3 _=>(Jb (Jg (Jc rfl) rfl (Jf (Ja (hK3 (Jo (JC (σ:=Nat) (fun (k:Nat)=>[(6,.int .i64 (k:Int))]) (fun (k:Nat)=>H) (fun (k:Nat)=>obj g3 (.cells (intsC b).toArray 97 (0,0))::obj g2 (.cells (intsC a).toArray 97 (0,0))::L) (fun (k:Nat)=>k≤8∧∀j,j<k→a.getD j 0=b.getD j 0) (fun (k:Nat)=>8 - k) 0 ⟨by omega,fun j hj=>by omega⟩ ⟨rfl,trivial⟩ rfl rfl ?_))))))))))))))));rintro k hI _ hAg0;have hk:=hI.1;have ba:=hsa k;have bb:=hsb k;refine Je fun _ hK4 _=>(Jb (Jg (JJ rfl rfl) rfl (Jf (Ja (hK4 (Je fun _ hK5 _=>(Jj rfl (fun hc7=>?_) (fun hc7=>?_))))))))
 ·
  refine Ji (Ja (hK5 (Je fun _ hK6 _=>(Jo (Je fun _ hK7 _=>(Jb (Jg (Jc rfl) rfl (Jg (Jd rfl) rfl (Jf (Ja (hK7 (Je fun _ hK8 _=>(CJ.regionD foll0 (by kernel_rfl) (JI (Jc rfl) rfl (JI (JP u97 sz3 rfl rfl rfl (by omega)) rfl (JI (JB rfl (.s .z) (by first | exact bytesC_get (by simp [*];omega) | exact intsC_get (by simp [*];omega)) pl3) rfl ?_))))))))))))))));refine JI (Jc rfl) rfl (JI (JP u97 sz3 rfl rfl rfl (by omega)) rfl (JI (JB rfl At.z (by first | exact bytesC_get (by simp [*];omega) | exact intsC_get (by simp [*];omega)) pl3) rfl (JI (Ej rfl rfl) rfl (Ek (Ja (hK8 (Jj rfl (fun h15=>?_) (fun h15=>?_))))))))
  ·
   refine Je fun _ hK9 _=>(CJ.regionD foll0 (by kernel_rfl) (JI (Jc rfl) rfl (JI (JP u97 sz3 rfl rfl rfl (by omega)) rfl (JI (JB rfl At.z (by first | exact bytesC_get (by simp [*];omega) | exact intsC_get (by simp [*];omega)) pl3) rfl (JI (Jc rfl) rfl (JI (JP u97 sz3 rfl rfl rfl (by omega)) rfl (JI (JB rfl (.s .z) (by first | exact bytesC_get (by simp [*];omega) | exact intsC_get (by simp [*];omega)) pl3) rfl (JI (PR.sub rfl rfl (by first | exact nw _ (by omega) | rfl)) rfl (JI (Jd rfl) rfl (Ek (Ja (hK9 (Jl (Jw (Jh ?_)))))))))))))));refine Jh (Jw (Jh (Jk rfl (Res.tmp rfl) fun w hH=>?_)));replace hH:=hH.tail;replace hH:=hH.tail;exact ⟨ri (cmp_hit (by omega) hI.2 h15).symm,hH⟩
  ·
   refine Ji (JE (Ja (hK6 (Jb (Jg (Jx rfl rfl (by first | exact nw _ (by omega) | rfl)) rfl (Jg (Jc rfl) rfl (Jf (Ja ?_))))))));exact hAg0 (k+1) ⟨by omega,upto hI.2 (by omega)⟩ (by omega) 13 rfl rfl ⟨rfl,trivial⟩ rfl rfl
 ·
  refine JK (Jm (Jm (JO (Ja (hK2 (Je fun _ hK10 _=>(Jb (Jg (Jd rfl) rfl (Jf (Ja (hK10 (Jl (Jk rfl (Res.tmp rfl) fun w hH=>?_)))))))))))));replace hH:=hH.tail;replace hH:=hH.tail;exact ⟨ri (cmp_miss (fun j hj=>hI.2 j (by omega))).symm,hH⟩
theorem isFactor_c {B:World} {H0 H:HP} {L:List SA} {w:World} {x:Int} (hH:Hp B H0 H L w):Calls Tryz.prog 70 [.int .i64 x].toArray w fun e w'=>e = .returned (.bool (decide (1≤x) && decide (x≤10006)))∧Hp B H0 H L w':=by
 refine Jt Tryz.func70 rfl 5 rfl rfl [(0,.int .i64 x)] rfl hH ?_;clear hH;refine Je fun _ hK1 _=>(Jb (Jg (Jd rfl) rfl (Jf (Ja (hK1 (Je fun _ hK2 _=>(Jb (Jg (Jc rfl) rfl (JA fn45 rfl rfl fun w hH=>(within_c hH).mono ?_)))))))));rintro _ w ⟨rfl,hH⟩;refine ⟨_,rfl,fun a hF=>JR hF hH ?_⟩;refine Jg (Jd rfl) rfl (Jf (Ja (hK2 (Jl (Jk rfl (Res.tmp rfl) fun w hH=>?_)))));exact ⟨rfl,hH⟩
theorem ze69:Zero Tryz.prog 69 [.int .u8 0,.int .u8 0,.int .u8 0,.int .u8 0,.int .u8 0,.int .u8 0,.int .u8 0,.int .u8 0,.int .i64 0]:=by unfold Zero;kernel_rfl
theorem fn63:Fn Tryz.prog 63:=⟨_,Tryz.func63,by kernel_rfl,rfl⟩
theorem fn64:Fn Tryz.prog 64:=⟨_,Tryz.func64,by kernel_rfl,rfl⟩
theorem fn69:Fn Tryz.prog 69:=⟨_,Tryz.func69,by kernel_rfl,rfl⟩
theorem fn70:Fn Tryz.prog 70:=⟨_,Tryz.func70,by kernel_rfl,rfl⟩
theorem fn71:Fn Tryz.prog 71:=⟨_,Tryz.func71,by kernel_rfl,rfl⟩
theorem fn72:Fn Tryz.prog 72:=⟨_,Tryz.func72,by kernel_rfl,rfl⟩
theorem good_mono {ds:List Int} {ts:List Term} {i:Nat} (h:isMono ds (tm ts i).mono=false):goodAt ds ts i=false:=by unfold goodAt;rw [h];rfl
theorem good_fac {ds:List Int} {ts:List Term} {i:Nat} (h:(decide (1≤(tm ts i).fac) && decide ((tm ts i).fac≤10006))=false):goodAt ds ts i=false:=by unfold goodAt;rw [h,Bool.and_false];rfl
theorem good_ord {ds:List Int} {ts:List Term} {i:Nat} (h0:0<i) (h:before (tm ts (i - 1)).mono (tm ts i).mono=false):goodAt ds ts i=false:=by unfold goodAt;rw [h,show decide (i=0)=false from decide_eq_false (by omega)];simp
theorem good_yes {ds:List Int} {ts:List Term} {i:Nat} (h1:isMono ds (tm ts i).mono=true) (h2:(decide (1≤(tm ts i).fac) && decide ((tm ts i).fac≤10006))=true) (h3:i=0∨before (tm ts (i - 1)).mono (tm ts i).mono=true):goodAt ds ts i=true:=by
 unfold goodAt;rw [h1,h2]
 rcases h3 with h3 | h3
 ·rw [decide_eq_true h3];rfl
 ·rw [h3];simp
theorem before_le {p q:List Int} (h:cmp p q≥0):before p q=false:=decide_eq_false (by omega)
theorem before_lt {p q:List Int} (h : ¬cmp p q≥0):before p q=true:=decide_eq_true (by omega)
theorem isForm_c {B:World} {H0 H:HP} {L:List SA} {w:World} {qds:Option Addr} {cds:Nat} {ds:List Int} {qts:Option Addr} {cts:Nat} {ts:List Term} (hds:Ints H qds ds) (hts:Terms H qts ts) (hn:ds.length≤1048576) (hl:ts.length≤9223372036854775807) (hH:Hp B H0 H L w):Calls Tryz.prog 47 [.slice qds ds.length cds,.agg [.slice qts ts.length cts].toArray].toArray w fun e w'=>e = .returned (.bool (isForm ds ts))∧Hp B H0 H L w':=by
 refine Jt Tryz.func47 rfl 48 rfl rfl [(0,.slice qds ds.length cds),(1,.agg [.slice qts ts.length cts].toArray)] rfl hH ?_;clear hH;refine Je fun _ hK1 _=>(Jb (Eo rfl rfl rfl fun g3=>(Jg (Jd rfl) rfl (Jf (Ja (hK1 (Je fun _ hK2 _=>(Je fun _ hK3 _=>(Jb (Jg (JG u33 rfl sz31 rfl) rfl (Jg (JB rfl At.z rfl pl31) rfl (Jg (Jp u31 rfl rfl) rfl (Jg (JZ rfl rfl) rfl (Jf (Ja (hK3 ?_))))))))))))))));refine Jj rfl (fun h10=>?_) (fun h10=>?_)
 ·
  refine Je fun _ hK4 _=>(Jb (Jg (Jd rfl) rfl (Jf (Ja (hK4 (Jl (Jh (Jk rfl (Res.tmp rfl) fun w hH=>?_))))))));replace hH:=hH.tail;exact ⟨rb (isForm_long (by omega)).symm,hH⟩
 ·
  refine Ji (Ja (hK2 (Je fun _ hK5 _=>(Je fun _ hK6 _=>(Jb (Jg (JG u33 rfl sz31 rfl) rfl (Jg (JB rfl At.z rfl pl31) rfl (Jg (Jp u31 rfl rfl) rfl (Jg (Jc rfl) rfl (Jf (Ja (hK6 (Jo (JC (σ:=Nat) (fun (k:Nat)=>[(14,.int .i64 (k:Int))]) (fun (k:Nat)=>H) (fun (k:Nat)=>obj g3 (.cells [.slice qts ts.length cts].toArray 33 (0,0))::L) (fun (k:Nat)=>k≤ts.length∧∀j,j<k→goodAt ds ts j=true) (fun (k:Nat)=>ts.length - k) 0 ⟨by omega,fun j hj=>by omega⟩ ⟨rfl,trivial⟩ rfl rfl ?_))))))))))))));rintro k hI _ hAg0;have hk:=hI.1;refine Je fun _ hK7 _=>(Jb (Jg (JJ rfl rfl) rfl (Jf (Ja (hK7 (Je fun _ hK8 _=>(Jj rfl (fun hc15=>?_) (fun hc15=>?_))))))))
  ·
   refine Ji (Ja (hK8 (Je fun _ hK9 _=>(Jo (Je fun _ hK10 _=>(Jb (Jg (Jc rfl) rfl (Jg (Ep u31 sz69 rfl rfl rfl (by omega) hts.sm) rfl (Jg (Ea rfl (hts.cell _ (by omega)) (hts.sm (i:=k) (by omega)) (by rw [Term.c_length (hts.wf _ (by omega))];exact ag69)) rfl (JU (cs:=(default:Term).c) ze69 rfl fun g6=>(Jg (Jd rfl) rfl (J.stTerm rfl rfl sz69 zero_wf (hts.wf k (by omega)) At.z (Jf (Ja (hK10 (Je fun _ hK11 _=>?_))))))))))))))));refine Je fun _ hK12 _=>(Jb (Jg (Jc rfl) rfl (Jg (JG u69 rfl sz65 rfl) rfl (Jg (PR.ldMono rfl At.z (hts.wf k (by omega)) ag65) rfl (JA fn69 rfl rfl fun w hH=>(isMonomial_c hds (hts.wf k (by omega)).mono (by omega) hH).mono ?_)))));rintro _ w ⟨rfl,hH⟩;refine ⟨_,rfl,fun a hF=>JR hF hH ?_⟩;refine Jg (Ec rfl) rfl (Jg (Jc rfl) rfl (JQ (jd:=24) rfl (fun h24=>?_) (fun h24=>?_)))
   ·
    try have h24p:=of_decide_eq_true h24
    refine Jz rfl rfl rfl h24 (Jz rfl rfl rfl h24 (Jz rfl rfl rfl h24 (Jz rfl rfl rfl h24 (Jg (JH rfl h24 rfl) rfl (Jf (Ja (hK12 (En rfl (Je fun _ hK13 _=>(Jb (Jg (Jd rfl) rfl (Jf (Ja (hK13 (Jl (Jh ?_))))))))))))))));refine Jw (Jh (Jh (Jw (Jh (Jk rfl (Res.tmp rfl) fun w hH=>?_)))));replace hH:=hH.tail;replace hH:=hH.tail;exact ⟨rb (isForm_bad (k:=k) (by omega) (good_mono (nott h24))).symm,hH⟩
   ·
    try have h24p:=of_decide_eq_false h24
    refine JL (JG u69 rfl sz2 rfl) rfl rfl rfl h24 (JL (PR.ldFac rfl At.z (hts.wf k (by omega)) pl2) rfl rfl rfl h24 (J.gcall fn70 rfl rfl h24 rfl rfl fun w hH=>(isFactor_c hH).mono ?_));rintro _ w ⟨rfl,hH⟩;refine ⟨_,rfl,fun a hF=>JR hF hH ?_⟩;refine JL (Ec rfl) rfl rfl rfl h24 (Jg (JD rfl h24 rfl) rfl (Jf (Ja (hK12 (JW rfl (fun h29=>?_) (fun h29=>?_))))))
    ·
     refine Je fun _ hK14 _=>(Jb (Jg (Jd rfl) rfl (Jf (Ja (hK14 (Jl (Jh (Jw (Jh (Jh (Jw (Jh (Jk rfl (Res.tmp rfl) fun w hH=>?_)))))))))))));replace hH:=hH.tail;replace hH:=hH.tail;exact ⟨rb (isForm_bad (k:=k) (by omega) (good_fac (nott h29))).symm,hH⟩
    ·
     refine Ji (Ja (hK11 (Je fun _ hK15 _=>(CJ.head [[], [0], [1], [2], [3,2], [2], [5,2], [4,6,2], [7,2], [8,2], [9,2], [2], [11,2]] (by kernel_rfl) (JF (fun gh=>Jc rfl) (JF (fun gh=>JZ rfl rfl) (JF (fun gh=>Jc rfl) (HJ.splitB 2 rfl (fun h32=>?_) (fun h32=>?_)))))))))
     ·
      try have h32p:=of_decide_eq_true h32
      refine Eh (fun gh=>JG u33 rfl sz31 rfl) rfl (fun gh=>rfl) h32 (Eh (fun gh=>JB rfl (.s .z) rfl pl31) rfl (fun gh=>rfl) h32 (Eh (fun gh=>Jc rfl) rfl (fun gh=>rfl) h32 (Eh (fun gh=>PR.sub rfl rfl (by first | exact nw _ (by omega) | rfl)) rfl (fun gh=>rfl) h32 (Eh (fun gh=>Ep (i':=(k - 1)) u31 sz69 rfl rfl (by omega) (by omega) hts.sm) rfl (fun gh=>rfl) h32 (Eh (fun gh=>PR.fldP u69 rfl sz65 rfl (hts.sm (i:=(k - 1)) (by omega))) rfl (fun gh=>rfl) h32 (Eh (fun gh=>Ea rfl (hts.mono (by omega)) (hts.sm (i:=(k - 1)) (by omega)) (by rw [bytesC_length,(hts.wf _ (by omega)).mono.len];exact ag65)) rfl (fun gh=>rfl) h32 (HJ.gcall fn71 rfl (fun gh=>rfl) h32 (fun gh=>rfl) (fun w X hH=>powerOf_c (hts.wf (k - 1) (by omega)).mono hH) (Eh (fun gh=>JG u69 rfl sz65 rfl) rfl (fun gh=>rfl) h32 (Eh (fun gh=>PR.ldMono rfl At.z (hts.wf k (by omega)) ag65) rfl (fun gh=>rfl) h32 (El 13 2 foll0 (by kernel_rfl) rfl rfl fun gh=>(J.conv (us':=(30,_)::(31,_)::(32,_)::(33,_)::(34,_)::(35,_)::(36,_)::(37,_)::(38,_)::(39,_)::(40,_)::(41,_)::(42,_)::_) (L':=_) rfl rfl (J.gcall fn71 rfl rfl h32 rfl rfl fun w hH=>(powerOf_c (hts.wf k (by omega)).mono hH).mono ?_))))))))))));rintro _ w ⟨rfl,hH⟩;refine ⟨_,rfl,fun a hF=>JR hF hH ?_⟩;refine J.gcall fn72 rfl rfl h32 rfl rfl fun w hH=>(compare_c (hts.wf (k - 1) (by omega)).mono.len (hts.wf k (by omega)).mono.len (hts.wf _ (by omega)).mono.small (hts.wf _ (by omega)).mono.small hH).mono ?_;rintro _ w ⟨rfl,hH⟩;refine ⟨_,rfl,fun a hF=>JR hF hH ?_⟩;refine Jf (Ei (JS.gy (PR.geq rfl rfl) rfl rfl rfl h32 (JI (JH rfl h32 rfl) rfl (Ek (Ja (hK15 (Jj rfl (fun h46=>?_) (fun h46=>?_))))))))
      ·
       refine Je fun _ hK16 _=>(Jb (Jg (Jd rfl) rfl (Jf (Ja (hK16 (Jl (Jw (Jh (Jh (Jw (Jh (Jk rfl (Res.tmp rfl) fun w hH=>?_))))))))))));replace hH:=hH.tail;replace hH:=hH.tail;exact ⟨rb (isForm_bad (k:=k) (by omega) (good_ord (by omega) (before_le h46))).symm,hH⟩
      ·
       refine Ji (JE (Ja (hK9 (Jb (Jg (Jx rfl rfl (by first | exact nw _ (by omega) | rfl)) rfl (Jg (Jc rfl) rfl (Jf (Ja (Em .z ?_)))))))));exact hAg0 (k+1) ⟨by omega,upto hI.2 (good_yes (notf h24) (notf h29) (.inr (before_lt h46)))⟩ (by omega) 37 rfl rfl ⟨rfl,trivial⟩ rfl rfl
     ·
      try have h32p:=of_decide_eq_false h32
      refine Eb rfl (fun gh=>rfl) h32 (Eb rfl (fun gh=>rfl) h32 (Eb rfl (fun gh=>rfl) h32 (Eb rfl (fun gh=>rfl) h32 (Eb rfl (fun gh=>rfl) h32 (Eb rfl (fun gh=>rfl) h32 (Eb rfl (fun gh=>rfl) h32 (Eb rfl (fun gh=>rfl) h32 (Eb rfl (fun gh=>rfl) h32 (Eb rfl (fun gh=>rfl) h32 (El 13 2 foll0 (by kernel_rfl) rfl rfl fun gh=>(J.conv (us':=(30,_)::(31,_)::(32,_)::(33,_)::(34,_)::(35,_)::(36,_)::(37,_)::(38,_)::(39,_)::(40,_)::(41,_)::(42,_)::_) (L':=_) rfl rfl (Jz rfl rfl rfl h32 (Jz rfl rfl rfl h32 (Jf ?_))))))))))))));refine Ei (JS.gn rfl rfl rfl h32 (JI (JD rfl h32 rfl) rfl (Ek (Ja (hK15 (CJ.condF rfl (Ji (JE (Ja (hK9 (Jb (Jg (Jx rfl rfl (by first | exact nw _ (by omega) | rfl)) rfl (Jg (Jc rfl) rfl (Jf (Ja (Em .z ?_))))))))))))))));exact hAg0 (k+1) ⟨by omega,upto hI.2 (good_yes (notf h24) (notf h29) (.inl (by omega)))⟩ (by omega) 37 rfl rfl ⟨rfl,trivial⟩ rfl rfl
  ·
   refine JK (Jm (Jm (JO (Ja (hK5 (Je fun _ hK17 _=>(Jb (Jg (Jd rfl) rfl (Jf (Ja (hK17 (Jl (Jk rfl (Res.tmp rfl) fun w hH=>?_)))))))))))));replace hH:=hH.tail;exact ⟨rb ((isForm_good (fun j hj=>hI.2 j (by omega))).trans (decide_eq_true (by omega))).symm,hH⟩
theorem l01Is_c {B:World} {H0 H:HP} {L:List SA} {w:World} {qds:Option Addr} {cds:Nat} {ds:List Int} {qts:Option Addr} {cts:Nat} {ts:List Term} (hds:Ints H qds ds) (hts:Terms H qts ts) (hn:ds.length≤1048576) (hp : ∀j,j<ds.length→0≤ds.getD j 0) (hl:ts.length≤9223372036854775807) (hH:Hp B H0 H L w):Calls Tryz.prog 41 [.slice qds ds.length cds,.agg [.slice qts ts.length cts].toArray].toArray w fun e w'=>e = .returned (.bool (isForm ds ts))∧Hp B H0 H L w':=by
 refine Jt Tryz.func41 rfl 51 rfl rfl [(0,.slice qds ds.length cds),(1,.agg [.slice qts ts.length cts].toArray)] rfl hH ?_;clear hH;refine Je fun _ hK1 _=>(Jb (Eo rfl rfl rfl fun g3=>(Jg (Jd rfl) rfl (Jf (Ja (hK1 (Je fun _ hK2 _=>(Je fun _ hK3 _=>(Jb (Jg (Jd rfl) rfl (Jf (Ja (hK3 (Jo (JC (σ:=Nat) (fun (k:Nat)=>[(5,.int .i64 (k:Int))]) (fun (k:Nat)=>H) (fun (k:Nat)=>obj g3 (.cells [.slice qts ts.length cts].toArray 33 (0,0))::L) (fun (k:Nat)=>k≤ts.length∧∀j,j<k→goodAt ds ts j=true) (fun (k:Nat)=>ts.length - k) 0 ⟨by omega,fun j hj=>by omega⟩ ⟨rfl,trivial⟩ rfl rfl ?_)))))))))))))));rintro k hI _ hAg0;have hk:=hI.1;refine Je fun _ hK4 _=>(Je fun _ hK5 _=>(Jb (Jg (Jc rfl) rfl (Jg (JG u33 rfl sz31 rfl) rfl (Jg (JB rfl At.z rfl pl31) rfl (Jg (Jp u31 rfl rfl) rfl (Jg (JJ rfl rfl) rfl (Jf (Ja (hK5 (Jj rfl (fun hc11=>?_) (fun hc11=>?_))))))))))))
 ·
  refine Ji (Ja (hK4 (Je fun _ hK6 _=>(Jo (Je fun _ hK7 _=>(Jb (Jg (JG u33 rfl sz31 rfl) rfl (Jg (JB rfl At.z rfl pl31) rfl (Jg (Jc rfl) rfl (Jg (Ep u31 sz69 rfl rfl rfl (by omega) hts.sm) rfl (Jg (Ea rfl (hts.cell _ (by omega)) (hts.sm (i:=k) (by omega)) (by rw [Term.c_length (hts.wf _ (by omega))];exact ag69)) rfl (JU (cs:=(default:Term).c) ze69 rfl fun g6=>(J.stTerm rfl rfl sz69 zero_wf (hts.wf k (by omega)) At.z (Jf (Ja (hK7 ?_))))))))))))))));refine Je fun _ hK8 _=>(CJ.head [[], [], [1], [0,2], [3], [4], [5], [6,5], [7,5], [8,5], [5,9], [10], [11], [12,11], [13,11], [14], [15,14], [14], [17,14], [16,18,14], [19,14], [20,14], [14], [22,14]] (by kernel_rfl) (JF (fun gh=>Jc rfl) (JF (fun gh=>JG u69 rfl sz65 rfl) (JF (fun gh=>PR.ldMono rfl At.z (hts.wf k (by omega)) ag65) (HJ.call fn63 (fun gh=>rfl) (fun w X hH=>l01Mono_c hds (hts.wf k (by omega)).mono (by omega) hp hH) (JF (fun gh=>Ec rfl) (JF (fun gh=>Jc rfl) (HJ.splitB 5 rfl (fun h24=>?_) (fun h24=>?_)))))))))
  ·
   try have h24p:=of_decide_eq_true h24
   refine Eb rfl (fun gh=>rfl) h24 (Eb rfl (fun gh=>rfl) h24 (Eb rfl (fun gh=>rfl) h24 (Eb rfl (fun gh=>rfl) h24 (JF (fun gh=>JH rfl h24 rfl) (JF (fun gh=>Jc rfl) (Eb rfl (fun gh=>rfl) rfl (Eb rfl (fun gh=>rfl) rfl (Eb rfl (fun gh=>rfl) rfl (HJ.gu rfl (fun gh=>rfl) (HJ.gu rfl (fun gh=>rfl) (HJ.gu rfl (fun gh=>rfl) (HJ.gu rfl (fun gh=>rfl) (HJ.gu rfl (fun gh=>rfl) (HJ.gu rfl (fun gh=>rfl) ?_))))))))))))));refine HJ.gu rfl (fun gh=>rfl) (HJ.gu rfl (fun gh=>rfl) (HJ.gu rfl (fun gh=>rfl) (El 24 1 foll0 (by kernel_rfl) rfl rfl fun gh=>(J.conv (us':=(19,_)::(20,_)::(21,_)::(22,_)::(23,_)::(24,_)::(25,_)::(26,_)::(27,_)::(28,_)::(29,_)::(30,_)::(31,_)::(32,_)::(33,_)::(34,_)::(35,_)::(36,_)::(37,_)::(38,_)::(39,_)::(40,_)::(41,_)::(42,_)::_) (L':=_) rfl rfl (J.gu rfl rfl rfl (Jf (Ei (JS.gu rfl rfl rfl (JS.gn rfl rfl rfl rfl (JI (JH rfl rfl rfl) rfl (Ek (Ja (hK8 (En rfl (Je fun _ hK9 _=>?_)))))))))))))));refine Jb (Jg (Jd rfl) rfl (Jf (Ja (hK9 (Jl (Jw (Jh (Jh (Jw (Jh (Jk rfl (Res.tmp rfl) fun w hH=>?_)))))))))));replace hH:=hH.tail;replace hH:=hH.tail;exact ⟨rb (isForm_bad (k:=k) (by omega) (good_mono (nott h24))).symm,hH⟩
  ·
   try have h24p:=of_decide_eq_false h24
   refine Eh (fun gh=>JG u69 rfl sz2 rfl) rfl (fun gh=>rfl) h24 (Eh (fun gh=>PR.ldFac rfl At.z (hts.wf k (by omega)) pl2) rfl (fun gh=>rfl) h24 (HJ.gcall fn39 rfl (fun gh=>rfl) h24 (fun gh=>rfl) (fun w X hH=>l01In_c hH) (Eh (fun gh=>Ec rfl) rfl (fun gh=>rfl) h24 (JF (fun gh=>JD rfl h24 rfl) (JF (fun gh=>Jc rfl) (HJ.splitB 11 rfl (fun h30=>?_) (fun h30=>?_)))))))
   ·
    try have h30p:=of_decide_eq_true h30
    refine Eb rfl (fun gh=>rfl) h30 (Eb rfl (fun gh=>rfl) h30 (Eb rfl (fun gh=>rfl) h30 (HJ.gu rfl (fun gh=>rfl) (HJ.gu rfl (fun gh=>rfl) (HJ.gu rfl (fun gh=>rfl) (HJ.gu rfl (fun gh=>rfl) (HJ.gu rfl (fun gh=>rfl) (HJ.gu rfl (fun gh=>rfl) (HJ.gu rfl (fun gh=>rfl) (HJ.gu rfl (fun gh=>rfl) (HJ.gu rfl (fun gh=>rfl) (El 24 1 foll0 (by kernel_rfl) rfl rfl fun gh=>(J.conv (us':=(19,_)::(20,_)::(21,_)::(22,_)::(23,_)::(24,_)::(25,_)::(26,_)::(27,_)::(28,_)::(29,_)::(30,_)::(31,_)::(32,_)::(33,_)::(34,_)::(35,_)::(36,_)::(37,_)::(38,_)::(39,_)::(40,_)::(41,_)::(42,_)::_) (L':=_) rfl rfl (J.gu rfl rfl rfl ?_))))))))))))));refine Jf (Ei (JS.gu rfl rfl rfl (JS.gn rfl rfl rfl h30 (JI (JH rfl h30 rfl) rfl (Ek (Ja (hK8 (En rfl (Je fun _ hK10 _=>(Jb (Jg (Jd rfl) rfl (Jf (Ja (hK10 (Jl (Jw ?_))))))))))))))));refine Jh (Jh (Jw (Jh (Jk rfl (Res.tmp rfl) fun w hH=>?_))));replace hH:=hH.tail;replace hH:=hH.tail;exact ⟨rb (isForm_bad (k:=k) (by omega) (good_fac (nott h30))).symm,hH⟩
   ·
    try have h30p:=of_decide_eq_false h30
    refine Eh (fun gh=>Jc rfl) rfl (fun gh=>rfl) h30 (Eh (fun gh=>JZ rfl rfl) rfl (fun gh=>rfl) h30 (Eh (fun gh=>Jc rfl) rfl (fun gh=>rfl) h30 (HJ.splitB 14 rfl (fun h33=>?_) (fun h33=>?_))))
    ·
     try have h33p:=of_decide_eq_true h33
     refine Eh (fun gh=>JG u33 rfl sz31 rfl) rfl (fun gh=>rfl) h33 (Eh (fun gh=>JB rfl (.s .z) rfl pl31) rfl (fun gh=>rfl) h33 (Eh (fun gh=>Jc rfl) rfl (fun gh=>rfl) h33 (Eh (fun gh=>PR.sub rfl rfl (by first | exact nw _ (by omega) | rfl)) rfl (fun gh=>rfl) h33 (Eh (fun gh=>Ep (i':=(k - 1)) u31 sz69 rfl rfl (by omega) (by omega) hts.sm) rfl (fun gh=>rfl) h33 (Eh (fun gh=>PR.fldP u69 rfl sz65 rfl (hts.sm (i:=(k - 1)) (by omega))) rfl (fun gh=>rfl) h33 (Eh (fun gh=>Ea rfl (hts.mono (by omega)) (hts.sm (i:=(k - 1)) (by omega)) (by rw [bytesC_length,(hts.wf _ (by omega)).mono.len];exact ag65)) rfl (fun gh=>rfl) h33 (Eh (fun gh=>JG u69 rfl sz65 rfl) rfl (fun gh=>rfl) h33 (Eh (fun gh=>PR.ldMono rfl At.z (hts.wf k (by omega)) ag65) rfl (fun gh=>rfl) h33 (El 24 1 foll0 (by kernel_rfl) rfl rfl fun gh=>(J.conv (us':=(19,_)::(20,_)::(21,_)::(22,_)::(23,_)::(24,_)::(25,_)::(26,_)::(27,_)::(28,_)::(29,_)::(30,_)::(31,_)::(32,_)::(33,_)::(34,_)::(35,_)::(36,_)::(37,_)::(38,_)::(39,_)::(40,_)::(41,_)::(42,_)::_) (L':=_) rfl rfl (J.gcall fn64 rfl rfl h33 rfl rfl fun w hH=>(l01Before_c (hts.wf (k - 1) (by omega)).mono (hts.wf k (by omega)).mono hH).mono ?_)))))))))));rintro _ w ⟨rfl,hH⟩;refine ⟨_,rfl,fun a hF=>JR hF hH ?_⟩;refine Jf (Ei (JS.gy (Ec rfl) rfl rfl rfl h33 (JS.gy (JH rfl h33 rfl) rfl rfl rfl h30 (JI (JD rfl h30 rfl) rfl (Ek (Ja (hK8 (JW rfl (fun h46=>?_) (fun h46=>?_)))))))))
     ·
      refine Je fun _ hK11 _=>(Jb (Jg (Jd rfl) rfl (Jf (Ja (hK11 (Jl (Jw (Jh (Jh (Jw (Jh (Jk rfl (Res.tmp rfl) fun w hH=>?_))))))))))));replace hH:=hH.tail;replace hH:=hH.tail;exact ⟨rb (isForm_bad (k:=k) (by omega) (good_ord (by omega) (nott h46))).symm,hH⟩
     ·
      refine Ji (JE (Ja (hK6 (Jb (Jg (Jc rfl) rfl (Jg (Jx rfl rfl (by first | exact nw _ (by omega) | rfl)) rfl (Jg (Jd rfl) rfl (Jf (Ja (Em .z ?_))))))))));exact hAg0 (k+1) ⟨by omega,upto hI.2 (good_yes (notf h24) (notf h30) (.inr (notf h46)))⟩ (by omega) 43 rfl rfl ⟨rfl,trivial⟩ rfl rfl
    ·
     try have h33p:=of_decide_eq_false h33
     refine Eb rfl (fun gh=>rfl) h33 (Eb rfl (fun gh=>rfl) h33 (Eb rfl (fun gh=>rfl) h33 (Eb rfl (fun gh=>rfl) h33 (Eb rfl (fun gh=>rfl) h33 (Eb rfl (fun gh=>rfl) h33 (Eb rfl (fun gh=>rfl) h33 (Eb rfl (fun gh=>rfl) h33 (Eb rfl (fun gh=>rfl) h33 (El 24 1 foll0 (by kernel_rfl) rfl rfl fun gh=>(J.conv (us':=(19,_)::(20,_)::(21,_)::(22,_)::(23,_)::(24,_)::(25,_)::(26,_)::(27,_)::(28,_)::(29,_)::(30,_)::(31,_)::(32,_)::(33,_)::(34,_)::(35,_)::(36,_)::(37,_)::(38,_)::(39,_)::(40,_)::(41,_)::(42,_)::_) (L':=_) rfl rfl (Jz rfl rfl rfl h33 (Jf (Ei (JS.gn rfl rfl rfl h33 ?_))))))))))))));refine JS.gy (JD rfl h33 rfl) rfl rfl rfl h30 (JI (JD rfl h30 rfl) rfl (Ek (Ja (hK8 (CJ.condF rfl (Ji (JE (Ja (hK6 (Jb (Jg (Jc rfl) rfl (Jg (Jx rfl rfl (by first | exact nw _ (by omega) | rfl)) rfl (Jg (Jd rfl) rfl (Jf (Ja (Em .z ?_))))))))))))))));exact hAg0 (k+1) ⟨by omega,upto hI.2 (good_yes (notf h24) (notf h30) (.inl (by omega)))⟩ (by omega) 43 rfl rfl ⟨rfl,trivial⟩ rfl rfl
 ·
  refine JK (Jm (Jm (JO (Ja (hK2 (Je fun _ hK12 _=>(Jb (Jg (JG u33 rfl sz31 rfl) rfl (Jg (JB rfl At.z rfl pl31) rfl (Jg (Jp u31 rfl rfl) rfl (Jg (PR.leq rfl rfl) rfl (Jg (Jd rfl) rfl (Jf (Ja (hK12 (Jl ?_))))))))))))))));refine Jk rfl (Res.tmp rfl) fun w hH=>?_;replace hH:=hH.tail;exact ⟨rb (isForm_good (fun j hj=>hI.2 j (by omega))).symm,hH⟩
theorem markInt64S_s {B:World} {H0 H:HP} {L:List SA} {w:World} {gxs mxs cxs:Nat} {xs:List Value} {k:Int} (hm:mxs≤xs.length) (hn:0≤k∧k+mxs≤9223372036854775807) (hH:Hp B H0 H (obj gxs (.cells xs.toArray 2 (0,0))::L) w):Calls Tryz.prog 15 [.slice (some ⟨gxs,0,none⟩) mxs cxs,.int .i64 k].toArray w fun e w'=>e = .returned (.int .i64 (k+mxs))∧Hp B H0 H (obj gxs (.cells (intsC (marks k mxs)++xs.drop mxs).toArray 2 (0,0))::L) w':=by
 refine Jt Tryz.func15 rfl 19 rfl rfl [(0,.slice (some ⟨gxs,0,none⟩) mxs cxs),(1,.int .i64 k)] rfl hH ?_;clear hH;refine Je fun _ hK1 _=>(Jb (Jg (Jd rfl) rfl (Jf (Ja (hK1 (Je fun _ hK2 _=>(Je fun _ hK3 _=>(Jb (Jg (Jd rfl) rfl (Jf (Ja (hK3 (Jo (JC (σ:=Nat) (fun (i:Nat)=>[(5,.int .i64 (i:Int)),(1,.int .i64 (k+i))]) (fun (i:Nat)=>H) (fun (i:Nat)=>obj gxs (.cells ((intsC (marks k mxs)).take i++xs.drop i).toArray 2 (0,0))::L) (fun (i:Nat)=>i≤mxs) (fun (i:Nat)=>mxs - i) 0 (by omega) ⟨rfl,⟨(vi (by omega)),trivial⟩⟩ rfl (by simp) ?_))))))))))))));rintro i hI _ hAg0;have hk:=hI;refine Je fun _ hK4 _=>(Je fun _ hK5 _=>(Jb (Jg (Jc rfl) rfl (Jg (Jc rfl) rfl (Jg (Jp u22 rfl rfl) rfl (Jg (JJ rfl rfl) rfl (Jf (Ja (hK5 (Jj rfl (fun hc9=>?_) (fun hc9=>?_)))))))))))
 ·
  refine Ji (Ja (hK4 (Je fun _ hK6 _=>(Jo (Je fun _ hK7 _=>(Jb (Jg (Jc rfl) rfl (Jg (Jc rfl) rfl (Jg (Jc rfl) rfl (Jg (PR.idxO1 u22 sz2 rfl rfl rfl (by omega)) rfl (J.store rfl rfl rfl rfl sz2 (by simp;omega) .z (Jf (Ja (hK7 (Jb (Jg (Jc rfl) rfl ?_))))))))))))))));refine Jg (Jx rfl rfl (by first | exact nw _ (by omega) | rfl)) rfl (Jg (Jd rfl) rfl (Jf (JE (Ja (hK6 (Jb (Jg (Jc rfl) rfl (Jg (Jx rfl rfl (by first | exact nw _ (by omega) | rfl)) rfl (Jg (Jd rfl) rfl (Jf (Ja ?_)))))))))));exact hAg0 (i+1) (by omega) (by omega) 16 rfl rfl ⟨rfl,⟨(vi (by omega)),trivial⟩⟩ rfl (by rw [← fill_flat (by omega) (marksC_get (by omega))])
 ·
  refine JK (Jm (Jm (JO (Ja (hK2 (Je fun _ hK8 _=>(Jb (Jg (Jc rfl) rfl (Jg (Jd rfl) rfl (Jf (Ja (hK8 (Jl (Jk rfl (Res.tmp rfl) fun w hH=>?_))))))))))))))
  obtain rfl:i=mxs:=by omega
  exact ⟨rfl,by simpa [List.take_of_length_le] using hH⟩
theorem markInt64S_0 {B:World} {H0 H:HP} {L:List SA} {w:World} {qxs:Option Addr} {cxs:Nat} {k:Int} (hH:Hp B H0 H L w):Calls Tryz.prog 15 [.slice qxs 0 cxs,.int .i64 k].toArray w fun e w'=>e = .returned (.int .i64 k)∧Hp B H0 H L w':=by
 refine Jt Tryz.func15 rfl 19 rfl rfl [(0,.slice qxs 0 cxs),(1,.int .i64 k)] rfl hH ?_;clear hH;refine Je fun _ hK1 _=>(Jb (Jg (Jd rfl) rfl (Jf (Ja (hK1 (Je fun _ hK2 _=>(Je fun _ hK3 _=>(Jb (Jg (Jd rfl) rfl (Jf (Ja (hK3 (Jo (JC (σ:=Unit) (fun (_:Unit)=>[(5,.int .i64 0),(1,.int .i64 k)]) (fun (_:Unit)=>H) (fun (_:Unit)=>L) (fun (_:Unit)=>True) (fun (_:Unit)=>0) () trivial ⟨rfl,⟨rfl,trivial⟩⟩ rfl rfl ?_))))))))))))));rintro _ hI _ hAg0;refine Je fun _ hK4 _=>(Je fun _ hK5 _=>(Jb (Jg (Jc rfl) rfl (Jg (Jc rfl) rfl (Jg (Jp u22 rfl rfl) rfl (Jg (JJ rfl rfl) rfl (Jf (Ja (hK5 (Jj rfl (fun hc9=>?_) (fun hc9=>?_)))))))))))
 ·
  exact absurd hc9 (by simp)
 ·
  refine JK (Jm (Jm (JO (Ja (hK2 (Je fun _ hK6 _=>(Jb (Jg (Jc rfl) rfl (Jg (Jd rfl) rfl (Jf (Ja (hK6 (Jl (Jk rfl (Res.tmp rfl) fun w hH=>?_))))))))))))));exact ⟨rfl,hH⟩
theorem markInt64S_c {B:World} {H0 H:HP} {L:List SA} {w:World} {q:Option Addr} {c m:Nat} {cells:List Value} {k:Int} (hn:0≤k∧k+m≤9223372036854775807) (hH:Hp B H0 H (own 2 1 q m c cells::L) w):Calls Tryz.prog 15 [.slice q m c,.int .i64 k].toArray w fun e w'=>e = .returned (.int .i64 (k+m))∧Hp B H0 H (own 2 1 q m c (intsC (marks k m))::L) w':=by
 refine hH.openOwn (by decide) (fun h1 h2 h3 h4=>?_) (fun g cs h1 h2 h3 h4 h5 h6 hG=>?_)
 ·subst h1 h2 h3 h4;refine (markInt64S_0 hH).mono ?_;rintro _ w ⟨rfl,h⟩;exact ⟨by simp,h⟩
 ·subst h1;refine (markInt64S_s (xs:=cs) (by omega) hn hG).mono ?_;rintro _ w ⟨rfl,h⟩;exact ⟨rfl,h.shutOwn (by simp;omega) h4 h5 (by rw [Nat.mul_one,List.take_append_of_le_length (by simp),List.take_of_length_le (by simp)])⟩
def upd (out:List Int) (k n:Nat):List Int:=out.set k (out.getD k 0+out.getD (k - n) 0)
def passE (n:Nat):Nat→List Int→List Int
 | 0,out=>out
 | c+1,out=>upd (passE n c out) (n+c) n
def passO (n m:Nat):Nat→List Int→List Int
 | 0,out=>out
 | c+1,out=>upd (passO n m c out) (m - c) n
def pass (m:Nat) (d:Int) (out:List Int):List Int:=if d.tmod 2=1 then passO d.toNat m (m+1 - d.toNat) out else passE d.toNat (m+1 - d.toNat) out
@[simp] theorem upd_length (out:List Int) (k n:Nat):(upd out k n).length=out.length:=by simp [upd]
@[simp] theorem passE_length (n c:Nat) (out:List Int):(passE n c out).length=out.length:=by induction c with | zero=>rfl | succ c ih=>simp [passE,ih]
@[simp] theorem passO_length (n m c:Nat) (out:List Int):(passO n m c out).length=out.length:=by induction c with | zero=>rfl | succ c ih=>simp [passO,ih]
@[simp] theorem pass_length (m:Nat) (d:Int) (out:List Int):(pass m d out).length=out.length:=by unfold pass;split <;> simp
def cap:Nat→Int
 | 0=>1
 | i+1=>41 * cap i
theorem fn29:Fn Tryz.prog 29:=⟨_,Tryz.func29,by kernel_rfl,rfl⟩
theorem fn30:Fn Tryz.prog 30:=⟨_,Tryz.func30,by kernel_rfl,rfl⟩
theorem markTermS_s {B:World} {H0 H:HP} {L:List SA} {w:World} {gxs mxs cxs:Nat} {xs:List Value} {k:Int} (hm:mxs * 9≤xs.length) (hn:0≤k∧k+9 * mxs≤9223372036854775807) (hH:Hp B H0 H (obj gxs (.cells xs.toArray 69 (0,0))::L) w):Calls Tryz.prog 29 [.slice (some ⟨gxs,0,none⟩) mxs cxs,.int .i64 k].toArray w fun e w'=>e = .returned (.int .i64 (k+9 * mxs))∧Hp B H0 H (obj gxs (.cells (tsC (marksT k mxs)++xs.drop (mxs * 9)).toArray 69 (0,0))::L) w':=by
 refine Jt Tryz.func29 rfl 35 rfl rfl [(0,.slice (some ⟨gxs,0,none⟩) mxs cxs),(1,.int .i64 k)] rfl hH ?_;clear hH
 have hML:(tsC (marksT k mxs)).length=mxs * 9:=by rw [tsC_length (marksT_wfs hn),marksT_length]
 refine Je fun _ hK1 _=>(Jb (Jg (Jd rfl) rfl (Jf (Ja (hK1 (Je fun _ hK2 _=>(Je fun _ hK3 _=>(Jb (Jg (Jd rfl) rfl (Jf (Ja (hK3 (Jo (JC (σ:=Nat) (fun (i:Nat)=>[(5,.int .i64 (i:Int)),(1,.int .i64 (k+9 * i))]) (fun (i:Nat)=>H) (fun (i:Nat)=>obj gxs (.cells ((tsC (marksT k mxs)).take (i * 9)++xs.drop (i * 9)).toArray 69 (0,0))::L) (fun (i:Nat)=>i≤mxs) (fun (i:Nat)=>mxs - i) 0 (by omega) ⟨rfl,⟨(vi (by omega)),trivial⟩⟩ rfl (by simp) ?_))))))))))))));rintro i hI _ hAg0;have hk:=hI;refine Je fun _ hK4 _=>(Je fun _ hK5 _=>(Jb (Jg (Jc rfl) rfl (Jg (Jc rfl) rfl (Jg (Jp u31 rfl rfl) rfl (Jg (JJ rfl rfl) rfl (Jf (Ja (hK5 (Jj rfl (fun hc10=>?_) (fun hc10=>?_)))))))))))
 ·
  refine Ji (Ja (hK4 (Je fun _ hK6 _=>(Jo (Je fun _ hK7 _=>(Je fun _ hK8 _=>(Jb (Jg (Jd rfl) rfl (Jf (Ja (hK8 (Jo (JC (σ:=Nat) (fun (j:Nat)=>[(6,.int .i64 (j:Int)),(1,.int .i64 (k+9 * i+j))]) (fun (j:Nat)=>H) (fun (j:Nat)=>obj gxs (.cells ((tsC (marksT k mxs)).take (i * 9+j)++xs.drop (i * 9+j)).toArray 69 (0,0))::L) (fun (j:Nat)=>j≤8) (fun (j:Nat)=>8 - j) 0 (by omega) ⟨rfl,⟨(vi (by omega)),trivial⟩⟩ rfl rfl ?_)))))))))))));rintro j hJ _ hAg1;have hj:=hJ;refine Je fun _ hK9 _=>(Je fun _ hK10 _=>(Jb (Jg (Jc rfl) rfl (Jg (JJ rfl rfl) rfl (Jf (Ja (hK10 (Jj rfl (fun hc14=>?_) (fun hc14=>?_)))))))))
  ·
   refine Ji (Ja (hK9 (Je fun _ hK11 _=>(Jo (Je fun _ hK12 _=>(Jb (Jg (Jc rfl) rfl (Jg (Jc rfl) rfl (Jg (Jc rfl) rfl (Jg (Jc rfl) rfl (Jg (Ee u3 u5 rfl rfl) rfl (Jg (PR.idxO u31 sz69 rfl rfl rfl (by omega)) rfl (Jg (JG u69 rfl sz65 rfl) rfl (Jg (PR.idxB u65 sz5 rfl rfl rfl (by omega)) rfl (J.store rfl rfl rfl rfl sz5 (by show i * 9+0+j<_;simp only [List.length_append,List.length_take,List.length_drop];omega) .z ?_)))))))))))))));refine Jf (Ja (hK12 (Jb (Jg (Jc rfl) rfl (Jg (Jx rfl rfl (by first | exact nw _ (by omega) | rfl)) rfl (Jg (Jd rfl) rfl (Jf (JE (Ja (hK11 (Jb (Jg (Jc rfl) rfl (Jg (Jx rfl rfl (by first | exact nw _ (by omega) | rfl)) rfl (Jg (Jd rfl) rfl (Jf (Ja ?_))))))))))))))));exact hAg1 (j+1) (by omega) (by omega) 18 rfl rfl ⟨rfl,⟨(vi (by omega)),trivial⟩⟩ rfl (by have e:=fill_flat (M:=tsC (marksT k mxs)) (cs:=xs) (p:=i * 9+j) (by omega) (marksTC_byte hn (by omega) (by omega));rw [show i * 9+(j+1)=i * 9+j+1 by omega,← e];rfl)
  ·
   refine JK (Jm (Jm (JO (Ja (hK7 (Je fun _ hK13 _=>(Jb (Jg (Jc rfl) rfl (Jg (Jc rfl) rfl (Jg (Jc rfl) rfl (Jg (PR.idxO u31 sz69 rfl rfl rfl (by omega)) rfl (Jg (JG u69 rfl sz2 rfl) rfl (J.store rfl rfl rfl rfl sz2 (by show i * 9+8<_;simp only [List.length_append,List.length_take,List.length_drop];omega) .z (Jf (Ja (hK13 ?_))))))))))))))));refine Jb (Jg (Jc rfl) rfl (Jg (Jx rfl rfl (by first | exact nw _ (by omega) | rfl)) rfl (Jg (Jd rfl) rfl (Jf (JE (Ja (hK6 (Jb (Jg (Jc rfl) rfl (Jg (Jx rfl rfl (by first | exact nw _ (by omega) | rfl)) rfl (Jg (Jd rfl) rfl (Jf (Ja ?_)))))))))))));exact hAg0 (i+1) (by omega) (by omega) 22 rfl rfl ⟨rfl,⟨(vi (by omega)),trivial⟩⟩ rfl (by have e:=fill_flat (M:=tsC (marksT k mxs)) (cs:=xs) (p:=i * 9+8) (by omega) (marksTC_fac hn (by omega));obtain rfl:j=8:=(by omega);rw [show (i+1) * 9=i * 9+8+1 by omega,← e,show k+9 * (i:Int)+((8:Nat):Int)=k+9 * (i:Int)+8 by omega];rfl)
 ·
  refine JK (Jm (Jm (JO (Ja (hK2 (Je fun _ hK14 _=>(Jb (Jg (Jc rfl) rfl (Jg (Jd rfl) rfl (Jf (Ja (hK14 (Jl (Jk rfl (Res.tmp rfl) fun w hH=>?_))))))))))))))
  obtain rfl:i=mxs:=by omega
  rw [List.take_of_length_le (by omega)] at hH;exact ⟨rfl,hH⟩
theorem markTermS_0 {B:World} {H0 H:HP} {L:List SA} {w:World} {qxs:Option Addr} {cxs:Nat} {k:Int} (hH:Hp B H0 H L w):Calls Tryz.prog 29 [.slice qxs 0 cxs,.int .i64 k].toArray w fun e w'=>e = .returned (.int .i64 k)∧Hp B H0 H L w':=by
 refine Jt Tryz.func29 rfl 35 rfl rfl [(0,.slice qxs 0 cxs),(1,.int .i64 k)] rfl hH ?_;clear hH;refine Je fun _ hK1 _=>(Jb (Jg (Jd rfl) rfl (Jf (Ja (hK1 (Je fun _ hK2 _=>(Je fun _ hK3 _=>(Jb (Jg (Jd rfl) rfl (Jf (Ja (hK3 (Jo (JC (σ:=Unit) (fun (_:Unit)=>[(5,.int .i64 0),(1,.int .i64 k)]) (fun (_:Unit)=>H) (fun (_:Unit)=>L) (fun (_:Unit)=>True) (fun (_:Unit)=>0) () trivial ⟨rfl,⟨rfl,trivial⟩⟩ rfl rfl ?_))))))))))))));rintro _ hI _ hAg0;refine Je fun _ hK4 _=>(Je fun _ hK5 _=>(Jb (Jg (Jc rfl) rfl (Jg (Jc rfl) rfl (Jg (Jp u31 rfl rfl) rfl (Jg (JJ rfl rfl) rfl (Jf (Ja (hK5 (Jj rfl (fun hc10=>?_) (fun hc10=>?_)))))))))))
 ·
  exact absurd hc10 (by simp)
 ·
  refine JK (Jm (Jm (JO (Ja (hK2 (Je fun _ hK6 _=>(Jb (Jg (Jc rfl) rfl (Jg (Jd rfl) rfl (Jf (Ja (hK6 (Jl (Jk rfl (Res.tmp rfl) fun w hH=>?_))))))))))))));exact ⟨rfl,hH⟩
theorem markTermS_c {B:World} {H0 H:HP} {L:List SA} {w:World} {q:Option Addr} {c m:Nat} {cells:List Value} {k:Int} (hn:0≤k∧k+9 * (m:Nat)≤9223372036854775807) (hH:Hp B H0 H (own 69 9 q m c cells::L) w):Calls Tryz.prog 29 [.slice q m c,.int .i64 k].toArray w fun e w'=>e = .returned (.int .i64 (k+9 * (m:Nat)))∧Hp B H0 H (own 69 9 q m c (tsC (marksT k m))::L) w':=by
 refine hH.openOwn (by decide) (fun h1 h2 h3 h4=>?_) (fun g cs h1 h2 h3 h4 h5 h6 hG=>?_)
 ·subst h1 h2 h3 h4;refine (markTermS_0 hH).mono ?_;rintro _ w ⟨rfl,h⟩;exact ⟨by simp,h⟩
 ·subst h1;refine (markTermS_s (xs:=cs) (by omega) hn hG).mono ?_;rintro _ w ⟨rfl,h⟩
  have hl:(tsC (marksT k m)).length=m * 9:=by rw [tsC_length (marksT_wfs hn),marksT_length]
  exact ⟨rfl,h.shutOwn (by simp only [List.length_append,List.length_drop];omega) h4 h5 (by rw [List.take_append_of_le_length (by omega),List.take_of_length_le (by omega)])⟩
theorem heldTermS_c {B:World} {H0 H:HP} {L:List SA} {w:World} {qxs:Option Addr} {cxs xs:Nat} {kxs:Int} (hxs:MTerms H qxs kxs xs) (hn:0≤kxs∧kxs+9 * (xs:Nat)≤9223372036854775807) (hH:Hp B H0 H L w):Calls Tryz.prog 30 [.slice qxs xs cxs,.int .i64 kxs].toArray w fun e w'=>e = .returned (.int .i64 (kxs+9 * (xs:Nat)))∧Hp B H0 H L w':=by
 refine Jt Tryz.func30 rfl 39 rfl rfl [(0,.slice qxs xs cxs),(1,.int .i64 kxs)] rfl hH ?_;clear hH;refine Je fun _ hK1 _=>(Jb (Jg (Jd rfl) rfl (Jf (Ja (hK1 (Je fun _ hK2 _=>(Je fun _ hK3 _=>(Jb (Jg (Jd rfl) rfl (Jf (Ja (hK3 (Jo (JC (σ:=Nat) (fun (i:Nat)=>[(5,.int .i64 (i:Int)),(1,.int .i64 (kxs+9 * (i:Nat)))]) (fun (i:Nat)=>H) (fun (i:Nat)=>L) (fun (i:Nat)=>i≤xs) (fun (i:Nat)=>xs - i) 0 (by omega) ⟨rfl,⟨(vi (by omega)),trivial⟩⟩ rfl rfl ?_))))))))))))));rintro i hI _ hAg0;have hk:=hI;refine Je fun _ hK4 _=>(Je fun _ hK5 _=>(Jb (Jg (Jc rfl) rfl (Jg (Jc rfl) rfl (Jg (Jp u31 rfl rfl) rfl (Jg (JJ rfl rfl) rfl (Jf (Ja (hK5 (Jj rfl (fun hc10=>?_) (fun hc10=>?_)))))))))))
 ·
  refine Ji (Ja (hK4 (Je fun _ hK6 _=>(Jo (Je fun _ hK7 _=>(Je fun _ hK8 _=>(Jb (Jg (Jd rfl) rfl (Jf (Ja (hK8 (Jo (JC (σ:=Nat) (fun (j:Nat)=>[(6,.int .i64 (j:Int)),(1,.int .i64 (kxs+9 * (i:Nat)+(j:Nat)))]) (fun (j:Nat)=>H) (fun (j:Nat)=>L) (fun (j:Nat)=>j≤8) (fun (j:Nat)=>8 - j) 0 (by omega) ⟨rfl,⟨(vi (by omega)),trivial⟩⟩ rfl rfl ?_)))))))))))));rintro j hJ _ hAg1;have hj:=hJ;refine Je fun _ hK9 _=>(Je fun _ hK10 _=>(Jb (Jg (Jc rfl) rfl (Jg (JJ rfl rfl) rfl (Jf (Ja (hK10 (Jj rfl (fun hc14=>?_) (fun hc14=>?_)))))))))
  ·
   refine Ji (Ja (hK9 (Je fun _ hK11 _=>(Jo (Je fun _ hK12 _=>(Je fun _ hK13 _=>(Jb (Jg (Jc rfl) rfl (Jg (Jc rfl) rfl (Jg (Jc rfl) rfl (Jg (Ep u31 sz69 rfl rfl rfl (by omega) hxs.sm) rfl (Jg (PR.fldP u69 rfl sz65 rfl (hxs.sm (i:=i) (by omega))) rfl (Jg (PR.idxP1 u65 sz5 rfl (hxs.sm (i:=i) (by omega)) rfl rfl (by omega)) rfl (Jg (Ef rfl (hxs.byte _ (by omega) _ (by omega)) pl5) rfl (Jg (Jc rfl) rfl ?_)))))))))))))));refine Jg (Ee u3 u5 rfl rfl) rfl (Jg (Ej rfl rfl) rfl (Jf (Ja (hK13 (Jj rfl (fun hc26=>?_) (fun hc26=>?_))))))
   ·
    refine Je fun _ hK14 _=>(Jb (Jg (Jd rfl) rfl (Jf (Ja (hK14 (Jl (Jh (Jw (Jh (Jh (Jw (Jh (Jw (Jh (Jh ?_)))))))))))))));refine Jw (Jh (Jk rfl (Res.tmp rfl) fun w hH=>?_));exact absurd rfl hc26
   ·
    refine Ji (Ja (hK12 (Jb (Jg (Jc rfl) rfl (Jg (Jx rfl rfl (by first | exact nw _ (by omega) | rfl)) rfl (Jg (Jd rfl) rfl (Jf (JE (Ja (hK11 (Jb (Jg (Jc rfl) rfl (Jg (Jx rfl rfl (by first | exact nw _ (by omega) | rfl)) rfl (Jg (Jd rfl) rfl (Jf (Ja ?_))))))))))))))));exact hAg1 (j+1) (by omega) (by omega) 20 rfl rfl ⟨rfl,⟨(vi (by omega)),trivial⟩⟩ rfl rfl
  ·
   refine JK (Jm (Jm (JO (Ja (hK7 (Je fun _ hK15 _=>(Je fun _ hK16 _=>(Jb (Jg (Jc rfl) rfl (Jg (Jc rfl) rfl (Jg (Ep u31 sz69 rfl rfl rfl (by omega) hxs.sm) rfl (Jg (PR.fldP u69 rfl sz2 rfl (hxs.sm (i:=i) (by omega))) rfl (Jg (Ef rfl (hxs.fac _ (by omega)) pl2) rfl (Jg (Jc rfl) rfl (Jg (Ej rfl rfl) rfl ?_)))))))))))))));refine Jf (Ja (hK16 (Jj rfl (fun hc35=>?_) (fun hc35=>?_))))
   ·
    refine Je fun _ hK17 _=>(Jb (Jg (Jd rfl) rfl (Jf (Ja (hK17 (Jl (Jh (Jw (Jh (Jh (Jw (Jh (Jk rfl (Res.tmp rfl) fun w hH=>?_)))))))))))));exact absurd (by obtain rfl:j=8:=(by omega);rfl) hc35
   ·
    refine Ji (Ja (hK15 (Jb (Jg (Jc rfl) rfl (Jg (Jx rfl rfl (by first | exact nw _ (by omega) | rfl)) rfl (Jg (Jd rfl) rfl (Jf (JE (Ja (hK6 (Jb (Jg (Jc rfl) rfl (Jg (Jx rfl rfl (by first | exact nw _ (by omega) | rfl)) rfl (Jg (Jd rfl) rfl (Jf (Ja ?_))))))))))))))));exact hAg0 (i+1) (by omega) (by omega) 24 rfl rfl ⟨rfl,⟨(vi (by omega)),trivial⟩⟩ rfl rfl
 ·
  refine JK (Jm (Jm (JO (Ja (hK2 (Je fun _ hK18 _=>(Jb (Jg (Jc rfl) rfl (Jg (Jd rfl) rfl (Jf (Ja (hK18 (Jl (Jk rfl (Res.tmp rfl) fun w hH=>?_))))))))))))))
  obtain rfl:i=xs:=by omega
  exact ⟨rfl,hH⟩
theorem markForm_c {B:World} {H0 H:HP} {L:List SA} {w:World} {qf:Option Addr} {mf cf:Nat} {cellsf:List Value} {k:Int} (hn:0≤k∧k+9 * (mf:Nat)≤9223372036854775807) (hH:Hp B H0 H (own 69 9 qf mf cf cellsf::L) w):Calls Tryz.prog 16 [.agg [.slice qf mf cf].toArray,.int .i64 k].toArray w fun e w'=>e = .returned (.int .i64 (k+9 * (mf:Nat)))∧Hp B H0 H (own 69 9 qf mf cf (tsC (marksT k mf))::L) w':=by
 refine Jt Tryz.func16 rfl 10 rfl rfl [(0,.agg [.slice qf mf cf].toArray),(1,.int .i64 k)] rfl hH ?_;clear hH;refine Je fun _ hK1 _=>(Jb (Eo rfl rfl rfl fun g2=>(Jg (Jd rfl) rfl (Jf (Ja (hK1 (Je fun _ hK2 _=>(Jb (Jg (JG u33 rfl sz31 rfl) rfl (Jg (JB rfl At.z rfl pl31) rfl (Jg (Jc rfl) rfl (JA fn29 rfl rfl fun w hH=>(markTermS_c hn (hH.front (.s .z))).mono ?_))))))))))));rintro _ w ⟨rfl,hH⟩;refine ⟨_,rfl,fun a hF=>JR hF hH ?_⟩;refine Jg (Jd rfl) rfl (Jf (Ja (hK2 (Je fun _ hK3 _=>(Jb (Jg (Jc rfl) rfl (Jg (Jd rfl) rfl (Jf (Ja (hK3 (Jl (Jk rfl (Res.tmp rfl) fun w hH=>?_))))))))))));replace hH:=hH.sublist (.cons_cons _ (.cons _ (List.Sublist.refl _)));exact ⟨rfl,hH⟩
theorem heldForm_c {B:World} {H0 H:HP} {L:List SA} {w:World} {qxs:Option Addr} {cxs xs:Nat} {kxs:Int} (hxs:MTerms H qxs kxs xs) (hn:0≤kxs∧kxs+9 * (xs:Nat)≤9223372036854775807) (hH:Hp B H0 H L w):Calls Tryz.prog 17 [.agg [.slice qxs xs cxs].toArray,.int .i64 kxs].toArray w fun e w'=>e = .returned (.int .i64 (kxs+9 * (xs:Nat)))∧Hp B H0 H L w':=by
 refine Jt Tryz.func17 rfl 12 rfl rfl [(0,.agg [.slice qxs xs cxs].toArray),(1,.int .i64 kxs)] rfl hH ?_;clear hH;refine Je fun _ hK1 _=>(Jb (Eo rfl rfl rfl fun g2=>(Jg (Jd rfl) rfl (Jf (Ja (hK1 (Je fun _ hK2 _=>(Jb (Jg (JG u33 rfl sz31 rfl) rfl (Jg (JB rfl At.z rfl pl31) rfl (Jg (Jc rfl) rfl (JA fn30 rfl rfl fun w hH=>(heldTermS_c hxs hn hH).mono ?_))))))))))));rintro _ w ⟨rfl,hH⟩;refine ⟨_,rfl,fun a hF=>JR hF hH ?_⟩;refine Jg (Jd rfl) rfl (Jf (Ja (hK2 (Je fun _ hK3 _=>(Je fun _ hK4 _=>(Jb (Jg (Jc rfl) rfl (Jg (JJ rfl rfl) rfl (Jf (Ja (hK4 (Jj rfl (fun hc10=>?_) (fun hc10=>?_)))))))))))))
 ·
  refine Je fun _ hK5 _=>(Jb (Jg (Jd rfl) rfl (Jf (Ja (hK5 (Jl (Jh (Jk rfl (Res.tmp rfl) fun w hH=>?_))))))));replace hH:=hH.tail
  omega
 ·
  refine Ji (Ja (hK3 (Je fun _ hK6 _=>(Jb (Jg (Jc rfl) rfl (Jg (Jd rfl) rfl (Jf (Ja (hK6 (Jl (Jk rfl (Res.tmp rfl) fun w hH=>?_)))))))))));replace hH:=hH.tail;exact ⟨rfl,hH⟩
theorem sz33:Size Tryz.prog 33 1:=by unfold Size;kernel_rfl
theorem ag33:Agg Tryz.prog 33 1:=⟨_,u33,rfl,by kernel_rfl⟩
theorem fn13:Fn Tryz.prog 13:=⟨_,Tryz.func13,by kernel_rfl,rfl⟩
theorem fn14:Fn Tryz.prog 14:=⟨_,Tryz.func14,by kernel_rfl,rfl⟩
theorem fn15:Fn Tryz.prog 15:=⟨_,Tryz.func15,by kernel_rfl,rfl⟩
theorem bz33 : ∀w,(Instr.build 33 #[]).run Tryz.prog w = .ok (.agg [.slice none 0 0].toArray) w:=fun _=>by kernel_rfl
def inDeg (ds:List Int) (n:Int) (t:Term):Bool:=decide (wsum ds t.mono ds.length=n)
def part (ds:List Int) (ts:List Term) (n:Int):List Term:=ts.filter (inDeg ds n)
theorem tm_eq {xs:List Term} {j:Nat} (hj:j<xs.length):xs[j]=tm xs j:=by simp [tm,List.getD_eq_getElem?_getD,List.getElem?_eq_getElem hj]
abbrev Pw:=List Int
abbrev Sm:=List (Pw × Int)
def fld (x:Int):Int:=(x.tmod 10007+10007).tmod 10007
theorem first_of (f:Nat→Bool) : ∀n:Nat,(∀j,j<n→f j=false)∨∃k,k<n∧f k=true∧∀j,j<k→f j=false
 | 0=>.inl fun j hj=>by omega
 | n+1=>by
  rcases first_of f n with h | ⟨k,h1,h2,h3⟩
  ·cases hb:f n with
   | true=>exact .inr ⟨n,by omega,hb,h⟩
   | false=>exact .inl (upto h hb)
  ·exact .inr ⟨k,by omega,h2,h3⟩
theorem before_iff {p q:Pw}:before p q=true↔∃k,k<8∧(∀j,j<k→p.getD j 0=q.getD j 0)∧q.getD k 0<p.getD k 0:=by
 constructor
 ·intro h
  rcases first_of (fun j=>decide (p.getD j 0≠q.getD j 0)) 8 with h1 | ⟨k,h1,h2,h3⟩
  ·rw [before_miss fun j hj=>by simpa using h1 j hj] at h
   cases h
  ·have e : ∀j,j<k→p.getD j 0=q.getD j 0:=fun j hj=>by simpa using h3 j hj
   rw [before_hit h1 e (by simpa using h2)] at h;exact ⟨k,h1,e,by simpa using h⟩
 ·rintro ⟨k,h1,h2,h3⟩;rw [before_hit h1 h2 (by omega)]
  simpa using h3
theorem before_tr {p q r:Pw} (h1:before p q=true) (h2:before q r=true):before p r=true:=by
 obtain ⟨k,a1,a2,a3⟩:=before_iff.1 h1;obtain ⟨m,b1,b2,b3⟩:=before_iff.1 h2;refine before_iff.2 ?_
 rcases Nat.lt_trichotomy k m with h | h | h
 ·exact ⟨k,a1,fun j hj=>by rw [a2 j hj,b2 j (by omega)],by rw [← b2 k h];exact a3⟩
 ·subst h;exact ⟨k,a1,fun j hj=>by rw [a2 j hj,b2 j hj],by omega⟩
 ·exact ⟨m,b1,fun j hj=>by rw [a2 j (by omega),b2 j hj],by rw [a2 m h];exact b3⟩
structure Pok (M:Int) (p:Pw):Prop where
 len:p.length=8
 bd : ∀j,0≤p.getD j 0∧p.getD j 0≤M
structure Sok (M:Int) (s:Sm):Prop where
 srt:s.Pairwise fun x y=>before x.1 y.1=true
 key : ∀x∈s,Pok M x.1
 val : ∀x∈s,1≤x.2∧x.2≤10006
def cf:Sm→Pw→Int
 | [],_=>0
 | x::s,p=>if x.1=p then x.2 else cf s p
def addS:Sm→Pw→Int→Sm
 | [],p,k=>if fld k=0 then [] else [(p,fld k)]
 | x::s,p,k=>if p=x.1 then (if fld (x.2+k)=0 then s else (p,fld (x.2+k))::s)
  else if before p x.1 then (if fld k=0 then x::s else (p,fld k)::x::s) else x::addS s p k
def acc (s:Sm) (l:Sm):Sm:=l.foldl (fun a x=>addS a x.1 x.2) s
theorem getD_ge {p:Pw} {j:Nat} (h:p.length≤j):p.getD j 0=0:=by rw [List.getD_eq_getElem?_getD,List.getElem?_eq_none h];rfl
def toS (ts:List Term):Sm:=ts.map fun t=>(t.mono,t.fac)
theorem toS_mem {ts:List Term} {x:Pw × Int} (h:x∈toS ts) : ∃t∈ts,x=(t.mono,t.fac):=by
 obtain ⟨t,ht,rfl⟩:=List.mem_map.1 h;exact ⟨t,ht,rfl⟩
theorem ze33:Zero Tryz.prog 33 [.slice none 0 0]:=by unfold Zero;kernel_rfl
def CellAt (H:HP) (b k:Nat) (v:Value):Prop:=cellO H (some ⟨b,0,none⟩) k=some v
theorem CellAt.le {H H':HP} {b k:Nat} {v:Value} (h:CellAt H b k v) (hle:Le H H'):CellAt H' b k v:=cellO_le hle h
theorem getD_set8 {p:Pw} {i j:Nat} {x:Int}:(p.set i x).getD j 0=if i=j∧i<p.length then x else p.getD j 0:=by
 rw [List.getD_eq_getElem?_getD,List.getD_eq_getElem?_getD,List.getElem?_set]
 by_cases e:i=j
 ·subst e
  by_cases h:i<p.length
  ·simp [h]
  ·simp [h]
 ·simp [e]
theorem ze65:Zero Tryz.prog 65 [.int .u8 0,.int .u8 0,.int .u8 0,.int .u8 0,.int .u8 0,.int .u8 0,.int .u8 0,.int .u8 0]:=by unfold Zero;kernel_rfl
theorem bz65 : ∀w,(Instr.build 65 #[]).run Tryz.prog w = .ok (.agg [.int .u8 0,.int .u8 0,.int .u8 0,.int .u8 0,.int .u8 0,.int .u8 0,.int .u8 0,.int .u8 0].toArray) w:=fun _=>by kernel_rfl
theorem by69:Bytes Tryz.prog 69 16:=by unfold Bytes;kernel_rfl
theorem bt69 : ∀(m:List Int) (f:Int),m.length=8→∀w,(Instr.build 69 #[(0,.agg (bytesC m).toArray),(1,.int .i64 f)]).run Tryz.prog w = .ok (.agg ((⟨m,f⟩:Term).c).toArray) w:=fun m f hm w=>by
 obtain ⟨a0,a1,a2,a3,a4,a5,a6,a7,rfl⟩:=list8_ex hm
 kernel_rfl
@[simp] theorem toS_len (ts:List Term):(toS ts).length=ts.length:=by simp [toS]
theorem toS_at {ts:List Term} {k:Nat} (hk:k<ts.length):((tm ts k).mono,(tm ts k).fac)∈toS ts:=by
 refine List.mem_map.2 ⟨tm ts k,?_,rfl⟩
 have:tm ts k=ts[k]:=by simp [tm,List.getD_eq_getElem?_getD,List.getElem?_eq_getElem hk]
 rw [this];exact List.getElem_mem hk
theorem isMono_le {ds m:List Int} (h:isMono ds m=true) {j:Nat} (hj:j<8):m.getD j 0≤most ds j:=by
 unfold isMono at h
 simpa using List.all_eq_true.1 h j (by simpa using hj)
theorem isMono_pok {ds m:List Int} (h:isMono ds m=true) (hm:Mono m):Pok 20 m:=⟨hm.len,fun j=>by
 have b:=hm.bd j
 rcases Nat.lt_or_ge j 8 with hj | hj
 ·have:=isMono_le h hj
  unfold most at this
  split at this
  ·split at this <;> omega
  ·omega
 ·rw [getD_ge (by rw [hm.len];omega)]
  omega⟩
theorem isForm_at {ds:List Int} {ts:List Term} (h:isForm ds ts=true) {i:Nat} (hi:i<ts.length):goodAt ds ts i=true:=by
 unfold isForm at h;exact List.all_eq_true.1 (Bool.and_eq_true_iff.1 h).2 i (by simpa using hi)
theorem srt_of {s:Sm}:(∀i,0<i→i<s.length→before (s.getD (i - 1) ([],0)).1 (s.getD i ([],0)).1=true)→s.Pairwise fun x y=>before x.1 y.1=true:=by
 induction s with
 | nil=>intro _;exact List.Pairwise.nil
 | cons x s ih=>
  intro h
  have h2:=ih fun i h0 hi=>by
   have:=h (i+1) (by omega) (by simp;omega);simp only [Nat.add_sub_cancel,List.getD_cons_succ] at this;rw [show i=(i - 1)+1 by omega,List.getD_cons_succ] at this
   rwa [show i - 1+1=i by omega] at this
  refine List.pairwise_cons.2 ⟨fun y hy=>?_,h2⟩
  cases s with
  | nil=>simp at hy
  | cons z s=>
   have hz:before x.1 z.1=true:=by simpa using h 1 (by omega) (by simp)
   rcases List.mem_cons.1 hy with rfl | hy
   ·exact hz
   ·exact before_tr hz ((List.pairwise_cons.1 h2).1 y hy)
theorem toS_getD {ts:List Term} {i:Nat} (hi:i<ts.length):(toS ts).getD i ([],0)=((tm ts i).mono,(tm ts i).fac):=by
 simp [toS,tm,List.getD_eq_getElem?_getD,hi]
theorem isForm_sok {ds:List Int} {ts:List Term} (hw:Wfs ts) (h:isForm ds ts=true):Sok 20 (toS ts):=by
 have hg : ∀i,i<ts.length→isMono ds (tm ts i).mono=true∧(1≤(tm ts i).fac∧(tm ts i).fac≤10006)∧(i=0∨before (tm ts (i - 1)).mono (tm ts i).mono=true):=fun i hi=>by
  have:=isForm_at h hi;unfold goodAt at this
  simpa [and_assoc] using this
 refine ⟨srt_of fun i h0 hi=>?_,fun x hx=>?_,fun x hx=>?_⟩
 ·rw [toS_len] at hi;rw [toS_getD hi,toS_getD (by omega)];exact (hg i hi).2.2.resolve_left (by omega)
 ·obtain ⟨t,ht,rfl⟩:=toS_mem hx;obtain ⟨i,hi,rfl⟩:=List.mem_iff_getElem.1 ht;rw [tm_eq hi];exact isMono_pok (hg i hi).1 (hw _ (by rw [← tm_eq hi];exact ht)).mono
 ·obtain ⟨t,ht,rfl⟩:=toS_mem hx;obtain ⟨i,hi,rfl⟩:=List.mem_iff_getElem.1 ht;rw [tm_eq hi];exact (hg i hi).2.1
theorem isForm_len4 {ds:List Int} {ts:List Term} (h:isForm ds ts=true):ts.length≤400:=by
 unfold isForm at h
 simpa using (Bool.and_eq_true_iff.1 h).1
theorem fn24:Fn Tryz.prog 24:=⟨_,Tryz.func24,by kernel_rfl,rfl⟩
theorem fn26:Fn Tryz.prog 26:=⟨_,Tryz.func26,by kernel_rfl,rfl⟩
theorem fn41:Fn Tryz.prog 41:=⟨_,Tryz.func41,by kernel_rfl,rfl⟩
theorem fn47:Fn Tryz.prog 47:=⟨_,Tryz.func47,by kernel_rfl,rfl⟩
theorem stm_eq {xs:List Term} {j:Nat} (hj:j<xs.length):xs[j]=tm xs j:=by simp [tm,List.getD_eq_getElem?_getD,List.getElem?_eq_getElem hj]
theorem stm_take {ts:List Term} {k:Nat} (hk:k<ts.length):ts.take (k+1)=ts.take k++[tm ts k]:=by rw [List.take_succ_eq_append_getElem hk,stm_eq hk]
def decL (n:Int):List UInt8:=Lib.decDigits n.toNat
theorem decL_small {n:Int} (h:0≤n) (h1:n<10):decL n=[UInt8.ofNat (48+n).toNat]:=by
 unfold decL;rw [Lib.decDigits_one (by omega)]
 congr 2
 omega
theorem decL_big {n:Int} (h:0≤n) (h1 : ¬n<10):decL n=decL (n.tdiv 10)++[UInt8.ofNat (48+n.tmod 10).toNat]:=by
 have e1:(n.tdiv 10).toNat=n.toNat / 10:=by rw [Int.tdiv_eq_ediv_of_nonneg h];omega
 have e2:(48+n.tmod 10).toNat=48+n.toNat % 10:=by rw [Int.tmod_eq_emod_of_nonneg h];omega
 unfold decL;rw [e1,e2,Lib.decDigits,dif_neg (by omega)]
theorem decL_itoa {n:Int} (h:0≤n):Lib.itoa n=decL n:=by
 unfold Lib.itoa decL;rw [if_neg (by omega)]
theorem nDigits_le : ∀(k u:Nat),u<10 ^ k→1≤k→Lib.nDigits u≤k
 | 0,_,_,h=>by omega
 | k+1,u,h,_=>by
  by_cases hu:u<10
  ·rw [Lib.nDigits_small hu];omega
  ·rw [Lib.nDigits_big hu]
   rw [Nat.pow_succ] at h
   have hk:1≤k:=by
    rcases Nat.eq_zero_or_pos k with h0 | h0
    ·subst h0;simp at h;omega
    ·exact h0
   have:=nDigits_le k (u / 10) (by omega) hk
   omega
theorem decL_len {n:Int} (h:0≤n) (h1:n≤9223372036854775807):(decL n).length≤19:=by
 unfold decL;rw [Lib.decDigits_length];exact nDigits_le 19 _ (by have h9:(10:Nat) ^ 19=10000000000000000000:=(by decide);omega) (by omega)
def letT (m:List Int) (i:Nat):List UInt8:=(if 0<m.getD i 0 then [UInt8.ofNat (97+(i:Int)).toNat] else [])++(if 1<m.getD i 0 then decL (m.getD i 0) else [])
def monT (m:List Int):Nat→List UInt8
 | 0=>[]
 | i+1=>monT m i++letT m i
theorem monT_len {m:List Int} (h : ∀j,0≤m.getD j 0∧m.getD j 0≤255) : ∀k,(monT m k).length≤20 * k
 | 0=>by simp [monT]
 | k+1=>by
  have h1:=monT_len h k
  have h2:=decL_len (h k).1 (by have:=h k;omega)
  have h3:(letT m k).length≤20:=by
   unfold letT
   rw [List.length_append]
   split <;> split <;> simp only [List.length_singleton,List.length_nil] <;> omega
  simp only [monT,List.length_append]
  omega
theorem monT_yy {m:List Int} {i:Nat} (h1:0<m.getD i 0) (h2:1<m.getD i 0):(monT m i++[UInt8.ofNat (97+(i:Int)).toNat])++decL (m.getD i 0)=monT m (i+1):=by
 simp only [monT,letT];rw [if_pos h1,if_pos h2,List.append_assoc]
theorem monT_yn {m:List Int} {i:Nat} (h1:0<m.getD i 0) (h2 : ¬1<m.getD i 0):monT m i++[UInt8.ofNat (97+(i:Int)).toNat]=monT m (i+1):=by
 simp only [monT,letT];rw [if_pos h1,if_neg h2,List.append_nil]
theorem monT_nn {m:List Int} {i:Nat} (h1 : ¬0<m.getD i 0):monT m i=monT m (i+1):=by
 simp only [monT,letT];rw [if_neg h1,if_neg (by omega),List.append_nil,List.append_nil]
def nameT (m:List Int):List UInt8:=if monT m 8=[] then [49] else monT m 8
theorem nameT_len {m:List Int} (h : ∀j,0≤m.getD j 0∧m.getD j 0≤255):(nameT m).length≤160:=by
 unfold nameT
 split
 ·simp
 ·exact monT_len h 8
def termT (t:Term):List UInt8:=(decL t.fac++[42])++nameT t.mono
def textT (ts:List Term):List UInt8:=if ts.length=0 then [48] else Lib.join (ts.map termT) [43]
def preT (ts:List Term):Nat→List UInt8
 | 0=>[]
 | k+1=>(if 0<k then preT ts k++[43] else preT ts k)++termT (tm ts k)
theorem joinTail_app (sep:List UInt8) : ∀(r:List (List UInt8)) (x:List UInt8),Lib.joinTail sep (r++[x])=Lib.joinTail sep r++sep++x:=fun r x=>by
 unfold Lib.joinTail
 rw [List.map_append,List.flatten_append]
 simp
theorem join_app (sep x:List UInt8) : ∀{r:List (List UInt8)},r≠ []→Lib.join (r++[x]) sep=Lib.join r sep++sep++x
 | [],h=>absurd rfl h
 | a::r,_=>by
  rw [JxA,Lib.join_cons,Lib.join_cons,joinTail_app]
  simp [List.append_assoc]
theorem preT_join {ts:List Term} : ∀{k:Nat},k≤ts.length→preT ts k=Lib.join ((ts.take k).map termT) [43]
 | 0,_=>by simp [preT,Lib.join_nil]
 | k+1,h=>by
  rw [stm_take (by omega),List.map_append,List.map_singleton]
  simp only [preT]
  by_cases hk:0<k
  ·rw [if_pos hk,join_app _ _ (by intro e;have h9:=congrArg List.length e;rw [List.length_map,List.length_take_of_le (by omega)] at h9;simp only [List.length_nil] at h9;omega),← preT_join (k:=k) (by omega)]
  ·obtain rfl:k=0:=by omega
   rw [if_neg hk]
   simp [preT,Lib.join_one]
theorem preT_end (ts:List Term) (h : ¬ts.length=0):preT ts ts.length=textT ts:=by
 rw [preT_join (Nat.le_refl _),List.take_length];unfold textT;rw [if_neg h]
theorem termT_len {ts:List Term} (hw:Wfs ts) (hf : ∀i,i<ts.length→0≤(tm ts i).fac) {i:Nat} (hi:i<ts.length):(termT (tm ts i)).length≤200:=by
 have hm:=hw (tm ts i) (by rw [← stm_eq hi];exact List.getElem_mem hi);have h1:=decL_len (hf i hi) hm.fac.2;have h2:=nameT_len hm.mono.bd;unfold termT;simp only [List.length_append,List.length_singleton]
 omega
theorem preT_len {ts:List Term} (hw:Wfs ts) (hf : ∀i,i<ts.length→0≤(tm ts i).fac) : ∀{k:Nat},k≤ts.length→(preT ts k).length≤201 * k
 | 0,_=>by simp [preT]
 | k+1,h=>by
  have h1:=preT_len hw hf (k:=k) (by omega)
  have h2:=termT_len hw hf (i:=k) (by omega)
  simp only [preT,List.length_append]
  split
  ·simp only [List.length_append,List.length_singleton];omega
  ·omega
theorem u123:Tryz.prog.underlying 123=some (TypeDesc.slice 5):=by kernel_rfl
theorem u9:Tryz.prog.underlying 9=some (TypeDesc.string):=by kernel_rfl
theorem ze5:Zero Tryz.prog 5 [.int .u8 0]:=by unfold Zero;kernel_rfl
theorem fn65:Fn Tryz.prog 65:=⟨_,Tryz.func65,by kernel_rfl,rfl⟩
theorem fn66:Fn Tryz.prog 66:=⟨_,Tryz.func66,by kernel_rfl,rfl⟩
theorem su8_id {x:Int} (h:0≤x∧x≤255):IntKind.u8.wrap x=x:=by simp [IntKind.wrap,IntKind.signed,IntKind.bits];omega
theorem l01DecX_c {B:World} {H0 H:HP} {L:List SA} {w:World} {x:Int} (hx:0≤x∧x≤9223372036854775807) (hrec : ∀y:Int,y=x.tdiv 10→10≤x→∀(L:List SA) (w:World),Hp B H0 H L w→Calls Tryz.prog 65 [.int .i64 y].toArray w fun r w'=>r = .returned (sV (decL y))∧Hp B H0 H L w') (hH:Hp B H0 H L w):Calls Tryz.prog 65 [.int .i64 x].toArray w fun e w'=>e = .returned (sV (decL x))∧Hp B H0 H L w':=by
 refine Jt Tryz.func65 rfl 20 rfl rfl [(0,.int .i64 x)] rfl hH ?_;clear hH
 have hr0:0≤x.tmod 10∧x.tmod 10≤9:=by rw [Int.tmod_eq_emod_of_nonneg hx.1];omega
 have hq0:0≤x.tdiv 10∧x.tdiv 10≤x:=by rw [Int.tdiv_eq_ediv_of_nonneg hx.1];omega
 have hl9:=decL_len (n:=x.tdiv 10) hq0.1 (by omega);refine Je fun _ hK1 _=>(Jb (Jg (Jd rfl) rfl (Jf (Ja (hK1 (Je fun _ hK2 _=>(Je fun _ hK3 _=>(Jb (Jg (Jc rfl) rfl (Jg (JJ rfl rfl) rfl (Jf (Ja (hK3 (Jj rfl (fun h4=>?_) (fun h4=>?_)))))))))))))))
 ·
  refine Je fun _ hK4 _=>(Jb (Jg (Jc rfl) rfl (Jg (Jx rfl rfl (by first | exact nw _ (by omega) | rfl)) rfl (Jg (Ee u2 u5 rfl (su8_id (by omega))) rfl (J.mk (MK.lit1S u123 ze5 sz5 rfl rfl) rfl fun qo8 co8=>(Jg (PR.str1 u123 u5 u9 rfl At.z (by omega)) rfl (Jg (Jd rfl) rfl (Jf (Ja (hK4 (Jl (Jh (Jk rfl (Res.tmp rfl) fun w hH=>?_)))))))))))));replace hH:=hH.tail;exact ⟨by rw [decL_small hx.1 (by omega)],hH⟩
 ·
  refine Ji (Ja (hK2 (Je fun _ hK5 _=>(CJ.openR (Rs:=[]) 11 [[], [0], [0,1], [], [3], [3,4], [3,4,5], [3,4,5,6], [3,4,5,6,7], [0,1,2,3,4,5,6,7,8], [0,1,2,3,4,5,6,7,8,9]] [[], [], [], [], [], [], [], [], [7], [], []] [[], [], [], [], [], [], [], [], [], [], []] rfl rfl (by kernel_rfl) ?_))));apply Ju 1 rfl
  iterate 3 focus (intros;(conv=>lhs;simp only [Jn,Jv,Ed,Jy,JM,eq_self,reduceEqDiff,reduceIte,reduceSub,reduceAdd,JxA,JxB]);all_goals rfl)
  ·
   intro gh X K zq zc zq2 zc2 zb zv hK;refine Jg (Jc rfl) rfl (Jq ?_);exact hK zq zc zq2 zc2 zb zv
  ·
   intro gh gh' h
   rfl
  apply Ju 2 rfl
  iterate 3 focus (intros;(conv=>lhs;simp only [Jn,Jv,Ed,Jy,JM,eq_self,reduceEqDiff,reduceIte,reduceSub,reduceAdd,JxA,JxB]);all_goals rfl)
  ·
   intro gh X K zq zc zq2 zc2 zb zv hK;refine Jg (PR.quo rfl rfl (by decide) (nw _ (by omega))) rfl (Jq ?_);exact hK zq zc zq2 zc2 zb zv
  ·
   intro gh gh' h
   rfl
  apply Ju 3 rfl
  iterate 3 focus (intros;(conv=>lhs;simp only [Jn,Jv,Ed,Jy,JM,eq_self,reduceEqDiff,reduceIte,reduceSub,reduceAdd,JxA,JxB]);all_goals rfl)
  ·
   intro gh X K zq zc zq2 zc2 zb zv hK;refine JA fn65 rfl rfl fun w hH=>(hrec _ rfl (by omega) _ _ hH).mono ?_;rintro _ w ⟨rfl,hH⟩;refine ⟨_,rfl,fun a hF=>JR hF hH ?_⟩;refine Jq ?_;exact hK zq zc zq2 zc2 zb zv
  ·
   intro gh gh' h
   rfl
  apply Ju 4 rfl
  iterate 3 focus (intros;(conv=>lhs;simp only [Jn,Jv,Ed,Jy,JM,eq_self,reduceEqDiff,reduceIte,reduceSub,reduceAdd,JxA,JxB]);all_goals rfl)
  ·
   intro gh X K zq zc zq2 zc2 zb zv hK;refine Jg (Jc rfl) rfl (Jq ?_);exact hK zq zc zq2 zc2 zb zv
  ·
   intro gh gh' h
   rfl
  apply Ju 5 rfl
  iterate 3 focus (intros;(conv=>lhs;simp only [Jn,Jv,Ed,Jy,JM,eq_self,reduceEqDiff,reduceIte,reduceSub,reduceAdd,JxA,JxB]);all_goals rfl)
  ·
   intro gh X K zq zc zq2 zc2 zb zv hK;refine Jg (PR.rem rfl rfl (by decide) rfl) rfl (Jq ?_);exact hK zq zc zq2 zc2 zb zv
  ·
   intro gh gh' h
   rfl
  apply Ju 6 rfl
  iterate 3 focus (intros;(conv=>lhs;simp only [Jn,Jv,Ed,Jy,JM,eq_self,reduceEqDiff,reduceIte,reduceSub,reduceAdd,JxA,JxB]);all_goals rfl)
  ·
   intro gh X K zq zc zq2 zc2 zb zv hK;refine Jg (Jx rfl rfl (by first | exact nw _ (by omega) | rfl)) rfl (Jq ?_);exact hK zq zc zq2 zc2 zb zv
  ·
   intro gh gh' h
   rfl
  apply Ju 7 rfl
  iterate 3 focus (intros;(conv=>lhs;simp only [Jn,Jv,Ed,Jy,JM,eq_self,reduceEqDiff,reduceIte,reduceSub,reduceAdd,JxA,JxB]);all_goals rfl)
  ·
   intro gh X K zq zc zq2 zc2 zb zv hK;refine Jg (Ee u2 u5 rfl (su8_id (by omega))) rfl (Jq ?_);exact hK zq zc zq2 zc2 zb zv
  ·
   intro gh gh' h
   rfl
  apply GJ.st1 8 rfl
  iterate 3 focus (intros;(conv=>lhs;simp only [Jn,Jv,Ed,Jy,JM,eq_self,reduceEqDiff,reduceIte,reduceSub,reduceAdd,JxA,JxB]);all_goals rfl)
  ·
   intro gh X K zq zc zq2 zc2 zb zv hK;refine J.mk (MK.lit1S u123 ze5 sz5 rfl rfl) rfl fun qo17 co17=>(Jq ?_);exact hK qo17 co17 zq2 zc2 zb zv
  ·
   intro gh gh' h;refine ⟨?_,?_⟩ <;> rfl
  apply Ju 9 rfl
  iterate 3 focus (intros;(conv=>lhs;simp only [Jn,Jv,Ed,Jy,JM,eq_self,reduceEqDiff,reduceIte,reduceSub,reduceAdd,JxA,JxB]);all_goals rfl)
  ·
   intro gh X K zq zc zq2 zc2 zb zv hK;refine Jg (PR.str1 u123 u5 u9 rfl At.z (by omega)) rfl (Jq ?_);exact hK zq zc zq2 zc2 zb zv
  ·
   intro gh gh' h
   first | simp only [h 7 rfl] | rfl
  apply Ju 10 rfl
  iterate 3 focus (intros;(conv=>lhs;simp only [Jn,Jv,Ed,Jy,JM,eq_self,reduceEqDiff,reduceIte,reduceSub,reduceAdd,JxA,JxB]);all_goals rfl)
  ·
   intro gh X K zq zc zq2 zc2 zb zv hK;refine Jg (JT rfl rfl (by simp only [List.length_append,List.length_cons,List.length_nil] at *;omega)) rfl (Jq ?_);exact hK zq zc zq2 zc2 zb zv
  ·
   intro gh gh' h
   first | simp only [h 7 rfl] | rfl
  apply Ju 11 rfl
  iterate 3 focus (intros;(conv=>lhs;simp only [Jn,Jv,Ed,Jy,JM,eq_self,reduceEqDiff,reduceIte,reduceSub,reduceAdd,JxA,JxB]);all_goals rfl)
  ·
   intro gh X K zq zc zq2 zc2 zb zv hK;refine Jg (Jd rfl) rfl (Jq ?_);exact hK zq zc zq2 zc2 zb zv
  ·
   intro gh gh' h
   first | simp only [h 7 rfl] | rfl
  apply GJ.close [0,1,2,3,4,5,6,7,8,9,10] [0,1,2,3,4,5,6,7,8,9,10] foll0 rfl rfl rfl (by rfl)
  iterate 2 focus (intros;(conv=>lhs;simp only [Jn,Jv,Ed,Jy,JM,eq_self,reduceEqDiff,reduceIte,reduceSub,reduceAdd,JxA,JxB]);all_goals rfl)
  intro gh;generalize (gh 7).c=co17;generalize (gh 7).q=qo17;clear gh;refine Ja (hK5 (Jl (Jk rfl (Res.tmp rfl) fun w hH=>?_)));replace hH:=hH.tail;exact ⟨by rw [decL_big hx.1 (by omega)],hH⟩
theorem l01Dec_n {B:World} {H0 H:HP} : ∀(n:Nat) (x:Int),x.toNat≤n→0≤x∧x≤9223372036854775807→∀(L:List SA) (w:World),Hp B H0 H L w→Calls Tryz.prog 65 [.int .i64 x].toArray w fun r w'=>r = .returned (sV (decL x))∧Hp B H0 H L w'
 | 0,x,h,hx,L,w,hH=>l01DecX_c hx (fun y _ h10=>by omega) hH
 | n+1,x,h,hx,L,w,hH=>l01DecX_c hx (fun y hy h10 L w hH=>by
  have hq0:0≤x.tdiv 10∧x.tdiv 10 * 10≤x:=by rw [Int.tdiv_eq_ediv_of_nonneg hx.1];omega
  exact l01Dec_n n y (by omega) (by omega) L w hH) hH
theorem l01Dec_c {B:World} {H0 H:HP} {L:List SA} {w:World} {x:Int} (hx:0≤x∧x≤9223372036854775807) (hH:Hp B H0 H L w):Calls Tryz.prog 65 [.int .i64 x].toArray w fun r w'=>r = .returned (sV (decL x))∧Hp B H0 H L w':=l01Dec_n _ x (Nat.le_refl _) hx L w hH
theorem vS {a b:List UInt8} (h:a=b):some (sV a)=some (sV b):=by rw [h]
theorem preT_p {ts:List Term} {k:Nat} (h:0<k):preT ts k++[43]++decL (tm ts k).fac++[42]++nameT (tm ts k).mono=preT ts (k+1):=by
 simp only [preT,termT];rw [if_pos h];simp only [List.append_assoc]
theorem preT_z {ts:List Term} {k:Nat} (h : ¬0<k):preT ts k++decL (tm ts k).fac++[42]++nameT (tm ts k).mono=preT ts (k+1):=by
 simp only [preT,termT];rw [if_neg h];simp only [List.append_assoc]
theorem l01Name_c {B:World} {H0 H:HP} {L:List SA} {w:World} {m:List Int} (hm:Mono m) (hH:Hp B H0 H L w):Calls Tryz.prog 66 [.agg (bytesC m).toArray].toArray w fun e w'=>e = .returned (sV (nameT m))∧Hp B H0 H L w':=by
 refine Jt Tryz.func66 rfl 34 rfl rfl [(0,.agg (bytesC m).toArray)] rfl hH ?_;have hml:=hm.len;clear hH;have hmb:=hm.bd;have hml9:=fun k=>monT_len hmb k;refine Je fun _ hK1 _=>(Jb (Eo rfl rfl rfl fun g1=>(Jg (Jd rfl) rfl (Jf (Ja (hK1 (Je fun _ hK2 _=>(Jb (Jg (Jd rfl) rfl (Jf (Ja (hK2 (Je fun _ hK3 _=>(Je fun _ hK4 _=>(Jb (Jg (Jd rfl) rfl ?_))))))))))))))));refine Jf (Ja (hK4 (Jo (JC (σ:=Nat) (fun (i:Nat)=>[(4,.int .i64 (i:Int)),(3,sV (monT m i))]) (fun (i:Nat)=>H) (fun (i:Nat)=>obj g1 (.cells (bytesC m).toArray 65 (0,0))::L) (fun (i:Nat)=>i≤8) (fun (i:Nat)=>8 - i) 0 (by omega) ⟨rfl,⟨rfl,trivial⟩⟩ rfl rfl ?_))));rintro i hi _ hAg0;have hli:=hml9 i;have hmi:=hmb i;have hdl:=decL_len (n:=m.getD i 0) hmi.1 (by omega);refine Je fun _ hK5 _=>(Je fun _ hK6 _=>(Jb (Jg (Jc rfl) rfl (Jg (JJ rfl rfl) rfl (Jf (Ja (hK6 (Jj rfl (fun hc6=>?_) (fun hc6=>?_)))))))))
 ·
  refine Ji (Ja (hK5 (Je fun _ hK7 _=>(Jo (Je fun _ hK8 _=>(Je fun _ hK9 _=>(Jb (Jg (Jc rfl) rfl (Jg (JP u65 sz5 rfl rfl rfl (by omega)) rfl (Jg (JB rfl At.z (by first | exact bytesC_get (by simp [*];omega) | exact intsC_get (by simp [*];omega)) pl5) rfl (Jg (JZ rfl rfl) rfl (Jf (Ja (hK9 (Jj rfl (fun h12=>?_) (fun h12=>?_))))))))))))))))
  ·
   refine Jb (Jg (Jc rfl) rfl (Jg (Jc rfl) rfl (Jg (Jx rfl rfl (by first | exact nw _ (by omega) | rfl)) rfl (Jg (Ee u3 u5 rfl (su8_id (by omega))) rfl (J.mk (MK.lit1S u123 ze5 sz5 rfl rfl) rfl fun qo17 co17=>(Jg (PR.str1 u123 u5 u9 rfl At.z (by omega)) rfl (Jg (JT rfl rfl (by first | omega | (simp only [List.length_append,List.length_singleton];omega))) rfl (Jg (Jd rfl) rfl (Jf (Ja (hK8 (Je fun _ hK10 _=>(Jb (Jg (Jc rfl) rfl (Jg (JP u65 sz5 rfl rfl rfl (by omega)) rfl ?_)))))))))))))));refine Jg (JB rfl (.s .z) (by first | exact bytesC_get (by simp [*];omega) | exact intsC_get (by simp [*];omega)) pl5) rfl (Jg (JZ rfl rfl) rfl (Jf (Ja (hK10 (Jj rfl (fun h23=>?_) (fun h23=>?_))))))
   ·
    refine Jb (Jg (Jc rfl) rfl (Jg (Jc rfl) rfl (Jg (JP u65 sz5 rfl rfl rfl (by omega)) rfl (Jg (JB rfl (.s .z) (by first | exact bytesC_get (by simp [*];omega) | exact intsC_get (by simp [*];omega)) pl5) rfl (Jg (Ee u5 u2 rfl (by first | exact nw _ (by omega) | rfl)) rfl (JA fn65 rfl rfl fun w hH=>(l01Dec_c (by omega) hH).mono ?_))))));rintro _ w ⟨rfl,hH⟩;refine ⟨_,rfl,fun a hF=>JR hF hH ?_⟩;refine Jg (JT rfl rfl (by first | omega | (simp only [List.length_append,List.length_singleton];omega))) rfl (Jg (Jd rfl) rfl (Jf (JE (Ja (hK7 (Jb (Jg (Jc rfl) rfl (Jg (Jx rfl rfl (by first | exact nw _ (by omega) | rfl)) rfl (Jg (Jd rfl) rfl (Jf (Ja (Em .z ?_))))))))))));exact hAg0 (i+1) (by omega) (by omega) 31 rfl rfl ⟨rfl,⟨(vS (monT_yy h12 h23)),trivial⟩⟩ rfl rfl
   ·
    refine Ji (JE (Ja (hK7 (Jb (Jg (Jc rfl) rfl (Jg (Jx rfl rfl (by first | exact nw _ (by omega) | rfl)) rfl (Jg (Jd rfl) rfl (Jf (Ja (Em .z ?_))))))))));exact hAg0 (i+1) (by omega) (by omega) 23 rfl rfl ⟨rfl,⟨(vS (monT_yn h12 h23)),trivial⟩⟩ rfl rfl
  ·
   refine Ji (Ja (hK8 (Je fun _ hK11 _=>(Jb (Jg (Jc rfl) rfl (Jg (JP u65 sz5 rfl rfl rfl (by omega)) rfl (Jg (JB rfl At.z (by first | exact bytesC_get (by simp [*];omega) | exact intsC_get (by simp [*];omega)) pl5) rfl (Jg (JZ rfl rfl) rfl (Jf (Ja (hK11 (Jj rfl (fun h23=>?_) (fun h23=>?_)))))))))))))
   ·
    refine Jb (Jg (Jc rfl) rfl (Jg (Jc rfl) rfl (Jg (JP u65 sz5 rfl rfl rfl (by omega)) rfl (Jg (JB rfl At.z (by first | exact bytesC_get (by simp [*];omega) | exact intsC_get (by simp [*];omega)) pl5) rfl (Jg (Ee u5 u2 rfl (by first | exact nw _ (by omega) | rfl)) rfl (JA fn65 rfl rfl fun w hH=>(l01Dec_c (by omega) hH).mono ?_))))));rintro _ w ⟨rfl,hH⟩;refine ⟨_,rfl,fun a hF=>JR hF hH ?_⟩;refine Jg (JT rfl rfl (by first | omega | (simp only [List.length_append,List.length_singleton];omega))) rfl (Jg (Jd rfl) rfl (Jf (JE (Ja (hK7 (Jb (Jg (Jc rfl) rfl (Jg (Jx rfl rfl (by first | exact nw _ (by omega) | rfl)) rfl (Jg (Jd rfl) rfl (Jf (Ja ?_)))))))))));exact hAg0 (i+1) (by omega) (by omega) 23 rfl rfl ⟨rfl,⟨(by exfalso;omega),trivial⟩⟩ rfl rfl
   ·
    refine Ji (JE (Ja (hK7 (Jb (Jg (Jc rfl) rfl (Jg (Jx rfl rfl (by first | exact nw _ (by omega) | rfl)) rfl (Jg (Jd rfl) rfl (Jf (Ja ?_)))))))));exact hAg0 (i+1) (by omega) (by omega) 15 rfl rfl ⟨rfl,⟨(vS (monT_nn h12)),trivial⟩⟩ rfl rfl
 ·
  refine JK (Jm (Jm (JO (Ja (hK3 (Je fun _ hK12 _=>(Je fun _ hK13 _=>(Jb (Jg (Jc rfl) rfl (Jg (PR.strEql rfl rfl) rfl (Jf (Ja (hK13 (Jj rfl (fun h32=>?_) (fun h32=>?_)))))))))))))))
  ·
   refine Je fun _ hK14 _=>(Jb (Jg (Jd rfl) rfl (Jf (Ja (hK14 (Jl (Jh (Jk rfl (Res.tmp rfl) fun w hH=>?_))))))));replace hH:=hH.tail
   obtain rfl:i=8:=by omega
   exact ⟨by unfold nameT;rw [if_pos h32],hH⟩
  ·
   refine Ji (Ja (hK12 (Je fun _ hK15 _=>(Jb (Jg (Jc rfl) rfl (Jg (Jd rfl) rfl (Jf (Ja (hK15 (Jl (Jk rfl (Res.tmp rfl) fun w hH=>?_)))))))))));replace hH:=hH.tail
   obtain rfl:i=8:=by omega
   exact ⟨by unfold nameT;rw [if_neg h32],hH⟩
theorem l01Text_c {B:World} {H0 H:HP} {L:List SA} {w:World} {qts:Option Addr} {cts:Nat} {ts:List Term} (hts:Terms H qts ts) (hl:ts.length≤400) (hf : ∀i,i<ts.length→0≤(tm ts i).fac) (hH:Hp B H0 H L w):Calls Tryz.prog 42 [.agg [.slice qts ts.length cts].toArray].toArray w fun e w'=>e = .returned (sV (textT ts))∧Hp B H0 H L w':=by
 refine Jt Tryz.func42 rfl 39 rfl rfl [(0,.agg [.slice qts ts.length cts].toArray)] rfl hH ?_;clear hH;have hp9:=fun k (h:k≤ts.length)=>preT_len hts.wfs hf h;refine Je fun _ hK1 _=>(Jb (Eo rfl rfl rfl fun g1=>(Jg (Jd rfl) rfl (Jf (Ja (hK1 (Je fun _ hK2 _=>(Je fun _ hK3 _=>(Jb (Jg (JG u33 rfl sz31 rfl) rfl (Jg (JB rfl At.z rfl pl31) rfl (Jg (Jp u31 rfl rfl) rfl (Jg (PR.eql rfl rfl) rfl (Jf (Ja (hK3 ?_))))))))))))))));refine Jj rfl (fun h8=>?_) (fun h8=>?_)
 ·
  refine Je fun _ hK4 _=>(Jb (Jg (Jd rfl) rfl (Jf (Ja (hK4 (Jl (Jh (Jk rfl (Res.tmp rfl) fun w hH=>?_))))))));replace hH:=hH.tail;exact ⟨by unfold textT;rw [if_pos (by omega)],hH⟩
 ·
  refine Ji (Ja (hK2 (Je fun _ hK5 _=>(Jb (Jg (Jd rfl) rfl (Jf (Ja (hK5 (Je fun _ hK6 _=>(Je fun _ hK7 _=>(Jb (Jg (Jd rfl) rfl (Jf (Ja (hK7 (Jo (JC (σ:=Nat) (fun (i:Nat)=>[(4,.int .i64 (i:Int)),(3,sV (preT ts i))]) (fun (i:Nat)=>H) (fun (i:Nat)=>obj g1 (.cells [.slice qts ts.length cts].toArray 33 (0,0))::L) (fun (i:Nat)=>i≤ts.length) (fun (i:Nat)=>ts.length - i) 0 (by omega) ⟨rfl,⟨rfl,trivial⟩⟩ rfl rfl ?_)))))))))))))))));rintro i hi _ hAg0;have hpl:=hp9 i hi;refine Je fun _ hK8 _=>(Je fun _ hK9 _=>(Jb (Jg (Jc rfl) rfl (Jg (JG u33 rfl sz31 rfl) rfl (Jg (JB rfl At.z rfl pl31) rfl (Jg (Jp u31 rfl rfl) rfl (Jg (JJ rfl rfl) rfl (Jf (Ja (hK9 (Jj rfl (fun h13=>?_) (fun h13=>?_))))))))))))
  ·
   have hil:i<ts.length:=by omega
   have hfi:=hf i hil;have hmw:=(hts.wf i hil);have hfu:=hmw.fac.2;have hdl:=decL_len hfi hmw.fac.2;have hnl:=nameT_len hmw.mono.bd;refine Ji (Ja (hK8 (Je fun _ hK10 _=>(Jo (Je fun _ hK11 _=>(Je fun _ hK12 _=>(Jb (Jg (Jc rfl) rfl (Jg (JZ rfl rfl) rfl (Jf (Ja (hK12 (Jj rfl (fun h17=>?_) (fun h17=>?_))))))))))))))
   ·
    refine Jb (Jg (Jc rfl) rfl (Jg (JT rfl rfl (by first | omega | (simp only [List.length_append,List.length_singleton];omega))) rfl (Jg (Jd rfl) rfl (Jf (Ja (hK11 (CJ.head [[], [], [1], [], [2,3], [4], [5], [6], [0,7], [8], [], [10], [], [11,12], [13], [14], [15]] (by kernel_rfl) (JF (fun gh=>Jc rfl) (JF (fun gh=>JG u33 rfl sz31 rfl) (JF (fun gh=>JB rfl At.z rfl pl31) (JF (fun gh=>Jc rfl) (JF (fun gh=>Ep u31 sz69 rfl rfl rfl (by omega) hts.sm) (JF (fun gh=>PR.fldP u69 rfl sz2 rfl (hts.sm (i:=i) (by omega))) (JF (fun gh=>Ef rfl (hts.fac (by omega)) pl2) (HJ.call fn65 (fun gh=>rfl) (fun w X hH=>l01Dec_c (by omega) hH) ?_)))))))))))))));refine JF (fun gh=>JT rfl rfl (by first | omega | (simp only [List.length_append,List.length_singleton];omega))) (JF (fun gh=>JT rfl rfl (by first | omega | (simp only [List.length_append,List.length_singleton];omega))) (JF (fun gh=>JG u33 rfl sz31 rfl) (JF (fun gh=>JB rfl At.z rfl pl31) (JF (fun gh=>Jc rfl) (JF (fun gh=>Ep u31 sz69 rfl rfl rfl (by omega) hts.sm) (JF (fun gh=>PR.fldP u69 rfl sz65 rfl (hts.sm (i:=i) (by omega))) (JF (fun gh=>Ea rfl (hts.mono (by omega)) (hts.sm (i:=i) (by omega)) (by rw [bytesC_length,(hts.wf _ (by omega)).mono.len];exact ag65)) (HJ.call fn66 (fun gh=>rfl) (fun w X hH=>l01Name_c (hts.wf i (by omega)).mono hH) (El 17 0 foll0 (by kernel_rfl) rfl rfl fun gh=>(J.conv (us':=(20,_)::(21,_)::(22,_)::(23,_)::(24,_)::(25,_)::(26,_)::(27,_)::(28,_)::(29,_)::(30,_)::(31,_)::(32,_)::(33,_)::(34,_)::(35,_)::(36,_)::_) (L':=_) rfl rfl (Jf (Ei (JI (JT rfl rfl (by first | omega | (simp only [List.length_append,List.length_singleton];omega))) rfl (JI (Jd rfl) rfl ?_))))))))))))));refine Ek (JE (Ja (hK10 (Jb (Jg (Jc rfl) rfl (Jg (Jx rfl rfl (by first | exact nw _ (by omega) | rfl)) rfl (Jg (Jd rfl) rfl (Jf (Ja ?_)))))))));exact hAg0 (i+1) (by omega) (by omega) 34 rfl rfl ⟨rfl,⟨(vS (preT_p (by omega))),trivial⟩⟩ rfl rfl
   ·
    refine Ji (Ja (hK11 (CJ.head [[], [], [1], [], [2,3], [4], [5], [6], [0,7], [8], [], [10], [], [11,12], [13], [14], [15]] (by kernel_rfl) (JF (fun gh=>Jc rfl) (JF (fun gh=>JG u33 rfl sz31 rfl) (JF (fun gh=>JB rfl At.z rfl pl31) (JF (fun gh=>Jc rfl) (JF (fun gh=>Ep u31 sz69 rfl rfl rfl (by omega) hts.sm) (JF (fun gh=>PR.fldP u69 rfl sz2 rfl (hts.sm (i:=i) (by omega))) (JF (fun gh=>Ef rfl (hts.fac (by omega)) pl2) (HJ.call fn65 (fun gh=>rfl) (fun w X hH=>l01Dec_c (by omega) hH) (JF (fun gh=>JT rfl rfl (by first | omega | (simp only [List.length_append,List.length_singleton];omega))) (JF (fun gh=>JT rfl rfl (by first | omega | (simp only [List.length_append,List.length_singleton];omega))) (JF (fun gh=>JG u33 rfl sz31 rfl) (JF (fun gh=>JB rfl At.z rfl pl31) ?_)))))))))))))));refine JF (fun gh=>Jc rfl) (JF (fun gh=>Ep u31 sz69 rfl rfl rfl (by omega) hts.sm) (JF (fun gh=>PR.fldP u69 rfl sz65 rfl (hts.sm (i:=i) (by omega))) (JF (fun gh=>Ea rfl (hts.mono (by omega)) (hts.sm (i:=i) (by omega)) (by rw [bytesC_length,(hts.wf _ (by omega)).mono.len];exact ag65)) (HJ.call fn66 (fun gh=>rfl) (fun w X hH=>l01Name_c (hts.wf i (by omega)).mono hH) (El 17 0 foll0 (by kernel_rfl) rfl rfl fun gh=>(J.conv (us':=(20,_)::(21,_)::(22,_)::(23,_)::(24,_)::(25,_)::(26,_)::(27,_)::(28,_)::(29,_)::(30,_)::(31,_)::(32,_)::(33,_)::(34,_)::(35,_)::(36,_)::_) (L':=_) rfl rfl (Jf (Ei (JI (JT rfl rfl (by first | omega | (simp only [List.length_append,List.length_singleton];omega))) rfl (JI (Jd rfl) rfl (Ek (JE (Ja (hK10 (Jb ?_)))))))))))))));refine Jg (Jc rfl) rfl (Jg (Jx rfl rfl (by first | exact nw _ (by omega) | rfl)) rfl (Jg (Jd rfl) rfl (Jf (Ja ?_))));exact hAg0 (i+1) (by omega) (by omega) 31 rfl rfl ⟨rfl,⟨(vS (preT_z (by omega))),trivial⟩⟩ rfl rfl
  ·
   refine JK (Jm (Jm (JO (Ja (hK6 (Je fun _ hK13 _=>(Jb (Jg (Jc rfl) rfl (Jg (Jd rfl) rfl (Jf (Ja (hK13 (Jl (Jk rfl (Res.tmp rfl) fun w hH=>?_))))))))))))));replace hH:=hH.tail
   obtain rfl:i=ts.length:=by omega
   exact ⟨by rw [preT_end ts (by omega)],hH⟩
def att (x:List UInt8):List (List UInt8)→List (List UInt8)
 | []=>[x]
 | y::ys=>(x++y)::ys
def spl (c:UInt8):List UInt8→List (List UInt8)
 | []=>[[]]
 | b::s=>if b=c then []::spl c s else att [b] (spl c s)
theorem att_ne (x:List UInt8) (l:List (List UInt8)):att x l≠ []:=by cases l <;> simp [att]
theorem spl_ne (c:UInt8) : ∀s,spl c s≠ []
 | []=>by simp [spl]
 | b::s=>by
  simp only [spl]
  split
  ·simp
  ·exact att_ne _ _
theorem att_len (x:List UInt8) {l:List (List UInt8)} (h:l≠ []):(att x l).length=l.length:=by
 cases l with
 | nil=>exact absurd rfl h
 | cons y ys=>rfl
theorem spl_len (c:UInt8) : ∀s:List UInt8,(spl c s).length≤s.length+1
 | []=>by simp [spl]
 | b::s=>by
  have ih:=spl_len c s
  simp only [spl]
  split
  ·simp only [List.length_cons]
   omega
  ·rw [att_len _ (spl_ne c s)]
   simp only [List.length_cons]
   omega
theorem att_att (x y:List UInt8) (l:List (List UInt8)):att x (att y l)=att (x++y) l:=by cases l <;> simp [att]
theorem att_nil {l:List (List UInt8)} (h:l≠ []):att [] l=l:=by
 cases l with
 | nil=>exact absurd rfl h
 | cons y ys=>rfl
theorem spl_att {c:UInt8} (s:List UInt8) : ∀{x:List UInt8},(∀b∈x,b≠c)→spl c (x++s)=att x (spl c s)
 | [],_=>(att_nil (spl_ne c s)).symm
 | b::x,h=>by
  rw [JxA,spl,if_neg (h b (by simp)),spl_att s fun y hy=>h y (by simp [hy]),att_att]
  rfl
theorem spl_clean {c:UInt8} {x:List UInt8} (h : ∀b∈x,b≠c):spl c x=[x]:=by
 have:=spl_att (c:=c) [] h;rw [List.append_nil] at this;rw [this]
 simp [spl,att]
theorem spl_app {c:UInt8} {x:List UInt8} (s:List UInt8) (h : ∀b∈x,b≠c):spl c (x++c::s)=x::spl c s:=by
 rw [spl_att _ h,spl,if_pos rfl]
 simp [att]
theorem joinTail_cons (sep b:List UInt8) (r:List (List UInt8)):Lib.joinTail sep (b::r)=sep++b++Lib.joinTail sep r:=by
 unfold Lib.joinTail
 simp
theorem spl_join {c:UInt8} : ∀{xs:List (List UInt8)},xs≠ []→(∀x∈xs,∀b∈x,b≠c)→spl c (Lib.join xs [c])=xs
 | [],h,_=>absurd rfl h
 | [x],_,h=>by
  rw [Lib.join_one]
  exact spl_clean (h x (by simp))
 | x::y::xs,_,h=>by
  have ih:=spl_join (c:=c) (xs:=y::xs) (by simp) fun z hz=>h z (by simp [hz])
  rw [Lib.join_cons] at ih
  rw [Lib.join_cons,joinTail_cons,List.append_assoc,List.singleton_append,spl_app _ (h x (by simp)),ih]
theorem index_cons1 (c b:UInt8) (l:List UInt8):Lib.index (b::l) [c]=if b=c then 0 else if Lib.index l [c] = -1 then -1 else Lib.index l [c]+1:=by
 rw [Lib.index]
 by_cases h:b=c
 ·subst h;rw [if_pos rfl]
  simp [List.isPrefixOf]
 ·rw [if_neg h]
  have hp:([c]:List UInt8).isPrefixOf (b::l)=false:=by simp [List.isPrefixOf,Ne.symm h]
  rw [hp]
  by_cases h2:Lib.index l [c] = -1
  ·simp [h2]
  ·rw [if_neg h2,if_neg (by decide),if_neg (by simpa using h2)]
theorem split_spl (c:UInt8) : ∀s:List UInt8,Lib.split s [c]=spl c s
 | []=>by
  unfold Lib.split
  rw [Lib.count_miss (by simp [Lib.index])]
  rfl
 | b::l=>by
  have ih:=split_spl c l
  unfold Lib.split at ih ⊢
  by_cases h:b=c
  ·subst h
   rw [Lib.count_cons_eq,Nat.add_comm,Lib.splitK,index_cons1,if_pos rfl]
   simp only [spl,if_true]
   rw [← ih]
   simp
  ·rw [Lib.count_cons_ne b c l h]
   simp only [spl]
   rw [if_neg h,← ih]
   cases hk:Lib.count l [c] with
   | zero=>rfl
   | succ k=>
    have hm:Lib.index l [c]≠ -1:=fun hm=>by
     rw [Lib.count_miss hm] at hk
     cases hk
    have hge:=Lib.index_ge l [c]
    obtain ⟨j,hj⟩ : ∃j:Nat,Lib.index l [c]=j:=⟨(Lib.index l [c]).toNat,by omega⟩
    rw [Lib.splitK,Lib.splitK,index_cons1,if_neg h,if_neg hm,hj]
    have e1:(((j:Int)+1 == -1)=true)↔False:=⟨fun h=>by have:=beq_iff_eq.1 h;omega,fun h=>h.elim⟩
    have e2:(((j:Int) == -1)=true)↔False:=⟨fun h=>by have:=beq_iff_eq.1 h;omega,fun h=>h.elim⟩
    rw [if_neg (by rw [e1];exact id),if_neg (by rw [e2];exact id)]
    have e3:((j:Int)+1).toNat=j+1:=by omega
    simp only [att,e3,Int.toNat_natCast,List.length_singleton,Nat.add_zero,List.take_succ_cons,List.drop_succ_cons,List.singleton_append]
theorem index_app {c:UInt8} (t:List UInt8) : ∀{x:List UInt8},(∀b∈x,b≠c)→Lib.index (x++c::t) [c]=(x.length:Int)
 | [],_=>by rw [JxB,index_cons1,if_pos rfl];rfl
 | b::x,h=>by
  have ih:=index_app t (x:=x) fun y hy=>h y (by simp [hy])
  rw [JxA,index_cons1,if_neg (h b (by simp)),ih,if_neg (by omega),List.length_cons]
  omega
theorem cut_app {c:UInt8} (t:List UInt8) {x:List UInt8} (h : ∀b∈x,b≠c):Lib.cut (x++c::t) [c]=(x,t,true):=by
 unfold Lib.cut;rw [index_app t h,if_pos (by omega)]
 simp
def isDig (b:UInt8):Bool:=decide (48≤b.toNat) && decide (b.toNat≤57)
def dgV (b:UInt8):Int:=(b.toNat:Int) - 48
def numF:List UInt8→Int→Int
 | [],n=>n
 | b::s,n=>if isDig b then numF s (n * 10+dgV b) else -1
def numS (s:List UInt8):Int:=if s.length=0∨9<s.length∨(1<s.length∧s.getD 0 0=48) then -1 else numF s 0
theorem isDig_iff {b:UInt8}:isDig b=true↔48≤b.toNat∧b.toNat≤57:=by unfold isDig;simp
theorem numF_app (b:UInt8) (hb:isDig b=true) : ∀(s:List UInt8) (n:Int),(∀x∈s,isDig x=true)→numF (s++[b]) n=numF s n * 10+dgV b
 | [],n,_=>by simp [numF,hb]
 | x::s,n,h=>by
  simp only [JxA,numF]
  rw [if_pos (h x (by simp)),if_pos (h x (by simp)),numF_app b hb s _ fun y hy=>h y (by simp [hy])]
theorem dg_ok {d:Nat} (h:d<10):isDig (UInt8.ofNat (48+d))=true∧dgV (UInt8.ofNat (48+d))=d:=by
 have e:(UInt8.ofNat (48+d)).toNat=48+d:=by rw [UInt8.toNat_ofNat'];omega
 unfold isDig dgV;rw [e];exact ⟨by simp;omega,by omega⟩
theorem decD_step {u:Nat} (h : ¬u<10):Lib.decDigits u=Lib.decDigits (u / 10)++[UInt8.ofNat (48+u % 10)]:=by
 rw [Lib.decDigits,dif_neg h]
theorem decD_num : ∀u:Nat,(∀b∈Lib.decDigits u,isDig b=true)∧numF (Lib.decDigits u) 0=u∧Lib.decDigits u≠ []∧(0<u→(Lib.decDigits u).getD 0 0≠48):=fun u=>by
 induction u using Nat.strongRecOn with
 | _ u ih=>
  by_cases h:u<10
  ·have hd:=dg_ok h
   rw [Lib.decDigits_one h]
   refine ⟨fun b hb=>by rw [List.mem_singleton.1 hb];exact hd.1,?_,by simp,fun h0 e=>?_⟩
   ·simp only [numF]
    rw [if_pos hd.1,hd.2]
    omega
   ·have e2:UInt8.ofNat (48+u)=48:=e
    have e3:=congrArg UInt8.toNat e2
    rw [UInt8.toNat_ofNat'] at e3
    have:(48:UInt8).toNat=48:=rfl
    omega
  ·obtain ⟨h1,h2,h3,h4⟩:=ih (u / 10) (by omega)
   have hd:=dg_ok (show u % 10<10 by omega)
   rw [decD_step h]
   refine ⟨fun b hb=>?_,?_,by simp,fun _=>?_⟩
   ·rcases List.mem_append.1 hb with hb | hb
    ·exact h1 b hb
    ·rw [List.mem_singleton.1 hb]
     exact hd.1
   ·rw [numF_app _ hd.1 _ _ h1,h2,hd.2]
    omega
   ·cases hl:Lib.decDigits (u / 10) with
    | nil=>exact absurd hl h3
    | cons a l=>
     have:=h4 (by omega)
     rw [hl] at this
     simpa using this
theorem numS_dec {n:Int} (h:0≤n) (h2:n≤999999999):numS (decL n)=n:=by
 obtain ⟨h1,h3,h4,h5⟩:=decD_num n.toNat
 have hl:(Lib.decDigits n.toNat).length≤9:=by
  rw [Lib.decDigits_length];exact nDigits_le 9 _ (by have h9:(10:Nat) ^ 9=1000000000:=(by decide);omega) (by omega)
 unfold numS decL;rw [if_neg,h3]
 ·omega
 ·rintro (h6 | h6 | ⟨h6,h7⟩)
  ·exact h4 (List.length_eq_zero_iff.1 h6)
  ·omega
  ·by_cases h0:0<n.toNat
   ·exact h5 h0 h7
   ·rw [show n.toNat=0 by omega,Lib.decDigits_one (by omega)] at h6
    simp at h6
theorem p10_le {i:Nat} (h:i≤9):(10:Int) ^ i≤1000000000:=by
 have h4:(10:Nat) ^ i≤10 ^ 9:=Nat.pow_le_pow_right (by omega) h
 have h5:((10 ^ i:Nat):Int)≤((10 ^ 9:Nat):Int):=by omega
 rw [Int.natCast_pow] at h5
 simpa using h5
theorem decF_num : ∀(l:List UInt8) (acc:Nat),(∀b∈l,isDig b=true)→Lib.decFrom acc l=some (numF l (acc:Int)).toNat
 | [],acc,_=>by simp [Lib.decFrom,numF]
 | b::l,acc,h=>by
  have hb:=h b (by simp)
  have h1:=isDig_iff.1 hb
  simp only [Lib.decFrom,Lib.digitVal,numF]
  rw [if_pos h1,if_pos hb]
  simp only
  rw [decF_num l _ fun x hx=>h x (by simp [hx])]
  have e:((acc * 10+(b.toNat - 48):Nat):Int)=(acc:Int) * 10+dgV b:=by unfold dgV;omega
  rw [e]
theorem atoi_dec {u:Nat}:Lib.atoi (Lib.decDigits u)=some (u:Int):=by
 obtain ⟨h1,h2,h3,_⟩:=decD_num u
 have hd:Lib.decNat (Lib.decDigits u)=some u:=by
  unfold Lib.decNat
  rw [if_neg (by cases h:Lib.decDigits u with
   | nil=>exact absurd h h3
   | cons a l=>simp),decF_num _ 0 h1]
  congr 1
  have e:((0:Nat):Int)=0:=rfl;rw [e,h2]
  omega
 cases h:Lib.decDigits u with
 | nil=>exact absurd h h3
 | cons a l=>
  have ha:=isDig_iff.1 (h1 a (by rw [h];simp));rw [h] at hd;simp only [Lib.atoi]
  have n1:(a == 45)=false:=by
   rw [beq_eq_false_iff_ne];intro e;rw [e] at ha;exact absurd ha (by decide)
  have n2:(a == 43)=false:=by
   rw [beq_eq_false_iff_ne];intro e;rw [e] at ha;exact absurd ha (by decide)
  rw [n1,n2,hd]
  rfl
theorem parse_dec {n:Int} (h:0≤n) (h2:n≤999999999):Lib.parseIntB 64 (decL n) = .ok n:=by
 have hl:(Lib.decDigits n.toNat).length≤9:=by
  rw [Lib.decDigits_length];exact nDigits_le 9 _ (by have h9:(10:Nat) ^ 9=1000000000:=(by decide);omega) (by omega)
 unfold decL;rw [Lib.parseIntB_64,Lib.atoiAll_short _ (by omega),atoi_dec]
 show Lib.NumEnd.ok _=_
 congr 1
 omega
theorem atoiAll_dec {n:Int} (h:0≤n) (h2:n≤999999999):Lib.atoiAll (decL n) = .ok n:=by
 rw [← Lib.parseIntB_64];exact parse_dec h h2
def digs (s:List UInt8):List UInt8:=s.takeWhile isDig
def rst (s:List UInt8):List UInt8:=s.dropWhile isDig
theorem rst_len (s:List UInt8):(rst s).length≤s.length:=by
 have:=congrArg List.length (List.takeWhile_append_dropWhile (p:=isDig) (l:=s));rw [List.length_append] at this;unfold rst
 omega
theorem digs_rst (s:List UInt8):digs s++rst s=s:=List.takeWhile_append_dropWhile
theorem digs_app {a:List UInt8} (b:List UInt8) (ha : ∀x∈a,isDig x=true) (hb : ∀x t,b=x::t→isDig x=false):digs (a++b)=a∧rst (a++b)=b:=by
 induction a with
 | nil=>
  cases b with
  | nil=>exact ⟨rfl,rfl⟩
  | cons x t=>
   have:=hb x t rfl
   simp [digs,rst,this]
 | cons x a ih=>
  have hx:=ha x (by simp);obtain ⟨h1,h2⟩:=ih fun y hy=>ha y (by simp [hy]);unfold digs rst at *;simp only [JxA,List.takeWhile_cons,List.dropWhile_cons,hx,if_true];exact ⟨by rw [h1],h2⟩
def ltr (b:UInt8):Bool:=decide (97≤b.toNat) && decide (b.toNat≤104)
def zer8:List Int:=List.replicate 8 0
def expS (d:List UInt8):Int:=if d.length=0 then 1 else numS d
def namF:Nat→List UInt8→List Int→Option (List Int)
 | 0,_,_=>none
 | _+1, [],m=>some m
 | f+1,b::s,m=>if ltr b && (decide (1≤expS (digs s)) && decide (expS (digs s)≤20)) then namF f (rst s) (m.set (b.toNat - 97) (expS (digs s))) else none
def namS (t:List UInt8):Option (List Int):=if t=[49] then some zer8 else if t=[] then none else namF (t.length+1) t zer8
def atV (d:List UInt8):Int:=match Lib.atoiAll d with
 | .ok v=>v
 | .range=>Lib.atoiSat d
 | _=>0
def expI (d:List UInt8):Int:=if d.length=0 then 1 else atV d
def min255 (x:Int):Int:=if x>255 then 255 else x
def monF:Nat→List UInt8→List Int→List Int
 | 0,_,m=>m
 | _+1, [],m=>m
 | f+1,b::s,m=>monF f (rst s) (if ltr b then m.set (b.toNat - 97) (min255 (expI (digs s))) else m)
def monR (t:List UInt8):List Int:=monF (t.length+1) t zer8
theorem set_mn {m:List Int} {i:Nat} {x:Int} (h:Mono m) (hx:0≤x∧x≤255):Mono (m.set i x):=⟨by rw [List.length_set];exact h.len,fun j=>by
 rw [getD_set8]
 split
 ·exact hx
 ·exact h.bd j⟩
theorem zer8_get (j:Nat):zer8.getD j 0=0:=by
 unfold zer8;rw [List.getD_eq_getElem?_getD,List.getElem?_replicate]
 split <;> rfl
theorem zer8_mn:Mono zer8:=⟨by simp [zer8],fun j=>by rw [zer8_get];omega⟩
theorem namF_mn : ∀(f:Nat) (s:List UInt8) (m m':List Int),Mono m→namF f s m=some m' →Mono m'
 | 0,_,_,_,_,h=>by simp [namF] at h
 | f+1, [],m,m',hm,h=>by
  simp only [namF,Option.some.injEq] at h
  rw [← h]
  exact hm
 | f+1,b::s,m,m',hm,h=>by
  simp only [namF] at h
  split at h
  ·rename_i hc
   simp only [Bool.and_eq_true,decide_eq_true_eq] at hc
   exact namF_mn f _ _ _ (set_mn hm (by omega)) h
  ·cases h
theorem namS_mn {t:List UInt8} {m:List Int} (h:namS t=some m):Mono m:=by
 unfold namS at h
 split at h
 ·cases h
  exact zer8_mn
 ·split at h
  ·cases h
  ·exact namF_mn _ _ _ _ zer8_mn h
def sufT (m:List Int):Nat→Nat→List UInt8
 | _,0=>[]
 | i,k+1=>letT m i++sufT m (i+1) k
theorem sufT_mon (m:List Int) : ∀(k i:Nat),monT m i++sufT m i k=monT m (i+k)
 | 0,i=>by simp [sufT]
 | k+1,i=>by
  have:=sufT_mon m k (i+1)
  simp only [monT] at this
  simp only [sufT]
  rw [← List.append_assoc,this]
  congr 1
  omega
theorem u8_97 {i:Nat} (h:i<8):(UInt8.ofNat (97+(i:Int)).toNat).toNat=97+i:=by
 rw [UInt8.toNat_ofNat']
 omega
theorem sufT_head {m:List Int} : ∀{k i:Nat},i+k≤8→∀x t,sufT m i k=x::t→isDig x=false
 | 0,_,_,x,t,h=>by simp [sufT] at h
 | k+1,i,hk,x,t,h=>by
  simp only [sufT,letT] at h
  by_cases h1:0<m.getD i 0
  ·rw [if_pos h1] at h
   simp only [List.singleton_append,JxA,List.cons.injEq] at h
   rw [← h.1]
   unfold isDig
   rw [u8_97 (by omega)]
   simp
   omega
  ·rw [if_neg h1,if_neg (show ¬1<m.getD i 0 by omega),JxB,JxB] at h
   exact sufT_head (by omega) x t h
theorem fill_set {m a:List Int} {i:Nat} (ha:a.length=8) (hm:m.length=8) (hi:i<8) (h0 : ∀j,j<i→a.getD j 0=m.getD j 0) (hz : ∀j,i≤j→a.getD j 0=0):(∀j,j<i+1→(a.set i (m.getD i 0)).getD j 0=m.getD j 0)∧∀j,i+1≤j→(a.set i (m.getD i 0)).getD j 0=0:=⟨fun j hj=>by
 rw [getD_set8]
 by_cases e:i=j
 ·rw [if_pos ⟨e,by omega⟩,e]
 ·rw [if_neg fun h=>e h.1]
  exact h0 j (by omega),fun j hj=>by
 rw [getD_set8,if_neg fun h=>by omega]
 exact hz j (by omega)⟩
theorem let_one {m:List Int} {i k:Nat} (hi:i+(k+1)≤8) (h1:m.getD i 0=1) : ∃s,sufT m i (k+1)=UInt8.ofNat (97+(i:Int)).toNat::s∧digs s=[]∧rst s=sufT m (i+1) k:=by
 refine ⟨sufT m (i+1) k,by
  simp only [sufT,letT];rw [if_pos (show 0<m.getD i 0 by omega),if_neg (show ¬1<m.getD i 0 by omega),List.append_nil]
  rfl,?_⟩
 have:=digs_app (a:=[]) (sufT m (i+1) k) (by simp) (sufT_head (by omega))
 simpa using this
theorem let_two {m:List Int} {i k:Nat} (hi:i+(k+1)≤8) (h1:1<m.getD i 0) : ∃s,sufT m i (k+1)=UInt8.ofNat (97+(i:Int)).toNat::s∧digs s=decL (m.getD i 0)∧rst s=sufT m (i+1) k:=by
 refine ⟨decL (m.getD i 0)++sufT m (i+1) k,?_,digs_app _ (decD_num _).1 (sufT_head (by omega))⟩;simp only [sufT,letT];rw [if_pos (by omega),if_pos h1]
 simp
theorem nam_suf {m:List Int} (hm:m.length=8) (hb : ∀j,0≤m.getD j 0∧m.getD j 0≤20) : ∀(k i f:Nat) (a:List Int),i+k=8→(sufT m i k).length<f→a.length=8→(∀j,j<i→a.getD j 0=m.getD j 0)→(∀j,i≤j→a.getD j 0=0)→namF f (sufT m i k) a=some m∧monF f (sufT m i k) a=m
 | 0,i,0,a,_,hf,_,_,_=>by omega
 | 0,i,f+1,a,hk,_,ha,h0,_=>by
  have e:a=m:=list_eq_of (by omega) fun j hj=>h0 j (by omega)
  simp only [sufT,namF,monF]
  exact ⟨by rw [e],e⟩
 | k+1,i,f,a,hk,hf,ha,h0,hz=>by
  have hbi:=hb i
  rcases (show m.getD i 0=0∨m.getD i 0=1∨1<m.getD i 0 by omega) with h1 | h1 | h1
  ·have e:sufT m i (k+1)=sufT m (i+1) k:=by
    simp only [sufT,letT]
    rw [if_neg (show ¬0<m.getD i 0 by omega),if_neg (show ¬1<m.getD i 0 by omega)]
    rfl
   rw [e] at hf ⊢
   refine nam_suf hm hb k (i+1) f a (by omega) hf ha (fun j hj=>?_) fun j hj=>hz j (by omega)
   by_cases e2:j=i
   ·rw [e2,hz i (Nat.le_refl _),h1]
   ·exact h0 j (by omega)
  ·obtain ⟨s,e,e1,e2⟩:=let_one (m:=m) (i:=i) (k:=k) (by omega) h1
   obtain ⟨g1,g2⟩:=fill_set ha hm (show i<8 by omega) h0 hz
   rw [e] at hf ⊢
   have hl:ltr (UInt8.ofNat (97+(i:Int)).toNat)=true:=by
    unfold ltr
    rw [u8_97 (by omega)]
    simp
    omega
   cases f with
   | zero=>omega
   | succ f=>
    have hlen:(sufT m (i+1) k).length<f:=by
     have:=rst_len s
     rw [e2] at this
     simp only [List.length_cons] at hf
     omega
    have ih:=nam_suf hm hb k (i+1) f (a.set i (m.getD i 0)) (by omega) hlen (by simp [ha]) g1 g2
    simp only [namF,monF]
    rw [hl,e1,e2,u8_97 (by omega),show 97+i - 97=i by omega]
    have x1:expS []=m.getD i 0:=h1.symm
    have x2:min255 (expI [])=m.getD i 0:=h1.symm
    rw [x1,x2,if_pos (by rw [decide_eq_true (show 1≤m.getD i 0 by omega),decide_eq_true hbi.2];rfl),if_pos rfl]
    exact ih
  ·obtain ⟨s,e,e1,e2⟩:=let_two (m:=m) (i:=i) (k:=k) (by omega) h1
   obtain ⟨g1,g2⟩:=fill_set ha hm (show i<8 by omega) h0 hz
   rw [e] at hf ⊢
   have hl:ltr (UInt8.ofNat (97+(i:Int)).toNat)=true:=by
    unfold ltr
    rw [u8_97 (by omega)]
    simp
    omega
   cases f with
   | zero=>omega
   | succ f=>
    have hlen:(sufT m (i+1) k).length<f:=by
     have:=rst_len s
     rw [e2] at this
     simp only [List.length_cons] at hf
     omega
    have ih:=nam_suf hm hb k (i+1) f (a.set i (m.getD i 0)) (by omega) hlen (by simp [ha]) g1 g2
    have hdn:(decL (m.getD i 0)).length≠0:=fun h=>(decD_num (m.getD i 0).toNat).2.2.1 (List.length_eq_zero_iff.1 h)
    simp only [namF,monF]
    rw [hl,e1,e2,u8_97 (by omega),show 97+i - 97=i by omega]
    have x1:expS (decL (m.getD i 0))=m.getD i 0:=by
     unfold expS
     rw [if_neg hdn]
     exact numS_dec (n:=m.getD i 0) (by omega) (by omega)
    have x2:min255 (expI (decL (m.getD i 0)))=m.getD i 0:=by
     unfold expI atV
     rw [if_neg hdn,atoiAll_dec (n:=m.getD i 0) (by omega) (by omega)]
     simp only
     unfold min255
     rw [if_neg (by omega)]
    rw [x1,x2,if_pos (by rw [decide_eq_true (show 1≤m.getD i 0 by omega),decide_eq_true hbi.2];rfl),if_pos rfl]
    exact ih
theorem name_read {m:List Int} (hm:m.length=8) (hb : ∀j,0≤m.getD j 0∧m.getD j 0≤20):namS (nameT m)=some m∧monR (nameT m)=m:=by
 have e:sufT m 0 8=monT m 8:=by
  have h:=sufT_mon m 8 0;rw [show monT m 0=[] from rfl,JxB] at h;exact h
 have h:=fun f hf=>nam_suf hm hb 8 0 f zer8 (by omega) hf (by simp [zer8]) (fun j hj=>by omega) fun j _=>zer8_get j;unfold nameT
 by_cases hn:monT m 8=[]
 ·rw [if_pos hn];rw [hn] at e;have h1:=h 1 (by rw [e];simp);rw [e] at h1;simp only [namF,monF] at h1;refine ⟨by unfold namS;rw [if_pos rfl];exact h1.1,?_⟩;unfold monR
  have:ltr 49=false:=by decide
  simp only [List.length_singleton,monF,this];exact h1.2
 ·rw [if_neg hn];have h1:=h ((monT m 8).length+1) (by rw [e];omega);rw [e] at h1;refine ⟨?_,h1.2⟩;unfold namS;rw [if_neg,if_neg hn]
  ·exact h1.1
  ·intro h49;rw [← e] at h49;have:=sufT_head (m:=m) (k:=8) (i:=0) (by omega) 49 [] h49;exact absurd this (by decide)
def wrdI (w:List UInt8):Option Term:=match Lib.parseIntB 64 (Lib.cut w [42]).1 with
 | .ok n=>some ⟨monR (Lib.cut w [42]).2.1,n⟩
 | _=>none
def wrdS (w:List UInt8):Option Term:=match spl 42 w with
 | [a,b]=>(namS b).map fun m=>⟨m,numS a⟩
 | _=>none
def allO {α:Type} (f:List UInt8→Option α):List (List UInt8)→Option (List α)
 | []=>some []
 | w::ws=>match f w with
  | none=>none
  | some x=>(allO f ws).map fun xs=>x::xs
def chkT (ds:List Int) (t:List UInt8) (f:List Term):Bool:=isForm ds f && decide (textT f=t)
def rdI (ds:List Int) (t:List UInt8):List Term × Bool:=if t=[48] then ([],true) else match allO wrdI (spl 43 t) with
 | none=>([],false)
 | some f=>(f,chkT ds t f)
def rdS (ds:List Int) (t:List UInt8):List Term × Bool:=if t=[48] then ([],true) else if 400<(spl 43 t).length then ([],false) else match allO wrdS (spl 43 t) with
 | none=>([],false)
 | some f=>(f,chkT ds t f)
def okBy (b:UInt8):Bool:=isDig b || ltr b
theorem okBy_ne {b c:UInt8} (h:okBy b=true) (hc:c.toNat<48∨c.toNat=58∨c.toNat=59):b≠c:=fun e=>by
 subst e
 unfold okBy isDig ltr at h
 simp only [Bool.or_eq_true,Bool.and_eq_true,decide_eq_true_eq] at h
 omega
theorem dec_okB (n:Int) : ∀b∈decL n,okBy b=true:=fun b hb=>by
 unfold okBy
 rw [(decD_num n.toNat).1 b hb]
 rfl
theorem let_okB (m:List Int) {i:Nat} (hi:i<8) : ∀b∈letT m i,okBy b=true:=fun b hb=>by
 unfold letT at hb
 rcases List.mem_append.1 hb with h | h
 ·split at h
  ·rw [List.mem_singleton.1 h]
   unfold okBy ltr
   rw [u8_97 hi]
   simp
   omega
  ·simp at h
 ·split at h
  ·exact dec_okB _ b h
  ·simp at h
theorem mon_okB (m:List Int) : ∀k,k≤8→∀b∈monT m k,okBy b=true
 | 0,_,b,h=>by simp [monT] at h
 | k+1,hk,b,h=>by
  simp only [monT] at h
  rcases List.mem_append.1 h with h | h
  ·exact mon_okB m k (by omega) b h
  ·exact let_okB m (by omega) b h
theorem name_okB (m:List Int) : ∀b∈nameT m,okBy b=true:=fun b hb=>by
 unfold nameT at hb
 split at hb
 ·rw [List.mem_singleton.1 hb]
  decide
 ·exact mon_okB m 8 (by omega) b hb
theorem term_ne (t:Term) {c:UInt8} (hc:c.toNat=43∨c.toNat=58∨c.toNat=59) : ∀b∈termT t,b≠c:=fun b hb=>by
 unfold termT at hb
 rcases List.mem_append.1 hb with h | h
 ·rcases List.mem_append.1 h with h | h
  ·exact okBy_ne (dec_okB _ b h) (by omega)
  ·rw [List.mem_singleton.1 h]
   intro e
   rw [← e] at hc
   have:(42:UInt8).toNat=42:=rfl
   omega
 ·exact okBy_ne (name_okB _ b h) (by omega)
structure TmOk (t:Term):Prop where
 len:t.mono.length=8
 bd : ∀j,0≤t.mono.getD j 0∧t.mono.getD j 0≤20
 fac:1≤t.fac∧t.fac≤10006
theorem form_tmOk {ds:List Int} {f:List Term} (hf:isForm ds f=true) (hw:Wfs f) : ∀t∈f,TmOk t:=fun t ht=>by
 have hs:=isForm_sok hw hf
 have hm:(t.mono,t.fac)∈toS f:=List.mem_map.2 ⟨t,ht,rfl⟩
 have h1:=hs.key _ hm
 exact ⟨h1.len,h1.bd,hs.val _ hm⟩
theorem wrdI_term {t:Term} (h:TmOk t):wrdI (termT t)=some t:=by
 unfold wrdI termT;rw [List.append_assoc,List.singleton_append,cut_app _ fun b hb=>okBy_ne (dec_okB _ b hb) (by decide),parse_dec (by have:=h.fac;omega) (by have:=h.fac;omega)];simp only;rw [(name_read h.len h.bd).2]
theorem wrdS_term {t:Term} (h:TmOk t):wrdS (termT t)=some t:=by
 unfold wrdS termT;rw [List.append_assoc,List.singleton_append,spl_app _ fun b hb=>okBy_ne (dec_okB _ b hb) (by decide),spl_clean fun b hb=>okBy_ne (name_okB _ b hb) (by decide)];simp only;rw [(name_read h.len h.bd).1,numS_dec (by have:=h.fac;omega) (by have:=h.fac;omega)]
 rfl
theorem allO_map {α β:Type} {f:List UInt8→Option α} {g:β→List UInt8} {h:β→α} : ∀{l:List β},(∀x∈l,f (g x)=some (h x))→allO f (l.map g)=some (l.map h)
 | [],_=>rfl
 | x::l,hx=>by
  simp only [List.map_cons,allO]
  rw [hx x (by simp),allO_map fun y hy=>hx y (by simp [hy])]
  rfl
theorem spl_text {f:List Term} (h:f≠ []):spl 43 (textT f)=f.map termT:=by
 unfold textT;rw [if_neg fun e=>h (List.length_eq_zero_iff.1 e)];refine spl_join (by simpa using h) fun x hx=>?_;obtain ⟨t,_,rfl⟩:=List.mem_map.1 hx;exact term_ne t (.inl (by decide))
theorem term_long (t:Term):3≤(termT t).length:=by
 have h1:(decL t.fac)≠ []:=(decD_num t.fac.toNat).2.2.1;have h2:=List.length_pos_iff.2 h1
 have h3:0<(nameT t.mono).length:=by
  unfold nameT
  split
  ·simp
  ·rename_i h
   exact List.length_pos_iff.2 h
 unfold termT;simp only [List.length_append,List.length_singleton]
 omega
theorem text_48 {f:List Term} (h:f≠ []):textT f≠ [48]:=fun e=>by
 have h1:=spl_text h
 rw [e] at h1
 have h2:spl 43 [48]=[[48]]:=by decide
 rw [h2] at h1
 cases f with
 | nil=>exact h rfl
 | cons t f=>
  simp only [List.map_cons,List.cons.injEq] at h1
  have:=term_long t
  rw [← h1.1] at this
  simp at this
def okR (ds:List Int) (t:List UInt8) (f:List Term):Prop:=isForm ds f=true∧Wfs f∧textT f=t
theorem isForm_nil (ds:List Int):isForm ds []=true:=by unfold isForm;simp
theorem rd_yes {ds:List Int} {t:List UInt8} {f:List Term} (h:okR ds t f):rdI ds t=(f,true)∧rdS ds t=(f,true):=by
 obtain ⟨h1,h2,h3⟩:=h;unfold rdI rdS
 by_cases hf:f=[]
 ·subst hf
  have:t=[48]:=by rw [← h3];rfl
  rw [if_pos this,if_pos this];exact ⟨rfl,rfl⟩
 ·have ht:t≠ [48]:=by rw [← h3];exact text_48 hf
  have hk:=form_tmOk h1 h2;have e:=spl_text hf;rw [h3] at e;have h4:=isForm_len4 h1
  have hc:chkT ds t f=true:=by unfold chkT;rw [h1,decide_eq_true h3];rfl
  have a1:allO wrdI (f.map termT)=some (f.map id):=allO_map fun x hx=>wrdI_term (hk x hx);have a2:allO wrdS (f.map termT)=some (f.map id):=allO_map fun x hx=>wrdS_term (hk x hx);rw [List.map_id] at a1 a2;rw [if_neg ht,if_neg ht,e,if_neg (by rw [List.length_map];omega),a1,a2];simp only [hc];exact ⟨trivial,trivial⟩
theorem chkT_y {ds:List Int} {t:List UInt8} {f:List Term} (h:chkT ds t f=true):isForm ds f=true∧textT f=t:=by
 unfold chkT at h;exact ⟨(Bool.and_eq_true_iff.1 h).1,of_decide_eq_true (Bool.and_eq_true_iff.1 h).2⟩
theorem allO_wf {f:List UInt8→Option Term} (hf : ∀w t,f w=some t→Term.wf t) : ∀{ws:List (List UInt8)} {ts:List Term},allO f ws=some ts→Wfs ts
 | [],ts,h=>by
  simp only [allO,Option.some.injEq] at h
  rw [← h]
  exact Wfs.nil
 | w::ws,ts,h=>by
  simp only [allO] at h
  cases hw:f w with
  | none=>rw [hw] at h;cases h
  | some x=>
   rw [hw] at h
   cases hr:allO f ws with
   | none=>rw [hr] at h;cases h
   | some xs=>
    rw [hr] at h
    simp only [Option.map_some,Option.some.injEq] at h
    rw [← h]
    intro t ht
    rcases List.mem_cons.1 ht with rfl | ht
    ·exact hf w _ hw
    ·exact allO_wf hf hr t ht
end Go.Proofs.YtefpohpaliocaaaGreatDoor.G
namespace Go.Proofs
open Go.Shelf
def Tryz.lays156_ren:Go.Shelf.Ren:=⟨fun | 156=>62 | 165=>96 | 166=>97 | 169=>98 | 240=>117 | 241=>118 | 276=>128 | 277=>129 | n=>n,fun | 31=>51 | 9=>9 | 3=>3 | 4=>4 | 0=>0 | 20=>20 | 72=>125 | 76=>94 | 70=>122 | 37=>123 | 75=>59 | 127=>144 | 164=>158 | 5=>5 | 80=>127 | n=>n,fun | n=>n⟩
theorem Tryz.lays156:Go.Proofs.Lays.n156 Tryz.prog Tryz.lays156_ren:={
 mixed:=by kernel_rfl
 f156:=Tryz.func62.trans (congrArg some (by kernel_rfl))
 f165:=Tryz.func96.trans (congrArg some (by kernel_rfl))
 f166:=Tryz.func97.trans (congrArg some (by kernel_rfl))
 f169:=Tryz.func98.trans (congrArg some (by kernel_rfl))
 f240:=Tryz.func117.trans (congrArg some (by kernel_rfl))
 f241:=Tryz.func118.trans (congrArg some (by kernel_rfl))
 f276:=Tryz.func128.trans (congrArg some (by kernel_rfl))
 f277:=Tryz.func129.trans (congrArg some (by kernel_rfl))
 t0:=Tryz.underlying0
 a0:=Tryz.isAgg0
 z0:=Tryz.sizeOf0
 v0:=Tryz.zeroValue0
 t3:=Tryz.underlying3
 a3:=Tryz.isAgg3
 z3:=Tryz.sizeOf3
 v3:=Tryz.zeroValue3
 t4:=Tryz.underlying4
 a4:=Tryz.isAgg4
 z4:=Tryz.sizeOf4
 v4:=Tryz.zeroValue4
 t9:=Tryz.underlying9
 a9:=Tryz.isAgg9
 z9:=Tryz.sizeOf9
 v9:=Tryz.zeroValue9
 t20:=Tryz.underlying20
 a20:=Tryz.isAgg20
 z20:=Tryz.sizeOf20
 v20:=Tryz.zeroValue20
 t31:=Tryz.underlying51
 a31:=Tryz.isAgg51
 z31:=Tryz.sizeOf51
 v31:=Tryz.zeroValue51
 t37:=Tryz.underlying123
 a37:=Tryz.isAgg123
 z37:=Tryz.sizeOf123
 v37:=Tryz.zeroValue123
 t70:=Tryz.underlying122
 a70:=Tryz.isAgg122
 z70:=Tryz.sizeOf122
 v70:=Tryz.zeroValue122
 t72:=Tryz.underlying125
 a72:=Tryz.isAgg125
 z72:=Tryz.sizeOf125
 v72:=Tryz.zeroValue125
 t75:=Tryz.underlying59
 a75:=Tryz.isAgg59
 z75:=Tryz.sizeOf59
 v75:=Tryz.zeroValue59
 t76:=Tryz.underlying94
 a76:=Tryz.isAgg94
 z76:=Tryz.sizeOf94
 v76:=Tryz.zeroValue94
 t127:=Tryz.underlying144
 a127:=Tryz.isAgg144
 z127:=Tryz.sizeOf144
 v127:=Tryz.zeroValue144
 t164:=Tryz.underlying158
 a164:=Tryz.isAgg158
 z164:=Tryz.sizeOf158
 v164:=Tryz.zeroValue158}
theorem Tryz.Builder_Extra_156:Builder.Extra Tryz.prog Tryz.lays156_ren:={
 sizeBuilder:=by kernel_rfl
 liesBuilder:=by kernel_rfl
 t5:=Tryz.underlying5
 a5:=Tryz.isAgg5
 z5:=Tryz.sizeOf5
 v5:=Tryz.zeroValue5
 infoByte:=by kernel_rfl
 cellsByte:=by kernel_rfl
 sizeByte:=by kernel_rfl
 neB5:=by decide}
open Go.RowKit in
theorem Tryz.strings_Join (bk o c:Nat) (xs:List ByteArray) (sep:ByteArray) (w:World) (hcells : ∀(j:Nat) x,xs[j]? = some x→w.cell? ⟨bk,o+j,none⟩=some (.string x)) (hbk:bk<w.heap.size) (hN:xs.length≤140737488355328) (hcap:xs.length≤c) (hlen:(Lib.join (xs.map (·.data.toList)) sep.data.toList).length≤140737488355328) :
 Calls Tryz.prog 62 #[.slice (some ⟨bk,o,none⟩) xs.length c,.string sep] w fun e w'=>e = .returned (.string ⟨(Lib.join (xs.map (·.data.toList)) sep.data.toList).toArray⟩)∧Below w.heap.size w w':=Any.strings_Join Tryz.lays156 Tryz.Builder_Extra_156 bk o c xs sep w hcells hbk hN hcap hlen
def Tryz.laysM173_ren:Go.Shelf.Ren:=⟨fun | 173=>95 | 246=>116 | 283=>124 | 284=>125 | 285=>126 | 286=>127 | 129=>131 | 317=>130 | 318=>132 | 319=>133 | 320=>134 | 337=>135 | 338=>136 | n=>n,fun | 2=>2 | 3=>3 | 9=>9 | 4=>4 | 171=>153 | 0=>0 | 53=>108 | 37=>123 | 5=>5 | 173=>156 | 212=>166 | 51=>147 | 20=>20 | 213=>167 | 46=>111 | 232=>171 | 233=>172 | n=>n,fun | 17=>5 | 18=>6 | 19=>7 | n=>n⟩
theorem Tryz.laysM173:Go.Proofs.LaysM.n173 Tryz.prog Tryz.laysM173_ren:={
 mixed:=by kernel_rfl
 f129:=Tryz.func131.trans (congrArg some (by kernel_rfl))
 f173:=Tryz.func95.trans (congrArg some (by kernel_rfl))
 f246:=Tryz.func116.trans (congrArg some (by kernel_rfl))
 f283:=Tryz.func124.trans (congrArg some (by kernel_rfl))
 f284:=Tryz.func125.trans (congrArg some (by kernel_rfl))
 f285:=Tryz.func126.trans (congrArg some (by kernel_rfl))
 f286:=Tryz.func127.trans (congrArg some (by kernel_rfl))
 f317:=Tryz.func130.trans (congrArg some (by kernel_rfl))
 f318:=Tryz.func132.trans (congrArg some (by kernel_rfl))
 f319:=Tryz.func133.trans (congrArg some (by kernel_rfl))
 f320:=Tryz.func134.trans (congrArg some (by kernel_rfl))
 f337:=Tryz.func135.trans (congrArg some (by kernel_rfl))
 f338:=Tryz.func136.trans (congrArg some (by kernel_rfl))
 t0:=Tryz.underlying0
 a0:=Tryz.isAgg0
 z0:=Tryz.sizeOf0
 v0:=Tryz.zeroValue0
 t2:=Tryz.underlying2
 a2:=Tryz.isAgg2
 z2:=Tryz.sizeOf2
 v2:=Tryz.zeroValue2
 t3:=Tryz.underlying3
 a3:=Tryz.isAgg3
 z3:=Tryz.sizeOf3
 v3:=Tryz.zeroValue3
 t4:=Tryz.underlying4
 a4:=Tryz.isAgg4
 z4:=Tryz.sizeOf4
 v4:=Tryz.zeroValue4
 t5:=Tryz.underlying5
 a5:=Tryz.isAgg5
 z5:=Tryz.sizeOf5
 v5:=Tryz.zeroValue5
 t9:=Tryz.underlying9
 a9:=Tryz.isAgg9
 z9:=Tryz.sizeOf9
 v9:=Tryz.zeroValue9
 t20:=Tryz.underlying20
 a20:=Tryz.isAgg20
 z20:=Tryz.sizeOf20
 v20:=Tryz.zeroValue20
 t37:=Tryz.underlying123
 a37:=Tryz.isAgg123
 z37:=Tryz.sizeOf123
 v37:=Tryz.zeroValue123
 t46:=Tryz.underlying111
 a46:=Tryz.isAgg111
 z46:=Tryz.sizeOf111
 v46:=Tryz.zeroValue111
 t51:=Tryz.underlying147
 a51:=Tryz.isAgg147
 z51:=Tryz.sizeOf147
 v51:=Tryz.zeroValue147
 t53:=Tryz.underlying108
 a53:=Tryz.isAgg108
 z53:=Tryz.sizeOf108
 v53:=Tryz.zeroValue108
 t171:=Tryz.underlying153
 a171:=Tryz.isAgg153
 z171:=Tryz.sizeOf153
 v171:=Tryz.zeroValue153
 t173:=Tryz.underlying156
 a173:=Tryz.isAgg156
 z173:=Tryz.sizeOf156
 v173:=Tryz.zeroValue156
 t212:=Tryz.underlying166
 a212:=Tryz.isAgg166
 z212:=Tryz.sizeOf166
 v212:=Tryz.zeroValue166
 t213:=Tryz.underlying167
 a213:=Tryz.isAgg167
 z213:=Tryz.sizeOf167
 t232:=Tryz.underlying171
 a232:=Tryz.isAgg171
 z232:=Tryz.sizeOf171
 v232:=Tryz.zeroValue171
 t233:=Tryz.underlying172
 a233:=Tryz.isAgg172
 z233:=Tryz.sizeOf172
 v233:=Tryz.zeroValue172
 g17:=by kernel_rfl
 g18:=by kernel_rfl
 g19:=by kernel_rfl
 i0:=by kernel_rfl
 i2:=by kernel_rfl
 i3:=by kernel_rfl
 i4:=by kernel_rfl
 i5:=by kernel_rfl
 i9:=by kernel_rfl
 i20:=by kernel_rfl
 i37:=by kernel_rfl
 i46:=by kernel_rfl
 i51:=by kernel_rfl
 i53:=by kernel_rfl
 i171:=by kernel_rfl
 i173:=by kernel_rfl
 i212:=by kernel_rfl
 i232:=by kernel_rfl
 i233:=by kernel_rfl
 m17:=by kernel_rfl
 m18:=by kernel_rfl
 m19:=by kernel_rfl}
open Go.RowKit Go.Sort Go.Lib in
theorem Tryz.strconv_FormatInt_10 (n:Int) (h0 : -9223372036854775808≤n) (h1:n≤9223372036854775807) (w:World) (htab:Lib.TabIs Tryz.prog w "internal/strconv.uint64pow10" .u64 Lib.pow10Tab) :
 Calls Tryz.prog 95 #[.int .i64 n,.int .i64 10] w fun e w'=>e = .returned (.string ⟨(Lib.itoa n).toArray⟩)∧∃k os,w'=grow (w.drewN k) os:=Any.strconv_FormatInt_10 Tryz.laysM173 n h0 h1 w htab
def Tryz.laysC172_ren:Go.Shelf.Ren:=⟨fun | 172=>68 | 244=>99 | 245=>55 | 247=>54 | 279=>85 | 280=>86 | 281=>87 | 282=>88 | 287=>84 | 316=>110 | 171=>112 | 205=>111 | 321=>108 | 322=>109 | 243=>123 | 246=>116 | 283=>124 | 284=>125 | 285=>126 | 286=>127 | 129=>131 | 317=>130 | 318=>132 | 319=>133 | 320=>134 | 337=>135 | 338=>136 | n=>n,fun | 9=>9 | 3=>3 | 75=>59 | 76=>94 | 4=>4 | 5=>5 | 167=>107 | 37=>123 | 0=>0 | 85=>60 | 2=>2 | 168=>112 | 53=>108 | 175=>109 | 46=>111 | 210=>137 | 127=>144 | 145=>152 | 143=>150 | 21=>21 | 171=>153 | 173=>156 | 212=>166 | 51=>147 | 20=>20 | 213=>167 | 232=>171 | 233=>172 | 80=>127 | n=>n,fun | 15=>1 | 16=>2 | 17=>5 | 18=>6 | 19=>7 | n=>n⟩
theorem Tryz.laysC172:Go.Proofs.LaysC.n172 Tryz.prog Tryz.laysC172_ren:={
 mixed:=by kernel_rfl
 f129:=Tryz.func131.trans (congrArg some (by kernel_rfl))
 f171:=Tryz.func112.trans (congrArg some (by kernel_rfl))
 f172:=Tryz.func68.trans (congrArg some (by kernel_rfl))
 f205:=Tryz.func111.trans (congrArg some (by kernel_rfl))
 f243:=Tryz.func123.trans (congrArg some (by kernel_rfl))
 f244:=Tryz.func99.trans (congrArg some (by kernel_rfl))
 f245:=Tryz.func55.trans (congrArg some (by kernel_rfl))
 f246:=Tryz.func116.trans (congrArg some (by kernel_rfl))
 f247:=Tryz.func54.trans (congrArg some (by kernel_rfl))
 f279:=Tryz.func85.trans (congrArg some (by kernel_rfl))
 f280:=Tryz.func86.trans (congrArg some (by kernel_rfl))
 f281:=Tryz.func87.trans (congrArg some (by kernel_rfl))
 f282:=Tryz.func88.trans (congrArg some (by kernel_rfl))
 f283:=Tryz.func124.trans (congrArg some (by kernel_rfl))
 f284:=Tryz.func125.trans (congrArg some (by kernel_rfl))
 f285:=Tryz.func126.trans (congrArg some (by kernel_rfl))
 f286:=Tryz.func127.trans (congrArg some (by kernel_rfl))
 f287:=Tryz.func84.trans (congrArg some (by kernel_rfl))
 f316:=Tryz.func110.trans (congrArg some (by kernel_rfl))
 f317:=Tryz.func130.trans (congrArg some (by kernel_rfl))
 f318:=Tryz.func132.trans (congrArg some (by kernel_rfl))
 f319:=Tryz.func133.trans (congrArg some (by kernel_rfl))
 f320:=Tryz.func134.trans (congrArg some (by kernel_rfl))
 f321:=Tryz.func108.trans (congrArg some (by kernel_rfl))
 f322:=Tryz.func109.trans (congrArg some (by kernel_rfl))
 f337:=Tryz.func135.trans (congrArg some (by kernel_rfl))
 f338:=Tryz.func136.trans (congrArg some (by kernel_rfl))
 t0:=Tryz.underlying0
 a0:=Tryz.isAgg0
 z0:=Tryz.sizeOf0
 v0:=Tryz.zeroValue0
 t2:=Tryz.underlying2
 a2:=Tryz.isAgg2
 z2:=Tryz.sizeOf2
 v2:=Tryz.zeroValue2
 t3:=Tryz.underlying3
 a3:=Tryz.isAgg3
 z3:=Tryz.sizeOf3
 v3:=Tryz.zeroValue3
 t4:=Tryz.underlying4
 a4:=Tryz.isAgg4
 z4:=Tryz.sizeOf4
 v4:=Tryz.zeroValue4
 t5:=Tryz.underlying5
 a5:=Tryz.isAgg5
 z5:=Tryz.sizeOf5
 v5:=Tryz.zeroValue5
 t9:=Tryz.underlying9
 a9:=Tryz.isAgg9
 z9:=Tryz.sizeOf9
 v9:=Tryz.zeroValue9
 t20:=Tryz.underlying20
 a20:=Tryz.isAgg20
 z20:=Tryz.sizeOf20
 v20:=Tryz.zeroValue20
 t21:=Tryz.underlying21
 a21:=Tryz.isAgg21
 z21:=Tryz.sizeOf21
 v21:=Tryz.zeroValue21
 t37:=Tryz.underlying123
 a37:=Tryz.isAgg123
 z37:=Tryz.sizeOf123
 v37:=Tryz.zeroValue123
 t46:=Tryz.underlying111
 a46:=Tryz.isAgg111
 z46:=Tryz.sizeOf111
 v46:=Tryz.zeroValue111
 t51:=Tryz.underlying147
 a51:=Tryz.isAgg147
 z51:=Tryz.sizeOf147
 v51:=Tryz.zeroValue147
 t53:=Tryz.underlying108
 a53:=Tryz.isAgg108
 z53:=Tryz.sizeOf108
 v53:=Tryz.zeroValue108
 t75:=Tryz.underlying59
 a75:=Tryz.isAgg59
 z75:=Tryz.sizeOf59
 v75:=Tryz.zeroValue59
 t76:=Tryz.underlying94
 a76:=Tryz.isAgg94
 z76:=Tryz.sizeOf94
 v76:=Tryz.zeroValue94
 t85:=Tryz.underlying60
 a85:=Tryz.isAgg60
 z85:=Tryz.sizeOf60
 v85:=Tryz.zeroValue60
 t127:=Tryz.underlying144
 a127:=Tryz.isAgg144
 z127:=Tryz.sizeOf144
 v127:=Tryz.zeroValue144
 t143:=Tryz.underlying150
 a143:=Tryz.isAgg150
 z143:=Tryz.sizeOf150
 v143:=Tryz.zeroValue150
 t145:=Tryz.underlying152
 a145:=Tryz.isAgg152
 z145:=Tryz.sizeOf152
 v145:=Tryz.zeroValue152
 t167:=Tryz.underlying107
 a167:=Tryz.isAgg107
 z167:=Tryz.sizeOf107
 v167:=Tryz.zeroValue107
 t168:=Tryz.underlying112
 a168:=Tryz.isAgg112
 z168:=Tryz.sizeOf112
 v168:=Tryz.zeroValue112
 t171:=Tryz.underlying153
 a171:=Tryz.isAgg153
 z171:=Tryz.sizeOf153
 v171:=Tryz.zeroValue153
 t173:=Tryz.underlying156
 a173:=Tryz.isAgg156
 z173:=Tryz.sizeOf156
 v173:=Tryz.zeroValue156
 t175:=Tryz.underlying109
 a175:=Tryz.isAgg109
 z175:=Tryz.sizeOf109
 v175:=Tryz.zeroValue109
 t210:=Tryz.underlying137
 a210:=Tryz.isAgg137
 z210:=Tryz.sizeOf137
 v210:=Tryz.zeroValue137
 t212:=Tryz.underlying166
 a212:=Tryz.isAgg166
 z212:=Tryz.sizeOf166
 v212:=Tryz.zeroValue166
 t213:=Tryz.underlying167
 a213:=Tryz.isAgg167
 z213:=Tryz.sizeOf167
 t232:=Tryz.underlying171
 a232:=Tryz.isAgg171
 z232:=Tryz.sizeOf171
 v232:=Tryz.zeroValue171
 t233:=Tryz.underlying172
 a233:=Tryz.isAgg172
 z233:=Tryz.sizeOf172
 v233:=Tryz.zeroValue172
 g15:=by kernel_rfl
 g16:=by kernel_rfl
 g17:=by kernel_rfl
 g18:=by kernel_rfl
 g19:=by kernel_rfl
 t80:=Tryz.underlying127
 a80:=Tryz.isAgg127
 z80:=Tryz.sizeOf127
 v80:=Tryz.zeroValue127
 i0:=by kernel_rfl
 i2:=by kernel_rfl
 i3:=by kernel_rfl
 i4:=by kernel_rfl
 i5:=by kernel_rfl
 i9:=by kernel_rfl
 i20:=by kernel_rfl
 i21:=by kernel_rfl
 i37:=by kernel_rfl
 i46:=by kernel_rfl
 i51:=by kernel_rfl
 i53:=by kernel_rfl
 i75:=by kernel_rfl
 i76:=by kernel_rfl
 i80:=by kernel_rfl
 i85:=by kernel_rfl
 i127:=by kernel_rfl
 i143:=by kernel_rfl
 i145:=by kernel_rfl
 i167:=by kernel_rfl
 i168:=by kernel_rfl
 i171:=by kernel_rfl
 i173:=by kernel_rfl
 i175:=by kernel_rfl
 i210:=by kernel_rfl
 i212:=by kernel_rfl
 i232:=by kernel_rfl
 i233:=by kernel_rfl
 m15:=by kernel_rfl
 m16:=by kernel_rfl
 m17:=by kernel_rfl
 m18:=by kernel_rfl
 m19:=by kernel_rfl
 c0:=by kernel_rfl
 c2:=by kernel_rfl
 c3:=by kernel_rfl
 c4:=by kernel_rfl
 c5:=by kernel_rfl
 c9:=by kernel_rfl
 c20:=by kernel_rfl
 c21:=by kernel_rfl
 c37:=by kernel_rfl
 c46:=by kernel_rfl
 c51:=by kernel_rfl
 c53:=by kernel_rfl
 c75:=by kernel_rfl
 c76:=by kernel_rfl
 c80:=by kernel_rfl
 c85:=by kernel_rfl
 c127:=by kernel_rfl
 c143:=by kernel_rfl
 c145:=by kernel_rfl
 c167:=by kernel_rfl
 c168:=by kernel_rfl
 c171:=by kernel_rfl
 c173:=by kernel_rfl
 c175:=by kernel_rfl
 c210:=by kernel_rfl
 c212:=by kernel_rfl
 c213:=by kernel_rfl
 c232:=by kernel_rfl
 c233:=by kernel_rfl}
open Go.RowKit in
theorem Tryz.strconv_Atoi_ok (s:ByteArray) (hmax:s.size≤9223372036854775806) (v:Int) (h:Lib.atoiAll s.data.toList = .ok v) (w:World) :
 Calls Tryz.prog 68 #[.string s] w fun e w'=>e = .returned (.tuple #[.int .i64 v,.nilIface])∧(w'=w∨∃t,w'=Lib.bytesWorld w 5 t):=Any.strconv_Atoi_ok Tryz.laysC172 s hmax v h w
open Go.RowKit in
theorem Tryz.strconv_Atoi_syntax (s:ByteArray) (hlim:s.size≤281474976710656) (h:Lib.atoiAll s.data.toList=Lib.atoiAll []) (ev:Value) (w:World) (hv:w.cell? ⟨1,0,none⟩=some ev) (hev:ev = .nilIface∨∃te pe,ev = .iface te pe) :
 Calls Tryz.prog 68 #[.string s] w fun e w'=>∃N,e = .returned (.tuple #[.int .i64 (0),.iface 112 (.pointer (some ⟨N,0,none⟩))])∧w.heap.size≤N∧w'.heap[N]? = some (.cells #[.string ⟨#[65,116,111,105]⟩,.string s,ev] 137 (0,0))∧Below w.heap.size w w':=Any.strconv_Atoi_syntax Tryz.laysC172 s hlim h ev w hv hev
open Go.RowKit in
theorem Tryz.strconv_Atoi_range (s:ByteArray) (hlim:s.size≤281474976710656) (h:Lib.atoiAll s.data.toList = .range) (ev:Value) (w:World) (hv:w.cell? ⟨2,0,none⟩=some ev) (hev:ev = .nilIface∨∃te pe,ev = .iface te pe) :
 Calls Tryz.prog 68 #[.string s] w fun e w'=>∃N,e = .returned (.tuple #[.int .i64 (Lib.atoiSat s.data.toList),.iface 112 (.pointer (some ⟨N,0,none⟩))])∧w.heap.size≤N∧w'.heap[N]? = some (.cells #[.string ⟨#[65,116,111,105]⟩,.string s,ev] 137 (0,0))∧Below w.heap.size w w':=Any.strconv_Atoi_range Tryz.laysC172 s hlim h ev w hv hev
def Tryz.laysC174_ren:Go.Shelf.Ren:=⟨fun | 174=>36 | 247=>54 | 245=>55 | 287=>84 | 279=>85 | 280=>86 | 281=>87 | 282=>88 | 321=>108 | 322=>109 | 316=>110 | 171=>112 | 205=>111 | 243=>123 | 246=>116 | 283=>124 | 284=>125 | 285=>126 | 286=>127 | 129=>131 | 317=>130 | 318=>132 | 319=>133 | 320=>134 | 337=>135 | 338=>136 | n=>n,fun | 9=>9 | 3=>3 | 2=>2 | 75=>59 | 85=>60 | 4=>4 | 167=>107 | 5=>5 | 53=>108 | 175=>109 | 46=>111 | 168=>112 | 37=>123 | 0=>0 | 210=>137 | 21=>21 | 127=>144 | 145=>152 | 143=>150 | 171=>153 | 173=>156 | 212=>166 | 51=>147 | 20=>20 | 213=>167 | 232=>171 | 233=>172 | 80=>127 | n=>n,fun | 15=>1 | 16=>2 | 17=>5 | 18=>6 | 19=>7 | n=>n⟩
theorem Tryz.laysC174:Go.Proofs.LaysC.n174 Tryz.prog Tryz.laysC174_ren:={
 mixed:=by kernel_rfl
 f129:=Tryz.func131.trans (congrArg some (by kernel_rfl))
 f171:=Tryz.func112.trans (congrArg some (by kernel_rfl))
 f174:=Tryz.func36.trans (congrArg some (by kernel_rfl))
 f205:=Tryz.func111.trans (congrArg some (by kernel_rfl))
 f243:=Tryz.func123.trans (congrArg some (by kernel_rfl))
 f245:=Tryz.func55.trans (congrArg some (by kernel_rfl))
 f246:=Tryz.func116.trans (congrArg some (by kernel_rfl))
 f247:=Tryz.func54.trans (congrArg some (by kernel_rfl))
 f279:=Tryz.func85.trans (congrArg some (by kernel_rfl))
 f280:=Tryz.func86.trans (congrArg some (by kernel_rfl))
 f281:=Tryz.func87.trans (congrArg some (by kernel_rfl))
 f282:=Tryz.func88.trans (congrArg some (by kernel_rfl))
 f283:=Tryz.func124.trans (congrArg some (by kernel_rfl))
 f284:=Tryz.func125.trans (congrArg some (by kernel_rfl))
 f285:=Tryz.func126.trans (congrArg some (by kernel_rfl))
 f286:=Tryz.func127.trans (congrArg some (by kernel_rfl))
 f287:=Tryz.func84.trans (congrArg some (by kernel_rfl))
 f316:=Tryz.func110.trans (congrArg some (by kernel_rfl))
 f317:=Tryz.func130.trans (congrArg some (by kernel_rfl))
 f318:=Tryz.func132.trans (congrArg some (by kernel_rfl))
 f319:=Tryz.func133.trans (congrArg some (by kernel_rfl))
 f320:=Tryz.func134.trans (congrArg some (by kernel_rfl))
 f321:=Tryz.func108.trans (congrArg some (by kernel_rfl))
 f322:=Tryz.func109.trans (congrArg some (by kernel_rfl))
 f337:=Tryz.func135.trans (congrArg some (by kernel_rfl))
 f338:=Tryz.func136.trans (congrArg some (by kernel_rfl))
 t0:=Tryz.underlying0
 a0:=Tryz.isAgg0
 z0:=Tryz.sizeOf0
 v0:=Tryz.zeroValue0
 t2:=Tryz.underlying2
 a2:=Tryz.isAgg2
 z2:=Tryz.sizeOf2
 v2:=Tryz.zeroValue2
 t3:=Tryz.underlying3
 a3:=Tryz.isAgg3
 z3:=Tryz.sizeOf3
 v3:=Tryz.zeroValue3
 t4:=Tryz.underlying4
 a4:=Tryz.isAgg4
 z4:=Tryz.sizeOf4
 v4:=Tryz.zeroValue4
 t5:=Tryz.underlying5
 a5:=Tryz.isAgg5
 z5:=Tryz.sizeOf5
 v5:=Tryz.zeroValue5
 t9:=Tryz.underlying9
 a9:=Tryz.isAgg9
 z9:=Tryz.sizeOf9
 v9:=Tryz.zeroValue9
 t20:=Tryz.underlying20
 a20:=Tryz.isAgg20
 z20:=Tryz.sizeOf20
 v20:=Tryz.zeroValue20
 t21:=Tryz.underlying21
 a21:=Tryz.isAgg21
 z21:=Tryz.sizeOf21
 v21:=Tryz.zeroValue21
 t37:=Tryz.underlying123
 a37:=Tryz.isAgg123
 z37:=Tryz.sizeOf123
 v37:=Tryz.zeroValue123
 t46:=Tryz.underlying111
 a46:=Tryz.isAgg111
 z46:=Tryz.sizeOf111
 v46:=Tryz.zeroValue111
 t51:=Tryz.underlying147
 a51:=Tryz.isAgg147
 z51:=Tryz.sizeOf147
 v51:=Tryz.zeroValue147
 t53:=Tryz.underlying108
 a53:=Tryz.isAgg108
 z53:=Tryz.sizeOf108
 v53:=Tryz.zeroValue108
 t75:=Tryz.underlying59
 a75:=Tryz.isAgg59
 z75:=Tryz.sizeOf59
 v75:=Tryz.zeroValue59
 t85:=Tryz.underlying60
 a85:=Tryz.isAgg60
 z85:=Tryz.sizeOf60
 v85:=Tryz.zeroValue60
 t127:=Tryz.underlying144
 a127:=Tryz.isAgg144
 z127:=Tryz.sizeOf144
 v127:=Tryz.zeroValue144
 t143:=Tryz.underlying150
 a143:=Tryz.isAgg150
 z143:=Tryz.sizeOf150
 v143:=Tryz.zeroValue150
 t145:=Tryz.underlying152
 a145:=Tryz.isAgg152
 z145:=Tryz.sizeOf152
 v145:=Tryz.zeroValue152
 t167:=Tryz.underlying107
 a167:=Tryz.isAgg107
 z167:=Tryz.sizeOf107
 v167:=Tryz.zeroValue107
 t168:=Tryz.underlying112
 a168:=Tryz.isAgg112
 z168:=Tryz.sizeOf112
 v168:=Tryz.zeroValue112
 t171:=Tryz.underlying153
 a171:=Tryz.isAgg153
 z171:=Tryz.sizeOf153
 v171:=Tryz.zeroValue153
 t173:=Tryz.underlying156
 a173:=Tryz.isAgg156
 z173:=Tryz.sizeOf156
 v173:=Tryz.zeroValue156
 t175:=Tryz.underlying109
 a175:=Tryz.isAgg109
 z175:=Tryz.sizeOf109
 v175:=Tryz.zeroValue109
 t210:=Tryz.underlying137
 a210:=Tryz.isAgg137
 z210:=Tryz.sizeOf137
 v210:=Tryz.zeroValue137
 t212:=Tryz.underlying166
 a212:=Tryz.isAgg166
 z212:=Tryz.sizeOf166
 v212:=Tryz.zeroValue166
 t213:=Tryz.underlying167
 a213:=Tryz.isAgg167
 z213:=Tryz.sizeOf167
 t232:=Tryz.underlying171
 a232:=Tryz.isAgg171
 z232:=Tryz.sizeOf171
 v232:=Tryz.zeroValue171
 t233:=Tryz.underlying172
 a233:=Tryz.isAgg172
 z233:=Tryz.sizeOf172
 v233:=Tryz.zeroValue172
 g15:=by kernel_rfl
 g16:=by kernel_rfl
 g17:=by kernel_rfl
 g18:=by kernel_rfl
 g19:=by kernel_rfl
 t80:=Tryz.underlying127
 a80:=Tryz.isAgg127
 z80:=Tryz.sizeOf127
 v80:=Tryz.zeroValue127
 i0:=by kernel_rfl
 i2:=by kernel_rfl
 i3:=by kernel_rfl
 i4:=by kernel_rfl
 i5:=by kernel_rfl
 i9:=by kernel_rfl
 i20:=by kernel_rfl
 i21:=by kernel_rfl
 i37:=by kernel_rfl
 i46:=by kernel_rfl
 i51:=by kernel_rfl
 i53:=by kernel_rfl
 i75:=by kernel_rfl
 i80:=by kernel_rfl
 i85:=by kernel_rfl
 i127:=by kernel_rfl
 i143:=by kernel_rfl
 i145:=by kernel_rfl
 i167:=by kernel_rfl
 i168:=by kernel_rfl
 i171:=by kernel_rfl
 i173:=by kernel_rfl
 i175:=by kernel_rfl
 i210:=by kernel_rfl
 i212:=by kernel_rfl
 i232:=by kernel_rfl
 i233:=by kernel_rfl
 m15:=by kernel_rfl
 m16:=by kernel_rfl
 m17:=by kernel_rfl
 m18:=by kernel_rfl
 m19:=by kernel_rfl
 c0:=by kernel_rfl
 c2:=by kernel_rfl
 c3:=by kernel_rfl
 c4:=by kernel_rfl
 c5:=by kernel_rfl
 c9:=by kernel_rfl
 c20:=by kernel_rfl
 c21:=by kernel_rfl
 c37:=by kernel_rfl
 c46:=by kernel_rfl
 c51:=by kernel_rfl
 c53:=by kernel_rfl
 c75:=by kernel_rfl
 c80:=by kernel_rfl
 c85:=by kernel_rfl
 c127:=by kernel_rfl
 c143:=by kernel_rfl
 c145:=by kernel_rfl
 c167:=by kernel_rfl
 c168:=by kernel_rfl
 c171:=by kernel_rfl
 c173:=by kernel_rfl
 c175:=by kernel_rfl
 c210:=by kernel_rfl
 c212:=by kernel_rfl
 c213:=by kernel_rfl
 c232:=by kernel_rfl
 c233:=by kernel_rfl}
open Go.RowKit in
theorem Tryz.strconv_ParseInt_10_at64_ok (s:ByteArray) (hmax:s.size≤9223372036854775806) (v:Int) (h:Lib.parseIntB 64 s.data.toList = .ok v) (w:World) :
 Calls Tryz.prog 36 #[.string s,.int .i64 10,.int .i64 64] w fun e w'=>e = .returned (.tuple #[.int .i64 v,.nilIface])∧(w'=w∨∃t,w'=Lib.bytesWorld w 5 t):=Any.strconv_ParseInt_10_at64_ok Tryz.laysC174 s hmax v h w
open Go.RowKit in
theorem Tryz.strconv_ParseInt_10_at64_syntax (s:ByteArray) (hlim:s.size≤281474976710656) (h:Lib.parseIntB 64 s.data.toList=Lib.parseIntB 64 []) (ev:Value) (w:World) (hv:w.cell? ⟨1,0,none⟩=some ev) (hev:ev = .nilIface∨∃te pe,ev = .iface te pe) :
 Calls Tryz.prog 36 #[.string s,.int .i64 10,.int .i64 64] w fun e w'=>∃N,e = .returned (.tuple #[.int .i64 (0),.iface 112 (.pointer (some ⟨N,0,none⟩))])∧w.heap.size≤N∧w'.heap[N]? = some (.cells #[.string ⟨#[80,97,114,115,101,73,110,116]⟩,.string s,ev] 137 (0,0))∧Below w.heap.size w w':=Any.strconv_ParseInt_10_at64_syntax Tryz.laysC174 s hlim h ev w hv hev
open Go.RowKit in
theorem Tryz.strconv_ParseInt_10_at64_range (s:ByteArray) (hlim:s.size≤281474976710656) (h:Lib.parseIntB 64 s.data.toList = .range) (ev:Value) (w:World) (hv:w.cell? ⟨2,0,none⟩=some ev) (hev:ev = .nilIface∨∃te pe,ev = .iface te pe) :
 Calls Tryz.prog 36 #[.string s,.int .i64 10,.int .i64 64] w fun e w'=>∃N,e = .returned (.tuple #[.int .i64 (Lib.intSat 64 s.data.toList),.iface 112 (.pointer (some ⟨N,0,none⟩))])∧w.heap.size≤N∧w'.heap[N]? = some (.cells #[.string ⟨#[80,97,114,115,101,73,110,116]⟩,.string s,ev] 137 (0,0))∧Below w.heap.size w w':=Any.strconv_ParseInt_10_at64_range Tryz.laysC174 s hlim h ev w hv hev
def Tryz.lays145_ren:Go.Shelf.Ren:=⟨fun | 145=>35 | 220=>53 | 219=>83 | 217=>104 | 225=>105 | 224=>106 | 267=>107 | 266=>121 | 314=>122 | n=>n,fun | 9=>9 | 4=>4 | 59=>56 | 3=>3 | 5=>5 | 46=>111 | 146=>148 | 51=>147 | n=>n,fun | 1=>0 | n=>n⟩
theorem Tryz.lays145:Go.Proofs.Lays.n145 Tryz.prog Tryz.lays145_ren:={
 mixed:=by kernel_rfl
 f145:=Tryz.func35.trans (congrArg some (by kernel_rfl))
 f217:=Tryz.func104.trans (congrArg some (by kernel_rfl))
 f219:=Tryz.func83.trans (congrArg some (by kernel_rfl))
 f220:=Tryz.func53.trans (congrArg some (by kernel_rfl))
 f224:=Tryz.func106.trans (congrArg some (by kernel_rfl))
 f225:=Tryz.func105.trans (congrArg some (by kernel_rfl))
 f266:=Tryz.func121.trans (congrArg some (by kernel_rfl))
 f267:=Tryz.func107.trans (congrArg some (by kernel_rfl))
 f314:=Tryz.func122.trans (congrArg some (by kernel_rfl))
 t3:=Tryz.underlying3
 a3:=Tryz.isAgg3
 z3:=Tryz.sizeOf3
 v3:=Tryz.zeroValue3
 t4:=Tryz.underlying4
 a4:=Tryz.isAgg4
 z4:=Tryz.sizeOf4
 v4:=Tryz.zeroValue4
 t5:=Tryz.underlying5
 a5:=Tryz.isAgg5
 z5:=Tryz.sizeOf5
 v5:=Tryz.zeroValue5
 t9:=Tryz.underlying9
 a9:=Tryz.isAgg9
 z9:=Tryz.sizeOf9
 v9:=Tryz.zeroValue9
 t46:=Tryz.underlying111
 a46:=Tryz.isAgg111
 z46:=Tryz.sizeOf111
 v46:=Tryz.zeroValue111
 t51:=Tryz.underlying147
 a51:=Tryz.isAgg147
 z51:=Tryz.sizeOf147
 v51:=Tryz.zeroValue147
 t59:=Tryz.underlying56
 a59:=Tryz.isAgg56
 z59:=Tryz.sizeOf56
 v59:=Tryz.zeroValue56
 t146:=Tryz.underlying148
 a146:=Tryz.isAgg148
 z146:=Tryz.sizeOf148
 v146:=Tryz.zeroValue148
 g1:=by kernel_rfl}
open Go.RowKit Go.Lib in
theorem Tryz.strings_Cut (s sep:ByteArray) (m:Int) (w:World) (hs:s.size<4294967281) (hm:w.cell? ⟨0,0,none⟩=some (.int .i64 m)) :
 Calls Tryz.prog 35 #[.string s,.string sep] w fun e w'=>e = .returned (.tuple #[.string ⟨(Lib.cut s.data.toList sep.data.toList).1.toArray⟩,.string ⟨(Lib.cut s.data.toList sep.data.toList).2.1.toArray⟩,.bool (Lib.cut s.data.toList sep.data.toList).2.2])∧∃n,w'=w.drewN n:=Any.strings_Cut Tryz.lays145 s sep m w hs hm
def Tryz.lays146_ren:Go.Shelf.Ren:=⟨fun | 146=>34 | 221=>52 | 268=>80 | 138=>81 | 143=>82 | 195=>101 | 197=>102 | 218=>103 | 219=>83 | 260=>120 | 217=>104 | 225=>105 | 224=>106 | 267=>107 | 266=>121 | 314=>122 | n=>n,fun | 9=>9 | 31=>51 | 3=>3 | 4=>4 | 0=>0 | 105=>130 | 21=>21 | 5=>5 | 46=>111 | 119=>161 | 139=>164 | 138=>163 | 146=>148 | 51=>147 | n=>n,fun | 1=>0 | 3=>3 | 4=>4 | n=>n⟩
theorem Tryz.lays146:Go.Proofs.Lays.n146 Tryz.prog Tryz.lays146_ren:={
 mixed:=by kernel_rfl
 f138:=Tryz.func81.trans (congrArg some (by kernel_rfl))
 f143:=Tryz.func82.trans (congrArg some (by kernel_rfl))
 f146:=Tryz.func34.trans (congrArg some (by kernel_rfl))
 f195:=Tryz.func101.trans (congrArg some (by kernel_rfl))
 f197:=Tryz.func102.trans (congrArg some (by kernel_rfl))
 f217:=Tryz.func104.trans (congrArg some (by kernel_rfl))
 f218:=Tryz.func103.trans (congrArg some (by kernel_rfl))
 f219:=Tryz.func83.trans (congrArg some (by kernel_rfl))
 f221:=Tryz.func52.trans (congrArg some (by kernel_rfl))
 f224:=Tryz.func106.trans (congrArg some (by kernel_rfl))
 f225:=Tryz.func105.trans (congrArg some (by kernel_rfl))
 f260:=Tryz.func120.trans (congrArg some (by kernel_rfl))
 f266:=Tryz.func121.trans (congrArg some (by kernel_rfl))
 f267:=Tryz.func107.trans (congrArg some (by kernel_rfl))
 f268:=Tryz.func80.trans (congrArg some (by kernel_rfl))
 f314:=Tryz.func122.trans (congrArg some (by kernel_rfl))
 t0:=Tryz.underlying0
 a0:=Tryz.isAgg0
 z0:=Tryz.sizeOf0
 v0:=Tryz.zeroValue0
 t3:=Tryz.underlying3
 a3:=Tryz.isAgg3
 z3:=Tryz.sizeOf3
 v3:=Tryz.zeroValue3
 t4:=Tryz.underlying4
 a4:=Tryz.isAgg4
 z4:=Tryz.sizeOf4
 v4:=Tryz.zeroValue4
 t5:=Tryz.underlying5
 a5:=Tryz.isAgg5
 z5:=Tryz.sizeOf5
 v5:=Tryz.zeroValue5
 t9:=Tryz.underlying9
 a9:=Tryz.isAgg9
 z9:=Tryz.sizeOf9
 v9:=Tryz.zeroValue9
 t21:=Tryz.underlying21
 a21:=Tryz.isAgg21
 z21:=Tryz.sizeOf21
 v21:=Tryz.zeroValue21
 t31:=Tryz.underlying51
 a31:=Tryz.isAgg51
 z31:=Tryz.sizeOf51
 v31:=Tryz.zeroValue51
 t46:=Tryz.underlying111
 a46:=Tryz.isAgg111
 z46:=Tryz.sizeOf111
 v46:=Tryz.zeroValue111
 t51:=Tryz.underlying147
 a51:=Tryz.isAgg147
 z51:=Tryz.sizeOf147
 v51:=Tryz.zeroValue147
 t105:=Tryz.underlying130
 a105:=Tryz.isAgg130
 z105:=Tryz.sizeOf130
 v105:=Tryz.zeroValue130
 t119:=Tryz.underlying161
 a119:=Tryz.isAgg161
 z119:=Tryz.sizeOf161
 t138:=Tryz.underlying163
 a138:=Tryz.isAgg163
 z138:=Tryz.sizeOf163
 v138:=Tryz.zeroValue163
 t139:=Tryz.underlying164
 a139:=Tryz.isAgg164
 z139:=Tryz.sizeOf164
 v139:=Tryz.zeroValue164
 t146:=Tryz.underlying148
 a146:=Tryz.isAgg148
 z146:=Tryz.sizeOf148
 v146:=Tryz.zeroValue148
 g1:=by kernel_rfl
 g3:=by kernel_rfl
 g4:=by kernel_rfl}
open Go.RowKit Go.Lib in
theorem Tryz.strings_Split (s sep:ByteArray) (m:Int) (w:World) (hs:s.size<4294967281) (hm:w.cell? ⟨0,0,none⟩=some (.int .i64 m)) (h1:1≤sep.size) :
 Calls Tryz.prog 34 #[.string s,.string sep] w fun e w'=>
  e = .returned (.slice (some ⟨w.heap.size,0,none⟩) (Lib.countB s sep+1) (Lib.countB s sep+1))∧w'=w.alloc (.cells ((Lib.splitB sep 0 (Lib.countB s sep) s).map Value.string).toArray 9):=Any.strings_Split Tryz.lays146 (by kernel_rfl) s sep m w hs hm h1
end Go.Proofs
namespace Go.Proofs.YtefpohpaliocaaaGreatDoor.G
open Go Go.RowKit
theorem vS_data (b:ByteArray):Value.string b=sV b.data.toList:=by
 cases b
 simp [sV]
structure LbOk (H:HP):Prop where
 mx : ∃m:Int,CellAt H 0 0 (.int .i64 m)
 syn : ∃te pe,CellAt H 1 0 (.iface te pe)
 rng : ∃te pe,CellAt H 2 0 (.iface te pe)
theorem LbOk.le {H H':HP} (h:LbOk H) (hle:Le H H'):LbOk H':=⟨h.mx.imp fun _ h=>h.le hle,h.syn.imp fun _ h=>h.imp fun _ h=>h.le hle,h.rng.imp fun _ h=>h.imp fun _ h=>h.le hle⟩
theorem Hp.cell0 {B:World} {H0 H:HP} {L:List SA} {w:World} (hH:Hp B H0 H L w) {b:Nat} {v:Value} (h:CellAt H b 0 v):w.cell? ⟨b,0,none⟩=some v:=by
 have h1:=h.le (show Le H (G.hp w) from fun b o hb=>hH.agree b o hb);exact h1
theorem split_cells (s:List UInt8) (c:UInt8):((Lib.splitB ⟨#[c]⟩ 0 (Lib.countB ⟨s.toArray⟩ ⟨#[c]⟩) ⟨s.toArray⟩).map Value.string)=(spl c s).map sV∧Lib.countB ⟨s.toArray⟩ ⟨#[c]⟩+1=(spl c s).length:=by
 have h1:=Lib.splitB_data ⟨#[c]⟩ 0 (Lib.countB ⟨s.toArray⟩ ⟨#[c]⟩) ⟨s.toArray⟩;have h2:Lib.splitK (⟨#[c]⟩:ByteArray).data.toList 0 (Lib.countB ⟨s.toArray⟩ ⟨#[c]⟩) (⟨s.toArray⟩:ByteArray).data.toList=spl c s:=split_spl c s;rw [h2] at h1;refine ⟨?_,?_⟩
 ·rw [← h1,List.map_map];exact List.map_congr_left fun b _=>vS_data b
 ·have h3:=Lib.splitB_all ⟨#[c]⟩ (Nat.le_refl 1) 0 _ ⟨s.toArray⟩ rfl;rw [← h3,← List.length_map (f:=fun b:ByteArray=>b.data.toList),h1]
theorem split_c {B:World} {H0 H:HP} {L:List SA} {w:World} {s:List UInt8} {c:UInt8} (hl:s.length≤1048576) (hB:LbOk H) (hH:Hp B H0 H L w):Calls Tryz.prog 34 [sV s,sV [c]].toArray w fun e w'=>∃q k,e = .returned (.slice q (spl c s).length k)∧Hp B H0 H (own 9 1 q (spl c s).length k ((spl c s).map sV)::L) w':=by
 obtain ⟨m,hm⟩:=hB.mx;refine (Tryz.strings_Split ⟨s.toArray⟩ ⟨#[c]⟩ m w (by simp [ByteArray.size];omega) (hH.cell0 hm) (Nat.le_refl 1)).mono ?_;rintro _ w' ⟨rfl,rfl⟩;obtain ⟨h1,h2⟩:=split_cells s c;refine ⟨_,_,by rw [h2],?_⟩;rw [h1];have h3:=own_of_obj (cs:=(spl c s).map sV) (m:=(spl c s).length) (c:=(spl c s).length) (sz:=1) (e:=9) (hH.alloc (.cells ((spl c s).map sV).toArray 9)) (by simp) (Nat.le_refl _) (by have:=spl_len c s;simp only [maxLen];omega) .z;rw [List.take_of_length_le (by simp)] at h3;exact h3
theorem cut_c {B:World} {H0 H:HP} {L:List SA} {w:World} {s:List UInt8} {c:UInt8} (hl:s.length≤1048576) (hB:LbOk H) (hH:Hp B H0 H L w):Calls Tryz.prog 35 [sV s,sV [c]].toArray w fun e w'=>e = .returned (.tuple #[sV (Lib.cut s [c]).1,sV (Lib.cut s [c]).2.1,.bool (Lib.cut s [c]).2.2])∧Hp B H0 H L w':=by
 obtain ⟨m,hm⟩:=hB.mx;refine (Tryz.strings_Cut ⟨s.toArray⟩ ⟨#[c]⟩ m w (by simp [ByteArray.size];omega) (hH.cell0 hm)).mono ?_;rintro _ w' ⟨rfl,n,rfl⟩;exact ⟨rfl,hH.belowOf ⟨rfl,rfl,rfl,Nat.le_refl _,fun _ _=>rfl⟩⟩
def okP (s:List UInt8):Option Int:=match Lib.parseIntB 64 s with
 | .ok v=>some v
 | _=>none
def erV (ok:Bool) (t:TypeId) (N:Nat):Value:=if ok then .nilIface else .iface t (.pointer (some ⟨N,0,none⟩))
theorem parseInt_c {B:World} {H0 H:HP} {L:List SA} {w:World} {s:List UInt8} (hl:s.length≤1048576) (hB:LbOk H) (hH:Hp B H0 H L w):Calls Tryz.prog 36 [sV s,.int .i64 10,.int .i64 64].toArray w fun e w'=>∃v t N,e = .returned (.tuple #[.int .i64 v,erV (okP s).isSome t N])∧(∀u,okP s=some u→v=u)∧Hp B H0 H L w':=by
 have hsz:(⟨s.toArray⟩:ByteArray).size=s.length:=by simp [ByteArray.size]
 have hd:(⟨s.toArray⟩:ByteArray).data.toList=s:=by simp
 rcases h:Lib.parseIntB 64 s with v | _ | _
 ·refine (Tryz.strconv_ParseInt_10_at64_ok ⟨s.toArray⟩ (by omega) v (by rw [hd];exact h) w).mono ?_;rintro _ w' ⟨rfl,hw⟩
  have e:okP s=some v:=by unfold okP;rw [h]
  refine ⟨v,0,0,by rw [e];rfl,fun u hu=>by rw [e] at hu;exact Option.some.inj hu,?_⟩
  rcases hw with rfl | ⟨t,rfl⟩
  ·exact hH
  ·exact hH.belowOf (Lib.bytesWorld_below _ _ _)
 ·obtain ⟨te,pe,hs⟩:=hB.syn;refine (Tryz.strconv_ParseInt_10_at64_syntax ⟨s.toArray⟩ (by omega) (by rw [hd];exact h) _ w (hH.cell0 hs) (.inr ⟨te,pe,rfl⟩)).mono ?_;rintro _ w' ⟨N,rfl,_,_,hb⟩
  have e:okP s=none:=by unfold okP;rw [h]
  exact ⟨_,_,N,by rw [e];rfl,(fun u hu=>by rw [e] at hu;cases hu),hH.belowOf hb⟩
 ·obtain ⟨te,pe,hs⟩:=hB.rng;refine (Tryz.strconv_ParseInt_10_at64_range ⟨s.toArray⟩ (by omega) (by rw [hd];exact h) _ w (hH.cell0 hs) (.inr ⟨te,pe,rfl⟩)).mono ?_;rintro _ w' ⟨N,rfl,_,_,hb⟩
  have e:okP s=none:=by unfold okP;rw [h]
  exact ⟨_,_,N,by rw [e];rfl,(fun u hu=>by rw [e] at hu;cases hu),hH.belowOf hb⟩
theorem atoi_c {B:World} {H0 H:HP} {L:List SA} {w:World} {s:List UInt8} (hl:s.length≤1048576) (hB:LbOk H) (hH:Hp B H0 H L w):Calls Tryz.prog 68 [sV s].toArray w fun e w'=>∃v,e = .returned (.tuple #[.int .i64 (atV s),v])∧Hp B H0 H L w':=by
 have hsz:(⟨s.toArray⟩:ByteArray).size=s.length:=by simp [ByteArray.size]
 have hd:(⟨s.toArray⟩:ByteArray).data.toList=s:=by simp
 rcases h:Lib.atoiAll s with v | _ | _
 ·refine (Tryz.strconv_Atoi_ok ⟨s.toArray⟩ (by omega) v (by rw [hd];exact h) w).mono ?_;rintro _ w' ⟨rfl,hw⟩
  have e:atV s=v:=by unfold atV;rw [h]
  refine ⟨_,by rw [e],?_⟩
  rcases hw with rfl | ⟨t,rfl⟩
  ·exact hH
  ·exact hH.belowOf (Lib.bytesWorld_below _ _ _)
 ·obtain ⟨te,pe,hs⟩:=hB.syn;refine (Tryz.strconv_Atoi_syntax ⟨s.toArray⟩ (by omega) (by rw [hd];exact h) _ w (hH.cell0 hs) (.inr ⟨te,pe,rfl⟩)).mono ?_;rintro _ w' ⟨N,rfl,_,_,hb⟩
  have e:atV s=0:=by unfold atV;rw [h]
  exact ⟨_,by rw [e],hH.belowOf hb⟩
 ·obtain ⟨te,pe,hs⟩:=hB.rng;refine (Tryz.strconv_Atoi_range ⟨s.toArray⟩ (by omega) (by rw [hd];exact h) _ w (hH.cell0 hs) (.inr ⟨te,pe,rfl⟩)).mono ?_;rintro _ w' ⟨N,rfl,_,_,hb⟩
  have e:atV s=Lib.atoiSat s:=by unfold atV;rw [h]
  rw [hd];exact ⟨_,by rw [e],hH.belowOf hb⟩
theorem atV_nn {d:List UInt8} (h : ∀x∈d,isDig x=true):0≤atV d∧atV d≤9223372036854775807:=by
 unfold atV
 cases d with
 | nil=>
  simp [Lib.atoiAll]
 | cons a l=>
  have ha:=isDig_iff.1 (h a (by simp));have e:=Lib.atoiAll_plain a l (by omega) (by omega)
  rcases hh:Lib.atoiAll (a::l) with v | _ | _
  ·have hb:=Lib.atoiAll_bounds hh;refine ⟨?_,hb.2⟩;rw [e] at hh
   rcases hp:Lib.parseMag (a::l) with u | _ | _
   ·rw [hp] at hh;simp only [Lib.signless] at hh
    by_cases hu:9223372036854775808≤u
    ·rw [if_pos hu] at hh
     cases hh
    ·rw [if_neg hu] at hh
     cases hh
     simp only
     omega
   ·rw [hp] at hh
    cases hh
   ·rw [hp] at hh
    cases hh
  ·simp
  ·simp only;rw [Lib.atoiSat_other a l (by omega)]
   omega
end Go.Proofs.YtefpohpaliocaaaGreatDoor.G
