/- The row: the law answers true whatever the input, and the input reads as it did. No condition. -/
import Derived.Test.YtefpohpaliocaaaGreatDoorRows
import Derived.Test.YtefpohpaliocaaaGreatDoorProg
import Derived.WalkKit
import Derived.KernelRfl
import Derived.JoinedOf
import Derived.Maps.AppendAt
import Derived.Still
import Derived.ProofKit
import Derived.OpenShut
import Derived.StillTail
import Derived.Deep.Upon
import Derived.WalkSpells
import Derived.Maps.Range
import Derived.Laws.Concat
import Derived.Laws.IdiomStrings
import Derived.Laws.Strings
import Derived.Lib.ItoaNum
import Derived.Lib.Join
import Derived.Lib.LaidTab
import Derived.Laws.Strings2
import Derived.Laws.Strings3
import Derived.Laws.Slices
import Derived.DeepKeys4
import Derived.Lib.SplitLaws
import Derived.Lib.AtoiTie
import Derived.Lib.ParseIntBTie
import Derived.Shelf.Strings.Builder1
import Derived.Shelf.Strings.Builder2
import Derived.Shelf.Strings.OnBuilder
import Derived.Shelf.Strings.BuilderF
import Derived.Shelf.Strings.BuilderK
import Derived.Shelf.Utf8.RuneCount
import Derived.Shelf.Strconv.Atoi
import Derived.Shelf.Strconv.Itoa0
import Derived.Shelf.Strconv.Itoa1
import Derived.Shelf.LaysM
import Derived.Shelf.Strconv.Itoa2
import Derived.Shelf.Strconv.Itoa3
import Derived.Shelf.Strconv.Itoa4
import Derived.Shelf.Strconv.AtoiErrFast
import Derived.Shelf.Strconv.ParseIntEmpty
import Derived.Shelf.Strconv.AtoiFail
import Derived.Shelf.Strconv.Clone
import Derived.Shelf.Strconv.SyntaxError
import Derived.Shelf.LaysC
import Derived.Shelf.Strconv.ToError
import Derived.Shelf.Strconv.Lower
import Derived.Shelf.Strconv.ParseUint10
import Derived.Shelf.Strconv.ParseUint10Empty
import Derived.Shelf.Strconv.ParseUint10Any
import Derived.Shelf.Strconv.ParseInt10
import Derived.Shelf.Strconv.AtoiLong
import Derived.Shelf.Strconv.AtoiInnerAll
import Derived.Shelf.Strconv.RangeError
import Derived.Shelf.Strconv.ToErrorRange
import Derived.Shelf.Strconv.AtoiAll
import Derived.Shelf.Strconv.ErrVarAll
import Derived.Shelf.Strconv.ParseUintEmpty
import Derived.Shelf.Strconv.ParseUint10b64
import Derived.Shelf.Strconv.ParseUint10b32
import Derived.Shelf.Strconv.ParseUint10b16
import Derived.Shelf.Strconv.ParseUint10b8
import Derived.Shelf.Strconv.ParseUint10At
import Derived.Shelf.Strconv.ParseInt10At64
import Derived.Shelf.Strconv.ParseInt10At32
import Derived.Shelf.Strconv.ParseInt10At16
import Derived.Shelf.Strconv.ParseInt10At8
import Derived.Shelf.Strconv.ParseInt10All
import Derived.Shelf.Strconv.ParseIntPublic10
import Derived.Shelf.Strconv.ErrVarParseInt
import Derived.Shelf.Strings.Search1
import Derived.Shelf.Strings.Search2
import Derived.Shelf.Strings.Search3
import Derived.Shelf.Strings.Cut
import Derived.Shelf.Strings.Count
import Derived.Shelf.Strings.Shaped
import Derived.Shelf.Strings.Split
import Derived.Shelf.Strings.SplitShaped
import Derived.Shelf.Unicode.Decode
import Derived.Shelf.Strings.RuneCount
import Derived.Shelf.Strings.Explode
import Derived.Shelf.Unicode.DecodeSlow
import Derived.Shelf.Unicode.DecodeAny
import Derived.Lib.AtoiErrMem
import Derived.Lib.SmallJoins
import Derived.WalkSmall
import Derived.WideLaws
import Derived.Lib.AppendIntMem
import Derived.Test.YtefpohpaliocaaaGreatDoorCards
import Derived.Test.YtefpohpaliocaaaGreatDoorTie
import Derived.LaidMore
import Derived.Stop.Joined
import Derived.Stop.LaidErr
import Derived.SevenTiedAt
import Derived.MakeChecks
import Derived.Shelf.Vars
import Derived.Lay
import Derived.ChangeOld
import Derived.Below
import Derived.SizedLaws
import Derived.Test.YtefpohpaliocaaaGreatDoorPPfob
set_option linter.unusedVariables false
set_option linter.unusedSimpArgs false
set_option maxRecDepth 10000
set_option maxHeartbeats 8000000
open Nat (reduceEqDiff reduceSub reduceAdd)
namespace Go.Proofs.YtefpohpaliocaaaGreatDoor.G
open Go Go.RowKit
theorem u51:Tryz.prog.underlying 51=some (TypeDesc.slice 9):=by kernel_rfl
theorem sz9:Size Tryz.prog 9 1:=by unfold Size;kernel_rfl
theorem by9:Bytes Tryz.prog 9 16:=by unfold Bytes;kernel_rfl
theorem ze9:Zero Tryz.prog 9 [.string ⟨#[]⟩]:=by unfold Zero;kernel_rfl
theorem nf_stop {s:List UInt8} {k:Nat} {n:Int} (hk:k<s.length) (h:isDig (s.getD k 0)=false):numF (s.drop k) n = -1:=by
 rw [List.drop_eq_getElem_cons hk]
 have e:s[k]=s.getD k 0:=by simp [List.getD_eq_getElem?_getD,hk]
 simp only [numF];rw [e,h]
 rfl
theorem nf_step {s:List UInt8} {k:Nat} {n:Int} (hk:k<s.length) (h:isDig (s.getD k 0)=true):numF (s.drop k) n=numF (s.drop (k+1)) (n * 10+dgV (s.getD k 0)):=by
 rw [List.drop_eq_getElem_cons hk]
 have e:s[k]=s.getD k 0:=by simp [List.getD_eq_getElem?_getD,hk]
 simp only [numF];rw [e,h]
 rfl
def numB (s:List UInt8):Bool:=decide (s.length=0∨9<s.length∨(1<s.length∧s.getD 0 0=48))
theorem numB_1 {s:List UInt8} (h:(s.length:Int)=0):true=numB s:=(decide_eq_true (.inl (by omega))).symm
theorem numB_2 {s:List UInt8} (h:(s.length:Int)>9):true=numB s:=(decide_eq_true (.inr (.inl (by omega)))).symm
theorem numB_3 {s:List UInt8} (h0 : ¬(s.length:Int)=0) (h : ¬(s.length:Int)>9) (h1:(s.length:Int)>1):decide (((s.getD 0 0).toNat:Int)=48)=numB s:=by
 unfold numB;refine decide_eq_decide.2 ⟨fun h2=>.inr (.inr ⟨by omega,?_⟩),fun h2=>?_⟩
 ·rw [← UInt8.ofNat_toNat (x:=s.getD 0 0),show (s.getD 0 0).toNat=48 by omega]
  rfl
 ·rcases h2 with h2 | h2 | ⟨_,h2⟩
  ·omega
  ·omega
  ·rw [h2]
   rfl
theorem numB_4 {s:List UInt8} (h0 : ¬(s.length:Int)=0) (h : ¬(s.length:Int)>9) (h1 : ¬(s.length:Int)>1):false=numB s:=by
 unfold numB;rw [decide_eq_false];rintro (h2 | h2 | ⟨h2,_⟩) <;> omega
theorem numS_b {s:List UInt8} (h:numB s=true):numS s = -1:=by
 unfold numS;rw [if_pos (of_decide_eq_true h)]
theorem numS_n {s:List UInt8} (h:numB s=false):numS s=numF s 0∧s.length≤9:=by
 have h1:=of_decide_eq_false h;unfold numS;rw [if_neg h1];exact ⟨rfl,Classical.byContradiction fun h2=>h1 (.inr (.inl (by omega)))⟩
theorem dig_f1 {b:UInt8} (h:(b.toNat:Int)<48):isDig b=false:=by unfold isDig;rw [decide_eq_false (show ¬48≤b.toNat by omega)];rfl
theorem dig_f2 {b:UInt8} (h:(b.toNat:Int)>57):isDig b=false:=by unfold isDig;rw [decide_eq_false (show ¬b.toNat≤57 by omega)];simp
theorem dig_t {b:UInt8} (h : ¬(b.toNat:Int)<48) (h2 : ¬(b.toNat:Int)>57):isDig b=true:=by unfold isDig;rw [decide_eq_true (show 48≤b.toNat by omega),decide_eq_true (show b.toNat≤57 by omega)];rfl
theorem p10_s (k:Nat):(10:Int) ^ (k+1)=10 ^ k * 10:=Int.pow_succ 10 k
theorem l01Number_c {B:World} {H0 H:HP} {L:List SA} {w:World} {s:List UInt8} (hl:s.length≤1048576) (hH:Hp B H0 H L w):Calls Tryz.prog 32 [sV s].toArray w fun e w'=>e = .returned (.int .i64 (numS s))∧Hp B H0 H L w':=by
 refine Jt Tryz.func32 rfl 48 rfl rfl [(0,sV s)] rfl hH ?_;clear hH;refine Je fun _ hK1 _=>(Jb (Jg (Jd rfl) rfl (Jf (Ja (hK1 (Je fun _ hK2 _=>(CJ.cutU (σ:=Bool) (fun (b:Bool)=>[(22,.bool b)]) (fun (b:Bool)=>H) (fun (b:Bool)=>L) (fun (b:Bool)=>b=numB s) ?_ ?_)))))))
 ·
  intro _ hMt1;refine Jb (Jg (Jc rfl) rfl (Jg (Eg u9 rfl) rfl (Jg (PR.eql rfl rfl) rfl (Jg (Jc rfl) rfl (JQ (jd:=8) rfl (fun h8=>?_) (fun h8=>?_))))))
  ·
   try have h8p:=of_decide_eq_true h8
   refine Jz rfl rfl rfl h8 (Jz rfl rfl rfl h8 (Jz rfl rfl rfl h8 (Jg (JH rfl h8 rfl) rfl (Jg (Jc rfl) rfl (Jz rfl rfl rfl rfl (Jz rfl rfl rfl rfl (Jz rfl rfl rfl rfl (Jz rfl rfl rfl rfl (J.gu rfl rfl rfl (J.gu rfl rfl rfl (J.gu rfl rfl rfl (Jz rfl rfl rfl rfl (Jg (JH rfl rfl rfl) rfl (Jf ?_))))))))))))));refine Ja ?_;exact hMt1 true (numB_1 h8p) 18 rfl rfl ⟨rfl,trivial⟩ rfl rfl
  ·
   try have h8p:=of_decide_eq_false h8
   refine JL (Jc rfl) rfl rfl rfl h8 (JL (Eg u9 rfl) rfl rfl rfl h8 (JL (JZ rfl rfl) rfl rfl rfl h8 (Jg (JD rfl h8 rfl) rfl (Jg (Jc rfl) rfl (JQ (jd:=13) rfl (fun h13=>?_) (fun h13=>?_))))))
   ·
    try have h13p:=of_decide_eq_true h13
    refine Jz rfl rfl rfl h13 (Jz rfl rfl rfl h13 (Jz rfl rfl rfl h13 (Jz rfl rfl rfl h13 (J.gu rfl rfl rfl (J.gu rfl rfl rfl (J.gu rfl rfl rfl (Jz rfl rfl rfl h13 (Jg (JH rfl h13 rfl) rfl (Jf (Ja ?_))))))))));exact hMt1 true (numB_2 h13p) 18 rfl rfl ⟨rfl,trivial⟩ rfl rfl
   ·
    try have h13p:=of_decide_eq_false h13
    refine JL (Jc rfl) rfl rfl rfl h13 (JL (Eg u9 rfl) rfl rfl rfl h13 (JL (JZ rfl rfl) rfl rfl rfl h13 (JL (Jc rfl) rfl rfl rfl h13 (JQ (jd:=17) rfl (fun h17=>?_) (fun h17=>?_)))))
    ·
     try have h17p:=of_decide_eq_true h17
     refine JL (Jc rfl) rfl rfl rfl h17 (JL (JY (i':=0) u9 rfl rfl rfl (by omega)) rfl rfl rfl h17 (JL (PR.eql rfl rfl) rfl rfl rfl h17 (JL (JH rfl h17 rfl) rfl rfl rfl h13 (Jg (JD rfl h13 rfl) rfl (Jf (Ja ?_))))));exact hMt1 (decide (((s.getD 0 0).toNat:Int)=48)) (numB_3 h8p h13p h17p) 18 rfl rfl ⟨rfl,trivial⟩ rfl rfl
    ·
     try have h17p:=of_decide_eq_false h17
     refine Jz rfl rfl rfl h17 (Jz rfl rfl rfl h17 (Jz rfl rfl rfl h17 (JL (JD rfl h17 rfl) rfl rfl rfl h13 (Jg (JD rfl h13 rfl) rfl (Jf (Ja ?_))))));exact hMt1 false (numB_4 h8p h13p h17p) 18 rfl rfl ⟨rfl,trivial⟩ rfl rfl
 ·
  rintro b hb;refine JW rfl (fun h22=>?_) (fun h22=>?_)
  ·
   refine Je fun _ hK3 _=>(Jb (Jg (Jd rfl) rfl (Jf (Ja (hK3 (Jl (Jh (Jk rfl (Res.tmp rfl) fun w hH=>?_))))))));exact ⟨ri (by rw [numS_b (by rw [← hb];exact h22)]),hH⟩
  ·
   have hnb:numB s=false:=by rw [← hb];exact h22
   obtain ⟨hns,hs9⟩:=numS_n hnb;refine Ji (Ja (hK2 (Je fun _ hK4 _=>(Jb (Jg (Jd rfl) rfl (Jf (Ja (hK4 (Je fun _ hK5 _=>(Je fun _ hK6 _=>(Jb (Jg (Jd rfl) rfl (Jf (Ja (hK6 (Jo (JC (σ:=Int × Nat) (fun ⟨n,k⟩=>[(4,.int .i64 (k:Int)),(3,.int .i64 n)]) (fun ⟨n,k⟩=>H) (fun ⟨n,k⟩=>L) (fun ⟨n,k⟩=>k≤s.length∧0≤n∧n<10 ^ k∧numF s 0=numF (s.drop k) n) (fun ⟨n,k⟩=>s.length - k) (0,0) ⟨by omega,by omega,by decide,rfl⟩ ⟨rfl,⟨rfl,trivial⟩⟩ rfl rfl ?_)))))))))))))))));rintro ⟨n,k⟩ ⟨hk,hn0,hn,hI⟩ _ hAg0;refine Je fun _ hK7 _=>(Je fun _ hK8 _=>(Jb (Jg (Jc rfl) rfl (Jg (Jc rfl) rfl (Jg (Eg u9 rfl) rfl (Jg (JJ rfl rfl) rfl (Jf (Ja (hK8 (Jj rfl (fun h26=>?_) (fun h26=>?_)))))))))))
   ·
    have hk1:k<s.length:=by omega
    have hu:=u8_bd (s.getD k 0);have hp:=p10_s k;have hpl:=p10_le (i:=k+1) (by omega);refine Ji (Ja (hK7 (Je fun _ hK9 _=>(Jo (Je fun _ hK10 _=>(Je fun _ hK11 _=>(Jb (Jg (Jc rfl) rfl (Jg (Jc rfl) rfl (Jg (JY (i':=k) u9 rfl rfl rfl hk1) rfl (Jg (JJ rfl rfl) rfl (Jg (Jc rfl) rfl (JQ (jd:=33) rfl (fun h33=>?_) (fun h33=>?_))))))))))))))
    ·
     try have h33p:=of_decide_eq_true h33
     refine Jz rfl rfl rfl h33 (Jz rfl rfl rfl h33 (Jz rfl rfl rfl h33 (Jz rfl rfl rfl h33 (Jg (JH rfl h33 rfl) rfl (Jf (Ja (hK11 (En rfl (Je fun _ hK12 _=>(Jb (Jg (Jd rfl) rfl (Jf (Ja (hK12 (Jl (Jh ?_))))))))))))))));refine Jw (Jh (Jh (Jw (Jh (Jk rfl (Res.tmp rfl) fun w hH=>?_)))));exact ⟨ri (by rw [hns,hI,nf_stop hk1 (dig_f1 h33p)]),hH⟩
    ·
     try have h33p:=of_decide_eq_false h33
     refine JL (Jc rfl) rfl rfl rfl h33 (JL (Jc rfl) rfl rfl rfl h33 (JL (JY (i':=k) u9 rfl rfl rfl hk1) rfl rfl rfl h33 (JL (JZ rfl rfl) rfl rfl rfl h33 (Jg (JD rfl h33 rfl) rfl (Jf (Ja (hK11 (Jj rfl (fun h38=>?_) (fun h38=>?_)))))))))
     ·
      refine Je fun _ hK13 _=>(Jb (Jg (Jd rfl) rfl (Jf (Ja (hK13 (Jl (Jh (Jw (Jh (Jh (Jw (Jh (Jk rfl (Res.tmp rfl) fun w hH=>?_)))))))))))));exact ⟨ri (by rw [hns,hI,nf_stop hk1 (dig_f2 h38)]),hH⟩
     ·
      refine Ji (Ja (hK10 (Jb (Jg (Jc rfl) rfl (Jg (PR.mul rfl rfl (nw _ (by omega))) rfl (Jg (Jc rfl) rfl (Jg (Jc rfl) rfl (Jg (JY (i':=k) u9 rfl rfl rfl hk1) rfl (Jg (PR.sub rfl rfl (su8_id (by omega))) rfl (Jg (Ee u5 u2 rfl (by first | exact nw _ (by omega) | rfl)) rfl (Jg (Jx rfl rfl (nw _ (by omega))) rfl (Jg (Jd rfl) rfl (Jf (JE (Ja (hK9 ?_))))))))))))))));refine Jb (Jg (Jc rfl) rfl (Jg (Jx rfl rfl (by first | exact nw _ (by omega) | rfl)) rfl (Jg (Jd rfl) rfl (Jf (Ja ?_)))));exact hAg0 (n * 10+dgV (s.getD k 0),k+1) ⟨by omega,by unfold dgV;omega,by rw [hp];unfold dgV;omega,by rw [hI,nf_step hk1 (dig_t h33p h38)]⟩ (by show s.length - (k+1)<s.length - k;omega) 28 rfl rfl ⟨rfl,⟨rfl,trivial⟩⟩ rfl rfl
   ·
    refine JK (Jm (Jm (JO (Ja (hK5 (Je fun _ hK14 _=>(Jb (Jg (Jc rfl) rfl (Jg (Jd rfl) rfl (Jf (Ja (hK14 (Jl (Jk rfl (Res.tmp rfl) fun w hH=>?_))))))))))))))
    have hke:k=s.length:=by omega
    exact ⟨ri (by rw [hns,hI,hke,List.drop_length];rfl),hH⟩
theorem drop_get {s:List UInt8} {k:Nat} (hk:k<s.length):s.drop k=s.getD k 0::s.drop (k+1):=by
 rw [List.drop_eq_getElem_cons hk]
 simp [List.getD_eq_getElem?_getD,hk]
theorem spl_hit {s:List UInt8} {c:UInt8} {k a:Nat} {out:List (List UInt8)} (hk:k<s.length) (h:s.getD k 0=c) (hI:spl c s=out++att ((s.drop a).take (k - a)) (spl c (s.drop k))):spl c s=(out++[(s.drop a).take (k - a)])++att ((s.drop (k+1)).take (k+1 - (k+1))) (spl c (s.drop (k+1))):=by
 rw [hI,drop_get hk];simp only [spl];rw [if_pos h,Nat.sub_self,List.take_zero,att_nil (spl_ne _ _)]
 simp [att]
theorem spl_on {s:List UInt8} {c:UInt8} {k a:Nat} {out:List (List UInt8)} (hk:k<s.length) (ha:a≤k) (h:s.getD k 0≠c) (hI:spl c s=out++att ((s.drop a).take (k - a)) (spl c (s.drop k))):spl c s=out++att ((s.drop a).take (k+1 - a)) (spl c (s.drop (k+1))):=by
 rw [hI,drop_get hk];simp only [spl];rw [if_neg h,att_att]
 congr 2
 have e:k+1 - a=(k - a)+1:=by omega
 have hl:k - a<(s.drop a).length:=by rw [List.length_drop];omega
 rw [e,List.take_succ_eq_append_getElem hl]
 congr 2
 simp only [List.getElem_drop]
 simp [List.getD_eq_getElem?_getD,show a+(k - a)=k by omega,hk]
theorem spl_fin {s:List UInt8} {c:UInt8} {a:Nat} {out:List (List UInt8)} (hI:spl c s=out++att ((s.drop a).take (s.length - a)) (spl c (s.drop s.length))):spl c s=out++[s.drop a]:=by
 rw [hI,List.drop_length];simp only [spl,att,List.append_nil];rw [List.take_of_length_le (by simp)]
theorem u8_eq {b c:UInt8} (h:(b.toNat:Int)=c.toNat):b=c:=by
 rw [← UInt8.ofNat_toNat (x:=b),show b.toNat=c.toNat by omega,UInt8.ofNat_toNat]
theorem l01Split_c {B:World} {H0 H:HP} {L:List SA} {w:World} {s:List UInt8} {x:Int} {c:UInt8} (hx:x=(c.toNat:Int)) (hl:s.length≤1048576) (hH:Hp B H0 H L w):Calls Tryz.prog 31 [sV s,.int .u8 x].toArray w fun e w'=>∃q k,e = .returned (.slice q (spl c s).length k)∧Hp B H0 H (own 9 1 q (spl c s).length k ((spl c s).map sV)::L) w':=by
 refine Jt Tryz.func31 rfl 35 rfl rfl [(0,sV s),(1,.int .u8 x)] rfl hH ?_;clear hH;refine Je fun _ hK1 _=>(Jb (Jg (Jd rfl) rfl (Jf (Ja (hK1 (Je fun _ hK2 _=>(Jb (J.mk (MK.lit0 u51 sz9) rfl fun qo8 co8=>(Jg (Jd rfl) rfl (Jf (Ja (hK2 (Je fun _ hK3 _=>(Jb (Jg (Jd rfl) rfl (Jf ?_))))))))))))))));refine Ja (hK3 (Je fun _ hK4 _=>(Je fun _ hK5 _=>(Jb (Jg (Jd rfl) rfl (Jf (Ja (hK5 (Jo (JC (σ:=Option Addr × Nat × List (List UInt8) × Nat × Nat) (fun ⟨q,c2,out,a,k⟩=>[(7,.int .i64 (k:Int)),(6,.int .i64 (a:Int)),(5,.slice q out.length c2)]) (fun ⟨q,c2,out,a,k⟩=>H) (fun ⟨q,c2,out,a,k⟩=>own 9 1 q out.length c2 (out.map sV)::L) (fun ⟨q,c2,out,a,k⟩=>k≤s.length∧a≤k∧spl c s=out++att ((s.drop a).take (k - a)) (spl c (s.drop k))) (fun ⟨q,c2,out,a,k⟩=>s.length - k) (qo8,co8, [],0,0) ⟨by omega,by omega,by rw [Nat.sub_self,List.take_zero,att_nil (spl_ne _ _)];rfl⟩ ⟨rfl,⟨rfl,⟨rfl,trivial⟩⟩⟩ rfl rfl ?_))))))))));rintro ⟨q,c2,out,a,k⟩ ⟨hk,ha,hI⟩ _ hAg0;have hol:=spl_len c s;have hil:=congrArg List.length hI;rw [List.length_append,att_len _ (spl_ne c _)] at hil;have hpp:=List.length_pos_iff.2 (spl_ne c (s.drop k));refine Je fun _ hK6 _=>(Je fun _ hK7 _=>(Jb (Jg (Jc rfl) rfl (Jg (Jc rfl) rfl (Jg (Eg u9 rfl) rfl (Jg (JJ rfl rfl) rfl (Jf (Ja (hK7 (Jj rfl (fun h12=>?_) (fun h12=>?_)))))))))))
 ·
  have hk1:k<s.length:=by omega
  refine Ji (Ja (hK6 (Je fun _ hK8 _=>(Jo (Je fun _ hK9 _=>(Jb (Jg (Jc rfl) rfl (Jg (Jc rfl) rfl (Jg (JY (i':=k) u9 rfl rfl rfl hk1) rfl (Jg (Jc rfl) rfl (Jg (PR.eql rfl rfl) rfl (Jf (Ja (hK9 (Jj rfl (fun h19=>?_) (fun h19=>?_))))))))))))))))
  ·
   refine Je fun _ hK10 _=>(Jb (Jg (Jc rfl) rfl (Jg (Jc rfl) rfl (Jg (Jc rfl) rfl (Jg (Jc rfl) rfl (Jg (PR.strSl (i':=a) (j':=k) u9 rfl rfl rfl rfl rfl (by omega) (by omega)) rfl (J.mk (MK.lit1S u51 ze9 sz9 rfl rfl) rfl fun qo25 co25=>(J.append1 u51 ze9 sz9 by9 rfl rfl rfl rfl (by omega) .z At.z (fun _ _=>At.z) rfl fun qo26 co26=>(Jg (Jd rfl) rfl (Jf (Ja (hK10 (Jb (Jg (Jc rfl) rfl (Jg (Jx rfl rfl (by first | exact nw _ (by omega) | rfl)) rfl ?_)))))))))))))));refine Jg (Jd rfl) rfl (Jf (JE (Ja (hK8 (Jb (Jg (Jc rfl) rfl (Jg (Jx rfl rfl (by first | exact nw _ (by omega) | rfl)) rfl (Jg (Jd rfl) rfl (Jf (Ja (Em .z ?_)))))))))));exact hAg0 (qo26,co26,out++[(s.drop a).take (k - a)],k+1,k+1) ⟨by omega,by omega,spl_hit hk1 (u8_eq (by omega)) hI⟩ (by show s.length - (k+1)<s.length - k;omega) 26 rfl rfl ⟨rfl,⟨rfl,⟨(by rw [List.length_append];rfl),trivial⟩⟩⟩ rfl (by dsimp only;rw [List.length_append,List.map_append];rfl)
  ·
   refine Ji (JE (Ja (hK8 (Jb (Jg (Jc rfl) rfl (Jg (Jx rfl rfl (by first | exact nw _ (by omega) | rfl)) rfl (Jg (Jd rfl) rfl (Jf (Ja ?_)))))))));exact hAg0 (q,c2,out,a,k+1) ⟨by omega,by omega,spl_on hk1 ha (fun h=>h19 (by rw [h];omega)) hI⟩ (by show s.length - (k+1)<s.length - k;omega) 15 rfl rfl ⟨rfl,⟨rfl,⟨rfl,trivial⟩⟩⟩ rfl rfl
 ·
  refine JK (Jm (Jm (JO (Ja (hK4 (Je fun _ hK11 _=>(Jb (Jg (Jc rfl) rfl (Jg (Jc rfl) rfl (Jg (Jc rfl) rfl (Jg (PR.strSlF (i':=a) u9 rfl rfl rfl (by omega)) rfl (J.mk (MK.lit1S u51 ze9 sz9 rfl rfl) rfl fun qo33 co33=>(J.append1 u51 ze9 sz9 by9 rfl rfl rfl rfl (by omega) .z At.z (fun _ _=>At.z) rfl fun qo34 co34=>(Jg (Jd rfl) rfl (Jf ?_)))))))))))))));refine Ja (hK11 (Jl (Jk rfl (Res.tmp rfl) fun w hH=>?_)));replace hH:=hH.sublist (.cons _ (.cons_cons _ (List.Sublist.refl _)))
  obtain rfl:k=s.length:=by omega
  have e9:=spl_fin hI;rw [e9];exact ⟨_,_,by rw [List.length_append];rfl,by rw [List.length_append,List.map_append];exact hH⟩
theorem fn32:Fn Tryz.prog 32:=⟨_,Tryz.func32,by kernel_rfl,rfl⟩
theorem fn68:Fn Tryz.prog 68:=⟨_,Tryz.func68,by kernel_rfl,rfl⟩
theorem namF_fuel : ∀(f g:Nat) (s:List UInt8) (m:List Int),s.length<f→s.length<g→namF f s m=namF g s m
 | 0,_,_,_,h,_=>by omega
 | _+1,0,_,_,_,h=>by omega
 | f+1,g+1, [],m,_,_=>rfl
 | f+1,g+1,b::s,m,hf,hg=>by
  have hr:=rst_len s
  simp only [List.length_cons] at hf hg
  simp only [namF]
  split
  ·exact namF_fuel f g _ _ (by omega) (by omega)
  ·rfl
theorem monF_fuel : ∀(f g:Nat) (s:List UInt8) (m:List Int),s.length<f→s.length<g→monF f s m=monF g s m
 | 0,_,_,_,h,_=>by omega
 | _+1,0,_,_,_,h=>by omega
 | f+1,g+1, [],m,_,_=>rfl
 | f+1,g+1,b::s,m,hf,hg=>by
  have hr:=rst_len s
  simp only [List.length_cons] at hf hg
  simp only [monF]
  exact monF_fuel f g _ _ (by omega) (by omega)
def namG (s:List UInt8) (m:List Int):Option (List Int):=namF (s.length+1) s m
def monG (s:List UInt8) (m:List Int):List Int:=monF (s.length+1) s m
theorem digs_stop {t:List UInt8} {k:Nat} (h:k<t.length→isDig (t.getD k 0)=false):digs (t.drop k)=[]:=by
 by_cases hk:k<t.length
 ·rw [drop_get hk];unfold digs;rw [List.takeWhile_cons,h hk]
  rfl
 ·rw [List.drop_of_length_le (by omega)]
  rfl
theorem digs_step {t:List UInt8} {k:Nat} (hk:k<t.length) (h:isDig (t.getD k 0)=true):digs (t.drop k)=t.getD k 0::digs (t.drop (k+1)):=by
 rw [drop_get hk];unfold digs;rw [List.takeWhile_cons,h]
 rfl
def Scn (t:List UInt8) (a e:Nat):Prop:=digs (t.drop a)=(t.drop a).take (e - a)++digs (t.drop e)
theorem Scn.start (t:List UInt8) (a:Nat):Scn t a a:=by
 unfold Scn;rw [Nat.sub_self]
 rfl
theorem Scn.step {t:List UInt8} {a e:Nat} (h:Scn t a e) (hae:a≤e) (he:e<t.length) (hd:isDig (t.getD e 0)=true):Scn t a (e+1):=by
 unfold Scn at h ⊢;rw [h,digs_step he hd]
 have e1:e+1 - a=(e - a)+1:=by omega
 have hl:e - a<(t.drop a).length:=by rw [List.length_drop];omega
 rw [e1,List.take_succ_eq_append_getElem hl,List.append_assoc]
 congr 1
 simp only [List.getElem_drop]
 simp [List.getD_eq_getElem?_getD,show a+(e - a)=e by omega,he]
theorem Scn.done {t:List UInt8} {a e:Nat} (h:Scn t a e) (hae:a≤e) (hel:e≤t.length) (hs:e<t.length→isDig (t.getD e 0)=false):digs (t.drop a)=(t.drop a).take (e - a)∧rst (t.drop a)=t.drop e:=by
 unfold Scn at h;rw [digs_stop hs,List.append_nil] at h;have h1:=digs_rst (t.drop a);refine ⟨h,?_⟩;rw [h] at h1;have h2:(t.drop a).take (e - a)++(t.drop a).drop (e - a)=t.drop a:=List.take_append_drop _ _;have h3:=List.append_cancel_left (h1.trans h2.symm);rw [h3,List.drop_drop,show a+(e - a)=e by omega]
theorem sc_1 {t:List UInt8} {e:Nat} (h1:(e:Int)<t.length) (h2:((t.getD e 0).toNat:Int)≥48):decide (((t.getD e 0).toNat:Int)≤57)=(decide (e<t.length) && isDig (t.getD e 0)):=by
 rw [decide_eq_true (show e<t.length by omega)];unfold isDig;rw [decide_eq_true (show 48≤(t.getD e 0).toNat by omega)];simp only [Bool.true_and];exact decide_eq_decide.2 (by omega)
theorem sc_2 {t:List UInt8} {e:Nat} (h2 : ¬((t.getD e 0).toNat:Int)≥48):false=(decide (e<t.length) && isDig (t.getD e 0)):=by
 unfold isDig;rw [decide_eq_false (show ¬48≤(t.getD e 0).toNat by omega)]
 simp
theorem sc_3 {t:List UInt8} {e:Nat} (h1 : ¬(e:Int)<t.length):false=(decide (e<t.length) && isDig (t.getD e 0)):=by
 rw [decide_eq_false (show ¬e<t.length by omega)]
 rfl
theorem sc_t {t:List UInt8} {e:Nat} (h:true=(decide (e<t.length) && isDig (t.getD e 0))):e<t.length∧isDig (t.getD e 0)=true:=by
 have h1:=Bool.and_eq_true_iff.1 h.symm;exact ⟨of_decide_eq_true h1.1,h1.2⟩
theorem sc_f {t:List UInt8} {e:Nat} (h:false=(decide (e<t.length) && isDig (t.getD e 0))):e<t.length→isDig (t.getD e 0)=false:=fun he=>by
 rw [decide_eq_true he] at h
 exact h.symm
theorem ltr_f1 {b:UInt8} (h:(b.toNat:Int)<97):ltr b=false:=by unfold ltr;rw [decide_eq_false (show ¬97≤b.toNat by omega)];rfl
theorem ltr_f2 {b:UInt8} (h:(b.toNat:Int)>104):ltr b=false:=by unfold ltr;rw [decide_eq_false (show ¬b.toNat≤104 by omega)];simp
theorem ltr_t {b:UInt8} (h : ¬(b.toNat:Int)<97) (h2 : ¬(b.toNat:Int)>104):ltr b=true:=by unfold ltr;rw [decide_eq_true (show 97≤b.toNat by omega),decide_eq_true (show b.toNat≤104 by omega)];rfl
theorem not_f {b:Bool} (h:(!b)=true):b=false:=by cases b <;> simp_all
theorem not_t {b:Bool} (h:(!b)=false):b=true:=by cases b <;> simp_all
theorem ltr_2t {b:UInt8} (h:((b.toNat:Int) - 97)≥0) (h2:((b.toNat:Int) - 97)<8):ltr b=true:=ltr_t (by omega) (by omega)
theorem ltr_2f {b:UInt8} (h : ¬((b.toNat:Int) - 97)≥0∨¬((b.toNat:Int) - 97)<8) : ¬ltr b=true:=fun hl=>by
 unfold ltr at hl
 simp only [Bool.and_eq_true,decide_eq_true_eq] at hl
 omega
section
variable {t : List UInt8} {a e : Nat} {m : List Int}
theorem namG_bad (hk:a<t.length) (h:ltr (t.getD a 0)=false):namG (t.drop a) m=none:=by
 unfold namG;rw [drop_get hk];simp only [namF,h,Bool.false_and]
 rfl
theorem namG_out (hk:a<t.length) (h:(decide (1≤expS (digs (t.drop (a+1)))) && decide (expS (digs (t.drop (a+1)))≤20))=false):namG (t.drop a) m=none:=by
 unfold namG;rw [drop_get hk];simp only [namF,h,Bool.and_false]
 rfl
theorem namG_step (hk:a<t.length) (hl:ltr (t.getD a 0)=true) (h:(decide (1≤expS (digs (t.drop (a+1)))) && decide (expS (digs (t.drop (a+1)))≤20))=true) (hr:rst (t.drop (a+1))=t.drop e) (hae:a+1≤e):namG (t.drop a) m=namG (t.drop e) (m.set ((t.getD a 0).toNat - 97) (expS (digs (t.drop (a+1))))):=by
 unfold namG;rw [drop_get hk];simp only [namF,hl,h,Bool.and_self,if_true];rw [hr];exact namF_fuel _ _ _ _ (by simp only [List.length_cons,List.length_drop];omega) (by omega)
theorem monG_step (hk:a<t.length) (hr:rst (t.drop (a+1))=t.drop e) (hae:a+1≤e):monG (t.drop a) m=monG (t.drop e) (if ltr (t.getD a 0) then m.set ((t.getD a 0).toNat - 97) (min255 (expI (digs (t.drop (a+1))))) else m):=by
 unfold monG;rw [drop_get hk];simp only [monF];rw [hr];exact monF_fuel _ _ _ _ (by simp only [List.length_cons,List.length_drop];omega) (by omega)
theorem namG_nil (m:List Int):namG [] m=some m:=rfl
theorem monG_nil (m:List Int):monG [] m=m:=rfl
theorem digs_dig (s:List UInt8) : ∀x∈digs s,isDig x=true:=fun x hx=>by
 unfold digs at hx
 exact List.all_eq_true.1 (List.all_takeWhile (l:=s) (p:=isDig)) x hx
theorem expI_bd (s:List UInt8):0≤min255 (expI (digs s))∧min255 (expI (digs s))≤255:=by
 have h1:=(atV_nn (digs_dig s)).1;unfold min255 expI
 split <;> split at * <;> omega
theorem monF_mn : ∀(f:Nat) (s:List UInt8) (m:List Int),Mono m→Mono (monF f s m)
 | 0,_,_,h=>h
 | f+1, [],_,h=>h
 | f+1,b::s,m,h=>by
  simp only [monF]
  refine monF_mn f _ _ ?_
  split
  ·exact set_mn h (expI_bd s)
  ·exact h
theorem monR_mn (t:List UInt8):Mono (monR t):=monF_mn _ _ _ zer8_mn
theorem expS_0 {d:List UInt8} (h:d.length=0):(1:Int)=expS d:=by unfold expS;rw [if_pos h]
theorem expS_1 {d:List UInt8} (h:d.length≠0):numS d=expS d:=by unfold expS;rw [if_neg h]
theorem expI_0 {d:List UInt8} (h:d.length=0):(1:Int)=expI d:=by unfold expI;rw [if_pos h]
theorem expI_1 {d:List UInt8} (h:d.length≠0):atV d=expI d:=by unfold expI;rw [if_neg h]
end
theorem l01Named_c {B:World} {H0 H:HP} {L:List SA} {w:World} {t:List UInt8} (hl:t.length≤1048576) (hH:Hp B H0 H L w):Calls Tryz.prog 40 [sV t].toArray w fun e w'=>∃m',e = .returned (.tuple #[.agg (bytesC m').toArray,.bool (namS t).isSome])∧(Mono m' ∧∀m,namS t=some m→m'=m)∧Hp B H0 H L w':=by
 refine Jt Tryz.func40 rfl 74 rfl rfl [(0,sV t)] rfl hH ?_;clear hH;refine Je fun _ hK1 _=>(Jb (JU ze65 rfl fun g2=>(Jg (Jd rfl) rfl (Jf (Ja (hK1 (Je fun _ hK2 _=>(Jb (Jg (JX bz65) rfl (JU ze65 rfl fun g4=>(Jr rfl rfl (by first | exact bytesC_one _ | exact intsC_one _ | exact Term.c_one _ | simp [Value.oneCell']) (by simpa [*] using sz65) (by simp [*]) At.z (Jf (Ja (hK2 (Je fun _ hK3 _=>(Je fun _ hK4 _=>?_))))))))))))))));refine Jb (Jg (Jc rfl) rfl (Jg (PR.strEql rfl rfl) rfl (Jf (Ja (hK4 (Jj rfl (fun h11=>?_) (fun h11=>?_)))))))
 ·
  have hz8:zer8.length=8:=rfl;refine Je fun _ hK5 _=>(Jb (Jg (Js rfl At.z (by simpa [*] using ag65)) rfl (Jr rfl rfl (by first | exact bytesC_one _ | exact intsC_one _ | exact Term.c_one _ | simp [Value.oneCell']) (by simpa [*] using sz65) (by simp [*]) (.s .z) (Jg (Jd rfl) rfl (Jf (Ja (hK5 (Jl (Jh (JV rfl (Res.agg rfl (.s .z) (by simpa [*] using ag65)) (Res.tmp rfl) fun w hH=>?_))))))))));replace hH:=hH.tail;replace hH:=hH.tail;exact ⟨zer8,by unfold namS;rw [if_pos h11];rfl,⟨zer8_mn,fun x hx=>by unfold namS at hx;rw [if_pos h11] at hx;exact Option.some.inj hx⟩,hH⟩
 ·
  refine Ji (Ja (hK3 (Je fun _ hK6 _=>(Je fun _ hK7 _=>(Jb (Jg (Jd rfl) rfl (Jf (Ja (hK7 (Jo (JC (σ:=List Int × Nat) (fun ⟨m,ii⟩=>[(5,.int .i64 (ii:Int))]) (fun ⟨m,ii⟩=>H) (fun ⟨m,ii⟩=>obj g4 (.cells (bytesC m).toArray 65 (0,0))::obj g2 (.cells (bytesC zer8).toArray 65 (0,0))::L) (fun ⟨m,ii⟩=>Mono m∧ii≤t.length∧(t≠ []→namS t=namG (t.drop ii) m)) (fun ⟨m,ii⟩=>t.length - ii) (zer8,0) ⟨zer8_mn,by omega,fun h=>by unfold namS;rw [if_neg h11,if_neg h];rfl⟩ ⟨rfl,trivial⟩ rfl rfl ?_)))))))))));rintro ⟨m,ii⟩ ⟨hm,ha,hI⟩ _ hAg0;have hm8:=hm.len;have hz8:zer8.length=8:=rfl;refine Je fun _ hK8 _=>(Je fun _ hK9 _=>(Jb (Jg (Jc rfl) rfl (Jg (Jc rfl) rfl (Jg (Eg u9 rfl) rfl (Jg (JJ rfl rfl) rfl (Jf (Ja (hK9 (Jj rfl (fun h16=>?_) (fun h16=>?_)))))))))))
  ·
   have hk1:ii<t.length:=by omega
   have hu:=u8_bd (t.getD ii 0)
   have htn:t≠ []:=fun h=>by rw [h] at hk1;exact absurd hk1 (Nat.not_lt_zero _)
   have hI1:=hI htn;refine Ji (Ja (hK8 (Jo (Je fun _ hK10 _=>(Je fun _ hK11 _=>(Jb (Jg (Jc rfl) rfl (Jg (Jc rfl) rfl (Jg (JY (i':=ii) u9 rfl rfl rfl hk1) rfl (Jg (JJ rfl rfl) rfl (Jg (Jc rfl) rfl (JQ (jd:=21) rfl (fun h21=>?_) (fun h21=>?_)))))))))))))
   ·
    try have h21p:=of_decide_eq_true h21
    refine Jz rfl rfl rfl h21 (Jz rfl rfl rfl h21 (Jz rfl rfl rfl h21 (Jz rfl rfl rfl h21 (Jg (JH rfl h21 rfl) rfl (Jf (Ja (hK11 (En rfl (Je fun _ hK12 _=>(Jb (Jg (Js rfl At.z (by simpa [*] using ag65)) rfl (Jr rfl rfl (by first | exact bytesC_one _ | exact intsC_one _ | exact Term.c_one _ | simp [Value.oneCell']) (by simpa [*] using sz65) (by simp [*]) (.s .z) (Jg (Jd rfl) rfl (Jf (Ja (hK12 ?_))))))))))))))));refine Jl (Jh (Jw (Jh (Jw (Jh (JV rfl (Res.agg rfl (.s .z) (by simpa [*] using ag65)) (Res.tmp rfl) fun w hH=>?_))))));replace hH:=hH.tail;replace hH:=hH.tail;exact ⟨m,by rw [hI1,namG_bad hk1 (ltr_f1 h21p)];rfl,⟨hm,fun x hx=>by rw [hI1,namG_bad hk1 (ltr_f1 h21p)] at hx;cases hx⟩,hH⟩
   ·
    try have h21p:=of_decide_eq_false h21
    refine JL (Jc rfl) rfl rfl rfl h21 (JL (Jc rfl) rfl rfl rfl h21 (JL (JY (i':=ii) u9 rfl rfl rfl hk1) rfl rfl rfl h21 (JL (JZ rfl rfl) rfl rfl rfl h21 (Jg (JD rfl h21 rfl) rfl (Jf (Ja (hK11 (Jj rfl (fun h26=>?_) (fun h26=>?_)))))))))
    ·
     refine Je fun _ hK13 _=>(Jb (Jg (Js rfl At.z (by simpa [*] using ag65)) rfl (Jr rfl rfl (by first | exact bytesC_one _ | exact intsC_one _ | exact Term.c_one _ | simp [Value.oneCell']) (by simpa [*] using sz65) (by simp [*]) (.s .z) (Jg (Jd rfl) rfl (Jf (Ja (hK13 (Jl (Jh (Jw (Jh (Jw (Jh (JV rfl (Res.agg rfl (.s .z) (by simpa [*] using ag65)) (Res.tmp rfl) fun w hH=>?_))))))))))))));replace hH:=hH.tail;replace hH:=hH.tail;exact ⟨m,by rw [hI1,namG_bad hk1 (ltr_f2 h26)];rfl,⟨hm,fun x hx=>by rw [hI1,namG_bad hk1 (ltr_f2 h26)] at hx;cases hx⟩,hH⟩
    ·
     refine Ji (Ja (hK10 (Je fun _ hK14 _=>(Jb (Jg (Jc rfl) rfl (Jg (Jc rfl) rfl (Jg (JY (i':=ii) u9 rfl rfl rfl hk1) rfl (Jg (PR.sub rfl rfl (su8_id (by omega))) rfl (Jg (Jc rfl) rfl (Jg (Jx rfl rfl (by first | exact nw _ (by omega) | rfl)) rfl (Jg (Jd rfl) rfl (Jg (Jd rfl) rfl (Jf (Ja (hK14 (Je fun _ hK15 _=>?_))))))))))))))));refine Jo (JC (σ:=Nat) (fun (jj:Nat)=>[(7,.int .i64 (jj:Int))]) (fun (jj:Nat)=>H) (fun (jj:Nat)=>obj g4 (.cells (bytesC m).toArray 65 (0,0))::obj g2 (.cells (bytesC zer8).toArray 65 (0,0))::L) (fun (jj:Nat)=>ii+1≤jj∧jj≤t.length∧Scn t (ii+1) jj) (fun (jj:Nat)=>t.length - jj) (ii+1) ⟨by omega,by omega,Scn.start _ _⟩ ⟨(vi (by omega)),trivial⟩ rfl rfl ?_);rintro jj ⟨hae,hel,hsc⟩ _ hAg1;refine Je fun _ hK16 _=>(CJ.cutU (σ:=Bool) (fun (b:Bool)=>[(49,.bool b)]) (fun (b:Bool)=>H) (fun (b:Bool)=>obj g4 (.cells (bytesC m).toArray 65 (0,0))::obj g2 (.cells (bytesC zer8).toArray 65 (0,0))::L) (fun (b:Bool)=>b=(decide (jj<t.length) && isDig (t.getD jj 0))) ?_ ?_)
     ·
      intro _ hMt1;refine Jb (Jg (Jc rfl) rfl (Jg (Jc rfl) rfl (Jg (Eg u9 rfl) rfl (Jg (JJ rfl rfl) rfl (Jg (Jc rfl) rfl (JQ (jd:=38) rfl (fun h38=>?_) (fun h38=>?_)))))))
      ·
       try have h38p:=of_decide_eq_true h38
       refine JL (Jc rfl) rfl rfl rfl h38 (JL (Jc rfl) rfl rfl rfl h38 (JL (JY (i':=jj) u9 rfl rfl rfl (by omega)) rfl rfl rfl h38 (JL (PR.geq rfl rfl) rfl rfl rfl h38 (Jg (JH rfl h38 rfl) rfl (Jg (Jc rfl) rfl (JQ (jd:=44) rfl (fun h44=>?_) (fun h44=>?_)))))))
       ·
        try have h44p:=of_decide_eq_true h44
        refine JL (Jc rfl) rfl rfl rfl h44 (JL (Jc rfl) rfl rfl rfl h44 (JL (JY (i':=jj) u9 rfl rfl rfl (by omega)) rfl rfl rfl h44 (JL (PR.leq rfl rfl) rfl rfl rfl h44 (Jg (JH rfl h44 rfl) rfl (Jf (Ja ?_))))));exact hMt1 (decide (((t.getD jj 0).toNat:Int)≤57)) (sc_1 h38p h44p) 16 rfl rfl ⟨rfl,trivial⟩ rfl rfl
       ·
        try have h44p:=of_decide_eq_false h44
        refine Jz rfl rfl rfl h44 (Jz rfl rfl rfl h44 (Jz rfl rfl rfl h44 (Jz rfl rfl rfl h44 (Jg (JD rfl h44 rfl) rfl (Jf (Ja ?_))))));exact hMt1 false (sc_2 h44p) 16 rfl rfl ⟨rfl,trivial⟩ rfl rfl
      ·
       try have h38p:=of_decide_eq_false h38
       refine Jz rfl rfl rfl h38 (Jz rfl rfl rfl h38 (Jz rfl rfl rfl h38 (Jz rfl rfl rfl h38 (Jg (JD rfl h38 rfl) rfl (Jg (Jc rfl) rfl (Jz rfl rfl rfl rfl (Jz rfl rfl rfl rfl (Jz rfl rfl rfl rfl (Jz rfl rfl rfl rfl (Jg (JD rfl rfl rfl) rfl (Jf (Ja ?_))))))))))));exact hMt1 false (sc_3 h38p) 16 rfl rfl ⟨rfl,trivial⟩ rfl rfl
     ·
      rintro b hb;refine JW rfl (fun h49=>?_) (fun h49=>?_)
      ·
       obtain ⟨he1,hdg⟩:=sc_t (h49.symm.trans hb);refine Ji (Ja (hK16 (Jo (Jb (Jg (Jc rfl) rfl (Jg (Jx rfl rfl (by first | exact nw _ (by omega) | rfl)) rfl (Jg (Jd rfl) rfl (Jf (JE (Ja ?_))))))))));exact hAg1 (jj+1) ⟨by omega,by omega,hsc.step hae he1 hdg⟩ (by show t.length - (jj+1)<t.length - jj;omega) 5 rfl rfl ⟨(vi (by omega)),trivial⟩ rfl rfl
      ·
       obtain ⟨hD,hR⟩:=hsc.done hae hel (sc_f (h49.symm.trans hb));have hDl:=congrArg List.length hD;rw [List.length_take,List.length_drop,Nat.min_eq_left (by omega)] at hDl;refine JK (Jm (Jm (JO (Ja (hK15 (Je fun _ hK17 _=>(Jb (Jg (Jd rfl) rfl (Jf (Ja (hK17 (CJ.cutU (σ:=Unit) (fun (_:Unit)=>[(8,.int .i64 (expS (digs (t.drop (ii+1)))))]) (fun (_:Unit)=>H) (fun (_:Unit)=>obj g4 (.cells (bytesC m).toArray 65 (0,0))::obj g2 (.cells (bytesC zer8).toArray 65 (0,0))::L) (fun (_:Unit)=>True) ?_ ?_))))))))))))
       ·
        intro _ hMt2;refine Je fun _ hK18 _=>(Jb (Jg (Jc rfl) rfl (Jg (Jc rfl) rfl (Jg (Jx rfl rfl (by first | exact nw _ (by omega) | rfl)) rfl (Jg (JZ rfl rfl) rfl (Jf (Ja (hK18 (Jj rfl (fun h55=>?_) (fun h55=>?_))))))))))
        ·
         refine Jb (Jg (Jc rfl) rfl (Jg (Jc rfl) rfl (Jg (Jx rfl rfl (by first | exact nw _ (by omega) | rfl)) rfl (Jg (Jc rfl) rfl (Jg (PR.strSl (i':=ii+1) (j':=jj) u9 rfl rfl rfl (by omega) rfl (by omega) (by omega)) rfl (JA fn32 rfl rfl fun w hH=>(l01Number_c (by rw [← hD];omega) hH).mono ?_))))));rintro _ w ⟨rfl,hH⟩;refine ⟨_,rfl,fun a hF=>JR hF hH ?_⟩;refine Jg (Jd rfl) rfl (Jf (Ja ?_));exact hMt2 () trivial 11 rfl rfl ⟨(vi (by rw [← hD];exact expS_1 (by omega))),trivial⟩ rfl rfl
        ·
         refine Ji (Ja ?_);exact hMt2 () trivial 4 rfl rfl ⟨(vi (expS_0 (by omega))),trivial⟩ rfl rfl
       ·
        rintro _ _;refine Je fun _ hK19 _=>(Je fun _ hK20 _=>(Jb (Jg (Jc rfl) rfl (JA fn39 rfl rfl fun w hH=>(l01In_c hH).mono ?_))));rintro _ w ⟨rfl,hH⟩;refine ⟨_,rfl,fun a hF=>JR hF hH ?_⟩;refine Jg (Ec rfl) rfl (Jf (Ja (hK20 (JW rfl (fun h64=>?_) (fun h64=>?_)))))
        ·
         refine Je fun _ hK21 _=>(Jb (Jg (Js rfl At.z (by simpa [*] using ag65)) rfl (Jr rfl rfl (by first | exact bytesC_one _ | exact intsC_one _ | exact Term.c_one _ | simp [Value.oneCell']) (by simpa [*] using sz65) (by simp [*]) (.s .z) (Jg (Jd rfl) rfl (Jf (Ja (hK21 (Jl (Jh (Jw (Jh (Jw (Jh (JV rfl (Res.agg rfl (.s .z) (by simpa [*] using ag65)) (Res.tmp rfl) fun w hH=>?_))))))))))))));replace hH:=hH.tail;replace hH:=hH.tail;exact ⟨m,by rw [hI1,namG_out hk1 (not_f h64)];rfl,⟨hm,fun x hx=>by rw [hI1,namG_out hk1 (not_f h64)] at hx;cases hx⟩,hH⟩
        ·
         refine Ji (Ja (hK19 (Je fun _ hK22 _=>(Jb (Jg (Jc rfl) rfl (Jg (Jc rfl) rfl (Jg (Ee u2 u5 rfl (su8_id (by have h9:=Bool.and_eq_true_iff.1 (not_t h64);have h10:=of_decide_eq_true h9.1;have h11:=of_decide_eq_true h9.2;omega))) rfl (Jg (JP (i':=(t.getD ii 0).toNat - 97) u65 sz5 rfl rfl (by omega) (by omega)) rfl (J.storeB rfl rfl sz5 (by rw [hm8];omega) At.z (Jf (Ja (hK22 (Jb (Jg (Jc rfl) rfl (Jg (Jd rfl) rfl (Jf ?_))))))))))))))));refine JE (Ja ?_);exact hAg0 (m.set ((t.getD ii 0).toNat - 97) (expS (digs (t.drop (ii+1)))),jj) ⟨set_mn hm (by have h9:=Bool.and_eq_true_iff.1 (not_t h64);have h10:=of_decide_eq_true h9.1;have h11:=of_decide_eq_true h9.2;omega),hel,fun _=>by rw [hI1,namG_step hk1 (ltr_t h21p h26) (not_t h64) hR hae]⟩ (by show t.length - jj<t.length - ii;omega) 36 rfl rfl ⟨rfl,trivial⟩ rfl rfl
  ·
   refine JK (Jm (Jm (JO (Ja (hK6 (Je fun _ hK23 _=>(Jb (Jg (Js rfl At.z (by simpa [*] using ag65)) rfl (Jg (Jc rfl) rfl (Jg (PR.strNeq rfl rfl) rfl (Jr rfl rfl (by first | exact bytesC_one _ | exact intsC_one _ | exact Term.c_one _ | simp [Value.oneCell']) (by simpa [*] using sz65) (by simp [*]) (.s .z) (Jg (Jd rfl) rfl (Jf (Ja (hK23 (Jl ?_))))))))))))))));refine JV rfl (Res.agg rfl (.s .z) (by simpa [*] using ag65)) (Res.tmp rfl) fun w hH=>?_;replace hH:=hH.tail;replace hH:=hH.tail
   obtain rfl:ii=t.length:=by omega
   by_cases ht:t=[]
   ·subst ht;exact ⟨m,rfl,⟨hm,fun x hx=>by cases hx⟩,hH⟩
   ·have e9:=hI ht;rw [List.drop_length,namG_nil] at e9;exact ⟨m,by rw [e9,decide_eq_true ht];rfl,⟨hm,fun x hx=>by rw [e9] at hx;exact Option.some.inj hx⟩,hH⟩
theorem readMonomial_c {B:World} {H0 H:HP} {L:List SA} {w:World} {t:List UInt8} (hl:t.length≤1048576) (hB:LbOk H) (hH:Hp B H0 H L w):Calls Tryz.prog 46 [sV t].toArray w fun e w'=>e = .returned (.agg (bytesC (monR t)).toArray)∧Hp B H0 H L w':=by
 refine Jt Tryz.func46 rfl 62 rfl rfl [(0,sV t)] rfl hH ?_;clear hH;refine Je fun _ hK1 _=>(Jb (JU ze65 rfl fun g2=>(Jf (Ja (hK1 (Je fun _ hK2 _=>(Jb (Jg (JX bz65) rfl (JU ze65 rfl fun g3=>(Jr rfl rfl (by first | exact bytesC_one _ | exact intsC_one _ | exact Term.c_one _ | simp [Value.oneCell']) (by simpa [*] using sz65) (by simp [*]) At.z (Jf (Ja (hK2 (Je fun _ hK3 _=>(Je fun _ hK4 _=>(Jb ?_))))))))))))))));refine Jg (Jd rfl) rfl (Jf (Ja (hK4 (Jo (JC (σ:=List Int × Nat) (fun ⟨m,ii⟩=>[(4,.int .i64 (ii:Int))]) (fun ⟨m,ii⟩=>H) (fun ⟨m,ii⟩=>obj g3 (.cells (bytesC m).toArray 65 (0,0))::obj g2 (.cells (bytesC zer8).toArray 65 (0,0))::L) (fun ⟨m,ii⟩=>Mono m∧ii≤t.length∧monR t=monG (t.drop ii) m) (fun ⟨m,ii⟩=>t.length - ii) (zer8,0) ⟨zer8_mn,by omega,rfl⟩ ⟨rfl,trivial⟩ rfl rfl ?_)))));rintro ⟨m,ii⟩ ⟨hm,ha,hI⟩ _ hAg0;have hm8:=hm.len;have hz8:zer8.length=8:=rfl;refine Je fun _ hK5 _=>(Je fun _ hK6 _=>(Jb (Jg (Jc rfl) rfl (Jg (Jc rfl) rfl (Jg (Eg u9 rfl) rfl (Jg (JJ rfl rfl) rfl (Jf (Ja (hK6 (Jj rfl (fun h12=>?_) (fun h12=>?_)))))))))))
 ·
  have hk1:ii<t.length:=by omega
  have hu:=u8_bd (t.getD ii 0);refine Ji (Ja (hK5 (Jo (Je fun _ hK7 _=>(Jb (Jg (Jc rfl) rfl (Jg (Jc rfl) rfl (Jg (JY (i':=ii) u9 rfl rfl rfl hk1) rfl (Jg (Ee u5 u3 rfl (nw _ (by omega))) rfl (Jg (PR.sub rfl rfl (nw _ (by omega))) rfl (Jg (Jd rfl) rfl (Jf (Ja (hK7 (Je fun _ hK8 _=>(Jb ?_))))))))))))))));refine Jg (Jc rfl) rfl (Jg (Jx rfl rfl (by first | exact nw _ (by omega) | rfl)) rfl (Jg (Jd rfl) rfl (Jf (Ja (hK8 (Je fun _ hK9 _=>(Jb (Jg (Jc rfl) rfl (Jg (Jd rfl) rfl (Jf (Ja (hK9 (Je fun _ hK10 _=>(Jo (JC (σ:=Nat) (fun (jj:Nat)=>[(4,.int .i64 (jj:Int))]) (fun (jj:Nat)=>H) (fun (jj:Nat)=>obj g3 (.cells (bytesC m).toArray 65 (0,0))::obj g2 (.cells (bytesC zer8).toArray 65 (0,0))::L) (fun (jj:Nat)=>ii+1≤jj∧jj≤t.length∧Scn t (ii+1) jj) (fun (jj:Nat)=>t.length - jj) (ii+1) ⟨by omega,by omega,Scn.start _ _⟩ ⟨(vi (by omega)),trivial⟩ rfl rfl ?_)))))))))))))));rintro jj ⟨hae,hel,hsc⟩ _ hAg1;refine Je fun _ hK11 _=>(CJ.cutU (σ:=Bool) (fun (b:Bool)=>[(36,.bool b)]) (fun (b:Bool)=>H) (fun (b:Bool)=>obj g3 (.cells (bytesC m).toArray 65 (0,0))::obj g2 (.cells (bytesC zer8).toArray 65 (0,0))::L) (fun (b:Bool)=>b=(decide (jj<t.length) && isDig (t.getD jj 0))) ?_ ?_)
  ·
   intro _ hMt1;refine Jb (Jg (Jc rfl) rfl (Jg (Jc rfl) rfl (Jg (Eg u9 rfl) rfl (Jg (JJ rfl rfl) rfl (Jg (Jc rfl) rfl (JQ (jd:=25) rfl (fun h25=>?_) (fun h25=>?_)))))))
   ·
    try have h25p:=of_decide_eq_true h25
    refine JL (Jc rfl) rfl rfl rfl h25 (JL (Jc rfl) rfl rfl rfl h25 (JL (JY (i':=jj) u9 rfl rfl rfl (by omega)) rfl rfl rfl h25 (JL (PR.geq rfl rfl) rfl rfl rfl h25 (Jg (JH rfl h25 rfl) rfl (Jg (Jc rfl) rfl (JQ (jd:=31) rfl (fun h31=>?_) (fun h31=>?_)))))))
    ·
     try have h31p:=of_decide_eq_true h31
     refine JL (Jc rfl) rfl rfl rfl h31 (JL (Jc rfl) rfl rfl rfl h31 (JL (JY (i':=jj) u9 rfl rfl rfl (by omega)) rfl rfl rfl h31 (JL (PR.leq rfl rfl) rfl rfl rfl h31 (Jg (JH rfl h31 rfl) rfl (Jf (Ja ?_))))));exact hMt1 (decide (((t.getD jj 0).toNat:Int)≤57)) (sc_1 h25p h31p) 16 rfl rfl ⟨rfl,trivial⟩ rfl rfl
    ·
     try have h31p:=of_decide_eq_false h31
     refine Jz rfl rfl rfl h31 (Jz rfl rfl rfl h31 (Jz rfl rfl rfl h31 (Jz rfl rfl rfl h31 (Jg (JD rfl h31 rfl) rfl (Jf (Ja ?_))))));exact hMt1 false (sc_2 h31p) 16 rfl rfl ⟨rfl,trivial⟩ rfl rfl
   ·
    try have h25p:=of_decide_eq_false h25
    refine Jz rfl rfl rfl h25 (Jz rfl rfl rfl h25 (Jz rfl rfl rfl h25 (Jz rfl rfl rfl h25 (Jg (JD rfl h25 rfl) rfl (Jg (Jc rfl) rfl (Jz rfl rfl rfl rfl (Jz rfl rfl rfl rfl (Jz rfl rfl rfl rfl (Jz rfl rfl rfl rfl (Jg (JD rfl rfl rfl) rfl (Jf (Ja ?_))))))))))));exact hMt1 false (sc_3 h25p) 16 rfl rfl ⟨rfl,trivial⟩ rfl rfl
  ·
   rintro b hb;refine JW rfl (fun h36=>?_) (fun h36=>?_)
   ·
    obtain ⟨he1,hdg⟩:=sc_t (h36.symm.trans hb);refine Ji (Ja (hK11 (Jo (Jb (Jg (Jc rfl) rfl (Jg (Jx rfl rfl (by first | exact nw _ (by omega) | rfl)) rfl (Jg (Jd rfl) rfl (Jf (JE (Ja ?_))))))))));exact hAg1 (jj+1) ⟨by omega,by omega,hsc.step hae he1 hdg⟩ (by show t.length - (jj+1)<t.length - jj;omega) 5 rfl rfl ⟨(vi (by omega)),trivial⟩ rfl rfl
   ·
    obtain ⟨hD,hR⟩:=hsc.done hae hel (sc_f (h36.symm.trans hb));have hDl:=congrArg List.length hD;rw [List.length_take,List.length_drop,Nat.min_eq_left (by omega)] at hDl;have hxb:=expI_bd (t.drop (ii+1));refine JK (Jm (Jm (JO (Ja (hK10 (Je fun _ hK12 _=>(Jb (Jg (Jd rfl) rfl (Jf (Ja (hK12 (CJ.cutU (σ:=Unit) (fun (_:Unit)=>[(7,.int .i64 (expI (digs (t.drop (ii+1)))))]) (fun (_:Unit)=>H) (fun (_:Unit)=>obj g3 (.cells (bytesC m).toArray 65 (0,0))::obj g2 (.cells (bytesC zer8).toArray 65 (0,0))::L) (fun (_:Unit)=>True) ?_ ?_))))))))))))
    ·
     intro _ hMt2;refine Je fun _ hK13 _=>(Jb (Jg (Jc rfl) rfl (Jg (Jc rfl) rfl (Jg (JZ rfl rfl) rfl (Jf (Ja (hK13 (Jj rfl (fun h41=>?_) (fun h41=>?_)))))))))
     ·
      refine Jb (Jg (Jc rfl) rfl (Jg (Jc rfl) rfl (Jg (Jc rfl) rfl (Jg (PR.strSl (i':=ii+1) (j':=jj) u9 rfl rfl rfl (by omega) rfl (by omega) (by omega)) rfl (JA fn68 rfl rfl fun w hH=>(atoi_c (s:=(t.drop (ii+1)).take (jj - (ii+1))) (by rw [← hD];omega) hB hH).mono ?_)))));rintro _ w ⟨ev47,rfl,hH⟩;refine ⟨_,rfl,fun a hF=>JR hF hH ?_⟩;refine Jg (Jc rfl) rfl (Jg (JN rfl rfl) rfl (Jg (JN rfl rfl) rfl (Jg (Jd rfl) rfl (Jf (Ja ?_)))));exact hMt2 () trivial 12 rfl rfl ⟨(vi (by rw [← hD];exact expI_1 (by omega))),trivial⟩ rfl rfl
     ·
      refine Ji (Ja ?_);exact hMt2 () trivial 3 rfl rfl ⟨(vi (expI_0 (by omega))),trivial⟩ rfl rfl
    ·
     rintro _ _;refine Je fun _ hK14 _=>(Jb (Jg (Jc rfl) rfl (Jg (PR.geq rfl rfl) rfl (Jg (Jc rfl) rfl (JQ (jd:=52) rfl (fun h52=>?_) (fun h52=>?_))))))
     ·
      try have h52p:=of_decide_eq_true h52
      refine JL (Jc rfl) rfl rfl rfl h52 (JL (JJ rfl rfl) rfl rfl rfl h52 (Jg (JH rfl h52 rfl) rfl (Jf (Ja (hK14 (Jj rfl (fun h55=>?_) (fun h55=>?_)))))))
      ·
       refine Jb (Jg (Jc rfl) rfl (Jg (Jc rfl) rfl (Jg (PR.min2 rfl rfl) rfl (Jg (Ee u3 u5 rfl (su8_id (by unfold min255 at hxb;split at hxb <;> split <;> omega))) rfl (Jg (JP (i':=(t.getD ii 0).toNat - 97) u65 sz5 rfl rfl (by omega) (by omega)) rfl (J.storeB rfl rfl sz5 (by rw [hm8];omega) At.z (Jf (JE (Ja ?_)))))))));exact hAg0 (m.set ((t.getD ii 0).toNat - 97) (min255 (expI (digs (t.drop (ii+1))))),jj) ⟨set_mn hm hxb,hel,by rw [hI,monG_step hk1 hR hae,if_pos (ltr_2t h52p h55)]⟩ (by show t.length - jj<t.length - ii;omega) 31 rfl rfl ⟨rfl,trivial⟩ rfl rfl
      ·
       refine Ji (JE (Ja ?_));exact hAg0 (m,jj) ⟨hm,hel,by rw [hI,monG_step hk1 hR hae,if_neg (ltr_2f (.inr h55))]⟩ (by show t.length - jj<t.length - ii;omega) 26 rfl rfl ⟨rfl,trivial⟩ rfl rfl
     ·
      try have h52p:=of_decide_eq_false h52
      refine Jz rfl rfl rfl h52 (Jz rfl rfl rfl h52 (Jg (JD rfl h52 rfl) rfl (Jf (Ja (hK14 (CJ.condF rfl (Ji (JE (Ja ?_)))))))));exact hAg0 (m,jj) ⟨hm,hel,by rw [hI,monG_step hk1 hR hae,if_neg (ltr_2f (.inl h52p))]⟩ (by show t.length - jj<t.length - ii;omega) 26 rfl rfl ⟨rfl,trivial⟩ rfl rfl
 ·
  refine JK (Jm (Jm (JO (Ja (hK3 (Je fun _ hK15 _=>(Jb (Jg (Js rfl At.z (by simpa [*] using ag65)) rfl (Jr rfl rfl (by first | exact bytesC_one _ | exact intsC_one _ | exact Term.c_one _ | simp [Value.oneCell']) (by simpa [*] using sz65) (by simp [*]) (.s .z) (Jf (Ja (hK15 (Jl (Jk rfl (Res.agg rfl (.s .z) (by simpa [*] using ag65)) fun w hH=>?_))))))))))))));replace hH:=hH.tail;replace hH:=hH.tail
  obtain rfl:ii=t.length:=by omega
  rw [List.drop_length,monG_nil] at hI;exact ⟨by rw [hI],hH⟩
theorem pl9:Plain Tryz.prog 9:=⟨_,u9,rfl⟩
theorem fn31:Fn Tryz.prog 31:=⟨_,Tryz.func31,by kernel_rfl,rfl⟩
theorem fn40:Fn Tryz.prog 40:=⟨_,Tryz.func40,by kernel_rfl,rfl⟩
theorem fn42:Fn Tryz.prog 42:=⟨_,Tryz.func42,by kernel_rfl,rfl⟩
section
variable {w : List UInt8} {α : Type} {f : List UInt8 → Option α} {P : List (List UInt8)} {k : Nat} {F : List α}
theorem allO_none (h:f w=none) : ∀{ws:List (List UInt8)},w∈ws→allO f ws=none
 | [],hw=>by simp at hw
 | x::ws,hw=>by
  simp only [allO]
  rcases List.mem_cons.1 hw with rfl | hw
  ·rw [h]
  ·rw [allO_none h hw]
   cases f x <;> rfl
theorem allO_app {x:α} (hx:f w=some x) : ∀{ws:List (List UInt8)} {xs:List α},allO f ws=some xs→allO f (ws++[w])=some (xs++[x])
 | [],xs,h=>by
  simp only [allO,Option.some.injEq] at h
  subst h
  simp [allO,hx]
 | y::ws,xs,h=>by
  simp only [allO,JxA] at h ⊢
  cases hy:f y with
  | none=>rw [hy] at h;cases h
  | some b=>
   rw [hy] at h
   cases hr:allO f ws with
   | none=>rw [hr] at h;cases h
   | some bs=>
    rw [hr] at h
    simp only [Option.map_some,Option.some.injEq] at h
    subst h
    rw [allO_app hx hr]
    rfl
end
theorem pg_take {P:List (List UInt8)} {k:Nat} (hk:k<P.length):P.take (k+1)=P.take k++[P.getD k []]:=by
 rw [List.take_succ_eq_append_getElem hk]
 simp [List.getD_eq_getElem?_getD,hk]
theorem pg_mem {P:List (List UInt8)} {k:Nat} (hk:k<P.length):P.getD k []∈P:=by
 have e:P.getD k []=P[k]:=by simp [List.getD_eq_getElem?_getD,hk]
 rw [e];exact List.getElem_mem hk
theorem spl_mem (c:UInt8) : ∀(s:List UInt8) (x:List UInt8),x∈spl c s→x.length≤s.length
 | [],x,h=>by simp [spl] at h;simp [h]
 | b::s,x,h=>by
  have ih:=spl_mem c s
  simp only [spl] at h
  split at h
  ·rcases List.mem_cons.1 h with rfl | h
   ·simp
   ·have:=ih x h
    simp only [List.length_cons]
    omega
  ·cases hs:spl c s with
   | nil=>exact absurd hs (spl_ne c s)
   | cons y ys=>
    rw [hs] at h ih
    simp only [att] at h
    rcases List.mem_cons.1 h with rfl | h
    ·have:=ih y (by simp)
     simp only [List.length_append,List.length_cons,List.length_nil]
     omega
    ·have:=ih x (by simp [h])
     simp only [List.length_cons]
     omega
section
variable {ds : List Int} {t : List UInt8} {P H2 : List (List UInt8)} {k : Nat} {F : List Term}
theorem wrdS_len {w:List UInt8} (h:(spl 42 w).length≠2):wrdS w=none:=by
 unfold wrdS
 cases hs:spl 42 w with
 | nil=>rfl
 | cons a l=>
  cases l with
  | nil=>rfl
  | cons b l=>
   cases l with
   | nil=>rw [hs] at h;exact absurd rfl h
   | cons c l=>rfl
theorem wrdS_two {w:List UInt8} (h:(spl 42 w).length=2):wrdS w=(namS ((spl 42 w).getD 1 [])).map fun m=>⟨m,numS ((spl 42 w).getD 0 [])⟩:=by
 unfold wrdS
 cases hs:spl 42 w with
 | nil=>rw [hs] at h;cases h
 | cons a l=>
  cases l with
  | nil=>rw [hs] at h;cases h
  | cons b l=>
   cases l with
   | nil=>rfl
   | cons c l=>rw [hs] at h;simp at h
theorem wfs_snoc {x:Term} (h:Wfs F) (hx:x.wf):Wfs (F++[x]):=fun y hy=>by
 rcases List.mem_append.1 hy with h1 | h1
 ·exact h y h1
 ·rw [List.mem_singleton.1 h1]
  exact hx
theorem isSome_f {α:Type} {o:Option α} (h:o.isSome=false):o=none:=by
 cases o with
 | none=>rfl
 | some x=>cases h
theorem some_of {o:Option (List Int)} {m:List Int} (h:o.isSome=true) (he : ∀x,o=some x→m=x):o=some m:=by
 cases o with
 | none=>cases h
 | some x=>rw [he x rfl]
theorem isForm_fac (hw:Wfs F) (h:isForm ds F=true):F.length≤400∧∀i,i<F.length→0≤(tm F i).fac:=⟨isForm_len4 h,fun i hi=>by
 have:=(isForm_sok hw h).val _ (toS_at hi)
 simp only at this
 omega⟩
theorem rdS_0 (h:t=[48]):rdS ds t=([],true):=by unfold rdS;rw [if_pos h]
theorem rdS_1 (h : ¬t=[48]) (h2:400<(spl 43 t).length):rdS ds t=([],false):=by unfold rdS;rw [if_neg h,if_pos h2]
theorem rdS_2 (h : ¬t=[48]) (h2 : ¬400<(spl 43 t).length) (hk:k<(spl 43 t).length) (h3:wrdS ((spl 43 t).getD k [])=none):rdS ds t=([],false):=by
 unfold rdS;rw [if_neg h,if_neg h2,allO_none h3 (pg_mem hk)]
theorem rdS_3 (h : ¬t=[48]) (h2 : ¬400<(spl 43 t).length) (h3:allO wrdS ((spl 43 t).take (spl 43 t).length)=some F):rdS ds t=(F,chkT ds t F):=by
 rw [List.take_length] at h3;unfold rdS;rw [if_neg h,if_neg h2,h3]
theorem rdI_0 (h:t=[48]):rdI ds t=([],true):=by unfold rdI;rw [if_pos h]
theorem rdI_2 (h : ¬t=[48]) (hk:k<(spl 43 t).length) (h3:wrdI ((spl 43 t).getD k [])=none):rdI ds t=([],false):=by
 unfold rdI;rw [if_neg h,allO_none h3 (pg_mem hk)]
theorem rdI_3 (h : ¬t=[48]) (h3:allO wrdI ((spl 43 t).take (spl 43 t).length)=some F):rdI ds t=(F,chkT ds t F):=by
 rw [List.take_length] at h3;unfold rdI;rw [if_neg h,h3]
theorem allO_len {α:Type} {f:List UInt8→Option α} : ∀{ws:List (List UInt8)} {xs:List α},allO f ws=some xs→xs.length=ws.length
 | [],xs,h=>by
  simp only [allO,Option.some.injEq] at h
  rw [← h]
  rfl
 | y::ws,xs,h=>by
  simp only [allO] at h
  cases hy:f y with
  | none=>rw [hy] at h;cases h
  | some b=>
   rw [hy] at h
   cases hr:allO f ws with
   | none=>rw [hr] at h;cases h
   | some bs=>
    rw [hr] at h
    simp only [Option.map_some,Option.some.injEq] at h
    rw [← h,List.length_cons,List.length_cons,allO_len hr]
theorem numF_hi : ∀(s:List UInt8) (n:Int) (j:Nat),n<10 ^ j→numF s n<10 ^ (j+s.length)
 | [],n,j,h=>h
 | b::s,n,j,h=>by
  simp only [numF]
  have hp:(0:Int)<10 ^ (j+(b::s).length):=Int.pow_pos (by omega)
  split
  ·rename_i hb
   have h3:=isDig_iff.1 hb
   have e:(10:Int) ^ (j+1)=10 ^ j * 10:=Int.pow_succ 10 j
   have h1:=numF_hi s (n * 10+dgV b) (j+1) (by rw [e];unfold dgV;omega)
   rwa [show j+1+s.length=j+(b::s).length by simp only [List.length_cons];omega] at h1
  ·omega
theorem numF_lo : ∀(s:List UInt8) (n:Int),0≤n→ -1≤numF s n
 | [],n,h=>by simp only [numF];omega
 | b::s,n,h=>by
  simp only [numF]
  split
  ·rename_i hb
   have h3:=isDig_iff.1 hb
   exact numF_lo s _ (by unfold dgV;omega)
  ·omega
theorem numS_bd (s:List UInt8) : -1≤numS s∧numS s≤999999999:=by
 unfold numS
 split
 ·omega
 ·rename_i h
  have h1:=numF_lo s 0 (by omega);have h2:=numF_hi s 0 0 (by decide);have h3:s.length≤9:=Classical.byContradiction fun h4=>h (.inr (.inl (by omega)));have h4:=p10_le (i:=0+s.length) (by omega)
  omega
end
theorem l01Read_c {B:World} {H0 H:HP} {L:List SA} {w:World} {qds:Option Addr} {cds:Nat} {ds:List Int} {t:List UInt8} (hds:Ints H qds ds) (hn:ds.length≤1048576) (hd0 : ∀j,j<ds.length→0≤ds.getD j 0) (hl:t.length≤1048576) (hH:Hp B H0 H L w):Calls Tryz.prog 25 [.slice qds ds.length cds,sV t].toArray w fun e w'=>∃q k,e = .returned (.tuple #[.agg [.slice q (rdS ds t).1.length k].toArray,.bool (rdS ds t).2])∧Hp B H0 H (own 69 9 q (rdS ds t).1.length k (tsC (rdS ds t).1)::L) w':=by
 refine Jt Tryz.func25 rfl 68 rfl rfl [(0,.slice qds ds.length cds),(1,sV t)] rfl hH ?_;clear hH;have hPl:=spl_len 43 t;have hPm:=fun x (hx:x∈(spl 43 t))=>spl_mem 43 t x hx;refine Je fun _ hK1 _=>(Jb (JU ze33 rfl fun g4=>(Jg (Jd rfl) rfl (Jf (Ja (hK1 (Je fun _ hK2 _=>(Jb (J.own0 69 9 (Jg (JX bz33) rfl (JU ze33 rfl fun g6=>(Jr rfl rfl (by first | exact bytesC_one _ | exact intsC_one _ | exact Term.c_one _ | simp [Value.oneCell']) (by simpa [*] using sz33) (by simp [*]) At.z (Jf (Ja (hK2 (Je fun _ hK3 _=>?_))))))))))))))));refine Je fun _ hK4 _=>(Jb (Jg (Jc rfl) rfl (Jg (PR.strEql rfl rfl) rfl (Jf (Ja (hK4 (Jj rfl (fun h14=>?_) (fun h14=>?_))))))))
 ·
  refine Je fun _ hK5 _=>(Jb (Jg (Js rfl At.z (by simpa [*] using ag33)) rfl (Jr rfl rfl (by first | exact bytesC_one _ | exact intsC_one _ | exact Term.c_one _ | simp [Value.oneCell']) (by simpa [*] using sz33) (by simp [*]) (.s (.s .z)) (Jg (Jd rfl) rfl (Jf (Ja (hK5 (Jl (Jh (JV rfl (Res.agg rfl (.s (.s .z)) (by simpa [*] using ag33)) (Res.tmp rfl) fun w hH=>?_))))))))));replace hH:=hH.sublist (.cons _ (.cons _ (.cons _ (List.Sublist.refl _))));rw [rdS_0 h14];exact ⟨none,0,rfl,hH.own0 69 9⟩
 ·
  refine Ji (Ja (hK3 (Je fun _ hK6 _=>(Jb (Jg (Jc rfl) rfl (JA fn31 rfl rfl fun w hH=>(l01Split_c (c:=43) rfl (by omega) hH).mono ?_))))));rintro _ w ⟨qo17,co17,rfl,hH⟩;refine ⟨_,rfl,fun a hF=>JR hF hH ?_⟩;refine Jg (Jd rfl) rfl (Jf (Ja (hK6 (Je fun _ hK7 _=>(Je fun _ hK8 _=>(Jb (Jg (Jc rfl) rfl (Jg (Jp u51 rfl rfl) rfl (Jg (JZ rfl rfl) rfl (Jf (Ja (hK8 (Jj rfl (fun h20=>?_) (fun h20=>?_))))))))))))))
  ·
   refine Je fun _ hK9 _=>(Jb (Jg (JX bz33) rfl (Jr rfl rfl (by first | exact bytesC_one _ | exact intsC_one _ | exact Term.c_one _ | simp [Value.oneCell']) (by simpa [*] using sz33) (by simp [*]) (.s (.s (.s .z))) (Jg (Jd rfl) rfl (Jf (Ja (hK9 (Jl (Jh (JV rfl (Res.agg rfl (.s (.s (.s .z))) (by simpa [*] using ag33)) (Res.tmp rfl) fun w hH=>?_))))))))));replace hH:=hH.sublist (.cons _ (.cons _ (.cons _ (.cons _ (List.Sublist.refl _)))));rw [rdS_1 h14 (by omega)];exact ⟨none,0,rfl,hH.own0 69 9⟩
  ·
   refine Ji (Ja (hK7 (Je fun _ hK10 _=>(Je fun _ hK11 _=>(Jb (Jg (Jd rfl) rfl (Jf (Ja (hK11 (Jo (JC (σ:=Option Addr × Nat × List Term × Nat) (fun ⟨q,c,F,k⟩=>[(8,.int .i64 (k:Int))]) (fun ⟨q,c,F,k⟩=>H) (fun ⟨q,c,F,k⟩=>own 9 1 qo17 (spl 43 t).length co17 ((spl 43 t).map sV)::obj g6 (.cells [.slice q F.length c].toArray 33 (0,0))::own 69 9 q F.length c (tsC F)::obj g4 (.cells [.slice none 0 0].toArray 33 (0,0))::L) (fun ⟨q,c,F,k⟩=>k≤(spl 43 t).length∧Wfs F∧allO wrdS ((spl 43 t).take k)=some F) (fun ⟨q,c,F,k⟩=>(spl 43 t).length - k) (none,0, [],0) ⟨by omega,Wfs.nil,rfl⟩ ⟨rfl,trivial⟩ rfl rfl ?_)))))))))));rintro ⟨q,c,F,k⟩ ⟨hk,wfO,hI⟩ _ hAg0;refine Je fun _ hK12 _=>(Je fun _ hK13 _=>(Jb (Jg (Jc rfl) rfl (Jg (Jc rfl) rfl (Jg (Jp u51 rfl rfl) rfl (Jg (JJ rfl rfl) rfl (Jf (Ja (hK13 (Jj rfl (fun h25=>?_) (fun h25=>?_)))))))))))
   ·
    have hk1:k<(spl 43 t).length:=by omega
    have hwl:=hPm _ (pg_mem hk1);have hsl:=spl_len 42 ((spl 43 t).getD k []);have hFl:=allO_len hI;rw [List.length_take,Nat.min_eq_left (by omega)] at hFl;refine Ji (Ja (hK12 (Je fun _ hK14 _=>(Jo (Je fun _ hK15 _=>(Jb (Jg (Jc rfl) rfl (Jg (Jc rfl) rfl (Jg (PR.idxW u51 sz9 rfl rfl rfl (by omega) At.z) rfl (Jg (PR.loadO rfl At.z (strsC_get (by omega)) pl9) rfl (JA fn31 rfl rfl fun w hH=>(l01Split_c (c:=42) rfl (by omega) hH).mono ?_)))))))))));rintro _ w ⟨qo32,co32,rfl,hH⟩;refine ⟨_,rfl,fun a hF=>JR hF hH ?_⟩;refine Jg (Jd rfl) rfl (Jf (Ja (hK15 (Je fun _ hK16 _=>(Je fun _ hK17 _=>(Jb (Jg (Jc rfl) rfl (Jg (Jp u51 rfl rfl) rfl (Jg (Ej rfl rfl) rfl (Jf (Ja (hK17 (Jj rfl (fun h35=>?_) (fun h35=>?_))))))))))))))
    ·
     refine Je fun _ hK18 _=>(Jb (Jg (JX bz33) rfl (Jr rfl rfl (by first | exact bytesC_one _ | exact intsC_one _ | exact Term.c_one _ | simp [Value.oneCell']) (by simpa [*] using sz33) (by simp [*]) (.s (.s (.s (.s .z)))) (Jg (Jd rfl) rfl (Jf (Ja (hK18 (Jl (Jh (Jw (Jh (Jh (Jw (Jh (JV rfl (Res.agg rfl (.s (.s (.s (.s .z)))) (by simpa [*] using ag33)) (Res.tmp rfl) fun w hH=>?_)))))))))))))));replace hH:=hH.sublist (.cons _ (.cons _ (.cons _ (.cons _ (.cons _ (List.Sublist.refl _))))));rw [rdS_2 h14 (by omega) hk1 (wrdS_len (by omega))];exact ⟨none,0,rfl,hH.own0 69 9⟩
    ·
     have hs2:(spl 42 ((spl 43 t).getD k [])).length=2:=by omega
     have hw2:=wrdS_two hs2;have hm1:=spl_mem 42 ((spl 43 t).getD k []) _ (pg_mem (show 1<(spl 42 ((spl 43 t).getD k [])).length by omega));have hm0:=spl_mem 42 ((spl 43 t).getD k []) _ (pg_mem (show 0<(spl 42 ((spl 43 t).getD k [])).length by omega));have hnb:=numS_bd ((spl 42 ((spl 43 t).getD k [])).getD 0 []);refine Ji (Ja (hK16 (Je fun _ hK19 _=>(Jb (Jg (Jc rfl) rfl (Jg (PR.idxW (i':=1) u51 sz9 rfl rfl rfl (by omega) At.z) rfl (Jg (PR.loadO rfl At.z (strsC_get (by omega)) pl9) rfl (JA fn40 rfl rfl fun w hH=>(l01Named_c (by omega) hH).mono ?_))))))));rintro _ w ⟨m41,rfl,⟨hm41,he41⟩,hH⟩;refine ⟨_,rfl,fun a hF=>JR hF hH ?_⟩;have hm8:=hm41.len;refine Jg (Jc rfl) rfl (Jg (JN rfl rfl) rfl (Jg (JN rfl rfl) rfl (JU ze65 rfl fun g10=>(Jr rfl rfl (by first | exact bytesC_one _ | exact intsC_one _ | exact Term.c_one _ | simp [Value.oneCell']) (by simpa [*] using sz65) (by simp [*]) At.z (Jg (Jd rfl) rfl (Jf (Ja (hK19 (Je fun _ hK20 _=>(Je fun _ hK21 _=>(Jb (Jg (Jc rfl) rfl (Jg (Ec rfl) rfl (Jf (Ja (hK21 ?_))))))))))))))));refine JW rfl (fun h45=>?_) (fun h45=>?_)
     ·
      refine Je fun _ hK22 _=>(Jb (Jg (JX bz33) rfl (Jr rfl rfl (by first | exact bytesC_one _ | exact intsC_one _ | exact Term.c_one _ | simp [Value.oneCell']) (by simpa [*] using sz33) (by simp [*]) (.s (.s (.s (.s (.s .z))))) (Jg (Jd rfl) rfl (Jf (Ja (hK22 (Jl (Jh (Jw (Jh (Jh (Jw (Jh (JV rfl (Res.agg rfl (.s (.s (.s (.s (.s .z))))) (by simpa [*] using ag33)) (Res.tmp rfl) fun w hH=>?_)))))))))))))));replace hH:=hH.sublist (.cons _ (.cons _ (.cons _ (.cons _ (.cons _ (.cons _ (List.Sublist.refl _)))))));rw [rdS_2 h14 (by omega) hk1 (by rw [hw2,isSome_f (not_f h45)];rfl)];exact ⟨none,0,rfl,hH.own0 69 9⟩
     ·
      refine Ji (Ja (hK20 (CJ.head [[], [0], [], [], [3], [4], [5], [2,6], [7]] (by kernel_rfl) (JF (fun gh=>JG u33 rfl sz31 rfl) (JF (fun gh=>JB rfl (.s (.s (.s .z))) rfl pl31) (JF (fun gh=>Js rfl At.z (by simpa [*] using ag65)) (JF (fun gh=>Jc rfl) (JF (fun gh=>PR.idxW (i':=0) u51 sz9 rfl rfl rfl (by omega) (.s .z)) (JF (fun gh=>PR.loadO rfl (.s .z) (strsC_get (by omega)) pl9) (HJ.call fn32 (fun gh=>rfl) (fun w X hH=>l01Number_c (by omega) hH) (JF (fun gh=>PR.build2 rfl rfl (fun w=>bt69 _ _ hm41.len w)) (HJ.mk (fun gh=>MK.lit1T u31 ze69 sz69 (Term.wf.of hm41 (by omega)) rfl) (El 9 3 foll0 (by kernel_rfl) rfl rfl fun gh=>(J.conv (us':=(47,_)::(48,_)::(49,_)::(50,_)::(51,_)::(52,_)::(53,_)::(54,_)::(55,_)::_) (L':=_::_) rfl rfl (J.appendOT u31 ze69 sz69 by69 rfl rfl (by simp only [List.length_cons,List.length_nil];omega) .z (.s (.s (.s (.s .z)))) (fun _ _=>(.s (.s (.s (.s .z))))) rfl fun qo56 co56=>?_)))))))))))))));refine Jg (JG u33 rfl sz31 rfl) rfl (J.store rfl rfl rfl rfl sz31 (by simp [*]) (.s (.s (.s (.s .z)))) (Jf (Ei (Ek (JE (Ja (hK14 (Jb (Jg (Jc rfl) rfl (Jg (Jx rfl rfl (by first | exact nw _ (by omega) | rfl)) rfl (Jg (Jd rfl) rfl (Jf (Ja (Em .z (Em .z ?_)))))))))))))));refine Em .z ?_;exact hAg0 (qo56,co56,F++[⟨m41,numS ((spl 42 ((spl 43 t).getD k [])).getD 0 [])⟩],k+1) ⟨by omega,wfs_snoc wfO (Term.wf.of hm41 (by omega)),by rw [pg_take hk1];exact allO_app (by rw [hw2,some_of (not_t h45) he41];rfl) hI⟩ (by show (spl 43 t).length - (k+1)<(spl 43 t).length - k;omega) 39 rfl rfl ⟨rfl,trivial⟩ rfl rfl
   ·
    refine JK (Jm (Jm (JO (Ja (hK10 (Je fun _ hK23 _=>?_))))))
    rcases Bool.eq_false_or_eq_true (isForm ds F) with hb62 | hb62
    ·
     have hff:=isForm_fac wfO hb62;have hFl:=allO_len hI;have htk:=List.length_take_le k (spl 43 t);refine CJ.openR (Rs:=[_,_,_,_]) 12 [[], [], [], [1,2], [1,2,3], [1,2,3,4], [1,2,3,4,5], [1,2,3,4], [1,2,3,4,5,6,7], [1,2,3,4,5,6,7,8], [0,1,2,3,4,5,6], [0,1,2,3,4,5,6,7,8,9,10]] [[13], [], [13], [14], [], [13], [14], [], [], [], [], []] [[], [], [], [], [], [], [], [], [], [], [15], []] rfl rfl (by kernel_rfl) ?_;apply Ju 1 rfl
     iterate 3 focus (intros;(conv=>lhs;simp only [Jn,Jv,Ed,Jy,JM,eq_self,reduceEqDiff,reduceIte,reduceSub,reduceAdd,JxA,JxB]);all_goals rfl)
     ·
      intro gh X K zq zc zq2 zc2 zb zv hK;refine Jg (Js rfl At.z (by simpa [*] using ag33)) rfl (Jq ?_);exact hK zq zc zq2 zc2 zb zv
     ·
      intro gh gh' h
      rfl
     apply Ju 2 rfl
     iterate 3 focus (intros;(conv=>lhs;simp only [Jn,Jv,Ed,Jy,JM,eq_self,reduceEqDiff,reduceIte,reduceSub,reduceAdd,JxA,JxB]);all_goals rfl)
     ·
      intro gh X K zq zc zq2 zc2 zb zv hK;refine Jg (Jc rfl) rfl (Jq ?_);exact hK zq zc zq2 zc2 zb zv
     ·
      intro gh gh' h
      rfl
     apply Ju 3 rfl
     iterate 3 focus (intros;(conv=>lhs;simp only [Jn,Jv,Ed,Jy,JM,eq_self,reduceEqDiff,reduceIte,reduceSub,reduceAdd,JxA,JxB]);all_goals rfl)
     ·
      intro gh X K zq zc zq2 zc2 zb zv hK;refine Jg (Js rfl At.z (by simpa [*] using ag33)) rfl (Jq ?_);exact hK zq zc zq2 zc2 zb zv
     ·
      intro gh gh' h
      rfl
     apply Ju 4 rfl
     iterate 3 focus (intros;(conv=>lhs;simp only [Jn,Jv,Ed,Jy,JM,eq_self,reduceEqDiff,reduceIte,reduceSub,reduceAdd,JxA,JxB]);all_goals rfl)
     ·
      intro gh X K zq zc zq2 zc2 zb zv hK;refine JA fn41 rfl rfl fun w hH=>hH.lend .z fun Hl1 hle1 hA1 hB1 hH=>(l01Is_c (hds.le hle1) (own_terms wfO hA1) (by omega) hd0 (by omega) hH).mono ?_;rintro _ w ⟨rfl,hH⟩;replace hH:=hB1 _ _ hH;refine ⟨_,rfl,fun a hF=>JR hF hH ?_⟩;refine Jq ?_;exact hK zq zc zq2 zc2 zb zv
     ·
      intro gh gh' h
      rfl
     apply Ju 5 rfl
     iterate 3 focus (intros;(conv=>lhs;simp only [Jn,Jv,Ed,Jy,JM,eq_self,reduceEqDiff,reduceIte,reduceSub,reduceAdd,JxA,JxB]);all_goals rfl)
     ·
      intro gh X K zq zc zq2 zc2 zb zv hK;refine Jg (Jc rfl) rfl (Jq ?_);exact hK zq zc zq2 zc2 zb zv
     ·
      intro gh gh' h
      rfl
     apply Ju 6 rfl
     iterate 3 focus (intros;(conv=>lhs;simp only [Jn,Jv,Ed,Jy,JM,eq_self,reduceEqDiff,reduceIte,reduceSub,reduceAdd,JxA,JxB]);all_goals rfl)
     ·
      intro gh X K zq zc zq2 zc2 zb zv hK;refine JL (Js rfl At.z (by simpa [*] using ag33)) rfl rfl rfl hb62 (Jq ?_);exact hK zq zc zq2 zc2 zb zv
     ·
      intro gh gh' h
      rfl
     apply Ju 7 rfl
     iterate 3 focus (intros;(conv=>lhs;simp only [Jn,Jv,Ed,Jy,JM,eq_self,reduceEqDiff,reduceIte,reduceSub,reduceAdd,JxA,JxB]);all_goals rfl)
     ·
      intro gh X K zq zc zq2 zc2 zb zv hK;refine J.gcall fn42 rfl rfl hb62 rfl rfl fun w hH=>hH.lend .z fun Hl1 hle1 hA1 hB1 hH=>(l01Text_c (own_terms wfO hA1) hff.1 hff.2 hH).mono ?_;rintro _ w ⟨rfl,hH⟩;replace hH:=hB1 _ _ hH;refine ⟨_,rfl,fun a hF=>JR hF hH ?_⟩;refine Jq ?_;exact hK zq zc zq2 zc2 zb zv
     ·
      intro gh gh' h
      rfl
     apply Ju 8 rfl
     iterate 3 focus (intros;(conv=>lhs;simp only [Jn,Jv,Ed,Jy,JM,eq_self,reduceEqDiff,reduceIte,reduceSub,reduceAdd,JxA,JxB]);all_goals rfl)
     ·
      intro gh X K zq zc zq2 zc2 zb zv hK;refine JL (Jc rfl) rfl rfl rfl hb62 (Jq ?_);exact hK zq zc zq2 zc2 zb zv
     ·
      intro gh gh' h
      rfl
     apply Ju 9 rfl
     iterate 3 focus (intros;(conv=>lhs;simp only [Jn,Jv,Ed,Jy,JM,eq_self,reduceEqDiff,reduceIte,reduceSub,reduceAdd,JxA,JxB]);all_goals rfl)
     ·
      intro gh X K zq zc zq2 zc2 zb zv hK;refine JL (PR.strEql rfl rfl) rfl rfl rfl hb62 (Jq ?_);exact hK zq zc zq2 zc2 zb zv
     ·
      intro gh gh' h
      rfl
     apply Ju 10 rfl
     iterate 3 focus (intros;(conv=>lhs;simp only [Jn,Jv,Ed,Jy,JM,eq_self,reduceEqDiff,reduceIte,reduceSub,reduceAdd,JxA,JxB]);all_goals rfl)
     ·
      intro gh X K zq zc zq2 zc2 zb zv hK;refine Jg (JH rfl hb62 rfl) rfl (Jq ?_);exact hK zq zc zq2 zc2 zb zv
     ·
      intro gh gh' h
      rfl
     apply GJ.sn1 11 rfl
     iterate 3 focus (intros;(conv=>lhs;simp only [Jn,Jv,Ed,Jy,JM,eq_self,reduceEqDiff,reduceIte,reduceSub,reduceAdd,JxA,JxB]);all_goals rfl)
     ·
      intro gh X K hK;refine Jr rfl rfl (by first | exact bytesC_one _ | exact intsC_one _ | exact Term.c_one _ | simp [Value.oneCell']) (by simpa [*] using sz33) (by simp [*]) At.z (Jq ?_);exact hK
     ·
      intro gh gh' h
      rfl
     apply Ju 12 rfl
     iterate 3 focus (intros;(conv=>lhs;simp only [Jn,Jv,Ed,Jy,JM,eq_self,reduceEqDiff,reduceIte,reduceSub,reduceAdd,JxA,JxB]);all_goals rfl)
     ·
      intro gh X K zq zc zq2 zc2 zb zv hK;refine Jg (Jd rfl) rfl (Jq ?_);exact hK zq zc zq2 zc2 zb zv
     ·
      intro gh gh' h
      rfl
     apply GJ.close [0,1,2,3,4,5,6,7,8,9,10,11] [0,1,2,3,4,5,6,7,8,9,10,11,12,13,14] foll0 rfl rfl rfl (by rfl)
     iterate 2 focus (intros;(conv=>lhs;simp only [Jn,Jv,Ed,Jy,JM,eq_self,reduceEqDiff,reduceIte,reduceSub,reduceAdd,JxA,JxB]);all_goals rfl)
     intro gh;clear gh;refine Ja (hK23 (Jl (JV rfl (Res.agg rfl At.z (by simpa [*] using ag33)) (Res.tmp rfl) fun w hH=>?_)));replace hH:=hH.sublist (.cons _ (.cons _ (.cons _ (.cons_cons _ (List.Sublist.refl _)))))
     obtain rfl:k=(spl 43 t).length:=by omega
     rw [rdS_3 h14 (by omega) hI];exact ⟨_,_,by unfold chkT;rw [hb62];rfl,hH⟩
    ·
     have hFl:=allO_len hI;have htk:=List.length_take_le k (spl 43 t);refine CJ.openR (Rs:=[_,_,_,_]) 12 [[], [], [], [1,2], [1,2,3], [1,2,3,4], [1,2,3,4,5], [1,2,3,4], [1,2,3,4,5,6,7], [1,2,3,4,5,6,7,8], [0,1,2,3,4,5,6], [0,1,2,3,4,5,6,7,8,9,10]] [[13], [], [13], [14], [], [], [], [], [], [], [], []] [[], [], [], [], [], [], [], [], [], [], [15], []] rfl rfl (by kernel_rfl) ?_;apply Ju 1 rfl
     iterate 3 focus (intros;(conv=>lhs;simp only [Jn,Jv,Ed,Jy,JM,eq_self,reduceEqDiff,reduceIte,reduceSub,reduceAdd,JxA,JxB]);all_goals rfl)
     ·
      intro gh X K zq zc zq2 zc2 zb zv hK;refine Jg (Js rfl At.z (by simpa [*] using ag33)) rfl (Jq ?_);exact hK zq zc zq2 zc2 zb zv
     ·
      intro gh gh' h
      rfl
     apply Ju 2 rfl
     iterate 3 focus (intros;(conv=>lhs;simp only [Jn,Jv,Ed,Jy,JM,eq_self,reduceEqDiff,reduceIte,reduceSub,reduceAdd,JxA,JxB]);all_goals rfl)
     ·
      intro gh X K zq zc zq2 zc2 zb zv hK;refine Jg (Jc rfl) rfl (Jq ?_);exact hK zq zc zq2 zc2 zb zv
     ·
      intro gh gh' h
      rfl
     apply Ju 3 rfl
     iterate 3 focus (intros;(conv=>lhs;simp only [Jn,Jv,Ed,Jy,JM,eq_self,reduceEqDiff,reduceIte,reduceSub,reduceAdd,JxA,JxB]);all_goals rfl)
     ·
      intro gh X K zq zc zq2 zc2 zb zv hK;refine Jg (Js rfl At.z (by simpa [*] using ag33)) rfl (Jq ?_);exact hK zq zc zq2 zc2 zb zv
     ·
      intro gh gh' h
      rfl
     apply Ju 4 rfl
     iterate 3 focus (intros;(conv=>lhs;simp only [Jn,Jv,Ed,Jy,JM,eq_self,reduceEqDiff,reduceIte,reduceSub,reduceAdd,JxA,JxB]);all_goals rfl)
     ·
      intro gh X K zq zc zq2 zc2 zb zv hK;refine JA fn41 rfl rfl fun w hH=>hH.lend .z fun Hl1 hle1 hA1 hB1 hH=>(l01Is_c (hds.le hle1) (own_terms wfO hA1) (by omega) hd0 (by omega) hH).mono ?_;rintro _ w ⟨rfl,hH⟩;replace hH:=hB1 _ _ hH;refine ⟨_,rfl,fun a hF=>JR hF hH ?_⟩;refine Jq ?_;exact hK zq zc zq2 zc2 zb zv
     ·
      intro gh gh' h
      rfl
     apply Ju 5 rfl
     iterate 3 focus (intros;(conv=>lhs;simp only [Jn,Jv,Ed,Jy,JM,eq_self,reduceEqDiff,reduceIte,reduceSub,reduceAdd,JxA,JxB]);all_goals rfl)
     ·
      intro gh X K zq zc zq2 zc2 zb zv hK;refine Jg (Jc rfl) rfl (Jq ?_);exact hK zq zc zq2 zc2 zb zv
     ·
      intro gh gh' h
      rfl
     apply Ju 6 rfl
     iterate 3 focus (intros;(conv=>lhs;simp only [Jn,Jv,Ed,Jy,JM,eq_self,reduceEqDiff,reduceIte,reduceSub,reduceAdd,JxA,JxB]);all_goals rfl)
     ·
      intro gh X K zq zc zq2 zc2 zb zv hK;refine Jz rfl rfl rfl hb62 (Jq ?_);exact hK zq zc zq2 zc2 zb zv
     ·
      intro gh gh' h
      rfl
     apply Ju 7 rfl
     iterate 3 focus (intros;(conv=>lhs;simp only [Jn,Jv,Ed,Jy,JM,eq_self,reduceEqDiff,reduceIte,reduceSub,reduceAdd,JxA,JxB]);all_goals rfl)
     ·
      intro gh X K zq zc zq2 zc2 zb zv hK;refine Jz rfl rfl rfl hb62 (Jq ?_);exact hK zq zc zq2 zc2 zb zv
     ·
      intro gh gh' h
      rfl
     apply Ju 8 rfl
     iterate 3 focus (intros;(conv=>lhs;simp only [Jn,Jv,Ed,Jy,JM,eq_self,reduceEqDiff,reduceIte,reduceSub,reduceAdd,JxA,JxB]);all_goals rfl)
     ·
      intro gh X K zq zc zq2 zc2 zb zv hK;refine Jz rfl rfl rfl hb62 (Jq ?_);exact hK zq zc zq2 zc2 zb zv
     ·
      intro gh gh' h
      rfl
     apply Ju 9 rfl
     iterate 3 focus (intros;(conv=>lhs;simp only [Jn,Jv,Ed,Jy,JM,eq_self,reduceEqDiff,reduceIte,reduceSub,reduceAdd,JxA,JxB]);all_goals rfl)
     ·
      intro gh X K zq zc zq2 zc2 zb zv hK;refine Jz rfl rfl rfl hb62 (Jq ?_);exact hK zq zc zq2 zc2 zb zv
     ·
      intro gh gh' h
      rfl
     apply Ju 10 rfl
     iterate 3 focus (intros;(conv=>lhs;simp only [Jn,Jv,Ed,Jy,JM,eq_self,reduceEqDiff,reduceIte,reduceSub,reduceAdd,JxA,JxB]);all_goals rfl)
     ·
      intro gh X K zq zc zq2 zc2 zb zv hK;refine Jg (JD rfl hb62 rfl) rfl (Jq ?_);exact hK zq zc zq2 zc2 zb zv
     ·
      intro gh gh' h
      rfl
     apply GJ.sn1 11 rfl
     iterate 3 focus (intros;(conv=>lhs;simp only [Jn,Jv,Ed,Jy,JM,eq_self,reduceEqDiff,reduceIte,reduceSub,reduceAdd,JxA,JxB]);all_goals rfl)
     ·
      intro gh X K hK;refine Jr rfl rfl (by first | exact bytesC_one _ | exact intsC_one _ | exact Term.c_one _ | simp [Value.oneCell']) (by simpa [*] using sz33) (by simp [*]) At.z (Jq ?_);exact hK
     ·
      intro gh gh' h
      rfl
     apply Ju 12 rfl
     iterate 3 focus (intros;(conv=>lhs;simp only [Jn,Jv,Ed,Jy,JM,eq_self,reduceEqDiff,reduceIte,reduceSub,reduceAdd,JxA,JxB]);all_goals rfl)
     ·
      intro gh X K zq zc zq2 zc2 zb zv hK;refine Jg (Jd rfl) rfl (Jq ?_);exact hK zq zc zq2 zc2 zb zv
     ·
      intro gh gh' h
      rfl
     apply GJ.close [0,1,2,3,4,5,6,7,8,9,10,11] [0,1,2,3,4,5,6,7,8,9,10,11,12,13,14] foll0 rfl rfl rfl (by rfl)
     iterate 2 focus (intros;(conv=>lhs;simp only [Jn,Jv,Ed,Jy,JM,eq_self,reduceEqDiff,reduceIte,reduceSub,reduceAdd,JxA,JxB]);all_goals rfl)
     intro gh;clear gh;refine Ja (hK23 (Jl (JV rfl (Res.agg rfl At.z (by simpa [*] using ag33)) (Res.tmp rfl) fun w hH=>?_)));replace hH:=hH.sublist (.cons _ (.cons _ (.cons _ (.cons_cons _ (List.Sublist.refl _)))))
     obtain rfl:k=(spl 43 t).length:=by omega
     rw [rdS_3 h14 (by omega) hI];exact ⟨_,_,by unfold chkT;rw [hb62];rfl,hH⟩
theorem fn25:Fn Tryz.prog 25:=⟨_,Tryz.func25,by kernel_rfl,rfl⟩
section
variable {P : Program} {ops : Array Oper} {Q : Exit → Act → World → Prop} {n : Nat} {B : World} {H0 H : HP} {rest : List Oper} {us : List (Nat × Value)} {L L' : List SA} {t xt yt : TypeId} {p : String} {af : Array Edge} {d : Nat} {x y z : Operand}
theorem PR.neqErr {b:Bool} {tt:TypeId} {N:Nat} (hu:P.underlying xt=some (.interface (P.methodsAt xt))) (hx:opv us x=some (erV b tt N)) (hy:opv us (.const .nilIface)=some .nilIface):PR P n B H0 us H L (.binOp .neq xt x (.const .nilIface) yt) t (.bool (!b)):=
 fun _ _ _ _ ac w hF _=>by
  cases b with
  | false=>
   have h1:=run_neq_held_nil (P:=P) w xt tt (.pointer (some ⟨N,0,none⟩)) hu
   have e:erV false tt N = .iface tt (.pointer (some ⟨N,0,none⟩)):=rfl
   rw [e] at hx
   simp only [execOp,hF.ev hx,hF.ev hy,eqGuard_at_iface]
   simp [h1]
  | true=>
   have h1:=run_neq_nil_nil (P:=P) w xt hu
   have e:erV true tt N = .nilIface:=rfl
   rw [e] at hx
   simp only [execOp,hF.ev hx,hF.ev hy,eqGuard_nil_constR]
   simp [h1]
end
theorem uI59:Tryz.prog.underlying 59=some (.interface (Tryz.prog.methodsAt 59)):=by kernel_rfl
theorem cut_len (w:List UInt8) (c:UInt8):(Lib.cut w [c]).1.length≤w.length∧(Lib.cut w [c]).2.1.length≤w.length:=by
 unfold Lib.cut
 split
 ·exact ⟨by simp;omega,by simp⟩
 ·exact ⟨Nat.le_refl _,Nat.zero_le _⟩
theorem wrdI_ok (w:List UInt8):wrdI w=(okP (Lib.cut w [42]).1).map fun n=>⟨monR (Lib.cut w [42]).2.1,n⟩:=by
 unfold wrdI okP
 cases Lib.parseIntB 64 (Lib.cut w [42]).1 <;> rfl
theorem okP_bd {s:List UInt8} {v:Int} (h:okP s=some v) : -9223372036854775808≤v∧v≤9223372036854775807:=by
 unfold okP at h
 split at h
 ·rename_i u hu
  cases h
  rw [Lib.parseIntB_64] at hu;exact Lib.atoiAll_bounds hu
 ·cases h
theorem okP_v {s:List UInt8} {v:Int} (h:(okP s).isSome=true) (hv : ∀u,okP s=some u→v=u):okP s=some v:=by
 cases ho:okP s with
 | none=>rw [ho] at h;cases h
 | some u=>rw [hv u ho]
theorem wrdI_wf {w:List UInt8} {x:Term} (h:wrdI w=some x):x.wf:=by
 rw [wrdI_ok] at h
 cases ho:okP (Lib.cut w [42]).1 with
 | none=>rw [ho] at h;cases h
 | some u=>
  rw [ho] at h;simp only [Option.map_some,Option.some.injEq] at h;rw [← h];exact Term.wf.of (monR_mn _) (okP_bd ho)
theorem wrdS_wf {w:List UInt8} {x:Term} (h:wrdS w=some x):x.wf:=by
 unfold wrdS at h
 split at h
 ·rename_i a b _
  cases hn:namS b with
  | none=>rw [hn] at h;cases h
  | some m=>
   rw [hn] at h;simp only [Option.map_some,Option.some.injEq] at h;have:=numS_bd a;rw [← h];exact Term.wf.of (namS_mn hn) (by omega)
 ·cases h
theorem rdS_wf (ds:List Int) (t:List UInt8):Wfs (rdS ds t).1:=by
 unfold rdS
 split
 ·exact Wfs.nil
 ·split
  ·exact Wfs.nil
  ·cases h:allO wrdS (spl 43 t) with
   | none=>exact Wfs.nil
   | some f=>exact allO_wf (fun _ _=>wrdS_wf) h
theorem rdI_wf (ds:List Int) (t:List UInt8):Wfs (rdI ds t).1:=by
 unfold rdI
 split
 ·exact Wfs.nil
 ·cases h:allO wrdI (spl 43 t) with
  | none=>exact Wfs.nil
  | some f=>exact allO_wf (fun _ _=>wrdI_wf) h
theorem rd_ok {ds:List Int} {t:List UInt8} {f:List Term}:(rdS ds t=(f,true)∨rdI ds t=(f,true))→okR ds t f:=fun h=>by
 have key : ∀{g:List Term},Wfs g→chkT ds t g=true→okR ds t g:=fun hw hc=>⟨(chkT_y hc).1,hw,(chkT_y hc).2⟩
 have k0:t=[48]→okR ds t []:=fun h=>⟨isForm_nil ds,Wfs.nil,by rw [h];rfl⟩
 rcases h with h | h
 ·have hw:=rdS_wf ds t
  rw [h] at hw
  unfold rdS at h
  split at h
  ·rename_i h0
   cases h
   exact k0 h0
  ·split at h
   ·cases h
   ·split at h
    ·cases h
    ·simp only [Prod.mk.injEq] at h
     obtain ⟨rfl,h2⟩:=h
     exact key hw h2
 ·have hw:=rdI_wf ds t
  rw [h] at hw
  unfold rdI at h
  split at h
  ·rename_i h0
   cases h
   exact k0 h0
  ·split at h
   ·cases h
   ·simp only [Prod.mk.injEq] at h
    obtain ⟨rfl,h2⟩:=h
    exact key hw h2
theorem rd_same (ds:List Int) (t:List UInt8):(rdI ds t).2=(rdS ds t).2∧((rdS ds t).2=true→(rdI ds t).1=(rdS ds t).1):=by
 cases h1:(rdS ds t).2 with
 | true=>
  have e:rdS ds t=((rdS ds t).1,true):=by rw [← h1]
  have h2:=(rd_yes (rd_ok (.inl e))).1;exact ⟨by rw [h2],fun _=>by rw [h2]⟩
 | false=>
  refine ⟨?_,fun h=>by cases h⟩
  cases h2:(rdI ds t).2 with
  | false=>rfl
  | true=>
   have e:rdI ds t=((rdI ds t).1,true):=by rw [← h2]
   have h3:=(rd_yes (rd_ok (.inr e))).2;rw [h3] at h1
   cases h1
def prV (ds:List Int) (t:List UInt8):List Term:=if isDeg ds && (rdS ds t).2 then (rdS ds t).1 else []
def prC (ds:List Int) (t:List UInt8):Int:=if isDeg ds then if (rdS ds t).2 then 0 else 6 else 1
section
variable {ds : List Int} {t : List UInt8}
theorem pr_1 (h:isDeg ds=false):prV ds t=[]∧prC ds t=1:=by unfold prV prC;rw [h];exact ⟨rfl,rfl⟩
theorem pr_6 (h:isDeg ds=true) (h2:(rdS ds t).2=false):prV ds t=[]∧prC ds t=6:=by unfold prV prC;rw [h,h2];exact ⟨rfl,rfl⟩
theorem pr_0 (h:isDeg ds=true) (h2:(rdS ds t).2=true):prV ds t=(rdS ds t).1∧prC ds t=0:=by unfold prV prC;rw [h,h2];exact ⟨rfl,rfl⟩
end
theorem sParseForm_c {B:World} {H0 H:HP} {L:List SA} {w:World} {qds:Option Addr} {cds:Nat} {ds:List Int} {t:List UInt8} (hds:Ints H qds ds) (hn:ds.length≤1048576) (hl:t.length≤1048576) (hH:Hp B H0 H L w):Calls Tryz.prog 10 [.slice qds ds.length cds,sV t].toArray w fun e w'=>∃q k,e = .returned (.tuple #[.agg [.slice q (prV ds t).length k].toArray,.int .i64 (prC ds t)])∧Hp B H0 H (own 69 9 q (prV ds t).length k (tsC (prV ds t))::L) w':=by
 refine Jt Tryz.func10 rfl 22 rfl rfl [(0,.slice qds ds.length cds),(1,sV t)] rfl hH ?_;clear hH;refine Je fun _ hK1 _=>(Jb (JU ze33 rfl fun g4=>(Jg (Jd rfl) rfl (Jf (Ja (hK1 (Je fun _ hK2 _=>(Je fun _ hK3 _=>(Jb (Jg (Jc rfl) rfl (JA fn24 rfl rfl fun w hH=>(l01Degrees_c hds hn hH).mono ?_)))))))))));rintro _ w ⟨rfl,hH⟩;refine ⟨_,rfl,fun a hF=>JR hF hH ?_⟩;refine Jg (Ec rfl) rfl (Jf (Ja (hK3 (JW rfl (fun h10=>?_) (fun h10=>?_)))))
 ·
  refine Je fun _ hK4 _=>(Jb (Jg (JX bz33) rfl (Jr rfl rfl (by first | exact bytesC_one _ | exact intsC_one _ | exact Term.c_one _ | simp [Value.oneCell']) (by simpa [*] using sz33) (by simp [*]) At.z (Jg (Jd rfl) rfl (Jf (Ja (hK4 (Jl (Jh (JV rfl (Res.agg rfl At.z (by simpa [*] using ag33)) (Res.tmp rfl) fun w hH=>?_))))))))));replace hH:=hH.sublist (.cons _ (List.Sublist.refl _));obtain ⟨e1,e2⟩:=pr_1 (ds:=ds) (t:=t) (not_f h10);rw [e1,e2];exact ⟨none,0,rfl,hH.own0 69 9⟩
 ·
  have hD:isDeg ds=true:=not_t h10;refine Ji (Ja (hK2 (Je fun _ hK5 _=>(Jb (Jg (Jc rfl) rfl (Jg (Jc rfl) rfl (JA fn25 rfl rfl fun w hH=>(l01Read_c hds hn (fun j _=>(isDeg_bd hD j).1) hl hH).mono ?_)))))));rintro _ w ⟨qo15,co15,rfl,hH⟩;refine ⟨_,rfl,fun a hF=>JR hF hH ?_⟩;refine Jg (Jc rfl) rfl (Jg (JN rfl rfl) rfl (Jg (JN rfl rfl) rfl (JU ze33 rfl fun g6=>(Jr rfl rfl (by first | exact bytesC_one _ | exact intsC_one _ | exact Term.c_one _ | simp [Value.oneCell']) (by simpa [*] using sz33) (by simp [*]) At.z (Jg (Jd rfl) rfl (Jf (Ja (hK5 (Je fun _ hK6 _=>(Je fun _ hK7 _=>(Jb (Jg (Jc rfl) rfl (Jg (Ec rfl) rfl (Jf (Ja (hK7 ?_))))))))))))))));refine JW rfl (fun h19=>?_) (fun h19=>?_)
  ·
   refine Je fun _ hK8 _=>(Jb (Jg (JX bz33) rfl (Jr rfl rfl (by first | exact bytesC_one _ | exact intsC_one _ | exact Term.c_one _ | simp [Value.oneCell']) (by simpa [*] using sz33) (by simp [*]) (.s (.s .z)) (Jg (Jd rfl) rfl (Jf (Ja (hK8 (Jl (Jh (JV rfl (Res.agg rfl (.s (.s .z)) (by simpa [*] using ag33)) (Res.tmp rfl) fun w hH=>?_))))))))));replace hH:=hH.sublist (.cons _ (.cons _ (.cons _ (List.Sublist.refl _))));obtain ⟨e1,e2⟩:=pr_6 (t:=t) hD (not_f h19);rw [e1,e2];exact ⟨none,0,rfl,hH.own0 69 9⟩
  ·
   refine Ji (Ja (hK6 (Je fun _ hK9 _=>(Jb (Jg (Js rfl At.z (by simpa [*] using ag33)) rfl (Jr rfl rfl (by first | exact bytesC_one _ | exact intsC_one _ | exact Term.c_one _ | simp [Value.oneCell']) (by simpa [*] using sz33) (by simp [*]) (.s (.s .z)) (Jg (Jd rfl) rfl (Jf (Ja (hK9 (Jl (JV rfl (Res.agg rfl (.s (.s .z)) (by simpa [*] using ag33)) (Res.tmp rfl) fun w hH=>?_))))))))))));replace hH:=hH.sublist (.cons _ (.cons_cons _ (.cons _ (List.Sublist.refl _))));obtain ⟨e1,e2⟩:=pr_0 (t:=t) hD (not_t h19);rw [e1,e2];exact ⟨_,_,rfl,hH⟩
theorem u21:Tryz.prog.underlying 21=some (TypeDesc.int .i32):=by kernel_rfl
theorem fn61:Fn Tryz.prog 61:=⟨_,Tryz.func61,by kernel_rfl,rfl⟩
theorem fn95:Fn Tryz.prog 95:=⟨_,Tryz.func95,by kernel_rfl,rfl⟩
def nmT:String:="internal/strconv.uint64pow10"
theorem si32_id {x:Int} (h:0≤x∧x≤1000000):IntKind.i32.wrap x=x:=by simp [IntKind.wrap,IntKind.signed,IntKind.bits];omega
theorem joinS_c {B:World} {H0 H:HP} {L:List SA} {w:World} {e:TypeId} {q:Option Addr} {c:Nat} {m:Nat} {xs:List (List UInt8)} {sep:List UInt8} (hxm:xs.length=m) (hm:own e 1 q m c (xs.map sV)∈L) (h0:0<m) (hN:m≤1048576) (hlen:(Lib.join xs sep).length≤140737488355328) (hH:Hp B H0 H L w):Calls Tryz.prog 62 [.slice q m c,sV sep].toArray w fun e w'=>e = .returned (sV (Lib.join xs sep))∧Hp B H0 H L w':=by
 subst hxm;obtain ⟨hA,hfp⟩:=hH.objs _ hm;obtain ⟨h1,h2⟩:=hA;have hc:=own_reads (hH.objs _ hm).1
 rcases h2 with ⟨_,h2,_⟩ | ⟨g,cur,rfl,hg,h3,h4,h5,h6⟩
 ·omega
 have hml:((xs.map fun l=>(⟨l.toArray⟩:ByteArray)).map fun b=>b.data.toList)=xs:=by
  rw [List.map_map];exact (List.map_congr_left (g:=id) fun l _=>rfl).trans (List.map_id xs)
 have hb:=(hfp g ⟨⟨g,0,none⟩,rfl,rfl⟩).2.1
 have key:=Tryz.strings_Join g 0 c (xs.map fun l=>(⟨l.toArray⟩:ByteArray)) ⟨sep.toArray⟩ w (fun j x hj=>by
  rw [List.getElem?_map] at hj
  cases hx:xs[j]? with
  | none=>rw [hx] at hj;simp at hj
  | some l=>
   rw [hx] at hj;simp only [Option.map_some,Option.some.injEq] at hj;subst hj;have h9:=hc j (sV l) (by rw [List.getElem?_map,hx];rfl);have h10:w.cell? ((⟨g,0,none⟩:Addr).add j)=some (sV l):=h9;rw [add_at] at h10
   simpa using h10) hb (by simp only [List.length_map];omega) (by simpa using h3) (by rw [hml];exact hlen)
 rw [List.length_map,hml] at key;exact key.mono fun e w' ⟨h7,h8⟩=>⟨h7,hH.belowOf h8⟩
theorem decimal_c {B:World} {H0 H:HP} {L:List SA} {w:World} {x:Int} (hx:0≤x∧x≤9223372036854775807) (hT:TabOk Tryz.prog nmT H) (hH:Hp B H0 H L w):Calls Tryz.prog 61 [.int .i64 x].toArray w fun e w'=>e = .returned (sV (decL x))∧Hp B H0 H L w':=by
 refine Jt Tryz.func61 rfl 5 rfl rfl [(0,.int .i64 x)] rfl hH ?_;clear hH;refine Je fun _ hK1 _=>(Jb (Jg (Jd rfl) rfl (Jf (Ja (hK1 (Je fun _ hK2 _=>(Jb (Jg (Jc rfl) rfl (JA fn95 rfl rfl fun w1 hH=>(Tryz.strconv_FormatInt_10 x (by omega) (by omega) w1 (hT w1 hH.agree)).mono ?_)))))))));rintro _ w ⟨rfl,k,os,hw⟩;replace hH:=hH.belowOf (w':=w) (by rw [hw];exact Lib.below_grow _ _ (Nat.le_refl _) _ _);rw [decL_itoa hx.1];refine ⟨_,rfl,fun a hF=>JR hF hH ?_⟩;refine Jg (Jd rfl) rfl (Jf (Ja (hK2 (Jl (Jk rfl (Res.tmp rfl) fun w hH=>?_)))));exact ⟨rfl,hH⟩
theorem monomialText_c {B:World} {H0 H:HP} {L:List SA} {w:World} {m:List Int} (hm:Mono m) (hT:TabOk Tryz.prog nmT H) (hH:Hp B H0 H L w):Calls Tryz.prog 73 [.agg (bytesC m).toArray].toArray w fun e w'=>e = .returned (sV (nameT m))∧Hp B H0 H L w':=by
 refine Jt Tryz.func73 rfl 30 rfl rfl [(0,.agg (bytesC m).toArray)] rfl hH ?_;have hml:=hm.len;clear hH;have hmb:=hm.bd;have hml9:=fun k=>monT_len hmb k;refine Je fun _ hK1 _=>(Jb (Eo rfl rfl rfl fun g1=>(Jg (Jd rfl) rfl (Jf (Ja (hK1 (Je fun _ hK2 _=>(Jb (Jg (Jd rfl) rfl (Jf (Ja (hK2 (Je fun _ hK3 _=>(Je fun _ hK4 _=>(Jb (Jg (Js rfl At.z (by simpa [*] using ag65)) rfl ?_))))))))))))))));refine Jg (Jc rfl) rfl (Jf (Ja (hK4 (Jo (JC (σ:=Nat) (fun (i:Nat)=>[(7,.int .i64 (i:Int)),(3,sV (monT m i))]) (fun (i:Nat)=>H) (fun (i:Nat)=>obj g1 (.cells (bytesC m).toArray 65 (0,0))::L) (fun (i:Nat)=>i≤8) (fun (i:Nat)=>8 - i) 0 (by omega) ⟨rfl,⟨rfl,trivial⟩⟩ rfl rfl ?_)))));rintro i hi _ hAg0;have hli:=hml9 i;have hmi:=hmb i;have hdl:=decL_len (n:=m.getD i 0) hmi.1 (by omega);refine Je fun _ hK5 _=>(Jb (Jg (JJ rfl rfl) rfl (Jf (Ja (hK5 (Je fun _ hK6 _=>(Jj rfl (fun hc8=>?_) (fun hc8=>?_))))))))
 ·
  refine Ji (Ja (hK6 (Je fun _ hK7 _=>(Jo (Je fun _ hK8 _=>(Jb (Jg (Jc rfl) rfl (Jg (PR.index u65 sz5 pl5 rfl rfl rfl (by omega) (by first | exact bytesC_get (by simp [*];omega) | exact intsC_get (by simp [*];omega))) rfl (Jg (Jd rfl) rfl (Jg (Jd rfl) rfl (Jf (Ja (hK8 (Je fun _ hK9 _=>(Je fun _ hK10 _=>(Jb ?_))))))))))))))));refine Jg (Jc rfl) rfl (Jg (JZ rfl rfl) rfl (Jf (Ja (hK10 (Jj rfl (fun h12=>?_) (fun h12=>?_))))))
  ·
   refine Jb (Jg (Jc rfl) rfl (Jg (Jc rfl) rfl (Jg (Jx rfl rfl (by first | exact nw _ (by omega) | rfl)) rfl (Jg (Ee u3 u21 rfl (si32_id (by omega))) rfl (Jg (PR.strRune u21 u9 rfl (by omega)) rfl (Jg (JT rfl rfl (by first | omega | (simp only [List.length_append,List.length_singleton];omega))) rfl (Jg (Jd rfl) rfl (Jf (Ja (hK9 (Je fun _ hK11 _=>(Jb (Jg (Jc rfl) rfl (Jg (JZ rfl rfl) rfl (Jf ?_)))))))))))))));refine Ja (hK11 (Jj rfl (fun h20=>?_) (fun h20=>?_)))
   ·
    refine Jb (Jg (Jc rfl) rfl (Jg (Jc rfl) rfl (Jg (Ee u5 u2 rfl (by first | exact nw _ (by omega) | rfl)) rfl (JA fn61 rfl rfl fun w hH=>(decimal_c (by omega) hT hH).mono ?_))));rintro _ w ⟨rfl,hH⟩;refine ⟨_,rfl,fun a hF=>JR hF hH ?_⟩;refine Jg (JT rfl rfl (by first | omega | (simp only [List.length_append,List.length_singleton];omega))) rfl (Jg (Jd rfl) rfl (Jf (JE (Ja (hK7 (Jb (Jg (Jx rfl rfl (by first | exact nw _ (by omega) | rfl)) rfl (Jg (Jc rfl) rfl (Jf (Ja ?_))))))))));exact hAg0 (i+1) (by omega) (by omega) 26 rfl rfl ⟨rfl,⟨(vS (monT_yy h12 h20)),trivial⟩⟩ rfl rfl
   ·
    refine Ji (JE (Ja (hK7 (Jb (Jg (Jx rfl rfl (by first | exact nw _ (by omega) | rfl)) rfl (Jg (Jc rfl) rfl (Jf (Ja ?_))))))));exact hAg0 (i+1) (by omega) (by omega) 20 rfl rfl ⟨rfl,⟨(vS (monT_yn h12 h20)),trivial⟩⟩ rfl rfl
  ·
   refine Ji (Ja (hK9 (Je fun _ hK12 _=>(Jb (Jg (Jc rfl) rfl (Jg (JZ rfl rfl) rfl (Jf (Ja (hK12 (Jj rfl (fun h20=>?_) (fun h20=>?_)))))))))))
   ·
    refine Jb (Jg (Jc rfl) rfl (Jg (Jc rfl) rfl (Jg (Ee u5 u2 rfl (by first | exact nw _ (by omega) | rfl)) rfl (JA fn61 rfl rfl fun w hH=>(decimal_c (by omega) hT hH).mono ?_))));rintro _ w ⟨rfl,hH⟩;refine ⟨_,rfl,fun a hF=>JR hF hH ?_⟩;refine Jg (JT rfl rfl (by first | omega | (simp only [List.length_append,List.length_singleton];omega))) rfl (Jg (Jd rfl) rfl (Jf (JE (Ja (hK7 (Jb (Jg (Jx rfl rfl (by first | exact nw _ (by omega) | rfl)) rfl (Jg (Jc rfl) rfl (Jf (Ja ?_))))))))));exact hAg0 (i+1) (by omega) (by omega) 19 rfl rfl ⟨rfl,⟨(by exfalso;omega),trivial⟩⟩ rfl rfl
   ·
    refine Ji (JE (Ja (hK7 (Jb (Jg (Jx rfl rfl (by first | exact nw _ (by omega) | rfl)) rfl (Jg (Jc rfl) rfl (Jf (Ja ?_))))))));exact hAg0 (i+1) (by omega) (by omega) 13 rfl rfl ⟨rfl,⟨(vS (monT_nn h12)),trivial⟩⟩ rfl rfl
 ·
  refine JK (Jm (Jm (JO (Ja (hK3 (Je fun _ hK13 _=>(Je fun _ hK14 _=>(Jb (Jg (Jc rfl) rfl (Jg (PR.strEql rfl rfl) rfl (Jf (Ja (hK14 (Jj rfl (fun h28=>?_) (fun h28=>?_)))))))))))))))
  ·
   refine Je fun _ hK15 _=>(Jb (Jg (Jd rfl) rfl (Jf (Ja (hK15 (Jl (Jh (Jk rfl (Res.tmp rfl) fun w hH=>?_))))))));replace hH:=hH.tail
   obtain rfl:i=8:=by omega
   exact ⟨by unfold nameT;rw [if_pos h28],hH⟩
  ·
   refine Ji (Ja (hK13 (Je fun _ hK16 _=>(Jb (Jg (Jc rfl) rfl (Jg (Jd rfl) rfl (Jf (Ja (hK16 (Jl (Jk rfl (Res.tmp rfl) fun w hH=>?_)))))))))));replace hH:=hH.tail
   obtain rfl:i=8:=by omega
   exact ⟨by unfold nameT;rw [if_neg h28],hH⟩
theorem fn62:Fn Tryz.prog 62:=⟨_,Tryz.func62,by kernel_rfl,rfl⟩
theorem fn73:Fn Tryz.prog 73:=⟨_,Tryz.func73,by kernel_rfl,rfl⟩
theorem formText_c {B:World} {H0 H:HP} {L:List SA} {w:World} {qts:Option Addr} {cts:Nat} {ts:List Term} (hts:Terms H qts ts) (hl:ts.length≤400) (hf : ∀i,i<ts.length→0≤(tm ts i).fac) (hT:TabOk Tryz.prog nmT H) (hH:Hp B H0 H L w):Calls Tryz.prog 48 [.agg [.slice qts ts.length cts].toArray].toArray w fun e w'=>e = .returned (sV (textT ts))∧Hp B H0 H L w':=by
 refine Jt Tryz.func48 rfl 31 rfl rfl [(0,.agg [.slice qts ts.length cts].toArray)] rfl hH ?_;clear hH;have hp9:=fun k (h:k≤ts.length)=>preT_len hts.wfs hf h;refine Je fun _ hK1 _=>(Jb (Eo rfl rfl rfl fun g1=>(Jg (Jd rfl) rfl (Jf (Ja (hK1 (Je fun _ hK2 _=>(Jb (J.mk (MK.lit0 u51 sz9) rfl fun qo6 co6=>(Jg (Jd rfl) rfl (Jf (Ja (hK2 (Je fun _ hK3 _=>(Je fun _ hK4 _=>(Jb ?_))))))))))))))));refine Jg (JG u33 rfl sz31 rfl) rfl (Jg (JB rfl (.s .z) rfl pl31) rfl (Jg (Jp u31 rfl rfl) rfl (Jg (Jc rfl) rfl (Jf (Ja (hK4 (Jo (JC (σ:=Option Addr × Nat × Nat) (fun ⟨q,c,k⟩=>[(10,.int .i64 (k:Int)),(3,.slice q k c)]) (fun ⟨q,c,k⟩=>H) (fun ⟨q,c,k⟩=>own 9 1 q k c (((ts.take k).map termT).map sV)::obj g1 (.cells [.slice qts ts.length cts].toArray 33 (0,0))::L) (fun ⟨q,c,k⟩=>k≤ts.length) (fun ⟨q,c,k⟩=>ts.length - k) (qo6,co6,0) (by show 0≤ts.length;omega) ⟨rfl,⟨rfl,trivial⟩⟩ rfl rfl ?_))))))));rintro ⟨q,c,k⟩ hk _ hAg0;refine Je fun _ hK5 _=>(Jb (Jg (JJ rfl rfl) rfl (Jf (Ja (hK5 (Je fun _ hK6 _=>(Jj rfl (fun h11=>?_) (fun h11=>?_))))))))
 ·
  have hil:k<ts.length:=by omega
  have hfi:=hf k hil;have hmw:=(hts.wf k hil);have hfu:=hmw.fac.2;have hdl:=decL_len hfi hmw.fac.2;have hnl:=nameT_len hmw.mono.bd;refine Ji (Ja (hK6 (Je fun _ hK7 _=>(Jo (Je fun _ hK8 _=>(Jb (Jg (Ep u31 sz69 rfl rfl rfl (by omega) hts.sm) rfl (Jg (Ea rfl (hts.cell _ (by omega)) (hts.sm (i:=k) (by omega)) (by rw [Term.c_length (hts.wf _ (by omega))];exact ag69)) rfl (JU (cs:=(default:Term).c) ze69 rfl fun g5=>(J.stTerm rfl rfl sz69 zero_wf (hts.wf k (by omega)) At.z (Jf (Ja (hK8 (CJ.openR (Rs:=[_,_,_]) 12 [[], [], [1], [1,2], [1,2,3], [], [5], [1,2,3,5,6], [1,2,3,4,5,6,7], [1,2,3,4,5,6,7,8], [0,1,2,3,4,5,6,7,8,9], [0,1,2,3,4,5,6,7,8,9,10]] [[], [], [12], [], [], [], [12], [], [], [], [9], []] [[], [], [], [], [], [], [], [], [], [], [13], []] rfl rfl (by kernel_rfl) ?_))))))))))))));apply Ju 1 rfl
  iterate 3 focus (intros;(conv=>lhs;simp only [Jn,Jv,Ed,Jy,JM,eq_self,reduceEqDiff,reduceIte,reduceSub,reduceAdd,JxA,JxB]);all_goals rfl)
  ·
   intro gh X K zq zc zq2 zc2 zb zv hK;refine Jg (Jc rfl) rfl (Jq ?_);exact hK zq zc zq2 zc2 zb zv
  ·
   intro gh gh' h
   rfl
  apply Ju 2 rfl
  iterate 3 focus (intros;(conv=>lhs;simp only [Jn,Jv,Ed,Jy,JM,eq_self,reduceEqDiff,reduceIte,reduceSub,reduceAdd,JxA,JxB]);all_goals rfl)
  ·
   intro gh X K zq zc zq2 zc2 zb zv hK;refine Jg (JG u69 rfl sz2 rfl) rfl (Jq ?_);exact hK zq zc zq2 zc2 zb zv
  ·
   intro gh gh' h
   rfl
  apply Ju 3 rfl
  iterate 3 focus (intros;(conv=>lhs;simp only [Jn,Jv,Ed,Jy,JM,eq_self,reduceEqDiff,reduceIte,reduceSub,reduceAdd,JxA,JxB]);all_goals rfl)
  ·
   intro gh X K zq zc zq2 zc2 zb zv hK;refine Jg (PR.ldFac rfl At.z (hts.wf k (by omega)) pl2) rfl (Jq ?_);exact hK zq zc zq2 zc2 zb zv
  ·
   intro gh gh' h
   rfl
  apply Ju 4 rfl
  iterate 3 focus (intros;(conv=>lhs;simp only [Jn,Jv,Ed,Jy,JM,eq_self,reduceEqDiff,reduceIte,reduceSub,reduceAdd,JxA,JxB]);all_goals rfl)
  ·
   intro gh X K zq zc zq2 zc2 zb zv hK;refine JA fn61 rfl rfl fun w hH=>(decimal_c (by omega) hT hH).mono ?_;rintro _ w ⟨rfl,hH⟩;refine ⟨_,rfl,fun a hF=>JR hF hH ?_⟩;refine Jq ?_;exact hK zq zc zq2 zc2 zb zv
  ·
   intro gh gh' h
   rfl
  apply Ju 5 rfl
  iterate 3 focus (intros;(conv=>lhs;simp only [Jn,Jv,Ed,Jy,JM,eq_self,reduceEqDiff,reduceIte,reduceSub,reduceAdd,JxA,JxB]);all_goals rfl)
  ·
   intro gh X K zq zc zq2 zc2 zb zv hK;refine Jg (JT rfl rfl (by first | omega | (simp only [List.length_append,List.length_singleton];omega))) rfl (Jq ?_);exact hK zq zc zq2 zc2 zb zv
  ·
   intro gh gh' h
   rfl
  apply Ju 6 rfl
  iterate 3 focus (intros;(conv=>lhs;simp only [Jn,Jv,Ed,Jy,JM,eq_self,reduceEqDiff,reduceIte,reduceSub,reduceAdd,JxA,JxB]);all_goals rfl)
  ·
   intro gh X K zq zc zq2 zc2 zb zv hK;refine Jg (JG u69 rfl sz65 rfl) rfl (Jq ?_);exact hK zq zc zq2 zc2 zb zv
  ·
   intro gh gh' h
   rfl
  apply Ju 7 rfl
  iterate 3 focus (intros;(conv=>lhs;simp only [Jn,Jv,Ed,Jy,JM,eq_self,reduceEqDiff,reduceIte,reduceSub,reduceAdd,JxA,JxB]);all_goals rfl)
  ·
   intro gh X K zq zc zq2 zc2 zb zv hK;refine Jg (PR.ldMono rfl At.z (hts.wf k (by omega)) ag65) rfl (Jq ?_);exact hK zq zc zq2 zc2 zb zv
  ·
   intro gh gh' h
   rfl
  apply Ju 8 rfl
  iterate 3 focus (intros;(conv=>lhs;simp only [Jn,Jv,Ed,Jy,JM,eq_self,reduceEqDiff,reduceIte,reduceSub,reduceAdd,JxA,JxB]);all_goals rfl)
  ·
   intro gh X K zq zc zq2 zc2 zb zv hK;refine JA fn73 rfl rfl fun w hH=>(monomialText_c (hts.wf k (by omega)).mono hT hH).mono ?_;rintro _ w ⟨rfl,hH⟩;refine ⟨_,rfl,fun a hF=>JR hF hH ?_⟩;refine Jq ?_;exact hK zq zc zq2 zc2 zb zv
  ·
   intro gh gh' h
   rfl
  apply Ju 9 rfl
  iterate 3 focus (intros;(conv=>lhs;simp only [Jn,Jv,Ed,Jy,JM,eq_self,reduceEqDiff,reduceIte,reduceSub,reduceAdd,JxA,JxB]);all_goals rfl)
  ·
   intro gh X K zq zc zq2 zc2 zb zv hK;refine Jg (JT rfl rfl (by first | omega | (simp only [List.length_append,List.length_singleton];omega))) rfl (Jq ?_);exact hK zq zc zq2 zc2 zb zv
  ·
   intro gh gh' h
   rfl
  apply GJ.st1 10 rfl
  iterate 3 focus (intros;(conv=>lhs;simp only [Jn,Jv,Ed,Jy,JM,eq_self,reduceEqDiff,reduceIte,reduceSub,reduceAdd,JxA,JxB]);all_goals rfl)
  ·
   intro gh X K zq zc zq2 zc2 zb zv hK;refine J.mk (MK.lit1S u51 ze9 sz9 rfl rfl) rfl fun qo23 co23=>(Jq ?_);exact hK qo23 co23 zq2 zc2 zb zv
  ·
   intro gh gh' h;refine ⟨?_,?_⟩ <;> rfl
  apply GJ.st1 11 rfl
  iterate 3 focus (intros;(conv=>lhs;simp only [Jn,Jv,Ed,Jy,JM,eq_self,reduceEqDiff,reduceIte,reduceSub,reduceAdd,JxA,JxB]);all_goals rfl)
  ·
   intro gh X K zq zc zq2 zc2 zb zv hK;refine J.append1 u51 ze9 sz9 by9 rfl rfl rfl rfl (by omega) (.s .z) At.z (fun _ _=>At.z) rfl fun qo24 co24=>(EJ.front .z (EJ.front (.s .z) (Jq ?_)));exact hK qo24 co24 zq2 zc2 zb zv
  ·
   intro gh gh' h;refine ⟨?_,?_⟩ <;> (first | simp only [h 9 rfl] | rfl)
  apply Ju 12 rfl
  iterate 3 focus (intros;(conv=>lhs;simp only [Jn,Jv,Ed,Jy,JM,eq_self,reduceEqDiff,reduceIte,reduceSub,reduceAdd,JxA,JxB]);all_goals rfl)
  ·
   intro gh X K zq zc zq2 zc2 zb zv hK;refine Jg (Jd rfl) rfl (Jq ?_);exact hK zq zc zq2 zc2 zb zv
  ·
   intro gh gh' h
   first | simp only [h 9 rfl,h 10 rfl] | rfl
  apply GJ.close [0,1,2,3,4,5,6,7,8,9,10,11] [0,1,2,3,4,5,6,7,8,9,10,11,12,14] foll0 rfl rfl rfl (by rfl)
  iterate 2 focus (intros;(conv=>lhs;simp only [Jn,Jv,Ed,Jy,JM,eq_self,reduceEqDiff,reduceIte,reduceSub,reduceAdd,JxA,JxB]);all_goals rfl)
  intro gh;generalize (gh 9).c=co23;generalize (gh 9).q=qo23;generalize (gh 10).c=co24;generalize (gh 10).q=qo24;clear gh;refine JE (Ja (hK7 (Jb (Jg (Jx rfl rfl (by first | exact nw _ (by omega) | rfl)) rfl (Jg (Jc rfl) rfl (Jf (Ja (Em .z (Em (.s .z) ?_)))))))));exact hAg0 (qo24,co24,k+1) (by show k+1≤ts.length;omega) (by show ts.length - (k+1)<ts.length - k;omega) 20 rfl rfl ⟨rfl,⟨rfl,trivial⟩⟩ rfl (by dsimp only;rw [stm_take (by omega),List.map_append,List.map_append];rfl)
 ·
  refine JK (Jm (Jm (JO (Ja (hK3 (Je fun _ hK9 _=>(Je fun _ hK10 _=>(Jb (Jg (Jc rfl) rfl (Jg (Jp u51 rfl rfl) rfl (Jg (PR.eql rfl rfl) rfl (Jf (Ja (hK10 (Jj rfl (fun h28=>?_) (fun h28=>?_))))))))))))))))
  ·
   refine Je fun _ hK11 _=>(Jb (Jg (Jd rfl) rfl (Jf (Ja (hK11 (Jl (Jh (Jk rfl (Res.tmp rfl) fun w hH=>?_))))))));replace hH:=hH.tail;replace hH:=hH.tail;exact ⟨by unfold textT;rw [if_pos (by omega)],hH⟩
  ·
   refine Ji (Ja (hK9 (Je fun _ hK12 _=>(Jb (Jg (Jc rfl) rfl ?_)))));have hp0:=hp9 k (by omega)
   have hjl:(Lib.join ((ts.take k).map termT) [43]).length≤140737488355328:=by rw [← preT_join (by omega)];omega
   refine JA fn62 rfl rfl fun w hH=>(joinS_c (xs:=(ts.take k).map termT) (sep:=[43]) (by rw [List.length_map,List.length_take_of_le (by omega)]) List.mem_cons_self (by omega) (by omega) hjl hH).mono ?_;rintro _ w ⟨rfl,hH⟩;refine ⟨_,rfl,fun a hF=>JR hF hH ?_⟩;refine Jg (Jd rfl) rfl (Jf (Ja (hK12 (Jl (Jk rfl (Res.tmp rfl) fun w hH=>?_)))));replace hH:=hH.tail;replace hH:=hH.tail
   obtain rfl:k=ts.length:=by omega
   exact ⟨by rw [← preT_end ts (by omega),preT_join (Nat.le_refl _)],hH⟩
theorem fn27:Fn Tryz.prog 27:=⟨_,Tryz.func27,by kernel_rfl,rfl⟩
theorem fn34:Fn Tryz.prog 34:=⟨_,Tryz.func34,by kernel_rfl,rfl⟩
theorem fn35:Fn Tryz.prog 35:=⟨_,Tryz.func35,by kernel_rfl,rfl⟩
theorem fn36:Fn Tryz.prog 36:=⟨_,Tryz.func36,by kernel_rfl,rfl⟩
theorem fn46:Fn Tryz.prog 46:=⟨_,Tryz.func46,by kernel_rfl,rfl⟩
theorem fn48:Fn Tryz.prog 48:=⟨_,Tryz.func48,by kernel_rfl,rfl⟩
theorem prV_wf (ds:List Int) (t:List UInt8):Wfs (prV ds t):=by
 unfold prV
 split
 ·exact rdS_wf ds t
 ·exact Wfs.nil
theorem readForm_c {B:World} {H0 H:HP} {L:List SA} {w:World} {qds:Option Addr} {cds:Nat} {ds:List Int} {t:List UInt8} (hds:Ints H qds ds) (hn:ds.length≤1048576) (hl:t.length≤1048576) (hB:LbOk H) (hT:TabOk Tryz.prog nmT H) (hH:Hp B H0 H L w):Calls Tryz.prog 27 [.slice qds ds.length cds,sV t].toArray w fun e w'=>∃q k,e = .returned (.tuple #[.agg [.slice q (rdI ds t).1.length k].toArray,.bool (rdI ds t).2])∧Hp B H0 H (own 69 9 q (rdI ds t).1.length k (tsC (rdI ds t).1)::L) w':=by
 refine Jt Tryz.func27 rfl 59 rfl rfl [(0,.slice qds ds.length cds),(1,sV t)] rfl hH ?_;clear hH;have hPl:=spl_len 43 t;have hPm:=fun x (hx:x∈(spl 43 t))=>spl_mem 43 t x hx;refine Je fun _ hK1 _=>(Jb (JU ze33 rfl fun g4=>(Jg (Jd rfl) rfl (Jf (Ja (hK1 (Je fun _ hK2 _=>(Jb (J.own0 69 9 (Jg (JX bz33) rfl (JU ze33 rfl fun g6=>(Jr rfl rfl (by first | exact bytesC_one _ | exact intsC_one _ | exact Term.c_one _ | simp [Value.oneCell']) (by simpa [*] using sz33) (by simp [*]) At.z (Jf (Ja (hK2 (Je fun _ hK3 _=>?_))))))))))))))));refine Je fun _ hK4 _=>(Jb (Jg (Jc rfl) rfl (Jg (PR.strEql rfl rfl) rfl (Jf (Ja (hK4 (Jj rfl (fun h14=>?_) (fun h14=>?_))))))))
 ·
  refine Je fun _ hK5 _=>(Jb (Jg (Js rfl At.z (by simpa [*] using ag33)) rfl (Jr rfl rfl (by first | exact bytesC_one _ | exact intsC_one _ | exact Term.c_one _ | simp [Value.oneCell']) (by simpa [*] using sz33) (by simp [*]) (.s (.s .z)) (Jg (Jd rfl) rfl (Jf (Ja (hK5 (Jl (Jh (JV rfl (Res.agg rfl (.s (.s .z)) (by simpa [*] using ag33)) (Res.tmp rfl) fun w hH=>?_))))))))));replace hH:=hH.sublist (.cons _ (.cons _ (.cons _ (List.Sublist.refl _))));rw [rdI_0 h14];exact ⟨none,0,rfl,hH.own0 69 9⟩
 ·
  refine Ji (Ja (hK3 (Je fun _ hK6 _=>(Je fun _ hK7 _=>(Jb (Jg (Jc rfl) rfl (JA fn34 rfl rfl fun w hH=>(split_c (s:=t) (c:=43) (by omega) hB hH).mono ?_)))))));rintro _ w ⟨qo19,co19,rfl,hH⟩;refine ⟨_,rfl,fun a hF=>JR hF hH ?_⟩;refine Jg (Jp u51 rfl rfl) rfl (Jg (Jc rfl) rfl (Jf (Ja (hK7 (Jo (JC (σ:=Option Addr × Nat × List Term × Nat) (fun ⟨q,c,F,k⟩=>[(21,.int .i64 (k:Int))]) (fun ⟨q,c,F,k⟩=>H) (fun ⟨q,c,F,k⟩=>own 9 1 qo19 (spl 43 t).length co19 ((spl 43 t).map sV)::obj g6 (.cells [.slice q F.length c].toArray 33 (0,0))::own 69 9 q F.length c (tsC F)::obj g4 (.cells [.slice none 0 0].toArray 33 (0,0))::L) (fun ⟨q,c,F,k⟩=>k≤(spl 43 t).length∧Wfs F∧allO wrdI ((spl 43 t).take k)=some F) (fun ⟨q,c,F,k⟩=>(spl 43 t).length - k) (none,0, [],0) ⟨by omega,Wfs.nil,rfl⟩ ⟨rfl,trivial⟩ rfl rfl ?_))))));rintro ⟨q,c,F,k⟩ ⟨hk,wfO,hI⟩ _ hAg0;refine Je fun _ hK8 _=>(Jb (Jg (JJ rfl rfl) rfl (Jf (Ja (hK8 (Je fun _ hK9 _=>(Jj rfl (fun h22=>?_) (fun h22=>?_))))))))
  ·
   have hk1:k<(spl 43 t).length:=by omega
   have hwl:=hPm _ (pg_mem hk1);have hcl:=cut_len ((spl 43 t).getD k []) 42;have hFl:=allO_len hI;rw [List.length_take,Nat.min_eq_left (by omega)] at hFl;refine Ji (Ja (hK9 (Je fun _ hK10 _=>(Jo (Je fun _ hK11 _=>(Jb (Jg (PR.idxW u51 sz9 rfl rfl rfl (by omega) At.z) rfl (Jg (PR.loadO rfl At.z (strsC_get (by omega)) pl9) rfl (Jg (Jd rfl) rfl (Jf (Ja (hK11 (Je fun _ hK12 _=>(Jb (Jg (Jc rfl) rfl (JA fn35 rfl rfl fun w hH=>(cut_c (s:=((spl 43 t).getD k [])) (c:=42) (by omega) hB hH).mono ?_))))))))))))))));rintro _ w ⟨rfl,hH⟩;refine ⟨_,rfl,fun a hF=>JR hF hH ?_⟩;refine Jg (Jc rfl) rfl (Jg (JN rfl rfl) rfl (Jg (JN rfl rfl) rfl (Jg (JN rfl rfl) rfl (Jg (Jd rfl) rfl (Jg (Jd rfl) rfl (Jg (Jd rfl) rfl (Jf (Ja (hK12 (Je fun _ hK13 _=>(Jb (Jg (Jc rfl) rfl (JA fn36 rfl rfl fun w hH=>(parseInt_c (s:=(Lib.cut ((spl 43 t).getD k []) [42]).1) (by omega) hB hH).mono ?_)))))))))))));rintro _ w ⟨v33,t33,N33,rfl,hv33,hH⟩;refine ⟨_,rfl,fun a hF=>JR hF hH ?_⟩;refine Jg (Jc rfl) rfl (Jg (JN rfl rfl) rfl (Jg (JN rfl rfl) rfl (Jg (Jd rfl) rfl (Jg (Jd rfl) rfl (Jf (Ja (hK13 (Je fun _ hK14 _=>(Je fun _ hK15 _=>(Jb (Jg (Jc rfl) rfl (Jg (PR.neqErr uI59 rfl rfl) rfl (Jf (Ja (hK15 (JW rfl (fun h37=>?_) (fun h37=>?_)))))))))))))))))
   ·
    refine Je fun _ hK16 _=>(Jb (Jg (JX bz33) rfl (Jr rfl rfl (by first | exact bytesC_one _ | exact intsC_one _ | exact Term.c_one _ | simp [Value.oneCell']) (by simpa [*] using sz33) (by simp [*]) (.s (.s (.s .z))) (Jg (Jd rfl) rfl (Jf (Ja (hK16 (Jl (Jh (Jw (Jh (Jh (Jw (Jh (JV rfl (Res.agg rfl (.s (.s (.s .z))) (by simpa [*] using ag33)) (Res.tmp rfl) fun w hH=>?_)))))))))))))));replace hH:=hH.sublist (.cons _ (.cons _ (.cons _ (.cons _ (List.Sublist.refl _)))));rw [rdI_2 h14 hk1 (by rw [wrdI_ok,isSome_f (not_f h37)];rfl)];exact ⟨none,0,rfl,hH.own0 69 9⟩
   ·
    have hok:=not_t h37;have hov:=okP_v hok hv33;have hvb:=okP_bd hov;refine Ji (Ja (hK14 (CJ.head [[], [0], [], [2], [], [3,4], [5]] (by kernel_rfl) (JF (fun gh=>JG u33 rfl sz31 rfl) (JF (fun gh=>JB rfl (.s .z) rfl pl31) (JF (fun gh=>Jc rfl) (HJ.call fn46 (fun gh=>rfl) (fun w X hH=>readMonomial_c (by omega) hB hH) (JF (fun gh=>Jc rfl) (JF (fun gh=>PR.build2 rfl rfl (fun w=>bt69 _ _ (monR_mn _).len w)) (HJ.mk (fun gh=>MK.lit1T u31 ze69 sz69 (Term.wf.of (monR_mn _) (by omega)) rfl) (El 7 3 foll0 (by kernel_rfl) rfl rfl fun gh=>(J.conv (us':=(39,_)::(40,_)::(41,_)::(42,_)::(43,_)::(44,_)::(45,_)::_) (L':=_::_) rfl rfl (J.appendOT u31 ze69 sz69 by69 rfl rfl (by simp only [List.length_cons,List.length_nil];omega) .z (.s (.s .z)) (fun _ _=>(.s (.s .z))) rfl fun qo46 co46=>(Jg (JG u33 rfl sz31 rfl) rfl (J.store rfl rfl rfl rfl sz31 (by simp [*]) (.s (.s .z)) ?_)))))))))))))));refine Jf (Ei (Ek (JE (Ja (hK10 (Jb (Jg (Jx rfl rfl (by first | exact nw _ (by omega) | rfl)) rfl (Jg (Jc rfl) rfl (Jf (Ja (Em .z ?_)))))))))));exact hAg0 (qo46,co46,F++[⟨monR (Lib.cut ((spl 43 t).getD k []) [42]).2.1,v33⟩],k+1) ⟨by omega,wfs_snoc wfO (Term.wf.of (monR_mn _) hvb),by rw [pg_take hk1];exact allO_app (by rw [wrdI_ok,hov];rfl) hI⟩ (by show (spl 43 t).length - (k+1)<(spl 43 t).length - k;omega) 34 rfl rfl ⟨rfl,trivial⟩ rfl rfl
  ·
   refine JK (Jm (Jm (JO (Ja (hK6 (Je fun _ hK17 _=>?_))))))
   rcases Bool.eq_false_or_eq_true (isForm ds F) with hb53 | hb53
   ·
    have hff:=isForm_fac wfO hb53;have hFl:=allO_len hI;have htk:=List.length_take_le k (spl 43 t);refine CJ.openR (Rs:=[_,_,_,_]) 12 [[], [], [], [1,2], [1,2,3], [1,2,3,4], [1,2,3,4,5], [1,2,3,4], [1,2,3,4,5,6,7], [1,2,3,4,5,6,7,8], [0,1,2,3,4,5,6], [0,1,2,3,4,5,6,7,8,9,10]] [[13], [], [13], [14], [], [13], [14], [], [], [], [], []] [[], [], [], [], [], [], [], [], [], [], [15], []] rfl rfl (by kernel_rfl) ?_;apply Ju 1 rfl
    iterate 3 focus (intros;(conv=>lhs;simp only [Jn,Jv,Ed,Jy,JM,eq_self,reduceEqDiff,reduceIte,reduceSub,reduceAdd,JxA,JxB]);all_goals rfl)
    ·
     intro gh X K zq zc zq2 zc2 zb zv hK;refine Jg (Js rfl At.z (by simpa [*] using ag33)) rfl (Jq ?_);exact hK zq zc zq2 zc2 zb zv
    ·
     intro gh gh' h
     rfl
    apply Ju 2 rfl
    iterate 3 focus (intros;(conv=>lhs;simp only [Jn,Jv,Ed,Jy,JM,eq_self,reduceEqDiff,reduceIte,reduceSub,reduceAdd,JxA,JxB]);all_goals rfl)
    ·
     intro gh X K zq zc zq2 zc2 zb zv hK;refine Jg (Jc rfl) rfl (Jq ?_);exact hK zq zc zq2 zc2 zb zv
    ·
     intro gh gh' h
     rfl
    apply Ju 3 rfl
    iterate 3 focus (intros;(conv=>lhs;simp only [Jn,Jv,Ed,Jy,JM,eq_self,reduceEqDiff,reduceIte,reduceSub,reduceAdd,JxA,JxB]);all_goals rfl)
    ·
     intro gh X K zq zc zq2 zc2 zb zv hK;refine Jg (Js rfl At.z (by simpa [*] using ag33)) rfl (Jq ?_);exact hK zq zc zq2 zc2 zb zv
    ·
     intro gh gh' h
     rfl
    apply Ju 4 rfl
    iterate 3 focus (intros;(conv=>lhs;simp only [Jn,Jv,Ed,Jy,JM,eq_self,reduceEqDiff,reduceIte,reduceSub,reduceAdd,JxA,JxB]);all_goals rfl)
    ·
     intro gh X K zq zc zq2 zc2 zb zv hK;refine JA fn47 rfl rfl fun w hH=>hH.lend .z fun Hl1 hle1 hA1 hB1 hH=>(isForm_c (hds.le hle1) (own_terms wfO hA1) hn (by omega) hH).mono ?_;rintro _ w ⟨rfl,hH⟩;replace hH:=hB1 _ _ hH;refine ⟨_,rfl,fun a hF=>JR hF hH ?_⟩;refine Jq ?_;exact hK zq zc zq2 zc2 zb zv
    ·
     intro gh gh' h
     rfl
    apply Ju 5 rfl
    iterate 3 focus (intros;(conv=>lhs;simp only [Jn,Jv,Ed,Jy,JM,eq_self,reduceEqDiff,reduceIte,reduceSub,reduceAdd,JxA,JxB]);all_goals rfl)
    ·
     intro gh X K zq zc zq2 zc2 zb zv hK;refine Jg (Jc rfl) rfl (Jq ?_);exact hK zq zc zq2 zc2 zb zv
    ·
     intro gh gh' h
     rfl
    apply Ju 6 rfl
    iterate 3 focus (intros;(conv=>lhs;simp only [Jn,Jv,Ed,Jy,JM,eq_self,reduceEqDiff,reduceIte,reduceSub,reduceAdd,JxA,JxB]);all_goals rfl)
    ·
     intro gh X K zq zc zq2 zc2 zb zv hK;refine JL (Js rfl At.z (by simpa [*] using ag33)) rfl rfl rfl hb53 (Jq ?_);exact hK zq zc zq2 zc2 zb zv
    ·
     intro gh gh' h
     rfl
    apply Ju 7 rfl
    iterate 3 focus (intros;(conv=>lhs;simp only [Jn,Jv,Ed,Jy,JM,eq_self,reduceEqDiff,reduceIte,reduceSub,reduceAdd,JxA,JxB]);all_goals rfl)
    ·
     intro gh X K zq zc zq2 zc2 zb zv hK;refine J.gcall fn48 rfl rfl hb53 rfl rfl fun w hH=>hH.lend .z fun Hl1 hle1 hA1 hB1 hH=>(formText_c (own_terms wfO hA1) hff.1 hff.2 (hT.le hle1) hH).mono ?_;rintro _ w ⟨rfl,hH⟩;replace hH:=hB1 _ _ hH;refine ⟨_,rfl,fun a hF=>JR hF hH ?_⟩;refine Jq ?_;exact hK zq zc zq2 zc2 zb zv
    ·
     intro gh gh' h
     rfl
    apply Ju 8 rfl
    iterate 3 focus (intros;(conv=>lhs;simp only [Jn,Jv,Ed,Jy,JM,eq_self,reduceEqDiff,reduceIte,reduceSub,reduceAdd,JxA,JxB]);all_goals rfl)
    ·
     intro gh X K zq zc zq2 zc2 zb zv hK;refine JL (Jc rfl) rfl rfl rfl hb53 (Jq ?_);exact hK zq zc zq2 zc2 zb zv
    ·
     intro gh gh' h
     rfl
    apply Ju 9 rfl
    iterate 3 focus (intros;(conv=>lhs;simp only [Jn,Jv,Ed,Jy,JM,eq_self,reduceEqDiff,reduceIte,reduceSub,reduceAdd,JxA,JxB]);all_goals rfl)
    ·
     intro gh X K zq zc zq2 zc2 zb zv hK;refine JL (PR.strEql rfl rfl) rfl rfl rfl hb53 (Jq ?_);exact hK zq zc zq2 zc2 zb zv
    ·
     intro gh gh' h
     rfl
    apply Ju 10 rfl
    iterate 3 focus (intros;(conv=>lhs;simp only [Jn,Jv,Ed,Jy,JM,eq_self,reduceEqDiff,reduceIte,reduceSub,reduceAdd,JxA,JxB]);all_goals rfl)
    ·
     intro gh X K zq zc zq2 zc2 zb zv hK;refine Jg (JH rfl hb53 rfl) rfl (Jq ?_);exact hK zq zc zq2 zc2 zb zv
    ·
     intro gh gh' h
     rfl
    apply GJ.sn1 11 rfl
    iterate 3 focus (intros;(conv=>lhs;simp only [Jn,Jv,Ed,Jy,JM,eq_self,reduceEqDiff,reduceIte,reduceSub,reduceAdd,JxA,JxB]);all_goals rfl)
    ·
     intro gh X K hK;refine Jr rfl rfl (by first | exact bytesC_one _ | exact intsC_one _ | exact Term.c_one _ | simp [Value.oneCell']) (by simpa [*] using sz33) (by simp [*]) At.z (Jq ?_);exact hK
    ·
     intro gh gh' h
     rfl
    apply Ju 12 rfl
    iterate 3 focus (intros;(conv=>lhs;simp only [Jn,Jv,Ed,Jy,JM,eq_self,reduceEqDiff,reduceIte,reduceSub,reduceAdd,JxA,JxB]);all_goals rfl)
    ·
     intro gh X K zq zc zq2 zc2 zb zv hK;refine Jg (Jd rfl) rfl (Jq ?_);exact hK zq zc zq2 zc2 zb zv
    ·
     intro gh gh' h
     rfl
    apply GJ.close [0,1,2,3,4,5,6,7,8,9,10,11] [0,1,2,3,4,5,6,7,8,9,10,11,12,13,14] foll0 rfl rfl rfl (by rfl)
    iterate 2 focus (intros;(conv=>lhs;simp only [Jn,Jv,Ed,Jy,JM,eq_self,reduceEqDiff,reduceIte,reduceSub,reduceAdd,JxA,JxB]);all_goals rfl)
    intro gh;clear gh;refine Ja (hK17 (Jl (JV rfl (Res.agg rfl At.z (by simpa [*] using ag33)) (Res.tmp rfl) fun w hH=>?_)));replace hH:=hH.sublist (.cons _ (.cons _ (.cons _ (.cons_cons _ (List.Sublist.refl _)))))
    obtain rfl:k=(spl 43 t).length:=by omega
    rw [rdI_3 h14 hI];exact ⟨_,_,by unfold chkT;rw [hb53];rfl,hH⟩
   ·
    have hFl:=allO_len hI;have htk:=List.length_take_le k (spl 43 t);refine CJ.openR (Rs:=[_,_,_,_]) 12 [[], [], [], [1,2], [1,2,3], [1,2,3,4], [1,2,3,4,5], [1,2,3,4], [1,2,3,4,5,6,7], [1,2,3,4,5,6,7,8], [0,1,2,3,4,5,6], [0,1,2,3,4,5,6,7,8,9,10]] [[13], [], [13], [14], [], [], [], [], [], [], [], []] [[], [], [], [], [], [], [], [], [], [], [15], []] rfl rfl (by kernel_rfl) ?_;apply Ju 1 rfl
    iterate 3 focus (intros;(conv=>lhs;simp only [Jn,Jv,Ed,Jy,JM,eq_self,reduceEqDiff,reduceIte,reduceSub,reduceAdd,JxA,JxB]);all_goals rfl)
    ·
     intro gh X K zq zc zq2 zc2 zb zv hK;refine Jg (Js rfl At.z (by simpa [*] using ag33)) rfl (Jq ?_);exact hK zq zc zq2 zc2 zb zv
    ·
     intro gh gh' h
     rfl
    apply Ju 2 rfl
    iterate 3 focus (intros;(conv=>lhs;simp only [Jn,Jv,Ed,Jy,JM,eq_self,reduceEqDiff,reduceIte,reduceSub,reduceAdd,JxA,JxB]);all_goals rfl)
    ·
     intro gh X K zq zc zq2 zc2 zb zv hK;refine Jg (Jc rfl) rfl (Jq ?_);exact hK zq zc zq2 zc2 zb zv
    ·
     intro gh gh' h
     rfl
    apply Ju 3 rfl
    iterate 3 focus (intros;(conv=>lhs;simp only [Jn,Jv,Ed,Jy,JM,eq_self,reduceEqDiff,reduceIte,reduceSub,reduceAdd,JxA,JxB]);all_goals rfl)
    ·
     intro gh X K zq zc zq2 zc2 zb zv hK;refine Jg (Js rfl At.z (by simpa [*] using ag33)) rfl (Jq ?_);exact hK zq zc zq2 zc2 zb zv
    ·
     intro gh gh' h
     rfl
    apply Ju 4 rfl
    iterate 3 focus (intros;(conv=>lhs;simp only [Jn,Jv,Ed,Jy,JM,eq_self,reduceEqDiff,reduceIte,reduceSub,reduceAdd,JxA,JxB]);all_goals rfl)
    ·
     intro gh X K zq zc zq2 zc2 zb zv hK;refine JA fn47 rfl rfl fun w hH=>hH.lend .z fun Hl1 hle1 hA1 hB1 hH=>(isForm_c (hds.le hle1) (own_terms wfO hA1) hn (by omega) hH).mono ?_;rintro _ w ⟨rfl,hH⟩;replace hH:=hB1 _ _ hH;refine ⟨_,rfl,fun a hF=>JR hF hH ?_⟩;refine Jq ?_;exact hK zq zc zq2 zc2 zb zv
    ·
     intro gh gh' h
     rfl
    apply Ju 5 rfl
    iterate 3 focus (intros;(conv=>lhs;simp only [Jn,Jv,Ed,Jy,JM,eq_self,reduceEqDiff,reduceIte,reduceSub,reduceAdd,JxA,JxB]);all_goals rfl)
    ·
     intro gh X K zq zc zq2 zc2 zb zv hK;refine Jg (Jc rfl) rfl (Jq ?_);exact hK zq zc zq2 zc2 zb zv
    ·
     intro gh gh' h
     rfl
    apply Ju 6 rfl
    iterate 3 focus (intros;(conv=>lhs;simp only [Jn,Jv,Ed,Jy,JM,eq_self,reduceEqDiff,reduceIte,reduceSub,reduceAdd,JxA,JxB]);all_goals rfl)
    ·
     intro gh X K zq zc zq2 zc2 zb zv hK;refine Jz rfl rfl rfl hb53 (Jq ?_);exact hK zq zc zq2 zc2 zb zv
    ·
     intro gh gh' h
     rfl
    apply Ju 7 rfl
    iterate 3 focus (intros;(conv=>lhs;simp only [Jn,Jv,Ed,Jy,JM,eq_self,reduceEqDiff,reduceIte,reduceSub,reduceAdd,JxA,JxB]);all_goals rfl)
    ·
     intro gh X K zq zc zq2 zc2 zb zv hK;refine Jz rfl rfl rfl hb53 (Jq ?_);exact hK zq zc zq2 zc2 zb zv
    ·
     intro gh gh' h
     rfl
    apply Ju 8 rfl
    iterate 3 focus (intros;(conv=>lhs;simp only [Jn,Jv,Ed,Jy,JM,eq_self,reduceEqDiff,reduceIte,reduceSub,reduceAdd,JxA,JxB]);all_goals rfl)
    ·
     intro gh X K zq zc zq2 zc2 zb zv hK;refine Jz rfl rfl rfl hb53 (Jq ?_);exact hK zq zc zq2 zc2 zb zv
    ·
     intro gh gh' h
     rfl
    apply Ju 9 rfl
    iterate 3 focus (intros;(conv=>lhs;simp only [Jn,Jv,Ed,Jy,JM,eq_self,reduceEqDiff,reduceIte,reduceSub,reduceAdd,JxA,JxB]);all_goals rfl)
    ·
     intro gh X K zq zc zq2 zc2 zb zv hK;refine Jz rfl rfl rfl hb53 (Jq ?_);exact hK zq zc zq2 zc2 zb zv
    ·
     intro gh gh' h
     rfl
    apply Ju 10 rfl
    iterate 3 focus (intros;(conv=>lhs;simp only [Jn,Jv,Ed,Jy,JM,eq_self,reduceEqDiff,reduceIte,reduceSub,reduceAdd,JxA,JxB]);all_goals rfl)
    ·
     intro gh X K zq zc zq2 zc2 zb zv hK;refine Jg (JD rfl hb53 rfl) rfl (Jq ?_);exact hK zq zc zq2 zc2 zb zv
    ·
     intro gh gh' h
     rfl
    apply GJ.sn1 11 rfl
    iterate 3 focus (intros;(conv=>lhs;simp only [Jn,Jv,Ed,Jy,JM,eq_self,reduceEqDiff,reduceIte,reduceSub,reduceAdd,JxA,JxB]);all_goals rfl)
    ·
     intro gh X K hK;refine Jr rfl rfl (by first | exact bytesC_one _ | exact intsC_one _ | exact Term.c_one _ | simp [Value.oneCell']) (by simpa [*] using sz33) (by simp [*]) At.z (Jq ?_);exact hK
    ·
     intro gh gh' h
     rfl
    apply Ju 12 rfl
    iterate 3 focus (intros;(conv=>lhs;simp only [Jn,Jv,Ed,Jy,JM,eq_self,reduceEqDiff,reduceIte,reduceSub,reduceAdd,JxA,JxB]);all_goals rfl)
    ·
     intro gh X K zq zc zq2 zc2 zb zv hK;refine Jg (Jd rfl) rfl (Jq ?_);exact hK zq zc zq2 zc2 zb zv
    ·
     intro gh gh' h
     rfl
    apply GJ.close [0,1,2,3,4,5,6,7,8,9,10,11] [0,1,2,3,4,5,6,7,8,9,10,11,12,13,14] foll0 rfl rfl rfl (by rfl)
    iterate 2 focus (intros;(conv=>lhs;simp only [Jn,Jv,Ed,Jy,JM,eq_self,reduceEqDiff,reduceIte,reduceSub,reduceAdd,JxA,JxB]);all_goals rfl)
    intro gh;clear gh;refine Ja (hK17 (Jl (JV rfl (Res.agg rfl At.z (by simpa [*] using ag33)) (Res.tmp rfl) fun w hH=>?_)));replace hH:=hH.sublist (.cons _ (.cons _ (.cons _ (.cons_cons _ (List.Sublist.refl _)))))
    obtain rfl:k=(spl 43 t).length:=by omega
    rw [rdI_3 h14 hI];exact ⟨_,_,by unfold chkT;rw [hb53];rfl,hH⟩
theorem ParseForm_c {B:World} {H0 H:HP} {L:List SA} {w:World} {qds:Option Addr} {cds:Nat} {ds:List Int} {t:List UInt8} (hds:Ints H qds ds) (hn:ds.length≤1048576) (hl:t.length≤1048576) (hB:LbOk H) (hT:TabOk Tryz.prog nmT H) (hH:Hp B H0 H L w):Calls Tryz.prog 12 [.slice qds ds.length cds,sV t].toArray w fun e w'=>∃q k,e = .returned (.tuple #[.agg [.slice q (prV ds t).length k].toArray,.int .i64 (prC ds t)])∧Hp B H0 H (own 69 9 q (prV ds t).length k (tsC (prV ds t))::L) w':=by
 refine Jt Tryz.func12 rfl 22 rfl rfl [(0,.slice qds ds.length cds),(1,sV t)] rfl hH ?_;clear hH;obtain ⟨hs1,hs2⟩:=rd_same ds t;refine Je fun _ hK1 _=>(Jb (JU ze33 rfl fun g4=>(Jg (Jd rfl) rfl (Jf (Ja (hK1 (Je fun _ hK2 _=>(Je fun _ hK3 _=>(Jb (Jg (Jc rfl) rfl (JA fn26 rfl rfl fun w hH=>(AreDegrees_c hds hn hH).mono ?_)))))))))));rintro _ w ⟨rfl,hH⟩;refine ⟨_,rfl,fun a hF=>JR hF hH ?_⟩;refine Jg (Ec rfl) rfl (Jf (Ja (hK3 (JW rfl (fun h10=>?_) (fun h10=>?_)))))
 ·
  refine Je fun _ hK4 _=>(Jb (Jg (JX bz33) rfl (Jr rfl rfl (by first | exact bytesC_one _ | exact intsC_one _ | exact Term.c_one _ | simp [Value.oneCell']) (by simpa [*] using sz33) (by simp [*]) At.z (Jg (Jd rfl) rfl (Jf (Ja (hK4 (Jl (Jh (JV rfl (Res.agg rfl At.z (by simpa [*] using ag33)) (Res.tmp rfl) fun w hH=>?_))))))))));replace hH:=hH.sublist (.cons _ (List.Sublist.refl _));obtain ⟨e1,e2⟩:=pr_1 (ds:=ds) (t:=t) (not_f h10);rw [e1,e2];exact ⟨none,0,rfl,hH.own0 69 9⟩
 ·
  have hD:isDeg ds=true:=not_t h10;refine Ji (Ja (hK2 (Je fun _ hK5 _=>(Jb (Jg (Jc rfl) rfl (Jg (Jc rfl) rfl (JA fn27 rfl rfl fun w hH=>(readForm_c hds hn hl hB hT hH).mono ?_)))))));rintro _ w ⟨qo15,co15,rfl,hH⟩;refine ⟨_,rfl,fun a hF=>JR hF hH ?_⟩;refine Jg (Jc rfl) rfl (Jg (JN rfl rfl) rfl (Jg (JN rfl rfl) rfl (JU ze33 rfl fun g6=>(Jr rfl rfl (by first | exact bytesC_one _ | exact intsC_one _ | exact Term.c_one _ | simp [Value.oneCell']) (by simpa [*] using sz33) (by simp [*]) At.z (Jg (Jd rfl) rfl (Jf (Ja (hK5 (Je fun _ hK6 _=>(Je fun _ hK7 _=>(Jb (Jg (Jc rfl) rfl (Jg (Ec rfl) rfl (Jf (Ja (hK7 ?_))))))))))))))));refine JW rfl (fun h19=>?_) (fun h19=>?_)
  ·
   refine Je fun _ hK8 _=>(Jb (Jg (JX bz33) rfl (Jr rfl rfl (by first | exact bytesC_one _ | exact intsC_one _ | exact Term.c_one _ | simp [Value.oneCell']) (by simpa [*] using sz33) (by simp [*]) (.s (.s .z)) (Jg (Jd rfl) rfl (Jf (Ja (hK8 (Jl (Jh (JV rfl (Res.agg rfl (.s (.s .z)) (by simpa [*] using ag33)) (Res.tmp rfl) fun w hH=>?_))))))))));replace hH:=hH.sublist (.cons _ (.cons _ (.cons _ (List.Sublist.refl _))));obtain ⟨e1,e2⟩:=pr_6 (t:=t) hD (hs1.symm.trans (not_f h19));rw [e1,e2];exact ⟨none,0,rfl,hH.own0 69 9⟩
  ·
   refine Ji (Ja (hK6 (Je fun _ hK9 _=>(Jb (Jg (Js rfl At.z (by simpa [*] using ag33)) rfl (Jr rfl rfl (by first | exact bytesC_one _ | exact intsC_one _ | exact Term.c_one _ | simp [Value.oneCell']) (by simpa [*] using sz33) (by simp [*]) (.s (.s .z)) (Jg (Jd rfl) rfl (Jf (Ja (hK9 (Jl (JV rfl (Res.agg rfl (.s (.s .z)) (by simpa [*] using ag33)) (Res.tmp rfl) fun w hH=>?_))))))))))));replace hH:=hH.sublist (.cons _ (.cons_cons _ (.cons _ (List.Sublist.refl _))));have h9:=hs1.symm.trans (not_t h19);obtain ⟨e1,e2⟩:=pr_0 (t:=t) hD h9;rw [hs2 h9] at hH;rw [e1,e2];exact ⟨_,_,by rw [hs2 h9],hH⟩
theorem fn10:Fn Tryz.prog 10:=⟨_,Tryz.func10,by kernel_rfl,rfl⟩
theorem fn11:Fn Tryz.prog 11:=⟨_,Tryz.func11,by kernel_rfl,rfl⟩
theorem fn12:Fn Tryz.prog 12:=⟨_,Tryz.func12,by kernel_rfl,rfl⟩
theorem fn16:Fn Tryz.prog 16:=⟨_,Tryz.func16,by kernel_rfl,rfl⟩
theorem fn17:Fn Tryz.prog 17:=⟨_,Tryz.func17,by kernel_rfl,rfl⟩
theorem prV_len (ds:List Int) (t:List UInt8):(prV ds t).length≤400:=by
 unfold prV
 split
 ·rename_i h
  have h2:=(Bool.and_eq_true_iff.1 h).2
  have e:rdS ds t=((rdS ds t).1,true):=by rw [← h2]
  exact isForm_len4 (rd_ok (.inl e)).1
 ·simp
theorem lawParseForm_c {B:World} {H0 H:HP} {L:List SA} {w:World} {qds:Option Addr} {cds:Nat} {ds:List Int} {t:List UInt8} (hds:Ints H qds ds) (hB:LbOk H) (hT:TabOk Tryz.prog nmT H) (hH:Hp B H0 H L w):Calls Tryz.prog 4 [.slice qds ds.length cds,sV t].toArray w fun e w'=>e = .returned (.bool true)∧Below B.heap.size B w':=by
 refine Jt Tryz.func4 rfl 101 rfl rfl [(0,.slice qds ds.length cds),(1,sV t)] rfl hH ?_;clear hH;have f1:=prV_len ds t;have f2:=prV_wf ds t;refine Je fun _ hK1 _=>(Jb (Jg (Jd rfl) rfl (Jf (Ja (hK1 (Je fun _ hK2 _=>(Je fun _ hK3 _=>(Jb (Jg (Jc rfl) rfl (Jg (Jp u22 rfl rfl) rfl (Jg (JZ rfl rfl) rfl (Jf (Ja (hK3 (Jj rfl (fun hc17=>?_) (fun hc17=>?_))))))))))))))))
 ·
  refine Je fun _ hK4 _=>(Jb (Jg (Jd rfl) rfl (Jf (Ja (hK4 (Jl (Jh (Jk rfl (Res.tmp rfl) fun w hH=>?_))))))))
  first | exact ⟨rfl,hH.below⟩ | exact absurd rfl hc17p | exact absurd rfl hc17 | (exfalso;omega) | (simp at hc17;done)
 ·
  refine Ji (Ja (hK2 (Je fun _ hK5 _=>(Je fun _ hK6 _=>(Jb (Jg (Jc rfl) rfl (Jg (Eg u9 rfl) rfl (Jg (JZ rfl rfl) rfl (Jf (Ja (hK6 (Jj rfl (fun hc20=>?_) (fun hc20=>?_)))))))))))))
  ·
   refine Je fun _ hK7 _=>(Jb (Jg (Jd rfl) rfl (Jf (Ja (hK7 (Jl (Jh (Jk rfl (Res.tmp rfl) fun w hH=>?_))))))))
   first | exact ⟨rfl,hH.below⟩ | exact absurd rfl hc20p | exact absurd rfl hc20 | (exfalso;omega) | (simp at hc20;done)
  ·
   refine Ji (Ja (hK5 (Je fun _ hK8 _=>(Jb (Jg (Jc rfl) rfl (JA fn11 rfl rfl fun w hH=>(toInt64S_c hds (by omega) hH).mono ?_))))));rintro _ w ⟨qo23,co23,rfl,hH⟩;refine ⟨_,rfl,fun a hF=>JR hF hH ?_⟩;refine Jg (Jc rfl) rfl (JA fn10 rfl rfl fun w hH=>hH.lend .z fun Hl1 hle1 hA1 hB1 hH=>(sParseForm_c (own_ints hA1) (by omega) (by omega) hH).mono ?_);rintro _ w ⟨qo25,co25,rfl,hH⟩;replace hH:=hB1 _ _ hH;refine ⟨_,rfl,fun a hF=>JR hF hH ?_⟩;refine Jg (Jc rfl) rfl (Jg (JN rfl rfl) rfl (Jg (JN rfl rfl) rfl (JU ze33 rfl fun g5=>(Jr rfl rfl (by first | exact bytesC_one _ | exact intsC_one _ | exact Term.c_one _ | simp [Value.oneCell']) (by simpa [*] using sz33) (by simp [*]) At.z (Jg (Jd rfl) rfl (Jf (Ja (hK8 (Je fun _ hK9 _=>(Jb (Jg (Jc rfl) rfl (JA fn11 rfl rfl fun w hH=>(toInt64S_c hds (by omega) hH).mono ?_))))))))))));rintro _ w ⟨qo29,co29,rfl,hH⟩;refine ⟨_,rfl,fun a hF=>JR hF hH ?_⟩;refine Jg (Jd rfl) rfl (Jf (Ja (hK9 (Je fun _ hK10 _=>(Jb (Jg (Jc rfl) rfl (Jg (Jc rfl) rfl (JA fn12 rfl rfl fun w hH=>hH.lend .z fun Hl1 hle1 hA1 hB1 hH=>(ParseForm_c (own_ints hA1) (by omega) (by omega) (hB.le hle1) (hT.le hle1) hH).mono ?_))))))));rintro _ w ⟨qo33,co33,rfl,hH⟩;replace hH:=hB1 _ _ hH;refine ⟨_,rfl,fun a hF=>JR hF hH ?_⟩;refine Jg (Jc rfl) rfl (Jg (JN rfl rfl) rfl (Jg (JN rfl rfl) rfl (JU ze33 rfl fun g8=>(Jr rfl rfl (by first | exact bytesC_one _ | exact intsC_one _ | exact Term.c_one _ | simp [Value.oneCell']) (by simpa [*] using sz33) (by simp [*]) At.z (Jg (Jd rfl) rfl (Jf (Ja (hK10 (Je fun _ hK11 _=>(Je fun _ hK12 _=>(Jb (Jg (Js rfl At.z (by simpa [*] using ag33)) rfl (Jg (Js rfl (.s (.s (.s .z))) (by simpa [*] using ag33)) rfl (JA fn13 rfl rfl fun w hH=>hH.lend (.s (.s .z)) fun Hl1 hle1 hA1 hB1 hH=>hH.lend (.s (.s (.s (.s .z)))) fun Hl2 hle2 hA2 hB2 hH=>(eqForm_c ((own_terms (prV_wf _ _) hA1).le hle2) (own_terms (prV_wf _ _) hA2) (by omega) hH).mono ?_))))))))))))));rintro _ w ⟨rfl,hH⟩;replace hH:=hB2 _ _ hH;replace hH:=hB1 _ _ hH;refine ⟨_,rfl,fun a hF=>JR hF hH ?_⟩;refine Jg (Ec rfl) rfl (Jg (Jc rfl) rfl (JQ (jd:=40) rfl (fun hg40=>?_) (fun hg40=>?_)))
   ·
    try have hg40p:=of_decide_eq_true hg40
    refine Jz rfl rfl rfl hg40 (Jz rfl rfl rfl hg40 (Jz rfl rfl rfl hg40 (Jg (JH rfl hg40 rfl) rfl (Jf (Ja (hK12 (En rfl (Je fun _ hK13 _=>(Jb (Jg (Jd rfl) rfl (Jf (Ja (hK13 (Jl (Jh (Jk rfl (Res.tmp rfl) fun w hH=>?_))))))))))))))));replace hH:=hH.tail;replace hH:=hH.tail;replace hH:=hH.tail;replace hH:=hH.tail;replace hH:=hH.tail;replace hH:=hH.tail
    first | exact ⟨rfl,hH.below⟩ | exact absurd rfl hg40p | exact absurd rfl hg40 | (exfalso;omega) | (simp at hg40;done)
   ·
    try have hg40p:=of_decide_eq_false hg40
    refine JL (Jc rfl) rfl rfl rfl hg40 (JL (Jc rfl) rfl rfl rfl hg40 (JL (Ej rfl rfl) rfl rfl rfl hg40 (Jg (JD rfl hg40 rfl) rfl (Jf (Ja (hK12 (Jj rfl (fun hc44=>?_) (fun hc44=>?_))))))))
    ·
     refine Je fun _ hK14 _=>(Jb (Jg (Jd rfl) rfl (Jf (Ja (hK14 (Jl (Jh (Jk rfl (Res.tmp rfl) fun w hH=>?_))))))));replace hH:=hH.tail;replace hH:=hH.tail;replace hH:=hH.tail;replace hH:=hH.tail;replace hH:=hH.tail;replace hH:=hH.tail
     first | exact ⟨rfl,hH.below⟩ | exact absurd rfl hc44p | exact absurd rfl hc44 | (exfalso;omega) | (simp at hc44;done)
    ·
     refine Ji (Ja (hK11 (Je fun _ hK15 _=>(Je fun _ hK16 _=>(Jb (Jg (Jc rfl) rfl (Jg (Jc rfl) rfl (JA fn11 rfl rfl fun w hH=>(toInt64S_c hds (by omega) hH).mono ?_))))))));rintro _ w ⟨qo47,co47,rfl,hH⟩;refine ⟨_,rfl,fun a hF=>JR hF hH ?_⟩;refine JA fn14 rfl rfl fun w hH=>hH.lend (.s (.s (.s (.s .z)))) fun Hl1 hle1 hA1 hB1 hH=>hH.lend .z fun Hl2 hle2 hA2 hB2 hH=>(eqInt64S_c ((own_ints hA1).le hle2) (own_ints hA2) (by omega) hH).mono ?_;rintro _ w ⟨rfl,hH⟩;replace hH:=hB2 _ _ hH;replace hH:=hB1 _ _ hH;refine ⟨_,rfl,fun a hF=>JR hF hH ?_⟩;refine Jg (Ec rfl) rfl (Jf (Ja (hK16 (JW rfl (fun hc49=>?_) (fun hc49=>?_)))))
     ·
      refine Je fun _ hK17 _=>(Jb (Jg (Jd rfl) rfl (Jf (Ja (hK17 (Jl (Jh (Jk rfl (Res.tmp rfl) fun w hH=>?_))))))));replace hH:=hH.tail;replace hH:=hH.tail;replace hH:=hH.tail;replace hH:=hH.tail;replace hH:=hH.tail;replace hH:=hH.tail;replace hH:=hH.tail
      first | exact ⟨rfl,hH.below⟩ | exact absurd rfl hc49p | exact absurd rfl hc49 | (exfalso;omega) | (simp at hc49;done)
     ·
      refine Ji (Ja (hK15 (Je fun _ hK18 _=>(Jb (Jg (Jd rfl) rfl (Jf (Ja (hK18 (Je fun _ hK19 _=>(Jb (Jg (Jc rfl) rfl (Jg (Jc rfl) rfl (JA fn15 rfl rfl fun w hH=>(markInt64S_c (by omega) (hH.front .z)).mono ?_)))))))))))));rintro _ w ⟨rfl,hH⟩;refine ⟨_,rfl,fun a hF=>JR hF hH ?_⟩;refine Jg (Jd rfl) rfl (Jf (Ja (hK19 (Je fun _ hK20 _=>(Je fun _ hK21 _=>(Jb (Jg (Jc rfl) rfl (Jg (JJ rfl rfl) rfl (Jg (Jc rfl) rfl (JQ (jd:=55) rfl (fun hg55=>?_) (fun hg55=>?_)))))))))))
      ·
       try have hg55p:=of_decide_eq_true hg55
       refine Jz rfl rfl rfl hg55 (Jz rfl rfl rfl hg55 (Jz rfl rfl rfl hg55 (Jz rfl rfl rfl hg55 (Jg (JH rfl hg55 rfl) rfl (Jg (Jc rfl) rfl (Jz rfl rfl rfl rfl (Jz rfl rfl rfl rfl (Jz rfl rfl rfl rfl (Jg (JH rfl rfl rfl) rfl (Jf (Ja (hK21 (En rfl (Je fun _ hK22 _=>(Jb ?_)))))))))))))));refine Jg (Jd rfl) rfl (Jf (Ja (hK22 (Jl (Jh (Jk rfl (Res.tmp rfl) fun w hH=>?_))))));replace hH:=hH.tail;replace hH:=hH.tail;replace hH:=hH.tail;replace hH:=hH.tail;replace hH:=hH.tail;replace hH:=hH.tail;replace hH:=hH.tail
       first | exact ⟨rfl,hH.below⟩ | exact absurd rfl hg55p | exact absurd rfl hg55 | (exfalso;omega) | (simp at hg55;done)
      ·
       try have hg55p:=of_decide_eq_false hg55
       refine JL (Js rfl (.s (.s (.s (.s .z)))) (by simpa [*] using ag33)) rfl rfl rfl hg55 (JL (Js rfl (.s (.s (.s (.s (.s .z))))) (by simpa [*] using ag33)) rfl rfl rfl hg55 (J.gcall fn13 rfl rfl hg55 rfl rfl fun w hH=>hH.lend (.s (.s .z)) fun Hl1 hle1 hA1 hB1 hH=>hH.lend (.s (.s .z)) fun Hl2 hle2 hA2 hB2 hH=>(eqForm_c ((own_terms (prV_wf _ _) hA1).le hle2) (own_terms (prV_wf _ _) hA2) (by omega) hH).mono ?_));rintro _ w ⟨rfl,hH⟩;replace hH:=hB2 _ _ hH;replace hH:=hB1 _ _ hH;refine ⟨_,rfl,fun a hF=>JR hF hH ?_⟩;refine JL (Ec rfl) rfl rfl rfl hg55 (Jg (JD rfl hg55 rfl) rfl (Jg (Jc rfl) rfl (JQ (jd:=61) rfl (fun hg61=>?_) (fun hg61=>?_))))
       ·
        try have hg61p:=of_decide_eq_true hg61
        refine Jz rfl rfl rfl hg61 (Jz rfl rfl rfl hg61 (Jz rfl rfl rfl hg61 (Jg (JH rfl hg61 rfl) rfl (Jf (Ja (hK21 (En rfl (Je fun _ hK23 _=>(Jb (Jg (Jd rfl) rfl (Jf (Ja (hK23 (Jl (Jh (Jk rfl (Res.tmp rfl) fun w hH=>?_))))))))))))))));replace hH:=hH.tail;replace hH:=hH.tail;replace hH:=hH.tail;replace hH:=hH.tail;replace hH:=hH.tail;replace hH:=hH.tail;replace hH:=hH.tail
        first | exact ⟨rfl,hH.below⟩ | exact absurd rfl hg61p | exact absurd rfl hg61 | (exfalso;omega) | (simp at hg61;done)
       ·
        try have hg61p:=of_decide_eq_false hg61
        refine JL (Jc rfl) rfl rfl rfl hg61 (JL (Jc rfl) rfl rfl rfl hg61 (JL (Ej rfl rfl) rfl rfl rfl hg61 (Jg (JD rfl hg61 rfl) rfl (Jf (Ja (hK21 (Jj rfl (fun hc65=>?_) (fun hc65=>?_))))))))
        ·
         refine Je fun _ hK24 _=>(Jb (Jg (Jd rfl) rfl (Jf (Ja (hK24 (Jl (Jh (Jk rfl (Res.tmp rfl) fun w hH=>?_))))))));replace hH:=hH.tail;replace hH:=hH.tail;replace hH:=hH.tail;replace hH:=hH.tail;replace hH:=hH.tail;replace hH:=hH.tail;replace hH:=hH.tail
         first | exact ⟨rfl,hH.below⟩ | exact absurd rfl hc65p | exact absurd rfl hc65 | (exfalso;omega) | (simp at hc65;done)
        ·
         refine Ji (Ja (hK20 (Je fun _ hK25 _=>(Jb (Jg (Jd rfl) rfl (Jf (Ja (hK25 (Je fun _ hK26 _=>(Jb (Jg (Js rfl (.s (.s (.s (.s .z)))) (by simpa [*] using ag33)) rfl (Jg (Jc rfl) rfl (JA fn16 rfl rfl fun w hH=>(markForm_c (by omega) (hH.front .z)).mono ?_)))))))))))));rintro _ w ⟨rfl,hH⟩;refine ⟨_,rfl,fun a hF=>JR hF hH ?_⟩;refine Jg (Jd rfl) rfl (Jf (Ja (hK26 (Je fun _ hK27 _=>(Jb (Jg (Jd rfl) rfl (Jf (Ja (hK27 (Je fun _ hK28 _=>(Jb (Jg (Js rfl (.s (.s (.s (.s .z)))) (by simpa [*] using ag33)) rfl (Jg (Jc rfl) rfl (JA fn17 rfl rfl fun w hH=>hH.lend .z fun Hl1 hle1 hA1 hB1 hH=>(heldForm_c (own_mterms (by omega) hA1) (by omega) hH).mono ?_))))))))))))));rintro _ w ⟨rfl,hH⟩;replace hH:=hB1 _ _ hH;refine ⟨_,rfl,fun a hF=>JR hF hH ?_⟩;refine Jg (Jd rfl) rfl (Jf (Ja (hK28 (Je fun _ hK29 _=>(Je fun _ hK30 _=>(Jb (Jg (Jc rfl) rfl (Jg (JJ rfl rfl) rfl (Jf (Ja (hK30 (Jj rfl (fun hc73=>?_) (fun hc73=>?_)))))))))))))
         ·
          refine Je fun _ hK31 _=>(Jb (Jg (Jd rfl) rfl (Jf (Ja (hK31 (Jl (Jh (Jk rfl (Res.tmp rfl) fun w hH=>?_))))))));replace hH:=hH.tail;replace hH:=hH.tail;replace hH:=hH.tail;replace hH:=hH.tail;replace hH:=hH.tail;replace hH:=hH.tail;replace hH:=hH.tail
          first | exact ⟨rfl,hH.below⟩ | exact absurd rfl hc73p | exact absurd rfl hc73 | (exfalso;omega) | (simp at hc73;done)
         ·
          refine Ji (Ja (hK29 (Je fun _ hK32 _=>(Je fun _ hK33 _=>(Jb (Jg (Jc rfl) rfl (Jg (Jc rfl) rfl (Jg (Ej rfl rfl) rfl (Jf (Ja (hK33 (Jj rfl (fun hc76=>?_) (fun hc76=>?_)))))))))))))
          ·
           refine Je fun _ hK34 _=>(Jb (Jg (Jd rfl) rfl (Jf (Ja (hK34 (Jl (Jh (Jk rfl (Res.tmp rfl) fun w hH=>?_))))))));replace hH:=hH.tail;replace hH:=hH.tail;replace hH:=hH.tail;replace hH:=hH.tail;replace hH:=hH.tail;replace hH:=hH.tail;replace hH:=hH.tail
           first | exact ⟨rfl,hH.below⟩ | exact absurd rfl hc76p | exact absurd rfl hc76 | (exfalso;omega) | (simp at hc76;done)
          ·
           refine Ji (Ja (hK32 (Je fun _ hK35 _=>(Jb (Jg (Jc rfl) rfl (JA fn11 rfl rfl fun w hH=>(toInt64S_c hds (by omega) hH).mono ?_))))));rintro _ w ⟨qo79,co79,rfl,hH⟩;refine ⟨_,rfl,fun a hF=>JR hF hH ?_⟩;refine Jg (Jc rfl) rfl (JA fn12 rfl rfl fun w hH=>hH.lend .z fun Hl1 hle1 hA1 hB1 hH=>(ParseForm_c (own_ints hA1) (by omega) (by omega) (hB.le hle1) (hT.le hle1) hH).mono ?_);rintro _ w ⟨qo81,co81,rfl,hH⟩;replace hH:=hB1 _ _ hH;refine ⟨_,rfl,fun a hF=>JR hF hH ?_⟩;refine Jg (Jc rfl) rfl (Jg (JN rfl rfl) rfl (Jg (JN rfl rfl) rfl (JU ze33 rfl fun g13=>(Jr rfl rfl (by first | exact bytesC_one _ | exact intsC_one _ | exact Term.c_one _ | simp [Value.oneCell']) (by simpa [*] using sz33) (by simp [*]) At.z (Jg (Jd rfl) rfl (Jf (Ja (hK35 (Je fun _ hK36 _=>(Je fun _ hK37 _=>(Jb (Jg (Js rfl At.z (by simpa [*] using ag33)) rfl (Jg (Js rfl (.s (.s (.s (.s (.s (.s (.s (.s .z)))))))) (by simpa [*] using ag33)) rfl (JA fn13 rfl rfl fun w hH=>hH.lend (.s (.s .z)) fun Hl1 hle1 hA1 hB1 hH=>hH.lend (.s (.s (.s .z))) fun Hl2 hle2 hA2 hB2 hH=>(eqForm_c ((own_terms (prV_wf _ _) hA1).le hle2) (own_terms (prV_wf _ _) hA2) (by omega) hH).mono ?_))))))))))))));rintro _ w ⟨rfl,hH⟩;replace hH:=hB2 _ _ hH;replace hH:=hB1 _ _ hH;refine ⟨_,rfl,fun a hF=>JR hF hH ?_⟩;refine Jg (Ec rfl) rfl (Jg (Jc rfl) rfl (JQ (jd:=88) rfl (fun hg88=>?_) (fun hg88=>?_)))
           ·
            try have hg88p:=of_decide_eq_true hg88
            refine Jz rfl rfl rfl hg88 (Jz rfl rfl rfl hg88 (Jz rfl rfl rfl hg88 (Jg (JH rfl hg88 rfl) rfl (Jf (Ja (hK37 (En rfl (Je fun _ hK38 _=>(Jb (Jg (Jd rfl) rfl (Jf (Ja (hK38 (Jl (Jh (Jk rfl (Res.tmp rfl) fun w hH=>?_))))))))))))))));replace hH:=hH.tail;replace hH:=hH.tail;replace hH:=hH.tail;replace hH:=hH.tail;replace hH:=hH.tail;replace hH:=hH.tail;replace hH:=hH.tail;replace hH:=hH.tail;replace hH:=hH.tail;replace hH:=hH.tail
            first | exact ⟨rfl,hH.below⟩ | exact absurd rfl hg88p | exact absurd rfl hg88 | (exfalso;omega) | (simp at hg88;done)
           ·
            try have hg88p:=of_decide_eq_false hg88
            refine JL (Jc rfl) rfl rfl rfl hg88 (JL (Jc rfl) rfl rfl rfl hg88 (JL (Ej rfl rfl) rfl rfl rfl hg88 (Jg (JD rfl hg88 rfl) rfl (Jf (Ja (hK37 (Jj rfl (fun hc92=>?_) (fun hc92=>?_))))))))
            ·
             refine Je fun _ hK39 _=>(Jb (Jg (Jd rfl) rfl (Jf (Ja (hK39 (Jl (Jh (Jk rfl (Res.tmp rfl) fun w hH=>?_))))))));replace hH:=hH.tail;replace hH:=hH.tail;replace hH:=hH.tail;replace hH:=hH.tail;replace hH:=hH.tail;replace hH:=hH.tail;replace hH:=hH.tail;replace hH:=hH.tail;replace hH:=hH.tail;replace hH:=hH.tail
             first | exact ⟨rfl,hH.below⟩ | exact absurd rfl hc92p | exact absurd rfl hc92 | (exfalso;omega) | (simp at hc92;done)
            ·
             refine Ji (Ja (hK36 (Je fun _ hK40 _=>(Jb (Jg (Jd rfl) rfl (Jf (Ja (hK40 (Je fun _ hK41 _=>(Jb (Jg (Js rfl (.s (.s (.s (.s (.s (.s (.s .z))))))) (by simpa [*] using ag33)) rfl (Jg (Jc rfl) rfl (JA fn17 rfl rfl fun w hH=>hH.lend (.s (.s (.s (.s .z)))) fun Hl1 hle1 hA1 hB1 hH=>(heldForm_c (own_mterms (by omega) hA1) (by omega) hH).mono ?_)))))))))))));rintro _ w ⟨rfl,hH⟩;replace hH:=hB1 _ _ hH;refine ⟨_,rfl,fun a hF=>JR hF hH ?_⟩;refine Jg (Jd rfl) rfl (Jf (Ja (hK41 (Je fun _ hK42 _=>(Je fun _ hK43 _=>(Jb (Jg (Jc rfl) rfl (Jg (JJ rfl rfl) rfl (Jf (Ja (hK43 (Jj rfl (fun hc97=>?_) (fun hc97=>?_)))))))))))))
             ·
              refine Je fun _ hK44 _=>(Jb (Jg (Jd rfl) rfl (Jf (Ja (hK44 (Jl (Jh (Jk rfl (Res.tmp rfl) fun w hH=>?_))))))));replace hH:=hH.tail;replace hH:=hH.tail;replace hH:=hH.tail;replace hH:=hH.tail;replace hH:=hH.tail;replace hH:=hH.tail;replace hH:=hH.tail;replace hH:=hH.tail;replace hH:=hH.tail;replace hH:=hH.tail
              first | exact ⟨rfl,hH.below⟩ | exact absurd rfl hc97p | exact absurd rfl hc97 | (exfalso;omega) | (simp at hc97;done)
             ·
              refine Ji (Ja (hK42 (Je fun _ hK45 _=>(Je fun _ hK46 _=>(Jb (Jg (Jc rfl) rfl (Jg (Jc rfl) rfl (Jg (Ej rfl rfl) rfl (Jf (Ja (hK46 (Jj rfl (fun hc100=>?_) (fun hc100=>?_)))))))))))))
              ·
               refine Je fun _ hK47 _=>(Jb (Jg (Jd rfl) rfl (Jf (Ja (hK47 (Jl (Jh (Jk rfl (Res.tmp rfl) fun w hH=>?_))))))));replace hH:=hH.tail;replace hH:=hH.tail;replace hH:=hH.tail;replace hH:=hH.tail;replace hH:=hH.tail;replace hH:=hH.tail;replace hH:=hH.tail;replace hH:=hH.tail;replace hH:=hH.tail;replace hH:=hH.tail
               first | exact ⟨rfl,hH.below⟩ | exact absurd rfl hc100p | exact absurd rfl hc100 | (exfalso;omega) | (simp at hc100;done)
              ·
               refine Ji (Ja (hK45 (Je fun _ hK48 _=>(Jb (Jg (Jd rfl) rfl (Jf (Ja (hK48 (Jl (Jk rfl (Res.tmp rfl) fun w hH=>?_))))))))));replace hH:=hH.tail;replace hH:=hH.tail;replace hH:=hH.tail;replace hH:=hH.tail;replace hH:=hH.tail;replace hH:=hH.tail;replace hH:=hH.tail;replace hH:=hH.tail;replace hH:=hH.tail;replace hH:=hH.tail
               first | exact ⟨rfl,hH.below⟩ | exact absurd rfl hc100p | exact absurd rfl hc100 | (exfalso;omega) | (simp at hc100;done)
end Go.Proofs.YtefpohpaliocaaaGreatDoor.G
namespace Go.Proofs.YtefpohpaliocaaaGreatDoor.fnExactParseForm
open Go.ChangeShapes Go.WideShapes Go.ChangeAt Go.RowKit
open Go.Proofs.YtefpohpaliocaaaGreatDoor.G
theorem u22:Tryz.prog.underlying 22=some (TypeDesc.slice 2):=by kernel_rfl
theorem u2:Tryz.prog.underlying 2=some (TypeDesc.int .i64):=by kernel_rfl
theorem u9:Tryz.prog.underlying 9=some (TypeDesc.string):=by kernel_rfl
theorem u3:Tryz.prog.underlying 3=some (TypeDesc.int .i64):=by kernel_rfl
theorem u150:Tryz.prog.underlying 150=some (TypeDesc.pointer 152):=by kernel_rfl
theorem u152:Tryz.prog.underlying 152=some (TypeDesc.struct #[{name:="s",type:=9,offset:=0,embedded:=false,tag:="",pkgPath:="errors",byteOffset:=0}]):=by kernel_rfl
theorem u166:Tryz.prog.underlying 166=some (TypeDesc.array 20 108):=by kernel_rfl
theorem u108:Tryz.prog.underlying 108=some (TypeDesc.int .u64):=by kernel_rfl
theorem u4:Tryz.prog.underlying 4=some (TypeDesc.bool):=by kernel_rfl
theorem own:ownKnob Tryz.prog.godebug=none:=by kernel_rfl
theorem door_met (os:Os) (args:Array Value):laidMetH Tryz.prog Rows.fnExactParseFormRow.laid ((World.laidAll Tryz.prog os Rows.fnExactParseFormRow.laid).forCall (fun _ _=>0) ⟨#[],args, []⟩).memory:=by
 rw [MakeChecks.laidMetH_plain _ _ _ (by kernel_rfl)];exact laidMet_laidAll _ (by kernel_rfl) (by kernel_rfl)
theorem laidMet_head {P:Program} {x:String × DataW Unit} {r:List (String × DataW Unit)} {w:World} (h:laidMet P (x::r) w):laidMet P [x] w:=by
 obtain ⟨ps,hv,hnd,hrows⟩:=h;obtain ⟨n,d⟩:=x;obtain ⟨g,t,cs,fuel,p,q,e1,e2,e3,e4,hq,rfl⟩:=hv;exact ⟨_,⟨g,t,cs,fuel,p, [],e1,e2,e3,e4,rfl,rfl⟩,hnd.sublist (by rw [List.append_nil];exact List.sublist_append_left _ _),fun b off hm=>hrows b off (List.mem_append_left _ (by rw [List.append_nil] at hm;exact hm))⟩
theorem u59:Tryz.prog.underlying 59=some (.interface #[("Error",127)]):=by kernel_rfl
theorem star : "*" ++ "errors.errorString" = "*errors.errorString":=by decide
theorem rowS (u:TypeId) (h:Tryz.prog.typeName? 3 u=some "*errors.errorString"):u=150:=
 typeName_ptr_named (nm:="errors.errorString") (by rw [star];kernel_rfl) (by kernel_rfl) (by decide) u (by rw [star];exact h)
theorem gN1:Tryz.prog.globalNamed "strconv.ErrSyntax" = some 1:=by kernel_rfl
theorem gT1:(Tryz.prog.globals[1]?).map (·.type)=some 59:=by kernel_rfl
theorem gN2:Tryz.prog.globalNamed "strconv.ErrRange" = some 2:=by kernel_rfl
theorem gT2:(Tryz.prog.globals[2]?).map (·.type)=some 59:=by kernel_rfl
theorem lb_ok {W:World} (hL:laidMetH Tryz.prog Rows.fnExactParseFormRow.laid W) (hS:W.ShapedOpen Tryz.prog):LbOk (hp W):=by
 rw [MakeChecks.laidMetH_plain _ _ _ (by kernel_rfl)] at hL;refine ⟨?_,?_,?_⟩
 ·exact cell_of_shapedOpen_int (g:=0) (t:=3) (zero:=#[.int .i64 0]) hS (of_decide_eq_true (by kernel_rfl)) (by kernel_rfl) rfl (by kernel_rfl) (by kernel_rfl) u3
 ·obtain ⟨a0,s0,hv0, -⟩:=laid_sentinel (n:="strconv.ErrSyntax") (laidMet_head hL.tail.tail.tail.tail.tail) gN1 gT1 u59 rowS u150 u152 rfl rfl u9 (by kernel_rfl) (by kernel_rfl);exact ⟨_,_,(by have h0:=World.var?_cell gN1 hv0 0;simpa using h0:W.cell? ⟨1,0,none⟩=some _)⟩
 ·obtain ⟨a0,s0,hv0, -⟩:=laid_sentinel (n:="strconv.ErrRange") (laidMet_head hL.tail.tail.tail.tail) gN2 gT2 u59 rowS u150 u152 rfl rfl u9 (by kernel_rfl) (by kernel_rfl);exact ⟨_,_,(by have h0:=World.var?_cell gN2 hv0 0;simpa using h0:W.cell? ⟨2,0,none⟩=some _)⟩
theorem wrapS {H:Type} {enc:TypeId × Value→H} {a:Assume} {C:Checked} {os:Os} {f:FuncId} {fn:Func} {s:ChangeSpec} {conds:List PathCond} {apart fresh handsOn again:Bool} {X:World→Array Value→Prop} (hX : ∀(w w':World) (args:Array Value),w.heap=w'.heap→X w args→X w' args) (own:ownKnob C.prog.godebug=none) (started:os.Started) (noInit:C.prog.inits.idxOf? f=none) (hfn:C.prog.funcs[f]? = some fn) (witness : ∃(w:World) (tape:Tape) (i:Input),w.os=os∧(w.forCall tape i).Shaped C.prog∧i.vars=[]∧Input.okWide C.prog (w.forCall tape i) .any w.heap.size f i∧((s.pre enc C.prog fn conds apart (w.forCall tape i).memory i.args∧X (w.forCall tape i).memory i.args)∧sizedMet enc C.prog fn (OpenSpec.ofChange s) apart (w.forCall tape i).memory i.args)∧a.holds C.prog (lone (Frame.enter C.prog f i.args .normal) [] (w.forCall tape i))) (contract : ∀(W:World) (base:Nat) (args:Array Value) (ds gs:List (DataW H)) (before:List MemPlace),(∀(j:Nat) t v,fn.params[j]? = some t→args[j]? = some v→Value.okWide C.prog W .any base t v)→DataW.Whole enc C.prog fn.params.toList s.vars apart W args.toList ds gs before→conds.all (PathCond.test C.prog ⟨fn.params.toList,ds,s.plain.varTypes C.prog,gs⟩)=true→(DataW.weightsEach C.prog (fn.params.toList++s.plain.varTypes C.prog) (ds++gs)).all (· ≤reachBytes)=true→X W args→W.ShapedOpen C.prog→Calls C.prog f args W fun e W'=>∃v,e = .returned v∧s.post enc C.prog fn apart fresh handsOn again W args v W'):ReturnsInHanded a C os f .any (fun w args=>(s.pre enc C.prog fn conds apart w args∧X w args)∧sizedMet enc C.prog fn (OpenSpec.ofChange s) apart w args) (s.post enc C.prog fn apart fresh handsOn again):=by
 refine returnsInHanded_of_calls own started noInit witness ?_;intro w tape i _ hsh _ hok hpre _;obtain ⟨_,_,_,fn',hfn',_,_,_,_,hval⟩:=hok;have e:fn'=fn:=Option.some.inj (hfn'.symm.trans hfn);subst e;obtain ⟨⟨⟨ds,gs,before,hw,hc⟩,hx⟩,hz⟩:=hpre;have hw':=DataW.Whole.of_heap (w':=w.forCall tape i) (by rfl) hw;refine (contract (w.forCall tape i) w.heap.size i.args ds gs before hval hw' hc (hz.weights hw) (hX _ _ _ (by rfl) hx) hsh).mono fun e W' ⟨v,he,hp⟩=>?_;subst he;exact ChangeSpec.post_blind hp
theorem tab_ok {W:World} (hL:laidMetH Tryz.prog Rows.fnExactParseFormRow.laid W):TabOk Tryz.prog nmT (hp W):=by
 rw [MakeChecks.laidMetH_plain _ _ _ (by kernel_rfl)] at hL;have h1:laidMet Tryz.prog [(nmT,Lib.tabData .u64 Lib.pow10Tab)] W:=(laidMet_head hL.tail.tail:_);obtain ⟨g,hg⟩ : ∃g,Tryz.prog.globalNamed nmT=some g:=⟨5,by kernel_rfl⟩;have h2:Lib.TabIs Tryz.prog W nmT .u64 Lib.pow10Tab:=Lib.tabIs_of_head (P:=Tryz.prog) (t:=166) (e:=108) (n:=20) hg (by rw [← Option.some.inj ((show Tryz.prog.globalNamed nmT=some 5 by kernel_rfl).symm.trans hg)];kernel_rfl) u166 u108 (by kernel_rfl) (by kernel_rfl) h1;intro w hw;unfold Lib.TabIs World.var? at h2 ⊢;rw [hg] at h2 ⊢;simp only [Option.bind_some] at h2 ⊢
 cases hb:W.heap[g]? with
 | none=>rw [hb] at h2;simp at h2
 | some o=>
  have h3:w.heap[g]? = some o:=hw g o hb;rw [hb] at h2;rw [h3];exact h2
theorem lifted (os:Os) (started:os.Started) (H:Type) (enc:TypeId × Value→H):ReturnsInHanded {} Tryz.checked os 4 .any (fun w args=>(Rows.fnExactParseFormSpec.pre enc Tryz.prog Tryz.f4 Rows.fnExactParseFormRow.domain false w args∧laidMetH Tryz.prog Rows.fnExactParseFormRow.laid w)∧sizedMet enc Tryz.prog Tryz.f4 (OpenSpec.ofChange Rows.fnExactParseFormSpec) false w args) (Rows.fnExactParseFormSpec.post enc Tryz.prog Tryz.f4 false true false false):=by
 refine wrapS (C:=Tryz.checked) (X:=fun w _=>laidMetH Tryz.prog Rows.fnExactParseFormRow.laid w) (fun _ _ _ hh h=>h.of_heap hh) own started (by kernel_rfl) Tryz.func4
  (ChangeSpec.witness_shaped (enc:=enc) (C:=Tryz.checked) (os:=os) (X:=fun w _=>laidMetH Tryz.prog Rows.fnExactParseFormRow.laid w) false (World.laidAll Tryz.prog os Rows.fnExactParseFormRow.laid) #[.slice none 0 0,.string ⟨#[]⟩] 12 (World.laidAll_os _ _ _) (World.shaped_of_ZipB (by kernel_rfl) (by kernel_rfl)) (by kernel_rfl) (by kernel_rfl) (by kernel_rfl) (door_met os _)) ?_
 intro W base args ds gs before hval0 hW hcnd hsz0 hL hS;have hT9:=tab_ok hL;have hB9:=lb_ok hL hS;have hval : ∀(j:Nat) t v,Tryz.f4.params[j]? = some t→args[j]? = some v→Value.okWide Tryz.prog W .any base t v:=hval0;have hW':=hW;obtain ⟨p,q,hA0,hV,rfl,hfz,hnd⟩:=hW;have hA:DataW.TrodAll enc Tryz.prog W 0 (fun _=>true) true Tryz.f4.params.toList args.toList ds p:=hA0;rw [Tryz.params4] at hA hval;obtain ⟨v0,Ed,d0,ds0,p0,q0,hargs,rfl,rfl,h0,r0⟩:=trodAll_cons hA;obtain ⟨v1,vs1,d1,ds1,p1,q1,rfl,rfl,rfl,h1,r1⟩:=trodAll_cons r0;obtain ⟨rfl,rfl,rfl⟩:=trodAll_nil r1
 obtain rfl:args = #[v0,v1]:=by cases args;simp_all
 obtain ⟨rfl,rfl⟩:=trodVars_none hV;obtain ⟨q0,xs0,c0,rfl,X0,le0,bd0⟩:=openV_ints u22 u2 (by kernel_rfl) (hval 0 22 v0 rfl rfl) h0
 obtain ⟨t1,rfl⟩ : ∃t1,v1=sV t1:=by obtain ⟨b9,rfl⟩:=okWide_string u9 (hval 1 9 v1 rfl rfl);exact ⟨_,vS_data b9⟩
 clear hA0 hval0 hsz0;refine ((lawParseForm_c X0 hB9 hT9 (Hp.start (H:=hp W) fun _ _ h=>h)).mono fun e W' ⟨he,bel⟩=>?_);subst he;exact ⟨_,rfl,law_post (f:=Tryz.f4) (by kernel_rfl) (by kernel_rfl) rfl rfl u4 rfl hW' bel⟩
theorem joined:joinedFacts Tryz.prog 4 Tryz.f4 Rows.fnExactParseFormSpec Rows.fnExactParseFormRow=true:=by
 unfold joinedFacts;simp only [Bool.and_eq_true]
 repeat' apply And.intro
 all_goals first
  | with_reducible exact Facts.fEnter
  | with_reducible exact Facts.fLaid
  | with_reducible exact Facts.fMaps
  | with_reducible exact Facts.fHeard
  | (rw [Facts.fMake];rfl)
  | (rw [Facts.fLift];rfl)
  | (rw [Facts.fKeys];rfl)
  | (rw [Facts.fStops];rfl)
  | (rw [Facts.fStopK];rfl)
  | as_aux_lemma=>kernel_rfl
theorem over:Rows.fnExactParseFormRow.holds Tryz.pinned (OpenSpec.ofChange Rows.fnExactParseFormSpec):=
 OpenClaim.holds_of_wide 4 Tryz.f4 rfl rfl rfl rfl rfl rfl rfl ⟨rfl,rfl,rfl,rfl,rfl⟩ rfl rfl rfl rfl rfl (by as_aux_lemma=>kernel_rfl) Tryz.func4 joined
  (of_decide_eq_true (by as_aux_lemma=>kernel_rfl)) (by unfold Func.isWrapper;first | (rw [if_pos (by decide +kernel)];kernel_rfl) | (rw [if_neg (by decide +kernel)];exact ⟨rfl,rfl⟩))
  (fun os started H enc _=>lifted os started H enc)
theorem proved:Rows.FnExactParseFormCardSaid:=
 Claim7.holds_tied_plain_at .later [] [.data,.data,.data,.data,.sentinel,.sentinel,.pinned] true (true, "d0430ddb69e1d39e3ebce2e325132a5f638aee80eb7c9dbaddc06a01c09cfa93") true
  over (fun _ h=>by cases h) (by kernel_rfl) (fun _ h=>by cases h) fnExactParseForm_row_tie rfl ⟨rfl,rfl⟩ (by kernel_rfl) rfl
  (fun f fn hf hfn=>by
   obtain rfl:f=4:=Option.some.inj ((show Tryz.prog.funcNamed "loop.example/g01219/laws.FnExactParseForm" = some 4 by kernel_rfl).symm.trans hf) |>.symm
   obtain rfl:fn=Tryz.f4:=(Option.some.inj (Tryz.func4.symm.trans hfn)).symm
   exact ⟨by kernel_rfl,fun j t ht=>by
    rw [Tryz.params4] at ht
    have hm:t∈ [22,9]:=by simpa using Array.mem_of_getElem? ht
    have hall:([22,9].all fun u=>!Tryz.prog.wantsStandIn u)=true:=by kernel_rfl
    exact (show Tryz.prog.wantsStandIn t=false by simpa using List.all_eq_true.1 hall t hm)⟩)
  (by kernel_rfl)
#print axioms proved
end Go.Proofs.YtefpohpaliocaaaGreatDoor.fnExactParseForm
namespace Go.Proofs.YtefpohpaliocaaaGreatDoor
theorem fnExactParseForm_holds:Rows.FnExactParseFormCardSaid:=fnExactParseForm.proved
end Go.Proofs.YtefpohpaliocaaaGreatDoor
