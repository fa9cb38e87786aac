/- A part of the walk of one law: what the functions compute. No condition. -/
import Derived.Test.YtffgojlocbafhaaGreatDoorRows
import Derived.Test.YtffgojlocbafhaaGreatDoorProg
import Derived.WalkKit
import Derived.KernelRfl
import Derived.JoinedOf
import Derived.Maps.AppendAt
import Derived.Still
import Derived.ProofKit
import Derived.OpenShut
import Derived.StillTail
import Derived.Deep.Upon
import Derived.WalkSpells
import Derived.Maps.Range
import Derived.Laws.Entries
import Derived.Laws.StructEq
import Derived.DeepKeys4
import Derived.Laws.Concat
import Derived.Laws.IdiomStrings
import Derived.Laws.Strings
import Derived.Lib.ItoaNum
import Derived.Lib.Join
import Derived.Lib.LaidTab
import Derived.Lib.SplitLaws
import Derived.Lib.AtoiTie
import Derived.Lib.ParseIntBTie
import Derived.Shelf.Strings.Builder1
import Derived.Shelf.Strings.Builder2
import Derived.Shelf.Strings.OnBuilder
import Derived.Shelf.Strings.BuilderF
import Derived.Shelf.Strings.BuilderK
import Derived.Shelf.Strconv.Atoi
import Derived.Shelf.Strconv.Itoa0
import Derived.Shelf.Strconv.Itoa1
import Derived.Shelf.LaysM
import Derived.Shelf.Strconv.Itoa2
import Derived.Shelf.Strconv.Itoa3
import Derived.Shelf.Strconv.Itoa4
import Derived.Shelf.Strconv.AtoiErrFast
import Derived.Shelf.Strconv.ParseIntEmpty
import Derived.Shelf.Strconv.AtoiFail
import Derived.Shelf.Strconv.Clone
import Derived.Shelf.Strconv.SyntaxError
import Derived.Shelf.LaysC
import Derived.Shelf.Strconv.ToError
import Derived.Shelf.Strconv.Lower
import Derived.Shelf.Strconv.ParseUint10
import Derived.Shelf.Strconv.ParseUint10Empty
import Derived.Shelf.Strconv.ParseUint10Any
import Derived.Shelf.Strconv.ParseInt10
import Derived.Shelf.Strconv.AtoiLong
import Derived.Shelf.Strconv.AtoiInnerAll
import Derived.Shelf.Strconv.RangeError
import Derived.Shelf.Strconv.ToErrorRange
import Derived.Shelf.Strconv.AtoiAll
import Derived.Shelf.Strconv.ParseUintEmpty
import Derived.Shelf.Strconv.ParseUint10b64
import Derived.Shelf.Strconv.ParseUint10b32
import Derived.Shelf.Strconv.ParseUint10b16
import Derived.Shelf.Strconv.ParseUint10b8
import Derived.Shelf.Strconv.ParseUint10At
import Derived.Shelf.Strconv.ParseInt10At64
import Derived.Shelf.Strconv.ParseInt10At32
import Derived.Shelf.Strconv.ParseInt10At16
import Derived.Shelf.Strconv.ParseInt10At8
import Derived.Shelf.Strconv.ParseInt10All
import Derived.Shelf.Strconv.ParseIntPublic10
import Derived.Shelf.Strings.Search1
import Derived.Shelf.Strings.Search2
import Derived.Shelf.Strings.Search3
import Derived.Shelf.Strings.Cut
import Derived.Shelf.Strings.Count
import Derived.Shelf.Strings.Shaped
import Derived.Shelf.Strings.Split
import Derived.Shelf.Unicode.DecodeSlow
import Derived.Laws.Strings2
import Derived.Laws.Strings3
import Derived.Laws.Slices
import Derived.Lib.AtoiErrMem
import Derived.Lib.SmallJoins
import Derived.WalkSmall
import Derived.WideLaws
import Derived.Lib.AppendIntMem
import Derived.Test.YtffgojlocbafhaaGreatDoorCards
import Derived.Test.YtffgojlocbafhaaGreatDoorTie
import Derived.LaidMore
import Derived.Stop.Joined
import Derived.Stop.LaidErr
import Derived.SevenTiedAt
import Derived.MakeChecks
import Derived.Shelf.Vars
import Derived.Lay
import Derived.ChangeOld
import Derived.Below
import Derived.SizedLaws
import Derived.Test.YtffgojlocbafhaaGreatDoorPAtxb
set_option linter.unusedVariables false
set_option linter.unusedSimpArgs false
set_option maxRecDepth 10000
set_option maxHeartbeats 8000000
open Nat (reduceEqDiff reduceSub reduceAdd)
namespace Go.Proofs.YtffgojlocbafhaaGreatDoor.G
open Go Go.RowKit
theorem fn102:Fn Tryz.prog 102:=⟨_,Tryz.func102,by kernel_rfl,rfl⟩
theorem fn125:Fn Tryz.prog 125:=⟨_,Tryz.func125,by kernel_rfl,rfl⟩
theorem field_c {B:World} {H0 H:HP} {L:List SA} {w:World} {x:Int} (hx : -1000000000000≤x∧x≤1000000000000) (hH:Hp B H0 H L w):Calls Tryz.prog 102 [.int .i64 x].toArray w fun e w'=>e = .returned (.int .i64 (fld x))∧Hp B H0 H L w':=by
 refine JD Tryz.func102 rfl 7 rfl rfl [(0,.int .i64 x)] rfl hH ?_;clear hH;have hb:=tmod_bd x;refine Jd fun _ hK1 _=>(Jb (Jg (Je rfl) rfl (Jf (Ja (hK1 (Jd fun _ hK2 _=>(Jb (Jg (Jc rfl) rfl (Jg (ER rfl rfl (by decide) rfl) rfl (Jg (JF rfl rfl (by first | exact nw _ (by omega) | rfl)) rfl (Jg (ER rfl rfl (by decide) rfl) rfl (Jg (Je rfl) rfl (Jf (Ja (hK2 (Jt ?_))))))))))))))));refine Jy rfl (Res.tmp rfl) fun w hH=>?_;exact ⟨rfl,hH⟩
theorem add_c {B:World} {H0 H:HP} {L:List SA} {w:World} {bs:Nat} {Ms:Int} {s:Sm} {Mp:Int} {p:List Int} {k:Int} (ks:Sok Ms s) (hp:Pok Mp p) (hM:Ms≤1000000) (hpM:Mp≤Ms) (hk : -1000000000≤k∧k≤1000000000) (hH:Hp B H0 H (osum bs s::L) w):Calls Tryz.prog 125 [.map (some bs),.agg (intsC p).toArray,.int .i64 k].toArray w fun e w'=>e = .returned (.tuple #[])∧Hp B H0 H (osum bs (addS s p k)::L) w':=by
 refine JD Tryz.func125 rfl 20 rfl rfl [(0,.map (some bs)),(1,.agg (intsC p).toArray),(2,.int .i64 k)] rfl hH ?_;clear hH;have hp8:=hp.len;have hc:=cf_bd ks p;refine Jd fun _ hK1 _=>(Jb (Eo rfl rfl rfl fun g4=>(Jf (Ja (hK1 (Jd fun _ hK2 _=>(Jb (Jg (Jc rfl) rfl (Jg (Jl rfl At.z (by simpa [*] using ag127)) rfl (Jg (PR.sumO pwK u83 zv2 rfl (.s .z) rfl (pwOk_of hp (by omega))) rfl (Jg (Jc rfl) rfl (Jg (JF rfl rfl (by first | exact nw _ (by omega) | rfl)) rfl (Jz fn102 rfl rfl fun w hH=>(field_c (by omega) hH).mono ?_)))))))))))));rintro _ w ⟨rfl,hH⟩;refine ⟨_,rfl,fun a hF=>JL hF hH ?_⟩;refine Jg (Je rfl) rfl (Jf (Ja (hK2 (Jd fun _ hK3 _=>(Jb (Jg (Jc rfl) rfl (Jg (Ew rfl rfl) rfl (Jf (Ja (hK3 (Jp rfl (fun h14=>?_) (fun h14=>?_))))))))))))
 ·
  refine Jb (Jg (Jc rfl) rfl (Jg (Jl rfl At.z (by simpa [*] using ag127)) rfl (Jg (Jc rfl) rfl (J.putAdd pwK u83 rfl rfl rfl (pwOk_of hp (by omega)) ks (hp.mono hpM) rfl h14 (.s .z) (Jf (EJ.ret0 rfl fun w hH=>?_))))));replace hH:=hH.sublist (.cons _ (.cons_cons _ (List.Sublist.refl _)));exact ⟨rfl,hH⟩
 ·
  refine Jb (Jg (Jc rfl) rfl (Jg (Jl rfl At.z (by simpa [*] using ag127)) rfl (J.delAdd pwK u83 rfl rfl (pwOk_of hp (by omega)) ks (hp.mono hpM) (Decidable.not_not.1 h14) (.s .z) (Jf (EJ.ret0 rfl fun w hH=>?_)))));replace hH:=hH.sublist (.cons _ (.cons_cons _ (List.Sublist.refl _)));exact ⟨rfl,hH⟩
theorem scl_mid {l1 l2:Sm} {x:Pw × Int} {k:Int}:(scl (l1++x::l2) k).Perm ((x.1,(x.2 * k).tmod 10007)::scl (l1++l2) k):=by
 unfold scl;exact (List.perm_middle).map _
theorem rot {α:Type} (a b:List α) (x:α) {l m:List α} (h:(a++l).Perm m) (h2:l.Perm (x::b)):(a++[x]++b).Perm m:=by
 rw [List.append_assoc];exact (List.Perm.append_left a h2.symm).trans h
theorem perm_nil {α:Type} {a l m:List α} (h:(a++l).Perm m) (h2:l=[]):a.Perm m:=by
 subst h2
 rwa [List.append_nil] at h
theorem addAll_c {B:World} {H0 H:HP} {L:List SA} {w:World} {bs:Nat} {Ms:Int} {s:Sm} {vt:Value} {Mt:Int} {t:Sm} {k:Int} (ks:Sok Ms s) (ht:SumH H vt t) (kt:Sok Mt t) (hM:Ms≤1000000) (htM:Mt≤Ms) (hk:0≤k∧k≤10006) (hH:Hp B H0 H (osum bs s::L) w):Calls Tryz.prog 101 [.map (some bs),vt,.int .i64 k].toArray w fun e w'=>e = .returned (.tuple #[])∧Hp B H0 H (osum bs (acc s (scl t k))::L) w':=by
 refine JD Tryz.func101 rfl 22 rfl rfl [(0,.map (some bs)),(1,vt),(2,.int .i64 k)] rfl hH ?_;clear hH;obtain ⟨bt,est,clt,rfl,hbt,het⟩:=ht;have ht:SumH H (.map (some bt)) t:=⟨bt,est,clt,rfl,hbt,het⟩;refine Jd fun _ hK1 _=>(Jb (Jg (Jc rfl) rfl (J.range u83 rfl hbt het rfl fun r9=>(Jf (Ja (hK1 (Jx (JP (σ:=Option (Pw × Int) × Sm × Sm) (fun ⟨la,ls,dn⟩=>[]) (fun ⟨la,ls,dn⟩=>H) (fun ⟨la,ls,dn⟩=>itr pwE (Value.int .i64) bt est clt r9 la ls::osum bs (acc s dn)::L) (fun ⟨la,ls,dn⟩=>(dn++scl ls k).Perm (scl t k)∧∀x∈ls,x∈t) (fun ⟨la,ls,dn⟩=>ls.length) (none,t, []) ⟨List.Perm.refl _,fun _ h=>h⟩ trivial rfl rfl ?_))))))));rintro ⟨la,ls,dn⟩ hI _ hAg0;have ksn:Sok Ms (acc s dn):=ks.acc fun x hx=>(scl_pok kt k x (hI.1.mem_iff.1 (by simp [hx]))).mono htM;refine Jd fun _ hK2 _=>(Jb (J.next rfl hbt het (fun _ _=>At.z) rfl (fun hE10=>?_) (fun nx10 la10 lb10 hL10=>?_)))
 ·
  refine Jg (JA rfl rfl) rfl (Jf (Ja (hK2 (Jd fun _ hK3 _=>(Ey rfl (JR (Jw (Jw (JY (EJ.ret0 rfl fun w hH=>?_))))))))));replace hH:=hH.sublist (.cons _ (.cons_cons _ (List.Sublist.refl _)));rw [acc_perm ks (fun x hx=>(scl_pok kt k x ((perm_nil hI.1 (by rw [hE10];rfl)).mem_iff.1 hx)).mono htM) (perm_nil hI.1 (by rw [hE10];rfl))] at hH;exact ⟨rfl,hH⟩
 ·
  subst hL10;have hu:=hI.2 nx10 (by simp);have hu8:=(kt.key nx10 hu).len;have hv:=kt.val nx10 hu;have hm:=mul_bd (a:=nx10.2) (b:=k) (A:=10006) (B:=10006) (by omega) hk;have hb:=tmod_bd (nx10.2 * k);refine Jg (JA rfl rfl) rfl (Jf (Ja (hK2 (Jd fun _ hK4 _=>(Ep rfl (Jo (Ja (hK4 (Jx (Jd fun _ hK5 _=>(Jb (Jg (PR.entry rfl hbt het At.z) rfl (Jg (JA rfl rfl) rfl (Jg (JA rfl rfl) rfl (JG ze127 rfl fun g6=>(Jk rfl rfl (by first | exact bytesC_one _ | exact intsC_one _ | exact Term.c_one _ | simp [Value.oneCell']) (by simpa [*] using sz127) (by simp [*]) At.z ?_))))))))))))))));refine Jg (Je rfl) rfl (Jf (Ja (hK5 (Jb (Jg (Jc rfl) rfl (Jg (Jl rfl At.z (by simpa [*] using ag127)) rfl (Jg (Jc rfl) rfl (Jg (Jc rfl) rfl (Jg (EZ rfl rfl (by first | exact nw _ (by omega) | rfl)) rfl (Jg (ER rfl rfl (by decide) rfl) rfl (Jz fn125 rfl rfl fun w hH=>(add_c ksn (kt.key nx10 hu) (by omega) (by omega) (by omega) (hH.front (.s (.s .z)))).mono ?_)))))))))));rintro _ w ⟨rfl,hH⟩;refine ⟨_,rfl,fun a hF=>JL hF hH ?_⟩;refine Jf (JJ (Ja (JC (.s .z) (Ji .z (Ji (.s .z) ?_)))));exact hAg0 (some nx10,la10++lb10,dn++[(nx10.1,(nx10.2 * k).tmod 10007)]) ⟨rot _ _ _ hI.1 scl_mid,fun x hx=>hI.2 x (by simp at hx ⊢;rcases hx with h | h <;> simp [h])⟩ (by simp) 14 rfl rfl trivial rfl (by simp only [acc_one])
def prodP (ds p q:Pw):Pw:=if hits ds p q then List.replicate 8 0 else addp p q
def addTo (p q:Pw) (k:Nat):Pw:=(List.range 8).map fun i=>if i<k then p.getD i 0+q.getD i 0 else p.getD i 0
@[simp] theorem addTo_len (p q:Pw) (k:Nat):(addTo p q k).length=8:=by simp [addTo]
theorem addTo_get {p q:Pw} {k i:Nat} (h:i<8):(addTo p q k).getD i 0=if i<k then p.getD i 0+q.getD i 0 else p.getD i 0:=by
 simp [addTo,List.getD_eq_getElem?_getD,h]
theorem addTo_zero {p q:Pw} (hp:p.length=8):addTo p q 0=p:=list_eq_of (by simp [hp]) fun j hj=>by
 rw [addTo_get (by simpa using hj),if_neg (by omega)]
theorem addTo_end (p q:Pw):addTo p q 8=addp p q:=list_eq_of (by simp) fun j hj=>by
 have hj8:j<8:=by simpa using hj
 rw [addTo_get hj8,if_pos hj8]
 simp [addp,List.getD_eq_getElem?_getD,hj8]
theorem addTo_set {p q:Pw} {k:Nat} (hk:k<8):(addTo p q k).set k (p.getD k 0+q.getD k 0)=addTo p q (k+1):=list_eq_of (by simp) fun j hj=>by
 have hj8:j<8:=by simpa using hj
 rw [addTo_get hj8]
 by_cases e:k=j
 ·subst e
  simp [List.getD_eq_getElem?_getD,hk]
 ·rw [List.getD_eq_getElem?_getD,List.getElem?_set_ne e,← List.getD_eq_getElem?_getD,addTo_get hj8]
  by_cases h:j<k
  ·rw [if_pos h,if_pos (by omega)]
  ·rw [if_neg h,if_neg (by omega)]
theorem sgn_hit {ds p q:Pw} {i:Nat} (hi:i<ds.length) (h:hitAt ds p q i=true):sgn ds p q=0∧prodP ds p q=List.replicate 8 0:=by
 have:=hits_yes hi h;unfold sgn prodP;rw [this];exact ⟨rfl,rfl⟩
theorem sgn_free {ds p q:Pw} (h : ∀i,i<ds.length→hitAt ds p q i=false):sgn ds p q=(if (oddTo ds p q ds.length).tmod 2=1 then -1 else 1)∧prodP ds p q=addp p q:=by
 have:=hits_no h;unfold sgn prodP;rw [this];exact ⟨rfl,rfl⟩
theorem odd_skip {ds p q:Pw} {k:Nat} (h : ¬((ds.getD k 0).tmod 2≠0∧0<q.getD k 0)):oddTo ds p q k=oddTo ds p q (k+1):=by
 simp only [oddTo];rw [if_neg h]
 omega
theorem odd_take {ds p q:Pw} {k m:Nat} (h:(ds.getD k 0).tmod 2≠0∧0<q.getD k 0) (hm:m=ds.length - (k+1)):oddTo ds p q k+oin ds p k m=oddTo ds p q (k+1):=by
 subst hm;simp only [oddTo];rw [if_pos h]
theorem hit_even {ds p q:Pw} {k:Nat} (h:(ds.getD k 0).tmod 2=0):hitAt ds p q k=false:=by unfold hitAt;rw [decide_eq_false (p:=(ds.getD k 0).tmod 2≠0) (fun h'=>h' h)];rfl
theorem hit_p {ds p q:Pw} {k:Nat} (h : ¬p.getD k 0>0):hitAt ds p q k=false:=by unfold hitAt;rw [decide_eq_false (by omega : ¬0<p.getD k 0)];simp
theorem hit_q {ds p q:Pw} {k:Nat} (h : ¬q.getD k 0>0):hitAt ds p q k=false:=by unfold hitAt;rw [decide_eq_false (by omega : ¬0<q.getD k 0)];simp
theorem hit_yes {ds p q:Pw} {k:Nat} (h1 : ¬(ds.getD k 0).tmod 2=0) (h2:p.getD k 0>0) (h3:q.getD k 0>0):hitAt ds p q k=true:=by
 unfold hitAt;rw [decide_eq_true h1,decide_eq_true (by omega:0<p.getD k 0),decide_eq_true (by omega:0<q.getD k 0)]
 rfl
theorem timesP_c {B:World} {H0 H:HP} {L:List SA} {w:World} {Mp:Int} {p:List Int} {qds:Option Addr} {cds:Nat} {ds:List Int} {Mq:Int} {q:List Int} (hp:Pok Mp p) (hds:Ints H qds ds) (hq:Pok Mq q) (hn:ds.length≤8) (hd : ∀j,0≤ds.getD j 0∧ds.getD j 0≤12) (hM:Mp≤1000000∧Mq≤1000000) (hH:Hp B H0 H L w):Calls Tryz.prog 124 [.agg (intsC p).toArray,.slice qds ds.length cds,.agg (intsC q).toArray].toArray w fun e w'=>e = .returned (.tuple #[.agg (intsC (prodP ds p q)).toArray,.int .i64 (sgn ds p q)])∧Hp B H0 H L w':=by
 refine JD Tryz.func124 rfl 75 rfl rfl [(0,.agg (intsC p).toArray),(1,.slice qds ds.length cds),(2,.agg (intsC q).toArray)] rfl hH ?_;clear hH;have hp8:=hp.len;have hq8:=hq.len;refine Jd fun _ hK1 _=>(Jb (Eo rfl rfl rfl fun g3=>(Eo rfl rfl rfl fun g5=>(JG ze127 rfl fun g6=>(Jg (Je rfl) rfl (Jf (Ja (hK1 (Jd fun _ hK2 _=>(Jb (Jg (Je rfl) rfl (Jf (Ja (hK2 (Jd fun _ hK3 _=>(Jd fun _ hK4 _=>?_))))))))))))))));refine Jb (Jg (Jc rfl) rfl (Jg (Jr u24 rfl rfl) rfl (Jg (Jc rfl) rfl (Jf (Ja (hK4 (Jx (JP (σ:=Nat) (fun (k:Nat)=>[(15,.int .i64 (k:Int)),(8,.int .i64 (oddTo ds p q k))]) (fun (k:Nat)=>H) (fun (k:Nat)=>obj g6 (.cells (intsC (List.replicate 8 0)).toArray 127 (0,0))::obj g5 (.cells (intsC q).toArray 127 (0,0))::obj g3 (.cells (intsC p).toArray 127 (0,0))::L) (fun (k:Nat)=>k≤ds.length∧∀j,j<k→hitAt ds p q j=false) (fun (k:Nat)=>ds.length - k) 0 ⟨by omega,fun j hj=>by omega⟩ ⟨rfl,⟨rfl,trivial⟩⟩ rfl rfl ?_))))))));rintro k ⟨hkI,hhI⟩ _ hAg0;have hk:=hkI;have ob:=oddTo_bd hn hd hp.bd (q:=q) k;have kM:((k:Nat):Int) * (8 * Mp)≤8 * (8 * 1000000):=Int.mul_le_mul (by omega) (by omega) (by have:=hp.bd 0;omega) (by omega);have hb:=hd k;refine Jd fun _ hK5 _=>(Jb (Jg (JZ rfl rfl) rfl (Jf (Ja (hK5 (Jd fun _ hK6 _=>(Jp rfl (fun hc16=>?_) (fun hc16=>?_))))))))
 ·
  refine Jo (Ja (hK6 (Jd fun _ hK7 _=>(Jx (Jd fun _ hK8 _=>(Jb (Jg (Jc rfl) rfl (Jg (Eg u24 sz2 rfl rfl rfl (by omega) hds.sm) rfl (Jg (JX rfl (hds _ (by omega)) pl2) rfl (Jg (Je rfl) rfl (Jg (Je rfl) rfl (Jf (Ja (hK8 (Jd fun _ hK9 _=>(Jd fun _ hK10 _=>?_))))))))))))))));refine Jb (Jg (Jc rfl) rfl (Jg (ER rfl rfl (by decide) rfl) rfl (Jg (En rfl rfl) rfl (Jf (Ja (hK10 (Jp rfl (fun h22=>?_) (fun h22=>?_))))))))
  ·
   refine JR (Jw (JY (Ja (hK7 (Jb (Jg (JF rfl rfl (by first | exact nw _ (by omega) | rfl)) rfl (Jg (Jc rfl) rfl (Jf (Ja ?_)))))))));exact hAg0 (k+1) ⟨by omega,upto hhI (hit_even h22)⟩ (by omega) 13 rfl rfl ⟨rfl,⟨(vi (odd_skip (fun h=>h.1 h22))),trivial⟩⟩ rfl rfl
  ·
   refine Jo (Ja (hK9 (Jd fun _ hK11 _=>(Jd fun _ hK12 _=>(Jb (Jg (Jc rfl) rfl (Jg (Ea u127 sz3 rfl rfl rfl (by omega)) rfl (Jg (Jv rfl (.s (.s .z)) (by first | exact bytesC_get (by simp [*];omega) | exact intsC_get (by simp [*];omega)) pl3) rfl (Jg (Eq rfl rfl) rfl (Jg (Jc rfl) rfl (JW (jd:=27) rfl (fun h27=>?_) (fun h27=>?_))))))))))))
   ·
    try have h27p:=of_decide_eq_true h27
    refine JK (Jc rfl) rfl rfl rfl h27 (JK (Ea u127 sz3 rfl rfl rfl (by omega)) rfl rfl rfl h27 (JK (Jv rfl (.s .z) (by first | exact bytesC_get (by simp [*];omega) | exact intsC_get (by simp [*];omega)) pl3) rfl rfl rfl h27 (JK (Eq rfl rfl) rfl rfl rfl h27 (Jg (JN rfl h27 rfl) rfl (Jf (Ja (hK12 (Jp rfl (fun h32=>?_) (fun h32=>?_)))))))))
    ·
     refine Jd fun _ hK13 _=>(Jb (Jg (JQ bz127) rfl (Jk rfl rfl (by first | exact bytesC_one _ | exact intsC_one _ | exact Term.c_one _ | simp [Value.oneCell']) (by simpa [*] using sz127) (by simp [*]) At.z (Jg (Je rfl) rfl (Jf (Ja (hK13 (Jt (Jn (JU (Jn (Jn (JU (Jn (JV rfl (Res.agg rfl At.z (by simpa [*] using ag127)) (Res.tmp rfl) fun w hH=>?_)))))))))))))));replace hH:=hH.tail;replace hH:=hH.tail;replace hH:=hH.tail;obtain ⟨e1,e2⟩:=sgn_hit (by omega) (hit_yes h22 h27p h32);rw [e1,e2];exact ⟨rfl,hH⟩
    ·
     refine Jo (Ja (hK11 (Jd fun _ hK14 _=>(Jb (Jg (Jc rfl) rfl (Jg (Ea u127 sz3 rfl rfl rfl (by omega)) rfl (Jg (Jv rfl (.s .z) (by first | exact bytesC_get (by simp [*];omega) | exact intsC_get (by simp [*];omega)) pl3) rfl (Jg (Eq rfl rfl) rfl (Jf (Ja (hK14 (Jp rfl (fun h37=>?_) (fun h37=>?_)))))))))))))
     ·
      refine Jd fun _ hK15 _=>(Jb (Jg (Jc rfl) rfl (Jg (JF rfl rfl (by first | exact nw _ (by omega) | rfl)) rfl (Jg (Je rfl) rfl (Jf (Ja (hK15 (Jx (JP (σ:=Nat) (fun (m:Nat)=>[(11,.int .i64 ((k+1+m:Nat):Int)),(8,.int .i64 (oddTo ds p q k+oin ds p k m))]) (fun (m:Nat)=>H) (fun (m:Nat)=>obj g6 (.cells (intsC (List.replicate 8 0)).toArray 127 (0,0))::obj g5 (.cells (intsC q).toArray 127 (0,0))::obj g3 (.cells (intsC p).toArray 127 (0,0))::L) (fun (m:Nat)=>k+1+m≤ds.length) (fun (m:Nat)=>ds.length - (k+1+m)) 0 (by omega) ⟨(vi (by omega)),⟨(vi (by simp [oin])),trivial⟩⟩ rfl rfl ?_)))))))));rintro m hI _ hAg1;have hm9:=hI;have ob:=oin_bd hd hp.bd k m;have o2:=deg2 hd (k+1+m);have pb:=hp.bd (k+1+m)
      have tp:0≤(ds.getD (k+1+m) 0).tmod 2 * p.getD (k+1+m) 0∧(ds.getD (k+1+m) 0).tmod 2 * p.getD (k+1+m) 0≤1000000:=by rcases o2 with h | h <;> rw [h] <;> first | (rw [Int.zero_mul];omega) | (rw [Int.one_mul];omega)
      have mM:((m:Nat):Int) * Mp≤8 * 1000000:=Int.mul_le_mul (by omega) (by omega) (by have:=hp.bd 0;omega) (by omega);refine Jd fun _ hK16 _=>(Jd fun _ hK17 _=>(Jb (Jg (Jc rfl) rfl (Jg (Jc rfl) rfl (Jg (Jr u24 rfl rfl) rfl (Jg (JZ rfl rfl) rfl (Jf (Ja (hK17 (Jp rfl (fun hc43=>?_) (fun hc43=>?_)))))))))))
      ·
       refine Jo (Ja (hK16 (Jd fun _ hK18 _=>(Jx (ED foll0 (by kernel_rfl) (JH (Jc rfl) rfl (JH (Jc rfl) rfl (JH (Jc rfl) rfl (JH (Eg u24 sz2 rfl rfl rfl (by omega) hds.sm) rfl (JH (JX rfl (hds _ (by omega)) pl2) rfl (JH (ER rfl rfl (by decide) rfl) rfl (JH (Jc rfl) rfl (JH (Ea u127 sz3 rfl rfl rfl (by omega)) rfl (JH (Jv rfl (.s (.s .z)) (by first | exact bytesC_get (by simp [*];omega) | exact intsC_get (by simp [*];omega)) pl3) rfl (JH (EZ rfl rfl (by first | exact nw _ (by omega) | rfl)) rfl ?_)))))))))))))));refine JH (JF rfl rfl (by first | exact nw _ (by omega) | rfl)) rfl (JH (Je rfl) rfl (Ej (JJ (Ja (hK18 (Jb (Jg (Jc rfl) rfl (Jg (JF rfl rfl (by first | exact nw _ (by omega) | rfl)) rfl (Jg (Je rfl) rfl (Jf (Ja ?_)))))))))));exact hAg1 (m+1) (by omega) (by omega) 21 rfl rfl ⟨(vi (by omega)),⟨(vi (by simp only [oin];omega)),trivial⟩⟩ rfl rfl
      ·
       refine JR (Jw (Jw (JY (JJ (Ja (hK7 (Jb (Jg (JF rfl rfl (by first | exact nw _ (by omega) | rfl)) rfl (Jg (Jc rfl) rfl (Jf (Ja ?_)))))))))));exact hAg0 (k+1) ⟨by omega,upto hhI (hit_q (by omega))⟩ (by omega) 36 rfl rfl ⟨rfl,⟨(vi (odd_take ⟨h22,by omega⟩ (by omega))),trivial⟩⟩ rfl rfl
     ·
      refine Jo (JJ (Ja (hK7 (Jb (Jg (JF rfl rfl (by first | exact nw _ (by omega) | rfl)) rfl (Jg (Jc rfl) rfl (Jf (Ja ?_))))))));exact hAg0 (k+1) ⟨by omega,upto hhI (hit_q (by omega))⟩ (by omega) 27 rfl rfl ⟨rfl,⟨(vi (odd_skip (fun h=>by omega))),trivial⟩⟩ rfl rfl
   ·
    try have h27p:=of_decide_eq_false h27
    refine JE rfl rfl rfl h27 (JE rfl rfl rfl h27 (JE rfl rfl rfl h27 (JE rfl rfl rfl h27 (Jg (JM rfl h27 rfl) rfl (Jf (Ja (hK12 (Ey rfl (Jo (Ja (hK11 (Jd fun _ hK19 _=>(Jb (Jg (Jc rfl) rfl (Jg (Ea u127 sz3 rfl rfl rfl (by omega)) rfl (Jg (Jv rfl (.s .z) (by first | exact bytesC_get (by simp [*];omega) | exact intsC_get (by simp [*];omega)) pl3) rfl ?_))))))))))))))));refine Jg (Eq rfl rfl) rfl (Jf (Ja (hK19 (Jp rfl (fun h37=>?_) (fun h37=>?_)))))
    ·
     refine Jd fun _ hK20 _=>(Jb (Jg (Jc rfl) rfl (Jg (JF rfl rfl (by first | exact nw _ (by omega) | rfl)) rfl (Jg (Je rfl) rfl (Jf (Ja (hK20 (Jx (JP (σ:=Nat) (fun (m:Nat)=>[(11,.int .i64 ((k+1+m:Nat):Int)),(8,.int .i64 (oddTo ds p q k+oin ds p k m))]) (fun (m:Nat)=>H) (fun (m:Nat)=>obj g6 (.cells (intsC (List.replicate 8 0)).toArray 127 (0,0))::obj g5 (.cells (intsC q).toArray 127 (0,0))::obj g3 (.cells (intsC p).toArray 127 (0,0))::L) (fun (m:Nat)=>k+1+m≤ds.length) (fun (m:Nat)=>ds.length - (k+1+m)) 0 (by omega) ⟨(vi (by omega)),⟨(vi (by simp [oin])),trivial⟩⟩ rfl rfl ?_)))))))));rintro m hI _ hAg2;have hm9:=hI;have ob:=oin_bd hd hp.bd k m;have o2:=deg2 hd (k+1+m);have pb:=hp.bd (k+1+m)
     have tp:0≤(ds.getD (k+1+m) 0).tmod 2 * p.getD (k+1+m) 0∧(ds.getD (k+1+m) 0).tmod 2 * p.getD (k+1+m) 0≤1000000:=by rcases o2 with h | h <;> rw [h] <;> first | (rw [Int.zero_mul];omega) | (rw [Int.one_mul];omega)
     have mM:((m:Nat):Int) * Mp≤8 * 1000000:=Int.mul_le_mul (by omega) (by omega) (by have:=hp.bd 0;omega) (by omega);refine Jd fun _ hK21 _=>(Jd fun _ hK22 _=>(Jb (Jg (Jc rfl) rfl (Jg (Jc rfl) rfl (Jg (Jr u24 rfl rfl) rfl (Jg (JZ rfl rfl) rfl (Jf (Ja (hK22 (Jp rfl (fun hc43=>?_) (fun hc43=>?_)))))))))))
     ·
      refine Jo (Ja (hK21 (Jd fun _ hK23 _=>(Jx (ED foll0 (by kernel_rfl) (JH (Jc rfl) rfl (JH (Jc rfl) rfl (JH (Jc rfl) rfl (JH (Eg u24 sz2 rfl rfl rfl (by omega) hds.sm) rfl (JH (JX rfl (hds _ (by omega)) pl2) rfl (JH (ER rfl rfl (by decide) rfl) rfl (JH (Jc rfl) rfl (JH (Ea u127 sz3 rfl rfl rfl (by omega)) rfl (JH (Jv rfl (.s (.s .z)) (by first | exact bytesC_get (by simp [*];omega) | exact intsC_get (by simp [*];omega)) pl3) rfl (JH (EZ rfl rfl (by first | exact nw _ (by omega) | rfl)) rfl ?_)))))))))))))));refine JH (JF rfl rfl (by first | exact nw _ (by omega) | rfl)) rfl (JH (Je rfl) rfl (Ej (JJ (Ja (hK23 (Jb (Jg (Jc rfl) rfl (Jg (JF rfl rfl (by first | exact nw _ (by omega) | rfl)) rfl (Jg (Je rfl) rfl (Jf (Ja ?_)))))))))));exact hAg2 (m+1) (by omega) (by omega) 21 rfl rfl ⟨(vi (by omega)),⟨(vi (by simp only [oin];omega)),trivial⟩⟩ rfl rfl
     ·
      refine JR (Jw (Jw (JY (JJ (Ja (hK7 (Jb (Jg (JF rfl rfl (by first | exact nw _ (by omega) | rfl)) rfl (Jg (Jc rfl) rfl (Jf (Ja ?_)))))))))));exact hAg0 (k+1) ⟨by omega,upto hhI (hit_p h27p)⟩ (by omega) 36 rfl rfl ⟨rfl,⟨(vi (odd_take ⟨h22,by omega⟩ (by omega))),trivial⟩⟩ rfl rfl
    ·
     refine Jo (JJ (Ja (hK7 (Jb (Jg (JF rfl rfl (by first | exact nw _ (by omega) | rfl)) rfl (Jg (Jc rfl) rfl (Jf (Ja ?_))))))));exact hAg0 (k+1) ⟨by omega,upto hhI (hit_p h27p)⟩ (by omega) 27 rfl rfl ⟨rfl,⟨(vi (odd_skip (fun h=>by omega))),trivial⟩⟩ rfl rfl
 ·
  refine JR (Jw (Jw (JY (Ja (hK3 (Jd fun _ hK24 _=>(Jd fun _ hK25 _=>(Jb (Jg (Jc rfl) rfl (Jf (Ja (hK25 (Jx (JP (σ:=Nat) (fun (i:Nat)=>[(58,.int .i64 (i:Int))]) (fun (i:Nat)=>H) (fun (i:Nat)=>obj g6 (.cells (intsC (List.replicate 8 0)).toArray 127 (0,0))::obj g5 (.cells (intsC q).toArray 127 (0,0))::obj g3 (.cells (intsC (addTo p q i)).toArray 127 (0,0))::L) (fun (i:Nat)=>i≤8) (fun (i:Nat)=>8 - i) 0 (by omega) ⟨rfl,trivial⟩ rfl (by rw [addTo_zero hp8]) ?_))))))))))))));rintro i hI _ hAg3;have hi:=hI;have pb:=hp.bd i;have qb:=hq.bd i
  have ag:i<8→(addTo p q i).getD i 0=p.getD i 0:=fun h=>by rw [addTo_get h,if_neg (by omega)]
  refine Jd fun _ hK26 _=>(Jb (Jg (JZ rfl rfl) rfl (Jf (Ja (hK26 (Jd fun _ hK27 _=>(Jp rfl (fun hc59=>?_) (fun hc59=>?_))))))))
  ·
   refine Jo (Ja (hK27 (Jd fun _ hK28 _=>(Jx (Jd fun _ hK29 _=>(Jb (Jg (Jc rfl) rfl (Jg (Je rfl) rfl (Jf (Ja (hK29 (Ev [[], [0], [1], [], [3], [4]] (by kernel_rfl) (JB (fun gh=>Jc rfl) (JB (fun gh=>Ea u127 sz3 rfl rfl rfl (by omega)) (JB (fun gh=>Jv rfl (.s (.s .z)) (by first | exact bytesC_get (by simp [*];omega) | exact intsC_get (by simp [*];omega)) pl3) (JB (fun gh=>Jc rfl) ?_))))))))))))))));refine JB (fun gh=>Ea u127 sz3 rfl rfl rfl (by omega)) (JB (fun gh=>Jv rfl (.s .z) (by first | exact bytesC_get (by simp [*];omega) | exact intsC_get (by simp [*];omega)) pl3) (Ee 6 3 foll0 (by kernel_rfl) rfl rfl fun gh=>(Eu (us':=(61,_)::(62,_)::(63,_)::(64,_)::(65,_)::(66,_)::_) (L':=_) rfl rfl (Jg (JF rfl rfl (by first | exact nw _ (by omega) | rfl)) rfl (Jg (Ea u127 sz3 rfl rfl rfl (by omega)) rfl (J.storeI rfl rfl sz3 (by simp [*];omega) (.s (.s .z)) (Jf (Ef (Ej (JJ (Ja (hK28 (Jb (Jg (JF rfl rfl (by first | exact nw _ (by omega) | rfl)) rfl (Jg (Jc rfl) rfl ?_)))))))))))))));refine Jf (Ja ?_);exact hAg3 (i+1) (by omega) (by omega) 14 rfl rfl ⟨rfl,trivial⟩ rfl (by simp only [ag (by omega),addTo_set (show i<8 by omega)])
  ·
   refine JR (Jw (Jw (JY (Ja (hK24 (Jd fun _ hK30 _=>(Jd fun _ hK31 _=>(Jb (Jg (Jc rfl) rfl (Jg (ER rfl rfl (by decide) rfl) rfl (Jg (En rfl rfl) rfl (Jf (Ja (hK31 (Jp rfl (fun h72=>?_) (fun h72=>?_))))))))))))))))
   ·
    refine Jd fun _ hK32 _=>(Jb (Jg (Jl rfl (.s (.s .z)) (by simpa [*] using ag127)) rfl (Jk rfl rfl (by first | exact bytesC_one _ | exact intsC_one _ | exact Term.c_one _ | simp [Value.oneCell']) (by simpa [*] using sz127) (by simp [*]) At.z (Jg (Je rfl) rfl (Jf (Ja (hK32 (Jt (Jn (JV rfl (Res.agg rfl At.z (by simpa [*] using ag127)) (Res.tmp rfl) fun w hH=>?_))))))))));replace hH:=hH.tail;replace hH:=hH.tail;replace hH:=hH.tail
    have hk9:k=ds.length:=by omega
    have hi9:i=8:=by omega
    subst hi9;obtain ⟨e1,e2⟩:=sgn_free (p:=p) (q:=q) (fun j hj=>hhI j (by omega));rw [hk9] at h72;rw [e1,e2,addTo_end,if_pos h72];exact ⟨rfl,hH⟩
   ·
    refine Jo (Ja (hK30 (Jd fun _ hK33 _=>(Jb (Jg (Jl rfl (.s (.s .z)) (by simpa [*] using ag127)) rfl (Jk rfl rfl (by first | exact bytesC_one _ | exact intsC_one _ | exact Term.c_one _ | simp [Value.oneCell']) (by simpa [*] using sz127) (by simp [*]) At.z (Jg (Je rfl) rfl (Jf (Ja (hK33 (Jt (JV rfl (Res.agg rfl At.z (by simpa [*] using ag127)) (Res.tmp rfl) fun w hH=>?_))))))))))));replace hH:=hH.tail;replace hH:=hH.tail;replace hH:=hH.tail
    have hk9:k=ds.length:=by omega
    have hi9:i=8:=by omega
    subst hi9;obtain ⟨e1,e2⟩:=sgn_free (p:=p) (q:=q) (fun j hj=>hhI j (by omega));rw [hk9] at h72;rw [e1,e2,addTo_end,if_neg h72];exact ⟨rfl,hH⟩
theorem fn124:Fn Tryz.prog 124:=⟨_,Tryz.func124,by kernel_rfl,rfl⟩
theorem prodP_pok {M N:Int} {ds p q:Pw} (hp:Pok M p) (hq:Pok N q):Pok (M+N) (prodP ds p q):=by
 unfold prodP
 split
 ·refine ⟨by simp,fun j=>?_⟩;have h1:=hp.bd 0;have h2:=hq.bd 0
  have:(List.replicate 8 (0:Int)).getD j 0=0:=by
   rw [List.getD_eq_getElem?_getD,List.getElem?_replicate]
   split <;> rfl
  rw [this]
  omega
 ·exact hp.add hq
theorem prodP_of {ds p q:Pw} (h:sgn ds p q≠0):prodP ds p q=addp p q:=by
 unfold prodP;unfold sgn at h
 split
 ·rename_i hh
  rw [if_pos hh] at h;exact absurd rfl h
 ·rfl
theorem mul_sb {a b A B:Int} (h1 : -A≤a∧a≤A) (h2:0≤b∧b≤B) : -(A * B)≤a * b∧a * b≤A * B:=by
 have hA:0≤A:=by omega
 have e1:A * b≤A * B:=Int.mul_le_mul_of_nonneg_left h2.2 hA;have e2:a * b≤A * b:=Int.mul_le_mul_of_nonneg_right h1.2 h2.1;have e3 : -A * b≤a * b:=Int.mul_le_mul_of_nonneg_right h1.1 h2.1;rw [Int.neg_mul] at e3
 omega
theorem mul1_some {ds:Pw} {x y:Pw × Int} {l1 l2 R:Sm} (h:sgn ds x.1 y.1≠0):(mul1 ds x (l1++y::l2)++R).Perm ((addp x.1 y.1,(sgn ds x.1 y.1 * x.2 * y.2).tmod 10007)::(mul1 ds x (l1++l2)++R)):=by
 have:=mul1_mid (ds:=ds) (x:=x) (y:=y) (l1:=l1) (l2:=l2);rw [if_neg h] at this;exact List.Perm.append_right R this
theorem mul1_zero {ds:Pw} {x y:Pw × Int} {l1 l2 R:Sm} (h:sgn ds x.1 y.1=0):(mul1 ds x (l1++y::l2)++R).Perm (mul1 ds x (l1++l2)++R):=by
 have:=mul1_mid (ds:=ds) (x:=x) (y:=y) (l1:=l1) (l2:=l2);rw [if_pos h] at this;exact List.Perm.append_right R this
theorem perm_to {α:Type} {a l l' m:List α} (h:(a++l).Perm m) (h2:l.Perm l'):(a++l').Perm m:=(List.Perm.append_left a h2.symm).trans h
theorem times_c {B:World} {H0 H:HP} {L:List SA} {w:World} {vs:Value} {Ms:Int} {s:Sm} {qds:Option Addr} {cds:Nat} {ds:List Int} {vt:Value} {Mt:Int} {t:Sm} (hs:SumH H vs s) (ks:Sok Ms s) (hds:Ints H qds ds) (ht:SumH H vt t) (kt:Sok Mt t) (hn:ds.length≤8) (hd : ∀j,0≤ds.getD j 0∧ds.getD j 0≤12) (hM:Ms+Mt≤1000000) (hH:Hp B H0 H L w):Calls Tryz.prog 100 [vs,.slice qds ds.length cds,vt].toArray w fun e w'=>∃b,e = .returned (.map (some b))∧Hp B H0 H (osum b (timesS ds s t)::L) w':=by
 refine JD Tryz.func100 rfl 48 rfl rfl [(0,vs),(1,.slice qds ds.length cds),(2,vt)] rfl hH ?_;clear hH;obtain ⟨bs,ess,cls,rfl,hbs,hes⟩:=hs;have hs:SumH H (.map (some bs)) s:=⟨bs,ess,cls,rfl,hbs,hes⟩;obtain ⟨bt,est,clt,rfl,hbt,het⟩:=ht;have ht:SumH H (.map (some bt)) t:=⟨bt,est,clt,rfl,hbt,het⟩;refine Jd fun _ hK1 _=>(Jb (Jg (Je rfl) rfl (Jf (Ja (hK1 (Jd fun _ hK2 _=>(Jb (J.makeMap pwE (Value.int .i64) pwOk rfl fun bm14=>(Jg (Je rfl) rfl (Jf (Ja (hK2 (Jd fun _ hK3 _=>(Jd fun _ hK4 _=>(Jb (Jg (Jc rfl) rfl ?_))))))))))))))));refine J.range u83 rfl hbs hes rfl fun r16=>(Jf (Ja (hK4 (Jx (JP (σ:=Option (Pw × Int) × Sm × Sm) (fun ⟨la,ls,dn⟩=>[]) (fun ⟨la,ls,dn⟩=>H) (fun ⟨la,ls,dn⟩=>itr pwE (Value.int .i64) bs ess cls r16 la ls::osum bm14 (acc [] dn)::L) (fun ⟨la,ls,dn⟩=>(dn++mulL ds ls t).Perm (mulL ds s t)∧∀x∈ls,x∈s) (fun ⟨la,ls,dn⟩=>ls.length) (none,s, []) ⟨List.Perm.refl _,fun _ h=>h⟩ trivial rfl rfl ?_)))));rintro ⟨la,ls,dn⟩ hI _ hAg0;have k0:Sok (Ms+Mt) (acc [] dn):=Sok.nil.acc fun x hx=>mulL_pok ks kt x (hI.1.mem_iff.1 (by simp [hx]));refine Jd fun _ hK5 _=>(Jb (J.next rfl hbs hes (fun _ _=>At.z) rfl (fun hE17=>?_) (fun nx17 la17 lb17 hL17=>?_)))
 ·
  refine Jg (JA rfl rfl) rfl (Jf (Ja (hK5 (Jd fun _ hK6 _=>(Ey rfl (JR (Jw (Jw (JY (Ja (hK3 (Jd fun _ hK7 _=>(Jb (Jg (Jc rfl) rfl (Jg (Je rfl) rfl (Jf ?_))))))))))))))));refine Ja (hK7 (Jt (Jy rfl (Res.tmp rfl) fun w hH=>?_)));replace hH:=hH.sublist (.cons _ (.cons_cons _ (List.Sublist.refl _)));have hp9:=perm_nil hI.1 (by rw [hE17];rfl);have e9:acc [] dn=timesS ds s t:=acc_perm Sok.nil (fun x hx=>mulL_pok ks kt x (hp9.mem_iff.1 hx)) hp9;rw [e9] at hH;exact ⟨_,rfl,hH⟩
 ·
  subst hL17;have hu:=hI.2 nx17 (by simp);have hup:=ks.key nx17 hu;have hu8:=hup.len;have hv:=ks.val nx17 hu;have hu0:=hup.bd 0;refine Jg (JA rfl rfl) rfl (Jf (Ja (hK5 (Jd fun _ hK8 _=>(Ep rfl (Jo (Ja (hK8 (Jx (Jd fun _ hK9 _=>(Jb (Jg (PR.entry rfl hbs hes At.z) rfl (Jg (JA rfl rfl) rfl (Jg (JA rfl rfl) rfl (JG ze127 rfl fun g8=>(Jk rfl rfl (by first | exact bytesC_one _ | exact intsC_one _ | exact Term.c_one _ | simp [Value.oneCell']) (by simpa [*] using sz127) (by simp [*]) At.z ?_))))))))))))))));refine Jg (Je rfl) rfl (Jf (Ja (hK9 (Jd fun _ hK10 _=>(Jb (Jg (Jc rfl) rfl (J.range u83 rfl hbt het rfl fun r23=>(Jf (Ja (hK10 (Jx (JP (σ:=Option (Pw × Int) × Sm × Sm) (fun ⟨la2,ls2,dn2⟩=>[]) (fun ⟨la2,ls2,dn2⟩=>H) (fun ⟨la2,ls2,dn2⟩=>itr pwE (Value.int .i64) bt est clt r23 la2 ls2::obj g8 (.cells (intsC nx17.1).toArray 127 (0,0))::itr pwE (Value.int .i64) bs ess cls r16 (some nx17) (la17++lb17)::osum bm14 (acc [] dn2)::L) (fun ⟨la2,ls2,dn2⟩=>(dn2++(mul1 ds nx17 ls2++mulL ds (la17++lb17) t)).Perm (mulL ds s t)∧∀x∈ls2,x∈t) (fun ⟨la2,ls2,dn2⟩=>ls2.length) (none,t,dn) ⟨perm_to hI.1 mulL_mid,fun _ h=>h⟩ trivial rfl rfl ?_))))))))))));rintro ⟨la2,ls2,dn2⟩ hI2 _ hAg1;have k1:Sok (Ms+Mt) (acc [] dn2):=Sok.nil.acc fun x hx=>mulL_pok ks kt x (hI2.1.mem_iff.1 (by simp [hx]));refine Jd fun _ hK11 _=>(Jb (J.next rfl hbt het (fun _ _=>At.z) rfl (fun hE24=>?_) (fun nx24 la24 lb24 hL24=>?_)))
  ·
   refine Jg (JA rfl rfl) rfl (Jf (Ja (hK11 (Jd fun _ hK12 _=>(Ey rfl (JR (Jw (Jw (JY (JJ (Ja (JC .z (JC .z ?_)))))))))))));exact hAg0 (some nx17,la17++lb17,dn2) ⟨by have h9:=hI2.1;rw [hE24] at h9;exact h9,fun x hx=>hI.2 x (by simp at hx ⊢;rcases hx with h | h <;> simp [h])⟩ (by simp) 11 rfl rfl trivial rfl rfl
  ·
   subst hL24;have hu2:=hI2.2 nx24 (by simp);have hup2:=kt.key nx24 hu2;have hu82:=hup2.len;have hv2:=kt.val nx24 hu2;have hu02:=hup2.bd 0
   have sb : -1≤sgn ds nx17.1 nx24.1∧sgn ds nx17.1 nx24.1≤1:=by rcases sgn_cases ds nx17.1 nx24.1 with h | h | h <;> omega
   have sb1:=mul_sb (b:=nx17.2) (B:=10006) sb (by omega);have sb2:=mul_sb (b:=nx24.2) (B:=10006) sb1 (by omega);have sb3:=tmod_bd (sgn ds nx17.1 nx24.1 * nx17.2 * nx24.2);have pp8:=(prodP_pok (ds:=ds) hup hup2).len;refine Jg (JA rfl rfl) rfl (Jf (Ja (hK11 (Jd fun _ hK13 _=>(Ep rfl (Jo (Ja (hK13 (Jx (Jd fun _ hK14 _=>(Jb (Jg (PR.entry rfl hbt het At.z) rfl (Jg (JA rfl rfl) rfl (Jg (JA rfl rfl) rfl (JG ze127 rfl fun g10=>(Jk rfl rfl (by first | exact bytesC_one _ | exact intsC_one _ | exact Term.c_one _ | simp [Value.oneCell']) (by simpa [*] using sz127) (by simp [*]) At.z ?_))))))))))))))));refine Jg (Je rfl) rfl (Jf (Ja (hK14 (Jd fun _ hK15 _=>(Jb (Jg (Jl rfl (.s (.s .z)) (by simpa [*] using ag127)) rfl (Jg (Jc rfl) rfl (Jg (Jl rfl At.z (by simpa [*] using ag127)) rfl (Jz fn124 rfl rfl fun w hH=>(timesP_c hup hds hup2 hn hd (by omega) hH).mono ?_)))))))));rintro _ w ⟨rfl,hH⟩;refine ⟨_,rfl,fun a hF=>JL hF hH ?_⟩;refine Jg (Jc rfl) rfl (Jg (JA rfl rfl) rfl (Jg (JA rfl rfl) rfl (JG ze127 rfl fun g12=>(Jk rfl rfl (by first | exact bytesC_one _ | exact intsC_one _ | exact Term.c_one _ | simp [Value.oneCell']) (by simpa [*] using sz127) (by simp [*]) At.z (Jg (Je rfl) rfl (Jf (Ja (hK15 (Jd fun _ hK16 _=>(Jb (Jg (Jc rfl) rfl (Jg (Ew rfl rfl) rfl (Jf (Ja (hK16 (Jp rfl (fun h37=>?_) (fun h37=>?_)))))))))))))))))
   ·
    have e37:=prodP_of h37;refine Jb (Jg (Jc rfl) rfl (Jg (Jl rfl At.z (by simpa [*] using ag127)) rfl (Jg (Jc rfl) rfl (Jg (Jc rfl) rfl (Jg (EZ rfl rfl (by first | exact nw _ (by omega) | rfl)) rfl (Jg (Jc rfl) rfl (Jg (EZ rfl rfl (by first | exact nw _ (by omega) | rfl)) rfl (Jg (ER rfl rfl (by decide) rfl) rfl (Jz fn125 rfl rfl fun w hH=>(add_c k1 (prodP_pok hup hup2) (by omega) (by omega) (by omega) (hH.front (.s (.s (.s (.s (.s .z))))))).mono ?_)))))))));rintro _ w ⟨rfl,hH⟩;refine ⟨_,rfl,fun a hF=>JL hF hH ?_⟩;refine Jf (JJ (Ja (JC (.s .z) (JC (.s .z) (Ji .z (Ji (.s (.s (.s .z))) (Ji (.s (.s (.s .z))) (Ji (.s (.s (.s .z))) ?_))))))));exact hAg1 (some nx24,la24++lb24,dn2++[(addp nx17.1 nx24.1,(sgn ds nx17.1 nx24.1 * nx17.2 * nx24.2).tmod 10007)]) ⟨rot _ _ _ hI2.1 (mul1_some h37),fun x hx=>hI2.2 x (by simp at hx ⊢;rcases hx with h | h <;> simp [h])⟩ (by simp) 27 rfl rfl trivial rfl (by simp only [acc_one,e37])
   ·
    have e37:sgn ds nx17.1 nx24.1=0:=Decidable.not_not.1 h37;refine Jo (JJ (Ja (JC .z (JC .z ?_))));exact hAg1 (some nx24,la24++lb24,dn2) ⟨perm_to hI2.1 (mul1_zero e37),fun x hx=>hI2.2 x (by simp at hx ⊢;rcases hx with h | h <;> simp [h])⟩ (by simp) 18 rfl rfl trivial rfl rfl
theorem Mono.pok {m:List Int} (h:Mono m):Pok 255 m:=⟨h.len,h.bd⟩
def toS (ts:List Term):Sm:=ts.map fun t=>(t.mono,t.fac)
theorem toS_take {ts:List Term} {k:Nat} (hk:k<ts.length):toS (ts.take (k+1))=toS (ts.take k)++[((tm ts k).mono,(tm ts k).fac)]:=by
 rw [take_tm hk]
 simp [toS]
theorem toS_mem {ts:List Term} {x:Pw × Int} (h:x∈toS ts) : ∃t∈ts,x=(t.mono,t.fac):=by
 obtain ⟨t,ht,rfl⟩:=List.mem_map.1 h;exact ⟨t,ht,rfl⟩
theorem toS_put {ts:List Term} {k:Nat} {M:Int} (h:Sok M (toS ts)) (hk:k<ts.length):(putM (toS (ts.take k)) (tm ts k).mono (tm ts k).fac).Perm (toS (ts.take (k+1))):=by
 rw [toS_take hk];have hn:=h.nodup
 have e0:toS ts=toS (ts.take k)++toS (ts.drop k):=by
  rw [toS,toS,toS,← List.map_append,List.take_append_drop]
 have hd:ts.drop k=tm ts k::ts.drop (k+1):=by
  rw [List.drop_eq_getElem_cons hk]
  simp [tm,List.getD_eq_getElem?_getD,List.getElem?_eq_getElem hk]
 have hne : ∀x∈toS (ts.take k),x.1≠(tm ts k).mono:=fun x hx e=>by
  rw [e0,hd,List.map_append,List.nodup_append] at hn;refine hn.2.2 x.1 (List.mem_map.2 ⟨x,hx,rfl⟩) (tm ts k).mono ?_ e
  simp [toS]
 unfold putM;rw [filt_ne hne];exact (List.perm_append_singleton _ _).symm
theorem sumOf_c {B:World} {H0 H:HP} {L:List SA} {w:World} {qts:Option Addr} {cts:Nat} {ts:List Term} {Mf:Int} (hts:Terms H qts ts) (hk:Sok Mf (toS ts)) (hl:ts.length≤9223372036854775807) (hH:Hp B H0 H L w):Calls Tryz.prog 60 [.agg [.slice qts ts.length cts].toArray].toArray w fun e w'=>∃b,e = .returned (.map (some b))∧Hp B H0 H (osum b (toS ts)::L) w':=by
 refine JD Tryz.func60 rfl 22 rfl rfl [(0,.agg [.slice qts ts.length cts].toArray)] rfl hH ?_;clear hH;refine Jd fun _ hK1 _=>(Jb (Eo rfl rfl rfl fun g1=>(Jg (Je rfl) rfl (Jf (Ja (hK1 (Jd fun _ hK2 _=>(Jb (J.makeMap pwE (Value.int .i64) pwOk rfl fun bm6=>(Jg (Je rfl) rfl (Jf (Ja (hK2 (Jd fun _ hK3 _=>(Jd fun _ hK4 _=>(Jb ?_))))))))))))))));refine Jg (Jq u42 rfl sz40 rfl) rfl (Jg (Jv rfl (.s .z) rfl pl40) rfl (Jg (Jr u40 rfl rfl) rfl (Jg (Jc rfl) rfl (Jf (Ja (hK4 (Jx (JP (σ:=Nat) (fun (k:Nat)=>[(10,.int .i64 (k:Int))]) (fun (k:Nat)=>H) (fun (k:Nat)=>osum bm6 (toS (ts.take k))::obj g1 (.cells [.slice qts ts.length cts].toArray 42 (0,0))::L) (fun (k:Nat)=>k≤ts.length) (fun (k:Nat)=>ts.length - k) 0 (by omega) ⟨rfl,trivial⟩ rfl rfl ?_))))))));rintro k hI _ hAg0;refine Jd fun _ hK5 _=>(Jb (Jg (JZ rfl rfl) rfl (Jf (Ja (hK5 (Jd fun _ hK6 _=>(Jp rfl (fun hc11=>?_) (fun hc11=>?_))))))))
 ·
  refine Jo (Ja (hK6 (Jd fun _ hK7 _=>(Jx (Jd fun _ hK8 _=>(Jb (Jg (EA u40 sz89 rfl rfl rfl (by omega) hts.sm) rfl (Jg (JT rfl (hts.cell _ (by omega)) (hts.sm (i:=k) (by omega)) (by rw [Term.c_length (hts.wf _ (by omega))];exact ag89)) rfl (JG (cs:=(default:Term).c) ze89 rfl fun g5=>(J.stTerm rfl rfl sz89 zero_wf (hts.wf k (by omega)) At.z (Jf (Ja (hK8 (Ev [[], [], [1], [2], [], [4]] (by kernel_rfl) (JB (fun gh=>Jc rfl) (JB (fun gh=>Jq u89 rfl sz87 rfl) ?_))))))))))))))));refine JB (fun gh=>Ke rfl At.z (hts.wf k (by omega)) ag87) (ES fn96 (fun gh=>rfl) (fun w X hH=>powerOf_c (hts.wf k (by omega)).mono hH) (JB (fun gh=>Jq u89 rfl sz2 rfl) (JB (fun gh=>PR.ldFac rfl At.z (hts.wf k (by omega)) pl2) (Ee 6 1 foll0 (by kernel_rfl) rfl rfl fun gh=>(Eu (us':=(14,_)::(15,_)::(16,_)::(17,_)::(18,_)::(19,_)::_) (L':=_) rfl rfl (J.putP pwK u83 rfl rfl rfl (pwOk_of (Mono.pok (hts.wf k (by omega)).mono) (by decide)) (toS_put hk (by omega)) (.s .z) (Jf (Ef (Ej (JJ (Ja (hK7 (Jb (Jg (JF rfl rfl (by first | exact nw _ (by omega) | rfl)) rfl (Jg (Jc rfl) rfl ?_)))))))))))))));refine Jf (Ja (JC .z ?_));exact hAg0 (k+1) (by omega) (by omega) 13 rfl rfl ⟨rfl,trivial⟩ rfl rfl
 ·
  refine JR (Jw (Jw (JY (Ja (hK3 (Jd fun _ hK9 _=>(Jb (Jg (Jc rfl) rfl (Jg (Je rfl) rfl (Jf (Ja (hK9 (Jt (Jy rfl (Res.tmp rfl) fun w hH=>?_))))))))))))));replace hH:=hH.sublist (.cons_cons _ (.cons _ (List.Sublist.refl _)))
  obtain rfl:k=ts.length:=by omega
  rw [List.take_length] at hH;exact ⟨_,rfl,hH⟩
theorem u131:Tryz.prog.underlying 131=some (TypeDesc.array 8 83):=by kernel_rfl
theorem sz131:Size Tryz.prog 131 8:=by unfold Size;kernel_rfl
theorem sz25:Size Tryz.prog 25 1:=by unfold Size;kernel_rfl
theorem sz83:Size Tryz.prog 83 1:=by unfold Size;kernel_rfl
theorem ze131:Zero Tryz.prog 131 [.map none,.map none,.map none,.map none,.map none,.map none,.map none,.map none]:=by unfold Zero;kernel_rfl
theorem bz131 : ∀w,(Instr.build 131 #[]).run Tryz.prog w = .ok (.agg [.map none,.map none,.map none,.map none,.map none,.map none,.map none,.map none].toArray) w:=fun _=>by kernel_rfl
theorem pl25:Plain Tryz.prog 25:=⟨_,u25,rfl⟩
theorem ag131:Agg Tryz.prog 131 8:=⟨_,u131,rfl,by kernel_rfl⟩
theorem ag42:Agg Tryz.prog 42 1:=⟨_,u42,rfl,by kernel_rfl⟩
theorem fn60:Fn Tryz.prog 60:=⟨_,Tryz.func60,by kernel_rfl,rfl⟩
def CellAt (H:HP) (b k:Nat) (v:Value):Prop:=cellO H (some ⟨b,0,none⟩) k=some v
theorem CellAt.le {H H':HP} {b k:Nat} {v:Value} (h:CellAt H b k v) (hle:Le H H'):CellAt H' b k v:=cellO_le hle h
def imgs (bs:Nat→Nat) (ss:Nat→Sm) (n:Nat):SA where
 fp:=fun b=>∃i,i<n∧b=bs i
 holds:=fun h=>∀i,i<n→∃es clock,h (bs i)=some (.map es clock)∧EntOk pwE (Value.int .i64) pwOk es clock (ss i)
 loc:=fun h h' hb hh i hi=>by
  obtain ⟨es,clock,h1,h2⟩:=hh i hi
  exact ⟨es,clock,by rw [← hb (bs i) ⟨i,hi,rfl⟩];exact h1,h2⟩
def updN (bs:Nat→Nat) (n b:Nat):Nat→Nat:=fun i=>if i=n then b else bs i
theorem imgs_H {bs:Nat→Nat} {ss:Nat→Sm} {n:Nat} {h:HP} (hh:(imgs bs ss n).holds h) {i:Nat} (hi:i<n):SumH h (.map (some (bs i))) (ss i):=by
 obtain ⟨es,clock,h1,h2⟩:=hh i hi;exact ⟨bs i,es,clock,rfl,h1,h2⟩
section
variable {P : Program} {ops : Array Oper} {Q : Exit → Act → World → Prop} {n : Nat} {B : World} {H0 H : HP} {rest : List Oper} {us : List (Nat × Value)} {L L' : List SA} {R : Act → World → Prop}
theorem EJ.im0 (bs:Nat→Nat) (ss:Nat→Sm) (k:EJ R n B H0 us H (imgs bs ss 0::L)):EJ R n B H0 us H L:=fun a w hF hH=>k a w hF (hH.emp.reAt .z (fun i hi=>by omega) fun b hb=>by obtain ⟨i,hi,_⟩:=hb;omega)
theorem J.im0 (bs:Nat→Nat) (ss:Nat→Sm) (k:J P ops Q n B H0 rest us H (imgs bs ss 0::L)):J P ops Q n B H0 rest us H L:=fun a w hF hH=>k a w hF (hH.emp.reAt .z (fun i hi=>by omega) fun b hb=>by obtain ⟨i,hi,_⟩:=hb;omega)
theorem EJ.imSnoc {b m:Nat} {s:Sm} {bs:Nat→Nat} {ss:Nat→Sm} (hs:ss m=s) (k:EJ R n B H0 us H (imgs (updN bs m b) ss (m+1)::L)):EJ R n B H0 us H (osum b s::imgs bs ss m::L):=fun a w hF hH=>by
 have h1:=hH.star
 obtain ⟨⟨hA,hC,_⟩,_⟩:=h1.objs (star (osum b s) (imgs bs ss m)) (by simp)
 refine k a w hF (h1.reAt .z (fun i hi=>?_) fun x hx=>?_)
 ·by_cases e:i=m
  ·obtain ⟨es,clock,h2,h3⟩:=hA
   exact ⟨es,clock,by simpa [updN,e] using h2,by rw [e,hs];exact h3⟩
  ·obtain ⟨es,clock,h2,h3⟩:=hC i (by omega)
   exact ⟨es,clock,by simpa [updN,e] using h2,h3⟩
 ·obtain ⟨i,hi,rfl⟩:=hx
  by_cases e:i=m
  ·left
   show updN bs m b i=b
   simp [updN,e]
  ·right
   exact ⟨i,by omega,by simp [updN,e]⟩
theorem J.fixA {A:SA} (hr:Rm L A L') (k : ∀H',Le H H' →A.holds H' →J P ops Q n B H0 rest us H' L'):J P ops Q n B H0 rest us H L:=fun a w hF hH=>hH.lend hr fun H' h1 h2 _ h4=>k H' h1 h2 a w hF h4
theorem EJ.fixA {A:SA} (hr:Rm L A L') (k : ∀H',Le H H' →A.holds H' →EJ R n B H0 us H' L'):EJ R n B H0 us H L:=fun a w hF hH=>hH.lend hr fun H' h1 h2 _ h4=>k H' h1 h2 a w hF h4
end
def imgK (bs:Nat→Nat) (k:Nat):List Value:=(List.range 8).map fun i=>if i<k then .map (some (bs i)) else .map none
@[simp] theorem imgK_len (bs:Nat→Nat) (k:Nat):(imgK bs k).length=8:=by simp [imgK]
theorem imgK_one (bs:Nat→Nat) (k:Nat) : ∀u∈imgK bs k,u.oneCell'=true:=by
 intro u hu;obtain ⟨i,_,rfl⟩:=List.mem_map.1 hu
 split <;> rfl
theorem imgK_get {bs:Nat→Nat} {k i:Nat} (h:i<8) (hk:i<k):(imgK bs k)[i]? = some (.map (some (bs i))):=by
 simp [imgK,h,hk]
theorem imgK_zero (bs:Nat→Nat):imgK bs 0=[.map none,.map none,.map none,.map none,.map none,.map none,.map none,.map none]:=by
 simp [imgK]
 rfl
theorem imgK_set {bs:Nat→Nat} {k b:Nat} (hk:k<8):(imgK bs k).set k (.map (some b))=imgK (updN bs k b) (k+1):=by
 apply List.ext_getElem?;intro i
 rcases Nat.lt_or_ge i 8 with hi | hi
 ·by_cases e:k=i
  ·subst e;rw [List.getElem?_set_self (by simp [hk])]
   simp [imgK,hi,updN]
  ·rw [List.getElem?_set_ne e]
   have:(i<k+1)↔i<k:=by omega
   simp [imgK,hi,updN,this,Ne.symm e]
 ·rw [List.getElem?_eq_none (by simp;omega),List.getElem?_eq_none (by simp;omega)]
def Fok (M:Int) (fs:List (List Term)):Prop:=∀i,i<fs.length→Sok M (toS (fm fs i))∧(fm fs i).length≤9223372036854775807
theorem images_c {B:World} {H0 H:HP} {L:List SA} {w:World} {ba:Nat} {qad qaf:Option Addr} {cad caf:Nat} {ad:List Int} {af:List (List Term)} {Mi:Int} (pad:CellAt H ba 0 (.slice qad ad.length cad)) (paf:CellAt H ba 1 (.slice qaf af.length caf)) (had:Ints H qad ad) (haf:Forms H qaf af) (hf:Fok Mi af) (hn:af.length≤8) (hH:Hp B H0 H L w):Calls Tryz.prog 99 [.pointer (some ⟨ba,0,none⟩)].toArray w fun e w'=>∃bs:Nat→Nat,e = .returned (.agg (imgK bs af.length).toArray)∧Hp B H0 H (imgs bs (fun i=>toS (fm af i)) af.length::L) w':=by
 refine JD Tryz.func99 rfl 23 rfl rfl [(0,.pointer (some ⟨ba,0,none⟩))] rfl hH ?_;clear hH;refine Jd fun _ hK1 _=>(Jb (JG ze131 rfl fun g2=>(Jf (Ja (hK1 (Jd fun _ hK2 _=>(Jb (Jg (JQ bz131) rfl (JG ze131 rfl fun g3=>(Jk rfl rfl (by simp [Value.oneCell']) sz131 (by simp) .z (J.im0 (fun _=>0) (fun i=>toS (fm af i)) (Jf (Ja (hK2 (Jd fun _ hK3 _=>(Jd fun _ hK4 _=>?_))))))))))))))));refine Jb (Jg (Jc rfl) rfl (Jg (Eh rfl) rfl (Jg (Jq u27 rfl sz25 rfl) rfl (Jg (JX (q:=some ⟨ba,0,none⟩) (k:=1) rfl paf pl25) rfl (Jg (Jr u25 rfl rfl) rfl (Jg (Jc rfl) rfl (Jf (Ja (hK4 (Jx (JP (σ:=Nat × (Nat→Nat)) (fun ⟨k,bs⟩=>[(12,.int .i64 (k:Int))]) (fun ⟨k,bs⟩=>H) (fun ⟨k,bs⟩=>imgs bs (fun i=>toS (fm af i)) k::obj g3 (.cells (imgK bs k).toArray 131 (0,0))::obj g2 (.cells (imgK (fun _=>0) 0).toArray 131 (0,0))::L) (fun ⟨k,bs⟩=>k≤af.length) (fun ⟨k,bs⟩=>af.length - k) (0,fun _=>0) (by omega) ⟨rfl,trivial⟩ rfl (by simp only [imgK_zero]) ?_)))))))))));rintro ⟨k,bs⟩ hI _ hAg0;have hk:=hI;refine Jd fun _ hK5 _=>(Jb (Jg (JZ rfl rfl) rfl (Jf (Ja (hK5 (Jd fun _ hK6 _=>(Jp rfl (fun hc13=>?_) (fun hc13=>?_))))))))
 ·
  refine Jo (Ja (hK6 (Jd fun _ hK7 _=>(Jx (Jd fun _ hK8 _=>(Jb (Jg (Jc rfl) rfl (Jg (Eg u25 sz42 rfl rfl rfl (by omega) haf.sm) rfl ?_))))))));obtain ⟨qe16,ce16,he16,le16,Fe16⟩:=haf k (by omega);refine Jg (JT (cs:=[_]) rfl (one_cell he16) (haf.sm (i:=k) (by omega)) ag42) rfl (JG ze42 rfl fun g5=>(Jg (Je rfl) rfl (Jk rfl rfl (by first | exact bytesC_one _ | exact intsC_one _ | exact Term.c_one _ | simp [Value.oneCell']) (by simpa [*] using sz42) (by simp [*]) At.z (Jf (Ja (hK8 (Jb (Jg (Jc rfl) rfl (Jg (Jl rfl At.z (by simpa [*] using ag42)) rfl (Jz fn60 rfl rfl fun w hH=>(sumOf_c Fe16 (hf k (by omega)).1 (hf k (by omega)).2 hH).mono ?_))))))))));rintro _ w ⟨bo19,rfl,hH⟩;refine ⟨_,rfl,fun a hF=>JL hF hH ?_⟩;refine Jg (Ea u131 sz83 rfl rfl rfl (by omega)) rfl (Ez rfl rfl rfl rfl sz83 (by simp;omega) (.s (.s (.s .z))) (Jf (JJ (Ja (hK7 (Jb (Jg (JF rfl rfl (by first | exact nw _ (by omega) | rfl)) rfl (Jg (Jc rfl) rfl (Jf (Ja (Ji (.s (.s (.s (.s .z)))) (Ji (.s (.s (.s (.s .z)))) (Ji (.s (.s (.s .z))) (Ji (.s (.s (.s (.s .z)))) (Ji (.s (.s (.s (.s .z)))) ?_)))))))))))))));refine EJ.imSnoc rfl (JC (.s .z) ?_);exact hAg0 (k+1,updN bs k bo19) (show k+1≤af.length by omega) (show af.length - (k+1)<af.length - k by omega) 13 rfl rfl ⟨rfl,trivial⟩ rfl (by simp only [imgK_set (show k<8 by omega)])
 ·
  refine JR (Jw (Jw (JY (Ja (hK3 (Jd fun _ hK9 _=>(Jb (Jg (Jl rfl (.s .z) (by simpa using ag131)) rfl (Jk rfl rfl (imgK_one _ _) (by simpa using sz131) (by simp) (.s (.s .z)) (Jf (Ja (hK9 (Jt (Jy rfl (Res.agg rfl (.s (.s .z)) (by simpa using ag131)) fun w hH=>?_))))))))))))));replace hH:=hH.sublist (.cons_cons _ (.cons _ (.cons _ (List.Sublist.refl _))))
  obtain rfl:k=af.length:=by omega
  exact ⟨bs,rfl,hH⟩
theorem sz24:Size Tryz.prog 24 1:=by unfold Size;kernel_rfl
theorem pl24:Plain Tryz.prog 24:=⟨_,u24,rfl⟩
theorem pl83:Plain Tryz.prog 83:=⟨_,u83,rfl⟩
theorem fn100:Fn Tryz.prog 100:=⟨_,Tryz.func100,by kernel_rfl,rfl⟩
theorem fn101:Fn Tryz.prog 101:=⟨_,Tryz.func101,by kernel_rfl,rfl⟩
theorem fn99:Fn Tryz.prog 99:=⟨_,Tryz.func99,by kernel_rfl,rfl⟩
def aheadP (p:Pw) (i:Nat):Pw:=(List.range 8).map fun j=>if j<i then p.getD j 0 else 0
def leftP (p:Pw) (i:Nat):Pw:=(aheadP p i).set i (p.getD i 0 - 1)
def behP (p:Pw) (k:Nat):Pw:=(List.range 8).map fun j=>if j<k then 0 else p.getD j 0
@[simp] theorem aheadP_len (p:Pw) (i:Nat):(aheadP p i).length=8:=by simp [aheadP]
@[simp] theorem leftP_len (p:Pw) (i:Nat):(leftP p i).length=8:=by simp [leftP]
@[simp] theorem behP_len (p:Pw) (k:Nat):(behP p k).length=8:=by simp [behP]
theorem aheadP_get {p:Pw} {i j:Nat} (h:j<8):(aheadP p i).getD j 0=if j<i then p.getD j 0 else 0:=by simp [aheadP,List.getD_eq_getElem?_getD,h]
theorem behP_get {p:Pw} {k j:Nat} (h:j<8):(behP p k).getD j 0=if j<k then 0 else p.getD j 0:=by simp [behP,List.getD_eq_getElem?_getD,h]
theorem getD_set8 {p:Pw} {i j:Nat} {x:Int}:(p.set i x).getD j 0=if i=j∧i<p.length then x else p.getD j 0:=by
 rw [List.getD_eq_getElem?_getD,List.getD_eq_getElem?_getD,List.getElem?_set]
 by_cases e:i=j
 ·subst e
  by_cases h:i<p.length
  ·simp [h]
  ·simp [h]
 ·simp [e]
theorem list8 {p q:Pw} (hp:p.length=8) (hq:q.length=8) (h : ∀j,j<8→p.getD j 0=q.getD j 0):p=q:=list_eq_of (by omega) fun j hj=>h j (by omega)
theorem aheadP_zero (p:Pw):aheadP p 0=List.replicate 8 0:=list8 (by simp) (by simp) fun j hj=>by
 rw [aheadP_get hj,if_neg (by omega),List.getD_eq_getElem?_getD,List.getElem?_replicate,if_pos hj]
 rfl
theorem aheadP_set {p:Pw} {i:Nat} (hi:i<8):(aheadP p i).set i (p.getD i 0)=aheadP p (i+1):=list8 (by simp) (by simp) fun j hj=>by
 rw [getD_set8,aheadP_get hj,aheadP_get hj]
 by_cases e:i=j
 ·subst e
  rw [if_pos ⟨rfl,by simpa using hi⟩,if_pos (by omega)]
 ·rw [if_neg fun h=>e h.1]
  by_cases h:j<i
  ·rw [if_pos h,if_pos (by omega)]
  ·rw [if_neg h,if_neg (by omega)]
theorem behP_zero {p:Pw} (hp:p.length=8):behP p 0=p:=list8 (by simp) hp fun j hj=>by rw [behP_get hj,if_neg (by omega)]
theorem behP_set {p:Pw} {k:Nat} (hk:k<8):(behP p k).set k 0=behP p (k+1):=list8 (by simp) (by simp) fun j hj=>by
 rw [getD_set8,behP_get hj,behP_get hj]
 by_cases e:k=j
 ·subst e
  rw [if_pos ⟨rfl,by simpa using hk⟩,if_pos (by omega)]
 ·rw [if_neg fun h=>e h.1]
  by_cases h:j<k
  ·rw [if_pos h,if_pos (by omega)]
  ·rw [if_neg h,if_neg (by omega)]
theorem behP_pok {M:Int} {p:Pw} (h:Pok M p) (k:Nat):Pok M (behP p k):=⟨by simp,fun j=>by
 have:=h.bd j
 rcases Nat.lt_or_ge j 8 with hj | hj
 ·rw [behP_get hj]
  split <;> omega
 ·rw [getD_ge (by simp;omega)]
  omega⟩
theorem leftP_pok {M:Int} {p:Pw} (h:Pok M p) {i:Nat} (hi:0<p.getD i 0):Pok M (leftP p i):=⟨by simp,fun j=>by
 have h1:=h.bd j
 have h2:=h.bd i
 unfold leftP
 rw [getD_set8]
 split
 ·omega
 ·rcases Nat.lt_or_ge j 8 with hj | hj
  ·rw [aheadP_get hj]
   split <;> omega
  ·rw [getD_ge (by simp;omega)]
   omega⟩
def dsg (ds p:Pw):Nat→Int
 | 0=>1
 | i+1=>if i<ds.length∧(ds.getD i 0).tmod 2=1∧(p.getD i 0).tmod 2=1 then 0 - dsg ds p i else dsg ds p i
theorem dsg_bd (ds p:Pw) : ∀i:Nat, -1≤dsg ds p i∧dsg ds p i≤1
 | 0=>by simp [dsg]
 | i+1=>by
  have:=dsg_bd ds p i
  simp only [dsg]
  split <;> omega
theorem dsg_yes {ds p:Pw} {i:Nat} (h1:(i:Int)<ds.length) (h2:(ds.getD i 0).tmod 2=1) (h3:(p.getD i 0).tmod 2=1):0 - dsg ds p i=dsg ds p (i+1):=by simp only [dsg];rw [if_pos ⟨by omega,h2,h3⟩]
theorem dsg_no {ds p:Pw} {i:Nat} (h : ¬((i:Int)<ds.length∧(ds.getD i 0).tmod 2=1∧(p.getD i 0).tmod 2=1)):dsg ds p i=dsg ds p (i+1):=by simp only [dsg];rw [if_neg fun h'=>h ⟨by omega,h'.2⟩]
def dT (ds:Pw) (im:Sm) (p:Pw) (i:Nat):Sm:=timesS ds (timesS ds [(leftP p i,1)] im) [(behP p (i+1),1)]
def dP (ds:Pw) (fs:List (List Term)) (x:Pw × Int) (i:Nat):Sm:=if 0<x.1.getD i 0 then scl (dT ds (toS (fm fs i)) x.1 i) (fld (dsg ds x.1 i * x.2 * x.1.getD i 0)) else []
def dLk (ds:Pw) (fs:List (List Term)) (x:Pw × Int) (k:Nat):Sm:=(List.range k).flatMap (dP ds fs x)
def dAll (ds:Pw) (fs:List (List Term)) (s:Sm):Sm:=s.flatMap fun x=>dLk ds fs x 8
def dS (ds:Pw) (fs:List (List Term)) (s:Sm):Sm:=acc [] (dAll ds fs s)
theorem dLk_succ (ds:Pw) (fs:List (List Term)) (x:Pw × Int) (k:Nat):dLk ds fs x (k+1)=dLk ds fs x k++dP ds fs x k:=by
 unfold dLk;rw [List.range_succ,List.flatMap_append]
 simp
theorem dT_sok {ds:Pw} {im:Sm} {p:Pw} {i:Nat} {M N:Int} (hp:Pok M p) (hi:0<p.getD i 0) (hm:Sok N im):Sok (M+N+M) (dT ds im p i):=
 ((Sok.one (leftP_pok hp hi) (by omega)).times hm).times (Sok.one (behP_pok hp (i+1)) (by omega))
theorem dP_pok {ds:Pw} {fs:List (List Term)} {x:Pw × Int} {i:Nat} {M N:Int} (hp:Pok M x.1) (hf:Fok N fs) (hz:0<x.1.getD i 0→i<fs.length) : ∀z∈dP ds fs x i,Pok (M+N+M) z.1:=fun z hz'=>by
 unfold dP at hz'
 split at hz'
 ·rename_i h
  exact scl_pok (dT_sok hp h (hf i (hz h)).1) _ z hz'
 ·simp at hz'
theorem dLk_pok {ds:Pw} {fs:List (List Term)} {x:Pw × Int} {k:Nat} {M N:Int} (hp:Pok M x.1) (hf:Fok N fs) (hz : ∀i,0<x.1.getD i 0→i<fs.length) : ∀z∈dLk ds fs x k,Pok (M+N+M) z.1:=fun z hz'=>by
 obtain ⟨i,_,h⟩:=List.mem_flatMap.1 hz'
 exact dP_pok hp hf (hz i) z h
def Occ (n:Nat) (s:Sm):Prop:=∀x∈s,∀i,0<x.1.getD i 0→i<n
theorem dAll_pok {ds:Pw} {fs:List (List Term)} {s:Sm} {M N:Int} (hs:Sok M s) (hf:Fok N fs) (ho:Occ fs.length s) : ∀z∈dAll ds fs s,Pok (M+N+M) z.1:=fun z hz=>by
 obtain ⟨x,hx,h⟩:=List.mem_flatMap.1 hz
 exact dLk_pok (hs.key x hx) hf (ho x hx) z h
theorem dS_sok {ds:Pw} {fs:List (List Term)} {s:Sm} {M N:Int} (hs:Sok M s) (hf:Fok N fs) (ho:Occ fs.length s):Sok (M+N+M) (dS ds fs s):=Sok.nil.acc (dAll_pok hs hf ho)
theorem dAll_mid {ds:Pw} {fs:List (List Term)} {l1 l2:Sm} {x:Pw × Int}:(dAll ds fs (l1++x::l2)).Perm (dLk ds fs x 8++dAll ds fs (l1++l2)):=by
 have h:(dAll ds fs (l1++x::l2)).Perm (dAll ds fs (x::(l1++l2))):=(List.perm_middle).flatMap_right _;exact h
theorem acc_dP {ds:Pw} {fs:List (List Term)} {x:Pw × Int} {k:Nat} {dn:Sm} (h:0<x.1.getD k 0):acc (acc [] (dn++dLk ds fs x k)) (scl (dT ds (toS (fm fs k)) x.1 k) (fld (dsg ds x.1 k * x.2 * x.1.getD k 0)))=acc [] (dn++dLk ds fs x (k+1)):=by
 rw [dLk_succ,← List.append_assoc,acc_app _ (dn++dLk ds fs x k)];unfold dP;rw [if_pos h]
theorem acc_dN {ds:Pw} {fs:List (List Term)} {x:Pw × Int} {k:Nat} (h : ¬0<x.1.getD k 0):dLk ds fs x k=dLk ds fs x (k+1):=by
 rw [dLk_succ];unfold dP;rw [if_neg h,List.append_nil]
theorem d_c {B:World} {H0 H:HP} {L:List SA} {w:World} {ba:Nat} {qad qaf:Option Addr} {cad caf:Nat} {ad:List Int} {af:List (List Term)} {vs:Value} {Ms:Int} {s:Sm} {Mi:Int} (pad:CellAt H ba 0 (.slice qad ad.length cad)) (paf:CellAt H ba 1 (.slice qaf af.length caf)) (had:Ints H qad ad) (haf:Forms H qaf af) (hs:SumH H vs s) (ks:Sok Ms s) (hn:ad.length≤8) (hd : ∀j,0≤ad.getD j 0∧ad.getD j 0≤12) (hf:Fok Mi af) (hl:af.length=ad.length) (ho:Occ af.length s) (hM:0≤Mi∧Ms+Mi+Ms≤1000000) (hH:Hp B H0 H L w):Calls Tryz.prog 59 [.pointer (some ⟨ba,0,none⟩),vs].toArray w fun e w'=>∃b,e = .returned (.map (some b))∧Hp B H0 H (osum b (dS ad af s)::L) w':=by
 refine JD Tryz.func59 rfl 107 rfl rfl [(0,.pointer (some ⟨ba,0,none⟩)),(1,vs)] rfl hH ?_;have hw0:=hH.old;have hw1:=hH.le;clear hH;refine Jd fun _ hK1 _=>(Jb (Jg (Je rfl) rfl (Jf (Ja (hK1 (Jd fun _ hK2 _=>(Jb (J.makeMap pwE (Value.int .i64) pwOk rfl fun bm17=>(Jg (Jc rfl) rfl (Jz fn99 rfl rfl fun w hH=>(images_c pad paf had haf hf (by omega) hH).mono ?_))))))))));rintro _ w ⟨bs19,rfl,hH⟩;refine ⟨_,rfl,fun a hF=>JL hF hH ?_⟩;refine JG ze131 rfl fun g6=>(Jg (Je rfl) rfl (Jk rfl rfl (imgK_one _ _) (by simpa using sz131) (by simp) .z (J.fixA (.s .z) fun H6 hle6 hA6=>?_)));replace pad:=pad.le hle6;replace paf:=paf.le hle6;replace had:=had.le hle6;replace haf:=haf.le hle6;replace hs:=hs.le hle6;obtain ⟨bs,ess,cls,rfl,hbs,hes⟩:=hs;have hs:SumH H6 (.map (some bs)) s:=⟨bs,ess,cls,rfl,hbs,hes⟩;refine Jf (Ja (hK2 (Jd fun _ hK3 _=>(Jd fun _ hK4 _=>(Jb (Jg (Jc rfl) rfl (J.range u83 rfl hbs hes rfl fun r21=>(Jf (Ja (hK4 (Jx (JP (σ:=Option (Pw × Int) × Sm × Sm) (fun ⟨la,ls,dn⟩=>[]) (fun ⟨la,ls,dn⟩=>H6) (fun ⟨la,ls,dn⟩=>itr pwE (Value.int .i64) bs ess cls r21 la ls::obj g6 (.cells (imgK bs19 af.length).toArray 131 (0,0))::osum bm17 (acc [] (dn))::L) (fun ⟨la,ls,dn⟩=>(dn++dAll ad af ls).Perm (dAll ad af s)∧∀x∈ls,x∈s) (fun ⟨la,ls,dn⟩=>ls.length) (none,s, []) ⟨List.Perm.refl _,fun _ h=>h⟩ trivial rfl rfl ?_))))))))))));rintro ⟨la,ls,dn⟩ hI _ hAg0;have k0:Sok (Ms+Mi+Ms) (acc [] dn):=Sok.nil.acc fun x hx=>dAll_pok ks hf ho x (hI.1.mem_iff.1 (by simp [hx]));refine Jd fun _ hK5 _=>(Jb (J.next rfl hbs hes (fun _ _=>At.z) rfl (fun hE22=>?_) (fun nx22 la22 lb22 hL22=>?_)))
 ·
  refine Jg (JA rfl rfl) rfl (Jf (Ja (hK5 (Jd fun _ hK6 _=>(Ey rfl (JR (Jw (Jw (JY (Ja (hK3 (Jd fun _ hK7 _=>(Jb (Jg (Jc rfl) rfl (Jg (Je rfl) rfl (Jf ?_))))))))))))))));refine Ja (hK7 (Jt (Jy rfl (Res.tmp rfl) fun w hH=>?_)));replace hH:=hH.sublist (.cons _ (.cons _ (.cons_cons _ (List.Sublist.refl _))));have hp9:=perm_nil hI.1 (by rw [hE22];rfl);have e9:acc [] dn=dS ad af s:=acc_perm Sok.nil (fun x hx=>dAll_pok ks hf ho x (hp9.mem_iff.1 hx)) hp9;rw [e9] at hH;exact ⟨_,rfl,hH.weaken hle6 hw0 hw1⟩
 ·
  subst hL22;have hu:=hI.2 nx22 (by simp);have hup:=ks.key nx22 hu;have hu8:=hup.len;have hv:=ks.val nx22 hu;have hu0:=hup.bd 0;refine Jg (JA rfl rfl) rfl (Jf (Ja (hK5 (Jd fun _ hK8 _=>(Ep rfl (Jo (Ja (hK8 (Jx (Jd fun _ hK9 _=>(Jb (Jg (PR.entry rfl hbs hes At.z) rfl (Jg (JA rfl rfl) rfl (Jg (JA rfl rfl) rfl (JG ze127 rfl fun g7=>(Jk rfl rfl (by first | exact bytesC_one _ | exact intsC_one _ | exact Term.c_one _ | simp [Value.oneCell']) (by simpa [*] using sz127) (by simp [*]) At.z ?_))))))))))))))));refine Jg (Je rfl) rfl (Jf (Ja (hK9 (Jd fun _ hK10 _=>(Jb (Jg (JQ bz127) rfl (JG ze127 rfl fun g9=>(Jk rfl rfl (by first | exact bytesC_one _ | exact intsC_one _ | exact Term.c_one _ | simp [Value.oneCell']) (by simpa [*] using sz127) (by simp [*]) At.z (Jg (Je rfl) rfl (Jf (Ja (hK10 (Jd fun _ hK11 _=>(Jb (Jg (Jl rfl (.s .z) (by simpa [*] using ag127)) rfl (Jg (Jc rfl) rfl ?_))))))))))))))));refine Jf (Ja (hK11 (Jx (JP (σ:=Nat) (fun (i:Nat)=>[(29,.int .i64 (i:Int)),(10,.int .i64 (dsg ad nx22.1 i))]) (fun (i:Nat)=>H6) (fun (i:Nat)=>obj g9 (.cells (intsC (aheadP nx22.1 i)).toArray 127 (0,0))::obj g7 (.cells (intsC nx22.1).toArray 127 (0,0))::itr pwE (Value.int .i64) bs ess cls r21 (some nx22) (la22++lb22)::obj g6 (.cells (imgK bs19 af.length).toArray 131 (0,0))::osum bm17 (acc [] (dn++dLk ad af nx22 i))::L) (fun (i:Nat)=>i≤8) (fun (i:Nat)=>8 - i) 0 (by omega) ⟨rfl,⟨rfl,trivial⟩⟩ rfl (by simp only [aheadP_zero,dLk,List.range_zero,List.flatMap_nil,List.append_nil];rfl) ?_))));rintro i hi _ hAg1
  have k1:Sok (Ms+Mi+Ms) (acc [] (dn++dLk ad af nx22 i)):=Sok.nil.acc fun x hx=>by
   rcases List.mem_append.1 hx with h | h
   ·exact dAll_pok ks hf ho x (hI.1.mem_iff.1 (by simp [h]))
   ·exact dLk_pok hup hf (ho nx22 hu) x h
  have sb:=dsg_bd ad nx22.1 i;have eb:=hup.bd i;refine Jd fun _ hK12 _=>(Jb (Jg (JZ rfl rfl) rfl (Jf (Ja (hK12 (Jd fun _ hK13 _=>(Jp rfl (fun hc30=>?_) (fun hc30=>?_))))))))
  ·
   refine Jo (Ja (hK13 (Jd fun _ hK14 _=>(Jx (Jd fun _ hK15 _=>(Jb (Jg (Jc rfl) rfl (Jg (PR.index u127 sz3 pl3 rfl rfl rfl (by omega) (intsC_get (by omega))) rfl (Jg (Je rfl) rfl (Jg (Je rfl) rfl (Jf (Ja (hK15 (EL (σ:=Unit) (fun (_:Unit)=>[(11,.int .i64 (i:Int)),(12,.int .i64 (nx22.1.getD i 0))]) (fun (_:Unit)=>H6) (fun (_:Unit)=>obj g9 (.cells (intsC (aheadP nx22.1 i)).toArray 127 (0,0))::obj g7 (.cells (intsC nx22.1).toArray 127 (0,0))::itr pwE (Value.int .i64) bs ess cls r21 (some nx22) (la22++lb22)::obj g6 (.cells (imgK bs19 af.length).toArray 131 (0,0))::osum bm17 (acc [] (dn++dLk ad af nx22 (i+1)))::L) (fun (_:Unit)=>True) ?_ ?_))))))))))))))
   ·
    intro _ hMt1;refine Jd fun _ hK16 _=>(Jb (Jg (Jc rfl) rfl (Jg (Eq rfl rfl) rfl (Jf (Ja (hK16 (Jp rfl (fun h34=>?_) (fun h34=>?_))))))))
    ·
     have hil:=ho nx22 hu i h34;have hlp:=leftP_pok hup h34;have hbp:=behP_pok hup (i+1);have hts:=dT_sok (ds:=ad) hup h34 (hf i hil).1;have mb:=mul_sb (b:=nx22.2) (B:=10006) sb (by omega);have mb2:=mul_sb (b:=nx22.1.getD i 0) (B:=1000000) mb (by omega);have fb:=fld_bd (dsg ad nx22.1 i * nx22.2 * nx22.1.getD i 0);refine Jd fun _ hK17 _=>(Jb (Jg (Jl rfl (.s .z) (by simpa [*] using ag127)) rfl (JG ze127 rfl fun g13=>(Jk rfl rfl (by first | exact bytesC_one _ | exact intsC_one _ | exact Term.c_one _ | simp [Value.oneCell']) (by simpa [*] using sz127) (by simp [*]) At.z (Jf (Ja (hK17 (Jd fun _ hK18 _=>(Jd fun _ hK19 _=>(Jb (Jg (Jc rfl) rfl (Jg (JF rfl rfl (by first | exact nw _ (by omega) | rfl)) rfl (Jg (Jc rfl) rfl (Jf (Ja (hK19 ?_))))))))))))))));refine Jx (JP (σ:=Nat) (fun (k:Nat)=>[(38,.int .i64 (k:Int))]) (fun (k:Nat)=>H6) (fun (k:Nat)=>obj g13 (.cells (intsC (behP nx22.1 k)).toArray 127 (0,0))::obj g9 (.cells (intsC (aheadP nx22.1 i)).toArray 127 (0,0))::obj g7 (.cells (intsC nx22.1).toArray 127 (0,0))::itr pwE (Value.int .i64) bs ess cls r21 (some nx22) (la22++lb22)::obj g6 (.cells (imgK bs19 af.length).toArray 131 (0,0))::osum bm17 (acc [] (dn++dLk ad af nx22 i))::L) (fun (k:Nat)=>k≤i+1) (fun (k:Nat)=>i+1 - k) 0 (by omega) ⟨rfl,trivial⟩ rfl (by rw [behP_zero hu8]) ?_);rintro k hI _ hAg2;refine Jd fun _ hK20 _=>(Jb (Jg (JZ rfl rfl) rfl (Jf (Ja (hK20 (Jd fun _ hK21 _=>(Jp rfl (fun h39=>?_) (fun h39=>?_))))))))
     ·
      refine Jo (Ja (hK21 (Jd fun _ hK22 _=>(Jx (Jd fun _ hK23 _=>(Jb (Jg (Jc rfl) rfl (Jg (Je rfl) rfl (Jf (Ja (hK23 (Jb (Jg (Jc rfl) rfl (Jg (Ea u127 sz3 rfl rfl rfl (by omega)) rfl (J.storeI rfl rfl sz3 (by simp;omega) At.z (Jf ?_))))))))))))))));refine JJ (Ja (hK22 (Jb (Jg (JF rfl rfl (by first | exact nw _ (by omega) | rfl)) rfl (Jg (Jc rfl) rfl (Jf (Ja ?_)))))));exact hAg2 (k+1) (by omega) (by omega) 8 rfl rfl ⟨rfl,trivial⟩ rfl (by simp only [behP_set (show k<8 by omega)])
     ·
      obtain rfl:k=i+1:=by omega
      refine JR (Jw (Jw (JY (Ja (hK18 (Jd fun _ hK24 _=>(Jb (Jg (Jl rfl (.s .z) (by simpa [*] using ag127)) rfl (JG ze127 rfl fun g15=>(Jk rfl rfl (by first | exact bytesC_one _ | exact intsC_one _ | exact Term.c_one _ | simp [Value.oneCell']) (by simpa [*] using sz127) (by simp [*]) At.z (Jf (Ja (hK24 (Jd fun _ hK25 _=>(Jb (Jg (Jc rfl) rfl ?_))))))))))))))));refine Jg (Jc rfl) rfl (Jg (ET rfl rfl (by first | exact nw _ (by omega) | rfl)) rfl (Jg (Ea u127 sz3 rfl rfl rfl (by omega)) rfl (J.storeI rfl rfl sz3 (by simp;omega) At.z (Jf (Ja (hK25 (Jd fun _ hK26 _=>(Ed (Rs:=[_,_,_,_,_,_,_]) 22 [[], [], [0,1], [0,1,2], [], [4], [4,5], [4,5,6], [], [8], [8,9], [0,1,2,3,4,5,6,7,8,9,10], [], [12], [12,13], [12,13,14], [], [], [16,17], [16,17,18], [0,1,2,3,4,5,6,7,8,9,10,11,12,13,14,15,16,17,18,19], [0,1,2,3,4,5,6,7,8,9,10,11,12,13,14,15,16,17,18,19,20]] [[], [22], [], [], [], [], [], [], [], [], [27], [2], [], [], [], [], [], [23], [], [], [11,18], []] [[], [], [0], [], [], [], [], [], [], [], [], [], [], [], [], [], [], [], [16], [], [], []] rfl rfl (by kernel_rfl) ?_))))))));apply Eb 1 rfl
      iterate 3 focus (intros;(conv=>lhs;simp only [Jh,Js,JO,Ju,JI,eq_self,reduceEqDiff,reduceIte,reduceSub,reduceAdd,JxA,JxB]);all_goals rfl)
      ·
       intro gh X K zq zc zq2 zc2 zb zv hK;refine J.makeMap pwE (Value.int .i64) pwOk rfl fun bm49=>(Jj ?_);exact hK zq zc zq2 zc2 bm49 zv
      ·
       intro gh gh' h;refine ⟨?_,?_⟩ <;> rfl
      apply Jm 2 rfl
      iterate 3 focus (intros;(conv=>lhs;simp only [Jh,Js,JO,Ju,JI,eq_self,reduceEqDiff,reduceIte,reduceSub,reduceAdd,JxA,JxB]);all_goals rfl)
      ·
       intro gh X K zq zc zq2 zc2 zb zv hK;refine Jg (Jl rfl At.z (by simpa using ag127)) rfl (Jj ?_);exact hK zq zc zq2 zc2 zb zv
      ·
       intro gh gh' h
       rfl
      apply Es 3 rfl
      iterate 3 focus (intros;(conv=>lhs;simp only [Jh,Js,JO,Ju,JI,eq_self,reduceEqDiff,reduceIte,reduceSub,reduceAdd,JxA,JxB]);all_goals rfl)
      ·
       intro gh X K hK;refine J.putOne pwK u83 rfl rfl rfl (pwOk_of hlp (by omega)) At.z (Jj ?_);exact hK
      ·
       intro gh gh' h
       first | simp only [h 0 rfl] | rfl
      apply Jm 4 rfl
      iterate 3 focus (intros;(conv=>lhs;simp only [Jh,Js,JO,Ju,JI,eq_self,reduceEqDiff,reduceIte,reduceSub,reduceAdd,JxA,JxB]);all_goals rfl)
      ·
       intro gh X K zq zc zq2 zc2 zb zv hK;refine Jg (Jc rfl) rfl (Jj ?_);exact hK zq zc zq2 zc2 zb zv
      ·
       intro gh gh' h
       first | simp only [h 0 rfl] | rfl
      apply Jm 5 rfl
      iterate 3 focus (intros;(conv=>lhs;simp only [Jh,Js,JO,Ju,JI,eq_self,reduceEqDiff,reduceIte,reduceSub,reduceAdd,JxA,JxB]);all_goals rfl)
      ·
       intro gh X K zq zc zq2 zc2 zb zv hK;refine Jg (Jc rfl) rfl (Jj ?_);exact hK zq zc zq2 zc2 zb zv
      ·
       intro gh gh' h
       rfl
      apply Jm 6 rfl
      iterate 3 focus (intros;(conv=>lhs;simp only [Jh,Js,JO,Ju,JI,eq_self,reduceEqDiff,reduceIte,reduceSub,reduceAdd,JxA,JxB]);all_goals rfl)
      ·
       intro gh X K zq zc zq2 zc2 zb zv hK;refine Jg (Eh rfl) rfl (Jj ?_);exact hK zq zc zq2 zc2 zb zv
      ·
       intro gh gh' h
       rfl
      apply Jm 7 rfl
      iterate 3 focus (intros;(conv=>lhs;simp only [Jh,Js,JO,Ju,JI,eq_self,reduceEqDiff,reduceIte,reduceSub,reduceAdd,JxA,JxB]);all_goals rfl)
      ·
       intro gh X K zq zc zq2 zc2 zb zv hK;refine Jg (Jq u27 rfl sz24 rfl) rfl (Jj ?_);exact hK zq zc zq2 zc2 zb zv
      ·
       intro gh gh' h
       rfl
      apply Jm 8 rfl
      iterate 3 focus (intros;(conv=>lhs;simp only [Jh,Js,JO,Ju,JI,eq_self,reduceEqDiff,reduceIte,reduceSub,reduceAdd,JxA,JxB]);all_goals rfl)
      ·
       intro gh X K zq zc zq2 zc2 zb zv hK;refine Jg (JX (q:=some ⟨ba,0,none⟩) (k:=0) rfl pad pl24) rfl (Jj ?_);exact hK zq zc zq2 zc2 zb zv
      ·
       intro gh gh' h
       rfl
      apply Jm 9 rfl
      iterate 3 focus (intros;(conv=>lhs;simp only [Jh,Js,JO,Ju,JI,eq_self,reduceEqDiff,reduceIte,reduceSub,reduceAdd,JxA,JxB]);all_goals rfl)
      ·
       intro gh X K zq zc zq2 zc2 zb zv hK;refine Jg (Jc rfl) rfl (Jj ?_);exact hK zq zc zq2 zc2 zb zv
      ·
       intro gh gh' h
       rfl
      apply Jm 10 rfl
      iterate 3 focus (intros;(conv=>lhs;simp only [Jh,Js,JO,Ju,JI,eq_self,reduceEqDiff,reduceIte,reduceSub,reduceAdd,JxA,JxB]);all_goals rfl)
      ·
       intro gh X K zq zc zq2 zc2 zb zv hK;refine Jg (Ea u131 sz83 rfl rfl rfl (by omega)) rfl (Jj ?_);exact hK zq zc zq2 zc2 zb zv
      ·
       intro gh gh' h
       rfl
      apply Jm 11 rfl
      iterate 3 focus (intros;(conv=>lhs;simp only [Jh,Js,JO,Ju,JI,eq_self,reduceEqDiff,reduceIte,reduceSub,reduceAdd,JxA,JxB]);all_goals rfl)
      ·
       intro gh X K zq zc zq2 zc2 zb zv hK;refine Jg (Jv rfl At.z (imgK_get (by omega) hil) pl83) rfl (Jj ?_);exact hK zq zc zq2 zc2 zb zv
      ·
       intro gh gh' h
       rfl
      apply Eb 12 rfl
      iterate 3 focus (intros;(conv=>lhs;simp only [Jh,Js,JO,Ju,JI,eq_self,reduceEqDiff,reduceIte,reduceSub,reduceAdd,JxA,JxB]);all_goals rfl)
      ·
       intro gh X K zq zc zq2 zc2 zb zv hK;refine Jz fn100 rfl rfl fun w hH=>hH.lend .z fun Hl1 hle1 hA1 hB1 hH=>(times_c (omap_H hA1) (Sok.one hlp (by omega)) (had.le hle1) ((imgs_H hA6 hil).le hle1) (hf i hil).1 hn hd (by omega) hH).mono ?_;rintro _ w ⟨bo59,rfl,hH⟩;replace hH:=hB1 _ _ hH;refine ⟨_,rfl,fun a hF=>JL hF hH ?_⟩;refine Ji .z (Ji (.s .z) (Jj ?_));exact hK zq zc zq2 zc2 bo59 zv
      ·
       intro gh gh' h;refine ⟨?_,?_⟩ <;> (first | simp only [h 0 rfl] | rfl)
      apply Jm 13 rfl
      iterate 3 focus (intros;(conv=>lhs;simp only [Jh,Js,JO,Ju,JI,eq_self,reduceEqDiff,reduceIte,reduceSub,reduceAdd,JxA,JxB]);all_goals rfl)
      ·
       intro gh X K zq zc zq2 zc2 zb zv hK;refine Jg (Jc rfl) rfl (Jj ?_);exact hK zq zc zq2 zc2 zb zv
      ·
       intro gh gh' h
       rfl
      apply Jm 14 rfl
      iterate 3 focus (intros;(conv=>lhs;simp only [Jh,Js,JO,Ju,JI,eq_self,reduceEqDiff,reduceIte,reduceSub,reduceAdd,JxA,JxB]);all_goals rfl)
      ·
       intro gh X K zq zc zq2 zc2 zb zv hK;refine Jg (Eh rfl) rfl (Jj ?_);exact hK zq zc zq2 zc2 zb zv
      ·
       intro gh gh' h
       rfl
      apply Jm 15 rfl
      iterate 3 focus (intros;(conv=>lhs;simp only [Jh,Js,JO,Ju,JI,eq_self,reduceEqDiff,reduceIte,reduceSub,reduceAdd,JxA,JxB]);all_goals rfl)
      ·
       intro gh X K zq zc zq2 zc2 zb zv hK;refine Jg (Jq u27 rfl sz24 rfl) rfl (Jj ?_);exact hK zq zc zq2 zc2 zb zv
      ·
       intro gh gh' h
       rfl
      apply Jm 16 rfl
      iterate 3 focus (intros;(conv=>lhs;simp only [Jh,Js,JO,Ju,JI,eq_self,reduceEqDiff,reduceIte,reduceSub,reduceAdd,JxA,JxB]);all_goals rfl)
      ·
       intro gh X K zq zc zq2 zc2 zb zv hK;refine Jg (JX (q:=some ⟨ba,0,none⟩) (k:=0) rfl pad pl24) rfl (Jj ?_);exact hK zq zc zq2 zc2 zb zv
      ·
       intro gh gh' h
       rfl
      apply Eb 17 rfl
      iterate 3 focus (intros;(conv=>lhs;simp only [Jh,Js,JO,Ju,JI,eq_self,reduceEqDiff,reduceIte,reduceSub,reduceAdd,JxA,JxB]);all_goals rfl)
      ·
       intro gh X K zq zc zq2 zc2 zb zv hK;refine J.makeMap pwE (Value.int .i64) pwOk rfl fun bm64=>(Jj ?_);exact hK zq zc zq2 zc2 bm64 zv
      ·
       intro gh gh' h;refine ⟨?_,?_⟩ <;> rfl
      apply Jm 18 rfl
      iterate 3 focus (intros;(conv=>lhs;simp only [Jh,Js,JO,Ju,JI,eq_self,reduceEqDiff,reduceIte,reduceSub,reduceAdd,JxA,JxB]);all_goals rfl)
      ·
       intro gh X K zq zc zq2 zc2 zb zv hK;refine Jg (Jl rfl At.z (by simpa using ag127)) rfl (Jj ?_);exact hK zq zc zq2 zc2 zb zv
      ·
       intro gh gh' h
       rfl
      apply Es 19 rfl
      iterate 3 focus (intros;(conv=>lhs;simp only [Jh,Js,JO,Ju,JI,eq_self,reduceEqDiff,reduceIte,reduceSub,reduceAdd,JxA,JxB]);all_goals rfl)
      ·
       intro gh X K hK;refine J.putOne pwK u83 rfl rfl rfl (pwOk_of hbp (by omega)) At.z (Jj ?_);exact hK
      ·
       intro gh gh' h
       first | simp only [h 16 rfl] | rfl
      apply Jm 20 rfl
      iterate 3 focus (intros;(conv=>lhs;simp only [Jh,Js,JO,Ju,JI,eq_self,reduceEqDiff,reduceIte,reduceSub,reduceAdd,JxA,JxB]);all_goals rfl)
      ·
       intro gh X K zq zc zq2 zc2 zb zv hK;refine Jg (Jc rfl) rfl (Jj ?_);exact hK zq zc zq2 zc2 zb zv
      ·
       intro gh gh' h
       first | simp only [h 16 rfl] | rfl
      apply Eb 21 rfl
      iterate 3 focus (intros;(conv=>lhs;simp only [Jh,Js,JO,Ju,JI,eq_self,reduceEqDiff,reduceIte,reduceSub,reduceAdd,JxA,JxB]);all_goals rfl)
      ·
       intro gh X K zq zc zq2 zc2 zb zv hK;refine Jz fn100 rfl rfl fun w hH=>hH.lend .z fun Hl1 hle1 hA1 hB1 hH=>hH.lend .z fun Hl2 hle2 hA2 hB2 hH=>(times_c ((omap_H hA1).le hle2) ((Sok.one hlp (by omega)).times (hf i hil).1) ((had.le hle1).le hle2) (omap_H hA2) (Sok.one hbp (by omega)) hn hd (by omega) hH).mono ?_;rintro _ w ⟨bo67,rfl,hH⟩;replace hH:=hB2 _ _ hH;replace hH:=hB1 _ _ hH;refine ⟨_,rfl,fun a hF=>JL hF hH ?_⟩;refine Ji (.s .z) (Ji (.s .z) (Ji (.s (.s .z)) (Jj ?_)));exact hK zq zc zq2 zc2 bo67 zv
      ·
       intro gh gh' h;refine ⟨?_,?_⟩ <;> (first | simp only [h 0 rfl,h 11 rfl,h 16 rfl] | rfl)
      apply Jm 22 rfl
      iterate 3 focus (intros;(conv=>lhs;simp only [Jh,Js,JO,Ju,JI,eq_self,reduceEqDiff,reduceIte,reduceSub,reduceAdd,JxA,JxB]);all_goals rfl)
      ·
       intro gh X K zq zc zq2 zc2 zb zv hK;refine Jg (Je rfl) rfl (Jj ?_);exact hK zq zc zq2 zc2 zb zv
      ·
       intro gh gh' h
       first | simp only [h 0 rfl,h 11 rfl,h 16 rfl,h 20 rfl] | rfl
      apply Ec [0,1,2,3,4,5,6,7,8,9,10,11,12,13,14,15,16,17,18,19,20,21] [1,2,3,4,5,6,7,8,9,10,11,12,13,14,15,17,18,19,20,21,22,23,24,25,26,27,28] foll0 rfl rfl rfl (by rfl)
      iterate 2 focus (intros;(conv=>lhs;simp only [Jh,Js,JO,Ju,JI,eq_self,reduceEqDiff,reduceIte,reduceSub,reduceAdd,JxA,JxB]);all_goals rfl)
      intro gh;generalize (gh 0).b=bm49;generalize (gh 11).b=bo59;generalize (gh 16).b=bm64;generalize (gh 20).b=bo67;clear gh;refine Ja (hK26 (Jb (Jg (Jc rfl) rfl (Jg (Jc rfl) rfl (Jg (Jc rfl) rfl (Jg (Jc rfl) rfl (Jg (EZ rfl rfl (by first | exact nw _ (by omega) | rfl)) rfl (Jg (Jc rfl) rfl (Jg (EZ rfl rfl (by first | exact nw _ (by omega) | rfl)) rfl (Jz fn102 rfl rfl fun w hH=>(field_c (by omega) hH).mono ?_))))))))));rintro _ w ⟨rfl,hH⟩;refine ⟨_,rfl,fun a hF=>JL hF hH ?_⟩;refine Jz fn101 rfl rfl fun w hH=>hH.lend (.s (.s (.s .z))) fun Hl1 hle1 hA1 hB1 hH=>(addAll_c k1 (omap_H hA1) (((Sok.one hlp (by omega)).times (hf i hil).1).times (Sok.one hbp (by omega))) (by omega) (by omega) (by omega) (hH.front (.s (.s (.s (.s (.s (.s (.s (.s (.s .z))))))))))).mono ?_;rintro _ w ⟨rfl,hH⟩;replace hH:=hB1 _ _ hH;refine ⟨_,rfl,fun a hF=>JL hF hH ?_⟩;refine Jf (Ja (JC .z (JC (.s .z) (JC (.s .z) (JC (.s .z) (JC (.s .z) (JC (.s .z) (Ji .z (Ji (.s (.s (.s (.s .z)))) (Ji (.s (.s (.s (.s .z)))) (Ji (.s (.s (.s (.s .z)))) (Ji (.s (.s (.s (.s .z)))) ?_))))))))))));exact hMt1 () trivial 44 rfl rfl ⟨rfl,⟨rfl,trivial⟩⟩ rfl (by rw [← acc_dP h34];rfl)
    ·
     refine Jo (Ja ?_);exact hMt1 () trivial 2 rfl rfl ⟨rfl,⟨rfl,trivial⟩⟩ rfl (by simp only [acc_dN (show ¬0<nx22.1.getD i 0 from fun h=>h34 h)])
   ·
    rintro _ _;refine Jd fun _ hK27 _=>(Jb (Jg (Jc rfl) rfl (Jg (Jc rfl) rfl (Jg (Ea u127 sz3 rfl rfl rfl (by omega)) rfl (J.storeI rfl rfl sz3 (by simp;omega) At.z (Jf (Ja (hK27 (Jd fun _ hK28 _=>(Jb (Jg (Jc rfl) rfl (Jg (Jc rfl) rfl (Jg (Eh rfl) rfl (Jg (Jq u27 rfl sz24 rfl) rfl (Jg (JX (q:=some ⟨ba,0,none⟩) (k:=0) rfl pad pl24) rfl ?_)))))))))))))));refine Jg (Jr u24 rfl rfl) rfl (Jg (JZ rfl rfl) rfl (Jg (Jc rfl) rfl (JW (jd:=87) rfl (fun h87=>?_) (fun h87=>?_))))
    ·
     try have h87p:=of_decide_eq_true h87
     refine JK (Jc rfl) rfl rfl rfl h87 (JK (Eh rfl) rfl rfl rfl h87 (JK (Jq u27 rfl sz24 rfl) rfl rfl rfl h87 (JK (JX (q:=some ⟨ba,0,none⟩) (k:=0) rfl pad pl24) rfl rfl rfl h87 (JK (Jc rfl) rfl rfl rfl h87 (JK (Eg u24 sz2 rfl rfl rfl (by omega) had.sm) rfl rfl rfl h87 (JK (JX rfl (had _ (by omega)) pl2) rfl rfl rfl h87 (JK (ER rfl rfl (by decide) rfl) rfl rfl rfl h87 (JK (En rfl rfl) rfl rfl rfl h87 (Jg (JN rfl h87 rfl) rfl (Jg (Jc rfl) rfl (JW (jd:=98) rfl (fun h98=>?_) (fun h98=>?_))))))))))))
     ·
      try have h98p:=of_decide_eq_true h98
      refine JK (Jc rfl) rfl rfl rfl h98 (JK (ER rfl rfl (by decide) rfl) rfl rfl rfl h98 (JK (En rfl rfl) rfl rfl rfl h98 (Jg (JN rfl h98 rfl) rfl (Jf (Ja (hK28 (Jp rfl (fun h102=>?_) (fun h102=>?_))))))))
      ·
       refine Jb (Jg (Jc rfl) rfl (Jg (PR.neg rfl (by first | exact nw _ (by omega) | rfl)) rfl (Jg (Je rfl) rfl (Jf (JJ (Ja (hK14 (Jb (Jg (JF rfl rfl (by first | exact nw _ (by omega) | rfl)) rfl (Jg (Jc rfl) rfl (Jf (Ja ?_))))))))))));exact hAg1 (i+1) (by omega) (by omega) 40 rfl rfl ⟨rfl,⟨(vi (dsg_yes h87p h98p h102)),trivial⟩⟩ rfl (by simp only [aheadP_set (show i<8 by omega)])
      ·
       refine Jo (JJ (Ja (hK14 (Jb (Jg (JF rfl rfl (by first | exact nw _ (by omega) | rfl)) rfl (Jg (Jc rfl) rfl (Jf (Ja ?_))))))));exact hAg1 (i+1) (by omega) (by omega) 37 rfl rfl ⟨rfl,⟨(vi (dsg_no (fun h=>h102 h.2.2))),trivial⟩⟩ rfl (by simp only [aheadP_set (show i<8 by omega)])
     ·
      try have h98p:=of_decide_eq_false h98
      refine JE rfl rfl rfl h98 (JE rfl rfl rfl h98 (JE rfl rfl rfl h98 (Jg (JM rfl h98 rfl) rfl (Jf (Ja (hK28 (Ey rfl (Jo (JJ (Ja (hK14 (Jb (Jg (JF rfl rfl (by first | exact nw _ (by omega) | rfl)) rfl (Jg (Jc rfl) rfl (Jf (Ja ?_))))))))))))))));exact hAg1 (i+1) (by omega) (by omega) 37 rfl rfl ⟨rfl,⟨(vi (dsg_no (fun h=>h98p h.2.1))),trivial⟩⟩ rfl (by simp only [aheadP_set (show i<8 by omega)])
    ·
     try have h87p:=of_decide_eq_false h87
     refine JE rfl rfl rfl h87 (JE rfl rfl rfl h87 (JE rfl rfl rfl h87 (JE rfl rfl rfl h87 (JE rfl rfl rfl h87 (JE rfl rfl rfl h87 (JE rfl rfl rfl h87 (JE rfl rfl rfl h87 (JE rfl rfl rfl h87 (Jg (JM rfl h87 rfl) rfl (Jg (Jc rfl) rfl (JE rfl rfl rfl rfl (JE rfl rfl rfl rfl (JE rfl rfl rfl rfl (Jg (JM rfl rfl rfl) rfl ?_))))))))))))));refine Jf (Ja (hK28 (Ey rfl (Jo (JJ (Ja (hK14 (Jb (Jg (JF rfl rfl (by first | exact nw _ (by omega) | rfl)) rfl (Jg (Jc rfl) rfl (Jf (Ja ?_))))))))))));exact hAg1 (i+1) (by omega) (by omega) 37 rfl rfl ⟨rfl,⟨(vi (dsg_no (fun h=>h87p h.1))),trivial⟩⟩ rfl (by simp only [aheadP_set (show i<8 by omega)])
  ·
   refine JR (Jw (Jw (JY (JJ (Ja (JC .z (JC .z ?_)))))));exact hAg0 (some nx22,la22++lb22,dn++dLk ad af nx22 8) ⟨by rw [List.append_assoc];exact perm_to hI.1 dAll_mid,fun x hx=>hI.2 x (by simp at hx ⊢;rcases hx with h | h <;> simp [h])⟩ (by simp) 15 rfl rfl trivial rfl (by have h8:i=8:=(by omega);subst h8;rfl)
theorem ze87:Zero Tryz.prog 87 [.int .u8 0,.int .u8 0,.int .u8 0,.int .u8 0,.int .u8 0,.int .u8 0,.int .u8 0,.int .u8 0]:=by unfold Zero;kernel_rfl
theorem bz87 : ∀w,(Instr.build 87 #[]).run Tryz.prog w = .ok (.agg [.int .u8 0,.int .u8 0,.int .u8 0,.int .u8 0,.int .u8 0,.int .u8 0,.int .u8 0,.int .u8 0].toArray) w:=fun _=>by kernel_rfl
theorem l01Mod_c {B:World} {H0 H:HP} {L:List SA} {w:World} {x:Int} (hx : -1000000000000≤x∧x≤1000000000000) (hH:Hp B H0 H L w):Calls Tryz.prog 93 [.int .i64 x].toArray w fun e w'=>e = .returned (.int .i64 (fld x))∧Hp B H0 H L w':=by
 refine JD Tryz.func93 rfl 7 rfl rfl [(0,.int .i64 x)] rfl hH ?_;clear hH;have hb:=tmod_bd x;refine Jd fun _ hK1 _=>(Jb (Jg (Je rfl) rfl (Jf (Ja (hK1 (Jd fun _ hK2 _=>(Jb (Jg (Jc rfl) rfl (Jg (ER rfl rfl (by decide) rfl) rfl (Jg (JF rfl rfl (by first | exact nw _ (by omega) | rfl)) rfl (Jg (ER rfl rfl (by decide) rfl) rfl (Jg (Je rfl) rfl (Jf (Ja (hK2 (Jt ?_))))))))))))))));refine Jy rfl (Res.tmp rfl) fun w hH=>?_;exact ⟨rfl,hH⟩
theorem u8_id {x:Int} (h:0≤x∧x≤255):IntKind.u8.wrap x=x:=by
 have:=Int.emod_emod_of_dvd x (show (256:Int) ∣ 256 from ⟨1,rfl⟩)
 simp [IntKind.wrap,IntKind.bits,IntKind.signed]
 omega
structure Ex (ds p:Pw):Prop where
 out : ∀i,ds.length≤i→p.getD i 0=0
 odd : ∀i,i<ds.length→(ds.getD i 0).tmod 2≠0→p.getD i 0≤1
def sgK (x:Int):Int:=if x.tmod 2=1 then -1 else 1
theorem sgK_flip {a:Int} (h:0≤a):0 - sgK a=sgK (a+1):=by
 unfold sgK;rw [Int.tmod_eq_emod_of_nonneg h,Int.tmod_eq_emod_of_nonneg (by omega)]
 split <;> split <;> omega
theorem sgK_bd (a:Int) : -1≤sgK a∧sgK a≤1:=by unfold sgK;split <;> omega
def addK (p q:Pw) (k:Nat):Pw:=(List.range 8).map fun i=>if i<k then p.getD i 0+q.getD i 0 else 0
@[simp] theorem addK_len (p q:Pw) (k:Nat):(addK p q k).length=8:=by simp [addK]
theorem addK_get {p q:Pw} {k i:Nat} (h:i<8):(addK p q k).getD i 0=if i<k then p.getD i 0+q.getD i 0 else 0:=by simp [addK,List.getD_eq_getElem?_getD,h]
theorem addK_zero (p q:Pw):addK p q 0=List.replicate 8 0:=list8 (by simp) (by simp) fun j hj=>by
 rw [addK_get hj,if_neg (by omega),List.getD_eq_getElem?_getD,List.getElem?_replicate,if_pos hj]
 rfl
theorem addK_set {p q:Pw} {k:Nat} (hk:k<8):(addK p q k).set k (p.getD k 0+q.getD k 0)=addK p q (k+1):=list8 (by simp) (by simp) fun j hj=>by
 rw [getD_set8,addK_get hj,addK_get hj]
 by_cases e:k=j
 ·subst e
  rw [if_pos ⟨rfl,by simpa using hk⟩,if_pos (by omega)]
 ·rw [if_neg fun h=>e h.1]
  by_cases h:j<k
  ·rw [if_pos h,if_pos (by omega)]
  ·rw [if_neg h,if_neg (by omega)]
theorem addK_end {ds p q:Pw} (hp:p.length=8) (hq:q.length=8) (h1:Ex ds p) (h2:Ex ds q):addK p q ds.length=addp p q:=list8 (by simp) (by simp) fun j hj=>by
 rw [addK_get hj,addp_get hp hq]
 split
 ·rfl
 ·rw [h1.out j (by omega),h2.out j (by omega)]
  rfl
theorem oin_one {ds p:Pw} {i r:Nat} (hd : ∀j,0≤ds.getD j 0∧ds.getD j 0≤12) (h:(ds.getD (i+1+r) 0).tmod 2≠0) (hm:p.getD (i+1+r) 0=1):oin ds p i (r+1)=oin ds p i r+1:=by
 simp only [oin];rw [hm]
 rcases deg2 hd (i+1+r) with h' | h' <;> omega
theorem oin_nil {ds p:Pw} {i r:Nat} (h:(ds.getD (i+1+r) 0).tmod 2=0∨p.getD (i+1+r) 0=0):oin ds p i (r+1)=oin ds p i r:=by
 simp only [oin]
 rcases h with h | h <;> rw [h]
 ·rw [Int.zero_mul];omega
 ·rw [Int.mul_zero];omega
theorem jn_none {ds m k:Pw} {i r:Nat} (h2:k.getD i 0≤1) (h0:0≤k.getD i 0) (hr:r=0∨k.getD i 0=1) (h : ¬k.getD i 0=1):sgK (oddTo ds m k i+oin ds m i r)=sgK (oddTo ds m k (i+1)):=by
 have e:r=0:=hr.resolve_right h;subst e;rw [← odd_skip (fun h'=>by omega)]
 simp [oin]
theorem jn_end {ds m k:Pw} {i r:Nat} (h33 : ¬(ds.getD i 0).tmod 2=0) (h2:k.getD i 0≤1) (h0:0≤k.getD i 0) (hr:r=0∨k.getD i 0=1) (h:r=ds.length - (i+1)):sgK (oddTo ds m k i+oin ds m i r)=sgK (oddTo ds m k (i+1)):=by
 by_cases e:k.getD i 0=1
 ·rw [odd_take ⟨h33,by omega⟩ h]
 ·exact jn_none h2 h0 hr e
theorem hit_no {ds p q:Pw} {k:Nat} (hp:0≤p.getD k 0) (hq:0≤q.getD k 0) (h : ¬p.getD k 0+q.getD k 0>1):hitAt ds p q k=false:=by
 by_cases e:p.getD k 0>0
 ·exact hit_q (by omega)
 ·exact hit_p e
theorem l01Joined_c {B:World} {H0 H:HP} {L:List SA} {w:World} {qds:Option Addr} {cds:Nat} {ds:List Int} {m:List Int} {k:List Int} (hds:Ints H qds ds) (hm:Mono m) (hk:Mono k) (hn:ds.length≤8) (hd : ∀j,0≤ds.getD j 0∧ds.getD j 0≤12) (h1:Ex ds m) (h2:Ex ds k) (hb : ∀i,m.getD i 0+k.getD i 0≤255) (hH:Hp B H0 H L w):Calls Tryz.prog 130 [.slice qds ds.length cds,.agg (bytesC m).toArray,.agg (bytesC k).toArray].toArray w fun e w'=>e = .returned (.tuple #[.agg (bytesC (prodP ds m k)).toArray,.int .i64 (sgn ds m k)])∧Hp B H0 H L w':=by
 refine JD Tryz.func130 rfl 69 rfl rfl [(0,.slice qds ds.length cds),(1,.agg (bytesC m).toArray),(2,.agg (bytesC k).toArray)] rfl hH ?_;have hml:=hm.len;have hkl:=hk.len;clear hH;refine Jd fun _ hK1 _=>(Jb (Eo rfl rfl rfl fun g4=>(Eo rfl rfl rfl fun g5=>(JG ze87 rfl fun g6=>(Jg (Je rfl) rfl (Jf (Ja (hK1 (Jd fun _ hK2 _=>(Jb (Jg (JQ bz87) rfl (JG ze87 rfl fun g8=>(Jk rfl rfl (by first | exact bytesC_one _ | exact intsC_one _ | exact Term.c_one _ | simp [Value.oneCell']) (by simpa [*] using sz87) (by simp [*]) At.z (Jg (Je rfl) rfl (Jf ?_)))))))))))))));refine Ja (hK2 (Jd fun _ hK3 _=>(Jd fun _ hK4 _=>(Jb (Jg (Je rfl) rfl (Jf (Ja (hK4 (Jx (JP (σ:=Nat) (fun (i:Nat)=>[(10,.int .i64 (i:Int)),(9,.int .i64 (sgK (oddTo ds m k i)))]) (fun (i:Nat)=>H) (fun (i:Nat)=>obj g8 (.cells (bytesC (addK m k i)).toArray 87 (0,0))::obj g6 (.cells (bytesC (List.replicate 8 0)).toArray 87 (0,0))::obj g5 (.cells (bytesC k).toArray 87 (0,0))::obj g4 (.cells (bytesC m).toArray 87 (0,0))::L) (fun (i:Nat)=>i≤ds.length∧∀j,j<i→hitAt ds m k j=false) (fun (i:Nat)=>ds.length - i) 0 ⟨by omega,fun j hj=>by omega⟩ ⟨rfl,⟨rfl,trivial⟩⟩ rfl (by rw [addK_zero];rfl) ?_))))))))));rintro i ⟨hi,hh⟩ _ hAg0;have mb:=hm.bd i;have kb:=hk.bd i;have sb:=hb i
 have gi:i<ds.length→((addK m k i).set i (m.getD i 0+k.getD i 0)).getD i 0=m.getD i 0+k.getD i 0:=fun h=>by rw [getD_set8,if_pos ⟨rfl,by simp;omega⟩]
 have ob:=oddTo_bd hn hd hm.bd (q:=k) i;refine Jd fun _ hK5 _=>(Jd fun _ hK6 _=>(Jb (Jg (Jc rfl) rfl (Jg (Jc rfl) rfl (Jg (Jr u24 rfl rfl) rfl (Jg (JZ rfl rfl) rfl (Jf (Ja (hK6 (Jp rfl (fun hc16=>?_) (fun hc16=>?_)))))))))))
 ·
  refine Jo (Ja (hK5 (Jd fun _ hK7 _=>(Jx (Jd fun _ hK8 _=>(Ev [[], [], [1], [2], [], [4], [5], [3,6]] (by kernel_rfl) (JB (fun gh=>Jc rfl) (JB (fun gh=>Jc rfl) (JB (fun gh=>Ea u87 sz5 rfl rfl rfl (by omega)) (JB (fun gh=>Jv rfl (.s (.s (.s .z))) (by first | exact bytesC_get (by simp [*];omega) | exact intsC_get (by simp [*];omega)) pl5) (JB (fun gh=>Jc rfl) (JB (fun gh=>Ea u87 sz5 rfl rfl rfl (by omega)) (JB (fun gh=>Jv rfl (.s (.s .z)) (by first | exact bytesC_get (by simp [*];omega) | exact intsC_get (by simp [*];omega)) pl5) (JB (fun gh=>JF rfl rfl (u8_id (by omega))) (Ee 8 2 foll0 (by kernel_rfl) rfl rfl fun gh=>?_)))))))))))))));refine Eu (us':=(19,_)::(20,_)::(21,_)::(22,_)::(23,_)::(24,_)::(25,_)::(26,_)::_) (L':=_) rfl rfl (Jg (Ea u87 sz5 rfl rfl rfl (by omega)) rfl (EV rfl rfl sz5 (by simp;omega) At.z (Jf (Ef (Ej (Ja (hK8 (Jd fun _ hK9 _=>(Jd fun _ hK10 _=>(Jb (Jg (Jc rfl) rfl (Jg (Jc rfl) rfl (Jg (Eg u24 sz2 rfl rfl rfl (by omega) hds.sm) rfl (Jg (JX rfl (hds _ (by omega)) pl2) rfl (Jg (ER rfl rfl (by decide) rfl) rfl ?_)))))))))))))));refine Jg (En rfl rfl) rfl (Jf (Ja (hK10 (Jp rfl (fun h33=>?_) (fun h33=>?_)))))
  ·
   refine JR (Jw (JY (Ja (hK7 (Jb (Jg (Jc rfl) rfl (Jg (JF rfl rfl (by first | exact nw _ (by omega) | rfl)) rfl (Jg (Je rfl) rfl (Jf (Ja ?_))))))))));exact hAg0 (i+1) ⟨by omega,upto hh (hit_even h33)⟩ (by omega) 24 rfl rfl ⟨rfl,⟨(vi (by rw [odd_skip (fun h=>h.1 h33)])),trivial⟩⟩ rfl (by simp only [addK_set (show i<8 by omega)])
  ·
   refine Jo (Ja (hK9 (Jd fun _ hK11 _=>(Jd fun _ hK12 _=>(Jb (Jg (Jc rfl) rfl (Jg (Ea u87 sz5 rfl rfl rfl (by omega)) rfl (Jg (Jv rfl At.z ((bytesC_get (by simp;omega)).trans (congrArg (fun x=>some (Value.int .u8 x)) (gi (by omega)))) pl5) rfl (Jg (Eq rfl rfl) rfl (Jf (Ja (hK12 (Jp rfl (fun h37=>?_) (fun h37=>?_))))))))))))))
   ·
    refine Jd fun _ hK13 _=>(Jb (Jg (JQ bz87) rfl (Jk rfl rfl (by first | exact bytesC_one _ | exact intsC_one _ | exact Term.c_one _ | simp [Value.oneCell']) (by simpa [*] using sz87) (by simp [*]) (.s .z) (Jg (Je rfl) rfl (Jf (Ja (hK13 (Jt (Jn (JU (Jn (Jn (JU (Jn (JV rfl (Res.agg rfl (.s .z) (by simpa [*] using ag87)) (Res.tmp rfl) fun w hH=>?_)))))))))))))));replace hH:=hH.tail;replace hH:=hH.tail;replace hH:=hH.tail;replace hH:=hH.tail;obtain ⟨e1,e2⟩:=sgn_hit (by omega) (hit_yes (p:=m) (q:=k) (ds:=ds) (k:=i) h33 (by have:=h1.odd i (by omega) h33;have:=h2.odd i (by omega) h33;omega) (by have:=h1.odd i (by omega) h33;have:=h2.odd i (by omega) h33;omega));rw [e1,e2];exact ⟨rfl,hH⟩
   ·
    refine Jo (Ja (hK11 (Jd fun _ hK14 _=>(Jb (Jg (Jc rfl) rfl (Jg (JF rfl rfl (by first | exact nw _ (by omega) | rfl)) rfl (Jg (Je rfl) rfl (Jf (Ja (hK14 (Jx (JP (σ:=Nat) (fun (r:Nat)=>[(11,.int .i64 ((i+1+r:Nat):Int)),(9,.int .i64 (sgK (oddTo ds m k i+oin ds m i r)))]) (fun (r:Nat)=>H) (fun (r:Nat)=>obj g8 (.cells (bytesC (addK m k (i+1))).toArray 87 (0,0))::obj g6 (.cells (bytesC (List.replicate 8 0)).toArray 87 (0,0))::obj g5 (.cells (bytesC k).toArray 87 (0,0))::obj g4 (.cells (bytesC m).toArray 87 (0,0))::L) (fun (r:Nat)=>i+1+r≤ds.length∧(r=0∨k.getD i 0=1)) (fun (r:Nat)=>ds.length - (i+1+r)) 0 ⟨by omega,.inl rfl⟩ ⟨(vi (by omega)),⟨(vi (by simp [oin])),trivial⟩⟩ rfl (by simp only [addK_set (show i<8 by omega)]) ?_))))))))))));rintro r ⟨hr,hk1⟩ _ hAg1;have m2:=hm.bd (i+1+r);have ib:=oin_bd hd hm.bd i r;have s2:=sgK_bd (oddTo ds m k i+oin ds m i r);have o9:=h1.odd (i+1+r);refine Jd fun _ hK15 _=>(Jd fun _ hK16 _=>(Jb (Jg (Jc rfl) rfl (Jg (Jc rfl) rfl (Jg (Jr u24 rfl rfl) rfl (Jg (JZ rfl rfl) rfl (Jg (Jc rfl) rfl (JW (jd:=45) rfl (fun h45=>?_) (fun h45=>?_)))))))))
    ·
     try have h45p:=of_decide_eq_true h45
     refine JK (Jc rfl) rfl rfl rfl h45 (JK (Ea u87 sz5 rfl rfl rfl (by omega)) rfl rfl rfl h45 (JK (Jv rfl (.s (.s .z)) (by first | exact bytesC_get (by simp [*];omega) | exact intsC_get (by simp [*];omega)) pl5) rfl rfl rfl h45 (JK (En rfl rfl) rfl rfl rfl h45 (Jg (JN rfl h45 rfl) rfl (Jf (Ja (hK16 (Jp rfl (fun h50=>?_) (fun h50=>?_)))))))))
     ·
      refine Jo (Ja (hK15 (Jd fun _ hK17 _=>(Jx (Jd fun _ hK18 _=>(Jb (Jg (Jc rfl) rfl (Jg (Jc rfl) rfl (Jg (Eg u24 sz2 rfl rfl rfl (by omega) hds.sm) rfl (Jg (JX rfl (hds _ (by omega)) pl2) rfl (Jg (ER rfl rfl (by decide) rfl) rfl (Jg (Ew rfl rfl) rfl (Jg (Jc rfl) rfl (JW (jd:=59) rfl (fun h59=>?_) (fun h59=>?_)))))))))))))))
      ·
       try have h59p:=of_decide_eq_true h59
       refine JK (Jc rfl) rfl rfl rfl h59 (JK (Ea u87 sz5 rfl rfl rfl (by omega)) rfl rfl rfl h59 (JK (Jv rfl (.s (.s (.s .z))) (by first | exact bytesC_get (by simp [*];omega) | exact intsC_get (by simp [*];omega)) pl5) rfl rfl rfl h59 (JK (En rfl rfl) rfl rfl rfl h59 (Jg (JN rfl h59 rfl) rfl (Jf (Ja (hK18 (Jp rfl (fun h64=>?_) (fun h64=>?_)))))))))
       ·
        refine Jb (Jg (Jc rfl) rfl (Jg (PR.neg rfl (by first | exact nw _ (by omega) | rfl)) rfl (Jg (Je rfl) rfl (Jf (JJ (Ja (hK17 (Jb (Jg (Jc rfl) rfl (Jg (JF rfl rfl (by first | exact nw _ (by omega) | rfl)) rfl (Jg (Je rfl) rfl (Jf (Ja ?_)))))))))))));exact hAg1 (r+1) ⟨by omega,.inr h50⟩ (by omega) 30 rfl rfl ⟨(vi (by omega)),⟨(vi (by rw [oin_one hd h59p h64,← Int.add_assoc,sgK_flip (by omega)])),trivial⟩⟩ rfl rfl
       ·
        refine Jo (JJ (Ja (hK17 (Jb (Jg (Jc rfl) rfl (Jg (JF rfl rfl (by first | exact nw _ (by omega) | rfl)) rfl (Jg (Je rfl) rfl (Jf (Ja ?_)))))))));exact hAg1 (r+1) ⟨by omega,.inr h50⟩ (by omega) 27 rfl rfl ⟨(vi (by omega)),⟨(vi (by rw [oin_nil (.inr (by have:=o9 (by omega) h59p;omega))])),trivial⟩⟩ rfl rfl
      ·
       try have h59p:=of_decide_eq_false h59
       refine JE rfl rfl rfl h59 (JE rfl rfl rfl h59 (JE rfl rfl rfl h59 (JE rfl rfl rfl h59 (Jg (JM rfl h59 rfl) rfl (Jf (Ja (hK18 (Ey rfl (Jo (JJ (Ja (hK17 (Jb (Jg (Jc rfl) rfl (Jg (JF rfl rfl (by first | exact nw _ (by omega) | rfl)) rfl (Jg (Je rfl) rfl ?_))))))))))))))));refine Jf (Ja ?_);exact hAg1 (r+1) ⟨by omega,.inr h50⟩ (by omega) 27 rfl rfl ⟨(vi (by omega)),⟨(vi (by rw [oin_nil (.inl (by omega))])),trivial⟩⟩ rfl rfl
     ·
      refine JR (Jw (Jw (JY (JJ (Ja (hK7 (Jb (Jg (Jc rfl) rfl (Jg (JF rfl rfl (by first | exact nw _ (by omega) | rfl)) rfl (Jg (Je rfl) rfl (Jf (Ja ?_))))))))))));exact hAg0 (i+1) ⟨by omega,upto hh (hit_no (by omega) (by omega) h37)⟩ (by omega) 43 rfl rfl ⟨rfl,⟨(vi (jn_none (k:=k) (h2.odd i (by omega) h33) (by omega) hk1 h50)),trivial⟩⟩ rfl rfl
    ·
     try have h45p:=of_decide_eq_false h45
     refine JE rfl rfl rfl h45 (JE rfl rfl rfl h45 (JE rfl rfl rfl h45 (JE rfl rfl rfl h45 (Jg (JM rfl h45 rfl) rfl (Jf (Ja (hK16 (Ey rfl (JR (Jw (Jw (JY (JJ (Ja (hK7 (Jb ?_))))))))))))))));refine Jg (Jc rfl) rfl (Jg (JF rfl rfl (by first | exact nw _ (by omega) | rfl)) rfl (Jg (Je rfl) rfl (Jf (Ja ?_))));exact hAg0 (i+1) ⟨by omega,upto hh (hit_no (by omega) (by omega) h37)⟩ (by omega) 43 rfl rfl ⟨rfl,⟨(vi (jn_end (k:=k) h33 (h2.odd i (by omega) h33) (by omega) hk1 (by omega))),trivial⟩⟩ rfl rfl
 ·
  refine JR (Jw (Jw (JY (Ja (hK3 (Jd fun _ hK19 _=>(Jb (Jg (Jl rfl At.z (by simpa [*] using ag87)) rfl (Jg (Jc rfl) rfl (Jk rfl rfl (by first | exact bytesC_one _ | exact intsC_one _ | exact Term.c_one _ | simp [Value.oneCell']) (by simpa [*] using sz87) (by simp [*]) (.s .z) (Jg (Je rfl) rfl (Jf (Ja (hK19 (Jt (JV rfl (Res.agg rfl (.s .z) (by simpa [*] using ag87)) (Res.tmp rfl) fun w hH=>?_))))))))))))))));replace hH:=hH.tail;replace hH:=hH.tail;replace hH:=hH.tail;replace hH:=hH.tail
  have hi9:i=ds.length:=by omega
  obtain ⟨e1,e2⟩:=sgn_free (ds:=ds) (p:=m) (q:=k) (fun j hj=>hh j (by omega));rw [e1,e2,hi9,addK_end hm.len hk.len h1 h2];exact ⟨rfl,hH⟩
theorem by89:Bytes Tryz.prog 89 16:=by unfold Bytes;kernel_rfl
theorem fn130:Fn Tryz.prog 130:=⟨_,Tryz.func130,by kernel_rfl,rfl⟩
theorem fn93:Fn Tryz.prog 93:=⟨_,Tryz.func93,by kernel_rfl,rfl⟩
theorem bt89 : ∀(m:List Int) (f:Int),m.length=8→∀w,(Instr.build 89 #[(0,.agg (bytesC m).toArray),(1,.int .i64 f)]).run Tryz.prog w = .ok (.agg ((⟨m,f⟩:Term).c).toArray) w:=fun m f hm w=>by
 obtain ⟨a0,a1,a2,a3,a4,a5,a6,a7,rfl⟩:=list8_ex hm
 kernel_rfl
def ofS (s:Sm):List Term:=s.map fun x=>⟨x.1,x.2⟩
theorem toS_ofS (s:Sm):toS (ofS s)=s:=by
 unfold toS ofS;rw [List.map_map];exact List.map_id' s
theorem ofS_toS (ts:List Term):ofS (toS ts)=ts:=by
 unfold toS ofS;rw [List.map_map];exact List.map_id' ts
@[simp] theorem ofS_len (s:Sm):(ofS s).length=s.length:=by simp [ofS]
@[simp] theorem toS_len (ts:List Term):(toS ts).length=ts.length:=by simp [toS]
theorem ofS_app (a b:Sm):ofS (a++b)=ofS a++ofS b:=by simp [ofS]
theorem ofS_wf {s:Sm} {M:Int} (hM:M≤255) (h : ∀x∈s,Pok M x.1∧ -9223372036854775808≤x.2∧x.2≤9223372036854775807):Wfs (ofS s):=fun t ht=>by
 obtain ⟨x,hx,rfl⟩:=List.mem_map.1 ht
 obtain ⟨h1,h2⟩:=h x hx
 exact ⟨⟨h1.len,(h1.mono hM).bd⟩,h2⟩
theorem Sok.wf {s:Sm} {M:Int} (h:Sok M s) (hM:M≤255):Wfs (ofS s):=ofS_wf hM fun x hx=>⟨h.key x hx,by have:=h.val x hx;omega⟩
structure Gok (M:Int) (s:Sm):Prop where
 srt:s.Pairwise fun x y=>before x.1 y.1=true
 key : ∀x∈s,Pok M x.1
 val : ∀x∈s,0≤x.2∧x.2≤10006
theorem Sok.g {M:Int} {s:Sm} (h:Sok M s):Gok M s:=⟨h.srt,h.key,fun x hx=>by have:=h.val x hx;omega⟩
theorem Gok.wf {s:Sm} {M:Int} (h:Gok M s) (hM:M≤255):Wfs (ofS s):=ofS_wf hM fun x hx=>⟨h.key x hx,by have:=h.val x hx;omega⟩
theorem Gok.take {M:Int} {ts:List Term} (h:Gok M (toS ts)) (k:Nat):Gok M (toS (ts.take k)):=by
 have e:toS (ts.take k)=(toS ts).take k:=by simp [toS,List.map_take]
 rw [e];exact ⟨h.srt.sublist (List.take_sublist _ _),fun x hx=>h.key x (List.mem_of_mem_take hx),fun x hx=>h.val x (List.mem_of_mem_take hx)⟩
def KEx (ds:Pw) (s:Sm):Prop:=∀x∈s,Ex ds x.1
def raw1 (ds:Pw) (x:Pw × Int) (t:Sm):Sm:=t.flatMap fun y=>if sgn ds x.1 y.1=0 then [] else [(addp x.1 y.1,sgn ds x.1 y.1 * x.2 * y.2)]
def shf (ds:Pw) (x:Pw × Int) (t:Sm):Sm:=(raw1 ds x t).map fun z=>(z.1,fld z.2)
theorem mul1_raw (ds:Pw) (x:Pw × Int) (t:Sm):mul1 ds x t=(raw1 ds x t).map fun z=>(z.1,z.2.tmod 10007):=by
 unfold mul1 raw1;rw [List.map_flatMap]
 congr 1
 funext y
 split <;> rfl
theorem acc_shf (ds:Pw) (x:Pw × Int) (t s:Sm):acc s (scl (shf ds x t) 1)=acc s (mul1 ds x t):=by
 rw [mul1_raw];unfold scl shf;rw [List.map_map]
 exact acc_congr s fun z _=>⟨rfl,fun a=>by
  show fld (a+(fld z.2 * 1).tmod 10007)=fld (a+z.2.tmod 10007)
  rw [fld_tmod,fld_tmod,Int.mul_one,fld_fld]⟩
theorem raw1_mem {ds:Pw} {x:Pw × Int} {t:Sm} {z:Pw × Int} (h:z∈raw1 ds x t) : ∃y∈t,sgn ds x.1 y.1≠0∧z=(addp x.1 y.1,sgn ds x.1 y.1 * x.2 * y.2):=by
 obtain ⟨y,hy,hz⟩:=List.mem_flatMap.1 h
 split at hz
 ·simp at hz
 ·rename_i hs
  simp at hz
  exact ⟨y,hy,hs,hz⟩
theorem raw1_len (ds:Pw) (x:Pw × Int) : ∀t:Sm,(raw1 ds x t).length≤t.length
 | []=>by simp [raw1]
 | y::t=>by
  have h:=raw1_len ds x t
  unfold raw1 at h ⊢
  rw [List.flatMap_cons,List.length_append,List.length_cons]
  split
  ·rw [List.length_nil];omega
  ·rw [List.length_singleton];omega
theorem shf_len (ds:Pw) (x:Pw × Int) (t:Sm):(shf ds x t).length≤t.length:=by unfold shf;rw [List.length_map];exact raw1_len ds x t
theorem before_addp {p q r:Pw} (hp:p.length=8) (hq:q.length=8) (hr:r.length=8) (h:before q r=true):before (addp p q) (addp p r)=true:=by
 obtain ⟨k,a1,a2,a3⟩:=before_iff.1 h;refine before_iff.2 ⟨k,a1,fun j hj=>?_,?_⟩
 ·rw [addp_get hp hq,addp_get hp hr,a2 j hj]
 ·rw [addp_get hp hq,addp_get hp hr]
  omega
theorem raw1_srt {ds:Pw} {x:Pw × Int} (hx:x.1.length=8) : ∀{t:Sm},(t.Pairwise fun x y=>before x.1 y.1=true)→(∀y∈t,y.1.length=8)→(raw1 ds x t).Pairwise fun x y=>before x.1 y.1=true
 | [],_,_=>List.Pairwise.nil
 | y::t,h,hl=>by
  obtain ⟨h1,h2⟩:=List.pairwise_cons.1 h
  have ih:=raw1_srt (ds:=ds) hx h2 fun z hz=>hl z (by simp [hz])
  unfold raw1 at ih ⊢
  rw [List.flatMap_cons]
  split
  ·exact ih
  ·refine List.pairwise_cons.2 ⟨fun z hz=>?_,ih⟩
   obtain ⟨y',hy',_,rfl⟩:=raw1_mem (ds:=ds) (x:=x) (t:=t) hz
   exact before_addp hx (hl y (by simp)) (hl y' (by simp [hy'])) (h1 y' hy')
theorem shf_g {ds:Pw} {x:Pw × Int} {t:Sm} {M N:Int} (hx:Pok M x.1) (ht:Gok N t):Gok (M+N) (shf ds x t):=by
 refine ⟨?_,fun z hz=>?_,fun z hz=>?_⟩
 ·unfold shf;rw [List.pairwise_map];exact raw1_srt hx.len ht.srt fun y hy=>(ht.key y hy).len
 ·obtain ⟨r,hr,rfl⟩:=List.mem_map.1 hz;obtain ⟨y,hy,_,rfl⟩:=raw1_mem hr;exact hx.add (ht.key y hy)
 ·obtain ⟨r,hr,rfl⟩:=List.mem_map.1 hz;exact fld_bd _
theorem Ex.add {ds p q:Pw} {M N:Int} (hp:Pok M p) (hq:Pok N q) (h1:Ex ds p) (h2:Ex ds q) (hs:sgn ds p q≠0):Ex ds (addp p q):=by
 refine ⟨fun i hi=>?_,fun i hi ho=>?_⟩
 ·rw [addp_get hp.len hq.len,h1.out i hi,h2.out i hi]
  rfl
 ·rw [addp_get hp.len hq.len];have a:=h1.odd i hi ho;have b:=h2.odd i hi ho;have c:=hp.bd i;have d:=hq.bd i
  rcases Int.lt_or_le (p.getD i 0+q.getD i 0) 2 with h | h
  ·omega
  ·exact absurd (sgn_hit hi (hit_yes (ds:=ds) (p:=p) (q:=q) (k:=i) ho (by omega) (by omega))).1 hs
theorem mul1_kex {ds:Pw} {x:Pw × Int} {t:Sm} {M N:Int} (hx:Pok M x.1) (ht:Gok N t) (h1:Ex ds x.1) (h2:KEx ds t):KEx ds (mul1 ds x t):=fun z hz=>by
 obtain ⟨y,hy,hs,e⟩:=mul1_mem hz
 rw [e]
 exact h1.add hx (ht.key y hy) (h2 y hy) hs
theorem acc_mem {l:Sm} : ∀{s:Sm} {z:Pw × Int},z∈acc s l→z∈s∨∃x∈l,z.1=x.1:=by
 induction l with
 | nil=>intro s z h;exact .inl h
 | cons x l ih=>
  intro s z h;rw [acc_cons] at h
  rcases ih h with h | ⟨y,hy,e⟩
  ·rcases addS_mem h with h | h
   ·exact .inr ⟨x,by simp,h⟩
   ·exact .inl h
  ·exact .inr ⟨y,by simp [hy],e⟩
theorem acc_kex {ds:Pw} {s l:Sm} (h1:KEx ds s) (h2:KEx ds l):KEx ds (acc s l):=fun z hz=>by
 rcases acc_mem hz with h | ⟨x,hx,e⟩
 ·exact h1 z h
 ·rw [e];exact h2 x hx
theorem shf_take {ds:Pw} {x:Pw × Int} {ts:List Term} {k:Nat} (hk:k<ts.length):shf ds x (toS (ts.take (k+1)))=shf ds x (toS (ts.take k))++(if sgn ds x.1 (tm ts k).mono=0 then [] else [(addp x.1 (tm ts k).mono,fld (sgn ds x.1 (tm ts k).mono * x.2 * (tm ts k).fac))]):=by
 rw [toS_take hk];unfold shf raw1;rw [List.flatMap_append,List.map_append]
 congr 1
 simp only [List.flatMap_cons,List.flatMap_nil,List.append_nil]
 split <;> rfl
theorem prodP_mono {M N:Int} {ds p q:Pw} (hp:Pok M p) (hq:Pok N q) (h:M+N≤255):Mono (prodP ds p q):=by
 have:=(prodP_pok (ds:=ds) hp hq).mono h;exact ⟨this.len,this.bd⟩
theorem shf_no {ds:Pw} {x:Pw × Int} {ts:List Term} {k:Nat} (hk:k<ts.length) (h:sgn ds x.1 (tm ts k).mono=0):shf ds x (toS (ts.take k))=shf ds x (toS (ts.take (k+1))):=by
 rw [shf_take hk,if_pos h,List.append_nil]
theorem shf_yes {ds:Pw} {x:Pw × Int} {ts:List Term} {k:Nat} (hk:k<ts.length) (h:sgn ds x.1 (tm ts k).mono≠0):ofS (shf ds x (toS (ts.take k)))++[⟨prodP ds x.1 (tm ts k).mono,fld (sgn ds x.1 (tm ts k).mono * x.2 * (tm ts k).fac)⟩]=ofS (shf ds x (toS (ts.take (k+1)))):=by
 rw [shf_take hk,if_neg h,ofS_app,prodP_of h]
 rfl
theorem toS_at {ts:List Term} {k:Nat} (hk:k<ts.length):((tm ts k).mono,(tm ts k).fac)∈toS ts:=by
 refine List.mem_map.2 ⟨tm ts k,?_,rfl⟩
 have:tm ts k=ts[k]:=by simp [tm,List.getD_eq_getElem?_getD,List.getElem?_eq_getElem hk]
 rw [this];exact List.getElem_mem hk
theorem l01Shift_c {B:World} {H0 H:HP} {L:List SA} {w:World} {qds:Option Addr} {cds:Nat} {ds:List Int} {t:Term} {qg:Option Addr} {cg:Nat} {g:List Term} {M N:Int} (hds:Ints H qds ds) (ht:t.wf) (hg:Terms H qg g) (hn:ds.length≤8) (hd : ∀j,0≤ds.getD j 0∧ds.getD j 0≤12) (h1:Ex ds t.mono) (h2:KEx ds (toS g)) (hp:Pok M t.mono) (hq:Gok N (toS g)) (hM:M+N≤255) (hf:0≤t.fac∧t.fac≤10006) (hl:g.length≤1000000000000) (hH:Hp B H0 H L w):Calls Tryz.prog 114 [.slice qds ds.length cds,.agg t.c.toArray,.agg [.slice qg g.length cg].toArray].toArray w fun e w'=>∃q c,e = .returned (.agg [.slice q (ofS (shf ds (t.mono,t.fac) (toS g))).length c].toArray)∧Hp B H0 H (own 89 9 q (ofS (shf ds (t.mono,t.fac) (toS g))).length c (tsC (ofS (shf ds (t.mono,t.fac) (toS g))))::L) w':=by
 refine JD Tryz.func114 rfl 54 rfl rfl [(0,.slice qds ds.length cds),(1,.agg t.c.toArray),(2,.agg [.slice qg g.length cg].toArray)] rfl hH ?_;clear hH;refine Jd fun _ hK1 _=>(Jb (Eo rfl rfl rfl fun g4=>(Eo rfl rfl rfl fun g5=>(JG ze42 rfl fun g6=>(Jf (Ja (hK1 (Jd fun _ hK2 _=>(Jb (EG 89 9 (Jg (JQ bz42) rfl (JG ze42 rfl fun g7=>(Jk rfl rfl (by first | exact bytesC_one _ | exact intsC_one _ | exact Term.c_one _ | simp [Value.oneCell']) (by simpa [*] using sz42) (by simp [*]) At.z (Jf (Ja (hK2 ?_))))))))))))))));refine Jd fun _ hK3 _=>(Jd fun _ hK4 _=>(Jb (Jg (Je rfl) rfl (Jf (Ja (hK4 (Jx (JP (σ:=Option Addr × Nat × Nat) (fun ⟨q,c,k⟩=>[(8,.int .i64 (k:Int))]) (fun ⟨q,c,k⟩=>H) (fun ⟨q,c,k⟩=>obj g7 (.cells [.slice q (ofS (shf ds (t.mono,t.fac) (toS (g.take k)))).length c].toArray 42 (0,0))::own 89 9 q (ofS (shf ds (t.mono,t.fac) (toS (g.take k)))).length c (tsC (ofS (shf ds (t.mono,t.fac) (toS (g.take k)))))::obj g6 (.cells [.slice none 0 0].toArray 42 (0,0))::obj g5 (.cells [.slice qg g.length cg].toArray 42 (0,0))::obj g4 (.cells t.c.toArray 89 (0,0))::L) (fun ⟨q,c,k⟩=>k≤g.length) (fun ⟨q,c,k⟩=>g.length - k) (none,0,0) (by show 0≤g.length;omega) ⟨rfl,trivial⟩ rfl rfl ?_))))))));rintro ⟨q,c,k⟩ hI _ hAg0;have hk:=hI
 have oL:(ofS (shf ds (t.mono,t.fac) (toS (g.take k)))).length≤g.length:=by rw [ofS_len];exact Nat.le_trans (shf_len _ _ _) (by rw [toS_len];exact Nat.le_trans (List.length_take_le _ _) hk)
 have wfO:Wfs (ofS (shf ds (t.mono,t.fac) (toS (g.take k)))):=((shf_g (ds:=ds) (x:=(t.mono,t.fac)) hp (hq.take k)).wf hM);refine Jd fun _ hK5 _=>(Jd fun _ hK6 _=>(Jb (Jg (Jc rfl) rfl (Jg (Jq u42 rfl sz40 rfl) rfl (Jg (Jv rfl (.s (.s (.s .z))) rfl pl40) rfl (Jg (Jr u40 rfl rfl) rfl (Jg (JZ rfl rfl) rfl (Jf (Ja (hK6 (Jp rfl (fun h16=>?_) (fun h16=>?_))))))))))))
 ·
  have hy:=toS_at (ts:=g) (k:=k) (by omega);have hyp:=hq.key _ hy;have hyv:=hq.val _ hy;have hye:=h2 _ hy;have mP:=prodP_mono (ds:=ds) hp hyp hM;have mPl:=mP.len
  have sbb : ∀i,t.mono.getD i 0+(tm g k).mono.getD i 0≤255:=fun i=>by have a:=(hp.bd i).2;have b:=(hyp.bd i).2;simp only at b;omega
  have sg : -1≤sgn ds t.mono (tm g k).mono∧sgn ds t.mono (tm g k).mono≤1:=by rcases sgn_cases ds t.mono (tm g k).mono with h | h | h <;> omega
  have s1:=mul_sb (b:=t.fac) (B:=10006) sg hf;have s2:=mul_sb (b:=(tm g k).fac) (B:=10006) s1 hyv;have fb:=fld_bd (sgn ds t.mono (tm g k).mono * t.fac * (tm g k).fac);refine Jo (Ja (hK5 (Jd fun _ hK7 _=>(Jx (Jd fun _ hK8 _=>(Ed (Rs:=[_,_,_,_,_]) 16 [[], [], [1], [], [3], [], [3,4,5], [3,4,5,6], [3,4,5,6,7], [0,1,2,3,4,5,6,7,8], [0,1,2,3,4,5,6,7,8,9], [0,1,2,3,4,5,6,7,8,9,10], [0,1,2,3,4,5,6,7,8,9,10], [], [0,1,2,3,4,5,6,7,8,9,10,11,13], [0,1,2,3,4,5,6,7,8,9,10,11,12,13,14]] [[], [], [20], [], [19], [], [], [], [], [], [], [], [], [], [], []] [[], [], [], [], [], [], [], [], [], [], [], [], [], [], [13], []] rfl rfl (by kernel_rfl) ?_))))));apply Jm 1 rfl
  iterate 3 focus (intros;(conv=>lhs;simp only [Jh,Js,JO,Ju,JI,eq_self,reduceEqDiff,reduceIte,reduceSub,reduceAdd,JxA,JxB]);all_goals rfl)
  ·
   intro gh X K zq zc zq2 zc2 zb zv hK;refine Jg (Jc rfl) rfl (Jj ?_);exact hK zq zc zq2 zc2 zb zv
  ·
   intro gh gh' h
   rfl
  apply Jm 2 rfl
  iterate 3 focus (intros;(conv=>lhs;simp only [Jh,Js,JO,Ju,JI,eq_self,reduceEqDiff,reduceIte,reduceSub,reduceAdd,JxA,JxB]);all_goals rfl)
  ·
   intro gh X K zq zc zq2 zc2 zb zv hK;refine Jg (Jq u89 rfl sz87 rfl) rfl (Jj ?_);exact hK zq zc zq2 zc2 zb zv
  ·
   intro gh gh' h
   rfl
  apply Jm 3 rfl
  iterate 3 focus (intros;(conv=>lhs;simp only [Jh,Js,JO,Ju,JI,eq_self,reduceEqDiff,reduceIte,reduceSub,reduceAdd,JxA,JxB]);all_goals rfl)
  ·
   intro gh X K zq zc zq2 zc2 zb zv hK;refine Jg (Ke rfl At.z ht ag87) rfl (Jj ?_);exact hK zq zc zq2 zc2 zb zv
  ·
   intro gh gh' h
   rfl
  apply Jm 4 rfl
  iterate 3 focus (intros;(conv=>lhs;simp only [Jh,Js,JO,Ju,JI,eq_self,reduceEqDiff,reduceIte,reduceSub,reduceAdd,JxA,JxB]);all_goals rfl)
  ·
   intro gh X K zq zc zq2 zc2 zb zv hK;refine Jg (Jq u42 rfl sz40 rfl) rfl (Jj ?_);exact hK zq zc zq2 zc2 zb zv
  ·
   intro gh gh' h
   rfl
  apply Jm 5 rfl
  iterate 3 focus (intros;(conv=>lhs;simp only [Jh,Js,JO,Ju,JI,eq_self,reduceEqDiff,reduceIte,reduceSub,reduceAdd,JxA,JxB]);all_goals rfl)
  ·
   intro gh X K zq zc zq2 zc2 zb zv hK;refine Jg (Jv rfl At.z rfl pl40) rfl (Jj ?_);exact hK zq zc zq2 zc2 zb zv
  ·
   intro gh gh' h
   rfl
  apply Jm 6 rfl
  iterate 3 focus (intros;(conv=>lhs;simp only [Jh,Js,JO,Ju,JI,eq_self,reduceEqDiff,reduceIte,reduceSub,reduceAdd,JxA,JxB]);all_goals rfl)
  ·
   intro gh X K zq zc zq2 zc2 zb zv hK;refine Jg (Jc rfl) rfl (Jj ?_);exact hK zq zc zq2 zc2 zb zv
  ·
   intro gh gh' h
   rfl
  apply Jm 7 rfl
  iterate 3 focus (intros;(conv=>lhs;simp only [Jh,Js,JO,Ju,JI,eq_self,reduceEqDiff,reduceIte,reduceSub,reduceAdd,JxA,JxB]);all_goals rfl)
  ·
   intro gh X K zq zc zq2 zc2 zb zv hK;refine Jg (EA u40 sz89 rfl rfl rfl (by omega) hg.sm) rfl (Jj ?_);exact hK zq zc zq2 zc2 zb zv
  ·
   intro gh gh' h
   rfl
  apply Jm 8 rfl
  iterate 3 focus (intros;(conv=>lhs;simp only [Jh,Js,JO,Ju,JI,eq_self,reduceEqDiff,reduceIte,reduceSub,reduceAdd,JxA,JxB]);all_goals rfl)
  ·
   intro gh X K zq zc zq2 zc2 zb zv hK;refine Jg (EC u89 rfl sz87 rfl (hg.sm (i:=k) (by omega))) rfl (Jj ?_);exact hK zq zc zq2 zc2 zb zv
  ·
   intro gh gh' h
   rfl
  apply Jm 9 rfl
  iterate 3 focus (intros;(conv=>lhs;simp only [Jh,Js,JO,Ju,JI,eq_self,reduceEqDiff,reduceIte,reduceSub,reduceAdd,JxA,JxB]);all_goals rfl)
  ·
   intro gh X K zq zc zq2 zc2 zb zv hK;refine Jg (JT rfl (hg.mono (by omega)) (hg.sm (i:=k) (by omega)) (by rw [bytesC_length,(hg.wf _ (by omega)).mono.len];exact ag87)) rfl (Jj ?_);exact hK zq zc zq2 zc2 zb zv
  ·
   intro gh gh' h
   rfl
  apply Jm 10 rfl
  iterate 3 focus (intros;(conv=>lhs;simp only [Jh,Js,JO,Ju,JI,eq_self,reduceEqDiff,reduceIte,reduceSub,reduceAdd,JxA,JxB]);all_goals rfl)
  ·
   intro gh X K zq zc zq2 zc2 zb zv hK;refine Jz fn130 rfl rfl fun w hH=>(l01Joined_c hds ht.mono (hg.wf k (by omega)).mono hn hd h1 hye sbb hH).mono ?_;rintro _ w ⟨rfl,hH⟩;refine ⟨_,rfl,fun a hF=>JL hF hH ?_⟩;refine Jj ?_;exact hK zq zc zq2 zc2 zb zv
  ·
   intro gh gh' h
   rfl
  apply Jm 11 rfl
  iterate 3 focus (intros;(conv=>lhs;simp only [Jh,Js,JO,Ju,JI,eq_self,reduceEqDiff,reduceIte,reduceSub,reduceAdd,JxA,JxB]);all_goals rfl)
  ·
   intro gh X K zq zc zq2 zc2 zb zv hK;refine Jg (Jc rfl) rfl (Jj ?_);exact hK zq zc zq2 zc2 zb zv
  ·
   intro gh gh' h
   rfl
  apply Jm 12 rfl
  iterate 3 focus (intros;(conv=>lhs;simp only [Jh,Js,JO,Ju,JI,eq_self,reduceEqDiff,reduceIte,reduceSub,reduceAdd,JxA,JxB]);all_goals rfl)
  ·
   intro gh X K zq zc zq2 zc2 zb zv hK;refine Jg (JA rfl rfl) rfl (Jj ?_);exact hK zq zc zq2 zc2 zb zv
  ·
   intro gh gh' h
   rfl
  apply Jm 13 rfl
  iterate 3 focus (intros;(conv=>lhs;simp only [Jh,Js,JO,Ju,JI,eq_self,reduceEqDiff,reduceIte,reduceSub,reduceAdd,JxA,JxB]);all_goals rfl)
  ·
   intro gh X K zq zc zq2 zc2 zb zv hK;refine Jg (JA rfl rfl) rfl (Jj ?_);exact hK zq zc zq2 zc2 zb zv
  ·
   intro gh gh' h
   rfl
  apply Eb 14 rfl
  iterate 3 focus (intros;(conv=>lhs;simp only [Jh,Js,JO,Ju,JI,eq_self,reduceEqDiff,reduceIte,reduceSub,reduceAdd,JxA,JxB]);all_goals rfl)
  ·
   intro gh X K zq zc zq2 zc2 zb zv hK;refine JG ze87 rfl fun g9=>(Jj ?_);exact hK zq zc zq2 zc2 g9 zv
  ·
   intro gh gh' h;refine ⟨?_,?_⟩ <;> rfl
  apply Es 15 rfl
  iterate 3 focus (intros;(conv=>lhs;simp only [Jh,Js,JO,Ju,JI,eq_self,reduceEqDiff,reduceIte,reduceSub,reduceAdd,JxA,JxB]);all_goals rfl)
  ·
   intro gh X K hK;refine Jk rfl rfl (by first | exact bytesC_one _ | exact intsC_one _ | exact Term.c_one _ | simp [Value.oneCell']) (by simpa [*] using sz87) (by simp [*]) At.z (Jj ?_);exact hK
  ·
   intro gh gh' h
   first | simp only [h 13 rfl] | rfl
  apply Jm 16 rfl
  iterate 3 focus (intros;(conv=>lhs;simp only [Jh,Js,JO,Ju,JI,eq_self,reduceEqDiff,reduceIte,reduceSub,reduceAdd,JxA,JxB]);all_goals rfl)
  ·
   intro gh X K zq zc zq2 zc2 zb zv hK;refine Jg (Je rfl) rfl (Jj ?_);exact hK zq zc zq2 zc2 zb zv
  ·
   intro gh gh' h
   first | simp only [h 13 rfl] | rfl
  apply Ec [0,1,2,3,4,5,6,7,8,9,10,11,12,13,14,15] [0,1,2,3,4,5,6,7,8,9,10,11,12,14,15,16,17,18,19,20] foll0 rfl rfl rfl (by rfl)
  iterate 2 focus (intros;(conv=>lhs;simp only [Jh,Js,JO,Ju,JI,eq_self,reduceEqDiff,reduceIte,reduceSub,reduceAdd,JxA,JxB]);all_goals rfl)
  intro gh;generalize (gh 13).b=g9;clear gh;refine Ja (hK8 (Jd fun _ hK9 _=>(Jb (Jg (Jc rfl) rfl (Jg (Ew rfl rfl) rfl (Jf (Ja (hK9 (Jp rfl (fun h33=>?_) (fun h33=>?_))))))))))
  ·
   refine Ev [[], [0], [], [], [], [4], [3,5], [], [7], [], [8,9], [10], [11], [6,12], [13], [2,14], [15]] (by kernel_rfl) (JB (fun gh=>Jq u42 rfl sz40 rfl) (JB (fun gh=>Jv rfl (.s .z) rfl pl40) (JB (fun gh=>Jl rfl At.z (by simpa [*] using ag87)) (JB (fun gh=>Jc rfl) (JB (fun gh=>Jq u89 rfl sz2 rfl) (JB (fun gh=>PR.ldFac rfl (.s (.s (.s (.s (.s .z))))) ht pl2) (JB (fun gh=>EZ rfl rfl (by first | exact nw _ (by omega) | rfl)) (JB (fun gh=>Jq u42 rfl sz40 rfl) (JB (fun gh=>Jv rfl (.s (.s (.s (.s .z)))) rfl pl40) (JB (fun gh=>Jc rfl) (JB (fun gh=>EA u40 sz89 rfl rfl rfl (by omega) hg.sm) (JB (fun gh=>EC u89 rfl sz2 rfl (hg.sm (i:=k) (by omega))) (JB (fun gh=>JX rfl (hg.fac (by omega)) pl2) (JB (fun gh=>EZ rfl rfl (by first | exact nw _ (by omega) | rfl)) ?_))))))))))))));refine ES fn93 (fun gh=>rfl) (fun w X hH=>l01Mod_c (by omega) hH) (JB (fun gh=>EO rfl rfl (fun w=>bt89 _ _ mP.len w)) (HJ.mk (fun gh=>Ka u40 ze89 sz89 (Term.wf.of mP (by omega)) rfl) (Ee 17 3 foll0 (by kernel_rfl) rfl rfl fun gh=>(Eu (us':=(34,_)::(35,_)::(36,_)::(37,_)::(38,_)::(39,_)::(40,_)::(41,_)::(42,_)::(43,_)::(44,_)::(45,_)::(46,_)::(47,_)::(48,_)::(49,_)::(50,_)::_) (L':=_::_) rfl rfl (EQ u40 ze89 sz89 by89 rfl rfl (by simp only [List.length_cons,List.length_nil];omega) .z (.s (.s .z)) (fun _ _=>(.s (.s .z))) rfl fun qo51 co51=>(Jg (Jq u42 rfl sz40 rfl) rfl (Ez rfl rfl rfl rfl sz40 (by simp [*]) (.s (.s .z)) (Jf (Ef (Ej (JJ (Ja (hK7 (Jb (Jg (Jc rfl) rfl ?_)))))))))))))));refine Jg (JF rfl rfl (by first | exact nw _ (by omega) | rfl)) rfl (Jg (Je rfl) rfl (Jf (Ja (JC .z (JC .z ?_)))));exact hAg0 (qo51,co51,k+1) (by show k+1≤g.length;omega) (by show g.length - (k+1)<g.length - k;omega) 45 rfl rfl ⟨rfl,trivial⟩ rfl (by dsimp only;rw [← shf_yes (by omega) h33];rfl)
  ·
   have h33e:=Decidable.not_not.1 h33;refine Jo (JJ (Ja (hK7 (Jb (Jg (Jc rfl) rfl (Jg (JF rfl rfl (by first | exact nw _ (by omega) | rfl)) rfl (Jg (Je rfl) rfl (Jf (Ja (JC .z ?_))))))))));exact hAg0 (q,c,k+1) (by show k+1≤g.length;omega) (by show g.length - (k+1)<g.length - k;omega) 26 rfl rfl ⟨rfl,trivial⟩ rfl (by dsimp only;rw [shf_no (by omega) h33e])
 ·
  refine JR (Jw (Jw (JY (Ja (hK3 (Jd fun _ hK10 _=>(Jb (Jg (Jl rfl At.z (by simpa [*] using ag42)) rfl (Jk rfl rfl (by first | exact bytesC_one _ | exact intsC_one _ | exact Term.c_one _ | simp [Value.oneCell']) (by simpa [*] using sz42) (by simp [*]) (.s (.s .z)) (Jf (Ja (hK10 (Jt (Jy rfl (Res.agg rfl (.s (.s .z)) (by simpa [*] using ag42)) fun w hH=>?_))))))))))))));replace hH:=hH.sublist (.cons _ (.cons_cons _ (.cons _ (.cons _ (.cons _ (List.Sublist.refl _))))))
  obtain rfl:k=g.length:=by omega
  rw [List.take_length] at hH ⊢;exact ⟨_,_,rfl,hH⟩
def mrg (k:Int):List Term→List Term→List Term
 | [], []=>[]
 | x::f, []=>x::mrg k f []
 | [],y::g=>if fld (k * y.fac)=0 then mrg k [] g else ⟨y.mono,fld (k * y.fac)⟩::mrg k [] g
 | x::f,y::g=>if before x.mono y.mono then x::mrg k f (y::g)
  else if before y.mono x.mono then (if fld (k * y.fac)=0 then mrg k (x::f) g else ⟨y.mono,fld (k * y.fac)⟩::mrg k (x::f) g)
  else (if fld (x.fac+fld (k * y.fac))=0 then mrg k f g else ⟨x.mono,fld (x.fac+fld (k * y.fac))⟩::mrg k f g)
termination_by f g=>f.length+g.length
theorem mrg_len (k:Int) : ∀(f g:List Term),(mrg k f g).length≤f.length+g.length
 | [], []=>by simp [mrg]
 | x::f, []=>by
  have:=mrg_len k f []
  rw [mrg]
  simp at this ⊢
  omega
 | [],y::g=>by
  have:=mrg_len k [] g
  rw [mrg]
  split <;> simp at this ⊢ <;> omega
 | x::f,y::g=>by
  have h1:=mrg_len k f (y::g)
  have h2:=mrg_len k (x::f) g
  have h3:=mrg_len k f g
  rw [mrg]
  split
  ·simp at h1 ⊢;omega
  ·split
   ·split <;> simp at h2 ⊢ <;> omega
   ·split <;> simp at h3 ⊢ <;> omega
termination_by f g=>f.length+g.length
theorem mrg_mem (k:Int) : ∀(f g:List Term) (z:Term),z∈mrg k f g→∃y,(y∈f∨y∈g)∧z.mono=y.mono
 | [], [],z,h=>by simp [mrg] at h
 | x::f, [],z,h=>by
  rw [mrg] at h
  rcases List.mem_cons.1 h with rfl | h
  ·exact ⟨z,.inl (by simp),rfl⟩
  ·obtain ⟨y,hy,e⟩:=mrg_mem k f [] z h
   exact ⟨y,hy.imp (fun h=>by simp [h]) id,e⟩
 | [],y::g,z,h=>by
  rw [mrg] at h
  have rec_:z∈mrg k [] g→∃y',(y' ∈([]:List Term)∨y' ∈y::g)∧z.mono=y'.mono:=fun h=>by
   obtain ⟨y',hy,e⟩:=mrg_mem k [] g z h
   exact ⟨y',hy.imp id (fun h=>by simp [h]),e⟩
  split at h
  ·exact rec_ h
  ·rcases List.mem_cons.1 h with rfl | h
   ·exact ⟨y,.inr (by simp),rfl⟩
   ·exact rec_ h
 | x::f,y::g,z,h=>by
  rw [mrg] at h
  have r1:z∈mrg k f (y::g)→∃y',(y' ∈x::f∨y' ∈y::g)∧z.mono=y'.mono:=fun h=>by
   obtain ⟨y',hy,e⟩:=mrg_mem k f (y::g) z h
   exact ⟨y',hy.imp (fun h=>by simp [h]) id,e⟩
  have r2:z∈mrg k (x::f) g→∃y',(y' ∈x::f∨y' ∈y::g)∧z.mono=y'.mono:=fun h=>by
   obtain ⟨y',hy,e⟩:=mrg_mem k (x::f) g z h
   exact ⟨y',hy.imp id (fun h=>by simp [h]),e⟩
  have r3:z∈mrg k f g→∃y',(y' ∈x::f∨y' ∈y::g)∧z.mono=y'.mono:=fun h=>by
   obtain ⟨y',hy,e⟩:=mrg_mem k f g z h
   exact ⟨y',hy.imp (fun h=>by simp [h]) (fun h=>by simp [h]),e⟩
  split at h
  ·rcases List.mem_cons.1 h with rfl | h
   ·exact ⟨z,.inl (by simp),rfl⟩
   ·exact r1 h
  ·split at h
   ·split at h
    ·exact r2 h
    ·rcases List.mem_cons.1 h with rfl | h
     ·exact ⟨y,.inr (by simp),rfl⟩
     ·exact r2 h
   ·split at h
    ·exact r3 h
    ·rcases List.mem_cons.1 h with rfl | h
     ·exact ⟨x,.inl (by simp),rfl⟩
     ·exact r3 h
termination_by f g=>f.length+g.length
theorem cf_toS_none {ts:List Term} {p:Pw} (h : ∀t∈ts,t.mono≠p):cf (toS ts) p=0:=cf_none fun x hx=>by
 obtain ⟨t,ht,rfl⟩:=toS_mem hx
 exact h t ht
theorem Gok.tl {M:Int} {x:Term} {ts:List Term} (h:Gok M (toS (x::ts))):Gok M (toS ts):=⟨(List.pairwise_cons.1 h.srt).2,fun y hy=>h.key y (List.mem_cons_of_mem _ hy),fun y hy=>h.val y (List.mem_cons_of_mem _ hy)⟩
theorem Gok.hd {M:Int} {x:Term} {ts:List Term} (h:Gok M (toS (x::ts))) : ∀y∈ts,before x.mono y.mono=true:=fun y hy=>(List.pairwise_cons.1 h.srt).1 (y.mono,y.fac) (List.mem_map.2 ⟨y,hy,rfl⟩)
theorem cf_cons (x:Term) (ts:List Term) (p:Pw):cf (toS (x::ts)) p=if x.mono=p then x.fac else cf (toS ts) p:=rfl
theorem fld0:fld 0=0:=by rw [fld_eq];rfl
theorem fld_id {x:Int} (h:0≤x∧x≤10006):fld x=x:=by rw [fld_eq];omega
theorem cf_mrg (k:Int) (p:Pw) {M N:Int} : ∀(f g:List Term),Gok M (toS f)→Gok N (toS g)→cf (toS (mrg k f g)) p=fld (cf (toS f) p+fld (k * cf (toS g) p))
 | [], [],_,_=>by
  rw [mrg]
  show (0:Int)=fld (0+fld (k * 0))
  rw [Int.mul_zero,fld0]
  exact fld0.symm
 | x::f, [],hf,hg=>by
  rw [mrg,cf_cons,cf_cons,cf_mrg k p f [] hf.tl hg]
  have e0:cf (toS []) p=0:=rfl
  rw [e0,Int.mul_zero,fld0]
  split
  ·rw [Int.add_zero,fld_id (hf.val (x.mono,x.fac) (List.mem_cons_self))]
  ·rfl
 | [],y::g,hf,hg=>by
  have ih:=cf_mrg k p [] g hf hg.tl
  have e0:cf (toS []) p=0:=rfl
  rw [e0,Int.zero_add] at ih ⊢
  have ng:y.mono=p→cf (toS g) p=0:=fun e=>cf_toS_none fun t ht e2=>before_ne (hg.hd t ht) (e.trans e2.symm)
  have ff : ∀a,fld (fld a)=fld a:=fun a=>fld_id (fld_bd a)
  rw [mrg,cf_cons]
  by_cases e:y.mono=p
  ·rw [if_pos e,ff]
   split
   ·rename_i hz
    rw [ih,ng e,Int.mul_zero,fld0,fld0,hz]
   ·rw [cf_cons,if_pos e]
  ·rw [if_neg e]
   split
   ·exact ih
   ·rw [cf_cons,if_neg e,ih]
 | x::f,y::g,hf,hg=>by
  have i1:=cf_mrg k p f (y::g) hf.tl hg
  have i2:=cf_mrg k p (x::f) g hf hg.tl
  have i3:=cf_mrg k p f g hf.tl hg.tl
  have vx:=hf.val (x.mono,x.fac) (List.mem_cons_self)
  have ff : ∀a,fld (fld a)=fld a:=fun a=>fld_id (fld_bd a)
  have nf:x.mono=p→cf (toS f) p=0:=fun e=>cf_toS_none fun t ht e2=>before_ne (hf.hd t ht) (e.trans e2.symm)
  have ng:y.mono=p→cf (toS g) p=0:=fun e=>cf_toS_none fun t ht e2=>before_ne (hg.hd t ht) (e.trans e2.symm)
  rw [mrg]
  split
  ·rename_i hb
   rw [cf_cons,cf_cons,i1]
   by_cases e:x.mono=p
   ·rw [if_pos e,if_pos e]
    have:cf (toS (y::g)) p=0:=cf_toS_none fun t ht e2=>by
     rcases List.mem_cons.1 ht with rfl | ht
     ·exact before_ne hb (e.trans e2.symm)
     ·exact before_ne (before_tr hb (hg.hd t ht)) (e.trans e2.symm)
    rw [this,Int.mul_zero,fld0,Int.add_zero,fld_id vx]
   ·rw [if_neg e,if_neg e]
  ·split
   ·rename_i hb
    have nx:y.mono=p→cf (toS (x::f)) p=0:=fun e=>cf_toS_none fun t ht e2=>by
     rcases List.mem_cons.1 ht with rfl | ht
     ·exact before_ne hb (e.trans e2.symm)
     ·exact before_ne (before_tr hb (hf.hd t ht)) (e.trans e2.symm)
    rw [cf_cons y]
    by_cases e:y.mono=p
    ·rw [if_pos e,nx e,Int.zero_add,ff]
     split
     ·rename_i hz
      rw [i2,nx e,ng e,Int.mul_zero,fld0,Int.zero_add,fld0,hz]
     ·rw [cf_cons,if_pos e]
    ·rw [if_neg e]
     split
     ·exact i2
     ·rw [cf_cons,if_neg e,i2]
   ·rename_i h1 h2
    have exy:x.mono=y.mono:=before_tot (hf.key (x.mono,x.fac) (List.mem_cons_self)).len (hg.key (y.mono,y.fac) (List.mem_cons_self)).len (by simpa using h1) (by simpa using h2)
    rw [cf_cons x,cf_cons y]
    by_cases e:x.mono=p
    ·have e':y.mono=p:=exy.symm.trans e
     rw [if_pos e,if_pos e']
     split
     ·rename_i hz
      rw [i3,nf e,ng e',Int.mul_zero,fld0,Int.zero_add,fld0,hz]
     ·rw [cf_cons,if_pos e]
    ·have e' : ¬y.mono=p:=fun h=>e (exy.trans h)
     rw [if_neg e,if_neg e']
     split
     ·exact i3
     ·rw [cf_cons,if_neg e,i3]
termination_by f g=>f.length+g.length
theorem srt_cons {x:Term} {ts:List Term} (h : ∀y∈ts,before x.mono y.mono=true) (h2:(toS ts).Pairwise fun x y=>before x.1 y.1=true):(toS (x::ts)).Pairwise fun x y=>before x.1 y.1=true:=
 List.pairwise_cons.2 ⟨fun z hz=>by
  obtain ⟨t,ht,rfl⟩:=toS_mem hz
  exact h t ht,h2⟩
theorem mrg_srt (k:Int) {M N:Int} : ∀(f g:List Term),Gok M (toS f)→Gok N (toS g)→(toS (mrg k f g)).Pairwise fun x y=>before x.1 y.1=true
 | [], [],_,_=>by rw [mrg];exact List.Pairwise.nil
 | x::f, [],hf,hg=>by
  rw [mrg]
  refine srt_cons (fun z hz=>?_) (mrg_srt k f [] hf.tl hg)
  obtain ⟨y,hy,e⟩:=mrg_mem k f [] z hz
  rw [e]
  rcases hy with hy | hy
  ·exact hf.hd y hy
  ·simp at hy
 | [],y::g,hf,hg=>by
  have ih:=mrg_srt k [] g hf hg.tl
  rw [mrg]
  split
  ·exact ih
  ·refine srt_cons (fun z hz=>?_) ih
   obtain ⟨w,hw,e⟩:=mrg_mem k [] g z hz
   rw [e]
   rcases hw with hw | hw
   ·simp at hw
   ·exact hg.hd w hw
 | x::f,y::g,hf,hg=>by
  have i1:=mrg_srt k f (y::g) hf.tl hg
  have i2:=mrg_srt k (x::f) g hf hg.tl
  have i3:=mrg_srt k f g hf.tl hg.tl
  rw [mrg]
  split
  ·rename_i hb
   refine srt_cons (fun z hz=>?_) i1
   obtain ⟨w,hw,e⟩:=mrg_mem k f (y::g) z hz
   rw [e]
   rcases hw with hw | hw
   ·exact hf.hd w hw
   ·rcases List.mem_cons.1 hw with rfl | hw
    ·exact hb
    ·exact before_tr hb (hg.hd w hw)
  ·split
   ·rename_i hb
    split
    ·exact i2
    ·refine srt_cons (fun z hz=>?_) i2
     obtain ⟨w,hw,e⟩:=mrg_mem k (x::f) g z hz
     rw [e]
     rcases hw with hw | hw
     ·rcases List.mem_cons.1 hw with rfl | hw
      ·exact hb
      ·exact before_tr hb (hf.hd w hw)
     ·exact hg.hd w hw
   ·rename_i h1 h2
    have exy:x.mono=y.mono:=before_tot (hf.key (x.mono,x.fac) (List.mem_cons_self)).len (hg.key (y.mono,y.fac) (List.mem_cons_self)).len (by simpa using h1) (by simpa using h2)
    split
    ·exact i3
    ·refine srt_cons (fun z hz=>?_) i3
     obtain ⟨w,hw,e⟩:=mrg_mem k f g z hz
     show before x.mono z.mono=true
     rw [e]
     rcases hw with hw | hw
     ·exact hf.hd w hw
     ·rw [exy];exact hg.hd w hw
termination_by f g=>f.length+g.length
theorem mrg_val (k:Int) : ∀(f g:List Term),(∀x∈f,1≤x.fac∧x.fac≤10006)→∀z∈mrg k f g,1≤z.fac∧z.fac≤10006
 | [], [],_,z,hz=>by simp [mrg] at hz
 | x::f, [],h,z,hz=>by
  rw [mrg] at hz
  rcases List.mem_cons.1 hz with rfl | hz
  ·exact h _ (by simp)
  ·exact mrg_val k f [] (fun x hx=>h x (by simp [hx])) z hz
 | [],y::g,h,z,hz=>by
  have ih:=mrg_val k [] g h z
  rw [mrg] at hz
  split at hz
  ·exact ih hz
  ·rename_i hn
   rcases List.mem_cons.1 hz with rfl | hz
   ·have:=fld_bd (k * y.fac);show 1≤fld (k * y.fac)∧fld (k * y.fac)≤10006;omega
   ·exact ih hz
 | x::f,y::g,h,z,hz=>by
  have i1:=mrg_val k f (y::g) (fun x hx=>h x (by simp [hx])) z
  have i2:=mrg_val k (x::f) g h z
  have i3:=mrg_val k f g (fun x hx=>h x (by simp [hx])) z
  rw [mrg] at hz
  split at hz
  ·rcases List.mem_cons.1 hz with rfl | hz
   ·exact h _ (by simp)
   ·exact i1 hz
  ·split at hz
   ·split at hz
    ·exact i2 hz
    ·rename_i hn
     rcases List.mem_cons.1 hz with rfl | hz
     ·have:=fld_bd (k * y.fac);show 1≤fld (k * y.fac)∧fld (k * y.fac)≤10006;omega
     ·exact i2 hz
   ·split at hz
    ·exact i3 hz
    ·rename_i hn
     rcases List.mem_cons.1 hz with rfl | hz
     ·have:=fld_bd (x.fac+fld (k * y.fac));show 1≤fld (x.fac+fld (k * y.fac))∧fld (x.fac+fld (k * y.fac))≤10006;omega
     ·exact i3 hz
termination_by f g=>f.length+g.length
theorem mrg_sok {k M:Int} {f g:List Term} (hf:Sok M (toS f)) (hg:Gok M (toS g)):Sok M (toS (mrg k f g)):=by
 refine ⟨mrg_srt k f g hf.g hg,fun x hx=>?_,fun x hx=>?_⟩
 ·obtain ⟨t,ht,rfl⟩:=toS_mem hx;obtain ⟨y,hy,e⟩:=mrg_mem k f g t ht
  show Pok M t.mono
  rw [e]
  rcases hy with hy | hy
  ·exact hf.key (y.mono,y.fac) (List.mem_map.2 ⟨y,hy,rfl⟩)
  ·exact hg.key (y.mono,y.fac) (List.mem_map.2 ⟨y,hy,rfl⟩)
 ·obtain ⟨t,ht,rfl⟩:=toS_mem hx;exact mrg_val k f g (fun x hx=>hf.val (x.mono,x.fac) (List.mem_map.2 ⟨x,hx,rfl⟩)) t ht
theorem tot_scl (k:Int) (p:Pw) : ∀{t:Sm},(t.map (·.1)).Nodup→tot_ (scl t k) p=(cf t p * k).tmod 10007
 | [],_=>by simp [scl,tot_,cf]
 | x::t,hn=>by
  simp only [List.map_cons,List.nodup_cons] at hn
  have ih:=tot_scl k p hn.2
  unfold scl at ih ⊢
  simp only [List.map_cons,tot_,cf]
  by_cases e:x.1=p
  ·rw [if_pos e,if_pos e,ih,cf_none fun z hz e2=>hn.1 (by rw [e,← e2];exact List.mem_map.2 ⟨z,hz,rfl⟩)]
   simp
  ·rw [if_neg e,if_neg e,ih,Int.zero_add]
theorem Gok.nodup {M:Int} {s:Sm} (h:Gok M s):(s.map (·.1)).Nodup:=by
 rw [List.Nodup,List.pairwise_map];exact h.srt.imp fun h=>before_ne h
theorem Gok.scl {M:Int} {s:Sm} (h:Gok M s) (k:Int) : ∀z∈scl s k,Pok M z.1:=fun z hz=>by
 obtain ⟨y,hy,e⟩:=scl_key hz
 rw [e]
 exact h.key y hy
theorem mrg_acc {k M:Int} {f g:List Term} (hf:Sok M (toS f)) (hg:Gok M (toS g)):mrg k f g=ofS (acc (toS f) (scl (toS g) k)):=by
 have e:toS (mrg k f g)=acc (toS f) (scl (toS g) k):=Sok.ext (mrg_sok hf hg) (hf.acc (hg.scl k)) fun p=>by
  rw [cf_mrg k p f g hf.g hg,cf_acc p hf (hg.scl k),tot_scl k p hg.nodup,fld_tmod,Int.mul_comm];have:=fld_eq (cf (toS f) p+fld (cf (toS g) p * k));rw [fld_eq (cf (toS f) p+fld (cf (toS g) p * k)),fld_eq (cf (toS f) p+cf (toS g) p * k),fld_eq (cf (toS g) p * k)]
  omega
 rw [← e,ofS_toS]
theorem drop_tm {f:List Term} {i:Nat} (hi:i<f.length):f.drop i=tm f i::f.drop (i+1):=by
 rw [List.drop_eq_getElem_cons hi]
 simp [tm,List.getD_eq_getElem?_getD,List.getElem?_eq_getElem hi]
theorem mrgA1 {k:Int} {f g:List Term} {i j:Nat} (hi:i<f.length) (hj:j=g.length):mrg k (f.drop i) (g.drop j)=tm f i::mrg k (f.drop (i+1)) (g.drop j):=by
 rw [drop_tm hi,List.drop_of_length_le (Nat.le_of_eq hj.symm),mrg]
theorem mrgA2 {k:Int} {f g:List Term} {i j:Nat} (hi:i<f.length) (hj:j<g.length) (hb:before (tm f i).mono (tm g j).mono=true):mrg k (f.drop i) (g.drop j)=tm f i::mrg k (f.drop (i+1)) (g.drop j):=by
 rw [drop_tm hi,drop_tm hj,mrg,if_pos hb]
theorem mrgB1 {k:Int} {f g:List Term} {i j:Nat} (hi:i=f.length) (hj:j<g.length):mrg k (f.drop i) (g.drop j)=if fld (k * (tm g j).fac)=0 then mrg k (f.drop i) (g.drop (j+1)) else ⟨(tm g j).mono,fld (k * (tm g j).fac)⟩::mrg k (f.drop i) (g.drop (j+1)):=by
 rw [drop_tm hj,List.drop_of_length_le (Nat.le_of_eq hi.symm),mrg]
theorem mrgB2 {k:Int} {f g:List Term} {i j:Nat} (hi:i<f.length) (hj:j<g.length) (h1 : ¬before (tm f i).mono (tm g j).mono=true) (h2:before (tm g j).mono (tm f i).mono=true):mrg k (f.drop i) (g.drop j)=if fld (k * (tm g j).fac)=0 then mrg k (f.drop i) (g.drop (j+1)) else ⟨(tm g j).mono,fld (k * (tm g j).fac)⟩::mrg k (f.drop i) (g.drop (j+1)):=by
 rw [drop_tm hi,drop_tm hj,mrg,if_neg h1,if_pos h2]
theorem mrgC {k:Int} {f g:List Term} {i j:Nat} (hi:i<f.length) (hj:j<g.length) (h1 : ¬before (tm f i).mono (tm g j).mono=true) (h2 : ¬before (tm g j).mono (tm f i).mono=true):mrg k (f.drop i) (g.drop j)=if fld ((tm f i).fac+fld (k * (tm g j).fac))=0 then mrg k (f.drop (i+1)) (g.drop (j+1)) else ⟨(tm f i).mono,fld ((tm f i).fac+fld (k * (tm g j).fac))⟩::mrg k (f.drop (i+1)) (g.drop (j+1)):=by
 rw [drop_tm hi,drop_tm hj,mrg,if_neg h1,if_neg h2]
theorem mrg_nn (k:Int):mrg k [] []=[]:=by rw [mrg]
def MgAt (k:Int) (f g O:List Term) (i j:Nat):Prop:=O++mrg k (f.drop i) (g.drop j)=mrg k f g
theorem MgAt.app {k:Int} {f g O:List Term} {i j i' j':Nat} (h:MgAt k f g O i j) {t:Term} (e:mrg k (f.drop i) (g.drop j)=t::mrg k (f.drop i') (g.drop j')):MgAt k f g (O++[t]) i' j':=by
 unfold MgAt at h ⊢;rw [e] at h;rw [List.append_assoc];exact h
theorem MgAt.skip {k:Int} {f g O:List Term} {i j i' j':Nat} (h:MgAt k f g O i j) (e:mrg k (f.drop i) (g.drop j)=mrg k (f.drop i') (g.drop j')):MgAt k f g O i' j':=by
 unfold MgAt at h ⊢;rw [e] at h;exact h
theorem MgAt.len {k:Int} {f g O:List Term} {i j:Nat} (h:MgAt k f g O i j):O.length≤f.length+g.length:=by
 have h1:=mrg_len k f g;have h2:=congrArg List.length h;rw [List.length_append] at h2
 omega
theorem mrg_wf {k:Int} {f g:List Term} {M:Int} (hf:Sok M (toS f)) (hg:Gok M (toS g)) (hM:M≤255):Wfs (mrg k f g):=by
 have:=(mrg_sok (k:=k) hf hg).wf hM
 rwa [ofS_toS] at this
theorem MgAt.wf {k:Int} {f g O:List Term} {i j:Nat} (h:MgAt k f g O i j) (hw:Wfs (mrg k f g)):Wfs O:=fun t ht=>hw t (by rw [← h];simp [ht])
theorem l01Add_c {B:World} {H0 H:HP} {L:List SA} {w:World} {qf:Option Addr} {cf:Nat} {f:List Term} {qg:Option Addr} {cg:Nat} {g:List Term} {k:Int} {M:Int} (hf:Terms H qf f) (hg:Terms H qg g) (hsf:Sok M (toS f)) (hsg:Gok M (toS g)) (hM:M≤255) (hk:0≤k∧k≤10006) (hl:f.length+g.length≤1000000000000) (hH:Hp B H0 H L w):Calls Tryz.prog 92 [.agg [.slice qf f.length cf].toArray,.agg [.slice qg g.length cg].toArray,.int .i64 k].toArray w fun e w'=>∃q c,e = .returned (.agg [.slice q (ofS (acc (toS f) (scl (toS g) k))).length c].toArray)∧Hp B H0 H (own 89 9 q (ofS (acc (toS f) (scl (toS g) k))).length c (tsC (ofS (acc (toS f) (scl (toS g) k))))::L) w':=by
 refine JD Tryz.func92 rfl 149 rfl rfl [(0,.agg [.slice qf f.length cf].toArray),(1,.agg [.slice qg g.length cg].toArray),(2,.int .i64 k)] rfl hH ?_;clear hH;have hmw:=mrg_wf (k:=k) hsf hsg hM;refine Jd fun _ hK1 _=>(Jb (Eo rfl rfl rfl fun g3=>(Eo rfl rfl rfl fun g4=>(JG ze42 rfl fun g6=>(Jf (Ja (hK1 (Jd fun _ hK2 _=>(Jb (EG 89 9 (Jg (JQ bz42) rfl (JG ze42 rfl fun g7=>(Jk rfl rfl (by first | exact bytesC_one _ | exact intsC_one _ | exact Term.c_one _ | simp [Value.oneCell']) (by simpa [*] using sz42) (by simp [*]) At.z (Jf (Ja (hK2 ?_))))))))))))))));refine Jd fun _ hK3 _=>(Jb (Jg (Je rfl) rfl (Jg (Je rfl) rfl (Jf (Ja (hK3 (Jd fun _ hK4 _=>(Jx (JP (σ:=Option Addr × Nat × List Term × Nat × Nat) (fun ⟨q,c,O,i,j⟩=>[(8,.int .i64 (i:Int)),(9,.int .i64 (j:Int))]) (fun ⟨q,c,O,i,j⟩=>H) (fun ⟨q,c,O,i,j⟩=>obj g7 (.cells [.slice q (O).length c].toArray 42 (0,0))::own 89 9 q (O).length c (tsC (O))::obj g6 (.cells [.slice none 0 0].toArray 42 (0,0))::obj g4 (.cells [.slice qg g.length cg].toArray 42 (0,0))::obj g3 (.cells [.slice qf f.length cf].toArray 42 (0,0))::L) (fun ⟨q,c,O,i,j⟩=>i≤f.length∧j≤g.length∧MgAt k f g O i j) (fun ⟨q,c,O,i,j⟩=>f.length+g.length - (i+j)) (none,0, [],0,0) ⟨by omega,by omega,rfl⟩ ⟨rfl,⟨rfl,trivial⟩⟩ rfl rfl ?_)))))))));rintro ⟨q,c,O,i,j⟩ ⟨hi,hj,hO⟩ _ hAg0;have hOl:=hO.len;have hOw:Wfs O:=hO.wf hmw;have fb0:=fld_bd (k * (tm g j).fac);have kb0:j<g.length→ -(10006 * 10006)≤k * (tm g j).fac∧k * (tm g j).fac≤10006 * 10006:=fun h=>mul_sb (by omega) (hsg.val _ (toS_at (ts:=g) h));refine EL (σ:=Unit) (fun (_:Unit)=>[]) (fun (_:Unit)=>H) (fun (_:Unit)=>obj g7 (.cells [.slice q (O).length c].toArray 42 (0,0))::own 89 9 q (O).length c (tsC (O))::obj g6 (.cells [.slice none 0 0].toArray 42 (0,0))::obj g4 (.cells [.slice qg g.length cg].toArray 42 (0,0))::obj g3 (.cells [.slice qf f.length cf].toArray 42 (0,0))::L) (fun (_:Unit)=>i<f.length∨j<g.length) ?_ ?_
 ·
  intro _ hMt1;refine Jd fun _ hK5 _=>(Jb (Jg (Jc rfl) rfl (Jg (Jq u42 rfl sz40 rfl) rfl (Jg (Jv rfl (.s (.s (.s (.s .z)))) rfl pl40) rfl (Jg (Jr u40 rfl rfl) rfl (Jg (JZ rfl rfl) rfl (Jg (Jc rfl) rfl (JW (jd:=18) rfl (fun hg18=>?_) (fun hg18=>?_)))))))))
  ·
   try have hg18p:=of_decide_eq_true hg18
   refine JE rfl rfl rfl hg18 (JE rfl rfl rfl hg18 (JE rfl rfl rfl hg18 (JE rfl rfl rfl hg18 (JE rfl rfl rfl hg18 (Jg (JN rfl hg18 rfl) rfl (Jf (Ja (hK5 (Ep rfl (Jo (Ja ?_)))))))))));exact hMt1 () (.inl (by omega)) 12 rfl rfl trivial rfl rfl
  ·
   try have hg18p:=of_decide_eq_false hg18
   refine JK (Jc rfl) rfl rfl rfl hg18 (JK (Jq u42 rfl sz40 rfl) rfl rfl rfl hg18 (JK (Jv rfl (.s (.s (.s .z))) rfl pl40) rfl rfl rfl hg18 (JK (Jr u40 rfl rfl) rfl rfl rfl hg18 (JK (JZ rfl rfl) rfl rfl rfl hg18 (Jg (JM rfl hg18 rfl) rfl (Jf (Ja (hK5 (Jp rfl (fun h24=>?_) (fun h24=>?_))))))))))
   ·
    refine Jo (Ja ?_);exact hMt1 () (.inr (by omega)) 12 rfl rfl trivial rfl rfl
   ·
    refine JR (Jw (Jw (JY (Ja (hK4 (Jd fun _ hK6 _=>(Jb (Jg (Jl rfl At.z (by simpa [*] using ag42)) rfl (Jk rfl rfl (by first | exact bytesC_one _ | exact intsC_one _ | exact Term.c_one _ | simp [Value.oneCell']) (by simpa [*] using sz42) (by simp [*]) (.s (.s .z)) (Jf (Ja (hK6 (Jt (Jy rfl (Res.agg rfl (.s (.s .z)) (by simpa [*] using ag42)) fun w hH=>?_))))))))))))));replace hH:=hH.sublist (.cons _ (.cons_cons _ (.cons _ (.cons _ (.cons _ (List.Sublist.refl _))))))
    obtain rfl:i=f.length:=by omega
    obtain rfl:j=g.length:=by omega
    unfold MgAt at hO;rw [List.drop_length,List.drop_length,mrg_nn,List.append_nil] at hO;have e9:=hO.trans (mrg_acc hsf hsg);subst e9;exact ⟨_,_,rfl,hH⟩
 ·
  rintro _ h0;refine Jx (Jx (EL (σ:=Bool) (fun (b1:Bool)=>[(61,.bool b1)]) (fun (b1:Bool)=>H) (fun (b1:Bool)=>obj g7 (.cells [.slice q (O).length c].toArray 42 (0,0))::own 89 9 q (O).length c (tsC (O))::obj g6 (.cells [.slice none 0 0].toArray 42 (0,0))::obj g4 (.cells [.slice qg g.length cg].toArray 42 (0,0))::obj g3 (.cells [.slice qf f.length cf].toArray 42 (0,0))::L) (fun (b1:Bool)=>(b1=true→i<f.length∧mrg k (f.drop i) (g.drop j)=[tm f i]++mrg k (f.drop (i+1)) (g.drop j))∧(b1=false→j<g.length∧(i<f.length→before (tm f i).mono (tm g j).mono=false))) ?_ ?_))
  ·
   intro _ hMt2;refine Ev [[], [], [1], [2], [0,3], [4], [5], [5], [7,5], [8,5], [6,9,5], [10,5], [11], [12,11], [11], [13,14,11], [15,11], [16,11], [11], [18,11], [11], [19,20,11], [21,11], [22,11]] (by kernel_rfl) (JB (fun gh=>Jc rfl) (JB (fun gh=>Jq u42 rfl sz40 rfl) (JB (fun gh=>Jv rfl (.s (.s (.s .z))) rfl pl40) (JB (fun gh=>Jr u40 rfl rfl) (JB (fun gh=>En rfl rfl) (JB (fun gh=>Jc rfl) (EY 5 rfl (fun hg67=>?_) (fun hg67=>?_))))))))
   ·
    try have hg67p:=of_decide_eq_true hg67
    refine Ei rfl (fun gh=>rfl) hg67 (Ei rfl (fun gh=>rfl) hg67 (Ei rfl (fun gh=>rfl) hg67 (Ei rfl (fun gh=>rfl) hg67 (Ei rfl (fun gh=>rfl) hg67 (Ei rfl (fun gh=>rfl) hg67 (EF rfl (fun gh=>rfl) (EF rfl (fun gh=>rfl) (EF rfl (fun gh=>rfl) (EF rfl (fun gh=>rfl) (EF rfl (fun gh=>rfl) (EF rfl (fun gh=>rfl) (EF rfl (fun gh=>rfl) (EF rfl (fun gh=>rfl) (EF rfl (fun gh=>rfl) ?_))))))))))))));refine EF rfl (fun gh=>rfl) (EF rfl (fun gh=>rfl) (EF rfl (fun gh=>rfl) (Ee 24 1 foll0 (by kernel_rfl) rfl rfl fun gh=>(Eu (us':=(62,_)::(63,_)::(64,_)::(65,_)::(66,_)::(67,_)::(68,_)::(69,_)::(70,_)::(71,_)::(72,_)::(73,_)::(74,_)::(75,_)::(76,_)::(77,_)::(78,_)::(79,_)::(80,_)::(81,_)::(82,_)::(83,_)::(84,_)::(85,_)::_) (L':=_) rfl rfl (EN rfl rfl rfl (Jf (Ef (JS.gn rfl rfl rfl hg67 (JH (JN rfl hg67 rfl) rfl (JH (Je rfl) rfl (Ej (Ja ?_))))))))))));exact hMt2 true ⟨fun _=>⟨by omega,mrgA1 (by omega) (by omega)⟩,fun h=>(by cases h)⟩ 28 rfl rfl ⟨rfl,trivial⟩ rfl rfl
   ·
    try have hg67p:=of_decide_eq_false hg67
    refine El (fun gh=>Jc rfl) rfl (fun gh=>rfl) hg67 (El (fun gh=>Jq u42 rfl sz40 rfl) rfl (fun gh=>rfl) hg67 (El (fun gh=>Jv rfl (.s (.s (.s (.s .z)))) rfl pl40) rfl (fun gh=>rfl) hg67 (El (fun gh=>Jr u40 rfl rfl) rfl (fun gh=>rfl) hg67 (El (fun gh=>JZ rfl rfl) rfl (fun gh=>rfl) hg67 (El (fun gh=>Jc rfl) rfl (fun gh=>rfl) hg67 (EY 11 rfl (fun hg73=>?_) (fun hg73=>?_)))))))
    ·
     try have hg73p:=of_decide_eq_true hg73
     refine El (fun gh=>Jq u42 rfl sz40 rfl) rfl (fun gh=>rfl) hg73 (El (fun gh=>Jv rfl (.s (.s (.s (.s .z)))) rfl pl40) rfl (fun gh=>rfl) hg73 (El (fun gh=>Jc rfl) rfl (fun gh=>rfl) hg73 (El (fun gh=>EA u40 sz89 rfl rfl rfl (by omega) hf.sm) rfl (fun gh=>rfl) hg73 (El (fun gh=>EC u89 rfl sz87 rfl (hf.sm (i:=i) (by omega))) rfl (fun gh=>rfl) hg73 (El (fun gh=>JT rfl (hf.mono (by omega)) (hf.sm (i:=i) (by omega)) (by rw [bytesC_length,(hf.wf _ (by omega)).mono.len];exact ag87)) rfl (fun gh=>rfl) hg73 (El (fun gh=>Jq u42 rfl sz40 rfl) rfl (fun gh=>rfl) hg73 (El (fun gh=>Jv rfl (.s (.s (.s .z))) rfl pl40) rfl (fun gh=>rfl) hg73 (El (fun gh=>Jc rfl) rfl (fun gh=>rfl) hg73 (El (fun gh=>EA u40 sz89 rfl rfl rfl (by omega) hg.sm) rfl (fun gh=>rfl) hg73 (El (fun gh=>EC u89 rfl sz87 rfl (hg.sm (i:=j) (by omega))) rfl (fun gh=>rfl) hg73 (El (fun gh=>JT rfl (hg.mono (by omega)) (hg.sm (i:=j) (by omega)) (by rw [bytesC_length,(hg.wf _ (by omega)).mono.len];exact ag87)) rfl (fun gh=>rfl) hg73 (Ee 24 1 foll0 (by kernel_rfl) rfl rfl fun gh=>(Eu (us':=(62,_)::(63,_)::(64,_)::(65,_)::(66,_)::(67,_)::(68,_)::(69,_)::(70,_)::(71,_)::(72,_)::(73,_)::(74,_)::(75,_)::(76,_)::(77,_)::(78,_)::(79,_)::(80,_)::(81,_)::(82,_)::(83,_)::(84,_)::(85,_)::_) (L':=_) rfl rfl (Et fn111 rfl rfl hg73 rfl rfl fun w hH=>(l01Before_c (hf.wf i (by omega)).mono (hg.wf j (by omega)).mono hH).mono ?_))))))))))))));rintro _ w ⟨rfl,hH⟩;refine ⟨_,rfl,fun a hF=>JL hF hH ?_⟩;refine Jf (Ef (JS.gy (JN rfl hg73 rfl) rfl rfl rfl hg67 (JH (JM rfl hg67 rfl) rfl (JH (Je rfl) rfl (Ej (Ja ?_))))));exact hMt2 (before (tm f i).mono (tm g j).mono) ⟨fun h=>⟨by omega,mrgA2 (by omega) (by omega) h⟩,fun h=>⟨by omega,fun _=>h⟩⟩ 28 rfl rfl ⟨rfl,trivial⟩ rfl rfl
    ·
     try have hg73p:=of_decide_eq_false hg73
     refine Ei rfl (fun gh=>rfl) hg73 (Ei rfl (fun gh=>rfl) hg73 (Ei rfl (fun gh=>rfl) hg73 (Ei rfl (fun gh=>rfl) hg73 (Ei rfl (fun gh=>rfl) hg73 (Ei rfl (fun gh=>rfl) hg73 (Ei rfl (fun gh=>rfl) hg73 (Ei rfl (fun gh=>rfl) hg73 (Ei rfl (fun gh=>rfl) hg73 (Ei rfl (fun gh=>rfl) hg73 (Ei rfl (fun gh=>rfl) hg73 (Ei rfl (fun gh=>rfl) hg73 (Ee 24 1 foll0 (by kernel_rfl) rfl rfl fun gh=>(Eu (us':=(62,_)::(63,_)::(64,_)::(65,_)::(66,_)::(67,_)::(68,_)::(69,_)::(70,_)::(71,_)::(72,_)::(73,_)::(74,_)::(75,_)::(76,_)::(77,_)::(78,_)::(79,_)::(80,_)::(81,_)::(82,_)::(83,_)::(84,_)::(85,_)::_) (L':=_) rfl rfl (JE rfl rfl rfl hg73 ?_))))))))))))));refine Jf (Ef (JS.gy (JM rfl hg73 rfl) rfl rfl rfl hg67 (JH (JM rfl hg67 rfl) rfl (JH (Je rfl) rfl (Ej (Ja ?_))))));exact hMt2 false ⟨fun h=>(by cases h),fun _=>⟨by omega,fun h=>absurd h (by omega)⟩⟩ 28 rfl rfl ⟨rfl,trivial⟩ rfl rfl
  ·
   rintro b1 ⟨h1,h2⟩;refine Ek rfl (fun h61=>?_) (fun h61=>?_)
   ·
    subst h61;have hil:=(h1 rfl).1;refine Jd fun _ hK7 _=>(Ev [[], [0], [], [2], [], [3,4], [5], [6]] (by kernel_rfl) (JB (fun gh=>Jq u42 rfl sz40 rfl) (JB (fun gh=>Jv rfl At.z rfl pl40) (JB (fun gh=>Jq u42 rfl sz40 rfl) (JB (fun gh=>Jv rfl (.s (.s (.s (.s .z)))) rfl pl40) (JB (fun gh=>Jc rfl) (JB (fun gh=>EA u40 sz89 rfl rfl rfl (by omega) hf.sm) (JB (fun gh=>JT rfl (hf.cell _ (by omega)) (hf.sm (i:=i) (by omega)) (by rw [Term.c_length (hf.wf _ (by omega))];exact ag89)) (HJ.mk (fun gh=>Ka u40 ze89 sz89 (hf.wf i (by omega)) rfl) (Ee 8 3 foll0 (by kernel_rfl) rfl rfl fun gh=>(Eu (us':=(89,_)::(90,_)::(91,_)::(92,_)::(93,_)::(94,_)::(95,_)::(96,_)::_) (L':=_::_) rfl rfl (EQ u40 ze89 sz89 by89 rfl rfl (by simp only [List.length_cons,List.length_nil];omega) .z (.s .z) (fun _ _=>(.s .z)) rfl fun qo97 co97=>(Jg (Jq u42 rfl sz40 rfl) rfl (Ez rfl rfl rfl rfl sz40 (by simp [*]) (.s .z) ?_))))))))))))));refine Jf (Ef (Ej (Ja (hK7 (Jb (Jg (Jc rfl) rfl (Jg (JF rfl rfl (by first | exact nw _ (by omega) | rfl)) rfl (Jg (Je rfl) rfl (Jf (JJ (JJ (Ja (JC .z ?_)))))))))))));exact hAg0 (qo97,co97,O++[tm f i],i+1,j) ⟨by omega,by omega,hO.app (h1 rfl).2⟩ (by show f.length+g.length - _<f.length+g.length - (i+j);omega) 16 rfl rfl ⟨rfl,⟨rfl,trivial⟩⟩ rfl rfl
   ·
    subst h61;obtain ⟨hjl,hbf⟩:=h2 rfl;have hyv:=hsg.val _ (toS_at (ts:=g) hjl);simp only at hyv;have kb:=mul_sb (b:=(tm g j).fac) (B:=10006) (show -10006≤k∧k≤10006 by omega) hyv;have fb:=fld_bd (k * (tm g j).fac);refine EL (σ:=Bool) (fun (b2:Bool)=>[(101,.bool b2)]) (fun (b2:Bool)=>H) (fun (b2:Bool)=>obj g7 (.cells [.slice q (O).length c].toArray 42 (0,0))::own 89 9 q (O).length c (tsC (O))::obj g6 (.cells [.slice none 0 0].toArray 42 (0,0))::obj g4 (.cells [.slice qg g.length cg].toArray 42 (0,0))::obj g3 (.cells [.slice qf f.length cf].toArray 42 (0,0))::L) (fun (b2:Bool)=>(b2=true→mrg k (f.drop i) (g.drop j)=if fld (k * (tm g j).fac)=0 then mrg k (f.drop i) (g.drop (j+1)) else [⟨(tm g j).mono,fld (k * (tm g j).fac)⟩]++mrg k (f.drop i) (g.drop (j+1)))∧(b2=false→i<f.length∧mrg k (f.drop i) (g.drop j)=if fld ((tm f i).fac+fld (k * (tm g j).fac))=0 then mrg k (f.drop (i+1)) (g.drop (j+1)) else [⟨(tm f i).mono,fld ((tm f i).fac+fld (k * (tm g j).fac))⟩]++mrg k (f.drop (i+1)) (g.drop (j+1)))) ?_ ?_
    ·
     intro _ hMt3;refine Ev [[], [], [1], [2], [0,3], [4], [5], [6,5], [5], [7,8,5], [9,5], [10,5], [5], [12,5], [5], [13,14,5], [15,5], [16,5]] (by kernel_rfl) (JB (fun gh=>Jc rfl) (JB (fun gh=>Jq u42 rfl sz40 rfl) (JB (fun gh=>Jv rfl (.s (.s (.s (.s .z)))) rfl pl40) (JB (fun gh=>Jr u40 rfl rfl) (JB (fun gh=>En rfl rfl) (JB (fun gh=>Jc rfl) (EY 5 rfl (fun hg107=>?_) (fun hg107=>?_))))))))
     ·
      try have hg107p:=of_decide_eq_true hg107
      refine Ei rfl (fun gh=>rfl) hg107 (Ei rfl (fun gh=>rfl) hg107 (Ei rfl (fun gh=>rfl) hg107 (Ei rfl (fun gh=>rfl) hg107 (Ei rfl (fun gh=>rfl) hg107 (Ei rfl (fun gh=>rfl) hg107 (Ei rfl (fun gh=>rfl) hg107 (Ei rfl (fun gh=>rfl) hg107 (Ei rfl (fun gh=>rfl) hg107 (Ei rfl (fun gh=>rfl) hg107 (Ei rfl (fun gh=>rfl) hg107 (Ei rfl (fun gh=>rfl) hg107 (Ee 18 1 foll0 (by kernel_rfl) rfl rfl fun gh=>(Eu (us':=(102,_)::(103,_)::(104,_)::(105,_)::(106,_)::(107,_)::(108,_)::(109,_)::(110,_)::(111,_)::(112,_)::(113,_)::(114,_)::(115,_)::(116,_)::(117,_)::(118,_)::(119,_)::_) (L':=_) rfl rfl (JE rfl rfl rfl hg107 ?_))))))))))))));refine Jf (Ef (JH (JN rfl hg107 rfl) rfl (JH (Je rfl) rfl (Ej (Ja ?_)))));exact hMt3 true ⟨fun _=>mrgB1 (by omega) hjl,fun h=>(by cases h)⟩ 21 rfl rfl ⟨rfl,trivial⟩ rfl rfl
     ·
      try have hg107p:=of_decide_eq_false hg107
      refine El (fun gh=>Jq u42 rfl sz40 rfl) rfl (fun gh=>rfl) hg107 (El (fun gh=>Jv rfl (.s (.s (.s .z))) rfl pl40) rfl (fun gh=>rfl) hg107 (El (fun gh=>Jc rfl) rfl (fun gh=>rfl) hg107 (El (fun gh=>EA u40 sz89 rfl rfl rfl (by omega) hg.sm) rfl (fun gh=>rfl) hg107 (El (fun gh=>EC u89 rfl sz87 rfl (hg.sm (i:=j) (by omega))) rfl (fun gh=>rfl) hg107 (El (fun gh=>JT rfl (hg.mono (by omega)) (hg.sm (i:=j) (by omega)) (by rw [bytesC_length,(hg.wf _ (by omega)).mono.len];exact ag87)) rfl (fun gh=>rfl) hg107 (El (fun gh=>Jq u42 rfl sz40 rfl) rfl (fun gh=>rfl) hg107 (El (fun gh=>Jv rfl (.s (.s (.s (.s .z)))) rfl pl40) rfl (fun gh=>rfl) hg107 (El (fun gh=>Jc rfl) rfl (fun gh=>rfl) hg107 (El (fun gh=>EA u40 sz89 rfl rfl rfl (by omega) hf.sm) rfl (fun gh=>rfl) hg107 (El (fun gh=>EC u89 rfl sz87 rfl (hf.sm (i:=i) (by omega))) rfl (fun gh=>rfl) hg107 (El (fun gh=>JT rfl (hf.mono (by omega)) (hf.sm (i:=i) (by omega)) (by rw [bytesC_length,(hf.wf _ (by omega)).mono.len];exact ag87)) rfl (fun gh=>rfl) hg107 (Ee 18 1 foll0 (by kernel_rfl) rfl rfl fun gh=>(Eu (us':=(102,_)::(103,_)::(104,_)::(105,_)::(106,_)::(107,_)::(108,_)::(109,_)::(110,_)::(111,_)::(112,_)::(113,_)::(114,_)::(115,_)::(116,_)::(117,_)::(118,_)::(119,_)::_) (L':=_) rfl rfl (Et fn111 rfl rfl hg107 rfl rfl fun w hH=>(l01Before_c (hg.wf j (by omega)).mono (hf.wf i (by omega)).mono hH).mono ?_))))))))))))));rintro _ w ⟨rfl,hH⟩;refine ⟨_,rfl,fun a hF=>JL hF hH ?_⟩;refine Jf (Ef (JH (JM rfl hg107 rfl) rfl (JH (Je rfl) rfl (Ej (Ja ?_)))));exact hMt3 (before (tm g j).mono (tm f i).mono) ⟨fun h=>mrgB2 (by omega) hjl (by rw [hbf (by omega)];decide) h,fun h=>⟨by omega,mrgC (by omega) hjl (by rw [hbf (by omega)];decide) (by rw [h];decide)⟩⟩ 21 rfl rfl ⟨rfl,trivial⟩ rfl rfl
    ·
     rintro b2 ⟨h3,h4⟩;refine Ek rfl (fun h101=>?_) (fun h101=>?_)
     ·
      subst h101;have hB:=h3 rfl;refine Jd fun _ hK8 _=>(Jd fun _ hK9 _=>(Jb (Jg (Jc rfl) rfl (Jg (Jq u42 rfl sz40 rfl) rfl (Jg (Jv rfl (.s (.s (.s .z))) rfl pl40) rfl (Jg (Jc rfl) rfl (Jg (EA u40 sz89 rfl rfl rfl (by omega) hg.sm) rfl (Jg (EC u89 rfl sz2 rfl (hg.sm (i:=j) (by omega))) rfl (Jg (JX rfl (hg.fac (by omega)) pl2) rfl (Jg (EZ rfl rfl (by first | exact nw _ (by omega) | rfl)) rfl (Jz fn93 rfl rfl fun w hH=>(l01Mod_c (by omega) hH).mono ?_)))))))))));rintro _ w ⟨rfl,hH⟩;refine ⟨_,rfl,fun a hF=>JL hF hH ?_⟩;refine Jg (Je rfl) rfl (Jf (Ja (hK9 (Jd fun _ hK10 _=>(Jb (Jg (Jc rfl) rfl (Jg (Ew rfl rfl) rfl (Jf (Ja (hK10 (Jp rfl (fun h132=>?_) (fun h132=>?_))))))))))))
      ·
       refine Ev [[], [0], [], [2], [], [3,4], [5], [6], [], [7,8], [9]] (by kernel_rfl) (JB (fun gh=>Jq u42 rfl sz40 rfl) (JB (fun gh=>Jv rfl At.z rfl pl40) (JB (fun gh=>Jq u42 rfl sz40 rfl) (JB (fun gh=>Jv rfl (.s (.s (.s .z))) rfl pl40) (JB (fun gh=>Jc rfl) (JB (fun gh=>EA u40 sz89 rfl rfl rfl (by omega) hg.sm) (JB (fun gh=>EC u89 rfl sz87 rfl (hg.sm (i:=j) (by omega))) (JB (fun gh=>JT rfl (hg.mono (by omega)) (hg.sm (i:=j) (by omega)) (by rw [bytesC_length,(hg.wf _ (by omega)).mono.len];exact ag87)) (JB (fun gh=>Jc rfl) (JB (fun gh=>EO rfl rfl (fun w=>bt89 _ _ (hg.wf j (by omega)).mono.len w)) (HJ.mk (fun gh=>Ka u40 ze89 sz89 (Term.wf.of (hg.wf j (by omega)).mono (by omega)) rfl) (Ee 11 3 foll0 (by kernel_rfl) rfl rfl fun gh=>(Eu (us':=(133,_)::(134,_)::(135,_)::(136,_)::(137,_)::(138,_)::(139,_)::(140,_)::(141,_)::(142,_)::(143,_)::_) (L':=_::_) rfl rfl (EQ u40 ze89 sz89 by89 rfl rfl (by simp only [List.length_cons,List.length_nil];omega) .z (.s .z) (fun _ _=>(.s .z)) rfl fun qo144 co144=>?_))))))))))))));refine Jg (Jq u42 rfl sz40 rfl) rfl (Ez rfl rfl rfl rfl sz40 (by simp [*]) (.s .z) (Jf (Ef (Ej (Ja (hK8 (Jb (Jg (Jc rfl) rfl (Jg (JF rfl rfl (by first | exact nw _ (by omega) | rfl)) rfl (Jg (Je rfl) rfl (Jf (JJ (JJ (Ja (JC .z ?_)))))))))))))));exact hAg0 (qo144,co144,O++[⟨(tm g j).mono,fld (k * (tm g j).fac)⟩],i,j+1) ⟨by omega,by omega,hO.app (hB.trans (if_neg h132))⟩ (by show f.length+g.length - _<f.length+g.length - (i+j);omega) 32 rfl rfl ⟨rfl,⟨rfl,trivial⟩⟩ rfl rfl
      ·
       refine Jo (Ja (hK8 (Jb (Jg (Jc rfl) rfl (Jg (JF rfl rfl (by first | exact nw _ (by omega) | rfl)) rfl (Jg (Je rfl) rfl (Jf (JJ (JJ (Ja ?_))))))))));exact hAg0 (q,c,O,i,j+1) ⟨by omega,by omega,hO.skip (hB.trans (if_pos (Decidable.not_not.1 h132)))⟩ (by show f.length+g.length - _<f.length+g.length - (i+j);omega) 19 rfl rfl ⟨rfl,⟨rfl,trivial⟩⟩ rfl rfl
     ·
      subst h101;obtain ⟨hil,hC⟩:=h4 rfl;have hxv:=hsf.val _ (toS_at (ts:=f) hil);simp only at hxv;have fb2:=fld_bd ((tm f i).fac+fld (k * (tm g j).fac));refine Jd fun _ hK11 _=>(Jd fun _ hK12 _=>(Ev [[], [0], [], [1,2], [3], [4], [], [], [7], [], [8,9], [10], [11], [6,12], [13]] (by kernel_rfl) (JB (fun gh=>Jq u42 rfl sz40 rfl) (JB (fun gh=>Jv rfl (.s (.s (.s (.s .z)))) rfl pl40) (JB (fun gh=>Jc rfl) (JB (fun gh=>EA u40 sz89 rfl rfl rfl (by omega) hf.sm) (JB (fun gh=>EC u89 rfl sz2 rfl (hf.sm (i:=i) (by omega))) (JB (fun gh=>JX rfl (hf.fac (by omega)) pl2) (JB (fun gh=>Jc rfl) (JB (fun gh=>Jq u42 rfl sz40 rfl) (JB (fun gh=>Jv rfl (.s (.s (.s .z))) rfl pl40) (JB (fun gh=>Jc rfl) (JB (fun gh=>EA u40 sz89 rfl rfl rfl (by omega) hg.sm) (JB (fun gh=>EC u89 rfl sz2 rfl (hg.sm (i:=j) (by omega))) ?_))))))))))))));refine JB (fun gh=>JX rfl (hg.fac (by omega)) pl2) (JB (fun gh=>EZ rfl rfl (by first | exact nw _ (by omega) | rfl)) (ES fn93 (fun gh=>rfl) (fun w X hH=>l01Mod_c (by omega) hH) (Ee 15 2 foll0 (by kernel_rfl) rfl rfl fun gh=>(Eu (us':=(25,_)::(26,_)::(27,_)::(28,_)::(29,_)::(30,_)::(31,_)::(32,_)::(33,_)::(34,_)::(35,_)::(36,_)::(37,_)::(38,_)::(39,_)::_) (L':=_) rfl rfl (Jg (JF rfl rfl (by first | exact nw _ (by omega) | rfl)) rfl (Jz fn93 rfl rfl fun w hH=>(l01Mod_c (by omega) hH).mono ?_))))));rintro _ w ⟨rfl,hH⟩;refine ⟨_,rfl,fun a hF=>JL hF hH ?_⟩;refine Jf (Ef (JH (Je rfl) rfl (Ej (Ja (hK12 (Jd fun _ hK13 _=>(Jb (Jg (Jc rfl) rfl (Jg (Ew rfl rfl) rfl (Jf (Ja (hK13 (Jp rfl (fun h43=>?_) (fun h43=>?_))))))))))))))
      ·
       refine Ev [[], [0], [], [2], [], [3,4], [5], [6], [], [7,8], [9]] (by kernel_rfl) (JB (fun gh=>Jq u42 rfl sz40 rfl) (JB (fun gh=>Jv rfl At.z rfl pl40) (JB (fun gh=>Jq u42 rfl sz40 rfl) (JB (fun gh=>Jv rfl (.s (.s (.s (.s .z)))) rfl pl40) (JB (fun gh=>Jc rfl) (JB (fun gh=>EA u40 sz89 rfl rfl rfl (by omega) hf.sm) (JB (fun gh=>EC u89 rfl sz87 rfl (hf.sm (i:=i) (by omega))) (JB (fun gh=>JT rfl (hf.mono (by omega)) (hf.sm (i:=i) (by omega)) (by rw [bytesC_length,(hf.wf _ (by omega)).mono.len];exact ag87)) (JB (fun gh=>Jc rfl) (JB (fun gh=>EO rfl rfl (fun w=>bt89 _ _ (hf.wf i (by omega)).mono.len w)) (HJ.mk (fun gh=>Ka u40 ze89 sz89 (Term.wf.of (hf.wf i (by omega)).mono (by omega)) rfl) (Ee 11 3 foll0 (by kernel_rfl) rfl rfl fun gh=>(Eu (us':=(44,_)::(45,_)::(46,_)::(47,_)::(48,_)::(49,_)::(50,_)::(51,_)::(52,_)::(53,_)::(54,_)::_) (L':=_::_) rfl rfl (EQ u40 ze89 sz89 by89 rfl rfl (by simp only [List.length_cons,List.length_nil];omega) .z (.s .z) (fun _ _=>(.s .z)) rfl fun qo55 co55=>?_))))))))))))));refine Jg (Jq u42 rfl sz40 rfl) rfl (Ez rfl rfl rfl rfl sz40 (by simp [*]) (.s .z) (Jf (Ef (Ej (Ja (hK11 (Jd fun _ hK14 _=>(Jb (Jg (Jc rfl) rfl (Jg (JF rfl rfl (by first | exact nw _ (by omega) | rfl)) rfl (Jg (Je rfl) rfl (Jf (Ja (hK14 (Jb (Jg (Jc rfl) rfl ?_))))))))))))))));refine Jg (JF rfl rfl (by first | exact nw _ (by omega) | rfl)) rfl (Jg (Je rfl) rfl (Jf (JJ (JJ (Ja (JC .z ?_))))));exact hAg0 (qo55,co55,O++[⟨(tm f i).mono,fld ((tm f i).fac+fld (k * (tm g j).fac))⟩],i+1,j+1) ⟨by omega,by omega,hO.app (hC.trans (if_neg h43))⟩ (by show f.length+g.length - _<f.length+g.length - (i+j);omega) 43 rfl rfl ⟨rfl,⟨rfl,trivial⟩⟩ rfl rfl
      ·
       refine Jo (Ja (hK11 (Jd fun _ hK15 _=>(Jb (Jg (Jc rfl) rfl (Jg (JF rfl rfl (by first | exact nw _ (by omega) | rfl)) rfl (Jg (Je rfl) rfl (Jf (Ja (hK15 (Jb (Jg (Jc rfl) rfl (Jg (JF rfl rfl (by first | exact nw _ (by omega) | rfl)) rfl (Jg (Je rfl) rfl (Jf (JJ ?_))))))))))))))));refine JJ (Ja ?_);exact hAg0 (q,c,O,i+1,j+1) ⟨by omega,by omega,hO.skip (hC.trans (if_pos (Decidable.not_not.1 h43)))⟩ (by show f.length+g.length - _<f.length+g.length - (i+j);omega) 30 rfl rfl ⟨rfl,⟨rfl,trivial⟩⟩ rfl rfl
theorem fn114:Fn Tryz.prog 114:=⟨_,Tryz.func114,by kernel_rfl,rfl⟩
theorem fn92:Fn Tryz.prog 92:=⟨_,Tryz.func92,by kernel_rfl,rfl⟩
theorem bd42_0 : ∀(q0:Option Addr) (m0 c0:Nat) w,(Instr.build 42 #[(0,.slice q0 m0 c0)]).run Tryz.prog w = .ok (.agg [.slice q0 m0 c0].toArray) w:=fun q0 m0 c0 _=>by kernel_rfl
theorem addS_len (s:Sm) (p:Pw) (k:Int):(addS s p k).length≤s.length+1:=by
 induction s with
 | nil=>simp only [addS];split <;> simp
 | cons x s ih=>
  simp only [addS]
  split
  ·split
   ·simp;omega
   ·simp
  ·split
   ·split <;> simp
   ·simp only [List.length_cons];omega
theorem acc_len (l:Sm) : ∀s:Sm,(acc s l).length≤s.length+l.length:=by
 induction l with
 | nil=>intro s;simp [acc]
 | cons x l ih=>
  intro s;rw [acc_cons];have h1:=ih (addS s x.1 x.2);have h2:=addS_len s x.1 x.2;simp only [List.length_cons]
  omega
theorem mul1_len (ds:Pw) (x:Pw × Int) (t:Sm):(mul1 ds x t).length≤t.length:=by
 rw [mul1_raw,List.length_map];exact raw1_len ds x t
theorem mulL_len (ds:Pw) (t:Sm) : ∀s:Sm,(mulL ds s t).length≤s.length * t.length
 | []=>by simp [mulL]
 | x::s=>by
  have h1:=mulL_len ds t s
  have h2:=mul1_len ds x t
  unfold mulL at h1 ⊢
  rw [List.flatMap_cons,List.length_append,List.length_cons,Nat.succ_mul]
  omega
theorem gmulL {ds:Pw} {s t:Sm} {M N:Int} (hs:Gok M s) (ht:Gok N t) : ∀z∈mulL ds s t,Pok (M+N) z.1:=fun z hz=>by
 obtain ⟨x,hx,y,hy,_,e⟩:=mulL_mem hz
 rw [e]
 exact (hs.key x hx).add (ht.key y hy)
theorem mulL_one (ds:Pw) {ts:List Term} {k:Nat} (hk:k<ts.length) (t:Sm):mulL ds (toS (ts.take (k+1))) t=mulL ds (toS (ts.take k)) t++mul1 ds ((tm ts k).mono,(tm ts k).fac) t:=by
 rw [toS_take hk];unfold mulL;rw [List.flatMap_append]
 simp
theorem acc_mulL {ds:Pw} {ts:List Term} {k:Nat} (hk:k<ts.length) (t:Sm):acc (acc [] (mulL ds (toS (ts.take k)) t)) (scl (shf ds ((tm ts k).mono,(tm ts k).fac) t) 1)=acc [] (mulL ds (toS (ts.take (k+1))) t):=by
 rw [acc_shf,mulL_one ds hk,acc_app]
theorem mulL_kex {ds:Pw} {s t:Sm} {M N:Int} (hs:Gok M s) (ht:Gok N t) (h1:KEx ds s) (h2:KEx ds t):KEx ds (mulL ds s t):=fun z hz=>by
 obtain ⟨x,hx,h⟩:=List.mem_flatMap.1 hz
 exact mul1_kex (hs.key x hx) ht (h1 x hx) h2 z h
theorem KEx.nil {ds:Pw}:KEx ds []:=fun x hx=>by simp at hx
theorem times_kex {ds:Pw} {s t:Sm} {M N:Int} (hs:Gok M s) (ht:Gok N t) (h1:KEx ds s) (h2:KEx ds t):KEx ds (timesS ds s t):=acc_kex KEx.nil (mulL_kex hs ht h1 h2)
theorem gtimes {ds:Pw} {s t:Sm} {M N:Int} (hs:Gok M s) (ht:Gok N t):Sok (M+N) (timesS ds s t):=Sok.nil.acc (gmulL hs ht)
theorem times_lens {ds:Pw} {x:Pw × Int} {f g:List Term} {k:Nat} (hk:k<f.length) (hl:f.length * g.length≤1000000000000):(ofS (acc [] (mulL ds (toS (f.take k)) (toS g)))).length+(ofS (shf ds x (toS g))).length≤1000000000000:=by
 have h1:=acc_len (mulL ds (toS (f.take k)) (toS g)) [];have h2:=mulL_len ds (toS g) (toS (f.take k));have h3:=shf_len ds x (toS g);have h4:(k+1) * g.length≤f.length * g.length:=Nat.mul_le_mul_right _ hk;rw [toS_len,toS_len,List.length_take_of_le (by omega)] at h2;rw [toS_len] at h3;rw [ofS_len,ofS_len];rw [Nat.succ_mul] at h4;simp only [List.length_nil] at h1
 omega
theorem times_len (ds:Pw) (s t:Sm):(timesS ds s t).length≤s.length * t.length:=by
 have h1:=acc_len (mulL ds s t) [];have h2:=mulL_len ds t s;unfold timesS;simp only [List.length_nil] at h1
 omega
theorem l01Single_c {B:World} {H0 H:HP} {L:List SA} {w:World} {m:List Int} {x:Int} (hm:Mono m) (hx : -1000000000000≤x∧x≤1000000000000) (hH:Hp B H0 H L w):Calls Tryz.prog 91 [.agg (bytesC m).toArray,.int .i64 x].toArray w fun e w'=>∃q c,e = .returned (.agg [.slice q (ofS (addS [] m x)).length c].toArray)∧Hp B H0 H (own 89 9 q (ofS (addS [] m x)).length c (tsC (ofS (addS [] m x)))::L) w':=by
 refine JD Tryz.func91 rfl 15 rfl rfl [(0,.agg (bytesC m).toArray),(1,.int .i64 x)] rfl hH ?_;have hml:=hm.len;clear hH;have fb:=fld_bd x;refine Jd fun _ hK1 _=>(Jb (Eo rfl rfl rfl fun g2=>(JG ze42 rfl fun g4=>(Jf (Ja (hK1 (Jd fun _ hK2 _=>(Jd fun _ hK3 _=>(Jb (Jg (Jc rfl) rfl (Jz fn93 rfl rfl fun w hH=>(l01Mod_c (by omega) hH).mono ?_)))))))))));rintro _ w ⟨rfl,hH⟩;refine ⟨_,rfl,fun a hF=>JL hF hH ?_⟩;refine Jg (En rfl rfl) rfl (Jf (Ja (hK3 (Jp rfl (fun h7=>?_) (fun h7=>?_)))))
 ·
  refine Jd fun _ hK4 _=>(Jb (EG 89 9 (Jg (JQ bz42) rfl (Jk rfl rfl (by first | exact bytesC_one _ | exact intsC_one _ | exact Term.c_one _ | simp [Value.oneCell']) (by simpa [*] using sz42) (by simp [*]) (.s .z) (Jf (Ja (hK4 (Jt (Jn (Jy rfl (Res.agg rfl (.s .z) (by simpa [*] using ag42)) fun w hH=>?_))))))))));replace hH:=hH.sublist (.cons_cons _ (.cons _ (.cons _ (List.Sublist.refl _))))
  have e9:ofS (addS [] m x)=[]:=by simp only [addS];rw [if_pos h7];rfl
  rw [e9];exact ⟨_,_,rfl,hH⟩
 ·
  refine Jo (Ja (hK2 (Jd fun _ hK5 _=>(Ev [[], [], [1]] (by kernel_rfl) (JB (fun gh=>Jl rfl (.s .z) (by simpa [*] using ag87)) (JB (fun gh=>Jc rfl) (ES fn93 (fun gh=>rfl) (fun w X hH=>l01Mod_c (by omega) hH) (Ee 3 4 foll0 (by kernel_rfl) rfl rfl fun gh=>(Eu (us':=(9,_)::(10,_)::(11,_)::_) (L':=_) rfl rfl (Jg (EO rfl rfl (fun w=>bt89 _ _ hm.len w)) rfl (EX (Ka u40 ze89 sz89 (Term.wf.of hm (by omega)) rfl) rfl fun qo13 co13=>(Jg (PR.build1 rfl (fun w=>bd42_0 _ _ _ w)) rfl (Jk rfl rfl (by first | exact bytesC_one _ | exact intsC_one _ | exact Term.c_one _ | simp [Value.oneCell']) (by simpa [*] using sz42) (by simp [*]) (.s .z) (Jf (Ef ?_)))))))))))))));refine Ej (Ja (hK5 (Jt (Jy rfl (Res.agg rfl (.s .z) (by simpa [*] using ag42)) fun w hH=>?_))));replace hH:=hH.sublist (.cons_cons _ (.cons _ (.cons _ (List.Sublist.refl _))))
  have e9:ofS (addS [] m x)=[⟨m,fld x⟩]:=by simp only [addS];rw [if_neg h7];rfl
  rw [e9];exact ⟨_,_,rfl,hH⟩
theorem l01Times_c {B:World} {H0 H:HP} {L:List SA} {w:World} {qds:Option Addr} {cds:Nat} {ds:List Int} {qf:Option Addr} {cf:Nat} {f:List Term} {qg:Option Addr} {cg:Nat} {g:List Term} {M N:Int} (hds:Ints H qds ds) (hf:Terms H qf f) (hg:Terms H qg g) (hn:ds.length≤8) (hd : ∀j,0≤ds.getD j 0∧ds.getD j 0≤12) (h1:KEx ds (toS f)) (h2:KEx ds (toS g)) (hp:Gok M (toS f)) (hq:Gok N (toS g)) (hM:M+N≤255) (hl:f.length * g.length≤1000000000000) (hlf:f.length≤1000000000000) (hH:Hp B H0 H L w):Calls Tryz.prog 72 [.slice qds ds.length cds,.agg [.slice qf f.length cf].toArray,.agg [.slice qg g.length cg].toArray].toArray w fun e w'=>∃q c,e = .returned (.agg [.slice q (ofS (timesS ds (toS f) (toS g))).length c].toArray)∧Hp B H0 H (own 89 9 q (ofS (timesS ds (toS f) (toS g))).length c (tsC (ofS (timesS ds (toS f) (toS g))))::L) w':=by
 refine JD Tryz.func72 rfl 28 rfl rfl [(0,.slice qds ds.length cds),(1,.agg [.slice qf f.length cf].toArray),(2,.agg [.slice qg g.length cg].toArray)] rfl hH ?_;clear hH;have hw9 : ∀k,Wfs (ofS (acc [] (mulL ds (toS (f.take k)) (toS g)))):=fun k=>(Sok.nil.acc (gmulL (hp.take k) hq)).wf hM;refine Jd fun _ hK1 _=>(Jb (Eo rfl rfl rfl fun g4=>(Eo rfl rfl rfl fun g5=>(JG ze42 rfl fun g6=>(Jf (Ja (hK1 (Jd fun _ hK2 _=>(Jb (EG 89 9 (Jg (JQ bz42) rfl (JG ze42 rfl fun g7=>(Jk rfl rfl (by first | exact bytesC_one _ | exact intsC_one _ | exact Term.c_one _ | simp [Value.oneCell']) (by simpa [*] using sz42) (by simp [*]) At.z (Jf (Ja (hK2 ?_))))))))))))))));refine Jd fun _ hK3 _=>(Jd fun _ hK4 _=>(Jb (Jg (Je rfl) rfl (Jf (Ja (hK4 (Jx (JP (σ:=Option Addr × Nat × Nat) (fun ⟨q,c,k⟩=>[(8,.int .i64 (k:Int))]) (fun ⟨q,c,k⟩=>H) (fun ⟨q,c,k⟩=>obj g7 (.cells [.slice q (ofS (acc [] (mulL ds (toS (f.take k)) (toS g)))).length c].toArray 42 (0,0))::own 89 9 q (ofS (acc [] (mulL ds (toS (f.take k)) (toS g)))).length c (tsC (ofS (acc [] (mulL ds (toS (f.take k)) (toS g)))))::obj g6 (.cells [.slice none 0 0].toArray 42 (0,0))::obj g5 (.cells [.slice qg g.length cg].toArray 42 (0,0))::obj g4 (.cells [.slice qf f.length cf].toArray 42 (0,0))::L) (fun ⟨q,c,k⟩=>k≤f.length) (fun ⟨q,c,k⟩=>f.length - k) (none,0,0) (by show 0≤f.length;omega) ⟨rfl,trivial⟩ rfl rfl ?_))))))));rintro ⟨q,c,k⟩ hI _ hAg0;have hk:=hI;have wfO:=hw9 k;refine Jd fun _ hK5 _=>(Jd fun _ hK6 _=>(Jb (Jg (Jc rfl) rfl (Jg (Jq u42 rfl sz40 rfl) rfl (Jg (Jv rfl (.s (.s (.s (.s .z)))) rfl pl40) rfl (Jg (Jr u40 rfl rfl) rfl (Jg (JZ rfl rfl) rfl (Jf (Ja (hK6 (Jp rfl (fun hc14=>?_) (fun hc14=>?_))))))))))))
 ·
  refine Jo (Ja (hK5 (Jd fun _ hK7 _=>(Jx (Ev [[], [], [], [2], [], [3,4], [5], [], [1,6,7]] (by kernel_rfl) (JB (fun gh=>Jl rfl At.z (by simpa [*] using ag42)) (JB (fun gh=>Jc rfl) (JB (fun gh=>Jq u42 rfl sz40 rfl) (JB (fun gh=>Jv rfl (.s (.s (.s (.s .z)))) rfl pl40) (JB (fun gh=>Jc rfl) (JB (fun gh=>EA u40 sz89 rfl rfl rfl (by omega) hf.sm) (JB (fun gh=>JT rfl (hf.cell _ (by omega)) (hf.sm (i:=k) (by omega)) (by rw [Term.c_length (hf.wf _ (by omega))];exact ag89)) (JB (fun gh=>Jl rfl (.s (.s (.s .z))) (by simpa [*] using ag42)) (HJ.callN fn114 (fun gh=>rfl) (fun w X hH=>l01Shift_c hds (hf.wf k (by omega)) hg hn hd (h1 _ (toS_at (by omega))) h2 (hp.key _ (toS_at (by omega))) hq hM (hp.val _ (toS_at (by omega))) (Nat.le_trans (Nat.le_mul_of_pos_left _ (by omega)) hl) hH) (Ee 9 2 foll0 (by kernel_rfl) rfl rfl fun gh=>?_)))))))))))))));refine Eu (us':=(17,_)::(18,_)::(19,_)::(20,_)::(21,_)::(22,_)::(23,_)::(24,_)::(25,_)::_) (L':=_::_) rfl rfl (Jz fn92 rfl rfl fun w hH=>hH.lend (.s (.s .z)) fun Hl1 hle1 hA1 hB1 hH=>hH.lend .z fun Hl2 hle2 hA2 hB2 hH=>(l01Add_c ((own_terms wfO hA1).le hle2) (own_terms (Gok.wf (shf_g (hp.key _ (toS_at (by omega))) hq) hM) hA2) (by rw [toS_ofS];exact Sok.nil.acc (gmulL (hp.take k) hq)) (by rw [toS_ofS];exact shf_g (hp.key _ (toS_at (by omega))) hq) hM (by omega) (times_lens (by omega) hl) hH).mono ?_);rintro _ w ⟨qo26,co26,rfl,hH⟩;replace hH:=hB2 _ _ hH;replace hH:=hB1 _ _ hH;refine ⟨_,rfl,fun a hF=>JL hF hH ?_⟩;refine Jk rfl rfl (by first | exact bytesC_one _ | exact intsC_one _ | exact Term.c_one _ | simp [Value.oneCell']) (by simpa [*] using sz42) (by simp [*]) (.s (.s (.s .z))) (Jf (Ef (Ej (JJ (Ja (hK7 (Jb (Jg (Jc rfl) rfl (Jg (JF rfl rfl (by first | exact nw _ (by omega) | rfl)) rfl (Jg (Je rfl) rfl (Jf (Ja (JC .z (JC .z (Ji (.s (.s (.s (.s .z)))) ?_)))))))))))))));refine Ji (.s (.s (.s (.s .z)))) (Ji (.s (.s (.s (.s .z)))) (Ji (.s (.s (.s .z))) (Ji (.s (.s (.s (.s .z)))) ?_)));exact hAg0 (qo26,co26,k+1) (by show k+1≤f.length;omega) (by show f.length - (k+1)<f.length - k;omega) 19 rfl rfl ⟨rfl,trivial⟩ rfl (by simp only [toS_ofS];rw [acc_mulL (by omega)])
 ·
  refine JR (Jw (Jw (JY (Ja (hK3 (Jd fun _ hK8 _=>(Jb (Jg (Jl rfl At.z (by simpa [*] using ag42)) rfl (Jk rfl rfl (by first | exact bytesC_one _ | exact intsC_one _ | exact Term.c_one _ | simp [Value.oneCell']) (by simpa [*] using sz42) (by simp [*]) (.s (.s .z)) (Jf (Ja (hK8 (Jt (Jy rfl (Res.agg rfl (.s (.s .z)) (by simpa [*] using ag42)) fun w hH=>?_))))))))))))));replace hH:=hH.sublist (.cons _ (.cons_cons _ (.cons _ (.cons _ (.cons _ (List.Sublist.refl _))))))
  obtain rfl:k=f.length:=by omega
  rw [List.take_length] at hH ⊢;exact ⟨_,_,rfl,hH⟩
end Go.Proofs.YtffgojlocbafhaaGreatDoor.G
