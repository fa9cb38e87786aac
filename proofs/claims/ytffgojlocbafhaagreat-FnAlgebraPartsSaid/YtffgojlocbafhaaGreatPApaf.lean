/- A part of the walk of one law: what the functions compute. No condition. -/
import Derived.Test.YtffgojlocbafhaaGreatRows
import Derived.Test.YtffgojlocbafhaaGreatProg
import Derived.WalkKit
import Derived.KernelRfl
import Derived.JoinedOf
import Derived.Maps.AppendAt
import Derived.Still
import Derived.ProofKit
import Derived.OpenShut
import Derived.StillTail
import Derived.Deep.Upon
import Derived.WalkSpells
import Derived.Maps.Range
import Derived.Laws.Entries
import Derived.DeepKeys4
import Derived.Laws.Concat
import Derived.Laws.IdiomStrings
import Derived.Laws.Strings
import Derived.Lib.ItoaNum
import Derived.Lib.Join
import Derived.Lib.LaidTab
import Derived.Lib.SplitLaws
import Derived.Lib.AtoiTie
import Derived.Lib.ParseIntBTie
import Derived.Laws.Strings2
import Derived.Laws.Strings3
import Derived.Laws.Slices
import Derived.Laws.StructEq
import Derived.ChangeOld
import Derived.Below
import Derived.SizedLaws
import Derived.Test.YtffgojlocbafhaaGreatPApae
set_option linter.unusedVariables false
set_option linter.unusedSimpArgs false
set_option maxRecDepth 10000
set_option maxHeartbeats 8000000
open Nat (reduceEqDiff reduceSub reduceAdd)
namespace Go.Proofs.YtffgojlocbafhaaGreat.G
open Go Go.RowKit
theorem fn107:Fn Tryz.prog 107:=⟨_,Tryz.func107,by kernel_rfl,rfl⟩
theorem namF_fuel : ∀(f g:Nat) (s:List UInt8) (m:List Int),s.length<f→s.length<g→namF f s m=namF g s m
 | 0,_,_,_,h,_=>by omega
 | _+1,0,_,_,_,h=>by omega
 | f+1,g+1, [],m,_,_=>rfl
 | f+1,g+1,b::s,m,hf,hg=>by
  have hr:=rst_len s
  simp only [List.length_cons] at hf hg
  simp only [namF]
  split
  ·exact namF_fuel f g _ _ (by omega) (by omega)
  ·rfl
def namG (s:List UInt8) (m:List Int):Option (List Int):=namF (s.length+1) s m
theorem digs_stop {t:List UInt8} {k:Nat} (h:k<t.length→isDig (t.getD k 0)=false):digs (t.drop k)=[]:=by
 by_cases hk:k<t.length
 ·rw [drop_get hk];unfold digs;rw [List.takeWhile_cons,h hk]
  rfl
 ·rw [List.drop_of_length_le (by omega)]
  rfl
theorem digs_step {t:List UInt8} {k:Nat} (hk:k<t.length) (h:isDig (t.getD k 0)=true):digs (t.drop k)=t.getD k 0::digs (t.drop (k+1)):=by
 rw [drop_get hk];unfold digs;rw [List.takeWhile_cons,h]
 rfl
def Scn (t:List UInt8) (a e:Nat):Prop:=digs (t.drop a)=(t.drop a).take (e - a)++digs (t.drop e)
theorem Scn.start (t:List UInt8) (a:Nat):Scn t a a:=by
 unfold Scn;rw [Nat.sub_self]
 rfl
theorem Scn.step {t:List UInt8} {a e:Nat} (h:Scn t a e) (hae:a≤e) (he:e<t.length) (hd:isDig (t.getD e 0)=true):Scn t a (e+1):=by
 unfold Scn at h ⊢;rw [h,digs_step he hd]
 have e1:e+1 - a=(e - a)+1:=by omega
 have hl:e - a<(t.drop a).length:=by rw [List.length_drop];omega
 rw [e1,List.take_succ_eq_append_getElem hl,List.append_assoc]
 congr 1
 simp only [List.getElem_drop]
 simp [List.getD_eq_getElem?_getD,show a+(e - a)=e by omega,he]
theorem Scn.done {t:List UInt8} {a e:Nat} (h:Scn t a e) (hae:a≤e) (hel:e≤t.length) (hs:e<t.length→isDig (t.getD e 0)=false):digs (t.drop a)=(t.drop a).take (e - a)∧rst (t.drop a)=t.drop e:=by
 unfold Scn at h;rw [digs_stop hs,List.append_nil] at h;have h1:=digs_rst (t.drop a);refine ⟨h,?_⟩;rw [h] at h1;have h2:(t.drop a).take (e - a)++(t.drop a).drop (e - a)=t.drop a:=List.take_append_drop _ _;have h3:=List.append_cancel_left (h1.trans h2.symm);rw [h3,List.drop_drop,show a+(e - a)=e by omega]
theorem sc_1 {t:List UInt8} {e:Nat} (h1:(e:Int)<t.length) (h2:((t.getD e 0).toNat:Int)≥48):decide (((t.getD e 0).toNat:Int)≤57)=(decide (e<t.length) && isDig (t.getD e 0)):=by
 rw [decide_eq_true (show e<t.length by omega)];unfold isDig;rw [decide_eq_true (show 48≤(t.getD e 0).toNat by omega)];simp only [Bool.true_and];exact decide_eq_decide.2 (by omega)
theorem sc_2 {t:List UInt8} {e:Nat} (h2 : ¬((t.getD e 0).toNat:Int)≥48):false=(decide (e<t.length) && isDig (t.getD e 0)):=by
 unfold isDig;rw [decide_eq_false (show ¬48≤(t.getD e 0).toNat by omega)]
 simp
theorem sc_3 {t:List UInt8} {e:Nat} (h1 : ¬(e:Int)<t.length):false=(decide (e<t.length) && isDig (t.getD e 0)):=by
 rw [decide_eq_false (show ¬e<t.length by omega)]
 rfl
theorem sc_t {t:List UInt8} {e:Nat} (h:true=(decide (e<t.length) && isDig (t.getD e 0))):e<t.length∧isDig (t.getD e 0)=true:=by
 have h1:=Bool.and_eq_true_iff.1 h.symm;exact ⟨of_decide_eq_true h1.1,h1.2⟩
theorem sc_f {t:List UInt8} {e:Nat} (h:false=(decide (e<t.length) && isDig (t.getD e 0))):e<t.length→isDig (t.getD e 0)=false:=fun he=>by
 rw [decide_eq_true he] at h
 exact h.symm
theorem ltr_f1 {b:UInt8} (h:(b.toNat:Int)<97):ltr b=false:=by unfold ltr;rw [decide_eq_false (show ¬97≤b.toNat by omega)];rfl
theorem ltr_f2 {b:UInt8} (h:(b.toNat:Int)>104):ltr b=false:=by unfold ltr;rw [decide_eq_false (show ¬b.toNat≤104 by omega)];simp
theorem ltr_t {b:UInt8} (h : ¬(b.toNat:Int)<97) (h2 : ¬(b.toNat:Int)>104):ltr b=true:=by unfold ltr;rw [decide_eq_true (show 97≤b.toNat by omega),decide_eq_true (show b.toNat≤104 by omega)];rfl
section
variable {t : List UInt8} {a e : Nat} {m : List Int}
theorem namG_bad (hk:a<t.length) (h:ltr (t.getD a 0)=false):namG (t.drop a) m=none:=by
 unfold namG;rw [drop_get hk];simp only [namF,h,Bool.false_and]
 rfl
theorem namG_out (hk:a<t.length) (h:(decide (1≤expS (digs (t.drop (a+1)))) && decide (expS (digs (t.drop (a+1)))≤20))=false):namG (t.drop a) m=none:=by
 unfold namG;rw [drop_get hk];simp only [namF,h,Bool.and_false]
 rfl
theorem namG_step (hk:a<t.length) (hl:ltr (t.getD a 0)=true) (h:(decide (1≤expS (digs (t.drop (a+1)))) && decide (expS (digs (t.drop (a+1)))≤20))=true) (hr:rst (t.drop (a+1))=t.drop e) (hae:a+1≤e):namG (t.drop a) m=namG (t.drop e) (m.set ((t.getD a 0).toNat - 97) (expS (digs (t.drop (a+1))))):=by
 unfold namG;rw [drop_get hk];simp only [namF,hl,h,Bool.and_self,if_true];rw [hr];exact namF_fuel _ _ _ _ (by simp only [List.length_cons,List.length_drop];omega) (by omega)
theorem namG_nil (m:List Int):namG [] m=some m:=rfl
theorem expS_0 {d:List UInt8} (h:d.length=0):(1:Int)=expS d:=by unfold expS;rw [if_pos h]
theorem expS_1 {d:List UInt8} (h:d.length≠0):numS d=expS d:=by unfold expS;rw [if_neg h]
end
theorem l01Named_c {B:World} {H0 H:HP} {L:List SA} {w:World} {t:List UInt8} (hl:t.length≤1048576) (hH:Hp B H0 H L w):Calls Tryz.prog 114 [sV t].toArray w fun e w'=>∃m',e = .returned (.tuple #[.agg (bytesC m').toArray,.bool (namS t).isSome])∧(Mono m' ∧∀m,namS t=some m→m'=m)∧Hp B H0 H L w':=by
 refine JB Tryz.func114 rfl 74 rfl rfl [(0,sV t)] rfl hH ?_;clear hH;refine Je fun _ hK1 _=>(Jb (JM ze50 rfl fun g2=>(Jg (Jd rfl) rfl (Jf (Ja (hK1 (Je fun _ hK2 _=>(Jb (Jg (Ea bz50) rfl (JM ze50 rfl fun g4=>(Jr rfl rfl (by first | exact bytesC_one _ | exact intsC_one _ | exact Term.c_one _ | simp [Value.oneCell']) (by simpa [*] using sz50) (by simp [*]) At.z (Jf (Ja (hK2 (Je fun _ hK3 _=>(Je fun _ hK4 _=>?_))))))))))))))));refine Jb (Jg (Jc rfl) rfl (Jg (PR.strEql rfl rfl) rfl (Jf (Ja (hK4 (Jm rfl (fun h11=>?_) (fun h11=>?_)))))))
 ·
  have hz8:zer8.length=8:=rfl;refine Je fun _ hK5 _=>(Jb (Jg (Jn rfl At.z (by simpa [*] using ag50)) rfl (Jr rfl rfl (by first | exact bytesC_one _ | exact intsC_one _ | exact Term.c_one _ | simp [Value.oneCell']) (by simpa [*] using sz50) (by simp [*]) (.s .z) (Jg (Jd rfl) rfl (Jf (Ja (hK5 (Js (Ji (Eb rfl (Res.agg rfl (.s .z) (by simpa [*] using ag50)) (Res.tmp rfl) fun w hH=>?_))))))))));replace hH:=hH.tail;replace hH:=hH.tail;exact ⟨zer8,by unfold namS;rw [if_pos h11];rfl,⟨zer8_mn,fun x hx=>by unfold namS at hx;rw [if_pos h11] at hx;exact Option.some.inj hx⟩,hH⟩
 ·
  refine Jk (Ja (hK3 (Je fun _ hK6 _=>(Je fun _ hK7 _=>(Jb (Jg (Jd rfl) rfl (Jf (Ja (hK7 (Jp (JH (σ:=List Int × Nat) (fun ⟨m,ii⟩=>[(5,.int .i64 (ii:Int))]) (fun ⟨m,ii⟩=>H) (fun ⟨m,ii⟩=>obj g4 (.cells (bytesC m).toArray 50 (0,0))::obj g2 (.cells (bytesC zer8).toArray 50 (0,0))::L) (fun ⟨m,ii⟩=>Mono m∧ii≤t.length∧(t≠ []→namS t=namG (t.drop ii) m)) (fun ⟨m,ii⟩=>t.length - ii) (zer8,0) ⟨zer8_mn,by omega,fun h=>by unfold namS;rw [if_neg h11,if_neg h];rfl⟩ ⟨rfl,trivial⟩ rfl rfl ?_)))))))))));rintro ⟨m,ii⟩ ⟨hm,ha,hI⟩ _ hAg0;have hm8:=hm.len;have hz8:zer8.length=8:=rfl;refine Je fun _ hK8 _=>(Je fun _ hK9 _=>(Jb (Jg (Jc rfl) rfl (Jg (Jc rfl) rfl (Jg (PR.strLen u9 rfl) rfl (Jg (JV rfl rfl) rfl (Jf (Ja (hK9 (Jm rfl (fun h16=>?_) (fun h16=>?_)))))))))))
  ·
   have hk1:ii<t.length:=by omega
   have hu:=u8_bd (t.getD ii 0)
   have htn:t≠ []:=fun h=>by rw [h] at hk1;exact absurd hk1 (Nat.not_lt_zero _)
   have hI1:=hI htn;refine Jk (Ja (hK8 (Jp (Je fun _ hK10 _=>(Je fun _ hK11 _=>(Jb (Jg (Jc rfl) rfl (Jg (Jc rfl) rfl (Jg (ET (i':=ii) u9 rfl rfl rfl hk1) rfl (Jg (JV rfl rfl) rfl (Jg (Jc rfl) rfl (JZ (jd:=21) rfl (fun h21=>?_) (fun h21=>?_)))))))))))))
   ·
    try have h21p:=of_decide_eq_true h21
    refine JE rfl rfl rfl h21 (JE rfl rfl rfl h21 (JE rfl rfl rfl h21 (JE rfl rfl rfl h21 (Jg (JP rfl h21 rfl) rfl (Jf (Ja (hK11 (Ek rfl (Je fun _ hK12 _=>(Jb (Jg (Jn rfl At.z (by simpa [*] using ag50)) rfl (Jr rfl rfl (by first | exact bytesC_one _ | exact intsC_one _ | exact Term.c_one _ | simp [Value.oneCell']) (by simpa [*] using sz50) (by simp [*]) (.s .z) (Jg (Jd rfl) rfl (Jf (Ja (hK12 ?_))))))))))))))));refine Js (Ji (JL (Ji (JL (Ji (Eb rfl (Res.agg rfl (.s .z) (by simpa [*] using ag50)) (Res.tmp rfl) fun w hH=>?_))))));replace hH:=hH.tail;replace hH:=hH.tail;exact ⟨m,by rw [hI1,namG_bad hk1 (ltr_f1 h21p)];rfl,⟨hm,fun x hx=>by rw [hI1,namG_bad hk1 (ltr_f1 h21p)] at hx;cases hx⟩,hH⟩
   ·
    try have h21p:=of_decide_eq_false h21
    refine JK (Jc rfl) rfl rfl rfl h21 (JK (Jc rfl) rfl rfl rfl h21 (JK (ET (i':=ii) u9 rfl rfl rfl hk1) rfl rfl rfl h21 (JK (Em rfl rfl) rfl rfl rfl h21 (Jg (JN rfl h21 rfl) rfl (Jf (Ja (hK11 (Jm rfl (fun h26=>?_) (fun h26=>?_)))))))))
    ·
     refine Je fun _ hK13 _=>(Jb (Jg (Jn rfl At.z (by simpa [*] using ag50)) rfl (Jr rfl rfl (by first | exact bytesC_one _ | exact intsC_one _ | exact Term.c_one _ | simp [Value.oneCell']) (by simpa [*] using sz50) (by simp [*]) (.s .z) (Jg (Jd rfl) rfl (Jf (Ja (hK13 (Js (Ji (JL (Ji (JL (Ji (Eb rfl (Res.agg rfl (.s .z) (by simpa [*] using ag50)) (Res.tmp rfl) fun w hH=>?_))))))))))))));replace hH:=hH.tail;replace hH:=hH.tail;exact ⟨m,by rw [hI1,namG_bad hk1 (ltr_f2 h26)];rfl,⟨hm,fun x hx=>by rw [hI1,namG_bad hk1 (ltr_f2 h26)] at hx;cases hx⟩,hH⟩
    ·
     refine Jk (Ja (hK10 (Je fun _ hK14 _=>(Jb (Jg (Jc rfl) rfl (Jg (Jc rfl) rfl (Jg (ET (i':=ii) u9 rfl rfl rfl hk1) rfl (Jg (EZ rfl rfl (su8_id (by omega))) rfl (Jg (Jc rfl) rfl (Jg (Jy rfl rfl (by first | exact nw _ (by omega) | rfl)) rfl (Jg (Jd rfl) rfl (Jg (Jd rfl) rfl (Jf (Ja (hK14 (Je fun _ hK15 _=>?_))))))))))))))));refine Jp (JH (σ:=Nat) (fun (jj:Nat)=>[(7,.int .i64 (jj:Int))]) (fun (jj:Nat)=>H) (fun (jj:Nat)=>obj g4 (.cells (bytesC m).toArray 50 (0,0))::obj g2 (.cells (bytesC zer8).toArray 50 (0,0))::L) (fun (jj:Nat)=>ii+1≤jj∧jj≤t.length∧Scn t (ii+1) jj) (fun (jj:Nat)=>t.length - jj) (ii+1) ⟨by omega,by omega,Scn.start _ _⟩ ⟨(vi (by omega)),trivial⟩ rfl rfl ?_);rintro jj ⟨hae,hel,hsc⟩ _ hAg1;refine Je fun _ hK16 _=>(ER (σ:=Bool) (fun (b:Bool)=>[(49,.bool b)]) (fun (b:Bool)=>H) (fun (b:Bool)=>obj g4 (.cells (bytesC m).toArray 50 (0,0))::obj g2 (.cells (bytesC zer8).toArray 50 (0,0))::L) (fun (b:Bool)=>b=(decide (jj<t.length) && isDig (t.getD jj 0))) ?_ ?_)
     ·
      intro _ hMt1;refine Jb (Jg (Jc rfl) rfl (Jg (Jc rfl) rfl (Jg (PR.strLen u9 rfl) rfl (Jg (JV rfl rfl) rfl (Jg (Jc rfl) rfl (JZ (jd:=38) rfl (fun h38=>?_) (fun h38=>?_)))))))
      ·
       try have h38p:=of_decide_eq_true h38
       refine JK (Jc rfl) rfl rfl rfl h38 (JK (Jc rfl) rfl rfl rfl h38 (JK (ET (i':=jj) u9 rfl rfl rfl (by omega)) rfl rfl rfl h38 (JK (PR.geq rfl rfl) rfl rfl rfl h38 (Jg (JP rfl h38 rfl) rfl (Jg (Jc rfl) rfl (JZ (jd:=44) rfl (fun h44=>?_) (fun h44=>?_)))))))
       ·
        try have h44p:=of_decide_eq_true h44
        refine JK (Jc rfl) rfl rfl rfl h44 (JK (Jc rfl) rfl rfl rfl h44 (JK (ET (i':=jj) u9 rfl rfl rfl (by omega)) rfl rfl rfl h44 (JK (PR.leq rfl rfl) rfl rfl rfl h44 (Jg (JP rfl h44 rfl) rfl (Jf (Ja ?_))))));exact hMt1 (decide (((t.getD jj 0).toNat:Int)≤57)) (sc_1 h38p h44p) 16 rfl rfl ⟨rfl,trivial⟩ rfl rfl
       ·
        try have h44p:=of_decide_eq_false h44
        refine JE rfl rfl rfl h44 (JE rfl rfl rfl h44 (JE rfl rfl rfl h44 (JE rfl rfl rfl h44 (Jg (JN rfl h44 rfl) rfl (Jf (Ja ?_))))));exact hMt1 false (sc_2 h44p) 16 rfl rfl ⟨rfl,trivial⟩ rfl rfl
      ·
       try have h38p:=of_decide_eq_false h38
       refine JE rfl rfl rfl h38 (JE rfl rfl rfl h38 (JE rfl rfl rfl h38 (JE rfl rfl rfl h38 (Jg (JN rfl h38 rfl) rfl (Jg (Jc rfl) rfl (JE rfl rfl rfl rfl (JE rfl rfl rfl rfl (JE rfl rfl rfl rfl (JE rfl rfl rfl rfl (Jg (JN rfl rfl rfl) rfl (Jf (Ja ?_))))))))))));exact hMt1 false (sc_3 h38p) 16 rfl rfl ⟨rfl,trivial⟩ rfl rfl
     ·
      rintro b hb;refine Ei rfl (fun h49=>?_) (fun h49=>?_)
      ·
       obtain ⟨he1,hdg⟩:=sc_t (h49.symm.trans hb);refine Jk (Ja (hK16 (Jp (Jb (Jg (Jc rfl) rfl (Jg (Jy rfl rfl (by first | exact nw _ (by omega) | rfl)) rfl (Jg (Jd rfl) rfl (Jf (JD (Ja ?_))))))))));exact hAg1 (jj+1) ⟨by omega,by omega,hsc.step hae he1 hdg⟩ (by show t.length - (jj+1)<t.length - jj;omega) 5 rfl rfl ⟨(vi (by omega)),trivial⟩ rfl rfl
      ·
       obtain ⟨hD,hR⟩:=hsc.done hae hel (sc_f (h49.symm.trans hb));have hDl:=congrArg List.length hD;rw [List.length_take,List.length_drop,Nat.min_eq_left (by omega)] at hDl;refine JI (Jl (Jl (JT (Ja (hK15 (Je fun _ hK17 _=>(Jb (Jg (Jd rfl) rfl (Jf (Ja (hK17 (ER (σ:=Unit) (fun (_:Unit)=>[(8,.int .i64 (expS (digs (t.drop (ii+1)))))]) (fun (_:Unit)=>H) (fun (_:Unit)=>obj g4 (.cells (bytesC m).toArray 50 (0,0))::obj g2 (.cells (bytesC zer8).toArray 50 (0,0))::L) (fun (_:Unit)=>True) ?_ ?_))))))))))))
       ·
        intro _ hMt2;refine Je fun _ hK18 _=>(Jb (Jg (Jc rfl) rfl (Jg (Jc rfl) rfl (Jg (Jy rfl rfl (by first | exact nw _ (by omega) | rfl)) rfl (Jg (Em rfl rfl) rfl (Jf (Ja (hK18 (Jm rfl (fun h55=>?_) (fun h55=>?_))))))))))
        ·
         refine Jb (Jg (Jc rfl) rfl (Jg (Jc rfl) rfl (Jg (Jy rfl rfl (by first | exact nw _ (by omega) | rfl)) rfl (Jg (Jc rfl) rfl (Jg (PR.strSl (i':=ii+1) (j':=jj) u9 rfl rfl rfl (by omega) rfl (by omega) (by omega)) rfl (Jx fn107 rfl rfl fun w hH=>(l01Number_c (by rw [← hD];omega) hH).mono ?_))))));rintro _ w ⟨rfl,hH⟩;refine ⟨_,rfl,fun a hF=>JQ hF hH ?_⟩;refine Jg (Jd rfl) rfl (Jf (Ja ?_));exact hMt2 () trivial 11 rfl rfl ⟨(vi (by rw [← hD];exact expS_1 (by omega))),trivial⟩ rfl rfl
        ·
         refine Jk (Ja ?_);exact hMt2 () trivial 4 rfl rfl ⟨(vi (expS_0 (by omega))),trivial⟩ rfl rfl
       ·
        rintro _ _;refine Je fun _ hK19 _=>(Je fun _ hK20 _=>(Jb (Jg (Jc rfl) rfl (Jx fn86 rfl rfl fun w hH=>(l01In_c hH).mono ?_))));rintro _ w ⟨rfl,hH⟩;refine ⟨_,rfl,fun a hF=>JQ hF hH ?_⟩;refine Jg (Es rfl) rfl (Jf (Ja (hK20 (Ei rfl (fun h64=>?_) (fun h64=>?_)))))
        ·
         refine Je fun _ hK21 _=>(Jb (Jg (Jn rfl At.z (by simpa [*] using ag50)) rfl (Jr rfl rfl (by first | exact bytesC_one _ | exact intsC_one _ | exact Term.c_one _ | simp [Value.oneCell']) (by simpa [*] using sz50) (by simp [*]) (.s .z) (Jg (Jd rfl) rfl (Jf (Ja (hK21 (Js (Ji (JL (Ji (JL (Ji (Eb rfl (Res.agg rfl (.s .z) (by simpa [*] using ag50)) (Res.tmp rfl) fun w hH=>?_))))))))))))));replace hH:=hH.tail;replace hH:=hH.tail;exact ⟨m,by rw [hI1,namG_out hk1 (not_f h64)];rfl,⟨hm,fun x hx=>by rw [hI1,namG_out hk1 (not_f h64)] at hx;cases hx⟩,hH⟩
        ·
         refine Jk (Ja (hK19 (Je fun _ hK22 _=>(Jb (Jg (Jc rfl) rfl (Jg (Jc rfl) rfl (Jg (EC u2 u5 rfl (su8_id (by have h9:=Bool.and_eq_true_iff.1 (not_t h64);have h10:=of_decide_eq_true h9.1;have h11:=of_decide_eq_true h9.2;omega))) rfl (Jg (JW (i':=(t.getD ii 0).toNat - 97) u50 sz5 rfl rfl (by omega) (by omega)) rfl (ES rfl rfl sz5 (by rw [hm8];omega) At.z (Jf (Ja (hK22 (Jb (Jg (Jc rfl) rfl (Jg (Jd rfl) rfl (Jf ?_))))))))))))))));refine JD (Ja ?_);exact hAg0 (m.set ((t.getD ii 0).toNat - 97) (expS (digs (t.drop (ii+1)))),jj) ⟨set_mn hm (by have h9:=Bool.and_eq_true_iff.1 (not_t h64);have h10:=of_decide_eq_true h9.1;have h11:=of_decide_eq_true h9.2;omega),hel,fun _=>by rw [hI1,namG_step hk1 (ltr_t h21p h26) (not_t h64) hR hae]⟩ (by show t.length - jj<t.length - ii;omega) 36 rfl rfl ⟨rfl,trivial⟩ rfl rfl
  ·
   refine JI (Jl (Jl (JT (Ja (hK6 (Je fun _ hK23 _=>(Jb (Jg (Jn rfl At.z (by simpa [*] using ag50)) rfl (Jg (Jc rfl) rfl (Jg (PR.strNeq rfl rfl) rfl (Jr rfl rfl (by first | exact bytesC_one _ | exact intsC_one _ | exact Term.c_one _ | simp [Value.oneCell']) (by simpa [*] using sz50) (by simp [*]) (.s .z) (Jg (Jd rfl) rfl (Jf (Ja (hK23 (Js ?_))))))))))))))));refine Eb rfl (Res.agg rfl (.s .z) (by simpa [*] using ag50)) (Res.tmp rfl) fun w hH=>?_;replace hH:=hH.tail;replace hH:=hH.tail
   obtain rfl:ii=t.length:=by omega
   by_cases ht:t=[]
   ·subst ht;exact ⟨m,rfl,⟨hm,fun x hx=>by cases hx⟩,hH⟩
   ·have e9:=hI ht;rw [List.drop_length,namG_nil] at e9;exact ⟨m,by rw [e9,decide_eq_true ht];rfl,⟨hm,fun x hx=>by rw [e9] at hx;exact Option.some.inj hx⟩,hH⟩
theorem pl9:Plain Tryz.prog 9:=⟨_,u9,rfl⟩
theorem fn106:Fn Tryz.prog 106:=⟨_,Tryz.func106,by kernel_rfl,rfl⟩
theorem fn114:Fn Tryz.prog 114:=⟨_,Tryz.func114,by kernel_rfl,rfl⟩
theorem fn115:Fn Tryz.prog 115:=⟨_,Tryz.func115,by kernel_rfl,rfl⟩
section
variable {w : List UInt8} {α : Type} {f : List UInt8 → Option α} {P : List (List UInt8)} {k : Nat} {F : List α}
theorem allO_none (h:f w=none) : ∀{ws:List (List UInt8)},w∈ws→allO f ws=none
 | [],hw=>by simp at hw
 | x::ws,hw=>by
  simp only [allO]
  rcases List.mem_cons.1 hw with rfl | hw
  ·rw [h]
  ·rw [allO_none h hw]
   cases f x <;> rfl
theorem allO_app {x:α} (hx:f w=some x) : ∀{ws:List (List UInt8)} {xs:List α},allO f ws=some xs→allO f (ws++[w])=some (xs++[x])
 | [],xs,h=>by
  simp only [allO,Option.some.injEq] at h
  subst h
  simp [allO,hx]
 | y::ws,xs,h=>by
  simp only [allO,JxA] at h ⊢
  cases hy:f y with
  | none=>rw [hy] at h;cases h
  | some b=>
   rw [hy] at h
   cases hr:allO f ws with
   | none=>rw [hr] at h;cases h
   | some bs=>
    rw [hr] at h
    simp only [Option.map_some,Option.some.injEq] at h
    subst h
    rw [allO_app hx hr]
    rfl
end
theorem pg_take {P:List (List UInt8)} {k:Nat} (hk:k<P.length):P.take (k+1)=P.take k++[P.getD k []]:=by
 rw [List.take_succ_eq_append_getElem hk]
 simp [List.getD_eq_getElem?_getD,hk]
theorem pg_mem {P:List (List UInt8)} {k:Nat} (hk:k<P.length):P.getD k []∈P:=by
 have e:P.getD k []=P[k]:=by simp [List.getD_eq_getElem?_getD,hk]
 rw [e];exact List.getElem_mem hk
theorem spl_mem (c:UInt8) : ∀(s:List UInt8) (x:List UInt8),x∈spl c s→x.length≤s.length
 | [],x,h=>by simp [spl] at h;simp [h]
 | b::s,x,h=>by
  have ih:=spl_mem c s
  simp only [spl] at h
  split at h
  ·rcases List.mem_cons.1 h with rfl | h
   ·simp
   ·have:=ih x h
    simp only [List.length_cons]
    omega
  ·cases hs:spl c s with
   | nil=>exact absurd hs (spl_ne c s)
   | cons y ys=>
    rw [hs] at h ih
    simp only [att] at h
    rcases List.mem_cons.1 h with rfl | h
    ·have:=ih y (by simp)
     simp only [List.length_append,List.length_cons,List.length_nil]
     omega
    ·have:=ih x (by simp [h])
     simp only [List.length_cons]
     omega
section
variable {ds : List Int} {t : List UInt8} {P H2 : List (List UInt8)} {k : Nat} {F : List Term}
theorem wrdS_len {w:List UInt8} (h:(spl 42 w).length≠2):wrdS w=none:=by
 unfold wrdS
 cases hs:spl 42 w with
 | nil=>rfl
 | cons a l=>
  cases l with
  | nil=>rfl
  | cons b l=>
   cases l with
   | nil=>rw [hs] at h;exact absurd rfl h
   | cons c l=>rfl
theorem wrdS_two {w:List UInt8} (h:(spl 42 w).length=2):wrdS w=(namS ((spl 42 w).getD 1 [])).map fun m=>⟨m,numS ((spl 42 w).getD 0 [])⟩:=by
 unfold wrdS
 cases hs:spl 42 w with
 | nil=>rw [hs] at h;cases h
 | cons a l=>
  cases l with
  | nil=>rw [hs] at h;cases h
  | cons b l=>
   cases l with
   | nil=>rfl
   | cons c l=>rw [hs] at h;simp at h
theorem wfs_snoc {x:Term} (h:Wfs F) (hx:x.wf):Wfs (F++[x]):=fun y hy=>by
 rcases List.mem_append.1 hy with h1 | h1
 ·exact h y h1
 ·rw [List.mem_singleton.1 h1]
  exact hx
theorem isSome_f {α:Type} {o:Option α} (h:o.isSome=false):o=none:=by
 cases o with
 | none=>rfl
 | some x=>cases h
theorem some_of {o:Option (List Int)} {m:List Int} (h:o.isSome=true) (he : ∀x,o=some x→m=x):o=some m:=by
 cases o with
 | none=>cases h
 | some x=>rw [he x rfl]
theorem isForm_fac (hw:Wfs F) (h:isForm ds F=true):F.length≤400∧∀i,i<F.length→0≤(tm F i).fac:=⟨isForm_len4 h,fun i hi=>by
 have:=(isForm_sok hw h).val _ (toS_at hi)
 simp only at this
 omega⟩
theorem rdS_0 (h:t=[48]):rdS ds t=([],true):=by unfold rdS;rw [if_pos h]
theorem rdS_1 (h : ¬t=[48]) (h2:400<(spl 43 t).length):rdS ds t=([],false):=by unfold rdS;rw [if_neg h,if_pos h2]
theorem rdS_2 (h : ¬t=[48]) (h2 : ¬400<(spl 43 t).length) (hk:k<(spl 43 t).length) (h3:wrdS ((spl 43 t).getD k [])=none):rdS ds t=([],false):=by
 unfold rdS;rw [if_neg h,if_neg h2,allO_none h3 (pg_mem hk)]
theorem rdS_3 (h : ¬t=[48]) (h2 : ¬400<(spl 43 t).length) (h3:allO wrdS ((spl 43 t).take (spl 43 t).length)=some F):rdS ds t=(F,chkT ds t F):=by
 rw [List.take_length] at h3;unfold rdS;rw [if_neg h,if_neg h2,h3]
theorem allO_len {α:Type} {f:List UInt8→Option α} : ∀{ws:List (List UInt8)} {xs:List α},allO f ws=some xs→xs.length=ws.length
 | [],xs,h=>by
  simp only [allO,Option.some.injEq] at h
  rw [← h]
  rfl
 | y::ws,xs,h=>by
  simp only [allO] at h
  cases hy:f y with
  | none=>rw [hy] at h;cases h
  | some b=>
   rw [hy] at h
   cases hr:allO f ws with
   | none=>rw [hr] at h;cases h
   | some bs=>
    rw [hr] at h
    simp only [Option.map_some,Option.some.injEq] at h
    rw [← h,List.length_cons,List.length_cons,allO_len hr]
theorem numF_hi : ∀(s:List UInt8) (n:Int) (j:Nat),n<10 ^ j→numF s n<10 ^ (j+s.length)
 | [],n,j,h=>h
 | b::s,n,j,h=>by
  simp only [numF]
  have hp:(0:Int)<10 ^ (j+(b::s).length):=Int.pow_pos (by omega)
  split
  ·rename_i hb
   have h3:=isDig_iff.1 hb
   have e:(10:Int) ^ (j+1)=10 ^ j * 10:=Int.pow_succ 10 j
   have h1:=numF_hi s (n * 10+dgV b) (j+1) (by rw [e];unfold dgV;omega)
   rwa [show j+1+s.length=j+(b::s).length by simp only [List.length_cons];omega] at h1
  ·omega
theorem numF_lo : ∀(s:List UInt8) (n:Int),0≤n→ -1≤numF s n
 | [],n,h=>by simp only [numF];omega
 | b::s,n,h=>by
  simp only [numF]
  split
  ·rename_i hb
   have h3:=isDig_iff.1 hb
   exact numF_lo s _ (by unfold dgV;omega)
  ·omega
theorem numS_bd (s:List UInt8) : -1≤numS s∧numS s≤999999999:=by
 unfold numS
 split
 ·omega
 ·rename_i h
  have h1:=numF_lo s 0 (by omega);have h2:=numF_hi s 0 0 (by decide);have h3:s.length≤9:=Classical.byContradiction fun h4=>h (.inr (.inl (by omega)));have h4:=p10_le (i:=0+s.length) (by omega)
  omega
end
theorem wrdS_wf {w:List UInt8} {x:Term} (h:wrdS w=some x):x.wf:=by
 unfold wrdS at h
 split at h
 ·rename_i a b _
  cases hn:namS b with
  | none=>rw [hn] at h;cases h
  | some m=>
   rw [hn] at h;simp only [Option.map_some,Option.some.injEq] at h;have:=numS_bd a;rw [← h];exact Term.wf.of (namS_mn hn) (by omega)
 ·cases h
theorem rdS_wf (ds:List Int) (t:List UInt8):Wfs (rdS ds t).1:=by
 unfold rdS
 split
 ·exact Wfs.nil
 ·split
  ·exact Wfs.nil
  ·cases h:allO wrdS (spl 43 t) with
   | none=>exact Wfs.nil
   | some f=>exact allO_wf (fun _ _=>wrdS_wf) h
theorem rdS_okR {ds:List Int} {t:List UInt8} {f:List Term} (h:rdS ds t=(f,true)):okR ds t f:=by
 have hw:=rdS_wf ds t;rw [h] at hw;unfold rdS at h
 split at h
 ·rename_i h0
  cases h
  exact ⟨isForm_nil ds,Wfs.nil,by rw [h0];rfl⟩
 ·split at h
  ·cases h
  ·split at h
   ·cases h
   ·simp only [Prod.mk.injEq] at h;obtain ⟨rfl,h2⟩:=h;exact ⟨(chkT_y h2).1,hw,(chkT_y h2).2⟩
theorem l01Read_c {B:World} {H0 H:HP} {L:List SA} {w:World} {qds:Option Addr} {cds:Nat} {ds:List Int} {t:List UInt8} (hds:Ints H qds ds) (hn:ds.length≤1048576) (hd0 : ∀j,j<ds.length→0≤ds.getD j 0) (hl:t.length≤1048576) (hH:Hp B H0 H L w):Calls Tryz.prog 108 [.slice qds ds.length cds,sV t].toArray w fun e w'=>∃q k,e = .returned (.tuple #[.agg [.slice q (rdS ds t).1.length k].toArray,.bool (rdS ds t).2])∧Hp B H0 H (own 52 9 q (rdS ds t).1.length k (tsC (rdS ds t).1)::L) w':=by
 refine JB Tryz.func108 rfl 68 rfl rfl [(0,.slice qds ds.length cds),(1,sV t)] rfl hH ?_;clear hH;have hPl:=spl_len 43 t;have hPm:=fun x (hx:x∈(spl 43 t))=>spl_mem 43 t x hx;refine Je fun _ hK1 _=>(Jb (JM ze43 rfl fun g4=>(Jg (Jd rfl) rfl (Jf (Ja (hK1 (Je fun _ hK2 _=>(Jb (ED 52 9 (Jg (Ea bz43) rfl (JM ze43 rfl fun g6=>(Jr rfl rfl (by first | exact bytesC_one _ | exact intsC_one _ | exact Term.c_one _ | simp [Value.oneCell']) (by simpa [*] using sz43) (by simp [*]) At.z (Jf (Ja (hK2 (Je fun _ hK3 _=>?_))))))))))))))));refine Je fun _ hK4 _=>(Jb (Jg (Jc rfl) rfl (Jg (PR.strEql rfl rfl) rfl (Jf (Ja (hK4 (Jm rfl (fun h14=>?_) (fun h14=>?_))))))))
 ·
  refine Je fun _ hK5 _=>(Jb (Jg (Jn rfl At.z (by simpa [*] using ag43)) rfl (Jr rfl rfl (by first | exact bytesC_one _ | exact intsC_one _ | exact Term.c_one _ | simp [Value.oneCell']) (by simpa [*] using sz43) (by simp [*]) (.s (.s .z)) (Jg (Jd rfl) rfl (Jf (Ja (hK5 (Js (Ji (Eb rfl (Res.agg rfl (.s (.s .z)) (by simpa [*] using ag43)) (Res.tmp rfl) fun w hH=>?_))))))))));replace hH:=hH.sublist (.cons _ (.cons _ (.cons _ (List.Sublist.refl _))));rw [rdS_0 h14];exact ⟨none,0,rfl,hH.own0 52 9⟩
 ·
  refine Jk (Ja (hK3 (Je fun _ hK6 _=>(Jb (Jg (Jc rfl) rfl (Jx fn106 rfl rfl fun w hH=>(l01Split_c (c:=43) rfl (by omega) hH).mono ?_))))));rintro _ w ⟨qo17,co17,rfl,hH⟩;refine ⟨_,rfl,fun a hF=>JQ hF hH ?_⟩;refine Jg (Jd rfl) rfl (Jf (Ja (hK6 (Je fun _ hK7 _=>(Je fun _ hK8 _=>(Jb (Jg (Jc rfl) rfl (Jg (Jq u127 rfl rfl) rfl (Jg (Em rfl rfl) rfl (Jf (Ja (hK8 (Jm rfl (fun h20=>?_) (fun h20=>?_))))))))))))))
  ·
   refine Je fun _ hK9 _=>(Jb (Jg (Ea bz43) rfl (Jr rfl rfl (by first | exact bytesC_one _ | exact intsC_one _ | exact Term.c_one _ | simp [Value.oneCell']) (by simpa [*] using sz43) (by simp [*]) (.s (.s (.s .z))) (Jg (Jd rfl) rfl (Jf (Ja (hK9 (Js (Ji (Eb rfl (Res.agg rfl (.s (.s (.s .z))) (by simpa [*] using ag43)) (Res.tmp rfl) fun w hH=>?_))))))))));replace hH:=hH.sublist (.cons _ (.cons _ (.cons _ (.cons _ (List.Sublist.refl _)))));rw [rdS_1 h14 (by omega)];exact ⟨none,0,rfl,hH.own0 52 9⟩
  ·
   refine Jk (Ja (hK7 (Je fun _ hK10 _=>(Je fun _ hK11 _=>(Jb (Jg (Jd rfl) rfl (Jf (Ja (hK11 (Jp (JH (σ:=Option Addr × Nat × List Term × Nat) (fun ⟨q,c,F,k⟩=>[(8,.int .i64 (k:Int))]) (fun ⟨q,c,F,k⟩=>H) (fun ⟨q,c,F,k⟩=>own 9 1 qo17 (spl 43 t).length co17 ((spl 43 t).map sV)::obj g6 (.cells [.slice q F.length c].toArray 43 (0,0))::own 52 9 q F.length c (tsC F)::obj g4 (.cells [.slice none 0 0].toArray 43 (0,0))::L) (fun ⟨q,c,F,k⟩=>k≤(spl 43 t).length∧Wfs F∧allO wrdS ((spl 43 t).take k)=some F) (fun ⟨q,c,F,k⟩=>(spl 43 t).length - k) (none,0, [],0) ⟨by omega,Wfs.nil,rfl⟩ ⟨rfl,trivial⟩ rfl rfl ?_)))))))))));rintro ⟨q,c,F,k⟩ ⟨hk,wfO,hI⟩ _ hAg0;refine Je fun _ hK12 _=>(Je fun _ hK13 _=>(Jb (Jg (Jc rfl) rfl (Jg (Jc rfl) rfl (Jg (Jq u127 rfl rfl) rfl (Jg (JV rfl rfl) rfl (Jf (Ja (hK13 (Jm rfl (fun h25=>?_) (fun h25=>?_)))))))))))
   ·
    have hk1:k<(spl 43 t).length:=by omega
    have hwl:=hPm _ (pg_mem hk1);have hsl:=spl_len 42 ((spl 43 t).getD k []);have hFl:=allO_len hI;rw [List.length_take,Nat.min_eq_left (by omega)] at hFl;refine Jk (Ja (hK12 (Je fun _ hK14 _=>(Jp (Je fun _ hK15 _=>(Jb (Jg (Jc rfl) rfl (Jg (Jc rfl) rfl (Jg (EN u127 sz9 rfl rfl rfl (by omega) At.z) rfl (Jg (EL rfl At.z (strsC_get (by omega)) pl9) rfl (Jx fn106 rfl rfl fun w hH=>(l01Split_c (c:=42) rfl (by omega) hH).mono ?_)))))))))));rintro _ w ⟨qo32,co32,rfl,hH⟩;refine ⟨_,rfl,fun a hF=>JQ hF hH ?_⟩;refine Jg (Jd rfl) rfl (Jf (Ja (hK15 (Je fun _ hK16 _=>(Je fun _ hK17 _=>(Jb (Jg (Jc rfl) rfl (Jg (Jq u127 rfl rfl) rfl (Jg (En rfl rfl) rfl (Jf (Ja (hK17 (Jm rfl (fun h35=>?_) (fun h35=>?_))))))))))))))
    ·
     refine Je fun _ hK18 _=>(Jb (Jg (Ea bz43) rfl (Jr rfl rfl (by first | exact bytesC_one _ | exact intsC_one _ | exact Term.c_one _ | simp [Value.oneCell']) (by simpa [*] using sz43) (by simp [*]) (.s (.s (.s (.s .z)))) (Jg (Jd rfl) rfl (Jf (Ja (hK18 (Js (Ji (JL (Ji (Ji (JL (Ji (Eb rfl (Res.agg rfl (.s (.s (.s (.s .z)))) (by simpa [*] using ag43)) (Res.tmp rfl) fun w hH=>?_)))))))))))))));replace hH:=hH.sublist (.cons _ (.cons _ (.cons _ (.cons _ (.cons _ (List.Sublist.refl _))))));rw [rdS_2 h14 (by omega) hk1 (wrdS_len (by omega))];exact ⟨none,0,rfl,hH.own0 52 9⟩
    ·
     have hs2:(spl 42 ((spl 43 t).getD k [])).length=2:=by omega
     have hw2:=wrdS_two hs2;have hm1:=spl_mem 42 ((spl 43 t).getD k []) _ (pg_mem (show 1<(spl 42 ((spl 43 t).getD k [])).length by omega));have hm0:=spl_mem 42 ((spl 43 t).getD k []) _ (pg_mem (show 0<(spl 42 ((spl 43 t).getD k [])).length by omega));have hnb:=numS_bd ((spl 42 ((spl 43 t).getD k [])).getD 0 []);refine Jk (Ja (hK16 (Je fun _ hK19 _=>(Jb (Jg (Jc rfl) rfl (Jg (EN (i':=1) u127 sz9 rfl rfl rfl (by omega) At.z) rfl (Jg (EL rfl At.z (strsC_get (by omega)) pl9) rfl (Jx fn114 rfl rfl fun w hH=>(l01Named_c (by omega) hH).mono ?_))))))));rintro _ w ⟨m41,rfl,⟨hm41,he41⟩,hH⟩;refine ⟨_,rfl,fun a hF=>JQ hF hH ?_⟩;have hm8:=hm41.len;refine Jg (Jc rfl) rfl (Jg (JJ rfl rfl) rfl (Jg (JJ rfl rfl) rfl (JM ze50 rfl fun g10=>(Jr rfl rfl (by first | exact bytesC_one _ | exact intsC_one _ | exact Term.c_one _ | simp [Value.oneCell']) (by simpa [*] using sz50) (by simp [*]) At.z (Jg (Jd rfl) rfl (Jf (Ja (hK19 (Je fun _ hK20 _=>(Je fun _ hK21 _=>(Jb (Jg (Jc rfl) rfl (Jg (Es rfl) rfl (Jf (Ja (hK21 ?_))))))))))))))));refine Ei rfl (fun h45=>?_) (fun h45=>?_)
     ·
      refine Je fun _ hK22 _=>(Jb (Jg (Ea bz43) rfl (Jr rfl rfl (by first | exact bytesC_one _ | exact intsC_one _ | exact Term.c_one _ | simp [Value.oneCell']) (by simpa [*] using sz43) (by simp [*]) (.s (.s (.s (.s (.s .z))))) (Jg (Jd rfl) rfl (Jf (Ja (hK22 (Js (Ji (JL (Ji (Ji (JL (Ji (Eb rfl (Res.agg rfl (.s (.s (.s (.s (.s .z))))) (by simpa [*] using ag43)) (Res.tmp rfl) fun w hH=>?_)))))))))))))));replace hH:=hH.sublist (.cons _ (.cons _ (.cons _ (.cons _ (.cons _ (.cons _ (List.Sublist.refl _)))))));rw [rdS_2 h14 (by omega) hk1 (by rw [hw2,isSome_f (not_f h45)];rfl)];exact ⟨none,0,rfl,hH.own0 52 9⟩
     ·
      refine Jk (Ja (hK20 (Et [[], [0], [], [], [3], [4], [5], [2,6], [7]] (by kernel_rfl) (Jz (fun gh=>Jt u43 rfl sz41 rfl) (Jz (fun gh=>Jv rfl (.s (.s (.s .z))) rfl pl41) (Jz (fun gh=>Jn rfl At.z (by simpa [*] using ag50)) (Jz (fun gh=>Jc rfl) (Jz (fun gh=>EN (i':=0) u127 sz9 rfl rfl rfl (by omega) (.s .z)) (Jz (fun gh=>EL rfl (.s .z) (strsC_get (by omega)) pl9) (EX fn107 (fun gh=>rfl) (fun w X hH=>l01Number_c (by omega) hH) (Jz (fun gh=>EW rfl rfl (fun w=>bt52 _ _ hm41.len w)) (HJ.mk (fun gh=>Ka u41 ze52 sz52 (Term.wf.of hm41 (by omega)) rfl) (Ec 9 3 foll0 (by kernel_rfl) rfl rfl fun gh=>(Er (us':=(47,_)::(48,_)::(49,_)::(50,_)::(51,_)::(52,_)::(53,_)::(54,_)::(55,_)::_) (L':=_::_) rfl rfl (EM u41 ze52 sz52 by52 rfl rfl (by simp only [List.length_cons,List.length_nil];omega) .z (.s (.s (.s (.s .z)))) (fun _ _=>(.s (.s (.s (.s .z))))) rfl fun qo56 co56=>?_)))))))))))))));refine Jg (Jt u43 rfl sz41 rfl) rfl (EA rfl rfl rfl rfl sz41 (by simp [*]) (.s (.s (.s (.s .z)))) (Jf (Ed (Ee (JD (Ja (hK14 (Jb (Jg (Jc rfl) rfl (Jg (Jy rfl rfl (by first | exact nw _ (by omega) | rfl)) rfl (Jg (Jd rfl) rfl (Jf (Ja (JF .z (JF .z ?_)))))))))))))));refine JF .z ?_;exact hAg0 (qo56,co56,F++[⟨m41,numS ((spl 42 ((spl 43 t).getD k [])).getD 0 [])⟩],k+1) ⟨by omega,wfs_snoc wfO (Term.wf.of hm41 (by omega)),by rw [pg_take hk1];exact allO_app (by rw [hw2,some_of (not_t h45) he41];rfl) hI⟩ (by show (spl 43 t).length - (k+1)<(spl 43 t).length - k;omega) 39 rfl rfl ⟨rfl,trivial⟩ rfl rfl
   ·
    refine JI (Jl (Jl (JT (Ja (hK10 (Je fun _ hK23 _=>?_))))))
    rcases Bool.eq_false_or_eq_true (isForm ds F) with hb62 | hb62
    ·
     have hff:=isForm_fac wfO hb62;have hFl:=allO_len hI;have htk:=List.length_take_le k (spl 43 t);refine Ev (Rs:=[_,_,_,_]) 12 [[], [], [], [1,2], [1,2,3], [1,2,3,4], [1,2,3,4,5], [1,2,3,4], [1,2,3,4,5,6,7], [1,2,3,4,5,6,7,8], [0,1,2,3,4,5,6], [0,1,2,3,4,5,6,7,8,9,10]] [[13], [], [13], [14], [], [13], [14], [], [], [], [], []] [[], [], [], [], [], [], [], [], [], [], [15], []] rfl rfl (by kernel_rfl) ?_;apply Jw 1 rfl
     iterate 3 focus (intros;(conv=>lhs;simp only [Jj,JA,JX,JC,JU,eq_self,reduceEqDiff,reduceIte,reduceSub,reduceAdd,JxA,JxB]);all_goals rfl)
     ·
      intro gh X K zq zc zq2 zc2 zb zv hK;refine Jg (Jn rfl At.z (by simpa [*] using ag43)) rfl (Jo ?_);exact hK zq zc zq2 zc2 zb zv
     ·
      intro gh gh' h
      rfl
     apply Jw 2 rfl
     iterate 3 focus (intros;(conv=>lhs;simp only [Jj,JA,JX,JC,JU,eq_self,reduceEqDiff,reduceIte,reduceSub,reduceAdd,JxA,JxB]);all_goals rfl)
     ·
      intro gh X K zq zc zq2 zc2 zb zv hK;refine Jg (Jc rfl) rfl (Jo ?_);exact hK zq zc zq2 zc2 zb zv
     ·
      intro gh gh' h
      rfl
     apply Jw 3 rfl
     iterate 3 focus (intros;(conv=>lhs;simp only [Jj,JA,JX,JC,JU,eq_self,reduceEqDiff,reduceIte,reduceSub,reduceAdd,JxA,JxB]);all_goals rfl)
     ·
      intro gh X K zq zc zq2 zc2 zb zv hK;refine Jg (Jn rfl At.z (by simpa [*] using ag43)) rfl (Jo ?_);exact hK zq zc zq2 zc2 zb zv
     ·
      intro gh gh' h
      rfl
     apply Jw 4 rfl
     iterate 3 focus (intros;(conv=>lhs;simp only [Jj,JA,JX,JC,JU,eq_self,reduceEqDiff,reduceIte,reduceSub,reduceAdd,JxA,JxB]);all_goals rfl)
     ·
      intro gh X K zq zc zq2 zc2 zb zv hK;refine Jx fn52 rfl rfl fun w hH=>hH.lend .z fun Hl1 hle1 hA1 hB1 hH=>(l01Is_c (hds.le hle1) (own_terms wfO hA1) (by omega) hd0 (by omega) hH).mono ?_;rintro _ w ⟨rfl,hH⟩;replace hH:=hB1 _ _ hH;refine ⟨_,rfl,fun a hF=>JQ hF hH ?_⟩;refine Jo ?_;exact hK zq zc zq2 zc2 zb zv
     ·
      intro gh gh' h
      rfl
     apply Jw 5 rfl
     iterate 3 focus (intros;(conv=>lhs;simp only [Jj,JA,JX,JC,JU,eq_self,reduceEqDiff,reduceIte,reduceSub,reduceAdd,JxA,JxB]);all_goals rfl)
     ·
      intro gh X K zq zc zq2 zc2 zb zv hK;refine Jg (Jc rfl) rfl (Jo ?_);exact hK zq zc zq2 zc2 zb zv
     ·
      intro gh gh' h
      rfl
     apply Jw 6 rfl
     iterate 3 focus (intros;(conv=>lhs;simp only [Jj,JA,JX,JC,JU,eq_self,reduceEqDiff,reduceIte,reduceSub,reduceAdd,JxA,JxB]);all_goals rfl)
     ·
      intro gh X K zq zc zq2 zc2 zb zv hK;refine JK (Jn rfl At.z (by simpa [*] using ag43)) rfl rfl rfl hb62 (Jo ?_);exact hK zq zc zq2 zc2 zb zv
     ·
      intro gh gh' h
      rfl
     apply Jw 7 rfl
     iterate 3 focus (intros;(conv=>lhs;simp only [Jj,JA,JX,JC,JU,eq_self,reduceEqDiff,reduceIte,reduceSub,reduceAdd,JxA,JxB]);all_goals rfl)
     ·
      intro gh X K zq zc zq2 zc2 zb zv hK;refine Ez fn115 rfl rfl hb62 rfl rfl fun w hH=>hH.lend .z fun Hl1 hle1 hA1 hB1 hH=>(l01Text_c (own_terms wfO hA1) hff.1 hff.2 hH).mono ?_;rintro _ w ⟨rfl,hH⟩;replace hH:=hB1 _ _ hH;refine ⟨_,rfl,fun a hF=>JQ hF hH ?_⟩;refine Jo ?_;exact hK zq zc zq2 zc2 zb zv
     ·
      intro gh gh' h
      rfl
     apply Jw 8 rfl
     iterate 3 focus (intros;(conv=>lhs;simp only [Jj,JA,JX,JC,JU,eq_self,reduceEqDiff,reduceIte,reduceSub,reduceAdd,JxA,JxB]);all_goals rfl)
     ·
      intro gh X K zq zc zq2 zc2 zb zv hK;refine JK (Jc rfl) rfl rfl rfl hb62 (Jo ?_);exact hK zq zc zq2 zc2 zb zv
     ·
      intro gh gh' h
      rfl
     apply Jw 9 rfl
     iterate 3 focus (intros;(conv=>lhs;simp only [Jj,JA,JX,JC,JU,eq_self,reduceEqDiff,reduceIte,reduceSub,reduceAdd,JxA,JxB]);all_goals rfl)
     ·
      intro gh X K zq zc zq2 zc2 zb zv hK;refine JK (PR.strEql rfl rfl) rfl rfl rfl hb62 (Jo ?_);exact hK zq zc zq2 zc2 zb zv
     ·
      intro gh gh' h
      rfl
     apply Jw 10 rfl
     iterate 3 focus (intros;(conv=>lhs;simp only [Jj,JA,JX,JC,JU,eq_self,reduceEqDiff,reduceIte,reduceSub,reduceAdd,JxA,JxB]);all_goals rfl)
     ·
      intro gh X K zq zc zq2 zc2 zb zv hK;refine Jg (JP rfl hb62 rfl) rfl (Jo ?_);exact hK zq zc zq2 zc2 zb zv
     ·
      intro gh gh' h
      rfl
     apply EB 11 rfl
     iterate 3 focus (intros;(conv=>lhs;simp only [Jj,JA,JX,JC,JU,eq_self,reduceEqDiff,reduceIte,reduceSub,reduceAdd,JxA,JxB]);all_goals rfl)
     ·
      intro gh X K hK;refine Jr rfl rfl (by first | exact bytesC_one _ | exact intsC_one _ | exact Term.c_one _ | simp [Value.oneCell']) (by simpa [*] using sz43) (by simp [*]) At.z (Jo ?_);exact hK
     ·
      intro gh gh' h
      rfl
     apply Jw 12 rfl
     iterate 3 focus (intros;(conv=>lhs;simp only [Jj,JA,JX,JC,JU,eq_self,reduceEqDiff,reduceIte,reduceSub,reduceAdd,JxA,JxB]);all_goals rfl)
     ·
      intro gh X K zq zc zq2 zc2 zb zv hK;refine Jg (Jd rfl) rfl (Jo ?_);exact hK zq zc zq2 zc2 zb zv
     ·
      intro gh gh' h
      rfl
     apply Eu [0,1,2,3,4,5,6,7,8,9,10,11] [0,1,2,3,4,5,6,7,8,9,10,11,12,13,14] foll0 rfl rfl rfl (by rfl)
     iterate 2 focus (intros;(conv=>lhs;simp only [Jj,JA,JX,JC,JU,eq_self,reduceEqDiff,reduceIte,reduceSub,reduceAdd,JxA,JxB]);all_goals rfl)
     intro gh;clear gh;refine Ja (hK23 (Js (Eb rfl (Res.agg rfl At.z (by simpa [*] using ag43)) (Res.tmp rfl) fun w hH=>?_)));replace hH:=hH.sublist (.cons _ (.cons _ (.cons _ (.cons_cons _ (List.Sublist.refl _)))))
     obtain rfl:k=(spl 43 t).length:=by omega
     rw [rdS_3 h14 (by omega) hI];exact ⟨_,_,by unfold chkT;rw [hb62];rfl,hH⟩
    ·
     have hFl:=allO_len hI;have htk:=List.length_take_le k (spl 43 t);refine Ev (Rs:=[_,_,_,_]) 12 [[], [], [], [1,2], [1,2,3], [1,2,3,4], [1,2,3,4,5], [1,2,3,4], [1,2,3,4,5,6,7], [1,2,3,4,5,6,7,8], [0,1,2,3,4,5,6], [0,1,2,3,4,5,6,7,8,9,10]] [[13], [], [13], [14], [], [], [], [], [], [], [], []] [[], [], [], [], [], [], [], [], [], [], [15], []] rfl rfl (by kernel_rfl) ?_;apply Jw 1 rfl
     iterate 3 focus (intros;(conv=>lhs;simp only [Jj,JA,JX,JC,JU,eq_self,reduceEqDiff,reduceIte,reduceSub,reduceAdd,JxA,JxB]);all_goals rfl)
     ·
      intro gh X K zq zc zq2 zc2 zb zv hK;refine Jg (Jn rfl At.z (by simpa [*] using ag43)) rfl (Jo ?_);exact hK zq zc zq2 zc2 zb zv
     ·
      intro gh gh' h
      rfl
     apply Jw 2 rfl
     iterate 3 focus (intros;(conv=>lhs;simp only [Jj,JA,JX,JC,JU,eq_self,reduceEqDiff,reduceIte,reduceSub,reduceAdd,JxA,JxB]);all_goals rfl)
     ·
      intro gh X K zq zc zq2 zc2 zb zv hK;refine Jg (Jc rfl) rfl (Jo ?_);exact hK zq zc zq2 zc2 zb zv
     ·
      intro gh gh' h
      rfl
     apply Jw 3 rfl
     iterate 3 focus (intros;(conv=>lhs;simp only [Jj,JA,JX,JC,JU,eq_self,reduceEqDiff,reduceIte,reduceSub,reduceAdd,JxA,JxB]);all_goals rfl)
     ·
      intro gh X K zq zc zq2 zc2 zb zv hK;refine Jg (Jn rfl At.z (by simpa [*] using ag43)) rfl (Jo ?_);exact hK zq zc zq2 zc2 zb zv
     ·
      intro gh gh' h
      rfl
     apply Jw 4 rfl
     iterate 3 focus (intros;(conv=>lhs;simp only [Jj,JA,JX,JC,JU,eq_self,reduceEqDiff,reduceIte,reduceSub,reduceAdd,JxA,JxB]);all_goals rfl)
     ·
      intro gh X K zq zc zq2 zc2 zb zv hK;refine Jx fn52 rfl rfl fun w hH=>hH.lend .z fun Hl1 hle1 hA1 hB1 hH=>(l01Is_c (hds.le hle1) (own_terms wfO hA1) (by omega) hd0 (by omega) hH).mono ?_;rintro _ w ⟨rfl,hH⟩;replace hH:=hB1 _ _ hH;refine ⟨_,rfl,fun a hF=>JQ hF hH ?_⟩;refine Jo ?_;exact hK zq zc zq2 zc2 zb zv
     ·
      intro gh gh' h
      rfl
     apply Jw 5 rfl
     iterate 3 focus (intros;(conv=>lhs;simp only [Jj,JA,JX,JC,JU,eq_self,reduceEqDiff,reduceIte,reduceSub,reduceAdd,JxA,JxB]);all_goals rfl)
     ·
      intro gh X K zq zc zq2 zc2 zb zv hK;refine Jg (Jc rfl) rfl (Jo ?_);exact hK zq zc zq2 zc2 zb zv
     ·
      intro gh gh' h
      rfl
     apply Jw 6 rfl
     iterate 3 focus (intros;(conv=>lhs;simp only [Jj,JA,JX,JC,JU,eq_self,reduceEqDiff,reduceIte,reduceSub,reduceAdd,JxA,JxB]);all_goals rfl)
     ·
      intro gh X K zq zc zq2 zc2 zb zv hK;refine JE rfl rfl rfl hb62 (Jo ?_);exact hK zq zc zq2 zc2 zb zv
     ·
      intro gh gh' h
      rfl
     apply Jw 7 rfl
     iterate 3 focus (intros;(conv=>lhs;simp only [Jj,JA,JX,JC,JU,eq_self,reduceEqDiff,reduceIte,reduceSub,reduceAdd,JxA,JxB]);all_goals rfl)
     ·
      intro gh X K zq zc zq2 zc2 zb zv hK;refine JE rfl rfl rfl hb62 (Jo ?_);exact hK zq zc zq2 zc2 zb zv
     ·
      intro gh gh' h
      rfl
     apply Jw 8 rfl
     iterate 3 focus (intros;(conv=>lhs;simp only [Jj,JA,JX,JC,JU,eq_self,reduceEqDiff,reduceIte,reduceSub,reduceAdd,JxA,JxB]);all_goals rfl)
     ·
      intro gh X K zq zc zq2 zc2 zb zv hK;refine JE rfl rfl rfl hb62 (Jo ?_);exact hK zq zc zq2 zc2 zb zv
     ·
      intro gh gh' h
      rfl
     apply Jw 9 rfl
     iterate 3 focus (intros;(conv=>lhs;simp only [Jj,JA,JX,JC,JU,eq_self,reduceEqDiff,reduceIte,reduceSub,reduceAdd,JxA,JxB]);all_goals rfl)
     ·
      intro gh X K zq zc zq2 zc2 zb zv hK;refine JE rfl rfl rfl hb62 (Jo ?_);exact hK zq zc zq2 zc2 zb zv
     ·
      intro gh gh' h
      rfl
     apply Jw 10 rfl
     iterate 3 focus (intros;(conv=>lhs;simp only [Jj,JA,JX,JC,JU,eq_self,reduceEqDiff,reduceIte,reduceSub,reduceAdd,JxA,JxB]);all_goals rfl)
     ·
      intro gh X K zq zc zq2 zc2 zb zv hK;refine Jg (JN rfl hb62 rfl) rfl (Jo ?_);exact hK zq zc zq2 zc2 zb zv
     ·
      intro gh gh' h
      rfl
     apply EB 11 rfl
     iterate 3 focus (intros;(conv=>lhs;simp only [Jj,JA,JX,JC,JU,eq_self,reduceEqDiff,reduceIte,reduceSub,reduceAdd,JxA,JxB]);all_goals rfl)
     ·
      intro gh X K hK;refine Jr rfl rfl (by first | exact bytesC_one _ | exact intsC_one _ | exact Term.c_one _ | simp [Value.oneCell']) (by simpa [*] using sz43) (by simp [*]) At.z (Jo ?_);exact hK
     ·
      intro gh gh' h
      rfl
     apply Jw 12 rfl
     iterate 3 focus (intros;(conv=>lhs;simp only [Jj,JA,JX,JC,JU,eq_self,reduceEqDiff,reduceIte,reduceSub,reduceAdd,JxA,JxB]);all_goals rfl)
     ·
      intro gh X K zq zc zq2 zc2 zb zv hK;refine Jg (Jd rfl) rfl (Jo ?_);exact hK zq zc zq2 zc2 zb zv
     ·
      intro gh gh' h
      rfl
     apply Eu [0,1,2,3,4,5,6,7,8,9,10,11] [0,1,2,3,4,5,6,7,8,9,10,11,12,13,14] foll0 rfl rfl rfl (by rfl)
     iterate 2 focus (intros;(conv=>lhs;simp only [Jj,JA,JX,JC,JU,eq_self,reduceEqDiff,reduceIte,reduceSub,reduceAdd,JxA,JxB]);all_goals rfl)
     intro gh;clear gh;refine Ja (hK23 (Js (Eb rfl (Res.agg rfl At.z (by simpa [*] using ag43)) (Res.tmp rfl) fun w hH=>?_)));replace hH:=hH.sublist (.cons _ (.cons _ (.cons _ (.cons_cons _ (List.Sublist.refl _)))))
     obtain rfl:k=(spl 43 t).length:=by omega
     rw [rdS_3 h14 (by omega) hI];exact ⟨_,_,by unfold chkT;rw [hb62];rfl,hH⟩
def rdO (ds:List Int) (b:List UInt8):Option (List Term):=if (rdS ds b).2 then some (rdS ds b).1 else none
theorem rdO_ok {ds:List Int} {b:List UInt8} {f:List Term} (h:rdO ds b=some f):okR ds b f:=by
 unfold rdO at h
 split at h
 ·rename_i h1
  cases h
  exact rdS_okR (by rw [← h1])
 ·cases h
def halW (w:List UInt8):Option (Int × List UInt8):=match spl 58 w with
 | [a,b]=>some (numS a,b)
 | _=>none
abbrev Rda:=List Int × List (List Term) × Bool
def raQ (ds:List Int) (ws:List (List UInt8)):Rda:=if isDeg ds then match allO (rdO ds) ws with
 | none=>([], [],false)
 | some fs=>(ds,fs,isAlg ds fs) else ([], [],false)
def raS (t:List UInt8):Rda:=if t=[] then ([], [],true) else match allO halW (spl 59 t) with
 | none=>([], [],false)
 | some hs=>raQ (hs.map Prod.fst) (hs.map Prod.snd)
theorem allO_list {α β:Type} {f:List UInt8→Option α} {g:α→β} : ∀{ws:List (List UInt8)} {xs:List α},allO f ws=some xs→∀i,i<ws.length→∃x,f (ws.getD i [])=some x∧(xs.map g)[i]? = some (g x)
 | [],xs,h,i,hi=>by simp at hi
 | w::ws,xs,h,i,hi=>by
  simp only [allO] at h
  cases hw:f w with
  | none=>rw [hw] at h;cases h
  | some b=>
   rw [hw] at h
   cases hr:allO f ws with
   | none=>rw [hr] at h;cases h
   | some bs=>
    rw [hr] at h
    simp only [Option.map_some,Option.some.injEq] at h
    subst h
    cases i with
    | zero=>exact ⟨b,by simpa using hw,by simp⟩
    | succ i=>
     obtain ⟨x,h1,h2⟩:=allO_list (g:=g) hr i (by simpa using hi)
     exact ⟨x,by simpa using h1,by simpa using h2⟩
theorem fm_some {fs:List (List Term)} {i:Nat} {f:List Term} (h:fs[i]? = some f):fm fs i=f:=by unfold fm;rw [List.getD_eq_getElem?_getD,h];rfl
theorem allO_wfss {ds:List Int} {ws:List (List UInt8)} {fs:List (List Term)} (h:allO (rdO ds) ws=some fs):Wfss fs:=fun f hf=>by
 obtain ⟨i,hi,rfl⟩:=List.getElem_of_mem hf
 have hl:=allO_len h
 obtain ⟨x,h1,h2⟩:=allO_list (g:=id) h i (by omega)
 rw [List.map_id,List.getElem?_eq_getElem hi] at h2
 simp only [id,Option.some.injEq] at h2
 rw [h2]
 exact (rdO_ok h1).2.1
theorem allO_len4 {ds:List Int} {ws:List (List UInt8)} {fs:List (List Term)} (h:allO (rdO ds) ws=some fs) (i:Nat):(fm fs i).length≤400:=by
 rcases Nat.lt_or_ge i fs.length with hi | hi
 ·have hl:=allO_len h;obtain ⟨x,h1,h2⟩:=allO_list (g:=id) h i (by omega);rw [List.map_id] at h2;rw [fm_some h2];exact isForm_len4 (rdO_ok h1).1
 ·unfold fm;rw [List.getD_eq_getElem?_getD,List.getElem?_eq_none hi]
  simp
theorem spl_len2 (c:UInt8) : ∀(s w:List UInt8),w∈spl c s→w≠ []→(spl c s).length≤s.length
 | [],w,h,hw=>absurd (List.mem_singleton.1 h) hw
 | b::s,w,h,hw=>by
  simp only [spl] at h ⊢
  by_cases hb:b=c
  ·rw [if_pos hb] at h ⊢
   rcases List.mem_cons.1 h with h1 | h1
   ·exact absurd h1 hw
   ·have:=spl_len2 c s w h1 hw
    simp only [List.length_cons]
    omega
  ·rw [if_neg hb] at h ⊢
   rw [att_len _ (spl_ne c s)]
   have:=spl_len c s
   simp only [List.length_cons]
   omega
theorem spl_many {t:List UInt8} {α:Type} {f:List UInt8→Option α} {xs:List α} (hf:f []=none) (h:allO f (spl 59 t)=some xs):xs.length≤t.length:=by
 have hl:=allO_len h;have hne:=spl_ne 59 t;have h0:0<(spl 59 t).length:=List.length_pos_iff.2 hne;obtain ⟨x,h1,_⟩:=allO_list (g:=id) h 0 h0;have h2:=spl_len2 59 t ((spl 59 t).getD 0 []) (pg_mem h0) (fun e=>by rw [e,hf] at h1;cases h1)
 omega
theorem halW_nil:halW []=none:=rfl
section
variable {t : List UInt8} {D : List Int} {W : List (List UInt8)} {F : List (List Term)} {k : Nat}
theorem raS_0 (h:t=[]):raS t=([], [],true):=by unfold raS;rw [if_pos h]
theorem raS_1 (h : ¬t=[]) (hk:k<(spl 59 t).length) (h2:halW ((spl 59 t).getD k [])=none):raS t=([], [],false):=by
 unfold raS;rw [if_neg h,allO_none h2 (pg_mem hk)]
theorem raS_2 (h : ¬t=[]) (h2:allO halW ((spl 59 t).take (spl 59 t).length)=some (D.zip W)) (hl:D.length=W.length):raS t=raQ D W:=by
 rw [List.take_length] at h2;unfold raS;rw [if_neg h,h2];simp only;rw [List.map_fst_zip (by omega),List.map_snd_zip (by omega)]
theorem raQ_0 (h:isDeg D=false):raQ D W=([], [],false):=by unfold raQ;rw [h];rfl
theorem raQ_1 (h:isDeg D=true) (hk:k<W.length) (h2:rdO D (W.getD k [])=none):raQ D W=([], [],false):=by
 unfold raQ;rw [if_pos h,allO_none h2 (pg_mem hk)]
theorem raQ_2 (h:isDeg D=true) (h2:allO (rdO D) (W.take W.length)=some F):raQ D W=(D,F,isAlg D F):=by
 rw [List.take_length] at h2;unfold raQ;rw [if_pos h,h2]
end
theorem bz27 : ∀w,(Instr.build 27 #[]).run Tryz.prog w = .ok (.agg [.slice none 0 0,.slice none 0 0].toArray) w:=fun _=>by kernel_rfl
theorem fn108:Fn Tryz.prog 108:=⟨_,Tryz.func108,by kernel_rfl,rfl⟩
section
variable {P : Program} {ops : Array Oper} {Q : Exit → Act → World → Prop} {n : Nat} {B : World} {H0 H : HP} {rest : List Oper} {us : List (Nat × Value)} {L L1 L2 : List SA}
theorem CJ.mkFs {c0:Code} {E T:TypeId} {q:Option Addr} {c:Nat} {vs:Vs} {fs:List (List Term)} (h1:Rm L (ownTs T vs fs) L1) (h2:Rm L1 (own E 1 q fs.length c (slicesC vs fs)) L2) (k:CJ P c0 Q n B H0 us H (ownFs E T q c vs fs::L2)):CJ P c0 Q n B H0 us H L:=fun a w hF hH=>k a w hF (by unfold ownFs;exact ((hH.front h1).front (.s h2)).star)
end
theorem zip_snoc {D:List Int} {W:List (List UInt8)} {d:Int} {w:List UInt8} (h:D.length=W.length):(D++[d]).zip (W++[w])=D.zip W++[(d,w)]:=List.zip_append h
theorem halW_two {w:List UInt8} (h:(spl 58 w).length=2):halW w=some (numS ((spl 58 w).getD 0 []),(spl 58 w).getD 1 []):=by
 unfold halW
 match hs:spl 58 w,h with
 | [a,b],_=>rfl
theorem halW_len {w:List UInt8} (h:(spl 58 w).length≠2):halW w=none:=by
 unfold halW
 split
 ·rename_i a b hs
  rw [hs] at h;exact absurd rfl h
 ·rfl
theorem rdO_y {ds:List Int} {b:List UInt8} (h:(rdS ds b).2=true):rdO ds b=some (rdS ds b).1:=by unfold rdO;rw [if_pos h]
theorem rdO_n {ds:List Int} {b:List UInt8} (h:(rdS ds b).2=false):rdO ds b=none:=by unfold rdO;rw [h];rfl
theorem mem_snoc_len {W:List (List UInt8)} {w:List UInt8} (h : ∀x∈W,x.length≤1048576) (hw:w.length≤1048576) : ∀x∈W++[w],x.length≤1048576:=fun x hx=>by
 rcases List.mem_append.1 hx with h1 | h1
 ·exact h x h1
 ·rw [List.mem_singleton.1 h1];exact hw
theorem l02Read_c {B:World} {H0 H:HP} {L:List SA} {w:World} {t:List UInt8} (hl:t.length≤1048576) (hH:Hp B H0 H L w):Calls Tryz.prog 94 [sV t].toArray w fun e w'=>∃qd cd qf cf vs,e = .returned (.tuple #[.agg [.slice qd (raS t).1.length cd,.slice qf (raS t).2.1.length cf].toArray,.bool (raS t).2.2])∧Hp B H0 H (own 2 1 qd (raS t).1.length cd (intsC (raS t).1)::ownFs 43 52 qf cf vs (raS t).2.1::L) w':=by
 refine JB Tryz.func94 rfl 82 rfl rfl [(0,sV t)] rfl hH ?_;clear hH;have hPl:=spl_len 59 t;have hPm:=fun x (hx:x∈(spl 59 t))=>spl_mem 59 t x hx;refine Je fun _ hK1 _=>(Jb (JM ze27 rfl fun g2=>(Jg (Jd rfl) rfl (Jf (Ja (hK1 (Je fun _ hK2 _=>(Jb (ED 2 1 (ED 43 1 (J.ts0 52 (Jg (Ea bz27) rfl (JM ze27 rfl fun g4=>(Jr rfl rfl (by first | exact bytesC_one _ | exact intsC_one _ | exact Term.c_one _ | simp [Value.oneCell']) (by simpa [*] using sz27) (by simp [*]) At.z (Jf ?_)))))))))))))));refine Ja (hK2 (Je fun _ hK3 _=>(Je fun _ hK4 _=>(Jb (Jg (Jc rfl) rfl (Jg (PR.strEql rfl rfl) rfl (Jf (Ja (hK4 (Jm rfl (fun h14=>?_) (fun h14=>?_)))))))))))
 ·
  refine Je fun _ hK5 _=>(Jb (Jg (Jn rfl At.z (by simpa [*] using ag27)) rfl (Jr rfl rfl (by first | exact bytesC_one _ | exact intsC_one _ | exact Term.c_one _ | simp [Value.oneCell']) (by simpa [*] using sz27) (by simp [*]) (.s (.s (.s (.s .z)))) (Jg (Jd rfl) rfl (Jf (Ja (hK5 (Js (Ji (Eb rfl (Res.agg rfl (.s (.s (.s (.s .z)))) (by simpa [*] using ag27)) (Res.tmp rfl) fun w hH=>?_))))))))));replace hH:=hH.sublist (.cons _ (.cons _ (.cons _ (.cons _ (.cons _ (List.Sublist.refl _))))));rw [raS_0 h14];exact ⟨none,0,none,0,nilVs,rfl,(hH.ownFsNil 43 52).own0 2 1⟩
 ·
  refine Jk (Ja (hK3 (Je fun _ hK6 _=>(Jb (Jg (Jc rfl) rfl (Jx fn106 rfl rfl fun w hH=>(l01Split_c (c:=59) rfl (by omega) hH).mono ?_))))));rintro _ w ⟨qo17,co17,rfl,hH⟩;refine ⟨_,rfl,fun a hF=>JQ hF hH ?_⟩;refine EY (MK.lit0 u127 sz9) rfl fun qo18 co18=>(Jg (Jd rfl) rfl (Jg (Jd rfl) rfl (Jf (Ja (hK6 (Je fun _ hK7 _=>(Je fun _ hK8 _=>(Jb (Jg (Jd rfl) rfl (Jf (Ja (hK8 (Jp (JH (σ:=Option Addr × Nat × List Int × Option Addr × Nat × List (List UInt8) × Nat) (fun ⟨qd,cd,D,qw,cw,W,i⟩=>[(7,.int .i64 (i:Int)),(6,.slice qw i cw)]) (fun ⟨qd,cd,D,qw,cw,W,i⟩=>H) (fun ⟨qd,cd,D,qw,cw,W,i⟩=>own 9 1 qw i cw (W.map sV)::own 9 1 qo17 (spl 59 t).length co17 ((spl 59 t).map sV)::obj g4 (.cells [.slice qd D.length cd,.slice none 0 0].toArray 27 (0,0))::ownTs 52 nilVs []::own 43 1 none 0 0 (slicesC nilVs [])::own 2 1 qd D.length cd (intsC D)::obj g2 (.cells [.slice none 0 0,.slice none 0 0].toArray 27 (0,0))::L) (fun ⟨qd,cd,D,qw,cw,W,i⟩=>i≤(spl 59 t).length∧D.length=i∧W.length=i∧(∀x∈W,x.length≤1048576)∧allO halW ((spl 59 t).take i)=some (D.zip W)) (fun ⟨qd,cd,D,qw,cw,W,i⟩=>(spl 59 t).length - i) (none,0, [],qo18,co18, [],0) ⟨by omega,rfl,rfl,fun x hx=>by simp at hx,rfl⟩ ⟨rfl,⟨rfl,trivial⟩⟩ rfl rfl ?_))))))))))))));rintro ⟨qd,cd,D,qw,cw,W,i⟩ ⟨hi,hDl,hWl,hWm,hI⟩ _ hAg0;refine Je fun _ hK9 _=>(Je fun _ hK10 _=>(Jb (Jg (Jc rfl) rfl (Jg (Jc rfl) rfl (Jg (Jq u127 rfl rfl) rfl (Jg (JV rfl rfl) rfl (Jf (Ja (hK10 (Jm rfl (fun h22=>?_) (fun h22=>?_)))))))))))
  ·
   have hk1:i<(spl 59 t).length:=by omega
   have hwl:=hPm _ (pg_mem hk1);have hsl:=spl_len 58 ((spl 59 t).getD i []);refine Jk (Ja (hK9 (Je fun _ hK11 _=>(Jp (Je fun _ hK12 _=>(Jb (Jg (Jc rfl) rfl (Jg (Jc rfl) rfl (Jg (EN u127 sz9 rfl rfl rfl (by omega) (.s .z)) rfl (Jg (EL rfl (.s .z) (strsC_get (by omega)) pl9) rfl (Jx fn106 rfl rfl fun w hH=>(l01Split_c (c:=58) rfl (by omega) hH).mono ?_)))))))))));rintro _ w ⟨qo29,co29,rfl,hH⟩;refine ⟨_,rfl,fun a hF=>JQ hF hH ?_⟩;refine Jg (Jd rfl) rfl (Jf (Ja (hK12 (Je fun _ hK13 _=>(Je fun _ hK14 _=>(Jb (Jg (Jc rfl) rfl (Jg (Jq u127 rfl rfl) rfl (Jg (En rfl rfl) rfl (Jf (Ja (hK14 (Jm rfl (fun h32=>?_) (fun h32=>?_))))))))))))))
   ·
    refine Je fun _ hK15 _=>(Jb (Jg (Ea bz27) rfl (Jr rfl rfl (by first | exact bytesC_one _ | exact intsC_one _ | exact Term.c_one _ | simp [Value.oneCell']) (by simpa [*] using sz27) (by simp [*]) (.s (.s (.s (.s (.s (.s (.s .z))))))) (Jg (Jd rfl) rfl (Jf (Ja (hK15 (Js (Ji (JL (Ji (Ji (JL (Ji (Eb rfl (Res.agg rfl (.s (.s (.s (.s (.s (.s (.s .z))))))) (by simpa [*] using ag27)) (Res.tmp rfl) fun w hH=>?_)))))))))))))));replace hH:=hH.sublist (.cons _ (.cons _ (.cons _ (.cons _ (.cons _ (.cons _ (.cons _ (.cons _ (List.Sublist.refl _)))))))));rw [raS_1 h14 hk1 (halW_len (by omega))];exact ⟨none,0,none,0,nilVs,rfl,(hH.ownFsNil 43 52).own0 2 1⟩
   ·
    have hs2:(spl 58 ((spl 59 t).getD i [])).length=2:=by omega
    have hw2:=halW_two hs2;have hm1:=spl_mem 58 ((spl 59 t).getD i []) _ (pg_mem (show 1<(spl 58 ((spl 59 t).getD i [])).length by omega));have hm0:=spl_mem 58 ((spl 59 t).getD i []) _ (pg_mem (show 0<(spl 58 ((spl 59 t).getD i [])).length by omega));have hnb:=numS_bd ((spl 58 ((spl 59 t).getD i [])).getD 0 []);refine Jk (Ja (hK13 (Je fun _ hK16 _=>(Et [[], [0], [], [2], [3], [4], [5]] (by kernel_rfl) (Jz (fun gh=>Jt u27 rfl sz24 rfl) (Jz (fun gh=>Jv rfl (.s (.s (.s .z))) rfl pl24) (Jz (fun gh=>Jc rfl) (Jz (fun gh=>EN (i':=0) u127 sz9 rfl rfl rfl (by omega) At.z) (Jz (fun gh=>EL rfl At.z (strsC_get (by omega)) pl9) (EX fn107 (fun gh=>rfl) (fun w X hH=>l01Number_c (by omega) hH) (HJ.mk (fun gh=>MK.lit1I u24 ze2 sz2 rfl) (Ec 7 3 foll0 (by kernel_rfl) rfl rfl fun gh=>(Er (us':=(34,_)::(35,_)::(36,_)::(37,_)::(38,_)::(39,_)::(40,_)::_) (L':=_::_) rfl rfl (J.appendOI u24 ze2 sz2 by2 rfl rfl (by simp only [List.length_cons,List.length_nil];omega) .z (.s (.s (.s (.s (.s (.s .z)))))) (fun _ _=>(.s (.s (.s (.s (.s (.s .z))))))) rfl fun qo41 co41=>(Jg (Jt u27 rfl sz24 rfl) rfl ?_)))))))))))))));refine EA rfl rfl rfl rfl sz24 (by simp [*]) (.s (.s (.s (.s .z)))) (Jf (Ed (Ee (Ja (hK16 (Jb (Jg (Jc rfl) rfl (Jg (Jc rfl) rfl (Jg (EN (i':=1) u127 sz9 rfl rfl rfl (by omega) (.s .z)) rfl (Jg (EL rfl (.s .z) (strsC_get (by omega)) pl9) rfl (EY (EI u127 ze9 sz9 rfl rfl) rfl fun qo47 co47=>(EO u127 ze9 sz9 by9 rfl rfl rfl rfl (by omega) .z (.s (.s .z)) (fun _ _=>(.s (.s .z))) rfl fun qo48 co48=>(Jg (Jd rfl) rfl (Jf (JD ?_)))))))))))))));refine Ja (hK11 (Jb (Jg (Jc rfl) rfl (Jg (Jy rfl rfl (by first | exact nw _ (by omega) | rfl)) rfl (Jg (Jd rfl) rfl (Jf (Ja (JF .z (JF .z (JF .z ?_))))))))));exact hAg0 (qo41,co41,D++[numS ((spl 58 ((spl 59 t).getD i [])).getD 0 [])],qo48,co48,W++[(spl 58 ((spl 59 t).getD i [])).getD 1 []],i+1) ⟨by omega,by simp;omega,by simp;omega,mem_snoc_len hWm (by omega),by rw [pg_take hk1,zip_snoc (by omega)];exact allO_app hw2 hI⟩ (by show (spl 59 t).length - (i+1)<(spl 59 t).length - i;omega) 34 rfl rfl ⟨rfl,⟨rfl,trivial⟩⟩ rfl (by dsimp only;rw [List.map_append];rfl)
  ·
   refine JI (Jl (Jl (JT (Ja (hK7 (Je fun _ hK17 _=>(Je fun _ hK18 _=>?_)))))));obtain rfl:i=W.length:=hWl.symm
   have hWP:W.length=(spl 59 t).length:=by omega
   rw [hWP] at hI;refine Jb (Jg (Jt u27 rfl sz24 rfl) rfl (Jg (Jv rfl (.s (.s .z)) rfl pl24) rfl (Jx fn51 rfl rfl fun w hH=>hH.lend (.s (.s (.s (.s (.s .z))))) fun Hl1 hle1 hA1 hB1 hH=>(l01Degrees_c (own_ints hA1) (by have:=(spl_many halW_nil (by rw [List.take_length] at hI;exact hI));rw [List.length_zip] at this;omega) hH).mono ?_)));rintro _ w ⟨rfl,hH⟩;replace hH:=hB1 _ _ hH;refine ⟨_,rfl,fun a hF=>JQ hF hH ?_⟩;refine Jg (Es rfl) rfl (Jf (Ja (hK18 (Ei rfl (fun h52=>?_) (fun h52=>?_)))))
   ·
    refine Je fun _ hK19 _=>(Jb (Jg (Ea bz27) rfl (Jr rfl rfl (by first | exact bytesC_one _ | exact intsC_one _ | exact Term.c_one _ | simp [Value.oneCell']) (by simpa [*] using sz27) (by simp [*]) (.s (.s (.s (.s (.s (.s .z)))))) (Jg (Jd rfl) rfl (Jf (Ja (hK19 (Js (Ji (Eb rfl (Res.agg rfl (.s (.s (.s (.s (.s (.s .z)))))) (by simpa [*] using ag27)) (Res.tmp rfl) fun w hH=>?_))))))))));replace hH:=hH.sublist (.cons _ (.cons _ (.cons _ (.cons _ (.cons _ (.cons _ (.cons _ (List.Sublist.refl _))))))));rw [raS_2 h14 hI (by omega),raQ_0 (not_f h52)];exact ⟨none,0,none,0,nilVs,rfl,(hH.ownFsNil 43 52).own0 2 1⟩
   ·
    have hDg:isDeg D=true:=not_t h52;have hD8:=isDeg_len hDg;have hd0 : ∀j,j<D.length→0≤D.getD j 0:=fun j _=>(isDeg_bd hDg j).1;refine Jk (Ja (hK17 (Je fun _ hK20 _=>(Je fun _ hK21 _=>(Jb (Jg (Jd rfl) rfl (Jf (Ja (hK21 (Jp (JH (σ:=Option Addr × Nat × Vs × List (List Term) × Nat) (fun ⟨q,c,vs,F,k⟩=>[(9,.int .i64 (k:Int))]) (fun ⟨q,c,vs,F,k⟩=>H) (fun ⟨q,c,vs,F,k⟩=>own 2 1 qd D.length cd (intsC D)::own 9 1 qw W.length cw (W.map sV)::own 9 1 qo17 (spl 59 t).length co17 ((spl 59 t).map sV)::obj g4 (.cells [.slice qd D.length cd,.slice q k c].toArray 27 (0,0))::ownTs 52 vs F::own 43 1 q k c (slicesC vs F)::obj g2 (.cells [.slice none 0 0,.slice none 0 0].toArray 27 (0,0))::L) (fun ⟨q,c,vs,F,k⟩=>k≤W.length∧F.length=k∧allO (rdO D) (W.take k)=some F) (fun ⟨q,c,vs,F,k⟩=>W.length - k) (none,0,nilVs, [],0) ⟨by omega,rfl,rfl⟩ ⟨rfl,trivial⟩ rfl rfl ?_)))))))))));rintro ⟨q,c,vs,F,k⟩ ⟨hk,hFl,hJ⟩ _ hAg1;refine Je fun _ hK22 _=>(Je fun _ hK23 _=>(Jb (Jg (Jc rfl) rfl (Jg (Jc rfl) rfl (Jg (Jq u127 rfl rfl) rfl (Jg (JV rfl rfl) rfl (Jf (Ja (hK23 (Jm rfl (fun h57=>?_) (fun h57=>?_)))))))))))
    ·
     have hk2:k<W.length:=by omega
     have hwk:=hWm _ (pg_mem hk2);refine Jk (Ja (hK22 (Je fun _ hK24 _=>(Jp (Je fun _ hK25 _=>(Ev (Rs:=[_,_,_,_,_,_,_]) 13 [[], [0], [], [], [2,3], [2,3,4], [0,1,2,3,4,5], [0,1,2,3,4,5,6], [0,1,2,3,4,5,6,7], [0,1,2,3,4,5,6,7], [], [0,1,2,3,4,5,6,7,8,10], [0,1,2,3,4,5,6,7,8,9,10,11]] [[], [16], [], [], [14], [14], [13], [], [], [], [], [], []] [[], [], [], [], [], [], [], [], [], [], [], [10], []] rfl rfl (by kernel_rfl) ?_))))));apply Jw 1 rfl
     iterate 3 focus (intros;(conv=>lhs;simp only [Jj,JA,JX,JC,JU,eq_self,reduceEqDiff,reduceIte,reduceSub,reduceAdd,JxA,JxB]);all_goals rfl)
     ·
      intro gh X K zq zc zq2 zc2 zb zv hK;refine Jg (Jt u27 rfl sz24 rfl) rfl (Jo ?_);exact hK zq zc zq2 zc2 zb zv
     ·
      intro gh gh' h
      rfl
     apply Jw 2 rfl
     iterate 3 focus (intros;(conv=>lhs;simp only [Jj,JA,JX,JC,JU,eq_self,reduceEqDiff,reduceIte,reduceSub,reduceAdd,JxA,JxB]);all_goals rfl)
     ·
      intro gh X K zq zc zq2 zc2 zb zv hK;refine Jg (Jv rfl At.z rfl pl24) rfl (Jo ?_);exact hK zq zc zq2 zc2 zb zv
     ·
      intro gh gh' h
      rfl
     apply Jw 3 rfl
     iterate 3 focus (intros;(conv=>lhs;simp only [Jj,JA,JX,JC,JU,eq_self,reduceEqDiff,reduceIte,reduceSub,reduceAdd,JxA,JxB]);all_goals rfl)
     ·
      intro gh X K zq zc zq2 zc2 zb zv hK;refine Jg (Jc rfl) rfl (Jo ?_);exact hK zq zc zq2 zc2 zb zv
     ·
      intro gh gh' h
      rfl
     apply Jw 4 rfl
     iterate 3 focus (intros;(conv=>lhs;simp only [Jj,JA,JX,JC,JU,eq_self,reduceEqDiff,reduceIte,reduceSub,reduceAdd,JxA,JxB]);all_goals rfl)
     ·
      intro gh X K zq zc zq2 zc2 zb zv hK;refine Jg (Jc rfl) rfl (Jo ?_);exact hK zq zc zq2 zc2 zb zv
     ·
      intro gh gh' h
      rfl
     apply Jw 5 rfl
     iterate 3 focus (intros;(conv=>lhs;simp only [Jj,JA,JX,JC,JU,eq_self,reduceEqDiff,reduceIte,reduceSub,reduceAdd,JxA,JxB]);all_goals rfl)
     ·
      intro gh X K zq zc zq2 zc2 zb zv hK;refine Jg (EN u127 sz9 rfl rfl rfl (by omega) At.z) rfl (Jo ?_);exact hK zq zc zq2 zc2 zb zv
     ·
      intro gh gh' h
      rfl
     apply Jw 6 rfl
     iterate 3 focus (intros;(conv=>lhs;simp only [Jj,JA,JX,JC,JU,eq_self,reduceEqDiff,reduceIte,reduceSub,reduceAdd,JxA,JxB]);all_goals rfl)
     ·
      intro gh X K zq zc zq2 zc2 zb zv hK;refine Jg (EL rfl At.z (strsC_get (by omega)) pl9) rfl (Jo ?_);exact hK zq zc zq2 zc2 zb zv
     ·
      intro gh gh' h
      rfl
     apply Eq 7 rfl
     iterate 3 focus (intros;(conv=>lhs;simp only [Jj,JA,JX,JC,JU,eq_self,reduceEqDiff,reduceIte,reduceSub,reduceAdd,JxA,JxB]);all_goals rfl)
     ·
      intro gh X K zq zc zq2 zc2 zb zv hK;refine Jx fn108 rfl rfl fun w hH=>hH.lend .z fun Hl1 hle1 hA1 hB1 hH=>(l01Read_c (own_ints hA1) (by omega) hd0 hwk hH).mono ?_;rintro _ w ⟨qo67,co67,rfl,hH⟩;replace hH:=hB1 _ _ hH;refine ⟨_,rfl,fun a hF=>JQ hF hH ?_⟩;refine Jh .z (Jh (.s .z) (Jo ?_));exact hK qo67 co67 zq2 zc2 zb zv
     ·
      intro gh gh' h;refine ⟨?_,?_⟩ <;> rfl
     apply Jw 8 rfl
     iterate 3 focus (intros;(conv=>lhs;simp only [Jj,JA,JX,JC,JU,eq_self,reduceEqDiff,reduceIte,reduceSub,reduceAdd,JxA,JxB]);all_goals rfl)
     ·
      intro gh X K zq zc zq2 zc2 zb zv hK;refine Jg (Jc rfl) rfl (Jo ?_);exact hK zq zc zq2 zc2 zb zv
     ·
      intro gh gh' h
      first | simp only [h 6 rfl] | rfl
     apply Jw 9 rfl
     iterate 3 focus (intros;(conv=>lhs;simp only [Jj,JA,JX,JC,JU,eq_self,reduceEqDiff,reduceIte,reduceSub,reduceAdd,JxA,JxB]);all_goals rfl)
     ·
      intro gh X K zq zc zq2 zc2 zb zv hK;refine Jg (JJ rfl rfl) rfl (Jo ?_);exact hK zq zc zq2 zc2 zb zv
     ·
      intro gh gh' h
      first | simp only [h 6 rfl] | rfl
     apply Jw 10 rfl
     iterate 3 focus (intros;(conv=>lhs;simp only [Jj,JA,JX,JC,JU,eq_self,reduceEqDiff,reduceIte,reduceSub,reduceAdd,JxA,JxB]);all_goals rfl)
     ·
      intro gh X K zq zc zq2 zc2 zb zv hK;refine Jg (JJ rfl rfl) rfl (Jo ?_);exact hK zq zc zq2 zc2 zb zv
     ·
      intro gh gh' h
      first | simp only [h 6 rfl] | rfl
     apply Eq 11 rfl
     iterate 3 focus (intros;(conv=>lhs;simp only [Jj,JA,JX,JC,JU,eq_self,reduceEqDiff,reduceIte,reduceSub,reduceAdd,JxA,JxB]);all_goals rfl)
     ·
      intro gh X K zq zc zq2 zc2 zb zv hK;refine JM ze43 rfl fun g10=>(Jo ?_);exact hK zq zc zq2 zc2 g10 zv
     ·
      intro gh gh' h;refine ⟨?_,?_⟩ <;> rfl
     apply EB 12 rfl
     iterate 3 focus (intros;(conv=>lhs;simp only [Jj,JA,JX,JC,JU,eq_self,reduceEqDiff,reduceIte,reduceSub,reduceAdd,JxA,JxB]);all_goals rfl)
     ·
      intro gh X K hK;refine Jr rfl rfl (by first | exact bytesC_one _ | exact intsC_one _ | exact Term.c_one _ | simp [Value.oneCell']) (by simpa [*] using sz43) (by simp [*]) At.z (Jo ?_);exact hK
     ·
      intro gh gh' h
      first | simp only [h 6 rfl,h 10 rfl] | rfl
     apply Jw 13 rfl
     iterate 3 focus (intros;(conv=>lhs;simp only [Jj,JA,JX,JC,JU,eq_self,reduceEqDiff,reduceIte,reduceSub,reduceAdd,JxA,JxB]);all_goals rfl)
     ·
      intro gh X K zq zc zq2 zc2 zb zv hK;refine Jg (Jd rfl) rfl (Jo ?_);exact hK zq zc zq2 zc2 zb zv
     ·
      intro gh gh' h
      first | simp only [h 6 rfl,h 10 rfl] | rfl
     apply Eu [0,1,2,3,4,5,6,7,8,9,10,11,12] [0,1,2,3,4,5,6,7,8,9,11,12,13,14,15,16,17,18,19] foll0 rfl rfl rfl (by rfl)
     iterate 2 focus (intros;(conv=>lhs;simp only [Jj,JA,JX,JC,JU,eq_self,reduceEqDiff,reduceIte,reduceSub,reduceAdd,JxA,JxB]);all_goals rfl)
     intro gh;generalize (gh 6).c=co67;generalize (gh 6).q=qo67;generalize (gh 10).b=g10;clear gh;refine Ja (hK25 (Je fun _ hK26 _=>(Je fun _ hK27 _=>(Jb (Jg (Jc rfl) rfl (Jg (Es rfl) rfl (Jf (Ja (hK27 (Ei rfl (fun h71=>?_) (fun h71=>?_)))))))))))
     ·
      refine Je fun _ hK28 _=>(Jb (Jg (Ea bz27) rfl (Jr rfl rfl (by first | exact bytesC_one _ | exact intsC_one _ | exact Term.c_one _ | simp [Value.oneCell']) (by simpa [*] using sz27) (by simp [*]) (.s (.s (.s (.s (.s (.s (.s (.s .z)))))))) (Jg (Jd rfl) rfl (Jf (Ja (hK28 (Js (Ji (JL (Ji (Ji (JL (Ji (Eb rfl (Res.agg rfl (.s (.s (.s (.s (.s (.s (.s (.s .z)))))))) (by simpa [*] using ag27)) (Res.tmp rfl) fun w hH=>?_)))))))))))))));replace hH:=hH.sublist (.cons _ (.cons _ (.cons _ (.cons _ (.cons _ (.cons _ (.cons _ (.cons _ (.cons _ (List.Sublist.refl _))))))))));rw [raS_2 h14 hI (by omega),raQ_1 hDg hk2 (rdO_n (not_f h71))];exact ⟨none,0,none,0,nilVs,rfl,(hH.ownFsNil 43 52).own0 2 1⟩
     ·
      refine Jk (Ja (hK26 (Jb (Jg (Jt u27 rfl sz25 rfl) rfl (Jg (Jv rfl (.s (.s (.s (.s (.s .z))))) rfl pl25) rfl (Jg (Jn rfl (.s .z) (by simpa [*] using ag43)) rfl (EY (EI u25 ze43 sz43 rfl rfl) rfl fun qo76 co76=>(EO u25 ze43 sz43 by43 rfl rfl rfl rfl (by omega) .z (.s (.s (.s (.s (.s (.s (.s .z))))))) (fun _ _=>(.s (.s (.s (.s (.s (.s (.s .z)))))))) rfl fun qo77 co77=>(Jg (Jt u27 rfl sz25 rfl) rfl (EA rfl rfl rfl rfl sz25 (by simp [*]) (.s (.s (.s (.s (.s (.s .z)))))) (Jf (JD (Ja (hK24 (Jb (Jg (Jc rfl) rfl ?_))))))))))))))));refine Jg (Jy rfl rfl (by first | exact nw _ (by omega) | rfl)) rfl (Jg (Jd rfl) rfl (Jf (Ja (Jh (.s (.s (.s (.s (.s (.s (.s (.s (.s .z))))))))) (Jh (.s (.s (.s (.s (.s (.s (.s (.s (.s .z))))))))) (Jh (.s (.s (.s (.s (.s (.s (.s (.s .z)))))))) (Jh (.s (.s (.s (.s (.s (.s (.s (.s .z)))))))) (Jh (.s (.s (.s (.s (.s (.s (.s (.s .z)))))))) (Jh (.s (.s (.s (.s (.s (.s (.s (.s .z)))))))) (Jh (.s (.s (.s (.s (.s (.s (.s (.s .z)))))))) (Jh (.s (.s (.s (.s (.s (.s (.s .z))))))) (Jh (.s (.s (.s (.s (.s (.s (.s (.s (.s .z))))))))) (Jh (.s (.s (.s (.s (.s (.s (.s (.s (.s .z))))))))) (EJ.fsSnoc (fs:=F) hFl rfl ?_))))))))))))));refine JF (.s .z) (JF (.s .z) (Jh (.s (.s (.s (.s (.s (.s .z)))))) (Jh (.s (.s (.s (.s (.s (.s .z)))))) (Jh (.s (.s .z)) (Jh (.s (.s (.s (.s (.s (.s .z)))))) (Jh (.s (.s (.s (.s (.s (.s .z)))))) (Jh (.s (.s (.s (.s (.s (.s .z)))))) (Jh (.s (.s (.s (.s (.s (.s .z)))))) ?_))))))));exact hAg1 (qo77,co77,setV vs k (qo67,co67),F++[(rdS D (W.getD k [])).1],k+1) ⟨by omega,by simp;omega,by rw [pg_take hk2];exact allO_app (rdO_y (not_t h71)) hJ⟩ (by show W.length - (k+1)<W.length - k;omega) 28 rfl rfl ⟨rfl,trivial⟩ rfl (by dsimp only;rw [slicesC_set hFl];rfl)
    ·
     refine JI (Jl (Jl (JT (Ja (hK20 (Je fun _ hK29 _=>?_))))));obtain rfl:k=F.length:=hFl.symm
     have hFW:F.length=W.length:=by omega
     rw [hFW] at hJ;refine CJ.mkFs (.s (.s (.s (.s .z)))) (.s (.s (.s (.s .z)))) (Ev (Rs:=[_,_,_,_,_,_]) 5 [[], [], [1], [0,1,2], [0,1,2,3]] [[9], [9], [5,6], [], []] [[], [], [], [10], []] rfl rfl (by kernel_rfl) ?_);apply Jw 1 rfl
     iterate 3 focus (intros;(conv=>lhs;simp only [Jj,JA,JX,JC,JU,eq_self,reduceEqDiff,reduceIte,reduceSub,reduceAdd,JxA,JxB]);all_goals rfl)
     ·
      intro gh X K zq zc zq2 zc2 zb zv hK;refine Jg (Jn rfl At.z (by simpa [*] using ag27)) rfl (Jo ?_);exact hK zq zc zq2 zc2 zb zv
     ·
      intro gh gh' h
      rfl
     apply Jw 2 rfl
     iterate 3 focus (intros;(conv=>lhs;simp only [Jj,JA,JX,JC,JU,eq_self,reduceEqDiff,reduceIte,reduceSub,reduceAdd,JxA,JxB]);all_goals rfl)
     ·
      intro gh X K zq zc zq2 zc2 zb zv hK;refine Jg (Jn rfl At.z (by simpa [*] using ag27)) rfl (Jo ?_);exact hK zq zc zq2 zc2 zb zv
     ·
      intro gh gh' h
      rfl
     apply Jw 3 rfl
     iterate 3 focus (intros;(conv=>lhs;simp only [Jj,JA,JX,JC,JU,eq_self,reduceEqDiff,reduceIte,reduceSub,reduceAdd,JxA,JxB]);all_goals rfl)
     ·
      intro gh X K zq zc zq2 zc2 zb zv hK;refine Jx fn25 rfl rfl fun w hH=>hH.lend (.s .z) fun Hl1 hle1 hA1 hB1 hH=>hH.lend .z fun Hl2 hle2 hA2 hB2 hH=>(l02Is_c ((own_ints hA1).le hle2) (own_forms (allO_wfss hJ) hA2) (by omega) (by omega) (fun i _=>by have:=allO_len4 hJ i;omega) hH).mono ?_;rintro _ w ⟨rfl,hH⟩;replace hH:=hB2 _ _ hH;replace hH:=hB1 _ _ hH;refine ⟨_,rfl,fun a hF=>JQ hF hH ?_⟩;refine Jh .z (Jh (.s .z) (Jo ?_));exact hK zq zc zq2 zc2 zb zv
     ·
      intro gh gh' h
      rfl
     apply EB 4 rfl
     iterate 3 focus (intros;(conv=>lhs;simp only [Jj,JA,JX,JC,JU,eq_self,reduceEqDiff,reduceIte,reduceSub,reduceAdd,JxA,JxB]);all_goals rfl)
     ·
      intro gh X K hK;refine Jr rfl rfl (by first | exact bytesC_one _ | exact intsC_one _ | exact Term.c_one _ | simp [Value.oneCell']) (by simpa [*] using sz27) (by simp [*]) At.z (Jo ?_);exact hK
     ·
      intro gh gh' h
      rfl
     apply Jw 5 rfl
     iterate 3 focus (intros;(conv=>lhs;simp only [Jj,JA,JX,JC,JU,eq_self,reduceEqDiff,reduceIte,reduceSub,reduceAdd,JxA,JxB]);all_goals rfl)
     ·
      intro gh X K zq zc zq2 zc2 zb zv hK;refine Jg (Jd rfl) rfl (Jo ?_);exact hK zq zc zq2 zc2 zb zv
     ·
      intro gh gh' h
      rfl
     apply Eu [0,1,2,3,4] [0,1,2,3,4,5,6,7,8,9] foll0 rfl rfl rfl (by rfl)
     iterate 2 focus (intros;(conv=>lhs;simp only [Jj,JA,JX,JC,JU,eq_self,reduceEqDiff,reduceIte,reduceSub,reduceAdd,JxA,JxB]);all_goals rfl)
     intro gh;clear gh;refine Ja (hK29 (Js (Eb rfl (Res.agg rfl At.z (by simpa [*] using ag27)) (Res.tmp rfl) fun w hH=>?_)));replace hH:=hH.sublist (.cons _ (.cons_cons _ (.cons_cons _ (.cons _ (.cons _ (.cons _ (List.Sublist.refl _)))))));rw [raS_2 h14 hI (by omega),raQ_2 hDg hJ];exact ⟨_,_,_,_,_,rfl,hH.front (.s .z)⟩
theorem u77:Tryz.prog.underlying 77=some (TypeDesc.int .u64):=by kernel_rfl
theorem u79:Tryz.prog.underlying 79=some (TypeDesc.struct #[{name:="code",type:=22,offset:=0,embedded:=false,tag:="",pkgPath:="loop.example/g01219/spec",byteOffset:=0},{name:="at",type:=3,offset:=1,embedded:=false,tag:="",pkgPath:="loop.example/g01219/spec",byteOffset:=24},{name:="hash",type:=77,offset:=2,embedded:=false,tag:="",pkgPath:="loop.example/g01219/spec",byteOffset:=32}]):=by kernel_rfl
theorem sz22:Size Tryz.prog 22 1:=by unfold Size;kernel_rfl
theorem sz77:Size Tryz.prog 77 1:=by unfold Size;kernel_rfl
theorem pl22:Plain Tryz.prog 22:=⟨_,u22,rfl⟩
theorem pl77:Plain Tryz.prog 77:=⟨_,u77,rfl⟩
theorem fn41:Fn Tryz.prog 41:=⟨_,Tryz.func41,by kernel_rfl,rfl⟩
theorem fn44:Fn Tryz.prog 44:=⟨_,Tryz.func44,by kernel_rfl,rfl⟩
theorem bd79_0_2 : ∀(q0:Option Addr) (m0 c0:Nat) (n2:Int) w,(Instr.build 79 #[(0,.slice q0 m0 c0),(2,.int .u64 n2)]).run Tryz.prog w = .ok (.agg [.slice q0 m0 c0,.int .i64 0,.int .u64 n2].toArray) w:=fun q0 m0 c0 n2 _=>by kernel_rfl
abbrev srcO (qb:Option Addr) (cb:Nat) (code:List Int) (g:Nat) (s:Src):SA:=obj g (.cells [.slice qb code.length cb,.int .i64 (s.pos:Int),.int .u64 s.hash].toArray 79 (0,0))
section
variable (code : List Int)
def pkV (s:Src) (l:List Int):Int:=l.getD (nxV code s l.length).toNat 0
def pkS (s:Src) (l:List Int):Src:=nxS code s l.length
def ddL (s:Src):List Int:=[1,2,2,3,3,4,5,1+nxV code s 12]
def ddK (s:Src):Nat→List Int × Src
 | 0=>([],s)
 | k+1=>((ddK s k).1++[pkV code (nxS code (ddK s k).2 12) (ddL code (ddK s k).2)],pkS code (nxS code (ddK s k).2 12) (ddL code (ddK s k).2))
def ddV (s:Src) (most:Int):List Int:=(ddK code (nxS code s (most+1)) (nxV code s (most+1)).toNat).1
def ddS (s:Src) (most:Int):Src:=(ddK code (nxS code s (most+1)) (nxV code s (most+1)).toNat).2
def twos:List Int:=[2,2,2,2,2,2,2,2,2]
def bdyV (s:Src) (ds:List Int):List Int:=if nxV code s 40=0 then ds++[pkV code (nxS code s 40) [0,13, -1]] else if nxV code s 40=1 then twos else ds
def bdyS (s:Src) (_ds:List Int):Src:=if nxV code s 40=0 then pkS code (nxS code s 40) [0,13, -1] else nxS code s 40
def fcL (s:Src):List Int:=[1,1,2,10006,1+nxV code s 10006]
def fcV (s:Src):Int:=pkV code (nxS code s 10006) (fcL code s)
def fcS (s:Src):Src:=pkS code (nxS code s 10006) (fcL code s)
end
theorem getD_mem {l:List Int} {i:Nat} (h:i<l.length):l.getD i 0∈l:=by
 rw [List.getD_eq_getElem?_getD,List.getElem?_eq_getElem h];exact List.getElem_mem h
section
variable {code : List Int} (hb : BtOk code)
include hb
theorem nx_lt (s:Src) {n:Nat} (h:0<n):(nxV code s n).toNat<n:=by
 have:=nxV_bd hb s n
 omega
theorem pkV_mem (s:Src) {l:List Int} (h:0<l.length):pkV code s l∈l:=getD_mem (nx_lt hb s h)
theorem fcV_bd (s:Src):1≤fcV code s∧fcV code s≤10006:=by
 have h1:=pkV_mem hb (nxS code s 10006) (l:=fcL code s) (Nat.succ_pos _);have h2:=nxV_bd hb s 10006;unfold fcV;generalize pkV code (nxS code s 10006) (fcL code s)=v at h1;unfold fcL at h1;simp only [List.mem_cons,List.not_mem_nil,or_false] at h1
 omega
theorem ddK_bd (s:Src) : ∀k:Nat,(ddK code s k).1.length=k∧∀x∈(ddK code s k).1,1≤x∧x≤12
 | 0=>⟨rfl,fun x hx=>by cases hx⟩
 | k+1=>by
  have h0:=ddK_bd s k
  have h1:=pkV_mem hb (nxS code (ddK code s k).2 12) (l:=ddL code (ddK code s k).2) (Nat.succ_pos _)
  have h2:=nxV_bd hb (ddK code s k).2 12
  refine ⟨by simp [ddK,h0.1],fun x hx=>?_⟩
  simp only [ddK] at hx
  rcases List.mem_append.1 hx with hx | hx
  ·exact h0.2 x hx
  ·rw [List.mem_singleton.1 hx]
   generalize pkV code (nxS code (ddK code s k).2 12) (ddL code (ddK code s k).2)=v at h1
   unfold ddL at h1
   simp only [List.mem_cons,List.not_mem_nil,or_false] at h1
   omega
theorem ddV_bd (s:Src) {most:Int} (h:0≤most):((ddV code s most).length:Int)≤most∧∀x∈ddV code s most,1≤x∧x≤12:=by
 have h1:=ddK_bd hb (nxS code s (most+1)) (nxV code s (most+1)).toNat;have h2:=nxV_bd hb s (most+1);refine ⟨?_,h1.2⟩;unfold ddV;rw [h1.1]
 omega
end
theorem bdyV_len (code:List Int) (s:Src) (ds:List Int):(bdyV code s ds).length≤ds.length+9:=by
 unfold bdyV twos
 split
 ·simp
 ·split
  ·simp
  ·omega
section
variable {code : List Int} {s : Src} {n : Int}
theorem nx_lo (h:n<1):nxV code s n=0∧nxS code s n=s:=by unfold nxV nxS;rw [if_pos h,if_pos h];exact ⟨rfl,rfl⟩
theorem nx_in (h : ¬n<1) (h2:s.pos<code.length):nxV code s n=(hshV s.hash+code.getD s.pos 0).tmod n∧nxS code s n=⟨s.pos+1,hshN s.hash⟩:=by unfold nxV nxS nxX;rw [if_neg h,if_neg h,if_pos h2,if_pos h2];exact ⟨rfl,rfl⟩
theorem nx_out (h : ¬n<1) (h2 : ¬s.pos<code.length):nxV code s n=(hshV s.hash).tmod n∧nxS code s n=⟨s.pos,hshN s.hash⟩:=by unfold nxV nxS nxX;rw [if_neg h,if_neg h,if_neg h2,if_neg h2,Int.add_zero];exact ⟨rfl,rfl⟩
end
theorem l01Next_c {B:World} {H0 H:HP} {L:List SA} {w:World} {gs:Nat} {qb:Option Addr} {cb:Nat} {code:List Int} {s:Src} {n:Int} (hbt:Bts H qb code) (hbk:BtOk code) (hcl:code.length≤1048576) (hH:Hp B H0 H (srcO qb cb code gs s::L) w):Calls Tryz.prog 41 [.pointer (some ⟨gs,0,none⟩),.int .i64 n].toArray w fun e w'=>e = .returned (.int .i64 (nxV code s n))∧Hp B H0 H (srcO qb cb code gs (nxS code s n)::L) w':=by
 refine JB Tryz.func41 rfl 58 rfl rfl [(0,.pointer (some ⟨gs,0,none⟩)),(1,.int .i64 n)] rfl hH ?_;clear hH;have hbp:=hbk s.pos;have hv9:=hshV_bd s.hash;refine Je fun _ hK1 _=>(Jb (Jg (Jd rfl) rfl (Jf (Ja (hK1 (Je fun _ hK2 _=>(Je fun _ hK3 _=>(Jb (Jg (Jc rfl) rfl (Jg (JV rfl rfl) rfl (Jf (Ja (hK3 (Jm rfl (fun h7=>?_) (fun h7=>?_)))))))))))))))
 ·
  refine Je fun _ hK4 _=>(Jb (Jg (Jd rfl) rfl (Jf (Ja (hK4 (Js (Ji (Ju rfl (Res.tmp rfl) fun w hH=>?_))))))));replace hH:=hH.sublist (.cons_cons _ (List.Sublist.refl _));obtain ⟨e1,e2⟩:=nx_lo (code:=code) (s:=s) h7;rw [e1,e2];exact ⟨rfl,hH⟩
 ·
  refine Jk (Ja (hK2 (Je fun _ hK5 _=>(Jb (Jg (Jc rfl) rfl (Jg (Jc rfl) rfl (Jg (El rfl) rfl (Jg (Jt u79 rfl sz77 rfl) rfl (Jg (Jv rfl At.z rfl pl77) rfl (Jg (EV rfl rfl rfl) rfl (Jg (Jy rfl rfl rfl) rfl (Jg (El rfl) rfl (Jg (Jt u79 rfl sz77 rfl) rfl (EA rfl rfl rfl rfl sz77 (by simp [*]) At.z (Jf ?_)))))))))))))));refine Ja (hK5 (Je fun _ hK6 _=>(Jb (Jg (Jc rfl) rfl (Jg (El rfl) rfl (Jg (Jt u79 rfl sz77 rfl) rfl (Jg (Jv rfl At.z rfl pl77) rfl (Jg (PR.shr rfl rfl (by decide) rfl) rfl (Jg (PR.andK rfl rfl rfl) rfl (Jg (EC u77 u2 rfl (show _=hshV s.hash from rfl)) rfl (Jg (Jd rfl) rfl (Jf (Ja (hK6 (Je fun _ hK7 _=>(Je fun _ hK8 _=>?_))))))))))))))));refine Ey foll0 (by kernel_rfl) (JG (Jc rfl) rfl (JG (El rfl) rfl (JG (Jt u79 rfl sz3 rfl) rfl (JG (Jv rfl At.z rfl pl3) rfl (JG (Jc rfl) rfl (JG (El rfl) rfl (JG (Jt u79 rfl sz22 rfl) rfl (JG (Jv rfl At.z rfl pl22) rfl (JG (Jq u22 rfl rfl) rfl (JG (JV rfl rfl) rfl (Ee (Ja (hK8 (Jm rfl (fun h33=>?_) (fun h33=>?_)))))))))))))))
  ·
   refine Je fun _ hK9 _=>(Ey foll0 (by kernel_rfl) (JG (Jc rfl) rfl (JG (Jc rfl) rfl (JG (El rfl) rfl (JG (Jt u79 rfl sz22 rfl) rfl (JG (Jv rfl At.z rfl pl22) rfl (JG (Jc rfl) rfl (JG (El rfl) rfl (JG (Jt u79 rfl sz3 rfl) rfl (JG (Jv rfl At.z rfl pl3) rfl (JG (JY (i':=s.pos) u22 sz5 rfl rfl rfl (by omega) hbt.sm) rfl (JG (JR rfl (hbt _ (by omega)) pl5) rfl (JG (EC u5 u2 rfl (by first | exact nw _ (by omega) | rfl)) rfl (JG (Jy rfl rfl (nw _ (by omega))) rfl ?_))))))))))))));refine JG (Jd rfl) rfl (Ee (Ja (hK9 (Jb (Jg (Jc rfl) rfl (Jg (Jc rfl) rfl (Jg (El rfl) rfl (Jg (Jt u79 rfl sz3 rfl) rfl (Jg (Jv rfl At.z rfl pl3) rfl (Jg (Jy rfl rfl (nw _ (by omega))) rfl (Jg (El rfl) rfl (Jg (Jt u79 rfl sz3 rfl) rfl (EA rfl rfl rfl rfl sz3 (by simp [*]) At.z (Jf (Ja (hK7 ?_))))))))))))))));refine Je fun _ hK10 _=>(Jb (Jg (Jc rfl) rfl (Jg (Jc rfl) rfl (Jg (EG rfl rfl (by omega) rfl) rfl (Jg (Jd rfl) rfl (Jf (Ja (hK10 (Js (Ju rfl (Res.tmp rfl) fun w hH=>?_))))))))));replace hH:=hH.sublist (.cons_cons _ (List.Sublist.refl _));obtain ⟨e1,e2⟩:=nx_in (code:=code) (s:=s) h7 (by omega);rw [e1,e2];exact ⟨rfl,hH⟩
  ·
   refine Jk (Ja (hK7 (Je fun _ hK11 _=>(Jb (Jg (Jc rfl) rfl (Jg (Jc rfl) rfl (Jg (EG rfl rfl (by omega) rfl) rfl (Jg (Jd rfl) rfl (Jf (Ja (hK11 (Js (Ju rfl (Res.tmp rfl) fun w hH=>?_)))))))))))));replace hH:=hH.sublist (.cons_cons _ (List.Sublist.refl _));obtain ⟨e1,e2⟩:=nx_out (code:=code) (s:=s) h7 (by omega);rw [e1,e2];exact ⟨rfl,hH⟩
theorem l01Pick_c {B:World} {H0 H:HP} {L:List SA} {w:World} {gs:Nat} {qb:Option Addr} {cb:Nat} {code:List Int} {s:Src} {ql:Option Addr} {cl:Nat} {l:List Int} (hbt:Bts H qb code) (hbk:BtOk code) (hl:Ints H ql l) (h0:0<l.length) (hll:l.length≤1048576) (hcl:code.length≤1048576) (hH:Hp B H0 H (srcO qb cb code gs s::L) w):Calls Tryz.prog 44 [.pointer (some ⟨gs,0,none⟩),.slice ql l.length cl].toArray w fun e w'=>e = .returned (.int .i64 (pkV code s l))∧Hp B H0 H (srcO qb cb code gs (pkS code s l)::L) w':=by
 refine JB Tryz.func44 rfl 12 rfl rfl [(0,.pointer (some ⟨gs,0,none⟩)),(1,.slice ql l.length cl)] rfl hH ?_;clear hH;have hnb:=nxV_bd hbk s (l.length:Int)
 have hnt:nxV code s (l.length:Int)=((nxV code s (l.length:Int)).toNat:Int):=by omega
 refine Je fun _ hK1 _=>(Jb (Jg (Jd rfl) rfl (Jf (Ja (hK1 (Je fun _ hK2 _=>(Jb (Jg (Jc rfl) rfl (Jg (Jc rfl) rfl (Jg (Jc rfl) rfl (Jg (Jq u24 rfl rfl) rfl (Jx fn41 rfl rfl fun w hH=>(l01Next_c hbt hbk hcl (hH.front .z)).mono ?_))))))))))));rintro _ w ⟨rfl,hH⟩;refine ⟨_,rfl,fun a hF=>JQ hF hH ?_⟩;refine Jg (JY (i':=(nxV code s (l.length:Int)).toNat) u24 sz2 rfl rfl hnt (by omega) hl.sm) rfl (Jg (JR rfl (hl _ (by omega)) pl2) rfl (Jg (Jd rfl) rfl (Jf (Ja (hK2 (Js (Ju rfl (Res.tmp rfl) fun w hH=>?_)))))));replace hH:=hH.sublist (.cons_cons _ (List.Sublist.refl _));exact ⟨rfl,hH⟩
theorem l01Factor_c {B:World} {H0 H:HP} {L:List SA} {w:World} {gs:Nat} {qb:Option Addr} {cb:Nat} {code:List Int} {s:Src} (hbt:Bts H qb code) (hbk:BtOk code) (hcl:code.length≤1048576) (hH:Hp B H0 H (srcO qb cb code gs s::L) w):Calls Tryz.prog 75 [.pointer (some ⟨gs,0,none⟩)].toArray w fun e w'=>e = .returned (.int .i64 (fcV code s))∧Hp B H0 H (srcO qb cb code gs (fcS code s)::L) w':=by
 refine JB Tryz.func75 rfl 9 rfl rfl [(0,.pointer (some ⟨gs,0,none⟩))] rfl hH ?_;clear hH;have hnb:=nxV_bd hbk s 10006;refine Je fun _ hK1 _=>(Jb (Jg (Jd rfl) rfl (Jf (Ja (hK1 (Je fun _ hK2 _=>(Jb (Jg (Jc rfl) rfl (Jg (Jc rfl) rfl (Jx fn41 rfl rfl fun w hH=>(l01Next_c hbt hbk hcl (hH.front .z)).mono ?_))))))))));rintro _ w ⟨rfl,hH⟩;refine ⟨_,rfl,fun a hF=>JQ hF hH ?_⟩;refine Jg (Jy rfl rfl (nw _ (by omega))) rfl (J.litN (intsC (fcL code s)) u24 ze2 sz2 rfl rfl rfl (by decide) (by decide) (fun v hv=>by obtain ⟨x,_,rfl⟩:=List.mem_map.1 hv;rfl) rfl fun g7=>(Jx fn44 rfl rfl fun w hH=>hH.lend .z fun Hl1 hle1 hA1 hB1 hH=>(l01Pick_c (hbt.le hle1) hbk (own_ints hA1) (Nat.le_of_ble_eq_true rfl) (Nat.le_of_ble_eq_true rfl) hcl (hH.front .z)).mono ?_));rintro _ w ⟨rfl,hH⟩;replace hH:=hB1 _ _ hH;refine ⟨_,rfl,fun a hF=>JQ hF hH ?_⟩;refine Jg (Jd rfl) rfl (Jf (Ja (hK2 (Js (Ju rfl (Res.tmp rfl) fun w hH=>?_)))));replace hH:=hH.sublist (.cons _ (.cons_cons _ (List.Sublist.refl _)));exact ⟨rfl,hH⟩
theorem l01DrawDegrees_c {B:World} {H0 H:HP} {L:List SA} {w:World} {gs:Nat} {qb:Option Addr} {cb:Nat} {code:List Int} {s:Src} {most:Int} (hbt:Bts H qb code) (hbk:BtOk code) (hm:0≤most∧most≤1000) (hcl:code.length≤1048576) (hH:Hp B H0 H (srcO qb cb code gs s::L) w):Calls Tryz.prog 68 [.pointer (some ⟨gs,0,none⟩),.int .i64 most].toArray w fun e w'=>∃q c,e = .returned (.slice q (ddV code s most).length c)∧Hp B H0 H (own 2 1 q (ddV code s most).length c (intsC (ddV code s most))::srcO qb cb code gs (ddS code s most)::L) w':=by
 refine JB Tryz.func68 rfl 26 rfl rfl [(0,.pointer (some ⟨gs,0,none⟩)),(1,.int .i64 most)] rfl hH ?_;clear hH;have hnb:=nxV_bd hbk s (most+1);have hdb:=fun j=>(ddK_bd hbk (nxS code s (most+1)) j).1;refine Je fun _ hK1 _=>(Jb (Jg (Jd rfl) rfl (Jf (Ja (hK1 (Je fun _ hK2 _=>(Jb (EY (MK.lit0I u24 sz2) rfl fun qo7 co7=>(Jg (Jd rfl) rfl (Jf (Ja (hK2 (Je fun _ hK3 _=>(Je fun _ hK4 _=>(Jb (Jg (Jc rfl) rfl ?_))))))))))))))));refine Jg (Jc rfl) rfl (Jg (Jy rfl rfl (nw _ (by omega))) rfl (Jx fn41 rfl rfl fun w hH=>(l01Next_c hbt hbk hcl (hH.front (.s .z))).mono ?_));rintro _ w ⟨rfl,hH⟩;refine ⟨_,rfl,fun a hF=>JQ hF hH ?_⟩;refine Jg (Jd rfl) rfl (Jf (Ja (hK4 (Jp (JH (σ:=Option Addr × Nat × Nat) (fun ⟨q,c,j⟩=>[(6,.int .i64 (nxV code s (most+1) - (j:Int))),(5,.slice q (ddK code (nxS code s (most+1)) j).1.length c)]) (fun ⟨q,c,j⟩=>H) (fun ⟨q,c,j⟩=>srcO qb cb code gs (ddK code (nxS code s (most+1)) j).2::own 2 1 q (ddK code (nxS code s (most+1)) j).1.length c (intsC (ddK code (nxS code s (most+1)) j).1)::L) (fun ⟨q,c,j⟩=>(j:Int)≤nxV code s (most+1)) (fun ⟨q,c,j⟩=>(nxV code s (most+1)).toNat - j) (qo7,co7,0) (by show (0:Int)≤_;omega) ⟨(congrArg (fun z=>some (Value.int .i64 z)) (by simp)),⟨rfl,trivial⟩⟩ rfl rfl ?_)))));rintro ⟨q,c,j⟩ hj _ hAg0;refine Je fun _ hK5 _=>(Je fun _ hK6 _=>(Jb (Jg (Jc rfl) rfl (Jg (Em rfl rfl) rfl (Jf (Ja (hK6 (Jm rfl (fun h13=>?_) (fun h13=>?_)))))))))
 ·
  have hb12:=nxV_bd hbk (ddK code (nxS code s (most+1)) j).2 12;have hjl:=hdb j;refine Jk (Ja (hK5 (Je fun _ hK7 _=>(Jp (Jb (Jg (Jc rfl) rfl (Jg (Jc rfl) rfl (Jg (Jc rfl) rfl (Jx fn41 rfl rfl fun w hH=>(l01Next_c hbt hbk hcl (hH.front .z)).mono ?_)))))))));rintro _ w ⟨rfl,hH⟩;refine ⟨_,rfl,fun a hF=>JQ hF hH ?_⟩;refine Jg (Jy rfl rfl (nw _ (by omega))) rfl (J.litN (intsC (ddL code (ddK code (nxS code s (most+1)) j).2)) u24 ze2 sz2 rfl rfl rfl (by decide) (by decide) (fun v hv=>by obtain ⟨x,_,rfl⟩:=List.mem_map.1 hv;rfl) rfl fun g21=>(Jx fn44 rfl rfl fun w hH=>hH.lend .z fun Hl1 hle1 hA1 hB1 hH=>(l01Pick_c (hbt.le hle1) hbk (own_ints hA1) (Nat.le_of_ble_eq_true rfl) (Nat.le_of_ble_eq_true rfl) hcl (hH.front .z)).mono ?_));rintro _ w ⟨rfl,hH⟩;replace hH:=hB1 _ _ hH;refine ⟨_,rfl,fun a hF=>JQ hF hH ?_⟩;refine EY (MK.lit1I u24 ze2 sz2 rfl) rfl fun qo23 co23=>(J.appendOI u24 ze2 sz2 by2 rfl rfl (by simp only [List.length_cons,List.length_nil];omega) .z (.s (.s .z)) (fun _ _=>(.s (.s .z))) rfl fun qo24 co24=>(Jg (Jd rfl) rfl (Jf (JD (Ja (hK7 (Jb (Jg (Jc rfl) rfl (Jg (EZ rfl rfl (by first | exact nw _ (by omega) | rfl)) rfl (Jg (Jd rfl) rfl (Jf (Ja (JF .z (JF .z ?_))))))))))))));exact hAg0 (qo24,co24,j+1) (by show ((j+1:Nat):Int)≤_;omega) (by show (nxV code s (most+1)).toNat - (j+1)<(nxV code s (most+1)).toNat - j;omega) 17 rfl rfl ⟨(congrArg (fun z=>some (Value.int .i64 z)) (by omega)),⟨rfl,trivial⟩⟩ rfl rfl
 ·
  refine JI (Jl (Jl (JT (Ja (hK3 (Je fun _ hK8 _=>(Jb (Jg (Jc rfl) rfl (Jg (Jd rfl) rfl (Jf (Ja (hK8 (Js (Ju rfl (Res.tmp rfl) fun w hH=>?_))))))))))))));replace hH:=hH.sublist (.cons_cons _ (.cons_cons _ (List.Sublist.refl _)))
  have ej:j=(nxV code s (most+1)).toNat:=by omega
  subst ej;exact ⟨_,_,rfl,hH.front (.s .z)⟩
theorem l01Badly_c {B:World} {H0 H:HP} {L:List SA} {w:World} {gs:Nat} {qb:Option Addr} {cb:Nat} {code:List Int} {s:Src} {qds:Option Addr} {cds:Nat} {ds:List Int} (hbt:Bts H qb code) (hbk:BtOk code) (hn:ds.length≤1048576) (hcl:code.length≤1048576) (hH:Hp B H0 H (srcO qb cb code gs s::own 2 1 qds ds.length cds (intsC ds)::L) w):Calls Tryz.prog 42 [.pointer (some ⟨gs,0,none⟩),.slice qds ds.length cds].toArray w fun e w'=>∃q c,e = .returned (.slice q (bdyV code s ds).length c)∧Hp B H0 H (own 2 1 q (bdyV code s ds).length c (intsC (bdyV code s ds))::srcO qb cb code gs (bdyS code s ds)::L) w':=by
 refine JB Tryz.func42 rfl 19 rfl rfl [(0,.pointer (some ⟨gs,0,none⟩)),(1,.slice qds ds.length cds)] rfl hH ?_;clear hH;refine Je fun _ hK1 _=>(Jb (Jg (Jd rfl) rfl (Jf (Ja (hK1 (Je fun _ hK2 _=>(Je fun _ hK3 _=>(Jb (Jg (Jc rfl) rfl (Jx fn41 rfl rfl fun w hH=>(l01Next_c hbt hbk hcl (hH.front .z)).mono ?_))))))))));rintro _ w ⟨rfl,hH⟩;refine ⟨_,rfl,fun a hF=>JQ hF hH ?_⟩;refine Jf (Ja (hK3 (Jp (Je fun _ hK4 _=>(Jb (Jg (Ef rfl rfl) rfl (Jg (Jd rfl) rfl (Jf (Ja (hK4 (Jm rfl (fun h7=>?_) (fun h7=>?_))))))))))))
 ·
  refine Je fun _ hK5 _=>(Jb (Jg (Jc rfl) rfl (Jg (Jc rfl) rfl (J.litN (intsC ([0,13, -1]:List Int)) u24 ze2 sz2 rfl rfl rfl (by decide) (by decide) (fun v hv=>by obtain ⟨x,_,rfl⟩:=List.mem_map.1 hv;rfl) rfl fun g11=>(Jx fn44 rfl rfl fun w hH=>hH.lend .z fun Hl1 hle1 hA1 hB1 hH=>(l01Pick_c (hbt.le hle1) hbk (own_ints hA1) (Nat.le_of_ble_eq_true rfl) (Nat.le_of_ble_eq_true rfl) hcl (hH.front .z)).mono ?_)))));rintro _ w ⟨rfl,hH⟩;replace hH:=hB1 _ _ hH;refine ⟨_,rfl,fun a hF=>JQ hF hH ?_⟩;refine EY (MK.lit1I u24 ze2 sz2 rfl) rfl fun qo13 co13=>(J.appendOI u24 ze2 sz2 by2 rfl rfl (by simp only [List.length_cons,List.length_nil];omega) .z (.s (.s .z)) (fun _ _=>(.s (.s .z))) rfl fun qo14 co14=>(Jg (Jd rfl) rfl (Jf (Ja (hK5 (Js (JL (Ji (Ju rfl (Res.tmp rfl) fun w hH=>?_)))))))));replace hH:=hH.sublist (.cons _ (.cons _ (.cons_cons _ (.cons_cons _ (List.Sublist.refl _)))))
  have e1:bdyV code s ds=ds++[pkV code (nxS code s 40) [0,13, -1]]:=by unfold bdyV;rw [if_pos h7]
  have e2:bdyS code s ds=pkS code (nxS code s 40) [0,13, -1]:=by unfold bdyS;rw [if_pos h7]
  rw [e1,e2];exact ⟨_,_,rfl,hH.front (.s .z)⟩
 ·
  refine Je fun _ hK6 _=>(Jb (Jg (Ef rfl rfl) rfl (Jg (Jd rfl) rfl (Jf (Ja (hK6 (Jm rfl (fun h15=>?_) (fun h15=>?_))))))))
  ·
   refine Je fun _ hK7 _=>(Jb (J.litN (intsC twos) u24 ze2 sz2 rfl rfl rfl (by decide) (by decide) (fun v hv=>by obtain ⟨x,_,rfl⟩:=List.mem_map.1 hv;rfl) rfl fun g17=>(Jg (Jd rfl) rfl (Jf (Ja (hK7 (Js (JL (Ji (Ju rfl (Res.tmp rfl) fun w hH=>?_))))))))));replace hH:=hH.sublist (.cons_cons _ (.cons_cons _ (.cons _ (List.Sublist.refl _))))
   have e1:bdyV code s ds=twos:=by unfold bdyV;rw [if_neg h7,if_pos h15]
   have e2:bdyS code s ds=nxS code s 40:=by unfold bdyS;rw [if_neg h7]
   rw [e1,e2];exact ⟨_,_,rfl,hH⟩
  ·
   refine Jk (JD (Ja (hK2 (Je fun _ hK8 _=>(Jb (Jg (Jc rfl) rfl (Jg (Jd rfl) rfl (Jf (Ja (hK8 (Js (Ju rfl (Res.tmp rfl) fun w hH=>?_))))))))))));replace hH:=hH.sublist (.cons_cons _ (.cons_cons _ (List.Sublist.refl _)))
   have e1:bdyV code s ds=ds:=by unfold bdyV;rw [if_neg h7,if_neg h15]
   have e2:bdyS code s ds=nxS code s 40:=by unfold bdyS;rw [if_neg h7]
   rw [e1,e2];exact ⟨_,_,rfl,hH.front (.s .z)⟩
theorem l01From_c {B:World} {H0 H:HP} {L:List SA} {w:World} {qb:Option Addr} {cb:Nat} {code:List Int} (hbt:Bts H qb code) (hbk:BtOk code) (hcl:code.length≤1048576) (hH:Hp B H0 H L w):Calls Tryz.prog 22 [.slice qb code.length cb].toArray w fun e w'=>∃g s,e = .returned (.pointer (some ⟨g,0,none⟩))∧Hp B H0 H (srcO qb cb code g s::L) w':=by
 refine JB Tryz.func22 rfl 38 rfl rfl [(0,.slice qb code.length cb)] rfl hH ?_;clear hH;refine Je fun _ hK1 _=>(Jb (Jg (Jd rfl) rfl (Jf (Ja (hK1 (Je fun _ hK2 _=>(Jb (Jg (Jc rfl) rfl (Jg (Jc rfl) rfl (Jg (Jq u22 rfl rfl) rfl (Jg (EC u3 u77 rfl rfl) rfl (Jg (Jy rfl rfl rfl) rfl (Jg (EW rfl rfl (fun w=>bd79_0_2 _ _ _ _ w)) rfl (Eg rfl rfl rfl fun g11=>(Jg (Jd rfl) rfl ?_)))))))))))))));refine Jf (Ja (hK2 (Je fun _ hK3 _=>(Je fun _ hK4 _=>(Jb (Jg (Jd rfl) rfl (Jf (Ja (hK4 (Jp (JH (σ:=Int × Nat) (fun ⟨h,k⟩=>[(4,.int .i64 (k:Int))]) (fun ⟨h,k⟩=>H) (fun ⟨h,k⟩=>srcO qb cb code g11 ⟨0,h⟩::L) (fun ⟨h,k⟩=>k≤code.length) (fun ⟨h,k⟩=>code.length - k) ((IntKind.u64.wrap (10193+IntKind.u64.wrap (code.length:Int))),0) (by show 0≤code.length;omega) ⟨rfl,trivial⟩ rfl rfl ?_)))))))))));rintro ⟨h,k⟩ hk _ hAg0;refine Je fun _ hK5 _=>(Je fun _ hK6 _=>(Jb (Jg (Jc rfl) rfl (Jg (Jc rfl) rfl (Jg (Jq u22 rfl rfl) rfl (Jg (JV rfl rfl) rfl (Jg (Jc rfl) rfl (JZ (jd:=16) rfl (fun hg16=>?_) (fun hg16=>?_)))))))))
 ·
  try have hg16p:=of_decide_eq_true hg16
  refine JK (Jc rfl) rfl rfl rfl hg16 (JK (JV rfl rfl) rfl rfl rfl hg16 (Jg (JP rfl hg16 rfl) rfl (Jf (Ja (hK6 (Jm rfl (fun hc19=>?_) (fun hc19=>?_)))))))
  ·
   refine Jk (Ja (hK5 (Je fun _ hK7 _=>(Jp (Et [[], [], [1], [2], [3], [4], [], [], [6,7], [8], [9], [5,10], [11]] (by kernel_rfl) (Jz (fun gh=>Jc rfl) (Jz (fun gh=>Jc rfl) (Jz (fun gh=>El rfl) (Jz (fun gh=>Jt u79 rfl sz77 rfl) (Jz (fun gh=>Jv rfl At.z rfl pl77) (Jz (fun gh=>EV rfl rfl rfl) (Jz (fun gh=>Jc rfl) (Jz (fun gh=>Jc rfl) (Jz (fun gh=>JY u22 sz5 rfl rfl rfl (by omega) hbt.sm) (Jz (fun gh=>JR rfl (hbt _ (by omega)) pl5) ?_)))))))))))))));refine Jz (fun gh=>EC u5 u77 rfl rfl) (Jz (fun gh=>Jy rfl rfl rfl) (Jz (fun gh=>Jy rfl rfl rfl) (Ec 13 3 foll0 (by kernel_rfl) rfl rfl fun gh=>(Er (us':=(22,_)::(23,_)::(24,_)::(25,_)::(26,_)::(27,_)::(28,_)::(29,_)::(30,_)::(31,_)::(32,_)::(33,_)::(34,_)::_) (L':=_) rfl rfl (Jg (El rfl) rfl (Jg (Jt u79 rfl sz77 rfl) rfl (EA rfl rfl rfl rfl sz77 (by simp [*]) At.z (Jf (Ed (Ee (JD (Ja (hK7 (Jb (Jg (Jc rfl) rfl ?_)))))))))))))));refine Jg (Jy rfl rfl (by first | exact nw _ (by omega) | rfl)) rfl (Jg (Jd rfl) rfl (Jf (Ja ?_)));exact hAg0 (IntKind.u64.wrap (IntKind.u64.wrap (IntKind.u64.wrap (h * 1099511628211)+IntKind.u64.wrap (code.getD k 0))+37),k+1) (by show k+1≤code.length;omega) (by show code.length - (k+1)<code.length - k;omega) 27 rfl rfl ⟨rfl,trivial⟩ rfl rfl
  ·
   refine JI (Jl (Jl (JT (Ja (hK3 (Je fun _ hK8 _=>(Jb (Jg (Jc rfl) rfl (Jg (Jd rfl) rfl (Jf (Ja (hK8 (Js (Ju rfl (Res.tmp rfl) fun w hH=>?_))))))))))))));replace hH:=hH.sublist (.cons_cons _ (List.Sublist.refl _));exact ⟨_,_,rfl,hH⟩
 ·
  try have hg16p:=of_decide_eq_false hg16
  refine JE rfl rfl rfl hg16 (JE rfl rfl rfl hg16 (Jg (JN rfl hg16 rfl) rfl (Jf (Ja (hK6 (Ew rfl (JI (Jl (Jl (JT (Ja (hK3 (Je fun _ hK9 _=>(Jb (Jg (Jc rfl) rfl (Jg (Jd rfl) rfl ?_))))))))))))))));refine Jf (Ja (hK9 (Js (Ju rfl (Res.tmp rfl) fun w hH=>?_))));replace hH:=hH.sublist (.cons_cons _ (List.Sublist.refl _));exact ⟨_,_,rfl,hH⟩
section
variable (code : List Int) (ds : List Int)
def dmL (s:Src):List Int:=[0,0,1,2,nxV code s 5]
def dmStep (i:Nat) (x:List Int × Src):List Int × Src:=if (ds.getD i 0).tmod 2≠0 then (x.1.set i (nxV code x.2 2),nxS code x.2 2) else (x.1.set i (pkV code (nxS code x.2 5) (dmL code x.2)),pkS code (nxS code x.2 5) (dmL code x.2))
def dmK (s:Src):Nat→List Int × Src
 | 0=>(zP,s)
 | i+1=>dmStep code ds i (dmK s i)
def dmN:Nat:=min ds.length 8
def dmQ (s:Src):Bool:=decide (0<ds.length) && decide (nxV code (dmK code ds s (dmN ds)).2 24=0)
def dm1 (s:Src):Src:=nxS code (dmK code ds s (dmN ds)).2 24
def dmI (s:Src):Nat:=(nxV code (dm1 code ds s) (dmN ds:Nat)).toNat
def dm2 (s:Src):Src:=nxS code (dm1 code ds s) (dmN ds:Nat)
def bigL:List Int:=[11,20,21,2]
def dmV (s:Src):List Int:=if dmQ code ds s then (dmK code ds s (dmN ds)).1.set (dmI code ds s) (pkV code (dm2 code ds s) bigL) else (dmK code ds s (dmN ds)).1
def dmS (s:Src):Src:=if dmQ code ds s then pkS code (dm2 code ds s) bigL else if 0<ds.length then dm1 code ds s else (dmK code ds s (dmN ds)).2
def addT (out:List Term) (m:Pw) (x:Int):List Term:=ofS (acc (toS out) (scl (toS (ofS (addS [] m x))) 1))
def daStep (x:List Term × Src):List Term × Src:=if isMono ds (dmV code ds x.2) then (addT x.1 (dmV code ds x.2) (fcV code (dmS code ds x.2)),fcS code (dmS code ds x.2)) else (x.1,dmS code ds x.2)
def daK (s:Src):Nat→List Term × Src
 | 0=>([],s)
 | k+1=>daStep code ds (daK s k)
def daV (s:Src) (most:Int):List Term:=(daK code ds (nxS code s (most+1)) (nxV code s (most+1)).toNat).1
def daS (s:Src) (most:Int):Src:=(daK code ds (nxS code s (most+1)) (nxV code s (most+1)).toNat).2
variable (l : List Pw)
def dfM (s:Src):Pw:=l.getD (nxV code s l.length).toNat []
def dfStep (x:List Term × Src):List Term × Src:=(addT x.1 (dfM code l x.2) (fcV code (nxS code x.2 l.length)),fcS code (nxS code x.2 l.length))
def dfK (s:Src):Nat→List Term × Src
 | 0=>([],s)
 | k+1=>dfStep code l (dfK s k)
def dfN (s:Src) (most:Int):Nat:=if l.length=0 then 0 else (nxV code s (most+1)).toNat
end
def dfV (code ds:List Int) (n:Int) (s:Src) (most:Int):List Term:=(dfK code (monT ds n) (nxS code s (most+1)) (dfN code (monT ds n) s most)).1
def dfS (code ds:List Int) (n:Int) (s:Src) (most:Int):Src:=(dfK code (monT ds n) (nxS code s (most+1)) (dfN code (monT ds n) s most)).2
structure DrF (ds:List Int) (k:Nat) (f:List Term):Prop where
 sok:Sok 20 (toS f)
 kex:KEx ds (toS f)
 wf:Wfs f
 len:f.length≤k
theorem DrF.nil (ds:List Int):DrF ds 0 []:=⟨Sok.nil,KEx.nil,Wfs.nil,Nat.le_refl _⟩
theorem DrF.mono {ds:List Int} {k j:Nat} {f:List Term} (h:DrF ds k f) (hk:k≤j):DrF ds j f:=⟨h.sok,h.kex,h.wf,Nat.le_trans h.len hk⟩
theorem DrF.add {ds:List Int} {k:Nat} {f:List Term} {m:Pw} {x:Int} (h:DrF ds k f) (hm:Pok 20 m) (hx:Ex ds m):DrF ds (k+1) (addT f m x):=by
 have h1:Sok 20 (addS [] m x):=Sok.nil.add hm x
 have h2:KEx ds (addS [] m x):=fun z hz=>by
  have h3:=acc_kex (s:=[]) (l:=[(m,x)]) KEx.nil fun y hy=>by rw [List.mem_singleton.1 hy];exact hx
  exact h3 z (by simpa [acc] using hz)
 have e:toS (addT f m x)=acc (toS f) (scl (addS [] m x) 1):=by unfold addT;rw [toS_ofS,toS_ofS]
 have h4:Sok 20 (acc (toS f) (scl (addS [] m x) 1)):=h.sok.acc (scl_pok h1 1);refine ⟨by rw [e];exact h4,?_,?_,?_⟩
 ·rw [e];refine acc_kex h.kex fun z hz=>?_;unfold scl at hz;obtain ⟨y,hy,rfl⟩:=List.mem_map.1 hz;exact h2 y hy
 ·unfold addT;rw [toS_ofS];exact h4.wf (by decide)
 ·unfold addT;rw [ofS_len,toS_ofS];have h5:=acc_len (scl (addS [] m x) 1) (toS f);have h6:=addS_len [] m x;have h7:=h.len
  have h8:(scl (addS [] m x) 1).length=(addS [] m x).length:=by simp [scl]
  rw [toS_len,h8] at h5;simp only [List.length_nil] at h6
  omega
section
variable {code : List Int} (hb : BtOk code)
include hb
theorem dmK_mn (ds:List Int) (s:Src) : ∀k:Nat,Mono (dmK code ds s k).1∧∀j,(dmK code ds s k).1.getD j 0≤4
 | 0=>⟨Mono.zP,fun j=>by rw [show (dmK code ds s 0).1=List.replicate 8 0 from rfl,rep_get];omega⟩
 | k+1=>by
  obtain ⟨h1,h2⟩:=dmK_mn ds s k
  have key : ∀v:Int,0≤v∧v≤4→Mono ((dmK code ds s k).1.set k v)∧∀j,((dmK code ds s k).1.set k v).getD j 0≤4:=fun v hv=>⟨h1.set (by omega),fun j=>by
   rw [List.getD_eq_getElem?_getD,List.getElem?_set]
   split
   ·split
    ·simp;omega
    ·simp
   ·rw [← List.getD_eq_getElem?_getD];exact h2 j⟩
  show Mono (dmStep code ds k (dmK code ds s k)).1∧_
  simp only [dmK]
  unfold dmStep
  split
  ·have:=nxV_bd hb (dmK code ds s k).2 2
   exact key _ (by omega)
  ·have h3:=pkV_mem hb (nxS code (dmK code ds s k).2 5) (l:=dmL code (dmK code ds s k).2) (Nat.succ_pos _)
   have h4:=nxV_bd hb (dmK code ds s k).2 5
   refine key _ ?_
   generalize pkV code (nxS code (dmK code ds s k).2 5) (dmL code (dmK code ds s k).2)=v at h3
   unfold dmL at h3
   simp only [List.mem_cons,List.not_mem_nil,or_false] at h3
   omega
theorem dmV_mn (ds:List Int) (s:Src):Mono (dmV code ds s):=by
 have h1:=(dmK_mn hb ds s (dmN ds)).1;unfold dmV
 split
 ·have h3:=pkV_mem hb (dm2 code ds s) (l:=bigL) (Nat.succ_pos _);refine h1.set ?_;generalize pkV code (dm2 code ds s) bigL=v at h3;unfold bigL at h3;simp only [List.mem_cons,List.not_mem_nil,or_false] at h3
  omega
 ·exact h1
theorem daK_ok {ds:List Int} (hd : ∀j,0≤ds.getD j 0∧ds.getD j 0≤12) (hn:ds.length≤8) (s:Src) : ∀k:Nat,DrF ds k (daK code ds s k).1
 | 0=>DrF.nil ds
 | k+1=>by
  have h:=daK_ok hd hn s k
  show DrF ds (k+1) (daStep code ds (daK code ds s k)).1
  unfold daStep
  split
  ·rename_i hm
   have h1:=dmV_mn hb ds (daK code ds s k).2
   exact h.add (isMono_pok hm h1) (isMono_ex hd hn hm h1)
  ·exact h.mono (by omega)
theorem daV_ok {ds:List Int} (hd : ∀j,0≤ds.getD j 0∧ds.getD j 0≤12) (hn:ds.length≤8) (s:Src) {most:Int} (hm:0≤most):DrF ds most.toNat (daV code ds s most):=by
 have h:=daK_ok hb hd hn (nxS code s (most+1)) (nxV code s (most+1)).toNat;have h2:=nxV_bd hb s (most+1);exact h.mono (by omega)
theorem dfK_ok {ds:List Int} (h8:ds.length≤8) (hd : ∀j,j<ds.length→1≤ds.getD j 0∧ds.getD j 0≤12) (n:Int) (hl:0<(monT ds n).length) (s:Src) : ∀k:Nat,DrF ds k (dfK code (monT ds n) s k).1
 | 0=>DrF.nil ds
 | k+1=>by
  have h:=dfK_ok h8 hd n hl s k
  have h1:=nx_lt hb (dfK code (monT ds n) s k).2 hl
  have hm:dfM code (monT ds n) (dfK code (monT ds n) s k).2∈monS ds n:=by
   unfold dfM
   rw [List.getD_eq_getElem?_getD,List.getElem?_eq_getElem h1]
   exact List.mem_of_mem_take (List.getElem_mem h1)
  exact h.add (mon_pok h8 hm) (mon_ex h8 hm hd)
theorem dfV_ok {ds:List Int} (h8:ds.length≤8) (hd : ∀j,j<ds.length→1≤ds.getD j 0∧ds.getD j 0≤12) (n:Int) (s:Src) {most:Int} (hm:0≤most):DrF ds most.toNat (dfV code ds n s most):=by
 have h2:=nxV_bd hb s (most+1);unfold dfV dfN
 split
 ·exact (DrF.nil ds).mono (by omega)
 ·rename_i h0
  exact (dfK_ok hb h8 hd n (by omega) _ _).mono (by omega)
end
section
variable {code ds : List Int} {s : Src}
theorem dm_odd {i:Nat} (h:(ds.getD i 0).tmod 2≠0):dmK code ds s (i+1)=((dmK code ds s i).1.set i (nxV code (dmK code ds s i).2 2),nxS code (dmK code ds s i).2 2):=by
 show dmStep code ds i (dmK code ds s i)=_
 unfold dmStep;rw [if_pos h]
theorem dm_even {i:Nat} (h : ¬(ds.getD i 0).tmod 2≠0):dmK code ds s (i+1)=((dmK code ds s i).1.set i (pkV code (nxS code (dmK code ds s i).2 5) (dmL code (dmK code ds s i).2)),pkS code (nxS code (dmK code ds s i).2 5) (dmL code (dmK code ds s i).2)):=by
 show dmStep code ds i (dmK code ds s i)=_
 unfold dmStep;rw [if_neg h]
theorem dm_y (h1:decide ((0:Int)<(ds.length:Int))=true) (h2:nxV code (dmK code ds s (dmN ds)).2 24=0):dmV code ds s=(dmK code ds s (dmN ds)).1.set (dmI code ds s) (pkV code (dm2 code ds s) bigL)∧dmS code ds s=pkS code (dm2 code ds s) bigL:=by
 have h3:dmQ code ds s=true:=by
  unfold dmQ;rw [decide_eq_true h2,decide_eq_true (show 0<ds.length by have:=of_decide_eq_true h1;omega)]
  rfl
 unfold dmV dmS;rw [if_pos h3,if_pos h3];exact ⟨rfl,rfl⟩
theorem dm_n (h1:decide ((0:Int)<(ds.length:Int))=true) (h2 : ¬nxV code (dmK code ds s (dmN ds)).2 24=0):dmV code ds s=(dmK code ds s (dmN ds)).1∧dmS code ds s=nxS code (dmK code ds s (dmN ds)).2 24:=by
 have h3:dmQ code ds s=false:=by
  unfold dmQ;rw [decide_eq_false h2,Bool.and_false]
 unfold dmV dmS;rw [h3];exact ⟨rfl,by rw [if_neg (by decide),if_pos (show 0<ds.length by have:=of_decide_eq_true h1;omega)];rfl⟩
theorem dm_z (h1:decide ((0:Int)<(ds.length:Int))=false):dmV code ds s=(dmK code ds s (dmN ds)).1∧dmS code ds s=(dmK code ds s (dmN ds)).2:=by
 have h4 : ¬0<ds.length:=fun h=>by have:=of_decide_eq_false h1;omega
 have h3:dmQ code ds s=false:=by
  unfold dmQ;rw [decide_eq_false h4,Bool.false_and]
 unfold dmV dmS;rw [h3];exact ⟨rfl,by rw [if_neg (by decide),if_neg h4]⟩
end
theorem dm_pk {code:List Int} (hb:BtOk code) (t:Src):0≤pkV code (nxS code t 5) (dmL code t)∧pkV code (nxS code t 5) (dmL code t)≤4:=by
 have h3:=pkV_mem hb (nxS code t 5) (l:=dmL code t) (Nat.succ_pos _);have h4:=nxV_bd hb t 5;generalize pkV code (nxS code t 5) (dmL code t)=v at h3 ⊢;unfold dmL at h3;simp only [List.mem_cons,List.not_mem_nil,or_false] at h3
 omega
theorem big_pk {code:List Int} (hb:BtOk code) (t:Src):2≤pkV code t bigL∧pkV code t bigL≤21:=by
 have h3:=pkV_mem hb t (l:=bigL) (Nat.succ_pos _);generalize pkV code t bigL=v at h3 ⊢;unfold bigL at h3;simp only [List.mem_cons,List.not_mem_nil,or_false] at h3
 omega
theorem vu8_id {x:Int} (h:0≤x∧x≤255):IntKind.u8.wrap x=x:=by simp [IntKind.wrap,IntKind.signed,IntKind.bits];omega
theorem l01DrawMono_c {B:World} {H0 H:HP} {L:List SA} {w:World} {gs:Nat} {qb:Option Addr} {cb:Nat} {code:List Int} {s:Src} {qds:Option Addr} {cds:Nat} {ds:List Int} (hbt:Bts H qb code) (hbk:BtOk code) (hds:Ints H qds ds) (hn:ds.length≤1048576) (hcl:code.length≤1048576) (hH:Hp B H0 H (srcO qb cb code gs s::L) w):Calls Tryz.prog 71 [.pointer (some ⟨gs,0,none⟩),.slice qds ds.length cds].toArray w fun e w'=>e = .returned (.agg (bytesC (dmV code ds s)).toArray)∧Hp B H0 H (srcO qb cb code gs (dmS code ds s)::L) w':=by
 refine JB Tryz.func71 rfl 57 rfl rfl [(0,.pointer (some ⟨gs,0,none⟩)),(1,.slice qds ds.length cds)] rfl hH ?_;clear hH;have hz8:zP.length=8:=rfl;have hml:=fun k=>(dmK_mn hbk ds s k).1.len;refine Je fun _ hK1 _=>(Jb (JM ze50 rfl fun g4=>(Jf (Ja (hK1 (Je fun _ hK2 _=>(Jb (Jg (Ea bz50) rfl (JM ze50 rfl fun g5=>(Jr rfl rfl (by first | exact bytesC_one _ | exact intsC_one _ | exact Term.c_one _ | simp [Value.oneCell']) (by simpa [*] using sz50) (by simp [*]) At.z (Jf (Ja (hK2 (Je fun _ hK3 _=>(Je fun _ hK4 _=>(Jb ?_))))))))))))))));refine Jg (Jd rfl) rfl (Jf (Ja (hK4 (Jp (JH (σ:=Nat) (fun (i:Nat)=>[(6,.int .i64 (i:Int))]) (fun (i:Nat)=>H) (fun (i:Nat)=>obj g5 (.cells (bytesC (dmK code ds s i).1).toArray 50 (0,0))::obj g4 (.cells (bytesC zP).toArray 50 (0,0))::srcO qb cb code gs (dmK code ds s i).2::L) (fun (i:Nat)=>i≤ds.length∧i≤8) (fun (i:Nat)=>8 - i) 0 ⟨by omega,by omega⟩ ⟨rfl,trivial⟩ rfl rfl ?_)))));rintro i ⟨hi,hi8⟩ _ hAg0;refine Je fun _ hK5 _=>(Je fun _ hK6 _=>(Jb (Jg (Jc rfl) rfl (Jg (Jc rfl) rfl (Jg (Jq u24 rfl rfl) rfl (Jg (JV rfl rfl) rfl (Jg (Jc rfl) rfl (JZ (jd:=12) rfl (fun hg12=>?_) (fun hg12=>?_)))))))))
 ·
  try have hg12p:=of_decide_eq_true hg12
  refine JK (Jc rfl) rfl rfl rfl hg12 (JK (JV rfl rfl) rfl rfl rfl hg12 (Jg (JP rfl hg12 rfl) rfl (Jf (Ja (hK6 (Jm rfl (fun hc15=>?_) (fun hc15=>?_)))))))
  ·
   refine Jk (Ja (hK5 (Je fun _ hK7 _=>(Jp (Jp (Je fun _ hK8 _=>(Jb (Jg (Jc rfl) rfl (Jg (Jc rfl) rfl (Jg (JY u24 sz2 rfl rfl rfl (by omega) hds.sm) rfl (Jg (JR rfl (hds _ (by omega)) pl2) rfl (Jg (EG rfl rfl (by decide) rfl) rfl (Jg (En rfl rfl) rfl (Jg (Jd rfl) rfl (Jf ?_)))))))))))))));refine Ja (hK8 (Jm rfl (fun h26=>?_) (fun h26=>?_)))
   ·
    have hnb:=nxV_bd hbk (dmK code ds s i).2 2;refine Jb (Jg (Jc rfl) rfl (Jg (Jc rfl) rfl (Jx fn41 rfl rfl fun w hH=>(l01Next_c hbt hbk hcl (hH.front (.s (.s .z)))).mono ?_)));rintro _ w ⟨rfl,hH⟩;refine ⟨_,rfl,fun a hF=>JQ hF hH ?_⟩;refine Jg (EC u2 u5 rfl (vu8_id (by omega))) rfl (Jg (JW (i':=i) u50 sz5 rfl rfl rfl (by omega)) rfl (ES rfl rfl sz5 (by simp [*];omega) (.s .z) (Jf (JD (JD (Ja (hK7 (Jb (Jg (Jc rfl) rfl (Jg (Jy rfl rfl (by first | exact nw _ (by omega) | rfl)) rfl (Jg (Jd rfl) rfl (Jf (Ja (Jh .z (Jh (.s (.s .z)) ?_)))))))))))))));refine Jh (.s (.s .z)) ?_;exact hAg0 (i+1) ⟨by omega,by omega⟩ (by show 8 - (i+1)<8 - i;omega) 24 rfl rfl ⟨rfl,trivial⟩ rfl (by rw [dm_odd h26])
   ·
    have hnb:=nxV_bd hbk (dmK code ds s i).2 5;have hpb:=dm_pk hbk (dmK code ds s i).2;refine Jb (Jg (Jc rfl) rfl (Jg (Jc rfl) rfl (Jg (Jc rfl) rfl (Jx fn41 rfl rfl fun w hH=>(l01Next_c hbt hbk hcl (hH.front (.s (.s .z)))).mono ?_))));rintro _ w ⟨rfl,hH⟩;refine ⟨_,rfl,fun a hF=>JQ hF hH ?_⟩;refine J.litN (intsC (dmL code (dmK code ds s i).2)) u24 ze2 sz2 rfl rfl rfl (by decide) (by decide) (fun v hv=>by obtain ⟨x,_,rfl⟩:=List.mem_map.1 hv;rfl) rfl fun g22=>(Jx fn44 rfl rfl fun w hH=>hH.lend .z fun Hl1 hle1 hA1 hB1 hH=>(l01Pick_c (hbt.le hle1) hbk (own_ints hA1) (Nat.le_of_ble_eq_true rfl) (Nat.le_of_ble_eq_true rfl) hcl (hH.front .z)).mono ?_);rintro _ w ⟨rfl,hH⟩;replace hH:=hB1 _ _ hH;refine ⟨_,rfl,fun a hF=>JQ hF hH ?_⟩;refine Jg (EC u2 u5 rfl (vu8_id (by omega))) rfl (Jg (JW (i':=i) u50 sz5 rfl rfl rfl (by omega)) rfl (ES rfl rfl sz5 (by simp [*];omega) (.s (.s .z)) (Jf (JD (JD (Ja (hK7 (Jb (Jg (Jc rfl) rfl (Jg (Jy rfl rfl (by first | exact nw _ (by omega) | rfl)) rfl (Jg (Jd rfl) rfl (Jf (Ja (JF .z (Jh .z ?_)))))))))))))));refine Jh (.s (.s .z)) (Jh (.s (.s .z)) ?_);exact hAg0 (i+1) ⟨by omega,by omega⟩ (by show 8 - (i+1)<8 - i;omega) 27 rfl rfl ⟨rfl,trivial⟩ rfl (by rw [dm_even h26])
  ·
   refine JI (Jl (Jl (JT (Ja (hK3 (Je fun _ hK9 _=>(Je fun _ hK10 _=>?_)))))))
   obtain rfl:i=dmN ds:=by unfold dmN;omega
   rcases Bool.eq_false_or_eq_true (decide ((0:Int)<(ds.length:Int))) with hb41 | hb41
   ·
    refine Jb (Jg (Jc rfl) rfl (Jg (Jq u24 rfl rfl) rfl (Jg (Em rfl rfl) rfl (Jg (Jc rfl) rfl (JK (Jc rfl) rfl rfl rfl hb41 (Ez fn41 rfl rfl hb41 rfl rfl fun w hH=>(l01Next_c hbt hbk hcl (hH.front (.s (.s .z)))).mono ?_))))));rintro _ w ⟨rfl,hH⟩;refine ⟨_,rfl,fun a hF=>JQ hF hH ?_⟩;refine JK (Ef rfl rfl) rfl rfl rfl hb41 (Jg (JP rfl hb41 rfl) rfl (Jf (Ja (hK10 (Jm rfl (fun h45=>?_) (fun h45=>?_))))))
    ·
     have hnN:=nxV_bd hbk (dm1 code ds s) (dmN ds:Nat)
     have hN8:1≤dmN ds∧dmN ds≤8:=by first | (have:=of_decide_eq_true hb41;unfold dmN;omega) | (exfalso;simp at h45)
     have hri:nxV code (dm1 code ds s) (dmN ds:Nat)=((dmI code ds s:Nat):Int):=by unfold dmI;omega
     have hi8:dmI code ds s<8:=by unfold dmI;omega
     have hpk:=big_pk hbk (dm2 code ds s);refine Jb (Jg (Jc rfl) rfl (Jg (Jc rfl) rfl (Jg (Jq u24 rfl rfl) rfl (Jg (PR.eqv (v':=.int .i64 (dmN ds:Nat)) (by unfold dmN;congr 1;split <;> omega) (PR.min2 rfl rfl)) rfl (Jx fn41 rfl rfl fun w hH=>(l01Next_c hbt hbk hcl (hH.front .z)).mono ?_)))));rintro _ w ⟨rfl,hH⟩;refine ⟨_,rfl,fun a hF=>JQ hF hH ?_⟩;refine Jg (Jc rfl) rfl (J.litN (intsC bigL) u24 ze2 sz2 rfl rfl rfl (by decide) (by decide) (fun v hv=>by obtain ⟨x,_,rfl⟩:=List.mem_map.1 hv;rfl) rfl fun g52=>(Jx fn44 rfl rfl fun w hH=>hH.lend .z fun Hl1 hle1 hA1 hB1 hH=>(l01Pick_c (hbt.le hle1) hbk (own_ints hA1) (Nat.le_of_ble_eq_true rfl) (Nat.le_of_ble_eq_true rfl) hcl (hH.front .z)).mono ?_));rintro _ w ⟨rfl,hH⟩;replace hH:=hB1 _ _ hH;refine ⟨_,rfl,fun a hF=>JQ hF hH ?_⟩;refine Jg (EC u2 u5 rfl (vu8_id (show 0≤pkV code (dm2 code ds s) bigL∧pkV code (dm2 code ds s) bigL≤255 by omega))) rfl (Jg (JW (i':=(dmI code ds s)) u50 sz5 rfl rfl hri (by omega)) rfl (ES rfl rfl sz5 (by simp [*]) (.s (.s .z)) (Jf (Ja (hK9 (Je fun _ hK11 _=>(Jb (Jg (Jn rfl (.s (.s .z)) (by simpa [*] using ag50)) rfl (Jr rfl rfl (by first | exact bytesC_one _ | exact intsC_one _ | exact Term.c_one _ | simp [Value.oneCell']) (by simpa [*] using sz50) (by simp [*]) (.s (.s (.s .z))) (Jf (Ja (hK11 (Js (Ju rfl (Res.agg rfl (.s (.s (.s .z))) (by simpa [*] using ag50)) fun w hH=>?_))))))))))))));replace hH:=hH.sublist (.cons _ (.cons_cons _ (.cons _ (.cons _ (List.Sublist.refl _)))));obtain ⟨e1,e2⟩:=dm_y hb41 h45;rw [e1,e2];exact ⟨rfl,hH⟩
    ·
     refine Jk (Ja (hK9 (Je fun _ hK12 _=>(Jb (Jg (Jn rfl (.s .z) (by simpa [*] using ag50)) rfl (Jr rfl rfl (by first | exact bytesC_one _ | exact intsC_one _ | exact Term.c_one _ | simp [Value.oneCell']) (by simpa [*] using sz50) (by simp [*]) (.s (.s .z)) (Jf (Ja (hK12 (Js (Ju rfl (Res.agg rfl (.s (.s .z)) (by simpa [*] using ag50)) fun w hH=>?_)))))))))));replace hH:=hH.sublist (.cons_cons _ (.cons _ (.cons _ (List.Sublist.refl _))));obtain ⟨e1,e2⟩:=dm_n hb41 h45;rw [e1,e2];exact ⟨rfl,hH⟩
   ·
    refine Jb (Jg (Jc rfl) rfl (Jg (Jq u24 rfl rfl) rfl (Jg (Em rfl rfl) rfl (Jg (Jc rfl) rfl (JE rfl rfl rfl hb41 (JE rfl rfl rfl hb41 (JE rfl rfl rfl hb41 (Jg (JN rfl hb41 rfl) rfl (Jf (Ja (hK10 (Ew rfl (Jk (Ja (hK9 (Je fun _ hK13 _=>?_))))))))))))))));refine Jb (Jg (Jn rfl At.z (by simpa [*] using ag50)) rfl (Jr rfl rfl (by first | exact bytesC_one _ | exact intsC_one _ | exact Term.c_one _ | simp [Value.oneCell']) (by simpa [*] using sz50) (by simp [*]) (.s .z) (Jf (Ja (hK13 (Js (Ju rfl (Res.agg rfl (.s .z) (by simpa [*] using ag50)) fun w hH=>?_)))))));replace hH:=hH.sublist (.cons _ (.cons _ (.cons_cons _ (List.Sublist.refl _))));obtain ⟨e1,e2⟩:=dm_z hb41;rw [e1,e2];exact ⟨rfl,hH⟩
 ·
  try have hg12p:=of_decide_eq_false hg12
  refine JE rfl rfl rfl hg12 (JE rfl rfl rfl hg12 (Jg (JN rfl hg12 rfl) rfl (Jf (Ja (hK6 (Ew rfl (JI (Jl (Jl (JT (Ja (hK3 (Je fun _ hK14 _=>(Je fun _ hK15 _=>?_))))))))))))))
  obtain rfl:i=dmN ds:=by unfold dmN;omega
  rcases Bool.eq_false_or_eq_true (decide ((0:Int)<(ds.length:Int))) with hb41 | hb41
  ·
   refine Jb (Jg (Jc rfl) rfl (Jg (Jq u24 rfl rfl) rfl (Jg (Em rfl rfl) rfl (Jg (Jc rfl) rfl (JK (Jc rfl) rfl rfl rfl hb41 (Ez fn41 rfl rfl hb41 rfl rfl fun w hH=>(l01Next_c hbt hbk hcl (hH.front (.s (.s .z)))).mono ?_))))));rintro _ w ⟨rfl,hH⟩;refine ⟨_,rfl,fun a hF=>JQ hF hH ?_⟩;refine JK (Ef rfl rfl) rfl rfl rfl hb41 (Jg (JP rfl hb41 rfl) rfl (Jf (Ja (hK15 (Jm rfl (fun h45=>?_) (fun h45=>?_))))))
   ·
    have hnN:=nxV_bd hbk (dm1 code ds s) (dmN ds:Nat)
    have hN8:1≤dmN ds∧dmN ds≤8:=by first | (have:=of_decide_eq_true hb41;unfold dmN;omega) | (exfalso;simp at h45)
    have hri:nxV code (dm1 code ds s) (dmN ds:Nat)=((dmI code ds s:Nat):Int):=by unfold dmI;omega
    have hi8:dmI code ds s<8:=by unfold dmI;omega
    have hpk:=big_pk hbk (dm2 code ds s);refine Jb (Jg (Jc rfl) rfl (Jg (Jc rfl) rfl (Jg (Jq u24 rfl rfl) rfl (Jg (PR.eqv (v':=.int .i64 (dmN ds:Nat)) (by unfold dmN;congr 1;split <;> omega) (PR.min2 rfl rfl)) rfl (Jx fn41 rfl rfl fun w hH=>(l01Next_c hbt hbk hcl (hH.front .z)).mono ?_)))));rintro _ w ⟨rfl,hH⟩;refine ⟨_,rfl,fun a hF=>JQ hF hH ?_⟩;refine Jg (Jc rfl) rfl (J.litN (intsC bigL) u24 ze2 sz2 rfl rfl rfl (by decide) (by decide) (fun v hv=>by obtain ⟨x,_,rfl⟩:=List.mem_map.1 hv;rfl) rfl fun g52=>(Jx fn44 rfl rfl fun w hH=>hH.lend .z fun Hl1 hle1 hA1 hB1 hH=>(l01Pick_c (hbt.le hle1) hbk (own_ints hA1) (Nat.le_of_ble_eq_true rfl) (Nat.le_of_ble_eq_true rfl) hcl (hH.front .z)).mono ?_));rintro _ w ⟨rfl,hH⟩;replace hH:=hB1 _ _ hH;refine ⟨_,rfl,fun a hF=>JQ hF hH ?_⟩;refine Jg (EC u2 u5 rfl (vu8_id (show 0≤pkV code (dm2 code ds s) bigL∧pkV code (dm2 code ds s) bigL≤255 by omega))) rfl (Jg (JW (i':=(dmI code ds s)) u50 sz5 rfl rfl hri (by omega)) rfl (ES rfl rfl sz5 (by simp [*]) (.s (.s .z)) (Jf (Ja (hK14 (Je fun _ hK16 _=>(Jb (Jg (Jn rfl (.s (.s .z)) (by simpa [*] using ag50)) rfl (Jr rfl rfl (by first | exact bytesC_one _ | exact intsC_one _ | exact Term.c_one _ | simp [Value.oneCell']) (by simpa [*] using sz50) (by simp [*]) (.s (.s (.s .z))) (Jf (Ja (hK16 (Js (Ju rfl (Res.agg rfl (.s (.s (.s .z))) (by simpa [*] using ag50)) fun w hH=>?_))))))))))))));replace hH:=hH.sublist (.cons _ (.cons_cons _ (.cons _ (.cons _ (List.Sublist.refl _)))));obtain ⟨e1,e2⟩:=dm_y hb41 h45;rw [e1,e2];exact ⟨rfl,hH⟩
   ·
    refine Jk (Ja (hK14 (Je fun _ hK17 _=>(Jb (Jg (Jn rfl (.s .z) (by simpa [*] using ag50)) rfl (Jr rfl rfl (by first | exact bytesC_one _ | exact intsC_one _ | exact Term.c_one _ | simp [Value.oneCell']) (by simpa [*] using sz50) (by simp [*]) (.s (.s .z)) (Jf (Ja (hK17 (Js (Ju rfl (Res.agg rfl (.s (.s .z)) (by simpa [*] using ag50)) fun w hH=>?_)))))))))));replace hH:=hH.sublist (.cons_cons _ (.cons _ (.cons _ (List.Sublist.refl _))));obtain ⟨e1,e2⟩:=dm_n hb41 h45;rw [e1,e2];exact ⟨rfl,hH⟩
  ·
   refine Jb (Jg (Jc rfl) rfl (Jg (Jq u24 rfl rfl) rfl (Jg (Em rfl rfl) rfl (Jg (Jc rfl) rfl (JE rfl rfl rfl hb41 (JE rfl rfl rfl hb41 (JE rfl rfl rfl hb41 (Jg (JN rfl hb41 rfl) rfl (Jf (Ja (hK15 (Ew rfl (Jk (Ja (hK14 (Je fun _ hK18 _=>?_))))))))))))))));refine Jb (Jg (Jn rfl At.z (by simpa [*] using ag50)) rfl (Jr rfl rfl (by first | exact bytesC_one _ | exact intsC_one _ | exact Term.c_one _ | simp [Value.oneCell']) (by simpa [*] using sz50) (by simp [*]) (.s .z) (Jf (Ja (hK18 (Js (Ju rfl (Res.agg rfl (.s .z) (by simpa [*] using ag50)) fun w hH=>?_)))))));replace hH:=hH.sublist (.cons _ (.cons _ (.cons_cons _ (List.Sublist.refl _))));obtain ⟨e1,e2⟩:=dm_z hb41;rw [e1,e2];exact ⟨rfl,hH⟩
theorem fn71:Fn Tryz.prog 71:=⟨_,Tryz.func71,by kernel_rfl,rfl⟩
theorem fn75:Fn Tryz.prog 75:=⟨_,Tryz.func75,by kernel_rfl,rfl⟩
theorem fn93:Fn Tryz.prog 93:=⟨_,Tryz.func93,by kernel_rfl,rfl⟩
theorem sg_g {m:Pw} {x:Int} (hm:Pok 20 m):Gok 20 (toS (ofS (addS [] m x))):=by
 rw [toS_ofS];exact (Sok.nil.add hm x).g
theorem sg_len (m:Pw) (x:Int):(ofS (addS [] m x)).length≤1:=by
 rw [ofS_len];have:=addS_len [] m x
 simpa using this
theorem sg_wf {m:Pw} {x:Int} (hm:Pok 20 m):Wfs (ofS (addS [] m x)):=(Sok.nil.add hm x).wf (by decide)
theorem dfM_ok {code:List Int} (hb:BtOk code) {ds:List Int} (h8:ds.length≤8) (hd : ∀j,j<ds.length→1≤ds.getD j 0∧ds.getD j 0≤12) (n:Int) (hl:0<(monT ds n).length) (s:Src):Mono (dfM code (monT ds n) s)∧Pok 20 (dfM code (monT ds n) s)∧Ex ds (dfM code (monT ds n) s):=by
 have h1:=nx_lt hb s hl
 have hm:dfM code (monT ds n) s∈monS ds n:=by
  unfold dfM;rw [List.getD_eq_getElem?_getD,List.getElem?_eq_getElem h1];exact List.mem_of_mem_take (List.getElem_mem h1)
 have h2:=mon_pok h8 hm;exact ⟨⟨h2.len,fun j=>by have:=h2.bd j;omega⟩,h2,mon_ex h8 hm hd⟩
theorem monT_len8 {ds:List Int} {n:Int} (h8:ds.length≤8) : ∀p∈monT ds n,p.length=8:=fun p hp=>(mon_pok h8 (List.mem_of_mem_take hp)).len
theorem CJ.fixA {P:Program} {c0:Code} {Q:Exit→Act→World→Prop} {n:Nat} {B:World} {H0 H:HP} {us:List (Nat × Value)} {L L1:List SA} {A:SA} (hr:Rm L A L1) (h : ∀H',Le H H' →A.holds H' →CJ P c0 Q n B H0 us H' L1):CJ P c0 Q n B H0 us H L:=fun a w hF hH=>(EJ.fixA (R:=fun a w=>c0.wp P Q a w) hr fun H' h1 h2=>h H' h1 h2) a w hF hH
section
variable {code ds : List Int} {s : Src} {k : Nat}
theorem da_y (h:isMono ds (dmV code ds (daK code ds s k).2)=true):daK code ds s (k+1)=(addT (daK code ds s k).1 (dmV code ds (daK code ds s k).2) (fcV code (dmS code ds (daK code ds s k).2)),fcS code (dmS code ds (daK code ds s k).2)):=by
 show daStep code ds (daK code ds s k)=_
 unfold daStep;rw [if_pos h]
theorem df_s (l:List Pw):dfK code l s (k+1)=(addT (dfK code l s k).1 (dfM code l (dfK code l s k).2) (fcV code (nxS code (dfK code l s k).2 l.length)),fcS code (nxS code (dfK code l s k).2 l.length)):=rfl
theorem da_n (h:isMono ds (dmV code ds (daK code ds s k).2)=false):daK code ds s (k+1)=((daK code ds s k).1,dmS code ds (daK code ds s k).2):=by
 show daStep code ds (daK code ds s k)=_
 unfold daStep;rw [h]
 rfl
end
theorem l01DrawAny_c {B:World} {H0 H:HP} {L:List SA} {w:World} {gs:Nat} {qb:Option Addr} {cb:Nat} {code:List Int} {s:Src} {qds:Option Addr} {cds:Nat} {ds:List Int} {most:Int} (hbt:Bts H qb code) (hbk:BtOk code) (hds:Ints H qds ds) (hd : ∀j,0≤ds.getD j 0∧ds.getD j 0≤12) (hn:ds.length≤8) (hm:0≤most∧most≤400) (hcl:code.length≤1048576) (hH:Hp B H0 H (srcO qb cb code gs s::L) w):Calls Tryz.prog 43 [.pointer (some ⟨gs,0,none⟩),.slice qds ds.length cds,.int .i64 most].toArray w fun e w'=>∃q c,e = .returned (.agg [.slice q (daV code ds s most).length c].toArray)∧Hp B H0 H (own 52 9 q (daV code ds s most).length c (tsC (daV code ds s most))::srcO qb cb code gs (daS code ds s most)::L) w':=by
 refine JB Tryz.func43 rfl 32 rfl rfl [(0,.pointer (some ⟨gs,0,none⟩)),(1,.slice qds ds.length cds),(2,.int .i64 most)] rfl hH ?_;clear hH;have hnb:=nxV_bd hbk s (most+1);have hok:=fun k=>daK_ok hbk hd hn (nxS code s (most+1)) k;have hDk:=hok 0;refine Je fun _ hK1 _=>(Jb (JM ze43 rfl fun g6=>(Jf (Ja (hK1 (Je fun _ hK2 _=>(Jb (ED 52 9 (Jg (Ea bz43) rfl (JM ze43 rfl fun g7=>(Jr rfl rfl (by first | exact bytesC_one _ | exact intsC_one _ | exact Term.c_one _ | simp [Value.oneCell']) (by simpa [*] using sz43) (by simp [*]) At.z (Jf (Ja (hK2 (Je fun _ hK3 _=>(Je fun _ hK4 _=>?_))))))))))))))));refine Jb (Jg (Jc rfl) rfl (Jg (Jc rfl) rfl (Jg (Jy rfl rfl (nw _ (by omega))) rfl (Jx fn41 rfl rfl fun w hH=>(l01Next_c hbt hbk hcl (hH.front (.s (.s (.s .z))))).mono ?_))));rintro _ w ⟨rfl,hH⟩;refine ⟨_,rfl,fun a hF=>JQ hF hH ?_⟩;refine Jg (Jd rfl) rfl (Jf (Ja (hK4 (Jp (JH (σ:=Option Addr × Nat × Nat) (fun ⟨q,c,j⟩=>[(8,.int .i64 (nxV code s (most+1) - (j:Int)))]) (fun ⟨q,c,j⟩=>H) (fun ⟨q,c,j⟩=>srcO qb cb code gs (daK code ds (nxS code s (most+1)) j).2::obj g7 (.cells [.slice q (daK code ds (nxS code s (most+1)) j).1.length c].toArray 43 (0,0))::own 52 9 q (daK code ds (nxS code s (most+1)) j).1.length c (tsC (daK code ds (nxS code s (most+1)) j).1)::obj g6 (.cells [.slice none 0 0].toArray 43 (0,0))::L) (fun ⟨q,c,j⟩=>(j:Int)≤nxV code s (most+1)) (fun ⟨q,c,j⟩=>(nxV code s (most+1)).toNat - j) (none,0,0) (by show (0:Int)≤_;omega) ⟨(congrArg (fun z=>some (Value.int .i64 z)) (by simp)),trivial⟩ rfl rfl ?_)))));rintro ⟨q,c,j⟩ hj _ hAg0;have hDk:=hok j;refine Je fun _ hK5 _=>(Je fun _ hK6 _=>(Jb (Jg (Jc rfl) rfl (Jg (Em rfl rfl) rfl (Jf (Ja (hK6 (Jm rfl (fun h16=>?_) (fun h16=>?_)))))))))
 ·
  have hmm:=dmV_mn hbk ds (daK code ds (nxS code s (most+1)) j).2;have hm8:=hmm.len;have hlk:=hDk.len;refine Jk (Ja (hK5 (Je fun _ hK7 _=>(Jp (Je fun _ hK8 _=>(Jb (Jg (Jc rfl) rfl (Jg (Jc rfl) rfl (Jx fn71 rfl rfl fun w hH=>(l01DrawMono_c hbt hbk hds (by omega) hcl (hH.front .z)).mono ?_)))))))));rintro _ w ⟨rfl,hH⟩;refine ⟨_,rfl,fun a hF=>JQ hF hH ?_⟩;refine JM ze50 rfl fun g9=>(Jr rfl rfl (by first | exact bytesC_one _ | exact intsC_one _ | exact Term.c_one _ | simp [Value.oneCell']) (by simpa [*] using sz50) (by simp [*]) At.z (Jf (Ja (hK8 (Je fun _ hK9 _=>(Jb (Jg (Jc rfl) rfl (Jg (Jn rfl At.z (by simpa [*] using ag50)) rfl (Jx fn72 rfl rfl fun w hH=>(l01Mono_c hds hmm (by omega) (fun j _=>(hd j).1) hH).mono ?_)))))))));rintro _ w ⟨rfl,hH⟩;refine ⟨_,rfl,fun a hF=>JQ hF hH ?_⟩;refine Jf (Ja (hK9 (Ei rfl (fun h24=>?_) (fun h24=>?_))))
  ·
   have hmp:=isMono_pok h24 hmm;have hme:=isMono_ex hd hn h24 hmm;have hfb:=fcV_bd hbk (dmS code ds (daK code ds (nxS code s (most+1)) j).2);refine Ev (Rs:=[_,_,_,_,_]) 7 [[], [], [], [2], [1,2,3], [0,1,2,3,4], [0,1,2,3,4,5]] [[9], [7], [], [], [], [4,10], []] [[], [], [], [8], [], [], [9]] rfl rfl (by kernel_rfl) ?_;apply Jw 1 rfl
   iterate 3 focus (intros;(conv=>lhs;simp only [Jj,JA,JX,JC,JU,eq_self,reduceEqDiff,reduceIte,reduceSub,reduceAdd,JxA,JxB]);all_goals rfl)
   ·
    intro gh X K zq zc zq2 zc2 zb zv hK;refine Jg (Jn rfl At.z (by simpa [*] using ag43)) rfl (Jo ?_);exact hK zq zc zq2 zc2 zb zv
   ·
    intro gh gh' h
    rfl
   apply Jw 2 rfl
   iterate 3 focus (intros;(conv=>lhs;simp only [Jj,JA,JX,JC,JU,eq_self,reduceEqDiff,reduceIte,reduceSub,reduceAdd,JxA,JxB]);all_goals rfl)
   ·
    intro gh X K zq zc zq2 zc2 zb zv hK;refine Jg (Jn rfl At.z (by simpa [*] using ag50)) rfl (Jo ?_);exact hK zq zc zq2 zc2 zb zv
   ·
    intro gh gh' h
    rfl
   apply Jw 3 rfl
   iterate 3 focus (intros;(conv=>lhs;simp only [Jj,JA,JX,JC,JU,eq_self,reduceEqDiff,reduceIte,reduceSub,reduceAdd,JxA,JxB]);all_goals rfl)
   ·
    intro gh X K zq zc zq2 zc2 zb zv hK;refine Jg (Jc rfl) rfl (Jo ?_);exact hK zq zc zq2 zc2 zb zv
   ·
    intro gh gh' h
    rfl
   apply Eq 4 rfl
   iterate 3 focus (intros;(conv=>lhs;simp only [Jj,JA,JX,JC,JU,eq_self,reduceEqDiff,reduceIte,reduceSub,reduceAdd,JxA,JxB]);all_goals rfl)
   ·
    intro gh X K zq zc zq2 zc2 zb zv hK;refine Jx fn75 rfl rfl fun w hH=>(l01Factor_c hbt hbk hcl (hH.front .z)).mono ?_;rintro _ w ⟨rfl,hH⟩;refine ⟨_,rfl,fun a hF=>JQ hF hH ?_⟩;refine Jo ?_;exact hK zq zc zq2 zc2 zb zv
   ·
    intro gh gh' h;refine ⟨?_,?_⟩ <;> rfl
   apply Eq 5 rfl
   iterate 3 focus (intros;(conv=>lhs;simp only [Jj,JA,JX,JC,JU,eq_self,reduceEqDiff,reduceIte,reduceSub,reduceAdd,JxA,JxB]);all_goals rfl)
   ·
    intro gh X K zq zc zq2 zc2 zb zv hK;refine Jx fn74 rfl rfl fun w hH=>(l01Single_c hmm (by omega) hH).mono ?_;rintro _ w ⟨qo29,co29,rfl,hH⟩;refine ⟨_,rfl,fun a hF=>JQ hF hH ?_⟩;refine Jo ?_;exact hK qo29 co29 zq2 zc2 zb zv
   ·
    intro gh gh' h;refine ⟨?_,?_⟩ <;> rfl
   apply Eq 6 rfl
   iterate 3 focus (intros;(conv=>lhs;simp only [Jj,JA,JX,JC,JU,eq_self,reduceEqDiff,reduceIte,reduceSub,reduceAdd,JxA,JxB]);all_goals rfl)
   ·
    intro gh X K zq zc zq2 zc2 zb zv hK;refine Jx fn73 rfl rfl fun w hH=>hH.lend (.s .z) fun Hl1 hle1 hA1 hB1 hH=>hH.lend .z fun Hl2 hle2 hA2 hB2 hH=>(l01Add_c ((own_terms hDk.wf hA1).le hle2) (own_terms (sg_wf hmp) hA2) hDk.sok (sg_g hmp) (by omega) (by omega) (by have:=sg_len (dmV code ds (daK code ds (nxS code s (most+1)) j).2) (fcV code (dmS code ds (daK code ds (nxS code s (most+1)) j).2));omega) hH).mono ?_;rintro _ w ⟨qo30,co30,rfl,hH⟩;replace hH:=hB2 _ _ hH;replace hH:=hB1 _ _ hH;refine ⟨_,rfl,fun a hF=>JQ hF hH ?_⟩;refine Jh .z (Jh (.s .z) (Jh (.s (.s .z)) (Jo ?_)));exact hK qo30 co30 zq2 zc2 zb zv
   ·
    intro gh gh' h;refine ⟨?_,?_⟩ <;> (first | simp only [h 4 rfl] | rfl)
   apply EB 7 rfl
   iterate 3 focus (intros;(conv=>lhs;simp only [Jj,JA,JX,JC,JU,eq_self,reduceEqDiff,reduceIte,reduceSub,reduceAdd,JxA,JxB]);all_goals rfl)
   ·
    intro gh X K hK;refine Jr rfl rfl (by first | exact bytesC_one _ | exact intsC_one _ | exact Term.c_one _ | simp [Value.oneCell']) (by simpa [*] using sz43) (by simp [*]) At.z (Jo ?_);exact hK
   ·
    intro gh gh' h
    first | simp only [h 4 rfl,h 5 rfl] | rfl
   apply Eu [0,1,2,3,4,5,6] [0,1,2,3,4,5,6,7,10,11] foll0 rfl rfl rfl (by rfl)
   iterate 2 focus (intros;(conv=>lhs;simp only [Jj,JA,JX,JC,JU,eq_self,reduceEqDiff,reduceIte,reduceSub,reduceAdd,JxA,JxB]);all_goals rfl)
   intro gh;generalize (gh 4).c=co29;generalize (gh 4).q=qo29;generalize (gh 5).c=co30;generalize (gh 5).q=qo30;clear gh;refine JD (Ja (hK7 (Jb (Jg (Jc rfl) rfl (Jg (EZ rfl rfl (by first | exact nw _ (by omega) | rfl)) rfl (Jg (Jd rfl) rfl (Jf (Ja (JF (.s (.s (.s (.s (.s .z))))) (JF (.s .z) (JF (.s (.s (.s .z))) (Jh (.s (.s (.s .z))) (Jh (.s (.s .z)) (Jh (.s (.s (.s .z))) (Jh (.s (.s (.s .z))) ?_)))))))))))))));exact hAg0 (qo30,co30,j+1) (by show ((j+1:Nat):Int)≤_;omega) (by show (nxV code s (most+1)).toNat - (j+1)<(nxV code s (most+1)).toNat - j;omega) 19 rfl rfl ⟨(congrArg (fun z=>some (Value.int .i64 z)) (by omega)),trivial⟩ rfl (by dsimp only;rw [da_y h24];rfl)
  ·
   refine Jk (JD (Ja (hK7 (Jb (Jg (Jc rfl) rfl (Jg (EZ rfl rfl (by first | exact nw _ (by omega) | rfl)) rfl (Jg (Jd rfl) rfl (Jf (Ja (JF .z ?_))))))))));exact hAg0 (q,c,j+1) (by show ((j+1:Nat):Int)≤_;omega) (by show (nxV code s (most+1)).toNat - (j+1)<(nxV code s (most+1)).toNat - j;omega) 13 rfl rfl ⟨(congrArg (fun z=>some (Value.int .i64 z)) (by omega)),trivial⟩ rfl (by dsimp only;rw [da_n h24])
 ·
  refine JI (Jl (Jl (JT (Ja (hK3 (Je fun _ hK10 _=>(Jb (Jg (Jn rfl (.s .z) (by simpa [*] using ag43)) rfl (Jr rfl rfl (by first | exact bytesC_one _ | exact intsC_one _ | exact Term.c_one _ | simp [Value.oneCell']) (by simpa [*] using sz43) (by simp [*]) (.s (.s (.s .z))) (Jf (Ja (hK10 (Js (Ju rfl (Res.agg rfl (.s (.s (.s .z))) (by simpa [*] using ag43)) fun w hH=>?_))))))))))))));replace hH:=hH.sublist (.cons_cons _ (.cons _ (.cons_cons _ (.cons _ (List.Sublist.refl _)))))
  have ej:j=(nxV code s (most+1)).toNat:=by omega
  subst ej;exact ⟨_,_,rfl,hH.front (.s .z)⟩
theorem l01DrawForm_c {B:World} {H0 H:HP} {L:List SA} {w:World} {gs:Nat} {qb:Option Addr} {cb:Nat} {code:List Int} {s:Src} {qds:Option Addr} {cds:Nat} {ds:List Int} {n:Int} {most:Int} (hbt:Bts H qb code) (hbk:BtOk code) (hds:Ints H qds ds) (hd : ∀j,j<ds.length→1≤ds.getD j 0∧ds.getD j 0≤12) (h8:ds.length≤8) (hnn : -1000000≤n∧n≤1000000) (hm:0≤most∧most≤400) (hcl:code.length≤1048576) (hH:Hp B H0 H (srcO qb cb code gs s::L) w):Calls Tryz.prog 65 [.pointer (some ⟨gs,0,none⟩),.slice qds ds.length cds,.int .i64 n,.int .i64 most].toArray w fun e w'=>∃q c,e = .returned (.agg [.slice q (dfV code ds n s most).length c].toArray)∧Hp B H0 H (own 52 9 q (dfV code ds n s most).length c (tsC (dfV code ds n s most))::srcO qb cb code gs (dfS code ds n s most)::L) w':=by
 refine JB Tryz.func65 rfl 42 rfl rfl [(0,.pointer (some ⟨gs,0,none⟩)),(1,.slice qds ds.length cds),(2,.int .i64 n),(3,.int .i64 most)] rfl hH ?_;have hw0:=hH.old;have hw1:=hH.le;clear hH;have hnb:=nxV_bd hbk s (most+1);have hml:=monT_len ds n;have hDk:=DrF.nil ds;refine Je fun _ hK1 _=>(Jb (JM ze43 rfl fun g8=>(Jf (Ja (hK1 (Je fun _ hK2 _=>(Jb (Jg (Jc rfl) rfl (Jg (Jc rfl) rfl (Jx fn93 rfl rfl fun w hH=>(l01Monomials_c hds hd h8 hnn hH).mono ?_))))))))));rintro _ w ⟨qo14,co14,rfl,hH⟩;refine ⟨_,rfl,fun a hF=>JQ hF hH ?_⟩;refine ED 52 9 (Jg (Ea bz43) rfl (JM ze43 rfl fun g10=>(Jg (Jd rfl) rfl (Jr rfl rfl (by first | exact bytesC_one _ | exact intsC_one _ | exact Term.c_one _ | simp [Value.oneCell']) (by simpa [*] using sz43) (by simp [*]) At.z (Jf (Ja (hK2 (Je fun _ hK3 _=>(Je fun _ hK4 _=>(CJ.fixA (.s (.s .z)) fun Ho14 hleo14 hAo14=>?_))))))))));replace hbt:=hbt.le hleo14;replace hds:=hds.le hleo14;have hxo14:=own_monos (monT_len8 h8) hAo14;have hco14:=own_le hAo14;refine Jb (Jg (Jc rfl) rfl (Jg (Jc rfl) rfl (Jg (Jy rfl rfl (nw _ (by omega))) rfl (Jx fn41 rfl rfl fun w hH=>(l01Next_c hbt hbk hcl (hH.front (.s (.s (.s .z))))).mono ?_))));rintro _ w ⟨rfl,hH⟩;refine ⟨_,rfl,fun a hF=>JQ hF hH ?_⟩;refine Jg (Jd rfl) rfl (Jf (Ja (hK4 (Jp (JH (σ:=Option Addr × Nat × Nat) (fun ⟨q,c,j⟩=>[(11,.int .i64 (nxV code s (most+1) - (j:Int)))]) (fun ⟨q,c,j⟩=>Ho14) (fun ⟨q,c,j⟩=>srcO qb cb code gs (dfK code (monT ds n) (nxS code s (most+1)) j).2::obj g10 (.cells [.slice q (dfK code (monT ds n) (nxS code s (most+1)) j).1.length c].toArray 43 (0,0))::own 52 9 q (dfK code (monT ds n) (nxS code s (most+1)) j).1.length c (tsC (dfK code (monT ds n) (nxS code s (most+1)) j).1)::obj g8 (.cells [.slice none 0 0].toArray 43 (0,0))::L) (fun ⟨q,c,j⟩=>(j:Int)≤nxV code s (most+1)∧((monT ds n).length=0→j=0)) (fun ⟨q,c,j⟩=>(nxV code s (most+1)).toNat - j) (none,0,0) ⟨by show (0:Int)≤_;omega,fun _=>rfl⟩ ⟨(congrArg (fun z=>some (Value.int .i64 z)) (by simp)),trivial⟩ rfl rfl ?_)))));rintro ⟨q,c,j⟩ ⟨hj,hj0⟩ _ hAg0;refine Je fun _ hK5 _=>(Je fun _ hK6 _=>(Jb (Jg (Jc rfl) rfl (Jg (Em rfl rfl) rfl (Jg (Jc rfl) rfl (JZ (jd:=22) rfl (fun hg22=>?_) (fun hg22=>?_)))))))
 ·
  try have hg22p:=of_decide_eq_true hg22
  refine JK (Jc rfl) rfl rfl rfl hg22 (JK (Jq u125 rfl rfl) rfl rfl rfl hg22 (JK (Em rfl rfl) rfl rfl rfl hg22 (Jg (JP rfl hg22 rfl) rfl (Jf (Ja (hK6 (Jm rfl (fun h26=>?_) (fun h26=>?_))))))))
  ·
   have hln:0<(monT ds n).length:=by omega
   have hDk:=dfK_ok hbk h8 hd n hln (nxS code s (most+1)) j;have hlk:=hDk.len;have hix:=nx_lt hbk (dfK code (monT ds n) (nxS code s (most+1)) j).2 hln;have hnn2:=nxV_bd hbk (dfK code (monT ds n) (nxS code s (most+1)) j).2 ((monT ds n).length:Nat)
   have hri:nxV code (dfK code (monT ds n) (nxS code s (most+1)) j).2 ((monT ds n).length:Nat)=(((nxV code (dfK code (monT ds n) (nxS code s (most+1)) j).2 ((monT ds n).length:Nat)).toNat:Nat):Int):=by omega
   obtain ⟨hmm,hmp,hme⟩:=dfM_ok hbk h8 hd n hln (dfK code (monT ds n) (nxS code s (most+1)) j).2;have hm8:=hmm.len;have hfb:=fcV_bd hbk (nxS code (dfK code (monT ds n) (nxS code s (most+1)) j).2 ((monT ds n).length:Nat));refine Jk (Ja (hK5 (Je fun _ hK7 _=>(Jp (Ev (Rs:=[_,_,_,_]) 13 [[], [], [], [], [3], [2,3,4], [1,2,3,4,5], [1,2,3,4,5,6], [], [2,3,4,5,8], [1,2,3,4,5,6,7,8,9], [0,1,2,3,4,5,6,7,8,9,10], [0,1,2,3,4,5,6,7,8,9,10,11]] [[14], [], [], [], [], [], [], [], [], [], [], [10,15], []] [[], [], [], [], [], [13], [], [], [], [5], [], [], [14]] rfl rfl (by kernel_rfl) ?_)))));apply Jw 1 rfl
   iterate 3 focus (intros;(conv=>lhs;simp only [Jj,JA,JX,JC,JU,eq_self,reduceEqDiff,reduceIte,reduceSub,reduceAdd,JxA,JxB]);all_goals rfl)
   ·
    intro gh X K zq zc zq2 zc2 zb zv hK;refine Jg (Jn rfl At.z (by simpa [*] using ag43)) rfl (Jo ?_);exact hK zq zc zq2 zc2 zb zv
   ·
    intro gh gh' h
    rfl
   apply Jw 2 rfl
   iterate 3 focus (intros;(conv=>lhs;simp only [Jj,JA,JX,JC,JU,eq_self,reduceEqDiff,reduceIte,reduceSub,reduceAdd,JxA,JxB]);all_goals rfl)
   ·
    intro gh X K zq zc zq2 zc2 zb zv hK;refine Jg (Jc rfl) rfl (Jo ?_);exact hK zq zc zq2 zc2 zb zv
   ·
    intro gh gh' h
    rfl
   apply Jw 3 rfl
   iterate 3 focus (intros;(conv=>lhs;simp only [Jj,JA,JX,JC,JU,eq_self,reduceEqDiff,reduceIte,reduceSub,reduceAdd,JxA,JxB]);all_goals rfl)
   ·
    intro gh X K zq zc zq2 zc2 zb zv hK;refine Jg (Jc rfl) rfl (Jo ?_);exact hK zq zc zq2 zc2 zb zv
   ·
    intro gh gh' h
    rfl
   apply Jw 4 rfl
   iterate 3 focus (intros;(conv=>lhs;simp only [Jj,JA,JX,JC,JU,eq_self,reduceEqDiff,reduceIte,reduceSub,reduceAdd,JxA,JxB]);all_goals rfl)
   ·
    intro gh X K zq zc zq2 zc2 zb zv hK;refine Jg (Jc rfl) rfl (Jo ?_);exact hK zq zc zq2 zc2 zb zv
   ·
    intro gh gh' h
    rfl
   apply Jw 5 rfl
   iterate 3 focus (intros;(conv=>lhs;simp only [Jj,JA,JX,JC,JU,eq_self,reduceEqDiff,reduceIte,reduceSub,reduceAdd,JxA,JxB]);all_goals rfl)
   ·
    intro gh X K zq zc zq2 zc2 zb zv hK;refine Jg (Jq u125 rfl rfl) rfl (Jo ?_);exact hK zq zc zq2 zc2 zb zv
   ·
    intro gh gh' h
    rfl
   apply Eq 6 rfl
   iterate 3 focus (intros;(conv=>lhs;simp only [Jj,JA,JX,JC,JU,eq_self,reduceEqDiff,reduceIte,reduceSub,reduceAdd,JxA,JxB]);all_goals rfl)
   ·
    intro gh X K zq zc zq2 zc2 zb zv hK;refine Jx fn41 rfl rfl fun w hH=>(l01Next_c hbt hbk hcl (hH.front .z)).mono ?_;rintro _ w ⟨rfl,hH⟩;refine ⟨_,rfl,fun a hF=>JQ hF hH ?_⟩;refine Jo ?_;exact hK zq zc zq2 zc2 zb zv
   ·
    intro gh gh' h;refine ⟨?_,?_⟩ <;> rfl
   apply Jw 7 rfl
   iterate 3 focus (intros;(conv=>lhs;simp only [Jj,JA,JX,JC,JU,eq_self,reduceEqDiff,reduceIte,reduceSub,reduceAdd,JxA,JxB]);all_goals rfl)
   ·
    intro gh X K zq zc zq2 zc2 zb zv hK;refine Jg (Eo (i':=(nxV code (dfK code (monT ds n) (nxS code s (most+1)) j).2 ((monT ds n).length:Nat)).toNat) u125 sz50 rfl rfl hri (by omega) hxo14.sm) rfl (Jo ?_);exact hK zq zc zq2 zc2 zb zv
   ·
    intro gh gh' h
    rfl
   apply Jw 8 rfl
   iterate 3 focus (intros;(conv=>lhs;simp only [Jj,JA,JX,JC,JU,eq_self,reduceEqDiff,reduceIte,reduceSub,reduceAdd,JxA,JxB]);all_goals rfl)
   ·
    intro gh X K zq zc zq2 zc2 zb zv hK;refine Jg (JO rfl (hxo14.cell _ (by omega)) (hxo14.sm (i:=(nxV code (dfK code (monT ds n) (nxS code s (most+1)) j).2 ((monT ds n).length:Nat)).toNat) (by omega)) (by rw [bytesC_length,hxo14.len _ (by omega)];exact ag50)) rfl (Jo ?_);exact hK zq zc zq2 zc2 zb zv
   ·
    intro gh gh' h
    rfl
   apply Jw 9 rfl
   iterate 3 focus (intros;(conv=>lhs;simp only [Jj,JA,JX,JC,JU,eq_self,reduceEqDiff,reduceIte,reduceSub,reduceAdd,JxA,JxB]);all_goals rfl)
   ·
    intro gh X K zq zc zq2 zc2 zb zv hK;refine Jg (Jc rfl) rfl (Jo ?_);exact hK zq zc zq2 zc2 zb zv
   ·
    intro gh gh' h
    rfl
   apply Eq 10 rfl
   iterate 3 focus (intros;(conv=>lhs;simp only [Jj,JA,JX,JC,JU,eq_self,reduceEqDiff,reduceIte,reduceSub,reduceAdd,JxA,JxB]);all_goals rfl)
   ·
    intro gh X K zq zc zq2 zc2 zb zv hK;refine Jx fn75 rfl rfl fun w hH=>(l01Factor_c hbt hbk hcl (hH.front .z)).mono ?_;rintro _ w ⟨rfl,hH⟩;refine ⟨_,rfl,fun a hF=>JQ hF hH ?_⟩;refine Jo ?_;exact hK zq zc zq2 zc2 zb zv
   ·
    intro gh gh' h;refine ⟨?_,?_⟩ <;> rfl
   apply Eq 11 rfl
   iterate 3 focus (intros;(conv=>lhs;simp only [Jj,JA,JX,JC,JU,eq_self,reduceEqDiff,reduceIte,reduceSub,reduceAdd,JxA,JxB]);all_goals rfl)
   ·
    intro gh X K zq zc zq2 zc2 zb zv hK;refine Jx fn74 rfl rfl fun w hH=>(l01Single_c hmm (by omega) hH).mono ?_;rintro _ w ⟨qo39,co39,rfl,hH⟩;refine ⟨_,rfl,fun a hF=>JQ hF hH ?_⟩;refine Jo ?_;exact hK qo39 co39 zq2 zc2 zb zv
   ·
    intro gh gh' h;refine ⟨?_,?_⟩ <;> rfl
   apply Eq 12 rfl
   iterate 3 focus (intros;(conv=>lhs;simp only [Jj,JA,JX,JC,JU,eq_self,reduceEqDiff,reduceIte,reduceSub,reduceAdd,JxA,JxB]);all_goals rfl)
   ·
    intro gh X K zq zc zq2 zc2 zb zv hK;refine Jx fn73 rfl rfl fun w hH=>hH.lend (.s .z) fun Hl1 hle1 hA1 hB1 hH=>hH.lend .z fun Hl2 hle2 hA2 hB2 hH=>(l01Add_c ((own_terms hDk.wf hA1).le hle2) (own_terms (sg_wf hmp) hA2) hDk.sok (sg_g hmp) (by omega) (by omega) (by have:=sg_len (dfM code (monT ds n) (dfK code (monT ds n) (nxS code s (most+1)) j).2) (fcV code (nxS code (dfK code (monT ds n) (nxS code s (most+1)) j).2 ((monT ds n).length:Nat)));omega) hH).mono ?_;rintro _ w ⟨qo40,co40,rfl,hH⟩;replace hH:=hB2 _ _ hH;replace hH:=hB1 _ _ hH;refine ⟨_,rfl,fun a hF=>JQ hF hH ?_⟩;refine Jh .z (Jh (.s .z) (Jh (.s (.s .z)) (Jo ?_)));exact hK qo40 co40 zq2 zc2 zb zv
   ·
    intro gh gh' h;refine ⟨?_,?_⟩ <;> (first | simp only [h 10 rfl] | rfl)
   apply EB 13 rfl
   iterate 3 focus (intros;(conv=>lhs;simp only [Jj,JA,JX,JC,JU,eq_self,reduceEqDiff,reduceIte,reduceSub,reduceAdd,JxA,JxB]);all_goals rfl)
   ·
    intro gh X K hK;refine Jr rfl rfl (by first | exact bytesC_one _ | exact intsC_one _ | exact Term.c_one _ | simp [Value.oneCell']) (by simpa [*] using sz43) (by simp [*]) At.z (Jo ?_);exact hK
   ·
    intro gh gh' h
    first | simp only [h 10 rfl,h 11 rfl] | rfl
   apply Eu [0,1,2,3,4,5,6,7,8,9,10,11,12] [0,1,2,3,4,6,7,8,9,10,11,12,15,16] foll0 rfl rfl rfl (by rfl)
   iterate 2 focus (intros;(conv=>lhs;simp only [Jj,JA,JX,JC,JU,eq_self,reduceEqDiff,reduceIte,reduceSub,reduceAdd,JxA,JxB]);all_goals rfl)
   intro gh;generalize (gh 10).c=co39;generalize (gh 10).q=qo39;generalize (gh 11).c=co40;generalize (gh 11).q=qo40;clear gh;refine JD (Ja (hK7 (Jb (Jg (Jc rfl) rfl (Jg (EZ rfl rfl (by first | exact nw _ (by omega) | rfl)) rfl (Jg (Jd rfl) rfl (Jf (Ja (JF (.s (.s (.s (.s .z)))) (JF (.s .z) (Jh (.s (.s (.s .z))) (Jh (.s (.s .z)) (Jh (.s (.s (.s .z))) (Jh (.s (.s (.s .z))) ?_))))))))))))));exact hAg0 (qo40,co40,j+1) ⟨by show ((j+1:Nat):Int)≤_;omega,fun h=>by omega⟩ (by show (nxV code s (most+1)).toNat - (j+1)<(nxV code s (most+1)).toNat - j;omega) 23 rfl rfl ⟨(congrArg (fun z=>some (Value.int .i64 z)) (by omega)),trivial⟩ rfl (by dsimp only;rw [df_s];rfl)
  ·
   refine JI (Jl (Jl (JT (Ja (hK3 (Je fun _ hK8 _=>(Jb (Jg (Jn rfl (.s .z) (by simpa [*] using ag43)) rfl (Jr rfl rfl (by first | exact bytesC_one _ | exact intsC_one _ | exact Term.c_one _ | simp [Value.oneCell']) (by simpa [*] using sz43) (by simp [*]) (.s (.s (.s .z))) (Jf (Ja (hK8 (Js (Ju rfl (Res.agg rfl (.s (.s (.s .z))) (by simpa [*] using ag43)) fun w hH=>?_))))))))))))));replace hH:=hH.sublist (.cons_cons _ (.cons _ (.cons_cons _ (.cons _ (List.Sublist.refl _)))))
   have ej:j=dfN code (monT ds n) s most:=by unfold dfN;split <;> omega
   subst ej;exact ⟨_,_,rfl,(hH.front (.s .z)).weaken hleo14 hw0 hw1⟩
 ·
  try have hg22p:=of_decide_eq_false hg22
  refine JE rfl rfl rfl hg22 (JE rfl rfl rfl hg22 (JE rfl rfl rfl hg22 (Jg (JN rfl hg22 rfl) rfl (Jf (Ja (hK6 (Ew rfl (JI (Jl (Jl (JT (Ja (hK3 (Je fun _ hK9 _=>(Jb (Jg (Jn rfl (.s .z) (by simpa [*] using ag43)) rfl ?_))))))))))))))));refine Jr rfl rfl (by first | exact bytesC_one _ | exact intsC_one _ | exact Term.c_one _ | simp [Value.oneCell']) (by simpa [*] using sz43) (by simp [*]) (.s (.s (.s .z))) (Jf (Ja (hK9 (Js (Ju rfl (Res.agg rfl (.s (.s (.s .z))) (by simpa [*] using ag43)) fun w hH=>?_)))));replace hH:=hH.sublist (.cons_cons _ (.cons _ (.cons_cons _ (.cons _ (List.Sublist.refl _)))))
  have ej:j=dfN code (monT ds n) s most:=by unfold dfN;split <;> omega
  subst ej;exact ⟨_,_,rfl,(hH.front (.s .z)).weaken hleo14 hw0 hw1⟩
theorem bm50_0_1_2_3_4_5_6_7_0_0_0_0_0_0_0_1 : ∀w,(Instr.build 50 #[(0,.int .u8 0),(1,.int .u8 0),(2,.int .u8 0),(3,.int .u8 0),(4,.int .u8 0),(5,.int .u8 0),(6,.int .u8 0),(7,.int .u8 1)]).run Tryz.prog w = .ok (.agg (bytesC [0,0,0,0,0,0,0,1]).toArray) w:=fun _=>by kernel_rfl
theorem bm50_0_1_0_0_0_0_0_0_0 : ∀w,(Instr.build 50 #[(0,.int .u8 1)]).run Tryz.prog w = .ok (.agg (bytesC [1,0,0,0,0,0,0,0]).toArray) w:=fun _=>by kernel_rfl
def wrT (x:Int):Term:=⟨[1,0,0,0,0,0,0,0],x⟩
def wrH:Term:=⟨[0,0,0,0,0,0,0,1],1⟩
def wrL:List Int:=[0,1,10007, -1]
def wrV (code:List Int) (s:Src) (f:List Term):List Term:=if nxV code s 40=0 then f++[wrT (pkV code (nxS code s 40) wrL)] else if nxV code s 40=1 then [wrH]++f else f
def wrS (code:List Int) (s:Src) (_f:List Term):Src:=if nxV code s 40=0 then pkS code (nxS code s 40) wrL else nxS code s 40
theorem mono_10:Mono [1,0,0,0,0,0,0,0]:=by
 refine ⟨rfl,fun j=>?_⟩
 match j with
 | 0 | 1 | 2 | 3 | 4 | 5 | 6 | 7=>decide
 | j+8=>simp
theorem mono_01:Mono [0,0,0,0,0,0,0,1]:=by
 refine ⟨rfl,fun j=>?_⟩
 match j with
 | 0 | 1 | 2 | 3 | 4 | 5 | 6 | 7=>decide
 | j+8=>simp
theorem wr_pk {code:List Int} (hb:BtOk code) (t:Src) : -1≤pkV code t wrL∧pkV code t wrL≤10007:=by
 have h3:=pkV_mem hb t (l:=wrL) (Nat.succ_pos _);generalize pkV code t wrL=v at h3 ⊢;unfold wrL at h3;simp only [List.mem_cons,List.not_mem_nil,or_false] at h3
 omega
theorem wrV_wf {code:List Int} (hb:BtOk code) {s:Src} {f:List Term} (h:Wfs f):Wfs (wrV code s f):=by
 have h1:=wr_pk hb (nxS code s 40);unfold wrV
 split
 ·exact h.app (Wfs.one (Term.wf.of mono_10 (by omega)))
 ·split
  ·exact (Wfs.one (Term.wf.of mono_01 (by decide))).app h
  ·exact h
theorem wrV_len (code:List Int) (s:Src) (f:List Term):(wrV code s f).length≤f.length+1:=by
 unfold wrV
 split
 ·simp
 ·split
  ·simp
  ·omega
theorem l01Wrong_c {B:World} {H0 H:HP} {L:List SA} {w:World} {gs:Nat} {qb:Option Addr} {cb:Nat} {code:List Int} {s:Src} {qf:Option Addr} {cf:Nat} {f:List Term} (hbt:Bts H qb code) (hbk:BtOk code) (hf:Wfs f) (hn:f.length≤1000) (hcl:code.length≤1048576) (hH:Hp B H0 H (srcO qb cb code gs s::own 52 9 qf f.length cf (tsC f)::L) w):Calls Tryz.prog 66 [.pointer (some ⟨gs,0,none⟩),.agg [.slice qf f.length cf].toArray].toArray w fun e w'=>∃q c,e = .returned (.agg [.slice q (wrV code s f).length c].toArray)∧Hp B H0 H (own 52 9 q (wrV code s f).length c (tsC (wrV code s f))::srcO qb cb code gs (wrS code s f)::L) w':=by
 refine JB Tryz.func66 rfl 31 rfl rfl [(0,.pointer (some ⟨gs,0,none⟩)),(1,.agg [.slice qf f.length cf].toArray)] rfl hH ?_;clear hH;refine Je fun _ hK1 _=>(Jb (Eg rfl rfl rfl fun g3=>(JM ze43 rfl fun g4=>(Jf (Ja (hK1 (Je fun _ hK2 _=>(Je fun _ hK3 _=>(Jb (Jg (Jc rfl) rfl (Jx fn41 rfl rfl fun w hH=>(l01Next_c hbt hbk hcl (hH.front (.s (.s .z)))).mono ?_)))))))))));rintro _ w ⟨rfl,hH⟩;refine ⟨_,rfl,fun a hF=>JQ hF hH ?_⟩;refine Jf (Ja (hK3 (Jp (Je fun _ hK4 _=>(Jb (Jg (Ef rfl rfl) rfl (Jg (Jd rfl) rfl (Jf (Ja (hK4 (Jm rfl (fun h7=>?_) (fun h7=>?_))))))))))))
 ·
  refine Jb (EY (MK.lit0T u41 sz52) rfl fun qo9 co9=>(Jg (Jt u43 rfl sz41 rfl) rfl (Jg (Jv rfl (.s (.s (.s .z))) rfl pl41) rfl (EM u41 ze52 sz52 by52 rfl rfl (by simp only [List.length_nil];omega) (.s (.s (.s (.s .z)))) At.z (fun _ _=>At.z) rfl fun qo12 co12=>(Jg (PR.buildC rfl bm50_0_1_0_0_0_0_0_0_0) rfl (Jg (Jc rfl) rfl (J.litN (intsC wrL) u24 ze2 sz2 rfl rfl rfl (by decide) (by decide) (fun v hv=>by obtain ⟨x,_,rfl⟩:=List.mem_map.1 hv;rfl) rfl fun g15=>(Jx fn44 rfl rfl fun w hH=>hH.lend .z fun Hl1 hle1 hA1 hB1 hH=>(l01Pick_c (hbt.le hle1) hbk (own_ints hA1) (Nat.le_of_ble_eq_true rfl) (Nat.le_of_ble_eq_true rfl) hcl (hH.front (.s (.s .z)))).mono ?_))))))));rintro _ w ⟨rfl,hH⟩;replace hH:=hB1 _ _ hH;refine ⟨_,rfl,fun a hF=>JQ hF hH ?_⟩;refine Jg (EW rfl rfl (fun w=>bt52 _ _ mono_10.len w)) rfl (EY (Ka u41 ze52 sz52 (Term.wf.of mono_10 (by have:=wr_pk hbk (nxS code s 40);omega)) rfl) rfl fun qo18 co18=>(EM u41 ze52 sz52 by52 rfl rfl (by simp only [List.length_append,List.length_nil,List.length_cons];omega) .z (.s (.s (.s .z))) (fun _ _=>(.s (.s (.s .z)))) rfl fun qo19 co19=>(Jg (Jt u43 rfl sz41 rfl) rfl (EA rfl rfl rfl rfl sz41 (by simp [*]) (.s (.s (.s (.s (.s (.s .z)))))) (Jf (JD (Ja (hK2 (Je fun _ hK5 _=>(Jb (Jg (Jn rfl (.s (.s (.s (.s (.s (.s .z)))))) (by simpa [*] using ag43)) rfl (Jr rfl rfl (by first | exact bytesC_one _ | exact intsC_one _ | exact Term.c_one _ | simp [Value.oneCell']) (by simpa [*] using sz43) (by simp [*]) (.s (.s (.s (.s (.s .z))))) (Jf (Ja (hK5 (Js ?_))))))))))))))));refine Ju rfl (Res.agg rfl (.s (.s (.s (.s (.s .z))))) (by simpa [*] using ag43)) fun w hH=>?_;replace hH:=hH.sublist (.cons _ (.cons _ (.cons_cons _ (.cons _ (.cons_cons _ (.cons _ (.cons _ (List.Sublist.refl _))))))))
  have e1:wrV code s f=f++[wrT (pkV code (nxS code s 40) wrL)]:=by unfold wrV;rw [if_pos h7]
  have e2:wrS code s f=pkS code (nxS code s 40) wrL:=by unfold wrS;rw [if_pos h7]
  rw [e1,e2];exact ⟨_,_,rfl,hH.front (.s .z)⟩
 ·
  refine Je fun _ hK6 _=>(Jb (Jg (Ef rfl rfl) rfl (Jg (Jd rfl) rfl (Jf (Ja (hK6 (Jm rfl (fun h21=>?_) (fun h21=>?_))))))))
  ·
   refine Jb (Jg (PR.buildC rfl bm50_0_1_2_3_4_5_6_7_0_0_0_0_0_0_0_1) rfl (Jg (EW rfl rfl (fun w=>bt52 _ _ mono_01.len w)) rfl (EY (Ka u41 ze52 sz52 (Term.wf.of mono_01 (by decide)) rfl) rfl fun qo25 co25=>(Jg (Jt u43 rfl sz41 rfl) rfl (Jg (Jv rfl (.s (.s (.s .z))) rfl pl41) rfl (EM u41 ze52 sz52 by52 rfl rfl (by simp only [List.length_cons,List.length_nil];omega) (.s (.s (.s (.s .z)))) At.z (fun _ _=>At.z) rfl fun qo28 co28=>(Jg (Jt u43 rfl sz41 rfl) rfl (EA rfl rfl rfl rfl sz41 (by simp [*]) (.s (.s (.s (.s .z)))) (Jf (JD (Ja (hK2 (Je fun _ hK7 _=>(Jb (Jg (Jn rfl (.s (.s (.s (.s .z)))) (by simpa [*] using ag43)) rfl ?_)))))))))))))));refine Jr rfl rfl (by first | exact bytesC_one _ | exact intsC_one _ | exact Term.c_one _ | simp [Value.oneCell']) (by simpa [*] using sz43) (by simp [*]) (.s (.s (.s .z))) (Jf (Ja (hK7 (Js (Ju rfl (Res.agg rfl (.s (.s (.s .z))) (by simpa [*] using ag43)) fun w hH=>?_)))));replace hH:=hH.sublist (.cons _ (.cons_cons _ (.cons_cons _ (.cons _ (.cons _ (List.Sublist.refl _))))))
   have e1:wrV code s f=[wrH]++f:=by unfold wrV;rw [if_neg h7,if_pos h21]
   have e2:wrS code s f=nxS code s 40:=by unfold wrS;rw [if_neg h7]
   rw [e1,e2];exact ⟨_,_,rfl,hH⟩
  ·
   refine Jk (JD (Ja (hK2 (Je fun _ hK8 _=>(Jb (Jg (Jn rfl (.s (.s .z)) (by simpa [*] using ag43)) rfl (Jr rfl rfl (by first | exact bytesC_one _ | exact intsC_one _ | exact Term.c_one _ | simp [Value.oneCell']) (by simpa [*] using sz43) (by simp [*]) (.s .z) (Jf (Ja (hK8 (Js (Ju rfl (Res.agg rfl (.s .z) (by simpa [*] using ag43)) fun w hH=>?_))))))))))));replace hH:=hH.sublist (.cons_cons _ (.cons _ (.cons _ (.cons_cons _ (List.Sublist.refl _)))))
   have e1:wrV code s f=f:=by unfold wrV;rw [if_neg h7,if_neg h21]
   have e2:wrS code s f=nxS code s 40:=by unfold wrS;rw [if_neg h7]
   rw [e1,e2];exact ⟨_,_,rfl,hH.front (.s .z)⟩
theorem fn94:Fn Tryz.prog 94:=⟨_,Tryz.func94,by kernel_rfl,rfl⟩
def knT:List (List UInt8):=[[50,58,48,59,51,58,49,42,97,50], [51,58,48], [50,58,48,59,53,58,49,42,97,51], [52,58,48,59,55,58,49,42,97,50], [50,58,48,59,50,58,48,59,51,58,49,42,97,50,59,51,58,49,42,98,50], [51,58,48,59,51,58,48,59,53,58,49,42,97,98], [49,58,48,59,49,58,48,59,49,58,49,42,97,98], [50,58,48,59,51,58,48,59,52,58,49,42,97,98], [49,58,48,59,49,58,48,59,49,58,48], [50,58,48,59,51,58,49,42,97,50,59,52,58,48,59,55,58,49,42,99,50], [50,58,48,59,49,58,49,42,97], [50,58,48,59,50,58,48,59,51,58,49,42,97,98,59,51,58,49,42,97,50,43,49,48,48,48,54,42,98,50], [49,58,48,59,49,58,48,59,49,58,49,42,97,98,59,49,58,49,42,97,99], [51,58,48,59,52,58,48,59,54,58,49,42,97,98,59,55,58,49,42,98,50]]
theorem knT_len (i:Nat):(knT.getD i []).length≤1048576:=by
 rcases Nat.lt_or_ge i knT.length with h | h
 ·rw [List.getD_eq_getElem?_getD,List.getElem?_eq_getElem h]
  have h1 : ∀x∈knT,x.length≤1048576:=by decide
  exact h1 _ (List.getElem_mem h)
 ·rw [List.getD_eq_getElem?_getD,List.getElem?_eq_none h]
  simp
structure DrA (ds:List Int) (fs:List (List Term)):Prop where
 hn:ds.length≤8
 hl:fs.length=ds.length
 hd : ∀j,j<ds.length→1≤ds.getD j 0∧ds.getD j 0≤12
 sok:Fok 20 fs
 kex : ∀i,i<fs.length→KEx ds (toS (fm fs i))
 len : ∀i,i<fs.length→(fm fs i).length≤400
 wf:Wfss fs
theorem DrA.hd0 {ds:List Int} {fs:List (List Term)} (h:DrA ds fs) : ∀j,0≤ds.getD j 0∧ds.getD j 0≤12:=fun j=>by
 rcases Nat.lt_or_ge j ds.length with hj | hj
 ·have:=h.hd j hj;omega
 ·rw [getD_ge hj];omega
theorem DrA.nil:DrA [] []:=⟨by simp,rfl,fun j hj=>by simp at hj,fun i hi=>by simp at hi,fun i hi=>by simp at hi,fun i hi=>by simp at hi,fun f hf=>by simp at hf⟩
theorem isDeg_1 {ds:List Int} (h:isDeg ds=true) : ∀j,j<ds.length→1≤ds.getD j 0∧ds.getD j 0≤12:=fun j hj=>by
 unfold isDeg at h
 have h1:=List.all_eq_true.1 (Bool.and_eq_true_iff.1 h).2 (ds.getD j 0) (by rw [List.getD_eq_getElem?_getD,List.getElem?_eq_getElem hj];exact List.getElem_mem hj)
 simpa using h1
theorem raQ_dr (ds:List Int) (ws:List (List UInt8)) (hl:ds.length=ws.length):DrA (raQ ds ws).1 (raQ ds ws).2.1:=by
 unfold raQ
 split
 ·rename_i hD
  split
  ·exact DrA.nil
  ·rename_i fs h
   have h1:=allO_len h;have h2:=isDeg_len hD;have h3:=isDeg_bd hD
   have key : ∀i,i<fs.length→isForm ds (fm fs i)=true∧Wfs (fm fs i):=fun i hi=>by
    obtain ⟨x,h4,h5⟩:=allO_list (g:=id) h i (by omega);rw [List.map_id] at h5;rw [fm_some (f:=x) h5];exact ⟨(rdO_ok h4).1,(rdO_ok h4).2.1⟩
   show DrA ds fs
   exact ⟨h2,by omega,isDeg_1 hD,fun i hi=>⟨isForm_sok (key i hi).2 (key i hi).1,by have:=isForm_len4 (key i hi).1;omega⟩,fun i hi=>isForm_kex h3 h2 (key i hi).2 (key i hi).1,fun i hi=>isForm_len4 (key i hi).1,allO_wfss h⟩
 ·exact DrA.nil
theorem raS_dr (t:List UInt8):DrA (raS t).1 (raS t).2.1:=by
 unfold raS
 split
 ·exact DrA.nil
 ·split
  ·exact DrA.nil
  ·rename_i hs _
   exact raQ_dr _ _ (by rw [List.length_map,List.length_map])
theorem l02Known_c {B:World} {H0 H:HP} {L:List SA} {w:World} {gs:Nat} {qb:Option Addr} {cb:Nat} {code:List Int} {s:Src} (hbt:Bts H qb code) (hbk:BtOk code) (hcl:code.length≤1048576) (hH:Hp B H0 H (srcO qb cb code gs s::L) w):Calls Tryz.prog 67 [.pointer (some ⟨gs,0,none⟩)].toArray w fun e w'=>∃ad af s1 qd cd qf cf vs,DrA ad af∧e = .returned (.agg [.slice qd ad.length cd,.slice qf af.length cf].toArray)∧Hp B H0 H (own 2 1 qd ad.length cd (intsC ad)::ownFs 43 52 qf cf vs af::srcO qb cb code gs s1::L) w':=by
 refine JB Tryz.func67 rfl 19 rfl rfl [(0,.pointer (some ⟨gs,0,none⟩))] rfl hH ?_;clear hH;have hnb:=nxV_bd hbk s (14:Nat)
 have hnt:nxV code s (14:Nat)=((nxV code s (14:Nat)).toNat:Int):=by omega
 have hkl:=knT_len (nxV code s (14:Nat)).toNat
 have hk14:(nxV code s (14:Nat)).toNat<knT.length:=by show _<14;omega
 refine Je fun _ hK1 _=>(Jb (JM ze27 rfl fun g2=>(Jf (Ja (hK1 (Je fun _ hK2 _=>(Jb (J.litN (knT.map sV) u127 ze9 sz9 rfl rfl rfl (by decide) (by decide) (fun v hv=>by obtain ⟨x,_,rfl⟩:=List.mem_map.1 hv;rfl) rfl fun g6=>(Jg (Jd rfl) rfl (Jf (Ja (hK2 (Je fun _ hK3 _=>(Jb (Jg (Jc rfl) rfl (Jg (Jc rfl) rfl ?_))))))))))))))));refine Jg (Jc rfl) rfl (Jg (Jq u127 rfl rfl) rfl (Jx fn41 rfl rfl fun w hH=>(l01Next_c hbt hbk hcl (hH.front (.s (.s .z)))).mono ?_));rintro _ w ⟨rfl,hH⟩;refine ⟨_,rfl,fun a hF=>JQ hF hH ?_⟩;refine Jg (EN (i':=(nxV code s (14:Nat)).toNat) u127 sz9 rfl rfl hnt (by omega) (.s .z)) rfl (Jg (EL rfl (.s .z) (strsC_get hk14) pl9) rfl (Jx fn94 rfl rfl fun w hH=>(l02Read_c hkl hH).mono ?_));rintro _ w ⟨qdo15,cdo15,qfo15,cfo15,vso15,rfl,hH⟩;refine ⟨_,rfl,fun a hF=>JQ hF hH ?_⟩;refine Jg (Jc rfl) rfl (Jg (JJ rfl rfl) rfl (Jg (JJ rfl rfl) rfl (JM ze27 rfl fun g4=>(Jr rfl rfl (by first | exact bytesC_one _ | exact intsC_one _ | exact Term.c_one _ | simp [Value.oneCell']) (by simpa [*] using sz27) (by simp [*]) At.z (Jg (Jd rfl) rfl (Jf (Ja (hK3 (Je fun _ hK4 _=>(Jb (Jg (Jn rfl At.z (by simpa [*] using ag27)) rfl (Jr rfl rfl (by first | exact bytesC_one _ | exact intsC_one _ | exact Term.c_one _ | simp [Value.oneCell']) (by simpa [*] using sz27) (by simp [*]) (.s (.s (.s (.s (.s .z))))) (Jf (Ja (hK4 (Js ?_))))))))))))))));refine Ju rfl (Res.agg rfl (.s (.s (.s (.s (.s .z))))) (by simpa [*] using ag27)) fun w hH=>?_;replace hH:=hH.sublist (.cons _ (.cons_cons _ (.cons_cons _ (.cons_cons _ (.cons _ (.cons _ (List.Sublist.refl _)))))));exact ⟨_,_,_,_,_,_,_,_,raS_dr _,rfl,hH⟩
end Go.Proofs.YtffgojlocbafhaaGreat.G
