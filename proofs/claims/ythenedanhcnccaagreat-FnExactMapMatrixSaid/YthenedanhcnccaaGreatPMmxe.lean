/- A part of the walk of one law: what the functions compute. No condition. -/
import Derived.Test.YthenedanhcnccaaGreatRows
import Derived.Test.YthenedanhcnccaaGreatProg
import Derived.WalkKit
import Derived.KernelRfl
import Derived.JoinedOf
import Derived.Maps.AppendAt
import Derived.Still
import Derived.ProofKit
import Derived.OpenShut
import Derived.StillTail
import Derived.Deep.Upon
import Derived.WalkSpells
import Derived.Maps.Range
import Derived.DeepKeys4
import Derived.Maps.Keyed
import Derived.ChangeOld
import Derived.Below
import Derived.SizedLaws
import Derived.Test.YthenedanhcnccaaGreatPMmxd
set_option linter.unusedVariables false
set_option linter.unusedSimpArgs false
set_option maxRecDepth 10000
set_option maxHeartbeats 8000000
namespace Go.Proofs.YthenedanhcnccaaGreat.G
open Go Go.RowKit
theorem ag35:Agg Tryz.prog 35 2:=⟨_,u35,rfl,by kernel_rfl⟩
theorem fn105:Fn Tryz.prog 105:=⟨_,Tryz.func105,by kernel_rfl,rfl⟩
theorem fn106:Fn Tryz.prog 106:=⟨_,Tryz.func106,by kernel_rfl,rfl⟩
theorem fn107:Fn Tryz.prog 107:=⟨_,Tryz.func107,by kernel_rfl,rfl⟩
theorem fn126:Fn Tryz.prog 126:=⟨_,Tryz.func126,by kernel_rfl,rfl⟩
theorem fn133:Fn Tryz.prog 133:=⟨_,Tryz.func133,by kernel_rfl,rfl⟩
theorem fn135:Fn Tryz.prog 135:=⟨_,Tryz.func135,by kernel_rfl,rfl⟩
theorem fn164:Fn Tryz.prog 164:=⟨_,Tryz.func164,by kernel_rfl,rfl⟩
theorem fn174:Fn Tryz.prog 174:=⟨_,Tryz.func174,by kernel_rfl,rfl⟩
theorem fn175:Fn Tryz.prog 175:=⟨_,Tryz.func175,by kernel_rfl,rfl⟩
theorem fn176:Fn Tryz.prog 176:=⟨_,Tryz.func176,by kernel_rfl,rfl⟩
theorem imOk_yes {ds:List Int} {fs:List (List Term)} {i:Nat} (h1:isForm ds (fm fs i)=true) (h2:homog ds (fm fs i)=true) (h3:degF ds (fm fs i) = -1∨degF ds (fm fs i)=ds.getD i 0+1):imOk ds fs i=true:=by
 unfold imOk degOk;rw [h1,h2]
 rcases h3 with h | h <;> rw [decide_eq_true h] <;> simp
theorem imOk_no1 {ds:List Int} {fs:List (List Term)} {i:Nat} (h1:isForm ds (fm fs i)=false):imOk ds fs i=false:=by unfold imOk;rw [h1];rfl
theorem imOk_no2 {ds:List Int} {fs:List (List Term)} {i:Nat} (h1:homog ds (fm fs i)=false):imOk ds fs i=false:=by unfold imOk degOk;rw [h1];simp
theorem imOk_no3 {ds:List Int} {fs:List (List Term)} {i:Nat} (h1 : ¬degF ds (fm fs i) = -1) (h2 : ¬degF ds (fm fs i)=ds.getD i 0+1):imOk ds fs i=false:=by unfold imOk degOk;rw [decide_eq_false h1,decide_eq_false h2];simp
theorem l02Is_c {B:World} {H0 H:HP} {L:List SA} {w:World} {qad qaf:Option Addr} {cad caf:Nat} {ad:List Int} {af:List (List Term)} (had:Ints H qad ad) (haf:Forms H qaf af) (hn8:ad.length≤1048576) (hn9:af.length≤1048576) (hl9 : ∀i,i<af.length→(fm af i).length≤1048576) (hH:Hp B H0 H L w):Calls Tryz.prog 72 [.agg [.slice qad ad.length cad,.slice qaf af.length caf].toArray].toArray w fun e w'=>e = .returned (.bool (isAlg ad af))∧Hp B H0 H L w':=by
 refine Jz Tryz.func72 rfl 86 rfl rfl [(0,.agg [.slice qad ad.length cad,.slice qaf af.length caf].toArray)] rfl hH ?_;clear hH;refine Je fun _ hK1 _=>(Jb (Ed rfl rfl rfl fun g1=>(Jg (Jd rfl) rfl (Jf (Ja (hK1 (Je fun _ hK2 _=>(Je fun _ hK3 _=>(Jb (Jg (Jv u35 rfl sz22 rfl) rfl (Jg (Jy rfl At.z rfl pl22) rfl (Jw fn126 rfl rfl fun w hH=>(l01Degrees_c had (by omega) hH).mono ?_))))))))))));rintro _ w ⟨rfl,hH⟩;refine ⟨_,rfl,fun a hF=>JK hF hH ?_⟩;refine Jg (Ek rfl) rfl (Jg (Jc rfl) rfl (Ei (jd:=11) rfl (fun hg11=>?_) (fun hg11=>?_)))
 ·
  try have hg11p:=of_decide_eq_true hg11
  refine JU rfl rfl rfl hg11 (JU rfl rfl rfl hg11 (JU rfl rfl rfl hg11 (JU rfl rfl rfl hg11 (JU rfl rfl rfl hg11 (JU rfl rfl rfl hg11 (JU rfl rfl rfl hg11 (Jg (JY rfl hg11 rfl) rfl (Jf (Ja (hK3 (Er rfl (Je fun _ hK4 _=>(Jb (Jg (Jd rfl) rfl (Jf ?_)))))))))))))));refine Ja (hK4 (Js (Jk (Jq rfl (Res.tmp rfl) fun w hH=>?_))));replace hH:=hH.tail;exact ⟨rb (by unfold isAlg;rw [show isDeg ad=false by simpa using hg11];rfl),hH⟩
 ·
  try have hg11p:=of_decide_eq_false hg11
  refine JW (Jv u35 rfl sz33 rfl) rfl rfl rfl hg11 (JW (Jy rfl At.z rfl pl33) rfl rfl rfl hg11 (JW (Jn u33 rfl rfl) rfl rfl rfl hg11 (JW (Jv u35 rfl sz22 rfl) rfl rfl rfl hg11 (JW (Jy rfl At.z rfl pl22) rfl rfl rfl hg11 (JW (Jn u22 rfl rfl) rfl rfl rfl hg11 (JW (Em rfl rfl) rfl rfl rfl hg11 (Jg (JX rfl hg11 rfl) rfl (Jf (Ja (hK3 (Jp rfl (fun hc19=>?_) (fun hc19=>?_))))))))))))
  ·
   refine Je fun _ hK5 _=>(Jb (Jg (Jd rfl) rfl (Jf (Ja (hK5 (Js (Jk (Jq rfl (Res.tmp rfl) fun w hH=>?_))))))));replace hH:=hH.tail;exact ⟨rb (by unfold isAlg;rw [decide_eq_false (show ¬af.length=ad.length by omega)];simp),hH⟩
  ·
   have hD:isDeg ad=true:=by simpa using hg11
   have hn:=isDeg_len hD;have hd:=isDeg_bd hD
   have hlen:af.length=ad.length:=by omega
   have hpos9 : ∀j,j<ad.length→0≤ad.getD j 0:=fun j _=>(hd j).1;refine Jo (Ja (hK2 (Je fun _ hK6 _=>(Je fun _ hK7 _=>(Jb (Jg (Jd rfl) rfl (Jf (Ja (hK7 (Jm (JD (σ:=Nat) (fun (i:Nat)=>[(3,.int .i64 (i:Int))]) (fun (i:Nat)=>H) (fun (i:Nat)=>obj g1 (.cells [.slice qad ad.length cad,.slice qaf af.length caf].toArray 35 (0,0))::L) (fun (i:Nat)=>i≤af.length∧∀j,j<i→imOk ad af j=true) (fun (i:Nat)=>af.length - i) 0 ⟨by omega,fun j hj=>by omega⟩ ⟨rfl,trivial⟩ rfl rfl ?_)))))))))));rintro i ⟨hi,hI⟩ _ hAg0;refine Je fun _ hK8 _=>(Je fun _ hK9 _=>(Jb (Jg (Jc rfl) rfl (Jg (Jv u35 rfl sz33 rfl) rfl (Jg (Jy rfl At.z rfl pl33) rfl (Jg (Jn u33 rfl rfl) rfl (Jg (JM rfl rfl) rfl (Jf (Ja (hK9 (Jp rfl (fun hc24=>?_) (fun hc24=>?_))))))))))))
   ·
    have hl0:=hl9 i (by omega);have hdi:=hd i;refine Jo (Ja (hK8 (Je fun _ hK10 _=>(Jm (Je fun _ hK11 _=>(Je fun _ hK12 _=>(Eo [[], [0], [], [2], [], [3,4], [5]] (by kernel_rfl) (JA (fun gh=>Jv u35 rfl sz22 rfl) (JA (fun gh=>Jy rfl At.z rfl pl22) (JA (fun gh=>Jv u35 rfl sz33 rfl) (JA (fun gh=>Jy rfl At.z rfl pl33) (JA (fun gh=>Jc rfl) (JA (fun gh=>JO u33 sz39 rfl rfl rfl (by omega) haf.sm) ?_)))))))))))));obtain ⟨qe33,ce33,he33,le33,Fe33⟩:=haf i (by omega);refine JA (fun gh=>JR (cs:=[_]) rfl (one_cell he33) (haf.sm (i:=i) (by omega)) ag39) (Eb 7 1 foll0 (by kernel_rfl) rfl rfl fun gh=>(En (us':=(27,_)::(28,_)::(29,_)::(30,_)::(31,_)::(32,_)::(33,_)::_) (L':=_) rfl rfl (Jw fn105 rfl rfl fun w hH=>(l01Is_c had Fe33 (by omega) hpos9 (by omega) hH).mono ?_)));rintro _ w ⟨rfl,hH⟩;refine ⟨_,rfl,fun a hF=>JK hF hH ?_⟩;refine Jf (Ec (JE (Ek rfl) rfl (Ee (Ja (hK12 (Eg rfl (fun h35=>?_) (fun h35=>?_)))))))
    ·
     refine Je fun _ hK13 _=>(Jb (Jg (Jd rfl) rfl (Jf (Ja (hK13 (Js (Jk (JT (Jk (Jk (JT (Jk (Jq rfl (Res.tmp rfl) fun w hH=>?_)))))))))))));replace hH:=hH.tail;exact ⟨rb (by unfold isAlg;rw [imsOk_bad (i:=i) (by omega) (imOk_no1 (by simpa using h35))];simp),hH⟩
    ·
     have hfo:isForm ad (fm af i)=true:=by simpa using h35
     refine Jo (Ja (hK11 (Je fun _ hK14 _=>(Eo [[], [0], [], [2], [], [3,4], [5]] (by kernel_rfl) (JA (fun gh=>Jv u35 rfl sz22 rfl) (JA (fun gh=>Jy rfl At.z rfl pl22) (JA (fun gh=>Jv u35 rfl sz33 rfl) (JA (fun gh=>Jy rfl At.z rfl pl33) (JA (fun gh=>Jc rfl) (JA (fun gh=>JO u33 sz39 rfl rfl rfl (by omega) haf.sm) ?_))))))))));obtain ⟨qe43,ce43,he43,le43,Fe43⟩:=haf i (by omega);refine JA (fun gh=>JR (cs:=[_]) rfl (one_cell he43) (haf.sm (i:=i) (by omega)) ag39) (Eb 7 1 foll0 (by kernel_rfl) rfl rfl fun gh=>(En (us':=(37,_)::(38,_)::(39,_)::(40,_)::(41,_)::(42,_)::(43,_)::_) (L':=_) rfl rfl (Jw fn106 rfl rfl fun w hH=>(l01Degree_c had Fe43 hn hd (by omega) hH).mono ?_)));rintro _ w ⟨rfl,hH⟩;refine ⟨_,rfl,fun a hF=>JK hF hH ?_⟩;refine Jf (Ec (JE (Jc rfl) rfl (JE (JQ rfl rfl) rfl (JE (JQ rfl rfl) rfl (JE (Jd rfl) rfl (JE (Jd rfl) rfl (Ee (Ja (hK14 (Je fun _ hK15 _=>(Jb (Jg (Jc rfl) rfl (Jg (Ek rfl) rfl (Jg (Jc rfl) rfl (Ei (jd:=49) rfl (fun h49=>?_) (fun h49=>?_))))))))))))))))
     ·
      try have h49p:=of_decide_eq_true h49
      refine JU rfl rfl rfl h49 (JU rfl rfl rfl h49 (JU rfl rfl rfl h49 (JU rfl rfl rfl h49 (JU rfl rfl rfl h49 (JU rfl rfl rfl h49 (JU rfl rfl rfl h49 (JU rfl rfl rfl h49 (JU rfl rfl rfl h49 (J.gu rfl rfl rfl (J.gu rfl rfl rfl (J.gu rfl rfl rfl (J.gu rfl rfl rfl (J.gu rfl rfl rfl (J.gu rfl rfl rfl ?_))))))))))))));refine J.gu rfl rfl rfl (J.gu rfl rfl rfl (JU rfl rfl rfl h49 (Jg (JY rfl h49 rfl) rfl (Jf (Ja (hK15 (Er rfl (Je fun _ hK16 _=>(Jb (Jg (Jd rfl) rfl (Jf (Ja (hK16 (Js (JT (Jk ?_))))))))))))))));refine Jk (JT (Jk (Jq rfl (Res.tmp rfl) fun w hH=>?_)));replace hH:=hH.tail;exact ⟨rb (by unfold isAlg;rw [imsOk_bad (i:=i) (by omega) (imOk_no2 (by simpa using h49))];simp),hH⟩
     ·
      try have h49p:=of_decide_eq_false h49
      refine JW (Jv u35 rfl sz33 rfl) rfl rfl rfl h49 (JW (Jy rfl At.z rfl pl33) rfl rfl rfl h49 (JW (Jc rfl) rfl rfl rfl h49 (JW (JO u33 sz39 rfl rfl rfl (by omega) haf.sm) rfl rfl rfl h49 (JW (Ew u39 rfl sz37 rfl (haf.sm (i:=i) (by omega))) rfl rfl rfl h49 ?_))));obtain ⟨qe55,ce55,he55,le55,Fe55⟩:=haf i (by omega);refine JW (JB rfl he55 pl37) rfl rfl rfl h49 (JW (Jn u37 rfl rfl) rfl rfl rfl h49 (JW (EB rfl rfl) rfl rfl rfl h49 (JW (Jc rfl) rfl rfl rfl h49 (Ei (jd:=58) rfl (fun h58=>?_) (fun h58=>?_)))))
      ·
       try have h58p:=of_decide_eq_true h58
       refine JW (Jc rfl) rfl rfl rfl h58 (JW (Jv u35 rfl sz22 rfl) rfl rfl rfl h58 (JW (Jy rfl At.z rfl pl22) rfl rfl rfl h58 (JW (Jc rfl) rfl rfl rfl h58 (JW (JO u22 sz2 rfl rfl rfl (by omega) had.sm) rfl rfl rfl h58 (JW (JB rfl (had _ (by omega)) pl2) rfl rfl rfl h58 (JW (JC rfl rfl (by first | exact nw _ (by omega) | rfl)) rfl rfl rfl h58 (JW (Em rfl rfl) rfl rfl rfl h58 (JW (JY rfl h58 rfl) rfl rfl rfl h49 (Jg (JX rfl h49 rfl) rfl (Jf (Ja (hK15 (Jp rfl (fun h68=>?_) (fun h68=>?_))))))))))))))
       ·
        refine Je fun _ hK17 _=>(Jb (Jg (Jd rfl) rfl (Jf (Ja (hK17 (Js (JT (Jk (Jk (JT (Jk (Jq rfl (Res.tmp rfl) fun w hH=>?_))))))))))));replace hH:=hH.tail;exact ⟨rb (by unfold isAlg;rw [imsOk_bad (i:=i) (by omega) (imOk_no3 (fun e=>(degF_neg hn hd (haf.wfss.fm i) (by simpa using h49)).1 e (by omega)) h68)];simp),hH⟩
       ·
        refine Jo (JF (Ja (hK10 (Jb (Jg (Jc rfl) rfl (Jg (JC rfl rfl (by first | exact nw _ (by omega) | rfl)) rfl (Jg (Jd rfl) rfl (Jf (Ja ?_)))))))));exact hAg0 (i+1) ⟨by omega,upto hI (imOk_yes hfo (by simpa using h49) (.inr (Decidable.not_not.1 h68)))⟩ (by omega) 53 rfl rfl ⟨rfl,trivial⟩ rfl rfl
      ·
       try have h58p:=of_decide_eq_false h58
       refine JU rfl rfl rfl h58 (JU rfl rfl rfl h58 (JU rfl rfl rfl h58 (JU rfl rfl rfl h58 (JU rfl rfl rfl h58 (JU rfl rfl rfl h58 (JU rfl rfl rfl h58 (JU rfl rfl rfl h58 (JW (JX rfl h58 rfl) rfl rfl rfl h49 (Jg (JX rfl h49 rfl) rfl (Jf (Ja (hK15 (Et rfl (Jo (JF ?_)))))))))))))));refine Ja (hK10 (Jb (Jg (Jc rfl) rfl (Jg (JC rfl rfl (by first | exact nw _ (by omega) | rfl)) rfl (Jg (Jd rfl) rfl (Jf (Ja ?_)))))));exact hAg0 (i+1) ⟨by omega,upto hI (imOk_yes hfo (by simpa using h49) (.inl ((degF_neg hn hd (haf.wfss.fm i) (by simpa using h49)).2 (by omega))))⟩ (by omega) 53 rfl rfl ⟨rfl,trivial⟩ rfl rfl
   ·
    have hM9:=imsOk_good (ds:=ad) (fs:=af) (fun j hj=>hI j (by omega));have hA:=AlgOk.of hD hlen hM9 haf.wfss;refine JG (Jj (Jj (JP (Ja (hK6 (Je fun _ hK18 _=>(Je fun _ hK19 _=>(Jb (Jg (Jd rfl) rfl (Jf (Ja (hK19 (Jm (JD (σ:=Nat) (fun (k:Nat)=>[(6,.int .i64 (k:Int))]) (fun (k:Nat)=>H) (fun (k:Nat)=>obj g1 (.cells [.slice qad ad.length cad,.slice qaf af.length caf].toArray 35 (0,0))::L) (fun (k:Nat)=>k≤af.length∧∀j,j<k→(dS ad af (toS (fm af j))).length=0) (fun (k:Nat)=>af.length - k) 0 ⟨by omega,fun j hj=>by omega⟩ ⟨rfl,trivial⟩ rfl rfl ?_))))))))))))));rintro k ⟨hk,hJ⟩ _ hAg1;refine Je fun _ hK20 _=>(Je fun _ hK21 _=>(Jb (Jg (Jc rfl) rfl (Jg (Jv u35 rfl sz33 rfl) rfl (Jg (Jy rfl At.z rfl pl33) rfl (Jg (Jn u33 rfl rfl) rfl (Jg (JM rfl rfl) rfl (Jf (Ja (hK21 (Jp rfl (fun h73=>?_) (fun h73=>?_))))))))))))
    ·
     have hkl:k<af.length:=by omega
     refine Jo (Ja (hK20 (Je fun _ hK22 _=>(Jm (Je fun _ hK23 _=>(Eo [[], [], [1], [], [2,3], [4]] (by kernel_rfl) (JA (fun gh=>Jx rfl At.z (by simpa [*] using ag35)) (JA (fun gh=>Jv u35 rfl sz33 rfl) (JA (fun gh=>Jy rfl At.z rfl pl33) (JA (fun gh=>Jc rfl) (JA (fun gh=>JO u33 sz39 rfl rfl rfl (by omega) haf.sm) ?_)))))))))));obtain ⟨qe81,ce81,he81,le81,Fe81⟩:=haf k (by omega);refine JA (fun gh=>JR (cs:=[_]) rfl (one_cell he81) (haf.sm (i:=k) (by omega)) ag39) (Eb 6 1 foll0 (by kernel_rfl) rfl rfl fun gh=>(En (us':=(76,_)::(77,_)::(78,_)::(79,_)::(80,_)::(81,_)::_) (L':=_) rfl rfl (Jw fn107 rfl rfl fun w hH=>(l02D_c had haf Fe81 hn hd hA.fok hA.hl hA.kex (hA.fok k hkl).1 (hA.kex k hkl) (by omega) hA.len (hA.len k hkl) hH).mono ?_)));rintro _ w ⟨qo82,co82,rfl,hH⟩;refine ⟨_,rfl,fun a hF=>JK hF hH ?_⟩;refine Jf (Ec (JE (PR.fieldV u39 rfl pl37 rfl rfl) rfl (JE (Jn u37 rfl rfl) rfl (JE (EB rfl rfl) rfl (Ee (Ja (hK23 (Jp rfl (fun h85=>?_) (fun h85=>?_)))))))))
     ·
      refine Je fun _ hK24 _=>(Jb (Jg (Jd rfl) rfl (Jf (Ja (hK24 (Js (JT (Jk (Jk (JT (Jk (Jq rfl (Res.tmp rfl) fun w hH=>?_))))))))))));replace hH:=hH.tail;replace hH:=hH.tail;exact ⟨rb (by unfold isAlg;rw [noD_bad (i:=k) (by omega) (by rw [ofS_len] at h85;omega)];simp),hH⟩
     ·
      refine Jo (JF (Ja (hK22 (Jb (Jg (Jc rfl) rfl (Jg (JC rfl rfl (by first | exact nw _ (by omega) | rfl)) rfl (Jg (Jd rfl) rfl (Jf (Ja (JL .z ?_))))))))));exact hAg1 (k+1) ⟨by omega,upto hJ (by rw [ofS_len] at h85;omega)⟩ (by omega) 19 rfl rfl ⟨rfl,trivial⟩ rfl rfl
    ·
     refine JG (Jj (Jj (JP (Ja (hK18 (Je fun _ hK25 _=>(Jb (Jg (Jd rfl) rfl (Jf (Ja (hK25 (Js (Jq rfl (Res.tmp rfl) fun w hH=>?_)))))))))))));replace hH:=hH.tail;exact ⟨rb (by unfold isAlg;rw [hD,decide_eq_true hlen,hM9,noD_good (fun j hj=>hJ j (by omega))];rfl),hH⟩
def noDf (ds:List Int) (fs:List (List Term)) (ts:List Term):Bool:=decide ((dS ds fs (toS ts)).length>0)
theorem noD_any {ds:List Int} {fs:List (List Term)}:noD ds fs = !(fs.any (noDf ds fs)):=by
 cases h:fs.any (noDf ds fs) with
 | true=>
  obtain ⟨x,hx,hp⟩:=List.any_eq_true.1 h;obtain ⟨j,hj,rfl⟩:=List.mem_iff_getElem.1 hx;rw [fm_eq hj] at hp;rw [noD_bad hj (by unfold noDf at hp;have:=of_decide_eq_true hp;omega)]
  rfl
 | false=>
  rw [noD_good fun j hj=>by
   have:=List.any_eq_false.1 h _ (fm_mem hj);unfold noDf at this;rw [decide_eq_true_eq] at this
   omega]
  rfl
theorem IsAlgebra1_c {B:World} {H0 H:HP} {L:List SA} {w:World} {qts:Option Addr} {cts:Nat} {ts:List Term} {ba:Nat} {qad qaf:Option Addr} {cad caf:Nat} {ad:List Int} {af:List (List Term)} {Mi Ms:Int} (hts:Terms H qts ts) (pad:CellAt H ba 0 (.slice qad ad.length cad)) (paf:CellAt H ba 1 (.slice qaf af.length caf)) (had:Ints H qad ad) (haf:Forms H qaf af) (hn:ad.length≤8) (hd : ∀j,0≤ad.getD j 0∧ad.getD j 0≤12) (hf:Fok Mi af) (hl:af.length=ad.length) (hs:Sok Ms (toS ts)) (ho:Occ af.length (toS ts)) (hM:0≤Mi∧Ms+Mi+Ms≤1000000) (hll:ts.length≤1000000000) (hH:Hp B H0 H L w):Calls Tryz.prog 176 [.agg [.slice qts ts.length cts].toArray,.pointer (some ⟨ba,0,none⟩)].toArray w fun e w'=>e = .returned (.bool (noDf ad af ts))∧Hp B H0 H L w':=by
 refine Jz Tryz.func176 rfl 9 rfl rfl [(0,.agg [.slice qts ts.length cts].toArray),(1,.pointer (some ⟨ba,0,none⟩))] rfl hH ?_;clear hH;refine Je fun _ hK1 _=>(Jb (Ed rfl rfl rfl fun g2=>(Jg (Jd rfl) rfl (Jf (Ja (hK1 (Je fun _ hK2 _=>(Jb (Jg (Jx rfl At.z (by simpa [*] using ag39)) rfl (Jw fn62 rfl rfl fun w hH=>(sumOf_c hts hs (by omega) hH).mono ?_))))))))));rintro _ w ⟨bo5,rfl,hH⟩;refine ⟨_,rfl,fun a hF=>JK hF hH ?_⟩;refine Jw fn164 rfl rfl fun w hH=>hH.lend .z fun Hl1 hle1 hA1 hB1 hH=>(d_c (pad.le hle1) (paf.le hle1) (had.le hle1) (haf.le hle1) (omap_H hA1) hs hn hd hf hl ho hM hH).mono ?_;rintro _ w ⟨bo6,rfl,hH⟩;replace hH:=hB1 _ _ hH;refine ⟨_,rfl,fun a hF=>JK hF hH ?_⟩;refine Jg (PR.lenO u84 rfl (.s .z) rfl) rfl (Jg (EB rfl rfl) rfl (Jg (Jd rfl) rfl (Jf (Ja (hK2 (Js (Jq rfl (Res.tmp rfl) fun w hH=>?_)))))));replace hH:=hH.tail;replace hH:=hH.tail;replace hH:=hH.tail;exact ⟨rb (by unfold noDf;exact decide_eq_decide.2 (by omega)),hH⟩
theorem IsAlgebra_c {B:World} {H0 H:HP} {L:List SA} {w:World} {qad qaf:Option Addr} {cad caf:Nat} {ad:List Int} {af:List (List Term)} (had:Ints H qad ad) (haf:Forms H qaf af) (hn8:ad.length≤1048576) (hn9:af.length≤1048576) (hl9 : ∀i,i<af.length→(fm af i).length≤1048576) (hH:Hp B H0 H L w):Calls Tryz.prog 132 [.agg [.slice qad ad.length cad,.slice qaf af.length caf].toArray].toArray w fun e w'=>e = .returned (.bool (isAlg ad af))∧Hp B H0 H L w':=by
 refine Jz Tryz.func132 rfl 50 rfl rfl [(0,.agg [.slice qad ad.length cad,.slice qaf af.length caf].toArray)] rfl hH ?_;have hw0:=hH.old;have hw1:=hH.le;clear hH;refine Je fun _ hK1 _=>(Jb (Ed rfl rfl rfl fun g1=>(Jg (Jd rfl) rfl (Jf (Ja (hK1 (Je fun _ hK2 _=>(Je fun _ hK3 _=>(Jb (Jg (Jv u35 rfl sz22 rfl) rfl (Jg (Jy rfl At.z rfl pl22) rfl (Jw fn174 rfl rfl fun w hH=>(AreDegrees_c had (by omega) hH).mono ?_))))))))))));rintro _ w ⟨rfl,hH⟩;refine ⟨_,rfl,fun a hF=>JK hF hH ?_⟩;refine Jg (Ek rfl) rfl (Jg (Jc rfl) rfl (Ei (jd:=9) rfl (fun hg9=>?_) (fun hg9=>?_)))
 ·
  try have hg9p:=of_decide_eq_true hg9
  refine JU rfl rfl rfl hg9 (JU rfl rfl rfl hg9 (JU rfl rfl rfl hg9 (JU rfl rfl rfl hg9 (JU rfl rfl rfl hg9 (JU rfl rfl rfl hg9 (JU rfl rfl rfl hg9 (Jg (JY rfl hg9 rfl) rfl (Jf (Ja (hK3 (Er rfl (Je fun _ hK4 _=>(Jb (Jg (Jd rfl) rfl (Jf ?_)))))))))))))));refine Ja (hK4 (Js (Jk (Jq rfl (Res.tmp rfl) fun w hH=>?_))));replace hH:=hH.tail;exact ⟨rb (by unfold isAlg;rw [show isDeg ad=false by simpa using hg9];rfl),hH⟩
 ·
  try have hg9p:=of_decide_eq_false hg9
  refine JW (Jv u35 rfl sz33 rfl) rfl rfl rfl hg9 (JW (Jy rfl At.z rfl pl33) rfl rfl rfl hg9 (JW (Jn u33 rfl rfl) rfl rfl rfl hg9 (JW (Jv u35 rfl sz22 rfl) rfl rfl rfl hg9 (JW (Jy rfl At.z rfl pl22) rfl rfl rfl hg9 (JW (Jn u22 rfl rfl) rfl rfl rfl hg9 (JW (Em rfl rfl) rfl rfl rfl hg9 (Jg (JX rfl hg9 rfl) rfl (Jf (Ja (hK3 (Jp rfl (fun hc19=>?_) (fun hc19=>?_))))))))))))
  ·
   refine Je fun _ hK5 _=>(Jb (Jg (Jd rfl) rfl (Jf (Ja (hK5 (Js (Jk (Jq rfl (Res.tmp rfl) fun w hH=>?_))))))));replace hH:=hH.tail;exact ⟨rb (by unfold isAlg;rw [decide_eq_false (show ¬af.length=ad.length by omega)];simp),hH⟩
  ·
   have hD:isDeg ad=true:=by simpa using hg9
   have hn:=isDeg_len hD;have hd:=isDeg_bd hD
   have hlen:af.length=ad.length:=by omega
   have hpos9 : ∀j,j<ad.length→0≤ad.getD j 0:=fun j _=>(hd j).1;refine Jo (Ja (hK2 (Je fun _ hK6 _=>(Je fun _ hK7 _=>(Jb (Jg (Jv u35 rfl sz33 rfl) rfl (Jg (Jy rfl At.z rfl pl33) rfl (Jg (Jn u33 rfl rfl) rfl (Jg (Jc rfl) rfl (Jf (Ja (hK7 (Jm (JD (σ:=Nat) (fun (k:Nat)=>[(21,.int .i64 (k:Int))]) (fun (k:Nat)=>H) (fun (k:Nat)=>obj g1 (.cells [.slice qad ad.length cad,.slice qaf af.length caf].toArray 35 (0,0))::L) (fun (k:Nat)=>k≤af.length∧∀j,j<k→imOk ad af j=true) (fun (k:Nat)=>af.length - k) 0 ⟨by omega,fun j hj=>by omega⟩ ⟨rfl,trivial⟩ rfl rfl ?_))))))))))))));rintro k ⟨hk,hI⟩ _ hAg0;refine Je fun _ hK8 _=>(Jb (Jg (JM rfl rfl) rfl (Jf (Ja (hK8 (Je fun _ hK9 _=>(Jp rfl (fun hc24=>?_) (fun hc24=>?_))))))))
   ·
    have hl0:=hl9 k (by omega);have hdi:=hd k;refine Jo (Ja (hK9 (Je fun _ hK10 _=>(Jm (Je fun _ hK11 _=>(Jb (Jg (Jc rfl) rfl (Jg (JO u33 sz39 rfl rfl rfl (by omega) haf.sm) rfl ?_))))))));obtain ⟨qe25,ce25,he25,le25,Fe25⟩:=haf k (by omega);refine Jg (JR (cs:=[_]) rfl (one_cell he25) (haf.sm (i:=k) (by omega)) ag39) rfl (JV ze39 rfl fun g4=>(Jg (Jd rfl) rfl (JJ rfl rfl (by first | exact bytesC_one _ | exact intsC_one _ | exact Term.c_one _ | simp [Value.oneCell']) (by simpa [*] using sz39) (by simp [*]) At.z (Jf (Ja (hK11 (Je fun _ hK12 _=>(Eo [[], [0], [], [1,2], [3], [4], [5], [6,5], [5], [5], [9,5], [5], [10,11,5], [12,5], [13,5]] (by kernel_rfl) (JA (fun gh=>Jv u35 rfl sz22 rfl) (JA (fun gh=>Jy rfl (.s .z) rfl pl22) (JA (fun gh=>Jx rfl At.z (by simpa [*] using ag39)) (HJ.call fn135 (fun gh=>rfl) (fun w X hH=>isForm_c had Fe25 (by omega) (by omega) hH) (JA (fun gh=>Ek rfl) (JA (fun gh=>Jc rfl) (ET 5 rfl (fun h31=>?_) (fun h31=>?_))))))))))))))))
    ·
     try have h31p:=of_decide_eq_true h31
     refine Ef rfl (fun gh=>rfl) h31 (Ef rfl (fun gh=>rfl) h31 (Ef rfl (fun gh=>rfl) h31 (Ef rfl (fun gh=>rfl) h31 (Ef rfl (fun gh=>rfl) h31 (Ef rfl (fun gh=>rfl) h31 (Ef rfl (fun gh=>rfl) h31 (Ef rfl (fun gh=>rfl) h31 (Ef rfl (fun gh=>rfl) h31 (Eb 15 1 foll0 (by kernel_rfl) rfl rfl fun gh=>(En (us':=(26,_)::(27,_)::(28,_)::(29,_)::(30,_)::(31,_)::(32,_)::(33,_)::(34,_)::(35,_)::(36,_)::(37,_)::(38,_)::(39,_)::(40,_)::_) (L':=_) rfl rfl (JU rfl rfl rfl h31 (Jf (Ec (JS.gn rfl rfl rfl h31 ?_))))))))))))));refine JE (JY rfl h31 rfl) rfl (Ee (Ja (hK12 (Er rfl (Je fun _ hK13 _=>(Jb (Jg (Jd rfl) rfl (Jf (Ja (hK13 (Js (JT (Jk (Jk (JT (Jk ?_))))))))))))))));refine Jq rfl (Res.tmp rfl) fun w hH=>?_;replace hH:=hH.tail;replace hH:=hH.tail;exact ⟨rb (by unfold isAlg;rw [imsOk_bad (i:=k) (by omega) (imOk_no1 (by simpa using h31))];simp),hH⟩
    ·
     try have h31p:=of_decide_eq_false h31
     refine Eh (fun gh=>Jv u35 rfl sz22 rfl) rfl (fun gh=>rfl) h31 (Eh (fun gh=>Jy rfl (.s .z) rfl pl22) rfl (fun gh=>rfl) h31 (Eh (fun gh=>Jx rfl At.z (by simpa [*] using ag39)) rfl (fun gh=>rfl) h31 (Eh (fun gh=>Jv u35 rfl sz22 rfl) rfl (fun gh=>rfl) h31 (Eh (fun gh=>Jy rfl (.s .z) rfl pl22) rfl (fun gh=>rfl) h31 (Eh (fun gh=>Jc rfl) rfl (fun gh=>rfl) h31 (Eh (fun gh=>JO u22 sz2 rfl rfl rfl (by omega) had.sm) rfl (fun gh=>rfl) h31 (Eh (fun gh=>JB rfl (had _ (by omega)) pl2) rfl (fun gh=>rfl) h31 (Eh (fun gh=>JC rfl rfl (by first | exact nw _ (by omega) | rfl)) rfl (fun gh=>rfl) h31 (Eb 15 1 foll0 (by kernel_rfl) rfl rfl fun gh=>(En (us':=(26,_)::(27,_)::(28,_)::(29,_)::(30,_)::(31,_)::(32,_)::(33,_)::(34,_)::(35,_)::(36,_)::(37,_)::(38,_)::(39,_)::(40,_)::_) (L':=_) rfl rfl (EO fn175 rfl rfl h31 rfl rfl fun w hH=>(isOfDegree_c had Fe25 hn hd (by omega) hH).mono ?_)))))))))));rintro _ w ⟨rfl,hH⟩;refine ⟨_,rfl,fun a hF=>JK hF hH ?_⟩;refine Jf (Ec (JS.gy (Ek rfl) rfl rfl rfl h31 (JE (JX rfl h31 rfl) rfl (Ee (Ja (hK12 (Eg rfl (fun h43=>?_) (fun h43=>?_))))))))
     ·
      refine Je fun _ hK14 _=>(Jb (Jg (Jd rfl) rfl (Jf (Ja (hK14 (Js (JT (Jk (Jk (JT (Jk (Jq rfl (Res.tmp rfl) fun w hH=>?_))))))))))));replace hH:=hH.tail;replace hH:=hH.tail;exact ⟨rb (by unfold isAlg;rw [imsOk_bad (i:=k) (by omega) (by unfold imOk;rw [show degOk ad (fm af k) (ad.getD k 0+1)=false by simpa using h43];simp)];simp),hH⟩
     ·
      refine Jo (JF (Ja (hK10 (Jb (Jg (JC rfl rfl (by first | exact nw _ (by omega) | rfl)) rfl (Jg (Jc rfl) rfl (Jf (Ja (JL .z ?_)))))))));exact hAg0 (k+1) ⟨by omega,upto hI (by unfold imOk;rw [show isForm ad (fm af k)=true by simpa using h31,show degOk ad (fm af k) (ad.getD k 0+1)=true by simpa using h43];rfl)⟩ (by omega) 27 rfl rfl ⟨rfl,trivial⟩ rfl rfl
   ·
    have hM9:=imsOk_good (ds:=ad) (fs:=af) (fun j hj=>hI j (by omega));have hA:=AlgOk.of hD hlen hM9 haf.wfss;refine JG (Jj (Jj (JP (Ja (hK6 (Je fun _ hK15 _=>(Jb (Jg (Jv u35 rfl sz33 rfl) rfl (Jg (Jy rfl At.z rfl pl33) rfl (Jg (PR.makeFunc (ys:=[]) (zs:=[_]) rfl rfl) rfl (EQ .z fun H3 hle3 hc3=>?_)))))))))));have had3:=had.le hle3;have haf3:=haf.le hle3;have hcl:ClF B H0 H3 176 #[.pointer (some ⟨g1,0,none⟩)] (fun ts=>isForm ad ts=true∧Wfs ts) (noDf ad af):=fun H' L w q c x hle hS hx hH=>IsAlgebra1_c (Mi:=20) (Ms:=20) hx (CellAt.le (hc3 0 _ rfl) hle) (CellAt.le (hc3 1 _ rfl) hle) (had3.le hle) (haf3.le hle) hn hd hA.fok hA.hl (isForm_sok hS.2 hS.1) (Ex.occ (isForm_kex hd hn hS.2 hS.1) hA.hl) (by omega) (by have:=isForm_len4 hS.1;omega) hH;refine Jw fn133 rfl rfl fun w hH=>(ContainsFuncF_c haf3 fn176 hcl (by omega) (fun i hi=>⟨hA.ok i hi,hA.wf.fm i⟩) hH).mono ?_;rintro _ w ⟨rfl,hH⟩;refine ⟨_,rfl,fun a hF=>JK hF hH ?_⟩;refine Jg (Ek rfl) rfl (Jg (Jd rfl) rfl (Jf (Ja (hK15 (Js (Jq rfl (Res.tmp rfl) fun w hH=>?_))))));exact ⟨rb (by unfold isAlg;rw [hD,decide_eq_true hlen,hM9,noD_any];rfl),hH.weaken hle3 hw0 hw1⟩
theorem u23:Tryz.prog.underlying 23=some (TypeDesc.slice 28):=by kernel_rfl
theorem u25:Tryz.prog.underlying 25=some (TypeDesc.struct #[{name:="Degrees",type:=22,offset:=0,embedded:=false,tag:="",pkgPath:="",byteOffset:=0},{name:="Images",type:=23,offset:=1,embedded:=false,tag:="",pkgPath:="",byteOffset:=24}]):=by kernel_rfl
theorem sz23:Size Tryz.prog 23 1:=by unfold Size;kernel_rfl
theorem sz28:Size Tryz.prog 28 1:=by unfold Size;kernel_rfl
theorem sz35:Size Tryz.prog 35 2:=by unfold Size;kernel_rfl
theorem by39:Bytes Tryz.prog 39 24:=by unfold Bytes;kernel_rfl
theorem ze35:Zero Tryz.prog 35 [.slice none 0 0,.slice none 0 0]:=by unfold Zero;kernel_rfl
theorem pl23:Plain Tryz.prog 23:=⟨_,u23,rfl⟩
theorem ag28:Agg Tryz.prog 28 1:=⟨_,u28,rfl,by kernel_rfl⟩
theorem fn15:Fn Tryz.prog 15:=⟨_,Tryz.func15,by kernel_rfl,rfl⟩
theorem fn18:Fn Tryz.prog 18:=⟨_,Tryz.func18,by kernel_rfl,rfl⟩
theorem fn42:Fn Tryz.prog 42:=⟨_,Tryz.func42,by kernel_rfl,rfl⟩
theorem fn44:Fn Tryz.prog 44:=⟨_,Tryz.func44,by kernel_rfl,rfl⟩
theorem fn54:Fn Tryz.prog 54:=⟨_,Tryz.func54,by kernel_rfl,rfl⟩
theorem fn58:Fn Tryz.prog 58:=⟨_,Tryz.func58,by kernel_rfl,rfl⟩
def szv (x:Int):Int:=if x<0 then -1 else x
def updV (vs:Vs) (k:Nat) (x:Option Addr × Nat):Vs:=fun j=>if j=k then x else vs j
theorem ownTs_congr {T:TypeId} : ∀{gs:List (List Term)} {vs vs':Vs},(∀j,j<gs.length→vs j=vs' j)→ownTs T vs gs=ownTs T vs' gs
 | [],_,_,_=>rfl
 | g::gs,vs,vs',h=>by
  have h0:=h 0 (by simp)
  have ih:=ownTs_congr (T:=T) (gs:=gs) (vs:=vs.tl) (vs':=vs'.tl) fun j hj=>h (j+1) (by simpa using hj)
  simp only [ownTs,h0,ih]
theorem slicesC_congr : ∀{gs:List (List Term)} {vs vs':Vs},(∀j,j<gs.length→vs j=vs' j)→slicesC vs gs=slicesC vs' gs
 | [],_,_,_=>rfl
 | g::gs,vs,vs',h=>by
  have h0:=h 0 (by simp)
  have ih:=slicesC_congr (gs:=gs) (vs:=vs.tl) (vs':=vs'.tl) fun j hj=>h (j+1) (by simpa using hj)
  simp only [slicesC,h0,ih]
theorem slicesC_app : ∀(vs:Vs) (gs:List (List Term)) (f:List Term),slicesC vs (gs++[f])=slicesC vs gs++[.slice (vs gs.length).1 f.length (vs gs.length).2]
 | vs, [],f=>rfl
 | vs,g::gs,f=>by
  simp only [List.cons_append,slicesC]
  rw [slicesC_app vs.tl gs f]
  rfl
theorem take_fm {fs:List (List Term)} {k:Nat} (hk:k<fs.length):fs.take (k+1)=fs.take k++[fm fs k]:=by
 rw [List.take_succ_eq_append_getElem hk,fm_eq hk]
def fillF (vs:Vs) (fs:List (List Term)) (k:Nat):List Value:=slicesC vs (fs.take k)++List.replicate (fs.length - k) (.slice none 0 0)
@[simp] theorem fillF_len {vs:Vs} {fs:List (List Term)} {k:Nat} (hk:k≤fs.length):(fillF vs fs k).length=fs.length:=by simp [fillF];omega
theorem slicesC_upd {vs:Vs} {fs:List (List Term)} {k:Nat} (hk:k<fs.length) (x:Option Addr × Nat):slicesC (updV vs k x) (fs.take (k+1))=slicesC vs (fs.take k)++[.slice x.1 (fm fs k).length x.2]:=by
 have hl:(fs.take k).length=k:=List.length_take_of_le (by omega);rw [take_fm hk,slicesC_app,hl,slicesC_congr (vs':=vs) fun j hj=>by unfold updV;rw [if_neg (by omega)]]
 simp [updV]
theorem fillF_step {vs:Vs} {fs:List (List Term)} {k:Nat} (hk:k<fs.length) (q:Option Addr) (c:Nat):(fillF vs fs k).take k++[.slice q (fm fs k).length c]++(fillF vs fs k).drop (k+1)=fillF (updV vs k (q,c)) fs (k+1):=by
 have hl:(slicesC vs (fs.take k)).length=k:=by simp;omega
 unfold fillF;rw [slicesC_upd hk,List.take_append_of_le_length (by omega),List.take_of_length_le (by omega),List.drop_append,List.drop_of_length_le (by omega),List.nil_append,hl,List.drop_replicate]
 congr 2
 omega
theorem fillF_end (vs:Vs) (fs:List (List Term)):fillF vs fs fs.length=slicesC vs fs:=by simp [fillF]
theorem flat1 (z:Value) : ∀m,(List.replicate m [z]).flatten=List.replicate m z
 | 0=>rfl
 | m+1=>by rw [List.replicate_succ,List.replicate_succ,List.flatten_cons,flat1 z m];rfl
section
variable {P : Program} {ops : Array Oper} {Q : Exit → Act → World → Prop} {n : Nat} {B : World} {H0 H : HP} {rest : List Oper} {us : List (Nat × Value)} {L : List SA} {t : TypeId} {p : String} {af : Array Edge} {d : Nat} {x y : Operand} {R : Act → World → Prop}
theorem J.makeSl (T:TypeId) {ty e:TypeId} {k k':IntKind} {i j:Int} {m:Nat} (hu:P.underlying ty=some (.slice e)) (hz:Zero P e [.slice none 0 0]) (hs:Size P e 1) (hb:Bytes P e 24) (hx:opv us x=some (.int k i)) (hy:opv us y=some (.int k' j)) (hi:i=(m:Int)) (hj:j=(m:Int)) (hl:m≤1048576) (hd:Nat.blt d n=true) (hk : ∀g,J P ops Q n B H0 rest ((d,.slice (some ⟨g,0,none⟩) m m)::us) H (obj g (.cells (List.replicate m (.slice none 0 0)).toArray e (0,0))::ownTs T nilVs []::L)):J P ops Q n B H0 (⟨some d,.makeSlice ty x y,t,p,af,none⟩::rest) us H L:=by
 refine J.make hu hz hs hb hx hy hi hj (Nat.le_refl _) (by omega) (by omega) hd fun g=>?_;rw [flat1];exact fun a w hF hH=>hk g a w hF (hH.emp.front (.s .z))
theorem EJ.tsSnoc {T:TypeId} {q:Option Addr} {c k:Nat} {fs:List (List Term)} {vs:Vs} (hk:k<fs.length) (h:EJ R n B H0 us H (ownTs T (updV vs k (q,c)) (fs.take (k+1))::L)):EJ R n B H0 us H (own T 9 q (fm fs k).length c (tsC (fm fs k))::ownTs T vs (fs.take k)::L):=fun a w hF hH=>by
 have hl:(fs.take k).length=k:=List.length_take_of_le (by omega)
 rw [take_fm hk] at h
 refine h a w hF (Hp.fsOut ?_)
 rw [hl,show updV vs k (q,c) k=(q,c) by simp [updV],ownTs_congr (vs':=vs) fun j hj=>by unfold updV;rw [if_neg (by omega)]]
 exact hH
end
theorem tot_pre {fs:List (List Term)} {i:Nat} (hi:i≤fs.length):tot (fs.take i)≤tot fs:=by
 conv=>rhs;rw [← List.take_append_drop i fs,tot_app]
 omega
theorem tot_fm {fs:List (List Term)} {i:Nat} (hi:i<fs.length):(fm fs i).length≤tot fs:=by
 have h1:=tot_succ hi;have h2:=tot_pre (fs:=fs) (i:=i+1) hi
 omega
theorem toFormS_c {B:World} {H0 H:HP} {L:List SA} {w:World} {qfs:Option Addr} {cfs:Nat} {fs:List (List Term)} (hfs:Forms H qfs fs) (hn:fs.length≤1048576) (hl : ∀i,i<fs.length→(fm fs i).length≤1048576) (hH:Hp B H0 H L w):Calls Tryz.prog 44 [.slice qfs fs.length cfs].toArray w fun e w'=>∃q c vs,e = .returned (.slice q fs.length c)∧Hp B H0 H (ownFs 39 152 q c vs fs::L) w':=by
 refine Jz Tryz.func44 rfl 23 rfl rfl [(0,.slice qfs fs.length cfs)] rfl hH ?_;clear hH;refine Je fun _ hK1 _=>(Jb (Jg (Jd rfl) rfl (Jf (Ja (hK1 (Je fun _ hK2 _=>(Jb (Jg (Jc rfl) rfl (Jg (Jn u23 rfl rfl) rfl (J.makeSl 152 (m:=fs.length) u33 ze39 sz39 by39 rfl rfl rfl rfl (by omega) rfl fun g7=>(Jg (Jd rfl) rfl (Jf (Ja (hK2 (Je fun _ hK3 _=>(Je fun _ hK4 _=>?_))))))))))))))));refine Jb (Jg (Jd rfl) rfl (Jf (Ja (hK4 (Jm (JD (σ:=Vs × Nat) (fun ⟨vs,k⟩=>[(4,.int .i64 (k:Int))]) (fun ⟨vs,k⟩=>H) (fun ⟨vs,k⟩=>obj g7 (.cells (fillF vs fs k).toArray 39 (0,0))::ownTs 152 vs (fs.take k)::L) (fun ⟨vs,k⟩=>k≤fs.length) (fun ⟨vs,k⟩=>fs.length - k) (nilVs,0) (by show 0≤fs.length;omega) ⟨rfl,trivial⟩ rfl (by simp [fillF,slicesC]) ?_))))));rintro ⟨vs,k⟩ hI _ hAg0;have hk:=hI;refine Je fun _ hK5 _=>(Je fun _ hK6 _=>(Jb (Jg (Jc rfl) rfl (Jg (Jc rfl) rfl (Jg (Jn u23 rfl rfl) rfl (Jg (JM rfl rfl) rfl (Jf (Ja (hK6 (Jp rfl (fun h11=>?_) (fun h11=>?_)))))))))))
 ·
  have hlk:=hl k (by omega);refine Jo (Ja (hK5 (Je fun _ hK7 _=>(Jm (Jb (Jg (Jc rfl) rfl (Jg (Jc rfl) rfl (Jg (Jc rfl) rfl (Jg (Jc rfl) rfl (Jg (JO u23 sz28 rfl rfl rfl (by omega) hfs.sm) rfl ?_))))))))));obtain ⟨qe19,ce19,he19,le19,Fe19⟩:=hfs k (by omega);refine Jg (JR (cs:=[_]) rfl (one_cell he19) (hfs.sm (i:=k) (by omega)) ag28) rfl (Jw fn18 rfl rfl fun w hH=>(toForm_c Fe19 (by omega) hH).mono ?_);rintro _ w ⟨qo20,co20,rfl,hH⟩;refine ⟨_,rfl,fun a hF=>JK hF hH ?_⟩;refine Jg (PR.idxO1 u33 sz39 rfl rfl rfl (by omega)) rfl (J.stores (vs:=[.slice qo20 (fm fs k).length co20]) rfl rfl rfl (by simp [Value.oneCell']) sz39 (by rw [fillF_len (by omega)];simp;omega) (.s .z) (Jf (JF (Ja (hK7 (Jb (Jg (Jc rfl) rfl (Jg (JC rfl rfl (by first | exact nw _ (by omega) | rfl)) rfl (Jg (Jd rfl) rfl (Jf (Ja (Jr (.s .z) (Jr (.s (.s .z)) (Jr (.s (.s .z)) (EJ.tsSnoc (by omega) ?_)))))))))))))));refine Jr .z (Jr (.s .z) ?_);exact hAg0 (updV vs k (qo20,co20),k+1) (by show k+1≤fs.length;omega) (by show fs.length - (k+1)<fs.length - k;omega) 16 rfl rfl ⟨rfl,trivial⟩ rfl (by dsimp only;rw [← fillF_step (by omega)];rfl)
 ·
  refine JG (Jj (Jj (JP (Ja (hK3 (Je fun _ hK8 _=>(Jb (Jg (Jc rfl) rfl (Jg (Jd rfl) rfl (Jf (Ja (hK8 (Js (Jq rfl (Res.tmp rfl) fun w hH=>?_))))))))))))));replace hH:=hH.sublist (.cons_cons _ (.cons_cons _ (List.Sublist.refl _)))
  obtain rfl:k=fs.length:=by omega
  rw [fillF_end,List.take_length] at hH;exact ⟨_,_,_,rfl,(own_full _ 1 hH (by simp) (by simp only [maxLen];omega)).star⟩
theorem szFormS_c {B:World} {H0 H:HP} {L:List SA} {w:World} {qfs:Option Addr} {cfs:Nat} {fs:List (List Term)} {left:Int} (hfs:Forms H qfs fs) (hn:0≤left∧left≤1000000000∧fs.length≤9223372036854775807) (hl : ∀i,i<fs.length→(fm fs i).length≤9223372036854775807) (hH:Hp B H0 H L w):Calls Tryz.prog 42 [.slice qfs fs.length cfs,.int .i64 left].toArray w fun e w'=>e = .returned (.int .i64 (szv (left - fs.length - tot fs)))∧Hp B H0 H L w':=by
 refine Jz Tryz.func42 rfl 27 rfl rfl [(0,.slice qfs fs.length cfs),(1,.int .i64 left)] rfl hH ?_;clear hH;refine Je fun _ hK1 _=>(Jb (Jg (Jd rfl) rfl (Jf (Ja (hK1 (Je fun _ hK2 _=>(Jb (Jg (Jc rfl) rfl (Jg (Jc rfl) rfl (Jg (Jn u23 rfl rfl) rfl (Jg (EM rfl rfl (by first | exact nw _ (by omega) | rfl)) rfl (Jg (Jd rfl) rfl (Jf (Ja (hK2 (Je fun _ hK3 _=>?_))))))))))))))));refine Je fun _ hK4 _=>(Jb (Jg (Jc rfl) rfl (Jg (JM rfl rfl) rfl (Jf (Ja (hK4 (Jp rfl (fun h11=>?_) (fun h11=>?_))))))))
 ·
  refine Je fun _ hK5 _=>(Jb (Jg (Jd rfl) rfl (Jf (Ja (hK5 (Js (Jk (Jq rfl (Res.tmp rfl) fun w hH=>?_))))))));exact ⟨ri (by unfold szv;rw [if_pos (by omega)]),hH⟩
 ·
  refine Jo (Ja (hK3 (Je fun _ hK6 _=>(Je fun _ hK7 _=>(Jb (Jg (Jd rfl) rfl (Jf (Ja (hK7 (Jm (JD (σ:=Nat) (fun (k:Nat)=>[(5,.int .i64 (k:Int)),(1,.int .i64 (left - fs.length - tot (fs.take k)))]) (fun (k:Nat)=>H) (fun (k:Nat)=>L) (fun (k:Nat)=>k≤fs.length∧0≤left - fs.length - tot (fs.take k)) (fun (k:Nat)=>fs.length - k) 0 ⟨by omega,by simp [tot];omega⟩ ⟨rfl,⟨(vi (by simp [tot])),trivial⟩⟩ rfl rfl ?_)))))))))));rintro k ⟨hk,hI⟩ _ hAg0
  skip
  refine Je fun _ hK8 _=>(Je fun _ hK9 _=>(Jb (Jg (Jc rfl) rfl (Jg (Jc rfl) rfl (Jg (Jn u23 rfl rfl) rfl (Jg (JM rfl rfl) rfl (Jf (Ja (hK9 (Jp rfl (fun h15=>?_) (fun h15=>?_)))))))))))
  ·
   have hlk:=hl k (by omega);have ts:=tot_succ (fs:=fs) (i:=k) (by omega);have tp:=tot_pre (fs:=fs) (i:=k+1) (by omega);refine Jo (Ja (hK8 (Je fun _ hK10 _=>(Jm (Je fun _ hK11 _=>(Jb (Jg (Jc rfl) rfl (Jg (Jc rfl) rfl (Jg (JO u23 sz28 rfl rfl rfl (by omega) hfs.sm) rfl ?_)))))))));obtain ⟨qe21,ce21,he21,le21,Fe21⟩:=hfs k (by omega);refine Jg (JR (cs:=[_]) rfl (one_cell he21) (hfs.sm (i:=k) (by omega)) ag28) rfl (Jg (Jc rfl) rfl (Jw fn15 rfl rfl fun w hH=>(szForm_c Fe21 (by omega) hH).mono ?_));rintro _ w ⟨rfl,hH⟩;refine ⟨_,rfl,fun a hF=>JK hF hH ?_⟩;refine Jg (Jd rfl) rfl (Jf (Ja (hK11 (Je fun _ hK12 _=>(Jb (Jg (Jc rfl) rfl (Jg (JM rfl rfl) rfl (Jf (Ja (hK12 (Jp rfl (fun h25=>?_) (fun h25=>?_))))))))))))
   ·
    refine Je fun _ hK13 _=>(Jb (Jg (Jd rfl) rfl (Jf (Ja (hK13 (Js (JT (Jk (Jk (JT (Jk (Jq rfl (Res.tmp rfl) fun w hH=>?_))))))))))));exact ⟨ri (by unfold szv;rw [if_pos (by split at h25 <;> omega)]),hH⟩
   ·
    refine Jo (JF (Ja (hK10 (Jb (Jg (Jc rfl) rfl (Jg (JC rfl rfl (by first | exact nw _ (by omega) | rfl)) rfl (Jg (Jd rfl) rfl (Jf (Ja ?_)))))))));exact hAg0 (k+1) ⟨by omega,by split at h25 <;> omega⟩ (by omega) 18 rfl rfl ⟨rfl,⟨(vi (by split at h25 <;> split <;> omega)),trivial⟩⟩ rfl rfl
  ·
   refine JG (Jj (Jj (JP (Ja (hK6 (Je fun _ hK14 _=>(Jb (Jg (Jc rfl) rfl (Jg (Jd rfl) rfl (Jf (Ja (hK14 (Js (Jq rfl (Res.tmp rfl) fun w hH=>?_))))))))))))))
   obtain rfl:k=fs.length:=by omega
   rw [List.take_length] at hI ⊢;exact ⟨ri (by unfold szv;rw [if_neg (by omega)]),hH⟩
theorem szInt64S_c {B:World} {H0 H:HP} {L:List SA} {w:World} {qxs:Option Addr} {cxs:Nat} {xs:List Int} {left:Int} (hxs:Ints H qxs xs) (hn:0≤left∧left≤1000000000∧xs.length≤9223372036854775807) (hH:Hp B H0 H L w):Calls Tryz.prog 54 [.slice qxs xs.length cxs,.int .i64 left].toArray w fun e w'=>e = .returned (.int .i64 (if left - xs.length<0 then -1 else left - xs.length))∧Hp B H0 H L w':=by
 refine Jz Tryz.func54 rfl 12 rfl rfl [(0,.slice qxs xs.length cxs),(1,.int .i64 left)] rfl hH ?_;clear hH;refine Je fun _ hK1 _=>(Jb (Jg (Jd rfl) rfl (Jf (Ja (hK1 (Je fun _ hK2 _=>(Jb (Jg (Jc rfl) rfl (Jg (Jc rfl) rfl (Jg (Jn u22 rfl rfl) rfl (Jg (EM rfl rfl (by first | exact nw _ (by omega) | rfl)) rfl (Jg (Jd rfl) rfl (Jf (Ja (hK2 (Je fun _ hK3 _=>?_))))))))))))))));refine Je fun _ hK4 _=>(Jb (Jg (Jc rfl) rfl (Jg (JM rfl rfl) rfl (Jf (Ja (hK4 (Jp rfl (fun h10=>?_) (fun h10=>?_))))))))
 ·
  refine Je fun _ hK5 _=>(Jb (Jg (Jd rfl) rfl (Jf (Ja (hK5 (Js (Jk (Jq rfl (Res.tmp rfl) fun w hH=>?_))))))));exact ⟨ri (if_pos h10).symm,hH⟩
 ·
  refine Jo (Ja (hK3 (Je fun _ hK6 _=>(Jb (Jg (Jc rfl) rfl (Jg (Jd rfl) rfl (Jf (Ja (hK6 (Js (Jq rfl (Res.tmp rfl) fun w hH=>?_)))))))))));exact ⟨ri (if_neg h10).symm,hH⟩
theorem szAlgebra_c {B:World} {H0 H:HP} {L:List SA} {w:World} {qad qaf:Option Addr} {cad caf:Nat} {ad:List Int} {af:List (List Term)} {left:Int} (had:Ints H qad ad) (haf:Forms H qaf af) (hn:0≤left∧left≤1000000000∧ad.length≤9223372036854775807∧af.length≤9223372036854775807) (hl : ∀i,i<af.length→(fm af i).length≤9223372036854775807) (hH:Hp B H0 H L w):Calls Tryz.prog 14 [.agg [.slice qad ad.length cad,.slice qaf af.length caf].toArray,.int .i64 left].toArray w fun e w'=>e = .returned (.int .i64 (szv (left - ad.length - af.length - tot af)))∧Hp B H0 H L w':=by
 refine Jz Tryz.func14 rfl 18 rfl rfl [(0,.agg [.slice qad ad.length cad,.slice qaf af.length caf].toArray),(1,.int .i64 left)] rfl hH ?_;clear hH;refine Je fun _ hK1 _=>(Jb (Ed rfl rfl rfl fun g2=>(Jg (Jd rfl) rfl (Jf (Ja (hK1 (Je fun _ hK2 _=>(Jb (Jg (Jv u25 rfl sz22 rfl) rfl (Jg (Jy rfl At.z rfl pl22) rfl (Jg (Jc rfl) rfl (Jw fn54 rfl rfl fun w hH=>(szInt64S_c had (by omega) hH).mono ?_))))))))))));rintro _ w ⟨rfl,hH⟩;refine ⟨_,rfl,fun a hF=>JK hF hH ?_⟩;refine Jg (Jd rfl) rfl (Jf (Ja (hK2 (Je fun _ hK3 _=>(Je fun _ hK4 _=>(Jb (Jg (Jc rfl) rfl (Jg (JM rfl rfl) rfl (Jf (Ja (hK4 (Jp rfl (fun h10=>?_) (fun h10=>?_)))))))))))))
 ·
  refine Je fun _ hK5 _=>(Jb (Jg (Jd rfl) rfl (Jf (Ja (hK5 (Js (Jk (Jq rfl (Res.tmp rfl) fun w hH=>?_))))))));replace hH:=hH.tail;exact ⟨ri (by unfold szv;rw [if_pos (by split at h10 <;> omega)]),hH⟩
 ·
  refine Jo (Ja (hK3 (Je fun _ hK6 _=>(Jb (Jg (Jv u25 rfl sz23 rfl) rfl (Jg (Jy rfl At.z rfl pl23) rfl (Jg (Jc rfl) rfl (Jw fn42 rfl rfl fun w hH=>(szFormS_c haf (by split at h10 <;> split <;> omega) hl hH).mono ?_))))))));rintro _ w ⟨rfl,hH⟩;refine ⟨_,rfl,fun a hF=>JK hF hH ?_⟩;refine Jg (Jd rfl) rfl (Jf (Ja (hK6 (Je fun _ hK7 _=>(Je fun _ hK8 _=>(Jb (Jg (Jc rfl) rfl (Jg (JM rfl rfl) rfl (Jf (Ja (hK8 (Jp rfl (fun h16=>?_) (fun h16=>?_)))))))))))))
  ·
   refine Je fun _ hK9 _=>(Jb (Jg (Jd rfl) rfl (Jf (Ja (hK9 (Js (Jk (Jq rfl (Res.tmp rfl) fun w hH=>?_))))))));replace hH:=hH.tail;have e9:=h16;unfold szv at e9 ⊢;exact ⟨ri (by rw [if_pos (by split at h10 <;> split at e9 <;> omega)]),hH⟩
  ·
   refine Jo (Ja (hK7 (Je fun _ hK10 _=>(Jb (Jg (Jc rfl) rfl (Jg (Jd rfl) rfl (Jf (Ja (hK10 (Js (Jq rfl (Res.tmp rfl) fun w hH=>?_)))))))))));replace hH:=hH.tail;exact ⟨ri (by unfold szv at h16 ⊢;split at h10 <;> split at h16 <;> split <;> omega),hH⟩
theorem toAlgebra_c {B:World} {H0 H:HP} {L:List SA} {w:World} {qad qaf:Option Addr} {cad caf:Nat} {ad:List Int} {af:List (List Term)} (had:Ints H qad ad) (haf:Forms H qaf af) (hn:ad.length≤1048576∧af.length≤1048576) (hl : ∀i,i<af.length→(fm af i).length≤1048576) (hH:Hp B H0 H L w):Calls Tryz.prog 17 [.agg [.slice qad ad.length cad,.slice qaf af.length caf].toArray].toArray w fun e w'=>∃qd cd qf cf vs,e = .returned (.agg [.slice qd ad.length cd,.slice qf af.length cf].toArray)∧Hp B H0 H (own 2 1 qd ad.length cd (intsC ad)::ownFs 39 152 qf cf vs af::L) w':=by
 refine Jz Tryz.func17 rfl 13 rfl rfl [(0,.agg [.slice qad ad.length cad,.slice qaf af.length caf].toArray)] rfl hH ?_;clear hH;refine Je fun _ hK1 _=>(Jb (Ed rfl rfl rfl fun g1=>(JV ze35 rfl fun g2=>(Jf (Ja (hK1 (Je fun _ hK2 _=>(Jb (JV ze35 rfl fun g3=>(Jf (Ja (hK2 (Je fun _ hK3 _=>(Jb (Jg (Jv u25 rfl sz22 rfl) rfl (Jg (Jy rfl (.s (.s .z)) rfl pl22) rfl ?_))))))))))))))));refine Jw fn58 rfl rfl fun w hH=>(toInt64S_c had (by omega) hH).mono ?_;rintro _ w ⟨qo6,co6,rfl,hH⟩;refine ⟨_,rfl,fun a hF=>JK hF hH ?_⟩;refine Jg (Jv u35 rfl sz22 rfl) rfl (Es rfl rfl rfl rfl sz22 (by simp [*]) (.s .z) (Jf (Ja (hK3 (Je fun _ hK4 _=>(Jb (Jg (Jv u25 rfl sz23 rfl) rfl (Jg (Jy rfl (.s (.s (.s .z))) rfl pl23) rfl (Jw fn44 rfl rfl fun w hH=>(toFormS_c haf (by omega) hl hH).mono ?_)))))))));rintro _ w ⟨qo10,co10,vso10,rfl,hH⟩;refine ⟨_,rfl,fun a hF=>JK hF hH ?_⟩;refine Jg (Jv u35 rfl sz33 rfl) rfl (Es rfl rfl rfl rfl sz33 (by simp [*]) (.s (.s .z)) (Jf (Ja (hK4 (Je fun _ hK5 _=>(Jb (Jg (Jx rfl (.s (.s .z)) (by simpa [*] using ag35)) rfl (JJ rfl rfl (by first | exact bytesC_one _ | exact intsC_one _ | exact Term.c_one _ | simp [Value.oneCell']) (by simpa [*] using sz35) (by simp [*]) (.s (.s (.s .z))) (Jf (Ja (hK5 (Js (Jq rfl (Res.agg rfl (.s (.s (.s .z))) (by simpa [*] using ag35)) fun w hH=>?_)))))))))))));replace hH:=hH.sublist (.cons_cons _ (.cons_cons _ (.cons _ (.cons _ (.cons _ (List.Sublist.refl _))))));exact ⟨_,_,_,_,_,rfl,hH.front (.s .z)⟩
section
variable {P : Program} {n : Nat} {B : World} {H0 H : HP} {us : List (Nat × Value)} {L : List SA} {t : TypeId} {x : Operand}
theorem PR.loadHb {ty:TypeId} {b:Nat} {u v:Value} (hx:opv us x=some (.pointer (some ⟨b,0,none⟩))) (h0:CellAt H b 0 u) (h1:CellAt H b 1 v) (hp:Agg P ty 2):PR P n B H0 us H L (.load ty x) t (.agg [u,v].toArray):=
 JR (q:=some ⟨b,0,none⟩) (k:=0) (cs:=[u,v]) hx (fun j w hj=>by
  match j,hj with
  | 0,hj=>simp at hj;subst hj;exact h0
  | 1,hj=>simp at hj;subst hj;exact h1
  | j+2,hj=>simp at hj) rfl hp
end
theorem isAlg_deg {ds:List Int} {fs:List (List Term)} (h:isAlg ds fs=true):isDeg ds=true:=by
 unfold isAlg at h;simp only [Bool.and_eq_true] at h;exact h.1.1.1
def wrd (m:List Int):Nat→Int
 | 0=>0
 | k+1=>wrd m k+m.getD k 0
theorem u81:Tryz.prog.underlying 81=some (TypeDesc.pointer 35):=by kernel_rfl
theorem pl81:Plain Tryz.prog 81:=⟨_,u81,rfl⟩
theorem fn132:Fn Tryz.prog 132:=⟨_,Tryz.func132,by kernel_rfl,rfl⟩
theorem fn81:Fn Tryz.prog 81:=⟨_,Tryz.func81,by kernel_rfl,rfl⟩
theorem u57:Tryz.prog.underlying 57=some (TypeDesc.slice 22):=by kernel_rfl
theorem rows_eq_of {xs ys:List (List Int)} (hl:(xs.length:Int)=ys.length) (h : ∀j,j<xs.length→rw_ xs j=rw_ ys j):xs=ys:=by
 apply List.ext_getElem (by omega);intro j h1 h2;have:=h j h1
 rwa [rw_,rw_,List.getD_eq_getElem?_getD,List.getD_eq_getElem?_getD,List.getElem?_eq_getElem h1,List.getElem?_eq_getElem h2] at this
theorem eqInt64SS_c {B:World} {H0 H:HP} {L:List SA} {w:World} {qxs:Option Addr} {cxs:Nat} {xs:List (List Int)} {qys:Option Addr} {cys:Nat} {ys:List (List Int)} (hxs:RowsR H qxs xs) (hys:RowsR H qys ys) (hn:xs.length≤9223372036854775807) (hf : ∀i,i<xs.length→(rw_ xs i).length≤1048576) (hH:Hp B H0 H L w):Calls Tryz.prog 39 [.slice qxs xs.length cxs,.slice qys ys.length cys].toArray w fun e w'=>e = .returned (.bool (decide (xs=ys)))∧Hp B H0 H L w':=by
 refine Jz Tryz.func39 rfl 27 rfl rfl [(0,.slice qxs xs.length cxs),(1,.slice qys ys.length cys)] rfl hH ?_;clear hH;refine Je fun _ hK1 _=>(Jb (Jg (Jd rfl) rfl (Jf (Ja (hK1 (Je fun _ hK2 _=>(Je fun _ hK3 _=>(Jb (Jg (Jc rfl) rfl (Jg (Jn u57 rfl rfl) rfl (Jg (Jc rfl) rfl (Jg (Jn u57 rfl rfl) rfl (Jg (Em rfl rfl) rfl (Jf (Ja (hK3 ?_))))))))))))))));refine Jp rfl (fun h10=>?_) (fun h10=>?_)
 ·
  refine Je fun _ hK4 _=>(Jb (Jg (Jd rfl) rfl (Jf (Ja (hK4 (Js (Jk (Jq rfl (Res.tmp rfl) fun w hH=>?_))))))));exact ⟨rb (decide_eq_false (fun e=>h10 (by rw [e]))).symm,hH⟩
 ·
  refine Jo (Ja (hK2 (Je fun _ hK5 _=>(Je fun _ hK6 _=>(Jb (Jg (Jd rfl) rfl (Jf (Ja (hK6 (Jm (JD (σ:=Nat) (fun (k:Nat)=>[(5,.int .i64 (k:Int))]) (fun (k:Nat)=>H) (fun (k:Nat)=>L) (fun (k:Nat)=>k≤xs.length∧∀j,j<k→rw_ xs j=rw_ ys j) (fun (k:Nat)=>xs.length - k) 0 ⟨by omega,fun j hj=>by omega⟩ ⟨rfl,trivial⟩ rfl rfl ?_)))))))))));rintro k hI _ hAg0;have hk:=hI.1;refine Je fun _ hK7 _=>(Je fun _ hK8 _=>(Jb (Jg (Jc rfl) rfl (Jg (Jc rfl) rfl (Jg (Jn u57 rfl rfl) rfl (Jg (JM rfl rfl) rfl (Jf (Ja (hK8 (Jp rfl (fun hc14=>?_) (fun hc14=>?_)))))))))))
  ·
   refine Jo (Ja (hK7 (Je fun _ hK9 _=>(Jm (Je fun _ hK10 _=>(Eo [[], [], [0,1], [2], [], [], [4,5], [6]] (by kernel_rfl) (JA (fun gh=>Jc rfl) (JA (fun gh=>Jc rfl) (JA (fun gh=>JO u57 sz22 rfl rfl rfl (by omega) hxs.sm) ?_)))))))));obtain ⟨qe20,ce20,he20,le20,Fe20⟩:=hxs k (by omega);refine JA (fun gh=>JB rfl he20 pl22) (JA (fun gh=>Jc rfl) (JA (fun gh=>Jc rfl) (JA (fun gh=>JO u57 sz22 rfl rfl rfl (by omega) hys.sm) ?_)));obtain ⟨qe24,ce24,he24,le24,Fe24⟩:=hys k (by omega);refine JA (fun gh=>JB rfl he24 pl22) (Eb 8 1 foll0 (by kernel_rfl) rfl rfl fun gh=>(En (us':=(17,_)::(18,_)::(19,_)::(20,_)::(21,_)::(22,_)::(23,_)::(24,_)::_) (L':=_) rfl rfl (Jw fn24 rfl rfl fun w hH=>(eqInt64S_c Fe20 Fe24 (hf k (by omega)) hH).mono ?_)));rintro _ w ⟨rfl,hH⟩;refine ⟨_,rfl,fun a hF=>JK hF hH ?_⟩;refine Jf (Ec (JE (Ek rfl) rfl (Ee (Ja (hK10 (Eg rfl (fun h26=>?_) (fun h26=>?_)))))))
   ·
    refine Je fun _ hK11 _=>(Jb (Jg (Jd rfl) rfl (Jf (Ja (hK11 (Js (JT (Jk (Jk (JT (Jk (Jq rfl (Res.tmp rfl) fun w hH=>?_))))))))))));exact ⟨rb (decide_eq_false (fun e=>(by rw [e] at h26;simp at h26))).symm,hH⟩
   ·
    refine Jo (JF (Ja (hK9 (Jb (Jg (Jc rfl) rfl (Jg (JC rfl rfl (by first | exact nw _ (by omega) | rfl)) rfl (Jg (Jd rfl) rfl (Jf (Ja ?_)))))))));exact hAg0 (k+1) ⟨by omega,upto hI.2 (of_decide_eq_true (notf h26))⟩ (by omega) 18 rfl rfl ⟨rfl,trivial⟩ rfl rfl
  ·
   refine JG (Jj (Jj (JP (Ja (hK5 (Je fun _ hK12 _=>(Jb (Jg (Jd rfl) rfl (Jf (Ja (hK12 (Js (Jq rfl (Res.tmp rfl) fun w hH=>?_)))))))))))));exact ⟨rb (decide_eq_true (rows_eq_of (by omega) (fun j hj=>hI.2 j (by omega)))).symm,hH⟩
def ClR (B:World) (H0 H:HP) (g:Nat) (cap:Array Value) (S:List Int→Prop) (p:List Int→Bool):Prop:=∀(H':HP) (L:List SA) (w:World) (q:Option Addr) (c:Nat) (x:List Int),Le H H' →S x→Ints H' q x→Hp B H0 H' L w→Calls Tryz.prog g (#[]++[.slice q x.length c].toArray++cap) w fun e w'=>e = .returned (.bool (p x))∧Hp B H0 H' L w'
def idxR (xs:List (List Int)) (p:List Int→Bool):Int:=if xs.any p then (xs.findIdx p:Int) else -1
theorem rw_eq {xs:List (List Int)} {j:Nat} (hj:j<xs.length):xs[j]=rw_ xs j:=by simp [rw_,List.getD_eq_getElem?_getD,List.getElem?_eq_getElem hj]
theorem idxR_hit {xs:List (List Int)} {p:List Int→Bool} {k:Nat} (hk:k<xs.length) (h : ∀j,j<k→p (rw_ xs j)=false) (hp:p (rw_ xs k)=true):idxR xs p=k:=by
 unfold idxR;have ha:xs.any p=true:=List.any_eq_true.2 ⟨xs[k],List.getElem_mem hk,by rw [rw_eq];exact hp⟩;rw [if_pos ha]
 have:xs.findIdx p=k:=by
  rw [List.findIdx_eq hk];exact ⟨by rw [rw_eq];exact hp,fun j hj=>by rw [rw_eq];exact h j hj⟩
 rw [this]
theorem idxR_miss {xs:List (List Int)} {p:List Int→Bool} (h : ∀j,j<xs.length→p (rw_ xs j)=false):idxR xs p = -1:=by
 unfold idxR;rw [if_neg];intro ha;obtain ⟨x,hx,hp⟩:=List.any_eq_true.1 ha;obtain ⟨j,hj,rfl⟩:=List.mem_iff_getElem.1 hx;rw [rw_eq hj,h j hj] at hp
 cases hp
theorem IndexFuncR_c {B:World} {H0 H:HP} {L:List SA} {w:World} {qxs:Option Addr} {cxs:Nat} {xs:List (List Int)} {gp:Nat} {capp:Array Value} {Sp:List Int→Prop} {p:List Int→Bool} (hxs:RowsR H qxs xs) (hgp:Fn Tryz.prog gp) (hp:ClR B H0 H gp capp Sp p) (hn:xs.length≤9223372036854775807) (hS : ∀i,i<xs.length→Sp (rw_ xs i)) (hH:Hp B H0 H L w):Calls Tryz.prog 142 [.slice qxs xs.length cxs,.func (.func gp) #[] capp].toArray w fun e w'=>e = .returned (.int .i64 (idxR xs p))∧Hp B H0 H L w':=by
 refine Jz Tryz.func142 rfl 19 rfl rfl [(0,.slice qxs xs.length cxs),(1,.func (.func gp) #[] capp)] rfl hH ?_;clear hH;refine Je fun _ hK1 _=>(Jb (Jg (Jd rfl) rfl (Jf (Ja (hK1 (Je fun _ hK2 _=>(Je fun _ hK3 _=>(Jb (Jg (Jc rfl) rfl (Jg (Jn u57 rfl rfl) rfl (Jg (Jc rfl) rfl (Jf (Ja (hK3 (Jm (JD (σ:=Nat) (fun (k:Nat)=>[(8,.int .i64 (k:Int))]) (fun (k:Nat)=>H) (fun (k:Nat)=>L) (fun (k:Nat)=>k≤xs.length∧∀j,j<k→p (rw_ xs j)=false) (fun (k:Nat)=>xs.length - k) 0 ⟨by omega,fun j hj=>by omega⟩ ⟨rfl,trivial⟩ rfl rfl ?_))))))))))))))));rintro k hI _ hAg0;have hk:=hI.1;refine Je fun _ hK4 _=>(Jb (Jg (JM rfl rfl) rfl (Jf (Ja (hK4 (Je fun _ hK5 _=>(Jp rfl (fun hc9=>?_) (fun hc9=>?_))))))))
 ·
  refine Jo (Ja (hK5 (Je fun _ hK6 _=>(Jm (Je fun _ hK7 _=>(Jb (Jg (Jc rfl) rfl (Jg (Jd rfl) rfl (Jf (Ja (hK7 (Je fun _ hK8 _=>(Jb (Jg (Jc rfl) rfl (Jg (Jc rfl) rfl (Jg (Jc rfl) rfl ?_))))))))))))))));refine Jg (JO u57 sz22 rfl rfl rfl (by omega) hxs.sm) rfl ?_;obtain ⟨qe15,ce15,he15,le15,Fe15⟩:=hxs k (by omega);refine Jg (JB rfl he15 pl22) rfl (J.callV hgp rfl rfl rfl fun w hH=>(hp _ _ w _ _ _ (Le.refl _) (hS _ (by omega)) Fe15 hH).mono ?_);rintro _ w ⟨rfl,hH⟩;refine ⟨_,rfl,fun a hF=>JK hF hH ?_⟩;refine Jf (Ja (hK8 (Eg rfl (fun h16=>?_) (fun h16=>?_))))
  ·
   refine Je fun _ hK9 _=>(Jb (Jg (Jc rfl) rfl (Jg (Jd rfl) rfl (Jf (Ja (hK9 (Js (JT (Jk (Jk (JT (Jk (Jq rfl (Res.tmp rfl) fun w hH=>?_)))))))))))));exact ⟨ri (idxR_hit (by omega) hI.2 h16).symm,hH⟩
  ·
   refine Jo (JF (Ja (hK6 (Jb (Jg (JC rfl rfl (by first | exact nw _ (by omega) | rfl)) rfl (Jg (Jc rfl) rfl (Jf (Ja ?_))))))));exact hAg0 (k+1) ⟨by omega,upto hI.2 h16⟩ (by omega) 12 rfl rfl ⟨rfl,trivial⟩ rfl rfl
 ·
  refine JG (Jj (Jj (JP (Ja (hK2 (Je fun _ hK10 _=>(Jb (Jg (Jd rfl) rfl (Jf (Ja (hK10 (Js (Jq rfl (Res.tmp rfl) fun w hH=>?_)))))))))))));exact ⟨ri (idxR_miss (fun j hj=>hI.2 j (by omega))).symm,hH⟩
theorem wsum_zero {ds m:List Int} (h : ∀j,m.getD j 0=0) : ∀n:Nat,wsum ds m n=0
 | 0=>rfl
 | n+1=>by simp only [wsum];rw [wsum_zero h n,h n];simp
theorem isDeg_pos1 {ds:List Int} (h:isDeg ds=true) : ∀j,j<ds.length→1≤ds.getD j 0:=by
 intro j hj;unfold isDeg at h;rw [Bool.and_eq_true] at h;have:=List.all_eq_true.1 h.2 (ds.getD j 0) (by rw [List.getD_eq_getElem?_getD,List.getElem?_eq_getElem hj];exact List.getElem_mem hj);rw [Bool.and_eq_true,decide_eq_true_eq] at this
 omega
theorem wrd_nn {m:List Int} (hm : ∀j,0≤m.getD j 0) : ∀n:Nat,0≤wrd m n
 | 0=>by simp [wrd]
 | n+1=>by have h1:=wrd_nn hm n;have h2:=hm n;simp only [wrd];omega
theorem fn27:Fn Tryz.prog 27:=⟨_,Tryz.func27,by kernel_rfl,rfl⟩
theorem markInt64SS_s {B:World} {H0 H:HP} {L:List SA} {w:World} {qfs:Option Addr} {cfs:Nat} {vs:Vs} {fs:List (List Int)} {k:Int} (hn:0≤k∧k+(totI fs:Nat)≤9223372036854775807) (hl:fs.length≤9223372036854775807) (hq:0<fs.length→qfs.isSome=true) (hH:Hp B H0 H (emp::ownIs 2 vs fs::own 22 1 qfs fs.length cfs (slicesI vs fs)::L) w):Calls Tryz.prog 40 [.slice qfs fs.length cfs,.int .i64 k].toArray w fun e w'=>e = .returned (.int .i64 (k+(totI fs:Nat)))∧Hp B H0 H (ownIs 2 vs (marksIs k fs)::own 22 1 qfs fs.length cfs (slicesI vs fs)::L) w':=by
 refine Jz Tryz.func40 rfl 19 rfl rfl [(0,.slice qfs fs.length cfs),(1,.int .i64 k)] rfl hH ?_;clear hH;refine Je fun _ hK1 _=>(Jb (Jg (Jd rfl) rfl (Jf (Ja (hK1 (Je fun _ hK2 _=>(Je fun _ hK3 _=>(Jb (Jg (Jd rfl) rfl (Jf (Ja (hK3 (Jm (JD (σ:=Nat) (fun (i:Nat)=>[(5,.int .i64 (i:Int)),(1,.int .i64 (k+(totI (fs.take i):Nat)))]) (fun (i:Nat)=>H) (fun (i:Nat)=>ownIs 2 vs (marksIs k (fs.take i))::ownIs 2 (vs.dr i) (fs.drop i)::own 22 1 qfs fs.length cfs (slicesI vs fs)::L) (fun (i:Nat)=>i≤fs.length) (fun (i:Nat)=>fs.length - i) 0 (by omega) ⟨rfl,⟨(vi (by simp [totI])),trivial⟩⟩ rfl rfl ?_))))))))))))));rintro i hI _ hAg0;have hk:=hI;refine Je fun _ hK4 _=>(Je fun _ hK5 _=>(Jb (Jg (Jc rfl) rfl (Jg (Jc rfl) rfl (Jg (Jn u57 rfl rfl) rfl (Jg (JM rfl rfl) rfl (Jf (Ja (hK5 (Jp rfl (fun hc9=>?_) (fun hc9=>?_)))))))))))
 ·
  refine Jo (Ja (hK4 (Je fun _ hK6 _=>(Jm (Jb (Jg (Jc rfl) rfl (Jg (Jc rfl) rfl (Jg (JO u57 sz22 rfl rfl rfl (by omega) (fun _=>hq (by omega))) rfl (Jg (EE rfl (.s (.s .z)) (slicesI_get (i:=i) (by omega)) pl22) rfl (Jg (Jc rfl) rfl (Jw fn26 rfl rfl fun w hH=>(markInt64S_c (by have:=totI_take_le (fs:=fs) (i:=i) (by omega);omega) (Hp.isIn (i:=i) (hH.front (.s .z)) (by omega))).mono ?_)))))))))));rintro _ w ⟨rfl,hH⟩
  have hH2:=Hp.isOut (f:=marks (k+(totI (fs.take i):Nat)) (rw_ fs i).length) (vs:=vs) (gs:=marksIs k (fs.take i)) (by
   have e:(marksIs k (fs.take i)).length=i:=by simp;omega
   rw [e,marks_length]
   exact hH.front (.s (.s .z)) |>.front (.s .z))
  refine ⟨_,rfl,fun a hF=>JK hF hH2 ?_⟩;refine Jg (Jd rfl) rfl (Jf (JF (Ja (hK6 (Jb (Jg (Jc rfl) rfl (Jg (JC rfl rfl (by first | exact nw _ (by omega) | rfl)) rfl (Jg (Jd rfl) rfl (Jf (Ja ?_))))))))));exact hAg0 (i+1) (by omega) (by omega) 16 rfl rfl ⟨rfl,⟨(vi (by rw [totI_succ (by omega)];omega)),trivial⟩⟩ rfl (by rw [marksIs_succ (by omega)])
 ·
  refine JG (Jj (Jj (JP (Ja (hK2 (Je fun _ hK7 _=>(Jb (Jg (Jc rfl) rfl (Jg (Jd rfl) rfl (Jf (Ja (hK7 (Js (Jq rfl (Res.tmp rfl) fun w hH=>?_))))))))))))));replace hH:=hH.sublist (.cons_cons _ (.cons _ (.cons_cons _ (List.Sublist.refl _))))
  obtain rfl:i=fs.length:=by omega
  rw [List.take_length] at hH;exact ⟨by rw [List.take_length],hH⟩
theorem markInt64SS_c {B:World} {H0 H:HP} {L:List SA} {w:World} {q:Option Addr} {c:Nat} {vs:Vs} {fs:List (List Int)} {k:Int} (hn:0≤k∧k+(totI fs:Nat)≤9223372036854775807) (hl:fs.length≤9223372036854775807) (hH:Hp B H0 H (ownRs 22 2 q c vs fs::L) w):Calls Tryz.prog 40 [.slice q fs.length c,.int .i64 k].toArray w fun e w'=>e = .returned (.int .i64 (k+(totI fs:Nat)))∧Hp B H0 H (ownRs 22 2 q c vs (marksIs k fs)::L) w':=by
 have hu:=hH.unstar
 have hq:0<fs.length→q.isSome=true:=fun h=>by
  rcases (hu.objs _ (List.mem_cons_self)).1.2 with ⟨_,h2,_⟩ | ⟨g,cur,rfl,_⟩
  ·omega
  ·rfl
 refine (markInt64SS_s hn hl hq ((hu.front (.s .z)).emp)).mono ?_;rintro _ w ⟨rfl,h⟩;refine ⟨rfl,?_⟩;have h2:=(h.front (.s .z)).star;unfold ownRs;rw [slicesI_marks,marksIs_length];exact h2
theorem heldInt64SS_c {B:World} {H0 H:HP} {L:List SA} {w:World} {qxs:Option Addr} {cxs:Nat} {xs:List (List Int)} {kxs:Int} (hxs:MRows H qxs kxs xs) (hn:0≤kxs∧kxs+(totI xs:Nat)≤9223372036854775807) (hl:xs.length≤9223372036854775807) (hH:Hp B H0 H L w):Calls Tryz.prog 41 [.slice qxs xs.length cxs,.int .i64 kxs].toArray w fun e w'=>e = .returned (.int .i64 (kxs+(totI xs:Nat)))∧Hp B H0 H L w':=by
 refine Jz Tryz.func41 rfl 21 rfl rfl [(0,.slice qxs xs.length cxs),(1,.int .i64 kxs)] rfl hH ?_;clear hH;refine Je fun _ hK1 _=>(Jb (Jg (Jd rfl) rfl (Jf (Ja (hK1 (Je fun _ hK2 _=>(Je fun _ hK3 _=>(Jb (Jg (Jd rfl) rfl (Jf (Ja (hK3 (Jm (JD (σ:=Nat) (fun (i:Nat)=>[(5,.int .i64 (i:Int)),(1,.int .i64 (kxs+(totI (xs.take i):Nat)))]) (fun (i:Nat)=>H) (fun (i:Nat)=>L) (fun (i:Nat)=>i≤xs.length) (fun (i:Nat)=>xs.length - i) 0 (by omega) ⟨rfl,⟨(vi (by simp [totI])),trivial⟩⟩ rfl rfl ?_))))))))))))));rintro i hI _ hAg0;have hk:=hI;refine Je fun _ hK4 _=>(Je fun _ hK5 _=>(Jb (Jg (Jc rfl) rfl (Jg (Jc rfl) rfl (Jg (Jn u57 rfl rfl) rfl (Jg (JM rfl rfl) rfl (Jf (Ja (hK5 (Jp rfl (fun hc9=>?_) (fun hc9=>?_)))))))))))
 ·
  refine Jo (Ja (hK4 (Je fun _ hK6 _=>(Jm (Je fun _ hK7 _=>(Jb (Jg (Jc rfl) rfl (Jg (Jc rfl) rfl (Jg (JO u57 sz22 rfl rfl rfl (by omega) hxs.sm) rfl ?_)))))))));obtain ⟨qe15,ce15,he15,Fe15⟩:=hxs i (by omega);refine Jg (JB rfl he15 pl22) rfl (Jg (Jc rfl) rfl (Jw fn27 rfl rfl fun w hH=>(heldInt64S_c Fe15 (by have:=totI_take_le (fs:=xs) (i:=i) (by omega);omega) hH).mono ?_));rintro _ w ⟨rfl,hH⟩;refine ⟨_,rfl,fun a hF=>JK hF hH ?_⟩;refine Jg (Jd rfl) rfl (Jf (Ja (hK7 (Je fun _ hK8 _=>(Jb (Jg (Jc rfl) rfl (Jg (JM rfl rfl) rfl (Jf (Ja (hK8 (Jp rfl (fun hc19=>?_) (fun hc19=>?_))))))))))))
  ·
   refine Je fun _ hK9 _=>(Jb (Jg (Jd rfl) rfl (Jf (Ja (hK9 (Js (JT (Jk (Jk (JT (Jk (Jq rfl (Res.tmp rfl) fun w hH=>?_))))))))))))
   omega
  ·
   refine Jo (JF (Ja (hK6 (Jb (Jg (Jc rfl) rfl (Jg (JC rfl rfl (by first | exact nw _ (by omega) | rfl)) rfl (Jg (Jd rfl) rfl (Jf (Ja ?_)))))))));exact hAg0 (i+1) (by omega) (by omega) 18 rfl rfl ⟨rfl,⟨(vi (by rw [totI_succ (by omega)];omega)),trivial⟩⟩ rfl rfl
 ·
  refine JG (Jj (Jj (JP (Ja (hK2 (Je fun _ hK10 _=>(Jb (Jg (Jc rfl) rfl (Jg (Jd rfl) rfl (Jf (Ja (hK10 (Js (Jq rfl (Res.tmp rfl) fun w hH=>?_))))))))))))))
  obtain rfl:i=xs.length:=by omega
  exact ⟨by rw [List.take_length],hH⟩
theorem fn192:Fn Tryz.prog 192:=⟨_,Tryz.func192,by kernel_rfl,rfl⟩
theorem GrowI_c {B:World} {H0 H:HP} {L:List SA} {w:World} {n:Nat} (hn:n≤1048576) (hH:Hp B H0 H L w):Calls Tryz.prog 192 [.slice none 0 0,.int .i64 (n:Int)].toArray w fun e w'=>∃q c,e = .returned (.slice q ([]:List Int).length c)∧Hp B H0 H (own 2 1 q ([]:List Int).length c (intsC [])::L) w':=by
 refine Jz Tryz.func192 rfl 27 rfl rfl [(0,.slice none 0 0),(1,.int .i64 (n:Int))] rfl hH ?_;clear hH;refine Je fun _ hK1 _=>(Jb (Jg (Jd rfl) rfl (Jf (Ja (hK1 (Je fun _ hK2 _=>(Je fun _ hK3 _=>(Jb (Jg (Jc rfl) rfl (Jg (JM rfl rfl) rfl (Jf (Ja (hK3 (Jp rfl (fun h6=>?_) (fun h6=>?_)))))))))))))))
 ·
  exact absurd h6 (by omega)
 ·
  refine Jo (Ja (hK2 (Je fun _ hK4 _=>(Je fun _ hK5 _=>(Jb (Jg (Jc rfl) rfl (Jg (Jc rfl) rfl (Jg (PR.capS u22 rfl) rfl (Jg (Jc rfl) rfl (Jg (Jn u22 rfl rfl) rfl (Jg (EM rfl rfl (by first | exact nw _ (by omega) | rfl)) rfl (Jg (EM rfl rfl (by first | exact nw _ (by omega) | rfl)) rfl (Jg (Jd rfl) rfl (Jf (Ja (hK5 ?_))))))))))))))));refine Je fun _ hK6 _=>(Jb (Jg (Jc rfl) rfl (Jg (EB rfl rfl) rfl (Jf (Ja (hK6 (Jp rfl (fun h16=>?_) (fun h16=>?_))))))))
  ·
   refine Jb (Jg (Jc rfl) rfl (Jg (Jc rfl) rfl (Jg (PR.capS u22 rfl) rfl (Jg (PR.sliceHi (i':=0) u22 sz2 rfl rfl rfl (by omega)) rfl (Jg (Jc rfl) rfl (J.appendMk (m:=n) u22 u3 ze2 sz2 by2 rfl rfl rfl (by omega) (by omega) (by omega) rfl fun gG cG=>(Jg (Jc rfl) rfl (Jg (Jn u22 rfl rfl) rfl (Jg (PR.sliceHi (i':=0) u22 sz2 rfl rfl rfl (by omega)) rfl (Jg (Jd rfl) rfl (Jf (Ja (hK4 (Je fun _ hK7 _=>(Jb ?_)))))))))))))));refine Jg (Jc rfl) rfl (Jg (Jd rfl) rfl (Jf (Ja (hK7 (Js (Jq rfl (Res.tmp rfl) fun w hH=>?_))))));replace hH:=hH.sublist (.cons_cons _ (List.Sublist.refl _));exact ⟨some ⟨gG,0,none⟩,cG,rfl,hH⟩
  ·
   refine Jo (Ja (hK4 (Je fun _ hK8 _=>(Jb (Jg (Jc rfl) rfl (Jg (Jd rfl) rfl (Jf (Ja (hK8 (Js (Jq rfl (Res.tmp rfl) fun w hH=>?_)))))))))));replace hH:=hH.sublist (List.Sublist.refl _);exact ⟨none,0,rfl,hH.own0 2 1⟩
theorem ConcatI_c {B:World} {H0 H:HP} {L:List SA} {w:World} {qrs:Option Addr} {crs:Nat} {rs:List (List Int)} (hrs:RowsR H qrs rs) (hn:rs.length≤1048576) (ht:totI rs≤1048576) (hH:Hp B H0 H L w):Calls Tryz.prog 166 [.slice qrs rs.length crs].toArray w fun e w'=>∃q c,e = .returned (.slice q rs.flatten.length c)∧Hp B H0 H (own 2 1 q rs.flatten.length c (intsC rs.flatten)::L) w':=by
 refine Jz Tryz.func166 rfl 36 rfl rfl [(0,.slice qrs rs.length crs)] rfl hH ?_;clear hH;refine Je fun _ hK1 _=>(Jb (Jg (Jd rfl) rfl (Jf (Ja (hK1 (Je fun _ hK2 _=>(Jb (Jg (Jd rfl) rfl (Jf (Ja (hK2 (Je fun _ hK3 _=>(Je fun _ hK4 _=>(Jb (Jg (Jc rfl) rfl (Jg (Jn u57 rfl rfl) rfl ?_))))))))))))))));refine Jg (Jc rfl) rfl (Jf (Ja (hK4 (Jm (JD (σ:=Nat) (fun (k:Nat)=>[(11,.int .i64 (k:Int)),(3,.int .i64 ((totI (rs.take k):Nat):Int))]) (fun (k:Nat)=>H) (fun (k:Nat)=>L) (fun (k:Nat)=>k≤rs.length) (fun (k:Nat)=>rs.length - k) 0 (by omega) ⟨rfl,⟨(vi (by simp [totI])),trivial⟩⟩ rfl rfl ?_)))));rintro k hk _ hAg0;have htl:k<rs.length→totI (rs.take k)+(rw_ rs k).length≤totI rs:=fun h=>totI_take_le h;have hts:k<rs.length→totI (rs.take (k+1))=totI (rs.take k)+(rw_ rs k).length:=fun h=>totI_succ h;refine Je fun _ hK5 _=>(Jb (Jg (JM rfl rfl) rfl (Jf (Ja (hK5 (Je fun _ hK6 _=>(Jp rfl (fun hc12=>?_) (fun hc12=>?_))))))))
 ·
  refine Jo (Ja (hK6 (Je fun _ hK7 _=>(Jm (Je fun _ hK8 _=>(Jb (Jg (JO u57 sz22 rfl rfl rfl (by omega) hrs.sm) rfl ?_)))))));obtain ⟨qe14,ce14,he14,le14,Fe14⟩:=hrs k (by omega);refine Jg (JB rfl he14 pl22) rfl (Jg (Jd rfl) rfl (Jf (Ja (hK8 (Je fun _ hK9 _=>(Jb (Jg (Jc rfl) rfl (Jg (Jc rfl) rfl (Jg (Jn u22 rfl rfl) rfl (Jg (JC rfl rfl (by first | exact nw _ (by omega) | rfl)) rfl (Jg (Jd rfl) rfl (Jf (Ja (hK9 (Je fun _ hK10 _=>(Jb ?_))))))))))))))));refine Jg (Jc rfl) rfl (Jg (JM rfl rfl) rfl (Jf (Ja (hK10 (Jp rfl (fun h20=>?_) (fun h20=>?_))))))
  ·
   exact absurd h20 (by omega)
  ·
   refine Jo (JF (Ja (hK7 (Jb (Jg (JC rfl rfl (by first | exact nw _ (by omega) | rfl)) rfl (Jg (Jc rfl) rfl (Jf (Ja ?_))))))));exact hAg0 (k+1) (by omega) (by omega) 15 rfl rfl ⟨rfl,⟨(vi (by rw [hts (by omega)];omega)),trivial⟩⟩ rfl rfl
 ·
  refine JG (Jj (Jj (JP (Ja (hK3 (Je fun _ hK11 _=>(Jb (Jg (Jc (by rw [show k=rs.length by omega,List.take_length];rfl)) rfl (Jw fn192 rfl rfl fun w hH=>(GrowI_c (n:=totI rs) (by omega) hH).mono ?_)))))))));rintro _ w ⟨qo24,co24,rfl,hH⟩;refine ⟨_,rfl,fun a hF=>JK hF hH ?_⟩;refine Jg (Jd rfl) rfl (Jf (Ja (hK11 (Je fun _ hK12 _=>(Je fun _ hK13 _=>(Jb (Jg (Jc rfl) rfl (Jg (Jn u57 rfl rfl) rfl (Jg (Jc rfl) rfl (Jf (Ja (hK13 (Jm (JD (σ:=Option Addr × Nat × Nat) (fun ⟨q,c,k⟩=>[(27,.int .i64 (k:Int)),(6,.slice q (flK rs k).length c)]) (fun ⟨q,c,k⟩=>H) (fun ⟨q,c,k⟩=>own 2 1 q (flK rs k).length c (intsC (flK rs k))::L) (fun ⟨q,c,k⟩=>k≤rs.length) (fun ⟨q,c,k⟩=>rs.length - k) (qo24,co24,0) (by show 0≤rs.length;omega) ⟨rfl,⟨rfl,trivial⟩⟩ rfl rfl ?_))))))))))))));rintro ⟨q,c,k⟩ hk2 _ hAg1;have hfl:=flK_len rs k;have htl:k<rs.length→totI (rs.take k)+(rw_ rs k).length≤totI rs:=fun h=>totI_take_le h;refine Je fun _ hK14 _=>(Jb (Jg (JM rfl rfl) rfl (Jf (Ja (hK14 (Je fun _ hK15 _=>(Jp rfl (fun hc28=>?_) (fun hc28=>?_))))))))
  ·
   refine Jo (Ja (hK15 (Je fun _ hK16 _=>(Jm (Je fun _ hK17 _=>(Jb (Jg (JO u57 sz22 rfl rfl rfl (by omega) hrs.sm) rfl ?_)))))));obtain ⟨qe30,ce30,he30,le30,Fe30⟩:=hrs k (by omega);refine Jg (JB rfl he30 pl22) rfl (Jg (Jd rfl) rfl (Jf (Ja (hK17 (Jb (Jg (Jc rfl) rfl (Jg (Jc rfl) rfl (J.appendHI u22 ze2 sz2 by2 rfl rfl Fe30 (by omega) At.z (fun _ _=>At.z) rfl fun qo33 co33=>(Jg (Jd rfl) rfl (Jf (JF (Ja (hK16 (Jb (Jg (JC rfl rfl (by first | exact nw _ (by omega) | rfl)) rfl (Jg (Jc rfl) rfl ?_))))))))))))))));refine Jf (Ja ?_);exact hAg1 (qo33,co33,k+1) (by show k+1≤rs.length;omega) (by show rs.length - (k+1)<rs.length - k;omega) 12 rfl rfl ⟨rfl,⟨(by dsimp only;rw [flK_succ (by omega)];rfl),trivial⟩⟩ rfl (by dsimp only;rw [flK_succ (by omega)])
  ·
   refine JG (Jj (Jj (JP (Ja (hK12 (Je fun _ hK18 _=>(Jb (Jg (Jc rfl) rfl (Jg (Jd rfl) rfl (Jf (Ja (hK18 (Js (Jq rfl (Res.tmp rfl) fun w hH=>?_))))))))))))));replace hH:=hH.sublist (.cons_cons _ (List.Sublist.refl _))
   obtain rfl:k=rs.length:=by omega
   rw [flK_end] at hH ⊢;exact ⟨_,_,rfl,hH⟩
def cntB:Nat→Nat→Nat
 | 0,_=>1
 | n+1,s=>((List.range (s+1)).map (cntB n)).sum
theorem sum_ind (g:Nat→Nat) (k:Nat) : ∀N:Nat,((List.range N).map fun e=>g e+if k=e then 1 else 0).sum=((List.range N).map g).sum+if k<N then 1 else 0
 | 0=>rfl
 | N+1=>by
  rw [List.range_succ,List.map_append,List.map_append,List.sum_append,List.sum_append,sum_ind g k N]
  simp only [List.map_cons,List.map_nil,List.sum_cons,List.sum_nil]
  by_cases h1:k=N
  ·rw [if_pos h1,if_neg (by omega),if_pos (by omega)];omega
  ·by_cases h2:k<N
   ·rw [if_pos h2,if_neg h1,if_pos (by omega)];omega
   ·rw [if_neg h2,if_neg h1,if_neg (by omega)];omega
theorem part_len {α:Type} (f:α→Nat) (N:Nat) : ∀l:List α,(∀x∈l,f x<N)→l.length=((List.range N).map fun e=>(l.filter fun x=>decide (f x=e)).length).sum
 | [],_=>by
  simp only [List.filter_nil,List.length_nil]
  generalize List.range N=r
  induction r with
  | nil=>rfl
  | cons a r ih=>simpa using ih
 | x::l,h=>by
  have ih:=part_len f N l fun y hy=>h y (by simp [hy])
  have h0:=h x (by simp)
  have e:(fun e=>((x::l).filter fun x=>decide (f x=e)).length)=fun e=>(l.filter fun x=>decide (f x=e)).length+if f x=e then 1 else 0:=by
   funext e
   rw [List.filter_cons]
   by_cases h1:f x=e
   ·rw [if_pos (by simpa using h1),if_pos h1];rfl
   ·rw [if_neg (by simpa using h1),if_neg h1];rfl
  rw [e,sum_ind,if_pos h0,List.length_cons,← ih]
theorem sum_map_le {f g:Nat→Nat} : ∀l:List Nat,(∀e∈l,f e≤g e)→(l.map f).sum≤(l.map g).sum
 | [],_=>Nat.le_refl _
 | a::l,h=>by
  have h1:=sum_map_le l fun e he=>h e (by simp [he])
  have h2:=h a (by simp)
  simp only [List.map_cons,List.sum_cons]
  omega
theorem cnt_le : ∀(n s:Nat) (l:List (List Int)),l.Nodup→(∀p∈l,p.length=n∧(∀x∈p,0≤x)∧p.sum≤(s:Int))→l.length≤cntB n s
 | 0,s,l,hn,h=>by
  match l,hn,h with
  | [],_,_=>simp [cntB]
  | [_],_,_=>simp [cntB]
  | a::b::l,hn,h=>
   have h1:=(h a (by simp)).1
   have h2:=(h b (by simp)).1
   have e1:a=[]:=List.eq_nil_of_length_eq_zero h1
   have e2:b=[]:=List.eq_nil_of_length_eq_zero h2
   subst e1
   subst e2
   simp at hn
 | n+1,s,l,hn,h=>by
  have hk : ∀p∈l,((s:Int) - p.headD 0).toNat<s+1:=fun p hp=>by
   obtain ⟨h1,h2,_⟩:=h p hp
   cases p with
   | nil=>simp at h1
   | cons x p=>have:=h2 x (by simp);simp only [List.headD_cons];omega
  rw [part_len (fun p=>((s:Int) - p.headD 0).toNat) (s+1) l hk]
  simp only [cntB]
  refine sum_map_le _ fun e he=>?_
  have he':e<s+1:=List.mem_range.1 he
  have hm : ∀p∈l.filter (fun p=>decide (((s:Int) - p.headD 0).toNat=e)),p.headD 0=(s:Int) - e∧p∈l:=fun p hp=>by
   obtain ⟨h1,h2⟩:=List.mem_filter.1 hp
   obtain ⟨h3,h4,h5⟩:=h p h1
   refine ⟨?_,h1⟩
   have h6:=of_decide_eq_true h2
   cases p with
   | nil=>simp at h3
   | cons x p=>
    have hx:=h4 x (by simp)
    have h7:0≤p.sum:=by
     have h8 : ∀y∈p,0≤y:=fun y hy=>h4 y (by simp [hy])
     clear h2 h6 h1 h3 h4 h5 hp
     induction p with
     | nil=>simp
     | cons y p ih=>
      have:=h8 y (by simp)
      have:=ih fun z hz=>h8 z (by simp [hz])
      simp only [List.sum_cons]
      omega
    simp only [List.sum_cons] at h5
    simp only [List.headD_cons] at h6 ⊢
    omega
  have h9:=cnt_le n e ((l.filter (fun p=>decide (((s:Int) - p.headD 0).toNat=e))).map List.tail) (by
   rw [List.Nodup,List.pairwise_map]
   refine (hn.sublist List.filter_sublist).imp_of_mem fun {a b} ha hb hab e1=>?_
   obtain ⟨a1,a2⟩:=hm a ha
   obtain ⟨b1,b2⟩:=hm b hb
   have la:=(h a a2).1
   have lb:=(h b b2).1
   cases a with
   | nil=>simp at la
   | cons x a=>
    cases b with
    | nil=>simp at lb
    | cons y b=>
     simp only [List.headD_cons] at a1 b1
     simp only [List.tail_cons] at e1
     exact hab (by rw [a1,b1,e1])) (fun p hp=>by
   obtain ⟨q,hq,rfl⟩:=List.mem_map.1 hp
   obtain ⟨q1,q2⟩:=hm q hq
   obtain ⟨h3,h4,h5⟩:=h q q2
   cases q with
   | nil=>simp at h3
   | cons x q=>
    simp only [List.headD_cons] at q1
    simp only [List.sum_cons] at h5
    simp only [List.tail_cons]
    exact ⟨by simpa using h3,fun y hy=>h4 y (by simp [hy]),by omega⟩)
  rw [List.length_map] at h9
  exact h9
def cntR (n:Nat):List Nat:=(List.range 21).map (cntB n)
def cntX (l:List Nat):List Nat:=(List.range 21).map fun s=>(l.take (s+1)).sum
theorem cntR_succ (n:Nat):cntR (n+1)=cntX (cntR n):=by
 unfold cntR cntX;refine List.map_congr_left fun s hs=>?_;have h1:s<21:=List.mem_range.1 hs;rw [← List.map_take,List.take_range,Nat.min_eq_left (by omega)]
 rfl
theorem cntR_8:cntR 8=[1,9,45,165,495,1287,3003,6435,12870,24310,43758,75582,125970,203490,319770,490314,735471,1081575,1562275,2220075,3108105]:=by
 have h0:cntR 0=List.replicate 21 1:=by rfl
 rw [cntR_succ,cntR_succ,cntR_succ,cntR_succ,cntR_succ,cntR_succ,cntR_succ,cntR_succ,h0]
 rfl
theorem cnt8 {s:Nat} (hs:s≤20):cntB 8 s=[1,9,45,165,495,1287,3003,6435,12870,24310,43758,75582,125970,203490,319770,490314,735471,1081575,1562275,2220075,3108105].getD s 0:=by
 rw [← cntR_8];unfold cntR;rw [List.getD_eq_getElem?_getD,List.getElem?_map,List.getElem?_range (by omega)]
 rfl
theorem cnt_prod {s t:Nat} (h:s+t≤20):cntB 8 s * cntB 8 t≤10000000000∧cntB 8 s≤4000000:=by
 have h1 : ∀s,s<21→∀t,t<21→s+t≤20→ [1,9,45,165,495,1287,3003,6435,12870,24310,43758,75582,125970,203490,319770,490314,735471,1081575,1562275,2220075,3108105].getD s 0 * [1,9,45,165,495,1287,3003,6435,12870,24310,43758,75582,125970,203490,319770,490314,735471,1081575,1562275,2220075,3108105].getD t 0≤10000000000∧ [1,9,45,165,495,1287,3003,6435,12870,24310,43758,75582,125970,203490,319770,490314,735471,1081575,1562275,2220075,3108105].getD s 0≤4000000:=by decide
 rw [cnt8 (by omega),cnt8 (by omega)];exact h1 s (by omega) t (by omega) h
theorem wrd_sum {p:List Int} (h:p.length=8):wrd p 8=p.sum:=by
 obtain ⟨a0,a1,a2,a3,a4,a5,a6,a7,rfl⟩:=list8_ex h;simp only [wrd,List.sum_cons,List.sum_nil,List.getD_cons_zero,List.getD_cons_succ]
 omega
theorem mem_get {p:List Int} {x:Int} (h:x∈p) : ∃j,x=p.getD j 0:=by
 obtain ⟨j,hj,rfl⟩:=List.mem_iff_getElem.1 h;exact ⟨j,by rw [List.getD_eq_getElem?_getD,List.getElem?_eq_getElem hj];rfl⟩
theorem sok_len {M:Int} {t:Sm} {s:Nat} (h:Sok M t) (hw : ∀x∈t,wrd x.1 8≤(s:Int)):t.length≤cntB 8 s:=by
 have:=cnt_le 8 s (t.map (·.1)) h.nodup (fun p hp=>by
  obtain ⟨x,hx,rfl⟩:=List.mem_map.1 hp;have hk:=h.key x hx;refine ⟨hk.len,fun y hy=>?_,by rw [← wrd_sum hk.len];exact hw x hx⟩;obtain ⟨j,rfl⟩:=mem_get hy
  exact (hk.bd j).1)
 rwa [List.length_map] at this
def Mo (a b:Int):Prop:=a % 10007=b % 10007
theorem Mo.refl (a:Int):Mo a a:=rfl
theorem Mo.symm {a b:Int} (h:Mo a b):Mo b a:=Eq.symm h
theorem Mo.trans {a b c:Int} (h:Mo a b) (k:Mo b c):Mo a c:=Eq.trans h k
theorem Mo.add {a b c d:Int} (h:Mo a b) (k:Mo c d):Mo (a+c) (b+d):=by unfold Mo at *;omega
theorem Mo.mul {a b:Int} (h:Mo a b) (c:Int):Mo (a * c) (b * c):=by
 unfold Mo at *;rw [Int.mul_emod,h,← Int.mul_emod]
theorem Mo.mull {a b:Int} (h:Mo a b) (c:Int):Mo (c * a) (c * b):=by
 rw [Int.mul_comm c a,Int.mul_comm c b];exact h.mul c
theorem Mo.fld (a:Int):Mo (G.fld a) a:=by unfold Mo;rw [fld_eq];omega
theorem Mo.tmod (a:Int):Mo (a.tmod 10007) a:=by
 obtain ⟨r,h⟩:=tmod_p a;unfold Mo;rw [h]
 omega
theorem Mo.eq {a b:Int} (h:Mo a b):G.fld a=G.fld b:=by rw [fld_eq,fld_eq];exact h
def wG (G:Pw→Int):Sm→Int
 | []=>0
 | x::s=>x.2 * G x.1+wG G s
theorem wG_app (G:Pw→Int) : ∀s t:Sm,wG G (s++t)=wG G s+wG G t
 | [],t=>by simp [wG]
 | x::s,t=>by simp only [List.cons_append,wG];rw [wG_app G s t];omega
theorem wG_addS (G:Pw→Int) (p:Pw) (k:Int) : ∀s:Sm,Mo (wG G (addS s p k)) (wG G s+k * G p)
 | []=>by
  simp only [addS]
  split
  ·rename_i h
   have h1:=(Mo.fld k).symm.mul (G p)
   rw [h] at h1
   simp only [wG]
   unfold Mo at h1 ⊢
   rw [Int.zero_mul] at h1
   omega
  ·have h1:=(Mo.fld k).mul (G p)
   simp only [wG]
   unfold Mo at h1 ⊢
   omega
 | x::s=>by
  have ih:=wG_addS G p k s
  simp only [addS]
  split
  ·rename_i e
   have h1:=(Mo.fld (x.2+k)).mul (G p)
   rw [Int.add_mul] at h1
   split
   ·rename_i h
    rw [h,Int.zero_mul] at h1
    simp only [wG]
    rw [← e]
    unfold Mo at h1 ⊢
    omega
   ·simp only [wG]
    rw [← e]
    unfold Mo at h1 ⊢
    omega
  ·split
   ·split
    ·rename_i h
     have h1:=(Mo.fld k).symm.mul (G p)
     rw [h,Int.zero_mul] at h1
     simp only [wG]
     unfold Mo at h1 ⊢
     omega
    ·have h1:=(Mo.fld k).mul (G p)
     simp only [wG]
     unfold Mo at h1 ⊢
     omega
   ·simp only [wG]
    unfold Mo at ih ⊢
    omega
theorem wG_acc (G:Pw→Int) : ∀l s:Sm,Mo (wG G (acc s l)) (wG G s+wG G l)
 | [],s=>by simp [acc_nil,wG,Mo]
 | x::l,s=>by
  rw [acc_cons]
  have h1:=wG_acc G l (addS s x.1 x.2)
  have h2:=wG_addS G x.1 x.2 s
  simp only [wG]
  unfold Mo at h1 h2 ⊢
  omega
theorem wG_scl (G:Pw→Int) (k:Int) : ∀s:Sm,Mo (wG G (scl s k)) (k * wG G s)
 | []=>by simp [scl,wG,Mo]
 | x::s=>by
  have ih:=wG_scl G k s
  have h1:=(Mo.tmod (x.2 * k)).mul (G x.1)
  have e:scl (x::s) k=(x.1,(x.2 * k).tmod 10007)::scl s k:=rfl
  rw [e]
  simp only [wG]
  have e2:k * (x.2 * G x.1+wG G s)=x.2 * k * G x.1+k * wG G s:=by rw [Int.mul_add,← Int.mul_assoc,Int.mul_comm k x.2]
  rw [e2]
  exact h1.add ih
def ind (p q:Pw):Int:=if q=p then 1 else 0
theorem tot_ind (p:Pw) : ∀s:Sm,tot_ s p=wG (ind p) s
 | []=>rfl
 | x::s=>by
  simp only [tot_,wG,ind]
  rw [tot_ind p s]
  split <;> simp [ind]
def gT (ds:Pw) (p:Pw):Sm→Pw→Int
 | [],_=>0
 | y::t,q=>(if sgn ds q y.1=0 then 0 else (if addp q y.1=p then sgn ds q y.1 * y.2 else 0))+gT ds p t q
theorem tot_mul1 (ds:Pw) (p:Pw) (x:Pw × Int) : ∀t:Sm,Mo (tot_ (mul1 ds x t) p) (x.2 * gT ds p t x.1)
 | []=>by simp [mul1,tot_,gT,Mo]
 | y::t=>by
  have ih:=tot_mul1 ds p x t
  have e:mul1 ds x (y::t)=(if sgn ds x.1 y.1=0 then [] else [(addp x.1 y.1,(sgn ds x.1 y.1 * x.2 * y.2).tmod 10007)])++mul1 ds x t:=by
   unfold mul1
   rw [List.flatMap_cons]
  rw [e,totS_app]
  simp only [gT]
  rw [Int.mul_add]
  refine Mo.add ?_ ih
  by_cases h:sgn ds x.1 y.1=0
  ·rw [if_pos h,if_pos h]
   simp [tot_,Mo]
  ·rw [if_neg h,if_neg h]
   simp only [tot_]
   by_cases h2:addp x.1 y.1=p
   ·rw [if_pos h2,if_pos h2,Int.add_zero]
    have e2:x.2 * (sgn ds x.1 y.1 * y.2)=sgn ds x.1 y.1 * x.2 * y.2:=by rw [← Int.mul_assoc,Int.mul_comm x.2]
    rw [e2]
    exact Mo.tmod _
   ·rw [if_neg h2,if_neg h2]
    simp [Mo]
theorem tot_mulL (ds:Pw) (p:Pw) (t:Sm) : ∀s:Sm,Mo (tot_ (mulL ds s t) p) (wG (gT ds p t) s)
 | []=>by simp [mulL,tot_,wG,Mo]
 | x::s=>by
  have ih:=tot_mulL ds p t s
  have e:mulL ds (x::s) t=mul1 ds x t++mulL ds s t:=by unfold mulL;rw [List.flatMap_cons]
  rw [e,totS_app]
  simp only [wG]
  exact (tot_mul1 ds p x t).add ih
theorem Sok.sclA {M:Int} {s:Sm} (h:Sok M s) (c:Int):Sok M (G.acc [] (scl s c)):=Sok.nil.acc (scl_pok h c)
theorem times_scl {ds:Pw} {s t:Sm} {M N:Int} (hs:Sok M s) (ht:Sok N t) (c:Int):timesS ds (acc [] (scl s c)) t=acc [] (scl (timesS ds s t) c):=by
 have h1:=hs.sclA c;have h2:=hs.times ht (ds:=ds);refine Sok.ext (h1.times ht (ds:=ds)) (h2.sclA c) fun p=>?_;rw [show timesS ds (acc [] (scl s c)) t=acc [] (mulL ds (acc [] (scl s c)) t) from rfl,cf_acc p Sok.nil (mulL_pok h1 ht),cf_acc p Sok.nil (scl_pok h2 c)];refine Mo.eq (Mo.add (Mo.refl _) ?_);have a1:=tot_mulL ds p t (acc [] (scl s c));have a2:=wG_acc (gT ds p t) (scl s c) [];have a3:=wG_scl (gT ds p t) c s;have b1:=wG_scl (ind p) c (timesS ds s t);rw [← tot_ind] at b1;have b2:=(wG_acc (ind p) (mulL ds s t) []).mull c;have b3:=tot_mulL ds p t s;rw [tot_ind] at b3;have b4:=b3.mull c;simp only [wG,Int.zero_add] at a2 b2;exact a1.trans (a2.trans (a3.trans (b4.symm.trans (b2.symm.trans b1.symm))))
theorem acc_scl1 {out u:Sm} {M:Int} (ho:Sok M out) (hu:Sok M u) (c:Int):acc out (scl (acc [] (scl u c)) 1)=acc out (scl u c):=by
 have h1:=hu.sclA c;refine Sok.ext (ho.acc (scl_pok h1 1)) (ho.acc (scl_pok hu c)) fun p=>?_;rw [cf_acc p ho (scl_pok h1 1),cf_acc p ho (scl_pok hu c)];refine Mo.eq (Mo.add (Mo.refl _) ?_);rw [tot_ind,tot_ind];have a1:=wG_scl (ind p) 1 (acc [] (scl u c));have a2:=wG_acc (ind p) (scl u c) [];rw [Int.one_mul] at a1;simp only [wG,Int.zero_add] at a2;exact a1.trans a2
def zP:Pw:=List.replicate 8 0
def oneS:Sm:=[(zP,1)]
def pwS (ds:Pw) (s:Sm):Nat→Sm
 | 0=>oneS
 | e+1=>timesS ds (pwS ds s e) s
def prS (ds:Pw) (ss:Nat→Sm) (p:Pw) (u:Sm):Nat→Sm
 | 0=>u
 | i+1=>if 0<p.getD i 0 then timesS ds (prS ds ss p u i) (pwS ds (ss i) (p.getD i 0).toNat) else prS ds ss p u i
def leadL (ds:Pw) (ss:Nat→Sm) (n:Nat) (s:Sm):Sm:=s.flatMap fun x=>scl (prS ds ss x.1 oneS n) x.2
def leadS (ds:Pw) (ss:Nat→Sm) (n:Nat) (s:Sm):Sm:=acc [] (leadL ds ss n s)
theorem zP_get (j:Nat):zP.getD j 0=0:=by
 unfold zP;rw [List.getD_eq_getElem?_getD,List.getElem?_replicate]
 split <;> rfl
theorem zP_pok {M:Int} (hM:0≤M):Pok M zP:=⟨by simp [zP],fun j=>by rw [zP_get];omega⟩
theorem zP_ex (ds:Pw):Ex ds zP:=⟨fun i _=>zP_get i,fun i _ _=>by rw [zP_get];omega⟩
theorem wsum_add {ds p q:Pw} (hp:p.length=8) (hq:q.length=8) : ∀n:Nat,wsum ds (addp p q) n=wsum ds p n+wsum ds q n
 | 0=>rfl
 | n+1=>by
  simp only [wsum]
  rw [wsum_add hp hq n,addp_get hp hq,Int.mul_add]
  omega
structure Dg (ds:Pw):Prop where
 hn:ds.length≤8
 pos : ∀j,j<ds.length→1≤ds.getD j 0
 hd : ∀j,0≤ds.getD j 0∧ds.getD j 0≤12
theorem Dg.of {ds:Pw} (h:isDeg ds=true):Dg ds:=⟨isDeg_len h,isDeg_pos1 h,isDeg_bd h⟩
theorem wrd_le {ds p:Pw} (hd:Dg ds) (hp : ∀j,0≤p.getD j 0) : ∀n:Nat,n≤ds.length→wrd p n≤wsum ds p n
 | 0,_=>by simp [wrd,wsum]
 | n+1,h=>by
  have ih:=wrd_le hd hp n (by omega)
  have h1:=hd.pos n (by omega)
  have h2:=hp n
  have h3:1 * p.getD n 0≤ds.getD n 0 * p.getD n 0:=Int.mul_le_mul_of_nonneg_right h1 h2
  simp only [wrd,wsum]
  omega
theorem wrd_out {ds p:Pw} (hz : ∀j,ds.length≤j→p.getD j 0=0) : ∀d:Nat,wrd p (ds.length+d)=wrd p ds.length
 | 0=>rfl
 | d+1=>by
  show wrd p (ds.length+d)+p.getD (ds.length+d) 0=_
  rw [wrd_out hz d,hz _ (by omega)]
  omega
theorem wrd_w {ds p:Pw} (hd:Dg ds) (hp : ∀j,0≤p.getD j 0) (hx:Ex ds p):wrd p 8≤wsum ds p ds.length:=by
 have h1:=wrd_out hx.out (8 - ds.length);have:=hd.hn;rw [show ds.length+(8 - ds.length)=8 by omega] at h1;rw [h1];exact wrd_le hd hp _ (Nat.le_refl _)
theorem get_wrd {p:Pw} (hp : ∀j,0≤p.getD j 0) : ∀n j:Nat,j<n→p.getD j 0≤wrd p n
 | 0,j,h=>by omega
 | n+1,j,h=>by
  have h2:=hp n
  have h3:=wrd_nn hp n
  simp only [wrd]
  by_cases e:j=n
  ·subst e;omega
  ·have:=get_wrd hp n j (by omega)
   omega
structure Ws (ds:Pw) (d:Int) (t:Sm):Prop where
 sok:Sok 20 t
 kex:KEx ds t
 wt : ∀x∈t,wsum ds x.1 ds.length=d
theorem Ws.of {ds:Pw} {d M:Int} {t:Sm} (hd:Dg ds) (h:Sok M t) (hk:KEx ds t) (hw : ∀x∈t,wsum ds x.1 ds.length=d) (h13:d≤20):Ws ds d t:=by
 refine ⟨⟨h.srt,fun x hx=>?_,h.val⟩,hk,hw⟩;have hp:=h.key x hx;refine ⟨hp.len,fun j=>⟨(hp.bd j).1,?_⟩⟩;have h1:=wrd_w hd (fun j=>(hp.bd j).1) (hk x hx);have h2:=hw x hx
 rcases Nat.lt_or_ge j 8 with hj | hj
 ·have:=get_wrd (fun j=>(hp.bd j).1) 8 j hj
  omega
 ·rw [getD_ge (by rw [hp.len];omega)]
  omega
theorem Ws.one {ds:Pw} {c:Int} (hc:1≤c∧c≤10006):Ws ds 0 [(zP,c)]:=by
 refine ⟨Sok.one (zP_pok (by omega)) hc,fun x hx=>?_,fun x hx=>?_⟩
 ·rw [List.mem_singleton.1 hx];exact zP_ex ds
 ·rw [List.mem_singleton.1 hx];exact wsum_zero zP_get _
theorem Ws.times {ds:Pw} {a b:Int} {s t:Sm} (hd:Dg ds) (hs:Ws ds a s) (ht:Ws ds b t) (h:a+b≤20):Ws ds (a+b) (timesS ds s t):=by
 refine Ws.of hd (hs.sok.times ht.sok) (times_kex hs.sok.g ht.sok.g hs.kex ht.kex) (fun x hx=>?_) h
 rcases acc_mem hx with h1 | ⟨y,hy,e⟩
 ·simp at h1
 ·obtain ⟨u,hu,v,hv,_,e2⟩:=mulL_mem hy;rw [e,e2,wsum_add (hs.sok.key u hu).len (ht.sok.key v hv).len,hs.wt u hu,ht.wt v hv]
theorem Ws.pw {ds:Pw} {d:Int} {s:Sm} (hd:Dg ds) (hs:Ws ds d s) (h0:0≤d) : ∀e:Nat,(e:Int) * d≤20→Ws ds ((e:Int) * d) (pwS ds s e)
 | 0,_=>by
  have:=Ws.one (ds:=ds) (c:=1) (by omega)
  simpa [pwS,oneS] using this
 | e+1,h=>by
  have e1:((e+1:Nat):Int) * d=(e:Int) * d+d:=by rw [Int.natCast_add,Int.add_mul];simp
  rw [e1] at h ⊢
  exact (Ws.pw hd hs h0 e (by omega)).times hd hs h
theorem Ws.pr {ds ws:Pw} {ss:Nat→Sm} {p:Pw} {u:Sm} {a:Int} (hd:Dg ds) (hw : ∀j,0≤ws.getD j 0) (hp : ∀j,0≤p.getD j 0) (hu:Ws ds a u) (h0:0≤a) : ∀n:Nat,(∀j,j<n→Ws ds (ws.getD j 0) (ss j))→a+wsum ws p n≤20→Ws ds (a+wsum ws p n) (prS ds ss p u n)
 | 0,_,_=>by simpa [prS,wsum] using hu
 | n+1,hs,h=>by
  have hm:0≤ws.getD n 0 * p.getD n 0:=Int.mul_nonneg (hw n) (hp n)
  have hws : ∀k:Nat,0≤wsum ws p k:=fun k=>by
   induction k with
   | zero=>simp [wsum]
   | succ k ih=>have:=Int.mul_nonneg (hw k) (hp k);simp only [wsum];omega
  have h2:=hws n
  simp only [wsum] at h ⊢
  have ih:=Ws.pr hd hw hp hu h0 n (fun j hj=>hs j (by omega)) (by omega)
  simp only [prS]
  split
  ·rename_i hpos
   have e1:((p.getD n 0).toNat:Int)=p.getD n 0:=by omega
   have hpw:=(hs n (by omega)).pw hd (hw n) (p.getD n 0).toNat (by rw [e1,Int.mul_comm];omega)
   have h3:=ih.times hd hpw (by rw [e1,Int.mul_comm (p.getD n 0)];omega)
   rw [e1,Int.mul_comm (p.getD n 0)] at h3
   rw [← Int.add_assoc]
   exact h3
  ·rename_i hpos
   have:p.getD n 0=0:=by have:=hp n;omega
   rw [this,Int.mul_zero,Int.add_zero]
   exact ih
theorem Ws.len {ds:Pw} {d:Int} {t:Sm} (hd:Dg ds) (h:Ws ds d t) (h0:0≤d):t.length≤cntB 8 d.toNat:=sok_len h.sok fun x hx=>by
 have:=wrd_w hd (fun j=>((h.sok.key x hx).bd j).1) (h.kex x hx)
 have:=h.wt x hx
 omega
theorem Ws.lens {ds:Pw} {a b:Int} {s t:Sm} (hd:Dg ds) (hs:Ws ds a s) (ht:Ws ds b t) (ha:0≤a) (hb:0≤b) (h:a+b≤20):s.length * t.length≤10000000000∧s.length≤4000000:=by
 have h1:=hs.len hd ha;have h2:=ht.len hd hb;have h3:=cnt_prod (s:=a.toNat) (t:=b.toNat) (by omega);exact ⟨Nat.le_trans (Nat.mul_le_mul h1 h2) h3.1,by omega⟩
theorem pr_scl {ds ws:Pw} {ss:Nat→Sm} {p:Pw} {u:Sm} {a:Int} (hd:Dg ds) (hw : ∀j,0≤ws.getD j 0) (hp : ∀j,0≤p.getD j 0) (hu:Ws ds a u) (h0:0≤a) (c:Int) : ∀n:Nat,(∀j,j<n→Ws ds (ws.getD j 0) (ss j))→a+wsum ws p n≤20→prS ds ss p (acc [] (scl u c)) n=acc [] (scl (prS ds ss p u n) c)
 | 0,_,_=>rfl
 | n+1,hs,h=>by
  have hm:0≤ws.getD n 0 * p.getD n 0:=Int.mul_nonneg (hw n) (hp n)
  have hws : ∀k:Nat,0≤wsum ws p k:=fun k=>by
   induction k with
   | zero=>simp [wsum]
   | succ k ih=>have:=Int.mul_nonneg (hw k) (hp k);simp only [wsum];omega
  have h2:=hws n
  simp only [wsum] at h
  have ih:=pr_scl hd hw hp hu h0 c n (fun j hj=>hs j (by omega)) (by omega)
  simp only [prS]
  rw [ih]
  split
  ·rename_i hpos
   have e1:((p.getD n 0).toNat:Int)=p.getD n 0:=by omega
   have h3:=Ws.pr hd hw hp hu h0 n (fun j hj=>hs j (by omega)) (by omega)
   have hpw:=(hs n (by omega)).pw hd (hw n) (p.getD n 0).toNat (by rw [e1,Int.mul_comm];omega)
   exact times_scl h3.sok hpw.sok c
  ·rfl
theorem one_scl {c:Int} (hc:1≤c∧c≤10006):addS [] zP c=acc [] (scl oneS c):=by
 unfold oneS scl;simp only [List.map_cons,List.map_nil,acc_cons,acc_nil,Int.one_mul];exact addS_congr (fun a=>(fld_tmod a c).symm) zP []
theorem zP_mono:Mono zP:=⟨by simp [zP],fun j=>by rw [zP_get];omega⟩
theorem lead_one {ds:Pw} {ss:Nat→Sm} {n:Nat} {ts:List Term} {k:Nat} (hk:k<ts.length):leadS ds ss n (toS (ts.take (k+1)))=acc (leadS ds ss n (toS (ts.take k))) (scl (prS ds ss (tm ts k).mono oneS n) (tm ts k).fac):=by
 unfold leadS leadL;rw [toS_take hk,List.flatMap_append,acc_app]
 simp
section
variable {ds ws : Pw} {ss : Nat → Sm} {s : Sm} {n : Nat} {M : Int}
structure Ld (ds ws:Pw) (ss:Nat→Sm) (n:Nat) (M:Int) (s:Sm):Prop where
 dg:Dg ds
 ws0 : ∀j,0≤ws.getD j 0
 im : ∀j,j<n→Ws ds (ws.getD j 0) (ss j)
 sok:Sok M s
 wt : ∀x∈s,wsum ws x.1 n≤20
theorem Ld.pr (h:Ld ds ws ss n M s) {x:Pw × Int} (hx:x∈s) {u:Sm} (hu:Ws ds 0 u) {i:Nat} (hi:i≤n):Ws ds (wsum ws x.1 i) (prS ds ss x.1 u i):=by
 have hp:=h.sok.key x hx
 have hws : ∀k d:Nat,wsum ws x.1 k≤wsum ws x.1 (k+d):=fun k d=>by
  induction d with
  | zero=>exact Int.le_refl _
  | succ d ih=>have:=Int.mul_nonneg (h.ws0 (k+d)) (hp.bd (k+d)).1;show _≤wsum ws x.1 (k+d)+ws.getD (k+d) 0 * x.1.getD (k+d) 0;omega
 have h1:=hws i (n - i);rw [show i+(n - i)=n by omega] at h1;have h2:=h.wt x hx;have h3:=Ws.pr (ws:=ws) (p:=x.1) h.dg h.ws0 (fun j=>(hp.bd j).1) hu (Int.le_refl 0) i (fun j hj=>h.im j (by omega)) (by omega)
 rwa [Int.zero_add] at h3
theorem Ld.le (h:Ld ds ws ss n M s) {x:Pw × Int} (hx:x∈s) {i:Nat} (hi:i<n):0≤wsum ws x.1 i∧wsum ws x.1 i+ws.getD i 0 * x.1.getD i 0≤20:=by
 have hp:=h.sok.key x hx
 have hws : ∀k d:Nat,wsum ws x.1 k≤wsum ws x.1 (k+d):=fun k d=>by
  induction d with
  | zero=>exact Int.le_refl _
  | succ d ih=>have:=Int.mul_nonneg (h.ws0 (k+d)) (hp.bd (k+d)).1;show _≤wsum ws x.1 (k+d)+ws.getD (k+d) 0 * x.1.getD (k+d) 0;omega
 have h1:=hws (i+1) (n - (i+1));rw [show i+1+(n - (i+1))=n by omega] at h1;have h2:=h.wt x hx;have h3:=hws 0 i;rw [Nat.zero_add] at h3;simp only [wsum] at h1 h3;exact ⟨h3,by omega⟩
theorem Ld.pw (h:Ld ds ws ss n M s) {x:Pw × Int} (hx:x∈s) {i:Nat} (hi:i<n):Ws ds (ws.getD i 0 * x.1.getD i 0) (pwS ds (ss i) (x.1.getD i 0).toNat):=by
 have hp:=(h.sok.key x hx).bd i
 have e1:((x.1.getD i 0).toNat:Int)=x.1.getD i 0:=by omega
 have h1:=h.le hx hi;have h2:=(h.im i hi).pw h.dg (h.ws0 i) (x.1.getD i 0).toNat (by rw [e1,Int.mul_comm];omega)
 rwa [e1,Int.mul_comm] at h2
theorem Ld.tail (h:Ld ds ws ss n M s) {t:Sm} (ht : ∀x∈t,x∈s) (hs:Sok M t):Ld ds ws ss n M t:=⟨h.dg,h.ws0,h.im,hs,fun x hx=>h.wt x (ht x hx)⟩
theorem Ld.key (h:Ld ds ws ss n M s) : ∀z∈leadL ds ss n s,Pok 20 z.1:=fun z hz=>by
 obtain ⟨x,hx,h1⟩:=List.mem_flatMap.1 hz
 exact scl_pok (h.pr hx (Ws.one (c:=1) (by omega)) (Nat.le_refl n)).sok x.2 z h1
theorem Ld.lead (h:Ld ds ws ss n M s):Sok 20 (leadS ds ss n s):=Sok.nil.acc h.key
theorem scl_len (s:Sm) (k:Int):(scl s k).length=s.length:=by simp [scl]
theorem Ld.llen (h:Ld ds ws ss n M s):(leadL ds ss n s).length≤s.length * 4000000:=by
 have key : ∀t:Sm,(∀x∈t,x∈s)→(leadL ds ss n t).length≤t.length * 4000000:=by
  intro t
  induction t with
  | nil=>intro _;simp [leadL]
  | cons x t ih=>
   intro ht;have h1:=ih fun y hy=>ht y (by simp [hy]);have hx:=ht x (by simp)
   have h2:=(h.pr hx (Ws.one (c:=1) (by omega)) (Nat.le_refl n)).len h.dg (by
    have hp:=h.sok.key x hx
    have hws : ∀k:Nat,0≤wsum ws x.1 k:=fun k=>by
     induction k with
     | zero=>simp [wsum]
     | succ k ih=>have:=Int.mul_nonneg (h.ws0 k) (hp.bd k).1;simp only [wsum];omega
    exact hws n)
   have h3:=h.wt x hx;have h4:=(cnt_prod (s:=(wsum ws x.1 n).toNat) (t:=0) (by omega)).2
   have e:leadL ds ss n (x::t)=scl (prS ds ss x.1 oneS n) x.2++leadL ds ss n t:=by unfold leadL;rw [List.flatMap_cons]
   rw [e,List.length_append,scl_len,List.length_cons,Nat.succ_mul];unfold oneS at h2 ⊢
   omega
 exact key s fun x hx=>hx
theorem Ld.len (h:Ld ds ws ss n M s):(leadS ds ss n s).length≤s.length * 4000000:=by
 have h1:=acc_len (leadL ds ss n s) [];have h2:=h.llen;unfold leadS;simp only [List.length_nil] at h1
 omega
theorem Ld.step (h:Ld ds ws ss n M s) {x:Pw × Int} (hx:x∈s) (hv:1≤x.2∧x.2≤10006) {out:Sm} (ho:Sok 20 out):acc out (scl (prS ds ss x.1 (addS [] zP x.2) n) 1)=acc out (scl (prS ds ss x.1 oneS n) x.2):=by
 have hp:=h.sok.key x hx;have h1:=pr_scl (ws:=ws) (ss:=ss) (p:=x.1) (u:=oneS) h.dg h.ws0 (fun j=>(hp.bd j).1) (Ws.one (c:=1) (by omega)) (Int.le_refl 0) x.2 n h.im (by have:=h.wt x hx;omega);rw [one_scl hv,h1];exact acc_scl1 ho (h.pr hx (Ws.one (c:=1) (by omega)) (Nat.le_refl n)).sok x.2
theorem addS_zP {c:Int} (hc:1≤c∧c≤10006):addS [] zP c=[(zP,c)]:=by
 simp only [addS];rw [fld_id (by omega),if_neg (by omega)]
end
theorem l04Power_c {B:World} {H0 H:HP} {L:List SA} {w:World} {qds:Option Addr} {cds:Nat} {ds:List Int} {qts:Option Addr} {cts:Nat} {ts:List Term} {x:Int} {d:Int} (hds:Ints H qds ds) (hts:Terms H qts ts) (hd:Dg ds) (hs:Ws ds d (toS ts)) (h0:0≤d) (hx:0≤x∧x≤255) (hw:x * d≤20) (hH:Hp B H0 H L w):Calls Tryz.prog 183 [.slice qds ds.length cds,.agg [.slice qts ts.length cts].toArray,.int .u8 x].toArray w fun e w'=>∃q c,e = .returned (.agg [.slice q (ofS (pwS ds (toS ts) x.toNat)).length c].toArray)∧Hp B H0 H (own 152 9 q (ofS (pwS ds (toS ts) x.toNat)).length c (tsC (ofS (pwS ds (toS ts) x.toNat)))::L) w':=by
 refine Jz Tryz.func183 rfl 19 rfl rfl [(0,.slice qds ds.length cds),(1,.agg [.slice qts ts.length cts].toArray),(2,.int .u8 x)] rfl hH ?_;clear hH;refine Je fun _ hK1 _=>(Jb (Ed rfl rfl rfl fun g4=>(JV ze39 rfl fun g6=>(Jf (Ja (hK1 (Je fun _ hK2 _=>(Jb (Jg (Ev bz150) rfl (Jw fn159 rfl rfl fun w hH=>(l01Single_c zP_mono (by omega) hH).mono ?_))))))))));rintro _ w ⟨qo9,co9,rfl,hH⟩;refine ⟨_,rfl,fun a hF=>JK hF hH ?_⟩;refine JV ze39 rfl fun g7=>(JJ rfl rfl (by first | exact bytesC_one _ | exact intsC_one _ | exact Term.c_one _ | simp [Value.oneCell']) (by simpa [*] using sz39) (by simp [*]) At.z (Jf (Ja (hK2 (Je fun _ hK3 _=>(Jm (JD (σ:=Option Addr × Nat × Nat) (fun ⟨q,c,j⟩=>[(2,.int .u8 (x - (j:Int)))]) (fun ⟨q,c,j⟩=>H) (fun ⟨q,c,j⟩=>obj g7 (.cells [.slice q (ofS (pwS ds (toS ts) j)).length c].toArray 39 (0,0))::own 152 9 q (ofS (pwS ds (toS ts) j)).length c (tsC (ofS (pwS ds (toS ts) j)))::obj g6 (.cells [.slice none 0 0].toArray 39 (0,0))::obj g4 (.cells [.slice qts ts.length cts].toArray 39 (0,0))::L) (fun ⟨q,c,j⟩=>(j:Int)≤x) (fun ⟨q,c,j⟩=>x.toNat - j) (qo9,co9,0) (by show (0:Int)≤x;omega) ⟨(vi8 (by omega)),trivial⟩ rfl (by dsimp only;rw [addS_one];rfl) ?_)))))));rintro ⟨q,c,j⟩ hj _ hAg0;have hmj:(j:Int) * d≤x * d:=Int.mul_le_mul_of_nonneg_right hj h0;have hj1:=hs.pw hd h0 j (by omega);have hjn:0≤(j:Int) * d:=Int.mul_nonneg (by omega) h0;have wfO:=hj1.sok.wf (by omega);refine Je fun _ hK4 _=>(Je fun _ hK5 _=>(Jb (Jg (Jc rfl) rfl (Jg (EB rfl rfl) rfl (Jf (Ja (hK5 (Jp rfl (fun h11=>?_) (fun h11=>?_)))))))))
 ·
  have hjd:((j:Int)+1) * d≤x * d:=Int.mul_le_mul_of_nonneg_right (by omega) h0;rw [Int.add_mul,Int.one_mul] at hjd;have hjl:=hj1.lens hd hs hjn h0 (by omega);refine Jo (Ja (hK4 (Je fun _ hK6 _=>(Jm (Jb (Jg (Jc rfl) rfl (Jg (Jx rfl At.z (by simpa [*] using ag39)) rfl (Jg (Jx rfl (.s (.s (.s .z))) (by simpa [*] using ag39)) rfl (Jw fn77 rfl rfl fun w hH=>hH.lend (.s .z) fun Hl1 hle1 hA1 hB1 hH=>(l01Times_c (hds.le hle1) (own_terms wfO hA1) (hts.le hle1) hd.hn hd.hd (by rw [toS_ofS];exact hj1.kex) hs.kex (by rw [toS_ofS];exact hj1.sok.g) hs.sok.g (by omega) (by rw [ofS_len,← toS_len ts];exact Nat.le_trans hjl.1 (by omega)) (by rw [ofS_len];have:=hjl.2;omega) hH).mono ?_)))))))));rintro _ w ⟨qo17,co17,rfl,hH⟩;replace hH:=hB1 _ _ hH;refine ⟨_,rfl,fun a hF=>JK hF hH ?_⟩;refine JJ rfl rfl (by first | exact bytesC_one _ | exact intsC_one _ | exact Term.c_one _ | simp [Value.oneCell']) (by simpa [*] using sz39) (by simp [*]) (.s (.s .z)) (Jf (JF (Ja (hK6 (Jb (Jg (Jc rfl) rfl (Jg (EM rfl rfl (u8_id (by omega))) rfl (Jg (Jd rfl) rfl (Jf (Ja (JL .z (Jr (.s (.s (.s .z))) (Jr (.s (.s (.s .z))) (Jr (.s (.s .z)) (Jr (.s (.s (.s .z))) ?_)))))))))))))));exact hAg0 (qo17,co17,j+1) (by show ((j+1:Nat):Int)≤x;omega) (by show x.toNat - (j+1)<x.toNat - j;omega) 10 rfl rfl ⟨(vi8 (by omega)),trivial⟩ rfl (by dsimp only;simp only [toS_ofS];rfl)
 ·
  refine JG (Jj (Jj (JP (Ja (hK3 (Je fun _ hK7 _=>(Jb (Jg (Jx rfl At.z (by simpa [*] using ag39)) rfl (JJ rfl rfl (by first | exact bytesC_one _ | exact intsC_one _ | exact Term.c_one _ | simp [Value.oneCell']) (by simpa [*] using sz39) (by simp [*]) (.s (.s .z)) (Jf (Ja (hK7 (Js (Jq rfl (Res.agg rfl (.s (.s .z)) (by simpa [*] using ag39)) fun w hH=>?_))))))))))))));replace hH:=hH.sublist (.cons _ (.cons_cons _ (.cons _ (.cons _ (List.Sublist.refl _)))))
  have ej:j=x.toNat:=by omega
  subst ej;exact ⟨_,_,rfl,hH⟩
theorem fn183:Fn Tryz.prog 183:=⟨_,Tryz.func183,by kernel_rfl,rfl⟩
def ssF (ms:List (List Term)) (i:Nat):Sm:=toS (fm ms i)
theorem prS_yes {ds:Pw} {ss:Nat→Sm} {p:Pw} {u:Sm} {i:Nat} (h:0<p.getD i 0):prS ds ss p u (i+1)=timesS ds (prS ds ss p u i) (pwS ds (ss i) (p.getD i 0).toNat):=by
 rw [prS,if_pos h]
theorem prS_no {ds:Pw} {ss:Nat→Sm} {p:Pw} {u:Sm} {i:Nat} (h : ¬0<p.getD i 0):prS ds ss p u (i+1)=prS ds ss p u i:=by
 rw [prS,if_neg h]
theorem wsum_nn0 {ws p:Pw} (hw : ∀j,0≤ws.getD j 0) (hp : ∀j,0≤p.getD j 0) : ∀k:Nat,0≤wsum ws p k
 | 0=>by simp [wsum]
 | k+1=>by have:=wsum_nn0 hw hp k;have:=Int.mul_nonneg (hw k) (hp k);simp only [wsum];omega
theorem wsum_mono {ws p:Pw} (hw : ∀j,0≤ws.getD j 0) (hp : ∀j,0≤p.getD j 0) (k:Nat) : ∀d:Nat,wsum ws p k≤wsum ws p (k+d)
 | 0=>Int.le_refl _
 | d+1=>by have:=wsum_mono hw hp k d;have:=Int.mul_nonneg (hw (k+d)) (hp (k+d));show _≤wsum ws p (k+d)+ws.getD (k+d) 0 * p.getD (k+d) 0;omega
theorem Ld.wle {ds ws:Pw} {ss:Nat→Sm} {s:Sm} {n:Nat} {M:Int} (h:Ld ds ws ss n M s) {x:Pw × Int} (hx:x∈s) {i:Nat} (hi:i≤n):wsum ws x.1 i≤20:=by
 have h1:=wsum_mono h.ws0 (fun j=>((h.sok.key x hx).bd j).1) i (n - i);rw [show i+(n - i)=n by omega] at h1;have:=h.wt x hx
 omega
theorem l04Apply_c {B:World} {H0 H:HP} {L:List SA} {w:World} {qds:Option Addr} {cds:Nat} {ds:List Int} {qms:Option Addr} {cms:Nat} {ms:List (List Term)} {qts:Option Addr} {cts:Nat} {ts:List Term} {ws:Pw} {M:Int} (hds:Ints H qds ds) (hms:Forms H qms ms) (hts:Terms H qts ts) (hL:Ld ds ws (ssF ms) ms.length M (toS ts)) (hM:M≤255) (hl:ts.length≤400) (hm:ms.length≤8) (hH:Hp B H0 H L w):Calls Tryz.prog 148 [.slice qds ds.length cds,.slice qms ms.length cms,.agg [.slice qts ts.length cts].toArray].toArray w fun e w'=>∃q c,e = .returned (.agg [.slice q (ofS (leadS ds (ssF ms) ms.length (toS ts))).length c].toArray)∧Hp B H0 H (own 152 9 q (ofS (leadS ds (ssF ms) ms.length (toS ts))).length c (tsC (ofS (leadS ds (ssF ms) ms.length (toS ts))))::L) w':=by
 refine Jz Tryz.func148 rfl 63 rfl rfl [(0,.slice qds ds.length cds),(1,.slice qms ms.length cms),(2,.agg [.slice qts ts.length cts].toArray)] rfl hH ?_;clear hH;refine Je fun _ hK1 _=>(Jb (Ed rfl rfl rfl fun g5=>(JV ze39 rfl fun g6=>(Jf (Ja (hK1 (Je fun _ hK2 _=>(Jb (J.own0 152 9 (Jg (Ev bz39) rfl (JV ze39 rfl fun g7=>(JJ rfl rfl (by first | exact bytesC_one _ | exact intsC_one _ | exact Term.c_one _ | simp [Value.oneCell']) (by simpa [*] using sz39) (by simp [*]) At.z (Jf (Ja (hK2 (Je fun _ hK3 _=>?_))))))))))))))));refine Je fun _ hK4 _=>(Jb (Jg (Jd rfl) rfl (Jf (Ja (hK4 (Jm (JD (σ:=Option Addr × Nat × Nat) (fun ⟨q,c,k⟩=>[(8,.int .i64 (k:Int))]) (fun ⟨q,c,k⟩=>H) (fun ⟨q,c,k⟩=>obj g7 (.cells [.slice q (ofS (leadS ds (ssF ms) ms.length (toS (ts.take k)))).length c].toArray 39 (0,0))::own 152 9 q (ofS (leadS ds (ssF ms) ms.length (toS (ts.take k)))).length c (tsC (ofS (leadS ds (ssF ms) ms.length (toS (ts.take k)))))::obj g6 (.cells [.slice none 0 0].toArray 39 (0,0))::obj g5 (.cells [.slice qts ts.length cts].toArray 39 (0,0))::L) (fun ⟨q,c,k⟩=>k≤ts.length) (fun ⟨q,c,k⟩=>ts.length - k) (none,0,0) (by show 0≤ts.length;omega) ⟨rfl,trivial⟩ rfl rfl ?_)))))));rintro ⟨q,c,k⟩ hk _ hAg0;have hLk:=hL.tail (t:=toS (ts.take k)) (fun x hx=>by rw [toS_tk] at hx;exact List.mem_of_mem_take hx) (hL.sok.tk k);have hls:=hLk.lead;have hll:=hLk.len;rw [toS_len,List.length_take_of_le (by omega)] at hll;have wfO:=hls.wf (by omega);refine Je fun _ hK5 _=>(Je fun _ hK6 _=>(Jb (Jg (Jc rfl) rfl (Jg (Jv u39 rfl sz37 rfl) rfl (Jg (Jy rfl (.s (.s (.s .z))) rfl pl37) rfl (Jg (Jn u37 rfl rfl) rfl (Jg (JM rfl rfl) rfl (Jf (Ja (hK6 (Jp rfl (fun h16=>?_) (fun h16=>?_))))))))))))
 ·
  have hkl:k<ts.length:=by omega
  have hxi:=toS_at (ts:=ts) hkl;have hxv:=hL.sok.val _ hxi;have hxk:=hL.sok.key _ hxi;simp only at hxv hxk;have hx8:=hxk.len
  have hu:Ws ds 0 (addS [] zP (tm ts k).fac):=by rw [addS_zP (by omega)];exact Ws.one (by omega)
  refine Jo (Ja (hK5 (Je fun _ hK7 _=>(Jm (Je fun _ hK8 _=>(Jb (Jg (Ev bz150) rfl (Jg (Jv u39 rfl sz37 rfl) rfl (Jg (Jy rfl (.s (.s (.s .z))) rfl pl37) rfl (Jg (Jc rfl) rfl (Jg (Ep u37 sz152 rfl rfl rfl (by omega) hts.sm) rfl (Jg (Ew u152 rfl sz2 rfl (hts.sm (i:=k) (by omega))) rfl (Jg (JB rfl (hts.fac (by omega)) pl2) rfl (Jw fn159 rfl rfl fun w hH=>(l01Single_c zP_mono (by omega) hH).mono ?_))))))))))))));rintro _ w ⟨qo26,co26,rfl,hH⟩;refine ⟨_,rfl,fun a hF=>JK hF hH ?_⟩;refine JV ze39 rfl fun g9=>(JJ rfl rfl (by first | exact bytesC_one _ | exact intsC_one _ | exact Term.c_one _ | simp [Value.oneCell']) (by simpa [*] using sz39) (by simp [*]) At.z (Jf (Ja (hK8 (Je fun _ hK9 _=>(Je fun _ hK10 _=>(Jb (Jg (Jd rfl) rfl (Jf (Ja (hK10 (Jm (JD (σ:=Option Addr × Nat × Nat) (fun ⟨q1,c1,i⟩=>[(10,.int .i64 (i:Int))]) (fun ⟨q1,c1,i⟩=>H) (fun ⟨q1,c1,i⟩=>obj g9 (.cells [.slice q1 (ofS (prS ds (ssF ms) (tm ts k).mono (addS [] zP (tm ts k).fac) i)).length c1].toArray 39 (0,0))::own 152 9 q1 (ofS (prS ds (ssF ms) (tm ts k).mono (addS [] zP (tm ts k).fac) i)).length c1 (tsC (ofS (prS ds (ssF ms) (tm ts k).mono (addS [] zP (tm ts k).fac) i)))::obj g7 (.cells [.slice q (ofS (leadS ds (ssF ms) ms.length (toS (ts.take k)))).length c].toArray 39 (0,0))::own 152 9 q (ofS (leadS ds (ssF ms) ms.length (toS (ts.take k)))).length c (tsC (ofS (leadS ds (ssF ms) ms.length (toS (ts.take k)))))::obj g6 (.cells [.slice none 0 0].toArray 39 (0,0))::obj g5 (.cells [.slice qts ts.length cts].toArray 39 (0,0))::L) (fun ⟨q1,c1,i⟩=>i≤ms.length) (fun ⟨q1,c1,i⟩=>ms.length - i) (qo26,co26,0) (by show 0≤ms.length;omega) ⟨rfl,trivial⟩ rfl rfl ?_)))))))))))));rintro ⟨q1,c1,i⟩ hi _ hAg1;have hpr:=hL.pr hxi hu hi;simp only at hpr;have wfP:=hpr.sok.wf (by omega);have hpn:=Nat.le_trans (hpr.len hL.dg (wsum_nn0 hL.ws0 (fun j=>(hxk.bd j).1) i)) (cnt_prod (s:=(wsum ws (tm ts k).mono i).toNat) (t:=0) (by have:=hL.wle hxi hi;simp only at this;omega)).2;refine Je fun _ hK11 _=>(Je fun _ hK12 _=>(Jb (Jg (Jc rfl) rfl (Jg (Jc rfl) rfl (Jg (Jn u33 rfl rfl) rfl (Jg (JM rfl rfl) rfl (Jf (Ja (hK12 (Jp rfl (fun h30=>?_) (fun h30=>?_)))))))))))
  ·
   have hil:i<ms.length:=by omega
   refine Jo (Ja (hK11 (Je fun _ hK13 _=>(Jm (Je fun _ hK14 _=>(Jb (Jg (Jv u39 rfl sz37 rfl) rfl (Jg (Jy rfl (.s (.s (.s (.s (.s .z))))) rfl pl37) rfl (Jg (Jc rfl) rfl (Jg (Jc rfl) rfl (Jg (Ep u37 sz152 rfl rfl rfl (by omega) hts.sm) rfl (Jg (Ew u152 rfl sz150 rfl (hts.sm (i:=k) (by omega))) rfl (Jg (PR.idxP1 u150 sz5 rfl (hts.sm (i:=k) (by omega)) rfl rfl (by omega)) rfl (Jg (JB rfl (hts.byte (by omega) (by omega)) pl5) rfl (Jg (EB rfl rfl) rfl ?_)))))))))))))));refine Jf (Ja (hK14 (Jp rfl (fun h41=>?_) (fun h41=>?_))))
   ·
    have hpos:0<(tm ts k).mono.getD i 0:=by omega
    have hpk:=hxk.bd i;have hle:=hL.le hxi hil;have hpw:=hL.pw hxi hil;simp only at hle hpw;have hpl:=hpr.lens hL.dg hpw hle.1 (Int.mul_nonneg (hL.ws0 i) hpk.1) hle.2;refine El (Rs:=[_,_,_,_,_,_]) 18 [[], [], [], [], [], [3,4], [3,4,5], [], [7], [], [], [7,8,9], [7,8,9,11], [7,8,9,10,11,12], [7,8,9,10,11,12,13], [2,3,4,5,6,7,8,9,10,11,12,13,14], [0,1,2,3,4,5,6,7,8,9,10,11,12,13,14,15], [0,1,2,3,4,5,6,7,8,9,10,11,12,13,14,15,16]] [[], [18], [], [], [], [], [], [], [23], [], [], [], [], [], [], [], [15,19], []] [[], [], [], [], [], [], [], [], [], [], [], [], [], [], [], [], [], [18]] rfl rfl (by kernel_rfl) ?_;apply Jl 1 rfl
    iterate 3 focus (intros;(conv=>lhs;simp only [Jh,Jt,JN,Ju,JI,eq_self,Nat.reduceEqDiff,reduceIte,Nat.reduceSub,Nat.reduceAdd,List.cons_append,List.nil_append]);all_goals rfl)
    ·
     intro gh X K zq zc zq2 zc2 zb zv hK;refine Jg (Jc rfl) rfl (Ji ?_);exact hK zq zc zq2 zc2 zb zv
    ·
     intro gh gh' h
     rfl
    apply Jl 2 rfl
    iterate 3 focus (intros;(conv=>lhs;simp only [Jh,Jt,JN,Ju,JI,eq_self,Nat.reduceEqDiff,reduceIte,Nat.reduceSub,Nat.reduceAdd,List.cons_append,List.nil_append]);all_goals rfl)
    ·
     intro gh X K zq zc zq2 zc2 zb zv hK;refine Jg (Jx rfl At.z (by simpa [*] using ag39)) rfl (Ji ?_);exact hK zq zc zq2 zc2 zb zv
    ·
     intro gh gh' h
     rfl
    apply Jl 3 rfl
    iterate 3 focus (intros;(conv=>lhs;simp only [Jh,Jt,JN,Ju,JI,eq_self,Nat.reduceEqDiff,reduceIte,Nat.reduceSub,Nat.reduceAdd,List.cons_append,List.nil_append]);all_goals rfl)
    ·
     intro gh X K zq zc zq2 zc2 zb zv hK;refine Jg (Jc rfl) rfl (Ji ?_);exact hK zq zc zq2 zc2 zb zv
    ·
     intro gh gh' h
     rfl
    apply Jl 4 rfl
    iterate 3 focus (intros;(conv=>lhs;simp only [Jh,Jt,JN,Ju,JI,eq_self,Nat.reduceEqDiff,reduceIte,Nat.reduceSub,Nat.reduceAdd,List.cons_append,List.nil_append]);all_goals rfl)
    ·
     intro gh X K zq zc zq2 zc2 zb zv hK;refine Jg (Jc rfl) rfl (Ji ?_);exact hK zq zc zq2 zc2 zb zv
    ·
     intro gh gh' h
     rfl
    apply Jl 5 rfl
    iterate 3 focus (intros;(conv=>lhs;simp only [Jh,Jt,JN,Ju,JI,eq_self,Nat.reduceEqDiff,reduceIte,Nat.reduceSub,Nat.reduceAdd,List.cons_append,List.nil_append]);all_goals rfl)
    ·
     intro gh X K zq zc zq2 zc2 zb zv hK;refine Jg (Jc rfl) rfl (Ji ?_);exact hK zq zc zq2 zc2 zb zv
    ·
     intro gh gh' h
     rfl
    apply Jl 6 rfl
    iterate 3 focus (intros;(conv=>lhs;simp only [Jh,Jt,JN,Ju,JI,eq_self,Nat.reduceEqDiff,reduceIte,Nat.reduceSub,Nat.reduceAdd,List.cons_append,List.nil_append]);all_goals rfl)
    ·
     intro gh X K zq zc zq2 zc2 zb zv hK;refine Jg (JO u33 sz39 rfl rfl rfl (by omega) hms.sm) rfl (Ji ?_);exact hK zq zc zq2 zc2 zb zv
    ·
     intro gh gh' h
     rfl
    obtain ⟨qe48,ce48,he48,le48,Fe48⟩:=hms i (by omega);apply Jl 7 rfl
    iterate 3 focus (intros;(conv=>lhs;simp only [Jh,Jt,JN,Ju,JI,eq_self,Nat.reduceEqDiff,reduceIte,Nat.reduceSub,Nat.reduceAdd,List.cons_append,List.nil_append]);all_goals rfl)
    ·
     intro gh X K zq zc zq2 zc2 zb zv hK;refine Jg (JR (cs:=[_]) rfl (one_cell he48) (hms.sm (i:=i) (by omega)) ag39) rfl (Ji ?_);exact hK zq zc zq2 zc2 zb zv
    ·
     intro gh gh' h
     rfl
    apply Jl 8 rfl
    iterate 3 focus (intros;(conv=>lhs;simp only [Jh,Jt,JN,Ju,JI,eq_self,Nat.reduceEqDiff,reduceIte,Nat.reduceSub,Nat.reduceAdd,List.cons_append,List.nil_append]);all_goals rfl)
    ·
     intro gh X K zq zc zq2 zc2 zb zv hK;refine Jg (Jv u39 rfl sz37 rfl) rfl (Ji ?_);exact hK zq zc zq2 zc2 zb zv
    ·
     intro gh gh' h
     rfl
    apply Jl 9 rfl
    iterate 3 focus (intros;(conv=>lhs;simp only [Jh,Jt,JN,Ju,JI,eq_self,Nat.reduceEqDiff,reduceIte,Nat.reduceSub,Nat.reduceAdd,List.cons_append,List.nil_append]);all_goals rfl)
    ·
     intro gh X K zq zc zq2 zc2 zb zv hK;refine Jg (Jy rfl At.z rfl pl37) rfl (Ji ?_);exact hK zq zc zq2 zc2 zb zv
    ·
     intro gh gh' h
     rfl
    apply Jl 10 rfl
    iterate 3 focus (intros;(conv=>lhs;simp only [Jh,Jt,JN,Ju,JI,eq_self,Nat.reduceEqDiff,reduceIte,Nat.reduceSub,Nat.reduceAdd,List.cons_append,List.nil_append]);all_goals rfl)
    ·
     intro gh X K zq zc zq2 zc2 zb zv hK;refine Jg (Jc rfl) rfl (Ji ?_);exact hK zq zc zq2 zc2 zb zv
    ·
     intro gh gh' h
     rfl
    apply Jl 11 rfl
    iterate 3 focus (intros;(conv=>lhs;simp only [Jh,Jt,JN,Ju,JI,eq_self,Nat.reduceEqDiff,reduceIte,Nat.reduceSub,Nat.reduceAdd,List.cons_append,List.nil_append]);all_goals rfl)
    ·
     intro gh X K zq zc zq2 zc2 zb zv hK;refine Jg (Jc rfl) rfl (Ji ?_);exact hK zq zc zq2 zc2 zb zv
    ·
     intro gh gh' h
     rfl
    apply Jl 12 rfl
    iterate 3 focus (intros;(conv=>lhs;simp only [Jh,Jt,JN,Ju,JI,eq_self,Nat.reduceEqDiff,reduceIte,Nat.reduceSub,Nat.reduceAdd,List.cons_append,List.nil_append]);all_goals rfl)
    ·
     intro gh X K zq zc zq2 zc2 zb zv hK;refine Jg (Ep u37 sz152 rfl rfl rfl (by omega) hts.sm) rfl (Ji ?_);exact hK zq zc zq2 zc2 zb zv
    ·
     intro gh gh' h
     rfl
    apply Jl 13 rfl
    iterate 3 focus (intros;(conv=>lhs;simp only [Jh,Jt,JN,Ju,JI,eq_self,Nat.reduceEqDiff,reduceIte,Nat.reduceSub,Nat.reduceAdd,List.cons_append,List.nil_append]);all_goals rfl)
    ·
     intro gh X K zq zc zq2 zc2 zb zv hK;refine Jg (Ew u152 rfl sz150 rfl (hts.sm (i:=k) (by omega))) rfl (Ji ?_);exact hK zq zc zq2 zc2 zb zv
    ·
     intro gh gh' h
     rfl
    apply Jl 14 rfl
    iterate 3 focus (intros;(conv=>lhs;simp only [Jh,Jt,JN,Ju,JI,eq_self,Nat.reduceEqDiff,reduceIte,Nat.reduceSub,Nat.reduceAdd,List.cons_append,List.nil_append]);all_goals rfl)
    ·
     intro gh X K zq zc zq2 zc2 zb zv hK;refine Jg (PR.idxP1 u150 sz5 rfl (hts.sm (i:=k) (by omega)) rfl rfl (by omega)) rfl (Ji ?_);exact hK zq zc zq2 zc2 zb zv
    ·
     intro gh gh' h
     rfl
    apply Jl 15 rfl
    iterate 3 focus (intros;(conv=>lhs;simp only [Jh,Jt,JN,Ju,JI,eq_self,Nat.reduceEqDiff,reduceIte,Nat.reduceSub,Nat.reduceAdd,List.cons_append,List.nil_append]);all_goals rfl)
    ·
     intro gh X K zq zc zq2 zc2 zb zv hK;refine Jg (JB rfl (hts.byte (by omega) (by omega)) pl5) rfl (Ji ?_);exact hK zq zc zq2 zc2 zb zv
    ·
     intro gh gh' h
     rfl
    apply Ea 16 rfl
    iterate 3 focus (intros;(conv=>lhs;simp only [Jh,Jt,JN,Ju,JI,eq_self,Nat.reduceEqDiff,reduceIte,Nat.reduceSub,Nat.reduceAdd,List.cons_append,List.nil_append]);all_goals rfl)
    ·
     intro gh X K zq zc zq2 zc2 zb zv hK;refine Jw fn183 rfl rfl fun w hH=>(l04Power_c hds Fe48 hL.dg (hL.im i hil) (hL.ws0 i) (by omega) (by rw [Int.mul_comm];omega) hH).mono ?_;rintro _ w ⟨qo57,co57,rfl,hH⟩;refine ⟨_,rfl,fun a hF=>JK hF hH ?_⟩;refine Ji ?_;exact hK qo57 co57 zq2 zc2 zb zv
    ·
     intro gh gh' h;refine ⟨?_,?_⟩ <;> rfl
    apply Ea 17 rfl
    iterate 3 focus (intros;(conv=>lhs;simp only [Jh,Jt,JN,Ju,JI,eq_self,Nat.reduceEqDiff,reduceIte,Nat.reduceSub,Nat.reduceAdd,List.cons_append,List.nil_append]);all_goals rfl)
    ·
     intro gh X K zq zc zq2 zc2 zb zv hK;refine Jw fn77 rfl rfl fun w hH=>hH.lend (.s .z) fun Hl1 hle1 hA1 hB1 hH=>hH.lend .z fun Hl2 hle2 hA2 hB2 hH=>(l01Times_c ((hds.le hle1).le hle2) ((own_terms wfP hA1).le hle2) (own_terms (hpw.sok.wf (by omega)) hA2) hL.dg.hn hL.dg.hd (by rw [toS_ofS];exact hpr.kex) (by rw [toS_ofS];exact hpw.kex) (by rw [toS_ofS];exact hpr.sok.g) (by rw [toS_ofS];exact hpw.sok.g) (by omega) (by rw [ofS_len,ofS_len];exact Nat.le_trans hpl.1 (by omega)) (by rw [ofS_len];have:=hpl.2;omega) hH).mono ?_;rintro _ w ⟨qo58,co58,rfl,hH⟩;replace hH:=hB2 _ _ hH;replace hH:=hB1 _ _ hH;refine ⟨_,rfl,fun a hF=>JK hF hH ?_⟩;refine Jr .z (Jr (.s .z) (Jr (.s (.s .z)) (Ji ?_)));exact hK qo58 co58 zq2 zc2 zb zv
    ·
     intro gh gh' h;refine ⟨?_,?_⟩ <;> (first | simp only [h 15 rfl] | rfl)
    apply ER 18 rfl
    iterate 3 focus (intros;(conv=>lhs;simp only [Jh,Jt,JN,Ju,JI,eq_self,Nat.reduceEqDiff,reduceIte,Nat.reduceSub,Nat.reduceAdd,List.cons_append,List.nil_append]);all_goals rfl)
    ·
     intro gh X K hK;refine JJ rfl rfl (by first | exact bytesC_one _ | exact intsC_one _ | exact Term.c_one _ | simp [Value.oneCell']) (by simpa [*] using sz39) (by simp [*]) At.z (Ji ?_);exact hK
    ·
     intro gh gh' h
     first | simp only [h 15 rfl,h 16 rfl] | rfl
    apply Ej [0,1,2,3,4,5,6,7,8,9,10,11,12,13,14,15,16,17] [0,1,2,3,4,5,6,7,8,9,10,11,12,13,14,15,16,17,19,20,21,22,23] foll0 rfl rfl rfl (by rfl)
    iterate 2 focus (intros;(conv=>lhs;simp only [Jh,Jt,JN,Ju,JI,eq_self,Nat.reduceEqDiff,reduceIte,Nat.reduceSub,Nat.reduceAdd,List.cons_append,List.nil_append]);all_goals rfl)
    intro gh;generalize (gh 15).c=co57;generalize (gh 15).q=qo57;generalize (gh 16).c=co58;generalize (gh 16).q=qo58;clear gh;refine JF (Ja (hK13 (Jb (Jg (Jc rfl) rfl (Jg (JC rfl rfl (by first | exact nw _ (by omega) | rfl)) rfl (Jg (Jd rfl) rfl (Jf (Ja (JL (.s (.s (.s .z))) (JL .z (Jr (.s (.s (.s (.s (.s .z))))) (Jr (.s (.s (.s (.s (.s .z))))) (Jr (.s (.s (.s (.s (.s .z))))) (Jr (.s (.s (.s (.s (.s .z))))) (Jr (.s (.s (.s (.s .z)))) ?_)))))))))))))));refine Jr (.s (.s (.s (.s (.s .z))))) ?_;exact hAg1 (qo58,co58,i+1) (by show i+1≤ms.length;omega) (by show ms.length - (i+1)<ms.length - i;omega) 34 rfl rfl ⟨rfl,trivial⟩ rfl (by dsimp only;simp only [toS_ofS];rw [prS_yes hpos])
   ·
    refine Jo (JF (Ja (hK13 (Jb (Jg (Jc rfl) rfl (Jg (JC rfl rfl (by first | exact nw _ (by omega) | rfl)) rfl (Jg (Jd rfl) rfl (Jf (Ja ?_)))))))));exact hAg1 (q1,c1,i+1) (by show i+1≤ms.length;omega) (by show ms.length - (i+1)<ms.length - i;omega) 17 rfl rfl ⟨rfl,trivial⟩ rfl (by dsimp only;rw [prS_no (by omega)])
  ·
   refine JG (Jj (Jj (JP (Ja (hK9 (Jb (Jg (Jx rfl (.s (.s .z)) (by simpa [*] using ag39)) rfl (Jg (Jx rfl At.z (by simpa [*] using ag39)) rfl (Jw fn130 rfl rfl fun w hH=>hH.lend (.s (.s (.s .z))) fun Hl1 hle1 hA1 hB1 hH=>hH.lend (.s .z) fun Hl2 hle2 hA2 hB2 hH=>(l01Add_c (M:=20) ((own_terms wfO hA1).le hle2) (own_terms wfP hA2) (by rw [toS_ofS];exact hls) (by rw [toS_ofS];exact hpr.sok.g) (by omega) (by omega) (by rw [ofS_len,ofS_len];omega) hH).mono ?_)))))))));rintro _ w ⟨qo61,co61,rfl,hH⟩;replace hH:=hB2 _ _ hH;replace hH:=hB1 _ _ hH;refine ⟨_,rfl,fun a hF=>JK hF hH ?_⟩;refine JJ rfl rfl (by first | exact bytesC_one _ | exact intsC_one _ | exact Term.c_one _ | simp [Value.oneCell']) (by simpa [*] using sz39) (by simp [*]) (.s (.s (.s (.s .z)))) (Jf (JF (Ja (hK7 (Jb (Jg (Jc rfl) rfl (Jg (JC rfl rfl (by first | exact nw _ (by omega) | rfl)) rfl (Jg (Jd rfl) rfl (Jf (Ja (JL .z (JL .z (JL (.s .z) (Jr (.s (.s (.s .z))) (Jr (.s (.s (.s .z))) ?_)))))))))))))));refine Jr (.s (.s .z)) (Jr (.s (.s (.s .z))) ?_);exact hAg0 (qo61,co61,k+1) (by show k+1≤ts.length;omega) (by show ts.length - (k+1)<ts.length - k;omega) 27 rfl rfl ⟨rfl,trivial⟩ rfl (by dsimp only;simp only [toS_ofS];rw [show i=ms.length by omega,hL.step hxi hxv hls,lead_one hkl])
 ·
  refine JG (Jj (Jj (JP (Ja (hK3 (Je fun _ hK15 _=>(Jb (Jg (Jx rfl At.z (by simpa [*] using ag39)) rfl (JJ rfl rfl (by first | exact bytesC_one _ | exact intsC_one _ | exact Term.c_one _ | simp [Value.oneCell']) (by simpa [*] using sz39) (by simp [*]) (.s (.s .z)) (Jf (Ja (hK15 (Js (Jq rfl (Res.agg rfl (.s (.s .z)) (by simpa [*] using ag39)) fun w hH=>?_))))))))))))));replace hH:=hH.sublist (.cons _ (.cons_cons _ (.cons _ (.cons _ (List.Sublist.refl _)))))
  obtain rfl:k=ts.length:=by omega
  rw [List.take_length] at hH ⊢;exact ⟨_,_,rfl,hH⟩
theorem fn148:Fn Tryz.prog 148:=⟨_,Tryz.func148,by kernel_rfl,rfl⟩
theorem fn72:Fn Tryz.prog 72:=⟨_,Tryz.func72,by kernel_rfl,rfl⟩
theorem degOk_wt {ds:List Int} {ts:List Term} {x:Int} (hn:ds.length≤8) (hd : ∀j,0≤ds.getD j 0∧ds.getD j 0≤12) (hw:Wfs ts) (h:degOk ds ts x=true) : ∀y∈toS ts,wsum ds y.1 ds.length=x:=by
 intro y hy;unfold degOk at h;obtain ⟨h1,h2⟩:=Bool.and_eq_true_iff.1 h;obtain ⟨t,ht,rfl⟩:=List.mem_map.1 hy;obtain ⟨j,hj,rfl⟩:=List.mem_iff_getElem.1 ht
 have h3:wd ds ts j=wd ds ts 0:=by simpa using List.all_eq_true.1 h1 j (by simpa using hj)
 have h4:=degF_neg hn hd hw h1
 have h5:degF ds ts=x:=by
  rcases (Bool.or_eq_true_iff.1 h2) with h | h
  ·exact absurd (of_decide_eq_true h) (fun e=>h4.1 e (by omega))
  ·exact of_decide_eq_true h
 unfold degF outAt at h5;rw [h1,if_pos rfl,if_neg (by omega)] at h5;rw [tm_eq hj]
 show wd ds ts j=x
 omega
theorem form_ws {ds:List Int} {ts:List Term} {x:Int} (hD:isDeg ds=true) (hw:Wfs ts) (hf:isForm ds ts=true) (hd:degOk ds ts x=true) (h13:x≤20):Ws ds x (toS ts):=
 Ws.of (Dg.of hD) (isForm_sok hw hf) (isForm_kex (isDeg_bd hD) (isDeg_len hD) hw hf) (degOk_wt (isDeg_len hD) (isDeg_bd hD) hw hd) h13
def mpOk (bd:List Int) (ms:List (List Term)) (ad:List Int) (i:Nat):Bool:=isForm bd (fm ms i) && degOk bd (fm ms i) (ad.getD i 0)
def mpsOk (bd:List Int) (ms:List (List Term)) (ad:List Int):Bool:=(List.range ms.length).all (mpOk bd ms ad)
def kpS (bd:List Int) (bf ms af:List (List Term)) (i:Nat):Sm:=acc (leadS bd (ssF ms) ms.length (toS (fm af i))) (scl (dS bd bf (toS (fm ms i))) 10006)
def kps (bd:List Int) (bf ms af:List (List Term)):Bool:=(List.range af.length).all fun i=>decide ((kpS bd bf ms af i).length=0)
def isMp (ad:List Int) (af:List (List Term)) (bd:List Int) (bf ms:List (List Term)):Bool:=isAlg ad af && isAlg bd bf && (decide (ms.length=ad.length) && mpsOk bd ms ad && kps bd bf ms af)
theorem mpsOk_bad {bd ad:List Int} {ms:List (List Term)} {i:Nat} (hi:i<ms.length) (h:mpOk bd ms ad i=false):mpsOk bd ms ad=false:=List.all_eq_false.2 ⟨i,by simpa using hi,by simp [h]⟩
theorem mpsOk_good {bd ad:List Int} {ms:List (List Term)} (h : ∀j,j<ms.length→mpOk bd ms ad j=true):mpsOk bd ms ad=true:=List.all_eq_true.2 fun j hj=>h j (by simpa using hj)
theorem mpsOk_at {bd ad:List Int} {ms:List (List Term)} (h:mpsOk bd ms ad=true) {i:Nat} (hi:i<ms.length):mpOk bd ms ad i=true:=List.all_eq_true.1 h i (by simpa using hi)
theorem kps_bad {bd:List Int} {bf ms af:List (List Term)} {i:Nat} (hi:i<af.length) (h : ¬(kpS bd bf ms af i).length=0):kps bd bf ms af=false:=List.all_eq_false.2 ⟨i,by simpa using hi,by simpa using h⟩
theorem kps_good {bd:List Int} {bf ms af:List (List Term)} (h : ∀j,j<af.length→(kpS bd bf ms af j).length=0):kps bd bf ms af=true:=List.all_eq_true.2 fun j hj=>by simpa using h j (by simpa using hj)
theorem mpOk_yes {bd ad:List Int} {ms:List (List Term)} {i:Nat} (h1:isForm bd (fm ms i)=true) (h2:homog bd (fm ms i)=true) (h3:degF bd (fm ms i) = -1∨degF bd (fm ms i)=ad.getD i 0):mpOk bd ms ad i=true:=by
 unfold mpOk degOk;rw [h1,h2]
 rcases h3 with h | h <;> rw [decide_eq_true h] <;> simp
theorem mpOk_no1 {bd ad:List Int} {ms:List (List Term)} {i:Nat} (h1:isForm bd (fm ms i)=false):mpOk bd ms ad i=false:=by unfold mpOk;rw [h1];rfl
theorem mpOk_no2 {bd ad:List Int} {ms:List (List Term)} {i:Nat} (h1:homog bd (fm ms i)=false):mpOk bd ms ad i=false:=by unfold mpOk degOk;rw [h1];simp
theorem mpOk_no3 {bd ad:List Int} {ms:List (List Term)} {i:Nat} (h1 : ¬degF bd (fm ms i) = -1) (h2 : ¬degF bd (fm ms i)=ad.getD i 0):mpOk bd ms ad i=false:=by unfold mpOk degOk;rw [decide_eq_false h1,decide_eq_false h2];simp
theorem isAlg_im {ds:List Int} {fs:List (List Term)} (h:isAlg ds fs=true):imsOk ds fs=true:=by
 unfold isAlg at h;simp only [Bool.and_eq_true] at h;exact h.1.2
theorem Ld.map {ad bd:List Int} {af ms:List (List Term)} (hA:isAlg ad af=true) (hB:isDeg bd=true) (hwa:Wfss af) (hwm:Wfss ms) (hl:ms.length=ad.length) (h : ∀j,j<ms.length→mpOk bd ms ad j=true) {i:Nat} (hi:i<af.length):Ld bd ad (ssF ms) ms.length 20 (toS (fm af i)):=by
 have hD:=isAlg_deg hA;have hd:=isDeg_bd hD;have h1:=imsOk_at (isAlg_im hA) hi;unfold imOk at h1;obtain ⟨h2,h3⟩:=Bool.and_eq_true_iff.1 h1;refine ⟨Dg.of hB,fun j=>(hd j).1,fun j hj=>?_,isForm_sok (hwa.fm i) h2,fun x hx=>?_⟩
 ·have h4:=h j hj;unfold mpOk at h4;obtain ⟨h5,h6⟩:=Bool.and_eq_true_iff.1 h4;exact form_ws hB (hwm.fm j) h5 h6 (by have:=hd j;omega)
 ·rw [hl,degOk_wt (isDeg_len hD) hd (hwa.fm i) h3 x hx];have:=hd i
  omega
theorem dS_len {ds:List Int} {fs:List (List Term)} {ts:List Term} (hL : ∀i,i<fs.length→(fm fs i).length≤10000) (ho:Occ fs.length (toS ts)):(dS ds fs (toS ts)).length≤ts.length * 80000:=by
 have h1:=acc_len (dAll ds fs (toS ts)) [];have h2:=dAll_len (ds:=ds) hL ho;rw [toS_len] at h2;unfold dS;simp only [List.length_nil] at h1
 omega
theorem l04Is_c {B:World} {H0 H:HP} {L:List SA} {w:World} {qad qaf:Option Addr} {cad caf:Nat} {ad:List Int} {af:List (List Term)} {qbd qbf:Option Addr} {cbd cbf:Nat} {bd:List Int} {bf:List (List Term)} {qms:Option Addr} {cms:Nat} {ms:List (List Term)} (had:Ints H qad ad) (haf:Forms H qaf af) (hbd:Ints H qbd bd) (hbf:Forms H qbf bf) (hms:Forms H qms ms) (hn8:ad.length≤1048576) (hn9:af.length≤1048576) (hl9 : ∀i,i<af.length→(fm af i).length≤1048576) (hbn8:bd.length≤1048576) (hbn9:bf.length≤1048576) (hbl9 : ∀i,i<bf.length→(fm bf i).length≤1048576) (hmn9:ms.length≤1048576) (hml9 : ∀i,i<ms.length→(fm ms i).length≤1048576) (hH:Hp B H0 H L w):Calls Tryz.prog 146 [.agg [.slice qad ad.length cad,.slice qaf af.length caf].toArray,.agg [.slice qbd bd.length cbd,.slice qbf bf.length cbf].toArray,.slice qms ms.length cms].toArray w fun e w'=>e = .returned (.bool (isMp ad af bd bf ms))∧Hp B H0 H L w':=by
 refine Jz Tryz.func146 rfl 96 rfl rfl [(0,.agg [.slice qad ad.length cad,.slice qaf af.length caf].toArray),(1,.agg [.slice qbd bd.length cbd,.slice qbf bf.length cbf].toArray),(2,.slice qms ms.length cms)] rfl hH ?_;clear hH;refine Je fun _ hK1 _=>(Jb (Ed rfl rfl rfl fun g3=>(Ed rfl rfl rfl fun g4=>(Jg (Jd rfl) rfl (Jf (Ja (hK1 (Je fun _ hK2 _=>(Je fun _ hK3 _=>(Jb (Jg (Jx rfl (.s .z) (by simpa [*] using ag35)) rfl (Jw fn72 rfl rfl fun w hH=>(l02Is_c had haf (by omega) (by omega) (by omega) hH).mono ?_))))))))))));rintro _ w ⟨rfl,hH⟩;refine ⟨_,rfl,fun a hF=>JK hF hH ?_⟩;refine Jg (Ek rfl) rfl (Jg (Jc rfl) rfl (Ei (jd:=14) rfl (fun hg14=>?_) (fun hg14=>?_)))
 ·
  try have hg14p:=of_decide_eq_true hg14
  refine JU rfl rfl rfl hg14 (JU rfl rfl rfl hg14 (JU rfl rfl rfl hg14 (Jg (JY rfl hg14 rfl) rfl (Jg (Jc rfl) rfl (JU rfl rfl rfl rfl (JU rfl rfl rfl rfl (JU rfl rfl rfl rfl (JU rfl rfl rfl rfl (JU rfl rfl rfl rfl (JU rfl rfl rfl rfl (Jg (JY rfl rfl rfl) rfl (Jf (Ja (hK3 (Er rfl ?_)))))))))))))));refine Je fun _ hK4 _=>(Jb (Jg (Jd rfl) rfl (Jf (Ja (hK4 (Js (Jk (Jq rfl (Res.tmp rfl) fun w hH=>?_))))))));replace hH:=hH.tail;replace hH:=hH.tail;exact ⟨rb (by unfold isMp;rw [show isAlg ad af=false by simpa using hg14];rfl),hH⟩
 ·
  try have hg14p:=of_decide_eq_false hg14
  refine JW (Jx rfl At.z (by simpa [*] using ag35)) rfl rfl rfl hg14 (EO fn72 rfl rfl hg14 rfl rfl fun w hH=>(l02Is_c hbd hbf (by omega) (by omega) (by omega) hH).mono ?_);rintro _ w ⟨rfl,hH⟩;refine ⟨_,rfl,fun a hF=>JK hF hH ?_⟩;refine JW (Ek rfl) rfl rfl rfl hg14 (Jg (JX rfl hg14 rfl) rfl (Jg (Jc rfl) rfl (Ei (jd:=19) rfl (fun hg19=>?_) (fun hg19=>?_))))
  ·
   try have hg19p:=of_decide_eq_true hg19
   refine JU rfl rfl rfl hg19 (JU rfl rfl rfl hg19 (JU rfl rfl rfl hg19 (JU rfl rfl rfl hg19 (JU rfl rfl rfl hg19 (JU rfl rfl rfl hg19 (Jg (JY rfl hg19 rfl) rfl (Jf (Ja (hK3 (Er rfl (Je fun _ hK5 _=>(Jb (Jg (Jd rfl) rfl (Jf (Ja (hK5 ?_))))))))))))))));refine Js (Jk (Jq rfl (Res.tmp rfl) fun w hH=>?_));replace hH:=hH.tail;replace hH:=hH.tail;exact ⟨rb (by unfold isMp;rw [show isAlg bd bf=false by simpa using hg19];simp),hH⟩
  ·
   try have hg19p:=of_decide_eq_false hg19
   refine JW (Jc rfl) rfl rfl rfl hg19 (JW (Jn u33 rfl rfl) rfl rfl rfl hg19 (JW (Jv u35 rfl sz22 rfl) rfl rfl rfl hg19 (JW (Jy rfl (.s .z) rfl pl22) rfl rfl rfl hg19 (JW (Jn u22 rfl rfl) rfl rfl rfl hg19 (JW (Em rfl rfl) rfl rfl rfl hg19 (Jg (JX rfl hg19 rfl) rfl (Jf (Ja (hK3 (Jp rfl (fun hc26=>?_) (fun hc26=>?_)))))))))))
   ·
    refine Je fun _ hK6 _=>(Jb (Jg (Jd rfl) rfl (Jf (Ja (hK6 (Js (Jk (Jq rfl (Res.tmp rfl) fun w hH=>?_))))))));replace hH:=hH.tail;replace hH:=hH.tail;exact ⟨rb (by unfold isMp;rw [decide_eq_false (show ¬ms.length=ad.length by omega)];simp),hH⟩
   ·
    have hAa:isAlg ad af=true:=by simpa using hg14
    have hBb:isAlg bd bf=true:=by simpa using hg19
    have hAo:=isAlg_ok hAa haf.wfss;have hBo:=isAlg_ok hBb hbf.wfss;have hn:=hBo.hn;have hd:=hBo.hd;have hal:=hAo.hl;have han:=hAo.hn
    have hlen:ms.length=ad.length:=by omega
    have hpos9 : ∀j,j<bd.length→0≤bd.getD j 0:=fun j _=>(hd j).1;refine Jo (Ja (hK2 (Je fun _ hK7 _=>(Je fun _ hK8 _=>(Jb (Jg (Jd rfl) rfl (Jf (Ja (hK8 (Jm (JD (σ:=Nat) (fun (i:Nat)=>[(7,.int .i64 (i:Int))]) (fun (i:Nat)=>H) (fun (i:Nat)=>obj g4 (.cells [.slice qbd bd.length cbd,.slice qbf bf.length cbf].toArray 35 (0,0))::obj g3 (.cells [.slice qad ad.length cad,.slice qaf af.length caf].toArray 35 (0,0))::L) (fun (i:Nat)=>i≤ms.length∧∀j,j<i→mpOk bd ms ad j=true) (fun (i:Nat)=>ms.length - i) 0 ⟨by omega,fun j hj=>by omega⟩ ⟨rfl,trivial⟩ rfl rfl ?_)))))))))));rintro i ⟨hi,hI⟩ _ hAg0;refine Je fun _ hK9 _=>(Je fun _ hK10 _=>(Jb (Jg (Jc rfl) rfl (Jg (Jc rfl) rfl (Jg (Jn u33 rfl rfl) rfl (Jg (JM rfl rfl) rfl (Jf (Ja (hK10 (Jp rfl (fun hc30=>?_) (fun hc30=>?_)))))))))))
    ·
     have hl0:=hml9 i (by omega);have hdi:=hAo.hd i;refine Jo (Ja (hK9 (Je fun _ hK11 _=>(Jm (Je fun _ hK12 _=>(Je fun _ hK13 _=>(Eo [[], [0], [], [], [2,3], [4]] (by kernel_rfl) (JA (fun gh=>Jv u35 rfl sz22 rfl) (JA (fun gh=>Jy rfl At.z rfl pl22) (JA (fun gh=>Jc rfl) (JA (fun gh=>Jc rfl) (JA (fun gh=>JO u33 sz39 rfl rfl rfl (by omega) hms.sm) ?_))))))))))));obtain ⟨qe38,ce38,he38,le38,Fe38⟩:=hms i (by omega);refine JA (fun gh=>JR (cs:=[_]) rfl (one_cell he38) (hms.sm (i:=i) (by omega)) ag39) (Eb 6 1 foll0 (by kernel_rfl) rfl rfl fun gh=>(En (us':=(33,_)::(34,_)::(35,_)::(36,_)::(37,_)::(38,_)::_) (L':=_) rfl rfl (Jw fn105 rfl rfl fun w hH=>(l01Is_c hbd Fe38 (by omega) hpos9 (by omega) hH).mono ?_)));rintro _ w ⟨rfl,hH⟩;refine ⟨_,rfl,fun a hF=>JK hF hH ?_⟩;refine Jf (Ec (JE (Ek rfl) rfl (Ee (Ja (hK13 (Eg rfl (fun h40=>?_) (fun h40=>?_)))))))
     ·
      refine Je fun _ hK14 _=>(Jb (Jg (Jd rfl) rfl (Jf (Ja (hK14 (Js (Jk (JT (Jk (Jk (JT (Jk (Jq rfl (Res.tmp rfl) fun w hH=>?_)))))))))))));replace hH:=hH.tail;replace hH:=hH.tail;exact ⟨rb (by unfold isMp;rw [mpsOk_bad (i:=i) (by omega) (mpOk_no1 (by simpa using h40))];simp),hH⟩
     ·
      have hfo:isForm bd (fm ms i)=true:=by simpa using h40
      refine Jo (Ja (hK12 (Je fun _ hK15 _=>(Eo [[], [0], [], [], [2,3], [4]] (by kernel_rfl) (JA (fun gh=>Jv u35 rfl sz22 rfl) (JA (fun gh=>Jy rfl At.z rfl pl22) (JA (fun gh=>Jc rfl) (JA (fun gh=>Jc rfl) (JA (fun gh=>JO u33 sz39 rfl rfl rfl (by omega) hms.sm) ?_)))))))));obtain ⟨qe47,ce47,he47,le47,Fe47⟩:=hms i (by omega);refine JA (fun gh=>JR (cs:=[_]) rfl (one_cell he47) (hms.sm (i:=i) (by omega)) ag39) (Eb 6 1 foll0 (by kernel_rfl) rfl rfl fun gh=>(En (us':=(42,_)::(43,_)::(44,_)::(45,_)::(46,_)::(47,_)::_) (L':=_) rfl rfl (Jw fn106 rfl rfl fun w hH=>(l01Degree_c hbd Fe47 hn hd (by omega) hH).mono ?_)));rintro _ w ⟨rfl,hH⟩;refine ⟨_,rfl,fun a hF=>JK hF hH ?_⟩;refine Jf (Ec (JE (Jc rfl) rfl (JE (JQ rfl rfl) rfl (JE (JQ rfl rfl) rfl (JE (Jd rfl) rfl (JE (Jd rfl) rfl (Ee (Ja (hK15 (Je fun _ hK16 _=>(Jb (Jg (Jc rfl) rfl (Jg (Ek rfl) rfl (Jg (Jc rfl) rfl (Ei (jd:=53) rfl (fun h53=>?_) (fun h53=>?_))))))))))))))))
      ·
       try have h53p:=of_decide_eq_true h53
       refine JU rfl rfl rfl h53 (JU rfl rfl rfl h53 (JU rfl rfl rfl h53 (JU rfl rfl rfl h53 (JU rfl rfl rfl h53 (JU rfl rfl rfl h53 (JU rfl rfl rfl h53 (JU rfl rfl rfl h53 (J.gu rfl rfl rfl (J.gu rfl rfl rfl (J.gu rfl rfl rfl (J.gu rfl rfl rfl (J.gu rfl rfl rfl (J.gu rfl rfl rfl (J.gu rfl rfl rfl ?_))))))))))))));refine JU rfl rfl rfl h53 (Jg (JY rfl h53 rfl) rfl (Jf (Ja (hK16 (Er rfl (Je fun _ hK17 _=>(Jb (Jg (Jd rfl) rfl (Jf (Ja (hK17 (Js (JT (Jk (Jk (JT ?_))))))))))))))));refine Jk (Jq rfl (Res.tmp rfl) fun w hH=>?_);replace hH:=hH.tail;replace hH:=hH.tail;exact ⟨rb (by unfold isMp;rw [mpsOk_bad (i:=i) (by omega) (mpOk_no2 (by simpa using h53))];simp),hH⟩
      ·
       try have h53p:=of_decide_eq_false h53
       refine JW (Jc rfl) rfl rfl rfl h53 (JW (Jc rfl) rfl rfl rfl h53 (JW (JO u33 sz39 rfl rfl rfl (by omega) hms.sm) rfl rfl rfl h53 (JW (Ew u39 rfl sz37 rfl (hms.sm (i:=i) (by omega))) rfl rfl rfl h53 ?_)));obtain ⟨qe58,ce58,he58,le58,Fe58⟩:=hms i (by omega);refine JW (JB rfl he58 pl37) rfl rfl rfl h53 (JW (Jn u37 rfl rfl) rfl rfl rfl h53 (JW (EB rfl rfl) rfl rfl rfl h53 (JW (Jc rfl) rfl rfl rfl h53 (Ei (jd:=61) rfl (fun h61=>?_) (fun h61=>?_)))))
       ·
        try have h61p:=of_decide_eq_true h61
        refine JW (Jc rfl) rfl rfl rfl h61 (JW (Jv u35 rfl sz22 rfl) rfl rfl rfl h61 (JW (Jy rfl (.s .z) rfl pl22) rfl rfl rfl h61 (JW (Jc rfl) rfl rfl rfl h61 (JW (JO u22 sz2 rfl rfl rfl (by omega) had.sm) rfl rfl rfl h61 (JW (JB rfl (had _ (by omega)) pl2) rfl rfl rfl h61 (JW (Em rfl rfl) rfl rfl rfl h61 (JW (JY rfl h61 rfl) rfl rfl rfl h53 (Jg (JX rfl h53 rfl) rfl (Jf (Ja (hK16 (Jp rfl (fun h70=>?_) (fun h70=>?_)))))))))))))
        ·
         refine Je fun _ hK18 _=>(Jb (Jg (Jd rfl) rfl (Jf (Ja (hK18 (Js (JT (Jk (Jk (JT (Jk (Jq rfl (Res.tmp rfl) fun w hH=>?_))))))))))));replace hH:=hH.tail;replace hH:=hH.tail;exact ⟨rb (by unfold isMp;rw [mpsOk_bad (i:=i) (by omega) (mpOk_no3 (fun e=>(degF_neg hn hd (hms.wfss.fm i) (by simpa using h53)).1 e (by omega)) h70)];simp),hH⟩
        ·
         refine Jo (JF (Ja (hK11 (Jb (Jg (Jc rfl) rfl (Jg (JC rfl rfl (by first | exact nw _ (by omega) | rfl)) rfl (Jg (Jd rfl) rfl (Jf (Ja ?_)))))))));exact hAg0 (i+1) ⟨by omega,upto hI (mpOk_yes hfo (by simpa using h53) (.inr (Decidable.not_not.1 h70)))⟩ (by omega) 48 rfl rfl ⟨rfl,trivial⟩ rfl rfl
       ·
        try have h61p:=of_decide_eq_false h61
        refine JU rfl rfl rfl h61 (JU rfl rfl rfl h61 (JU rfl rfl rfl h61 (JU rfl rfl rfl h61 (JU rfl rfl rfl h61 (JU rfl rfl rfl h61 (JU rfl rfl rfl h61 (JW (JX rfl h61 rfl) rfl rfl rfl h53 (Jg (JX rfl h53 rfl) rfl (Jf (Ja (hK16 (Et rfl (Jo (JF (Ja (hK11 ?_))))))))))))))));refine Jb (Jg (Jc rfl) rfl (Jg (JC rfl rfl (by first | exact nw _ (by omega) | rfl)) rfl (Jg (Jd rfl) rfl (Jf (Ja ?_)))));exact hAg0 (i+1) ⟨by omega,upto hI (mpOk_yes hfo (by simpa using h53) (.inl ((degF_neg hn hd (hms.wfss.fm i) (by simpa using h53)).2 (by omega))))⟩ (by omega) 48 rfl rfl ⟨rfl,trivial⟩ rfl rfl
    ·
     have hM9:=mpsOk_good (bd:=bd) (ad:=ad) (ms:=ms) (fun j hj=>hI j (by omega));refine JG (Jj (Jj (JP (Ja (hK7 (Je fun _ hK19 _=>(Je fun _ hK20 _=>(Jb (Jg (Jd rfl) rfl (Jf (Ja (hK20 (Jm (JD (σ:=Nat) (fun (k:Nat)=>[(10,.int .i64 (k:Int))]) (fun (k:Nat)=>H) (fun (k:Nat)=>obj g4 (.cells [.slice qbd bd.length cbd,.slice qbf bf.length cbf].toArray 35 (0,0))::obj g3 (.cells [.slice qad ad.length cad,.slice qaf af.length caf].toArray 35 (0,0))::L) (fun (k:Nat)=>k≤ms.length∧∀j,j<k→(kpS bd bf ms af j).length=0) (fun (k:Nat)=>ms.length - k) 0 ⟨by omega,fun j hj=>by omega⟩ ⟨rfl,trivial⟩ rfl rfl ?_))))))))))))));rintro k ⟨hk,hJ⟩ _ hAg1;refine Je fun _ hK21 _=>(Je fun _ hK22 _=>(Jb (Jg (Jc rfl) rfl (Jg (Jc rfl) rfl (Jg (Jn u33 rfl rfl) rfl (Jg (JM rfl rfl) rfl (Jf (Ja (hK22 (Jp rfl (fun hc74=>?_) (fun hc74=>?_)))))))))))
     ·
      have hka:k<af.length:=by omega
      have hLd:=Ld.map hAa (isAlg_deg hBb) haf.wfss hms.wfss hlen (fun j hj=>mpsOk_at hM9 hj) hka;have hls:=hLd.lead;have hll:=hLd.len;rw [toS_len] at hll;have ha4:=isForm_len4 (hAo.ok k hka);have hm5:=(Bool.and_eq_true_iff.1 (mpsOk_at hM9 (show k<ms.length by omega))).1;have hms9:=isForm_sok (hms.wfss.fm k) hm5;have hmk:=isForm_kex hd hn (hms.wfss.fm k) hm5;have hoc:=Ex.occ hmk hBo.hl;have hdl:=dS_len (ds:=bd) hBo.len hoc;have hm4:=isForm_len4 hm5;have hds:=dS_sok (ds:=bd) hms9 hBo.fok hoc;refine Jo (Ja (hK21 (Je fun _ hK23 _=>(Jm (Je fun _ hK24 _=>(Eo [[], [0], [], [], [3], [], [4,5], [6], [1,2,7], [], [], [], [10,11], [12]] (by kernel_rfl) (JA (fun gh=>Jv u35 rfl sz22 rfl) (JA (fun gh=>Jy rfl At.z rfl pl22) (JA (fun gh=>Jc rfl) (JA (fun gh=>Jv u35 rfl sz33 rfl) (JA (fun gh=>Jy rfl (.s .z) rfl pl33) (JA (fun gh=>Jc rfl) (JA (fun gh=>JO u33 sz39 rfl rfl rfl (by omega) haf.sm) ?_)))))))))))));obtain ⟨qe84,ce84,he84,le84,Fe84⟩:=haf k (by omega);refine JA (fun gh=>JR (cs:=[_]) rfl (one_cell he84) (haf.sm (i:=k) (by omega)) ag39) (HJ.callN fn148 (fun gh=>rfl) (fun w X hH=>l04Apply_c hbd hms Fe84 hLd (by omega) (by omega) (by omega) hH) (JA (fun gh=>Jx rfl At.z (by simpa [*] using ag35)) (JA (fun gh=>Jc rfl) (JA (fun gh=>Jc rfl) (JA (fun gh=>JO u33 sz39 rfl rfl rfl (by omega) hms.sm) ?_)))));obtain ⟨qe90,ce90,he90,le90,Fe90⟩:=hms k (by omega);refine JA (fun gh=>JR (cs:=[_]) rfl (one_cell he90) (hms.sm (i:=k) (by omega)) ag39) (Eb 14 2 foll0 (by kernel_rfl) rfl rfl fun gh=>(En (us':=(77,_)::(78,_)::(79,_)::(80,_)::(81,_)::(82,_)::(83,_)::(84,_)::(85,_)::(86,_)::(87,_)::(88,_)::(89,_)::(90,_)::_) (L':=_::_) rfl rfl (Jw fn107 rfl rfl fun w hH=>(l02D_c hbd hbf Fe90 hn hd hBo.fok hBo.hl hBo.kex hms9 hmk (by omega) hBo.len (by omega) hH).mono ?_)));rintro _ w ⟨qo91,co91,rfl,hH⟩;refine ⟨_,rfl,fun a hF=>JK hF hH ?_⟩;refine Jw fn130 rfl rfl fun w hH=>hH.lend (.s .z) fun Hl1 hle1 hA1 hB1 hH=>hH.lend .z fun Hl2 hle2 hA2 hB2 hH=>(l01Add_c (M:=60) ((own_terms (hls.wf (by omega)) hA1).le hle2) (own_terms (hds.wf (by omega)) hA2) (by rw [toS_ofS];exact hls.mono (by omega)) (by rw [toS_ofS];exact hds.g) (by omega) (by omega) (by rw [ofS_len,ofS_len];omega) hH).mono ?_;rintro _ w ⟨qo92,co92,rfl,hH⟩;replace hH:=hB2 _ _ hH;replace hH:=hB1 _ _ hH;refine ⟨_,rfl,fun a hF=>JK hF hH ?_⟩;refine Jf (Ec (JE (PR.fieldV u39 rfl pl37 rfl rfl) rfl (JE (Jn u37 rfl rfl) rfl (JE (EB rfl rfl) rfl (Ee (Ja (hK24 (Jp rfl (fun h95=>?_) (fun h95=>?_)))))))))
      ·
       refine Je fun _ hK25 _=>(Jb (Jg (Jd rfl) rfl (Jf (Ja (hK25 (Js (JT (Jk (Jk (JT (Jk (Jq rfl (Res.tmp rfl) fun w hH=>?_))))))))))));replace hH:=hH.tail;replace hH:=hH.tail;replace hH:=hH.tail;replace hH:=hH.tail;replace hH:=hH.tail;exact ⟨rb (by unfold isMp;rw [kps_bad (i:=k) (by omega) (by simp only [toS_ofS,ofS_len] at h95;show ¬(acc _ _).length=0;omega)];simp),hH⟩
      ·
       refine Jo (JF (Ja (hK23 (Jb (Jg (Jc rfl) rfl (Jg (JC rfl rfl (by first | exact nw _ (by omega) | rfl)) rfl (Jg (Jd rfl) rfl (Jf (Ja (JL .z (JL .z (JL .z ?_))))))))))));exact hAg1 (k+1) ⟨by omega,upto hJ (by simp only [toS_ofS,ofS_len] at h95;show (acc _ _).length=0;omega)⟩ (by omega) 27 rfl rfl ⟨rfl,trivial⟩ rfl rfl
     ·
      refine JG (Jj (Jj (JP (Ja (hK19 (Je fun _ hK26 _=>(Jb (Jg (Jd rfl) rfl (Jf (Ja (hK26 (Js (Jq rfl (Res.tmp rfl) fun w hH=>?_)))))))))))));replace hH:=hH.tail;replace hH:=hH.tail;exact ⟨rb (by unfold isMp;rw [hAa,hBb,hM9,decide_eq_true hlen,kps_good (fun j hj=>hJ j (by omega))];rfl),hH⟩
theorem u233:Tryz.prog.underlying 233=some (TypeDesc.array 2 3):=by kernel_rfl
def k2Ok (p:Pw):Prop:=p.length=2∧Small p
theorem keyLits2 {P:Program} {t e:TypeId} {d:Nat} {p:Pw} (ht:P.underlying t=some (.array 2 e)) (he:P.underlying e=some (.int .i64)) (hc:P.cellsOf e=1) (hct:P.cellsOf t=2) (h:k2Ok p) : ∃ls,P.keyLits (d+2) t (intsC p)=some ls:=by
 unfold Program.keyLits;rw [ht];simp only [intsC_length,hct,h.1,if_true]
 have key : ∀i,i<2→∃l,P.keyLits (d+1) e (((intsC p).drop (i * P.cellsOf e)).take (P.cellsOf e))=some l:=by
  intro i hi;have hb:=h.2 i;rw [hc,Nat.mul_one,List.drop_eq_getElem_cons (by simp [h.1];omega),List.take_succ_cons,List.take_zero]
  have e1:(intsC p)[i]'(by simp [h.1];omega) = .int .i64 (p.getD i 0):=by
   have:=intsC_get (m:=p) (i:=i) (by rw [h.1];omega);rw [List.getElem?_eq_getElem (by simp [h.1];omega)] at this;exact Option.some.inj this
  rw [e1];refine ⟨[.int .i64 (p.getD i 0)],?_⟩;generalize p.getD i 0=x at hb
  have hw:(Lit.int .i64 x).wf=true:=by
   simp [Lit.wf,IntKind.min,IntKind.max,IntKind.signed,IntKind.bits]
   omega
  unfold Program.keyLits;rw [he]
  simp [hw]
 have hm : ∀(l:List Nat),(∀i∈l,i<2)→∃r,l.mapM (fun i=>P.keyLits (d+1) e (((intsC p).drop (i * P.cellsOf e)).take (P.cellsOf e)))=some r:=by
  intro l
  induction l with
  | nil=>intro _;exact ⟨[],rfl⟩
  | cons i l ih=>
   intro hl;obtain ⟨a,ha⟩:=key i (hl i (by simp));obtain ⟨r,hr⟩:=ih fun j hj=>hl j (by simp [hj]);exact ⟨a::r,by simp [List.mapM_cons,ha,hr]⟩
 obtain ⟨r,hr⟩:=hm (List.range 2) fun i hi=>List.mem_range.1 hi;rw [hr];exact ⟨_,rfl⟩
theorem k2K:KeyT Tryz.prog 233 pwE k2Ok:=KeyT.of (Go.Maps.Keyed.of_law (deep_law_laid (m:=5) (by kernel_rfl) (by decide) (of_decide_eq_true (by kernel_rfl)) (by kernel_rfl) (by kernel_rfl))) pwE_inj fun p hp=>by
 obtain ⟨ls,hl⟩:=keyLits2 (P:=Tryz.prog) (t:=233) (e:=3) (d:=Tryz.prog.types.size - 1) u233 u3 (by kernel_rfl) (by kernel_rfl) hp
 have e1:Tryz.prog.types.size - 1+2=Tryz.prog.types.size+1:=by kernel_rfl
 rw [e1] at hl
 have hc8:Tryz.prog.cellsOf 233=2:=by kernel_rfl
 have hf:(pwE p).formed Tryz.prog 233=true:=by
  simp [pwE,Value.formed,u233,hc8,hp.1]
 refine ⟨.string (keyBytes ls),?_⟩
 unfold keyOf
 rw [u233]
 simp only []
 have hkt:Tryz.prog.keyType 233=true:=by kernel_rfl
 rw [hkt,hf]
 simp only [Bool.and_self,if_true]
 have:(pwE p).cells.toList=intsC p:=by simp [pwE,Value.cells]
 rw [this,hl]
 rfl
def mvE (b:Nat):Value:=.map (some b)
abbrev okn (kb:Nat) (xs:List (Pw × Nat)):SA:=omap pwE mvE k2Ok kb xs
def kF (ds:Pw) (ss:Nat→Sm) (p:Pw):Sm:=pwS ds (ss (p.getD 0 0).toNat) (p.getD 1 0).toNat
theorem kF_at (ds:Pw) (ss:Nat→Sm) (i x:Nat):kF ds ss [(i:Int),(x:Int)]=pwS ds (ss i) x:=by simp [kF]
def sms (f:Pw→Sm) (n:Nat) (vs:Vs) (xs:List (Pw × Nat)):SA where
 fp:=fun b=>∃j,j<n∧b=(vs j).2
 holds:=fun h=>∀x∈xs,(∃j,j<n∧x.2=(vs j).2)∧(osum x.2 (f x.1)).holds h
 loc:=fun h h' hb hh x hx=>by
  obtain ⟨⟨j,hj,e⟩,h2⟩:=hh x hx
  exact ⟨⟨j,hj,e⟩,(osum x.2 (f x.1)).loc h h' (fun b hb'=>hb b ⟨j,hj,(show b=x.2 from hb').trans e⟩) h2⟩
def knw (f:Pw→Sm) (kb n:Nat) (vs:Vs):SA where
 fp:=fun b=>b=kb∨∃j,j<n∧b=(vs j).2
 holds:=fun h=>∃xs,(okn kb xs).holds h∧(sms f n vs xs).holds h∧∀j,j<n→(vs j).2≠kb
 loc:=fun h h' hb hh=>by
  obtain ⟨xs,h1,h2,h3⟩:=hh
  exact ⟨xs,(okn kb xs).loc h h' (fun b hb'=>hb b (.inl hb')) h1,(sms f n vs xs).loc h h' (fun b hb'=>hb b (.inr hb')) h2,h3⟩
def knwR (f:Pw→Sm) (kb n:Nat) (vs:Vs) (b:Nat) (s:Sm):SA where
 fp:=fun b=>b=kb∨∃j,j<n∧b=(vs j).2
 holds:=fun h=>(knw f kb n vs).holds h∧(∃j,j<n∧b=(vs j).2)∧(osum b s).holds h
 loc:=fun h h' hb hh=>by
  obtain ⟨h1,⟨j,hj,e⟩,h2⟩:=hh
  exact ⟨(knw f kb n vs).loc h h' hb h1,⟨j,hj,e⟩,(osum b s).loc h h' (fun b' hb'=>hb b' (.inr ⟨j,hj,(show b'=b from hb').trans e⟩)) h2⟩
theorem knwR_H {f:Pw→Sm} {kb n b:Nat} {vs:Vs} {s:Sm} {h:HP} (hh:(knwR f kb n vs b s).holds h):SumH h (.map (some b)) s:=omap_H hh.2.2
section
variable {P : Program} {ops : Array Oper} {Q : Exit → Act → World → Prop} {n : Nat} {B : World} {H0 H : HP} {rest : List Oper} {us : List (Nat × Value)} {L L' : List SA} {R : Act → World → Prop} {w : World}
variable {f : Pw → Sm} {kb m b : Nat} {vs : Vs} {s : Sm} {xs ys : List (Pw × Nat)} {p : Pw}
theorem Hp.knwOpen (h:Hp B H0 H (knw f kb m vs::L) w) : ∃xs,Hp B H0 H (okn kb xs::sms f m vs xs::L) w:=by
 obtain ⟨⟨xs,h1,h2,h3⟩,_⟩:=h.objs _ (List.mem_cons_self);refine ⟨xs,Hp.unstar (h.reAt (A':=G.star (okn kb xs) (sms f m vs xs)) .z ⟨h1,h2,fun b hb hb'=>?_⟩ fun b hb=>hb)⟩;obtain ⟨j,hj,e⟩:=hb';exact h3 j hj (e.symm.trans hb)
theorem Hp.knwShut (h:Hp B H0 H (okn kb xs::sms f m vs xs::L) w):Hp B H0 H (knw f kb m vs::L) w:=by
 have h1:=h.star;obtain ⟨⟨hA,hC,hd⟩,_⟩:=h1.objs (G.star (okn kb xs) (sms f m vs xs)) List.mem_cons_self;exact h1.reAt .z ⟨xs,hA,hC,fun j hj e=>hd kb rfl ⟨j,hj,e.symm⟩⟩ fun b hb=>hb
theorem Hp.knwForget (h:Hp B H0 H (knwR f kb m vs b s::L) w):Hp B H0 H (knw f kb m vs::L) w:=
 h.reAt .z (h.objs (knwR f kb m vs b s) List.mem_cons_self).1.1 fun b hb=>hb
theorem Hp.knwGet (hs:f p=s) (hx:(p,b)∈xs) (h:Hp B H0 H (okn kb xs::sms f m vs xs::L) w):Hp B H0 H (knwR f kb m vs b s::L) w:=by
 subst hs;have h1:=h.knwShut;obtain ⟨hA,_⟩:=h.objs (sms f m vs xs) (by simp);exact h1.reAt .z ⟨(h1.objs (knw f kb m vs) List.mem_cons_self).1,(hA _ hx).1,(hA _ hx).2⟩ fun b hb=>hb
theorem Hp.smsAdd (hy : ∀x∈ys,x∈xs∨(x.2=b∧f x.1=s)) (h:Hp B H0 H (osum b s::sms f m vs xs::L) w):Hp B H0 H (sms f (m+1) (updV vs m (none,b)) ys::L) w:=by
 have h1:=h.star;obtain ⟨⟨hA,hC,_⟩,_⟩:=h1.objs (G.star (osum b s) (sms f m vs xs)) List.mem_cons_self;refine h1.reAt .z (fun x hx=>?_) fun b' hb'=>?_
 ·rcases hy x hx with h2 | ⟨h2,h3⟩
  ·obtain ⟨⟨j,hj,e⟩,h4⟩:=hC x h2;exact ⟨⟨j,by omega,by rw [e];simp [updV,Nat.ne_of_lt hj]⟩,h4⟩
  ·exact ⟨⟨m,by omega,by simp [updV,h2]⟩,by rw [h2,h3];exact hA⟩
 ·obtain ⟨j,hj,e⟩:=hb'
  by_cases hjm:j=m
  ·left
   subst hjm
   show b'=b
   simpa [updV] using e
  ·right
   exact ⟨j,by omega,by simpa [updV,hjm] using e⟩
theorem Hp.knwAdd (hy : ∀x∈ys,x∈xs∨(x.2=b∧f x.1=s)) (h:Hp B H0 H (osum b s::okn kb ys::sms f m vs xs::L) w):Hp B H0 H (knwR f kb (m+1) (updV vs m (none,b)) b s::L) w:=by
 have h1:=(h.front (.s (.s .z))).front (.s .z);have h2:=((h1.smsAdd hy).front (.s .z)).knwShut;have hA:=(h.objs (osum b s) (by simp)).1;exact h2.reAt .z ⟨(h2.objs (knw f kb (m+1) (updV vs m (none,b))) List.mem_cons_self).1,⟨m,by omega,by simp [updV]⟩,hA⟩ fun b hb=>hb
theorem Hp.knwNew (hs:f p=s) (h:Hp B H0 H (osum b s::okn kb (putM xs p b)::sms f m vs xs::L) w):Hp B H0 H (knwR f kb (m+1) (updV vs m (none,b)) b s::L) w:=
 h.knwAdd fun x hx=>by
  rcases List.mem_cons.1 hx with rfl | hx
  ·exact .inr ⟨rfl,hs⟩
  ·exact .inl (List.mem_filter.1 hx).1
theorem Hp.knwOne (h:Hp B H0 H (osum b s::okn kb xs::sms f m vs xs::L) w):Hp B H0 H (knwR f kb (m+1) (updV vs m (none,b)) b s::L) w:=
 h.knwAdd fun x hx=>.inl hx
theorem Hp.knw0 (h:Hp B H0 H (okn kb []::L) w):Hp B H0 H (knw f kb 0 vs::L) w:=
 Hp.knwShut (xs:=[]) ((h.emp.reAt (A':=sms f 0 vs []) .z (fun x hx=>by simp at hx) fun b hb=>by obtain ⟨j,hj,_⟩:=hb;omega).front (.s .z))
theorem CJ.reH {c:Code} (g : ∀w,Hp B H0 H L w→Hp B H0 H L' w) (h:CJ P c Q n B H0 us H L'):CJ P c Q n B H0 us H L:=fun a w hF hH=>h a w hF (g w hH)
theorem EJ.knwOpen (k : ∀xs,EJ R n B H0 us H (okn kb xs::sms f m vs xs::L)):EJ R n B H0 us H (knwR f kb m vs b s::L):=fun a w hF hH=>by
 obtain ⟨xs,h⟩:=hH.knwForget.knwOpen
 exact k xs a w hF h
theorem EJ.knwForget (k:EJ R n B H0 us H (knw f kb m vs::L)):EJ R n B H0 us H (knwR f kb m vs b s::L):=fun a w hF hH=>k a w hF hH.knwForget
theorem look_mem {k:Pw} {b:Nat} (h:look xs k=some b):(k,b)∈xs:=by
 unfold look at h;obtain ⟨x,hx,rfl⟩:=Option.map_eq_some_iff.1 h;have h1:=List.find?_some hx;have h2:=List.mem_of_find?_eq_some hx
 have e:x.1=k:=by simpa using h1
 rw [← e];exact h2
end
def ImR (H:HP) (q:Option Addr) (n:Nat) (ss:Nat→Sm):Prop:=∀i,i<n→∃g,cellO H q i=some (.map (some g))∧SumH H (.map (some g)) (ss i)
theorem ImR.le {H H':HP} {q:Option Addr} {n:Nat} {ss:Nat→Sm} (h:ImR H q n ss) (hle:Le H H'):ImR H' q n ss:=fun i hi=>by
 obtain ⟨g,h1,h2⟩:=h i hi
 exact ⟨g,cellO_le hle h1,h2.le hle⟩
theorem ImR.sm {H:HP} {q:Option Addr} {n:Nat} {ss:Nat→Sm} (h:ImR H q n ss) {i:Nat} (hi:i<n):q.isSome=true:=by
 obtain ⟨g,h1,_⟩:=h i hi;exact cellO_some h1
theorem number_c {B:World} {H0 H:HP} {L:List SA} {w:World} (hH:Hp B H0 H L w):Calls Tryz.prog 185 [].toArray w fun e w'=>∃b,e = .returned (.map (some b))∧Hp B H0 H (osum b oneS::L) w':=by
 refine Jz Tryz.func185 rfl 4 rfl rfl [] rfl hH ?_;clear hH;refine Je fun _ hK1 _=>(Jb (Jg (Jd rfl) rfl (Jf (Ja (hK1 (Je fun _ hK2 _=>(Jb (EI pwE (Value.int .i64) pwOk rfl fun bm1=>(Jg (Ev bz160) rfl (J.putOne pwK u84 rfl rfl rfl (pwOk_of (zP_pok (M:=0) (by omega)) (by omega)) At.z (Jg (Jc rfl) rfl (Jg (Jd rfl) rfl (Jf (Ja (hK2 (Js ?_))))))))))))))));refine Jq rfl (Res.tmp rfl) fun w hH=>?_;replace hH:=hH.sublist (.cons_cons _ (List.Sublist.refl _));exact ⟨_,rfl,hH⟩
theorem u184:Tryz.prog.underlying 184=some (TypeDesc.map 233 84):=by kernel_rfl
theorem u185:Tryz.prog.underlying 185=some (TypeDesc.slice 84):=by kernel_rfl
theorem u187:Tryz.prog.underlying 187=some (TypeDesc.struct #[{name:="from",type:=22,offset:=0,embedded:=false,tag:="",pkgPath:="loop.example/g01219/impl",byteOffset:=0},{name:="to",type:=22,offset:=1,embedded:=false,tag:="",pkgPath:="loop.example/g01219/impl",byteOffset:=24},{name:="images",type:=185,offset:=2,embedded:=false,tag:="",pkgPath:="loop.example/g01219/impl",byteOffset:=48},{name:="known",type:=184,offset:=3,embedded:=false,tag:="",pkgPath:="loop.example/g01219/impl",byteOffset:=72}]):=by kernel_rfl
theorem sz184:Size Tryz.prog 184 1:=by unfold Size;kernel_rfl
theorem sz185:Size Tryz.prog 185 1:=by unfold Size;kernel_rfl
theorem sz233:Size Tryz.prog 233 2:=by unfold Size;kernel_rfl
theorem ze233:Zero Tryz.prog 233 [.int .i64 0,.int .i64 0]:=by unfold Zero;kernel_rfl
theorem zv84:ZeroV Tryz.prog 84 (.map none):=fun _=>by kernel_rfl
theorem pl184:Plain Tryz.prog 184:=⟨_,u184,rfl⟩
theorem pl185:Plain Tryz.prog 185:=⟨_,u185,rfl⟩
theorem ag233:Agg Tryz.prog 233 2:=⟨_,u233,rfl,by kernel_rfl⟩
theorem fn185:Fn Tryz.prog 185:=⟨_,Tryz.func185,by kernel_rfl,rfl⟩
theorem fn186:Fn Tryz.prog 186:=⟨_,Tryz.func186,by kernel_rfl,rfl⟩
theorem bld2 : ∀(i x:Int) w,(Instr.build 233 #[(0,.int .i64 i),(1,.int .i64 x)]).run Tryz.prog w = .ok (.agg [Value.int .i64 i,Value.int .i64 x].toArray) w:=fun _ _ _=>by kernel_rfl
theorem powX_c {B:World} {H0 H:HP} {L:List SA} {w:World} {bld kbld nld:Nat} {qldf qldt qldi:Option Addr} {cldf cldt cldi:Nat} {ldf ldt:List Int} {lds:Nat→Sm} {i:Nat} {x:Nat} {m:Nat} {vs:Vs} {xs:List (Pw × Nat)} {d:Int} (pld0:CellAt H bld 0 (.slice qldf ldf.length cldf)) (pld1:CellAt H bld 1 (.slice qldt ldt.length cldt)) (pld2:CellAt H bld 2 (.slice qldi nld cldi)) (pld3:CellAt H bld 3 (.map (some kbld))) (hldf:Ints H qldf ldf) (hldt:Ints H qldt ldt) (hldi:ImR H qldi nld lds) (hi:i<nld) (hi8:i≤8) (hx9:x≤1000000) (hd:Dg ldt) (hw:Ws ldt d (lds i)) (h0:0≤d) (hde:(x:Int) * d≤20) (hrec : ∀(x1:Nat) (y:Int),y=(x1:Int)→x=x1+1→∀(L:List SA) (w:World) (m:Nat) (vs:Vs),Hp B H0 H (knw (kF ldt lds) kbld m vs::L) w→Calls Tryz.prog 186 [.pointer (some ⟨bld,0,none⟩),.int .i64 (i:Int),.int .i64 y].toArray w fun r w'=>∃b m' vs',r = .returned (.map (some b))∧Hp B H0 H (knwR (kF ldt lds) kbld m' vs' b (pwS ldt (lds i) x1)::L) w') (hH:Hp B H0 H (okn kbld xs::sms (kF ldt lds) m vs xs::L) w):Calls Tryz.prog 186 [.pointer (some ⟨bld,0,none⟩),.int .i64 (i:Int),.int .i64 (x:Int)].toArray w fun e w'=>∃b m' vs',e = .returned (.map (some b))∧Hp B H0 H (knwR (kF ldt lds) kbld m' vs' b (pwS ldt (lds i) x)::L) w':=by
 refine Jz Tryz.func186 rfl 52 rfl rfl [(0,.pointer (some ⟨bld,0,none⟩)),(1,.int .i64 (i:Int)),(2,.int .i64 (x:Int))] rfl hH ?_;clear hH;obtain ⟨gi,hgi,hsi⟩:=hldi i hi;have hk2:k2Ok [(i:Int),(x:Int)]:=⟨rfl,fun j=>by rcases j with _ | _ | j <;> simp <;> omega⟩;refine Je fun _ hK1 _=>(Jb (Jg (Jd rfl) rfl (Jf (Ja (hK1 (Je fun _ hK2 _=>(Je fun _ hK3 _=>(Jb (Jg (Jc rfl) rfl (Jg (EF rfl rfl) rfl (Jf (Ja (hK3 (Jp rfl (fun h12=>?_) (fun h12=>?_)))))))))))))))
 ·
  refine Je fun _ hK4 _=>(Jb (Jw fn185 rfl rfl fun w hH=>(number_c hH).mono ?_));rintro _ w ⟨bo13,rfl,hH⟩;refine ⟨_,rfl,fun a hF=>JK hF hH ?_⟩;refine Jg (Jd rfl) rfl (Jf (Ja (hK4 (Js (Jk (Jq rfl (Res.tmp rfl) fun w hH=>?_))))));replace hH:=hH.sublist (.cons_cons _ (.cons_cons _ (.cons_cons _ (List.Sublist.refl _))))
  have ex:x=0:=by omega
  subst ex;exact ⟨_,_,_,rfl,hH.knwOne⟩
 ·
  refine Jo (Ja (hK2 (Je fun _ hK5 _=>(Jb (Jg (Jc rfl) rfl (Jg (Jc rfl) rfl (Jg (EV rfl rfl (fun w=>bld2 _ _ w)) rfl (JV ze233 rfl fun g7=>(JJ rfl rfl (by first | exact bytesC_one _ | exact intsC_one _ | exact Term.c_one _ | simp [Value.oneCell']) (by simpa [*] using sz233) (by simp [*]) At.z (Jf (Ja (hK5 (Je fun _ hK6 _=>(Je fun _ hK7 _=>(Eu foll0 (by kernel_rfl) (JE (Jc rfl) rfl ?_))))))))))))))));refine JE (JH rfl) rfl (JE (Jv u187 rfl sz184 rfl) rfl (JE (JB (q:=some ⟨bld,0,none⟩) (k:=3) rfl pld3 pl184) rfl (JE (Jx rfl At.z (by simpa [*] using ag233)) rfl (JE (PR.lookO2 u184 k2K zv84 rfl (.s .z) rfl hk2) rfl (JE (Jc rfl) rfl (JE (JQ rfl rfl) rfl (JE (JQ rfl rfl) rfl (JE (Jd rfl) rfl (JE (Jd rfl) rfl (Ee (Ja (hK7 (Je fun _ hK8 _=>(Jb (Jg (Jc rfl) rfl ?_)))))))))))))));refine Jf (Ja (hK8 (Eg rfl (fun h26=>?_) (fun h26=>?_))))
  ·
   refine Je fun _ hK9 _=>(Jb (Jg (Jc rfl) rfl (Jg (Jd rfl) rfl (Jf (Ja (hK9 (Js (Jk (Jq rfl (Res.tmp rfl) fun w hH=>?_)))))))));replace hH:=hH.sublist (.cons _ (.cons_cons _ (.cons_cons _ (List.Sublist.refl _))));obtain ⟨b,hb⟩:=Option.isSome_iff_exists.1 h26;exact ⟨b,m,vs,by rw [hb];rfl,Hp.knwGet (kF_at ldt lds i x) (look_mem hb) hH⟩
  ·
   obtain ⟨x1,hx1⟩ : ∃x1,x=x1+1:=⟨x - 1,by omega⟩
   have e1:(x:Int) * d=(x1:Int) * d+d:=by rw [hx1,Int.natCast_add,Int.add_mul];simp
   have hd1:(x1:Int) * d≤20:=by omega
   have hp1:=hw.pw hd h0 x1 hd1;refine CJ.reH (fun w hH=>Hp.knwShut ((hH.front (.s (.s .z))).front (.s (.s .z)))) (Jo (Ja (hK6 (Je fun _ hK10 _=>(El (Rs:=[_,_]) 18 [[], [], [], [2], [0,1,2,3], [], [5], [5,6], [5,6,7], [], [9], [9,10], [9,10,11], [], [9,10,11,12,13], [9,10,11,12,13,14], [0,1,2,3,4,5,6,7,8,9,10,11,12,13,14,15], [0,1,2,3,4,5,6,7,8,9,10,11,12,13,14,15,16]] [[], [], [], [], [], [], [], [], [], [], [], [], [], [], [], [], [4], []] [[], [], [], [], [18], [], [], [], [], [], [], [], [], [], [], [], [], []] rfl rfl (by kernel_rfl) ?_)))));apply Jl 1 rfl
   iterate 3 focus (intros;(conv=>lhs;simp only [Jh,Jt,JN,Ju,JI,eq_self,Nat.reduceEqDiff,reduceIte,Nat.reduceSub,Nat.reduceAdd,List.cons_append,List.nil_append]);all_goals rfl)
   ·
    intro gh X K zq zc zq2 zc2 zb zv hK;refine Jg (Jc rfl) rfl (Ji ?_);exact hK zq zc zq2 zc2 zb zv
   ·
    intro gh gh' h
    rfl
   apply Jl 2 rfl
   iterate 3 focus (intros;(conv=>lhs;simp only [Jh,Jt,JN,Ju,JI,eq_self,Nat.reduceEqDiff,reduceIte,Nat.reduceSub,Nat.reduceAdd,List.cons_append,List.nil_append]);all_goals rfl)
   ·
    intro gh X K zq zc zq2 zc2 zb zv hK;refine Jg (Jc rfl) rfl (Ji ?_);exact hK zq zc zq2 zc2 zb zv
   ·
    intro gh gh' h
    rfl
   apply Jl 3 rfl
   iterate 3 focus (intros;(conv=>lhs;simp only [Jh,Jt,JN,Ju,JI,eq_self,Nat.reduceEqDiff,reduceIte,Nat.reduceSub,Nat.reduceAdd,List.cons_append,List.nil_append]);all_goals rfl)
   ·
    intro gh X K zq zc zq2 zc2 zb zv hK;refine Jg (Jc rfl) rfl (Ji ?_);exact hK zq zc zq2 zc2 zb zv
   ·
    intro gh gh' h
    rfl
   apply Jl 4 rfl
   iterate 3 focus (intros;(conv=>lhs;simp only [Jh,Jt,JN,Ju,JI,eq_self,Nat.reduceEqDiff,reduceIte,Nat.reduceSub,Nat.reduceAdd,List.cons_append,List.nil_append]);all_goals rfl)
   ·
    intro gh X K zq zc zq2 zc2 zb zv hK;refine Jg (EM rfl rfl (by first | exact nw _ (by omega) | rfl)) rfl (Ji ?_);exact hK zq zc zq2 zc2 zb zv
   ·
    intro gh gh' h
    rfl
   apply Ea 5 rfl
   iterate 3 focus (intros;(conv=>lhs;simp only [Jh,Jt,JN,Ju,JI,eq_self,Nat.reduceEqDiff,reduceIte,Nat.reduceSub,Nat.reduceAdd,List.cons_append,List.nil_append]);all_goals rfl)
   ·
    intro gh X K zq zc zq2 zc2 zb zv hK;refine Jw fn186 rfl rfl fun w hH=>(hrec x1 _ (by omega) hx1 _ _ _ _ hH).mono ?_;rintro _ w ⟨bo32,mo32,vo32,rfl,hH⟩;refine ⟨_,rfl,fun a hF=>JK hF hH ?_⟩;refine Ji ?_;exact hK zq mo32 zq2 zc2 bo32 vo32
   ·
    intro gh gh' h;refine ⟨?_,?_⟩ <;> rfl
   apply Jl 6 rfl
   iterate 3 focus (intros;(conv=>lhs;simp only [Jh,Jt,JN,Ju,JI,eq_self,Nat.reduceEqDiff,reduceIte,Nat.reduceSub,Nat.reduceAdd,List.cons_append,List.nil_append]);all_goals rfl)
   ·
    intro gh X K zq zc zq2 zc2 zb zv hK;refine Jg (Jc rfl) rfl (Ji ?_);exact hK zq zc zq2 zc2 zb zv
   ·
    intro gh gh' h
    rfl
   apply Jl 7 rfl
   iterate 3 focus (intros;(conv=>lhs;simp only [Jh,Jt,JN,Ju,JI,eq_self,Nat.reduceEqDiff,reduceIte,Nat.reduceSub,Nat.reduceAdd,List.cons_append,List.nil_append]);all_goals rfl)
   ·
    intro gh X K zq zc zq2 zc2 zb zv hK;refine Jg (JH rfl) rfl (Ji ?_);exact hK zq zc zq2 zc2 zb zv
   ·
    intro gh gh' h
    rfl
   apply Jl 8 rfl
   iterate 3 focus (intros;(conv=>lhs;simp only [Jh,Jt,JN,Ju,JI,eq_self,Nat.reduceEqDiff,reduceIte,Nat.reduceSub,Nat.reduceAdd,List.cons_append,List.nil_append]);all_goals rfl)
   ·
    intro gh X K zq zc zq2 zc2 zb zv hK;refine Jg (Jv u187 rfl sz22 rfl) rfl (Ji ?_);exact hK zq zc zq2 zc2 zb zv
   ·
    intro gh gh' h
    rfl
   apply Jl 9 rfl
   iterate 3 focus (intros;(conv=>lhs;simp only [Jh,Jt,JN,Ju,JI,eq_self,Nat.reduceEqDiff,reduceIte,Nat.reduceSub,Nat.reduceAdd,List.cons_append,List.nil_append]);all_goals rfl)
   ·
    intro gh X K zq zc zq2 zc2 zb zv hK;refine Jg (JB (q:=some ⟨bld,0,none⟩) (k:=1) rfl pld1 pl22) rfl (Ji ?_);exact hK zq zc zq2 zc2 zb zv
   ·
    intro gh gh' h
    rfl
   apply Jl 10 rfl
   iterate 3 focus (intros;(conv=>lhs;simp only [Jh,Jt,JN,Ju,JI,eq_self,Nat.reduceEqDiff,reduceIte,Nat.reduceSub,Nat.reduceAdd,List.cons_append,List.nil_append]);all_goals rfl)
   ·
    intro gh X K zq zc zq2 zc2 zb zv hK;refine Jg (Jc rfl) rfl (Ji ?_);exact hK zq zc zq2 zc2 zb zv
   ·
    intro gh gh' h
    rfl
   apply Jl 11 rfl
   iterate 3 focus (intros;(conv=>lhs;simp only [Jh,Jt,JN,Ju,JI,eq_self,Nat.reduceEqDiff,reduceIte,Nat.reduceSub,Nat.reduceAdd,List.cons_append,List.nil_append]);all_goals rfl)
   ·
    intro gh X K zq zc zq2 zc2 zb zv hK;refine Jg (JH rfl) rfl (Ji ?_);exact hK zq zc zq2 zc2 zb zv
   ·
    intro gh gh' h
    rfl
   apply Jl 12 rfl
   iterate 3 focus (intros;(conv=>lhs;simp only [Jh,Jt,JN,Ju,JI,eq_self,Nat.reduceEqDiff,reduceIte,Nat.reduceSub,Nat.reduceAdd,List.cons_append,List.nil_append]);all_goals rfl)
   ·
    intro gh X K zq zc zq2 zc2 zb zv hK;refine Jg (Jv u187 rfl sz185 rfl) rfl (Ji ?_);exact hK zq zc zq2 zc2 zb zv
   ·
    intro gh gh' h
    rfl
   apply Jl 13 rfl
   iterate 3 focus (intros;(conv=>lhs;simp only [Jh,Jt,JN,Ju,JI,eq_self,Nat.reduceEqDiff,reduceIte,Nat.reduceSub,Nat.reduceAdd,List.cons_append,List.nil_append]);all_goals rfl)
   ·
    intro gh X K zq zc zq2 zc2 zb zv hK;refine Jg (JB (q:=some ⟨bld,0,none⟩) (k:=2) rfl pld2 pl185) rfl (Ji ?_);exact hK zq zc zq2 zc2 zb zv
   ·
    intro gh gh' h
    rfl
   apply Jl 14 rfl
   iterate 3 focus (intros;(conv=>lhs;simp only [Jh,Jt,JN,Ju,JI,eq_self,Nat.reduceEqDiff,reduceIte,Nat.reduceSub,Nat.reduceAdd,List.cons_append,List.nil_append]);all_goals rfl)
   ·
    intro gh X K zq zc zq2 zc2 zb zv hK;refine Jg (Jc rfl) rfl (Ji ?_);exact hK zq zc zq2 zc2 zb zv
   ·
    intro gh gh' h
    rfl
   apply Jl 15 rfl
   iterate 3 focus (intros;(conv=>lhs;simp only [Jh,Jt,JN,Ju,JI,eq_self,Nat.reduceEqDiff,reduceIte,Nat.reduceSub,Nat.reduceAdd,List.cons_append,List.nil_append]);all_goals rfl)
   ·
    intro gh X K zq zc zq2 zc2 zb zv hK;refine Jg (JO (i':=i) u185 sz84 rfl rfl rfl hi hldi.sm) rfl (Ji ?_);exact hK zq zc zq2 zc2 zb zv
   ·
    intro gh gh' h
    rfl
   apply Jl 16 rfl
   iterate 3 focus (intros;(conv=>lhs;simp only [Jh,Jt,JN,Ju,JI,eq_self,Nat.reduceEqDiff,reduceIte,Nat.reduceSub,Nat.reduceAdd,List.cons_append,List.nil_append]);all_goals rfl)
   ·
    intro gh X K zq zc zq2 zc2 zb zv hK;refine Jg (JB rfl hgi pl84) rfl (Ji ?_);exact hK zq zc zq2 zc2 zb zv
   ·
    intro gh gh' h
    rfl
   apply Ea 17 rfl
   iterate 3 focus (intros;(conv=>lhs;simp only [Jh,Jt,JN,Ju,JI,eq_self,Nat.reduceEqDiff,reduceIte,Nat.reduceSub,Nat.reduceAdd,List.cons_append,List.nil_append]);all_goals rfl)
   ·
    intro gh X K zq zc zq2 zc2 zb zv hK;refine Jw fn90 rfl rfl fun w hH=>hH.lend .z fun Hl1 hle1 hA1 hB1 hH=>(times_c (knwR_H hA1) hp1.sok (hldt.le hle1) (hsi.le hle1) hw.sok hd.hn hd.hd (by omega) hH).mono ?_;rintro _ w ⟨bo44,rfl,hH⟩;replace hH:=hB1 _ _ hH;refine ⟨_,rfl,fun a hF=>JK hF hH ?_⟩;refine Jr .z (Jr (.s .z) (Ji ?_));exact hK zq zc zq2 zc2 bo44 zv
   ·
    intro gh gh' h;refine ⟨?_,?_⟩ <;> (first | simp only [h 4 rfl] | rfl)
   apply Jl 18 rfl
   iterate 3 focus (intros;(conv=>lhs;simp only [Jh,Jt,JN,Ju,JI,eq_self,Nat.reduceEqDiff,reduceIte,Nat.reduceSub,Nat.reduceAdd,List.cons_append,List.nil_append]);all_goals rfl)
   ·
    intro gh X K zq zc zq2 zc2 zb zv hK;refine Jg (Jd rfl) rfl (Ji ?_);exact hK zq zc zq2 zc2 zb zv
   ·
    intro gh gh' h
    first | simp only [h 4 rfl,h 16 rfl] | rfl
   apply Ej [0,1,2,3,4,5,6,7,8,9,10,11,12,13,14,15,16,17] [0,1,2,3,4,5,6,7,8,9,10,11,12,13,14,15,16,17,19] foll0 rfl rfl rfl (by rfl)
   iterate 2 focus (intros;(conv=>lhs;simp only [Jh,Jt,JN,Ju,JI,eq_self,Nat.reduceEqDiff,reduceIte,Nat.reduceSub,Nat.reduceAdd,List.cons_append,List.nil_append]);all_goals rfl)
   intro gh;generalize (gh 4).b=bo32;generalize (gh 4).c=mo32;generalize (gh 4).vs=vo32;generalize (gh 16).b=bo44;clear gh;refine Jr .z (EJ.knwOpen fun xs2=>(Ja (hK10 (Je fun _ hK11 _=>(Eo [[], [0], [1], [2], [], []] (by kernel_rfl) (JA (fun gh=>Jc rfl) (JA (fun gh=>JH rfl) (JA (fun gh=>Jv u187 rfl sz184 rfl) (JA (fun gh=>JB (q:=some ⟨bld,0,none⟩) (k:=3) rfl pld3 pl184) (JA (fun gh=>Jx rfl (.s (.s (.s .z))) (by simpa [*] using ag233)) (JA (fun gh=>Jc rfl) (Eb 6 1 foll0 (by kernel_rfl) rfl rfl fun gh=>(En (us':=(45,_)::(46,_)::(47,_)::(48,_)::(49,_)::(50,_)::_) (L':=_) rfl rfl (J.mapUpdate (v:=bo44) u184 k2K rfl rfl rfl hk2 At.z (Jf ?_)))))))))))))));refine Ec (Ee (Ja (hK11 (Je fun _ hK12 _=>(Jb (Jg (Jc rfl) rfl (Jg (Jd rfl) rfl (Jf (Ja (hK12 (Js (Jq rfl (Res.tmp rfl) fun w hH=>?_))))))))))));replace hH:=hH.sublist (.cons_cons _ (.cons_cons _ (.cons_cons _ (.cons _ (List.Sublist.refl _)))))
   have e9:timesS ldt (pwS ldt (lds i) x1) (lds i)=pwS ldt (lds i) x:=by rw [hx1];rfl
   rw [e9] at hH;exact ⟨_,_,_,rfl,Hp.knwNew (kF_at ldt lds i x) (hH.front (.s (.s .z)))⟩
theorem pow_c {B:World} {H0 H:HP} {bld kbld nld:Nat} {qldf qldt qldi:Option Addr} {cldf cldt cldi:Nat} {ldf ldt:List Int} {lds:Nat→Sm} {i:Nat} {d:Int} (x:Nat) (pld0:CellAt H bld 0 (.slice qldf ldf.length cldf)) (pld1:CellAt H bld 1 (.slice qldt ldt.length cldt)) (pld2:CellAt H bld 2 (.slice qldi nld cldi)) (pld3:CellAt H bld 3 (.map (some kbld))) (hldf:Ints H qldf ldf) (hldt:Ints H qldt ldt) (hldi:ImR H qldi nld lds) (hi:i<nld) (hi8:i≤8) (hx9:x≤1000000) (hd:Dg ldt) (hw:Ws ldt d (lds i)) (h0:0≤d) (hde:(x:Int) * d≤20) : ∀(y:Int),y=(x:Int)→∀(L:List SA) (w:World) (m:Nat) (vs:Vs),Hp B H0 H (knw (kF ldt lds) kbld m vs::L) w→Calls Tryz.prog 186 [.pointer (some ⟨bld,0,none⟩),.int .i64 (i:Int),.int .i64 y].toArray w fun r w'=>∃b m' vs',r = .returned (.map (some b))∧Hp B H0 H (knwR (kF ldt lds) kbld m' vs' b (pwS ldt (lds i) x)::L) w':=by
 induction x with
 | zero=>
  intro y hy L w m vs hH;subst hy;obtain ⟨xs,hH⟩:=hH.knwOpen;exact powX_c pld0 pld1 pld2 pld3 hldf hldt hldi hi hi8 hx9 hd hw h0 hde (fun x1 y hy h=>by omega) hH
 | succ x ih=>
  intro y hy L w m vs hH;subst hy;obtain ⟨xs,hH⟩:=hH.knwOpen
  have e1:((x+1:Nat):Int) * d=(x:Int) * d+d:=by rw [Int.natCast_add,Int.add_mul];simp
  exact powX_c pld0 pld1 pld2 pld3 hldf hldt hldi hi hi8 hx9 hd hw h0 hde (fun x1 y hy h=>by
   obtain rfl:x1=x:=by omega
   exact ih (by omega) (by omega) y hy) hH
theorem leadL_mid {ds:Pw} {ss:Nat→Sm} {n:Nat} {l1 l2:Sm} {x:Pw × Int}:(leadL ds ss n (l1++x::l2)).Perm (scl (prS ds ss x.1 oneS n) x.2++leadL ds ss n (l1++l2)):=by
 have h:(leadL ds ss n (l1++x::l2)).Perm (leadL ds ss n (x::(l1++l2))):=(List.perm_middle).flatMap_right _;exact h
theorem leadTo_c {B:World} {H0 H:HP} {L:List SA} {w:World} {bld kbld nld:Nat} {qldf qldt qldi:Option Addr} {cldf cldt cldi:Nat} {ldf ldt:List Int} {lds:Nat→Sm} {vs:Value} {Ms:Int} {s:Sm} {km:Nat} {kv:Vs} {ws:Pw} (pld0:CellAt H bld 0 (.slice qldf ldf.length cldf)) (pld1:CellAt H bld 1 (.slice qldt ldt.length cldt)) (pld2:CellAt H bld 2 (.slice qldi nld cldi)) (pld3:CellAt H bld 3 (.map (some kbld))) (hldf:Ints H qldf ldf) (hldt:Ints H qldt ldt) (hldi:ImR H qldi nld lds) (hs:SumH H vs s) (ks:Sok Ms s) (hL:Ld ldt ws lds ldf.length Ms s) (hnn:ldf.length=nld) (hn8:nld≤8) (hMs:20≤Ms∧Ms≤255) (hH:Hp B H0 H (knw (kF ldt lds) kbld km kv::L) w):Calls Tryz.prog 150 [.pointer (some ⟨bld,0,none⟩),vs].toArray w fun e w'=>∃b m' vs',e = .returned (.map (some b))∧Hp B H0 H (osum b (leadS ldt lds ldf.length s)::knw (kF ldt lds) kbld m' vs'::L) w':=by
 refine Jz Tryz.func150 rfl 49 rfl rfl [(0,.pointer (some ⟨bld,0,none⟩)),(1,vs)] rfl hH ?_;clear hH;obtain ⟨bs,ess,cls,rfl,hbs,hes⟩:=hs;have hs:SumH H (.map (some bs)) s:=⟨bs,ess,cls,rfl,hbs,hes⟩;refine Je fun _ hK1 _=>(Jb (Jg (Jd rfl) rfl (Jf (Ja (hK1 (Je fun _ hK2 _=>(Jb (EI pwE (Value.int .i64) pwOk rfl fun bm10=>(Jg (Jd rfl) rfl (Jf (Ja (hK2 (Je fun _ hK3 _=>(Je fun _ hK4 _=>(Jb (Jg (Jc rfl) rfl ?_))))))))))))))));refine J.range u84 rfl hbs hes rfl fun r12=>(Jf (Ja (hK4 (Jm (JD (σ:=Option (Pw × Int) × Sm × Sm × Nat × Vs) (fun ⟨la,ls,dn,km1,kv1⟩=>[]) (fun ⟨la,ls,dn,km1,kv1⟩=>H) (fun ⟨la,ls,dn,km1,kv1⟩=>itr pwE (Value.int .i64) bs ess cls r12 la ls::osum bm10 (acc [] dn)::knw (kF ldt lds) kbld km1 kv1::L) (fun ⟨la,ls,dn,km1,kv1⟩=>(dn++leadL ldt lds ldf.length ls).Perm (leadL ldt lds ldf.length s)∧∀x∈ls,x∈s) (fun ⟨la,ls,dn,km1,kv1⟩=>ls.length) (none,s, [],km,kv) ⟨List.Perm.refl _,fun _ h=>h⟩ trivial rfl rfl ?_)))));rintro ⟨la,ls,dn,km1,kv1⟩ hI _ hAg0;have k0:Sok 20 (acc [] dn):=Sok.nil.acc fun x hx=>hL.key x (hI.1.mem_iff.1 (by simp [hx]));refine Je fun _ hK5 _=>(Jb (J.next rfl hbs hes (fun _ _=>At.z) rfl (fun hE13=>?_) (fun nx13 la13 lb13 hL13=>?_)))
 ·
  refine Jg (JQ rfl rfl) rfl (Jf (Ja (hK5 (Je fun _ hK6 _=>(Et rfl (JG (Jj (Jj (JP (Ja (hK3 (Je fun _ hK7 _=>(Jb (Jg (Jc rfl) rfl (Jg (Jd rfl) rfl (Jf ?_))))))))))))))));refine Ja (hK7 (Js (Jq rfl (Res.tmp rfl) fun w hH=>?_)));replace hH:=hH.sublist (.cons _ (.cons_cons _ (.cons_cons _ (List.Sublist.refl _))));have hp9:=perm_nil hI.1 (by rw [hE13];rfl);have e9:acc [] dn=leadS ldt lds ldf.length s:=acc_perm Sok.nil (fun x hx=>hL.key x (hp9.mem_iff.1 hx)) hp9;rw [e9] at hH;exact ⟨_,_,_,rfl,hH⟩
 ·
  subst hL13;have hu:=hI.2 nx13 (by simp);have hup:=ks.key nx13 hu;have hu8:=hup.len;have hv:=ks.val nx13 hu;have hu0:=hup.bd 0;have hone:Ws ldt 0 oneS:=Ws.one (c:=1) (by omega);refine Jg (JQ rfl rfl) rfl (Jf (Ja (hK5 (Je fun _ hK8 _=>(Er rfl (Jo (Ja (hK8 (Jm (Je fun _ hK9 _=>(Jb (Jg (PR.entry rfl hbs hes At.z) rfl (Jg (JQ rfl rfl) rfl (Jg (JQ rfl rfl) rfl (JV ze160 rfl fun g6=>(JJ rfl rfl (by first | exact bytesC_one _ | exact intsC_one _ | exact Term.c_one _ | simp [Value.oneCell']) (by simpa [*] using sz160) (by simp [*]) At.z ?_))))))))))))))));refine Jg (Jd rfl) rfl (Jf (Ja (hK9 (Je fun _ hK10 _=>(Jb (Jw fn185 rfl rfl fun w hH=>(number_c hH).mono ?_))))));rintro _ w ⟨bo18,rfl,hH⟩;refine ⟨_,rfl,fun a hF=>JK hF hH ?_⟩;refine Jg (Jd rfl) rfl (Jf (Ja (hK10 (Je fun _ hK11 _=>(Je fun _ hK12 _=>(Jb (Jg (Jc rfl) rfl (Jg (JH rfl) rfl (Jg (Jv u187 rfl sz22 rfl) rfl (Jg (JB (q:=some ⟨bld,0,none⟩) (k:=0) rfl pld0 pl22) rfl (Jg (Jn u22 rfl rfl) rfl (Jg (Jc rfl) rfl (Jf (Ja (hK12 (Jm ?_))))))))))))))));refine JD (σ:=Nat × Vs × Nat × Nat) (fun ⟨km2,kv2,bt,i⟩=>[(24,.int .i64 (i:Int)),(8,.map (some bt))]) (fun ⟨km2,kv2,bt,i⟩=>H) (fun ⟨km2,kv2,bt,i⟩=>osum bt (prS ldt lds nx13.1 oneS i)::obj g6 (.cells (intsC nx13.1).toArray 160 (0,0))::itr pwE (Value.int .i64) bs ess cls r12 (some nx13) (la13++lb13)::osum bm10 (acc [] dn)::knw (kF ldt lds) kbld km2 kv2::L) (fun ⟨km2,kv2,bt,i⟩=>i≤ldf.length) (fun ⟨km2,kv2,bt,i⟩=>ldf.length - i) (km1,kv1,bo18,0) (by show 0≤ldf.length;omega) ⟨rfl,⟨rfl,trivial⟩⟩ rfl rfl ?_;rintro ⟨km2,kv2,bt,i⟩ hi _ hAg1;have hpr:=hL.pr hu hone hi;refine Je fun _ hK13 _=>(Jb (Jg (JM rfl rfl) rfl (Jf (Ja (hK13 (Je fun _ hK14 _=>(Jp rfl (fun hc25=>?_) (fun hc25=>?_))))))))
  ·
   refine Jo (Ja (hK14 (Je fun _ hK15 _=>(Jm (Je fun _ hK16 _=>(Jb (Jg (Jc rfl) rfl (Jg (Jd rfl) rfl (Jf (Ja (hK16 (Je fun _ hK17 _=>(Jb (Jg (Jc rfl) rfl (Jg (JZ u160 sz3 rfl rfl rfl (by omega)) rfl (Jg (Jy rfl (.s .z) (by first | exact bytesC_get (by simp [*];omega) | exact intsC_get (by simp [*];omega)) pl3) rfl ?_))))))))))))))));refine Jg (EB rfl rfl) rfl (Jf (Ja (hK17 (Jp rfl (fun h30=>?_) (fun h30=>?_)))))
   ·
    have hil:i<ldf.length:=by omega
    have hpos:0<nx13.1.getD i 0:=by omega
    have hpk:=hup.bd i;have hle:=hL.le hu hil;have hpw:=hL.pw hu hil;refine El (Rs:=[_,_,_,_,_]) 13 [[], [], [1], [1,2], [1,2,3], [], [], [], [7], [7,8], [5,6,7,8,9], [0,1,2,3,4,5,6,7,8,9,10], [0,1,2,3,4,5,6,7,8,9,10,11]] [[], [], [], [], [], [], [], [], [], [14], [], [10,13], []] [[], [], [], [], [], [], [], [], [], [], [17], [], []] rfl rfl (by kernel_rfl) ?_;apply Jl 1 rfl
    iterate 3 focus (intros;(conv=>lhs;simp only [Jh,Jt,JN,Ju,JI,eq_self,Nat.reduceEqDiff,reduceIte,Nat.reduceSub,Nat.reduceAdd,List.cons_append,List.nil_append]);all_goals rfl)
    ·
     intro gh X K zq zc zq2 zc2 zb zv hK;refine Jg (Jc rfl) rfl (Ji ?_);exact hK zq zc zq2 zc2 zb zv
    ·
     intro gh gh' h
     rfl
    apply Jl 2 rfl
    iterate 3 focus (intros;(conv=>lhs;simp only [Jh,Jt,JN,Ju,JI,eq_self,Nat.reduceEqDiff,reduceIte,Nat.reduceSub,Nat.reduceAdd,List.cons_append,List.nil_append]);all_goals rfl)
    ·
     intro gh X K zq zc zq2 zc2 zb zv hK;refine Jg (Jc rfl) rfl (Ji ?_);exact hK zq zc zq2 zc2 zb zv
    ·
     intro gh gh' h
     rfl
    apply Jl 3 rfl
    iterate 3 focus (intros;(conv=>lhs;simp only [Jh,Jt,JN,Ju,JI,eq_self,Nat.reduceEqDiff,reduceIte,Nat.reduceSub,Nat.reduceAdd,List.cons_append,List.nil_append]);all_goals rfl)
    ·
     intro gh X K zq zc zq2 zc2 zb zv hK;refine Jg (JH rfl) rfl (Ji ?_);exact hK zq zc zq2 zc2 zb zv
    ·
     intro gh gh' h
     rfl
    apply Jl 4 rfl
    iterate 3 focus (intros;(conv=>lhs;simp only [Jh,Jt,JN,Ju,JI,eq_self,Nat.reduceEqDiff,reduceIte,Nat.reduceSub,Nat.reduceAdd,List.cons_append,List.nil_append]);all_goals rfl)
    ·
     intro gh X K zq zc zq2 zc2 zb zv hK;refine Jg (Jv u187 rfl sz22 rfl) rfl (Ji ?_);exact hK zq zc zq2 zc2 zb zv
    ·
     intro gh gh' h
     rfl
    apply Jl 5 rfl
    iterate 3 focus (intros;(conv=>lhs;simp only [Jh,Jt,JN,Ju,JI,eq_self,Nat.reduceEqDiff,reduceIte,Nat.reduceSub,Nat.reduceAdd,List.cons_append,List.nil_append]);all_goals rfl)
    ·
     intro gh X K zq zc zq2 zc2 zb zv hK;refine Jg (JB (q:=some ⟨bld,0,none⟩) (k:=1) rfl pld1 pl22) rfl (Ji ?_);exact hK zq zc zq2 zc2 zb zv
    ·
     intro gh gh' h
     rfl
    apply Jl 6 rfl
    iterate 3 focus (intros;(conv=>lhs;simp only [Jh,Jt,JN,Ju,JI,eq_self,Nat.reduceEqDiff,reduceIte,Nat.reduceSub,Nat.reduceAdd,List.cons_append,List.nil_append]);all_goals rfl)
    ·
     intro gh X K zq zc zq2 zc2 zb zv hK;refine Jg (Jc rfl) rfl (Ji ?_);exact hK zq zc zq2 zc2 zb zv
    ·
     intro gh gh' h
     rfl
    apply Jl 7 rfl
    iterate 3 focus (intros;(conv=>lhs;simp only [Jh,Jt,JN,Ju,JI,eq_self,Nat.reduceEqDiff,reduceIte,Nat.reduceSub,Nat.reduceAdd,List.cons_append,List.nil_append]);all_goals rfl)
    ·
     intro gh X K zq zc zq2 zc2 zb zv hK;refine Jg (Jc rfl) rfl (Ji ?_);exact hK zq zc zq2 zc2 zb zv
    ·
     intro gh gh' h
     rfl
    apply Jl 8 rfl
    iterate 3 focus (intros;(conv=>lhs;simp only [Jh,Jt,JN,Ju,JI,eq_self,Nat.reduceEqDiff,reduceIte,Nat.reduceSub,Nat.reduceAdd,List.cons_append,List.nil_append]);all_goals rfl)
    ·
     intro gh X K zq zc zq2 zc2 zb zv hK;refine Jg (Jc rfl) rfl (Ji ?_);exact hK zq zc zq2 zc2 zb zv
    ·
     intro gh gh' h
     rfl
    apply Jl 9 rfl
    iterate 3 focus (intros;(conv=>lhs;simp only [Jh,Jt,JN,Ju,JI,eq_self,Nat.reduceEqDiff,reduceIte,Nat.reduceSub,Nat.reduceAdd,List.cons_append,List.nil_append]);all_goals rfl)
    ·
     intro gh X K zq zc zq2 zc2 zb zv hK;refine Jg (JZ u160 sz3 rfl rfl rfl (by omega)) rfl (Ji ?_);exact hK zq zc zq2 zc2 zb zv
    ·
     intro gh gh' h
     rfl
    apply Jl 10 rfl
    iterate 3 focus (intros;(conv=>lhs;simp only [Jh,Jt,JN,Ju,JI,eq_self,Nat.reduceEqDiff,reduceIte,Nat.reduceSub,Nat.reduceAdd,List.cons_append,List.nil_append]);all_goals rfl)
    ·
     intro gh X K zq zc zq2 zc2 zb zv hK;refine Jg (Jy rfl At.z (by first | exact bytesC_get (by simp [*];omega) | exact intsC_get (by simp [*];omega)) pl3) rfl (Ji ?_);exact hK zq zc zq2 zc2 zb zv
    ·
     intro gh gh' h
     rfl
    apply Ea 11 rfl
    iterate 3 focus (intros;(conv=>lhs;simp only [Jh,Jt,JN,Ju,JI,eq_self,Nat.reduceEqDiff,reduceIte,Nat.reduceSub,Nat.reduceAdd,List.cons_append,List.nil_append]);all_goals rfl)
    ·
     intro gh X K zq zc zq2 zc2 zb zv hK;refine Jw fn186 rfl rfl fun w hH=>(pow_c (nx13.1.getD i 0).toNat pld0 pld1 pld2 pld3 hldf hldt hldi (by omega) (by omega) (by omega) hL.dg (hL.im i hil) (hL.ws0 i) (by rw [show (((nx13.1.getD i 0).toNat:Nat):Int)=nx13.1.getD i 0 by omega,Int.mul_comm];omega) _ (by omega) _ _ _ _ hH).mono ?_;rintro _ w ⟨bo41,mo41,vo41,rfl,hH⟩;refine ⟨_,rfl,fun a hF=>JK hF hH ?_⟩;refine Ji ?_;exact hK zq mo41 zq2 zc2 bo41 vo41
    ·
     intro gh gh' h;refine ⟨?_,?_⟩ <;> rfl
    apply Ea 12 rfl
    iterate 3 focus (intros;(conv=>lhs;simp only [Jh,Jt,JN,Ju,JI,eq_self,Nat.reduceEqDiff,reduceIte,Nat.reduceSub,Nat.reduceAdd,List.cons_append,List.nil_append]);all_goals rfl)
    ·
     intro gh X K zq zc zq2 zc2 zb zv hK;refine Jw fn90 rfl rfl fun w hH=>hH.lend (.s .z) fun Hl1 hle1 hA1 hB1 hH=>hH.lend .z fun Hl2 hle2 hA2 hB2 hH=>(times_c ((omap_H hA1).le hle2) hpr.sok ((hldt.le hle1).le hle2) (knwR_H hA2) hpw.sok hL.dg.hn hL.dg.hd (by omega) hH).mono ?_;rintro _ w ⟨bo42,rfl,hH⟩;replace hH:=hB2 _ _ hH;replace hH:=hB1 _ _ hH;refine ⟨_,rfl,fun a hF=>JK hF hH ?_⟩;refine Jr .z (Jr (.s .z) (Jr (.s (.s .z)) (Ji ?_)));exact hK zq zc zq2 zc2 bo42 zv
    ·
     intro gh gh' h;refine ⟨?_,?_⟩ <;> (first | simp only [h 10 rfl] | rfl)
    apply Jl 13 rfl
    iterate 3 focus (intros;(conv=>lhs;simp only [Jh,Jt,JN,Ju,JI,eq_self,Nat.reduceEqDiff,reduceIte,Nat.reduceSub,Nat.reduceAdd,List.cons_append,List.nil_append]);all_goals rfl)
    ·
     intro gh X K zq zc zq2 zc2 zb zv hK;refine Jg (Jd rfl) rfl (Ji ?_);exact hK zq zc zq2 zc2 zb zv
    ·
     intro gh gh' h
     first | simp only [h 10 rfl,h 11 rfl] | rfl
    apply Ej [0,1,2,3,4,5,6,7,8,9,10,11,12] [0,1,2,3,4,5,6,7,8,9,10,11,12,13,14,15,16] foll0 rfl rfl rfl (by rfl)
    iterate 2 focus (intros;(conv=>lhs;simp only [Jh,Jt,JN,Ju,JI,eq_self,Nat.reduceEqDiff,reduceIte,Nat.reduceSub,Nat.reduceAdd,List.cons_append,List.nil_append]);all_goals rfl)
    intro gh;generalize (gh 10).b=bo41;generalize (gh 10).c=mo41;generalize (gh 10).vs=vo41;generalize (gh 11).b=bo42;clear gh;refine Jr .z (EJ.knwForget (JF (Ja (hK15 (Jb (Jg (JC rfl rfl (by first | exact nw _ (by omega) | rfl)) rfl (Jg (Jc rfl) rfl (Jf (Ja (JL (.s (.s .z)) (Jr .z (Jr (.s (.s (.s (.s .z)))) (Jr (.s (.s (.s (.s .z)))) (Jr (.s (.s (.s (.s .z)))) (Jr (.s (.s (.s (.s .z)))) ?_)))))))))))))));exact hAg1 (mo41,vo41,bo42,i+1) (by show i+1≤ldf.length;omega) (by show ldf.length - (i+1)<ldf.length - i;omega) 24 rfl rfl ⟨rfl,⟨rfl,trivial⟩⟩ rfl (by dsimp only;rw [prS_yes hpos])
   ·
    refine Jo (JF (Ja (hK15 (Jb (Jg (JC rfl rfl (by first | exact nw _ (by omega) | rfl)) rfl (Jg (Jc rfl) rfl (Jf (Ja ?_))))))));exact hAg1 (km2,kv2,bt,i+1) (by show i+1≤ldf.length;omega) (by show ldf.length - (i+1)<ldf.length - i;omega) 11 rfl rfl ⟨rfl,⟨rfl,trivial⟩⟩ rfl (by dsimp only;rw [prS_no (by omega)])
  ·
   refine JG (Jj (Jj (JP (Ja (hK11 (Jb (Jg (Jc rfl) rfl (Jg (Jc rfl) rfl (Jg (Jc rfl) rfl (Jw fn140 rfl rfl fun w hH=>hH.lend .z fun Hl1 hle1 hA1 hB1 hH=>(addAll_c k0 (omap_H hA1) hpr.sok (by omega) (by omega) (by omega) (hH.front (.s (.s .z)))).mono ?_))))))))));rintro _ w ⟨rfl,hH⟩;replace hH:=hB1 _ _ hH;refine ⟨_,rfl,fun a hF=>JK hF hH ?_⟩;refine Jf (JF (Ja (JL .z (JL (.s .z) (Jr (.s (.s .z)) (Jr (.s .z) (Jr (.s (.s .z)) ?_)))))));exact hAg0 (some nx13,la13++lb13,dn++scl (prS ldt lds nx13.1 oneS ldf.length) nx13.2,km2,kv2) ⟨by rw [List.append_assoc];exact perm_to hI.1 leadL_mid,fun x hx=>hI.2 x (by simp at hx ⊢;rcases hx with h | h <;> simp [h])⟩ (by simp) 22 rfl rfl trivial rfl (by dsimp only;rw [acc_app,show i=ldf.length by omega])
theorem by84:Bytes Tryz.prog 84 8:=by unfold Bytes;kernel_rfl
theorem ze84:Zero Tryz.prog 84 [.map none]:=by unfold Zero;kernel_rfl
section
variable {P : Program} {n : Nat} {B : World} {H0 H : HP} {us : List (Nat × Value)} {L : List SA} {t : TypeId} {x y z : Operand}
theorem PR.build3 {ty:TypeId} {i j k:Nat} {u v r:Value} {cs:List Value} (hx:opv us x=some u) (hy:opv us y=some v) (hz:opv us z=some r) (hb : ∀w,(Instr.build ty #[(i,u),(j,v),(k,r)]).run P w = .ok (.agg cs.toArray) w):PR P n B H0 us H L (.build ty #[(i,x),(j,y),(k,z)]) t (.agg cs.toArray):=
 fun _ _ _ _ a w hF _=>by simp [execOp,hF.ev hx,hF.ev hy,hF.ev hz,hb w]
end
theorem bld3 : ∀(q:Option Addr) (n c:Nat) (q':Option Addr) (n' c' kb:Nat) w,(Instr.build 187 #[(0,.slice q n c),(1,.slice q' n' c'),(3,.map (some kb))]).run Tryz.prog w = .ok (.agg [Value.slice q n c,Value.slice q' n' c',Value.slice none 0 0,Value.map (some kb)].toArray) w:=fun _ _ _ _ _ _ _ _=>by kernel_rfl
def mapsC (bs:Nat→Nat) (k:Nat):List Value:=(List.range k).map fun i=>Value.map (some (bs i))
@[simp] theorem mapsC_len (bs:Nat→Nat) (k:Nat):(mapsC bs k).length=k:=by simp [mapsC]
theorem mapsC_get {bs:Nat→Nat} {k i:Nat} (h:i<k):(mapsC bs k)[i]? = some (.map (some (bs i))):=by simp [mapsC,h]
theorem mapsC_snoc (bs:Nat→Nat) (k b:Nat):mapsC bs k++[.map (some b)]=mapsC (updN bs k b) (k+1):=by
 unfold mapsC;rw [List.range_succ,List.map_append]
 congr 1
 ·exact List.map_congr_left fun i hi=>by
   have:=List.mem_range.1 hi
   simp [updN,Nat.ne_of_lt this]
 ·simp [updN]
theorem leaderOf_c {B:World} {H0 H:HP} {L:List SA} {w:World} {qfd:Option Addr} {cfd:Nat} {fd:List Int} {qtd:Option Addr} {ctd:Nat} {td:List Int} {qms:Option Addr} {cms:Nat} {ms:List (List Term)} {Mi:Int} (hfd:Ints H qfd fd) (htd:Ints H qtd td) (hms:Forms H qms ms) (hf:Fok Mi ms) (hm:ms.length≤1048576) (hH:Hp B H0 H L w):Calls Tryz.prog 98 [.slice qfd fd.length cfd,.slice qtd td.length ctd,.slice qms ms.length cms].toArray w fun e w'=>∃g q c bs kb,e = .returned (.pointer (some ⟨g,0,none⟩))∧Hp B H0 H (obj g (.cells [.slice qfd fd.length cfd,.slice qtd td.length ctd,.slice q ms.length c,.map (some kb)].toArray 187 (0,0))::imgs bs (ssF ms) ms.length::own 84 1 q ms.length c (mapsC bs ms.length)::okn kb []::L) w':=by
 refine Jz Tryz.func98 rfl 34 rfl rfl [(0,.slice qfd fd.length cfd),(1,.slice qtd td.length ctd),(2,.slice qms ms.length cms)] rfl hH ?_;clear hH;refine Je fun _ hK1 _=>(Jb (Jg (Jd rfl) rfl (Jf (Ja (hK1 (Je fun _ hK2 _=>(Jb (Jg (Jc rfl) rfl (Jg (Jc rfl) rfl (EI pwE mvE k2Ok rfl fun kb=>(J.own0 84 1 (J.im0 (fun _=>0) (ssF ms) (Jg (PR.build3 rfl rfl rfl (fun w=>bld3 _ _ _ _ _ _ _ w)) rfl (Ed rfl rfl rfl fun g14=>(Jg (Jd rfl) rfl ?_)))))))))))))));refine Jf (Ja (hK2 (Je fun _ hK3 _=>(Je fun _ hK4 _=>(Jb (Jg (Jc rfl) rfl (Jg (Jn u33 rfl rfl) rfl (Jg (Jc rfl) rfl (Jf (Ja (hK4 (Jm (JD (σ:=Option Addr × Nat × (Nat→Nat) × Nat) (fun ⟨q,c,bs,k⟩=>[(17,.int .i64 (k:Int))]) (fun ⟨q,c,bs,k⟩=>H) (fun ⟨q,c,bs,k⟩=>obj g14 (.cells [.slice qfd fd.length cfd,.slice qtd td.length ctd,.slice q k c,.map (some kb)].toArray 187 (0,0))::imgs bs (ssF ms) k::own 84 1 q k c (mapsC bs k)::okn kb []::L) (fun ⟨q,c,bs,k⟩=>k≤ms.length) (fun ⟨q,c,bs,k⟩=>ms.length - k) (none,0,fun _=>0,0) (by show 0≤ms.length;omega) ⟨rfl,trivial⟩ rfl rfl ?_)))))))))))));rintro ⟨q,c,bs,k⟩ hk _ hAg0;refine Je fun _ hK5 _=>(Jb (Jg (JM rfl rfl) rfl (Jf (Ja (hK5 (Je fun _ hK6 _=>(Jp rfl (fun hc18=>?_) (fun hc18=>?_))))))))
 ·
  refine Jo (Ja (hK6 (Je fun _ hK7 _=>(Jm (Je fun _ hK8 _=>(Jb (Jg (JO u33 sz39 rfl rfl rfl (by omega) hms.sm) rfl ?_)))))));obtain ⟨qe20,ce20,he20,le20,Fe20⟩:=hms k (by omega);refine Jg (JR (cs:=[_]) rfl (one_cell he20) (hms.sm (i:=k) (by omega)) ag39) rfl (JV ze39 rfl fun g9=>(JJ rfl rfl (by first | exact bytesC_one _ | exact intsC_one _ | exact Term.c_one _ | simp [Value.oneCell']) (by simpa [*] using sz39) (by simp [*]) At.z (Jf (Ja (hK8 (El (Rs:=[_,_,_,_,_]) 12 [[], [], [1], [1,2], [1,2,3], [], [5], [5,6], [1,2,3,4,5,6,7], [0,1,2,3,4,5,6,7,8], [0,1,2,3,4,5,6,7,8,9], [0,1,2,3,4,5,6,7,8,9,10]] [[], [], [], [], [13], [12], [], [], [7], [], [], []] [[], [], [], [], [], [], [], [], [15], [], [], [13]] rfl rfl (by kernel_rfl) ?_))))));apply Jl 1 rfl
  iterate 3 focus (intros;(conv=>lhs;simp only [Jh,Jt,JN,Ju,JI,eq_self,Nat.reduceEqDiff,reduceIte,Nat.reduceSub,Nat.reduceAdd,List.cons_append,List.nil_append]);all_goals rfl)
  ·
   intro gh X K zq zc zq2 zc2 zb zv hK;refine Jg (Jc rfl) rfl (Ji ?_);exact hK zq zc zq2 zc2 zb zv
  ·
   intro gh gh' h
   rfl
  apply Jl 2 rfl
  iterate 3 focus (intros;(conv=>lhs;simp only [Jh,Jt,JN,Ju,JI,eq_self,Nat.reduceEqDiff,reduceIte,Nat.reduceSub,Nat.reduceAdd,List.cons_append,List.nil_append]);all_goals rfl)
  ·
   intro gh X K zq zc zq2 zc2 zb zv hK;refine Jg (Jc rfl) rfl (Ji ?_);exact hK zq zc zq2 zc2 zb zv
  ·
   intro gh gh' h
   rfl
  apply Jl 3 rfl
  iterate 3 focus (intros;(conv=>lhs;simp only [Jh,Jt,JN,Ju,JI,eq_self,Nat.reduceEqDiff,reduceIte,Nat.reduceSub,Nat.reduceAdd,List.cons_append,List.nil_append]);all_goals rfl)
  ·
   intro gh X K zq zc zq2 zc2 zb zv hK;refine Jg (JH rfl) rfl (Ji ?_);exact hK zq zc zq2 zc2 zb zv
  ·
   intro gh gh' h
   rfl
  apply Jl 4 rfl
  iterate 3 focus (intros;(conv=>lhs;simp only [Jh,Jt,JN,Ju,JI,eq_self,Nat.reduceEqDiff,reduceIte,Nat.reduceSub,Nat.reduceAdd,List.cons_append,List.nil_append]);all_goals rfl)
  ·
   intro gh X K zq zc zq2 zc2 zb zv hK;refine Jg (Jv u187 rfl sz185 rfl) rfl (Ji ?_);exact hK zq zc zq2 zc2 zb zv
  ·
   intro gh gh' h
   rfl
  apply Jl 5 rfl
  iterate 3 focus (intros;(conv=>lhs;simp only [Jh,Jt,JN,Ju,JI,eq_self,Nat.reduceEqDiff,reduceIte,Nat.reduceSub,Nat.reduceAdd,List.cons_append,List.nil_append]);all_goals rfl)
  ·
   intro gh X K zq zc zq2 zc2 zb zv hK;refine Jg (Jy rfl At.z rfl pl185) rfl (Ji ?_);exact hK zq zc zq2 zc2 zb zv
  ·
   intro gh gh' h
   rfl
  apply Jl 6 rfl
  iterate 3 focus (intros;(conv=>lhs;simp only [Jh,Jt,JN,Ju,JI,eq_self,Nat.reduceEqDiff,reduceIte,Nat.reduceSub,Nat.reduceAdd,List.cons_append,List.nil_append]);all_goals rfl)
  ·
   intro gh X K zq zc zq2 zc2 zb zv hK;refine Jg (Jx rfl At.z (by simpa [*] using ag39)) rfl (Ji ?_);exact hK zq zc zq2 zc2 zb zv
  ·
   intro gh gh' h
   rfl
  apply Ea 7 rfl
  iterate 3 focus (intros;(conv=>lhs;simp only [Jh,Jt,JN,Ju,JI,eq_self,Nat.reduceEqDiff,reduceIte,Nat.reduceSub,Nat.reduceAdd,List.cons_append,List.nil_append]);all_goals rfl)
  ·
   intro gh X K zq zc zq2 zc2 zb zv hK;refine Jw fn62 rfl rfl fun w hH=>(sumOf_c Fe20 (hf k (by omega)).1 (hf k (by omega)).2 hH).mono ?_;rintro _ w ⟨bo27,rfl,hH⟩;refine ⟨_,rfl,fun a hF=>JK hF hH ?_⟩;refine Ji ?_;exact hK zq zc zq2 zc2 bo27 zv
  ·
   intro gh gh' h;refine ⟨?_,?_⟩ <;> rfl
  apply Ea 8 rfl
  iterate 3 focus (intros;(conv=>lhs;simp only [Jh,Jt,JN,Ju,JI,eq_self,Nat.reduceEqDiff,reduceIte,Nat.reduceSub,Nat.reduceAdd,List.cons_append,List.nil_append]);all_goals rfl)
  ·
   intro gh X K zq zc zq2 zc2 zb zv hK;refine EH (EK u185 ze84 sz84 rfl rfl) rfl fun qo28 co28=>(Ji ?_);exact hK qo28 co28 zq2 zc2 zb zv
  ·
   intro gh gh' h;refine ⟨?_,?_⟩ <;> (first | simp only [h 6 rfl] | rfl)
  apply Ea 9 rfl
  iterate 3 focus (intros;(conv=>lhs;simp only [Jh,Jt,JN,Ju,JI,eq_self,Nat.reduceEqDiff,reduceIte,Nat.reduceSub,Nat.reduceAdd,List.cons_append,List.nil_append]);all_goals rfl)
  ·
   intro gh X K zq zc zq2 zc2 zb zv hK;refine ED u185 ze84 sz84 by84 rfl rfl rfl rfl (by omega) (.s .z) At.z (fun _ _=>At.z) rfl fun qo29 co29=>(Jr .z (Jr (.s .z) (Ji ?_)));exact hK qo29 co29 zq2 zc2 zb zv
  ·
   intro gh gh' h;refine ⟨?_,?_⟩ <;> (first | simp only [h 6 rfl,h 7 rfl] | rfl)
  apply Jl 10 rfl
  iterate 3 focus (intros;(conv=>lhs;simp only [Jh,Jt,JN,Ju,JI,eq_self,Nat.reduceEqDiff,reduceIte,Nat.reduceSub,Nat.reduceAdd,List.cons_append,List.nil_append]);all_goals rfl)
  ·
   intro gh X K zq zc zq2 zc2 zb zv hK;refine Jg (JH rfl) rfl (Ji ?_);exact hK zq zc zq2 zc2 zb zv
  ·
   intro gh gh' h
   first | simp only [h 6 rfl,h 7 rfl,h 8 rfl] | rfl
  apply Jl 11 rfl
  iterate 3 focus (intros;(conv=>lhs;simp only [Jh,Jt,JN,Ju,JI,eq_self,Nat.reduceEqDiff,reduceIte,Nat.reduceSub,Nat.reduceAdd,List.cons_append,List.nil_append]);all_goals rfl)
  ·
   intro gh X K zq zc zq2 zc2 zb zv hK;refine Jg (Jv u187 rfl sz185 rfl) rfl (Ji ?_);exact hK zq zc zq2 zc2 zb zv
  ·
   intro gh gh' h
   first | simp only [h 6 rfl,h 7 rfl,h 8 rfl] | rfl
  apply ER 12 rfl
  iterate 3 focus (intros;(conv=>lhs;simp only [Jh,Jt,JN,Ju,JI,eq_self,Nat.reduceEqDiff,reduceIte,Nat.reduceSub,Nat.reduceAdd,List.cons_append,List.nil_append]);all_goals rfl)
  ·
   intro gh X K hK;refine Es rfl rfl rfl rfl sz185 (by simp [*]) At.z (Ji ?_);exact hK
  ·
   intro gh gh' h
   first | simp only [h 6 rfl,h 7 rfl,h 8 rfl] | rfl
  apply Ej [0,1,2,3,4,5,6,7,8,9,10,11] [0,1,2,3,4,5,6,7,8,9,10,11,12,14,16] foll0 rfl rfl rfl (by rfl)
  iterate 2 focus (intros;(conv=>lhs;simp only [Jh,Jt,JN,Ju,JI,eq_self,Nat.reduceEqDiff,reduceIte,Nat.reduceSub,Nat.reduceAdd,List.cons_append,List.nil_append]);all_goals rfl)
  intro gh;generalize (gh 6).b=bo27;generalize (gh 7).c=co28;generalize (gh 7).q=qo28;generalize (gh 8).c=co29;generalize (gh 8).q=qo29;clear gh;refine JF (Ja (hK7 (Jb (Jg (JC rfl rfl (by first | exact nw _ (by omega) | rfl)) rfl (Jg (Jc rfl) rfl (Jf (Ja (Jr (.s (.s (.s (.s (.s (.s .z)))))) (Jr (.s (.s (.s (.s (.s .z))))) (Jr (.s (.s (.s (.s (.s .z))))) (Jr (.s (.s (.s (.s (.s .z))))) (Jr (.s (.s (.s (.s (.s .z))))) (Jr (.s (.s (.s (.s (.s (.s .z)))))) (Jr (.s (.s (.s (.s (.s (.s .z)))))) (EJ.imSnoc rfl ?_)))))))))))))));refine JL (.s .z) (JL (.s (.s (.s .z))) (Jr (.s (.s (.s .z))) (Jr (.s (.s .z)) (Jr (.s (.s .z)) (Jr (.s (.s (.s .z))) ?_)))));exact hAg0 (qo29,co29,updN bs k bo27,k+1) (by show k+1≤ms.length;omega) (by show ms.length - (k+1)<ms.length - k;omega) 18 rfl rfl ⟨rfl,trivial⟩ rfl (by dsimp only;rw [mapsC_snoc];rfl)
 ·
  refine JG (Jj (Jj (JP (Ja (hK3 (Je fun _ hK9 _=>(Jb (Jg (Jc rfl) rfl (Jg (Jd rfl) rfl (Jf (Ja (hK9 (Js (Jq rfl (Res.tmp rfl) fun w hH=>?_))))))))))))));replace hH:=hH.sublist (.cons_cons _ (.cons_cons _ (.cons_cons _ (.cons_cons _ (List.Sublist.refl _)))))
  obtain rfl:k=ms.length:=by omega
  exact ⟨_,_,_,_,_,rfl,hH⟩
end Go.Proofs.YthenedanhcnccaaGreat.G
