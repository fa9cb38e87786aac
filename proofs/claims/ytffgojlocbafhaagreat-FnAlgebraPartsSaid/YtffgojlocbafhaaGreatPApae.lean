/- A part of the walk of one law: what the functions compute. No condition. -/
import Derived.Test.YtffgojlocbafhaaGreatRows
import Derived.Test.YtffgojlocbafhaaGreatProg
import Derived.WalkKit
import Derived.KernelRfl
import Derived.JoinedOf
import Derived.Maps.AppendAt
import Derived.Still
import Derived.ProofKit
import Derived.OpenShut
import Derived.StillTail
import Derived.Deep.Upon
import Derived.WalkSpells
import Derived.Maps.Range
import Derived.Laws.Entries
import Derived.DeepKeys4
import Derived.Laws.Concat
import Derived.Laws.IdiomStrings
import Derived.Laws.Strings
import Derived.Lib.ItoaNum
import Derived.Lib.Join
import Derived.Lib.LaidTab
import Derived.Lib.SplitLaws
import Derived.Lib.AtoiTie
import Derived.Lib.ParseIntBTie
import Derived.Laws.Strings2
import Derived.Laws.Strings3
import Derived.Laws.Slices
import Derived.Laws.StructEq
import Derived.ChangeOld
import Derived.Below
import Derived.SizedLaws
import Derived.Test.YtffgojlocbafhaaGreatPApad
set_option linter.unusedVariables false
set_option linter.unusedSimpArgs false
set_option maxRecDepth 10000
set_option maxHeartbeats 8000000
open Nat (reduceEqDiff reduceSub reduceAdd)
namespace Go.Proofs.YtffgojlocbafhaaGreat.G
open Go Go.RowKit
theorem fn34:Fn Tryz.prog 34:=⟨_,Tryz.func34,by kernel_rfl,rfl⟩
theorem fn35:Fn Tryz.prog 35:=⟨_,Tryz.func35,by kernel_rfl,rfl⟩
theorem fn64:Fn Tryz.prog 64:=⟨_,Tryz.func64,by kernel_rfl,rfl⟩
def idxE (xs:List Int) (x:Int):Int:=if xs.any (fun y=>decide (x=y)) then (xs.findIdx (fun y=>decide (x=y)):Int) else -1
theorem idxE_hit {xs:List Int} {x:Int} {k:Nat} (hk:k<xs.length) (h : ∀j,j<k→¬x=xs.getD j 0) (hp:x=xs.getD k 0):(k:Int)=idxE xs x:=by
 have g : ∀j (hj:j<xs.length),xs.getD j 0=xs[j]:=fun j hj=>by rw [List.getD_eq_getElem?_getD,List.getElem?_eq_getElem hj];rfl
 unfold idxE;rw [if_pos (List.any_eq_true.2 ⟨xs[k],List.getElem_mem hk,by rw [← g k hk];exact decide_eq_true hp⟩)]
 have:xs.findIdx (fun y=>decide (x=y))=k:=by
  rw [List.findIdx_eq hk];exact ⟨by rw [← g k hk];exact decide_eq_true hp,fun j hj=>by rw [← g j (by omega)];exact decide_eq_false (h j hj)⟩
 rw [this]
theorem idxE_miss {xs:List Int} {x:Int} (h : ∀j,j<xs.length→¬x=xs.getD j 0):(-1:Int)=idxE xs x:=by
 have g : ∀j (hj:j<xs.length),xs.getD j 0=xs[j]:=fun j hj=>by rw [List.getD_eq_getElem?_getD,List.getElem?_eq_getElem hj];rfl
 unfold idxE;rw [if_neg];intro ha;obtain ⟨y,hy,hp⟩:=List.any_eq_true.1 ha;obtain ⟨j,hj,rfl⟩:=List.mem_iff_getElem.1 hy;exact h j hj (by rw [g j hj];exact of_decide_eq_true hp)
theorem idxE_ge (xs:List Int) (x:Int):decide (idxE xs x≥0)=xs.any fun y=>decide (x=y):=by
 unfold idxE
 cases h:xs.any (fun y=>decide (x=y)) with
 | true=>rw [if_pos rfl];exact decide_eq_true (by omega)
 | false=>rw [if_neg (by simp)];exact decide_eq_false (by omega)
theorem IndexI_c {B:World} {H0 H:HP} {L:List SA} {w:World} {qxs:Option Addr} {cxs:Nat} {xs:List Int} {x:Int} (hxs:Ints H qxs xs) (hn:xs.length≤9223372036854775807) (hH:Hp B H0 H L w):Calls Tryz.prog 64 [.slice qxs xs.length cxs,.int .i64 x].toArray w fun e w'=>e = .returned (.int .i64 (idxE xs x))∧Hp B H0 H L w':=by
 refine JB Tryz.func64 rfl 19 rfl rfl [(0,.slice qxs xs.length cxs),(1,.int .i64 x)] rfl hH ?_;clear hH;refine Je fun _ hK1 _=>(Jb (Jg (Jd rfl) rfl (Jf (Ja (hK1 (Je fun _ hK2 _=>(Je fun _ hK3 _=>(Jb (Jg (Jc rfl) rfl (Jg (Jq u24 rfl rfl) rfl (Jg (Jc rfl) rfl (Jf (Ja (hK3 (Jp (JH (σ:=Nat) (fun (k:Nat)=>[(8,.int .i64 (k:Int))]) (fun (k:Nat)=>H) (fun (k:Nat)=>L) (fun (k:Nat)=>k≤xs.length∧∀j,j<k→¬x=xs.getD j 0) (fun (k:Nat)=>xs.length - k) 0 ⟨by omega,fun j hj=>by omega⟩ ⟨rfl,trivial⟩ rfl rfl ?_))))))))))))))));rintro k ⟨hk,hI⟩ _ hAg0;refine Je fun _ hK4 _=>(Jb (Jg (JV rfl rfl) rfl (Jf (Ja (hK4 (Je fun _ hK5 _=>(Jm rfl (fun hc9=>?_) (fun hc9=>?_))))))))
 ·
  refine Jk (Ja (hK5 (Je fun _ hK6 _=>(Jp (Je fun _ hK7 _=>(Jb (Jg (Jc rfl) rfl (Jg (Jd rfl) rfl (Jf (Ja (hK7 (Je fun _ hK8 _=>(Jb (Jg (Jc rfl) rfl (Jg (Jc rfl) rfl (Jg (Jc rfl) rfl ?_))))))))))))))));refine Jg (JY u24 sz2 rfl rfl rfl (by omega) hxs.sm) rfl (Jg (JR rfl (hxs _ (by omega)) pl2) rfl (Jg (Ef rfl rfl) rfl (Jf (Ja (hK8 (Jm rfl (fun h16=>?_) (fun h16=>?_)))))))
  ·
   refine Je fun _ hK9 _=>(Jb (Jg (Jc rfl) rfl (Jg (Jd rfl) rfl (Jf (Ja (hK9 (Js (JL (Ji (Ji (JL (Ji (Ju rfl (Res.tmp rfl) fun w hH=>?_)))))))))))));exact ⟨ri (idxE_hit (by omega) hI h16),hH⟩
  ·
   refine Jk (JD (Ja (hK6 (Jb (Jg (Jy rfl rfl (by first | exact nw _ (by omega) | rfl)) rfl (Jg (Jc rfl) rfl (Jf (Ja ?_))))))));exact hAg0 (k+1) ⟨by omega,upto hI h16⟩ (by omega) 12 rfl rfl ⟨rfl,trivial⟩ rfl rfl
 ·
  refine JI (Jl (Jl (JT (Ja (hK2 (Je fun _ hK10 _=>(Jb (Jg (Jd rfl) rfl (Jf (Ja (hK10 (Js (Ju rfl (Res.tmp rfl) fun w hH=>?_)))))))))))));exact ⟨ri (idxE_miss (fun j hj=>hI j (by omega))),hH⟩
theorem ContainsI_c {B:World} {H0 H:HP} {L:List SA} {w:World} {qxs:Option Addr} {cxs:Nat} {xs:List Int} {x:Int} (hxs:Ints H qxs xs) (hn:xs.length≤9223372036854775807) (hH:Hp B H0 H L w):Calls Tryz.prog 34 [.slice qxs xs.length cxs,.int .i64 x].toArray w fun e w'=>e = .returned (.bool (xs.any fun y=>decide (x=y)))∧Hp B H0 H L w':=by
 refine JB Tryz.func34 rfl 9 rfl rfl [(0,.slice qxs xs.length cxs),(1,.int .i64 x)] rfl hH ?_;clear hH;refine Je fun _ hK1 _=>(Jb (Jg (Jd rfl) rfl (Jf (Ja (hK1 (Je fun _ hK2 _=>(Jb (Jg (Jc rfl) rfl (Jg (Jc rfl) rfl (Jx fn64 rfl rfl fun w hH=>(IndexI_c hxs (by omega) hH).mono ?_))))))))));rintro _ w ⟨rfl,hH⟩;refine ⟨_,rfl,fun a hF=>JQ hF hH ?_⟩;refine Jg (PR.geq rfl rfl) rfl (Jg (Jd rfl) rfl (Jf (Ja (hK2 (Js (Ju rfl (Res.tmp rfl) fun w hH=>?_))))));exact ⟨rb (idxE_ge xs x),hH⟩
theorem l02Rank_c {B:World} {H0 H:HP} {L:List SA} {w:World} {qts:Option Addr} {cts:Nat} {ts:List Term} {qr:Option Addr} {cr:Nat} {r:List Int} {M:Int} (hts:Terms H qts ts) (hr:Ints H qr r) (hb : ∀j,0≤r.getD j 0∧r.getD j 0≤M) (hM:0≤M∧M≤1000) (hn:r.length≤8) (hl:ts.length≤9223372036854775807) (hz : ∀i,i<ts.length→∀j,r.length≤j→(tm ts i).mono.getD j 0=0) (hH:Hp B H0 H L w):Calls Tryz.prog 35 [.agg [.slice qts ts.length cts].toArray,.slice qr r.length cr].toArray w fun e w'=>e = .returned (.int .i64 (rkF ts r))∧Hp B H0 H L w':=by
 refine JB Tryz.func35 rfl 43 rfl rfl [(0,.agg [.slice qts ts.length cts].toArray),(1,.slice qr r.length cr)] rfl hH ?_;clear hH;refine Je fun _ hK1 _=>(Jb (Eg rfl rfl rfl fun g2=>(Jg (Jd rfl) rfl (Jf (Ja (hK1 (Je fun _ hK2 _=>(Jb (Jg (Jd rfl) rfl (Jf (Ja (hK2 (Je fun _ hK3 _=>(Je fun _ hK4 _=>(Jb (Jg (Jd rfl) rfl ?_))))))))))))))));refine Jf (Ja (hK4 (Jp (JH (σ:=Nat) (fun (k:Nat)=>[(6,.int .i64 (k:Int)),(5,.int .i64 (mxF ts r k))]) (fun (k:Nat)=>H) (fun (k:Nat)=>obj g2 (.cells [.slice qts ts.length cts].toArray 43 (0,0))::L) (fun (k:Nat)=>k≤ts.length∧okF ts r k) (fun (k:Nat)=>ts.length - k) 0 ⟨by omega,okF_zero _ _⟩ ⟨rfl,⟨rfl,trivial⟩⟩ rfl rfl ?_))));rintro k ⟨hk,hI⟩ _ hAg0;have hx:=mxF_bd (ts:=ts) hb hM.1 k;refine Je fun _ hK5 _=>(Je fun _ hK6 _=>(Jb (Jg (Jc rfl) rfl (Jg (Jt u43 rfl sz41 rfl) rfl (Jg (Jv rfl At.z rfl pl41) rfl (Jg (Jq u41 rfl rfl) rfl (Jg (JV rfl rfl) rfl (Jf (Ja (hK6 (Jm rfl (fun hc12=>?_) (fun hc12=>?_))))))))))))
 ·
  refine Jk (Ja (hK5 (Je fun _ hK7 _=>(Jp (Je fun _ hK8 _=>(Jb (Jg (Jd rfl) rfl (Jf (Ja (hK8 (Jp (JH (σ:=Nat) (fun (j:Nat)=>[(7,.int .i64 (j:Int)),(5,.int .i64 (mxT (tm ts k).mono r (mxF ts r k) j))]) (fun (j:Nat)=>H) (fun (j:Nat)=>obj g2 (.cells [.slice qts ts.length cts].toArray 43 (0,0))::L) (fun (j:Nat)=>j≤r.length∧okT (tm ts k).mono r j) (fun (j:Nat)=>r.length - j) 0 ⟨by omega,okT_zero _ _⟩ ⟨rfl,⟨rfl,trivial⟩⟩ rfl rfl ?_))))))))))));rintro j ⟨hj,hJ⟩ _ hAg1;have hy:=mxT_bd (m:=(tm ts k).mono) hb hx j;have hbj:=hb j;refine Je fun _ hK9 _=>(Je fun _ hK10 _=>(Jb (Jg (Jc rfl) rfl (Jg (Jc rfl) rfl (Jg (Jq u24 rfl rfl) rfl (Jg (JV rfl rfl) rfl (Jf (Ja (hK10 (Jm rfl (fun hc18=>?_) (fun hc18=>?_)))))))))))
  ·
   refine Jk (Ja (hK9 (Je fun _ hK11 _=>(Jp (Je fun _ hK12 _=>(Je fun _ hK13 _=>(Jb (Jg (Jt u43 rfl sz41 rfl) rfl (Jg (Jv rfl At.z rfl pl41) rfl (Jg (Jc rfl) rfl (Jg (Jc rfl) rfl (Jg (Eo u41 sz52 rfl rfl rfl (by omega) hts.sm) rfl (Jg (Ep u52 rfl sz50 rfl (hts.sm (i:=k) (by omega))) rfl (Jg (PR.idxP1 u50 sz5 rfl (hts.sm (i:=k) (by omega)) rfl rfl (by omega)) rfl (Jg (JR rfl (hts.byte (by omega) (by omega)) pl5) rfl ?_)))))))))))))));refine Jg (Ef rfl rfl) rfl (Jf (Ja (hK13 (Jm rfl (fun h29=>?_) (fun h29=>?_)))))
   ·
    refine JI (Jl (JT (Ja (hK11 (Jb (Jg (Jc rfl) rfl (Jg (Jy rfl rfl (by first | exact nw _ (by omega) | rfl)) rfl (Jg (Jd rfl) rfl (Jf (Ja ?_))))))))));exact hAg1 (j+1) ⟨by omega,okT_skip hJ h29⟩ (by omega) 18 rfl rfl ⟨rfl,⟨(vi (mxT_skip h29)),trivial⟩⟩ rfl rfl
   ·
    refine Jk (Ja (hK12 (Je fun _ hK14 _=>(Je fun _ hK15 _=>(Jb (Jg (Jc rfl) rfl (Jg (Jc rfl) rfl (Jg (JY u24 sz2 rfl rfl rfl (by omega) hr.sm) rfl (Jg (JR rfl (hr _ (by omega)) pl2) rfl (Jg (Ef rfl rfl) rfl (Jf (Ja (hK15 (Jm rfl (fun h34=>?_) (fun h34=>?_)))))))))))))))
    ·
     refine Je fun _ hK16 _=>(Jb (Jg (Jd rfl) rfl (Jf (Ja (hK16 (Js (Ji (JL (Ji (Ji (JL (JL (Ji (Ji (JL ?_)))))))))))))));refine Ji (Ju rfl (Res.tmp rfl) fun w hH=>?_);replace hH:=hH.tail;exact ⟨ri (rkF_no (i:=k) (j:=j) (by omega) (by omega) h29 h34).symm,hH⟩
    ·
     refine Jk (Ja (hK14 (Jb (Jg (Jc rfl) rfl (Jg (Jc rfl) rfl (Jg (Jc rfl) rfl (Jg (JY u24 sz2 rfl rfl rfl (by omega) hr.sm) rfl (Jg (JR rfl (hr _ (by omega)) pl2) rfl (Jg (Jy rfl rfl (by first | exact nw _ (by omega) | rfl)) rfl (Jg (PR.max2 rfl rfl) rfl (Jg (Jd rfl) rfl (Jf (JD (Ja (hK11 (Jb ?_))))))))))))))));refine Jg (Jc rfl) rfl (Jg (Jy rfl rfl (by first | exact nw _ (by omega) | rfl)) rfl (Jg (Jd rfl) rfl (Jf (Ja ?_))));exact hAg1 (j+1) ⟨by omega,okT_succ hJ h34⟩ (by omega) 31 rfl rfl ⟨rfl,⟨(vi (mxT_go h29)),trivial⟩⟩ rfl rfl
  ·
   refine JI (Jl (Jl (JT (JD (Ja (hK7 (Jb (Jg (Jc rfl) rfl (Jg (Jy rfl rfl (by first | exact nw _ (by omega) | rfl)) rfl (Jg (Jd rfl) rfl (Jf (Ja ?_))))))))))));exact hAg0 (k+1) ⟨by omega,okF_succ hI (okT_end (hz k (by omega)) (by rw [show r.length=j by omega];exact hJ))⟩ (by omega) 17 rfl rfl ⟨rfl,⟨(vi (by simp only [mxF];rw [mxT_end hn (hz k (by omega)),show r.length=j by omega])),trivial⟩⟩ rfl rfl
 ·
  refine JI (Jl (Jl (JT (Ja (hK3 (Je fun _ hK17 _=>(Jb (Jg (Jc rfl) rfl (Jg (Jd rfl) rfl (Jf (Ja (hK17 (Js (Ju rfl (Res.tmp rfl) fun w hH=>?_))))))))))))));replace hH:=hH.tail
  obtain rfl:k=ts.length:=by omega
  exact ⟨ri (rkF_ok hI).symm,hH⟩
theorem l02Rank_m {B:World} {H0 H:HP} {L:List SA} {w:World} {qts:Option Addr} {cts:Nat} {ts:List Term} {qr:Option Addr} {cr m:Nat} {r:List Int} {M:Int} (hts:Terms H qts ts) (hr:Ints H qr r) (hm:r.length=m) (hb : ∀j,0≤r.getD j 0∧r.getD j 0≤M) (hM:0≤M∧M≤1000) (hn:m≤8) (hl:ts.length≤9223372036854775807) (hz : ∀i,i<ts.length→∀j,m≤j→(tm ts i).mono.getD j 0=0) (hH:Hp B H0 H L w):Calls Tryz.prog 35 [.agg [.slice qts ts.length cts].toArray,.slice qr m cr].toArray w fun e w'=>e = .returned (.int .i64 (rkF ts r))∧Hp B H0 H L w':=by
 subst hm;exact l02Rank_c hts hr hb hM hn hl hz hH
theorem ContainsI_m {B:World} {H0 H:HP} {L:List SA} {w:World} {qxs:Option Addr} {cxs m:Nat} {xs:List Int} {x:Int} (hxs:Ints H qxs xs) (hm:xs.length=m) (hn:m≤9223372036854775807) (hH:Hp B H0 H L w):Calls Tryz.prog 34 [.slice qxs m cxs,.int .i64 x].toArray w fun e w'=>e = .returned (.bool (xs.any fun y=>decide (x=y)))∧Hp B H0 H L w':=by
 subst hm;exact ContainsI_c hxs hn hH
theorem sRanksOf_c {B:World} {H0 H:HP} {L:List SA} {w:World} {qad qaf:Option Addr} {cad caf:Nat} {ad:List Int} {af:List (List Term)} (had:Ints H qad ad) (haf:Forms H qaf af) (hn8:ad.length≤1048576) (hn9:af.length≤1048576) (hl9 : ∀i,i<af.length→(fm af i).length≤1048576) (hH:Hp B H0 H L w):Calls Tryz.prog 15 [.agg [.slice qad ad.length cad,.slice qaf af.length caf].toArray].toArray w fun e w'=>∃q c,e = .returned (.tuple #[.slice q (rnkV ad af).length c,.int .i64 (rnkC ad af)])∧Hp B H0 H (own 2 1 q (rnkV ad af).length c (intsC (rnkV ad af))::L) w':=by
 refine JB Tryz.func15 rfl 54 rfl rfl [(0,.agg [.slice qad ad.length cad,.slice qaf af.length caf].toArray)] rfl hH ?_;clear hH;refine Je fun _ hK1 _=>(Jb (Eg rfl rfl rfl fun g1=>(Jg (Jd rfl) rfl (Jg (Jd rfl) rfl (Jf (Ja (hK1 (Je fun _ hK2 _=>(Je fun _ hK3 _=>(Jb (Jg (Jn rfl At.z (by simpa [*] using ag27)) rfl (Jx fn25 rfl rfl fun w hH=>(l02Is_c had haf hn8 hn9 hl9 hH).mono ?_))))))))))));rintro _ w ⟨rfl,hH⟩;refine ⟨_,rfl,fun a hF=>JQ hF hH ?_⟩;refine Jg (Es rfl) rfl (Jf (Ja (hK3 (Ei rfl (fun h10=>?_) (fun h10=>?_)))))
 ·
  refine Je fun _ hK4 _=>(Jb (Jg (Jd rfl) rfl (Jg (Jd rfl) rfl (Jf (Ja (hK4 (Js (Ji (Eb rfl (Res.tmp rfl) (Res.tmp rfl) fun w hH=>?_)))))))));replace hH:=hH.sublist (.cons _ (List.Sublist.refl _))
  have hf9:isAlg ad af=false:=by simpa using h10
  have e1:rnkV ad af=[]:=if_neg (by rw [hf9];simp);have e2:rnkC ad af=1:=if_neg (by rw [hf9];simp);rw [e1,e2];exact ⟨none,0,rfl,(hH.own0 2 1)⟩
 ·
  have hA9:isAlg ad af=true:=by simpa using h10
  have hA:=isAlg_ok hA9 haf.wfss;have hn8a:=hA.hn;have hl8a:=hA.hl;refine Jk (Ja (hK2 (Je fun _ hK5 _=>(Jb (Jg (Jt u27 rfl sz24 rfl) rfl (Jg (Jv rfl At.z rfl pl24) rfl (Jg (Jq u24 rfl rfl) rfl (J.makeI u24 ze2 sz2 by2 rfl rfl rfl rfl (by omega) rfl fun g14=>(Jg (Jd rfl) rfl (Jf (Ja (hK5 (Je fun _ hK6 _=>(Je fun _ hK7 _=>(Jb (Jg (Jd rfl) rfl ?_))))))))))))))));refine Jf (Ja (hK7 (Jp (JH (σ:=Nat) (fun (t:Nat)=>[(5,.int .i64 (t:Int))]) (fun (t:Nat)=>H) (fun (t:Nat)=>obj g14 (.cells (intsC (rndR af ad.length t)).toArray 2 (0,0))::obj g1 (.cells [.slice qad ad.length cad,.slice qaf af.length caf].toArray 27 (0,0))::L) (fun (t:Nat)=>t≤ad.length) (fun (t:Nat)=>ad.length - t) 0 (by omega) ⟨rfl,trivial⟩ rfl rfl ?_))));rintro t ht _ hAg0;have hrl0:=(RkOk.rnd af ad.length t).len;refine Je fun _ hK8 _=>(Je fun _ hK9 _=>(Jb (Jg (Jc rfl) rfl (Jg (Jc rfl) rfl (Jg (Jq u24 rfl rfl) rfl (Jg (JV rfl rfl) rfl (Jf (Ja (hK9 (Jm rfl (fun hc18=>?_) (fun hc18=>?_)))))))))))
  ·
   refine Jk (Ja (hK8 (Je fun _ hK10 _=>(Jp (Je fun _ hK11 _=>(Jb (Jg (Jd rfl) rfl (Jf (Ja (hK11 (Jp (JH (σ:=Nat) (fun (i:Nat)=>[(6,.int .i64 (i:Int))]) (fun (i:Nat)=>H) (fun (i:Nat)=>obj g14 (.cells (intsC (inR af (rndR af ad.length t) i)).toArray 2 (0,0))::obj g1 (.cells [.slice qad ad.length cad,.slice qaf af.length caf].toArray 27 (0,0))::L) (fun (i:Nat)=>i≤ad.length) (fun (i:Nat)=>ad.length - i) 0 (by omega) ⟨rfl,trivial⟩ rfl rfl ?_))))))))))));rintro i hi _ hAg1;have hR:=(RkOk.rnd af ad.length t).inR i;have hrl:(inR af (rndR af ad.length t) i).length=ad.length:=hR.len
   have hmul:t * ad.length≤64:=by have h1:=Nat.mul_le_mul (show t≤8 by omega) (show ad.length≤8 by omega);omega
   have hbM : ∀j,0≤(inR af (rndR af ad.length t) i).getD j 0∧(inR af (rndR af ad.length t) i).getD j 0≤72:=fun j=>by have:=hR.bd j;omega
   refine Je fun _ hK12 _=>(Je fun _ hK13 _=>(Jb (Jg (Jc rfl) rfl (Jg (Jc rfl) rfl (Jg (Jq u24 rfl rfl) rfl (Jg (JV rfl rfl) rfl (Jf (Ja (hK13 (Jm rfl (fun hc24=>?_) (fun hc24=>?_)))))))))))
   ·
    refine Jk (Ja (hK12 (Je fun _ hK14 _=>(Jp (Je fun _ hK15 _=>(Jb (Jg (Jc rfl) rfl (Jg (Jc rfl) rfl (Jg (PR.idxO1 u24 sz2 rfl rfl rfl (by omega)) rfl (Jg (Jv rfl At.z (by first | exact bytesC_get (by simp [*];omega) | exact intsC_get (by simp [*];omega)) pl2) rfl (Jg (Ef rfl rfl) rfl (Jf (Ja (hK15 (Jm rfl (fun h31=>?_) (fun h31=>?_))))))))))))))))
    ·
     refine Jb (Jg (Jc rfl) rfl (Jg (Jc rfl) rfl (Jg (Jt u27 rfl sz25 rfl) rfl (Jg (Jv rfl (.s .z) rfl pl25) rfl (Jg (Jc rfl) rfl (Jg (JY u25 sz43 rfl rfl rfl (by omega) haf.sm) rfl ?_))))));obtain ⟨qe38,ce38,he38,le38,Fe38⟩:=haf i (by omega);refine Jg (JO (cs:=[_]) rfl (one_cell he38) (haf.sm (i:=i) (by omega)) ag43) rfl (Jg (Jc rfl) rfl (Jx fn35 rfl rfl fun w hH=>hH.lend .z fun Hl1 hle1 hA1 hB1 hH=>(l02Rank_m (Fe38.le hle1) (obj_ints hA1) hrl hbM (by omega) (by omega) (by have:=hl9 i (by omega);omega) (fun x hx=>form_zero (hA.wf.fm i) (hA.ok i (by omega)) hx) hH).mono ?_));rintro _ w ⟨rfl,hH⟩;replace hH:=hB1 _ _ hH;refine ⟨_,rfl,fun a hF=>JQ hF hH ?_⟩;refine Jg (PR.idxO1 u24 sz2 rfl rfl rfl (by omega)) rfl (J.storeI rfl rfl sz2 (by simp [*];omega) At.z (Jf (JD (Ja (hK14 (Jb (Jg (Jc rfl) rfl (Jg (Jy rfl rfl (by first | exact nw _ (by omega) | rfl)) rfl (Jg (Jd rfl) rfl (Jf (Ja ?_)))))))))));exact hAg1 (i+1) (by omega) (by omega) 23 rfl rfl ⟨rfl,trivial⟩ rfl (congrArg (fun x=>obj g14 (.cells (intsC x).toArray 2 (0,0))::obj g1 (.cells [.slice qad ad.length cad,.slice qaf af.length caf].toArray 27 (0,0))::L) (show _=stepR _ _ _ from (if_pos h31).symm))
    ·
     refine Jk (JD (Ja (hK14 (Jb (Jg (Jc rfl) rfl (Jg (Jy rfl rfl (by first | exact nw _ (by omega) | rfl)) rfl (Jg (Jd rfl) rfl (Jf (Ja ?_)))))))));exact hAg1 (i+1) (by omega) (by omega) 13 rfl rfl ⟨rfl,trivial⟩ rfl (congrArg (fun x=>obj g14 (.cells (intsC x).toArray 2 (0,0))::obj g1 (.cells [.slice qad ad.length cad,.slice qaf af.length caf].toArray 27 (0,0))::L) (show _=stepR _ _ _ from (if_neg h31).symm))
   ·
    refine JI (Jl (Jl (JT (JD (Ja (hK10 (Jb (Jg (Jc rfl) rfl (Jg (Jy rfl rfl (by first | exact nw _ (by omega) | rfl)) rfl (Jg (Jd rfl) rfl (Jf (Ja ?_))))))))))));exact hAg0 (t+1) (by omega) (by omega) 14 rfl rfl ⟨rfl,trivial⟩ rfl (by rw [show i=ad.length by omega];rfl)
  ·
   refine JI (Jl (Jl (JT (Ja (hK6 (Je fun _ hK16 _=>(Je fun _ hK17 _=>(Jb (Jg (Jd rfl) rfl (Jf (Ja (hK17 (Jp (JH (σ:=Nat) (fun (k:Nat)=>[(7,.int .i64 (k:Int))]) (fun (k:Nat)=>H) (fun (k:Nat)=>obj g14 (.cells (intsC (rnkR ad af)).toArray 2 (0,0))::obj g1 (.cells [.slice qad ad.length cad,.slice qaf af.length caf].toArray 27 (0,0))::L) (fun (k:Nat)=>k≤ad.length∧∀j,j<k→(rnkR ad af).getD j 0≠0) (fun (k:Nat)=>ad.length - k) 0 ⟨by omega,fun j hj=>by omega⟩ ⟨rfl,trivial⟩ rfl (by rw [show t=ad.length by omega];rfl) ?_))))))))))))));rintro k ⟨hk,hJ⟩ _ hAg2;have hrl9:=rnkR_len ad af;refine Je fun _ hK18 _=>(Je fun _ hK19 _=>(Jb (Jg (Jc rfl) rfl (Jg (Jc rfl) rfl (Jg (Jq u24 rfl rfl) rfl (Jg (JV rfl rfl) rfl (Jf (Ja (hK19 (Jm rfl (fun hc45=>?_) (fun hc45=>?_)))))))))))
   ·
    refine Jk (Ja (hK18 (Je fun _ hK20 _=>(Jp (Je fun _ hK21 _=>(Jb (Jg (Jc rfl) rfl (Jg (Jc rfl) rfl (Jg (PR.idxO1 u24 sz2 rfl rfl rfl (by omega)) rfl (Jg (Jv rfl At.z (by first | exact bytesC_get (by simp [*];omega) | exact intsC_get (by simp [*];omega)) pl2) rfl (Jg (Ef rfl rfl) rfl (Jf (Ja (hK21 (Jm rfl (fun h52=>?_) (fun h52=>?_))))))))))))))))
    ·
     refine Je fun _ hK22 _=>(Jb (Jg (Jd rfl) rfl (Jg (Jd rfl) rfl (Jf (Ja (hK22 (Js (JL (Ji (Ji (JL (Ji (Eb rfl (Res.tmp rfl) (Res.tmp rfl) fun w hH=>?_)))))))))))));replace hH:=hH.sublist (.cons _ (.cons _ (List.Sublist.refl _)));have hbad:=rnk_bad (k:=k) (by omega) h52;have e1:rnkV ad af=[]:=if_neg (by rw [hbad];simp)
     have e2:rnkC ad af=5:=by unfold rnkC;rw [hA9,hbad];rfl
     rw [e1,e2];exact ⟨none,0,rfl,(hH.own0 2 1)⟩
    ·
     refine Jk (JD (Ja (hK20 (Jb (Jg (Jc rfl) rfl (Jg (Jy rfl rfl (by first | exact nw _ (by omega) | rfl)) rfl (Jg (Jd rfl) rfl (Jf (Ja ?_)))))))));exact hAg2 (k+1) ⟨by omega,upto hJ h52⟩ (by omega) 13 rfl rfl ⟨rfl,trivial⟩ rfl rfl
   ·
    refine JI (Jl (Jl (JT (Ja (hK16 (Je fun _ hK23 _=>(Jb (Jg (Jc rfl) rfl (Jg (Jd rfl) rfl (Jg (Jd rfl) rfl (Jf (Ja (hK23 (Js (Eb rfl (Res.tmp rfl) (Res.tmp rfl) fun w hH=>?_)))))))))))))));replace hH:=hH.sublist (.cons_cons _ (.cons _ (List.Sublist.refl _)));have hgood:=rnk_good (fun j hj=>hJ j (by omega));have e1:rnkV ad af=rnkR ad af:=if_pos (by rw [hA9,hgood];rfl)
    have e2:rnkC ad af=0:=by unfold rnkC;rw [hA9,hgood];rfl
    have e3:=rnkR_len ad af;have h9:=own_full (rnkR ad af).length 1 hH (by rw [intsC_length,Nat.mul_one] <;> rfl) (by rw [e3];simp only [maxLen];omega);rw [e1,e2];exact ⟨some ⟨g14,0,none⟩,(rnkR ad af).length,by rw [e3],h9⟩
theorem notf2 {b:Bool} (h:b=false):b=false:=h
theorem pos_ne {x:Int} (h:0≤x):decide (x>0)=decide (x≠0):=decide_eq_decide.2 ⟨fun h1=>by omega,fun h1=>by omega⟩
theorem ok_no {p q:Prop} [Decidable p] [Decidable q] (hp:decide p=false) (h:q→p):false=decide q:=(decide_eq_false fun x=>of_decide_eq_false hp (h x)).symm
theorem RanksOf_c {B:World} {H0 H:HP} {L:List SA} {w:World} {qad qaf:Option Addr} {cad caf:Nat} {ad:List Int} {af:List (List Term)} (had:Ints H qad ad) (haf:Forms H qaf af) (hn8:ad.length≤1048576) (hn9:af.length≤1048576) (hl9 : ∀i,i<af.length→(fm af i).length≤1048576) (hH:Hp B H0 H L w):Calls Tryz.prog 14 [.agg [.slice qad ad.length cad,.slice qaf af.length caf].toArray].toArray w fun e w'=>∃q c,e = .returned (.tuple #[.slice q (rnkV ad af).length c,.int .i64 (rnkC ad af)])∧Hp B H0 H (own 2 1 q (rnkV ad af).length c (intsC (rnkV ad af))::L) w':=by
 refine JB Tryz.func14 rfl 81 rfl rfl [(0,.agg [.slice qad ad.length cad,.slice qaf af.length caf].toArray)] rfl hH ?_;have hw0:=hH.old;have hw1:=hH.le;clear hH;refine Je fun _ hK1 _=>(Jb (Eg rfl rfl rfl fun g1=>(EK .z fun H2 hle2 hc2=>?_)));replace had:=had.le hle2;replace haf:=haf.le hle2;have pad:CellAt H2 g1 0 (.slice qad ad.length cad):=hc2 0 _ rfl;have paf:CellAt H2 g1 1 (.slice qaf af.length caf):=hc2 1 _ rfl;refine Jg (Jd rfl) rfl (Jg (Jd rfl) rfl (Jf (Ja (hK1 (Je fun _ hK2 _=>(Je fun _ hK3 _=>(Jb (Jx fn23 rfl rfl fun w hH=>(algebraCode_c pad paf had haf (forms_nil H2) hn8 hn9 hl9 (by simp) (fun i hi=>by simp at hi) hH).mono ?_))))))));rintro _ w ⟨rfl,hH⟩;refine ⟨_,rfl,fun a hF=>JQ hF hH ?_⟩;refine Jg (Jd rfl) rfl (Jf (Ja (hK3 (Je fun _ hK4 _=>(Jb (Jg (Jc rfl) rfl (Jg (En rfl rfl) rfl (Jf (Ja (hK4 (Jm rfl (fun h16=>?_) (fun h16=>?_))))))))))))
 ·
  rw [codeA_nil] at h16 ⊢;refine Je fun _ hK5 _=>(Jb (Jg (Jc rfl) rfl (Jg (Jd rfl) rfl (Jg (Jd rfl) rfl (Jf (Ja (hK5 (Js (Ji (Eb rfl (Res.tmp rfl) (Res.tmp rfl) fun w hH=>?_))))))))));replace hH:=hH.sublist (List.Sublist.refl _);have hf9:isAlg ad af=false:=algC_ne h16;have e1:rnkV ad af=[]:=if_neg (by rw [hf9];simp);have e2:rnkC ad af=1:=if_neg (by rw [hf9];simp);rw [e1,e2];rw [show algC ad af=1 from (algC_o hf9).symm];exact ⟨none,0,rfl,(hH.own0 2 1).weaken hle2 hw0 hw1⟩
 ·
  rw [codeA_nil] at h16;have hA9:=algC_eq h16;have hA:=isAlg_ok hA9 haf.wfss;have hn8a:=hA.hn;have hl8a:=hA.hl;refine Jk (Ja (hK2 (Je fun _ hK6 _=>(Jb (Jg (Jt u27 rfl sz24 rfl) rfl (Jg (JR (q:=some ⟨g1,0,none⟩) (k:=0) rfl pad pl24) rfl (Jg (Jq u24 rfl rfl) rfl (J.makeI u24 ze2 sz2 by2 rfl rfl rfl rfl (by omega) rfl fun g21=>(Jg (Jd rfl) rfl (Jf (Ja (hK6 (Je fun _ hK7 _=>(Je fun _ hK8 _=>(Jb (Jg (Jt u27 rfl sz24 rfl) rfl ?_))))))))))))))));refine Jg (JR (q:=some ⟨g1,0,none⟩) (k:=0) rfl pad pl24) rfl (Jg (Jq u24 rfl rfl) rfl (Jg (Jc rfl) rfl (Jf (Ja (hK8 (Jp (JH (σ:=Nat) (fun (t:Nat)=>[(25,.int .i64 (t:Int))]) (fun (t:Nat)=>H2) (fun (t:Nat)=>obj g21 (.cells (intsC (rndR af ad.length t)).toArray 2 (0,0))::L) (fun (t:Nat)=>t≤ad.length) (fun (t:Nat)=>ad.length - t) 0 (by omega) ⟨rfl,trivial⟩ rfl rfl ?_)))))));rintro t ht _ hAg0;have hrl0:=(RkOk.rnd af ad.length t).len;refine Je fun _ hK9 _=>(Jb (Jg (JV rfl rfl) rfl (Jf (Ja (hK9 (Je fun _ hK10 _=>(Jm rfl (fun hc26=>?_) (fun hc26=>?_))))))))
  ·
   refine Jk (Ja (hK10 (Je fun _ hK11 _=>(Jp (Je fun _ hK12 _=>(Jb (Jg (Jt u27 rfl sz25 rfl) rfl (Jg (JR (q:=some ⟨g1,0,none⟩) (k:=1) rfl paf pl25) rfl (Jg (Jq u25 rfl rfl) rfl (Jg (Jc rfl) rfl (Jf (Ja (hK12 (Jp (JH (σ:=Nat) (fun (i:Nat)=>[(30,.int .i64 (i:Int))]) (fun (i:Nat)=>H2) (fun (i:Nat)=>obj g21 (.cells (intsC ((inR af (rndR af ad.length t) i))).toArray 2 (0,0))::L) (fun (i:Nat)=>i≤af.length) (fun (i:Nat)=>af.length - i) 0 (by omega) ⟨rfl,trivial⟩ rfl rfl ?_)))))))))))))));rintro i hi _ hAg1;have hR:=(RkOk.rnd af ad.length t).inR i;have hrl:(inR af (rndR af ad.length t) i).length=ad.length:=hR.len
   have hmul:t * ad.length≤64:=by have h1:=Nat.mul_le_mul (show t≤8 by omega) (show ad.length≤8 by omega);omega
   have hbM : ∀j,0≤(inR af (rndR af ad.length t) i).getD j 0∧(inR af (rndR af ad.length t) i).getD j 0≤72:=fun j=>by have:=hR.bd j;omega
   refine Je fun _ hK13 _=>(Jb (Jg (JV rfl rfl) rfl (Jf (Ja (hK13 (Je fun _ hK14 _=>(Jm rfl (fun hc31=>?_) (fun hc31=>?_))))))))
   ·
    refine Jk (Ja (hK14 (Je fun _ hK15 _=>(Jp (Je fun _ hK16 _=>(Jb (Jg (Jc rfl) rfl (Jg (JY u25 sz43 rfl rfl rfl (by omega) haf.sm) rfl ?_))))))));obtain ⟨qe34,ce34,he34,le34,Fe34⟩:=haf i (by omega);refine Jg (JO (cs:=[_]) rfl (one_cell he34) (haf.sm (i:=i) (by omega)) ag43) rfl (JM ze43 rfl fun g7=>(Jg (Jd rfl) rfl (Jr rfl rfl (by first | exact bytesC_one _ | exact intsC_one _ | exact Term.c_one _ | simp [Value.oneCell']) (by simpa [*] using sz43) (by simp [*]) At.z (Jf (Ja (hK16 (Je fun _ hK17 _=>(Jb (Jg (Jd rfl) rfl (Jg (Jd rfl) rfl (Jf (Ja (hK17 (Je fun _ hK18 _=>(Je fun _ hK19 _=>(Jb ?_))))))))))))))));refine Jg (Jt u43 rfl sz41 rfl) rfl (Jg (Jv rfl At.z rfl pl41) rfl (Jg (Jq u41 rfl rfl) rfl (Jg (Jc rfl) rfl (Jf (Ja (hK19 (Jp (JH (σ:=Nat) (fun (k:Nat)=>[(38,.int .i64 (k:Int)),(8,.int .i64 (mxF (fm af i) (inR af (rndR af ad.length t) i) k)),(9,.bool (decide (okF (fm af i) (inR af (rndR af ad.length t) i) k)))]) (fun (k:Nat)=>H2) (fun (k:Nat)=>obj g7 (.cells [.slice qe34 (fm af i).length ce34].toArray 43 (0,0))::obj g21 (.cells (intsC ((inR af (rndR af ad.length t) i))).toArray 2 (0,0))::L) (fun (k:Nat)=>k≤(fm af i).length) (fun (k:Nat)=>(fm af i).length - k) 0 (by omega) ⟨rfl,⟨rfl,⟨(vb (decide_eq_true (okF_zero _ _)).symm),trivial⟩⟩⟩ rfl rfl ?_))))))));rintro k hk _ hAg2;have hx:=mxF_bd (ts:=fm af i) hbM (by omega) k;have hlt9:=hl9 i (by omega);refine Je fun _ hK20 _=>(Jb (Jg (JV rfl rfl) rfl (Jf (Ja (hK20 (Je fun _ hK21 _=>(Jm rfl (fun hc39=>?_) (fun hc39=>?_))))))))
    ·
     refine Jk (Ja (hK21 (Je fun _ hK22 _=>(Jp (Je fun _ hK23 _=>(Jb (Jg (Eo u41 sz52 rfl rfl rfl (by omega) Fe34.sm) rfl (Jg (JO rfl (Fe34.cell _ (by omega)) (Fe34.sm (i:=k) (by omega)) (by rw [Term.c_length (Fe34.wf _ (by omega))];exact ag52)) rfl (JM (cs:=(default:Term).c) ze52 rfl fun g11=>(J.stTerm rfl rfl sz52 zero_wf (Fe34.wf k (by omega)) At.z (Jf (Ja (hK23 (Je fun _ hK24 _=>(Jb (Jg (Jt u52 rfl sz50 rfl) rfl ?_))))))))))))))));refine Jg (EQ rfl At.z (Fe34.wf k (by omega)) ag50) rfl (Jg (Jc rfl) rfl (Jf (Ja (hK24 (Jp (JH (σ:=Nat) (fun (j:Nat)=>[(44,.int .i64 (j:Int)),(8,.int .i64 (mxT (tm (fm af i) k).mono (inR af (rndR af ad.length t) i) (mxF (fm af i) (inR af (rndR af ad.length t) i) k) j)),(9,.bool (decide (okF (fm af i) (inR af (rndR af ad.length t) i) k∧okT (tm (fm af i) k).mono (inR af (rndR af ad.length t) i) j)))]) (fun (j:Nat)=>H2) (fun (j:Nat)=>obj g11 (.cells (tm (fm af i) k).c.toArray 52 (0,0))::obj g7 (.cells [.slice qe34 (fm af i).length ce34].toArray 43 (0,0))::obj g21 (.cells (intsC ((inR af (rndR af ad.length t) i))).toArray 2 (0,0))::L) (fun (j:Nat)=>j≤8) (fun (j:Nat)=>8 - j) 0 (by omega) ⟨rfl,⟨rfl,⟨(vb (decide_eq_decide.2 ⟨fun h=>⟨h,okT_zero _ _⟩,fun h=>h.1⟩)),trivial⟩⟩⟩ rfl rfl ?_))))));rintro j hj _ hAg3;have hy:=mxT_bd (m:=(tm (fm af i) k).mono) hbM hx j;have hbj:=hbM j;have hmb:Mono (tm (fm af i) k).mono:=((hA.wf.fm i) _ (tm_mem (by omega))).mono;have hz9:=form_zero (hA.wf.fm i) (hA.ok i (by omega)) (i:=k) (by omega);refine Je fun _ hK25 _=>(Jb (Jg (JV rfl rfl) rfl (Jf (Ja (hK25 (Je fun _ hK26 _=>(Jm rfl (fun hc45=>?_) (fun hc45=>?_))))))))
     ·
      refine Jk (Ja (hK26 (Je fun _ hK27 _=>(Jp (Je fun _ hK28 _=>(Jb (Jg (Jc rfl) rfl (Jg (PR.index u50 sz5 pl5 rfl rfl rfl (by omega) (by exact bytesC_get (by rw [hmb.len];omega))) rfl (Jg (Jd rfl) rfl (Jg (Jd rfl) rfl (Jf (Ja (hK28 (Je fun _ hK29 _=>(Jb (Jg (Jc rfl) rfl ?_))))))))))))))));refine Jg (Em rfl rfl) rfl (Jf (Ja (hK29 (Jm rfl (fun h49=>?_) (fun h49=>?_)))))
      ·
       have hjn:j<ad.length:=Decidable.byContradiction fun hx9=>by have:=hz9 j (by omega);omega
       have hm0:(tm (fm af i) k).mono.getD j 0≠0:=by omega
       refine Je fun _ hK30 _=>(Jb (Jg (Jc rfl) rfl (Jg (Jc rfl) rfl (JZ (jd:=51) rfl (fun h51=>?_) (fun h51=>?_)))))
       ·
        try have h51p:=of_decide_eq_true h51
        refine JK (Jc rfl) rfl rfl rfl h51 (JK (Jc rfl) rfl rfl rfl h51 (JK (PR.idxO1 u24 sz2 rfl rfl rfl (by omega)) rfl rfl rfl h51 (JK (Jv rfl (.s (.s .z)) (by exact intsC_get (by rw [hrl];exact hjn)) pl2) rfl rfl rfl h51 (JK (Em rfl rfl) rfl rfl rfl h51 (Jg (JP rfl h51 rfl) rfl (Jg (Jd rfl) rfl (Jf (Ja (hK30 (Jb (Jg (Jc rfl) rfl (Jg (Jc rfl) rfl (Jg (Jc rfl) rfl (Jg (Jc rfl) rfl (Jg (Jq u24 rfl rfl) rfl ?_)))))))))))))));refine Jg (EZ rfl rfl (by first | exact nw _ (by omega) | rfl)) rfl (Jg (PR.min2 rfl rfl) rfl (Jg (PR.idxO1 (i':=j) u24 sz2 rfl rfl (by split <;> omega) (by omega)) rfl (Jg (Jv rfl (.s (.s .z)) (by exact intsC_get (by rw [hrl];exact hjn)) pl2) rfl (Jg (Jy rfl rfl (by first | exact nw _ (by omega) | rfl)) rfl (Jg (PR.max2 rfl rfl) rfl (Jg (Jd rfl) rfl (Jf (JD (Ja (hK27 (Jb (Jg (Jy rfl rfl (by first | exact nw _ (by omega) | rfl)) rfl (Jg (Jc rfl) rfl (Jf (Ja ?_)))))))))))))));exact hAg3 (j+1) (by omega) (by omega) 33 rfl rfl ⟨rfl,⟨(vi (mxT_go hm0)),⟨(vb (by rw [pos_ne hbj.1];exact decide_eq_decide.2 ⟨fun h=>⟨(of_decide_eq_true h51).1,(okT_iff1 hm0).2 ⟨(of_decide_eq_true h51).2,h⟩⟩,fun h=>((okT_iff1 hm0).1 h.2).2⟩)),trivial⟩⟩⟩ rfl rfl
       ·
        try have h51p:=of_decide_eq_false h51
        refine JE rfl rfl rfl h51 (JE rfl rfl rfl h51 (JE rfl rfl rfl h51 (JE rfl rfl rfl h51 (JE rfl rfl rfl h51 (Jg (JN rfl h51 rfl) rfl (Jg (Jd rfl) rfl (Jf (Ja (hK30 (Jb (Jg (Jc rfl) rfl (Jg (Jc rfl) rfl (Jg (Jc rfl) rfl (Jg (Jc rfl) rfl (Jg (Jq u24 rfl rfl) rfl ?_)))))))))))))));refine Jg (EZ rfl rfl (by first | exact nw _ (by omega) | rfl)) rfl (Jg (PR.min2 rfl rfl) rfl (Jg (PR.idxO1 (i':=j) u24 sz2 rfl rfl (by split <;> omega) (by omega)) rfl (Jg (Jv rfl (.s (.s .z)) (by exact intsC_get (by rw [hrl];exact hjn)) pl2) rfl (Jg (Jy rfl rfl (by first | exact nw _ (by omega) | rfl)) rfl (Jg (PR.max2 rfl rfl) rfl (Jg (Jd rfl) rfl (Jf (JD (Ja (hK27 (Jb (Jg (Jy rfl rfl (by first | exact nw _ (by omega) | rfl)) rfl (Jg (Jc rfl) rfl (Jf (Ja ?_)))))))))))))));exact hAg3 (j+1) (by omega) (by omega) 33 rfl rfl ⟨rfl,⟨(vi (mxT_go hm0)),⟨(vb (ok_no h51 (fun h=>⟨h.1,((okT_iff1 hm0).1 h.2).1⟩))),trivial⟩⟩⟩ rfl rfl
      ·
       have hm0:(tm (fm af i) k).mono.getD j 0=0:=by have:=hmb.bd j;omega
       refine Jk (JD (Ja (hK27 (Jb (Jg (Jy rfl rfl (by first | exact nw _ (by omega) | rfl)) rfl (Jg (Jc rfl) rfl (Jf (Ja ?_))))))));exact hAg3 (j+1) (by omega) (by omega) 12 rfl rfl ⟨rfl,⟨(vi (mxT_skip hm0)),⟨(vb (decide_eq_decide.2 (by rw [okT_iff0 hm0]))),trivial⟩⟩⟩ rfl rfl
     ·
      refine JI (Jl (Jl (JT (JD (Ja (hK22 (Jb (Jg (Jy rfl rfl (by first | exact nw _ (by omega) | rfl)) rfl (Jg (Jc rfl) rfl (Jf (Ja (JF .z ?_))))))))))));exact hAg2 (k+1) (by omega) (by omega) 16 rfl rfl ⟨rfl,⟨(vi (by rw [show j=8 by omega];rfl)),⟨(vb (by rw [show j=8 by omega];exact decide_eq_decide.2 okF_iff2.symm)),trivial⟩⟩⟩ rfl rfl
    ·
     refine JI (Jl (Jl (JT (Ja (hK18 (Je fun _ hK31 _=>(Jb (Jg (Jc rfl) rfl (Jf (Ja (hK31 (Ei rfl (fun h71=>?_) (fun h71=>?_)))))))))))))
     ·
      refine Jb (Jg (Jc rfl) rfl (Jg (Jc rfl) rfl (Jg (Jc rfl) rfl (Jg (PR.idxO1 u24 sz2 rfl rfl rfl (by omega)) rfl (J.storeI rfl rfl sz2 (by simp [*];omega) (.s .z) (Jf (JD (Ja (hK15 (Jb (Jg (Jy rfl rfl (by first | exact nw _ (by omega) | rfl)) rfl (Jg (Jc rfl) rfl (Jf (Ja (JF .z ?_)))))))))))))));exact hAg1 (i+1) (by omega) (by omega) 24 rfl rfl ⟨rfl,trivial⟩ rfl (congrArg (fun x=>obj g21 (.cells (intsC x).toArray 2 (0,0))::L) (show _=stepR _ _ _ by rw [show k=(fm af i).length by omega];exact stepR_again hR (by omega) (by rw [show k=(fm af i).length by omega] at h71;exact of_decide_eq_true h71)))
     ·
      refine Jk (JD (Ja (hK15 (Jb (Jg (Jy rfl rfl (by first | exact nw _ (by omega) | rfl)) rfl (Jg (Jc rfl) rfl (Jf (Ja (JF .z ?_)))))))));exact hAg1 (i+1) (by omega) (by omega) 20 rfl rfl ⟨rfl,trivial⟩ rfl (congrArg (fun x=>obj g21 (.cells (intsC x).toArray 2 (0,0))::L) (show _=stepR _ _ _ from stepR_not (by rw [show k=(fm af i).length by omega] at h71;simpa using h71)))
   ·
    refine JI (Jl (Jl (JT (JD (Ja (hK11 (Jb (Jg (Jy rfl rfl (by first | exact nw _ (by omega) | rfl)) rfl (Jg (Jc rfl) rfl (Jf (Ja ?_)))))))))));exact hAg0 (t+1) (by omega) (by omega) 10 rfl rfl ⟨rfl,trivial⟩ rfl (by rw [show i=ad.length by omega];rfl)
  ·
   refine JI (Jl (Jl (JT (Ja (hK7 (Je fun _ hK32 _=>(Je fun _ hK33 _=>(Jb (Jg (Jc rfl) rfl (Jx fn34 rfl rfl fun w hH=>hH.lend .z fun Hl1 hle1 hA1 hB1 hH=>(ContainsI_m (obj_ints hA1) (by exact (RkOk.rnd af ad.length t).len) (by omega) hH).mono ?_))))))))));rintro _ w ⟨rfl,hH⟩;replace hH:=hB1 _ _ hH;refine ⟨_,rfl,fun a hF=>JQ hF hH ?_⟩;refine Jf (Ja (hK33 (Ei rfl (fun h79=>?_) (fun h79=>?_))))
   ·
    refine Je fun _ hK34 _=>(Jb (Jg (Jd rfl) rfl (Jg (Jd rfl) rfl (Jf (Ja (hK34 (Js (Ji (Eb rfl (Res.tmp rfl) (Res.tmp rfl) fun w hH=>?_)))))))));replace hH:=hH.sublist (.cons _ (List.Sublist.refl _))
    have ht9:t=ad.length:=by omega
    rw [ht9] at h79;have hbad:rnkOk ad af=false:=rnk_has h79;have e1:rnkV ad af=[]:=if_neg (by rw [hbad];simp)
    have e2:rnkC ad af=5:=by unfold rnkC;rw [hA9,hbad];rfl
    rw [e1,e2];exact ⟨none,0,rfl,(hH.own0 2 1).weaken hle2 hw0 hw1⟩
   ·
    refine Jk (Ja (hK32 (Je fun _ hK35 _=>(Jb (Jg (Jc rfl) rfl (Jg (Jd rfl) rfl (Jg (Jd rfl) rfl (Jf (Ja (hK35 (Js (Eb rfl (Res.tmp rfl) (Res.tmp rfl) fun w hH=>?_))))))))))));replace hH:=hH.sublist (.cons_cons _ (List.Sublist.refl _))
    have ht9:t=ad.length:=by omega
    rw [ht9] at h79 hH;have hgood:rnkOk ad af=true:=rnk_hasnt (notf2 h79);have e1:rnkV ad af=rnkR ad af:=if_pos (by rw [hA9,hgood];rfl)
    have e2:rnkC ad af=0:=by unfold rnkC;rw [hA9,hgood];rfl
    have e3:=rnkR_len ad af;have h9:=own_full (rnkR ad af).length 1 hH (by rw [intsC_length,Nat.mul_one] <;> rfl) (by rw [e3];simp only [maxLen];omega);rw [e1,e2];exact ⟨some ⟨g21,0,none⟩,(rnkR ad af).length,by rw [e3],h9.weaken hle2 hw0 hw1⟩
structure FrmOk (ds:List Int) (fs:List (List Term)):Prop where
 hn:ds.length≤8
 ok : ∀i,i<fs.length→isForm ds (fm fs i)=true
 wf:Wfss fs
 len:fs.length≤1000000
theorem AlgOk.frm {ds:List Int} {fs:List (List Term)} (h:AlgOk ds fs):FrmOk ds fs:=⟨h.hn,h.ok,h.wf,by have:=h.hn;have:=h.hl;omega⟩
theorem FrmOk.sok {ds:List Int} {fs:List (List Term)} (h:FrmOk ds fs) {i:Nat} (hi:i<fs.length):Sok 20 (toS (G.fm fs i)):=isForm_sok (h.wf.fm i) (h.ok i hi)
theorem FrmOk.len4 {ds:List Int} {fs:List (List Term)} (h:FrmOk ds fs) {i:Nat} (hi:i<fs.length):(G.fm fs i).length≤400:=isForm_len4 (h.ok i hi)
theorem row_end {ts:List Term} {n k j:Nat} (h1:j=n∨wrdAt ts k≠1) (h2:0<j→wrdAt ts k=1):rowJ (tm ts k).mono (tm ts k).fac (rowK ts n k) j=rowK ts n (k+1):=by
 simp only [rowK]
 by_cases e:wrdAt ts k=1
 ·rw [if_pos e]
  rcases h1 with h1 | h1
  ·rw [h1]
  ·exact absurd e h1
 ·rw [if_neg e]
  have:j=0:=by
   rcases Nat.eq_zero_or_pos j with h | h
   ·exact h
   ·exact absurd (h2 h) e
  subst this
  rfl
section
variable {P : Program} {ops : Array Oper} {Q : Exit → Act → World → Prop} {n : Nat} {B : World} {H0 H : HP} {rest : List Oper} {us : List (Nat × Value)} {L L1 : List SA}
theorem J.fullI {g m:Nat} {e:TypeId} {xs ys:List Int} (hr:Rm L (obj g (.cells (intsC xs).toArray e (0,0))) L1) (he:xs=ys) (hc:ys.length=m) (hm:m≤1048576) (k:J P ops Q n B H0 rest us H (own e 1 (some ⟨g,0,none⟩) m m (intsC ys)::L1)):J P ops Q n B H0 rest us H L:=fun a w hF hH=>by
 subst he
 subst hc
 exact k a w hF (own_full xs.length 1 (hH.front hr) (by simp) (by simp only [maxLen];omega))
end
theorem l02Linear_c {B:World} {H0 H:HP} {L:List SA} {w:World} {qad qaf:Option Addr} {cad caf:Nat} {ad:List Int} {af:List (List Term)} (had:Ints H qad ad) (haf:Forms H qaf af) (hF:FrmOk ad af) (hH:Hp B H0 H L w):Calls Tryz.prog 26 [.agg [.slice qad ad.length cad,.slice qaf af.length caf].toArray].toArray w fun e w'=>∃q c vs,e = .returned (.slice q (linT ad af).length c)∧Hp B H0 H (ownRs 24 2 q c vs (linT ad af)::L) w':=by
 refine JB Tryz.func26 rfl 69 rfl rfl [(0,.agg [.slice qad ad.length cad,.slice qaf af.length caf].toArray)] rfl hH ?_;clear hH;refine Je fun _ hK1 _=>(Jb (Eg rfl rfl rfl fun g1=>(Jg (Jd rfl) rfl (Jf (Ja (hK1 (Je fun _ hK2 _=>(Jb (EY (MK.lit0 u29 sz24) rfl fun qo9 co9=>(J.is0 2 (Jg (Jd rfl) rfl (Jf (Ja (hK2 (Je fun _ hK3 _=>(Je fun _ hK4 _=>?_))))))))))))))));refine Jb (Jg (Jd rfl) rfl (Jf (Ja (hK4 (Jp (JH (σ:=Option Addr × Nat × Vs × Nat) (fun ⟨q,c,vs,i⟩=>[(4,.int .i64 (i:Int)),(3,.slice q i c)]) (fun ⟨q,c,vs,i⟩=>H) (fun ⟨q,c,vs,i⟩=>ownIs 2 vs (linK2 ad af i)::own 24 1 q i c (slicesI vs (linK2 ad af i))::obj g1 (.cells [.slice qad ad.length cad,.slice qaf af.length caf].toArray 27 (0,0))::L) (fun ⟨q,c,vs,i⟩=>i≤af.length) (fun ⟨q,c,vs,i⟩=>af.length - i) (qo9,co9,nilVs,0) (by show 0≤af.length;omega) ⟨rfl,⟨rfl,trivial⟩⟩ rfl rfl ?_))))));rintro ⟨q,c,vs,i⟩ hi _ hAg0;have hn8:=hF.hn;have hl8:=hF.len;refine Je fun _ hK5 _=>(Je fun _ hK6 _=>(Jb (Jg (Jc rfl) rfl (Jg (Jt u27 rfl sz25 rfl) rfl (Jg (Jv rfl (.s (.s .z)) rfl pl25) rfl (Jg (Jq u25 rfl rfl) rfl (Jg (JV rfl rfl) rfl (Jf (Ja (hK6 (Jm rfl (fun hc14=>?_) (fun hc14=>?_))))))))))))
 ·
  refine Jk (Ja (hK5 (Je fun _ hK7 _=>(Jp (Je fun _ hK8 _=>(Jb (Jg (Jt u27 rfl sz24 rfl) rfl (Jg (Jv rfl (.s (.s .z)) rfl pl24) rfl (Jg (Jq u24 rfl rfl) rfl (J.makeI u24 ze2 sz2 by2 rfl rfl rfl rfl (by omega) rfl fun g20=>(Jg (Jd rfl) rfl (Jf (Ja (hK8 (Je fun _ hK9 _=>(Je fun _ hK10 _=>?_))))))))))))))));refine Jb (Jg (Jd rfl) rfl (Jf (Ja (hK10 (Jp (JH (σ:=Nat) (fun (k:Nat)=>[(6,.int .i64 (k:Int))]) (fun (k:Nat)=>H) (fun (k:Nat)=>obj g20 (.cells (intsC (rowK (fm af i) ad.length k)).toArray 2 (0,0))::ownIs 2 vs (linK2 ad af i)::own 24 1 q i c (slicesI vs (linK2 ad af i))::obj g1 (.cells [.slice qad ad.length cad,.slice qaf af.length caf].toArray 27 (0,0))::L) (fun (k:Nat)=>k≤(fm af i).length) (fun (k:Nat)=>(fm af i).length - k) 0 (by omega) ⟨rfl,trivial⟩ rfl rfl ?_))))));rintro k hk _ hAg1;have hl4:=hF.len4 (i:=i) (by omega);refine Je fun _ hK11 _=>(Je fun _ hK12 _=>(Jb (Jg (Jc rfl) rfl (Jg (Jt u27 rfl sz25 rfl) rfl (Jg (Jv rfl (.s (.s (.s .z))) rfl pl25) rfl (Jg (Jc rfl) rfl (Jg (JY u25 sz43 rfl rfl rfl (by omega) haf.sm) rfl (Jg (Ep u43 rfl sz41 rfl (haf.sm (i:=i) (by omega))) rfl ?_))))))));obtain ⟨qe27,ce27,he27,le27,Fe27⟩:=haf i (by omega);refine Jg (JR rfl he27 pl41) rfl (Jg (Jq u41 rfl rfl) rfl (Jg (JV rfl rfl) rfl (Jf (Ja (hK12 (Jm rfl (fun hc29=>?_) (fun hc29=>?_)))))))
  ·
   refine Jk (Ja (hK11 (Je fun _ hK13 _=>(Jp (Je fun _ hK14 _=>(Jb (Jg (Jt u27 rfl sz25 rfl) rfl (Jg (Jv rfl (.s (.s (.s .z))) rfl pl25) rfl (Jg (Jc rfl) rfl (Jg (JY u25 sz43 rfl rfl rfl (by omega) haf.sm) rfl (Jg (Ep u43 rfl sz41 rfl (haf.sm (i:=i) (by omega))) rfl ?_)))))))))));obtain ⟨qe37,ce37,he37,le37,Fe37⟩:=haf i (by omega);refine Jg (JR rfl he37 pl41) rfl (Jg (Jc rfl) rfl (Jg (Eo u41 sz52 rfl rfl rfl (by omega) Fe37.sm) rfl (Jg (JO rfl (Fe37.cell _ (by omega)) (Fe37.sm (i:=k) (by omega)) (by rw [Term.c_length (Fe37.wf _ (by omega))];exact ag52)) rfl (JM (cs:=(default:Term).c) ze52 rfl fun g7=>(J.stTerm rfl rfl sz52 zero_wf (Fe37.wf k (by omega)) At.z (Jf (Ja (hK14 (Je fun _ hK15 _=>(Jb (Jg (Jd rfl) rfl (Jf (Ja (hK15 (Jp (JH (σ:=Nat) (fun (j:Nat)=>[(8,.int .i64 (j:Int))]) (fun (j:Nat)=>H) (fun (j:Nat)=>obj g7 (.cells (tm (fm af i) k).c.toArray 52 (0,0))::obj g20 (.cells (intsC (rowJ (tm (fm af i) k).mono (tm (fm af i) k).fac (rowK (fm af i) ad.length k) j)).toArray 2 (0,0))::ownIs 2 vs (linK2 ad af i)::own 24 1 q i c (slicesI vs (linK2 ad af i))::obj g1 (.cells [.slice qad ad.length cad,.slice qaf af.length caf].toArray 27 (0,0))::L) (fun (j:Nat)=>j≤ad.length∧(0<j→wrdAt (fm af i) k=1)) (fun (j:Nat)=>ad.length - j) 0 ⟨by omega,fun h=>absurd h (by omega)⟩ ⟨rfl,trivial⟩ rfl rfl ?_))))))))))))))));rintro j ⟨hj,hJ⟩ _ hAg2
   have hrl9:(rowJ (tm (fm af i) k).mono (tm (fm af i) k).fac (rowK (fm af i) ad.length k) j).length=ad.length:=by simp
   refine Je fun _ hK16 _=>(Je fun _ hK17 _=>(Jb (Jg (Jc rfl) rfl (Jg (Jt u27 rfl sz24 rfl) rfl (Jg (Jv rfl (.s (.s (.s (.s .z)))) rfl pl24) rfl (Jg (Jq u24 rfl rfl) rfl (Jg (JV rfl rfl) rfl (Jg (Jc rfl) rfl (JZ (jd:=46) rfl (fun h46=>?_) (fun h46=>?_))))))))))
   ·
    try have h46p:=of_decide_eq_true h46
    refine JK (Jt u52 rfl sz50 rfl) rfl rfl rfl h46 (JK (EQ rfl At.z (Fe37.wf k (by omega)) ag50) rfl rfl rfl h46 (Ez fn55 rfl rfl h46 rfl rfl fun w hH=>(l02Word_c (Fe37.wf k (by omega)).mono hH).mono ?_));rintro _ w ⟨rfl,hH⟩;refine ⟨_,rfl,fun a hF=>JQ hF hH ?_⟩;refine JK (Ef rfl rfl) rfl rfl rfl h46 (Jg (JP rfl h46 rfl) rfl (Jf (Ja (hK17 (Jm rfl (fun h51=>?_) (fun h51=>?_))))))
    ·
     refine Jk (Ja (hK16 (Je fun _ hK18 _=>(Jp (Je fun _ hK19 _=>(Jb (Jg (Jc rfl) rfl (Jg (Jt u52 rfl sz50 rfl) rfl (Jg (JW u50 sz5 rfl rfl rfl (by omega)) rfl (Jg (PR.ldByte rfl At.z (Fe37.wf k (by omega)) (by omega) pl5) rfl (Jg (Ef rfl rfl) rfl (Jf (Ja (hK19 (Jm rfl (fun h58=>?_) (fun h58=>?_))))))))))))))))
     ·
      refine Jb (Jg (Jc rfl) rfl (Jg (Jc rfl) rfl (Jg (Jt u52 rfl sz2 rfl) rfl (Jg (PR.ldFac rfl At.z (Fe37.wf k (by omega)) pl2) rfl (Jg (PR.idxO1 u24 sz2 rfl rfl rfl (by omega)) rfl (J.storeI rfl rfl sz2 (by simp [*];omega) (.s .z) (Jf (JD (Ja (hK18 (Jb (Jg (Jc rfl) rfl (Jg (Jy rfl rfl (by first | exact nw _ (by omega) | rfl)) rfl (Jg (Jd rfl) rfl (Jf ?_)))))))))))))));refine Ja ?_;exact hAg2 (j+1) ⟨by omega,fun _=>h51⟩ (by omega) 25 rfl rfl ⟨rfl,trivial⟩ rfl (congrArg (fun x=>obj g7 (.cells (tm (fm af i) k).c.toArray 52 (0,0))::obj g20 (.cells (intsC x).toArray 2 (0,0))::ownIs 2 vs (linK2 ad af i)::own 24 1 q i c (slicesI vs (linK2 ad af i))::obj g1 (.cells [.slice qad ad.length cad,.slice qaf af.length caf].toArray 27 (0,0))::L) (show _=rowJ _ _ _ (j+1) from (if_pos h58).symm))
     ·
      refine Jk (JD (Ja (hK18 (Jb (Jg (Jc rfl) rfl (Jg (Jy rfl rfl (by first | exact nw _ (by omega) | rfl)) rfl (Jg (Jd rfl) rfl (Jf (Ja ?_)))))))));exact hAg2 (j+1) ⟨by omega,fun _=>h51⟩ (by omega) 20 rfl rfl ⟨rfl,trivial⟩ rfl (congrArg (fun x=>obj g7 (.cells (tm (fm af i) k).c.toArray 52 (0,0))::obj g20 (.cells (intsC x).toArray 2 (0,0))::ownIs 2 vs (linK2 ad af i)::own 24 1 q i c (slicesI vs (linK2 ad af i))::obj g1 (.cells [.slice qad ad.length cad,.slice qaf af.length caf].toArray 27 (0,0))::L) (show _=rowJ _ _ _ (j+1) from (if_neg h58).symm))
    ·
     refine JI (Jl (Jl (JT (JD (Ja (hK13 (Jb (Jg (Jc rfl) rfl (Jg (Jy rfl rfl (by first | exact nw _ (by omega) | rfl)) rfl (Jg (Jd rfl) rfl (Jf (Ja (JF .z ?_)))))))))))));exact hAg1 (k+1) (by omega) (by omega) 36 rfl rfl ⟨rfl,trivial⟩ rfl (congrArg (fun x=>obj g20 (.cells (intsC x).toArray 2 (0,0))::ownIs 2 vs (linK2 ad af i)::own 24 1 q i c (slicesI vs (linK2 ad af i))::obj g1 (.cells [.slice qad ad.length cad,.slice qaf af.length caf].toArray 27 (0,0))::L) (row_end (.inr h51) hJ))
   ·
    try have h46p:=of_decide_eq_false h46
    refine JE rfl rfl rfl h46 (JE rfl rfl rfl h46 (JE rfl rfl rfl h46 (JE rfl rfl rfl h46 (Jg (JN rfl h46 rfl) rfl (Jf (Ja (hK17 (Ew rfl (JI (Jl (Jl (JT (JD (Ja (hK13 (Jb ?_))))))))))))))));refine Jg (Jc rfl) rfl (Jg (Jy rfl rfl (by first | exact nw _ (by omega) | rfl)) rfl (Jg (Jd rfl) rfl (Jf (Ja (JF .z ?_)))));exact hAg1 (k+1) (by omega) (by omega) 36 rfl rfl ⟨rfl,trivial⟩ rfl (congrArg (fun x=>obj g20 (.cells (intsC x).toArray 2 (0,0))::ownIs 2 vs (linK2 ad af i)::own 24 1 q i c (slicesI vs (linK2 ad af i))::obj g1 (.cells [.slice qad ad.length cad,.slice qaf af.length caf].toArray 27 (0,0))::L) (row_end (.inl (by omega)) hJ))
  ·
   refine JI (Jl (Jl (JT (Ja (hK9 (Jb (Jg (Jc rfl) rfl ?_)))))))
   have hrl:rowK (fm af i) ad.length k=linR ad (toS (fm af i)):=by rw [show k=(fm af i).length by omega];exact rowK_lin hF.hn (hF.wf.fm i) (hF.sok (by omega))
   refine J.fullI (m:=ad.length) .z hrl (linR_len _ _) (by omega) (Jg (Jc rfl) rfl (EY (EI u29 ze24 sz24 rfl rfl) rfl fun qo66 co66=>(EO u29 ze24 sz24 by24 rfl rfl rfl rfl (by omega) .z (.s (.s .z)) (fun _ _=>(.s (.s .z))) rfl fun qo67 co67=>(Jg (Jd rfl) rfl (Jf (JD (Ja (hK7 (Jb (Jg (Jc rfl) rfl (Jg (Jy rfl rfl (by first | exact nw _ (by omega) | rfl)) rfl (Jg (Jd rfl) rfl (Jf (Ja (Jh (.s (.s (.s (.s .z)))) ?_)))))))))))))));refine Jh (.s (.s (.s (.s .z)))) (Jh (.s (.s .z)) (Jh (.s (.s (.s (.s .z)))) (Jh (.s (.s (.s (.s .z)))) (EJ.isSnoc (rs:=linK2 ad af i) (linK2_len (by omega)) (linR_len _ _) (JF (.s .z) ?_)))));exact hAg0 (qo67,co67,setV vs i (some ⟨g20,0,none⟩,ad.length),i+1) (by show i+1≤af.length;omega) (by show af.length - (i+1)<af.length - i;omega) 31 rfl rfl ⟨rfl,⟨rfl,trivial⟩⟩ rfl (by dsimp only;rw [linK2_succ (by omega),slicesI_set (linK2_len (by omega)),linR_len])
 ·
  refine JI (Jl (Jl (JT (Ja (hK3 (Je fun _ hK20 _=>(Jb (Jg (Jc rfl) rfl (Jg (Jd rfl) rfl (Jf (Ja (hK20 (Js (Ju rfl (Res.tmp rfl) fun w hH=>?_))))))))))))));replace hH:=hH.sublist (.cons_cons _ (.cons_cons _ (.cons _ (List.Sublist.refl _))))
  obtain rfl:i=af.length:=by omega
  rw [linK2_end] at hH;exact ⟨q,c,vs,by rw [linT_len],by unfold ownRs;rw [linT_len];exact (hH.front (.s .z)).star⟩
theorem fn26:Fn Tryz.prog 26:=⟨_,Tryz.func26,by kernel_rfl,rfl⟩
theorem linV_yes {ds:List Int} {fs:List (List Term)} (h:isAlg ds fs=true):linV ds fs=linT ds fs:=by unfold linV;rw [if_pos h]
theorem linV_no {ds:List Int} {fs:List (List Term)} (h:isAlg ds fs=false):linV ds fs=[]:=by unfold linV;rw [h];rfl
theorem totI_le {M:Nat} : ∀{rs:List (List Int)},(∀r∈rs,r.length≤M)→totI rs≤rs.length * M
 | [],_=>by simp [totI]
 | r::rs,h=>by
  have h1:=totI_le (rs:=rs) (M:=M) fun x hx=>h x (by simp [hx])
  have h2:=h r (by simp)
  simp only [totI,List.length_cons]
  rw [Nat.succ_mul]
  omega
theorem linV_len (ds:List Int) (fs:List (List Term)):(linV ds fs).length≤8∧totI (linV ds fs)≤64∧∀i,i<(linV ds fs).length→(rw_ (linV ds fs) i).length≤1048576:=by
 cases h:isAlg ds fs with
 | false=>rw [linV_no h];simp [totI]
 | true=>
  rw [linV_yes h,linT_len];have hd:=h;unfold isAlg at hd;simp only [Bool.and_eq_true,decide_eq_true_eq] at hd;have hn:=isDeg_len hd.1.1.1;have hl:=hd.1.1.2;refine ⟨by omega,?_,fun i hi=>?_⟩
  ·have h1:=totI_le (rs:=linT ds fs) (M:=8) (fun r hr=>by
    obtain ⟨ts,_,rfl⟩:=List.mem_map.1 hr;rw [linR_len]
    exact hn)
   rw [linT_len] at h1;have:fs.length * 8≤8 * 8:=Nat.mul_le_mul_right _ (by omega)
   omega
  ·rw [linT_at hi,linR_len]
   omega
theorem sLinearTable_c {B:World} {H0 H:HP} {L:List SA} {w:World} {qad qaf:Option Addr} {cad caf:Nat} {ad:List Int} {af:List (List Term)} (had:Ints H qad ad) (haf:Forms H qaf af) (hn8:ad.length≤1048576) (hn9:af.length≤1048576) (hl9 : ∀i,i<af.length→(fm af i).length≤1048576) (hH:Hp B H0 H L w):Calls Tryz.prog 7 [.agg [.slice qad ad.length cad,.slice qaf af.length caf].toArray].toArray w fun e w'=>∃q c vs,e = .returned (.tuple #[.slice q (linV ad af).length c,.int .i64 (algC ad af)])∧Hp B H0 H (ownRs 24 2 q c vs (linV ad af)::L) w':=by
 refine JB Tryz.func7 rfl 9 rfl rfl [(0,.agg [.slice qad ad.length cad,.slice qaf af.length caf].toArray)] rfl hH ?_;clear hH;refine Je fun _ hK1 _=>(Jb (Eg rfl rfl rfl fun g1=>(Jg (Jd rfl) rfl (Jg (Jd rfl) rfl (Jf (Ja (hK1 (Je fun _ hK2 _=>(Je fun _ hK3 _=>(Jb (Jg (Jn rfl At.z (by simpa [*] using ag27)) rfl (Jx fn25 rfl rfl fun w hH=>(l02Is_c had haf hn8 hn9 hl9 hH).mono ?_))))))))))));rintro _ w ⟨rfl,hH⟩;refine ⟨_,rfl,fun a hF=>JQ hF hH ?_⟩;refine Jg (Es rfl) rfl (Jf (Ja (hK3 (Ei rfl (fun h6=>?_) (fun h6=>?_)))))
 ·
  have hf6:isAlg ad af=false:=by simpa using h6
  refine Je fun _ hK4 _=>(Jb (Jg (Jd rfl) rfl (Jg (Jd rfl) rfl (Jf (Ja (hK4 (Js (Ji (Eb rfl (Res.tmp rfl) (Res.tmp rfl) fun w hH=>?_)))))))));replace hH:=hH.sublist (.cons _ (List.Sublist.refl _));rw [linV_no hf6,(algC_o hf6).symm];exact ⟨none,0,nilVs,rfl,(Hp.rsNil 24 2 (hH.own0 24 1))⟩
 ·
  have hA6:isAlg ad af=true:=by simpa using h6
  refine Jk (Ja (hK2 (Je fun _ hK5 _=>(Jb (Jg (Jn rfl At.z (by simpa [*] using ag27)) rfl (Jx fn26 rfl rfl fun w hH=>(l02Linear_c had haf (isAlg_ok hA6 haf.wfss).frm hH).mono ?_))))));rintro _ w ⟨qo8,co8,vso8,rfl,hH⟩;refine ⟨_,rfl,fun a hF=>JQ hF hH ?_⟩;refine Jg (Jd rfl) rfl (Jg (Jd rfl) rfl (Jf (Ja (hK5 (Js (Eb rfl (Res.tmp rfl) (Res.tmp rfl) fun w hH=>?_))))));replace hH:=hH.sublist (.cons_cons _ (.cons _ (List.Sublist.refl _)));rw [linV_yes hA6,(algC_z hA6).symm];exact ⟨_,_,_,rfl,hH⟩
theorem LinearTable_c {B:World} {H0 H:HP} {L:List SA} {w:World} {qad qaf:Option Addr} {cad caf:Nat} {ad:List Int} {af:List (List Term)} (had:Ints H qad ad) (haf:Forms H qaf af) (hn8:ad.length≤1048576) (hn9:af.length≤1048576) (hl9 : ∀i,i<af.length→(fm af i).length≤1048576) (hH:Hp B H0 H L w):Calls Tryz.prog 6 [.agg [.slice qad ad.length cad,.slice qaf af.length caf].toArray].toArray w fun e w'=>∃q c vs,e = .returned (.tuple #[.slice q (linV ad af).length c,.int .i64 (algC ad af)])∧Hp B H0 H (ownRs 24 2 q c vs (linV ad af)::L) w':=by
 refine JB Tryz.func6 rfl 10 rfl rfl [(0,.agg [.slice qad ad.length cad,.slice qaf af.length caf].toArray)] rfl hH ?_;have hw0:=hH.old;have hw1:=hH.le;clear hH;refine Je fun _ hK1 _=>(Jb (Eg rfl rfl rfl fun g1=>(EK .z fun H2 hle2 hc2=>?_)));replace had:=had.le hle2;replace haf:=haf.le hle2;have pad:CellAt H2 g1 0 (.slice qad ad.length cad):=hc2 0 _ rfl;have paf:CellAt H2 g1 1 (.slice qaf af.length caf):=hc2 1 _ rfl;refine Jg (Jd rfl) rfl (Jg (Jd rfl) rfl (Jf (Ja (hK1 (Je fun _ hK2 _=>(Je fun _ hK3 _=>(Jb (Jx fn23 rfl rfl fun w hH=>(algebraCode_c pad paf had haf (forms_nil H2) hn8 hn9 hl9 (by simp) (fun i hi=>by simp at hi) hH).mono ?_))))))));rintro _ w ⟨rfl,hH⟩;refine ⟨_,rfl,fun a hF=>JQ hF hH ?_⟩;refine Jg (Jd rfl) rfl (Jf (Ja (hK3 (Je fun _ hK4 _=>(Jb (Jg (Jc rfl) rfl (Jg (En rfl rfl) rfl (Jf (Ja (hK4 (Jm rfl (fun h7=>?_) (fun h7=>?_))))))))))))
 ·
  rw [codeA_nil] at h7 ⊢;refine Je fun _ hK5 _=>(Jb (Jg (Jc rfl) rfl (Jg (Jd rfl) rfl (Jg (Jd rfl) rfl (Jf (Ja (hK5 (Js (Ji (Eb rfl (Res.tmp rfl) (Res.tmp rfl) fun w hH=>?_))))))))));replace hH:=hH.sublist (List.Sublist.refl _);rw [linV_no (algC_ne h7)];exact ⟨none,0,nilVs,rfl,(Hp.rsNil 24 2 (hH.own0 24 1)).weaken hle2 hw0 hw1⟩
 ·
  rw [codeA_nil] at h7;have hA7:=algC_eq h7;have hA:=isAlg_ok hA7 haf.wfss;refine Jk (Ja (hK2 (Je fun _ hK6 _=>(Jb (Jx fn24 rfl rfl fun w hH=>(linearTable_c pad paf had haf hA hH).mono ?_)))));rintro _ w ⟨qo9,co9,vso9,rfl,hH⟩;refine ⟨_,rfl,fun a hF=>JQ hF hH ?_⟩;refine Jg (Jd rfl) rfl (Jg (Jd rfl) rfl (Jf (Ja (hK6 (Js (Eb rfl (Res.tmp rfl) (Res.tmp rfl) fun w hH=>?_))))));replace hH:=hH.sublist (.cons_cons _ (List.Sublist.refl _));rw [linV_yes hA7,(algC_z hA7).symm];exact ⟨_,_,_,rfl,hH.weaken hle2 hw0 hw1⟩
theorem fn27:Fn Tryz.prog 27:=⟨_,Tryz.func27,by kernel_rfl,rfl⟩
theorem fn28:Fn Tryz.prog 28:=⟨_,Tryz.func28,by kernel_rfl,rfl⟩
theorem fn30:Fn Tryz.prog 30:=⟨_,Tryz.func30,by kernel_rfl,rfl⟩
def ofWord (n:Int) (t:Term):Bool:=decide (wrd t.mono 8=n)
def wordsF (ts:List Term) (n:Int):List Term:=ts.filter (ofWord n)
def wordsK (ts:List Term) (n:Int) (k:Nat):List Term:=(ts.take k).filter (ofWord n)
theorem wordsK_yes {ts:List Term} {n:Int} {k:Nat} (hk:k<ts.length) (h:wrd (tm ts k).mono 8=n):wordsK ts n (k+1)=wordsK ts n k++[tm ts k]:=by
 unfold wordsK;rw [take_tm hk,List.filter_append]
 congr 1
 simp [ofWord,h]
theorem wordsK_no {ts:List Term} {n:Int} {k:Nat} (hk:k<ts.length) (h : ¬wrd (tm ts k).mono 8=n):wordsK ts n (k+1)=wordsK ts n k:=by
 unfold wordsK;rw [take_tm hk,List.filter_append]
 simp [ofWord,h]
theorem wordsK_end (ts:List Term) (n:Int):wordsK ts n ts.length=wordsF ts n:=by simp [wordsK,wordsF]
theorem wordsK_len (ts:List Term) (n:Int) (k:Nat):(wordsK ts n k).length≤k:=by
 unfold wordsK;have h1:=List.length_filter_le (ofWord n) (ts.take k);have h2:=List.length_take_le k ts
 omega
theorem wordsF_wf {ts:List Term} {n:Int} (h:Wfs ts):Wfs (wordsF ts n):=fun t ht=>h t (List.mem_filter.1 ht).1
theorem wordsF_len (ts:List Term) (n:Int):(wordsF ts n).length≤ts.length:=List.length_filter_le _ _
theorem kept_word (ts:List Term):kept ts (fun t=>!(decide (wrd t.mono 8=2)))=wordsF ts 2:=by
 unfold kept wordsF ofWord
 congr 1
 funext t
 simp
def quads (fs:List (List Term)):List (List Term):=fs.map fun ts=>wordsF ts 2
def quadsK (fs:List (List Term)) (k:Nat):List (List Term):=(fs.take k).map fun ts=>wordsF ts 2
@[simp] theorem quads_len (fs:List (List Term)):(quads fs).length=fs.length:=by simp [quads]
theorem quadsK_len {fs:List (List Term)} {k:Nat} (hk:k≤fs.length):(quadsK fs k).length=k:=by simp [quadsK];omega
theorem quadsK_succ {fs:List (List Term)} {k:Nat} (hk:k<fs.length):quadsK fs (k+1)=quadsK fs k++[wordsF (fm fs k) 2]:=by
 unfold quadsK;rw [take_fm hk,List.map_append]
 rfl
theorem quadsK_end (fs:List (List Term)):quadsK fs fs.length=quads fs:=by simp [quadsK,quads]
theorem quads_wf {fs:List (List Term)} (h:Wfss fs):Wfss (quads fs):=fun f hf=>by
 obtain ⟨ts,ht,rfl⟩:=List.mem_map.1 hf
 exact wordsF_wf (h ts ht)
theorem quads_tot : ∀fs:List (List Term),tot (quads fs)≤tot fs
 | []=>Nat.le_refl _
 | f::fs=>by
  have h1:=quads_tot fs
  have h2:=wordsF_len f 2
  simp only [quads,List.map_cons,tot] at h1 ⊢
  omega
def qpV (ds:List Int) (fs:List (List Term)):List (List Term):=if isAlg ds fs then quads fs else []
theorem qpV_wf {ds:List Int} {fs:List (List Term)} (h:Wfss fs):Wfss (qpV ds fs):=by
 unfold qpV
 split
 ·exact quads_wf h
 ·exact fun f hf=>by simp at hf
theorem qpV_len (ds:List Int) (fs:List (List Term)):(qpV ds fs).length≤fs.length∧tot (qpV ds fs)≤tot fs:=by
 unfold qpV
 split
 ·exact ⟨by simp,quads_tot fs⟩
 ·simp [tot]
theorem qpV_yes {ds:List Int} {fs:List (List Term)} (h:isAlg ds fs=true):qpV ds fs=quads fs:=by unfold qpV;rw [if_pos h]
theorem qpV_no {ds:List Int} {fs:List (List Term)} (h:isAlg ds fs=false):qpV ds fs=[]:=by unfold qpV;rw [h];rfl
theorem l02Words_c {B:World} {H0 H:HP} {L:List SA} {w:World} {qts:Option Addr} {cts:Nat} {ts:List Term} {n:Int} (hts:Terms H qts ts) (hl:ts.length≤1048576) (hH:Hp B H0 H L w):Calls Tryz.prog 30 [.agg [.slice qts ts.length cts].toArray,.int .i64 n].toArray w fun e w'=>∃q c,e = .returned (.agg [.slice q (wordsF ts n).length c].toArray)∧Hp B H0 H (own 52 9 q (wordsF ts n).length c (tsC (wordsF ts n))::L) w':=by
 refine JB Tryz.func30 rfl 35 rfl rfl [(0,.agg [.slice qts ts.length cts].toArray),(1,.int .i64 n)] rfl hH ?_;clear hH;refine Je fun _ hK1 _=>(Jb (Eg rfl rfl rfl fun g2=>(JM ze43 rfl fun g4=>(Jf (Ja (hK1 (Je fun _ hK2 _=>(Jb (ED 52 9 (Jg (Ea bz43) rfl (JM ze43 rfl fun g5=>(Jr rfl rfl (by first | exact bytesC_one _ | exact intsC_one _ | exact Term.c_one _ | simp [Value.oneCell']) (by simpa [*] using sz43) (by simp [*]) At.z (Jf (Ja (hK2 (Je fun _ hK3 _=>?_))))))))))))))));refine Je fun _ hK4 _=>(Jb (Jg (Jd rfl) rfl (Jf (Ja (hK4 (Jp (JH (σ:=Option Addr × Nat × Nat) (fun ⟨q,c,k⟩=>[(6,.int .i64 (k:Int))]) (fun ⟨q,c,k⟩=>H) (fun ⟨q,c,k⟩=>obj g5 (.cells [.slice q (wordsK ts n k).length c].toArray 43 (0,0))::own 52 9 q (wordsK ts n k).length c (tsC (wordsK ts n k))::obj g4 (.cells [.slice none 0 0].toArray 43 (0,0))::obj g2 (.cells [.slice qts ts.length cts].toArray 43 (0,0))::L) (fun ⟨q,c,k⟩=>k≤ts.length) (fun ⟨q,c,k⟩=>ts.length - k) (none,0,0) (by show 0≤ts.length;omega) ⟨rfl,trivial⟩ rfl rfl ?_)))))));rintro ⟨q,c,k⟩ hI _ hAg0;have hk:=hI;have hpl:=wordsK_len ts n k;refine Je fun _ hK5 _=>(Je fun _ hK6 _=>(Jb (Jg (Jc rfl) rfl (Jg (Jt u43 rfl sz41 rfl) rfl (Jg (Jv rfl (.s (.s (.s .z))) rfl pl41) rfl (Jg (Jq u41 rfl rfl) rfl (Jg (JV rfl rfl) rfl (Jf (Ja (hK6 (Jm rfl (fun hc12=>?_) (fun hc12=>?_))))))))))))
 ·
  refine Jk (Ja (hK5 (Je fun _ hK7 _=>(Jp (Je fun _ hK8 _=>(Jb (Jg (Jt u43 rfl sz41 rfl) rfl (Jg (Jv rfl (.s (.s (.s .z))) rfl pl41) rfl (Jg (Jc rfl) rfl (Jg (Eo u41 sz52 rfl rfl rfl (by omega) hts.sm) rfl (Jg (Ep u52 rfl sz50 rfl (hts.sm (i:=k) (by omega))) rfl (Jg (JO rfl (hts.mono (by omega)) (hts.sm (i:=k) (by omega)) (by rw [bytesC_length,(hts.wf _ (by omega)).mono.len];exact ag50)) rfl (Jx fn55 rfl rfl fun w hH=>(l02Word_c (hts.wf k (by omega)).mono hH).mono ?_)))))))))))));rintro _ w ⟨rfl,hH⟩;refine ⟨_,rfl,fun a hF=>JQ hF hH ?_⟩;refine Jg (Jc rfl) rfl (Jg (Ef rfl rfl) rfl (Jf (Ja (hK8 (Jm rfl (fun h23=>?_) (fun h23=>?_))))))
  ·
   refine Et [[], [0], [], [2], [], [3,4], [5], [6]] (by kernel_rfl) (Jz (fun gh=>Jt u43 rfl sz41 rfl) (Jz (fun gh=>Jv rfl At.z rfl pl41) (Jz (fun gh=>Jt u43 rfl sz41 rfl) (Jz (fun gh=>Jv rfl (.s (.s (.s .z))) rfl pl41) (Jz (fun gh=>Jc rfl) (Jz (fun gh=>Eo u41 sz52 rfl rfl rfl (by omega) hts.sm) (Jz (fun gh=>JO rfl (hts.cell _ (by omega)) (hts.sm (i:=k) (by omega)) (by rw [Term.c_length (hts.wf _ (by omega))];exact ag52)) (HJ.mk (fun gh=>Ka u41 ze52 sz52 (hts.wf k (by omega)) rfl) (Ec 8 3 foll0 (by kernel_rfl) rfl rfl fun gh=>(Er (us':=(24,_)::(25,_)::(26,_)::(27,_)::(28,_)::(29,_)::(30,_)::(31,_)::_) (L':=_::_) rfl rfl (EM u41 ze52 sz52 by52 rfl rfl (by simp only [List.length_cons,List.length_nil];omega) .z (.s .z) (fun _ _=>(.s .z)) rfl fun qo32 co32=>(Jg (Jt u43 rfl sz41 rfl) rfl (EA rfl rfl rfl rfl sz41 (by simp [*]) (.s .z) (Jf ?_))))))))))))));refine Ed (Ee (JD (Ja (hK7 (Jb (Jg (Jc rfl) rfl (Jg (Jy rfl rfl (by first | exact nw _ (by omega) | rfl)) rfl (Jg (Jd rfl) rfl (Jf (Ja (JF .z ?_)))))))))));exact hAg0 (qo32,co32,k+1) (by show k+1≤ts.length;omega) (by show ts.length - (k+1)<ts.length - k;omega) 28 rfl rfl ⟨rfl,trivial⟩ rfl (by dsimp only;rw [wordsK_yes (by omega) h23];rfl)
  ·
   refine Jk (JD (Ja (hK7 (Jb (Jg (Jc rfl) rfl (Jg (Jy rfl rfl (by first | exact nw _ (by omega) | rfl)) rfl (Jg (Jd rfl) rfl (Jf (Ja ?_)))))))));exact hAg0 (q,c,k+1) (by show k+1≤ts.length;omega) (by show ts.length - (k+1)<ts.length - k;omega) 18 rfl rfl ⟨rfl,trivial⟩ rfl (by dsimp only;rw [wordsK_no (by omega) h23])
 ·
  refine JI (Jl (Jl (JT (Ja (hK3 (Je fun _ hK9 _=>(Jb (Jg (Jn rfl At.z (by simpa [*] using ag43)) rfl (Jr rfl rfl (by first | exact bytesC_one _ | exact intsC_one _ | exact Term.c_one _ | simp [Value.oneCell']) (by simpa [*] using sz43) (by simp [*]) (.s (.s .z)) (Jf (Ja (hK9 (Js (Ju rfl (Res.agg rfl (.s (.s .z)) (by simpa [*] using ag43)) fun w hH=>?_))))))))))))));replace hH:=hH.sublist (.cons _ (.cons_cons _ (.cons _ (.cons _ (List.Sublist.refl _)))))
  obtain rfl:k=ts.length:=by omega
  rw [wordsK_end] at hH ⊢;exact ⟨_,_,rfl,hH⟩
theorem Quad1_c {B:World} {H0 H:HP} {L:List SA} {w:World} {p:List Int} (hp:p.length=8) (hs:Small p) (hH:Hp B H0 H L w):Calls Tryz.prog 28 [.agg (intsC p).toArray].toArray w fun e w'=>e = .returned (.bool (decide (wrd p 8=2)))∧Hp B H0 H L w':=by
 refine JB Tryz.func28 rfl 6 rfl rfl [(0,.agg (intsC p).toArray)] rfl hH ?_;clear hH;refine Je fun _ hK1 _=>(Jb (Eg rfl rfl rfl fun g1=>(Jg (Jd rfl) rfl (Jf (Ja (hK1 (Je fun _ hK2 _=>(Jb (Jg (Jn rfl At.z (by simpa [*] using ag63)) rfl (Jx fn29 rfl rfl fun w hH=>(plength_c hp hs hH).mono ?_))))))))));rintro _ w ⟨rfl,hH⟩;refine ⟨_,rfl,fun a hF=>JQ hF hH ?_⟩;refine Jg (Ef rfl rfl) rfl (Jg (Jd rfl) rfl (Jf (Ja (hK2 (Js (Ju rfl (Res.tmp rfl) fun w hH=>?_))))));replace hH:=hH.tail;exact ⟨rfl,hH⟩
theorem sQuadraticParts_c {B:World} {H0 H:HP} {L:List SA} {w:World} {qad qaf:Option Addr} {cad caf:Nat} {ad:List Int} {af:List (List Term)} (had:Ints H qad ad) (haf:Forms H qaf af) (hn8:ad.length≤1048576) (hn9:af.length≤1048576) (hl9 : ∀i,i<af.length→(fm af i).length≤1048576) (hH:Hp B H0 H L w):Calls Tryz.prog 10 [.agg [.slice qad ad.length cad,.slice qaf af.length caf].toArray].toArray w fun e w'=>∃q c vs,e = .returned (.tuple #[.slice q (qpV ad af).length c,.int .i64 (algC ad af)])∧Hp B H0 H (ownFs 43 52 q c vs (qpV ad af)::L) w':=by
 refine JB Tryz.func10 rfl 27 rfl rfl [(0,.agg [.slice qad ad.length cad,.slice qaf af.length caf].toArray)] rfl hH ?_;clear hH;refine Je fun _ hK1 _=>(Jb (Eg rfl rfl rfl fun g1=>(Jg (Jd rfl) rfl (Jg (Jd rfl) rfl (Jf (Ja (hK1 (Je fun _ hK2 _=>(Je fun _ hK3 _=>(Jb (Jg (Jn rfl At.z (by simpa [*] using ag27)) rfl (Jx fn25 rfl rfl fun w hH=>(l02Is_c had haf hn8 hn9 hl9 hH).mono ?_))))))))))));rintro _ w ⟨rfl,hH⟩;refine ⟨_,rfl,fun a hF=>JQ hF hH ?_⟩;refine Jg (Es rfl) rfl (Jf (Ja (hK3 (Ei rfl (fun h8=>?_) (fun h8=>?_)))))
 ·
  have hf6:isAlg ad af=false:=by simpa using h8
  refine Je fun _ hK4 _=>(Jb (Jg (Jd rfl) rfl (Jg (Jd rfl) rfl (Jf (Ja (hK4 (Js (Ji (Eb rfl (Res.tmp rfl) (Res.tmp rfl) fun w hH=>?_)))))))));replace hH:=hH.sublist (.cons _ (List.Sublist.refl _));rw [qpV_no hf6,(algC_o hf6).symm];exact ⟨none,0,nilVs,rfl,hH.ownFsNil 43 52⟩
 ·
  have hA6:isAlg ad af=true:=by simpa using h8
  have hA:=isAlg_ok hA6 haf.wfss;refine Jk (Ja (hK2 (Je fun _ hK5 _=>(Jb (EY (MK.lit0 u25 sz43) rfl fun qo9 co9=>(J.ts0 52 (Jg (Jd rfl) rfl (Jf (Ja (hK5 (Je fun _ hK6 _=>(Je fun _ hK7 _=>(Jb (Jg (Jd rfl) rfl (Jf (Ja (hK7 ?_)))))))))))))))));refine Jp (JH (σ:=Option Addr × Nat × Vs × Nat) (fun ⟨q,c,vs,k⟩=>[(5,.int .i64 (k:Int)),(4,.slice q k c)]) (fun ⟨q,c,vs,k⟩=>H) (fun ⟨q,c,vs,k⟩=>ownTs 52 vs (quadsK af k)::own 43 1 q k c (slicesC vs (quadsK af k))::obj g1 (.cells [.slice qad ad.length cad,.slice qaf af.length caf].toArray 27 (0,0))::L) (fun ⟨q,c,vs,k⟩=>k≤af.length) (fun ⟨q,c,vs,k⟩=>af.length - k) (qo9,co9,nilVs,0) (by show 0≤af.length;omega) ⟨rfl,⟨rfl,trivial⟩⟩ rfl rfl ?_);rintro ⟨q,c,vs,k⟩ hk _ hAg0;have hn8:=hA.hn;have hl8:=hA.hl;have hlk:=hl9 k;refine Je fun _ hK8 _=>(Je fun _ hK9 _=>(Jb (Jg (Jc rfl) rfl (Jg (Jt u27 rfl sz25 rfl) rfl (Jg (Jv rfl (.s (.s .z)) rfl pl25) rfl (Jg (Jq u25 rfl rfl) rfl (Jg (JV rfl rfl) rfl (Jf (Ja (hK9 (Jm rfl (fun hc14=>?_) (fun hc14=>?_))))))))))))
  ·
   refine Jk (Ja (hK8 (Je fun _ hK10 _=>(Jp (Jb (Jg (Jc rfl) rfl (Jg (Jt u27 rfl sz25 rfl) rfl (Jg (Jv rfl (.s (.s .z)) rfl pl25) rfl (Jg (Jc rfl) rfl (Jg (JY u25 sz43 rfl rfl rfl (by omega) haf.sm) rfl ?_))))))))));obtain ⟨qe22,ce22,he22,le22,Fe22⟩:=haf k (by omega);refine Jg (JO (cs:=[_]) rfl (one_cell he22) (haf.sm (i:=k) (by omega)) ag43) rfl (Jx fn30 rfl rfl fun w hH=>(l02Words_c Fe22 (hlk (by omega)) hH).mono ?_);rintro _ w ⟨qo23,co23,rfl,hH⟩;refine ⟨_,rfl,fun a hF=>JQ hF hH ?_⟩;refine EY (EI u25 ze43 sz43 rfl rfl) rfl fun qo24 co24=>(EO u25 ze43 sz43 by43 rfl rfl rfl rfl (by omega) .z (.s (.s .z)) (fun _ _=>(.s (.s .z))) rfl fun qo25 co25=>(Jg (Jd rfl) rfl (Jf (JD (Ja (hK10 (Jb (Jg (Jc rfl) rfl (Jg (Jy rfl rfl (by first | exact nw _ (by omega) | rfl)) rfl (Jg (Jd rfl) rfl (Jf (Ja (Jh (.s (.s (.s (.s .z)))) (Jh (.s (.s (.s (.s .z)))) (Jh (.s (.s .z)) ?_)))))))))))))));refine Jh (.s (.s (.s (.s .z)))) (Jh (.s (.s (.s (.s .z)))) (EJ.fsSnoc (fs:=quadsK af k) (quadsK_len (by omega)) rfl (JF (.s .z) ?_)));exact hAg0 (qo25,co25,setV vs k (qo23,co23),k+1) (by show k+1≤af.length;omega) (by show af.length - (k+1)<af.length - k;omega) 20 rfl rfl ⟨rfl,⟨rfl,trivial⟩⟩ rfl (by dsimp only;rw [quadsK_succ (by omega),slicesC_set (quadsK_len (by omega))])
  ·
   refine JI (Jl (Jl (JT (Ja (hK6 (Je fun _ hK11 _=>(Jb (Jg (Jc rfl) rfl (Jg (Jd rfl) rfl (Jg (Jd rfl) rfl (Jf (Ja (hK11 (Js (Eb rfl (Res.tmp rfl) (Res.tmp rfl) fun w hH=>?_)))))))))))))));replace hH:=hH.sublist (.cons_cons _ (.cons_cons _ (.cons _ (List.Sublist.refl _))))
   obtain rfl:k=af.length:=by omega
   rw [quadsK_end] at hH;rw [qpV_yes hA6,(algC_z hA6).symm];exact ⟨q,c,vs,by rw [quads_len],by unfold ownFs;rw [quads_len];exact ((hH.front (.s .z)).star)⟩
theorem QuadraticParts_c {B:World} {H0 H:HP} {L:List SA} {w:World} {qad qaf:Option Addr} {cad caf:Nat} {ad:List Int} {af:List (List Term)} (had:Ints H qad ad) (haf:Forms H qaf af) (hn8:ad.length≤1048576) (hn9:af.length≤1048576) (hl9 : ∀i,i<af.length→(fm af i).length≤1048576) (hH:Hp B H0 H L w):Calls Tryz.prog 9 [.agg [.slice qad ad.length cad,.slice qaf af.length caf].toArray].toArray w fun e w'=>∃q c vs,e = .returned (.tuple #[.slice q (qpV ad af).length c,.int .i64 (algC ad af)])∧Hp B H0 H (ownFs 43 52 q c vs (qpV ad af)::L) w':=by
 refine JB Tryz.func9 rfl 27 rfl rfl [(0,.agg [.slice qad ad.length cad,.slice qaf af.length caf].toArray)] rfl hH ?_;have hw0:=hH.old;have hw1:=hH.le;clear hH;refine Je fun _ hK1 _=>(Jb (Eg rfl rfl rfl fun g1=>(EK .z fun H2 hle2 hc2=>?_)));replace had:=had.le hle2;replace haf:=haf.le hle2;have pad:CellAt H2 g1 0 (.slice qad ad.length cad):=hc2 0 _ rfl;have paf:CellAt H2 g1 1 (.slice qaf af.length caf):=hc2 1 _ rfl;refine Jg (Jd rfl) rfl (Jg (Jd rfl) rfl (Jf (Ja (hK1 (Je fun _ hK2 _=>(Je fun _ hK3 _=>(Jb (Jx fn23 rfl rfl fun w hH=>(algebraCode_c pad paf had haf (forms_nil H2) hn8 hn9 hl9 (by simp) (fun i hi=>by simp at hi) hH).mono ?_))))))));rintro _ w ⟨rfl,hH⟩;refine ⟨_,rfl,fun a hF=>JQ hF hH ?_⟩;refine Jg (Jd rfl) rfl (Jf (Ja (hK3 (Je fun _ hK4 _=>(Jb (Jg (Jc rfl) rfl (Jg (En rfl rfl) rfl (Jf (Ja (hK4 (Jm rfl (fun h7=>?_) (fun h7=>?_))))))))))))
 ·
  rw [codeA_nil] at h7 ⊢;refine Je fun _ hK5 _=>(Jb (Jg (Jc rfl) rfl (Jg (Jd rfl) rfl (Jg (Jd rfl) rfl (Jf (Ja (hK5 (Js (Ji (Eb rfl (Res.tmp rfl) (Res.tmp rfl) fun w hH=>?_))))))))));replace hH:=hH.sublist (List.Sublist.refl _);rw [qpV_no (algC_ne h7)];exact ⟨none,0,nilVs,rfl,(hH.ownFsNil 43 52).weaken hle2 hw0 hw1⟩
 ·
  rw [codeA_nil] at h7;have hA7:=algC_eq h7;have hA:=isAlg_ok hA7 haf.wfss
  have hclP:ClP B H0 H2 28 #[] (fun m=>decide (wrd m 8=2)):=fun H3 L w x hle h8 hs hH=>by rw [Array.append_empty,Array.empty_append];exact Quad1_c h8 hs hH
  refine Jk (Ja (hK2 (Je fun _ hK6 _=>(Jb (EY (MK.lit0 u25 sz43) rfl fun qo12 co12=>(J.ts0 52 (Jg (Jd rfl) rfl (Jf (Ja (hK6 (Je fun _ hK7 _=>(Je fun _ hK8 _=>(Jb (Jg (Jt u27 rfl sz25 rfl) rfl (Jg (JR (q:=some ⟨g1,0,none⟩) (k:=1) rfl paf pl25) rfl (Jg (Jq u25 rfl rfl) rfl ?_))))))))))))))));refine Jg (Jc rfl) rfl (Jf (Ja (hK8 (Jp (JH (σ:=Option Addr × Nat × Vs × Nat) (fun ⟨q,c,vs,k⟩=>[(16,.int .i64 (k:Int)),(5,.slice q k c)]) (fun ⟨q,c,vs,k⟩=>H2) (fun ⟨q,c,vs,k⟩=>ownTs 52 vs (quadsK af k)::own 43 1 q k c (slicesC vs (quadsK af k))::L) (fun ⟨q,c,vs,k⟩=>k≤af.length) (fun ⟨q,c,vs,k⟩=>af.length - k) (qo12,co12,nilVs,0) (by show 0≤af.length;omega) ⟨rfl,⟨rfl,trivial⟩⟩ rfl rfl ?_)))));rintro ⟨q,c,vs,k⟩ hk _ hAg0;have hn8:=hA.hn;have hl8:=hA.hl;have hlk:=hl9 k;refine Je fun _ hK9 _=>(Jb (Jg (JV rfl rfl) rfl (Jf (Ja (hK9 (Je fun _ hK10 _=>(Jm rfl (fun hc17=>?_) (fun hc17=>?_))))))))
  ·
   refine Jk (Ja (hK10 (Je fun _ hK11 _=>(Jp (Je fun _ hK12 _=>(Jb (Jg (JY u25 sz43 rfl rfl rfl (by omega) haf.sm) rfl ?_)))))));obtain ⟨qe19,ce19,he19,le19,Fe19⟩:=haf k (by omega);refine Jg (JO (cs:=[_]) rfl (one_cell he19) (haf.sm (i:=k) (by omega)) ag43) rfl (JM ze43 rfl fun g7=>(Jr rfl rfl (by first | exact bytesC_one _ | exact intsC_one _ | exact Term.c_one _ | simp [Value.oneCell']) (by simpa [*] using sz43) (by simp [*]) At.z (Jf (Ja (hK12 (Jb (Jg (Jc rfl) rfl (Jg (Jn rfl At.z (by simpa [*] using ag43)) rfl (Jx fn27 rfl rfl fun w hH=>(part_c Fe19 fn28 hclP (hlk (by omega)) hH).mono ?_)))))))));rintro _ w ⟨qo22,co22,rfl,hH⟩;refine ⟨_,rfl,fun a hF=>JQ hF hH ?_⟩;refine EY (EI u25 ze43 sz43 rfl rfl) rfl fun qo23 co23=>(EO u25 ze43 sz43 by43 rfl rfl rfl rfl (by omega) .z (.s (.s (.s .z))) (fun _ _=>(.s (.s (.s .z)))) rfl fun qo24 co24=>(Jg (Jd rfl) rfl (Jf (JD (Ja (hK11 (Jb (Jg (Jy rfl rfl (by first | exact nw _ (by omega) | rfl)) rfl (Jg (Jc rfl) rfl (Jf (Ja (Jh (.s (.s (.s (.s .z)))) (Jh (.s (.s (.s .z))) (Jh (.s (.s .z)) (Jh (.s (.s (.s (.s .z)))) ?_)))))))))))))));refine Jh (.s (.s (.s (.s .z)))) (EJ.fsSnoc (fs:=quadsK af k) (quadsK_len (by omega)) rfl (JF (.s .z) (JF (.s .z) ?_)));exact hAg0 (qo24,co24,setV vs k (qo22,co22),k+1) (by show k+1≤af.length;omega) (by show af.length - (k+1)<af.length - k;omega) 14 rfl rfl ⟨rfl,⟨rfl,trivial⟩⟩ rfl (by dsimp only;rw [quadsK_succ (by omega),slicesC_set (quadsK_len (by omega)),kept_word])
  ·
   refine JI (Jl (Jl (JT (Ja (hK7 (Je fun _ hK13 _=>(Jb (Jg (Jc rfl) rfl (Jg (Jd rfl) rfl (Jg (Jd rfl) rfl (Jf (Ja (hK13 (Js (Eb rfl (Res.tmp rfl) (Res.tmp rfl) fun w hH=>?_)))))))))))))));replace hH:=hH.sublist (.cons_cons _ (.cons_cons _ (List.Sublist.refl _)))
   obtain rfl:k=af.length:=by omega
   rw [quadsK_end] at hH;rw [qpV_yes hA7,(algC_z hA7).symm];exact ⟨q,c,vs,by rw [quads_len],by unfold ownFs;rw [quads_len];exact ((hH.front (.s .z)).star).weaken hle2 hw0 hw1⟩
theorem l02Copy_c {B:World} {H0 H:HP} {L:List SA} {w:World} {qts:Option Addr} {cts:Nat} {ts:List Term} {b:Nat} (hts:Terms H qts ts) (hb:b<8) (hl:ts.length≤1048576) (hH:Hp B H0 H L w):Calls Tryz.prog 97 [.agg [.slice qts ts.length cts].toArray,.int .i64 (b:Int)].toArray w fun e w'=>∃q c,e = .returned (.agg [.slice q (shF b ts).length c].toArray)∧Hp B H0 H (own 52 9 q (shF b ts).length c (tsC (shF b ts))::L) w':=by
 refine JB Tryz.func97 rfl 50 rfl rfl [(0,.agg [.slice qts ts.length cts].toArray),(1,.int .i64 (b:Int))] rfl hH ?_;clear hH;refine Je fun _ hK1 _=>(Jb (Eg rfl rfl rfl fun g2=>(JM ze43 rfl fun g4=>(Jf (Ja (hK1 (Je fun _ hK2 _=>(Jb (ED 52 9 (Jg (Ea bz43) rfl (JM ze43 rfl fun g5=>(Jr rfl rfl (by first | exact bytesC_one _ | exact intsC_one _ | exact Term.c_one _ | simp [Value.oneCell']) (by simpa [*] using sz43) (by simp [*]) At.z (Jf (Ja (hK2 (Je fun _ hK3 _=>?_))))))))))))))));refine Je fun _ hK4 _=>(Jb (Jg (Jd rfl) rfl (Jf (Ja (hK4 (Jp (JH (σ:=Option Addr × Nat × Nat) (fun ⟨q,c,k⟩=>[(6,.int .i64 (k:Int))]) (fun ⟨q,c,k⟩=>H) (fun ⟨q,c,k⟩=>obj g5 (.cells [.slice q (shK b ts k).length c].toArray 43 (0,0))::own 52 9 q (shK b ts k).length c (tsC (shK b ts k))::obj g4 (.cells [.slice none 0 0].toArray 43 (0,0))::obj g2 (.cells [.slice qts ts.length cts].toArray 43 (0,0))::L) (fun ⟨q,c,k⟩=>k≤ts.length) (fun ⟨q,c,k⟩=>ts.length - k) (none,0,0) (by show 0≤ts.length;omega) ⟨rfl,trivial⟩ rfl rfl ?_)))))));rintro ⟨q,c,k⟩ hI _ hAg0;have hk:=hI;have hpl:=shK_len (b:=b) hk;refine Je fun _ hK5 _=>(Je fun _ hK6 _=>(Jb (Jg (Jc rfl) rfl (Jg (Jt u43 rfl sz41 rfl) rfl (Jg (Jv rfl (.s (.s (.s .z))) rfl pl41) rfl (Jg (Jq u41 rfl rfl) rfl (Jg (JV rfl rfl) rfl (Jf (Ja (hK6 (Jm rfl (fun hc14=>?_) (fun hc14=>?_))))))))))))
 ·
  refine Jk (Ja (hK5 (Je fun _ hK7 _=>(Jp (Je fun _ hK8 _=>(Jb (Jg (Ea bz50) rfl (JM ze50 rfl fun g7=>(Jr rfl rfl (by first | exact bytesC_one _ | exact intsC_one _ | exact Term.c_one _ | simp [Value.oneCell']) (by simpa [*] using sz50) (by simp [*]) At.z (Jf (Ja (hK8 (Je fun _ hK9 _=>(Je fun _ hK10 _=>(Jb (Jg (Jd rfl) rfl ?_))))))))))))))));refine Jf (Ja (hK10 (Jp (JH (σ:=Nat) (fun (i:Nat)=>[(8,.int .i64 (i:Int))]) (fun (i:Nat)=>H) (fun (i:Nat)=>obj g7 (.cells (bytesC (shP b (tm ts k).mono i)).toArray 50 (0,0))::obj g5 (.cells [.slice q (shK b ts k).length c].toArray 43 (0,0))::own 52 9 q (shK b ts k).length c (tsC (shK b ts k))::obj g4 (.cells [.slice none 0 0].toArray 43 (0,0))::obj g2 (.cells [.slice qts ts.length cts].toArray 43 (0,0))::L) (fun (i:Nat)=>i≤8) (fun (i:Nat)=>8 - i) 0 (by omega) ⟨rfl,trivial⟩ rfl (by rw [shP_zero];rfl) ?_))));rintro i hi _ hAg1;refine Je fun _ hK11 _=>(Je fun _ hK12 _=>(Jb (Jg (Jc rfl) rfl (Jg (Jc rfl) rfl (Jg (Jy rfl rfl (by first | exact nw _ (by omega) | rfl)) rfl (Jg (JV rfl rfl) rfl (Jf (Ja (hK12 (Jm rfl (fun hc21=>?_) (fun hc21=>?_)))))))))))
  ·
   refine Jk (Ja (hK11 (Je fun _ hK13 _=>(Jp (Jb (Jg (Jc rfl) rfl (Jg (Jc rfl) rfl (Jg (Jy rfl rfl (by first | exact nw _ (by omega) | rfl)) rfl (Jg (Jt u43 rfl sz41 rfl) rfl (Jg (Jv rfl (.s (.s (.s (.s .z)))) rfl pl41) rfl (Jg (Jc rfl) rfl (Jg (Jc rfl) rfl (Jg (Eo u41 sz52 rfl rfl rfl (by omega) hts.sm) rfl (Jg (Ep u52 rfl sz50 rfl (hts.sm (i:=k) (by omega))) rfl (Jg (PR.idxP1 u50 sz5 rfl (hts.sm (i:=k) (by omega)) rfl rfl (by omega)) rfl ?_)))))))))))))));refine Jg (JR rfl (hts.byte (by omega) (by omega)) pl5) rfl (Jg (JW (i':=(i+b)) u50 sz5 rfl rfl (by omega) (by omega)) rfl (ES rfl rfl sz5 (by simp [*];omega) At.z (Jf (JD (Ja (hK13 (Jb (Jg (Jc rfl) rfl (Jg (Jy rfl rfl (by first | exact nw _ (by omega) | rfl)) rfl (Jg (Jd rfl) rfl (Jf (Ja ?_))))))))))));exact hAg1 (i+1) (by omega) (by omega) 20 rfl rfl ⟨rfl,trivial⟩ rfl (by rw [shP_succ (by omega)])
  ·
   refine JI (Jl (Jl (JT (Ja (hK9 (Et [[], [0], [], [], [3], [], [4,5], [6], [7], [2,8], [9]] (by kernel_rfl) (Jz (fun gh=>Jt u43 rfl sz41 rfl) (Jz (fun gh=>Jv rfl (.s .z) rfl pl41) (Jz (fun gh=>Jn rfl At.z (by simpa [*] using ag50)) (Jz (fun gh=>Jt u43 rfl sz41 rfl) (Jz (fun gh=>Jv rfl (.s (.s (.s (.s .z)))) rfl pl41) (Jz (fun gh=>Jc rfl) (Jz (fun gh=>Eo u41 sz52 rfl rfl rfl (by omega) hts.sm) (Jz (fun gh=>Ep u52 rfl sz2 rfl (hts.sm (i:=k) (by omega))) (Jz (fun gh=>JR rfl (hts.fac (by omega)) pl2) ?_)))))))))))))));refine Jz (fun gh=>EW rfl rfl (fun w=>bt52 _ _ (shP_mono (i:=i) (b:=b) (hts.wf k (by omega)).mono).len w)) (HJ.mk (fun gh=>Ka u41 ze52 sz52 (Term.wf.of (shP_mono (i:=i) (b:=b) (hts.wf k (by omega)).mono) (hts.wf k (by omega)).fac) rfl) (Ec 11 3 foll0 (by kernel_rfl) rfl rfl fun gh=>(Er (us':=(36,_)::(37,_)::(38,_)::(39,_)::(40,_)::(41,_)::(42,_)::(43,_)::(44,_)::(45,_)::(46,_)::_) (L':=_::_) rfl rfl (EM u41 ze52 sz52 by52 rfl rfl (by simp only [List.length_cons,List.length_nil];omega) .z (.s (.s .z)) (fun _ _=>(.s (.s .z))) rfl fun qo47 co47=>(Jg (Jt u43 rfl sz41 rfl) rfl (EA rfl rfl rfl rfl sz41 (by simp [*]) (.s (.s .z)) (Jf (Ed (Ee (JD (Ja (hK7 (Jb (Jg (Jc rfl) rfl (Jg (Jy rfl rfl (by first | exact nw _ (by omega) | rfl)) rfl ?_)))))))))))))));refine Jg (Jd rfl) rfl (Jf (Ja (JF .z (JF .z ?_))));exact hAg0 (qo47,co47,k+1) (by show k+1≤ts.length;omega) (by show ts.length - (k+1)<ts.length - k;omega) 30 rfl rfl ⟨rfl,trivial⟩ rfl (by dsimp only;rw [shK_succ (by omega),shP_end (by omega)];rfl)
 ·
  refine JI (Jl (Jl (JT (Ja (hK3 (Je fun _ hK14 _=>(Jb (Jg (Jn rfl At.z (by simpa [*] using ag43)) rfl (Jr rfl rfl (by first | exact bytesC_one _ | exact intsC_one _ | exact Term.c_one _ | simp [Value.oneCell']) (by simpa [*] using sz43) (by simp [*]) (.s (.s .z)) (Jf (Ja (hK14 (Js (Ju rfl (Res.agg rfl (.s (.s .z)) (by simpa [*] using ag43)) fun w hH=>?_))))))))))))));replace hH:=hH.sublist (.cons _ (.cons_cons _ (.cons _ (.cons _ (List.Sublist.refl _)))))
  obtain rfl:k=ts.length:=by omega
  rw [shK_end] at hH ⊢;exact ⟨_,_,rfl,hH⟩
theorem l02Copy_0 {B:World} {H0 H:HP} {L:List SA} {w:World} {qts:Option Addr} {cts:Nat} {ts:List Term} (hts:Terms H qts ts) (hl:ts.length≤1048576) (hH:Hp B H0 H L w):Calls Tryz.prog 97 [.agg [.slice qts ts.length cts].toArray,.int .i64 0].toArray w fun e w'=>∃q c,e = .returned (.agg [.slice q ts.length c].toArray)∧Hp B H0 H (own 52 9 q ts.length c (tsC ts)::L) w':=by
 have h:=l02Copy_c (b:=0) (cts:=cts) hts (by omega) hl hH;rw [shF_zero hts.wfs] at h;exact h
theorem sz27:Size Tryz.prog 27 2:=by unfold Size;kernel_rfl
theorem ze27:Zero Tryz.prog 27 [.slice none 0 0,.slice none 0 0]:=by unfold Zero;kernel_rfl
theorem fn110:Fn Tryz.prog 110:=⟨_,Tryz.func110,by kernel_rfl,rfl⟩
theorem fn96:Fn Tryz.prog 96:=⟨_,Tryz.func96,by kernel_rfl,rfl⟩
theorem fn97:Fn Tryz.prog 97:=⟨_,Tryz.func97,by kernel_rfl,rfl⟩
theorem bd27_0 : ∀(q0:Option Addr) (m0 c0:Nat) w,(Instr.build 27 #[(0,.slice q0 m0 c0)]).run Tryz.prog w = .ok (.agg [.slice q0 m0 c0,.slice none 0 0].toArray) w:=fun q0 m0 c0 _=>by kernel_rfl
section
variable {P : Program} {ops : Array Oper} {Q : Exit → Act → World → Prop} {n : Nat} {B : World} {H0 H : HP} {rest : List Oper} {us : List (Nat × Value)} {L L1 : List SA} {R : Act → World → Prop} {w : World}
theorem J.unFs {E T:TypeId} {q:Option Addr} {c:Nat} {vs:Vs} {fs:List (List Term)} (hr:Rm L (ownFs E T q c vs fs) L1) (k:J P ops Q n B H0 rest us H (ownTs T vs fs::own E 1 q fs.length c (slicesC vs fs)::L1)):J P ops Q n B H0 rest us H L:=fun a w hF hH=>k a w hF ((hH.front hr).unstar.front (.s .z))
theorem Hp.fsDone {E T:TypeId} {q q':Option Addr} {c c' m:Nat} {vs:Vs} {fs:List (List Term)} {f:List Term} (hm:fs.length=m) (h:Hp B H0 H (own T 9 q' f.length c' (tsC f)::ownTs T vs fs::own E 1 q (m+1) c (slicesC vs fs++[.slice q' f.length c'])::L) w):Hp B H0 H (ownFs E T q c (setV vs m (q',c')) (fs++[f])::L) w:=by
 subst hm
 have e : ∀j,j<fs.length→setV vs fs.length (q',c') j=vs j:=fun j hj=>by unfold setV;rw [if_neg (by omega)]
 have e0:setV vs fs.length (q',c') fs.length=(q',c'):=by simp [setV]
 have h2:Hp B H0 H (ownTs T (setV vs fs.length (q',c')) (fs++[f])::own E 1 q (fs.length+1) c (slicesC vs fs++[.slice q' f.length c'])::L) w:=by
  refine Hp.fsOut ?_;rw [e0,ownTs_cong e];exact h
 unfold ownFs;rw [slicesC_set rfl,List.length_append];exact (h2.front (.s .z)).star
end
theorem l02Own_c {B:World} {H0 H:HP} {L:List SA} {w:World} {qad qaf:Option Addr} {cad caf:Nat} {ad:List Int} {af:List (List Term)} (had:Ints H qad ad) (haf:Forms H qaf af) (hn:ad.length≤1048576∧af.length≤1048576) (hl : ∀i,i<af.length→(fm af i).length≤1048576) (hH:Hp B H0 H L w):Calls Tryz.prog 96 [.agg [.slice qad ad.length cad,.slice qaf af.length caf].toArray].toArray w fun e w'=>∃qd cd qf cf vs,e = .returned (.agg [.slice qd ad.length cd,.slice qf af.length cf].toArray)∧Hp B H0 H (own 2 1 qd ad.length cd (intsC ad)::ownFs 43 52 qf cf vs af::L) w':=by
 refine JB Tryz.func96 rfl 28 rfl rfl [(0,.agg [.slice qad ad.length cad,.slice qaf af.length caf].toArray)] rfl hH ?_;clear hH;refine Je fun _ hK1 _=>(Jb (Eg rfl rfl rfl fun g1=>(JM ze27 rfl fun g2=>(Jf (Ja (hK1 (Je fun _ hK2 _=>(Jb (Jg (Jt u27 rfl sz24 rfl) rfl (Jg (Jv rfl (.s .z) rfl pl24) rfl (Jx fn110 rfl rfl fun w hH=>(l01Own_c had (by omega) hH).mono ?_)))))))))));rintro _ w ⟨qo7,co7,rfl,hH⟩;refine ⟨_,rfl,fun a hF=>JQ hF hH ?_⟩;refine ED 43 1 (J.ts0 52 (Jg (PR.build1 rfl (fun w=>bd27_0 _ _ _ w)) rfl (JM ze27 rfl fun g3=>(Jr rfl rfl (by first | exact bytesC_one _ | exact intsC_one _ | exact Term.c_one _ | simp [Value.oneCell']) (by simpa [*] using sz27) (by simp [*]) At.z (Jf (Ja (hK2 (Je fun _ hK3 _=>(Je fun _ hK4 _=>(Jb (Jg (Jd rfl) rfl (Jf (Ja (hK4 (Jp (JH (σ:=Option Addr × Nat × Vs × Nat) (fun ⟨q,c,vs,k⟩=>[(4,.int .i64 (k:Int))]) (fun ⟨q,c,vs,k⟩=>H) (fun ⟨q,c,vs,k⟩=>obj g3 (.cells [.slice qo7 ad.length co7,.slice q k c].toArray 27 (0,0))::ownTs 52 vs (af.take k)::own 43 1 q k c (slicesC vs (af.take k))::own 2 1 qo7 ad.length co7 (intsC ad)::obj g2 (.cells [.slice none 0 0,.slice none 0 0].toArray 27 (0,0))::obj g1 (.cells [.slice qad ad.length cad,.slice qaf af.length caf].toArray 27 (0,0))::L) (fun ⟨q,c,vs,k⟩=>k≤af.length) (fun ⟨q,c,vs,k⟩=>af.length - k) (none,0,nilVs,0) (by show 0≤af.length;omega) ⟨rfl,trivial⟩ rfl rfl ?_))))))))))))))));rintro ⟨q,c,vs,k⟩ hk _ hAg0;have hlk:=hl k;refine Je fun _ hK5 _=>(Je fun _ hK6 _=>(Jb (Jg (Jc rfl) rfl (Jg (Jt u27 rfl sz25 rfl) rfl (Jg (Jv rfl (.s (.s (.s (.s (.s .z))))) rfl pl25) rfl (Jg (Jq u25 rfl rfl) rfl (Jg (JV rfl rfl) rfl (Jf (Ja (hK6 (Jm rfl (fun hc13=>?_) (fun hc13=>?_))))))))))))
 ·
  refine Jk (Ja (hK5 (Je fun _ hK7 _=>(Jp (Ev (Rs:=[_,_,_,_,_,_]) 12 [[], [0], [], [2], [], [2,3,4], [2,3,4,5], [2,3,4,5,6], [2,3,4,5,6,7], [0,1,2,3,4,5,6,7,8], [0,1,2,3,4,5,6,7,8,9], [0,1,2,3,4,5,6,7,8,9,10]] [[], [12], [], [17], [], [], [], [], [], [8], [], []] [[], [], [], [], [], [], [], [], [], [14], [], [12]] rfl rfl (by kernel_rfl) ?_)))));apply Jw 1 rfl
  iterate 3 focus (intros;(conv=>lhs;simp only [Jj,JA,JX,JC,JU,eq_self,reduceEqDiff,reduceIte,reduceSub,reduceAdd,JxA,JxB]);all_goals rfl)
  ·
   intro gh X K zq zc zq2 zc2 zb zv hK;refine Jg (Jt u27 rfl sz25 rfl) rfl (Jo ?_);exact hK zq zc zq2 zc2 zb zv
  ·
   intro gh gh' h
   rfl
  apply Jw 2 rfl
  iterate 3 focus (intros;(conv=>lhs;simp only [Jj,JA,JX,JC,JU,eq_self,reduceEqDiff,reduceIte,reduceSub,reduceAdd,JxA,JxB]);all_goals rfl)
  ·
   intro gh X K zq zc zq2 zc2 zb zv hK;refine Jg (Jv rfl At.z rfl pl25) rfl (Jo ?_);exact hK zq zc zq2 zc2 zb zv
  ·
   intro gh gh' h
   rfl
  apply Jw 3 rfl
  iterate 3 focus (intros;(conv=>lhs;simp only [Jj,JA,JX,JC,JU,eq_self,reduceEqDiff,reduceIte,reduceSub,reduceAdd,JxA,JxB]);all_goals rfl)
  ·
   intro gh X K zq zc zq2 zc2 zb zv hK;refine Jg (Jt u27 rfl sz25 rfl) rfl (Jo ?_);exact hK zq zc zq2 zc2 zb zv
  ·
   intro gh gh' h
   rfl
  apply Jw 4 rfl
  iterate 3 focus (intros;(conv=>lhs;simp only [Jj,JA,JX,JC,JU,eq_self,reduceEqDiff,reduceIte,reduceSub,reduceAdd,JxA,JxB]);all_goals rfl)
  ·
   intro gh X K zq zc zq2 zc2 zb zv hK;refine Jg (Jv rfl At.z rfl pl25) rfl (Jo ?_);exact hK zq zc zq2 zc2 zb zv
  ·
   intro gh gh' h
   rfl
  apply Jw 5 rfl
  iterate 3 focus (intros;(conv=>lhs;simp only [Jj,JA,JX,JC,JU,eq_self,reduceEqDiff,reduceIte,reduceSub,reduceAdd,JxA,JxB]);all_goals rfl)
  ·
   intro gh X K zq zc zq2 zc2 zb zv hK;refine Jg (Jc rfl) rfl (Jo ?_);exact hK zq zc zq2 zc2 zb zv
  ·
   intro gh gh' h
   rfl
  apply Jw 6 rfl
  iterate 3 focus (intros;(conv=>lhs;simp only [Jj,JA,JX,JC,JU,eq_self,reduceEqDiff,reduceIte,reduceSub,reduceAdd,JxA,JxB]);all_goals rfl)
  ·
   intro gh X K zq zc zq2 zc2 zb zv hK;refine Jg (JY u25 sz43 rfl rfl rfl (by omega) haf.sm) rfl (Jo ?_);exact hK zq zc zq2 zc2 zb zv
  ·
   intro gh gh' h
   rfl
  obtain ⟨qe22,ce22,he22,le22,Fe22⟩:=haf k (by omega);apply Jw 7 rfl
  iterate 3 focus (intros;(conv=>lhs;simp only [Jj,JA,JX,JC,JU,eq_self,reduceEqDiff,reduceIte,reduceSub,reduceAdd,JxA,JxB]);all_goals rfl)
  ·
   intro gh X K zq zc zq2 zc2 zb zv hK;refine Jg (JO (cs:=[_]) rfl (one_cell he22) (haf.sm (i:=k) (by omega)) ag43) rfl (Jo ?_);exact hK zq zc zq2 zc2 zb zv
  ·
   intro gh gh' h
   rfl
  apply Eq 8 rfl
  iterate 3 focus (intros;(conv=>lhs;simp only [Jj,JA,JX,JC,JU,eq_self,reduceEqDiff,reduceIte,reduceSub,reduceAdd,JxA,JxB]);all_goals rfl)
  ·
   intro gh X K zq zc zq2 zc2 zb zv hK;refine Jx fn97 rfl rfl fun w hH=>(l02Copy_0 Fe22 (hlk (by omega)) hH).mono ?_;rintro _ w ⟨qo23,co23,rfl,hH⟩;refine ⟨_,rfl,fun a hF=>JQ hF hH ?_⟩;refine Jo ?_;exact hK qo23 co23 zq2 zc2 zb zv
  ·
   intro gh gh' h;refine ⟨?_,?_⟩ <;> rfl
  apply Eq 9 rfl
  iterate 3 focus (intros;(conv=>lhs;simp only [Jj,JA,JX,JC,JU,eq_self,reduceEqDiff,reduceIte,reduceSub,reduceAdd,JxA,JxB]);all_goals rfl)
  ·
   intro gh X K zq zc zq2 zc2 zb zv hK;refine EY (EI u25 ze43 sz43 rfl rfl) rfl fun qo24 co24=>(Jo ?_);exact hK qo24 co24 zq2 zc2 zb zv
  ·
   intro gh gh' h;refine ⟨?_,?_⟩ <;> (first | simp only [h 7 rfl] | rfl)
  apply Eq 10 rfl
  iterate 3 focus (intros;(conv=>lhs;simp only [Jj,JA,JX,JC,JU,eq_self,reduceEqDiff,reduceIte,reduceSub,reduceAdd,JxA,JxB]);all_goals rfl)
  ·
   intro gh X K zq zc zq2 zc2 zb zv hK;refine EO u25 ze43 sz43 by43 rfl rfl rfl rfl (by omega) (.s .z) At.z (fun _ _=>At.z) rfl fun qo25 co25=>(Jh .z (Jh (.s .z) (Jo ?_)));exact hK qo25 co25 zq2 zc2 zb zv
  ·
   intro gh gh' h;refine ⟨?_,?_⟩ <;> (first | simp only [h 7 rfl,h 8 rfl] | rfl)
  apply Jw 11 rfl
  iterate 3 focus (intros;(conv=>lhs;simp only [Jj,JA,JX,JC,JU,eq_self,reduceEqDiff,reduceIte,reduceSub,reduceAdd,JxA,JxB]);all_goals rfl)
  ·
   intro gh X K zq zc zq2 zc2 zb zv hK;refine Jg (Jt u27 rfl sz25 rfl) rfl (Jo ?_);exact hK zq zc zq2 zc2 zb zv
  ·
   intro gh gh' h
   first | simp only [h 7 rfl,h 8 rfl,h 9 rfl] | rfl
  apply EB 12 rfl
  iterate 3 focus (intros;(conv=>lhs;simp only [Jj,JA,JX,JC,JU,eq_self,reduceEqDiff,reduceIte,reduceSub,reduceAdd,JxA,JxB]);all_goals rfl)
  ·
   intro gh X K hK;refine EA rfl rfl rfl rfl sz25 (by simp [*]) At.z (Jo ?_);exact hK
  ·
   intro gh gh' h
   first | simp only [h 7 rfl,h 8 rfl,h 9 rfl] | rfl
  apply Eu [0,1,2,3,4,5,6,7,8,9,10,11] [0,1,2,3,4,5,6,7,8,9,10,11,13,15,16,17] foll0 rfl rfl rfl (by rfl)
  iterate 2 focus (intros;(conv=>lhs;simp only [Jj,JA,JX,JC,JU,eq_self,reduceEqDiff,reduceIte,reduceSub,reduceAdd,JxA,JxB]);all_goals rfl)
  intro gh;generalize (gh 7).c=co23;generalize (gh 7).q=qo23;generalize (gh 8).c=co24;generalize (gh 8).q=qo24;generalize (gh 9).c=co25;generalize (gh 9).q=qo25;clear gh;refine JD (Ja (hK7 (Jb (Jg (Jc rfl) rfl (Jg (Jy rfl rfl (by first | exact nw _ (by omega) | rfl)) rfl (Jg (Jd rfl) rfl (Jf (Ja (Jh (.s (.s (.s (.s (.s (.s (.s .z))))))) (Jh (.s (.s (.s (.s (.s (.s (.s .z))))))) (Jh (.s (.s (.s (.s (.s (.s (.s .z))))))) (Jh (.s (.s (.s (.s (.s (.s .z)))))) (Jh (.s (.s (.s (.s (.s (.s .z)))))) (Jh (.s (.s (.s (.s (.s (.s .z)))))) (Jh (.s (.s (.s (.s (.s (.s (.s .z))))))) ?_)))))))))))))));refine Jh (.s (.s (.s (.s (.s (.s (.s .z))))))) (EJ.fsSnoc (fs:=af.take k) (List.length_take_of_le (by omega)) rfl (JF (.s .z) (Jh (.s (.s (.s (.s (.s .z))))) (Jh (.s (.s (.s (.s (.s .z))))) (Jh (.s (.s (.s (.s (.s .z))))) (Jh (.s (.s (.s (.s .z)))) (Jh (.s (.s (.s (.s .z)))) (Jh (.s (.s (.s (.s (.s .z))))) ?_))))))));exact hAg0 (qo25,co25,setV vs k (qo23,co23),k+1) (by show k+1≤af.length;omega) (by show af.length - (k+1)<af.length - k;omega) 20 rfl rfl ⟨rfl,trivial⟩ rfl (by dsimp only;rw [take_fm (by omega),slicesC_set (List.length_take_of_le (by omega))];rfl)
 ·
  refine JI (Jl (Jl (JT (Ja (hK3 (Je fun _ hK8 _=>(Jb (Jg (Jn rfl At.z (by simpa [*] using ag27)) rfl (Jr rfl rfl (by first | exact bytesC_one _ | exact intsC_one _ | exact Term.c_one _ | simp [Value.oneCell']) (by simpa [*] using sz27) (by simp [*]) (.s (.s (.s (.s .z)))) (Jf (Ja (hK8 (Js (Ju rfl (Res.agg rfl (.s (.s (.s (.s .z)))) (by simpa [*] using ag27)) fun w hH=>?_))))))))))))));replace hH:=hH.sublist (.cons _ (.cons_cons _ (.cons_cons _ (.cons_cons _ (.cons _ (.cons _ (List.Sublist.refl _)))))))
  obtain rfl:k=af.length:=by omega
  rw [List.take_length] at hH;exact ⟨_,_,q,c,vs,rfl,by unfold ownFs;exact ((hH.front (.s .z)).star.front (.s .z))⟩
theorem l02With_c {B:World} {H0 H:HP} {L:List SA} {w:World} {qad qaf:Option Addr} {cad caf:Nat} {ad:List Int} {af:List (List Term)} {n:Int} {qts:Option Addr} {cts:Nat} {ts:List Term} (had:Ints H qad ad) (haf:Forms H qaf af) (hts:Terms H qts ts) (hn:ad.length≤1048576∧af.length≤1048576) (hl : ∀i,i<af.length→(fm af i).length≤1048576) (hlt:ts.length≤1048576) (hH:Hp B H0 H L w):Calls Tryz.prog 70 [.agg [.slice qad ad.length cad,.slice qaf af.length caf].toArray,.int .i64 n,.agg [.slice qts ts.length cts].toArray].toArray w fun e w'=>∃qd cd qf cf vs,e = .returned (.agg [.slice qd (ad++[n]).length cd,.slice qf (af++[ts]).length cf].toArray)∧Hp B H0 H (own 2 1 qd (ad++[n]).length cd (intsC (ad++[n]))::ownFs 43 52 qf cf vs (af++[ts])::L) w':=by
 refine JB Tryz.func70 rfl 24 rfl rfl [(0,.agg [.slice qad ad.length cad,.slice qaf af.length caf].toArray),(1,.int .i64 n),(2,.agg [.slice qts ts.length cts].toArray)] rfl hH ?_;clear hH;refine Je fun _ hK1 _=>(Jb (Eg rfl rfl rfl fun g3=>(Eg rfl rfl rfl fun g5=>(JM ze27 rfl fun g6=>(Jf (Ja (hK1 (Je fun _ hK2 _=>(Jb (Jg (Jn rfl (.s (.s .z)) (by simpa [*] using ag27)) rfl (Jx fn96 rfl rfl fun w hH=>(l02Own_c had haf (by omega) hl hH).mono ?_)))))))))));rintro _ w ⟨qdo9,cdo9,qfo9,cfo9,vso9,rfl,hH⟩;refine ⟨_,rfl,fun a hF=>JQ hF hH ?_⟩;refine JM ze27 rfl fun g7=>(J.unFs (.s (.s .z)) (Jr rfl rfl (by first | exact bytesC_one _ | exact intsC_one _ | exact Term.c_one _ | simp [Value.oneCell']) (by simpa [*] using sz27) (by simp [*]) (.s (.s .z)) (Jf (Ja (hK2 (Je fun _ hK3 _=>(Jb (Jg (Jt u27 rfl sz24 rfl) rfl (Jg (Jv rfl (.s (.s .z)) rfl pl24) rfl (Jg (Jc rfl) rfl (EY (MK.lit1I u24 ze2 sz2 rfl) rfl fun qo13 co13=>(J.appendOI u24 ze2 sz2 by2 rfl rfl (by simp only [List.length_cons,List.length_nil];omega) .z (.s (.s (.s .z))) (fun _ _=>(.s (.s (.s .z)))) rfl fun qo14 co14=>(Jg (Jt u27 rfl sz24 rfl) rfl (EA rfl rfl rfl rfl sz24 (by simp [*]) (.s (.s (.s .z))) (Jf ?_)))))))))))))));refine Ja (hK3 (Je fun _ hK4 _=>(Ev (Rs:=[_,_,_,_,_,_,_,_]) 8 [[], [0], [], [2], [2,3], [0,1,2,3,4], [0,1,2,3,4,5], [0,1,2,3,4,5,6]] [[], [11], [14], [], [], [4], [], []] [[], [], [], [], [], [10], [], [11]] rfl rfl (by kernel_rfl) ?_)));apply Jw 1 rfl
 iterate 3 focus (intros;(conv=>lhs;simp only [Jj,JA,JX,JC,JU,eq_self,reduceEqDiff,reduceIte,reduceSub,reduceAdd,JxA,JxB]);all_goals rfl)
 ·
  intro gh X K zq zc zq2 zc2 zb zv hK;refine Jg (Jt u27 rfl sz25 rfl) rfl (Jo ?_);exact hK zq zc zq2 zc2 zb zv
 ·
  intro gh gh' h
  rfl
 apply Jw 2 rfl
 iterate 3 focus (intros;(conv=>lhs;simp only [Jj,JA,JX,JC,JU,eq_self,reduceEqDiff,reduceIte,reduceSub,reduceAdd,JxA,JxB]);all_goals rfl)
 ·
  intro gh X K zq zc zq2 zc2 zb zv hK;refine Jg (Jv rfl At.z rfl pl25) rfl (Jo ?_);exact hK zq zc zq2 zc2 zb zv
 ·
  intro gh gh' h
  rfl
 apply Jw 3 rfl
 iterate 3 focus (intros;(conv=>lhs;simp only [Jj,JA,JX,JC,JU,eq_self,reduceEqDiff,reduceIte,reduceSub,reduceAdd,JxA,JxB]);all_goals rfl)
 ·
  intro gh X K zq zc zq2 zc2 zb zv hK;refine Jg (Jn rfl At.z (by simpa [*] using ag43)) rfl (Jo ?_);exact hK zq zc zq2 zc2 zb zv
 ·
  intro gh gh' h
  rfl
 apply Eq 4 rfl
 iterate 3 focus (intros;(conv=>lhs;simp only [Jj,JA,JX,JC,JU,eq_self,reduceEqDiff,reduceIte,reduceSub,reduceAdd,JxA,JxB]);all_goals rfl)
 ·
  intro gh X K zq zc zq2 zc2 zb zv hK;refine Jx fn97 rfl rfl fun w hH=>(l02Copy_0 hts (by omega) hH).mono ?_;rintro _ w ⟨qo19,co19,rfl,hH⟩;refine ⟨_,rfl,fun a hF=>JQ hF hH ?_⟩;refine Jo ?_;exact hK qo19 co19 zq2 zc2 zb zv
 ·
  intro gh gh' h;refine ⟨?_,?_⟩ <;> rfl
 apply Eq 5 rfl
 iterate 3 focus (intros;(conv=>lhs;simp only [Jj,JA,JX,JC,JU,eq_self,reduceEqDiff,reduceIte,reduceSub,reduceAdd,JxA,JxB]);all_goals rfl)
 ·
  intro gh X K zq zc zq2 zc2 zb zv hK;refine EY (EI u25 ze43 sz43 rfl rfl) rfl fun qo20 co20=>(Jo ?_);exact hK qo20 co20 zq2 zc2 zb zv
 ·
  intro gh gh' h;refine ⟨?_,?_⟩ <;> (first | simp only [h 3 rfl] | rfl)
 apply Eq 6 rfl
 iterate 3 focus (intros;(conv=>lhs;simp only [Jj,JA,JX,JC,JU,eq_self,reduceEqDiff,reduceIte,reduceSub,reduceAdd,JxA,JxB]);all_goals rfl)
 ·
  intro gh X K zq zc zq2 zc2 zb zv hK;refine EO u25 ze43 sz43 by43 rfl rfl rfl rfl (by omega) (.s .z) At.z (fun _ _=>At.z) rfl fun qo21 co21=>(Jh .z (Jh (.s .z) (Jo ?_)));exact hK qo21 co21 zq2 zc2 zb zv
 ·
  intro gh gh' h;refine ⟨?_,?_⟩ <;> (first | simp only [h 3 rfl,h 4 rfl] | rfl)
 apply Jw 7 rfl
 iterate 3 focus (intros;(conv=>lhs;simp only [Jj,JA,JX,JC,JU,eq_self,reduceEqDiff,reduceIte,reduceSub,reduceAdd,JxA,JxB]);all_goals rfl)
 ·
  intro gh X K zq zc zq2 zc2 zb zv hK;refine Jg (Jt u27 rfl sz25 rfl) rfl (Jo ?_);exact hK zq zc zq2 zc2 zb zv
 ·
  intro gh gh' h
  first | simp only [h 3 rfl,h 4 rfl,h 5 rfl] | rfl
 apply EB 8 rfl
 iterate 3 focus (intros;(conv=>lhs;simp only [Jj,JA,JX,JC,JU,eq_self,reduceEqDiff,reduceIte,reduceSub,reduceAdd,JxA,JxB]);all_goals rfl)
 ·
  intro gh X K hK;refine EA rfl rfl rfl rfl sz25 (by simp [*]) At.z (Jo ?_);exact hK
 ·
  intro gh gh' h
  first | simp only [h 3 rfl,h 4 rfl,h 5 rfl] | rfl
 apply Eu [0,1,2,3,4,5,6,7] [0,1,2,3,4,5,6,7,8,9,12,13,14,15] foll0 rfl rfl rfl (by rfl)
 iterate 2 focus (intros;(conv=>lhs;simp only [Jj,JA,JX,JC,JU,eq_self,reduceEqDiff,reduceIte,reduceSub,reduceAdd,JxA,JxB]);all_goals rfl)
 intro gh;generalize (gh 3).c=co19;generalize (gh 3).q=qo19;generalize (gh 4).c=co20;generalize (gh 4).q=qo20;generalize (gh 5).c=co21;generalize (gh 5).q=qo21;clear gh;refine Ja (hK4 (Je fun _ hK5 _=>(Jb (Jg (Jn rfl (.s (.s (.s .z))) (by simpa [*] using ag27)) rfl (Jr rfl rfl (by first | exact bytesC_one _ | exact intsC_one _ | exact Term.c_one _ | simp [Value.oneCell']) (by simpa [*] using sz27) (by simp [*]) (.s (.s (.s (.s (.s (.s (.s .z))))))) (Jf (Ja (hK5 (Js (Ju rfl (Res.agg rfl (.s (.s (.s (.s (.s (.s (.s .z))))))) (by simpa [*] using ag27)) fun w hH=>?_))))))))));replace hH:=hH.sublist (.cons_cons _ (.cons _ (.cons_cons _ (.cons _ (.cons _ (.cons_cons _ (.cons_cons _ (.cons _ (.cons _ (.cons _ (List.Sublist.refl _)))))))))));exact ⟨_,_,_,_,_,(have e:(af++[ts]).length=af.length+1:=(by simp);by rw [e];rfl),(Hp.fsDone rfl ((hH.front (.s (.s .z))).front (.s .z))).front (.s .z)⟩
def zP:Pw:=List.replicate 8 0
def dnL (t:Int):List Int:=((List.range (t+1).toNat).map fun k:Nat=>(k:Int)).reverse
theorem dnL_neg {t:Int} (h:t<0):dnL t=[]:=by
 unfold dnL;rw [show (t+1).toNat=0 by omega]
 rfl
theorem dnL_succ {t:Int} (h:0≤t):dnL t=t::dnL (t - 1):=by
 obtain ⟨n,rfl⟩ : ∃n:Nat,t=n:=⟨t.toNat,by omega⟩;unfold dnL;rw [show ((n:Int)+1).toNat=n+1 by omega,show ((n:Int) - 1+1).toNat=n by omega,List.range_succ,List.map_append,List.reverse_append]
 rfl
theorem dnL_mem {k t:Int}:k∈dnL t↔0≤k∧k≤t:=by
 unfold dnL;simp only [List.mem_reverse,List.mem_map,List.mem_range]
 constructor
 ·rintro ⟨a,h1,rfl⟩
  omega
 ·intro h;exact ⟨k.toNat,by omega,by omega⟩
def topM (d n:Int):Int:=if d.tmod 2=1 then min (min (n.tdiv d) 20) 1 else min (n.tdiv d) 20
theorem topM_bd {d n k:Int} (h:k≤topM d n):k≤20∧(d.tmod 2=1→k≤1):=by
 unfold topM at h
 split at h
 ·omega
 ·exact ⟨by omega,fun e=>absurd e (by assumption)⟩
def enumF:List Int→Nat→List Int→Int→List (List Int)
 | [],_,m,n=>if n=0 then [m] else []
 | d::ds,i,m,n=>(dnL (topM d n)).flatMap fun k=>enumF ds (i+1) (m.set i k) (n - k * d)
def wsF:List Int→List Int→Nat→Int
 | [],_,_=>0
 | d::ds,p,i=>d * p.getD i 0+wsF ds p (i+1)
theorem enumF_mem : ∀{ds:List Int} {i:Nat} {m p:List Int} {n:Int},i+ds.length≤8→m.length=8→p∈enumF ds i m n→p.length=8∧(∀j,j<i∨i+ds.length≤j→p.getD j 0=m.getD j 0)∧(∀t,t<ds.length→0≤p.getD (i+t) 0∧p.getD (i+t) 0≤20∧((ds.getD t 0).tmod 2=1→p.getD (i+t) 0≤1))∧wsF ds p i=n
 | [],i,m,p,n,_,hm,h=>by
  simp only [enumF] at h
  split at h
  ·rw [List.mem_singleton.1 h]
   exact ⟨hm,fun j _=>rfl,fun t ht=>by simp at ht,by simp [wsF, *]⟩
  ·simp at h
 | d::ds,i,m,p,n,hi,hm,h=>by
  simp only [enumF,List.mem_flatMap] at h
  obtain ⟨k,hk,h⟩:=h
  simp only [List.length_cons] at hi
  obtain ⟨h1,h2,h3,h4⟩:=enumF_mem (ds:=ds) (by omega) (by simpa using hm) h
  have hpi:p.getD i 0=k:=by
   rw [h2 i (.inl (by omega)),getD_set8,if_pos ⟨rfl,by omega⟩]
  have hk2:=dnL_mem.1 hk
  have hk3:=topM_bd hk2.2
  refine ⟨h1,fun j hj=>?_,fun t ht=>?_,?_⟩
  ·simp only [List.length_cons] at hj
   rw [h2 j (by omega),getD_set8,if_neg (by omega)]
  ·cases t with
   | zero=>rw [Nat.add_zero,hpi];exact ⟨hk2.1,hk3.1,hk3.2⟩
   | succ t=>
    have:=h3 t (by simpa using ht)
    rw [show i+1+t=i+(t+1) by omega] at this
    exact this
  ·simp only [wsF]
   rw [h4,hpi,Int.mul_comm]
   omega
def monS (ds:List Int) (n:Int):List Pw:=enumF ds 0 zP n
theorem own_some {e:TypeId} {sz m c:Nat} {q:Option Addr} {cells:List Value} {h:HP} (hh:(own e sz q m c cells).holds h) (hm:0<m):q.isSome=true:=by
 rcases hh.2 with ⟨_,h2,_⟩ | ⟨g,cur,rfl,_⟩
 ·omega
 ·rfl
theorem Chg.more {F F':Nat→Prop} {w w':World} (h:Chg F w w') (hF : ∀b,F b→F' b):Chg F' w w':=⟨h.os,h.tape,h.output,h.size,fun b hb hn=>h.same b hb fun hf=>hn (hF b hf)⟩
section
variable {P : Program} {ops : Array Oper} {Q : Exit → Act → World → Prop} {n : Nat} {B : World} {H0 H : HP} {rest : List Oper} {us : List (Nat × Value)} {L L' : List SA} {t : TypeId} {p : String} {af : Array Edge} {d : Nat} {x y : Operand} {R : Act → World → Prop}
theorem PR.eqv {op:Op} {v v':Value} (e:v=v') (h:PR P n B H0 us H L op t v):PR P n B H0 us H L op t v':=e ▸ h
theorem EN {ty e:TypeId} {k:IntKind} {q:Option Addr} {m c:Nat} {i:Int} {i':Nat} {cells:List Value} (hu:P.underlying ty=some (.slice e)) (hs:Size P e 1) (hx:opv us x=some (.slice q m c)) (hy:opv us y=some (.int k i)) (hi:i=(i':Int)) (hl:i'<m) (hat:At L (own e 1 q m c cells) (own e 1 q m c cells) L) :
 PR P n B H0 us H L (.indexAddr ty x y) t (ptr q i'):=fun d p af g a w hF hH=>JY hu hs hx hy hi hl (fun _=>own_some (hH.objs _ hat.mem).1 (by omega)) d p af g a w hF hH
theorem J.storeW {ty e:TypeId} {q:Option Addr} {m c k:Nat} {cells:List Value} {v:Value} (hx:opv us x=some (ptr q k)) (hy:opv us y=some v) (hv:v.cells = #[v]) (h1:v.oneCell'=true) (hs:Size P ty 1) (hl:k<m) (hat:At L (own e 1 q m c cells) (own e 1 q m c (cells.set k v)) L') (hk:J P ops Q n B H0 rest us H L'):J P ops Q n B H0 (⟨none,.store ty x y,t,p,af,none⟩::rest) us H L:=by
 refine J.unit fun a w hF hH=>?_;have hA:=(hH.objs _ hat.mem).1;obtain ⟨hc,h2⟩:=hA
 rcases h2 with ⟨_,h2,_⟩ | ⟨g,cur,rfl,hg,h3,h4,h5,h6⟩
 ·omega
 ·have hg':w.heap[g]? = some (.cells cur e (0,0)):=hg
  have hlk:k<cur.toList.length:=by simp;omega
  have hst:=run_storeCells_at P g k e [v] 0 cur w hg' (by simp;omega) (by simpa using h1);have hch:Chg (own e 1 (some (⟨g,0,none⟩:Addr)) m c cells).fp w (w.setRow g (cur.toList.set k v).toArray):=(chg_setRow (cs:=(cur.toList.set k v).toArray) hg').more fun b (hb:b=g)=>⟨⟨g,0,none⟩,rfl,hb.symm⟩;refine ⟨_,?_,hk a _ hF (hH.upd hat hch ?_ fun b hb=>?_)⟩
  ·simp only [Nat.add_zero] at hst
   have e1:ptr (some (⟨g,0,none⟩:Addr)) k = .pointer (some ⟨g,k,none⟩):=by simp [ptr,add_at]
   have e2:cur.toList.take k++[v]++cur.toList.drop (k+1)=cur.toList.set k v:=set_eq_take_drop _ _ _ hlk;have e3:cur.toList.take k++[v]++cur.toList.drop (k+[v].length)=cur.toList.set k v:=e2;rw [e3] at hst;rw [e1] at hx
   simp [execOp,Instr.storeAt,Instr.sureAddr,storeVar,hF.ev hx,hF.ev hy,hv,hs.run,hst]
  ·refine ⟨by simpa using hc,.inr ⟨g,_,rfl,setRow_heap w g cur _ e (0,0) hg',h3,h4,by simpa using h5,?_⟩⟩;simp only [List.toList_toArray];rw [List.take_set,h6]
  ·obtain ⟨q,hq,rfl⟩:=hb;have:=hp_lt hg;obtain rfl:q=⟨g,0,none⟩:=(Option.some.inj hq).symm;refine ⟨.inl ⟨_,rfl,rfl⟩,?_⟩
   simpa using this
theorem J.storeWI {ty e:TypeId} {q:Option Addr} {m c k:Nat} {xs:List Int} {v:Int} (hx:opv us x=some (ptr q k)) (hy:opv us y=some (.int .i64 v)) (hs:Size P ty 1) (hl:k<m)
 (hat:At L (own e 1 q m c (intsC xs)) (own e 1 q m c (intsC (xs.set k v))) L') (hk:J P ops Q n B H0 rest us H L'):J P ops Q n B H0 (⟨none,.store ty x y,t,p,af,none⟩::rest) us H L:=
 J.storeW hx hy rfl rfl hs hl (by rw [intsC_set];exact hat) hk
end
def l8C (cf:List Int→List Value) (ps:List (List Int)):List Value:=ps.flatMap cf
abbrev msC:List (List Int)→List Value:=l8C bytesC
structure Cf8 (cf:List Int→List Value):Prop where
 len : ∀p,(cf p).length=p.length
 one : ∀p,∀u∈cf p,u.oneCell'=true
theorem cf8B:Cf8 bytesC:=⟨bytesC_length,bytesC_one⟩
theorem l8C_app (cf:List Int→List Value) (a b:List (List Int)):l8C cf (a++b)=l8C cf a++l8C cf b:=by unfold l8C;rw [List.flatMap_append]
theorem l8C_one (cf:List Int→List Value) (p:List Int):l8C cf [p]=cf p:=by simp [l8C]
theorem l8C_get {cf:List Int→List Value} (hc:Cf8 cf) : ∀{ps:List (List Int)},(∀p∈ps,p.length=8)→∀{i:Nat},i<ps.length→∀{j:Nat} {v:Value},(cf (rw_ ps i))[j]? = some v→(l8C cf ps)[i * 8+j]? = some v
 | [],_,i,hi,_,_,_=>by simp at hi
 | t::ts,h,0,_,j,v,hj=>by
  have hj':(cf t)[j]? = some v:=hj
  show (cf t++l8C cf ts)[_]? = _
  rw [Nat.zero_mul,Nat.zero_add,List.getElem?_append_left (List.getElem?_eq_some_iff.1 hj').1]
  exact hj'
 | t::ts,h,i+1,hi,j,v,hj=>by
  have hl:=h t (by simp)
  have hcl:=hc.len t
  show (cf t++l8C cf ts)[_]? = _
  rw [List.getElem?_append_right (by omega),hcl,hl,show (i+1) * 8+j - 8=i * 8+j by omega]
  exact l8C_get hc (fun x hx=>h x (by simp [hx])) (by simpa using hi) hj
structure L8 (cf:List Int→List Value) (H:HP) (q:Option Addr) (ps:List (List Int)):Prop where
 len : ∀i,i<ps.length→(rw_ ps i).length=8
 clen : ∀p,(cf p).length=p.length
 cell : ∀i,i<ps.length→∀j v,(cf (rw_ ps i))[j]? = some v→cellO H q (i * 8+j)=some v
abbrev Monos (H:HP) (q:Option Addr) (ps:List (List Int)):Prop:=L8 bytesC H q ps
theorem L8.sm {cf:List Int→List Value} {H:HP} {q:Option Addr} {ps:List (List Int)} (h:L8 cf H q ps) {i:Nat} (hi:i<ps.length):q.isSome=true:=by
 have hl:(cf (rw_ ps i)).length=8:=by rw [h.clen,h.len i hi]
 exact cellO_some (h.cell i hi 0 _ (List.getElem?_eq_getElem (by omega)))
theorem rw_all {ps:List (List Int)} {φ:List Int→Prop} (h : ∀p∈ps,φ p) {i:Nat} (hi:i<ps.length):φ (rw_ ps i):=by
 have:rw_ ps i=ps[i]:=by simp [rw_,List.getD_eq_getElem?_getD,List.getElem?_eq_getElem hi]
 rw [this];exact h _ (List.getElem_mem hi)
theorem own_monos {e:TypeId} {m c:Nat} {q:Option Addr} {ps:List (List Int)} {h:HP} (hl : ∀p∈ps,p.length=8) (hh:(own e 8 q m c (msC ps)).holds h):Monos h q ps:=
 ⟨fun i hi=>rw_all hl hi,bytesC_length,fun i hi j v hj=>own_reads hh _ _ (l8C_get cf8B hl hi hj)⟩
section
variable {P : Program} {ops : Array Oper} {Q : Exit → Act → World → Prop} {n : Nat} {B : World} {H0 H : HP} {rest : List Oper} {us : List (Nat × Value)} {L L1 : List SA} {t : TypeId} {p : String} {af : Array Edge} {d : Nat} {x y : Operand}
theorem MK.lit8 {cf:List Int→List Value} {ty e:TypeId} {m:List Int} {z:List Value} (hc:Cf8 cf) (hu:P.underlying ty=some (.slice e)) (hz:Zero P e z) (hz8:z.length=8) (hs:Size P e 8) (hm:m.length=8) (hx:opv us x=some (.agg (cf m).toArray)):MK P n us H (.buildSlice ty 1 #[(0,x)]) t (fun q c=>.slice q 1 c) (fun q c=>own e 8 q 1 c (cf m)):=by
 have h:=MK.lit1 (P:=P) (n:=n) (H:=H) (t:=t) (z:=z) (cs:=cf m) hu hz (by rw [hz8];exact hs) (by rw [hz8];rfl) (by rw [hz8];rfl) hx rfl (by rw [hc.len,hm,hz8]);rw [hz8] at h;exact h
theorem J.append8 {cf:List Int→List Value} {ty e:TypeId} {q qt:Option Addr} {k c ct bytes:Nat} {ps:List (List Int)} {m:List Int} {z:List Value} (hc:Cf8 cf) (hu:P.underlying ty=some (.slice e)) (hz:Zero P e z) (hz8:z.length=8) (hs:Size P e 8) (hb:Bytes P e bytes) (hB:Nat.ble bytes 64=true) (hx:opv us x=some (.slice q k c)) (hy:opv us y=some (.slice qt 1 ct)) (hk:k≤1048576) (hr:Rm L (own e 8 qt 1 ct (cf m)) L1) (hat:At L1 (own e 8 q k c (l8C cf ps)) (own e 8 q k c (l8C cf ps)) L1) {L':Option Addr→Nat→List SA} (hat' : ∀q' c',At L1 (own e 8 q k c (l8C cf ps)) (own e 8 q' (k+1) c' (l8C cf (ps++[m]))) (L' q' c')) (hd:Nat.blt d n=true) (hkk : ∀q' c',J P ops Q n B H0 rest ((d,.slice q' (k+1) c')::us) H (own e 8 qt 1 ct (cf m)::L' q' c')):J P ops Q n B H0 (⟨some d,.call {callee:=.builtin .append,args:=#[x,y],argTypes:=#[ty,ty]},t,p,af,none⟩::rest) us H L:=by
 have hB':=Nat.le_of_ble_eq_true hB
 have hat2 : ∀q' c',At L1 (own e 8 q k c (l8C cf ps)) (own e 8 q' (k+1) c' (l8C cf ps++cf m)) (L' q' c'):=fun q' c'=>by
  have:=hat' q' c'
  rwa [l8C_app,l8C_one] at this
 rw [← hz8] at hr hat hat2 hkk;rw [← hz8] at hs;refine J.appendO (z:=z) (ds:=cf m) hu hz hs hb (by rw [hz8];rfl) hx hy (hc.one m) ?_ (by simp only [maxLen];omega) hr hat hat2 hd hkk
 calc (k+1) * bytes≤(k+1) * 64:=Nat.mul_le_mul_left _ hB'
  _≤140737488355328:=by omega
end
def capL (M:Nat) (a b:List Pw):List Pw:=a++b.take (M - a.length)
theorem capL_nil (M:Nat) (a:List Pw):capL M a []=a:=by simp [capL]
theorem capL_full {M:Nat} {a:List Pw} (h:M≤a.length) (b:List Pw):capL M a b=a:=by unfold capL;rw [show M - a.length=0 by omega,List.take_zero,List.append_nil]
theorem capL_app (M:Nat) (a b c:List Pw):capL M (capL M a b) c=capL M a (b++c):=by
 unfold capL;rw [List.append_assoc,List.take_append,List.length_append,List.length_take]
 congr 3
 omega
theorem capL_one {M:Nat} {a:List Pw} (h:a.length<M) (p:Pw):capL M a [p]=a++[p]:=by
 unfold capL;rw [List.take_of_length_le (by simp;omega)]
theorem capL_zero (M:Nat) (b:List Pw):capL M [] b=b.take M:=by simp [capL]
theorem enum_end {ds:List Int} {i:Nat} {m:Pw} {n:Int} (hi:i=ds.length):enumF (ds.drop i) i m n=if n=0 then [m] else []:=by
 subst hi;rw [List.drop_length]
 rfl
abbrev enS (ds:List Int) (i:Nat) (m:Pw) (n:Int):List Pw:=enumF (ds.drop i) i m n
def enG (ds:List Int) (i:Nat) (m:Pw) (n e:Int):List Pw:=enS ds (i+1) (m.set i e) (n - e * ds.getD i 0)
theorem enum_go {ds:List Int} {i:Nat} {m:Pw} {n:Int} (hi:i<ds.length):enS ds i m n=(dnL (topM (ds.getD i 0) n)).flatMap (enG ds i m n):=by
 unfold enS enG;rw [List.drop_eq_getElem_cons hi]
 have:ds.getD i 0=ds[i]:=by simp [List.getD_eq_getElem?_getD,List.getElem?_eq_getElem hi]
 rw [this]
 rfl
theorem enG_set {ds:List Int} {i:Nat} {m mm:Pw} {n e:Int} (h : ∀v:Int,mm.set i v=m.set i v):enS ds (i+1) (mm.set i e) (n - e * ds.getD i 0)=enG ds i m n e:=by unfold enG;rw [h]
structure EnI (ds:List Int) (i:Nat) (m:Pw) (n e:Int) (A:List Pw) (mm:Pw):Prop where
 len:mm.length=8
 set : ∀v:Int,mm.set i v=m.set i v
 eq:A++(dnL e).flatMap (enG ds i m n)=enS ds i m n
 lo : -1000001≤e
 hi:e≤topM (ds.getD i 0) n
theorem topM_20 (d n:Int):topM d n≤20:=by unfold topM;split <;> omega
theorem tdiv_b {n d:Int} (hd:1≤d) (hn : -1000000≤n∧n≤1000000) : -1000000≤n.tdiv d∧n.tdiv d≤1000000:=by
 rcases Int.le_total 0 n with h | h
 ·rw [Int.tdiv_eq_ediv_of_nonneg h];have h1:=Int.ediv_nonneg h (by omega:0≤d);have h2:=Int.ediv_le_self d h
  omega
 ·have e:n = -(-n):=by omega
  rw [e,Int.neg_tdiv,Int.tdiv_eq_ediv_of_nonneg (by omega)];have h1:=Int.ediv_nonneg (by omega:0≤ -n) (by omega:0≤d);have h2:=Int.ediv_le_self d (by omega:0≤ -n)
  omega
theorem topM_lo {d n:Int} (hd:1≤d) (hn : -1000000≤n∧n≤1000000) : -1000000≤topM d n:=by
 have:=tdiv_b hd hn;unfold topM
 split <;> omega
theorem EnI.start {ds:List Int} {i:Nat} {m:Pw} {n:Int} (hm:m.length=8) (hi:i<ds.length) (hd:1≤ds.getD i 0) (hn : -1000000≤n∧n≤1000000):EnI ds i m n (topM (ds.getD i 0) n) [] m:=
 ⟨hm,fun _=>rfl,by rw [enum_go hi];rfl,by have:=topM_lo hd hn;omega,Int.le_refl _⟩
theorem EnI.next {ds:List Int} {i:Nat} {m mm:Pw} {n e:Int} {A:List Pw} (h:EnI ds i m n e A mm) (he:0≤e):EnI ds i m n (e - 1) (A++enG ds i m n e) (mm.set i e):=
 ⟨by simpa using h.len,fun v=>by rw [List.set_set];exact h.set v,by rw [← h.eq,dnL_succ he,List.flatMap_cons,List.append_assoc],by omega,by have:=h.hi;omega⟩
theorem EnI.end {ds:List Int} {i:Nat} {m mm:Pw} {n e:Int} {A:List Pw} (h:EnI ds i m n e A mm) (he:e<0):A=enS ds i m n:=by
 rw [← h.eq,dnL_neg he]
 simp
theorem left_b {d n k:Int} (hd:1≤d∧d≤12) (hk:0≤k) (ht:k≤topM d n) (hn : -1000000≤n∧n≤1000000):(0≤k * d∧k * d≤240)∧ -1000000≤n - k * d∧n - k * d≤1000000:=by
 have h20:=topM_20 d n;have h0:0≤k * d:=Int.mul_nonneg hk (by omega);have h1:k * d≤20 * 12:=Int.mul_le_mul (by omega) hd.2 (by omega) (by omega);refine ⟨⟨h0,by omega⟩,?_,by omega⟩
 rcases Int.le_total 0 n with hn0 | hn0
 ·omega
 ·have h2:k=0:=by
   have h3:n.tdiv d≤0:=by
    have e:n = -(-n):=by omega
    rw [e,Int.neg_tdiv,Int.tdiv_eq_ediv_of_nonneg (by omega)];have:=Int.ediv_nonneg (by omega:0≤ -n) (by omega:0≤d)
    omega
   unfold topM at ht
   split at ht <;> omega
  rw [h2]
  omega
theorem min_if (i j:Int):(if j<i then j else i)=min i j:=by omega
theorem not_f {b:Bool} (h:(!b)=true):b=false:=by cases b <;> simp_all
theorem not_t {b:Bool} (h:(!b)=false):b=true:=by cases b <;> simp_all
theorem rep_get (n k:Nat):(List.replicate n (0:Int)).getD k 0=0:=by
 rw [List.getD_eq_getElem?_getD,List.getElem?_replicate]
 split <;> rfl
theorem mon_pok {ds:List Int} {n:Int} (h8:ds.length≤8) {p:Pw} (hp:p∈monS ds n):Pok 20 p:=by
 have h:=enumF_mem (by omega) rfl hp;refine ⟨h.1,fun j=>?_⟩
 by_cases hj:j<ds.length
 ·have:=h.2.2.1 j hj;rw [Nat.zero_add] at this
  omega
 ·have:=h.2.1 j (.inr (by omega));rw [this,show zP=List.replicate 8 0 from rfl,rep_get];omega
theorem mon_ex {ds:List Int} {n:Int} (h8:ds.length≤8) {p:Pw} (hp:p∈monS ds n) (hd : ∀j,j<ds.length→1≤ds.getD j 0∧ds.getD j 0≤12):Ex ds p:=by
 have h:=enumF_mem (by omega) rfl hp;refine ⟨fun i hi=>?_,fun i hi ho=>?_⟩
 ·have:=h.2.1 i (.inr (by omega));rw [this,show zP=List.replicate 8 0 from rfl,rep_get]
 ·have h1:=h.2.2.1 i hi;rw [Nat.zero_add] at h1;refine h1.2.2 ?_;have:=hd i hi;have:=tmod_two (d:=ds.getD i 0) (by omega)
  omega
theorem u125:Tryz.prog.underlying 125=some (TypeDesc.slice 50):=by kernel_rfl
theorem by50:Bytes Tryz.prog 50 8:=by unfold Bytes;kernel_rfl
theorem fn105:Fn Tryz.prog 105:=⟨_,Tryz.func105,by kernel_rfl,rfl⟩
theorem EnI.stop {ds:List Int} {i:Nat} {m mm:Pw} {n e:Int} {A acc:List Pw} (h:EnI ds i m n e A mm) (hl:401≤(capL 401 acc A).length):capL 401 acc A=capL 401 acc (enS ds i m n):=by
 rw [← h.eq,← capL_app,capL_full hl]
theorem EnI.stop2 {ds:List Int} {i:Nat} {m mm:Pw} {n e:Int} {A acc:List Pw} (h:EnI ds i m n e A mm) (he : ¬0≤e):capL 401 acc A=capL 401 acc (enS ds i m n):=by rw [← h.end (by omega)]
theorem topS_odd {d n:Int} (h0:1≤d) (h:d.tmod 2≠0):min (min (n.tdiv d) 1) 20=topM d n:=by
 have:=tmod_two (d:=d) (by omega);rw [topM,if_pos (by omega)]
 omega
theorem topS_even {d n:Int} (h : ¬d.tmod 2≠0):min (n.tdiv d) 20=topM d n:=by
 rw [topM,if_neg (by omega)]
theorem Mono.set {m:List Int} (h:Mono m) {i:Nat} {e:Int} (he:0≤e∧e≤255):Mono (m.set i e):=⟨by rw [List.length_set];exact h.len,fun j=>by
 rw [getD_set8]
 split
 ·exact he
 ·exact h.bd j⟩
structure EnB (ds:List Int) (i:Nat) (m:Pw) (n e:Int) (A:List Pw) (mm:Pw):Prop where
 en:EnI ds i m n e A mm
 mo:Mono mm
theorem l01FillX_c {B:World} {H0 H:HP} {L:List SA} {w:World} {qds:Option Addr} {cds:Nat} {ds:List Int} {m:List Int} {i:Nat} {n:Int} {qo:Option Addr} {co:Nat} {acc:List Pw} (hds:Ints H qds ds) (hm:Mono m) (hd : ∀j,j<ds.length→1≤ds.getD j 0∧ds.getD j 0≤12) (hi:i≤ds.length) (h8:ds.length≤8) (hn : -1000000≤n∧n≤1000000) (ha:acc.length≤400) (hrec:i<ds.length→∀(m':Pw) (n':Int) (acc':List Pw) (qo':Option Addr) (co':Nat),Mono m' → -1000000≤n' ∧n' ≤1000000→acc'.length≤400→∀(L:List SA) (w:World),Hp B H0 H (own 50 8 qo' acc'.length co' (msC acc')::L) w→Calls Tryz.prog 105 [.slice qds ds.length cds,.agg (bytesC m').toArray,.int .i64 ((i+1:Nat):Int),.int .i64 n',.slice qo' acc'.length co'].toArray w fun r w'=>∃q c,r = .returned (.slice q (capL 401 acc' (enS ds (i+1) m' n')).length c)∧Hp B H0 H (own 50 8 q (capL 401 acc' (enS ds (i+1) m' n')).length c (msC (capL 401 acc' (enS ds (i+1) m' n')))::L) w') (hH:Hp B H0 H (own 50 8 qo acc.length co (msC acc)::L) w):Calls Tryz.prog 105 [.slice qds ds.length cds,.agg (bytesC m).toArray,.int .i64 (i:Int),.int .i64 n,.slice qo acc.length co].toArray w fun e w'=>∃q c,e = .returned (.slice q (capL 401 acc (enS ds i m n)).length c)∧Hp B H0 H (own 50 8 q (capL 401 acc (enS ds i m n)).length c (msC (capL 401 acc (enS ds i m n)))::L) w':=by
 refine JB Tryz.func105 rfl 68 rfl rfl [(0,.slice qds ds.length cds),(1,.agg (bytesC m).toArray),(2,.int .i64 (i:Int)),(3,.int .i64 n),(4,.slice qo acc.length co)] rfl hH ?_;have hml:=hm.len;clear hH;refine Je fun _ hK1 _=>(Jb (Eg rfl rfl rfl fun g6=>(Jg (Jd rfl) rfl (Jf (Ja (hK1 (Je fun _ hK2 _=>(Je fun _ hK3 _=>(Jb (Jg (Jc rfl) rfl (Jg (Jc rfl) rfl (Jg (Jq u24 rfl rfl) rfl (Jg (Ef rfl rfl) rfl (Jf (Ja (hK3 ?_))))))))))))))));refine Jm rfl (fun h16=>?_) (fun h16=>?_)
 ·
  refine Je fun _ hK4 _=>(Je fun _ hK5 _=>(Jb (Jg (Jc rfl) rfl (Jg (Ef rfl rfl) rfl (Jf (Ja (hK5 (Jm rfl (fun h18=>?_) (fun h18=>?_)))))))))
  ·
   refine Je fun _ hK6 _=>(Jb (Jg (Jc rfl) rfl (Jg (Jn rfl At.z (by simpa [*] using ag50)) rfl (EY (MK.lit8 cf8B u125 ze50 rfl sz50 hm.len rfl) rfl fun qo21 co21=>(J.append8 cf8B u125 ze50 rfl sz50 by50 rfl rfl rfl (by omega) .z (.s .z) (fun _ _=>(.s .z)) rfl fun qo22 co22=>(Jg (Jd rfl) rfl (Jf (Ja (hK6 (Js (Ji (Ji (Ju rfl (Res.tmp rfl) fun w hH=>?_)))))))))))));replace hH:=hH.sublist (.cons _ (.cons _ (.cons_cons _ (List.Sublist.refl _))));rw [show enS ds i m n=[m] from by rw [enS,enum_end (by omega),if_pos h18],capL_one (by omega),List.length_append];exact ⟨qo22,co22,rfl,hH⟩
  ·
   refine Jk (Ja (hK4 (Je fun _ hK7 _=>(Jb (Jg (Jc rfl) rfl (Jg (Jd rfl) rfl (Jf (Ja (hK7 (Js (Ji (Ju rfl (Res.tmp rfl) fun w hH=>?_))))))))))));replace hH:=hH.sublist (.cons _ (.cons_cons _ (List.Sublist.refl _)));rw [show enS ds i m n=[] from by rw [enS,enum_end (by omega),if_neg h18],capL_nil];exact ⟨qo,co,rfl,hH⟩
 ·
  have hil:i<ds.length:=by omega
  have hdi:=hd i hil;have htb:=tdiv_b hdi.1 hn;have htt:=tmod_bd n;have hts:=topM_20 (ds.getD i 0) n;have htl:=topM_lo hdi.1 hn;refine Jk (Ja (hK2 (Je fun _ hK8 _=>(Jb (Jg (Jc rfl) rfl (Jg (Jc rfl) rfl (Jg (Jc rfl) rfl (Jg (JY u24 sz2 rfl rfl rfl hil hds.sm) rfl (Jg (JR rfl (hds _ hil) pl2) rfl (Jg (PR.quo rfl rfl (by omega) (nw _ (by omega))) rfl (Jg (Jd rfl) rfl (Jf (Ja (hK8 (ER (σ:=Int) (fun (t:Int)=>[(11,.int .i64 t)]) (fun (t:Int)=>H) (fun (t:Int)=>obj g6 (.cells (bytesC m).toArray 50 (0,0))::own 50 8 qo acc.length co (msC acc)::L) (fun (t:Int)=>min t 20=topM (ds.getD i 0) n) ?_ ?_)))))))))))))))
  ·
   intro _ hMt1;refine Je fun _ hK9 _=>(Jb (Jg (Jc rfl) rfl (Jg (Jc rfl) rfl (Jg (JY u24 sz2 rfl rfl rfl hil hds.sm) rfl (Jg (JR rfl (hds _ hil) pl2) rfl (Jg (EG rfl rfl (by decide) rfl) rfl (Jg (En rfl rfl) rfl (Jf (Ja (hK9 (Jm rfl (fun h35=>?_) (fun h35=>?_))))))))))))
   ·
    refine Jb (Jg (Jc rfl) rfl (Jg (PR.min2 rfl rfl) rfl (Jg (Jd rfl) rfl (Jf (Ja ?_)))));exact hMt1 (min (n.tdiv (ds.getD i 0)) 1) (topS_odd hdi.1 h35) 9 rfl rfl ⟨(vi (min_if _ _)),trivial⟩ rfl rfl
   ·
    refine Jk (Ja ?_);exact hMt1 (n.tdiv (ds.getD i 0)) (topS_even h35) 6 rfl rfl ⟨rfl,trivial⟩ rfl rfl
  ·
   rintro t ht;refine Je fun _ hK10 _=>(Je fun _ hK11 _=>(Jb (Jg (Jc rfl) rfl (Jg (PR.eqv (v':=.int .i64 (topM (ds.getD i 0) n)) (by rw [min_if,ht]) (PR.min2 rfl rfl)) rfl (Jg (Jd rfl) rfl (Jf (Ja (hK11 (Jp (JH (σ:=Int × List Pw × Pw × Option Addr × Nat) (fun ⟨e,A,mm,qo1,co1⟩=>[(12,.int .i64 e),(4,.slice qo1 (capL 401 acc A).length co1)]) (fun ⟨e,A,mm,qo1,co1⟩=>H) (fun ⟨e,A,mm,qo1,co1⟩=>obj g6 (.cells (bytesC mm).toArray 50 (0,0))::own 50 8 qo1 (capL 401 acc A).length co1 (msC (capL 401 acc A))::L) (fun ⟨e,A,mm,qo1,co1⟩=>EnB ds i m n e A mm) (fun ⟨e,A,mm,qo1,co1⟩=>(e+1).toNat) (topM (ds.getD i 0) n, [],m,qo,co) ⟨EnI.start hm.len hil hdi.1 hn,hm⟩ ⟨rfl,⟨(by rw [capL_nil];rfl),trivial⟩⟩ rfl (by dsimp only;rw [capL_nil]) ?_))))))))));rintro ⟨e,A,mm,qo1,co1⟩ hI _ hAg0;have hen:=hI.en;have hlo:=hen.lo;have hhi:=hen.hi;have hmml:=hI.mo.len;refine Je fun _ hK12 _=>(Je fun _ hK13 _=>(Jb (Jg (Jc rfl) rfl (Jg (PR.geq rfl rfl) rfl (Jg (Jc rfl) rfl (JZ (jd:=42) rfl (fun h41=>?_) (fun h41=>?_)))))))
   ·
    try have h41p:=of_decide_eq_true h41
    refine JK (Jc rfl) rfl rfl rfl h41 (JK (Jq u125 rfl rfl) rfl rfl rfl h41 (JK (PR.leq rfl rfl) rfl rfl rfl h41 (Jg (JP rfl h41 rfl) rfl (Jf (Ja (hK13 (Jm rfl (fun h45p=>?_) (fun h45p=>?_))))))))
    ·
     have hlb:=left_b hdi h41p hhi hn;have hmo:=hI.mo.set (i:=i) (e:=e) (by omega);refine Jk (Ja (hK12 (Je fun _ hK14 _=>(Jp (Je fun _ hK15 _=>(Jb (Jg (Jc rfl) rfl (Jg (Jc rfl) rfl (Jg (EC u2 u5 rfl (u8_id (by omega))) rfl (Jg (JW u50 sz5 rfl rfl rfl (by omega)) rfl (ES rfl rfl sz5 (by simp [*];omega) At.z (Jf (Ja (hK15 (Ev (Rs:=[_,_]) 15 [[], [], [], [2], [], [], [], [], [6,7], [6,7,8], [5,6,7,8,9], [4,5,6,7,8,9,10], [], [0,1,2,3,4,5,6,7,8,9,10,11,12], [0,1,2,3,4,5,6,7,8,9,10,11,12,13]] [[], [15], [], [], [], [], [], [], [], [], [], [], [], [], []] [[], [], [], [], [], [], [], [], [], [], [], [], [], [16], []] rfl rfl (by kernel_rfl) ?_)))))))))))))));apply Jw 1 rfl
     iterate 3 focus (intros;(conv=>lhs;simp only [Jj,JA,JX,JC,JU,eq_self,reduceEqDiff,reduceIte,reduceSub,reduceAdd,JxA,JxB]);all_goals rfl)
     ·
      intro gh X K zq zc zq2 zc2 zb zv hK;refine Jg (Jc rfl) rfl (Jo ?_);exact hK zq zc zq2 zc2 zb zv
     ·
      intro gh gh' h
      rfl
     apply Jw 2 rfl
     iterate 3 focus (intros;(conv=>lhs;simp only [Jj,JA,JX,JC,JU,eq_self,reduceEqDiff,reduceIte,reduceSub,reduceAdd,JxA,JxB]);all_goals rfl)
     ·
      intro gh X K zq zc zq2 zc2 zb zv hK;refine Jg (Jn rfl At.z (by simpa [*] using ag50)) rfl (Jo ?_);exact hK zq zc zq2 zc2 zb zv
     ·
      intro gh gh' h
      rfl
     apply Jw 3 rfl
     iterate 3 focus (intros;(conv=>lhs;simp only [Jj,JA,JX,JC,JU,eq_self,reduceEqDiff,reduceIte,reduceSub,reduceAdd,JxA,JxB]);all_goals rfl)
     ·
      intro gh X K zq zc zq2 zc2 zb zv hK;refine Jg (Jc rfl) rfl (Jo ?_);exact hK zq zc zq2 zc2 zb zv
     ·
      intro gh gh' h
      rfl
     apply Jw 4 rfl
     iterate 3 focus (intros;(conv=>lhs;simp only [Jj,JA,JX,JC,JU,eq_self,reduceEqDiff,reduceIte,reduceSub,reduceAdd,JxA,JxB]);all_goals rfl)
     ·
      intro gh X K zq zc zq2 zc2 zb zv hK;refine Jg (Jy rfl rfl (by first | exact nw _ (by omega) | rfl)) rfl (Jo ?_);exact hK zq zc zq2 zc2 zb zv
     ·
      intro gh gh' h
      rfl
     apply Jw 5 rfl
     iterate 3 focus (intros;(conv=>lhs;simp only [Jj,JA,JX,JC,JU,eq_self,reduceEqDiff,reduceIte,reduceSub,reduceAdd,JxA,JxB]);all_goals rfl)
     ·
      intro gh X K zq zc zq2 zc2 zb zv hK;refine Jg (Jc rfl) rfl (Jo ?_);exact hK zq zc zq2 zc2 zb zv
     ·
      intro gh gh' h
      rfl
     apply Jw 6 rfl
     iterate 3 focus (intros;(conv=>lhs;simp only [Jj,JA,JX,JC,JU,eq_self,reduceEqDiff,reduceIte,reduceSub,reduceAdd,JxA,JxB]);all_goals rfl)
     ·
      intro gh X K zq zc zq2 zc2 zb zv hK;refine Jg (Jc rfl) rfl (Jo ?_);exact hK zq zc zq2 zc2 zb zv
     ·
      intro gh gh' h
      rfl
     apply Jw 7 rfl
     iterate 3 focus (intros;(conv=>lhs;simp only [Jj,JA,JX,JC,JU,eq_self,reduceEqDiff,reduceIte,reduceSub,reduceAdd,JxA,JxB]);all_goals rfl)
     ·
      intro gh X K zq zc zq2 zc2 zb zv hK;refine Jg (Jc rfl) rfl (Jo ?_);exact hK zq zc zq2 zc2 zb zv
     ·
      intro gh gh' h
      rfl
     apply Jw 8 rfl
     iterate 3 focus (intros;(conv=>lhs;simp only [Jj,JA,JX,JC,JU,eq_self,reduceEqDiff,reduceIte,reduceSub,reduceAdd,JxA,JxB]);all_goals rfl)
     ·
      intro gh X K zq zc zq2 zc2 zb zv hK;refine Jg (Jc rfl) rfl (Jo ?_);exact hK zq zc zq2 zc2 zb zv
     ·
      intro gh gh' h
      rfl
     apply Jw 9 rfl
     iterate 3 focus (intros;(conv=>lhs;simp only [Jj,JA,JX,JC,JU,eq_self,reduceEqDiff,reduceIte,reduceSub,reduceAdd,JxA,JxB]);all_goals rfl)
     ·
      intro gh X K zq zc zq2 zc2 zb zv hK;refine Jg (JY u24 sz2 rfl rfl rfl hil hds.sm) rfl (Jo ?_);exact hK zq zc zq2 zc2 zb zv
     ·
      intro gh gh' h
      rfl
     apply Jw 10 rfl
     iterate 3 focus (intros;(conv=>lhs;simp only [Jj,JA,JX,JC,JU,eq_self,reduceEqDiff,reduceIte,reduceSub,reduceAdd,JxA,JxB]);all_goals rfl)
     ·
      intro gh X K zq zc zq2 zc2 zb zv hK;refine Jg (JR rfl (hds _ hil) pl2) rfl (Jo ?_);exact hK zq zc zq2 zc2 zb zv
     ·
      intro gh gh' h
      rfl
     apply Jw 11 rfl
     iterate 3 focus (intros;(conv=>lhs;simp only [Jj,JA,JX,JC,JU,eq_self,reduceEqDiff,reduceIte,reduceSub,reduceAdd,JxA,JxB]);all_goals rfl)
     ·
      intro gh X K zq zc zq2 zc2 zb zv hK;refine Jg (EV rfl rfl (nw _ (by omega))) rfl (Jo ?_);exact hK zq zc zq2 zc2 zb zv
     ·
      intro gh gh' h
      rfl
     apply Jw 12 rfl
     iterate 3 focus (intros;(conv=>lhs;simp only [Jj,JA,JX,JC,JU,eq_self,reduceEqDiff,reduceIte,reduceSub,reduceAdd,JxA,JxB]);all_goals rfl)
     ·
      intro gh X K zq zc zq2 zc2 zb zv hK;refine Jg (EZ rfl rfl (nw _ (by omega))) rfl (Jo ?_);exact hK zq zc zq2 zc2 zb zv
     ·
      intro gh gh' h
      rfl
     apply Jw 13 rfl
     iterate 3 focus (intros;(conv=>lhs;simp only [Jj,JA,JX,JC,JU,eq_self,reduceEqDiff,reduceIte,reduceSub,reduceAdd,JxA,JxB]);all_goals rfl)
     ·
      intro gh X K zq zc zq2 zc2 zb zv hK;refine Jg (Jc rfl) rfl (Jo ?_);exact hK zq zc zq2 zc2 zb zv
     ·
      intro gh gh' h
      rfl
     apply Eq 14 rfl
     iterate 3 focus (intros;(conv=>lhs;simp only [Jj,JA,JX,JC,JU,eq_self,reduceEqDiff,reduceIte,reduceSub,reduceAdd,JxA,JxB]);all_goals rfl)
     ·
      intro gh X K zq zc zq2 zc2 zb zv hK;refine Jx fn105 rfl rfl fun w hH=>(hrec hil (mm.set i e) (n - e * ds.getD i 0) (capL 401 acc A) qo1 co1 hmo hlb.2 (by omega) _ _ (hH.front .z)).mono ?_;rintro _ w ⟨qo66,co66,rfl,hH⟩;refine ⟨_,rfl,fun a hF=>JQ hF hH ?_⟩;refine Jo ?_;exact hK qo66 co66 zq2 zc2 zb zv
     ·
      intro gh gh' h;refine ⟨?_,?_⟩ <;> rfl
     apply Jw 15 rfl
     iterate 3 focus (intros;(conv=>lhs;simp only [Jj,JA,JX,JC,JU,eq_self,reduceEqDiff,reduceIte,reduceSub,reduceAdd,JxA,JxB]);all_goals rfl)
     ·
      intro gh X K zq zc zq2 zc2 zb zv hK;refine Jg (Jd rfl) rfl (Jo ?_);exact hK zq zc zq2 zc2 zb zv
     ·
      intro gh gh' h
      first | simp only [h 13 rfl] | rfl
     apply Eu [0,1,2,3,4,5,6,7,8,9,10,11,12,13,14] [0,1,2,3,4,5,6,7,8,9,10,11,12,13,14,15] foll0 rfl rfl rfl (by rfl)
     iterate 2 focus (intros;(conv=>lhs;simp only [Jj,JA,JX,JC,JU,eq_self,reduceEqDiff,reduceIte,reduceSub,reduceAdd,JxA,JxB]);all_goals rfl)
     intro gh;generalize (gh 13).c=co66;generalize (gh 13).q=qo66;clear gh;refine JD (Ja (hK14 (Jb (Jg (Jc rfl) rfl (Jg (EZ rfl rfl (by first | exact nw _ (by omega) | rfl)) rfl (Jg (Jd rfl) rfl (Jf (Ja (Jh .z (Jh (.s .z) ?_))))))))));exact hAg0 (e - 1,A++enG ds i m n e,mm.set i e,qo66,co66) ⟨hen.next h41p,hmo⟩ (by show (e - 1+1).toNat<(e+1).toNat;omega) 31 rfl rfl ⟨rfl,⟨(by rw [← capL_app,← enG_set hen.set];rfl),trivial⟩⟩ rfl (by dsimp only;rw [← capL_app,← enG_set hen.set])
    ·
     refine JI (Jl (Jl (JT (Ja (hK10 (Je fun _ hK16 _=>(Jb (Jg (Jc rfl) rfl (Jg (Jd rfl) rfl (Jf (Ja (hK16 (Js (Ju rfl (Res.tmp rfl) fun w hH=>?_))))))))))))));replace hH:=hH.sublist (.cons _ (.cons_cons _ (List.Sublist.refl _)));rw [← hen.stop (by omega)];exact ⟨_,_,rfl,hH⟩
   ·
    try have h41p:=of_decide_eq_false h41
    refine JE rfl rfl rfl h41 (JE rfl rfl rfl h41 (JE rfl rfl rfl h41 (Jg (JN rfl h41 rfl) rfl (Jf (Ja (hK13 (Ew rfl (JI (Jl (Jl (JT (Ja (hK10 (Je fun _ hK17 _=>(Jb (Jg (Jc rfl) rfl ?_))))))))))))))));refine Jg (Jd rfl) rfl (Jf (Ja (hK17 (Js (Ju rfl (Res.tmp rfl) fun w hH=>?_)))));replace hH:=hH.sublist (.cons _ (.cons_cons _ (List.Sublist.refl _)));rw [← hen.stop2 h41p];exact ⟨_,_,rfl,hH⟩
theorem l01Fill_n {B:World} {H0 H:HP} {qds:Option Addr} {cds:Nat} {ds:List Int} (hds:Ints H qds ds) (hd : ∀j,j<ds.length→1≤ds.getD j 0∧ds.getD j 0≤12) (h8:ds.length≤8) : ∀(k i:Nat) (m:Pw) (n:Int) (acc:List Pw) (qo:Option Addr) (co:Nat),ds.length - i≤k→i≤ds.length→Mono m→ -1000000≤n∧n≤1000000→acc.length≤400→∀(L:List SA) (w:World),Hp B H0 H (own 50 8 qo acc.length co (msC acc)::L) w→Calls Tryz.prog 105 [.slice qds ds.length cds,.agg (bytesC m).toArray,.int .i64 (i:Int),.int .i64 n,.slice qo acc.length co].toArray w fun r w'=>∃q c,r = .returned (.slice q (capL 401 acc (enS ds i m n)).length c)∧Hp B H0 H (own 50 8 q (capL 401 acc (enS ds i m n)).length c (msC (capL 401 acc (enS ds i m n)))::L) w'
 | 0,i,m,n,acc,qo,co,hk,hi,hm,hn,ha,L,w,hH=>l01FillX_c hds hm hd hi h8 hn ha (fun h=>by omega) hH
 | k+1,i,m,n,acc,qo,co,hk,hi,hm,hn,ha,L,w,hH=>l01FillX_c hds hm hd hi h8 hn ha (fun h m' n' acc' qo' co' h1 h2 h3 L w hH=>l01Fill_n hds hd h8 k (i+1) m' n' acc' qo' co' (by omega) (by omega) h1 h2 h3 L w hH) hH
def monT (ds:List Int) (n:Int):List Pw:=(monS ds n).take 401
theorem mon_capS (ds:List Int) (n:Int) (m:Pw) (hm:m=zP):capL 401 [] (enS ds 0 m n)=monT ds n:=by
 subst hm;rw [capL_zero]
 rfl
theorem monT_len (ds:List Int) (n:Int):(monT ds n).length≤401:=by unfold monT;rw [List.length_take];omega
theorem Mono.zP:Mono zP:=⟨rfl,fun j=>by rw [show G.zP=List.replicate 8 0 from rfl,rep_get];omega⟩
theorem l01Monomials_c {B:World} {H0 H:HP} {L:List SA} {w:World} {qds:Option Addr} {cds:Nat} {ds:List Int} {n:Int} (hds:Ints H qds ds) (hd : ∀j,j<ds.length→1≤ds.getD j 0∧ds.getD j 0≤12) (h8:ds.length≤8) (hn : -1000000≤n∧n≤1000000) (hH:Hp B H0 H L w):Calls Tryz.prog 93 [.slice qds ds.length cds,.int .i64 n].toArray w fun e w'=>∃q c,e = .returned (.slice q (monT ds n).length c)∧Hp B H0 H (own 50 8 q (monT ds n).length c (msC (monT ds n))::L) w':=by
 refine JB Tryz.func93 rfl 9 rfl rfl [(0,.slice qds ds.length cds),(1,.int .i64 n)] rfl hH ?_;clear hH;refine Je fun _ hK1 _=>(Jb (Jg (Jd rfl) rfl (Jf (Ja (hK1 (Je fun _ hK2 _=>(Jb (Jg (Jc rfl) rfl (Jg (Ea bz50) rfl (Jg (Jc rfl) rfl (ED 50 8 (Jx fn105 rfl rfl fun w hH=>(l01Fill_n hds hd h8 ds.length 0 zP n [] none 0 (by omega) (by omega) Mono.zP hn (by simp) _ _ hH).mono ?_))))))))))));rintro _ w ⟨qo2,co2,rfl,hH⟩;refine ⟨_,rfl,fun a hF=>JQ hF hH ?_⟩;refine Jg (Jd rfl) rfl (Jf (Ja (hK2 (Js (Ju rfl (Res.tmp rfl) fun w hH=>?_)))));replace hH:=hH.sublist (.cons_cons _ (List.Sublist.refl _));rw [mon_capS _ _ _ rfl] at hH ⊢;exact ⟨qo2,co2,rfl,hH⟩
abbrev sV (l:List UInt8):Value:=.string ⟨l.toArray⟩
section
variable {P : Program} {ops : Array Oper} {Q : Exit → Act → World → Prop} {n : Nat} {B : World} {H0 H : HP} {rest : List Oper} {us : List (Nat × Value)} {L L' : List SA} {t xt yt : TypeId} {p : String} {af : Array Edge} {d : Nat} {x y : Operand}
theorem EP {a b:List UInt8} (hx:opv us x=some (sV a)) (hy:opv us y=some (sV b)) (hl:a.length+b.length≤9223372036854775807):PR P n B H0 us H L (.binOp .add xt x y yt) t (sV (a++b)):=
 fun _ _ _ _ ac w hF _=>by
  have h1:=run_string_add_sum (P:=P) w ⟨a.toArray⟩ ⟨b.toArray⟩ (by simp [ByteArray.size];omega)
  rw [ByteArray.mk_append_mk] at h1
  simp only [execOp,hF.ev hx,hF.ev hy,binOp_string_add]
  simp [eqGuard,h1]
theorem PR.strEql {a b:List UInt8} (hx:opv us x=some (sV a)) (hy:opv us y=some (sV b)):PR P n B H0 us H L (.binOp .eql xt x y yt) t (.bool (decide (a=b))):=
 fun _ _ _ _ ac w hF _=>by
  simp only [execOp,hF.ev hx,hF.ev hy,binOp_string_eql,ByteArray.toList_mk]
  have he:(a == b)=decide (a=b):=by by_cases h:a=b <;> simp [h]
  simp [eqGuard,he]
theorem PR.strNeq {a b:List UInt8} (hx:opv us x=some (sV a)) (hy:opv us y=some (sV b)):PR P n B H0 us H L (.binOp .neq xt x y yt) t (.bool (decide (a≠b))):=
 fun _ _ _ _ ac w hF _=>by
  have hb:binOp .neq xt (sV a) (sV b)=pure (.bool !(a == b)):=by simp [binOp,Op.stringOp]
  simp only [execOp,hF.ev hx,hF.ev hy,hb]
  have he:(!(a == b))=decide (a≠b):=by by_cases h:a=b <;> simp [h]
  rw [he]
  simp [eqGuard]
theorem PR.str1 {e:TypeId} {q:Option Addr} {c:Nat} {v:Int} (hs:P.underlying xt=some (.slice e)) (he:P.underlying e=some (.int .u8)) (hd:P.underlying yt=some .string) (hx:opv us x=some (.slice q 1 c)) (hat:At L (own e 1 q 1 c [.int .u8 v]) (own e 1 q 1 c [.int .u8 v]) L) (hv:0≤v∧v≤255):PR P n B H0 us H L (.convert xt yt x) t (sV [UInt8.ofNat v.toNat]):=
 fun _ _ _ _ ac w hF hH=>by
  have h1:=own_reads (hH.objs _ hat.mem).1 0 _ rfl
  cases q with
  | none=>simp [cellO] at h1
  | some a=>
   have h2:=run_convert_bytes_back (P:=P) w xt yt e a c [UInt8.ofNat v.toNat] hs he hd fun j hj=>by
    obtain rfl:j=0:=by simpa using hj
    have h3:w.cell? (a.add 0)=some (.int .u8 v):=h1
    rw [h3]
    have h4:v.toNat % 256=v.toNat:=by omega
    simp [UInt8.toNat_ofNat,h4]
    omega
   simp only [List.length_singleton] at h2
   simp [execOp,hF.ev hx,h2]
end
theorem stm_eq {xs:List Term} {j:Nat} (hj:j<xs.length):xs[j]=tm xs j:=by simp [tm,List.getD_eq_getElem?_getD,List.getElem?_eq_getElem hj]
theorem stm_take {ts:List Term} {k:Nat} (hk:k<ts.length):ts.take (k+1)=ts.take k++[tm ts k]:=by rw [List.take_succ_eq_append_getElem hk,stm_eq hk]
def decL (n:Int):List UInt8:=Lib.decDigits n.toNat
theorem decL_small {n:Int} (h:0≤n) (h1:n<10):decL n=[UInt8.ofNat (48+n).toNat]:=by
 unfold decL;rw [Lib.decDigits_one (by omega)]
 congr 2
 omega
theorem decL_big {n:Int} (h:0≤n) (h1 : ¬n<10):decL n=decL (n.tdiv 10)++[UInt8.ofNat (48+n.tmod 10).toNat]:=by
 have e1:(n.tdiv 10).toNat=n.toNat / 10:=by rw [Int.tdiv_eq_ediv_of_nonneg h];omega
 have e2:(48+n.tmod 10).toNat=48+n.toNat % 10:=by rw [Int.tmod_eq_emod_of_nonneg h];omega
 unfold decL;rw [e1,e2,Lib.decDigits,dif_neg (by omega)]
theorem nDigits_le : ∀(k u:Nat),u<10 ^ k→1≤k→Lib.nDigits u≤k
 | 0,_,_,h=>by omega
 | k+1,u,h,_=>by
  by_cases hu:u<10
  ·rw [Lib.nDigits_small hu];omega
  ·rw [Lib.nDigits_big hu]
   rw [Nat.pow_succ] at h
   have hk:1≤k:=by
    rcases Nat.eq_zero_or_pos k with h0 | h0
    ·subst h0;simp at h;omega
    ·exact h0
   have:=nDigits_le k (u / 10) (by omega) hk
   omega
theorem decL_len {n:Int} (h:0≤n) (h1:n≤9223372036854775807):(decL n).length≤19:=by
 unfold decL;rw [Lib.decDigits_length];exact nDigits_le 19 _ (by have h9:(10:Nat) ^ 19=10000000000000000000:=(by decide);omega) (by omega)
def letT (m:List Int) (i:Nat):List UInt8:=(if 0<m.getD i 0 then [UInt8.ofNat (97+(i:Int)).toNat] else [])++(if 1<m.getD i 0 then decL (m.getD i 0) else [])
def mnT (m:List Int):Nat→List UInt8
 | 0=>[]
 | i+1=>mnT m i++letT m i
theorem mnT_len {m:List Int} (h : ∀j,0≤m.getD j 0∧m.getD j 0≤255) : ∀k,(mnT m k).length≤20 * k
 | 0=>by simp [mnT]
 | k+1=>by
  have h1:=mnT_len h k
  have h2:=decL_len (h k).1 (by have:=h k;omega)
  have h3:(letT m k).length≤20:=by
   unfold letT
   rw [List.length_append]
   split <;> split <;> simp only [List.length_singleton,List.length_nil] <;> omega
  simp only [mnT,List.length_append]
  omega
theorem mnT_yy {m:List Int} {i:Nat} (h1:0<m.getD i 0) (h2:1<m.getD i 0):(mnT m i++[UInt8.ofNat (97+(i:Int)).toNat])++decL (m.getD i 0)=mnT m (i+1):=by
 simp only [mnT,letT];rw [if_pos h1,if_pos h2,List.append_assoc]
theorem mnT_yn {m:List Int} {i:Nat} (h1:0<m.getD i 0) (h2 : ¬1<m.getD i 0):mnT m i++[UInt8.ofNat (97+(i:Int)).toNat]=mnT m (i+1):=by
 simp only [mnT,letT];rw [if_pos h1,if_neg h2,List.append_nil]
theorem mnT_nn {m:List Int} {i:Nat} (h1 : ¬0<m.getD i 0):mnT m i=mnT m (i+1):=by
 simp only [mnT,letT];rw [if_neg h1,if_neg (by omega),List.append_nil,List.append_nil]
def nameT (m:List Int):List UInt8:=if mnT m 8=[] then [49] else mnT m 8
theorem nameT_len {m:List Int} (h : ∀j,0≤m.getD j 0∧m.getD j 0≤255):(nameT m).length≤160:=by
 unfold nameT
 split
 ·simp
 ·exact mnT_len h 8
def termT (t:Term):List UInt8:=(decL t.fac++[42])++nameT t.mono
def textT (ts:List Term):List UInt8:=if ts.length=0 then [48] else Lib.join (ts.map termT) [43]
def preT (ts:List Term):Nat→List UInt8
 | 0=>[]
 | k+1=>(if 0<k then preT ts k++[43] else preT ts k)++termT (tm ts k)
theorem joinTail_app (sep:List UInt8) : ∀(r:List (List UInt8)) (x:List UInt8),Lib.joinTail sep (r++[x])=Lib.joinTail sep r++sep++x:=fun r x=>by
 unfold Lib.joinTail
 rw [List.map_append,List.flatten_append]
 simp
theorem join_app (sep x:List UInt8) : ∀{r:List (List UInt8)},r≠ []→Lib.join (r++[x]) sep=Lib.join r sep++sep++x
 | [],h=>absurd rfl h
 | a::r,_=>by
  rw [JxA,Lib.join_cons,Lib.join_cons,joinTail_app]
  simp [List.append_assoc]
theorem preT_join {ts:List Term} : ∀{k:Nat},k≤ts.length→preT ts k=Lib.join ((ts.take k).map termT) [43]
 | 0,_=>by simp [preT,Lib.join_nil]
 | k+1,h=>by
  rw [stm_take (by omega),List.map_append,List.map_singleton]
  simp only [preT]
  by_cases hk:0<k
  ·rw [if_pos hk,join_app _ _ (by intro e;have h9:=congrArg List.length e;rw [List.length_map,List.length_take_of_le (by omega)] at h9;simp only [List.length_nil] at h9;omega),← preT_join (k:=k) (by omega)]
  ·obtain rfl:k=0:=by omega
   rw [if_neg hk]
   simp [preT,Lib.join_one]
theorem preT_end (ts:List Term) (h : ¬ts.length=0):preT ts ts.length=textT ts:=by
 rw [preT_join (Nat.le_refl _),List.take_length];unfold textT;rw [if_neg h]
theorem termT_len {ts:List Term} (hw:Wfs ts) (hf : ∀i,i<ts.length→0≤(tm ts i).fac) {i:Nat} (hi:i<ts.length):(termT (tm ts i)).length≤200:=by
 have hm:=hw (tm ts i) (by rw [← stm_eq hi];exact List.getElem_mem hi);have h1:=decL_len (hf i hi) hm.fac.2;have h2:=nameT_len hm.mono.bd;unfold termT;simp only [List.length_append,List.length_singleton]
 omega
theorem preT_len {ts:List Term} (hw:Wfs ts) (hf : ∀i,i<ts.length→0≤(tm ts i).fac) : ∀{k:Nat},k≤ts.length→(preT ts k).length≤201 * k
 | 0,_=>by simp [preT]
 | k+1,h=>by
  have h1:=preT_len hw hf (k:=k) (by omega)
  have h2:=termT_len hw hf (i:=k) (by omega)
  simp only [preT,List.length_append]
  split
  ·simp only [List.length_append,List.length_singleton];omega
  ·omega
theorem u22:Tryz.prog.underlying 22=some (TypeDesc.slice 5):=by kernel_rfl
theorem u9:Tryz.prog.underlying 9=some (TypeDesc.string):=by kernel_rfl
theorem ze5:Zero Tryz.prog 5 [.int .u8 0]:=by unfold Zero;kernel_rfl
theorem fn116:Fn Tryz.prog 116:=⟨_,Tryz.func116,by kernel_rfl,rfl⟩
theorem fn117:Fn Tryz.prog 117:=⟨_,Tryz.func117,by kernel_rfl,rfl⟩
theorem su8_id {x:Int} (h:0≤x∧x≤255):IntKind.u8.wrap x=x:=by simp [IntKind.wrap,IntKind.signed,IntKind.bits];omega
theorem l01DecX_c {B:World} {H0 H:HP} {L:List SA} {w:World} {x:Int} (hx:0≤x∧x≤9223372036854775807) (hrec : ∀y:Int,y=x.tdiv 10→10≤x→∀(L:List SA) (w:World),Hp B H0 H L w→Calls Tryz.prog 116 [.int .i64 y].toArray w fun r w'=>r = .returned (sV (decL y))∧Hp B H0 H L w') (hH:Hp B H0 H L w):Calls Tryz.prog 116 [.int .i64 x].toArray w fun e w'=>e = .returned (sV (decL x))∧Hp B H0 H L w':=by
 refine JB Tryz.func116 rfl 20 rfl rfl [(0,.int .i64 x)] rfl hH ?_;clear hH
 have hr0:0≤x.tmod 10∧x.tmod 10≤9:=by rw [Int.tmod_eq_emod_of_nonneg hx.1];omega
 have hq0:0≤x.tdiv 10∧x.tdiv 10≤x:=by rw [Int.tdiv_eq_ediv_of_nonneg hx.1];omega
 have hl9:=decL_len (n:=x.tdiv 10) hq0.1 (by omega);refine Je fun _ hK1 _=>(Jb (Jg (Jd rfl) rfl (Jf (Ja (hK1 (Je fun _ hK2 _=>(Je fun _ hK3 _=>(Jb (Jg (Jc rfl) rfl (Jg (JV rfl rfl) rfl (Jf (Ja (hK3 (Jm rfl (fun h4=>?_) (fun h4=>?_)))))))))))))))
 ·
  refine Je fun _ hK4 _=>(Jb (Jg (Jc rfl) rfl (Jg (Jy rfl rfl (by first | exact nw _ (by omega) | rfl)) rfl (Jg (EC u2 u5 rfl (su8_id (by omega))) rfl (EY (EI u22 ze5 sz5 rfl rfl) rfl fun qo8 co8=>(Jg (PR.str1 u22 u5 u9 rfl At.z (by omega)) rfl (Jg (Jd rfl) rfl (Jf (Ja (hK4 (Js (Ji (Ju rfl (Res.tmp rfl) fun w hH=>?_)))))))))))));replace hH:=hH.tail;exact ⟨by rw [decL_small hx.1 (by omega)],hH⟩
 ·
  refine Jk (Ja (hK2 (Je fun _ hK5 _=>(Ev (Rs:=[]) 11 [[], [0], [0,1], [], [3], [3,4], [3,4,5], [3,4,5,6], [3,4,5,6,7], [0,1,2,3,4,5,6,7,8], [0,1,2,3,4,5,6,7,8,9]] [[], [], [], [], [], [], [], [], [7], [], []] [[], [], [], [], [], [], [], [], [], [], []] rfl rfl (by kernel_rfl) ?_))));apply Jw 1 rfl
  iterate 3 focus (intros;(conv=>lhs;simp only [Jj,JA,JX,JC,JU,eq_self,reduceEqDiff,reduceIte,reduceSub,reduceAdd,JxA,JxB]);all_goals rfl)
  ·
   intro gh X K zq zc zq2 zc2 zb zv hK;refine Jg (Jc rfl) rfl (Jo ?_);exact hK zq zc zq2 zc2 zb zv
  ·
   intro gh gh' h
   rfl
  apply Jw 2 rfl
  iterate 3 focus (intros;(conv=>lhs;simp only [Jj,JA,JX,JC,JU,eq_self,reduceEqDiff,reduceIte,reduceSub,reduceAdd,JxA,JxB]);all_goals rfl)
  ·
   intro gh X K zq zc zq2 zc2 zb zv hK;refine Jg (PR.quo rfl rfl (by decide) (nw _ (by omega))) rfl (Jo ?_);exact hK zq zc zq2 zc2 zb zv
  ·
   intro gh gh' h
   rfl
  apply Jw 3 rfl
  iterate 3 focus (intros;(conv=>lhs;simp only [Jj,JA,JX,JC,JU,eq_self,reduceEqDiff,reduceIte,reduceSub,reduceAdd,JxA,JxB]);all_goals rfl)
  ·
   intro gh X K zq zc zq2 zc2 zb zv hK;refine Jx fn116 rfl rfl fun w hH=>(hrec _ rfl (by omega) _ _ hH).mono ?_;rintro _ w ⟨rfl,hH⟩;refine ⟨_,rfl,fun a hF=>JQ hF hH ?_⟩;refine Jo ?_;exact hK zq zc zq2 zc2 zb zv
  ·
   intro gh gh' h
   rfl
  apply Jw 4 rfl
  iterate 3 focus (intros;(conv=>lhs;simp only [Jj,JA,JX,JC,JU,eq_self,reduceEqDiff,reduceIte,reduceSub,reduceAdd,JxA,JxB]);all_goals rfl)
  ·
   intro gh X K zq zc zq2 zc2 zb zv hK;refine Jg (Jc rfl) rfl (Jo ?_);exact hK zq zc zq2 zc2 zb zv
  ·
   intro gh gh' h
   rfl
  apply Jw 5 rfl
  iterate 3 focus (intros;(conv=>lhs;simp only [Jj,JA,JX,JC,JU,eq_self,reduceEqDiff,reduceIte,reduceSub,reduceAdd,JxA,JxB]);all_goals rfl)
  ·
   intro gh X K zq zc zq2 zc2 zb zv hK;refine Jg (EG rfl rfl (by decide) rfl) rfl (Jo ?_);exact hK zq zc zq2 zc2 zb zv
  ·
   intro gh gh' h
   rfl
  apply Jw 6 rfl
  iterate 3 focus (intros;(conv=>lhs;simp only [Jj,JA,JX,JC,JU,eq_self,reduceEqDiff,reduceIte,reduceSub,reduceAdd,JxA,JxB]);all_goals rfl)
  ·
   intro gh X K zq zc zq2 zc2 zb zv hK;refine Jg (Jy rfl rfl (by first | exact nw _ (by omega) | rfl)) rfl (Jo ?_);exact hK zq zc zq2 zc2 zb zv
  ·
   intro gh gh' h
   rfl
  apply Jw 7 rfl
  iterate 3 focus (intros;(conv=>lhs;simp only [Jj,JA,JX,JC,JU,eq_self,reduceEqDiff,reduceIte,reduceSub,reduceAdd,JxA,JxB]);all_goals rfl)
  ·
   intro gh X K zq zc zq2 zc2 zb zv hK;refine Jg (EC u2 u5 rfl (su8_id (by omega))) rfl (Jo ?_);exact hK zq zc zq2 zc2 zb zv
  ·
   intro gh gh' h
   rfl
  apply Eq 8 rfl
  iterate 3 focus (intros;(conv=>lhs;simp only [Jj,JA,JX,JC,JU,eq_self,reduceEqDiff,reduceIte,reduceSub,reduceAdd,JxA,JxB]);all_goals rfl)
  ·
   intro gh X K zq zc zq2 zc2 zb zv hK;refine EY (EI u22 ze5 sz5 rfl rfl) rfl fun qo17 co17=>(Jo ?_);exact hK qo17 co17 zq2 zc2 zb zv
  ·
   intro gh gh' h;refine ⟨?_,?_⟩ <;> rfl
  apply Jw 9 rfl
  iterate 3 focus (intros;(conv=>lhs;simp only [Jj,JA,JX,JC,JU,eq_self,reduceEqDiff,reduceIte,reduceSub,reduceAdd,JxA,JxB]);all_goals rfl)
  ·
   intro gh X K zq zc zq2 zc2 zb zv hK;refine Jg (PR.str1 u22 u5 u9 rfl At.z (by omega)) rfl (Jo ?_);exact hK zq zc zq2 zc2 zb zv
  ·
   intro gh gh' h
   first | simp only [h 7 rfl] | rfl
  apply Jw 10 rfl
  iterate 3 focus (intros;(conv=>lhs;simp only [Jj,JA,JX,JC,JU,eq_self,reduceEqDiff,reduceIte,reduceSub,reduceAdd,JxA,JxB]);all_goals rfl)
  ·
   intro gh X K zq zc zq2 zc2 zb zv hK;refine Jg (EP rfl rfl (by simp only [List.length_append,List.length_cons,List.length_nil] at *;omega)) rfl (Jo ?_);exact hK zq zc zq2 zc2 zb zv
  ·
   intro gh gh' h
   first | simp only [h 7 rfl] | rfl
  apply Jw 11 rfl
  iterate 3 focus (intros;(conv=>lhs;simp only [Jj,JA,JX,JC,JU,eq_self,reduceEqDiff,reduceIte,reduceSub,reduceAdd,JxA,JxB]);all_goals rfl)
  ·
   intro gh X K zq zc zq2 zc2 zb zv hK;refine Jg (Jd rfl) rfl (Jo ?_);exact hK zq zc zq2 zc2 zb zv
  ·
   intro gh gh' h
   first | simp only [h 7 rfl] | rfl
  apply Eu [0,1,2,3,4,5,6,7,8,9,10] [0,1,2,3,4,5,6,7,8,9,10] foll0 rfl rfl rfl (by rfl)
  iterate 2 focus (intros;(conv=>lhs;simp only [Jj,JA,JX,JC,JU,eq_self,reduceEqDiff,reduceIte,reduceSub,reduceAdd,JxA,JxB]);all_goals rfl)
  intro gh;generalize (gh 7).c=co17;generalize (gh 7).q=qo17;clear gh;refine Ja (hK5 (Js (Ju rfl (Res.tmp rfl) fun w hH=>?_)));replace hH:=hH.tail;exact ⟨by rw [decL_big hx.1 (by omega)],hH⟩
theorem l01Dec_n {B:World} {H0 H:HP} : ∀(n:Nat) (x:Int),x.toNat≤n→0≤x∧x≤9223372036854775807→∀(L:List SA) (w:World),Hp B H0 H L w→Calls Tryz.prog 116 [.int .i64 x].toArray w fun r w'=>r = .returned (sV (decL x))∧Hp B H0 H L w'
 | 0,x,h,hx,L,w,hH=>l01DecX_c hx (fun y _ h10=>by omega) hH
 | n+1,x,h,hx,L,w,hH=>l01DecX_c hx (fun y hy h10 L w hH=>by
  have hq0:0≤x.tdiv 10∧x.tdiv 10 * 10≤x:=by rw [Int.tdiv_eq_ediv_of_nonneg hx.1];omega
  exact l01Dec_n n y (by omega) (by omega) L w hH) hH
theorem l01Dec_c {B:World} {H0 H:HP} {L:List SA} {w:World} {x:Int} (hx:0≤x∧x≤9223372036854775807) (hH:Hp B H0 H L w):Calls Tryz.prog 116 [.int .i64 x].toArray w fun r w'=>r = .returned (sV (decL x))∧Hp B H0 H L w':=l01Dec_n _ x (Nat.le_refl _) hx L w hH
theorem vS {a b:List UInt8} (h:a=b):some (sV a)=some (sV b):=by rw [h]
theorem preT_p {ts:List Term} {k:Nat} (h:0<k):preT ts k++[43]++decL (tm ts k).fac++[42]++nameT (tm ts k).mono=preT ts (k+1):=by
 simp only [preT,termT];rw [if_pos h];simp only [List.append_assoc]
theorem preT_z {ts:List Term} {k:Nat} (h : ¬0<k):preT ts k++decL (tm ts k).fac++[42]++nameT (tm ts k).mono=preT ts (k+1):=by
 simp only [preT,termT];rw [if_neg h];simp only [List.append_assoc]
theorem l01Name_c {B:World} {H0 H:HP} {L:List SA} {w:World} {m:List Int} (hm:Mono m) (hH:Hp B H0 H L w):Calls Tryz.prog 117 [.agg (bytesC m).toArray].toArray w fun e w'=>e = .returned (sV (nameT m))∧Hp B H0 H L w':=by
 refine JB Tryz.func117 rfl 34 rfl rfl [(0,.agg (bytesC m).toArray)] rfl hH ?_;have hml:=hm.len;clear hH;have hmb:=hm.bd;have hml9:=fun k=>mnT_len hmb k;refine Je fun _ hK1 _=>(Jb (Eg rfl rfl rfl fun g1=>(Jg (Jd rfl) rfl (Jf (Ja (hK1 (Je fun _ hK2 _=>(Jb (Jg (Jd rfl) rfl (Jf (Ja (hK2 (Je fun _ hK3 _=>(Je fun _ hK4 _=>(Jb (Jg (Jd rfl) rfl ?_))))))))))))))));refine Jf (Ja (hK4 (Jp (JH (σ:=Nat) (fun (i:Nat)=>[(4,.int .i64 (i:Int)),(3,sV (mnT m i))]) (fun (i:Nat)=>H) (fun (i:Nat)=>obj g1 (.cells (bytesC m).toArray 50 (0,0))::L) (fun (i:Nat)=>i≤8) (fun (i:Nat)=>8 - i) 0 (by omega) ⟨rfl,⟨rfl,trivial⟩⟩ rfl rfl ?_))));rintro i hi _ hAg0;have hli:=hml9 i;have hmi:=hmb i;have hdl:=decL_len (n:=m.getD i 0) hmi.1 (by omega);refine Je fun _ hK5 _=>(Je fun _ hK6 _=>(Jb (Jg (Jc rfl) rfl (Jg (JV rfl rfl) rfl (Jf (Ja (hK6 (Jm rfl (fun hc6=>?_) (fun hc6=>?_)))))))))
 ·
  refine Jk (Ja (hK5 (Je fun _ hK7 _=>(Jp (Je fun _ hK8 _=>(Je fun _ hK9 _=>(Jb (Jg (Jc rfl) rfl (Jg (JW u50 sz5 rfl rfl rfl (by omega)) rfl (Jg (Jv rfl At.z (by first | exact bytesC_get (by simp [*];omega) | exact intsC_get (by simp [*];omega)) pl5) rfl (Jg (Em rfl rfl) rfl (Jf (Ja (hK9 (Jm rfl (fun h12=>?_) (fun h12=>?_))))))))))))))))
  ·
   refine Jb (Jg (Jc rfl) rfl (Jg (Jc rfl) rfl (Jg (Jy rfl rfl (by first | exact nw _ (by omega) | rfl)) rfl (Jg (EC u3 u5 rfl (su8_id (by omega))) rfl (EY (EI u22 ze5 sz5 rfl rfl) rfl fun qo17 co17=>(Jg (PR.str1 u22 u5 u9 rfl At.z (by omega)) rfl (Jg (EP rfl rfl (by first | omega | (simp only [List.length_append,List.length_singleton];omega))) rfl (Jg (Jd rfl) rfl (Jf (Ja (hK8 (Je fun _ hK10 _=>(Jb (Jg (Jc rfl) rfl (Jg (JW u50 sz5 rfl rfl rfl (by omega)) rfl ?_)))))))))))))));refine Jg (Jv rfl (.s .z) (by first | exact bytesC_get (by simp [*];omega) | exact intsC_get (by simp [*];omega)) pl5) rfl (Jg (Em rfl rfl) rfl (Jf (Ja (hK10 (Jm rfl (fun h23=>?_) (fun h23=>?_))))))
   ·
    refine Jb (Jg (Jc rfl) rfl (Jg (Jc rfl) rfl (Jg (JW u50 sz5 rfl rfl rfl (by omega)) rfl (Jg (Jv rfl (.s .z) (by first | exact bytesC_get (by simp [*];omega) | exact intsC_get (by simp [*];omega)) pl5) rfl (Jg (EC u5 u2 rfl (by first | exact nw _ (by omega) | rfl)) rfl (Jx fn116 rfl rfl fun w hH=>(l01Dec_c (by omega) hH).mono ?_))))));rintro _ w ⟨rfl,hH⟩;refine ⟨_,rfl,fun a hF=>JQ hF hH ?_⟩;refine Jg (EP rfl rfl (by first | omega | (simp only [List.length_append,List.length_singleton];omega))) rfl (Jg (Jd rfl) rfl (Jf (JD (Ja (hK7 (Jb (Jg (Jc rfl) rfl (Jg (Jy rfl rfl (by first | exact nw _ (by omega) | rfl)) rfl (Jg (Jd rfl) rfl (Jf (Ja (JF .z ?_))))))))))));exact hAg0 (i+1) (by omega) (by omega) 31 rfl rfl ⟨rfl,⟨(vS (mnT_yy h12 h23)),trivial⟩⟩ rfl rfl
   ·
    refine Jk (JD (Ja (hK7 (Jb (Jg (Jc rfl) rfl (Jg (Jy rfl rfl (by first | exact nw _ (by omega) | rfl)) rfl (Jg (Jd rfl) rfl (Jf (Ja (JF .z ?_))))))))));exact hAg0 (i+1) (by omega) (by omega) 23 rfl rfl ⟨rfl,⟨(vS (mnT_yn h12 h23)),trivial⟩⟩ rfl rfl
  ·
   refine Jk (Ja (hK8 (Je fun _ hK11 _=>(Jb (Jg (Jc rfl) rfl (Jg (JW u50 sz5 rfl rfl rfl (by omega)) rfl (Jg (Jv rfl At.z (by first | exact bytesC_get (by simp [*];omega) | exact intsC_get (by simp [*];omega)) pl5) rfl (Jg (Em rfl rfl) rfl (Jf (Ja (hK11 (Jm rfl (fun h23=>?_) (fun h23=>?_)))))))))))))
   ·
    refine Jb (Jg (Jc rfl) rfl (Jg (Jc rfl) rfl (Jg (JW u50 sz5 rfl rfl rfl (by omega)) rfl (Jg (Jv rfl At.z (by first | exact bytesC_get (by simp [*];omega) | exact intsC_get (by simp [*];omega)) pl5) rfl (Jg (EC u5 u2 rfl (by first | exact nw _ (by omega) | rfl)) rfl (Jx fn116 rfl rfl fun w hH=>(l01Dec_c (by omega) hH).mono ?_))))));rintro _ w ⟨rfl,hH⟩;refine ⟨_,rfl,fun a hF=>JQ hF hH ?_⟩;refine Jg (EP rfl rfl (by first | omega | (simp only [List.length_append,List.length_singleton];omega))) rfl (Jg (Jd rfl) rfl (Jf (JD (Ja (hK7 (Jb (Jg (Jc rfl) rfl (Jg (Jy rfl rfl (by first | exact nw _ (by omega) | rfl)) rfl (Jg (Jd rfl) rfl (Jf (Ja ?_)))))))))));exact hAg0 (i+1) (by omega) (by omega) 23 rfl rfl ⟨rfl,⟨(by exfalso;omega),trivial⟩⟩ rfl rfl
   ·
    refine Jk (JD (Ja (hK7 (Jb (Jg (Jc rfl) rfl (Jg (Jy rfl rfl (by first | exact nw _ (by omega) | rfl)) rfl (Jg (Jd rfl) rfl (Jf (Ja ?_)))))))));exact hAg0 (i+1) (by omega) (by omega) 15 rfl rfl ⟨rfl,⟨(vS (mnT_nn h12)),trivial⟩⟩ rfl rfl
 ·
  refine JI (Jl (Jl (JT (Ja (hK3 (Je fun _ hK12 _=>(Je fun _ hK13 _=>(Jb (Jg (Jc rfl) rfl (Jg (PR.strEql rfl rfl) rfl (Jf (Ja (hK13 (Jm rfl (fun h32=>?_) (fun h32=>?_)))))))))))))))
  ·
   refine Je fun _ hK14 _=>(Jb (Jg (Jd rfl) rfl (Jf (Ja (hK14 (Js (Ji (Ju rfl (Res.tmp rfl) fun w hH=>?_))))))));replace hH:=hH.tail
   obtain rfl:i=8:=by omega
   exact ⟨by unfold nameT;rw [if_pos h32],hH⟩
  ·
   refine Jk (Ja (hK12 (Je fun _ hK15 _=>(Jb (Jg (Jc rfl) rfl (Jg (Jd rfl) rfl (Jf (Ja (hK15 (Js (Ju rfl (Res.tmp rfl) fun w hH=>?_)))))))))));replace hH:=hH.tail
   obtain rfl:i=8:=by omega
   exact ⟨by unfold nameT;rw [if_neg h32],hH⟩
theorem l01Text_c {B:World} {H0 H:HP} {L:List SA} {w:World} {qts:Option Addr} {cts:Nat} {ts:List Term} (hts:Terms H qts ts) (hl:ts.length≤400) (hf : ∀i,i<ts.length→0≤(tm ts i).fac) (hH:Hp B H0 H L w):Calls Tryz.prog 115 [.agg [.slice qts ts.length cts].toArray].toArray w fun e w'=>e = .returned (sV (textT ts))∧Hp B H0 H L w':=by
 refine JB Tryz.func115 rfl 39 rfl rfl [(0,.agg [.slice qts ts.length cts].toArray)] rfl hH ?_;clear hH;have hp9:=fun k (h:k≤ts.length)=>preT_len hts.wfs hf h;refine Je fun _ hK1 _=>(Jb (Eg rfl rfl rfl fun g1=>(Jg (Jd rfl) rfl (Jf (Ja (hK1 (Je fun _ hK2 _=>(Je fun _ hK3 _=>(Jb (Jg (Jt u43 rfl sz41 rfl) rfl (Jg (Jv rfl At.z rfl pl41) rfl (Jg (Jq u41 rfl rfl) rfl (Jg (Ef rfl rfl) rfl (Jf (Ja (hK3 ?_))))))))))))))));refine Jm rfl (fun h8=>?_) (fun h8=>?_)
 ·
  refine Je fun _ hK4 _=>(Jb (Jg (Jd rfl) rfl (Jf (Ja (hK4 (Js (Ji (Ju rfl (Res.tmp rfl) fun w hH=>?_))))))));replace hH:=hH.tail;exact ⟨by unfold textT;rw [if_pos (by omega)],hH⟩
 ·
  refine Jk (Ja (hK2 (Je fun _ hK5 _=>(Jb (Jg (Jd rfl) rfl (Jf (Ja (hK5 (Je fun _ hK6 _=>(Je fun _ hK7 _=>(Jb (Jg (Jd rfl) rfl (Jf (Ja (hK7 (Jp (JH (σ:=Nat) (fun (i:Nat)=>[(4,.int .i64 (i:Int)),(3,sV (preT ts i))]) (fun (i:Nat)=>H) (fun (i:Nat)=>obj g1 (.cells [.slice qts ts.length cts].toArray 43 (0,0))::L) (fun (i:Nat)=>i≤ts.length) (fun (i:Nat)=>ts.length - i) 0 (by omega) ⟨rfl,⟨rfl,trivial⟩⟩ rfl rfl ?_)))))))))))))))));rintro i hi _ hAg0;have hpl:=hp9 i hi;refine Je fun _ hK8 _=>(Je fun _ hK9 _=>(Jb (Jg (Jc rfl) rfl (Jg (Jt u43 rfl sz41 rfl) rfl (Jg (Jv rfl At.z rfl pl41) rfl (Jg (Jq u41 rfl rfl) rfl (Jg (JV rfl rfl) rfl (Jf (Ja (hK9 (Jm rfl (fun h13=>?_) (fun h13=>?_))))))))))))
  ·
   have hil:i<ts.length:=by omega
   have hfi:=hf i hil;have hmw:=(hts.wf i hil);have hfu:=hmw.fac.2;have hdl:=decL_len hfi hmw.fac.2;have hnl:=nameT_len hmw.mono.bd;refine Jk (Ja (hK8 (Je fun _ hK10 _=>(Jp (Je fun _ hK11 _=>(Je fun _ hK12 _=>(Jb (Jg (Jc rfl) rfl (Jg (Em rfl rfl) rfl (Jf (Ja (hK12 (Jm rfl (fun h17=>?_) (fun h17=>?_))))))))))))))
   ·
    refine Jb (Jg (Jc rfl) rfl (Jg (EP rfl rfl (by first | omega | (simp only [List.length_append,List.length_singleton];omega))) rfl (Jg (Jd rfl) rfl (Jf (Ja (hK11 (Et [[], [], [1], [], [2,3], [4], [5], [6], [0,7], [8], [], [10], [], [11,12], [13], [14], [15]] (by kernel_rfl) (Jz (fun gh=>Jc rfl) (Jz (fun gh=>Jt u43 rfl sz41 rfl) (Jz (fun gh=>Jv rfl At.z rfl pl41) (Jz (fun gh=>Jc rfl) (Jz (fun gh=>Eo u41 sz52 rfl rfl rfl (by omega) hts.sm) (Jz (fun gh=>Ep u52 rfl sz2 rfl (hts.sm (i:=i) (by omega))) (Jz (fun gh=>JR rfl (hts.fac (by omega)) pl2) (EX fn116 (fun gh=>rfl) (fun w X hH=>l01Dec_c (by omega) hH) ?_)))))))))))))));refine Jz (fun gh=>EP rfl rfl (by first | omega | (simp only [List.length_append,List.length_singleton];omega))) (Jz (fun gh=>EP rfl rfl (by first | omega | (simp only [List.length_append,List.length_singleton];omega))) (Jz (fun gh=>Jt u43 rfl sz41 rfl) (Jz (fun gh=>Jv rfl At.z rfl pl41) (Jz (fun gh=>Jc rfl) (Jz (fun gh=>Eo u41 sz52 rfl rfl rfl (by omega) hts.sm) (Jz (fun gh=>Ep u52 rfl sz50 rfl (hts.sm (i:=i) (by omega))) (Jz (fun gh=>JO rfl (hts.mono (by omega)) (hts.sm (i:=i) (by omega)) (by rw [bytesC_length,(hts.wf _ (by omega)).mono.len];exact ag50)) (EX fn117 (fun gh=>rfl) (fun w X hH=>l01Name_c (hts.wf i (by omega)).mono hH) (Ec 17 0 foll0 (by kernel_rfl) rfl rfl fun gh=>(Er (us':=(20,_)::(21,_)::(22,_)::(23,_)::(24,_)::(25,_)::(26,_)::(27,_)::(28,_)::(29,_)::(30,_)::(31,_)::(32,_)::(33,_)::(34,_)::(35,_)::(36,_)::_) (L':=_) rfl rfl (Jf (Ed (JG (EP rfl rfl (by first | omega | (simp only [List.length_append,List.length_singleton];omega))) rfl (JG (Jd rfl) rfl ?_))))))))))))));refine Ee (JD (Ja (hK10 (Jb (Jg (Jc rfl) rfl (Jg (Jy rfl rfl (by first | exact nw _ (by omega) | rfl)) rfl (Jg (Jd rfl) rfl (Jf (Ja ?_)))))))));exact hAg0 (i+1) (by omega) (by omega) 34 rfl rfl ⟨rfl,⟨(vS (preT_p (by omega))),trivial⟩⟩ rfl rfl
   ·
    refine Jk (Ja (hK11 (Et [[], [], [1], [], [2,3], [4], [5], [6], [0,7], [8], [], [10], [], [11,12], [13], [14], [15]] (by kernel_rfl) (Jz (fun gh=>Jc rfl) (Jz (fun gh=>Jt u43 rfl sz41 rfl) (Jz (fun gh=>Jv rfl At.z rfl pl41) (Jz (fun gh=>Jc rfl) (Jz (fun gh=>Eo u41 sz52 rfl rfl rfl (by omega) hts.sm) (Jz (fun gh=>Ep u52 rfl sz2 rfl (hts.sm (i:=i) (by omega))) (Jz (fun gh=>JR rfl (hts.fac (by omega)) pl2) (EX fn116 (fun gh=>rfl) (fun w X hH=>l01Dec_c (by omega) hH) (Jz (fun gh=>EP rfl rfl (by first | omega | (simp only [List.length_append,List.length_singleton];omega))) (Jz (fun gh=>EP rfl rfl (by first | omega | (simp only [List.length_append,List.length_singleton];omega))) (Jz (fun gh=>Jt u43 rfl sz41 rfl) (Jz (fun gh=>Jv rfl At.z rfl pl41) ?_)))))))))))))));refine Jz (fun gh=>Jc rfl) (Jz (fun gh=>Eo u41 sz52 rfl rfl rfl (by omega) hts.sm) (Jz (fun gh=>Ep u52 rfl sz50 rfl (hts.sm (i:=i) (by omega))) (Jz (fun gh=>JO rfl (hts.mono (by omega)) (hts.sm (i:=i) (by omega)) (by rw [bytesC_length,(hts.wf _ (by omega)).mono.len];exact ag50)) (EX fn117 (fun gh=>rfl) (fun w X hH=>l01Name_c (hts.wf i (by omega)).mono hH) (Ec 17 0 foll0 (by kernel_rfl) rfl rfl fun gh=>(Er (us':=(20,_)::(21,_)::(22,_)::(23,_)::(24,_)::(25,_)::(26,_)::(27,_)::(28,_)::(29,_)::(30,_)::(31,_)::(32,_)::(33,_)::(34,_)::(35,_)::(36,_)::_) (L':=_) rfl rfl (Jf (Ed (JG (EP rfl rfl (by first | omega | (simp only [List.length_append,List.length_singleton];omega))) rfl (JG (Jd rfl) rfl (Ee (JD (Ja (hK10 (Jb ?_)))))))))))))));refine Jg (Jc rfl) rfl (Jg (Jy rfl rfl (by first | exact nw _ (by omega) | rfl)) rfl (Jg (Jd rfl) rfl (Jf (Ja ?_))));exact hAg0 (i+1) (by omega) (by omega) 31 rfl rfl ⟨rfl,⟨(vS (preT_z (by omega))),trivial⟩⟩ rfl rfl
  ·
   refine JI (Jl (Jl (JT (Ja (hK6 (Je fun _ hK13 _=>(Jb (Jg (Jc rfl) rfl (Jg (Jd rfl) rfl (Jf (Ja (hK13 (Js (Ju rfl (Res.tmp rfl) fun w hH=>?_))))))))))))));replace hH:=hH.tail
   obtain rfl:i=ts.length:=by omega
   exact ⟨by rw [preT_end ts (by omega)],hH⟩
def att (x:List UInt8):List (List UInt8)→List (List UInt8)
 | []=>[x]
 | y::ys=>(x++y)::ys
def spl (c:UInt8):List UInt8→List (List UInt8)
 | []=>[[]]
 | b::s=>if b=c then []::spl c s else att [b] (spl c s)
theorem att_ne (x:List UInt8) (l:List (List UInt8)):att x l≠ []:=by cases l <;> simp [att]
theorem spl_ne (c:UInt8) : ∀s,spl c s≠ []
 | []=>by simp [spl]
 | b::s=>by
  simp only [spl]
  split
  ·simp
  ·exact att_ne _ _
theorem att_len (x:List UInt8) {l:List (List UInt8)} (h:l≠ []):(att x l).length=l.length:=by
 cases l with
 | nil=>exact absurd rfl h
 | cons y ys=>rfl
theorem spl_len (c:UInt8) : ∀s:List UInt8,(spl c s).length≤s.length+1
 | []=>by simp [spl]
 | b::s=>by
  have ih:=spl_len c s
  simp only [spl]
  split
  ·simp only [List.length_cons]
   omega
  ·rw [att_len _ (spl_ne c s)]
   simp only [List.length_cons]
   omega
theorem att_att (x y:List UInt8) (l:List (List UInt8)):att x (att y l)=att (x++y) l:=by cases l <;> simp [att]
theorem att_nil {l:List (List UInt8)} (h:l≠ []):att [] l=l:=by
 cases l with
 | nil=>exact absurd rfl h
 | cons y ys=>rfl
def isDig (b:UInt8):Bool:=decide (48≤b.toNat) && decide (b.toNat≤57)
def dgV (b:UInt8):Int:=(b.toNat:Int) - 48
def numF:List UInt8→Int→Int
 | [],n=>n
 | b::s,n=>if isDig b then numF s (n * 10+dgV b) else -1
def numS (s:List UInt8):Int:=if s.length=0∨9<s.length∨(1<s.length∧s.getD 0 0=48) then -1 else numF s 0
theorem isDig_iff {b:UInt8}:isDig b=true↔48≤b.toNat∧b.toNat≤57:=by unfold isDig;simp
theorem p10_le {i:Nat} (h:i≤9):(10:Int) ^ i≤1000000000:=by
 have h4:(10:Nat) ^ i≤10 ^ 9:=Nat.pow_le_pow_right (by omega) h
 have h5:((10 ^ i:Nat):Int)≤((10 ^ 9:Nat):Int):=by omega
 rw [Int.natCast_pow] at h5
 simpa using h5
def digs (s:List UInt8):List UInt8:=s.takeWhile isDig
def rst (s:List UInt8):List UInt8:=s.dropWhile isDig
theorem rst_len (s:List UInt8):(rst s).length≤s.length:=by
 have:=congrArg List.length (List.takeWhile_append_dropWhile (p:=isDig) (l:=s));rw [List.length_append] at this;unfold rst
 omega
theorem digs_rst (s:List UInt8):digs s++rst s=s:=List.takeWhile_append_dropWhile
def ltr (b:UInt8):Bool:=decide (97≤b.toNat) && decide (b.toNat≤104)
def zer8:List Int:=List.replicate 8 0
def expS (d:List UInt8):Int:=if d.length=0 then 1 else numS d
def namF:Nat→List UInt8→List Int→Option (List Int)
 | 0,_,_=>none
 | _+1, [],m=>some m
 | f+1,b::s,m=>if ltr b && (decide (1≤expS (digs s)) && decide (expS (digs s)≤20)) then namF f (rst s) (m.set (b.toNat - 97) (expS (digs s))) else none
def namS (t:List UInt8):Option (List Int):=if t=[49] then some zer8 else if t=[] then none else namF (t.length+1) t zer8
def atV (d:List UInt8):Int:=match Lib.atoiAll d with
 | .ok v=>v
 | .range=>Lib.atoiSat d
 | _=>0
def expI (d:List UInt8):Int:=if d.length=0 then 1 else atV d
def min255 (x:Int):Int:=if x>255 then 255 else x
def monF:Nat→List UInt8→List Int→List Int
 | 0,_,m=>m
 | _+1, [],m=>m
 | f+1,b::s,m=>monF f (rst s) (if ltr b then m.set (b.toNat - 97) (min255 (expI (digs s))) else m)
def monR (t:List UInt8):List Int:=monF (t.length+1) t zer8
theorem set_mn {m:List Int} {i:Nat} {x:Int} (h:Mono m) (hx:0≤x∧x≤255):Mono (m.set i x):=⟨by rw [List.length_set];exact h.len,fun j=>by
 rw [getD_set8]
 split
 ·exact hx
 ·exact h.bd j⟩
theorem zer8_get (j:Nat):zer8.getD j 0=0:=by
 unfold zer8;rw [List.getD_eq_getElem?_getD,List.getElem?_replicate]
 split <;> rfl
theorem zer8_mn:Mono zer8:=⟨by simp [zer8],fun j=>by rw [zer8_get];omega⟩
theorem namF_mn : ∀(f:Nat) (s:List UInt8) (m m':List Int),Mono m→namF f s m=some m' →Mono m'
 | 0,_,_,_,_,h=>by simp [namF] at h
 | f+1, [],m,m',hm,h=>by
  simp only [namF,Option.some.injEq] at h
  rw [← h]
  exact hm
 | f+1,b::s,m,m',hm,h=>by
  simp only [namF] at h
  split at h
  ·rename_i hc
   simp only [Bool.and_eq_true,decide_eq_true_eq] at hc
   exact namF_mn f _ _ _ (set_mn hm (by omega)) h
  ·cases h
theorem namS_mn {t:List UInt8} {m:List Int} (h:namS t=some m):Mono m:=by
 unfold namS at h
 split at h
 ·cases h
  exact zer8_mn
 ·split at h
  ·cases h
  ·exact namF_mn _ _ _ _ zer8_mn h
def wrdI (w:List UInt8):Option Term:=match Lib.parseIntB 64 (Lib.cut w [42]).1 with
 | .ok n=>some ⟨monR (Lib.cut w [42]).2.1,n⟩
 | _=>none
def wrdS (w:List UInt8):Option Term:=match spl 42 w with
 | [a,b]=>(namS b).map fun m=>⟨m,numS a⟩
 | _=>none
def allO {α:Type} (f:List UInt8→Option α):List (List UInt8)→Option (List α)
 | []=>some []
 | w::ws=>match f w with
  | none=>none
  | some x=>(allO f ws).map fun xs=>x::xs
def chkT (ds:List Int) (t:List UInt8) (f:List Term):Bool:=isForm ds f && decide (textT f=t)
def rdI (ds:List Int) (t:List UInt8):List Term × Bool:=if t=[48] then ([],true) else match allO wrdI (spl 43 t) with
 | none=>([],false)
 | some f=>(f,chkT ds t f)
def rdS (ds:List Int) (t:List UInt8):List Term × Bool:=if t=[48] then ([],true) else if 400<(spl 43 t).length then ([],false) else match allO wrdS (spl 43 t) with
 | none=>([],false)
 | some f=>(f,chkT ds t f)
def okR (ds:List Int) (t:List UInt8) (f:List Term):Prop:=isForm ds f=true∧Wfs f∧textT f=t
theorem isForm_nil (ds:List Int):isForm ds []=true:=by unfold isForm;simp
theorem chkT_y {ds:List Int} {t:List UInt8} {f:List Term} (h:chkT ds t f=true):isForm ds f=true∧textT f=t:=by
 unfold chkT at h;exact ⟨(Bool.and_eq_true_iff.1 h).1,of_decide_eq_true (Bool.and_eq_true_iff.1 h).2⟩
theorem allO_wf {f:List UInt8→Option Term} (hf : ∀w t,f w=some t→Term.wf t) : ∀{ws:List (List UInt8)} {ts:List Term},allO f ws=some ts→Wfs ts
 | [],ts,h=>by
  simp only [allO,Option.some.injEq] at h
  rw [← h]
  exact Wfs.nil
 | w::ws,ts,h=>by
  simp only [allO] at h
  cases hw:f w with
  | none=>rw [hw] at h;cases h
  | some x=>
   rw [hw] at h
   cases hr:allO f ws with
   | none=>rw [hr] at h;cases h
   | some xs=>
    rw [hr] at h
    simp only [Option.map_some,Option.some.injEq] at h
    rw [← h]
    intro t ht
    rcases List.mem_cons.1 ht with rfl | ht
    ·exact hf w _ hw
    ·exact allO_wf hf hr t ht
section
variable {P : Program} {ops : Array Oper} {Q : Exit → Act → World → Prop} {n : Nat} {B : World} {H0 H : HP} {rest : List Oper} {us : List (Nat × Value)} {L L' : List SA} {t xt yt : TypeId} {p : String} {af : Array Edge} {d : Nat} {x y z : Operand}
theorem PR.strLen {s:List UInt8} (hu:P.underlying xt=some .string) (hx:opv us x=some (sV s)) :
 PR P n B H0 us H L (.call {callee:=.builtin .len,args:=#[x],argTypes:=#[xt]}) t (.int .i64 (s.length:Int)):=PR.lenString hu hx (by simp [ByteArray.size])
theorem ET {s:List UInt8} {k:IntKind} {i:Int} {i':Nat} (hu:P.underlying xt=some .string) (hx:opv us x=some (sV s)) (hy:opv us y=some (.int k i)) (hi:i=(i':Int)) (hl:i'<s.length):PR P n B H0 us H L (.index xt x y) t (.int .u8 ((s.getD i' 0).toNat:Int)):=
 PR.indexStr hu hx hy hi (by simp [List.getD_eq_getElem?_getD,hl])
theorem PR.strSl {s:List UInt8} {k k':IntKind} {i j:Int} {i' j':Nat} (hu:P.underlying xt=some .string) (hx:opv us x=some (sV s)) (hy:opv us y=some (.int k i)) (hz:opv us z=some (.int k' j)) (hi:i=(i':Int)) (hj:j=(j':Int)) (h1:i' ≤j') (h2:j' ≤s.length):PR P n B H0 us H L (.slice xt x (some y) (some z) none) t (sV ((s.drop i').take (j' - i'))):=
 fun _ _ _ _ a w hF _=>by
  subst hi hj
  have h:=run_slice_string (P:=P) w xt ⟨s.toArray⟩ k k' (i':Int) (j':Int) hu (by omega) (by omega) (by simp [ByteArray.size];omega)
  rw [ByteArray.extract_mk] at h
  have h3:=run_sliceAt_string (P:=P) (w:=w) xt (sV s) (some (.int k (i':Int))) (some (.int k' (j':Int))) none hu
  rw [h] at h3
  simp [execOp,hF.ev hx,hF.ev hy,hF.ev hz]
  rw [h3]
  rfl
theorem PR.strSlF {s:List UInt8} {k:IntKind} {i:Int} {i':Nat} (hu:P.underlying xt=some .string) (hx:opv us x=some (sV s)) (hy:opv us y=some (.int k i)) (hi:i=(i':Int)) (h1:i' ≤s.length):PR P n B H0 us H L (.slice xt x (some y) none none) t (sV (s.drop i')):=
 fun _ _ _ _ a w hF _=>by
  subst hi
  have h:=run_slice_string_l (P:=P) (w:=w) xt ⟨s.toArray⟩ hu k (i':Int) (by omega) (by simp [ByteArray.size];omega)
  rw [ByteArray.extract_mk] at h
  have e:(s.drop i').take ((⟨s.toArray⟩:ByteArray).size - (i':Int).toNat)=s.drop i':=List.take_of_length_le (by simp [ByteArray.size])
  rw [Int.toNat_natCast] at h e
  rw [e] at h
  have h3:=run_sliceAt_string (P:=P) (w:=w) xt (sV s) (some (.int k (i':Int))) none none hu
  rw [h] at h3
  simp [execOp,hF.ev hx,hF.ev hy]
  rw [h3]
  rfl
end
theorem strsC_get {xs:List (List UInt8)} {i:Nat} (h:i<xs.length):(xs.map sV)[i]? = some (sV (xs.getD i [])):=by simp [List.getD_eq_getElem?_getD,h]
theorem u8_bd (b:UInt8):0≤(b.toNat:Int)∧(b.toNat:Int)≤255:=⟨by omega,by have:=b.toNat_lt;omega⟩
theorem u127:Tryz.prog.underlying 127=some (TypeDesc.slice 9):=by kernel_rfl
theorem sz9:Size Tryz.prog 9 1:=by unfold Size;kernel_rfl
theorem by9:Bytes Tryz.prog 9 16:=by unfold Bytes;kernel_rfl
theorem ze9:Zero Tryz.prog 9 [.string ⟨#[]⟩]:=by unfold Zero;kernel_rfl
theorem nf_stop {s:List UInt8} {k:Nat} {n:Int} (hk:k<s.length) (h:isDig (s.getD k 0)=false):numF (s.drop k) n = -1:=by
 rw [List.drop_eq_getElem_cons hk]
 have e:s[k]=s.getD k 0:=by simp [List.getD_eq_getElem?_getD,hk]
 simp only [numF];rw [e,h]
 rfl
theorem nf_step {s:List UInt8} {k:Nat} {n:Int} (hk:k<s.length) (h:isDig (s.getD k 0)=true):numF (s.drop k) n=numF (s.drop (k+1)) (n * 10+dgV (s.getD k 0)):=by
 rw [List.drop_eq_getElem_cons hk]
 have e:s[k]=s.getD k 0:=by simp [List.getD_eq_getElem?_getD,hk]
 simp only [numF];rw [e,h]
 rfl
def numB (s:List UInt8):Bool:=decide (s.length=0∨9<s.length∨(1<s.length∧s.getD 0 0=48))
theorem numB_1 {s:List UInt8} (h:(s.length:Int)=0):true=numB s:=(decide_eq_true (.inl (by omega))).symm
theorem numB_2 {s:List UInt8} (h:(s.length:Int)>9):true=numB s:=(decide_eq_true (.inr (.inl (by omega)))).symm
theorem numB_3 {s:List UInt8} (h0 : ¬(s.length:Int)=0) (h : ¬(s.length:Int)>9) (h1:(s.length:Int)>1):decide (((s.getD 0 0).toNat:Int)=48)=numB s:=by
 unfold numB;refine decide_eq_decide.2 ⟨fun h2=>.inr (.inr ⟨by omega,?_⟩),fun h2=>?_⟩
 ·rw [← UInt8.ofNat_toNat (x:=s.getD 0 0),show (s.getD 0 0).toNat=48 by omega]
  rfl
 ·rcases h2 with h2 | h2 | ⟨_,h2⟩
  ·omega
  ·omega
  ·rw [h2]
   rfl
theorem numB_4 {s:List UInt8} (h0 : ¬(s.length:Int)=0) (h : ¬(s.length:Int)>9) (h1 : ¬(s.length:Int)>1):false=numB s:=by
 unfold numB;rw [decide_eq_false];rintro (h2 | h2 | ⟨h2,_⟩) <;> omega
theorem numS_b {s:List UInt8} (h:numB s=true):numS s = -1:=by
 unfold numS;rw [if_pos (of_decide_eq_true h)]
theorem numS_n {s:List UInt8} (h:numB s=false):numS s=numF s 0∧s.length≤9:=by
 have h1:=of_decide_eq_false h;unfold numS;rw [if_neg h1];exact ⟨rfl,Classical.byContradiction fun h2=>h1 (.inr (.inl (by omega)))⟩
theorem dig_f1 {b:UInt8} (h:(b.toNat:Int)<48):isDig b=false:=by unfold isDig;rw [decide_eq_false (show ¬48≤b.toNat by omega)];rfl
theorem dig_f2 {b:UInt8} (h:(b.toNat:Int)>57):isDig b=false:=by unfold isDig;rw [decide_eq_false (show ¬b.toNat≤57 by omega)];simp
theorem dig_t {b:UInt8} (h : ¬(b.toNat:Int)<48) (h2 : ¬(b.toNat:Int)>57):isDig b=true:=by unfold isDig;rw [decide_eq_true (show 48≤b.toNat by omega),decide_eq_true (show b.toNat≤57 by omega)];rfl
theorem p10_s (k:Nat):(10:Int) ^ (k+1)=10 ^ k * 10:=Int.pow_succ 10 k
theorem l01Number_c {B:World} {H0 H:HP} {L:List SA} {w:World} {s:List UInt8} (hl:s.length≤1048576) (hH:Hp B H0 H L w):Calls Tryz.prog 107 [sV s].toArray w fun e w'=>e = .returned (.int .i64 (numS s))∧Hp B H0 H L w':=by
 refine JB Tryz.func107 rfl 48 rfl rfl [(0,sV s)] rfl hH ?_;clear hH;refine Je fun _ hK1 _=>(Jb (Jg (Jd rfl) rfl (Jf (Ja (hK1 (Je fun _ hK2 _=>(ER (σ:=Bool) (fun (b:Bool)=>[(22,.bool b)]) (fun (b:Bool)=>H) (fun (b:Bool)=>L) (fun (b:Bool)=>b=numB s) ?_ ?_)))))))
 ·
  intro _ hMt1;refine Jb (Jg (Jc rfl) rfl (Jg (PR.strLen u9 rfl) rfl (Jg (Ef rfl rfl) rfl (Jg (Jc rfl) rfl (JZ (jd:=8) rfl (fun h8=>?_) (fun h8=>?_))))))
  ·
   try have h8p:=of_decide_eq_true h8
   refine JE rfl rfl rfl h8 (JE rfl rfl rfl h8 (JE rfl rfl rfl h8 (Jg (JP rfl h8 rfl) rfl (Jg (Jc rfl) rfl (JE rfl rfl rfl rfl (JE rfl rfl rfl rfl (JE rfl rfl rfl rfl (JE rfl rfl rfl rfl (EU rfl rfl rfl (EU rfl rfl rfl (EU rfl rfl rfl (JE rfl rfl rfl rfl (Jg (JP rfl rfl rfl) rfl (Jf ?_))))))))))))));refine Ja ?_;exact hMt1 true (numB_1 h8p) 18 rfl rfl ⟨rfl,trivial⟩ rfl rfl
  ·
   try have h8p:=of_decide_eq_false h8
   refine JK (Jc rfl) rfl rfl rfl h8 (JK (PR.strLen u9 rfl) rfl rfl rfl h8 (JK (Em rfl rfl) rfl rfl rfl h8 (Jg (JN rfl h8 rfl) rfl (Jg (Jc rfl) rfl (JZ (jd:=13) rfl (fun h13=>?_) (fun h13=>?_))))))
   ·
    try have h13p:=of_decide_eq_true h13
    refine JE rfl rfl rfl h13 (JE rfl rfl rfl h13 (JE rfl rfl rfl h13 (JE rfl rfl rfl h13 (EU rfl rfl rfl (EU rfl rfl rfl (EU rfl rfl rfl (JE rfl rfl rfl h13 (Jg (JP rfl h13 rfl) rfl (Jf (Ja ?_))))))))));exact hMt1 true (numB_2 h13p) 18 rfl rfl ⟨rfl,trivial⟩ rfl rfl
   ·
    try have h13p:=of_decide_eq_false h13
    refine JK (Jc rfl) rfl rfl rfl h13 (JK (PR.strLen u9 rfl) rfl rfl rfl h13 (JK (Em rfl rfl) rfl rfl rfl h13 (JK (Jc rfl) rfl rfl rfl h13 (JZ (jd:=17) rfl (fun h17=>?_) (fun h17=>?_)))))
    ·
     try have h17p:=of_decide_eq_true h17
     refine JK (Jc rfl) rfl rfl rfl h17 (JK (ET (i':=0) u9 rfl rfl rfl (by omega)) rfl rfl rfl h17 (JK (Ef rfl rfl) rfl rfl rfl h17 (JK (JP rfl h17 rfl) rfl rfl rfl h13 (Jg (JN rfl h13 rfl) rfl (Jf (Ja ?_))))));exact hMt1 (decide (((s.getD 0 0).toNat:Int)=48)) (numB_3 h8p h13p h17p) 18 rfl rfl ⟨rfl,trivial⟩ rfl rfl
    ·
     try have h17p:=of_decide_eq_false h17
     refine JE rfl rfl rfl h17 (JE rfl rfl rfl h17 (JE rfl rfl rfl h17 (JK (JN rfl h17 rfl) rfl rfl rfl h13 (Jg (JN rfl h13 rfl) rfl (Jf (Ja ?_))))));exact hMt1 false (numB_4 h8p h13p h17p) 18 rfl rfl ⟨rfl,trivial⟩ rfl rfl
 ·
  rintro b hb;refine Ei rfl (fun h22=>?_) (fun h22=>?_)
  ·
   refine Je fun _ hK3 _=>(Jb (Jg (Jd rfl) rfl (Jf (Ja (hK3 (Js (Ji (Ju rfl (Res.tmp rfl) fun w hH=>?_))))))));exact ⟨ri (by rw [numS_b (by rw [← hb];exact h22)]),hH⟩
  ·
   have hnb:numB s=false:=by rw [← hb];exact h22
   obtain ⟨hns,hs9⟩:=numS_n hnb;refine Jk (Ja (hK2 (Je fun _ hK4 _=>(Jb (Jg (Jd rfl) rfl (Jf (Ja (hK4 (Je fun _ hK5 _=>(Je fun _ hK6 _=>(Jb (Jg (Jd rfl) rfl (Jf (Ja (hK6 (Jp (JH (σ:=Int × Nat) (fun ⟨n,k⟩=>[(4,.int .i64 (k:Int)),(3,.int .i64 n)]) (fun ⟨n,k⟩=>H) (fun ⟨n,k⟩=>L) (fun ⟨n,k⟩=>k≤s.length∧0≤n∧n<10 ^ k∧numF s 0=numF (s.drop k) n) (fun ⟨n,k⟩=>s.length - k) (0,0) ⟨by omega,by omega,by decide,rfl⟩ ⟨rfl,⟨rfl,trivial⟩⟩ rfl rfl ?_)))))))))))))))));rintro ⟨n,k⟩ ⟨hk,hn0,hn,hI⟩ _ hAg0;refine Je fun _ hK7 _=>(Je fun _ hK8 _=>(Jb (Jg (Jc rfl) rfl (Jg (Jc rfl) rfl (Jg (PR.strLen u9 rfl) rfl (Jg (JV rfl rfl) rfl (Jf (Ja (hK8 (Jm rfl (fun h26=>?_) (fun h26=>?_)))))))))))
   ·
    have hk1:k<s.length:=by omega
    have hu:=u8_bd (s.getD k 0);have hp:=p10_s k;have hpl:=p10_le (i:=k+1) (by omega);refine Jk (Ja (hK7 (Je fun _ hK9 _=>(Jp (Je fun _ hK10 _=>(Je fun _ hK11 _=>(Jb (Jg (Jc rfl) rfl (Jg (Jc rfl) rfl (Jg (ET (i':=k) u9 rfl rfl rfl hk1) rfl (Jg (JV rfl rfl) rfl (Jg (Jc rfl) rfl (JZ (jd:=33) rfl (fun h33=>?_) (fun h33=>?_))))))))))))))
    ·
     try have h33p:=of_decide_eq_true h33
     refine JE rfl rfl rfl h33 (JE rfl rfl rfl h33 (JE rfl rfl rfl h33 (JE rfl rfl rfl h33 (Jg (JP rfl h33 rfl) rfl (Jf (Ja (hK11 (Ek rfl (Je fun _ hK12 _=>(Jb (Jg (Jd rfl) rfl (Jf (Ja (hK12 (Js (Ji ?_))))))))))))))));refine JL (Ji (Ji (JL (Ji (Ju rfl (Res.tmp rfl) fun w hH=>?_)))));exact ⟨ri (by rw [hns,hI,nf_stop hk1 (dig_f1 h33p)]),hH⟩
    ·
     try have h33p:=of_decide_eq_false h33
     refine JK (Jc rfl) rfl rfl rfl h33 (JK (Jc rfl) rfl rfl rfl h33 (JK (ET (i':=k) u9 rfl rfl rfl hk1) rfl rfl rfl h33 (JK (Em rfl rfl) rfl rfl rfl h33 (Jg (JN rfl h33 rfl) rfl (Jf (Ja (hK11 (Jm rfl (fun h38=>?_) (fun h38=>?_)))))))))
     ·
      refine Je fun _ hK13 _=>(Jb (Jg (Jd rfl) rfl (Jf (Ja (hK13 (Js (Ji (JL (Ji (Ji (JL (Ji (Ju rfl (Res.tmp rfl) fun w hH=>?_)))))))))))));exact ⟨ri (by rw [hns,hI,nf_stop hk1 (dig_f2 h38)]),hH⟩
     ·
      refine Jk (Ja (hK10 (Jb (Jg (Jc rfl) rfl (Jg (EV rfl rfl (nw _ (by omega))) rfl (Jg (Jc rfl) rfl (Jg (Jc rfl) rfl (Jg (ET (i':=k) u9 rfl rfl rfl hk1) rfl (Jg (EZ rfl rfl (su8_id (by omega))) rfl (Jg (EC u5 u2 rfl (by first | exact nw _ (by omega) | rfl)) rfl (Jg (Jy rfl rfl (nw _ (by omega))) rfl (Jg (Jd rfl) rfl (Jf (JD (Ja (hK9 ?_))))))))))))))));refine Jb (Jg (Jc rfl) rfl (Jg (Jy rfl rfl (by first | exact nw _ (by omega) | rfl)) rfl (Jg (Jd rfl) rfl (Jf (Ja ?_)))));exact hAg0 (n * 10+dgV (s.getD k 0),k+1) ⟨by omega,by unfold dgV;omega,by rw [hp];unfold dgV;omega,by rw [hI,nf_step hk1 (dig_t h33p h38)]⟩ (by show s.length - (k+1)<s.length - k;omega) 28 rfl rfl ⟨rfl,⟨rfl,trivial⟩⟩ rfl rfl
   ·
    refine JI (Jl (Jl (JT (Ja (hK5 (Je fun _ hK14 _=>(Jb (Jg (Jc rfl) rfl (Jg (Jd rfl) rfl (Jf (Ja (hK14 (Js (Ju rfl (Res.tmp rfl) fun w hH=>?_))))))))))))))
    have hke:k=s.length:=by omega
    exact ⟨ri (by rw [hns,hI,hke,List.drop_length];rfl),hH⟩
theorem drop_get {s:List UInt8} {k:Nat} (hk:k<s.length):s.drop k=s.getD k 0::s.drop (k+1):=by
 rw [List.drop_eq_getElem_cons hk]
 simp [List.getD_eq_getElem?_getD,hk]
theorem spl_hit {s:List UInt8} {c:UInt8} {k a:Nat} {out:List (List UInt8)} (hk:k<s.length) (h:s.getD k 0=c) (hI:spl c s=out++att ((s.drop a).take (k - a)) (spl c (s.drop k))):spl c s=(out++[(s.drop a).take (k - a)])++att ((s.drop (k+1)).take (k+1 - (k+1))) (spl c (s.drop (k+1))):=by
 rw [hI,drop_get hk];simp only [spl];rw [if_pos h,Nat.sub_self,List.take_zero,att_nil (spl_ne _ _)]
 simp [att]
theorem spl_on {s:List UInt8} {c:UInt8} {k a:Nat} {out:List (List UInt8)} (hk:k<s.length) (ha:a≤k) (h:s.getD k 0≠c) (hI:spl c s=out++att ((s.drop a).take (k - a)) (spl c (s.drop k))):spl c s=out++att ((s.drop a).take (k+1 - a)) (spl c (s.drop (k+1))):=by
 rw [hI,drop_get hk];simp only [spl];rw [if_neg h,att_att]
 congr 2
 have e:k+1 - a=(k - a)+1:=by omega
 have hl:k - a<(s.drop a).length:=by rw [List.length_drop];omega
 rw [e,List.take_succ_eq_append_getElem hl]
 congr 2
 simp only [List.getElem_drop]
 simp [List.getD_eq_getElem?_getD,show a+(k - a)=k by omega,hk]
theorem spl_fin {s:List UInt8} {c:UInt8} {a:Nat} {out:List (List UInt8)} (hI:spl c s=out++att ((s.drop a).take (s.length - a)) (spl c (s.drop s.length))):spl c s=out++[s.drop a]:=by
 rw [hI,List.drop_length];simp only [spl,att,List.append_nil];rw [List.take_of_length_le (by simp)]
theorem u8_eq {b c:UInt8} (h:(b.toNat:Int)=c.toNat):b=c:=by
 rw [← UInt8.ofNat_toNat (x:=b),show b.toNat=c.toNat by omega,UInt8.ofNat_toNat]
theorem l01Split_c {B:World} {H0 H:HP} {L:List SA} {w:World} {s:List UInt8} {x:Int} {c:UInt8} (hx:x=(c.toNat:Int)) (hl:s.length≤1048576) (hH:Hp B H0 H L w):Calls Tryz.prog 106 [sV s,.int .u8 x].toArray w fun e w'=>∃q k,e = .returned (.slice q (spl c s).length k)∧Hp B H0 H (own 9 1 q (spl c s).length k ((spl c s).map sV)::L) w':=by
 refine JB Tryz.func106 rfl 35 rfl rfl [(0,sV s),(1,.int .u8 x)] rfl hH ?_;clear hH;refine Je fun _ hK1 _=>(Jb (Jg (Jd rfl) rfl (Jf (Ja (hK1 (Je fun _ hK2 _=>(Jb (EY (MK.lit0 u127 sz9) rfl fun qo8 co8=>(Jg (Jd rfl) rfl (Jf (Ja (hK2 (Je fun _ hK3 _=>(Jb (Jg (Jd rfl) rfl (Jf ?_))))))))))))))));refine Ja (hK3 (Je fun _ hK4 _=>(Je fun _ hK5 _=>(Jb (Jg (Jd rfl) rfl (Jf (Ja (hK5 (Jp (JH (σ:=Option Addr × Nat × List (List UInt8) × Nat × Nat) (fun ⟨q,c2,out,a,k⟩=>[(7,.int .i64 (k:Int)),(6,.int .i64 (a:Int)),(5,.slice q out.length c2)]) (fun ⟨q,c2,out,a,k⟩=>H) (fun ⟨q,c2,out,a,k⟩=>own 9 1 q out.length c2 (out.map sV)::L) (fun ⟨q,c2,out,a,k⟩=>k≤s.length∧a≤k∧spl c s=out++att ((s.drop a).take (k - a)) (spl c (s.drop k))) (fun ⟨q,c2,out,a,k⟩=>s.length - k) (qo8,co8, [],0,0) ⟨by omega,by omega,by rw [Nat.sub_self,List.take_zero,att_nil (spl_ne _ _)];rfl⟩ ⟨rfl,⟨rfl,⟨rfl,trivial⟩⟩⟩ rfl rfl ?_))))))))));rintro ⟨q,c2,out,a,k⟩ ⟨hk,ha,hI⟩ _ hAg0;have hol:=spl_len c s;have hil:=congrArg List.length hI;rw [List.length_append,att_len _ (spl_ne c _)] at hil;have hpp:=List.length_pos_iff.2 (spl_ne c (s.drop k));refine Je fun _ hK6 _=>(Je fun _ hK7 _=>(Jb (Jg (Jc rfl) rfl (Jg (Jc rfl) rfl (Jg (PR.strLen u9 rfl) rfl (Jg (JV rfl rfl) rfl (Jf (Ja (hK7 (Jm rfl (fun h12=>?_) (fun h12=>?_)))))))))))
 ·
  have hk1:k<s.length:=by omega
  refine Jk (Ja (hK6 (Je fun _ hK8 _=>(Jp (Je fun _ hK9 _=>(Jb (Jg (Jc rfl) rfl (Jg (Jc rfl) rfl (Jg (ET (i':=k) u9 rfl rfl rfl hk1) rfl (Jg (Jc rfl) rfl (Jg (Ef rfl rfl) rfl (Jf (Ja (hK9 (Jm rfl (fun h19=>?_) (fun h19=>?_))))))))))))))))
  ·
   refine Je fun _ hK10 _=>(Jb (Jg (Jc rfl) rfl (Jg (Jc rfl) rfl (Jg (Jc rfl) rfl (Jg (Jc rfl) rfl (Jg (PR.strSl (i':=a) (j':=k) u9 rfl rfl rfl rfl rfl (by omega) (by omega)) rfl (EY (EI u127 ze9 sz9 rfl rfl) rfl fun qo25 co25=>(EO u127 ze9 sz9 by9 rfl rfl rfl rfl (by omega) .z At.z (fun _ _=>At.z) rfl fun qo26 co26=>(Jg (Jd rfl) rfl (Jf (Ja (hK10 (Jb (Jg (Jc rfl) rfl (Jg (Jy rfl rfl (by first | exact nw _ (by omega) | rfl)) rfl ?_)))))))))))))));refine Jg (Jd rfl) rfl (Jf (JD (Ja (hK8 (Jb (Jg (Jc rfl) rfl (Jg (Jy rfl rfl (by first | exact nw _ (by omega) | rfl)) rfl (Jg (Jd rfl) rfl (Jf (Ja (JF .z ?_)))))))))));exact hAg0 (qo26,co26,out++[(s.drop a).take (k - a)],k+1,k+1) ⟨by omega,by omega,spl_hit hk1 (u8_eq (by omega)) hI⟩ (by show s.length - (k+1)<s.length - k;omega) 26 rfl rfl ⟨rfl,⟨rfl,⟨(by rw [List.length_append];rfl),trivial⟩⟩⟩ rfl (by dsimp only;rw [List.length_append,List.map_append];rfl)
  ·
   refine Jk (JD (Ja (hK8 (Jb (Jg (Jc rfl) rfl (Jg (Jy rfl rfl (by first | exact nw _ (by omega) | rfl)) rfl (Jg (Jd rfl) rfl (Jf (Ja ?_)))))))));exact hAg0 (q,c2,out,a,k+1) ⟨by omega,by omega,spl_on hk1 ha (fun h=>h19 (by rw [h];omega)) hI⟩ (by show s.length - (k+1)<s.length - k;omega) 15 rfl rfl ⟨rfl,⟨rfl,⟨rfl,trivial⟩⟩⟩ rfl rfl
 ·
  refine JI (Jl (Jl (JT (Ja (hK4 (Je fun _ hK11 _=>(Jb (Jg (Jc rfl) rfl (Jg (Jc rfl) rfl (Jg (Jc rfl) rfl (Jg (PR.strSlF (i':=a) u9 rfl rfl rfl (by omega)) rfl (EY (EI u127 ze9 sz9 rfl rfl) rfl fun qo33 co33=>(EO u127 ze9 sz9 by9 rfl rfl rfl rfl (by omega) .z At.z (fun _ _=>At.z) rfl fun qo34 co34=>(Jg (Jd rfl) rfl (Jf ?_)))))))))))))));refine Ja (hK11 (Js (Ju rfl (Res.tmp rfl) fun w hH=>?_)));replace hH:=hH.sublist (.cons _ (.cons_cons _ (List.Sublist.refl _)))
  obtain rfl:k=s.length:=by omega
  have e9:=spl_fin hI;rw [e9];exact ⟨_,_,by rw [List.length_append];rfl,by rw [List.length_append,List.map_append];exact hH⟩
end Go.Proofs.YtffgojlocbafhaaGreat.G
