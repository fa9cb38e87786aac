/- A part of the walk of one law: what the functions compute. No condition. -/
import Derived.Test.YtffgojlocbafhaaGreatDoorRows
import Derived.Test.YtffgojlocbafhaaGreatDoorProg
import Derived.WalkKit
import Derived.KernelRfl
import Derived.JoinedOf
import Derived.Maps.AppendAt
import Derived.Still
import Derived.ProofKit
import Derived.OpenShut
import Derived.StillTail
import Derived.Deep.Upon
import Derived.WalkSpells
import Derived.Maps.Range
import Derived.Laws.Entries
import Derived.Laws.StructEq
import Derived.DeepKeys4
import Derived.Laws.Concat
import Derived.Laws.IdiomStrings
import Derived.Laws.Strings
import Derived.Lib.ItoaNum
import Derived.Lib.Join
import Derived.Lib.LaidTab
import Derived.Lib.SplitLaws
import Derived.Lib.AtoiTie
import Derived.Lib.ParseIntBTie
import Derived.Shelf.Strings.Builder1
import Derived.Shelf.Strings.Builder2
import Derived.Shelf.Strings.OnBuilder
import Derived.Shelf.Strings.BuilderF
import Derived.Shelf.Strings.BuilderK
import Derived.Shelf.Strconv.Atoi
import Derived.Shelf.Strconv.Itoa0
import Derived.Shelf.Strconv.Itoa1
import Derived.Shelf.LaysM
import Derived.Shelf.Strconv.Itoa2
import Derived.Shelf.Strconv.Itoa3
import Derived.Shelf.Strconv.Itoa4
import Derived.Shelf.Strconv.AtoiErrFast
import Derived.Shelf.Strconv.ParseIntEmpty
import Derived.Shelf.Strconv.AtoiFail
import Derived.Shelf.Strconv.Clone
import Derived.Shelf.Strconv.SyntaxError
import Derived.Shelf.LaysC
import Derived.Shelf.Strconv.ToError
import Derived.Shelf.Strconv.Lower
import Derived.Shelf.Strconv.ParseUint10
import Derived.Shelf.Strconv.ParseUint10Empty
import Derived.Shelf.Strconv.ParseUint10Any
import Derived.Shelf.Strconv.ParseInt10
import Derived.Shelf.Strconv.AtoiLong
import Derived.Shelf.Strconv.AtoiInnerAll
import Derived.Shelf.Strconv.RangeError
import Derived.Shelf.Strconv.ToErrorRange
import Derived.Shelf.Strconv.AtoiAll
import Derived.Shelf.Strconv.ParseUintEmpty
import Derived.Shelf.Strconv.ParseUint10b64
import Derived.Shelf.Strconv.ParseUint10b32
import Derived.Shelf.Strconv.ParseUint10b16
import Derived.Shelf.Strconv.ParseUint10b8
import Derived.Shelf.Strconv.ParseUint10At
import Derived.Shelf.Strconv.ParseInt10At64
import Derived.Shelf.Strconv.ParseInt10At32
import Derived.Shelf.Strconv.ParseInt10At16
import Derived.Shelf.Strconv.ParseInt10At8
import Derived.Shelf.Strconv.ParseInt10All
import Derived.Shelf.Strconv.ParseIntPublic10
import Derived.Shelf.Strings.Search1
import Derived.Shelf.Strings.Search2
import Derived.Shelf.Strings.Search3
import Derived.Shelf.Strings.Cut
import Derived.Shelf.Strings.Count
import Derived.Shelf.Strings.Shaped
import Derived.Shelf.Strings.Split
import Derived.Shelf.Unicode.DecodeSlow
import Derived.Laws.Strings2
import Derived.Laws.Strings3
import Derived.Laws.Slices
import Derived.Lib.AtoiErrMem
import Derived.Lib.SmallJoins
import Derived.WalkSmall
import Derived.WideLaws
import Derived.Lib.AppendIntMem
import Derived.Test.YtffgojlocbafhaaGreatDoorCards
import Derived.Test.YtffgojlocbafhaaGreatDoorTie
import Derived.LaidMore
import Derived.Stop.Joined
import Derived.Stop.LaidErr
import Derived.SevenTiedAt
import Derived.MakeChecks
import Derived.Shelf.Vars
import Derived.Lay
import Derived.ChangeOld
import Derived.Below
import Derived.SizedLaws
import Derived.Test.YtffgojlocbafhaaGreatDoorPAtxg
set_option linter.unusedVariables false
set_option linter.unusedSimpArgs false
set_option maxRecDepth 10000
set_option maxHeartbeats 8000000
open Nat (reduceEqDiff reduceSub reduceAdd)
namespace Go.Proofs.YtffgojlocbafhaaGreatDoor.G
open Go Go.RowKit
theorem fn29:Fn Tryz.prog 29:=⟨_,Tryz.func29,by kernel_rfl,rfl⟩
theorem fn36:Fn Tryz.prog 36:=⟨_,Tryz.func36,by kernel_rfl,rfl⟩
theorem fn61:Fn Tryz.prog 61:=⟨_,Tryz.func61,by kernel_rfl,rfl⟩
section
variable {B : World} {H0 H : HP} {w : World}
theorem Hp.tsSet {T:TypeId} {f:List Term} {q:Option Addr} {c:Nat} : ∀{i:Nat} {fs:List (List Term)} {vs:Vs} {L:List SA},i<fs.length→Hp B H0 H (own T 9 q f.length c (tsC f)::ownTs T vs fs::L) w→Hp B H0 H (ownTs T (setV vs i (q,c)) (fs.set i f)::L) w
 | _, [],_,_,hi,_=>by simp at hi
 | 0,g::gs,vs,L,_,h=>by
  have h1:Hp B H0 H (G.star (own T 9 (vs 0).1 g.length (vs 0).2 (tsC g)) (ownTs T vs.tl gs)::own T 9 q f.length c (tsC f)::L) w:=h.front (.s .z)
  have h2:=h1.unstar.tail
  have h3:=(h2.front (.s .z)).star
  have e:ownTs T (Vs.tl (setV vs 0 (q,c))) gs=ownTs T vs.tl gs:=ownTs_cong fun j _=>by unfold Vs.tl setV;rw [if_neg (by omega)]
  show Hp B H0 H (G.star (own T 9 q f.length c (tsC f)) (ownTs T (Vs.tl (setV vs 0 (q,c))) gs)::L) w
  rw [e]
  exact h3
 | i+1,g::gs,vs,L,hi,h=>by
  have h1:Hp B H0 H (G.star (own T 9 (vs 0).1 g.length (vs 0).2 (tsC g)) (ownTs T vs.tl gs)::own T 9 q f.length c (tsC f)::L) w:=h.front (.s .z)
  have h2:=h1.unstar
  have h3:Hp B H0 H (own T 9 q f.length c (tsC f)::ownTs T vs.tl gs::own T 9 (vs 0).1 g.length (vs 0).2 (tsC g)::L) w:=(h2.front (.s .z)).front (.s (.s .z))
  have h4:=Hp.tsSet (i:=i) (vs:=vs.tl) (by simpa using hi) h3
  have h5:=(h4.front (.s .z)).star
  have e0:setV vs (i+1) (q,c) 0=vs 0:=by unfold setV;rw [if_neg (by omega)]
  have e1:Vs.tl (setV vs (i+1) (q,c))=setV vs.tl i (q,c):=by
   funext j
   unfold Vs.tl setV
   by_cases hj:j=i
   ·rw [if_pos hj,if_pos (by omega)]
   ·rw [if_neg hj,if_neg (by omega)]
  show Hp B H0 H (G.star (own T 9 (setV vs (i+1) (q,c) 0).1 g.length (setV vs (i+1) (q,c) 0).2 (tsC g)) (ownTs T (Vs.tl (setV vs (i+1) (q,c))) (gs.set i f))::L) w
  rw [e0,e1]
  exact h5
theorem slicesC_setAt {f:List Term} {q:Option Addr} {c:Nat} : ∀{i:Nat} {fs:List (List Term)} {vs:Vs},i<fs.length→(slicesC vs fs).set i (.slice q f.length c)=slicesC (setV vs i (q,c)) (fs.set i f)
 | _, [],_,hi=>by simp at hi
 | 0,g::gs,vs,_=>by
  have e:slicesC (Vs.tl (setV vs 0 (q,c))) gs=slicesC vs.tl gs:=slicesC_cong fun j _=>by unfold Vs.tl setV;rw [if_neg (by omega)]
  show Value.slice q f.length c::slicesC vs.tl gs=Value.slice q f.length c::slicesC (Vs.tl (setV vs 0 (q,c))) gs
  rw [e]
 | i+1,g::gs,vs,hi=>by
  have ih:=slicesC_setAt (f:=f) (q:=q) (c:=c) (i:=i) (fs:=gs) (vs:=vs.tl) (by simpa using hi)
  have e0:setV vs (i+1) (q,c) 0=vs 0:=by unfold setV;rw [if_neg (by omega)]
  have e1:Vs.tl (setV vs (i+1) (q,c))=setV vs.tl i (q,c):=by
   funext j
   unfold Vs.tl setV
   by_cases hj:j=i
   ·rw [if_pos hj,if_pos (by omega)]
   ·rw [if_neg hj,if_neg (by omega)]
  show Value.slice (vs 0).1 g.length (vs 0).2::(slicesC vs.tl gs).set i (.slice q f.length c)=Value.slice (setV vs (i+1) (q,c) 0).1 g.length (setV vs (i+1) (q,c) 0).2::slicesC (Vs.tl (setV vs (i+1) (q,c))) (gs.set i f)
  rw [ih,e0,e1]
theorem Hp.fsSet {E T:TypeId} {q q0:Option Addr} {c c0 i m:Nat} {vs:Vs} {fs:List (List Term)} {f:List Term} {L:List SA} (hi:i<fs.length) (hm:fs.length=m) (h:Hp B H0 H (own T 9 q f.length c (tsC f)::ownTs T vs fs::own E 1 q0 m c0 ((slicesC vs fs).set i (.slice q f.length c))::L) w):Hp B H0 H (ownFs E T q0 c0 (setV vs i (q,c)) (fs.set i f)::L) w:=by
 subst hm;rw [slicesC_setAt hi] at h;have h1:=Hp.tsSet hi h;unfold ownFs;rw [List.length_set];exact (h1.front (.s .z)).star
end
structure DrB (ds:List Int) (fs:List (List Term)):Prop where
 hn:ds.length≤100
 hl:fs.length≤100
 len : ∀i,i<fs.length→(fm fs i).length≤400
 wf:Wfss fs
theorem DrA.b {ds:List Int} {fs:List (List Term)} (h:DrA ds fs):DrB ds fs:=⟨by have:=h.hn;omega,by have:=h.hn;have:=h.hl;omega,h.len,h.wf⟩
theorem DrB.of {ds:List Int} {fs:List (List Term)} (hn:ds.length≤100) (hl:fs.length≤100) (h : ∀f∈fs,f.length≤400∧Wfs f):DrB ds fs:=⟨hn,hl,fun i hi=>by
 rw [show fm fs i=fs[i] from by unfold fm;rw [List.getD_eq_getElem?_getD,List.getElem?_eq_getElem hi];rfl]
 exact (h _ (List.getElem_mem hi)).1,fun f hf=>(h f hf).2⟩
theorem DrB.all {ds:List Int} {fs:List (List Term)} (h:DrB ds fs) : ∀f∈fs,f.length≤400∧Wfs f:=fun f hf=>by
 obtain ⟨i,hi,rfl⟩:=List.getElem_of_mem hf
 have:=h.len i hi
 rw [show fm fs i=fs[i] from by unfold fm;rw [List.getD_eq_getElem?_getD,List.getElem?_eq_getElem hi];rfl] at this
 exact ⟨this,h.wf _ (List.getElem_mem hi)⟩
section
variable {P : Program} {ops : Array Oper} {Q : Exit → Act → World → Prop} {n : Nat} {B : World} {H0 H : HP} {rest : List Oper} {us : List (Nat × Value)} {L L' : List SA} {t : TypeId} {p : String} {af : Array Edge} {x y : Operand}
theorem J.storeWA {ty e:TypeId} {q:Option Addr} {m c k:Nat} {cells:List Value} {v u:Value} (hx:opv us x=some (ptr q k)) (hy:opv us y=some v) (hv:v.cells = #[u]) (h1:u.oneCell'=true) (hs:Size P ty 1) (hl:k<m) (hat:At L (own e 1 q m c cells) (own e 1 q m c (cells.set k u)) L') (hk:J P ops Q n B H0 rest us H L'):J P ops Q n B H0 (⟨none,.store ty x y,t,p,af,none⟩::rest) us H L:=by
 refine J.unit fun a w hF hH=>?_;have hA:=(hH.objs _ hat.mem).1;obtain ⟨hc,h2⟩:=hA
 rcases h2 with ⟨_,h2,_⟩ | ⟨g,cur,rfl,hg,h3,h4,h5,h6⟩
 ·omega
 ·have hg':w.heap[g]? = some (.cells cur e (0,0)):=hg
  have hlk:k<cur.toList.length:=by simp;omega
  have hst:=run_storeCells_at P g k e [u] 0 cur w hg' (by simp;omega) (by simpa using h1);have hch:Chg (own e 1 (some (⟨g,0,none⟩:Addr)) m c cells).fp w (w.setRow g (cur.toList.set k u).toArray):=(chg_setRow (cs:=(cur.toList.set k u).toArray) hg').more fun b (hb:b=g)=>⟨⟨g,0,none⟩,rfl,hb.symm⟩;refine ⟨_,?_,hk a _ hF (hH.upd hat hch ?_ fun b hb=>?_)⟩
  ·simp only [Nat.add_zero] at hst
   have e1:ptr (some (⟨g,0,none⟩:Addr)) k = .pointer (some ⟨g,k,none⟩):=by simp [ptr,add_at]
   have e2:cur.toList.take k++[u]++cur.toList.drop (k+1)=cur.toList.set k u:=set_eq_take_drop _ _ _ hlk;have e3:cur.toList.take k++[u]++cur.toList.drop (k+[u].length)=cur.toList.set k u:=e2;rw [e3] at hst;rw [e1] at hx
   simp [execOp,Instr.storeAt,Instr.sureAddr,storeVar,hF.ev hx,hF.ev hy,hv,hs.run,hst]
  ·refine ⟨by simpa using hc,.inr ⟨g,_,rfl,setRow_heap w g cur _ e (0,0) hg',h3,h4,by simpa using h5,?_⟩⟩;simp only [List.toList_toArray];rw [List.take_set,h6]
  ·obtain ⟨q,hq,rfl⟩:=hb;have:=hp_lt hg;obtain rfl:q=⟨g,0,none⟩:=(Option.some.inj hq).symm;refine ⟨.inl ⟨_,rfl,rfl⟩,?_⟩
   simpa using this
end
section
variable {P : Program} {Q : Exit → Act → World → Prop} {n : Nat} {B : World} {H0 H : HP} {us : List (Nat × Value)} {L L1 : List SA}
theorem CJ.unFs {c0:Code} {E T:TypeId} {q:Option Addr} {c:Nat} {vs:Vs} {fs:List (List Term)} (hr:Rm L (ownFs E T q c vs fs) L1) (k:CJ P c0 Q n B H0 us H (ownTs T vs fs::own E 1 q fs.length c (slicesC vs fs)::L1)):CJ P c0 Q n B H0 us H L:=fun a w hF hH=>k a w hF ((hH.front hr).unstar.front (.s .z))
end
theorem l02Spoil_c {B:World} {H0 H:HP} {L:List SA} {w:World} {gs:Nat} {qb:Option Addr} {cb:Nat} {code:List Int} {s:Src} {most:Int} (hbt:Bts H qb code) (hbk:BtOk code) (hm:0≤most∧most≤8) (hcl:code.length≤1048576) (hH:Hp B H0 H (srcO qb cb code gs s::L) w):Calls Tryz.prog 23 [.pointer (some ⟨gs,0,none⟩),.int .i64 most].toArray w fun e w'=>∃ad af s1 qd cd qf cf vs,DrB ad af∧e = .returned (.agg [.slice qd ad.length cd,.slice qf af.length cf].toArray)∧Hp B H0 H (own 2 1 qd ad.length cd (intsC ad)::ownFs 42 89 qf cf vs af::srcO qb cb code gs s1::L) w':=by
 refine JD Tryz.func23 rfl 59 rfl rfl [(0,.pointer (some ⟨gs,0,none⟩)),(1,.int .i64 most)] rfl hH ?_;clear hH;refine Jd fun _ hK1 _=>(Jb (JG ze27 rfl fun g4=>(Jf (Ja (hK1 (Jd fun _ hK2 _=>(Jb (Jg (Jc rfl) rfl (Jg (Jc rfl) rfl (Jz fn29 rfl rfl fun w hH=>(l02Draw_c hbt hbk (by omega) hcl (hH.front (.s .z))).mono ?_))))))))));rintro _ w ⟨ka8,kf8,ks8,qd8,cd8,qf8,cf8,vs8,hk8,hl8,rfl,hH⟩;refine ⟨_,rfl,fun a hF=>JL hF hH ?_⟩;refine JG ze27 rfl fun g5=>(Jk rfl rfl (by first | exact bytesC_one _ | exact intsC_one _ | exact Term.c_one _ | simp [Value.oneCell']) (by simpa [*] using sz27) (by simp [*]) At.z (Jf (Ja (hK2 (Jd fun _ hK3 _=>(Jd fun _ hK4 _=>?_))))));have hkn:=hk8.hn;have hkl:=hk8.hl;refine Jb (Jg (Jc rfl) rfl (Jz fn30 rfl rfl fun w hH=>(l01Next_c hbt hbk hcl (hH.front (.s (.s (.s .z))))).mono ?_));rintro _ w ⟨rfl,hH⟩;refine ⟨_,rfl,fun a hF=>JL hF hH ?_⟩;refine Jf (Ja (hK4 (Jx (Jd fun _ hK5 _=>(Jb (Jg (En rfl rfl) rfl (Jg (Je rfl) rfl (Jf (Ja (hK5 (Jp rfl (fun h11=>?_) (fun h11=>?_))))))))))))
 ·
  refine Jb (Jg (Jc rfl) rfl (Jg (Jq u27 rfl sz24 rfl) rfl (Jg (Jv rfl (.s .z) rfl pl24) rfl (EX (MK.lit1I u24 ze2 sz2 rfl) rfl fun qo16 co16=>(Kb u24 ze2 sz2 by2 rfl rfl (by simp only [List.length_cons,List.length_nil];omega) .z (.s (.s .z)) (fun _ _=>(.s (.s .z))) rfl fun qo17 co17=>(Jz fn36 rfl rfl fun w hH=>(l01Badly_c hbt hbk (by simp only [List.length_append,List.length_cons,List.length_nil];omega) hcl ((hH.front (.s (.s (.s .z)))).front (.s (.s .z)))).mono ?_))))));rintro _ w ⟨qo18,co18,rfl,hH⟩;refine ⟨_,rfl,fun a hF=>JL hF hH ?_⟩;refine Jg (Jq u27 rfl sz24 rfl) rfl (Ez rfl rfl rfl rfl sz24 (by simp [*]) (.s (.s (.s .z))) (Jf (JJ (Ja (hK3 (Jd fun _ hK6 _=>(Jb (Jg (Jl rfl (.s (.s (.s .z))) (by simpa [*] using ag27)) rfl (Jk rfl rfl (by first | exact bytesC_one _ | exact intsC_one _ | exact Term.c_one _ | simp [Value.oneCell']) (by simpa [*] using sz27) (by simp [*]) (.s (.s (.s (.s (.s .z))))) (Jf (Ja (hK6 (Jt (Jy rfl (Res.agg rfl (.s (.s (.s (.s (.s .z))))) (by simpa [*] using ag27)) fun w hH=>?_))))))))))))));replace hH:=hH.sublist (.cons_cons _ (.cons_cons _ (.cons _ (.cons _ (.cons_cons _ (.cons _ (List.Sublist.refl _)))))));exact ⟨_,kf8,_,_,_,_,_,_,DrB.of (by have:=bdyV_len code (nxS code ks8 40) (ka8++[2]);simp only [List.length_append,List.length_cons,List.length_nil] at this;omega) (by omega) hk8.b.all,rfl,(hH.front (.s (.s .z))).front (.s .z)⟩
 ·
  refine Jd fun _ hK7 _=>(Jb (Jg (En rfl rfl) rfl (Jg (Je rfl) rfl (Jf (Ja (hK7 (Jp rfl (fun h20=>?_) (fun h20=>?_))))))))
  ·
   refine CJ.unFs (.s (.s (.s .z))) (Jb (Jg (Jq u27 rfl sz25 rfl) rfl (Jg (Jv rfl (.s (.s (.s .z))) rfl pl25) rfl (Jg (JQ bz42) rfl (EX (EI u25 ze42 sz42 rfl rfl) rfl fun qo25 co25=>(EK u25 ze42 sz42 by42 rfl rfl rfl rfl (by omega) .z (.s .z) (fun _ _=>(.s .z)) rfl fun qo26 co26=>(Jg (Jq u27 rfl sz25 rfl) rfl (Ez rfl rfl rfl rfl sz25 (by simp [*]) (.s (.s (.s (.s .z)))) (Jf (JJ (Ja (hK3 (Jd fun _ hK8 _=>(Jb (Jg (Jl rfl (.s (.s (.s (.s .z)))) (by simpa [*] using ag27)) rfl ?_)))))))))))))));refine Jk rfl rfl (by first | exact bytesC_one _ | exact intsC_one _ | exact Term.c_one _ | simp [Value.oneCell']) (by simpa [*] using sz27) (by simp [*]) (.s (.s (.s (.s (.s (.s .z)))))) (Jf (Ja (hK8 (Jt (Jy rfl (Res.agg rfl (.s (.s (.s (.s (.s (.s .z)))))) (by simpa [*] using ag27)) fun w hH=>?_)))));replace hH:=hH.sublist (.cons _ (.cons_cons _ (.cons_cons _ (.cons_cons _ (.cons _ (.cons_cons _ (.cons _ (List.Sublist.refl _))))))));exact ⟨ka8,kf8++[[]],_,_,_,_,_,_,DrB.of (by omega) (by simp;omega) (fun f hf=>(List.mem_append.1 hf).elim (hk8.b.all f) fun h9=>by rw [List.mem_singleton.1 h9];exact ⟨by simp,Wfs.nil⟩),(have e:(kf8++[[]]).length=kf8.length+1:=(by simp);by rw [e];rfl),(Hp.fsDone rfl (hH.own0 89 9)).front (.s (.s .z))⟩
  ·
   refine Jd fun _ hK9 _=>(Jb (Jg (En rfl rfl) rfl (Jg (Je rfl) rfl (Jf (Ja (hK9 (Jp rfl (fun h28=>?_) (fun h28=>?_))))))))
   ·
    refine Jd fun _ hK10 _=>(Jb (Jg (Jq u27 rfl sz25 rfl) rfl (Jg (Jv rfl (.s .z) rfl pl25) rfl (Jg (Jr u25 rfl rfl) rfl (Jg (Eq rfl rfl) rfl (Jf (Ja (hK10 (Jp rfl (fun h33=>?_) (fun h33=>?_))))))))))
    ·
     have hni:=nxV_bd hbk (nxS code ks8 40) (kf8.length:Int)
     have hri:(nxV code (nxS code ks8 40) (kf8.length:Int))=(((nxV code (nxS code ks8 40) (kf8.length:Int)).toNat:Nat):Int):=by omega
     have hil:(nxV code (nxS code ks8 40) (kf8.length:Int)).toNat<kf8.length:=by omega
     refine CJ.unFs (.s (.s (.s .z))) (Ed (Rs:=[_,_,_,_,_,_]) 13 [[], [0], [], [], [3], [3,4], [2,3,4,5], [], [], [8], [2,3,4,5,6,7,8,9], [0,1,2,3,4,5,6,7,8,9,10], [0,1,2,3,4,5,6,7,8,9,10,11]] [[], [16], [], [], [16], [], [], [], [], [16], [17], [14], []] [[], [], [], [], [], [], [15], [], [], [], [6], [], [14]] rfl rfl (by kernel_rfl) ?_);apply Jm 1 rfl
     iterate 3 focus (intros;(conv=>lhs;simp only [Jh,Js,JO,Ju,JI,eq_self,reduceEqDiff,reduceIte,reduceSub,reduceAdd,JxA,JxB]);all_goals rfl)
     ·
      intro gh X K zq zc zq2 zc2 zb zv hK;refine Jg (Jq u27 rfl sz25 rfl) rfl (Jj ?_);exact hK zq zc zq2 zc2 zb zv
     ·
      intro gh gh' h
      rfl
     apply Jm 2 rfl
     iterate 3 focus (intros;(conv=>lhs;simp only [Jh,Js,JO,Ju,JI,eq_self,reduceEqDiff,reduceIte,reduceSub,reduceAdd,JxA,JxB]);all_goals rfl)
     ·
      intro gh X K zq zc zq2 zc2 zb zv hK;refine Jg (Jv rfl At.z rfl pl25) rfl (Jj ?_);exact hK zq zc zq2 zc2 zb zv
     ·
      intro gh gh' h
      rfl
     apply Jm 3 rfl
     iterate 3 focus (intros;(conv=>lhs;simp only [Jh,Js,JO,Ju,JI,eq_self,reduceEqDiff,reduceIte,reduceSub,reduceAdd,JxA,JxB]);all_goals rfl)
     ·
      intro gh X K zq zc zq2 zc2 zb zv hK;refine Jg (Jc rfl) rfl (Jj ?_);exact hK zq zc zq2 zc2 zb zv
     ·
      intro gh gh' h
      rfl
     apply Jm 4 rfl
     iterate 3 focus (intros;(conv=>lhs;simp only [Jh,Js,JO,Ju,JI,eq_self,reduceEqDiff,reduceIte,reduceSub,reduceAdd,JxA,JxB]);all_goals rfl)
     ·
      intro gh X K zq zc zq2 zc2 zb zv hK;refine Jg (Jq u27 rfl sz25 rfl) rfl (Jj ?_);exact hK zq zc zq2 zc2 zb zv
     ·
      intro gh gh' h
      rfl
     apply Jm 5 rfl
     iterate 3 focus (intros;(conv=>lhs;simp only [Jh,Js,JO,Ju,JI,eq_self,reduceEqDiff,reduceIte,reduceSub,reduceAdd,JxA,JxB]);all_goals rfl)
     ·
      intro gh X K zq zc zq2 zc2 zb zv hK;refine Jg (Jv rfl At.z rfl pl25) rfl (Jj ?_);exact hK zq zc zq2 zc2 zb zv
     ·
      intro gh gh' h
      rfl
     apply Jm 6 rfl
     iterate 3 focus (intros;(conv=>lhs;simp only [Jh,Js,JO,Ju,JI,eq_self,reduceEqDiff,reduceIte,reduceSub,reduceAdd,JxA,JxB]);all_goals rfl)
     ·
      intro gh X K zq zc zq2 zc2 zb zv hK;refine Jg (Jr u25 rfl rfl) rfl (Jj ?_);exact hK zq zc zq2 zc2 zb zv
     ·
      intro gh gh' h
      rfl
     apply Eb 7 rfl
     iterate 3 focus (intros;(conv=>lhs;simp only [Jh,Js,JO,Ju,JI,eq_self,reduceEqDiff,reduceIte,reduceSub,reduceAdd,JxA,JxB]);all_goals rfl)
     ·
      intro gh X K zq zc zq2 zc2 zb zv hK;refine Jz fn30 rfl rfl fun w hH=>(l01Next_c hbt hbk hcl (hH.front .z)).mono ?_;rintro _ w ⟨rfl,hH⟩;refine ⟨_,rfl,fun a hF=>JL hF hH ?_⟩;refine Jj ?_;exact hK zq zc zq2 zc2 zb zv
     ·
      intro gh gh' h;refine ⟨?_,?_⟩ <;> rfl
     apply Jm 8 rfl
     iterate 3 focus (intros;(conv=>lhs;simp only [Jh,Js,JO,Ju,JI,eq_self,reduceEqDiff,reduceIte,reduceSub,reduceAdd,JxA,JxB]);all_goals rfl)
     ·
      intro gh X K zq zc zq2 zc2 zb zv hK;refine Jg (Jc rfl) rfl (Jj ?_);exact hK zq zc zq2 zc2 zb zv
     ·
      intro gh gh' h
      rfl
     apply Jm 9 rfl
     iterate 3 focus (intros;(conv=>lhs;simp only [Jh,Js,JO,Ju,JI,eq_self,reduceEqDiff,reduceIte,reduceSub,reduceAdd,JxA,JxB]);all_goals rfl)
     ·
      intro gh X K zq zc zq2 zc2 zb zv hK;refine Jg (Jq u27 rfl sz24 rfl) rfl (Jj ?_);exact hK zq zc zq2 zc2 zb zv
     ·
      intro gh gh' h
      rfl
     apply Jm 10 rfl
     iterate 3 focus (intros;(conv=>lhs;simp only [Jh,Js,JO,Ju,JI,eq_self,reduceEqDiff,reduceIte,reduceSub,reduceAdd,JxA,JxB]);all_goals rfl)
     ·
      intro gh X K zq zc zq2 zc2 zb zv hK;refine Jg (Jv rfl At.z rfl pl24) rfl (Jj ?_);exact hK zq zc zq2 zc2 zb zv
     ·
      intro gh gh' h
      rfl
     apply GJ.st2 11 rfl
     iterate 3 focus (intros;(conv=>lhs;simp only [Jh,Js,JO,Ju,JI,eq_self,reduceEqDiff,reduceIte,reduceSub,reduceAdd,JxA,JxB]);all_goals rfl)
     ·
      intro gh X K zq zc zq2 zc2 zb zv hK;refine Jz fn61 rfl rfl fun w hH=>hH.lend (.s .z) fun Hl1 hle1 hA1 hB1 hH=>(l01DrawAny_c (hbt.le hle1) hbk (own_ints hA1) hk8.hd0 hk8.hn (by omega) hcl (hH.front .z)).mono ?_;rintro _ w ⟨qo44,co44,rfl,hH⟩;replace hH:=hB1 _ _ hH;refine ⟨_,rfl,fun a hF=>JL hF hH ?_⟩;refine Ji .z (Ji (.s (.s .z)) (Ji (.s (.s .z)) (Jj ?_)));exact hK qo44 co44 zq2 zc2 zb zv
     ·
      intro gh gh' h;refine ⟨?_,?_,?_⟩ <;> rfl
     apply Jm 12 rfl
     iterate 3 focus (intros;(conv=>lhs;simp only [Jh,Js,JO,Ju,JI,eq_self,reduceEqDiff,reduceIte,reduceSub,reduceAdd,JxA,JxB]);all_goals rfl)
     ·
      intro gh X K zq zc zq2 zc2 zb zv hK;refine Jg (EM (i':=(nxV code (nxS code ks8 40) (kf8.length:Int)).toNat) u25 sz42 rfl rfl hri (by omega) At.z) rfl (Jj ?_);exact hK zq zc zq2 zc2 zb zv
     ·
      intro gh gh' h
      first | simp only [h 10 rfl] | rfl
     apply Es 13 rfl
     iterate 3 focus (intros;(conv=>lhs;simp only [Jh,Js,JO,Ju,JI,eq_self,reduceEqDiff,reduceIte,reduceSub,reduceAdd,JxA,JxB]);all_goals rfl)
     ·
      intro gh X K hK;refine J.storeWA rfl rfl rfl rfl sz42 (by omega) At.z (Jj ?_);exact hK
     ·
      intro gh gh' h
      first | simp only [h 10 rfl] | rfl
     apply Ec [0,1,2,3,4,5,6,7,8,9,10,11,12] [0,1,2,3,4,5,7,8,9,10,11,12,13,16,17,18] foll0 rfl rfl rfl (by rfl)
     iterate 2 focus (intros;(conv=>lhs;simp only [Jh,Js,JO,Ju,JI,eq_self,reduceEqDiff,reduceIte,reduceSub,reduceAdd,JxA,JxB]);all_goals rfl)
     intro gh;generalize (gh 10).c=co44;generalize (gh 10).q=qo44;clear gh;refine JJ (Ja (hK3 (Jd fun _ hK11 _=>(Jb (Jg (Jl rfl (.s (.s (.s (.s .z)))) (by simpa [*] using ag27)) rfl (Jk rfl rfl (by first | exact bytesC_one _ | exact intsC_one _ | exact Term.c_one _ | simp [Value.oneCell']) (by simpa [*] using sz27) (by simp [*]) (.s (.s (.s (.s (.s (.s .z)))))) (Jf (Ja (hK11 (Jt (Jy rfl (Res.agg rfl (.s (.s (.s (.s (.s (.s .z)))))) (by simpa [*] using ag27)) fun w hH=>?_)))))))))));replace hH:=hH.sublist (.cons_cons _ (.cons_cons _ (.cons_cons _ (.cons_cons _ (.cons _ (.cons_cons _ (.cons _ (List.Sublist.refl _))))))));have hda:=daV_ok hbk hk8.hd0 hk8.hn (nxS code (nxS code ks8 40) (kf8.length:Int)) (most:=3) (by omega);exact ⟨ka8,kf8.set (nxV code (nxS code ks8 40) (kf8.length:Int)).toNat (daV code ka8 (nxS code (nxS code ks8 40) (kf8.length:Int)) 3),_,_,_,_,_,_,DrB.of (by omega) (by rw [List.length_set];omega) (fun f hf=>(List.mem_or_eq_of_mem_set hf).elim (hk8.b.all f) fun h9=>by rw [h9];exact ⟨by have:=hda.len;omega,hda.wf⟩),(by rw [List.length_set]),(Hp.fsSet hil rfl (((hH.front (.s (.s .z))).front (.s (.s (.s .z)))).front (.s (.s .z)))).front (.s (.s .z))⟩
    ·
     refine Jo (JJ (Ja (hK3 (Jd fun _ hK12 _=>(Jb (Jg (Jl rfl (.s .z) (by simpa [*] using ag27)) rfl (Jk rfl rfl (by first | exact bytesC_one _ | exact intsC_one _ | exact Term.c_one _ | simp [Value.oneCell']) (by simpa [*] using sz27) (by simp [*]) (.s (.s (.s (.s .z)))) (Jf (Ja (hK12 (Jt (Jy rfl (Res.agg rfl (.s (.s (.s (.s .z)))) (by simpa [*] using ag27)) fun w hH=>?_))))))))))));replace hH:=hH.sublist (.cons_cons _ (.cons _ (.cons_cons _ (.cons_cons _ (.cons _ (List.Sublist.refl _))))));exact ⟨ka8,kf8,_,_,_,_,_,_,hk8.b,rfl,(hH.front (.s (.s .z))).front (.s (.s .z))⟩
   ·
    refine Jd fun _ hK13 _=>(Jb (Jg (En rfl rfl) rfl (Jg (Je rfl) rfl (Jf (Ja (hK13 (Jp rfl (fun h46=>?_) (fun h46=>?_))))))))
    ·
     refine Jd fun _ hK14 _=>(Jb (Jg (Jq u27 rfl sz24 rfl) rfl (Jg (Jv rfl (.s .z) rfl pl24) rfl (Jg (Jr u24 rfl rfl) rfl (Jg (Eq rfl rfl) rfl (Jf (Ja (hK14 (Jp rfl (fun h51=>?_) (fun h51=>?_))))))))))
     ·
      refine Ed (Rs:=[_,_,_,_,_]) 7 [[], [0], [], [], [2,3], [0,1,2,3,4], [0,1,2,3,4,5]] [[], [8], [], [], [3], [9], []] [[], [], [], [], [7], [], [9]] rfl rfl (by kernel_rfl) ?_;apply Jm 1 rfl
      iterate 3 focus (intros;(conv=>lhs;simp only [Jh,Js,JO,Ju,JI,eq_self,reduceEqDiff,reduceIte,reduceSub,reduceAdd,JxA,JxB]);all_goals rfl)
      ·
       intro gh X K zq zc zq2 zc2 zb zv hK;refine Jg (Jq u27 rfl sz24 rfl) rfl (Jj ?_);exact hK zq zc zq2 zc2 zb zv
      ·
       intro gh gh' h
       rfl
      apply Jm 2 rfl
      iterate 3 focus (intros;(conv=>lhs;simp only [Jh,Js,JO,Ju,JI,eq_self,reduceEqDiff,reduceIte,reduceSub,reduceAdd,JxA,JxB]);all_goals rfl)
      ·
       intro gh X K zq zc zq2 zc2 zb zv hK;refine Jg (Jv rfl At.z rfl pl24) rfl (Jj ?_);exact hK zq zc zq2 zc2 zb zv
      ·
       intro gh gh' h
       rfl
      apply Jm 3 rfl
      iterate 3 focus (intros;(conv=>lhs;simp only [Jh,Js,JO,Ju,JI,eq_self,reduceEqDiff,reduceIte,reduceSub,reduceAdd,JxA,JxB]);all_goals rfl)
      ·
       intro gh X K zq zc zq2 zc2 zb zv hK;refine Jg (Jc rfl) rfl (Jj ?_);exact hK zq zc zq2 zc2 zb zv
      ·
       intro gh gh' h
       rfl
      apply Eb 4 rfl
      iterate 3 focus (intros;(conv=>lhs;simp only [Jh,Js,JO,Ju,JI,eq_self,reduceEqDiff,reduceIte,reduceSub,reduceAdd,JxA,JxB]);all_goals rfl)
      ·
       intro gh X K zq zc zq2 zc2 zb zv hK;refine J.litN (intsC ([0,13,1,2]:List Int)) u24 ze2 sz2 rfl rfl rfl (by decide) (by decide) (fun v hv=>by obtain ⟨x,_,rfl⟩:=List.mem_map.1 hv;rfl) rfl fun g55=>(Jj ?_);exact hK zq zc zq2 zc2 g55 zv
      ·
       intro gh gh' h;refine ⟨?_,?_⟩ <;> rfl
      apply Eb 5 rfl
      iterate 3 focus (intros;(conv=>lhs;simp only [Jh,Js,JO,Ju,JI,eq_self,reduceEqDiff,reduceIte,reduceSub,reduceAdd,JxA,JxB]);all_goals rfl)
      ·
       intro gh X K zq zc zq2 zc2 zb zv hK;refine Jz fn62 rfl rfl fun w hH=>hH.lend (.s .z) fun Hl1 hle1 hA1 hB1 hH=>(l01Pick_c (hbt.le hle1) hbk (own_ints hA1) (Nat.le_of_ble_eq_true rfl) (Nat.le_of_ble_eq_true rfl) hcl (hH.front .z)).mono ?_;rintro _ w ⟨rfl,hH⟩;replace hH:=hB1 _ _ hH;refine ⟨_,rfl,fun a hF=>JL hF hH ?_⟩;refine Ji .z (Ji (.s .z) (Jj ?_));exact hK zq zc zq2 zc2 zb zv
      ·
       intro gh gh' h;refine ⟨?_,?_⟩ <;> (first | simp only [h 3 rfl] | rfl)
      apply Jm 6 rfl
      iterate 3 focus (intros;(conv=>lhs;simp only [Jh,Js,JO,Ju,JI,eq_self,reduceEqDiff,reduceIte,reduceSub,reduceAdd,JxA,JxB]);all_goals rfl)
      ·
       intro gh X K zq zc zq2 zc2 zb zv hK;refine Jg (EM (i':=0) u24 sz2 rfl rfl rfl (by omega) At.z) rfl (Jj ?_);exact hK zq zc zq2 zc2 zb zv
      ·
       intro gh gh' h
       first | simp only [h 3 rfl] | rfl
      apply Es 7 rfl
      iterate 3 focus (intros;(conv=>lhs;simp only [Jh,Js,JO,Ju,JI,eq_self,reduceEqDiff,reduceIte,reduceSub,reduceAdd,JxA,JxB]);all_goals rfl)
      ·
       intro gh X K hK;refine J.storeWI rfl rfl sz2 (by omega) At.z (Jj ?_);exact hK
      ·
       intro gh gh' h
       first | simp only [h 3 rfl] | rfl
      apply Ec [0,1,2,3,4,5,6] [0,1,2,3,4,5,6,8,10,11] foll0 rfl rfl rfl (by rfl)
      iterate 2 focus (intros;(conv=>lhs;simp only [Jh,Js,JO,Ju,JI,eq_self,reduceEqDiff,reduceIte,reduceSub,reduceAdd,JxA,JxB]);all_goals rfl)
      intro gh;generalize (gh 3).b=g55;clear gh;refine JJ (Ja (hK3 (Jd fun _ hK15 _=>(Jb (Jg (Jl rfl (.s (.s (.s .z))) (by simpa [*] using ag27)) rfl (Jk rfl rfl (by first | exact bytesC_one _ | exact intsC_one _ | exact Term.c_one _ | simp [Value.oneCell']) (by simpa [*] using sz27) (by simp [*]) (.s (.s (.s (.s (.s .z))))) (Jf (Ja (hK15 (Jt (Jy rfl (Res.agg rfl (.s (.s (.s (.s (.s .z))))) (by simpa [*] using ag27)) fun w hH=>?_)))))))))));replace hH:=hH.sublist (.cons _ (.cons_cons _ (.cons_cons _ (.cons _ (.cons_cons _ (.cons _ (List.Sublist.refl _)))))));exact ⟨ka8.set 0 (pkV code (nxS code ks8 40) [0,13,1,2]),kf8,_,_,_,_,_,_,DrB.of (by rw [List.length_set];omega) (by omega) hk8.b.all,(by rw [List.length_set]),(by rw [List.length_set];exact (hH.front (.s (.s .z))).front (.s (.s .z)))⟩
     ·
      refine Jo (JJ (Ja (hK3 (Jd fun _ hK16 _=>(Jb (Jg (Jl rfl (.s .z) (by simpa [*] using ag27)) rfl (Jk rfl rfl (by first | exact bytesC_one _ | exact intsC_one _ | exact Term.c_one _ | simp [Value.oneCell']) (by simpa [*] using sz27) (by simp [*]) (.s (.s (.s (.s .z)))) (Jf (Ja (hK16 (Jt (Jy rfl (Res.agg rfl (.s (.s (.s (.s .z)))) (by simpa [*] using ag27)) fun w hH=>?_))))))))))));replace hH:=hH.sublist (.cons_cons _ (.cons _ (.cons_cons _ (.cons_cons _ (.cons _ (List.Sublist.refl _))))));exact ⟨ka8,kf8,_,_,_,_,_,_,hk8.b,rfl,(hH.front (.s (.s .z))).front (.s (.s .z))⟩
    ·
     refine Jo (JJ (Ja (hK3 (Jd fun _ hK17 _=>(Jb (Jg (Jl rfl (.s .z) (by simpa [*] using ag27)) rfl (Jk rfl rfl (by first | exact bytesC_one _ | exact intsC_one _ | exact Term.c_one _ | simp [Value.oneCell']) (by simpa [*] using sz27) (by simp [*]) (.s (.s (.s (.s .z)))) (Jf (Ja (hK17 (Jt (Jy rfl (Res.agg rfl (.s (.s (.s (.s .z)))) (by simpa [*] using ag27)) fun w hH=>?_))))))))))));replace hH:=hH.sublist (.cons_cons _ (.cons _ (.cons_cons _ (.cons_cons _ (.cons _ (List.Sublist.refl _))))));exact ⟨ka8,kf8,_,_,_,_,_,_,hk8.b,rfl,(hH.front (.s (.s .z))).front (.s (.s .z))⟩
theorem fn23:Fn Tryz.prog 23:=⟨_,Tryz.func23,by kernel_rfl,rfl⟩
theorem fn24:Fn Tryz.prog 24:=⟨_,Tryz.func24,by kernel_rfl,rfl⟩
theorem fn87:Fn Tryz.prog 87:=⟨_,Tryz.func87,by kernel_rfl,rfl⟩
theorem isAlg_dg {ds:List Int} {fs:List (List Term)} (h:isAlg ds fs=true):isDeg ds=true:=by
 unfold isAlg at h;simp only [Bool.and_eq_true] at h;exact h.1.1.1
theorem dS_len2 {ds:List Int} {fs:List (List Term)} {f:List Term} (hL : ∀i,i<fs.length→(fm fs i).length≤10000) (ho:Occ fs.length (toS f)):(ofS (dS ds fs (toS f))).length≤f.length * 80000:=by
 have h1:=dAll_len (ds:=ds) hL ho;have h2:=acc_len (dAll ds fs (toS f)) [];rw [ofS_len];rw [toS_len] at h1;unfold dS;simp only [List.length_nil] at h2
 omega
theorem l02Two_c {B:World} {H0 H:HP} {L:List SA} {w:World} {qb:Option Addr} {cb:Nat} {code:List Int} (hbt:Bts H qb code) (hbk:BtOk code) (hcl:code.length≤1048576) (hH:Hp B H0 H L w):Calls Tryz.prog 45 [.slice qb code.length cb].toArray w fun e w'=>∃ad af f qd cd qf cf vs q c,DrB ad af∧(Wfs f∧f.length≤1048576∧(isAlg ad af=true∨f=[]))∧e = .returned (.tuple #[.agg [.slice qd ad.length cd,.slice qf af.length cf].toArray,.agg [.slice q f.length c].toArray])∧Hp B H0 H (own 2 1 qd ad.length cd (intsC ad)::ownFs 42 89 qf cf vs af::own 89 9 q f.length c (tsC f)::L) w':=by
 refine JD Tryz.func45 rfl 35 rfl rfl [(0,.slice qb code.length cb)] rfl hH ?_;clear hH;refine Jd fun _ hK1 _=>(Jb (JG ze27 rfl fun g2=>(JG ze42 rfl fun g3=>(Jf (Ja (hK1 (Jd fun _ hK2 _=>(Jb (Jg (Jc rfl) rfl (Jz fn24 rfl rfl fun w hH=>(l01From_c hbt hbk hcl hH).mono ?_))))))))));rintro _ w ⟨gs,s0,rfl,hH⟩;refine ⟨_,rfl,fun a hF=>JL hF hH ?_⟩;refine Jg (Je rfl) rfl (Jf (Ja (hK2 (Jd fun _ hK3 _=>(Jb (Jg (Jc rfl) rfl (Jz fn23 rfl rfl fun w hH=>(l02Spoil_c hbt hbk (by omega) hcl (hH.front .z)).mono ?_)))))));rintro _ w ⟨ka9,kf9,ks9,qd9,cd9,qf9,cf9,vs9,hk9,rfl,hH⟩;refine ⟨_,rfl,fun a hF=>JL hF hH ?_⟩;refine JG ze27 rfl fun g5=>(Jk rfl rfl (by first | exact bytesC_one _ | exact intsC_one _ | exact Term.c_one _ | simp [Value.oneCell']) (by simpa [*] using sz27) (by simp [*]) At.z (Jf (Ja (hK3 (Jd fun _ hK4 _=>(Jd fun _ hK5 _=>(Jb (Jg (Jl rfl At.z (by simpa [*] using ag27)) rfl (Jz fn27 rfl rfl fun w hH=>hH.lend (.s .z) fun Hl1 hle1 hA1 hB1 hH=>hH.lend (.s .z) fun Hl2 hle2 hA2 hB2 hH=>(l02Is_c ((own_ints hA1).le hle2) (own_forms hk9.wf hA2) (by have:=hk9.hn;omega) (by have:=hk9.hl;omega) (fun i hi=>by have:=hk9.len i hi;omega) hH).mono ?_)))))))));rintro _ w ⟨rfl,hH⟩;replace hH:=hB2 _ _ hH;replace hH:=hB1 _ _ hH;refine ⟨_,rfl,fun a hF=>JL hF hH ?_⟩;refine Jg (Er rfl) rfl (Jf (Ja (hK5 (Ek rfl (fun h12=>?_) (fun h12=>?_)))))
 ·
  refine Jd fun _ hK6 _=>(Jb (Jg (Jl rfl (.s (.s .z)) (by simpa [*] using ag27)) rfl (EG 89 9 (Jg (JQ bz42) rfl (Jk rfl rfl (by first | exact bytesC_one _ | exact intsC_one _ | exact Term.c_one _ | simp [Value.oneCell']) (by simpa [*] using sz27) (by simp [*]) (.s (.s (.s (.s (.s (.s .z)))))) (Jk rfl rfl (by first | exact bytesC_one _ | exact intsC_one _ | exact Term.c_one _ | simp [Value.oneCell']) (by simpa [*] using sz42) (by simp [*]) (.s (.s (.s (.s (.s .z))))) (Jf (Ja (hK6 (Jt (Jn (JV rfl (Res.agg rfl (.s (.s (.s (.s (.s (.s .z)))))) (by simpa [*] using ag27)) (Res.agg rfl (.s (.s (.s (.s (.s .z))))) (by simpa [*] using ag42)) fun w hH=>?_))))))))))));replace hH:=hH.sublist (.cons_cons _ (.cons_cons _ (.cons_cons _ (.cons _ (.cons _ (.cons _ (.cons _ (List.Sublist.refl _))))))));exact ⟨ka9,kf9, [],_,_,_,_,_,_,_,hk9,⟨Wfs.nil,by simp,.inr rfl⟩,rfl,(hH.front (.s (.s .z))).front (.s (.s .z))⟩
 ·
  have hAlg:isAlg ka9 kf9=true:=not_t h12;have hA:=isAlg_ok hAlg hk9.wf;have hn1:=nxV_bd hbk (nxS code ks9 3) 10;refine Jo (Ja (hK4 (Jd fun _ hK7 _=>(Jd fun _ hK8 _=>(Jb (Jg (Jc rfl) rfl (Jz fn30 rfl rfl fun w hH=>(l01Next_c hbt hbk hcl (hH.front (.s (.s (.s .z))))).mono ?_)))))));rintro _ w ⟨rfl,hH⟩;refine ⟨_,rfl,fun a hF=>JL hF hH ?_⟩;refine Jg (En rfl rfl) rfl (Jf (Ja (hK8 (Jp rfl (fun h17=>?_) (fun h17=>?_)))))
  ·
   refine Jd fun _ hK9 _=>(Ed (Rs:=[_,_,_,_,_,_]) 12 [[], [], [], [], [3], [], [5], [5,6], [2,3,4,5,6,7], [1,2,3,4,5,6,7,8], [0,1,2,3,4,5,6,7,8,9], [0,1,2,3,4,5,6,7,8,9,10]] [[15], [15], [], [], [15], [], [], [], [13], [8,13,14], [], []] [[], [], [], [], [], [], [12], [], [6], [], [17], [16]] rfl rfl (by kernel_rfl) ?_);apply Jm 1 rfl
   iterate 3 focus (intros;(conv=>lhs;simp only [Jh,Js,JO,Ju,JI,eq_self,reduceEqDiff,reduceIte,reduceSub,reduceAdd,JxA,JxB]);all_goals rfl)
   ·
    intro gh X K zq zc zq2 zc2 zb zv hK;refine Jg (Jl rfl At.z (by simpa [*] using ag27)) rfl (Jj ?_);exact hK zq zc zq2 zc2 zb zv
   ·
    intro gh gh' h
    rfl
   apply Jm 2 rfl
   iterate 3 focus (intros;(conv=>lhs;simp only [Jh,Js,JO,Ju,JI,eq_self,reduceEqDiff,reduceIte,reduceSub,reduceAdd,JxA,JxB]);all_goals rfl)
   ·
    intro gh X K zq zc zq2 zc2 zb zv hK;refine Jg (Jl rfl At.z (by simpa [*] using ag27)) rfl (Jj ?_);exact hK zq zc zq2 zc2 zb zv
   ·
    intro gh gh' h
    rfl
   apply Jm 3 rfl
   iterate 3 focus (intros;(conv=>lhs;simp only [Jh,Js,JO,Ju,JI,eq_self,reduceEqDiff,reduceIte,reduceSub,reduceAdd,JxA,JxB]);all_goals rfl)
   ·
    intro gh X K zq zc zq2 zc2 zb zv hK;refine Jg (Jc rfl) rfl (Jj ?_);exact hK zq zc zq2 zc2 zb zv
   ·
    intro gh gh' h
    rfl
   apply Jm 4 rfl
   iterate 3 focus (intros;(conv=>lhs;simp only [Jh,Js,JO,Ju,JI,eq_self,reduceEqDiff,reduceIte,reduceSub,reduceAdd,JxA,JxB]);all_goals rfl)
   ·
    intro gh X K zq zc zq2 zc2 zb zv hK;refine Jg (Jq u27 rfl sz24 rfl) rfl (Jj ?_);exact hK zq zc zq2 zc2 zb zv
   ·
    intro gh gh' h
    rfl
   apply Jm 5 rfl
   iterate 3 focus (intros;(conv=>lhs;simp only [Jh,Js,JO,Ju,JI,eq_self,reduceEqDiff,reduceIte,reduceSub,reduceAdd,JxA,JxB]);all_goals rfl)
   ·
    intro gh X K zq zc zq2 zc2 zb zv hK;refine Jg (Jv rfl At.z rfl pl24) rfl (Jj ?_);exact hK zq zc zq2 zc2 zb zv
   ·
    intro gh gh' h
    rfl
   apply Jm 6 rfl
   iterate 3 focus (intros;(conv=>lhs;simp only [Jh,Js,JO,Ju,JI,eq_self,reduceEqDiff,reduceIte,reduceSub,reduceAdd,JxA,JxB]);all_goals rfl)
   ·
    intro gh X K zq zc zq2 zc2 zb zv hK;refine Jg (Jc rfl) rfl (Jj ?_);exact hK zq zc zq2 zc2 zb zv
   ·
    intro gh gh' h
    rfl
   apply Eb 7 rfl
   iterate 3 focus (intros;(conv=>lhs;simp only [Jh,Js,JO,Ju,JI,eq_self,reduceEqDiff,reduceIte,reduceSub,reduceAdd,JxA,JxB]);all_goals rfl)
   ·
    intro gh X K zq zc zq2 zc2 zb zv hK;refine Jz fn30 rfl rfl fun w hH=>(l01Next_c hbt hbk hcl (hH.front .z)).mono ?_;rintro _ w ⟨rfl,hH⟩;refine ⟨_,rfl,fun a hF=>JL hF hH ?_⟩;refine Jj ?_;exact hK zq zc zq2 zc2 zb zv
   ·
    intro gh gh' h;refine ⟨?_,?_⟩ <;> rfl
   apply Jm 8 rfl
   iterate 3 focus (intros;(conv=>lhs;simp only [Jh,Js,JO,Ju,JI,eq_self,reduceEqDiff,reduceIte,reduceSub,reduceAdd,JxA,JxB]);all_goals rfl)
   ·
    intro gh X K zq zc zq2 zc2 zb zv hK;refine Jg (JF rfl rfl (nw _ (by omega))) rfl (Jj ?_);exact hK zq zc zq2 zc2 zb zv
   ·
    intro gh gh' h
    rfl
   apply GJ.st2 9 rfl
   iterate 3 focus (intros;(conv=>lhs;simp only [Jh,Js,JO,Ju,JI,eq_self,reduceEqDiff,reduceIte,reduceSub,reduceAdd,JxA,JxB]);all_goals rfl)
   ·
    intro gh X K zq zc zq2 zc2 zb zv hK;refine Jz fn71 rfl rfl fun w hH=>hH.lend (.s .z) fun Hl1 hle1 hA1 hB1 hH=>(l01DrawForm_c (hbt.le hle1) hbk (own_ints hA1) (isDeg_1 (isAlg_dg hAlg)) hA.hn (by omega) (by omega) hcl (hH.front .z)).mono ?_;rintro _ w ⟨qo26,co26,rfl,hH⟩;replace hH:=hB1 _ _ hH;refine ⟨_,rfl,fun a hF=>JL hF hH ?_⟩;refine Ji .z (Ji (.s (.s .z)) (Ji (.s (.s .z)) (Jj ?_)));exact hK qo26 co26 zq2 zc2 zb zv
   ·
    intro gh gh' h;refine ⟨?_,?_,?_⟩ <;> rfl
   apply Eb 10 rfl
   iterate 3 focus (intros;(conv=>lhs;simp only [Jh,Js,JO,Ju,JI,eq_self,reduceEqDiff,reduceIte,reduceSub,reduceAdd,JxA,JxB]);all_goals rfl)
   ·
    intro gh X K zq zc zq2 zc2 zb zv hK;refine Jz fn54 rfl rfl fun w hH=>hH.lend (.s (.s .z)) fun Hl1 hle1 hA1 hB1 hH=>hH.lend (.s (.s .z)) fun Hl2 hle2 hA2 hB2 hH=>hH.lend .z fun Hl3 hle3 hA3 hB3 hH=>(l02D_c (((own_ints hA1).le hle2).le hle3) ((own_forms hk9.wf hA2).le hle3) (own_terms (dfV_ok hbk hA.hn (isDeg_1 (isAlg_dg hAlg)) (1+(nxV code (nxS code ks9 3) 10)) (nxS code (nxS code ks9 3) 10) (most:=3) (by omega)).wf hA3) hA.hn hA.hd hA.fok hA.hl hA.kex (dfV_ok hbk hA.hn (isDeg_1 (isAlg_dg hAlg)) (1+(nxV code (nxS code ks9 3) 10)) (nxS code (nxS code ks9 3) 10) (most:=3) (by omega)).sok (dfV_ok hbk hA.hn (isDeg_1 (isAlg_dg hAlg)) (1+(nxV code (nxS code ks9 3) 10)) (nxS code (nxS code ks9 3) 10) (most:=3) (by omega)).kex (by omega) hA.len (by have:=(dfV_ok hbk hA.hn (isDeg_1 (isAlg_dg hAlg)) (1+(nxV code (nxS code ks9 3) 10)) (nxS code (nxS code ks9 3) 10) (most:=3) (by omega)).len;omega) hH).mono ?_;rintro _ w ⟨qo27,co27,rfl,hH⟩;replace hH:=hB3 _ _ hH;replace hH:=hB2 _ _ hH;replace hH:=hB1 _ _ hH;refine ⟨_,rfl,fun a hF=>JL hF hH ?_⟩;refine Ji (.s .z) (Ji (.s .z) (Ji (.s (.s (.s (.s .z)))) (Ji (.s (.s (.s .z))) (Ji (.s (.s (.s (.s .z)))) (Jj ?_)))));exact hK qo27 co27 zq2 zc2 zb zv
   ·
    intro gh gh' h;refine ⟨?_,?_⟩ <;> (first | simp only [h 8 rfl] | rfl)
   apply Es 11 rfl
   iterate 3 focus (intros;(conv=>lhs;simp only [Jh,Js,JO,Ju,JI,eq_self,reduceEqDiff,reduceIte,reduceSub,reduceAdd,JxA,JxB]);all_goals rfl)
   ·
    intro gh X K hK;refine Jk rfl rfl (by first | exact bytesC_one _ | exact intsC_one _ | exact Term.c_one _ | simp [Value.oneCell']) (by simpa [*] using sz27) (by simp [*]) At.z (Jj ?_);exact hK
   ·
    intro gh gh' h
    first | simp only [h 8 rfl,h 9 rfl] | rfl
   apply Es 12 rfl
   iterate 3 focus (intros;(conv=>lhs;simp only [Jh,Js,JO,Ju,JI,eq_self,reduceEqDiff,reduceIte,reduceSub,reduceAdd,JxA,JxB]);all_goals rfl)
   ·
    intro gh X K hK;refine Jk rfl rfl (by first | exact bytesC_one _ | exact intsC_one _ | exact Term.c_one _ | simp [Value.oneCell']) (by simpa [*] using sz42) (by simp [*]) At.z (Jj ?_);exact hK
   ·
    intro gh gh' h
    first | simp only [h 8 rfl,h 9 rfl] | rfl
   apply Ec [0,1,2,3,4,5,6,7,8,9,10,11] [0,1,2,3,4,5,7,8,9,10,11,13,14,15] foll0 rfl rfl rfl (by rfl)
   iterate 2 focus (intros;(conv=>lhs;simp only [Jh,Js,JO,Ju,JI,eq_self,reduceEqDiff,reduceIte,reduceSub,reduceAdd,JxA,JxB]);all_goals rfl)
   intro gh;generalize (gh 8).c=co26;generalize (gh 8).q=qo26;generalize (gh 9).c=co27;generalize (gh 9).q=qo27;clear gh;refine Ja (hK9 (Jt (Jn (JV rfl (Res.agg rfl (.s (.s (.s .z))) (by simpa [*] using ag27)) (Res.agg rfl (.s (.s (.s (.s .z)))) (by simpa [*] using ag42)) fun w hH=>?_))));replace hH:=hH.sublist (.cons _ (.cons _ (.cons_cons _ (.cons _ (.cons _ (.cons_cons _ (.cons_cons _ (.cons _ (List.Sublist.refl _)))))))));have h9:=dS_len2 (ds:=ka9) (fs:=kf9) (f:=(dfV code ka9 (1+(nxV code (nxS code ks9 3) 10)) (nxS code (nxS code ks9 3) 10) 3)) hA.len (Ex.occ (dfV_ok hbk hA.hn (isDeg_1 (isAlg_dg hAlg)) (1+(nxV code (nxS code ks9 3) 10)) (nxS code (nxS code ks9 3) 10) (most:=3) (by omega)).kex hA.hl);have h8:=(dfV_ok hbk hA.hn (isDeg_1 (isAlg_dg hAlg)) (1+(nxV code (nxS code ks9 3) 10)) (nxS code (nxS code ks9 3) 10) (most:=3) (by omega)).len;exact ⟨ka9,kf9,_,_,_,_,_,_,_,_,hk9,⟨(dS_sok (dfV_ok hbk hA.hn (isDeg_1 (isAlg_dg hAlg)) (1+(nxV code (nxS code ks9 3) 10)) (nxS code (nxS code ks9 3) 10) (most:=3) (by omega)).sok hA.fok (Ex.occ (dfV_ok hbk hA.hn (isDeg_1 (isAlg_dg hAlg)) (1+(nxV code (nxS code ks9 3) 10)) (nxS code (nxS code ks9 3) 10) (most:=3) (by omega)).kex hA.hl)).wf (by omega),by omega,.inl hAlg⟩,rfl,(hH.front (.s (.s .z))).front (.s (.s .z))⟩
  ·
   refine Jo (Ja (hK7 (Jd fun _ hK10 _=>(Ed (Rs:=[_,_,_,_,_,_]) 9 [[], [], [], [], [3], [2,3,4], [1,2,3,4,5], [0,1,2,3,4,5,6], [0,1,2,3,4,5,6,7]] [[12], [], [], [], [12], [10], [], [], []] [[], [], [], [], [], [9], [5], [14], [13]] rfl rfl (by kernel_rfl) ?_))));apply Jm 1 rfl
   iterate 3 focus (intros;(conv=>lhs;simp only [Jh,Js,JO,Ju,JI,eq_self,reduceEqDiff,reduceIte,reduceSub,reduceAdd,JxA,JxB]);all_goals rfl)
   ·
    intro gh X K zq zc zq2 zc2 zb zv hK;refine Jg (Jl rfl At.z (by simpa [*] using ag27)) rfl (Jj ?_);exact hK zq zc zq2 zc2 zb zv
   ·
    intro gh gh' h
    rfl
   apply Jm 2 rfl
   iterate 3 focus (intros;(conv=>lhs;simp only [Jh,Js,JO,Ju,JI,eq_self,reduceEqDiff,reduceIte,reduceSub,reduceAdd,JxA,JxB]);all_goals rfl)
   ·
    intro gh X K zq zc zq2 zc2 zb zv hK;refine Jg (Jc rfl) rfl (Jj ?_);exact hK zq zc zq2 zc2 zb zv
   ·
    intro gh gh' h
    rfl
   apply Jm 3 rfl
   iterate 3 focus (intros;(conv=>lhs;simp only [Jh,Js,JO,Ju,JI,eq_self,reduceEqDiff,reduceIte,reduceSub,reduceAdd,JxA,JxB]);all_goals rfl)
   ·
    intro gh X K zq zc zq2 zc2 zb zv hK;refine Jg (Jc rfl) rfl (Jj ?_);exact hK zq zc zq2 zc2 zb zv
   ·
    intro gh gh' h
    rfl
   apply Jm 4 rfl
   iterate 3 focus (intros;(conv=>lhs;simp only [Jh,Js,JO,Ju,JI,eq_self,reduceEqDiff,reduceIte,reduceSub,reduceAdd,JxA,JxB]);all_goals rfl)
   ·
    intro gh X K zq zc zq2 zc2 zb zv hK;refine Jg (Jq u27 rfl sz24 rfl) rfl (Jj ?_);exact hK zq zc zq2 zc2 zb zv
   ·
    intro gh gh' h
    rfl
   apply Jm 5 rfl
   iterate 3 focus (intros;(conv=>lhs;simp only [Jh,Js,JO,Ju,JI,eq_self,reduceEqDiff,reduceIte,reduceSub,reduceAdd,JxA,JxB]);all_goals rfl)
   ·
    intro gh X K zq zc zq2 zc2 zb zv hK;refine Jg (Jv rfl At.z rfl pl24) rfl (Jj ?_);exact hK zq zc zq2 zc2 zb zv
   ·
    intro gh gh' h
    rfl
   apply GJ.st2 6 rfl
   iterate 3 focus (intros;(conv=>lhs;simp only [Jh,Js,JO,Ju,JI,eq_self,reduceEqDiff,reduceIte,reduceSub,reduceAdd,JxA,JxB]);all_goals rfl)
   ·
    intro gh X K zq zc zq2 zc2 zb zv hK;refine Jz fn61 rfl rfl fun w hH=>hH.lend (.s .z) fun Hl1 hle1 hA1 hB1 hH=>(l01DrawAny_c (hbt.le hle1) hbk (own_ints hA1) hA.hd hA.hn (by omega) hcl (hH.front .z)).mono ?_;rintro _ w ⟨qo33,co33,rfl,hH⟩;replace hH:=hB1 _ _ hH;refine ⟨_,rfl,fun a hF=>JL hF hH ?_⟩;refine Ji .z (Ji (.s (.s .z)) (Ji (.s (.s .z)) (Jj ?_)));exact hK qo33 co33 zq2 zc2 zb zv
   ·
    intro gh gh' h;refine ⟨?_,?_,?_⟩ <;> rfl
   apply GJ.st2 7 rfl
   iterate 3 focus (intros;(conv=>lhs;simp only [Jh,Js,JO,Ju,JI,eq_self,reduceEqDiff,reduceIte,reduceSub,reduceAdd,JxA,JxB]);all_goals rfl)
   ·
    intro gh X K zq zc zq2 zc2 zb zv hK;refine Jz fn87 rfl rfl fun w hH=>(l01Wrong_c hbt hbk (daV_ok hbk hA.hd hA.hn (nxS code ks9 3) (most:=5) (by omega)).wf (by have:=(daV_ok hbk hA.hd hA.hn (nxS code ks9 3) (most:=5) (by omega)).len;omega) hcl ((hH.front .z).front (.s .z))).mono ?_;rintro _ w ⟨qo34,co34,rfl,hH⟩;refine ⟨_,rfl,fun a hF=>JL hF hH ?_⟩;refine Jj ?_;exact hK qo34 co34 zq2 zc2 zb zv
   ·
    intro gh gh' h;refine ⟨?_,?_,?_⟩ <;> (first | simp only [h 5 rfl] | rfl)
   apply Es 8 rfl
   iterate 3 focus (intros;(conv=>lhs;simp only [Jh,Js,JO,Ju,JI,eq_self,reduceEqDiff,reduceIte,reduceSub,reduceAdd,JxA,JxB]);all_goals rfl)
   ·
    intro gh X K hK;refine Jk rfl rfl (by first | exact bytesC_one _ | exact intsC_one _ | exact Term.c_one _ | simp [Value.oneCell']) (by simpa [*] using sz27) (by simp [*]) At.z (Jj ?_);exact hK
   ·
    intro gh gh' h
    first | simp only [h 5 rfl,h 6 rfl] | rfl
   apply Es 9 rfl
   iterate 3 focus (intros;(conv=>lhs;simp only [Jh,Js,JO,Ju,JI,eq_self,reduceEqDiff,reduceIte,reduceSub,reduceAdd,JxA,JxB]);all_goals rfl)
   ·
    intro gh X K hK;refine Jk rfl rfl (by first | exact bytesC_one _ | exact intsC_one _ | exact Term.c_one _ | simp [Value.oneCell']) (by simpa [*] using sz42) (by simp [*]) At.z (Jj ?_);exact hK
   ·
    intro gh gh' h
    first | simp only [h 5 rfl,h 6 rfl] | rfl
   apply Ec [0,1,2,3,4,5,6,7,8] [0,1,2,3,4,6,7,8,10,11,12] foll0 rfl rfl rfl (by rfl)
   iterate 2 focus (intros;(conv=>lhs;simp only [Jh,Js,JO,Ju,JI,eq_self,reduceEqDiff,reduceIte,reduceSub,reduceAdd,JxA,JxB]);all_goals rfl)
   intro gh;generalize (gh 5).c=co33;generalize (gh 5).q=qo33;generalize (gh 6).c=co34;generalize (gh 6).q=qo34;clear gh;refine Ja (hK10 (Jt (JV rfl (Res.agg rfl (.s (.s .z)) (by simpa [*] using ag27)) (Res.agg rfl (.s (.s (.s .z))) (by simpa [*] using ag42)) fun w hH=>?_)));replace hH:=hH.sublist (.cons_cons _ (.cons _ (.cons _ (.cons _ (.cons_cons _ (.cons_cons _ (.cons _ (List.Sublist.refl _))))))));have h9:=wrV_len code (daS code ka9 (nxS code ks9 3) 5) (daV code ka9 (nxS code ks9 3) 5);have h8:=(daV_ok hbk hA.hd hA.hn (nxS code ks9 3) (most:=5) (by omega)).len;exact ⟨ka9,kf9,_,_,_,_,_,_,_,_,hk9,⟨wrV_wf hbk (daV_ok hbk hA.hd hA.hn (nxS code ks9 3) (most:=5) (by omega)).wf,by omega,.inl hAlg⟩,rfl,(hH.front (.s (.s .z))).front (.s (.s .z))⟩
theorem eg89:Tryz.prog.eqGuardType Tryz.prog.depth 89=false:=by kernel_rfl
theorem fn22:Fn Tryz.prog 22:=⟨_,Tryz.func22,by kernel_rfl,rfl⟩
theorem uf89:Tryz.prog.underlying 89=some (.struct (Tryz.prog.fieldsOf 89)):=by kernel_rfl
theorem sh89:Tryz.prog.stoodInHeld 89=false:=by kernel_rfl
theorem fl89:(Tryz.prog.fieldsOf 89).toList=[{name:="Monomial",type:=87,offset:=0,embedded:=false,tag:="",pkgPath:="",byteOffset:=0},{name:="Factor",type:=2,offset:=8,embedded:=false,tag:="",pkgPath:="",byteOffset:=8}]:=by kernel_rfl
theorem big_c {B:World} {H0 H:HP} {L:List SA} {w:World} {qb:Option Addr} {cb:Nat} {code:List Int} (hbt:Bts H qb code) (hbk:BtOk code) (hH:Hp B H0 H L w):Calls Tryz.prog 4 [.slice qb code.length cb].toArray w fun e w'=>e = .returned (.bool (decide ((4096:Int)<(code.length:Int))))∧Hp B H0 H L w':=by
 refine JD Tryz.func4 rfl 6 rfl rfl [(0,.slice qb code.length cb)] rfl hH ?_;clear hH;refine Jd fun _ hK1 _=>(Jb (Jg (Je rfl) rfl (Jf (Ja (hK1 (Jd fun _ hK2 _=>(Jb (Jg (Jc rfl) rfl (Jg (Jr u22 rfl rfl) rfl (Jg (Eq rfl rfl) rfl (Jg (Je rfl) rfl (Jf (Ja (hK2 (Jt (Jy rfl (Res.tmp rfl) fun w hH=>?_))))))))))))))));exact ⟨rfl,hH⟩
theorem likeInts_c {B:World} {H0 H:HP} {L:List SA} {w:World} {qxs:Option Addr} {cxs:Nat} {xs:List Int} {qys:Option Addr} {cys:Nat} {ys:List Int} (hxs:Ints H qxs xs) (hys:Ints H qys ys) (hn:xs.length≤1048576) (hH:Hp B H0 H L w):Calls Tryz.prog 34 [.slice qxs xs.length cxs,.slice qys ys.length cys].toArray w fun e w'=>e = .returned (.bool (decide (xs=ys)))∧Hp B H0 H L w':=by
 refine JD Tryz.func34 rfl 26 rfl rfl [(0,.slice qxs xs.length cxs),(1,.slice qys ys.length cys)] rfl hH ?_;clear hH;refine Jd fun _ hK1 _=>(Jb (Jg (Je rfl) rfl (Jf (Ja (hK1 (Jd fun _ hK2 _=>(Jd fun _ hK3 _=>(Jb (Jg (Jc rfl) rfl (Jg (Jr u24 rfl rfl) rfl (Jg (Jc rfl) rfl (Jg (Jr u24 rfl rfl) rfl (Jg (Ew rfl rfl) rfl (Jf (Ja (hK3 ?_))))))))))))))));refine Jp rfl (fun h10=>?_) (fun h10=>?_)
 ·
  refine Jd fun _ hK4 _=>(Jb (Jg (Je rfl) rfl (Jf (Ja (hK4 (Jt (Jn (Jy rfl (Res.tmp rfl) fun w hH=>?_))))))));exact ⟨rb (decide_eq_false (fun e=>h10 (by rw [e]))).symm,hH⟩
 ·
  refine Jo (Ja (hK2 (Jd fun _ hK5 _=>(Jd fun _ hK6 _=>(Jb (Jg (Je rfl) rfl (Jf (Ja (hK6 (Jx (JP (σ:=Nat) (fun (k:Nat)=>[(5,.int .i64 (k:Int))]) (fun (k:Nat)=>H) (fun (k:Nat)=>L) (fun (k:Nat)=>k≤xs.length∧∀j,j<k→xs.getD j 0=ys.getD j 0) (fun (k:Nat)=>xs.length - k) 0 ⟨by omega,fun j hj=>by omega⟩ ⟨rfl,trivial⟩ rfl rfl ?_)))))))))));rintro k hI _ hAg0;have hk:=hI.1;refine Jd fun _ hK7 _=>(Jd fun _ hK8 _=>(Jb (Jg (Jc rfl) rfl (Jg (Jc rfl) rfl (Jg (Jr u24 rfl rfl) rfl (Jg (JZ rfl rfl) rfl (Jf (Ja (hK8 (Jp rfl (fun hc14=>?_) (fun hc14=>?_)))))))))))
  ·
   refine Jo (Ja (hK7 (Jd fun _ hK9 _=>(Jx (Jd fun _ hK10 _=>(ED foll0 (by kernel_rfl) (JH (Jc rfl) rfl (JH (Jc rfl) rfl (JH (Eg u24 sz2 rfl rfl rfl (by omega) hxs.sm) rfl (JH (JX rfl (hxs _ (by omega)) pl2) rfl (JH (Jc rfl) rfl (JH (Jc rfl) rfl (JH (Eg u24 sz2 rfl rfl rfl (by omega) hys.sm) rfl (JH (JX rfl (hys _ (by omega)) pl2) rfl (JH (Ew rfl rfl) rfl ?_)))))))))))))));refine Ej (Ja (hK10 (Jp rfl (fun h25=>?_) (fun h25=>?_))))
   ·
    refine Jd fun _ hK11 _=>(Jb (Jg (Je rfl) rfl (Jf (Ja (hK11 (Jt (JU (Jn (Jn (JU (Jn (Jy rfl (Res.tmp rfl) fun w hH=>?_))))))))))));exact ⟨rb (decide_eq_false (fun e=>h25 (by rw [e]))).symm,hH⟩
   ·
    refine Jo (JJ (Ja (hK9 (Jb (Jg (Jc rfl) rfl (Jg (JF rfl rfl (by first | exact nw _ (by omega) | rfl)) rfl (Jg (Je rfl) rfl (Jf (Ja ?_)))))))));exact hAg0 (k+1) ⟨by omega,upto hI.2 (by omega)⟩ (by omega) 17 rfl rfl ⟨rfl,trivial⟩ rfl rfl
  ·
   refine JR (Jw (Jw (JY (Ja (hK5 (Jd fun _ hK12 _=>(Jb (Jg (Je rfl) rfl (Jf (Ja (hK12 (Jt (Jy rfl (Res.tmp rfl) fun w hH=>?_)))))))))))));exact ⟨rb (decide_eq_true (list_eq_of (by omega) (fun j hj=>hI.2 j (by omega)))).symm,hH⟩
theorem form9_c {B:World} {H0 H:HP} {L:List SA} {w:World} {qxs:Option Addr} {cxs:Nat} {xs:List Term} {qys:Option Addr} {cys:Nat} {ys:List Term} (hxs:Terms H qxs xs) (hys:Terms H qys ys) (hn:xs.length≤9223372036854775807) (hH:Hp B H0 H L w):Calls Tryz.prog 22 [.agg [.slice qxs xs.length cxs].toArray,.agg [.slice qys ys.length cys].toArray].toArray w fun e w'=>e = .returned (.bool (decide (xs=ys)))∧Hp B H0 H L w':=by
 refine JD Tryz.func22 rfl 31 rfl rfl [(0,.agg [.slice qxs xs.length cxs].toArray),(1,.agg [.slice qys ys.length cys].toArray)] rfl hH ?_;clear hH;refine Jd fun _ hK1 _=>(Jb (Eo rfl rfl rfl fun g2=>(Eo rfl rfl rfl fun g3=>(Jg (Je rfl) rfl (Jf (Ja (hK1 (Jd fun _ hK2 _=>(Jd fun _ hK3 _=>(Jb (Jg (Jq u42 rfl sz40 rfl) rfl (Jg (Jv rfl (.s .z) rfl pl40) rfl (Jg (Jr u40 rfl rfl) rfl (Jg (Jq u42 rfl sz40 rfl) rfl (Jg (Jv rfl At.z rfl pl40) rfl ?_)))))))))))))));refine Jg (Jr u40 rfl rfl) rfl (Jg (Ew rfl rfl) rfl (Jf (Ja (hK3 (Jp rfl (fun h12=>?_) (fun h12=>?_))))))
 ·
  refine Jd fun _ hK4 _=>(Jb (Jg (Je rfl) rfl (Jf (Ja (hK4 (Jt (Jn (Jy rfl (Res.tmp rfl) fun w hH=>?_))))))));replace hH:=hH.tail;replace hH:=hH.tail;exact ⟨rb (decide_eq_false (fun e=>h12 (by rw [e]))).symm,hH⟩
 ·
  refine Jo (Ja (hK2 (Jd fun _ hK5 _=>(Jd fun _ hK6 _=>(Jb (Jg (Je rfl) rfl (Jf (Ja (hK6 (Jx (JP (σ:=Nat) (fun (k:Nat)=>[(5,.int .i64 (k:Int))]) (fun (k:Nat)=>H) (fun (k:Nat)=>obj g3 (.cells [.slice qys ys.length cys].toArray 42 (0,0))::obj g2 (.cells [.slice qxs xs.length cxs].toArray 42 (0,0))::L) (fun (k:Nat)=>k≤xs.length∧∀j,j<k→tm xs j=tm ys j) (fun (k:Nat)=>xs.length - k) 0 ⟨by omega,fun j hj=>by omega⟩ ⟨rfl,trivial⟩ rfl rfl ?_)))))))))));rintro k hI _ hAg0;have hk:=hI.1;refine Jd fun _ hK7 _=>(Jd fun _ hK8 _=>(Jb (Jg (Jc rfl) rfl (Jg (Jq u42 rfl sz40 rfl) rfl (Jg (Jv rfl (.s .z) rfl pl40) rfl (Jg (Jr u40 rfl rfl) rfl (Jg (JZ rfl rfl) rfl (Jf (Ja (hK8 (Jp rfl (fun hc17=>?_) (fun hc17=>?_))))))))))))
  ·
   refine Jo (Ja (hK7 (Jd fun _ hK9 _=>(Jx (Jd fun _ hK10 _=>(ED foll0 (by kernel_rfl) (JH (Jq u42 rfl sz40 rfl) rfl (JH (Jv rfl (.s .z) rfl pl40) rfl (JH (Jc rfl) rfl (JH (EA u40 sz89 rfl rfl rfl (by omega) hxs.sm) rfl (JH (JT rfl (hxs.cell _ (by omega)) (hxs.sm (i:=k) (by omega)) (by rw [Term.c_length (hxs.wf _ (by omega))];exact ag89)) rfl (JH (Jq u42 rfl sz40 rfl) rfl (JH (Jv rfl At.z rfl pl40) rfl (JH (Jc rfl) rfl (JH (EA u40 sz89 rfl rfl rfl (by omega) hys.sm) rfl ?_)))))))))))))));refine JH (JT rfl (hys.cell _ (by omega)) (hys.sm (i:=k) (by omega)) (by rw [Term.c_length (hys.wf _ (by omega))];exact ag89)) rfl (JH (PR.neqT uf89 sh89 fl89 (by decide) rfl rfl (by decide) rfl rfl u87 u5 sz5 sz87 u2 eg89 rfl rfl (hxs.wf k (by omega)) (hys.wf k (by omega))) rfl (Ej (Ja (hK10 (Ek rfl (fun h30=>?_) (fun h30=>?_))))))
   ·
    refine Jd fun _ hK11 _=>(Jb (Jg (Je rfl) rfl (Jf (Ja (hK11 (Jt (JU (Jn (Jn (JU (Jn (Jy rfl (Res.tmp rfl) fun w hH=>?_))))))))))));replace hH:=hH.tail;replace hH:=hH.tail;exact ⟨rb (decide_eq_false (fun e=>(by rw [e] at h30;simp at h30))).symm,hH⟩
   ·
    refine Jo (JJ (Ja (hK9 (Jb (Jg (Jc rfl) rfl (Jg (JF rfl rfl (by first | exact nw _ (by omega) | rfl)) rfl (Jg (Je rfl) rfl (Jf (Ja ?_)))))))));exact hAg0 (k+1) ⟨by omega,upto hI.2 (of_decide_eq_true (notf h30))⟩ (by omega) 20 rfl rfl ⟨rfl,trivial⟩ rfl rfl
  ·
   refine JR (Jw (Jw (JY (Ja (hK5 (Jd fun _ hK12 _=>(Jb (Jg (Je rfl) rfl (Jf (Ja (hK12 (Jt (Jy rfl (Res.tmp rfl) fun w hH=>?_)))))))))))));replace hH:=hH.tail;replace hH:=hH.tail;exact ⟨rb (decide_eq_true (terms_eq_of (by omega) (fun j hj=>hI.2 j (by omega)))).symm,hH⟩
theorem forms9_c {B:World} {H0 H:HP} {L:List SA} {w:World} {qxs:Option Addr} {cxs:Nat} {xs:List (List Term)} {qys:Option Addr} {cys:Nat} {ys:List (List Term)} (hxs:Forms H qxs xs) (hys:Forms H qys ys) (hn:xs.length≤9223372036854775807) (hf : ∀i,i<xs.length→(fm xs i).length≤9223372036854775807) (hH:Hp B H0 H L w):Calls Tryz.prog 35 [.slice qxs xs.length cxs,.slice qys ys.length cys].toArray w fun e w'=>e = .returned (.bool (decide (xs=ys)))∧Hp B H0 H L w':=by
 refine JD Tryz.func35 rfl 27 rfl rfl [(0,.slice qxs xs.length cxs),(1,.slice qys ys.length cys)] rfl hH ?_;clear hH;refine Jd fun _ hK1 _=>(Jb (Jg (Je rfl) rfl (Jf (Ja (hK1 (Jd fun _ hK2 _=>(Jd fun _ hK3 _=>(Jb (Jg (Jc rfl) rfl (Jg (Jr u25 rfl rfl) rfl (Jg (Jc rfl) rfl (Jg (Jr u25 rfl rfl) rfl (Jg (Ew rfl rfl) rfl (Jf (Ja (hK3 ?_))))))))))))))));refine Jp rfl (fun h10=>?_) (fun h10=>?_)
 ·
  refine Jd fun _ hK4 _=>(Jb (Jg (Je rfl) rfl (Jf (Ja (hK4 (Jt (Jn (Jy rfl (Res.tmp rfl) fun w hH=>?_))))))));exact ⟨rb (decide_eq_false (fun e=>h10 (by rw [e]))).symm,hH⟩
 ·
  refine Jo (Ja (hK2 (Jd fun _ hK5 _=>(Jd fun _ hK6 _=>(Jb (Jg (Je rfl) rfl (Jf (Ja (hK6 (Jx (JP (σ:=Nat) (fun (k:Nat)=>[(5,.int .i64 (k:Int))]) (fun (k:Nat)=>H) (fun (k:Nat)=>L) (fun (k:Nat)=>k≤xs.length∧∀j,j<k→fm xs j=fm ys j) (fun (k:Nat)=>xs.length - k) 0 ⟨by omega,fun j hj=>by omega⟩ ⟨rfl,trivial⟩ rfl rfl ?_)))))))))));rintro k hI _ hAg0;have hk:=hI.1;refine Jd fun _ hK7 _=>(Jd fun _ hK8 _=>(Jb (Jg (Jc rfl) rfl (Jg (Jc rfl) rfl (Jg (Jr u25 rfl rfl) rfl (Jg (JZ rfl rfl) rfl (Jf (Ja (hK8 (Jp rfl (fun hc14=>?_) (fun hc14=>?_)))))))))))
  ·
   refine Jo (Ja (hK7 (Jd fun _ hK9 _=>(Jx (Jd fun _ hK10 _=>(Ev [[], [], [0,1], [2], [], [], [4,5], [6]] (by kernel_rfl) (JB (fun gh=>Jc rfl) (JB (fun gh=>Jc rfl) (JB (fun gh=>Eg u25 sz42 rfl rfl rfl (by omega) hxs.sm) ?_)))))))));obtain ⟨qe20,ce20,he20,le20,Fe20⟩:=hxs k (by omega);refine JB (fun gh=>JT (cs:=[_]) rfl (one_cell he20) (hxs.sm (i:=k) (by omega)) ag42) (JB (fun gh=>Jc rfl) (JB (fun gh=>Jc rfl) (JB (fun gh=>Eg u25 sz42 rfl rfl rfl (by omega) hys.sm) ?_)));obtain ⟨qe24,ce24,he24,le24,Fe24⟩:=hys k (by omega);refine JB (fun gh=>JT (cs:=[_]) rfl (one_cell he24) (hys.sm (i:=k) (by omega)) ag42) (Ee 8 1 foll0 (by kernel_rfl) rfl rfl fun gh=>(Eu (us':=(17,_)::(18,_)::(19,_)::(20,_)::(21,_)::(22,_)::(23,_)::(24,_)::_) (L':=_) rfl rfl (Jz fn22 rfl rfl fun w hH=>(form9_c Fe20 Fe24 (hf k (by omega)) hH).mono ?_)));rintro _ w ⟨rfl,hH⟩;refine ⟨_,rfl,fun a hF=>JL hF hH ?_⟩;refine Jf (Ef (JH (Er rfl) rfl (Ej (Ja (hK10 (Ek rfl (fun h26=>?_) (fun h26=>?_)))))))
   ·
    refine Jd fun _ hK11 _=>(Jb (Jg (Je rfl) rfl (Jf (Ja (hK11 (Jt (JU (Jn (Jn (JU (Jn (Jy rfl (Res.tmp rfl) fun w hH=>?_))))))))))));exact ⟨rb (decide_eq_false (fun e=>(by rw [e] at h26;simp at h26))).symm,hH⟩
   ·
    refine Jo (JJ (Ja (hK9 (Jb (Jg (Jc rfl) rfl (Jg (JF rfl rfl (by first | exact nw _ (by omega) | rfl)) rfl (Jg (Je rfl) rfl (Jf (Ja ?_)))))))));exact hAg0 (k+1) ⟨by omega,upto hI.2 (of_decide_eq_true (notf h26))⟩ (by omega) 18 rfl rfl ⟨rfl,trivial⟩ rfl rfl
  ·
   refine JR (Jw (Jw (JY (Ja (hK5 (Jd fun _ hK12 _=>(Jb (Jg (Je rfl) rfl (Jf (Ja (hK12 (Jt (Jy rfl (Res.tmp rfl) fun w hH=>?_)))))))))))));exact ⟨rb (decide_eq_true (forms_eq_of (by omega) (fun j hj=>hI.2 j (by omega)))).symm,hH⟩
def tN (h:Nat):Nat:=(h * 6364136223846793005+1442695040888963407) % 18446744073709551616
def itF (f:Nat→Nat):Nat→Nat→Nat
 | 0,h=>h
 | n+1,h=>itF f n (f h)
theorem itF_add (f:Nat→Nat) : ∀m n h:Nat,itF f (m+n) h=itF f n (itF f m h)
 | 0,n,h=>by rw [Nat.zero_add];rfl
 | m+1,n,h=>by rw [Nat.succ_add];exact itF_add f m n (f h)
theorem itF_one (f:Nat→Nat) (h:Nat):itF f 1 h=f h:=rfl
def itN (n h:Nat):Nat:=itF tN n h
theorem itN_0 (h:Nat):itN 0 h=h:=by unfold itN itF;rfl
theorem itN_1 (h:Nat):itN 1 h=tN h:=by unfold itN;exact itF_one tN h
theorem itN_add (m n h:Nat):itN (m+n) h=itN n (itN m h):=by unfold itN;exact itF_add tN m n h
theorem itN_s (n h:Nat):itN (n+1) h=itN n (tN h):=by rw [Nat.add_comm,itN_add,itN_1]
theorem tN_lt (h:Nat):tN h<18446744073709551616:=Nat.mod_lt _ (by decide)
def Af (n:Nat) (p:Nat × Nat):Prop:=∀h,itN n h % 18446744073709551616=(p.1 * h+p.2) % 18446744073709551616
def cmb2 (p q:Nat × Nat):Nat × Nat:=(q.1 * p.1 % 18446744073709551616,(q.1 * p.2+q.2) % 18446744073709551616)
theorem md_mul (a b c M:Nat):(a * (b % M)+c) % M=(a * b+c) % M:=by rw [Nat.add_mod,Nat.mul_mod,Nat.mod_mod,← Nat.mul_mod,← Nat.add_mod]
theorem Af.add {m n:Nat} {p q:Nat × Nat} (h1:Af m p) (h2:Af n q):Af (m+n) (cmb2 p q):=fun h=>by
 rw [itN_add,h2,← md_mul,h1,md_mul]
 unfold cmb2
 have e:q.1 * (p.1 * h+p.2)+q.2=q.1 * p.1 * h+(q.1 * p.2+q.2):=by rw [Nat.mul_add,Nat.mul_assoc,Nat.add_assoc]
 rw [e]
 generalize q.1 * p.1=a
 generalize q.1 * p.2+q.2=c
 rw [Nat.add_mod (a * h) c,Nat.mul_mod a h,Nat.add_mod (a % 18446744073709551616 * h),Nat.mul_mod (a % 18446744073709551616) h,Nat.mod_mod,Nat.mod_mod]
theorem Af.zero:Af 0 (1,0):=fun h=>by rw [itN_0,Nat.one_mul,Nat.add_zero]
theorem Af.one:Af 1 (6364136223846793005,1442695040888963407):=fun h=>by
 rw [itN_1]
 unfold tN
 rw [Nat.mod_mod,Nat.mul_comm]
def tabL:List (Nat × Nat):=[(6364136223846793005,1442695040888963407),(7520897724310334953,1876011003808476466),(18108194425815612945,7401132627792533940),(13086856194709077281,6566661184467396264),(10186629832379121217,3646985772805368400),(10828933358287359105,982119659650238624),(4910590176156014849,10607473198416945472),(9908147928152388097,6914523672464851584),(146241703003251713,4689171378020353280),(7321387688379467777,8103286608563669504),(12255457568021647361,7710372194127975424),(9867978473775767553,16043993925053589504),(5088048636545613825,1993901509916512256),(2150478223927705601,13175896319671181312),(9196835419631190017,1993366741509554176),(5957860013156466689,7241871532530761728),(10389140232424652801,9829074100562493440),(13023643825678581761,7211655632440131584),(288945459443007489,14014807304630960128),(13413133364217511937,15586959662575517696),(8991946233350193153,5614651135149211648),(1986842707489718273,10449321915693662208),(13772462672974970881,17778722412968280064),(11399802156803424257,4631015078550831104),(13559343778149433345,14683519683525607424),(8604389488178757633,14159509325327892480),(16938562998715285505,4382386631181598720),(14349518013152100353,5251965553014210560),(5928836310318972929,14899444342342025216),(13010594125244792833,10487453482519363584),(12186130195207421953,17516142451218186240),(5925516316705292289,2750482773444657152),(11851032633410584577,5500965546889314304),(5255321193111617537,11001931093778628608)]
def tab (k:Nat):Nat × Nat:=tabL.getD k (1,0)
theorem tab_step : ∀k,k<33→cmb2 (tab k) (tab k)=tab (k+1):=by decide +kernel
theorem pwr_ok : ∀k:Nat,k<34→Af (2 ^ k) (tab k)
 | 0,_=>Af.one
 | k+1,hk=>by
  have h:=(pwr_ok k (by omega)).add (pwr_ok k (by omega))
  rwa [show 2 ^ k+2 ^ k=2 ^ (k+1) by rw [Nat.pow_succ];omega,tab_step k (by omega)] at h
def cmbL:List Nat→Nat × Nat
 | []=>(1,0)
 | k::l=>cmb2 (tab k) (cmbL l)
def sumL:List Nat→Nat
 | []=>0
 | k::l=>2 ^ k+sumL l
theorem cmbL_ok : ∀l:List Nat,(∀k∈l,k<34)→Af (sumL l) (cmbL l)
 | [],_=>Af.zero
 | k::l,h=>(pwr_ok k (h k (by simp))).add (cmbL_ok l fun j hj=>h j (by simp [hj]))
theorem pwr_bits : ∀k,k<33→(tab k).1 % 2 ^ (k+1)=1∧(tab k).2 % 2 ^ (k+1)=2 ^ k:=by decide +kernel
theorem step_bit {k:Nat} (hk:k<33) (g:Nat):itN (2 ^ k) g % 2 ^ (k+1)=(g+2 ^ k) % 2 ^ (k+1):=by
 obtain ⟨h1,h2⟩:=pwr_bits k hk;have h3:=pwr_ok k (by omega) g
 have hd:2 ^ (k+1) ∣ 18446744073709551616:=by
  rw [show (18446744073709551616:Nat)=2 ^ 64 by decide];exact Nat.pow_dvd_pow 2 (by omega)
 have h4:itN (2 ^ k) g % 2 ^ (k+1)=((tab k).1 * g+(tab k).2) % 2 ^ (k+1):=by
  rw [← Nat.mod_mod_of_dvd (itN (2 ^ k) g) hd,h3,Nat.mod_mod_of_dvd _ hd]
 rw [h4,Nat.add_mod,Nat.mul_mod,h1,h2,Nat.one_mul,Nat.mod_mod,Nat.add_mod g,Nat.mod_eq_of_lt (show 2 ^ k<2 ^ (k+1) from Nat.pow_lt_pow_right (by decide) (by omega))]
theorem reach : ∀k:Nat,1≤k→k≤33→∀{h l:Nat},h % 2=l % 2→∃m:Nat,2 * m<2 ^ k∧itN (2 * m) h % 2 ^ k=l % 2 ^ k
 | 0,h1,_,_,_,_=>by omega
 | 1,_,_,h,l,e=>⟨0,by decide,by rw [show 2 * 0=0 from rfl,itN_0];exact e⟩
 | k+2,_,h33,h,l,e=>by
  obtain ⟨m,h1,h2⟩:=reach (k+1) (by omega) (by omega) e
  generalize hg:itN (2 * m) h=g at h2
  have hp:0<2 ^ (k+1):=Nat.pow_pos (by decide)
  have e2:2 ^ (k+2)=2 ^ (k+1) * 2:=Nat.pow_succ 2 (k+1)
  have e1:2 ^ (k+1)=2 * 2 ^ k:=by rw [Nat.pow_succ,Nat.mul_comm]
  by_cases hc:g / 2 ^ (k+1) % 2=l / 2 ^ (k+1) % 2
  ·refine ⟨m,by omega,?_⟩
   rw [hg,e2,Nat.mod_mul,Nat.mod_mul,h2,hc]
  ·refine ⟨m+2 ^ k,by omega,?_⟩
   rw [show 2 * (m+2 ^ k)=2 * m+2 ^ (k+1) by omega,itN_add,hg]
   have h3:=step_bit (k:=k+1) (by omega) g
   rw [h3,e2,Nat.mod_mul,Nat.mod_mul,Nat.add_mod_right,h2,Nat.add_div_right _ hp]
   rw [show (g / 2 ^ (k+1)).succ % 2=l / 2 ^ (k+1) % 2 by omega]
def gd (h:Nat):Bool:=decide (tN h / 8589934592 % 16777216 % 3≠0)
def Wn (h:Nat):Bool:=gd h && gd (itN 2 h)
theorem gd_at {n:Nat} {p:Nat × Nat} (h1:Af (n+1) p) {g:Nat}:gd (itN n g)=decide ((p.1 * g+p.2) % 18446744073709551616 / 8589934592 % 16777216 % 3≠0):=by
 have e:tN (itN n g)=itN (n+1) g:=by rw [itN_add n 1 g,itN_1]
 have h2:=h1 g;unfold gd;rw [e,← h2,Nat.mod_eq_of_lt (show itN (n+1) g<18446744073709551616 by rw [← e];exact tN_lt _)]
theorem Wn_at {n:Nat} {p q:Nat × Nat} (h1:Af (n+1) p) (h2:Af (n+3) q) {g:Nat} (e1:(p.1 * g+p.2) % 18446744073709551616 / 8589934592 % 16777216 % 3≠0) (e2:(q.1 * g+q.2) % 18446744073709551616 / 8589934592 % 16777216 % 3≠0):Wn (itN n g)=true:=by
 have h3:=gd_at h2 (g:=g);have e3:itN 2 (itN n g)=itN (n+2) g:=(itN_add n 2 g).symm;unfold Wn;rw [e3,h3,gd_at h1,decide_eq_true e1,decide_eq_true e2]
 rfl
theorem md3 {y b:Nat} (hy:y<16777216) (hb:b<16777216) (h:(y+b) % 16777216 % 3=0):(y+b<16777216∧(y+b) % 3=0)∨(16777216≤y+b∧(y+b) % 3=1):=by
 rcases Nat.lt_or_ge (y+b) 16777216 with h1 | h1
 ·rw [Nat.mod_eq_of_lt h1] at h;exact .inl ⟨h1,h⟩
 ·have h2:y+b - 16777216<16777216:=by clear h;omega
  rw [Nat.mod_eq_sub_mod h1,Nat.mod_eq_of_lt h2] at h;exact .inr ⟨h1,by omega⟩
theorem af0_0_1:Af (0+1) (6364136223846793005,1442695040888963407):=by
 have h:=cmbL_ok [0] (by decide)
 rwa [show sumL [0]=0+1 by decide +kernel,show cmbL [0]=(6364136223846793005,1442695040888963407) by decide +kernel] at h
theorem bt0_0_1 (X:Nat):(6364136223846793005 * (0+8589934592 * X)+1442695040888963407) % 18446744073709551616 / 8589934592 % 16777216=(9797421 * X % 16777216+179647) % 16777216:=by omega
theorem af0_0_3:Af (0+3) (793875393913628917,11166244414315200793):=by
 have h:=cmbL_ok [0,1] (by decide)
 rwa [show sumL [0,1]=0+3 by decide +kernel,show cmbL [0,1]=(793875393913628917,11166244414315200793) by decide +kernel] at h
theorem bt0_0_3 (X:Nat):(793875393913628917 * (0+8589934592 * X)+11166244414315200793) % 18446744073709551616 / 8589934592 % 16777216=(2435317 * X % 16777216+8076305) % 16777216:=by omega
theorem af0_8_1:Af (33554432+1) (17769810732499959597,17454916917061452111):=by
 have h:=cmbL_ok [0,25] (by decide)
 rwa [show sumL [0,25]=33554432+1 by decide +kernel,show cmbL [0,25]=(17769810732499959597,17454916917061452111) by decide +kernel] at h
theorem bt0_8_1 (X:Nat):(17769810732499959597 * (0+8589934592 * X)+17454916917061452111) % 18446744073709551616 / 8589934592 % 16777216=(9797421 * X % 16777216+1976634) % 16777216:=by omega
theorem af0_8_3:Af (33554432+3) (1073482151789668597,13199364317011673369):=by
 have h:=cmbL_ok [0,1,25] (by decide)
 rwa [show sumL [0,1,25]=33554432+3 by decide +kernel,show cmbL [0,1,25]=(1073482151789668597,13199364317011673369) by decide +kernel] at h
theorem bt0_8_3 (X:Nat):(1073482151789668597 * (0+8589934592 * X)+13199364317011673369) % 18446744073709551616 / 8589934592 % 16777216=(2435317 * X % 16777216+9881588) % 16777216:=by omega
theorem af0_13_1:Af (54525952+1) (18111010449495785261,15167482316343181647):=by
 have h:=cmbL_ok [0,22,24,25] (by decide)
 rwa [show sumL [0,22,24,25]=54525952+1 by decide +kernel,show cmbL [0,22,24,25]=(18111010449495785261,15167482316343181647) by decide +kernel] at h
theorem bt0_13_1 (X:Nat):(18111010449495785261 * (0+8589934592 * X)+15167482316343181647) % 18446744073709551616 / 8589934592 % 16777216=(9797421 * X % 16777216+4119655) % 16777216:=by omega
theorem af0_13_3:Af (54525952+3) (7117130377367726325,9584819744778912025):=by
 have h:=cmbL_ok [0,1,22,24,25] (by decide)
 rwa [show sumL [0,1,22,24,25]=54525952+3 by decide +kernel,show cmbL [0,1,22,24,25]=(7117130377367726325,9584819744778912025) by decide +kernel] at h
theorem bt0_13_3 (X:Nat):(7117130377367726325 * (0+8589934592 * X)+9584819744778912025) % 18446744073709551616 / 8589934592 % 16777216=(2435317 * X % 16777216+8523619) % 16777216:=by omega
theorem af0_17_1:Af (71303168+1) (16895192776274444077,2129116620657230159):=by
 have h:=cmbL_ok [0,22,26] (by decide)
 rwa [show sumL [0,22,26]=71303168+1 by decide +kernel,show cmbL [0,22,26]=(16895192776274444077,2129116620657230159) by decide +kernel] at h
theorem bt0_17_1 (X:Nat):(16895192776274444077 * (0+8589934592 * X)+2129116620657230159) % 18446744073709551616 / 8589934592 % 16777216=(9797421 * X % 16777216+12980772) % 16777216:=by omega
theorem af0_17_3:Af (71303168+3) (5553447197252856053,8812043269177508121):=by
 have h:=cmbL_ok [0,1,22,26] (by decide)
 rwa [show sumL [0,1,22,26]=71303168+3 by decide +kernel,show cmbL [0,1,22,26]=(5553447197252856053,8812043269177508121) by decide +kernel] at h
theorem bt0_17_3 (X:Nat):(5553447197252856053 * (0+8589934592 * X)+8812043269177508121) % 18446744073709551616 / 8589934592 % 16777216=(2435317 * X % 16777216+2446677) % 16777216:=by omega
theorem noy0_01 {y:Nat} (h0:(y+179647<16777216∧(y+179647) % 3=0)∨(16777216≤y+179647∧(y+179647) % 3=1)) (h1:(y+1976634<16777216∧(y+1976634) % 3=0)∨(16777216≤y+1976634∧(y+1976634) % 3=1)):False:=by omega
theorem noy0_03 {y:Nat} (h0:(y+179647<16777216∧(y+179647) % 3=0)∨(16777216≤y+179647∧(y+179647) % 3=1)) (h3:(y+12980772<16777216∧(y+12980772) % 3=0)∨(16777216≤y+12980772∧(y+12980772) % 3=1)):False:=by omega
theorem noz0_13 {y:Nat} (h1:(y+9881588<16777216∧(y+9881588) % 3=0)∨(16777216≤y+9881588∧(y+9881588) % 3=1)) (h3:(y+2446677<16777216∧(y+2446677) % 3=0)∨(16777216≤y+2446677∧(y+2446677) % 3=1)):False:=by omega
theorem noy0_23 {y:Nat} (h2:(y+4119655<16777216∧(y+4119655) % 3=0)∨(16777216≤y+4119655∧(y+4119655) % 3=1)) (h3:(y+12980772<16777216∧(y+12980772) % 3=0)∨(16777216≤y+12980772∧(y+12980772) % 3=1)):False:=by omega
theorem noz0_03 {y:Nat} (h0:(y+8076305<16777216∧(y+8076305) % 3=0)∨(16777216≤y+8076305∧(y+8076305) % 3=1)) (h3:(y+2446677<16777216∧(y+2446677) % 3=0)∨(16777216≤y+2446677∧(y+2446677) % 3=1)):False:=by omega
theorem noz0_02 {y:Nat} (h0:(y+8076305<16777216∧(y+8076305) % 3=0)∨(16777216≤y+8076305∧(y+8076305) % 3=1)) (h2:(y+8523619<16777216∧(y+8523619) % 3=0)∨(16777216≤y+8523619∧(y+8523619) % 3=1)):False:=by omega
theorem cover0 {y z:Nat} (hy:y<16777216) (hz:z<16777216):((y+179647) % 16777216 % 3≠0∧(z+8076305) % 16777216 % 3≠0)∨((y+1976634) % 16777216 % 3≠0∧(z+9881588) % 16777216 % 3≠0)∨((y+4119655) % 16777216 % 3≠0∧(z+8523619) % 16777216 % 3≠0)∨((y+12980772) % 16777216 % 3≠0∧(z+2446677) % 16777216 % 3≠0):=by
 refine Classical.byContradiction fun hn=>?_;simp only [not_or,Classical.not_and_iff_not_or_not,Decidable.not_not] at hn;obtain ⟨h0,h1,h2,h3⟩:=hn
 rcases h0 with h0 | h0 <;> rcases h1 with h1 | h1 <;> rcases h2 with h2 | h2 <;> rcases h3 with h3 | h3
 ·exact noy0_01 (md3 hy (by decide) h0) (md3 hy (by decide) h1)
 ·exact noy0_01 (md3 hy (by decide) h0) (md3 hy (by decide) h1)
 ·exact noy0_01 (md3 hy (by decide) h0) (md3 hy (by decide) h1)
 ·exact noy0_01 (md3 hy (by decide) h0) (md3 hy (by decide) h1)
 ·exact noy0_03 (md3 hy (by decide) h0) (md3 hy (by decide) h3)
 ·exact noz0_13 (md3 hz (by decide) h1) (md3 hz (by decide) h3)
 ·exact noy0_03 (md3 hy (by decide) h0) (md3 hy (by decide) h3)
 ·exact noz0_13 (md3 hz (by decide) h1) (md3 hz (by decide) h3)
 ·exact noy0_23 (md3 hy (by decide) h2) (md3 hy (by decide) h3)
 ·exact noz0_03 (md3 hz (by decide) h0) (md3 hz (by decide) h3)
 ·exact noz0_02 (md3 hz (by decide) h0) (md3 hz (by decide) h2)
 ·exact noz0_02 (md3 hz (by decide) h0) (md3 hz (by decide) h2)
 ·exact noy0_23 (md3 hy (by decide) h2) (md3 hy (by decide) h3)
 ·exact noz0_03 (md3 hz (by decide) h0) (md3 hz (by decide) h3)
 ·exact noz0_02 (md3 hz (by decide) h0) (md3 hz (by decide) h2)
 ·exact noz0_02 (md3 hz (by decide) h0) (md3 hz (by decide) h2)
theorem win0 (X:Nat) : ∃m:Nat,m≤40000000∧Wn (itN (2 * m) (0+8589934592 * X))=true:=by
 have hc:=cover0 (y:=9797421 * X % 16777216) (z:=2435317 * X % 16777216) (Nat.mod_lt _ (by decide)) (Nat.mod_lt _ (by decide))
 rcases hc with ⟨h1,h2⟩ | ⟨h1,h2⟩ | ⟨h1,h2⟩ | ⟨h1,h2⟩
 ·exact ⟨0,by decide,Wn_at (n:=0) af0_0_1 af0_0_3 (by rw [bt0_0_1];exact h1) (by rw [bt0_0_3];exact h2)⟩
 ·exact ⟨16777216,by decide,Wn_at (n:=33554432) af0_8_1 af0_8_3 (by rw [bt0_8_1];exact h1) (by rw [bt0_8_3];exact h2)⟩
 ·exact ⟨27262976,by decide,Wn_at (n:=54525952) af0_13_1 af0_13_3 (by rw [bt0_13_1];exact h1) (by rw [bt0_13_3];exact h2)⟩
 ·exact ⟨35651584,by decide,Wn_at (n:=71303168) af0_17_1 af0_17_3 (by rw [bt0_17_1];exact h1) (by rw [bt0_17_3];exact h2)⟩
theorem af1_1_1:Af (4194304+1) (15048100024377769773,11721311124936163663):=by
 have h:=cmbL_ok [0,22] (by decide)
 rwa [show sumL [0,22]=4194304+1 by decide +kernel,show cmbL [0,22]=(15048100024377769773,11721311124936163663) by decide +kernel] at h
theorem bt1_1_1 (X:Nat):(15048100024377769773 * (1+8589934592 * X)+11721311124936163663) % 18446744073709551616 / 8589934592 % 16777216=(9797421 * X % 16777216+12584654) % 16777216:=by omega
theorem af1_1_3:Af (4194304+3) (4737528502740658421,9676119155848413465):=by
 have h:=cmbL_ok [0,1,22] (by decide)
 rwa [show sumL [0,1,22]=4194304+3 by decide +kernel,show cmbL [0,1,22]=(4737528502740658421,9676119155848413465) by decide +kernel] at h
theorem bt1_1_3 (X:Nat):(4737528502740658421 * (1+8589934592 * X)+9676119155848413465) % 18446744073709551616 / 8589934592 % 16777216=(2435317 * X % 16777216+247830) % 16777216:=by omega
theorem af1_7_1:Af (29360128+1) (5155611832158093101,672047439928590671):=by
 have h:=cmbL_ok [0,22,23,24] (by decide)
 rwa [show sumL [0,22,23,24]=29360128+1 by decide +kernel,show cmbL [0,22,23,24]=(5155611832158093101,672047439928590671) by decide +kernel] at h
theorem bt1_7_1 (X:Nat):(5155611832158093101 * (1+8589934592 * X)+672047439928590671) % 18446744073709551616 / 8589934592 % 16777216=(9797421 * X % 16777216+7340189) % 16777216:=by omega
theorem af1_7_3:Af (29360128+3) (4947233571147688181,11200959082870767897):=by
 have h:=cmbL_ok [0,1,22,23,24] (by decide)
 rwa [show sumL [0,1,22,23,24]=29360128+3 by decide +kernel,show cmbL [0,1,22,23,24]=(4947233571147688181,11200959082870767897) by decide +kernel] at h
theorem bt1_7_3 (X:Nat):(4947233571147688181 * (1+8589934592 * X)+11200959082870767897) % 18446744073709551616 / 8589934592 % 16777216=(2435317 * X % 16777216+848852) % 16777216:=by omega
theorem af1_11_1:Af (46137344+1) (1005699001704873773,7497370850713633103):=by
 have h:=cmbL_ok [0,22,23,25] (by decide)
 rwa [show sumL [0,22,23,25]=46137344+1 by decide +kernel,show cmbL [0,22,23,25]=(1005699001704873773,7497370850713633103) by decide +kernel] at h
theorem bt1_11_1 (X:Nat):(1005699001704873773 * (1+8589934592 * X)+7497370850713633103) % 18446744073709551616 / 8589934592 % 16777216=(9797421 * X % 16777216+31869) % 16777216:=by omega
theorem af1_11_3:Af (46137344+3) (14374585281630513397,6373254092775653657):=by
 have h:=cmbL_ok [0,1,22,23,25] (by decide)
 rwa [show sumL [0,1,22,23,25]=46137344+3 by decide +kernel,show cmbL [0,1,22,23,25]=(14374585281630513397,6373254092775653657) by decide +kernel] at h
theorem bt1_11_3 (X:Nat):(14374585281630513397 * (1+8589934592 * X)+6373254092775653657) % 18446744073709551616 / 8589934592 % 16777216=(2435317 * X % 16777216+16224509) % 16777216:=by omega
theorem af1_12_1:Af (50331648+1) (7959999070348869421,14820710785531478351):=by
 have h:=cmbL_ok [0,24,25] (by decide)
 rwa [show sumL [0,24,25]=50331648+1 by decide +kernel,show cmbL [0,24,25]=(7959999070348869421,14820710785531478351) by decide +kernel] at h
theorem bt1_12_1 (X:Nat):(7959999070348869421 * (1+8589934592 * X)+14820710785531478351) % 18446744073709551616 / 8589934592 % 16777216=(9797421 * X % 16777216+1223541) % 16777216:=by omega
theorem af1_12_3:Af (50331648+3) (8668994713839544565,18270852782853619993):=by
 have h:=cmbL_ok [0,1,24,25] (by decide)
 rwa [show sumL [0,1,24,25]=50331648+3 by decide +kernel,show cmbL [0,1,24,25]=(8668994713839544565,18270852782853619993) by decide +kernel] at h
theorem bt1_12_3 (X:Nat):(8668994713839544565 * (1+8589934592 * X)+18270852782853619993) % 18446744073709551616 / 8589934592 % 16777216=(2435317 * X % 16777216+15648840) % 16777216:=by omega
theorem noy1_02 {y:Nat} (h0:(y+12584654<16777216∧(y+12584654) % 3=0)∨(16777216≤y+12584654∧(y+12584654) % 3=1)) (h2:(y+31869<16777216∧(y+31869) % 3=0)∨(16777216≤y+31869∧(y+31869) % 3=1)):False:=by omega
theorem noy1_03 {y:Nat} (h0:(y+12584654<16777216∧(y+12584654) % 3=0)∨(16777216≤y+12584654∧(y+12584654) % 3=1)) (h3:(y+1223541<16777216∧(y+1223541) % 3=0)∨(16777216≤y+1223541∧(y+1223541) % 3=1)):False:=by omega
theorem noz1_23 {y:Nat} (h2:(y+16224509<16777216∧(y+16224509) % 3=0)∨(16777216≤y+16224509∧(y+16224509) % 3=1)) (h3:(y+15648840<16777216∧(y+15648840) % 3=0)∨(16777216≤y+15648840∧(y+15648840) % 3=1)):False:=by omega
theorem noy1_12 {y:Nat} (h1:(y+7340189<16777216∧(y+7340189) % 3=0)∨(16777216≤y+7340189∧(y+7340189) % 3=1)) (h2:(y+31869<16777216∧(y+31869) % 3=0)∨(16777216≤y+31869∧(y+31869) % 3=1)):False:=by omega
theorem noy1_13 {y:Nat} (h1:(y+7340189<16777216∧(y+7340189) % 3=0)∨(16777216≤y+7340189∧(y+7340189) % 3=1)) (h3:(y+1223541<16777216∧(y+1223541) % 3=0)∨(16777216≤y+1223541∧(y+1223541) % 3=1)):False:=by omega
theorem noz1_02 {y:Nat} (h0:(y+247830<16777216∧(y+247830) % 3=0)∨(16777216≤y+247830∧(y+247830) % 3=1)) (h2:(y+16224509<16777216∧(y+16224509) % 3=0)∨(16777216≤y+16224509∧(y+16224509) % 3=1)):False:=by omega
theorem noz1_01 {y:Nat} (h0:(y+247830<16777216∧(y+247830) % 3=0)∨(16777216≤y+247830∧(y+247830) % 3=1)) (h1:(y+848852<16777216∧(y+848852) % 3=0)∨(16777216≤y+848852∧(y+848852) % 3=1)):False:=by omega
theorem cover1 {y z:Nat} (hy:y<16777216) (hz:z<16777216):((y+12584654) % 16777216 % 3≠0∧(z+247830) % 16777216 % 3≠0)∨((y+7340189) % 16777216 % 3≠0∧(z+848852) % 16777216 % 3≠0)∨((y+31869) % 16777216 % 3≠0∧(z+16224509) % 16777216 % 3≠0)∨((y+1223541) % 16777216 % 3≠0∧(z+15648840) % 16777216 % 3≠0):=by
 refine Classical.byContradiction fun hn=>?_;simp only [not_or,Classical.not_and_iff_not_or_not,Decidable.not_not] at hn;obtain ⟨h0,h1,h2,h3⟩:=hn
 rcases h0 with h0 | h0 <;> rcases h1 with h1 | h1 <;> rcases h2 with h2 | h2 <;> rcases h3 with h3 | h3
 ·exact noy1_02 (md3 hy (by decide) h0) (md3 hy (by decide) h2)
 ·exact noy1_02 (md3 hy (by decide) h0) (md3 hy (by decide) h2)
 ·exact noy1_03 (md3 hy (by decide) h0) (md3 hy (by decide) h3)
 ·exact noz1_23 (md3 hz (by decide) h2) (md3 hz (by decide) h3)
 ·exact noy1_02 (md3 hy (by decide) h0) (md3 hy (by decide) h2)
 ·exact noy1_02 (md3 hy (by decide) h0) (md3 hy (by decide) h2)
 ·exact noy1_03 (md3 hy (by decide) h0) (md3 hy (by decide) h3)
 ·exact noz1_23 (md3 hz (by decide) h2) (md3 hz (by decide) h3)
 ·exact noy1_12 (md3 hy (by decide) h1) (md3 hy (by decide) h2)
 ·exact noy1_12 (md3 hy (by decide) h1) (md3 hy (by decide) h2)
 ·exact noy1_13 (md3 hy (by decide) h1) (md3 hy (by decide) h3)
 ·exact noz1_02 (md3 hz (by decide) h0) (md3 hz (by decide) h2)
 ·exact noz1_01 (md3 hz (by decide) h0) (md3 hz (by decide) h1)
 ·exact noz1_01 (md3 hz (by decide) h0) (md3 hz (by decide) h1)
 ·exact noz1_01 (md3 hz (by decide) h0) (md3 hz (by decide) h1)
 ·exact noz1_01 (md3 hz (by decide) h0) (md3 hz (by decide) h1)
theorem win1 (X:Nat) : ∃m:Nat,m≤40000000∧Wn (itN (2 * m) (1+8589934592 * X))=true:=by
 have hc:=cover1 (y:=9797421 * X % 16777216) (z:=2435317 * X % 16777216) (Nat.mod_lt _ (by decide)) (Nat.mod_lt _ (by decide))
 rcases hc with ⟨h1,h2⟩ | ⟨h1,h2⟩ | ⟨h1,h2⟩ | ⟨h1,h2⟩
 ·exact ⟨2097152,by decide,Wn_at (n:=4194304) af1_1_1 af1_1_3 (by rw [bt1_1_1];exact h1) (by rw [bt1_1_3];exact h2)⟩
 ·exact ⟨14680064,by decide,Wn_at (n:=29360128) af1_7_1 af1_7_3 (by rw [bt1_7_1];exact h1) (by rw [bt1_7_3];exact h2)⟩
 ·exact ⟨23068672,by decide,Wn_at (n:=46137344) af1_11_1 af1_11_3 (by rw [bt1_11_1];exact h1) (by rw [bt1_11_3];exact h2)⟩
 ·exact ⟨25165824,by decide,Wn_at (n:=50331648) af1_12_1 af1_12_3 (by rw [bt1_12_1];exact h1) (by rw [bt1_12_3];exact h2)⟩
theorem win_ex (h:Nat) : ∃m:Nat,m≤4334967296∧Wn (itN (2 * m) h)=true:=by
 rcases Nat.mod_two_eq_zero_or_one h with hp | hp
 ·obtain ⟨a,h1,h2⟩:=reach 33 (by decide) (by decide) (h:=h) (l:=0) hp;obtain ⟨b,h3,h4⟩:=win0 (itN (2 * a) h / 8589934592)
  have e:0+8589934592 * (itN (2 * a) h / 8589934592)=itN (2 * a) h:=by
   have h5:itN (2 * a) h % 8589934592=0:=h2
   omega
  rw [e,← itN_add] at h4;have h6:2 * a<8589934592:=h1;exact ⟨a+b,by omega,by rw [Nat.mul_add];exact h4⟩
 ·obtain ⟨a,h1,h2⟩:=reach 33 (by decide) (by decide) (h:=h) (l:=1) hp;obtain ⟨b,h3,h4⟩:=win1 (itN (2 * a) h / 8589934592)
  have e:1+8589934592 * (itN (2 * a) h / 8589934592)=itN (2 * a) h:=by
   have h5:itN (2 * a) h % 8589934592=1:=h2
   omega
  rw [e,← itN_add] at h4;have h6:2 * a<8589934592:=h1;exact ⟨a+b,by omega,by rw [Nat.mul_add];exact h4⟩
theorem leastN {p:Nat→Bool} : ∀(m j:Nat),j≤m→p j=true→∃k,k≤m∧p k=true∧∀i,i<k→p i=false
 | 0,j,hj,h=>⟨0,Nat.le_refl _,by rwa [show j=0 by omega] at h,fun i hi=>by omega⟩
 | m+1,j,hj,h=>by
  by_cases hc : ∃i,i≤m∧p i=true
  ·obtain ⟨i,hi,h2⟩:=hc
   obtain ⟨k,h3,h4,h5⟩:=leastN m i hi h2
   exact ⟨k,by omega,h4,h5⟩
  ·refine ⟨m+1,Nat.le_refl _,?_,fun i hi=>?_⟩
   ·rcases Nat.lt_or_ge j (m+1) with h3 | h3
    ·exact absurd ⟨j,by omega,h⟩ hc
    ·rwa [show j=m+1 by omega] at h
   ·cases hb:p i with
    | false=>rfl
    | true=>exact absurd ⟨i,by omega,hb⟩ hc
theorem dW_ex (h:Nat) : ∃k,k≤4334967296∧Wn (itN (2 * k) h)=true∧∀j,j<k→Wn (itN (2 * j) h)=false:=by
 obtain ⟨m,h1,h2⟩:=win_ex h;obtain ⟨k,h3,h4,h5⟩:=leastN (p:=fun k=>Wn (itN (2 * k) h)) m m (Nat.le_refl _) h2;exact ⟨k,by omega,h4,h5⟩
noncomputable def dW (h:Nat):Nat:=Classical.choose (dW_ex h)
theorem dW_le (h:Nat):dW h≤4334967296:=(Classical.choose_spec (dW_ex h)).1
theorem dW_hit (h:Nat):Wn (itN (2 * dW h) h)=true:=(Classical.choose_spec (dW_ex h)).2.1
theorem dW_min {h j:Nat} (hj:Wn (itN (2 * j) h)=true):dW h≤j:=Classical.byContradiction fun h1=>by
 have h2:=(Classical.choose_spec (dW_ex h)).2.2 j (by unfold dW at h1;omega)
 rw [h2] at hj
 cases hj
noncomputable def mu3 (h:Nat):Nat:=if gd h then 0 else dW h+1
theorem mu3_le (h:Nat):mu3 h≤4334967297:=by
 have:=dW_le h;unfold mu3
 split <;> omega
theorem mu3_2 {h:Nat} (hg:gd h=false):mu3 (itN 2 h)+1≤mu3 h∧mu3 (itN 4 h)+2≤mu3 h:=by
 have h1:=dW_hit h
 have e:mu3 h=dW h+1:=by unfold mu3;rw [hg];rfl
 rw [e];generalize hm:dW h=m at h1
 cases m with
 | zero=>
  have h2:Wn h=true:=by rwa [show 2 * 0=0 from rfl,itN_0] at h1
  unfold Wn at h2;rw [hg] at h2
  cases h2
 | succ m=>
  have h2:dW (itN 2 h)≤m:=dW_min (by rw [← itN_add,show 2+2 * m=2 * (m+1) by omega];exact h1);refine ⟨?_,?_⟩
  ·unfold mu3
   split <;> omega
  ·cases m with
   | zero=>
    have h3:Wn (itN 2 h)=true:=h1;unfold Wn at h3;rw [← itN_add] at h3;have h4:=(Bool.and_eq_true_iff.1 h3).2;unfold mu3;rw [if_pos h4]
    omega
   | succ m=>
    have h3:dW (itN 4 h)≤m:=dW_min (by rw [← itN_add,show 4+2 * m=2 * (m+1+1) by omega];exact h1);unfold mu3
    split <;> omega
section
variable {P : Program} {B : World} {H0 H : HP} {us : List (Nat × Value)} {L : List SA} {t xt : TypeId} {n : Nat} {x z : Operand}
theorem PR.strSlH {s:List UInt8} {k:IntKind} {j:Int} {j':Nat} (hu:P.underlying xt=some .string) (hx:opv us x=some (sV s)) (hz:opv us z=some (.int k j)) (hj:j=(j':Int)) (h2:j' ≤s.length):PR P n B H0 us H L (.slice xt x none (some z) none) t (sV (s.take j')):=
 fun _ _ _ _ a w hF _=>by
  subst hj
  have h:=run_slice_string_h (P:=P) w xt ⟨s.toArray⟩ hu k (j':Int) (by omega) (by simp [ByteArray.size];omega)
  rw [ByteArray.extract_mk] at h
  have h3:=run_sliceAt_string (P:=P) (w:=w) xt (sV s) none (some (.int k (j':Int))) none hu
  rw [h] at h3
  simp [execOp,hF.ev hx,hF.ev hz]
  rw [h3]
  simp
end
def hN (s:Src):Nat:=(s.hash % 18446744073709551616).toNat
theorem hshN_t (h:Int):hshN h=(tN (h % 18446744073709551616).toNat:Int):=by
 have h0:((h % 18446744073709551616).toNat:Int)=h % 18446744073709551616:=Int.toNat_of_nonneg (Int.emod_nonneg _ (by decide))
 have e:hshN h=(h * 6364136223846793005 % 18446744073709551616+1442695040888963407) % 18446744073709551616:=by
  unfold hshN
  simp [IntKind.wrap,IntKind.bits,IntKind.signed]
 rw [e];unfold tN;rw [Int.natCast_emod,Int.natCast_add,Int.natCast_mul,h0]
 show _=(h % 18446744073709551616 * 6364136223846793005+1442695040888963407) % 18446744073709551616
 rw [Int.add_emod (h % 18446744073709551616 * 6364136223846793005),Int.mul_emod (h % 18446744073709551616),Int.emod_emod,← Int.mul_emod,Int.add_emod (h * 6364136223846793005 % 18446744073709551616),Int.emod_emod]
theorem hshV_t (h:Int):hshV h=((tN (h % 18446744073709551616).toNat / 8589934592 % 16777216:Nat):Int):=by
 have h1:tN (h % 18446744073709551616).toNat<18446744073709551616:=tN_lt _;unfold hshV;rw [hshN_t];generalize tN (h % 18446744073709551616).toNat=x at h1
 have e1:((x:Int)).fdiv (2 ^ 33)=((x / 8589934592:Nat):Int):=by
  rw [Int.fdiv_eq_ediv_of_nonneg _ (by decide)]
  rfl
 have e2:(BitVec.ofInt 64 ((x / 8589934592:Nat):Int) &&& BitVec.ofInt 64 16777215).toNat=x / 8589934592 % 16777216:=by
  rw [BitVec.toNat_and]
  have f1:(BitVec.ofInt 64 ((x / 8589934592:Nat):Int)).toNat=x / 8589934592:=by
   rw [BitVec.ofInt_natCast,BitVec.toNat_ofNat];exact Nat.mod_eq_of_lt (by omega)
  rw [f1];exact Nat.and_two_pow_sub_one_eq_mod (x / 8589934592) 24
 rw [e1,e2];have h2:x / 8589934592 % 16777216<16777216:=Nat.mod_lt _ (by decide);generalize x / 8589934592 % 16777216=m at h2 ⊢
 have g1:IntKind.u64.wrap (m:Int)=m:=by unfold IntKind.wrap;simp [IntKind.bits,IntKind.signed];omega
 rw [g1];unfold IntKind.wrap
 simp [IntKind.bits,IntKind.signed]
 omega
section
variable {code : List Int} {s : Src}
theorem hN_nx {n:Int} (h:1≤n):hN (nxS code s n)=tN (hN s):=by
 have e:(nxS code s n).hash=hshN s.hash:=by unfold nxS;rw [if_neg (by omega)]
 unfold hN;rw [e,hshN_t];have h1:=tN_lt (s.hash % 18446744073709551616).toNat;generalize tN (s.hash % 18446744073709551616).toNat=x at h1
 omega
theorem pos_nx {n:Int} (h:1≤n):(nxS code s n).pos=if s.pos<code.length then s.pos+1 else s.pos:=by unfold nxS;rw [if_neg (by omega)]
theorem nx_gd (h : ¬s.pos<code.length) (h0:nxV code s 3=0):gd (hN s)=false:=by
 unfold nxV nxX at h0;rw [if_neg (by decide),if_neg h,Int.add_zero,hshV_t] at h0;unfold gd hN;generalize tN (s.hash % 18446744073709551616).toNat / 8589934592 % 16777216=m at h0 ⊢;rw [Int.tmod_eq_emod_of_nonneg (by omega)] at h0;refine decide_eq_false ?_
 omega
def dgeS (code:List Int) (s:Src) (len:Nat):Src:=if len=0 then nxS code s 13 else nxS code (nxS code (nxS code s 13) len) 3
theorem dm_in {len:Nat} (h:s.pos<code.length):s.pos+1≤(dgeS code (nxS code s 3) len).pos∧(dgeS code (nxS code s 3) len).pos≤code.length:=by
 unfold dgeS
 split
 ·rw [pos_nx (by decide),pos_nx (by decide)]
  (repeat' split) <;> omega
 ·rw [pos_nx (by decide),pos_nx (by omega),pos_nx (by decide),pos_nx (by decide)]
  (repeat' split) <;> omega
theorem dm_out {len:Nat} (h : ¬s.pos<code.length) : ¬(dgeS code (nxS code s 3) len).pos<code.length:=by
 unfold dgeS
 split
 ·rw [pos_nx (by decide),pos_nx (by decide)]
  (repeat' split) <;> omega
 ·rw [pos_nx (by decide),pos_nx (by omega),pos_nx (by decide),pos_nx (by decide)]
  (repeat' split) <;> omega
theorem dm_h0:hN (dgeS code (nxS code s 3) 0)=itN 2 (hN s):=by
 unfold dgeS;rw [if_pos rfl,hN_nx (by decide),hN_nx (by decide),itN_s,itN_1]
theorem dm_h1 {len:Nat} (h:len≠0):hN (dgeS code (nxS code s 3) len)=itN 4 (hN s):=by
 unfold dgeS;rw [if_neg h,hN_nx (by decide),hN_nx (by omega),hN_nx (by decide),hN_nx (by decide),itN_s,itN_s,itN_s,itN_1]
noncomputable def tauS (n:Nat) (s:Src):Nat:=if s.pos<n then (n - s.pos)+4334967298 else mu3 (hN s)
noncomputable def PhS (n:Nat) (s:Src) (len:Nat):Nat:=(if len=0 then 2 else 2 * len)+(if s.pos<n then 2 * (n - s.pos)+4334967297 else mu3 (hN s))
theorem dm_mu {len:Nat} (h : ¬s.pos<code.length) (h0:nxV code s 3=0):mu3 (hN (dgeS code (nxS code s 3) len))+(if len=0 then 1 else 2)≤mu3 (hN s):=by
 have h1:=mu3_2 (nx_gd h h0)
 by_cases e:len=0
 ·subst e;rw [dm_h0,if_pos rfl];exact h1.1
 ·rw [dm_h1 e,if_neg e];exact h1.2
theorem dm_tau (len:Nat) (h0:nxV code s 3=0):tauS code.length (dgeS code (nxS code s 3) len)<tauS code.length s:=by
 by_cases h:s.pos<code.length
 ·have h1:=dm_in (len:=len) h;have h2:=mu3_le (hN (dgeS code (nxS code s 3) len));unfold tauS;rw [if_pos h]
  split <;> omega
 ·have h1:=dm_out (len:=len) h;have h2:=dm_mu (len:=len) h h0;unfold tauS;rw [if_neg h,if_neg h1]
  split at h2 <;> omega
theorem dm_ph {len len':Nat} (h0:nxV code s 3=0) (hl:len' ≤len+1):PhS code.length (dgeS code (nxS code s 3) len) len' ≤PhS code.length s len:=by
 by_cases h:s.pos<code.length
 ·have h1:=dm_in (len:=len) h;have h2:=mu3_le (hN (dgeS code (nxS code s 3) len));unfold PhS;rw [if_pos h]
  (repeat' split) <;> omega
 ·have h1:=dm_out (len:=len) h;have h2:=dm_mu (len:=len) h h0;unfold PhS;rw [if_neg h,if_neg h1]
  split at h2 <;> (repeat' split) <;> omega
theorem ph_len {n len:Nat} {s:Src}:2 * len≤PhS n s len:=by
 unfold PhS
 split <;> omega
theorem ph_init {n len:Nat} (s:Src) (hn:n≤1048576) (hl:len≤656000):PhS n s len≤4340000000:=by
 have h2:=mu3_le (hN s);unfold PhS
 (repeat' split) <;> omega
end
def sgT:List (List UInt8):=[[48], [49], [50], [97], [98], [104], [43], [42], [45], [32], [120], [59], [10]]
def dgeC (code:List Int) (s:Src):List UInt8:=sgT.getD (nxV code s 13).toNat []
def dgeK (code:List Int) (s:Src) (len:Nat):Nat:=(nxV code (nxS code s 13) len).toNat
def dgeR (code:List Int) (s:Src) (len:Nat):Int:=nxV code (nxS code (nxS code s 13) len) 3
def dgeV (code:List Int) (s:Src) (t:List UInt8):List UInt8:=if t.length=0 then dgeC code s else
 if dgeR code s t.length=0 then t.take (dgeK code s t.length)++dgeC code s++t.drop (dgeK code s t.length+1) else
 if dgeR code s t.length=1 then t.take (dgeK code s t.length)++t.drop (dgeK code s t.length+1) else t.take (dgeK code s t.length)++dgeC code s++t.drop (dgeK code s t.length)
theorem dgeC_len (code:List Int) (s:Src):(dgeC code s).length≤1:=by
 unfold dgeC
 rcases Nat.lt_or_ge (nxV code s 13).toNat 13 with h | h
 ·have key : ∀k,k<13→(sgT.getD k []).length≤1:=by decide
  exact key _ h
 ·rw [List.getD_eq_getElem?_getD,List.getElem?_eq_none (show sgT.length≤_ from h)]
  simp
theorem dgeV_len {code:List Int} (hb:BtOk code) (s:Src) (t:List UInt8):(dgeV code s t).length≤t.length+1:=by
 have h1:=dgeC_len code s;have h2:=nxV_bd hb (nxS code s 13) (t.length:Int);unfold dgeV
 split
 ·omega
 ·have h3:dgeK code s t.length<t.length:=by unfold dgeK;omega
  generalize dgeK code s t.length=k at h3
  split
  ·simp only [List.length_append,List.length_take,List.length_drop]
   omega
  ·split
   ·simp only [List.length_append,List.length_take,List.length_drop]
    omega
   ·simp only [List.length_append,List.length_take,List.length_drop]
    omega
theorem DrA.tx {ds:List Int} {fs:List (List Term)} (h:DrA ds fs):TxOk ds fs:=⟨h.hn,h.hl,h.hd0,h.len,fun i hi j hj=>by
 have h1:=(h.sok i hi).1.val ((tm (fm fs i) j).mono,(tm (fm fs i) j).fac) (List.mem_map.2 ⟨tm (fm fs i) j,by rw [← tm_eq hj];exact List.getElem_mem hj,rfl⟩)
 simp only at h1
 omega,h.wf⟩
theorem DrA.txl {ds:List Int} {fs:List (List Term)} (h:DrA ds fs):(algT ds fs).length≤656000:=by
 have h1:=preA_len h.tx (k:=fs.length) (Nat.le_refl _);have h2:=h.hn;have h3:=h.hl;rw [h3] at h1;rw [preA_end] at h1
 omega
theorem l01Damage_c {B:World} {H0 H:HP} {L:List SA} {w:World} {gs:Nat} {qb:Option Addr} {cb:Nat} {code:List Int} {s:Src} {t:List UInt8} (hbt:Bts H qb code) (hbk:BtOk code) (hl:t.length≤4294967280) (hcl:code.length≤1048576) (hH:Hp B H0 H (srcO qb cb code gs s::L) w):Calls Tryz.prog 31 [.pointer (some ⟨gs,0,none⟩),sV t].toArray w fun e w'=>e = .returned (sV (dgeV code s t))∧Hp B H0 H (srcO qb cb code gs (dgeS code s t.length)::L) w':=by
 refine JD Tryz.func31 rfl 57 rfl rfl [(0,.pointer (some ⟨gs,0,none⟩)),(1,sV t)] rfl hH ?_;clear hH;have hnb:=nxV_bd hbk s (13:Nat)
 have hnt:nxV code s (13:Nat)=((nxV code s (13:Nat)).toNat:Int):=by omega
 have hk13:(nxV code s (13:Nat)).toNat<sgT.length:=by show _<13;omega
 have hkb:=nxV_bd hbk (nxS code s (13:Nat)) (t.length:Int)
 have hkt:(nxV code (nxS code s (13:Nat)) (t.length:Int))=(((nxV code (nxS code s (13:Nat)) (t.length:Int)).toNat:Nat):Int):=by omega
 have hcl1:(sgT.getD (nxV code s (13:Nat)).toNat []).length≤1:=dgeC_len code s;refine Jd fun _ hK1 _=>(Jb (Jg (Je rfl) rfl (Jf (Ja (hK1 (Jd fun _ hK2 _=>(Jb (J.litN (sgT.map sV) u95 ze9 sz9 rfl rfl rfl (by decide) (by decide) (fun v hv=>by obtain ⟨x,_,rfl⟩:=List.mem_map.1 hv;rfl) rfl fun g8=>(Jg (Je rfl) rfl (Jf (Ja (hK2 (Jd fun _ hK3 _=>(Jb (Jg (Jc rfl) rfl (Jg (Jc rfl) rfl ?_))))))))))))))));refine Jg (Jc rfl) rfl (Jg (Jr u95 rfl rfl) rfl (Jz fn30 rfl rfl fun w hH=>(l01Next_c hbt hbk hcl (hH.front (.s .z))).mono ?_));rintro _ w ⟨rfl,hH⟩;refine ⟨_,rfl,fun a hF=>JL hF hH ?_⟩;refine Jg (EM (i':=(nxV code s (13:Nat)).toNat) u95 sz9 rfl rfl hnt (by omega) (.s .z)) rfl (Jg (EH rfl (.s .z) (strsC_get hk13) pl9) rfl (Jg (Je rfl) rfl (Jf (Ja (hK3 (Jd fun _ hK4 _=>(Jd fun _ hK5 _=>(Jb (Jg (Jc rfl) rfl (Jg (EW u9 rfl) rfl (Jg (En rfl rfl) rfl (Jf (Ja (hK5 (Jp rfl (fun h18=>?_) (fun h18=>?_))))))))))))))))
 ·
  refine Jd fun _ hK6 _=>(Jb (Jg (Jc rfl) rfl (Jg (Je rfl) rfl (Jf (Ja (hK6 (Jt (Jn (Jy rfl (Res.tmp rfl) fun w hH=>?_)))))))));replace hH:=hH.sublist (.cons_cons _ (.cons _ (List.Sublist.refl _)));exact ⟨by unfold dgeV;rw [if_pos (by omega)];rfl,by unfold dgeS;rw [if_pos (by omega)];exact hH⟩
 ·
  have hkl:(nxV code (nxS code s (13:Nat)) (t.length:Int)).toNat<t.length:=by omega
  refine Jo (Ja (hK4 (Jd fun _ hK7 _=>(Jb (Jg (Jc rfl) rfl (Jg (Jc rfl) rfl (Jg (EW u9 rfl) rfl (Jz fn30 rfl rfl fun w hH=>(l01Next_c hbt hbk hcl (hH.front .z)).mono ?_))))))));rintro _ w ⟨rfl,hH⟩;refine ⟨_,rfl,fun a hF=>JL hF hH ?_⟩;refine Jg (Je rfl) rfl (Jf (Ja (hK7 (Jd fun _ hK8 _=>(Jd fun _ hK9 _=>(Jb (Jg (Jc rfl) rfl (Jz fn30 rfl rfl fun w hH=>(l01Next_c hbt hbk hcl (hH.front .z)).mono ?_))))))));rintro _ w ⟨rfl,hH⟩;refine ⟨_,rfl,fun a hF=>JL hF hH ?_⟩;refine Jf (Ja (hK9 (Jx (Jd fun _ hK10 _=>(Jb (Jg (En rfl rfl) rfl (Jg (Je rfl) rfl (Jf (Ja (hK10 (Jp rfl (fun h26=>?_) (fun h26=>?_))))))))))))
  ·
   refine Jd fun _ hK11 _=>(ED foll0 (by kernel_rfl) (JH (Jc rfl) rfl (JH (Jc rfl) rfl (JH (PR.strSlH (j':=(nxV code (nxS code s (13:Nat)) (t.length:Int)).toNat) u9 rfl rfl hkt (by omega)) rfl (JH (Jc rfl) rfl (JH (Em rfl rfl (by simp only [List.length_append,List.length_take,List.length_drop];omega)) rfl (JH (Jc rfl) rfl (JH (Jc rfl) rfl (JH (JF rfl rfl (by first | exact nw _ (by omega) | rfl)) rfl (JH (PR.strSlF (i':=((nxV code (nxS code s (13:Nat)) (t.length:Int)).toNat+1)) u9 rfl rfl (by omega) (by omega)) rfl (JH (Em rfl rfl (by simp only [List.length_append,List.length_take,List.length_drop];omega)) rfl (JH (Je rfl) rfl (Ej (Ja (hK11 ?_)))))))))))))));refine Jt (JU (Jn (Jy rfl (Res.tmp rfl) fun w hH=>?_)));replace hH:=hH.sublist (.cons_cons _ (.cons _ (List.Sublist.refl _)));exact ⟨by unfold dgeV;rw [if_neg (by omega),if_pos (show dgeR code s t.length=0 from h26)];rfl,by unfold dgeS;rw [if_neg (by omega)];exact hH⟩
  ·
   refine Jd fun _ hK12 _=>(Jb (Jg (En rfl rfl) rfl (Jg (Je rfl) rfl (Jf (Ja (hK12 (Jp rfl (fun h38=>?_) (fun h38=>?_))))))))
   ·
    refine Jd fun _ hK13 _=>(ED foll0 (by kernel_rfl) (JH (Jc rfl) rfl (JH (Jc rfl) rfl (JH (PR.strSlH (j':=(nxV code (nxS code s (13:Nat)) (t.length:Int)).toNat) u9 rfl rfl hkt (by omega)) rfl (JH (Jc rfl) rfl (JH (Jc rfl) rfl (JH (JF rfl rfl (by first | exact nw _ (by omega) | rfl)) rfl (JH (PR.strSlF (i':=((nxV code (nxS code s (13:Nat)) (t.length:Int)).toNat+1)) u9 rfl rfl (by omega) (by omega)) rfl (JH (Em rfl rfl (by simp only [List.length_append,List.length_take,List.length_drop];omega)) rfl (JH (Je rfl) rfl (Ej (Ja (hK13 (Jt (JU ?_)))))))))))))));refine Jn (Jy rfl (Res.tmp rfl) fun w hH=>?_);replace hH:=hH.sublist (.cons_cons _ (.cons _ (List.Sublist.refl _)));exact ⟨by unfold dgeV;rw [if_neg (by omega),if_neg (show ¬dgeR code s t.length=0 from h26),if_pos (show dgeR code s t.length=1 from h38)];rfl,by unfold dgeS;rw [if_neg (by omega)];exact hH⟩
   ·
    refine Jo (JJ (Ja (hK8 (Jd fun _ hK14 _=>(ED foll0 (by kernel_rfl) (JH (Jc rfl) rfl (JH (Jc rfl) rfl (JH (PR.strSlH (j':=(nxV code (nxS code s (13:Nat)) (t.length:Int)).toNat) u9 rfl rfl hkt (by omega)) rfl (JH (Jc rfl) rfl (JH (Em rfl rfl (by simp only [List.length_append,List.length_take,List.length_drop];omega)) rfl (JH (Jc rfl) rfl (JH (Jc rfl) rfl (JH (PR.strSlF (i':=(nxV code (nxS code s (13:Nat)) (t.length:Int)).toNat) u9 rfl rfl hkt (by omega)) rfl (JH (Em rfl rfl (by simp only [List.length_append,List.length_take,List.length_drop];omega)) rfl (JH (Je rfl) rfl ?_)))))))))))))));refine Ej (Ja (hK14 (Jt (Jy rfl (Res.tmp rfl) fun w hH=>?_))));replace hH:=hH.sublist (.cons_cons _ (.cons _ (List.Sublist.refl _)));exact ⟨by unfold dgeV;rw [if_neg (by omega),if_neg (show ¬dgeR code s t.length=0 from h26),if_neg (show ¬dgeR code s t.length=1 from h38)];rfl,by unfold dgeS;rw [if_neg (by omega)];exact hH⟩
theorem fn31:Fn Tryz.prog 31:=⟨_,Tryz.func31,by kernel_rfl,rfl⟩
theorem fn45:Fn Tryz.prog 45:=⟨_,Tryz.func45,by kernel_rfl,rfl⟩
def dropK (i j:Nat):List (Nat × Value)→List (Nat × Value)
 | []=>[]
 | (d,v)::us=>bif d == i || d == j then dropK i j us else (d,v)::dropK i j us
theorem dropK_lk {i j x:Nat} {v:Value} : ∀{us:List (Nat × Value)},lk (dropK i j us) x=some v→(x≠i∧x≠j)∧lk us x=some v
 | [],h=>by simp [dropK,lk] at h
 | (d,u)::us,h=>by
  unfold dropK at h
  by_cases hd:(d == i || d == j)=true
  ·rw [hd] at h
   obtain ⟨h1,h2⟩:=dropK_lk (us:=us) h
   refine ⟨h1,?_⟩
   simp only [lk]
   have:Nat.beq d x=false:=by
    cases hb:Nat.beq d x
    ·rfl
    ·have e:=Nat.eq_of_beq_eq_true hb
     subst e
     simp only [Bool.or_eq_true,beq_iff_eq] at hd
     omega
   rw [this]
   exact h2
  ·have hd':(d == i || d == j)=false:=Bool.eq_false_iff.mpr hd
   rw [hd'] at h
   simp only [cond_false,lk] at h ⊢
   cases hb:Nat.beq d x
   ·rw [hb] at h
    obtain ⟨h1,h2⟩:=dropK_lk (us:=us) h
    exact ⟨h1,h2⟩
   ·rw [hb] at h
    have e:=Nat.eq_of_beq_eq_true hb
    subst e
    simp only [Bool.or_eq_true,beq_iff_eq] at hd
    exact ⟨⟨fun c=>hd (Or.inl c),fun c=>hd (Or.inr c)⟩,h⟩
theorem CJ.mask (i j:Nat) {P:Program} {c:Code} {Q:Exit→Act→World→Prop} {n:Nat} {B:World} {H0 H:HP} {us:List (Nat × Value)} {L:List SA} (h:CJ P c Q n B H0 (dropK i j us) H L):CJ P c Q n B H0 us H L:=
 fun a w hF hH=>h a w ⟨hF.size,hF.defers,fun x v hx=>hF.get x v (dropK_lk hx).2⟩ hH
theorem DrawParseAlgebra_c {B:World} {H0 H:HP} {L:List SA} {w:World} {qb:Option Addr} {cb:Nat} {code:List Int} (hbt:Bts H qb code) (hbk:BtOk code) (hcl:code.length≤1048576) (hH:Hp B H0 H L w):Calls Tryz.prog 8 [.slice qb code.length cb].toArray w fun e w'=>∃t,t.length≤4294967280∧e = .returned (sV t)∧Hp B H0 H L w':=by
 refine JD Tryz.func8 rfl 17 rfl rfl [(0,.slice qb code.length cb)] rfl hH ?_;clear hH;refine Jd fun _ hK1 _=>(Jb (Jg (Je rfl) rfl (Jf (Ja (hK1 (Jd fun _ hK2 _=>(Jb (Jg (Jc rfl) rfl (Jz fn24 rfl rfl fun w hH=>(l01From_c hbt hbk hcl hH).mono ?_)))))))));rintro _ w ⟨gs,s0,rfl,hH⟩;refine ⟨_,rfl,fun a hF=>JL hF hH ?_⟩;refine Jg (Je rfl) rfl (Jf (Ja (hK2 (EL (σ:=Src × List UInt8) (fun ⟨s2,t2⟩=>[(4,sV t2)]) (fun ⟨s2,t2⟩=>H) (fun ⟨s2,t2⟩=>srcO qb cb code gs s2::L) (fun ⟨s2,t2⟩=>t2.length≤656000) ?_ ?_))))
 ·
  intro _ hMt1;refine Jb (Jg (Jc rfl) rfl (Jz fn29 rfl rfl fun w hH=>(l02Draw_c hbt hbk (by omega) hcl (hH.front .z)).mono ?_));rintro _ w ⟨ka8,kf8,ks8,qd8,cd8,qf8,cf8,vs8,hk8,hl8,rfl,hH⟩;refine ⟨_,rfl,fun a hF=>JL hF hH ?_⟩;refine Jz fn28 rfl rfl fun w hH=>hH.lend .z fun Hl1 hle1 hA1 hB1 hH=>hH.lend .z fun Hl2 hle2 hA2 hB2 hH=>(l02Text_c ((own_ints hA1).le hle2) (own_forms hk8.wf hA2) hk8.tx hH).mono ?_;rintro _ w ⟨rfl,hH⟩;replace hH:=hB2 _ _ hH;replace hH:=hB1 _ _ hH;refine ⟨_,rfl,fun a hF=>JL hF hH ?_⟩;refine Jg (Je rfl) rfl (Jf (Ja (JC .z (JC .z ?_))));exact hMt1 (ks8,(algT ka8 kf8)) hk8.txl 4 rfl rfl ⟨rfl,trivial⟩ rfl rfl
 ·
  rintro ⟨s2,t2⟩ ht2;refine Jd fun _ hK3 _=>(Jx (JP (σ:=Src × List UInt8) (fun ⟨s1,t1⟩=>[(4,sV t1)]) (fun ⟨s1,t1⟩=>H) (fun ⟨s1,t1⟩=>srcO qb cb code gs s1::L) (fun ⟨s1,t1⟩=>PhS code.length s1 t1.length≤4340000000) (fun ⟨s1,t1⟩=>tauS code.length s1) (s2,t2) (ph_init _ hcl ht2) ⟨rfl,trivial⟩ rfl rfl ?_));rintro ⟨s1,t1⟩ hI _ hAg0;have htl:=ph_len (n:=code.length) (s:=s1) (len:=t1.length);refine Jd fun _ hK4 _=>(Jd fun _ hK5 _=>(Jb (Jg (Jc rfl) rfl (Jz fn30 rfl rfl fun w hH=>(l01Next_c hbt hbk hcl (hH.front .z)).mono ?_))));rintro _ w ⟨rfl,hH⟩;refine ⟨_,rfl,fun a hF=>JL hF hH ?_⟩;refine Jg (En rfl rfl) rfl (Jf (Ja (hK5 (Jp rfl (fun h12=>?_) (fun h12=>?_)))))
  ·
   refine Jo (Ja (hK4 (Jx (Jb (Jg (Jc rfl) rfl (Jg (Jc rfl) rfl (Jz fn31 rfl rfl fun w hH=>(l01Damage_c hbt hbk (by omega) hcl (hH.front .z)).mono ?_)))))));rintro _ w ⟨rfl,hH⟩;refine ⟨_,rfl,fun a hF=>JL hF hH ?_⟩;refine Jg (Je rfl) rfl (Jf (JJ (Ja ?_)));exact hAg0 ((dgeS code (nxS code s1 3) t1.length),(dgeV code (nxS code s1 3) t1)) (Nat.le_trans (dm_ph h12 (dgeV_len hbk _ _)) hI) (dm_tau _ h12) 8 rfl rfl ⟨rfl,trivial⟩ rfl rfl
  ·
   refine JR (Jw (Jw (JY (Ja (hK3 (Jd fun _ hK6 _=>(Jb (Jg (Jc rfl) rfl (Jg (Je rfl) rfl (Jf (Ja (hK6 (Jt (Jy rfl (Res.tmp rfl) fun w hH=>?_))))))))))))));replace hH:=hH.tail;exact ⟨t1,(by omega),rfl,hH⟩
theorem DrawAlgebraText_c {B:World} {H0 H:HP} {L:List SA} {w:World} {qb:Option Addr} {cb:Nat} {code:List Int} (hbt:Bts H qb code) (hbk:BtOk code) (hcl:code.length≤1048576) (hH:Hp B H0 H L w):Calls Tryz.prog 5 [.slice qb code.length cb].toArray w fun e w'=>∃ad af qd cd qf cf vs,DrB ad af∧e = .returned (.agg [.slice qd ad.length cd,.slice qf af.length cf].toArray)∧Hp B H0 H (own 2 1 qd ad.length cd (intsC ad)::ownFs 42 89 qf cf vs af::L) w':=by
 refine JD Tryz.func5 rfl 6 rfl rfl [(0,.slice qb code.length cb)] rfl hH ?_;clear hH;refine Jd fun _ hK1 _=>(Jb (JG ze27 rfl fun g2=>(Jf (Ja (hK1 (Jd fun _ hK2 _=>(Jb (Jg (Jc rfl) rfl (Jz fn24 rfl rfl fun w hH=>(l01From_c hbt hbk hcl hH).mono ?_)))))))));rintro _ w ⟨gs,s0,rfl,hH⟩;refine ⟨_,rfl,fun a hF=>JL hF hH ?_⟩;refine Jz fn23 rfl rfl fun w hH=>(l02Spoil_c hbt hbk (by omega) hcl (hH.front .z)).mono ?_;rintro _ w ⟨ka5,kf5,ks5,qd5,cd5,qf5,cf5,vs5,hk5,rfl,hH⟩;refine ⟨_,rfl,fun a hF=>JL hF hH ?_⟩;refine Jk rfl rfl (by first | exact bytesC_one _ | exact intsC_one _ | exact Term.c_one _ | simp [Value.oneCell']) (by simpa [*] using sz27) (by simp [*]) (.s (.s (.s .z))) (Jf (Ja (hK2 (Jt (Jy rfl (Res.agg rfl (.s (.s (.s .z))) (by simpa [*] using ag27)) fun w hH=>?_)))));replace hH:=hH.sublist (.cons_cons _ (.cons_cons _ (.cons _ (.cons _ (List.Sublist.refl _)))));exact ⟨_,_,_,_,_,_,_,hk5,rfl,hH⟩
theorem DrawFreeAlgebra_c {B:World} {H0 H:HP} {L:List SA} {w:World} {qb:Option Addr} {cb:Nat} {code:List Int} (hbt:Bts H qb code) (hbk:BtOk code) (hcl:code.length≤1048576) (hH:Hp B H0 H L w):Calls Tryz.prog 12 [.slice qb code.length cb].toArray w fun e w'=>∃ds q c,ds.length≤100∧e = .returned (.slice q ds.length c)∧Hp B H0 H (own 2 1 q ds.length c (intsC ds)::L) w':=by
 refine JD Tryz.func12 rfl 10 rfl rfl [(0,.slice qb code.length cb)] rfl hH ?_;clear hH;refine Jd fun _ hK1 _=>(Jb (Jg (Je rfl) rfl (Jf (Ja (hK1 (Jd fun _ hK2 _=>(Jb (Jg (Jc rfl) rfl (Jz fn24 rfl rfl fun w hH=>(l01From_c hbt hbk hcl hH).mono ?_)))))))));rintro _ w ⟨gs,s0,rfl,hH⟩;refine ⟨_,rfl,fun a hF=>JL hF hH ?_⟩;refine Jg (Je rfl) rfl (Jf (Ja (hK2 (Jd fun _ hK3 _=>?_))));have hdl:=ddV_bd hbk s0 (most:=8) (by omega);refine Jb (Jg (Jc rfl) rfl (Jg (Jc rfl) rfl (Jz fn37 rfl rfl fun w hH=>(l01DrawDegrees_c hbt hbk (by omega) hcl (hH.front .z)).mono ?_)));rintro _ w ⟨qo8,co8,rfl,hH⟩;refine ⟨_,rfl,fun a hF=>JL hF hH ?_⟩;refine Jz fn36 rfl rfl fun w hH=>(l01Badly_c hbt hbk (by omega) hcl ((hH.front .z).front (.s .z))).mono ?_;rintro _ w ⟨qo9,co9,rfl,hH⟩;refine ⟨_,rfl,fun a hF=>JL hF hH ?_⟩;refine Jg (Je rfl) rfl (Jf (Ja (hK3 (Jt (Jy rfl (Res.tmp rfl) fun w hH=>?_)))));replace hH:=hH.sublist (.cons_cons _ (.cons _ (List.Sublist.refl _)));exact ⟨_,_,_,(by have h9:=bdyV_len code (ddS code s0 8) (ddV code s0 8);omega),rfl,hH⟩
theorem DrawProductOfAlgebras_c {B:World} {H0 H:HP} {L:List SA} {w:World} {qb:Option Addr} {cb:Nat} {code:List Int} (hbt:Bts H qb code) (hbk:BtOk code) (hcl:code.length≤1048576) (hH:Hp B H0 H L w):Calls Tryz.prog 15 [.slice qb code.length cb].toArray w fun e w'=>∃ad af bd bf qd cd qf cf vs pd dd pf df us,DrB ad af∧DrB bd bf∧e = .returned (.tuple #[.agg [.slice qd ad.length cd,.slice qf af.length cf].toArray,.agg [.slice pd bd.length dd,.slice pf bf.length df].toArray])∧Hp B H0 H (own 2 1 qd ad.length cd (intsC ad)::ownFs 42 89 qf cf vs af::own 2 1 pd bd.length dd (intsC bd)::ownFs 42 89 pf df us bf::L) w':=by
 refine JD Tryz.func15 rfl 11 rfl rfl [(0,.slice qb code.length cb)] rfl hH ?_;clear hH;refine Jd fun _ hK1 _=>(Jb (JG ze27 rfl fun g2=>(JG ze27 rfl fun g3=>(Jf (Ja (hK1 (Jd fun _ hK2 _=>(Jb (Jg (Jc rfl) rfl (Jz fn24 rfl rfl fun w hH=>(l01From_c hbt hbk hcl hH).mono ?_))))))))));rintro _ w ⟨gs,s0,rfl,hH⟩;refine ⟨_,rfl,fun a hF=>JL hF hH ?_⟩;refine Jg (Je rfl) rfl (Jf (Ja (hK2 (Jd fun _ hK3 _=>(Jb (Jg (Jc rfl) rfl (Jz fn23 rfl rfl fun w hH=>(l02Spoil_c hbt hbk (by omega) hcl (hH.front .z)).mono ?_)))))));rintro _ w ⟨ka8,kf8,ks8,qd8,cd8,qf8,cf8,vs8,hk8,rfl,hH⟩;refine ⟨_,rfl,fun a hF=>JL hF hH ?_⟩;refine Jg (Jc rfl) rfl (Jz fn23 rfl rfl fun w hH=>(l02Spoil_c hbt hbk (by omega) hcl (hH.front (.s (.s .z)))).mono ?_);rintro _ w ⟨ka10,kf10,ks10,qd10,cd10,qf10,cf10,vs10,hk10,rfl,hH⟩;refine ⟨_,rfl,fun a hF=>JL hF hH ?_⟩;refine Jk rfl rfl (by first | exact bytesC_one _ | exact intsC_one _ | exact Term.c_one _ | simp [Value.oneCell']) (by simpa [*] using sz27) (by simp [*]) (.s (.s (.s (.s (.s (.s .z)))))) (Jk rfl rfl (by first | exact bytesC_one _ | exact intsC_one _ | exact Term.c_one _ | simp [Value.oneCell']) (by simpa [*] using sz27) (by simp [*]) (.s (.s (.s (.s (.s .z))))) (Jf (Ja (hK3 (Jt (JV rfl (Res.agg rfl (.s (.s (.s (.s (.s (.s .z)))))) (by simpa [*] using ag27)) (Res.agg rfl (.s (.s (.s (.s (.s .z))))) (by simpa [*] using ag27)) fun w hH=>?_))))));replace hH:=hH.sublist (.cons_cons _ (.cons_cons _ (.cons _ (.cons_cons _ (.cons_cons _ (.cons _ (.cons _ (List.Sublist.refl _))))))));exact ⟨_,_,_,_,_,_,_,_,_,_,_,_,_,_,hk8,hk10,rfl,(hH.front (.s (.s (.s .z)))).front (.s (.s (.s .z)))⟩
theorem l01DegreeX_c {B:World} {H0 H:HP} {L:List SA} {w:World} {qds:Option Addr} {cds:Nat} {ds:List Int} {qts:Option Addr} {cts:Nat} {ts:List Term} (hds:Ints H qds ds) (hts:Terms H qts ts) (hx:0<ts.length→ds.length≤8∧∀j,0≤ds.getD j 0∧ds.getD j 0≤12) (hl:ts.length≤9223372036854775807) (hH:Hp B H0 H L w):Calls Tryz.prog 46 [.slice qds ds.length cds,.agg [.slice qts ts.length cts].toArray].toArray w fun e w'=>e = .returned (.tuple #[.int .i64 (degF ds ts),.bool (homog ds ts)])∧Hp B H0 H L w':=by
 refine JD Tryz.func46 rfl 37 rfl rfl [(0,.slice qds ds.length cds),(1,.agg [.slice qts ts.length cts].toArray)] rfl hH ?_;clear hH;refine Jd fun _ hK1 _=>(Jb (Eo rfl rfl rfl fun g3=>(Jg (Je rfl) rfl (Jg (Je rfl) rfl (Jf (Ja (hK1 (Jd fun _ hK2 _=>(Jd fun _ hK3 _=>(Jb (Jg (Jq u42 rfl sz40 rfl) rfl (Jg (Jv rfl At.z rfl pl40) rfl (Jg (Jr u40 rfl rfl) rfl (Jg (En rfl rfl) rfl (Jf ?_)))))))))))))));refine Ja (hK3 (Jp rfl (fun h11=>?_) (fun h11=>?_)))
 ·
  refine Jd fun _ hK4 _=>(Jb (Jg (Je rfl) rfl (Jg (Je rfl) rfl (Jf (Ja (hK4 (Jt (Jn (JV rfl (Res.tmp rfl) (Res.tmp rfl) fun w hH=>?_)))))))));replace hH:=hH.tail;exact ⟨degRet (homog_yes (fun j hj=>by omega)) (by rw [if_pos rfl];unfold outAt;rw [if_pos (by omega)]),hH⟩
 ·
  obtain ⟨hn,hd⟩:=hx (by omega);refine Jo (Ja (hK2 (Jd fun _ hK5 _=>(Jb (Jg (Jc rfl) rfl (Jg (Jq u42 rfl sz40 rfl) rfl (Jg (Jv rfl At.z rfl pl40) rfl (Jg (EA (i':=0) u40 sz89 rfl rfl rfl (by omega) hts.sm) rfl (Jg (EC u89 rfl sz87 rfl (hts.sm (i:=0) (by omega))) rfl (Jg (JT rfl (hts.mono (by omega)) (hts.sm (i:=0) (by omega)) (by rw [bytesC_length,(hts.wf _ (by omega)).mono.len];exact ag87)) rfl (Jz fn88 rfl rfl fun w hH=>(l01Weight_c hds (hts.wf 0 (by omega)).mono hn hd hH).mono ?_)))))))))));rintro _ w ⟨rfl,hH⟩;refine ⟨_,rfl,fun a hF=>JL hF hH ?_⟩;refine Jg (Je rfl) rfl (Jf (Ja (hK5 (Jd fun _ hK6 _=>(Jd fun _ hK7 _=>(Jb (Jg (Je rfl) rfl (Jf (Ja (hK7 (Jx (JP (σ:=Nat) (fun (k:Nat)=>[(7,.int .i64 (k:Int))]) (fun (k:Nat)=>H) (fun (k:Nat)=>obj g3 (.cells [.slice qts ts.length cts].toArray 42 (0,0))::L) (fun (k:Nat)=>1≤k∧k≤ts.length∧∀j,j<k→wd ds ts j=wd ds ts 0) (fun (k:Nat)=>ts.length - k) 1 ⟨by omega,by omega,fun j hj=>by rw [show j=0 by omega]⟩ ⟨rfl,trivial⟩ rfl rfl ?_))))))))))));rintro k hI _ hAg0;have hk:=hI.2.1;refine Jd fun _ hK8 _=>(Jd fun _ hK9 _=>(Jb (Jg (Jc rfl) rfl (Jg (Jq u42 rfl sz40 rfl) rfl (Jg (Jv rfl At.z rfl pl40) rfl (Jg (Jr u40 rfl rfl) rfl (Jg (JZ rfl rfl) rfl (Jf (Ja (hK9 (Jp rfl (fun hc23=>?_) (fun hc23=>?_))))))))))))
  ·
   refine Jo (Ja (hK8 (Jd fun _ hK10 _=>(Jx (Jd fun _ hK11 _=>(Jb (Jg (Jc rfl) rfl (Jg (Jq u42 rfl sz40 rfl) rfl (Jg (Jv rfl At.z rfl pl40) rfl (Jg (Jc rfl) rfl (Jg (EA u40 sz89 rfl rfl rfl (by omega) hts.sm) rfl (Jg (EC u89 rfl sz87 rfl (hts.sm (i:=k) (by omega))) rfl (Jg (JT rfl (hts.mono (by omega)) (hts.sm (i:=k) (by omega)) (by rw [bytesC_length,(hts.wf _ (by omega)).mono.len];exact ag87)) rfl (Jz fn88 rfl rfl fun w hH=>(l01Weight_c hds (hts.wf k (by omega)).mono hn hd hH).mono ?_))))))))))))));rintro _ w ⟨rfl,hH⟩;refine ⟨_,rfl,fun a hF=>JL hF hH ?_⟩;refine Jg (Jc rfl) rfl (Jg (Ew rfl rfl) rfl (Jf (Ja (hK11 (Jp rfl (fun h35=>?_) (fun h35=>?_))))))
   ·
    refine Jd fun _ hK12 _=>(Jb (Jg (Je rfl) rfl (Jg (Je rfl) rfl (Jf (Ja (hK12 (Jt (JU (Jn (Jn (JU (Jn (JV rfl (Res.tmp rfl) (Res.tmp rfl) fun w hH=>?_)))))))))))));replace hH:=hH.tail;exact ⟨degRet (homog_no (k:=k) (by omega) h35) rfl,hH⟩
   ·
    refine Jo (JJ (Ja (hK10 (Jb (Jg (Jc rfl) rfl (Jg (JF rfl rfl (by first | exact nw _ (by omega) | rfl)) rfl (Jg (Je rfl) rfl (Jf (Ja ?_)))))))));exact hAg0 (k+1) ⟨by omega,by omega,upto hI.2.2 (Decidable.not_not.1 h35)⟩ (by omega) 19 rfl rfl ⟨rfl,trivial⟩ rfl rfl
  ·
   refine JR (Jw (Jw (JY (Ja (hK6 (Jd fun _ hK13 _=>(Jb (Jg (Jc rfl) rfl (Jg (Je rfl) rfl (Jg (Je rfl) rfl (Jf (Ja (hK13 (Jt (JV rfl (Res.tmp rfl) (Res.tmp rfl) fun w hH=>?_)))))))))))))));replace hH:=hH.tail
   obtain rfl:k=ts.length:=by omega
   exact ⟨degRet (homog_yes hI.2.2) (by rw [if_pos rfl];unfold outAt;rw [if_neg (by omega)];rfl),hH⟩
theorem DrawWithGenerator_c {B:World} {H0 H:HP} {L:List SA} {w:World} {qb:Option Addr} {cb:Nat} {code:List Int} (hbt:Bts H qb code) (hbk:BtOk code) (hcl:code.length≤1048576) (hH:Hp B H0 H L w):Calls Tryz.prog 18 [.slice qb code.length cb].toArray w fun e w'=>∃ad af n f qd cd qf cf vs q c,DrB ad af∧(Wfs f∧f.length≤1048576)∧e = .returned (.tuple #[.agg [.slice qd ad.length cd,.slice qf af.length cf].toArray,.int .i64 n,.agg [.slice q f.length c].toArray])∧Hp B H0 H (own 2 1 qd ad.length cd (intsC ad)::ownFs 42 89 qf cf vs af::own 89 9 q f.length c (tsC f)::L) w':=by
 refine JD Tryz.func18 rfl 41 rfl rfl [(0,.slice qb code.length cb)] rfl hH ?_;clear hH;refine Jd fun _ hK1 _=>(Jb (JG ze27 rfl fun g2=>(Jg (Je rfl) rfl (JG ze42 rfl fun g4=>(Jf (Ja (hK1 (Jd fun _ hK2 _=>(Jb (Jg (Jc rfl) rfl (Jz fn24 rfl rfl fun w hH=>(l01From_c hbt hbk hcl hH).mono ?_)))))))))));rintro _ w ⟨gs,s0,rfl,hH⟩;refine ⟨_,rfl,fun a hF=>JL hF hH ?_⟩;refine Jg (Je rfl) rfl (Jf (Ja (hK2 (Jd fun _ hK3 _=>(Jb (Jg (Jc rfl) rfl (Jz fn45 rfl rfl fun w hH=>(l02Two_c hbt hbk hcl hH).mono ?_)))))));rintro _ w ⟨ka14,kf14,kg14,qd14,cd14,qf14,cf14,vs14,qg14,cg14,hk14,hg14,rfl,hH⟩;refine ⟨_,rfl,fun a hF=>JL hF hH ?_⟩;refine Jg (Jc rfl) rfl (Jg (JA rfl rfl) rfl (Jg (JA rfl rfl) rfl (JG ze27 rfl fun g6=>(JG ze42 rfl fun g7=>(Jk rfl rfl (by first | exact bytesC_one _ | exact intsC_one _ | exact Term.c_one _ | simp [Value.oneCell']) (by simpa [*] using sz27) (by simp [*]) (.s .z) (Jk rfl rfl (by first | exact bytesC_one _ | exact intsC_one _ | exact Term.c_one _ | simp [Value.oneCell']) (by simpa [*] using sz42) (by simp [*]) At.z (Jf (Ja (hK3 (Jd fun _ hK4 _=>?_))))))))));have hDX:0<kg14.length→ka14.length≤8∧∀j,0≤ka14.getD j 0∧ka14.getD j 0≤12:=fun h0=>hg14.2.2.elim (fun hA=>⟨(isAlg_len hA).1,isDeg_bd (isAlg_dg hA)⟩) (fun e=>by rw [e] at h0;simp at h0);refine Jb (Jg (Jq u27 rfl sz24 rfl) rfl (Jg (Jv rfl (.s .z) rfl pl24) rfl (Jg (Jl rfl At.z (by simpa [*] using ag42)) rfl (Jz fn46 rfl rfl fun w hH=>hH.lend (.s (.s .z)) fun Hl1 hle1 hA1 hB1 hH=>hH.lend (.s (.s (.s .z))) fun Hl2 hle2 hA2 hB2 hH=>(l01DegreeX_c ((own_ints hA1).le hle2) (own_terms hg14.1 hA2) hDX (by have:=hg14.2.1;omega) hH).mono ?_))));rintro _ w ⟨rfl,hH⟩;replace hH:=hB2 _ _ hH;replace hH:=hB1 _ _ hH;refine ⟨_,rfl,fun a hF=>JL hF hH ?_⟩;refine Jg (Jc rfl) rfl (Jg (JA rfl rfl) rfl (Jg (JA rfl rfl) rfl (Jg (Je rfl) rfl (Jg (Je rfl) rfl (Jf (Ja (hK4 (Jd fun _ hK5 _=>(Jd fun _ hK6 _=>(Jb (Jg (Jc rfl) rfl (Jg (Er rfl) rfl (Jg (Jc rfl) rfl (JW (jd:=26) rfl (fun hg26=>?_) (fun hg26=>?_)))))))))))))))
 ·
  try have hg26p:=of_decide_eq_true hg26
  refine JE rfl rfl rfl hg26 (JE rfl rfl rfl hg26 (Jg (JN rfl hg26 rfl) rfl (Jg (Jc rfl) rfl (JE rfl rfl rfl rfl (JE rfl rfl rfl rfl (JE rfl rfl rfl rfl (Jg (JN rfl rfl rfl) rfl (Jf (Ja (hK6 (Ep rfl (Jb (Jg (Jc rfl) rfl (Jz fn30 rfl rfl fun w hH=>(l01Next_c hbt hbk hcl (hH.front (.s (.s (.s (.s (.s .z))))))).mono ?_))))))))))))));rintro _ w ⟨rfl,hH⟩;refine ⟨_,rfl,fun a hF=>JL hF hH ?_⟩;refine Jg (Je rfl) rfl (Jf (Ja (hK5 (Jd fun _ hK7 _=>(CJ.mask 3 3 (Ed (Rs:=[_,_,_,_,_,_,_,_]) 7 [[], [], [1], [], [0], [0,1,2,4], [0,1,2,3,4,5]] [[11], [], [], [10], [], [], []] [[], [], [], [], [14], [], [13]] rfl rfl (by kernel_rfl) ?_))))));apply Jm 1 rfl
  iterate 3 focus (intros;(conv=>lhs;simp only [Jh,Js,JO,Ju,JI,eq_self,reduceEqDiff,reduceIte,reduceSub,reduceAdd,JxA,JxB]);all_goals rfl)
  ·
   intro gh X K zq zc zq2 zc2 zb zv hK;refine Jg (Jl rfl At.z (by simpa [*] using ag27)) rfl (Jj ?_);exact hK zq zc zq2 zc2 zb zv
  ·
   intro gh gh' h
   rfl
  apply Jm 2 rfl
  iterate 3 focus (intros;(conv=>lhs;simp only [Jh,Js,JO,Ju,JI,eq_self,reduceEqDiff,reduceIte,reduceSub,reduceAdd,JxA,JxB]);all_goals rfl)
  ·
   intro gh X K zq zc zq2 zc2 zb zv hK;refine Jg (Jc rfl) rfl (Jj ?_);exact hK zq zc zq2 zc2 zb zv
  ·
   intro gh gh' h
   rfl
  apply Jm 3 rfl
  iterate 3 focus (intros;(conv=>lhs;simp only [Jh,Js,JO,Ju,JI,eq_self,reduceEqDiff,reduceIte,reduceSub,reduceAdd,JxA,JxB]);all_goals rfl)
  ·
   intro gh X K zq zc zq2 zc2 zb zv hK;refine Jg (ET rfl rfl (by first | exact nw _ (by omega) | rfl)) rfl (Jj ?_);exact hK zq zc zq2 zc2 zb zv
  ·
   intro gh gh' h
   rfl
  apply Jm 4 rfl
  iterate 3 focus (intros;(conv=>lhs;simp only [Jh,Js,JO,Ju,JI,eq_self,reduceEqDiff,reduceIte,reduceSub,reduceAdd,JxA,JxB]);all_goals rfl)
  ·
   intro gh X K zq zc zq2 zc2 zb zv hK;refine Jg (Jl rfl At.z (by simpa [*] using ag42)) rfl (Jj ?_);exact hK zq zc zq2 zc2 zb zv
  ·
   intro gh gh' h
   rfl
  apply Es 5 rfl
  iterate 3 focus (intros;(conv=>lhs;simp only [Jh,Js,JO,Ju,JI,eq_self,reduceEqDiff,reduceIte,reduceSub,reduceAdd,JxA,JxB]);all_goals rfl)
  ·
   intro gh X K hK;refine Jk rfl rfl (by first | exact bytesC_one _ | exact intsC_one _ | exact Term.c_one _ | simp [Value.oneCell']) (by simpa [*] using sz27) (by simp [*]) At.z (Jj ?_);exact hK
  ·
   intro gh gh' h
   rfl
  apply Jm 6 rfl
  iterate 3 focus (intros;(conv=>lhs;simp only [Jh,Js,JO,Ju,JI,eq_self,reduceEqDiff,reduceIte,reduceSub,reduceAdd,JxA,JxB]);all_goals rfl)
  ·
   intro gh X K zq zc zq2 zc2 zb zv hK;refine Jg (Je rfl) rfl (Jj ?_);exact hK zq zc zq2 zc2 zb zv
  ·
   intro gh gh' h
   rfl
  apply Es 7 rfl
  iterate 3 focus (intros;(conv=>lhs;simp only [Jh,Js,JO,Ju,JI,eq_self,reduceEqDiff,reduceIte,reduceSub,reduceAdd,JxA,JxB]);all_goals rfl)
  ·
   intro gh X K hK;refine Jk rfl rfl (by first | exact bytesC_one _ | exact intsC_one _ | exact Term.c_one _ | simp [Value.oneCell']) (by simpa [*] using sz42) (by simp [*]) At.z (Jj ?_);exact hK
  ·
   intro gh gh' h
   rfl
  apply Ec [0,1,2,3,4,5,6] [0,1,2,3,4,5,6,7,8,9,10,11,12] foll0 rfl rfl rfl (by rfl)
  iterate 2 focus (intros;(conv=>lhs;simp only [Jh,Js,JO,Ju,JI,eq_self,reduceEqDiff,reduceIte,reduceSub,reduceAdd,JxA,JxB]);all_goals rfl)
  intro gh;clear gh;refine Ja (hK7 (Jt (EJ.ret3 rfl (Res.agg rfl At.z (by simpa [*] using ag27)) (Res.tmp rfl) (Res.agg rfl (.s .z) (by simpa [*] using ag42)) fun w hH=>?_)));replace hH:=hH.sublist (.cons _ (.cons _ (.cons _ (.cons_cons _ (.cons_cons _ (.cons _ (.cons _ (.cons_cons _ (List.Sublist.refl _)))))))));exact ⟨_,_,_,_,_,_,_,_,_,_,_,hk14,⟨hg14.1,hg14.2.1⟩,rfl,(hH.front (.s (.s .z))).front (.s .z)⟩
 ·
  try have hg26p:=of_decide_eq_false hg26
  refine JK (Jc rfl) rfl rfl rfl hg26 (JK (JZ rfl rfl) rfl rfl rfl hg26 (Jg (JM rfl hg26 rfl) rfl (Jg (Jc rfl) rfl (JW (jd:=30) rfl (fun hg30=>?_) (fun hg30=>?_)))))
  ·
   try have hg30p:=of_decide_eq_true hg30
   refine JE rfl rfl rfl hg30 (JE rfl rfl rfl hg30 (JE rfl rfl rfl hg30 (Jg (JN rfl hg30 rfl) rfl (Jf (Ja (hK6 (Ep rfl (Jb (Jg (Jc rfl) rfl (Jz fn30 rfl rfl fun w hH=>(l01Next_c hbt hbk hcl (hH.front (.s (.s (.s (.s (.s .z))))))).mono ?_))))))))));rintro _ w ⟨rfl,hH⟩;refine ⟨_,rfl,fun a hF=>JL hF hH ?_⟩;refine Jg (Je rfl) rfl (Jf (Ja (hK5 (Jd fun _ hK8 _=>(CJ.mask 3 3 (Ed (Rs:=[_,_,_,_,_,_,_,_]) 7 [[], [], [1], [], [0], [0,1,2,4], [0,1,2,3,4,5]] [[11], [], [], [10], [], [], []] [[], [], [], [], [14], [], [13]] rfl rfl (by kernel_rfl) ?_))))));apply Jm 1 rfl
   iterate 3 focus (intros;(conv=>lhs;simp only [Jh,Js,JO,Ju,JI,eq_self,reduceEqDiff,reduceIte,reduceSub,reduceAdd,JxA,JxB]);all_goals rfl)
   ·
    intro gh X K zq zc zq2 zc2 zb zv hK;refine Jg (Jl rfl At.z (by simpa [*] using ag27)) rfl (Jj ?_);exact hK zq zc zq2 zc2 zb zv
   ·
    intro gh gh' h
    rfl
   apply Jm 2 rfl
   iterate 3 focus (intros;(conv=>lhs;simp only [Jh,Js,JO,Ju,JI,eq_self,reduceEqDiff,reduceIte,reduceSub,reduceAdd,JxA,JxB]);all_goals rfl)
   ·
    intro gh X K zq zc zq2 zc2 zb zv hK;refine Jg (Jc rfl) rfl (Jj ?_);exact hK zq zc zq2 zc2 zb zv
   ·
    intro gh gh' h
    rfl
   apply Jm 3 rfl
   iterate 3 focus (intros;(conv=>lhs;simp only [Jh,Js,JO,Ju,JI,eq_self,reduceEqDiff,reduceIte,reduceSub,reduceAdd,JxA,JxB]);all_goals rfl)
   ·
    intro gh X K zq zc zq2 zc2 zb zv hK;refine Jg (ET rfl rfl (by first | exact nw _ (by omega) | rfl)) rfl (Jj ?_);exact hK zq zc zq2 zc2 zb zv
   ·
    intro gh gh' h
    rfl
   apply Jm 4 rfl
   iterate 3 focus (intros;(conv=>lhs;simp only [Jh,Js,JO,Ju,JI,eq_self,reduceEqDiff,reduceIte,reduceSub,reduceAdd,JxA,JxB]);all_goals rfl)
   ·
    intro gh X K zq zc zq2 zc2 zb zv hK;refine Jg (Jl rfl At.z (by simpa [*] using ag42)) rfl (Jj ?_);exact hK zq zc zq2 zc2 zb zv
   ·
    intro gh gh' h
    rfl
   apply Es 5 rfl
   iterate 3 focus (intros;(conv=>lhs;simp only [Jh,Js,JO,Ju,JI,eq_self,reduceEqDiff,reduceIte,reduceSub,reduceAdd,JxA,JxB]);all_goals rfl)
   ·
    intro gh X K hK;refine Jk rfl rfl (by first | exact bytesC_one _ | exact intsC_one _ | exact Term.c_one _ | simp [Value.oneCell']) (by simpa [*] using sz27) (by simp [*]) At.z (Jj ?_);exact hK
   ·
    intro gh gh' h
    rfl
   apply Jm 6 rfl
   iterate 3 focus (intros;(conv=>lhs;simp only [Jh,Js,JO,Ju,JI,eq_self,reduceEqDiff,reduceIte,reduceSub,reduceAdd,JxA,JxB]);all_goals rfl)
   ·
    intro gh X K zq zc zq2 zc2 zb zv hK;refine Jg (Je rfl) rfl (Jj ?_);exact hK zq zc zq2 zc2 zb zv
   ·
    intro gh gh' h
    rfl
   apply Es 7 rfl
   iterate 3 focus (intros;(conv=>lhs;simp only [Jh,Js,JO,Ju,JI,eq_self,reduceEqDiff,reduceIte,reduceSub,reduceAdd,JxA,JxB]);all_goals rfl)
   ·
    intro gh X K hK;refine Jk rfl rfl (by first | exact bytesC_one _ | exact intsC_one _ | exact Term.c_one _ | simp [Value.oneCell']) (by simpa [*] using sz42) (by simp [*]) At.z (Jj ?_);exact hK
   ·
    intro gh gh' h
    rfl
   apply Ec [0,1,2,3,4,5,6] [0,1,2,3,4,5,6,7,8,9,10,11,12] foll0 rfl rfl rfl (by rfl)
   iterate 2 focus (intros;(conv=>lhs;simp only [Jh,Js,JO,Ju,JI,eq_self,reduceEqDiff,reduceIte,reduceSub,reduceAdd,JxA,JxB]);all_goals rfl)
   intro gh;clear gh;refine Ja (hK8 (Jt (EJ.ret3 rfl (Res.agg rfl At.z (by simpa [*] using ag27)) (Res.tmp rfl) (Res.agg rfl (.s .z) (by simpa [*] using ag42)) fun w hH=>?_)));replace hH:=hH.sublist (.cons _ (.cons _ (.cons _ (.cons_cons _ (.cons_cons _ (.cons _ (.cons _ (.cons_cons _ (List.Sublist.refl _)))))))));exact ⟨_,_,_,_,_,_,_,_,_,_,_,hk14,⟨hg14.1,hg14.2.1⟩,rfl,(hH.front (.s (.s .z))).front (.s .z)⟩
  ·
   try have hg30p:=of_decide_eq_false hg30
   refine JK (Jc rfl) rfl rfl rfl hg30 (Et fn30 rfl rfl hg30 rfl rfl fun w hH=>(l01Next_c hbt hbk hcl (hH.front (.s (.s (.s (.s (.s .z))))))).mono ?_);rintro _ w ⟨rfl,hH⟩;refine ⟨_,rfl,fun a hF=>JL hF hH ?_⟩;refine JK (En rfl rfl) rfl rfl rfl hg30 (Jg (JM rfl hg30 rfl) rfl (Jf (Ja (hK6 (Jp rfl (fun hc34=>?_) (fun hc34=>?_))))))
   ·
    refine Jb (Jg (Jc rfl) rfl (Jz fn30 rfl rfl fun w hH=>(l01Next_c hbt hbk hcl (hH.front .z)).mono ?_));rintro _ w ⟨rfl,hH⟩;refine ⟨_,rfl,fun a hF=>JL hF hH ?_⟩;refine Jg (Je rfl) rfl (Jf (Ja (hK5 (Jd fun _ hK9 _=>(CJ.mask 3 3 (Ed (Rs:=[_,_,_,_,_,_,_,_]) 7 [[], [], [1], [], [0], [0,1,2,4], [0,1,2,3,4,5]] [[11], [], [], [10], [], [], []] [[], [], [], [], [14], [], [13]] rfl rfl (by kernel_rfl) ?_))))));apply Jm 1 rfl
    iterate 3 focus (intros;(conv=>lhs;simp only [Jh,Js,JO,Ju,JI,eq_self,reduceEqDiff,reduceIte,reduceSub,reduceAdd,JxA,JxB]);all_goals rfl)
    ·
     intro gh X K zq zc zq2 zc2 zb zv hK;refine Jg (Jl rfl At.z (by simpa [*] using ag27)) rfl (Jj ?_);exact hK zq zc zq2 zc2 zb zv
    ·
     intro gh gh' h
     rfl
    apply Jm 2 rfl
    iterate 3 focus (intros;(conv=>lhs;simp only [Jh,Js,JO,Ju,JI,eq_self,reduceEqDiff,reduceIte,reduceSub,reduceAdd,JxA,JxB]);all_goals rfl)
    ·
     intro gh X K zq zc zq2 zc2 zb zv hK;refine Jg (Jc rfl) rfl (Jj ?_);exact hK zq zc zq2 zc2 zb zv
    ·
     intro gh gh' h
     rfl
    apply Jm 3 rfl
    iterate 3 focus (intros;(conv=>lhs;simp only [Jh,Js,JO,Ju,JI,eq_self,reduceEqDiff,reduceIte,reduceSub,reduceAdd,JxA,JxB]);all_goals rfl)
    ·
     intro gh X K zq zc zq2 zc2 zb zv hK;refine Jg (ET rfl rfl (by first | exact nw _ (by omega) | rfl)) rfl (Jj ?_);exact hK zq zc zq2 zc2 zb zv
    ·
     intro gh gh' h
     rfl
    apply Jm 4 rfl
    iterate 3 focus (intros;(conv=>lhs;simp only [Jh,Js,JO,Ju,JI,eq_self,reduceEqDiff,reduceIte,reduceSub,reduceAdd,JxA,JxB]);all_goals rfl)
    ·
     intro gh X K zq zc zq2 zc2 zb zv hK;refine Jg (Jl rfl At.z (by simpa [*] using ag42)) rfl (Jj ?_);exact hK zq zc zq2 zc2 zb zv
    ·
     intro gh gh' h
     rfl
    apply Es 5 rfl
    iterate 3 focus (intros;(conv=>lhs;simp only [Jh,Js,JO,Ju,JI,eq_self,reduceEqDiff,reduceIte,reduceSub,reduceAdd,JxA,JxB]);all_goals rfl)
    ·
     intro gh X K hK;refine Jk rfl rfl (by first | exact bytesC_one _ | exact intsC_one _ | exact Term.c_one _ | simp [Value.oneCell']) (by simpa [*] using sz27) (by simp [*]) At.z (Jj ?_);exact hK
    ·
     intro gh gh' h
     rfl
    apply Jm 6 rfl
    iterate 3 focus (intros;(conv=>lhs;simp only [Jh,Js,JO,Ju,JI,eq_self,reduceEqDiff,reduceIte,reduceSub,reduceAdd,JxA,JxB]);all_goals rfl)
    ·
     intro gh X K zq zc zq2 zc2 zb zv hK;refine Jg (Je rfl) rfl (Jj ?_);exact hK zq zc zq2 zc2 zb zv
    ·
     intro gh gh' h
     rfl
    apply Es 7 rfl
    iterate 3 focus (intros;(conv=>lhs;simp only [Jh,Js,JO,Ju,JI,eq_self,reduceEqDiff,reduceIte,reduceSub,reduceAdd,JxA,JxB]);all_goals rfl)
    ·
     intro gh X K hK;refine Jk rfl rfl (by first | exact bytesC_one _ | exact intsC_one _ | exact Term.c_one _ | simp [Value.oneCell']) (by simpa [*] using sz42) (by simp [*]) At.z (Jj ?_);exact hK
    ·
     intro gh gh' h
     rfl
    apply Ec [0,1,2,3,4,5,6] [0,1,2,3,4,5,6,7,8,9,10,11,12] foll0 rfl rfl rfl (by rfl)
    iterate 2 focus (intros;(conv=>lhs;simp only [Jh,Js,JO,Ju,JI,eq_self,reduceEqDiff,reduceIte,reduceSub,reduceAdd,JxA,JxB]);all_goals rfl)
    intro gh;clear gh;refine Ja (hK9 (Jt (EJ.ret3 rfl (Res.agg rfl At.z (by simpa [*] using ag27)) (Res.tmp rfl) (Res.agg rfl (.s .z) (by simpa [*] using ag42)) fun w hH=>?_)));replace hH:=hH.sublist (.cons _ (.cons _ (.cons _ (.cons_cons _ (.cons_cons _ (.cons _ (.cons _ (.cons_cons _ (List.Sublist.refl _)))))))));exact ⟨_,_,_,_,_,_,_,_,_,_,_,hk14,⟨hg14.1,hg14.2.1⟩,rfl,(hH.front (.s (.s .z))).front (.s .z)⟩
   ·
    refine Jo (Ja (hK5 (Jd fun _ hK10 _=>(CJ.mask 3 3 (Ed (Rs:=[_,_,_,_,_,_,_,_]) 7 [[], [], [1], [], [0], [0,1,2,4], [0,1,2,3,4,5]] [[11], [], [], [10], [], [], []] [[], [], [], [], [14], [], [13]] rfl rfl (by kernel_rfl) ?_)))));apply Jm 1 rfl
    iterate 3 focus (intros;(conv=>lhs;simp only [Jh,Js,JO,Ju,JI,eq_self,reduceEqDiff,reduceIte,reduceSub,reduceAdd,JxA,JxB]);all_goals rfl)
    ·
     intro gh X K zq zc zq2 zc2 zb zv hK;refine Jg (Jl rfl At.z (by simpa [*] using ag27)) rfl (Jj ?_);exact hK zq zc zq2 zc2 zb zv
    ·
     intro gh gh' h
     rfl
    apply Jm 2 rfl
    iterate 3 focus (intros;(conv=>lhs;simp only [Jh,Js,JO,Ju,JI,eq_self,reduceEqDiff,reduceIte,reduceSub,reduceAdd,JxA,JxB]);all_goals rfl)
    ·
     intro gh X K zq zc zq2 zc2 zb zv hK;refine Jg (Jc rfl) rfl (Jj ?_);exact hK zq zc zq2 zc2 zb zv
    ·
     intro gh gh' h
     rfl
    apply Jm 3 rfl
    iterate 3 focus (intros;(conv=>lhs;simp only [Jh,Js,JO,Ju,JI,eq_self,reduceEqDiff,reduceIte,reduceSub,reduceAdd,JxA,JxB]);all_goals rfl)
    ·
     intro gh X K zq zc zq2 zc2 zb zv hK;refine Jg (ET rfl rfl (by first | exact nw _ (by omega) | rfl)) rfl (Jj ?_);exact hK zq zc zq2 zc2 zb zv
    ·
     intro gh gh' h
     rfl
    apply Jm 4 rfl
    iterate 3 focus (intros;(conv=>lhs;simp only [Jh,Js,JO,Ju,JI,eq_self,reduceEqDiff,reduceIte,reduceSub,reduceAdd,JxA,JxB]);all_goals rfl)
    ·
     intro gh X K zq zc zq2 zc2 zb zv hK;refine Jg (Jl rfl At.z (by simpa [*] using ag42)) rfl (Jj ?_);exact hK zq zc zq2 zc2 zb zv
    ·
     intro gh gh' h
     rfl
    apply Es 5 rfl
    iterate 3 focus (intros;(conv=>lhs;simp only [Jh,Js,JO,Ju,JI,eq_self,reduceEqDiff,reduceIte,reduceSub,reduceAdd,JxA,JxB]);all_goals rfl)
    ·
     intro gh X K hK;refine Jk rfl rfl (by first | exact bytesC_one _ | exact intsC_one _ | exact Term.c_one _ | simp [Value.oneCell']) (by simpa [*] using sz27) (by simp [*]) At.z (Jj ?_);exact hK
    ·
     intro gh gh' h
     rfl
    apply Jm 6 rfl
    iterate 3 focus (intros;(conv=>lhs;simp only [Jh,Js,JO,Ju,JI,eq_self,reduceEqDiff,reduceIte,reduceSub,reduceAdd,JxA,JxB]);all_goals rfl)
    ·
     intro gh X K zq zc zq2 zc2 zb zv hK;refine Jg (Je rfl) rfl (Jj ?_);exact hK zq zc zq2 zc2 zb zv
    ·
     intro gh gh' h
     rfl
    apply Es 7 rfl
    iterate 3 focus (intros;(conv=>lhs;simp only [Jh,Js,JO,Ju,JI,eq_self,reduceEqDiff,reduceIte,reduceSub,reduceAdd,JxA,JxB]);all_goals rfl)
    ·
     intro gh X K hK;refine Jk rfl rfl (by first | exact bytesC_one _ | exact intsC_one _ | exact Term.c_one _ | simp [Value.oneCell']) (by simpa [*] using sz42) (by simp [*]) At.z (Jj ?_);exact hK
    ·
     intro gh gh' h
     rfl
    apply Ec [0,1,2,3,4,5,6] [0,1,2,3,4,5,6,7,8,9,10,11,12] foll0 rfl rfl rfl (by rfl)
    iterate 2 focus (intros;(conv=>lhs;simp only [Jh,Js,JO,Ju,JI,eq_self,reduceEqDiff,reduceIte,reduceSub,reduceAdd,JxA,JxB]);all_goals rfl)
    intro gh;clear gh;refine Ja (hK10 (Jt (EJ.ret3 rfl (Res.agg rfl At.z (by simpa [*] using ag27)) (Res.tmp rfl) (Res.agg rfl (.s .z) (by simpa [*] using ag42)) fun w hH=>?_)));replace hH:=hH.sublist (.cons _ (.cons _ (.cons _ (.cons_cons _ (.cons_cons _ (.cons _ (.cons _ (.cons_cons _ (List.Sublist.refl _)))))))));exact ⟨_,_,_,_,_,_,_,_,_,_,_,hk14,⟨hg14.1,hg14.2.1⟩,rfl,(hH.front (.s (.s .z))).front (.s .z)⟩
theorem fn34:Fn Tryz.prog 34:=⟨_,Tryz.func34,by kernel_rfl,rfl⟩
theorem fn35:Fn Tryz.prog 35:=⟨_,Tryz.func35,by kernel_rfl,rfl⟩
theorem algebra9_c {B:World} {H0 H:HP} {L:List SA} {w:World} {qad qaf:Option Addr} {cad caf:Nat} {ad:List Int} {af:List (List Term)} {qbd qbf:Option Addr} {cbd cbf:Nat} {bd:List Int} {bf:List (List Term)} (had:Ints H qad ad) (haf:Forms H qaf af) (hbd:Ints H qbd bd) (hbf:Forms H qbf bf) (hn:ad.length≤1048576) (hm:af.length≤1048576) (hf : ∀i,i<af.length→(fm af i).length≤9223372036854775807) (hH:Hp B H0 H L w):Calls Tryz.prog 11 [.agg [.slice qad ad.length cad,.slice qaf af.length caf].toArray,.agg [.slice qbd bd.length cbd,.slice qbf bf.length cbf].toArray].toArray w fun e w'=>e = .returned (.bool (decide (ad=bd) && decide (af=bf)))∧Hp B H0 H L w':=by
 refine JD Tryz.func11 rfl 17 rfl rfl [(0,.agg [.slice qad ad.length cad,.slice qaf af.length caf].toArray),(1,.agg [.slice qbd bd.length cbd,.slice qbf bf.length cbf].toArray)] rfl hH ?_;clear hH;refine Jd fun _ hK1 _=>(Jb (Eo rfl rfl rfl fun g2=>(Eo rfl rfl rfl fun g3=>(Jg (Je rfl) rfl (Jf (Ja (hK1 (Jd fun _ hK2 _=>(Jb (Jg (Jq u27 rfl sz24 rfl) rfl (Jg (Jv rfl (.s .z) rfl pl24) rfl (Jg (Jq u27 rfl sz24 rfl) rfl (Jg (Jv rfl At.z rfl pl24) rfl (Jz fn34 rfl rfl fun w hH=>(likeInts_c had hbd (by omega) hH).mono ?_))))))))))))));rintro _ w ⟨rfl,hH⟩;refine ⟨_,rfl,fun a hF=>JL hF hH ?_⟩;refine Jg (Jc rfl) rfl (JW (jd:=10) rfl (fun hg10=>?_) (fun hg10=>?_))
 ·
  try have hg10p:=of_decide_eq_true hg10
  refine JK (Jq u27 rfl sz25 rfl) rfl rfl rfl hg10 (JK (Jv rfl (.s .z) rfl pl25) rfl rfl rfl hg10 (JK (Jq u27 rfl sz25 rfl) rfl rfl rfl hg10 (JK (Jv rfl At.z rfl pl25) rfl rfl rfl hg10 (Et fn35 rfl rfl hg10 rfl rfl fun w hH=>(forms9_c haf hbf (by omega) hf hH).mono ?_))));rintro _ w ⟨rfl,hH⟩;refine ⟨_,rfl,fun a hF=>JL hF hH ?_⟩;refine Jg (JN rfl hg10 rfl) rfl (Jg (Je rfl) rfl (Jf (Ja (hK2 (Jt (Jy rfl (Res.tmp rfl) fun w hH=>?_))))));replace hH:=hH.tail;replace hH:=hH.tail;exact ⟨rb (by rw [hg10];rfl),hH⟩
 ·
  try have hg10p:=of_decide_eq_false hg10
  refine JE rfl rfl rfl hg10 (JE rfl rfl rfl hg10 (JE rfl rfl rfl hg10 (JE rfl rfl rfl hg10 (JE rfl rfl rfl hg10 (Jg (JM rfl hg10 rfl) rfl (Jg (Je rfl) rfl (Jf (Ja (hK2 (Jt (Jy rfl (Res.tmp rfl) fun w hH=>?_)))))))))));replace hH:=hH.tail;replace hH:=hH.tail;exact ⟨rb (by rw [hg10];rfl),hH⟩
end Go.Proofs.YtffgojlocbafhaaGreatDoor.G
