/- A part of the walk of one law: what the functions compute. No condition. -/
import Derived.Test.YtefpohpaliocaaaGreatDoorRows
import Derived.Test.YtefpohpaliocaaaGreatDoorProg
import Derived.WalkKit
import Derived.KernelRfl
import Derived.JoinedOf
import Derived.Maps.AppendAt
import Derived.Still
import Derived.ProofKit
import Derived.OpenShut
import Derived.StillTail
import Derived.Deep.Upon
import Derived.WalkSpells
import Derived.Maps.Range
import Derived.Laws.Concat
import Derived.Laws.IdiomStrings
import Derived.Laws.Strings
import Derived.Lib.ItoaNum
import Derived.Lib.Join
import Derived.Lib.LaidTab
import Derived.Laws.Strings2
import Derived.Laws.Strings3
import Derived.Laws.Slices
import Derived.DeepKeys4
import Derived.Lib.SplitLaws
import Derived.Lib.AtoiTie
import Derived.Lib.ParseIntBTie
import Derived.Shelf.Strings.Builder1
import Derived.Shelf.Strings.Builder2
import Derived.Shelf.Strings.OnBuilder
import Derived.Shelf.Strings.BuilderF
import Derived.Shelf.Strings.BuilderK
import Derived.Shelf.Utf8.RuneCount
import Derived.Shelf.Strconv.Atoi
import Derived.Shelf.Strconv.Itoa0
import Derived.Shelf.Strconv.Itoa1
import Derived.Shelf.LaysM
import Derived.Shelf.Strconv.Itoa2
import Derived.Shelf.Strconv.Itoa3
import Derived.Shelf.Strconv.Itoa4
import Derived.Shelf.Strconv.AtoiErrFast
import Derived.Shelf.Strconv.ParseIntEmpty
import Derived.Shelf.Strconv.AtoiFail
import Derived.Shelf.Strconv.Clone
import Derived.Shelf.Strconv.SyntaxError
import Derived.Shelf.LaysC
import Derived.Shelf.Strconv.ToError
import Derived.Shelf.Strconv.Lower
import Derived.Shelf.Strconv.ParseUint10
import Derived.Shelf.Strconv.ParseUint10Empty
import Derived.Shelf.Strconv.ParseUint10Any
import Derived.Shelf.Strconv.ParseInt10
import Derived.Shelf.Strconv.AtoiLong
import Derived.Shelf.Strconv.AtoiInnerAll
import Derived.Shelf.Strconv.RangeError
import Derived.Shelf.Strconv.ToErrorRange
import Derived.Shelf.Strconv.AtoiAll
import Derived.Shelf.Strconv.ErrVarAll
import Derived.Shelf.Strconv.ParseUintEmpty
import Derived.Shelf.Strconv.ParseUint10b64
import Derived.Shelf.Strconv.ParseUint10b32
import Derived.Shelf.Strconv.ParseUint10b16
import Derived.Shelf.Strconv.ParseUint10b8
import Derived.Shelf.Strconv.ParseUint10At
import Derived.Shelf.Strconv.ParseInt10At64
import Derived.Shelf.Strconv.ParseInt10At32
import Derived.Shelf.Strconv.ParseInt10At16
import Derived.Shelf.Strconv.ParseInt10At8
import Derived.Shelf.Strconv.ParseInt10All
import Derived.Shelf.Strconv.ParseIntPublic10
import Derived.Shelf.Strconv.ErrVarParseInt
import Derived.Shelf.Strings.Search1
import Derived.Shelf.Strings.Search2
import Derived.Shelf.Strings.Search3
import Derived.Shelf.Strings.Cut
import Derived.Shelf.Strings.Count
import Derived.Shelf.Strings.Shaped
import Derived.Shelf.Strings.Split
import Derived.Shelf.Strings.SplitShaped
import Derived.Shelf.Unicode.Decode
import Derived.Shelf.Strings.RuneCount
import Derived.Shelf.Strings.Explode
import Derived.Shelf.Unicode.DecodeSlow
import Derived.Shelf.Unicode.DecodeAny
import Derived.Lib.AtoiErrMem
import Derived.Lib.SmallJoins
import Derived.WalkSmall
import Derived.WideLaws
import Derived.Lib.AppendIntMem
import Derived.Test.YtefpohpaliocaaaGreatDoorCards
import Derived.Test.YtefpohpaliocaaaGreatDoorTie
import Derived.LaidMore
import Derived.Stop.Joined
import Derived.Stop.LaidErr
import Derived.SevenTiedAt
import Derived.MakeChecks
import Derived.Shelf.Vars
import Derived.Lay
import Derived.ChangeOld
import Derived.Below
import Derived.SizedLaws
import Derived.Test.YtefpohpaliocaaaGreatDoorPPala
set_option linter.unusedVariables false
set_option linter.unusedSimpArgs false
set_option maxRecDepth 10000
set_option maxHeartbeats 8000000
open Nat (reduceEqDiff reduceSub reduceAdd)
namespace Go.Proofs.YtefpohpaliocaaaGreatDoor.G
open Go Go.RowKit
structure KeyT (P:Program) (K:TypeId) {α:Type} (ek:α→Value) (ok:α→Prop):Prop where
 inj : ∀x y,ek x=ek y→x=y
 check : ∀(w:World) (em:Bool) x,ok x→(Instr.checkKey em 10000 K (ek x)).run P w = .ok () w
 find : ∀(w:World) x,ok x→∀es:List MapEntry,(∀e∈es,∃y,ok y∧e.key=ek y)→
  ((Instr.findKey K (ek x) es).run P w = .ok none w∧∀e∈es,e.key≠ek x)∨∃j e,(Instr.findKey K (ek x) es).run P w = .ok (some (j,e.val)) w∧es[j]? = some e∧e.key=ek x
 stays : ∀(w:World) x,ok x→(Instr.keyThatStays (ek x) (ek x)).run P w = .ok (ek x) w
theorem KeyT.of {P:Program} {K:TypeId} {α:Type} {ek:α→Value} {ok:α→Prop} (Kd:Go.Maps.Keyed P K) (inj : ∀x y,ek x=ek y→x=y) (h : ∀x,ok x→∃l,keyOf P K (ek x)=some l):KeyT P K ek ok where
 inj:=inj
 check w em x hx:=by obtain ⟨l,hl⟩:=h x hx;exact Kd.check w em hl
 find w x hx es he:=by
  obtain ⟨l,hl⟩:=h x hx
  exact Kd.find w hl es fun e hm=>by
   obtain ⟨y,hy,e1⟩:=he e hm
   obtain ⟨l',hl'⟩:=h y hy
   exact ⟨l',by rw [e1];exact hl'⟩
 stays w x hx:=by obtain ⟨l,hl⟩:=h x hx;exact Kd.stays w hl
def kv (e:MapEntry):Value × Value:=(e.key,e.val)
section
variable {α β : Type} {ek : α → Value} {ev : β → Value} {ok : α → Prop}
def enc2 (ek:α→Value) (ev:β→Value) (x:α × β):Value × Value:=(ek x.1,ev x.2)
structure EntOk (ek:α→Value) (ev:β→Value) (ok:α→Prop) (es:Array MapEntry) (clock:Nat) (xs:List (α × β)):Prop where
 st:MapKept.Stamped es clock
 pm:(es.toList.map kv).Perm (xs.map (enc2 ek ev))
 ok : ∀x∈xs,ok x.1
theorem EntOk.perm {es:Array MapEntry} {clock:Nat} {xs ys:List (α × β)} (h:EntOk ek ev ok es clock xs) (hp:xs.Perm ys):EntOk ek ev ok es clock ys:=
 ⟨h.st,h.pm.trans (hp.map _),fun x hx=>h.ok x (hp.mem_iff.2 hx)⟩
theorem EntOk.mem {es:Array MapEntry} {clock:Nat} {xs:List (α × β)} (h:EntOk ek ev ok es clock xs) {e:MapEntry} (he:e∈es.toList) : ∃x∈xs,e.key=ek x.1∧e.val=ev x.2:=by
 have h1:kv e∈xs.map (enc2 ek ev):=h.pm.mem_iff.1 (List.mem_map.2 ⟨e,he,rfl⟩);obtain ⟨x,hx,e1⟩:=List.mem_map.1 h1;simp only [enc2,kv,Prod.mk.injEq] at e1;exact ⟨x,hx,e1.1.symm,e1.2.symm⟩
theorem EntOk.mem' {es:Array MapEntry} {clock:Nat} {xs:List (α × β)} (h:EntOk ek ev ok es clock xs) {x:α × β} (hx:x∈xs) : ∃e∈es.toList,e.key=ek x.1∧e.val=ev x.2:=by
 have h1:enc2 ek ev x∈es.toList.map kv:=h.pm.mem_iff.2 (List.mem_map.2 ⟨x,hx,rfl⟩);obtain ⟨e,he,e1⟩:=List.mem_map.1 h1;simp only [enc2,kv,Prod.mk.injEq] at e1;exact ⟨e,he,e1.1,e1.2⟩
theorem EntOk.keys {es:Array MapEntry} {clock:Nat} {xs:List (α × β)} (h:EntOk ek ev ok es clock xs) : ∀e∈es.toList,∃y,ok y∧e.key=ek y:=fun e he=>by
 obtain ⟨x,hx,e1,_⟩:=h.mem he
 exact ⟨x.1,h.ok x hx,e1⟩
theorem EntOk.size {es:Array MapEntry} {clock:Nat} {xs:List (α × β)} (h:EntOk ek ev ok es clock xs):es.size=xs.length:=by
 have:=h.pm.length_eq
 simpa using this
theorem EntOk.nodup {es:Array MapEntry} {clock:Nat} {xs:List (α × β)} (h:EntOk ek ev ok es clock xs):(xs.map (·.1)).Nodup:=by
 have h1:=((MapKept.stamped_iff es clock).1 h.st).2.2;have h2:(es.toList.map kv).Pairwise (fun x y=>x.1≠y.1):=List.pairwise_map.2 h1;have h3:=(h.pm.pairwise_iff (fun {x y} (hxy:x.1≠y.1)=>hxy.symm)).1 h2;rw [List.pairwise_map] at h3;rw [List.Nodup,List.pairwise_map];exact h3.imp fun h e=>h (congrArg ek e)
theorem EntOk.empty {clock:Nat}:EntOk ek ev ok #[] clock []:=⟨MapKept.stamped_empty clock,by simp,fun x hx=>by simp at hx⟩
theorem MapH.key_mem {P:Program} {K:TypeId} (hK:KeyT P K ek ok) {es:Array MapEntry} {clock:Nat} {xs:List (α × β)} (h:EntOk ek ev ok es clock xs) (w:World) {k:α} (hk:ok k):((Instr.findKey K (ek k) es.toList).run P w = .ok none w∧(∀e∈es.toList,e.key≠ek k)∧∀x∈xs,x.1≠k)∨∃j e b,(Instr.findKey K (ek k) es.toList).run P w = .ok (some (j,e.val)) w∧es.toList[j]? = some e∧e.key=ek k∧e.val=ev b∧(k,b)∈xs:=by
 rcases hK.find w k hk es.toList h.keys with ⟨h1,h2⟩ | ⟨j,e,h1,h2,h3⟩
 ·refine .inl ⟨h1,h2,fun x hx e1=>?_⟩;obtain ⟨e,he,e2,_⟩:=h.mem' hx;exact h2 e he (by rw [e2,e1])
 ·obtain ⟨x,hx,e1,e2⟩:=h.mem (List.mem_of_getElem? h2);have:x.1=k:=hK.inj _ _ (by rw [← e1,h3]);refine .inr ⟨j,e,x.2,h1,h2,h3,e2,?_⟩;rw [← this];exact hx
def look [DecidableEq α] (xs:List (α × β)) (k:α):Option β:=(xs.find? fun x=>decide (x.1=k)).map (·.2)
theorem look_none [DecidableEq α] {xs:List (α × β)} {k:α} (h : ∀x∈xs,x.1≠k):look xs k=none:=by
 unfold look;rw [List.find?_eq_none.2 fun x hx=>by simpa using h x hx]
 rfl
theorem look_some [DecidableEq α] : ∀{xs:List (α × β)} {k:α} {b:β},(xs.map (·.1)).Nodup→(k,b)∈xs→look xs k=some b
 | [],_,_,_,h=>by simp at h
 | x::xs,k,b,hn,h=>by
  simp only [List.map_cons,List.nodup_cons] at hn
  unfold look
  rw [List.find?_cons]
  by_cases e:x.1=k
  ·rw [decide_eq_true e]
   rcases List.mem_cons.1 h with h | h
   ·rw [← h];rfl
   ·exact absurd (List.mem_map.2 ⟨_,h,e.symm⟩) hn.1
  ·rw [decide_eq_false e]
   rcases List.mem_cons.1 h with h | h
   ·exact absurd (by rw [← h]) e
   ·exact look_some hn.2 h
def MapH (ek:α→Value) (ev:β→Value) (ok:α→Prop) (H:HP) (v:Value) (xs:List (α × β)):Prop:=∃b es clock,v = .map (some b)∧H b=some (.map es clock)∧EntOk ek ev ok es clock xs
theorem MapH.le {H H':HP} {v:Value} {xs:List (α × β)} (h:MapH ek ev ok H v xs) (hle:Le H H'):MapH ek ev ok H' v xs:=by
 obtain ⟨b,es,clock,h1,h2,h3⟩:=h;exact ⟨b,es,clock,h1,hle _ _ h2,h3⟩
def omap (ek:α→Value) (ev:β→Value) (ok:α→Prop) (b:Nat) (xs:List (α × β)):SA where
 fp:=fun x=>x=b
 holds:=fun h=>∃es clock,h b=some (.map es clock)∧EntOk ek ev ok es clock xs
 loc:=fun h h' hb ⟨es,clock,h1,h2⟩=>⟨es,clock,by rw [← hb b rfl];exact h1,h2⟩
theorem omap_H {h:HP} {b:Nat} {xs:List (α × β)} (hh:(omap ek ev ok b xs).holds h):MapH ek ev ok h (.map (some b)) xs:=by
 obtain ⟨es,clock,h1,h2⟩:=hh;exact ⟨b,es,clock,rfl,h1,h2⟩
def putM [DecidableEq α] (xs:List (α × β)) (k:α) (v:β):List (α × β):=(k,v)::xs.filter fun x=>decide (x.1≠k)
def delM [DecidableEq α] (xs:List (α × β)) (k:α):List (α × β):=xs.filter fun x=>decide (x.1≠k)
def itr (ek:α→Value) (ev:β→Value) (b:Nat) (es:Array MapEntry) (clock:Nat) (r:Nat) (last:Option (α × β)) (ls:List (α × β)):SA where
 fp:=fun x=>x=r
 holds:=fun h=>∃seen,h r=some (.mapIter (some b) clock seen clock)∧((leftOf es seen).toList.map kv).Perm (ls.map (enc2 ek ev))∧∀x,last=some x→∃e∈es.toList,kv e=enc2 ek ev x∧∃s0:Array Nat,seen=s0.push e.born
 loc:=fun h h' hb ⟨seen,h1,h2⟩=>⟨seen,by rw [← hb r rfl];exact h1,h2⟩
theorem self_erase {γ:Type} : ∀{l:List γ} {j:Nat} {x:γ},l[j]? = some x→l.Perm (x::l.eraseIdx j)
 | [],_,_,h=>by simp at h
 | a::l,0,x,h=>by simp at h;subst h;simp
 | a::l,j+1,x,h=>by
  simp only [List.eraseIdx_cons_succ]
  exact ((self_erase (by simpa using h)).cons a).trans (List.Perm.swap x a _)
theorem delM_perm [DecidableEq α] : ∀{xs:List (α × β)} {k:α} {b:β},(xs.map (·.1)).Nodup→(k,b)∈xs→xs.Perm ((k,b)::delM xs k)
 | [],_,_,_,h=>by simp at h
 | x::xs,k,b,hn,h=>by
  simp only [List.map_cons,List.nodup_cons] at hn
  unfold delM
  rw [List.filter_cons]
  by_cases e:x.1=k
  ·have hx:x=(k,b):=by
    rcases List.mem_cons.1 h with h | h
    ·exact h.symm
    ·exact absurd (List.mem_map.2 ⟨_,h,e.symm⟩) hn.1
   rw [if_neg (by simpa using e),hx]
   refine List.Perm.cons _ ?_
   rw [List.filter_eq_self.2]
   intro y hy
   have:y.1≠k:=fun e2=>hn.1 (by rw [e,← e2];exact List.mem_map.2 ⟨y,hy,rfl⟩)
   simpa using this
  ·rw [if_pos (by simpa using e)]
   rcases List.mem_cons.1 h with h | h
   ·exact absurd (by rw [← h]) e
   ·exact ((delM_perm hn.2 h).cons x).trans (List.Perm.swap _ _ _)
theorem delM_none [DecidableEq α] {xs:List (α × β)} {k:α} (h : ∀x∈xs,x.1≠k):delM xs k=xs:=by
 unfold delM;rw [List.filter_eq_self];intro x hx
 simpa using h x hx
theorem delM_mem [DecidableEq α] {xs:List (α × β)} {k:α} {x:α × β} (h:x∈delM xs k):x∈xs∧x.1≠k:=by
 unfold delM at h;obtain ⟨h1,h2⟩:=List.mem_filter.1 h;exact ⟨h1,by simpa using h2⟩
theorem EntOk.find_perm [DecidableEq α] {es:Array MapEntry} {clock:Nat} {xs:List (α × β)} (h:EntOk ek ev ok es clock xs) {j:Nat} {e:MapEntry} {k:α} {b:β} (h2:es.toList[j]? = some e) (h3:e.key=ek k) (h4:e.val=ev b) (h5:(k,b)∈xs):((es.toList.eraseIdx j).map kv).Perm ((delM xs k).map (enc2 ek ev)):=by
 have p1:(es.toList.map kv).Perm (kv e::(es.toList.eraseIdx j).map kv):=(self_erase h2).map kv;have p2:(xs.map (enc2 ek ev)).Perm (enc2 ek ev (k,b)::(delM xs k).map (enc2 ek ev)):=(delM_perm h.nodup h5).map (enc2 ek ev)
 have e1:kv e=enc2 ek ev (k,b):=by unfold kv enc2;rw [h3,h4]
 have p3:=(p1.symm.trans h.pm).trans p2;rw [e1] at p3;exact (List.perm_cons _).1 p3
end
section
variable {P : Program} {ops : Array Oper} {Q : Exit → Act → World → Prop} {n : Nat} {B : World} {H0 H : HP} {rest : List Oper} {us : List (Nat × Value)} {L L' : List SA} {t : TypeId} {p : String} {af : Array Edge} {d : Nat} {x y z : Operand}
variable {α β : Type} {ek : α → Value} {ev : β → Value} {ok : α → Prop}
def ZeroV (P:Program) (e:TypeId) (v:Value):Prop:=∀w,(zeroValue e).run P w = .ok v w
theorem look_run [DecidableEq α] {ty K e:TypeId} {w:World} {b:Nat} {es:Array MapEntry} {clock:Nat} {xs:List (α × β)} {k:α} {v0:Value} (hu:P.underlying ty=some (.map K e)) (hK:KeyT P K ek ok) (hz:ZeroV P e v0) (hb:w.heap[b]? = some (.map es clock)) (he:EntOk ek ev ok es clock xs) (hk:ok k) (c:Bool):(Instr.lookup ty (.map (some b)) (ek k) c).run P w = .ok (if c then .tuple #[(look xs k).elim v0 ev,.bool (look xs k).isSome] else (look xs k).elim v0 ev) w:=by
 rcases MapH.key_mem hK he w hk with ⟨h1,h2,h3⟩ | ⟨j,e0,v,h1,h2,h3,h4,h5⟩
 ·rw [look_none h3]
  simp [Instr.lookup,run_underlying hu,MapKept.run_getObj_map hb,hK.check w _ k hk,h1,hz w,Result.andThen]
 ·rw [look_some he.nodup h5]
  simp [Instr.lookup,run_underlying hu,MapKept.run_getObj_map hb,hK.check w _ k hk,h1,Result.andThen,h4]
theorem PR.lookH [DecidableEq α] {ty K e:TypeId} {xs:List (α × β)} {k:α} {v0 mv:Value} (hu:P.underlying ty=some (.map K e)) (hK:KeyT P K ek ok) (hz:ZeroV P e v0) (hx:opv us x=some mv) (hm:MapH ek ev ok H mv xs) (hy:opv us y=some (ek k)) (hk:ok k) :
 PR P n B H0 us H L (.lookup ty x y false) t ((look xs k).elim v0 ev):=
 fun _ _ _ _ a w hF hH=>by
  obtain ⟨b,es,clock,rfl,h2,h3⟩:=hm
  have:=look_run (w:=w) hu hK hz (hH.agree b _ h2) h3 hk false
  simp [execOp,hF.ev hx,hF.ev hy,this]
theorem PR.lookO [DecidableEq α] {ty K e:TypeId} {b:Nat} {xs:List (α × β)} {k:α} {v0:Value} (hu:P.underlying ty=some (.map K e)) (hK:KeyT P K ek ok) (hz:ZeroV P e v0) (hx:opv us x=some (.map (some b))) (hat:At L (omap ek ev ok b xs) (omap ek ev ok b xs) L) (hy:opv us y=some (ek k)) (hk:ok k) :
 PR P n B H0 us H L (.lookup ty x y false) t ((look xs k).elim v0 ev):=
 fun c' w' d' b' a w hF hH=>PR.lookH (H:=hp w) (L:=[]) (B:=w) (H0:=hp w) hu hK hz hx (omap_H (hH.objs _ hat.mem).1) hy hk c' w' d' b' a w hF (Hp.start fun _ _ h=>h)
theorem PR.lenH {ty K e:TypeId} {xs:List (α × β)} {mv:Value} {r:Int} (hu:P.underlying ty=some (.map K e)) (hx:opv us x=some mv) (hm:MapH ek ev ok H mv xs) (hr:(xs.length:Int)=r) :
 PR P n B H0 us H L (.call {callee:=.builtin .len,args:=#[x],argTypes:=#[ty]}) t (.int .i64 r):=
 fun _ _ _ _ a w hF hH=>by
  subst hr
  obtain ⟨b,es,clock,rfl,h2,h3⟩:=hm
  have hb:w.heap[b]? = some (.map es clock):=hH.agree b _ h2
  simp [execOp,resolve,invoke,builtin,Builtin.len_,hF.ev hx,run_underlying hu,MapKept.run_getObj_map hb,goInt,h3.size,Result.andThen]
theorem PR.lenO {ty K e:TypeId} {b:Nat} {xs:List (α × β)} {r:Int} (hu:P.underlying ty=some (.map K e)) (hx:opv us x=some (.map (some b))) (hat:At L (omap ek ev ok b xs) (omap ek ev ok b xs) L) (hr:(xs.length:Int)=r) :
 PR P n B H0 us H L (.call {callee:=.builtin .len,args:=#[x],argTypes:=#[ty]}) t (.int .i64 r):=
 fun c' w' d' b' a w hF hH=>PR.lenH (H:=hp w) (L:=[]) (B:=w) (H0:=hp w) hu hx (omap_H (hH.objs _ hat.mem).1) hr c' w' d' b' a w hF (Hp.start fun _ _ h=>h)
theorem J.makeMap (ek:α→Value) (ev:β→Value) (ok:α→Prop) {ty:TypeId} (hd:Nat.blt d n=true) (hk : ∀b,J P ops Q n B H0 rest ((d,.map (some b))::us) H (omap ek ev ok b []::L)):J P ops Q n B H0 (⟨some d,.makeMap ty none,t,p,af,none⟩::rest) us H L:=by
 refine J.val hd fun a w hF hH=>⟨.map (some w.heap.size),w.alloc (.map #[] 0),?_,fun a' hF'=>hk _ a' _ hF' ?_⟩
 ·simp [execOp,run_makeMap]
 ·exact hH.new (chg_alloc w _) ⟨#[],0,heap_alloc_new w _,EntOk.empty⟩ (fun b hb=>by rw [show b=w.heap.size from hb];simp)
theorem setBlock_hp {w:World} {b:Nat} {o o':Obj} (hb:hp w b=some o):hp (ChangeMaps.setBlock w b o') b=some o' ∧(∀b',b' ≠b→hp (ChangeMaps.setBlock w b o') b'=hp w b')∧(ChangeMaps.setBlock w b o').heap.size=w.heap.size:=by
 have:=MapKept.heap_set (o':=o') (show w.heap[b]? = some o from hb);exact ⟨this.1,this.2,by simp [ChangeMaps.setBlock]⟩
theorem Hp.setB {b:Nat} {o o':Obj} {A A':SA} {w:World} (hH:Hp B H0 H L w) (hat:At L A A' L') (hA : ∀x,A.fp x↔x=b) (hA' : ∀x,A'.fp x↔x=b) (hb:hp w b=some o) (hh : ∀h:HP,h b=some o' →A'.holds h):Hp B H0 H L' (ChangeMaps.setBlock w b o'):=by
 obtain ⟨h1,h2,h3⟩:=setBlock_hp (o':=o') hb;refine hH.upd hat ⟨rfl,rfl,rfl,by rw [h3];exact Nat.le_refl _,fun x _ hx=>h2 x fun e=>hx ((hA x).2 e)⟩ (hh _ h1) fun x hx=>?_;have e:=(hA' x).1 hx;subst e;exact ⟨.inl ((hA x).2 rfl),by rw [h3];exact hp_lt hb⟩
theorem update_run [DecidableEq α] {ty K e:TypeId} {w:World} {b:Nat} {es:Array MapEntry} {clock:Nat} {xs:List (α × β)} {k:α} {v:β} (hu:P.underlying ty=some (.map K e)) (hK:KeyT P K ek ok) (hb:w.heap[b]? = some (.map es clock)) (he:EntOk ek ev ok es clock xs) (hk:ok k) : ∃es' clock',(Instr.mapUpdate ty (.map (some b)) (ek k) (ev v)).run P w = .ok () (ChangeMaps.setBlock w b (.map es' clock'))∧EntOk ek ev ok es' clock' (putM xs k v):=by
 have hok : ∀x∈putM xs k v,ok x.1:=fun x hx=>by
  rcases List.mem_cons.1 hx with rfl | hx
  ·exact hk
  ·exact he.ok x (delM_mem hx).1
 rcases MapH.key_mem hK he w hk with ⟨h1,h2,h3⟩ | ⟨j,e0,v',h1,h2,h3,h4,h5⟩
 ·refine ⟨es.push ⟨ek k,ev v,clock⟩,clock+1,?_,MapKept.stamped_push he.st h2,?_,hok⟩
  ·simp [Instr.mapUpdate,run_underlying hu,MapKept.run_getObj_map hb,hK.check w false k hk,h1,MapKept.run_setObj_map _ hb,Result.andThen,ChangeMaps.setBlock]
  ·have e1:delM xs k=xs:=delM_none h3;unfold putM;unfold delM at e1;rw [e1,Array.toList_push,List.map_append];exact (List.perm_append_singleton _ _).trans (he.pm.cons _)
 ·have hj:es[j]? = some e0:=by simpa using h2
  have hjl:j<es.toList.length:=(List.getElem?_eq_some_iff.1 h2).1
  have hkeyf : ∀e',es[j]? = some e' →({e' with key:=ek k,val:=ev v}:MapEntry).key=e'.key:=fun e' he'=>by rw [hj] at he';cases he';exact h3.symm
  refine ⟨es.modify j (fun e'=>{e' with key:=ek k,val:=ev v}),clock,?_,MapKept.stamped_modify he.st _ _ (fun _ _=>rfl) (fun e' _ he'=>hkeyf e' he'),?_,hok⟩
  ·simp [Instr.mapUpdate,run_underlying hu,MapKept.run_getObj_map hb,hK.check w false k hk,h1,hj,h3,hK.stays w k hk,MapKept.run_setObj_map _ hb,Result.andThen,ChangeMaps.setBlock]
  ·rw [Array.toList_modify,ChangeMaps.modify_eq_set _ _ _ _ h2];have p1:=(ChangeMaps.set_perm es.toList j hjl {e0 with key:=ek k,val:=ev v}).map kv;refine p1.trans ?_
   show (kv {e0 with key:=ek k,val:=ev v}::(es.toList.eraseIdx j).map kv).Perm (enc2 ek ev (k,v)::(delM xs k).map (enc2 ek ev))
   exact (he.find_perm h2 h3 h4 h5).cons _
theorem J.mapUpdate [DecidableEq α] {ty K e:TypeId} {b:Nat} {xs:List (α × β)} {k:α} {v:β} (hu:P.underlying ty=some (.map K e)) (hK:KeyT P K ek ok) (hx:opv us x=some (.map (some b))) (hy:opv us y=some (ek k)) (hz:opv us z=some (ev v)) (hk:ok k) (hat:At L (omap ek ev ok b xs) (omap ek ev ok b (putM xs k v)) L') (kk:J P ops Q n B H0 rest us H L'):J P ops Q n B H0 (⟨none,.mapUpdate ty x y z,t,p,af,none⟩::rest) us H L:=by
 refine J.unit fun a w hF hH=>?_;obtain ⟨es,clock,hb,he⟩:=(hH.objs _ hat.mem).1;obtain ⟨es',clock',hr,he'⟩:=update_run (v:=v) hu hK hb he hk;refine ⟨_,?_,kk a _ hF (hH.setB hat (fun _=>Iff.rfl) (fun _=>Iff.rfl) hb fun h hh=>⟨es',clock',hh,he'⟩)⟩
 simp [execOp,hF.ev hx,hF.ev hy,hF.ev hz,hr,Result.andThen]
theorem J.insert [DecidableEq α] {ty K e:TypeId} {b:Nat} {xs:List (α × β)} {k:α} {v:β} (hu:P.underlying ty=some (.map K e)) (hK:KeyT P K ek ok) (hx:opv us x=some (.map (some b))) (hy:opv us y=some (ek k)) (hz:opv us z=some (ev v)) (hk:ok k) (hat:At L (omap ek ev ok b xs) (omap ek ev ok b (putM xs k v)) L') (kk:J P ops Q n B H0 rest us H L'):J P ops Q n B H0 (⟨none,.insert ty x y z,t,p,af,none⟩::rest) us H L:=by
 refine J.unit fun a w hF hH=>?_;obtain ⟨es,clock,hb,he⟩:=(hH.objs _ hat.mem).1;obtain ⟨es',clock',hr,he'⟩:=update_run (v:=v) hu hK hb he hk;refine ⟨_,?_,kk a _ hF (hH.setB hat (fun _=>Iff.rfl) (fun _=>Iff.rfl) hb fun h hh=>⟨es',clock',hh,he'⟩)⟩
 simp [execOp,hF.ev hx,hF.ev hy,hF.ev hz,hr,Result.andThen]
theorem J.delete [DecidableEq α] {ty tk K e:TypeId} {b:Nat} {xs:List (α × β)} {k:α} (hu:P.underlying ty=some (.map K e)) (hK:KeyT P K ek ok) (hx:opv us x=some (.map (some b))) (hy:opv us y=some (ek k)) (hk:ok k) (hat:At L (omap ek ev ok b xs) (omap ek ev ok b (delM xs k)) L') (kk:J P ops Q n B H0 rest us H L'):J P ops Q n B H0 (⟨none,.call {callee:=.builtin .delete,args:=#[x,y],argTypes:=#[ty,tk]},t,p,af,none⟩::rest) us H L:=by
 refine J.unitV fun a w hF hH=>?_;obtain ⟨es,clock,hb,he⟩:=(hH.objs _ hat.mem).1;have hok : ∀x∈delM xs k,ok x.1:=fun x hx=>he.ok x (delM_mem hx).1;have hb':w.heap[b]? = some (.map es clock):=hb
 rcases MapH.key_mem hK he w hk with ⟨h1,h2,h3⟩ | ⟨j,e0,v',h1,h2,h3,h4,h5⟩
 ·refine ⟨.tuple #[],_,?_,kk a _ hF (hH.setB hat (fun _=>Iff.rfl) (fun _=>Iff.rfl) hb fun h hh=>⟨es,clock,hh,?_⟩)⟩
  ·simp [execOp,resolve,invoke,builtin,hF.ev hx,hF.ev hy,Builtin.delete_,run_underlying hu,MapKept.run_getObj_map hb',hK.check w _ k hk,h1,MapKept.run_setObj_map _ hb',Result.andThen,ChangeMaps.setBlock]
  ·rw [delM_none h3];exact he
 ·have hjs:j<es.size:=by simpa using (List.getElem?_eq_some_iff.1 h2).1
  have hsub:(es.eraseIdxIfInBounds j).toList=es.toList.eraseIdx j:=by
   unfold Array.eraseIdxIfInBounds;rw [dif_pos hjs]
   simp
  refine ⟨.tuple #[],_,?_,kk a _ hF (hH.setB hat (fun _=>Iff.rfl) (fun _=>Iff.rfl) hb fun h hh=>⟨es.eraseIdxIfInBounds j,clock,hh,MapKept.stamped_erase he.st j,?_,hok⟩)⟩
  ·simp [execOp,resolve,invoke,builtin,hF.ev hx,hF.ev hy,Builtin.delete_,run_underlying hu,MapKept.run_getObj_map hb',hK.check w _ k hk,h1,MapKept.run_setObj_map _ hb',Result.andThen,ChangeMaps.setBlock]
  ·rw [hsub];exact he.find_perm h2 h3 h4 h5
theorem J.range {ty K e:TypeId} {b:Nat} {es:Array MapEntry} {clock:Nat} {xs:List (α × β)} (hu:P.underlying ty=some (.map K e)) (hx:opv us x=some (.map (some b))) (hb:H b=some (.map es clock)) (he:EntOk ek ev ok es clock xs) (hd:Nat.blt d n=true) (kk : ∀r,J P ops Q n B H0 rest ((d,.pointer (some ⟨r,0,none⟩))::us) H (itr ek ev b es clock r none xs::L)):J P ops Q n B H0 (⟨some d,.range ty x,t,p,af,none⟩::rest) us H L:=by
 refine J.val hd fun a w hF hH=>⟨_,_,?_,fun a' hF'=>kk w.heap.size a' _ hF' (hH.new (chg_alloc w (.mapIter (some b) clock #[] clock)) ⟨#[],heap_alloc_new w _,?_,fun x hx=>by cases hx⟩ (fun x hx=>by rw [show x=w.heap.size from hx];simp))⟩
 ·simp [execOp,hF.ev hx,run_range_map w ty K e b es clock hu (hH.agree b _ hb)]
 ·have:leftOf es #[]=es:=by unfold leftOf;simp
  rw [this];exact he.pm
theorem left_push {es:Array MapEntry} {seen:Array Nat} (hn:(es.toList.map (·.born)).Nodup) {e:MapEntry} (he:e∈(leftOf es seen).toList):(leftOf es seen).toList.Perm (e::(leftOf es (seen.push e.born)).toList):=by
 have h1:(leftOf es (seen.push e.born)).toList=(leftOf es seen).toList.filter fun x=>!(x.born == e.born):=by
  unfold leftOf;rw [Array.toList_filter,Array.toList_filter,List.filter_filter]
  congr 1
  funext x
  rw [contains_push]
  cases seen.contains x.born <;> cases (x.born == e.born) <;> rfl
 rw [h1]
 have hsub:((leftOf es seen).toList.map (·.born)).Nodup:=by
  unfold leftOf;rw [Array.toList_filter];exact hn.sublist (List.filter_sublist.map _)
 generalize (leftOf es seen).toList=l at he hsub
 induction l with
 | nil=>simp at he
 | cons a l ih=>
  simp only [List.map_cons,List.nodup_cons] at hsub;rw [List.filter_cons]
  by_cases e1:a.born=e.born
  ·have hae:a=e:=by
    rcases List.mem_cons.1 he with h | h
    ·exact h.symm
    ·exact absurd (List.mem_map.2 ⟨e,h,e1.symm⟩) hsub.1
   rw [if_neg (by simpa using e1),hae];refine List.Perm.cons _ ?_;rw [List.filter_eq_self.2];intro y hy;have:y.born≠e.born:=fun e2=>hsub.1 (by rw [e1,← e2];exact List.mem_map.2 ⟨y,hy,rfl⟩)
   simpa using this
  ·rw [if_pos (by simpa using e1)]
   rcases List.mem_cons.1 he with h | h
   ·exact absurd (by rw [h]) e1
   ·exact ((ih h hsub.2).cons a).trans (List.Perm.swap _ _ _)
theorem J.next {b r:Nat} {es:Array MapEntry} {clock:Nat} {xs ls:List (α × β)} {last:Option (α × β)} (hx:opv us x=some (.pointer (some ⟨r,0,none⟩))) (hb:H b=some (.map es clock)) (he:EntOk ek ev ok es clock xs) {L':Option (α × β)→List (α × β)→List SA} (hat : ∀la ls',At L (itr ek ev b es clock r last ls) (itr ek ev b es clock r la ls') (L' la ls')) (hd:Nat.blt d n=true) (h0:ls=[]→J P ops Q n B H0 rest ((d,.tuple #[.bool false])::us) H L) (h1 : ∀(u:α × β) (l1 l2:List (α × β)),ls=l1++u::l2→J P ops Q n B H0 rest ((d,.tuple #[.bool true,ek u.1,ev u.2])::us) H (L' (some u) (l1++l2))):J P ops Q n B H0 (⟨some d,.next x false,t,p,af,none⟩::rest) us H L:=by
 refine J.val hd fun a w hF hH=>?_;obtain ⟨seen,hr,hpm,hlast⟩:=(hH.objs _ (hat none []).mem).1;have hst:=(MapKept.stamped_iff es clock).1 he.st;have hbw:w.heap[b]? = some (.map es clock):=hH.agree b _ hb
 rcases run_next_at (P:=P) w t r b clock clock seen es clock hr hbw hst.1 (Nat.le_refl _) with ⟨hs0,hrun⟩ | ⟨e,hem,w1,hw1,hrun⟩
 ·refine ⟨_,w,by simp [execOp,hF.ev hx,hrun,Result.andThen],fun a' hF'=>h0 ?_ a' w hF' hH⟩
  have:(leftOf es seen).toList=[]:=by rw [Array.toList_eq_nil_iff];exact Array.eq_empty_of_size_eq_zero hs0
  rw [this] at hpm;have:=hpm.length_eq
  simp at this
  exact List.eq_nil_of_length_eq_zero this.symm
 ·have h2:kv e∈ls.map (enc2 ek ev):=hpm.mem_iff.1 (List.mem_map.2 ⟨e,hem,rfl⟩);obtain ⟨u,hu,hue⟩:=List.mem_map.1 h2;obtain ⟨l1,l2,hl⟩:=List.append_of_mem hu
  have hke:e.key=ek u.1:=by have:=congrArg Prod.fst hue;exact this.symm
  have hve:e.val=ev u.2:=by have:=congrArg Prod.snd hue;exact this.symm
  have hp1:(leftOf es (seen.push e.born)).toList.map kv |>.Perm ((l1++l2).map (enc2 ek ev)):=by
   have p1:=(left_push hst.2.1 hem).map kv
   have p2:(ls.map (enc2 ek ev)).Perm (enc2 ek ev u::(l1++l2).map (enc2 ek ev)):=by
    rw [hl];exact (List.perm_middle).map _
   have p3:=(p1.symm.trans hpm).trans p2;rw [hue] at p3;exact (List.perm_cons _).1 p3
  have hH1:Hp B H0 H L w1:=by
   rcases hw1 with rfl | rfl
   ·exact hH
   ·exact hH.chg0 (w':=w.drew) ⟨rfl,rfl,rfl,Nat.le_refl _,fun _ _ _=>rfl⟩
  have hr1:hp w1 r=some (.mapIter (some b) clock seen clock):=by rcases hw1 with rfl | rfl <;> exact hr
  refine ⟨.tuple #[.bool true,e.key,e.val],_,by simp [execOp,hF.ev hx,hrun,Result.andThen];rfl,fun a' hF'=>?_⟩;rw [hke,hve] at hF'
  exact h1 u l1 l2 hl a' _ hF' (hH1.setB (hat (some u) (l1++l2)) (fun _=>Iff.rfl) (fun _=>Iff.rfl) hr1 fun h hh=>⟨_,hh,hp1,fun x hx=>by
   cases hx
   exact ⟨e,(mem_left hem).1,hue.symm,seen,rfl⟩⟩)
theorem PR.entry {b r:Nat} {es:Array MapEntry} {clock:Nat} {xs ls:List (α × β)} {u:α × β} (hx:opv us x=some (.pointer (some ⟨r,0,none⟩))) (hb:H b=some (.map es clock)) (he:EntOk ek ev ok es clock xs)
 (hat:At L (itr ek ev b es clock r (some u) ls) (itr ek ev b es clock r (some u) ls) L):PR P n B H0 us H L (.entry x) t (.tuple #[ek u.1,ev u.2]):=
 fun _ _ _ _ a w hF hH=>by
  obtain ⟨seen,hr,_,hlast⟩:=(hH.objs _ hat.mem).1
  obtain ⟨e,hem,hke,s0,rfl⟩:=hlast u rfl
  have hst:=(MapKept.stamped_iff es clock).1 he.st
  have hbw:w.heap[b]? = some (.map es clock):=hH.agree b _ hb
  have h1:e.key=ek u.1:=congrArg Prod.fst hke
  have h2:e.val=ev u.2:=congrArg Prod.snd hke
  have:=run_entry_at (P:=P) w r b clock s0 es clock e hr hbw hem hst.2.1
  rw [h1,h2] at this
  simp [execOp,hF.ev hx,this]
end
def setV (vs:Vs) (k:Nat) (x:Option Addr × Nat):Vs:=fun j=>if j=k then x else vs j
section
variable {P : Program} {ops : Array Oper} {Q : Exit → Act → World → Prop} {n : Nat} {B : World} {H0 H : HP} {rest : List Oper} {us : List (Nat × Value)} {L L1 : List SA} {t : TypeId} {p : String} {af : Array Edge} {d : Nat} {x y : Operand} {R : Act → World → Prop}
theorem EK {ty e:TypeId} {u v z:Value} (hu:P.underlying ty=some (.slice e)) (hz:Zero P e [z]) (hs:Size P e 1) (hx:opv us x=some u) (hv:u.cells=[v].toArray):MK P n us H (.buildSlice ty 1 #[(0,x)]) t (fun q c=>.slice q 1 c) (fun q c=>own e 1 q 1 c [v]):=
 MK.lit1 (z:=[z]) hu hz hs rfl rfl hx hv rfl
theorem J.append1 {ty e:TypeId} {q qt:Option Addr} {m c ct bytes:Nat} {cells:List Value} {v z:Value} (hu:P.underlying ty=some (.slice e)) (hz:Zero P e [z]) (hs:Size P e 1) (hb:Bytes P e bytes) (hx:opv us x=some (.slice q m c)) (hy:opv us y=some (.slice qt 1 ct)) (h1:v.oneCell'=true) (hB:Nat.ble bytes 64=true) (hm:m≤1048576) (hr:Rm L (own e 1 qt 1 ct [v]) L1) (hat:At L1 (own e 1 q m c cells) (own e 1 q m c cells) L1) {L':Option Addr→Nat→List SA} (hat' : ∀q' c',At L1 (own e 1 q m c cells) (own e 1 q' (m+1) c' (cells++[v])) (L' q' c')) (hd:Nat.blt d n=true) (hk : ∀q' c',J P ops Q n B H0 rest ((d,.slice q' (m+1) c')::us) H (own e 1 qt 1 ct [v]::L' q' c')):J P ops Q n B H0 (⟨some d,.call {callee:=.builtin .append,args:=#[x,y],argTypes:=#[ty,ty]},t,p,af,none⟩::rest) us H L:=by
 have hB':=Nat.le_of_ble_eq_true hB;refine J.appendO (z:=[z]) hu hz hs hb rfl hx hy (by simpa using h1) ?_ (by simp only [maxLen];omega) hr hat hat' hd hk
 calc (m+1) * bytes≤(m+1) * 64:=Nat.mul_le_mul_left _ hB'
  _≤140737488355328:=by omega
theorem slicesC_snoc : ∀(vs:Vs) (gs:List (List Term)) (f:List Term),slicesC vs (gs++[f])=slicesC vs gs++[.slice (vs gs.length).1 f.length (vs gs.length).2]
 | vs, [],f=>rfl
 | vs,g::gs,f=>by
  simp only [JxA,slicesC]
  rw [slicesC_snoc vs.tl gs f]
  rfl
theorem slicesC_cong : ∀{gs:List (List Term)} {vs vs':Vs},(∀j,j<gs.length→vs j=vs' j)→slicesC vs gs=slicesC vs' gs
 | [],_,_,_=>rfl
 | g::gs,vs,vs',h=>by
  have h0:=h 0 (by simp)
  have ih:=slicesC_cong (gs:=gs) (vs:=vs.tl) (vs':=vs'.tl) fun j hj=>h (j+1) (by simpa using hj)
  simp only [slicesC,h0,ih]
theorem ownTs_cong {T:TypeId} : ∀{gs:List (List Term)} {vs vs':Vs},(∀j,j<gs.length→vs j=vs' j)→ownTs T vs gs=ownTs T vs' gs
 | [],_,_,_=>rfl
 | g::gs,vs,vs',h=>by
  have h0:=h 0 (by simp)
  have ih:=ownTs_cong (T:=T) (gs:=gs) (vs:=vs.tl) (vs':=vs'.tl) fun j hj=>h (j+1) (by simpa using hj)
  simp only [ownTs,h0,ih]
theorem slicesC_set {vs:Vs} {fs:List (List Term)} {f:List Term} {q:Option Addr} {c k:Nat} (hk:fs.length=k):slicesC (setV vs k (q,c)) (fs++[f])=slicesC vs fs++[.slice q f.length c]:=by
 subst hk;rw [slicesC_snoc,slicesC_cong (vs':=vs) fun j hj=>by unfold setV;rw [if_neg (by omega)]]
 simp [setV]
theorem EJ.fsSnoc {T:TypeId} {q:Option Addr} {c k m:Nat} {fs:List (List Term)} {f:List Term} {vs:Vs} (hk:fs.length=k) (hm:f.length=m) (h:EJ R n B H0 us H (ownTs T (setV vs k (q,c)) (fs++[f])::L)):EJ R n B H0 us H (own T 9 q m c (tsC f)::ownTs T vs fs::L):=fun a w hF hH=>by
 subst hk
 subst hm
 refine h a w hF (Hp.fsOut ?_)
 rw [show setV vs fs.length (q,c) fs.length=(q,c) by simp [setV],ownTs_cong (vs':=vs) fun j hj=>by unfold setV;rw [if_neg (by omega)]]
 exact hH
theorem J.ts0 (T:TypeId) (k:J P ops Q n B H0 rest us H (ownTs T nilVs []::L)):J P ops Q n B H0 rest us H L:=fun a w hF hH=>k a w hF hH.emp
end
abbrev sV (l:List UInt8):Value:=.string ⟨l.toArray⟩
section
variable {P : Program} {ops : Array Oper} {Q : Exit → Act → World → Prop} {n : Nat} {B : World} {H0 H : HP} {rest : List Oper} {us : List (Nat × Value)} {L L' : List SA} {t xt yt : TypeId} {p : String} {af : Array Edge} {d : Nat} {x y : Operand}
theorem Em {a b:List UInt8} (hx:opv us x=some (sV a)) (hy:opv us y=some (sV b)) (hl:a.length+b.length≤9223372036854775807):PR P n B H0 us H L (.binOp .add xt x y yt) t (sV (a++b)):=
 fun _ _ _ _ ac w hF _=>by
  have h1:=run_string_add_sum (P:=P) w ⟨a.toArray⟩ ⟨b.toArray⟩ (by simp [ByteArray.size];omega)
  rw [ByteArray.mk_append_mk] at h1
  simp only [execOp,hF.ev hx,hF.ev hy,binOp_string_add]
  simp [eqGuard,h1]
theorem EE {a b:List UInt8} (hx:opv us x=some (sV a)) (hy:opv us y=some (sV b)):PR P n B H0 us H L (.binOp .eql xt x y yt) t (.bool (decide (a=b))):=
 fun _ _ _ _ ac w hF _=>by
  simp only [execOp,hF.ev hx,hF.ev hy,binOp_string_eql,ByteArray.toList_mk]
  have he:(a == b)=decide (a=b):=by by_cases h:a=b <;> simp [h]
  simp [eqGuard,he]
theorem PR.strNeq {a b:List UInt8} (hx:opv us x=some (sV a)) (hy:opv us y=some (sV b)):PR P n B H0 us H L (.binOp .neq xt x y yt) t (.bool (decide (a≠b))):=
 fun _ _ _ _ ac w hF _=>by
  have hb:binOp .neq xt (sV a) (sV b)=pure (.bool !(a == b)):=by simp [binOp,Op.stringOp]
  simp only [execOp,hF.ev hx,hF.ev hy,hb]
  have he:(!(a == b))=decide (a≠b):=by by_cases h:a=b <;> simp [h]
  rw [he]
  simp [eqGuard]
theorem PR.str1 {e:TypeId} {q:Option Addr} {c:Nat} {v:Int} (hs:P.underlying xt=some (.slice e)) (he:P.underlying e=some (.int .u8)) (hd:P.underlying yt=some .string) (hx:opv us x=some (.slice q 1 c)) (hat:At L (own e 1 q 1 c [.int .u8 v]) (own e 1 q 1 c [.int .u8 v]) L) (hv:0≤v∧v≤255):PR P n B H0 us H L (.convert xt yt x) t (sV [UInt8.ofNat v.toNat]):=
 fun _ _ _ _ ac w hF hH=>by
  have h1:=own_reads (hH.objs _ hat.mem).1 0 _ rfl
  cases q with
  | none=>simp [cellO] at h1
  | some a=>
   have h2:=run_convert_bytes_back (P:=P) w xt yt e a c [UInt8.ofNat v.toNat] hs he hd fun j hj=>by
    obtain rfl:j=0:=by simpa using hj
    have h3:w.cell? (a.add 0)=some (.int .u8 v):=h1
    rw [h3]
    have h4:v.toNat % 256=v.toNat:=by omega
    simp [UInt8.toNat_ofNat,h4]
    omega
   simp only [List.length_singleton] at h2
   simp [execOp,hF.ev hx,h2]
theorem PR.strRune {k:IntKind} {v:Int} {ds:TypeDesc} (hs:P.underlying xt=some ds) (hd:P.underlying yt=some .string) (hx:opv us x=some (.int k v)) (hv:0≤v∧v<128):PR P n B H0 us H L (.convert xt yt x) t (sV [UInt8.ofNat v.toNat]):=
 fun _ _ _ _ ac w hF _=>by
  have h1:Utf8.encode v=⟨[UInt8.ofNat v.toNat].toArray⟩:=by
   have hval:Utf8.valid v=true:=by simp [Utf8.valid];omega
   have hlt:v.toNat<128:=by omega
   simp [Utf8.encode,hval,hlt]
  simp [execOp,hF.ev hx,convert,run_underlying hs,run_underlying hd,Conv.intToString,h1]
end
def TabOk (P:Program) (nm:String) (H:HP):Prop:=∀w:World,(∀b o,H b=some o→hp w b=some o)→Lib.TabIs P w nm .u64 Lib.pow10Tab
theorem TabOk.le {P:Program} {nm:String} {H H':HP} (h:TabOk P nm H) (hle:Le H H'):TabOk P nm H':=fun w hw=>h w fun b o hb=>hw b o (hle b o hb)
theorem Hp.belowOf {B:World} {H0 H:HP} {L:List SA} {w w':World} (h:Hp B H0 H L w) (hb:Below w.heap.size w w'):Hp B H0 H L w':=
 h.chg0 ⟨hb.os,hb.tape,hb.output,hb.size,fun b hb' _=>hb.block b hb'⟩
theorem own_some {e:TypeId} {sz m c:Nat} {q:Option Addr} {cells:List Value} {h:HP} (hh:(own e sz q m c cells).holds h) (hm:0<m):q.isSome=true:=by
 rcases hh.2 with ⟨_,h2,_⟩ | ⟨g,cur,rfl,_⟩
 ·omega
 ·rfl
section
variable {P : Program} {ops : Array Oper} {Q : Exit → Act → World → Prop} {n : Nat} {B : World} {H0 H : HP} {rest : List Oper} {us : List (Nat × Value)} {L L' : List SA} {t : TypeId} {p : String} {af : Array Edge} {d : Nat} {x y : Operand} {R : Act → World → Prop}
theorem PR.idxW {ty e:TypeId} {k:IntKind} {q:Option Addr} {m c:Nat} {i:Int} {i':Nat} {cells:List Value} (hu:P.underlying ty=some (.slice e)) (hs:Size P e 1) (hx:opv us x=some (.slice q m c)) (hy:opv us y=some (.int k i)) (hi:i=(i':Int)) (hl:i'<m) (hat:At L (own e 1 q m c cells) (own e 1 q m c cells) L) :
 PR P n B H0 us H L (.indexAddr ty x y) t (ptr q i'):=fun d p af g a w hF hH=>Eg hu hs hx hy hi hl (fun _=>own_some (hH.objs _ hat.mem).1 (by omega)) d p af g a w hF hH
end
section
variable {P : Program} {ops : Array Oper} {Q : Exit → Act → World → Prop} {n : Nat} {B : World} {H0 H : HP} {rest : List Oper} {us : List (Nat × Value)} {L L' : List SA} {t xt yt : TypeId} {p : String} {af : Array Edge} {d : Nat} {x y z : Operand}
theorem EF {s:List UInt8} (hu:P.underlying xt=some .string) (hx:opv us x=some (sV s)) :
 PR P n B H0 us H L (.call {callee:=.builtin .len,args:=#[x],argTypes:=#[xt]}) t (.int .i64 (s.length:Int)):=PR.lenString hu hx (by simp [ByteArray.size])
theorem Eu {s:List UInt8} {k:IntKind} {i:Int} {i':Nat} (hu:P.underlying xt=some .string) (hx:opv us x=some (sV s)) (hy:opv us y=some (.int k i)) (hi:i=(i':Int)) (hl:i'<s.length):PR P n B H0 us H L (.index xt x y) t (.int .u8 ((s.getD i' 0).toNat:Int)):=
 PR.indexStr hu hx hy hi (by simp [List.getD_eq_getElem?_getD,hl])
theorem PR.strSl {s:List UInt8} {k k':IntKind} {i j:Int} {i' j':Nat} (hu:P.underlying xt=some .string) (hx:opv us x=some (sV s)) (hy:opv us y=some (.int k i)) (hz:opv us z=some (.int k' j)) (hi:i=(i':Int)) (hj:j=(j':Int)) (h1:i' ≤j') (h2:j' ≤s.length):PR P n B H0 us H L (.slice xt x (some y) (some z) none) t (sV ((s.drop i').take (j' - i'))):=
 fun _ _ _ _ a w hF _=>by
  subst hi hj
  have h:=run_slice_string (P:=P) w xt ⟨s.toArray⟩ k k' (i':Int) (j':Int) hu (by omega) (by omega) (by simp [ByteArray.size];omega)
  rw [ByteArray.extract_mk] at h
  have h3:=run_sliceAt_string (P:=P) (w:=w) xt (sV s) (some (.int k (i':Int))) (some (.int k' (j':Int))) none hu
  rw [h] at h3
  simp [execOp,hF.ev hx,hF.ev hy,hF.ev hz]
  rw [h3]
  rfl
theorem PR.strSlF {s:List UInt8} {k:IntKind} {i:Int} {i':Nat} (hu:P.underlying xt=some .string) (hx:opv us x=some (sV s)) (hy:opv us y=some (.int k i)) (hi:i=(i':Int)) (h1:i' ≤s.length):PR P n B H0 us H L (.slice xt x (some y) none none) t (sV (s.drop i')):=
 fun _ _ _ _ a w hF _=>by
  subst hi
  have h:=run_slice_string_l (P:=P) (w:=w) xt ⟨s.toArray⟩ hu k (i':Int) (by omega) (by simp [ByteArray.size];omega)
  rw [ByteArray.extract_mk] at h
  have e:(s.drop i').take ((⟨s.toArray⟩:ByteArray).size - (i':Int).toNat)=s.drop i':=List.take_of_length_le (by simp [ByteArray.size])
  rw [Int.toNat_natCast] at h e
  rw [e] at h
  have h3:=run_sliceAt_string (P:=P) (w:=w) xt (sV s) (some (.int k (i':Int))) none none hu
  rw [h] at h3
  simp [execOp,hF.ev hx,hF.ev hy]
  rw [h3]
  rfl
end
theorem strsC_get {xs:List (List UInt8)} {i:Nat} (h:i<xs.length):(xs.map sV)[i]? = some (sV (xs.getD i [])):=by simp [List.getD_eq_getElem?_getD,h]
theorem u8_bd (b:UInt8):0≤(b.toNat:Int)∧(b.toNat:Int)≤255:=⟨by omega,by have:=b.toNat_lt;omega⟩
theorem u2:Tryz.prog.underlying 2=some (TypeDesc.int .i64):=by kernel_rfl
theorem u22:Tryz.prog.underlying 22=some (TypeDesc.slice 2):=by kernel_rfl
theorem u5:Tryz.prog.underlying 5=some (TypeDesc.int .u8):=by kernel_rfl
theorem u65:Tryz.prog.underlying 65=some (TypeDesc.array 8 5):=by kernel_rfl
theorem sz2:Size Tryz.prog 2 1:=by unfold Size;kernel_rfl
theorem sz5:Size Tryz.prog 5 1:=by unfold Size;kernel_rfl
theorem pl2:Plain Tryz.prog 2:=⟨_,u2,rfl⟩
theorem pl5:Plain Tryz.prog 5:=⟨_,u5,rfl⟩
theorem ag65:Agg Tryz.prog 65 8:=⟨_,u65,rfl,by kernel_rfl⟩
theorem fn39:Fn Tryz.prog 39:=⟨_,Tryz.func39,by kernel_rfl,rfl⟩
def most (ds:List Int) (i:Nat):Int:=if i<ds.length then (if (ds.getD i 0).tmod 2=1 then 1 else 20) else 0
theorem most_ge {ds:List Int} {k:Nat} (h:(ds.length:Int)≤k):most ds k=0:=by unfold most;rw [if_neg (by omega)]
theorem most_odd {ds:List Int} {k:Nat} (h : ¬((ds.length:Int)≤k)) (ho:(ds.getD k 0).tmod 2≠0) (hp:0≤ds.getD k 0):most ds k=1:=by
 unfold most;rw [Int.tmod_eq_emod_of_nonneg hp] at ho ⊢;rw [if_pos (by omega),if_pos (by omega)]
theorem most_even {ds:List Int} {k:Nat} (h : ¬((ds.length:Int)≤k)) (ho : ¬(ds.getD k 0).tmod 2≠0):most ds k=20:=by
 unfold most;rw [if_pos (by omega),if_neg (by omega)]
def isMono (ds m:List Int):Bool:=(List.range 8).all fun i=>decide (m.getD i 0≤most ds i)
theorem isMono_false {ds m:List Int} {k:Nat} (hk:k<8) (h:most ds k<m.getD k 0):isMono ds m=false:=by
 unfold isMono;rw [List.all_eq_false];exact ⟨k,by simp [hk],by rw [decide_eq_true_eq];omega⟩
theorem isMono_true {ds m:List Int} (h : ∀j,j<8→m.getD j 0≤most ds j):isMono ds m=true:=by
 unfold isMono;rw [List.all_eq_true];intro j hj
 simpa using h j (by simpa using hj)
theorem within_c {B:World} {H0 H:HP} {L:List SA} {w:World} {x:Int} {lo:Int} {hi:Int} (hH:Hp B H0 H L w):Calls Tryz.prog 45 [.int .i64 x,.int .i64 lo,.int .i64 hi].toArray w fun e w'=>e = .returned (.bool (decide (lo≤x) && decide (x≤hi)))∧Hp B H0 H L w':=by
 refine JB Tryz.func45 rfl 15 rfl rfl [(0,.int .i64 x),(1,.int .i64 lo),(2,.int .i64 hi)] rfl hH ?_;clear hH;refine Je fun _ hK1 _=>(Jb (Jg (Jd rfl) rfl (Jf (Ja (hK1 (Je fun _ hK2 _=>(Jb (Jg (Jc rfl) rfl (Jg (Jc rfl) rfl (Jg (PR.geq rfl rfl) rfl (Jg (Jc rfl) rfl (Ee (jd:=10) rfl (fun hg10=>?_) (fun hg10=>?_)))))))))))))
 ·
  try have hg10p:=of_decide_eq_true hg10
  refine JQ (Jc rfl) rfl rfl rfl hg10 (JQ (Jc rfl) rfl rfl rfl hg10 (JQ (PR.leq rfl rfl) rfl rfl rfl hg10 (Jg (JU rfl hg10 rfl) rfl (Jg (Jd rfl) rfl (Jf (Ja (hK2 (Jp (Jt rfl (Res.tmp rfl) fun w hH=>?_)))))))));exact ⟨by simp [*],hH⟩
 ·
  try have hg10p:=of_decide_eq_false hg10
  refine JJ rfl rfl rfl hg10 (JJ rfl rfl rfl hg10 (JJ rfl rfl rfl hg10 (Jg (JM rfl hg10 rfl) rfl (Jg (Jd rfl) rfl (Jf (Ja (hK2 (Jp (Jt rfl (Res.tmp rfl) fun w hH=>?_)))))))));exact ⟨by simp [*],hH⟩
theorem isMonomial_c {B:World} {H0 H:HP} {L:List SA} {w:World} {qds:Option Addr} {cds:Nat} {ds:List Int} {m:List Int} (hds:Ints H qds ds) (hm:Mono m) (hn:ds.length≤1048576) (hH:Hp B H0 H L w):Calls Tryz.prog 69 [.slice qds ds.length cds,.agg (bytesC m).toArray].toArray w fun e w'=>e = .returned (.bool (isMono ds m))∧Hp B H0 H L w':=by
 refine JB Tryz.func69 rfl 27 rfl rfl [(0,.slice qds ds.length cds),(1,.agg (bytesC m).toArray)] rfl hH ?_;have hml:=hm.len;clear hH;refine Je fun _ hK1 _=>(Jb (Ei rfl rfl rfl fun g3=>(Jg (Jd rfl) rfl (Jf (Ja (hK1 (Je fun _ hK2 _=>(Je fun _ hK3 _=>(Jb (Jg (Js rfl At.z (by simpa [*] using ag65)) rfl (Jg (Jc rfl) rfl (Jf (Ja (hK3 (Jm (JE (σ:=Nat) (fun (k:Nat)=>[(9,.int .i64 (k:Int))]) (fun (k:Nat)=>H) (fun (k:Nat)=>obj g3 (.cells (bytesC m).toArray 65 (0,0))::L) (fun (k:Nat)=>k≤8∧∀j,j<k→m.getD j 0≤most ds j) (fun (k:Nat)=>8 - k) 0 ⟨by omega,fun j hj=>by omega⟩ ⟨rfl,trivial⟩ rfl rfl ?_))))))))))))))));rintro k hI _ hAg0;obtain ⟨hk,hm9⟩:=hI;have hml:=hm.len;refine Je fun _ hK4 _=>(Jb (Jg (JK rfl rfl) rfl (Jf (Ja (hK4 (Je fun _ hK5 _=>(Jk rfl (fun hc10=>?_) (fun hc10=>?_))))))))
 ·
  refine Ji (Ja (hK5 (Je fun _ hK6 _=>(Jm (Je fun _ hK7 _=>(Jb (Jg (Jc rfl) rfl (Jg (PR.index u65 sz5 pl5 rfl rfl rfl (by omega) (by first | exact bytesC_get (by simp [*];omega) | exact intsC_get (by simp [*];omega))) rfl (Jg (Jd rfl) rfl (Jg (Jd rfl) rfl (Jf (Ja (hK7 (Je fun _ hK8 _=>(Jb (Jg (Jd rfl) rfl ?_))))))))))))))));refine Jf (Ja (hK8 (CJ.cutU (σ:=Unit) (fun (_:Unit)=>[(7,.int .u8 (most ds k))]) (fun (_:Unit)=>H) (fun (_:Unit)=>obj g3 (.cells (bytesC m).toArray 65 (0,0))::L) (fun (_:Unit)=>True) ?_ ?_)))
  ·
   intro _ hMt1;refine Je fun _ hK9 _=>(Jb (Jg (Jc rfl) rfl (Jg (Jc rfl) rfl (Jg (Jq u22 rfl rfl) rfl (Jg (JK rfl rfl) rfl (Jf (Ja (hK9 (Jk rfl (fun hc16=>?_) (fun hc16=>?_))))))))))
   ·
    refine Je fun _ hK10 _=>(Jb (Jg (Jd rfl) rfl (Jf (Ja (hK10 (Je fun _ hK11 _=>(Jb (Jg (Jc rfl) rfl (Jg (Jc rfl) rfl (Jg (Eg u22 sz2 rfl rfl rfl (by omega) hds.sm) rfl (Jg (JW rfl (hds _ (by omega)) pl2) rfl (Jg (EG rfl rfl (by decide) rfl) rfl (Jg (EB rfl rfl) rfl (Jf (Ja (hK11 ?_))))))))))))))));refine Jk rfl (fun hc22=>?_) (fun hc22=>?_)
    ·
     refine Jb (Jg (Jd rfl) rfl (Jf (Ja ?_)));exact hMt1 () trivial 12 rfl rfl ⟨(vi8 (by unfold most;rw [if_pos (by omega),if_pos hc22])),trivial⟩ rfl rfl
    ·
     refine Ji (Ja ?_);exact hMt1 () trivial 11 rfl rfl ⟨(vi8 (by unfold most;rw [if_pos (by omega),if_neg hc22])),trivial⟩ rfl rfl
   ·
    refine Ji (Ja ?_);exact hMt1 () trivial 4 rfl rfl ⟨(vi8 (by unfold most;rw [if_neg (by omega)])),trivial⟩ rfl rfl
  ·
   rintro _ _;refine Je fun _ hK12 _=>(Jb (Jg (Jc rfl) rfl (Jg (Jc rfl) rfl (Jg (Ep rfl rfl) rfl (Jf (Ja (hK12 (Jk rfl (fun hc25=>?_) (fun hc25=>?_)))))))))
   ·
    refine Je fun _ hK13 _=>(Jb (Jg (Jd rfl) rfl (Jf (Ja (hK13 (Jp (JH (Jh (Jh (JH (Jh (Jt rfl (Res.tmp rfl) fun w hH=>?_))))))))))));replace hH:=hH.tail;exact ⟨by rw [isMono_false (k:=k) (by omega) (by omega)],hH⟩
   ·
    refine Ji (JD (Ja (hK6 (Jb (Jg (Jy rfl rfl (by first | exact nw _ (by omega) | rfl)) rfl (Jg (Jc rfl) rfl (Jf (Ja ?_))))))));exact hAg0 (k+1) ⟨by omega,fun j hj=>by rcases Nat.lt_or_ge j k with h | h;exact hm9 j h;obtain rfl:j=k:=(by omega);omega⟩ (by omega) 13 rfl rfl ⟨rfl,trivial⟩ rfl rfl
 ·
  refine JI (Jl (Jl (JR (Ja (hK2 (Je fun _ hK14 _=>(Jb (Jg (Jd rfl) rfl (Jf (Ja (hK14 (Jp (Jt rfl (Res.tmp rfl) fun w hH=>?_)))))))))))));replace hH:=hH.tail;exact ⟨by rw [isMono_true (fun j hj=>hm9 j (by omega))],hH⟩
def isDeg (ds:List Int):Bool:=decide (ds.length≤8) && ds.all fun x=>decide (1≤x) && decide (x≤12)
theorem all_false {ds:List Int} {p:Int→Bool} {k:Nat} (hk:k<ds.length) (h:p (ds.getD k 0)=false):ds.all p=false:=by
 rw [List.all_eq_false];exact ⟨ds.getD k 0,by rw [List.getD_eq_getElem?_getD,List.getElem?_eq_getElem hk];exact List.getElem_mem hk,by rw [h];simp⟩
theorem all_true {ds:List Int} {p:Int→Bool} (h : ∀j,j<ds.length→p (ds.getD j 0)=true):ds.all p=true:=by
 rw [List.all_eq_true];intro x hx;obtain ⟨j,hj,rfl⟩:=List.mem_iff_getElem.1 hx;have:=h j hj
 rwa [List.getD_eq_getElem?_getD,List.getElem?_eq_getElem hj] at this
theorem isDeg_false {ds:List Int} {k:Nat} (hk:k<ds.length) (h:(decide (1≤ds.getD k 0) && decide (ds.getD k 0≤12))=false):isDeg ds=false:=by
 unfold isDeg;rw [all_false hk h,Bool.and_false]
theorem isDeg_true {ds:List Int} (h : ∀j,j<ds.length→(decide (1≤ds.getD j 0) && decide (ds.getD j 0≤12))=true):isDeg ds=decide ((ds.length:Int)≤8):=by
 unfold isDeg;rw [all_true h,Bool.and_true];exact decide_eq_decide.2 (by omega)
theorem upto {p:Nat→Prop} {k:Nat} (h : ∀j,j<k→p j) (hk:p k) : ∀j,j<k+1→p j:=fun j hj=>by
 rcases Nat.lt_or_ge j k with h1 | h1
 ·exact h j h1
 ·obtain rfl:j=k:=by omega
  exact hk
theorem l01In_c {B:World} {H0 H:HP} {L:List SA} {w:World} {x:Int} {lo:Int} {hi:Int} (hH:Hp B H0 H L w):Calls Tryz.prog 39 [.int .i64 x,.int .i64 lo,.int .i64 hi].toArray w fun e w'=>e = .returned (.bool (decide (lo≤x) && decide (x≤hi)))∧Hp B H0 H L w':=by
 refine JB Tryz.func39 rfl 15 rfl rfl [(0,.int .i64 x),(1,.int .i64 lo),(2,.int .i64 hi)] rfl hH ?_;clear hH;refine Je fun _ hK1 _=>(Jb (Jg (Jd rfl) rfl (Jf (Ja (hK1 (Je fun _ hK2 _=>(Jb (Jg (Jc rfl) rfl (Jg (Jc rfl) rfl (Jg (PR.geq rfl rfl) rfl (Jg (Jc rfl) rfl (Ee (jd:=10) rfl (fun hg10=>?_) (fun hg10=>?_)))))))))))))
 ·
  try have hg10p:=of_decide_eq_true hg10
  refine JQ (Jc rfl) rfl rfl rfl hg10 (JQ (Jc rfl) rfl rfl rfl hg10 (JQ (PR.leq rfl rfl) rfl rfl rfl hg10 (Jg (JU rfl hg10 rfl) rfl (Jg (Jd rfl) rfl (Jf (Ja (hK2 (Jp (Jt rfl (Res.tmp rfl) fun w hH=>?_)))))))));exact ⟨by simp [*],hH⟩
 ·
  try have hg10p:=of_decide_eq_false hg10
  refine JJ rfl rfl rfl hg10 (JJ rfl rfl rfl hg10 (JJ rfl rfl rfl hg10 (Jg (JM rfl hg10 rfl) rfl (Jg (Jd rfl) rfl (Jf (Ja (hK2 (Jp (Jt rfl (Res.tmp rfl) fun w hH=>?_)))))))));exact ⟨by simp [*],hH⟩
theorem l01Degrees_c {B:World} {H0 H:HP} {L:List SA} {w:World} {qds:Option Addr} {cds:Nat} {ds:List Int} (hds:Ints H qds ds) (hn:ds.length≤1048576) (hH:Hp B H0 H L w):Calls Tryz.prog 24 [.slice qds ds.length cds].toArray w fun e w'=>e = .returned (.bool (isDeg ds))∧Hp B H0 H L w':=by
 refine JB Tryz.func24 rfl 19 rfl rfl [(0,.slice qds ds.length cds)] rfl hH ?_;clear hH;refine Je fun _ hK1 _=>(Jb (Jg (Jd rfl) rfl (Jf (Ja (hK1 (Je fun _ hK2 _=>(Je fun _ hK3 _=>(Jb (Jg (Jd rfl) rfl (Jf (Ja (hK3 (Jm (JE (σ:=Nat) (fun (k:Nat)=>[(3,.int .i64 (k:Int))]) (fun (k:Nat)=>H) (fun (k:Nat)=>L) (fun (k:Nat)=>k≤ds.length∧∀j,j<k→(decide (1≤ds.getD j 0) && decide (ds.getD j 0≤12))=true) (fun (k:Nat)=>ds.length - k) 0 ⟨by omega,fun j hj=>by omega⟩ ⟨rfl,trivial⟩ rfl rfl ?_))))))))))))));rintro k hI _ hAg0;have hk:=hI.1;refine Je fun _ hK4 _=>(Je fun _ hK5 _=>(Jb (Jg (Jc rfl) rfl (Jg (Jc rfl) rfl (Jg (Jq u22 rfl rfl) rfl (Jg (JK rfl rfl) rfl (Jf (Ja (hK5 (Jk rfl (fun hc7=>?_) (fun hc7=>?_)))))))))))
 ·
  refine Ji (Ja (hK4 (Je fun _ hK6 _=>(Jm (Je fun _ hK7 _=>(Jb (Jg (Jc rfl) rfl (Jg (Jc rfl) rfl (Jg (Eg u22 sz2 rfl rfl rfl (by omega) hds.sm) rfl (Jg (JW rfl (hds _ (by omega)) pl2) rfl (JF fn39 rfl rfl fun w hH=>(l01In_c hH).mono ?_)))))))))));rintro _ w ⟨rfl,hH⟩;refine ⟨_,rfl,fun a hF=>JV hF hH ?_⟩;refine Jg (Eq rfl) rfl (Jf (Ja (hK7 (Eh rfl (fun hc=>?_) (fun hc=>?_)))))
  ·
   refine Je fun _ hK8 _=>(Jb (Jg (Jd rfl) rfl (Jf (Ja (hK8 (Jp (JH (Jh (Jh (JH (Jh (Jt rfl (Res.tmp rfl) fun w hH=>?_))))))))))));exact ⟨rb (isDeg_false (k:=k) (by omega) (nott hc)).symm,hH⟩
  ·
   refine Ji (JD (Ja (hK6 (Jb (Jg (Jc rfl) rfl (Jg (Jy rfl rfl (by first | exact nw _ (by omega) | rfl)) rfl (Jg (Jd rfl) rfl (Jf (Ja ?_)))))))));exact hAg0 (k+1) ⟨by omega,upto hI.2 (notf hc)⟩ (by omega) 14 rfl rfl ⟨rfl,trivial⟩ rfl rfl
 ·
  refine JI (Jl (Jl (JR (Ja (hK2 (Je fun _ hK9 _=>(Jb (Jg (Jc rfl) rfl (Jg (Jq u22 rfl rfl) rfl (Jg (PR.leq rfl rfl) rfl (Jg (Jd rfl) rfl (Jf (Ja (hK9 (Jp (Jt rfl (Res.tmp rfl) fun w hH=>?_))))))))))))))));exact ⟨rb (isDeg_true (fun j hj=>hI.2 j (by omega))).symm,hH⟩
theorem l01Mono_c {B:World} {H0 H:HP} {L:List SA} {w:World} {qds:Option Addr} {cds:Nat} {ds:List Int} {m:List Int} (hds:Ints H qds ds) (hm:Mono m) (hn:ds.length≤1048576) (hp : ∀j,j<ds.length→0≤ds.getD j 0) (hH:Hp B H0 H L w):Calls Tryz.prog 63 [.slice qds ds.length cds,.agg (bytesC m).toArray].toArray w fun e w'=>e = .returned (.bool (isMono ds m))∧Hp B H0 H L w':=by
 refine JB Tryz.func63 rfl 38 rfl rfl [(0,.slice qds ds.length cds),(1,.agg (bytesC m).toArray)] rfl hH ?_;have hml:=hm.len;clear hH;refine Je fun _ hK1 _=>(Jb (Ei rfl rfl rfl fun g3=>(Jg (Jd rfl) rfl (Jf (Ja (hK1 (Je fun _ hK2 _=>(Je fun _ hK3 _=>(Jb (Jg (Jd rfl) rfl (Jf (Ja (hK3 (Jm (JE (σ:=Nat) (fun (k:Nat)=>[(5,.int .i64 (k:Int))]) (fun (k:Nat)=>H) (fun (k:Nat)=>obj g3 (.cells (bytesC m).toArray 65 (0,0))::L) (fun (k:Nat)=>k≤8∧∀j,j<k→m.getD j 0≤most ds j) (fun (k:Nat)=>8 - k) 0 ⟨by omega,fun j hj=>by omega⟩ ⟨rfl,trivial⟩ rfl rfl ?_)))))))))))))));rintro k hI _ hAg0;have hk:=hI.1;refine Je fun _ hK4 _=>(Je fun _ hK5 _=>(Jb (Jg (Jc rfl) rfl (Jg (JK rfl rfl) rfl (Jf (Ja (hK5 (Jk rfl (fun hc7=>?_) (fun hc7=>?_)))))))))
 ·
  refine Ji (Ja (hK4 (Je fun _ hK6 _=>(Jm (Jm (Je fun _ hK7 _=>(Jb (Jg (Jc rfl) rfl (Jg (Jc rfl) rfl (Jg (Jq u22 rfl rfl) rfl (Jg (PR.geq rfl rfl) rfl (Jg (Jd rfl) rfl (Jf (Ja (hK7 (Jk rfl (fun h10=>?_) (fun h10=>?_)))))))))))))))))
  ·
   refine Je fun _ hK8 _=>(Jb (Jg (Jc rfl) rfl (Jg (JN u65 sz5 rfl rfl rfl (by omega)) rfl (Jg (Jr rfl At.z (by first | exact bytesC_get (by simp [*];omega) | exact intsC_get (by simp [*];omega)) pl5) rfl (Jg (Eo rfl rfl) rfl (Jf (Ja (hK8 (Jk rfl (fun h18=>?_) (fun h18=>?_))))))))))
   ·
    refine Je fun _ hK9 _=>(Jb (Jg (Jd rfl) rfl (Jf (Ja (hK9 (Jp (JH (JH (Jh (Jh (JH (Jh (Jt rfl (Res.tmp rfl) fun w hH=>?_)))))))))))));replace hH:=hH.tail;exact ⟨rb (isMono_false (k:=k) (by omega) (by rw [most_ge h10];have:=(hm.bd k).1;omega)).symm,hH⟩
   ·
    refine Ji (JD (JD (Ja (hK6 (Jb (Jg (Jc rfl) rfl (Jg (Jy rfl rfl (by first | exact nw _ (by omega) | rfl)) rfl (Jg (Jd rfl) rfl (Jf (Ja ?_))))))))));exact hAg0 (k+1) ⟨by omega,upto hI.2 (by rw [most_ge h10];omega)⟩ (by omega) 15 rfl rfl ⟨rfl,trivial⟩ rfl rfl
  ·
   refine Je fun _ hK10 _=>(Jb (Jg (Jc rfl) rfl (Jg (JN u65 sz5 rfl rfl rfl (by omega)) rfl (Jg (Jr rfl At.z (by first | exact bytesC_get (by simp [*];omega) | exact intsC_get (by simp [*];omega)) pl5) rfl (Jg (Ep rfl rfl) rfl (Jg (Jc rfl) rfl (Ee (jd:=24) rfl (fun h24=>?_) (fun h24=>?_))))))))
   ·
    try have h24p:=of_decide_eq_true h24
    refine JJ rfl rfl rfl h24 (JJ rfl rfl rfl h24 (JJ rfl rfl rfl h24 (JJ rfl rfl rfl h24 (JJ rfl rfl rfl h24 (JJ rfl rfl rfl h24 (JJ rfl rfl rfl h24 (J.gu rfl rfl rfl (J.gu rfl rfl rfl (J.gu rfl rfl rfl (J.gu rfl rfl rfl (JJ rfl rfl rfl h24 (Jg (JU rfl h24 rfl) rfl (Jg (Jd rfl) rfl (Jf ?_))))))))))))));refine Ja (hK10 (Er rfl (Je fun _ hK11 _=>(Jb (Jg (Jd rfl) rfl (Jf (Ja (hK11 (Jp (JH (JH (Jh (Jh (JH (Jh (Jt rfl (Res.tmp rfl) fun w hH=>?_))))))))))))))));replace hH:=hH.tail;exact ⟨rb (isMono_false (k:=k) (by omega) (by have:most ds k≤20:=(by unfold most;split <;> (try split) <;> omega);omega)).symm,hH⟩
   ·
    try have h24p:=of_decide_eq_false h24
    refine JQ (Jc rfl) rfl rfl rfl h24 (JQ (Jc rfl) rfl rfl rfl h24 (JQ (Eg u22 sz2 rfl rfl rfl (by omega) hds.sm) rfl rfl rfl h24 (JQ (JW rfl (hds _ (by omega)) pl2) rfl rfl rfl h24 (JQ (EG rfl rfl (by decide) rfl) rfl rfl rfl h24 (JQ (Eo rfl rfl) rfl rfl rfl h24 (JQ (Jc rfl) rfl rfl rfl h24 (Ee (jd:=31) rfl (fun h31=>?_) (fun h31=>?_))))))))
    ·
     try have h31p:=of_decide_eq_true h31
     refine JQ (Jc rfl) rfl rfl rfl h31 (JQ (JN u65 sz5 rfl rfl rfl (by omega)) rfl rfl rfl h31 (JQ (Jr rfl At.z (by first | exact bytesC_get (by simp [*];omega) | exact intsC_get (by simp [*];omega)) pl5) rfl rfl rfl h31 (JQ (Ep rfl rfl) rfl rfl rfl h31 (JQ (JU rfl h31 rfl) rfl rfl rfl h24 (Jg (JM rfl h24 rfl) rfl (Jg (Jd rfl) rfl (Jf (Ja (hK10 (Jk rfl (fun h19=>?_) (fun h19=>?_)))))))))))
     ·
      refine Je fun _ hK12 _=>(Jb (Jg (Jd rfl) rfl (Jf (Ja (hK12 (Jp (JH (JH (Jh (Jh (JH (Jh (Jt rfl (Res.tmp rfl) fun w hH=>?_)))))))))))));replace hH:=hH.tail;exact ⟨rb (isMono_false (k:=k) (by omega) (by rw [most_odd h10 h31p (hp k (by omega))];omega)).symm,hH⟩
     ·
      refine Ji (JD (JD (Ja (hK6 (Jb (Jg (Jc rfl) rfl (Jg (Jy rfl rfl (by first | exact nw _ (by omega) | rfl)) rfl (Jg (Jd rfl) rfl (Jf (Ja ?_))))))))));exact hAg0 (k+1) ⟨by omega,upto hI.2 (by rw [most_odd h10 h31p (hp k (by omega))];omega)⟩ (by omega) 30 rfl rfl ⟨rfl,trivial⟩ rfl rfl
    ·
     try have h31p:=of_decide_eq_false h31
     refine JJ rfl rfl rfl h31 (JJ rfl rfl rfl h31 (JJ rfl rfl rfl h31 (JJ rfl rfl rfl h31 (JQ (JM rfl h31 rfl) rfl rfl rfl h24 (Jg (JM rfl h24 rfl) rfl (Jg (Jd rfl) rfl (Jf (Ja (hK10 (Ev rfl (Ji (JD (JD (Ja (hK6 (Jb ?_))))))))))))))));refine Jg (Jc rfl) rfl (Jg (Jy rfl rfl (by first | exact nw _ (by omega) | rfl)) rfl (Jg (Jd rfl) rfl (Jf (Ja ?_))));exact hAg0 (k+1) ⟨by omega,upto hI.2 (by rw [most_even h10 h31p];omega)⟩ (by omega) 30 rfl rfl ⟨rfl,trivial⟩ rfl rfl
 ·
  refine JI (Jl (Jl (JR (Ja (hK2 (Je fun _ hK13 _=>(Jb (Jg (Jd rfl) rfl (Jf (Ja (hK13 (Jp (Jt rfl (Res.tmp rfl) fun w hH=>?_)))))))))))));replace hH:=hH.tail;exact ⟨rb (isMono_true (fun j hj=>hI.2 j (by omega))).symm,hH⟩
theorem by2:Bytes Tryz.prog 2 8:=by unfold Bytes;kernel_rfl
theorem ze2:Zero Tryz.prog 2 [.int .i64 0]:=by unfold Zero;kernel_rfl
theorem fn43:Fn Tryz.prog 43:=⟨_,Tryz.func43,by kernel_rfl,rfl⟩
theorem fn44:Fn Tryz.prog 44:=⟨_,Tryz.func44,by kernel_rfl,rfl⟩
theorem fn45:Fn Tryz.prog 45:=⟨_,Tryz.func45,by kernel_rfl,rfl⟩
theorem fn67:Fn Tryz.prog 67:=⟨_,Tryz.func67,by kernel_rfl,rfl⟩
theorem foll0:Tryz.prog.follows .mixedOrders=true:=by kernel_rfl
theorem list_eq_of {xs ys:List Int} (hl:(xs.length:Int)=ys.length) (h : ∀j,j<xs.length→xs.getD j 0=ys.getD j 0):xs=ys:=by
 apply List.ext_getElem (by omega);intro j h1 h2;have:=h j h1
 rwa [List.getD_eq_getElem?_getD,List.getD_eq_getElem?_getD,List.getElem?_eq_getElem h1,List.getElem?_eq_getElem h2] at this
theorem eqInt64S_c {B:World} {H0 H:HP} {L:List SA} {w:World} {qxs:Option Addr} {cxs:Nat} {xs:List Int} {qys:Option Addr} {cys:Nat} {ys:List Int} (hxs:Ints H qxs xs) (hys:Ints H qys ys) (hn:xs.length≤1048576) (hH:Hp B H0 H L w):Calls Tryz.prog 14 [.slice qxs xs.length cxs,.slice qys ys.length cys].toArray w fun e w'=>e = .returned (.bool (decide (xs=ys)))∧Hp B H0 H L w':=by
 refine JB Tryz.func14 rfl 26 rfl rfl [(0,.slice qxs xs.length cxs),(1,.slice qys ys.length cys)] rfl hH ?_;clear hH;refine Je fun _ hK1 _=>(Jb (Jg (Jd rfl) rfl (Jf (Ja (hK1 (Je fun _ hK2 _=>(Je fun _ hK3 _=>(Jb (Jg (Jc rfl) rfl (Jg (Jq u22 rfl rfl) rfl (Jg (Jc rfl) rfl (Jg (Jq u22 rfl rfl) rfl (Jg (Eo rfl rfl) rfl (Jf (Ja (hK3 ?_))))))))))))))));refine Jk rfl (fun h10=>?_) (fun h10=>?_)
 ·
  refine Je fun _ hK4 _=>(Jb (Jg (Jd rfl) rfl (Jf (Ja (hK4 (Jp (Jh (Jt rfl (Res.tmp rfl) fun w hH=>?_))))))));exact ⟨rb (decide_eq_false (fun e=>h10 (by rw [e]))).symm,hH⟩
 ·
  refine Ji (Ja (hK2 (Je fun _ hK5 _=>(Je fun _ hK6 _=>(Jb (Jg (Jd rfl) rfl (Jf (Ja (hK6 (Jm (JE (σ:=Nat) (fun (k:Nat)=>[(5,.int .i64 (k:Int))]) (fun (k:Nat)=>H) (fun (k:Nat)=>L) (fun (k:Nat)=>k≤xs.length∧∀j,j<k→xs.getD j 0=ys.getD j 0) (fun (k:Nat)=>xs.length - k) 0 ⟨by omega,fun j hj=>by omega⟩ ⟨rfl,trivial⟩ rfl rfl ?_)))))))))));rintro k hI _ hAg0;have hk:=hI.1;refine Je fun _ hK7 _=>(Je fun _ hK8 _=>(Jb (Jg (Jc rfl) rfl (Jg (Jc rfl) rfl (Jg (Jq u22 rfl rfl) rfl (Jg (JK rfl rfl) rfl (Jf (Ja (hK8 (Jk rfl (fun hc14=>?_) (fun hc14=>?_)))))))))))
  ·
   refine Ji (Ja (hK7 (Je fun _ hK9 _=>(Jm (Je fun _ hK10 _=>(Ez foll0 (by kernel_rfl) (JG (Jc rfl) rfl (JG (Jc rfl) rfl (JG (Eg u22 sz2 rfl rfl rfl (by omega) hxs.sm) rfl (JG (JW rfl (hxs _ (by omega)) pl2) rfl (JG (Jc rfl) rfl (JG (Jc rfl) rfl (JG (Eg u22 sz2 rfl rfl rfl (by omega) hys.sm) rfl (JG (JW rfl (hys _ (by omega)) pl2) rfl (JG (Eo rfl rfl) rfl ?_)))))))))))))));refine Ef (Ja (hK10 (Jk rfl (fun h25=>?_) (fun h25=>?_))))
   ·
    refine Je fun _ hK11 _=>(Jb (Jg (Jd rfl) rfl (Jf (Ja (hK11 (Jp (JH (Jh (Jh (JH (Jh (Jt rfl (Res.tmp rfl) fun w hH=>?_))))))))))));exact ⟨rb (decide_eq_false (fun e=>h25 (by rw [e]))).symm,hH⟩
   ·
    refine Ji (JD (Ja (hK9 (Jb (Jg (Jc rfl) rfl (Jg (Jy rfl rfl (by first | exact nw _ (by omega) | rfl)) rfl (Jg (Jd rfl) rfl (Jf (Ja ?_)))))))));exact hAg0 (k+1) ⟨by omega,upto hI.2 (by omega)⟩ (by omega) 17 rfl rfl ⟨rfl,trivial⟩ rfl rfl
  ·
   refine JI (Jl (Jl (JR (Ja (hK5 (Je fun _ hK12 _=>(Jb (Jg (Jd rfl) rfl (Jf (Ja (hK12 (Jp (Jt rfl (Res.tmp rfl) fun w hH=>?_)))))))))))));exact ⟨rb (decide_eq_true (list_eq_of (by omega) (fun j hj=>hI.2 j (by omega)))).symm,hH⟩
theorem toInt64S_c {B:World} {H0 H:HP} {L:List SA} {w:World} {qxs:Option Addr} {cxs:Nat} {xs:List Int} (hxs:Ints H qxs xs) (hn:xs.length≤1048576) (hH:Hp B H0 H L w):Calls Tryz.prog 11 [.slice qxs xs.length cxs].toArray w fun e w'=>∃q c,e = .returned (.slice q xs.length c)∧Hp B H0 H (own 2 1 q xs.length c (intsC xs)::L) w':=by
 refine JB Tryz.func11 rfl 22 rfl rfl [(0,.slice qxs xs.length cxs)] rfl hH ?_;clear hH;refine Je fun _ hK1 _=>(Jb (Jg (Jd rfl) rfl (Jf (Ja (hK1 (Je fun _ hK2 _=>(Jb (Jg (Jc rfl) rfl (Jg (Jq u22 rfl rfl) rfl (J.makeI u22 ze2 sz2 by2 rfl rfl rfl rfl (by omega) rfl fun g7=>(Jg (Jd rfl) rfl (Jf (Ja (hK2 (Je fun _ hK3 _=>(Je fun _ hK4 _=>?_))))))))))))))));refine Jb (Jg (Jd rfl) rfl (Jf (Ja (hK4 (Jm (JE (σ:=Nat) (fun (k:Nat)=>[(4,.int .i64 (k:Int))]) (fun (k:Nat)=>H) (fun (k:Nat)=>obj g7 (.cells (intsC (xs.take k++List.replicate (xs.length - k) 0)).toArray 2 (0,0))::L) (fun (k:Nat)=>k≤xs.length) (fun (k:Nat)=>xs.length - k) 0 (by omega) ⟨rfl,trivial⟩ rfl rfl ?_))))));rintro k hI _ hAg0;refine Je fun _ hK5 _=>(Je fun _ hK6 _=>(Jb (Jg (Jc rfl) rfl (Jg (Jc rfl) rfl (Jg (Jq u22 rfl rfl) rfl (Jg (JK rfl rfl) rfl (Jf (Ja (hK6 (Jk rfl (fun hc11=>?_) (fun hc11=>?_)))))))))))
 ·
  refine Ji (Ja (hK5 (Je fun _ hK7 _=>(Jm (Jb (Jg (Jc rfl) rfl (Jg (Jc rfl) rfl (Jg (Jc rfl) rfl (Jg (Jc rfl) rfl (Jg (Eg u22 sz2 rfl rfl rfl (by omega) hxs.sm) rfl (Jg (JW rfl (hxs _ (by omega)) pl2) rfl (Jg (PR.idxO1 u22 sz2 rfl rfl rfl (by omega)) rfl (J.storeI rfl rfl sz2 (by simp;omega) At.z (Jf (JD ?_)))))))))))))));refine Ja (hK7 (Jb (Jg (Jc rfl) rfl (Jg (Jy rfl rfl (by first | exact nw _ (by omega) | rfl)) rfl (Jg (Jd rfl) rfl (Jf (Ja ?_)))))));exact hAg0 (k+1) (by omega) (by omega) 15 rfl rfl ⟨rfl,trivial⟩ rfl (by rw [← fill_step (by omega)])
 ·
  refine JI (Jl (Jl (JR (Ja (hK3 (Je fun _ hK8 _=>(Jb (Jg (Jc rfl) rfl (Jg (Jd rfl) rfl (Jf (Ja (hK8 (Jp (Jt rfl (Res.tmp rfl) fun w hH=>?_))))))))))))))
  obtain rfl:k=xs.length:=by omega
  rw [fill_end] at hH;exact ⟨_,_,rfl,own_full _ 1 hH (by simp) (by simp only [maxLen];omega)⟩
def idxOf (xs:List Int) (p:Int→Bool):Int:=if xs.any p then (xs.findIdx p:Int) else -1
theorem idxOf_hit {xs:List Int} {p:Int→Bool} {k:Nat} (hk:k<xs.length) (h : ∀j,j<k→p (xs.getD j 0)=false) (hp:p (xs.getD k 0)=true):idxOf xs p=k:=by
 have hg : ∀j,(hj:j<xs.length)→xs[j]=xs.getD j 0:=fun j hj=>by rw [List.getD_eq_getElem?_getD,List.getElem?_eq_getElem hj];rfl
 unfold idxOf;have ha:xs.any p=true:=List.any_eq_true.2 ⟨xs[k],List.getElem_mem hk,by rw [hg];exact hp⟩;rw [if_pos ha]
 have:xs.findIdx p=k:=by
  rw [List.findIdx_eq hk];exact ⟨by rw [hg];exact hp,fun j hj=>by rw [hg];exact h j hj⟩
 rw [this]
theorem idxOf_miss {xs:List Int} {p:Int→Bool} (h : ∀j,j<xs.length→p (xs.getD j 0)=false):idxOf xs p = -1:=by
 unfold idxOf;rw [if_neg];intro ha;obtain ⟨x,hx,hp⟩:=List.any_eq_true.1 ha;obtain ⟨j,hj,rfl⟩:=List.mem_iff_getElem.1 hx;have:=h j hj;rw [List.getD_eq_getElem?_getD,List.getElem?_eq_getElem hj] at this;rw [show (some xs[j]).getD 0=xs[j] from rfl,hp] at this
 cases this
theorem idxOf_ge (xs:List Int) (p:Int→Bool):decide (0≤idxOf xs p)=xs.any p:=by
 unfold idxOf
 by_cases h:xs.any p=true
 ·rw [if_pos h,h];exact decide_eq_true (by omega)
 ·rw [if_neg h]
  have:xs.any p=false:=by simpa using h
  rw [this]
  rfl
theorem isDeg_any {ds:List Int} (h:(ds.length:Int)≤8):(!(ds.any fun x=>!(decide (1≤x) && decide (x≤12))))=isDeg ds:=by
 unfold isDeg;rw [decide_eq_true (by omega),Bool.true_and,List.all_eq_not_any_not]
theorem IndexFuncI_c {B:World} {H0 H:HP} {L:List SA} {w:World} {qxs:Option Addr} {cxs:Nat} {xs:List Int} {gp:Nat} {capp:Array Value} {p:Int→Bool} (hxs:Ints H qxs xs) (hgp:Fn Tryz.prog gp) (hp : ∀(x:Int) (w:World),Hp B H0 H L w→Calls Tryz.prog gp (#[]++[.int .i64 x].toArray++capp) w fun e w'=>e = .returned (.bool (p x))∧Hp B H0 H L w') (hn:xs.length≤1048576) (hH:Hp B H0 H L w):Calls Tryz.prog 67 [.slice qxs xs.length cxs,.func (.func gp) #[] capp].toArray w fun e w'=>e = .returned (.int .i64 (idxOf xs p))∧Hp B H0 H L w':=by
 refine JB Tryz.func67 rfl 19 rfl rfl [(0,.slice qxs xs.length cxs),(1,.func (.func gp) #[] capp)] rfl hH ?_;clear hH;refine Je fun _ hK1 _=>(Jb (Jg (Jd rfl) rfl (Jf (Ja (hK1 (Je fun _ hK2 _=>(Je fun _ hK3 _=>(Jb (Jg (Jc rfl) rfl (Jg (Jq u22 rfl rfl) rfl (Jg (Jc rfl) rfl (Jf (Ja (hK3 (Jm (JE (σ:=Nat) (fun (k:Nat)=>[(8,.int .i64 (k:Int))]) (fun (k:Nat)=>H) (fun (k:Nat)=>L) (fun (k:Nat)=>k≤xs.length∧∀j,j<k→p (xs.getD j 0)=false) (fun (k:Nat)=>xs.length - k) 0 ⟨by omega,fun j hj=>by omega⟩ ⟨rfl,trivial⟩ rfl rfl ?_))))))))))))))));rintro k hI _ hAg0;have hk:=hI.1;refine Je fun _ hK4 _=>(Jb (Jg (JK rfl rfl) rfl (Jf (Ja (hK4 (Je fun _ hK5 _=>(Jk rfl (fun hc9=>?_) (fun hc9=>?_))))))))
 ·
  refine Ji (Ja (hK5 (Je fun _ hK6 _=>(Jm (Je fun _ hK7 _=>(Jb (Jg (Jc rfl) rfl (Jg (Jd rfl) rfl (Jf (Ja (hK7 (Je fun _ hK8 _=>(Jb (Jg (Jc rfl) rfl (Jg (Jc rfl) rfl (Jg (Jc rfl) rfl ?_))))))))))))))));refine Jg (Eg u22 sz2 rfl rfl rfl (by omega) hxs.sm) rfl (Jg (JW rfl (hxs _ (by omega)) pl2) rfl (J.callV hgp rfl rfl rfl fun w hH=>(hp _ w hH).mono ?_));rintro _ w ⟨rfl,hH⟩;refine ⟨_,rfl,fun a hF=>JV hF hH ?_⟩;refine Jf (Ja (hK8 (Eh rfl (fun h16=>?_) (fun h16=>?_))))
  ·
   refine Je fun _ hK9 _=>(Jb (Jg (Jc rfl) rfl (Jg (Jd rfl) rfl (Jf (Ja (hK9 (Jp (JH (Jh (Jh (JH (Jh (Jt rfl (Res.tmp rfl) fun w hH=>?_)))))))))))));exact ⟨ri (idxOf_hit (by omega) hI.2 h16).symm,hH⟩
  ·
   refine Ji (JD (Ja (hK6 (Jb (Jg (Jy rfl rfl (by first | exact nw _ (by omega) | rfl)) rfl (Jg (Jc rfl) rfl (Jf (Ja ?_))))))));exact hAg0 (k+1) ⟨by omega,upto hI.2 h16⟩ (by omega) 12 rfl rfl ⟨rfl,trivial⟩ rfl rfl
 ·
  refine JI (Jl (Jl (JR (Ja (hK2 (Je fun _ hK10 _=>(Jb (Jg (Jd rfl) rfl (Jf (Ja (hK10 (Jp (Jt rfl (Res.tmp rfl) fun w hH=>?_)))))))))))));exact ⟨ri (idxOf_miss (fun j hj=>hI.2 j (by omega))).symm,hH⟩
theorem ContainsFuncI_c {B:World} {H0 H:HP} {L:List SA} {w:World} {qxs:Option Addr} {cxs:Nat} {xs:List Int} {gp:Nat} {capp:Array Value} {p:Int→Bool} (hxs:Ints H qxs xs) (hgp:Fn Tryz.prog gp) (hp : ∀(x:Int) (w:World),Hp B H0 H L w→Calls Tryz.prog gp (#[]++[.int .i64 x].toArray++capp) w fun e w'=>e = .returned (.bool (p x))∧Hp B H0 H L w') (hn:xs.length≤1048576) (hH:Hp B H0 H L w):Calls Tryz.prog 43 [.slice qxs xs.length cxs,.func (.func gp) #[] capp].toArray w fun e w'=>e = .returned (.bool (xs.any p))∧Hp B H0 H L w':=by
 refine JB Tryz.func43 rfl 9 rfl rfl [(0,.slice qxs xs.length cxs),(1,.func (.func gp) #[] capp)] rfl hH ?_;clear hH;refine Je fun _ hK1 _=>(Jb (Jg (Jd rfl) rfl (Jf (Ja (hK1 (Je fun _ hK2 _=>(Jb (Jg (Jc rfl) rfl (Jg (Jc rfl) rfl (JF fn67 rfl rfl fun w hH=>(IndexFuncI_c hxs hgp hp (by omega) hH).mono ?_))))))))));rintro _ w ⟨rfl,hH⟩;refine ⟨_,rfl,fun a hF=>JV hF hH ?_⟩;refine Jg (PR.geq rfl rfl) rfl (Jg (Jd rfl) rfl (Jf (Ja (hK2 (Jp (Jt rfl (Res.tmp rfl) fun w hH=>?_))))));exact ⟨rb (idxOf_ge xs p),hH⟩
theorem AreDegrees1_c {B:World} {H0 H:HP} {L:List SA} {w:World} {x:Int} (hH:Hp B H0 H L w):Calls Tryz.prog 44 [.int .i64 x].toArray w fun e w'=>e = .returned (.bool (!(decide (1≤x) && decide (x≤12))))∧Hp B H0 H L w':=by
 refine JB Tryz.func44 rfl 6 rfl rfl [(0,.int .i64 x)] rfl hH ?_;clear hH;refine Je fun _ hK1 _=>(Jb (Jg (Jd rfl) rfl (Jf (Ja (hK1 (Je fun _ hK2 _=>(Jb (Jg (Jc rfl) rfl (JF fn45 rfl rfl fun w hH=>(within_c hH).mono ?_)))))))));rintro _ w ⟨rfl,hH⟩;refine ⟨_,rfl,fun a hF=>JV hF hH ?_⟩;refine Jg (Eq rfl) rfl (Jg (Jd rfl) rfl (Jf (Ja (hK2 (Jp (Jt rfl (Res.tmp rfl) fun w hH=>?_))))));exact ⟨rfl,hH⟩
theorem AreDegrees_c {B:World} {H0 H:HP} {L:List SA} {w:World} {qds:Option Addr} {cds:Nat} {ds:List Int} (hds:Ints H qds ds) (hn:ds.length≤1048576) (hH:Hp B H0 H L w):Calls Tryz.prog 26 [.slice qds ds.length cds].toArray w fun e w'=>e = .returned (.bool (isDeg ds))∧Hp B H0 H L w':=by
 refine JB Tryz.func26 rfl 11 rfl rfl [(0,.slice qds ds.length cds)] rfl hH ?_;clear hH;refine Je fun _ hK1 _=>(Jb (Jg (Jd rfl) rfl (Jf (Ja (hK1 (Je fun _ hK2 _=>(Jb (Jg (Jc rfl) rfl (Jg (Jq u22 rfl rfl) rfl (Jg (PR.leq rfl rfl) rfl (Jg (Jc rfl) rfl (Ee (jd:=6) rfl (fun hg6=>?_) (fun hg6=>?_)))))))))))))
 ·
  try have hg6p:=of_decide_eq_true hg6
  refine JQ (Jc rfl) rfl rfl rfl hg6 (J.gcall fn43 rfl rfl hg6 rfl rfl fun w hH=>(ContainsFuncI_c hds fn44 (fun x w hH=>by simpa only [Array.append_empty,Array.empty_append] using AreDegrees1_c hH) (by omega) hH).mono ?_);rintro _ w ⟨rfl,hH⟩;refine ⟨_,rfl,fun a hF=>JV hF hH ?_⟩;refine JQ (Eq rfl) rfl rfl rfl hg6 (Jg (JU rfl hg6 rfl) rfl (Jg (Jd rfl) rfl (Jf (Ja (hK2 (Jp (Jt rfl (Res.tmp rfl) fun w hH=>?_)))))));exact ⟨rb (isDeg_any hg6p),hH⟩
 ·
  try have hg6p:=of_decide_eq_false hg6
  refine JJ rfl rfl rfl hg6 (JJ rfl rfl rfl hg6 (JJ rfl rfl rfl hg6 (Jg (JM rfl hg6 rfl) rfl (Jg (Jd rfl) rfl (Jf (Ja (hK2 (Jp (Jt rfl (Res.tmp rfl) fun w hH=>?_)))))))));exact ⟨rb (by unfold isDeg;rw [decide_eq_false (by omega)];rfl),hH⟩
theorem u3:Tryz.prog.underlying 3=some (TypeDesc.int .i64):=by kernel_rfl
theorem u97:Tryz.prog.underlying 97=some (TypeDesc.array 8 3):=by kernel_rfl
theorem sz3:Size Tryz.prog 3 1:=by unfold Size;kernel_rfl
theorem sz97:Size Tryz.prog 97 8:=by unfold Size;kernel_rfl
theorem ze97:Zero Tryz.prog 97 [.int .i64 0,.int .i64 0,.int .i64 0,.int .i64 0,.int .i64 0,.int .i64 0,.int .i64 0,.int .i64 0]:=by unfold Zero;kernel_rfl
theorem bz97 : ∀w,(Instr.build 97 #[]).run Tryz.prog w = .ok (.agg [.int .i64 0,.int .i64 0,.int .i64 0,.int .i64 0,.int .i64 0,.int .i64 0,.int .i64 0,.int .i64 0].toArray) w:=fun _=>by kernel_rfl
theorem pl3:Plain Tryz.prog 3:=⟨_,u3,rfl⟩
theorem ag97:Agg Tryz.prog 97 8:=⟨_,u97,rfl,by kernel_rfl⟩
def wsum (ds m:List Int):Nat→Int
 | 0=>0
 | k+1=>wsum ds m k+ds.getD k 0 * m.getD k 0
theorem mul_bd {a b A B:Int} (h1:0≤a∧a≤A) (h2:0≤b∧b≤B):0≤a * b∧a * b≤A * B:=
 ⟨Int.mul_nonneg h1.1 h2.1,Int.mul_le_mul h1.2 h2.2 h2.1 (by omega)⟩
theorem wsum_bd {ds m:List Int} {M:Int} (hd : ∀j,0≤ds.getD j 0∧ds.getD j 0≤12) (hm : ∀j,0≤m.getD j 0∧m.getD j 0≤M) : ∀k:Nat,0≤wsum ds m k∧wsum ds m k≤k * (12 * M)
 | 0=>by simp [wsum]
 | k+1=>by
  have h1:=wsum_bd hd hm k
  have h2:=mul_bd (hd k) (hm k)
  have e:((k+1:Nat):Int) * (12 * M)=k * (12 * M)+12 * M:=by rw [Int.natCast_add,Int.add_mul];simp
  rw [e]
  simp only [wsum]
  omega
theorem isDeg_bd {ds:List Int} (h:isDeg ds=true) : ∀j,0≤ds.getD j 0∧ds.getD j 0≤12:=by
 intro j
 rcases Nat.lt_or_ge j ds.length with hj | hj
 ·unfold isDeg at h;rw [Bool.and_eq_true] at h;have:=List.all_eq_true.1 h.2 (ds.getD j 0) (by rw [List.getD_eq_getElem?_getD,List.getElem?_eq_getElem hj];exact List.getElem_mem hj);rw [Bool.and_eq_true,decide_eq_true_eq,decide_eq_true_eq] at this
  omega
 ·rw [List.getD_eq_getElem?_getD,List.getElem?_eq_none hj]
  simp
theorem isDeg_len {ds:List Int} (h:isDeg ds=true):ds.length≤8:=by
 unfold isDeg at h;rw [Bool.and_eq_true,decide_eq_true_eq] at h;exact h.1
def Small (p:List Int):Prop:=∀j,0≤p.getD j 0∧p.getD j 0≤1000000
theorem Mono.small {m:List Int} (h:Mono m):Small m:=fun j=>by have:=h.bd j;omega
theorem powerOf_c {B:World} {H0 H:HP} {L:List SA} {w:World} {m:List Int} (hm:Mono m) (hH:Hp B H0 H L w):Calls Tryz.prog 71 [.agg (bytesC m).toArray].toArray w fun e w'=>e = .returned (.agg (intsC m).toArray)∧Hp B H0 H L w':=by
 refine JB Tryz.func71 rfl 18 rfl rfl [(0,.agg (bytesC m).toArray)] rfl hH ?_;have hml:=hm.len;clear hH;refine Je fun _ hK1 _=>(Jb (Ei rfl rfl rfl fun g1=>(JP ze97 rfl fun g2=>(Jf (Ja (hK1 (Je fun _ hK2 _=>(Jb (Jg (JY bz97) rfl (JP ze97 rfl fun g3=>(Jo rfl rfl (by first | exact bytesC_one _ | exact intsC_one _ | exact Term.c_one _ | simp [Value.oneCell']) (by simpa [*] using sz97) (by simp [*]) At.z (Jf (Ja (hK2 (Je fun _ hK3 _=>(Je fun _ hK4 _=>?_))))))))))))))));refine Jb (Jg (Js rfl (.s (.s .z)) (by simpa [*] using ag65)) rfl (Jg (Jc rfl) rfl (Jf (Ja (hK4 (Jm (JE (σ:=Nat) (fun (k:Nat)=>[(8,.int .i64 (k:Int))]) (fun (k:Nat)=>H) (fun (k:Nat)=>obj g3 (.cells (intsC (m.take k++List.replicate (m.length - k) 0)).toArray 97 (0,0))::obj g2 (.cells (intsC (List.replicate 8 0)).toArray 97 (0,0))::obj g1 (.cells (bytesC m).toArray 65 (0,0))::L) (fun (k:Nat)=>k≤8) (fun (k:Nat)=>8 - k) 0 (by omega) ⟨rfl,trivial⟩ rfl (by rw [hml];rfl) ?_)))))));rintro k hI _ hAg0;have hb:=hm.bd k;refine Je fun _ hK5 _=>(Jb (Jg (JK rfl rfl) rfl (Jf (Ja (hK5 (Je fun _ hK6 _=>(Jk rfl (fun hc9=>?_) (fun hc9=>?_))))))))
 ·
  refine Ji (Ja (hK6 (Je fun _ hK7 _=>(Jm (Je fun _ hK8 _=>(Jb (Jg (Jc rfl) rfl (Jg (PR.index u65 sz5 pl5 rfl rfl rfl (by omega) (bytesC_get (by omega))) rfl (Jg (Jd rfl) rfl (Jg (Jd rfl) rfl (Jf (Ja (hK8 (Jb (Jg (Jc rfl) rfl (Jg (Jc rfl) rfl ?_))))))))))))))));refine Jg (Ey u5 u3 rfl (by first | exact nw _ (by omega) | rfl)) rfl (Jg (JN u97 sz3 rfl rfl rfl (by omega)) rfl (J.storeI rfl rfl sz3 (by simp;omega) At.z (Jf (JD (Ja (hK7 (Jb (Jg (Jy rfl rfl (by first | exact nw _ (by omega) | rfl)) rfl (Jg (Jc rfl) rfl (Jf (Ja ?_)))))))))));exact hAg0 (k+1) (by omega) (by omega) 12 rfl rfl ⟨rfl,trivial⟩ rfl (by rw [← fill_step (by omega)])
 ·
  refine JI (Jl (Jl (JR (Ja (hK3 (Je fun _ hK9 _=>(Jb (Jg (Js rfl At.z (by simpa [*] using ag97)) rfl (Jo rfl rfl (by first | exact bytesC_one _ | exact intsC_one _ | exact Term.c_one _ | simp [Value.oneCell']) (by simpa [*] using sz97) (by simp [*]) (.s .z) (Jf (Ja (hK9 (Jp (Jt rfl (Res.agg rfl (.s .z) (by simpa [*] using ag97)) fun w hH=>?_))))))))))))));replace hH:=hH.tail;replace hH:=hH.tail;replace hH:=hH.tail
  obtain rfl:k=m.length:=by omega
  exact ⟨by rw [fill_end],hH⟩
theorem degree_c {B:World} {H0 H:HP} {L:List SA} {w:World} {p:List Int} {qds:Option Addr} {cds:Nat} {ds:List Int} (hp:p.length=8) (hds:Ints H qds ds) (hn:ds.length≤8) (hd : ∀j,0≤ds.getD j 0∧ds.getD j 0≤12) (hs:Small p) (hH:Hp B H0 H L w):Calls Tryz.prog 113 [.agg (intsC p).toArray,.slice qds ds.length cds].toArray w fun e w'=>e = .returned (.int .i64 (wsum ds p ds.length))∧Hp B H0 H L w':=by
 refine JB Tryz.func113 rfl 24 rfl rfl [(0,.agg (intsC p).toArray),(1,.slice qds ds.length cds)] rfl hH ?_;clear hH;refine Je fun _ hK1 _=>(Jb (Ei rfl rfl rfl fun g2=>(Jg (Jd rfl) rfl (Jf (Ja (hK1 (Je fun _ hK2 _=>(Jb (Jg (Jd rfl) rfl (Jf (Ja (hK2 (Je fun _ hK3 _=>(Je fun _ hK4 _=>(Jb (Jg (Jc rfl) rfl ?_))))))))))))))));refine Jg (Jq u22 rfl rfl) rfl (Jg (Jc rfl) rfl (Jf (Ja (hK4 (Jm (JE (σ:=Nat) (fun (k:Nat)=>[(10,.int .i64 (k:Int)),(5,.int .i64 (wsum ds p k))]) (fun (k:Nat)=>H) (fun (k:Nat)=>obj g2 (.cells (intsC p).toArray 97 (0,0))::L) (fun (k:Nat)=>k≤ds.length) (fun (k:Nat)=>ds.length - k) 0 (by omega) ⟨rfl,⟨rfl,trivial⟩⟩ rfl rfl ?_))))));rintro k hI _ hAg0;have hk:=hI;have b1:=wsum_bd hd hs k;have b2:=mul_bd (hd k) (hs k);refine Je fun _ hK5 _=>(Jb (Jg (JK rfl rfl) rfl (Jf (Ja (hK5 (Je fun _ hK6 _=>(Jk rfl (fun hc11=>?_) (fun hc11=>?_))))))))
 ·
  refine Ji (Ja (hK6 (Je fun _ hK7 _=>(Jm (Je fun _ hK8 _=>(Jb (Jg (Jc rfl) rfl (Jg (Eg u22 sz2 rfl rfl rfl (by omega) hds.sm) rfl (Jg (JW rfl (hds _ (by omega)) pl2) rfl (Jg (Jd rfl) rfl (Jg (Jd rfl) rfl (Jf (Ja (hK8 (Jb (Jg (Jc rfl) rfl ?_))))))))))))))));refine Jg (Jc rfl) rfl (Jg (Jc rfl) rfl (Jg (JN u97 sz3 rfl rfl rfl (by omega)) rfl (Jg (Jr rfl At.z (by first | exact bytesC_get (by simp [*];omega) | exact intsC_get (by simp [*];omega)) pl3) rfl (Jg (EM rfl rfl (by first | exact nw _ (by omega) | rfl)) rfl (Jg (Jy rfl rfl (by first | exact nw _ (by omega) | rfl)) rfl (Jg (Jd rfl) rfl (Jf (JD (Ja (hK7 (Jb (Jg (Jy rfl rfl (by first | exact nw _ (by omega) | rfl)) rfl (Jg (Jc rfl) rfl (Jf (Ja ?_)))))))))))))));exact hAg0 (k+1) (by omega) (by omega) 18 rfl rfl ⟨rfl,⟨rfl,trivial⟩⟩ rfl rfl
 ·
  refine JI (Jl (Jl (JR (Ja (hK3 (Je fun _ hK9 _=>(Jb (Jg (Jc rfl) rfl (Jg (Jd rfl) rfl (Jf (Ja (hK9 (Jp (Jt rfl (Res.tmp rfl) fun w hH=>?_))))))))))))));replace hH:=hH.tail
  obtain rfl:k=ds.length:=by omega
  exact ⟨rfl,hH⟩
theorem l01Weight_c {B:World} {H0 H:HP} {L:List SA} {w:World} {qds:Option Addr} {cds:Nat} {ds:List Int} {m:List Int} (hds:Ints H qds ds) (hm:Mono m) (hn:ds.length≤8) (hd : ∀j,0≤ds.getD j 0∧ds.getD j 0≤12) (hH:Hp B H0 H L w):Calls Tryz.prog 75 [.slice qds ds.length cds,.agg (bytesC m).toArray].toArray w fun e w'=>e = .returned (.int .i64 (wsum ds m ds.length))∧Hp B H0 H L w':=by
 refine JB Tryz.func75 rfl 25 rfl rfl [(0,.slice qds ds.length cds),(1,.agg (bytesC m).toArray)] rfl hH ?_;have hml:=hm.len;clear hH;refine Je fun _ hK1 _=>(Jb (Ei rfl rfl rfl fun g3=>(Jg (Jd rfl) rfl (Jf (Ja (hK1 (Je fun _ hK2 _=>(Jb (Jg (Jd rfl) rfl (Jf (Ja (hK2 (Je fun _ hK3 _=>(Je fun _ hK4 _=>(Jb (Jg (Jd rfl) rfl ?_))))))))))))))));refine Jf (Ja (hK4 (Jm (JE (σ:=Nat) (fun (k:Nat)=>[(6,.int .i64 (k:Int)),(5,.int .i64 (wsum ds m k))]) (fun (k:Nat)=>H) (fun (k:Nat)=>obj g3 (.cells (bytesC m).toArray 65 (0,0))::L) (fun (k:Nat)=>k≤ds.length) (fun (k:Nat)=>ds.length - k) 0 (by omega) ⟨rfl,⟨rfl,trivial⟩⟩ rfl rfl ?_))));rintro k hI _ hAg0;have hk:=hI;have b1:=wsum_bd hd hm.small k;have b2:=mul_bd (hd k) (hm.small k);have hb:=hm.bd k;refine Je fun _ hK5 _=>(Je fun _ hK6 _=>(Jb (Jg (Jc rfl) rfl (Jg (Jc rfl) rfl (Jg (Jq u22 rfl rfl) rfl (Jg (JK rfl rfl) rfl (Jf (Ja (hK6 (Jk rfl (fun hc10=>?_) (fun hc10=>?_)))))))))))
 ·
  refine Ji (Ja (hK5 (Je fun _ hK7 _=>(Jm (Ez foll0 (by kernel_rfl) (JG (Jc rfl) rfl (JG (Jc rfl) rfl (JG (Jc rfl) rfl (JG (Eg u22 sz2 rfl rfl rfl (by omega) hds.sm) rfl (JG (JW rfl (hds _ (by omega)) pl2) rfl (JG (Jc rfl) rfl (JG (JN u65 sz5 rfl rfl rfl (by omega)) rfl (JG (Jr rfl At.z (by first | exact bytesC_get (by simp [*];omega) | exact intsC_get (by simp [*];omega)) pl5) rfl (JG (Ey u5 u2 rfl (by first | exact nw _ (by omega) | rfl)) rfl (JG (EM rfl rfl (by first | exact nw _ (by omega) | rfl)) rfl ?_)))))))))))))));refine JG (Jy rfl rfl (by first | exact nw _ (by omega) | rfl)) rfl (JG (Jd rfl) rfl (Ef (JD (Ja (hK7 (Jb (Jg (Jc rfl) rfl (Jg (Jy rfl rfl (by first | exact nw _ (by omega) | rfl)) rfl (Jg (Jd rfl) rfl (Jf (Ja ?_)))))))))));exact hAg0 (k+1) (by omega) (by omega) 21 rfl rfl ⟨rfl,⟨rfl,trivial⟩⟩ rfl rfl
 ·
  refine JI (Jl (Jl (JR (Ja (hK3 (Je fun _ hK8 _=>(Jb (Jg (Jc rfl) rfl (Jg (Jd rfl) rfl (Jf (Ja (hK8 (Jp (Jt rfl (Res.tmp rfl) fun w hH=>?_))))))))))))));replace hH:=hH.tail
  obtain rfl:k=ds.length:=by omega
  exact ⟨rfl,hH⟩
theorem u31:Tryz.prog.underlying 31=some (TypeDesc.slice 69):=by kernel_rfl
theorem u33:Tryz.prog.underlying 33=some (TypeDesc.struct #[{name:="Terms",type:=31,offset:=0,embedded:=false,tag:="",pkgPath:="",byteOffset:=0}]):=by kernel_rfl
theorem u69:Tryz.prog.underlying 69=some (TypeDesc.struct #[{name:="Monomial",type:=65,offset:=0,embedded:=false,tag:="",pkgPath:="",byteOffset:=0},{name:="Factor",type:=2,offset:=8,embedded:=false,tag:="",pkgPath:="",byteOffset:=8}]):=by kernel_rfl
theorem sz31:Size Tryz.prog 31 1:=by unfold Size;kernel_rfl
theorem sz65:Size Tryz.prog 65 8:=by unfold Size;kernel_rfl
theorem sz69:Size Tryz.prog 69 9:=by unfold Size;kernel_rfl
theorem pl31:Plain Tryz.prog 31:=⟨_,u31,rfl⟩
theorem ag69:Agg Tryz.prog 69 9:=⟨_,u69,rfl,by kernel_rfl⟩
theorem fn28:Fn Tryz.prog 28:=⟨_,Tryz.func28,by kernel_rfl,rfl⟩
theorem fn49:Fn Tryz.prog 49:=⟨_,Tryz.func49,by kernel_rfl,rfl⟩
theorem fn74:Fn Tryz.prog 74:=⟨_,Tryz.func74,by kernel_rfl,rfl⟩
def cmp (p q:List Int):Int:=match (List.range 8).find? (fun i=>decide (p.getD i 0≠q.getD i 0)) with | some i=>q.getD i 0 - p.getD i 0 | none=>0
def before (a b:List Int):Bool:=decide (cmp a b<0)
theorem range_find {p:Nat→Bool} {k n:Nat} (hk:k<n) (h : ∀j,j<k→p j=false) (hp:p k=true):(List.range n).find? p=some k:=by
 rw [List.find?_eq_some_iff_getElem];exact ⟨hp,k,by simp [hk],by simp,fun j hj=>by simp [h j hj]⟩
theorem range_find_none {p:Nat→Bool} {n:Nat} (h : ∀j,j<n→p j=false):(List.range n).find? p=none:=by
 rw [List.find?_eq_none];intro j hj
 simp [h j (List.mem_range.1 hj)]
theorem cmp_hit {p q:List Int} {k:Nat} (hk:k<8) (h : ∀j,j<k→p.getD j 0=q.getD j 0) (hn:p.getD k 0≠q.getD k 0):cmp p q=q.getD k 0 - p.getD k 0:=by
 unfold cmp;rw [range_find (p:=fun i=>decide (p.getD i 0≠q.getD i 0)) hk (fun j hj=>decide_eq_false (by simpa using h j hj)) (decide_eq_true hn)]
theorem cmp_miss {p q:List Int} (h : ∀j,j<8→p.getD j 0=q.getD j 0):cmp p q=0:=by
 unfold cmp;rw [range_find_none (p:=fun i=>decide (p.getD i 0≠q.getD i 0)) (fun j hj=>decide_eq_false (by simpa using h j hj))]
theorem before_hit {p q:List Int} {k:Nat} (hk:k<8) (h : ∀j,j<k→p.getD j 0=q.getD j 0) (hn:p.getD k 0≠q.getD k 0):before p q=decide (p.getD k 0>q.getD k 0):=by
 unfold before;rw [cmp_hit hk h hn];exact decide_eq_decide.2 (by omega)
theorem before_miss {p q:List Int} (h : ∀j,j<8→p.getD j 0=q.getD j 0):before p q=false:=by
 unfold before;rw [cmp_miss h]
 rfl
def goodAt (ds:List Int) (ts:List Term) (i:Nat):Bool:=
 isMono ds (tm ts i).mono && (decide (1≤(tm ts i).fac) && decide ((tm ts i).fac≤10006)) && (decide (i=0) || before (tm ts (i - 1)).mono (tm ts i).mono)
def isForm (ds:List Int) (ts:List Term):Bool:=decide (ts.length≤400) && (List.range ts.length).all (goodAt ds ts)
theorem isForm_long {ds:List Int} {ts:List Term} (h : ¬(ts.length:Int)≤400):isForm ds ts=false:=by
 unfold isForm;rw [decide_eq_false (by omega)]
 rfl
theorem isForm_bad {ds:List Int} {ts:List Term} {k:Nat} (hk:k<ts.length) (h:goodAt ds ts k=false):isForm ds ts=false:=by
 unfold isForm;rw [Bool.and_eq_false_iff];exact .inr (List.all_eq_false.2 ⟨k,by simpa using hk,by simp [h]⟩)
theorem isForm_good {ds:List Int} {ts:List Term} (h : ∀j,j<ts.length→goodAt ds ts j=true):isForm ds ts=decide ((ts.length:Int)≤400):=by
 unfold isForm;rw [List.all_eq_true.2 (fun j hj=>h j (by simpa using hj)),Bool.and_true];exact decide_eq_decide.2 (by omega)
theorem mono_eq_of {a b:List Int} (ha:Mono a) (hb:Mono b) (h : ∀j,j<8→a.getD j 0=b.getD j 0):a=b:=list_eq_of (by rw [ha.len,hb.len]) (fun j hj=>h j (by rw [ha.len] at hj;exact hj))
theorem eqMonomial_c {B:World} {H0 H:HP} {L:List SA} {w:World} {a:List Int} {b:List Int} (ha:Mono a) (hb:Mono b) (hH:Hp B H0 H L w):Calls Tryz.prog 74 [.agg (bytesC a).toArray,.agg (bytesC b).toArray].toArray w fun e w'=>e = .returned (.bool (decide (a=b)))∧Hp B H0 H L w':=by
 refine JB Tryz.func74 rfl 17 rfl rfl [(0,.agg (bytesC a).toArray),(1,.agg (bytesC b).toArray)] rfl hH ?_;have hal:=ha.len;have hbl:=hb.len;clear hH;refine Je fun _ hK1 _=>(Jb (Ei rfl rfl rfl fun g2=>(Ei rfl rfl rfl fun g3=>(Jg (Jd rfl) rfl (Jf (Ja (hK1 (Je fun _ hK2 _=>(Je fun _ hK3 _=>(Jb (Jg (Jd rfl) rfl (Jf (Ja (hK3 (Jm (JE (σ:=Nat) (fun (k:Nat)=>[(5,.int .i64 (k:Int))]) (fun (k:Nat)=>H) (fun (k:Nat)=>obj g3 (.cells (bytesC b).toArray 65 (0,0))::obj g2 (.cells (bytesC a).toArray 65 (0,0))::L) (fun (k:Nat)=>k≤8∧∀j,j<k→a.getD j 0=b.getD j 0) (fun (k:Nat)=>8 - k) 0 ⟨by omega,fun j hj=>by omega⟩ ⟨rfl,trivial⟩ rfl rfl ?_))))))))))))))));rintro k hI _ hAg0;have hk:=hI.1;refine Je fun _ hK4 _=>(Je fun _ hK5 _=>(Jb (Jg (Jc rfl) rfl (Jg (JK rfl rfl) rfl (Jf (Ja (hK5 (Jk rfl (fun hc7=>?_) (fun hc7=>?_)))))))))
 ·
  refine Ji (Ja (hK4 (Je fun _ hK6 _=>(Jm (Je fun _ hK7 _=>(Ez foll0 (by kernel_rfl) (JG (Jc rfl) rfl (JG (JN u65 sz5 rfl rfl rfl (by omega)) rfl (JG (Jr rfl (.s .z) (by first | exact bytesC_get (by simp [*];omega) | exact intsC_get (by simp [*];omega)) pl5) rfl (JG (Jc rfl) rfl (JG (JN u65 sz5 rfl rfl rfl (by omega)) rfl (JG (Jr rfl At.z (by first | exact bytesC_get (by simp [*];omega) | exact intsC_get (by simp [*];omega)) pl5) rfl (JG (Eo rfl rfl) rfl (Ef (Ja (hK7 ?_))))))))))))))));refine Jk rfl (fun h16=>?_) (fun h16=>?_)
  ·
   refine Je fun _ hK8 _=>(Jb (Jg (Jd rfl) rfl (Jf (Ja (hK8 (Jp (JH (Jh (Jh (JH (Jh (Jt rfl (Res.tmp rfl) fun w hH=>?_))))))))))));replace hH:=hH.tail;replace hH:=hH.tail;exact ⟨rb (decide_eq_false (fun e=>h16 (by rw [e]))).symm,hH⟩
  ·
   refine Ji (JD (Ja (hK6 (Jb (Jg (Jc rfl) rfl (Jg (Jy rfl rfl (by first | exact nw _ (by omega) | rfl)) rfl (Jg (Jd rfl) rfl (Jf (Ja ?_)))))))));exact hAg0 (k+1) ⟨by omega,upto hI.2 (by omega)⟩ (by omega) 13 rfl rfl ⟨rfl,trivial⟩ rfl rfl
 ·
  refine JI (Jl (Jl (JR (Ja (hK2 (Je fun _ hK9 _=>(Jb (Jg (Jd rfl) rfl (Jf (Ja (hK9 (Jp (Jt rfl (Res.tmp rfl) fun w hH=>?_)))))))))))));replace hH:=hH.tail;replace hH:=hH.tail;exact ⟨rb (decide_eq_true (mono_eq_of ha hb (fun j hj=>hI.2 j (by omega)))).symm,hH⟩
theorem eqTerm_c {B:World} {H0 H:HP} {L:List SA} {w:World} {a:Term} {b:Term} (ha:a.wf) (hb:b.wf) (hH:Hp B H0 H L w):Calls Tryz.prog 49 [.agg a.c.toArray,.agg b.c.toArray].toArray w fun e w'=>e = .returned (.bool (decide (a=b)))∧Hp B H0 H L w':=by
 refine JB Tryz.func49 rfl 16 rfl rfl [(0,.agg a.c.toArray),(1,.agg b.c.toArray)] rfl hH ?_;clear hH;refine Je fun _ hK1 _=>(Jb (Ei rfl rfl rfl fun g2=>(Ei rfl rfl rfl fun g3=>(Jg (Jd rfl) rfl (Jf (Ja (hK1 (Je fun _ hK2 _=>(Je fun _ hK3 _=>(Jb (Jg (Ju u69 rfl sz65 rfl) rfl (Jg (ED rfl (.s .z) ha ag65) rfl (Jg (Ju u69 rfl sz65 rfl) rfl (Jg (ED rfl At.z hb ag65) rfl (JF fn74 rfl rfl fun w hH=>(eqMonomial_c ha.mono hb.mono hH).mono ?_)))))))))))))));rintro _ w ⟨rfl,hH⟩;refine ⟨_,rfl,fun a hF=>JV hF hH ?_⟩;refine Jg (Eq rfl) rfl (Jf (Ja (hK3 (Eh rfl (fun h10=>?_) (fun h10=>?_)))))
 ·
  refine Je fun _ hK4 _=>(Jb (Jg (Jd rfl) rfl (Jf (Ja (hK4 (Jp (Jh (Jt rfl (Res.tmp rfl) fun w hH=>?_))))))));replace hH:=hH.tail;replace hH:=hH.tail;exact ⟨rb (decide_eq_false (fun e=>(by rw [e] at h10;simp at h10))).symm,hH⟩
 ·
  refine Ji (Ja (hK2 (Je fun _ hK5 _=>(Je fun _ hK6 _=>(Jb (Jg (Ju u69 rfl sz2 rfl) rfl (Jg (PR.ldFac rfl (.s .z) ha pl2) rfl (Jg (Ju u69 rfl sz2 rfl) rfl (Jg (PR.ldFac rfl At.z hb pl2) rfl (Jg (Eo rfl rfl) rfl (Jf (Ja (hK6 (Jk rfl (fun h15=>?_) (fun h15=>?_)))))))))))))))
  ·
   refine Je fun _ hK7 _=>(Jb (Jg (Jd rfl) rfl (Jf (Ja (hK7 (Jp (Jh (Jt rfl (Res.tmp rfl) fun w hH=>?_))))))));replace hH:=hH.tail;replace hH:=hH.tail;exact ⟨rb (decide_eq_false (fun e=>h15 (by rw [e]))).symm,hH⟩
  ·
   refine Ji (Ja (hK5 (Je fun _ hK8 _=>(Jb (Jg (Jd rfl) rfl (Jf (Ja (hK8 (Jp (Jt rfl (Res.tmp rfl) fun w hH=>?_))))))))));replace hH:=hH.tail;replace hH:=hH.tail;exact ⟨rb (decide_eq_true (Term.eq_of (of_decide_eq_true (notf h10)) (by omega))).symm,hH⟩
theorem eqTermS_c {B:World} {H0 H:HP} {L:List SA} {w:World} {qxs:Option Addr} {cxs:Nat} {xs:List Term} {qys:Option Addr} {cys:Nat} {ys:List Term} (hxs:Terms H qxs xs) (hys:Terms H qys ys) (hn:xs.length≤9223372036854775807) (hH:Hp B H0 H L w):Calls Tryz.prog 28 [.slice qxs xs.length cxs,.slice qys ys.length cys].toArray w fun e w'=>e = .returned (.bool (decide (xs=ys)))∧Hp B H0 H L w':=by
 refine JB Tryz.func28 rfl 27 rfl rfl [(0,.slice qxs xs.length cxs),(1,.slice qys ys.length cys)] rfl hH ?_;clear hH;refine Je fun _ hK1 _=>(Jb (Jg (Jd rfl) rfl (Jf (Ja (hK1 (Je fun _ hK2 _=>(Je fun _ hK3 _=>(Jb (Jg (Jc rfl) rfl (Jg (Jq u31 rfl rfl) rfl (Jg (Jc rfl) rfl (Jg (Jq u31 rfl rfl) rfl (Jg (Eo rfl rfl) rfl (Jf (Ja (hK3 ?_))))))))))))))));refine Jk rfl (fun h10=>?_) (fun h10=>?_)
 ·
  refine Je fun _ hK4 _=>(Jb (Jg (Jd rfl) rfl (Jf (Ja (hK4 (Jp (Jh (Jt rfl (Res.tmp rfl) fun w hH=>?_))))))));exact ⟨rb (decide_eq_false (fun e=>h10 (by rw [e]))).symm,hH⟩
 ·
  refine Ji (Ja (hK2 (Je fun _ hK5 _=>(Je fun _ hK6 _=>(Jb (Jg (Jd rfl) rfl (Jf (Ja (hK6 (Jm (JE (σ:=Nat) (fun (k:Nat)=>[(5,.int .i64 (k:Int))]) (fun (k:Nat)=>H) (fun (k:Nat)=>L) (fun (k:Nat)=>k≤xs.length∧∀j,j<k→tm xs j=tm ys j) (fun (k:Nat)=>xs.length - k) 0 ⟨by omega,fun j hj=>by omega⟩ ⟨rfl,trivial⟩ rfl rfl ?_)))))))))));rintro k hI _ hAg0;have hk:=hI.1;refine Je fun _ hK7 _=>(Je fun _ hK8 _=>(Jb (Jg (Jc rfl) rfl (Jg (Jc rfl) rfl (Jg (Jq u31 rfl rfl) rfl (Jg (JK rfl rfl) rfl (Jf (Ja (hK8 (Jk rfl (fun hc14=>?_) (fun hc14=>?_)))))))))))
  ·
   refine Ji (Ja (hK7 (Je fun _ hK9 _=>(Jm (Je fun _ hK10 _=>(En [[], [], [0,1], [2], [], [], [4,5], [6]] (by kernel_rfl) (Jw (fun gh=>Jc rfl) (Jw (fun gh=>Jc rfl) (Jw (fun gh=>Ej u31 sz69 rfl rfl rfl (by omega) hxs.sm) (Jw (fun gh=>JO rfl (hxs.cell _ (by omega)) (hxs.sm (i:=k) (by omega)) (by rw [Term.c_length (hxs.wf _ (by omega))];exact ag69)) (Jw (fun gh=>Jc rfl) (Jw (fun gh=>Jc rfl) (Jw (fun gh=>Ej u31 sz69 rfl rfl rfl (by omega) hys.sm) (Jw (fun gh=>JO rfl (hys.cell _ (by omega)) (hys.sm (i:=k) (by omega)) (by rw [Term.c_length (hys.wf _ (by omega))];exact ag69)) (Ec 8 1 foll0 (by kernel_rfl) rfl rfl fun gh=>?_)))))))))))))));refine Ek (us':=(17,_)::(18,_)::(19,_)::(20,_)::(21,_)::(22,_)::(23,_)::(24,_)::_) (L':=_) rfl rfl (JF fn49 rfl rfl fun w hH=>(eqTerm_c (hxs.wf k (by omega)) (hys.wf k (by omega)) hH).mono ?_);rintro _ w ⟨rfl,hH⟩;refine ⟨_,rfl,fun a hF=>JV hF hH ?_⟩;refine Jf (Eb (JG (Eq rfl) rfl (Ef (Ja (hK10 (Eh rfl (fun h26=>?_) (fun h26=>?_)))))))
   ·
    refine Je fun _ hK11 _=>(Jb (Jg (Jd rfl) rfl (Jf (Ja (hK11 (Jp (JH (Jh (Jh (JH (Jh (Jt rfl (Res.tmp rfl) fun w hH=>?_))))))))))));exact ⟨rb (decide_eq_false (fun e=>(by rw [e] at h26;simp at h26))).symm,hH⟩
   ·
    refine Ji (JD (Ja (hK9 (Jb (Jg (Jc rfl) rfl (Jg (Jy rfl rfl (by first | exact nw _ (by omega) | rfl)) rfl (Jg (Jd rfl) rfl (Jf (Ja ?_)))))))));exact hAg0 (k+1) ⟨by omega,upto hI.2 (of_decide_eq_true (notf h26))⟩ (by omega) 18 rfl rfl ⟨rfl,trivial⟩ rfl rfl
  ·
   refine JI (Jl (Jl (JR (Ja (hK5 (Je fun _ hK12 _=>(Jb (Jg (Jd rfl) rfl (Jf (Ja (hK12 (Jp (Jt rfl (Res.tmp rfl) fun w hH=>?_)))))))))))));exact ⟨rb (decide_eq_true (terms_eq_of (by omega) (fun j hj=>hI.2 j (by omega)))).symm,hH⟩
theorem eqForm_c {B:World} {H0 H:HP} {L:List SA} {w:World} {qxs:Option Addr} {cxs:Nat} {xs:List Term} {qys:Option Addr} {cys:Nat} {ys:List Term} (hxs:Terms H qxs xs) (hys:Terms H qys ys) (hn:xs.length≤9223372036854775807) (hH:Hp B H0 H L w):Calls Tryz.prog 13 [.agg [.slice qxs xs.length cxs].toArray,.agg [.slice qys ys.length cys].toArray].toArray w fun e w'=>e = .returned (.bool (decide (xs=ys)))∧Hp B H0 H L w':=by
 refine JB Tryz.func13 rfl 11 rfl rfl [(0,.agg [.slice qxs xs.length cxs].toArray),(1,.agg [.slice qys ys.length cys].toArray)] rfl hH ?_;clear hH;refine Je fun _ hK1 _=>(Jb (Ei rfl rfl rfl fun g2=>(Ei rfl rfl rfl fun g3=>(Jg (Jd rfl) rfl (Jf (Ja (hK1 (Je fun _ hK2 _=>(Je fun _ hK3 _=>(Jb (Jg (Ju u33 rfl sz31 rfl) rfl (Jg (Jr rfl (.s .z) rfl pl31) rfl (Jg (Ju u33 rfl sz31 rfl) rfl (Jg (Jr rfl At.z rfl pl31) rfl (JF fn28 rfl rfl fun w hH=>(eqTermS_c hxs hys (by omega) hH).mono ?_)))))))))))))));rintro _ w ⟨rfl,hH⟩;refine ⟨_,rfl,fun a hF=>JV hF hH ?_⟩;refine Jg (Eq rfl) rfl (Jf (Ja (hK3 (Eh rfl (fun h10=>?_) (fun h10=>?_)))))
 ·
  refine Je fun _ hK4 _=>(Jb (Jg (Jd rfl) rfl (Jf (Ja (hK4 (Jp (Jh (Jt rfl (Res.tmp rfl) fun w hH=>?_))))))));replace hH:=hH.tail;replace hH:=hH.tail;exact ⟨rb (nott h10).symm,hH⟩
 ·
  refine Ji (Ja (hK2 (Je fun _ hK5 _=>(Jb (Jg (Jd rfl) rfl (Jf (Ja (hK5 (Jp (Jt rfl (Res.tmp rfl) fun w hH=>?_))))))))));replace hH:=hH.tail;replace hH:=hH.tail;exact ⟨rb (notf h10).symm,hH⟩
theorem l01Before_c {B:World} {H0 H:HP} {L:List SA} {w:World} {a:List Int} {b:List Int} (ha:Mono a) (hb:Mono b) (hH:Hp B H0 H L w):Calls Tryz.prog 64 [.agg (bytesC a).toArray,.agg (bytesC b).toArray].toArray w fun e w'=>e = .returned (.bool (before a b))∧Hp B H0 H L w':=by
 refine JB Tryz.func64 rfl 24 rfl rfl [(0,.agg (bytesC a).toArray),(1,.agg (bytesC b).toArray)] rfl hH ?_;have hal:=ha.len;have hbl:=hb.len;clear hH;refine Je fun _ hK1 _=>(Jb (Ei rfl rfl rfl fun g2=>(Ei rfl rfl rfl fun g3=>(Jg (Jd rfl) rfl (Jf (Ja (hK1 (Je fun _ hK2 _=>(Je fun _ hK3 _=>(Jb (Jg (Jd rfl) rfl (Jf (Ja (hK3 (Jm (JE (σ:=Nat) (fun (k:Nat)=>[(5,.int .i64 (k:Int))]) (fun (k:Nat)=>H) (fun (k:Nat)=>obj g3 (.cells (bytesC b).toArray 65 (0,0))::obj g2 (.cells (bytesC a).toArray 65 (0,0))::L) (fun (k:Nat)=>k≤8∧∀j,j<k→a.getD j 0=b.getD j 0) (fun (k:Nat)=>8 - k) 0 ⟨by omega,fun j hj=>by omega⟩ ⟨rfl,trivial⟩ rfl rfl ?_))))))))))))))));rintro k hI _ hAg0;have hk:=hI.1;refine Je fun _ hK4 _=>(Je fun _ hK5 _=>(Jb (Jg (Jc rfl) rfl (Jg (JK rfl rfl) rfl (Jf (Ja (hK5 (Jk rfl (fun hc7=>?_) (fun hc7=>?_)))))))))
 ·
  refine Ji (Ja (hK4 (Je fun _ hK6 _=>(Jm (Je fun _ hK7 _=>(Ez foll0 (by kernel_rfl) (JG (Jc rfl) rfl (JG (JN u65 sz5 rfl rfl rfl (by omega)) rfl (JG (Jr rfl (.s .z) (by first | exact bytesC_get (by simp [*];omega) | exact intsC_get (by simp [*];omega)) pl5) rfl (JG (Jc rfl) rfl (JG (JN u65 sz5 rfl rfl rfl (by omega)) rfl (JG (Jr rfl At.z (by first | exact bytesC_get (by simp [*];omega) | exact intsC_get (by simp [*];omega)) pl5) rfl (JG (Eo rfl rfl) rfl (Ef (Ja (hK7 ?_))))))))))))))));refine Jk rfl (fun h16=>?_) (fun h16=>?_)
  ·
   refine Je fun _ hK8 _=>(Ez foll0 (by kernel_rfl) (JG (Jc rfl) rfl (JG (JN u65 sz5 rfl rfl rfl (by omega)) rfl (JG (Jr rfl (.s .z) (by first | exact bytesC_get (by simp [*];omega) | exact intsC_get (by simp [*];omega)) pl5) rfl (JG (Jc rfl) rfl (JG (JN u65 sz5 rfl rfl rfl (by omega)) rfl (JG (Jr rfl At.z (by first | exact bytesC_get (by simp [*];omega) | exact intsC_get (by simp [*];omega)) pl5) rfl (JG (Ep rfl rfl) rfl (JG (Jd rfl) rfl (Ef (Ja (hK8 (Jp (JH (Jh ?_)))))))))))))));refine Jh (JH (Jh (Jt rfl (Res.tmp rfl) fun w hH=>?_)));replace hH:=hH.tail;replace hH:=hH.tail;exact ⟨rb (before_hit (by omega) hI.2 h16).symm,hH⟩
  ·
   refine Ji (JD (Ja (hK6 (Jb (Jg (Jc rfl) rfl (Jg (Jy rfl rfl (by first | exact nw _ (by omega) | rfl)) rfl (Jg (Jd rfl) rfl (Jf (Ja ?_)))))))));exact hAg0 (k+1) ⟨by omega,upto hI.2 (by omega)⟩ (by omega) 13 rfl rfl ⟨rfl,trivial⟩ rfl rfl
 ·
  refine JI (Jl (Jl (JR (Ja (hK2 (Je fun _ hK9 _=>(Jb (Jg (Jd rfl) rfl (Jf (Ja (hK9 (Jp (Jt rfl (Res.tmp rfl) fun w hH=>?_)))))))))))));replace hH:=hH.tail;replace hH:=hH.tail;exact ⟨rb (before_miss (fun j hj=>hI.2 j (by omega))).symm,hH⟩
theorem compare_c {B:World} {H0 H:HP} {L:List SA} {w:World} {a:List Int} {b:List Int} (ha:a.length=8) (hb:b.length=8) (hsa:Small a) (hsb:Small b) (hH:Hp B H0 H L w):Calls Tryz.prog 72 [.agg (intsC a).toArray,.agg (intsC b).toArray].toArray w fun e w'=>e = .returned (.int .i64 (cmp a b))∧Hp B H0 H L w':=by
 refine JB Tryz.func72 rfl 24 rfl rfl [(0,.agg (intsC a).toArray),(1,.agg (intsC b).toArray)] rfl hH ?_;clear hH;refine Je fun _ hK1 _=>(Jb (Ei rfl rfl rfl fun g2=>(Ei rfl rfl rfl fun g3=>(Jg (Jd rfl) rfl (Jf (Ja (hK1 (Je fun _ hK2 _=>(Je fun _ hK3 _=>(Jb (Jg (Jc rfl) rfl (Jf (Ja (hK3 (Jm (JE (σ:=Nat) (fun (k:Nat)=>[(6,.int .i64 (k:Int))]) (fun (k:Nat)=>H) (fun (k:Nat)=>obj g3 (.cells (intsC b).toArray 97 (0,0))::obj g2 (.cells (intsC a).toArray 97 (0,0))::L) (fun (k:Nat)=>k≤8∧∀j,j<k→a.getD j 0=b.getD j 0) (fun (k:Nat)=>8 - k) 0 ⟨by omega,fun j hj=>by omega⟩ ⟨rfl,trivial⟩ rfl rfl ?_))))))))))))))));rintro k hI _ hAg0;have hk:=hI.1;have ba:=hsa k;have bb:=hsb k;refine Je fun _ hK4 _=>(Jb (Jg (JK rfl rfl) rfl (Jf (Ja (hK4 (Je fun _ hK5 _=>(Jk rfl (fun hc7=>?_) (fun hc7=>?_))))))))
 ·
  refine Ji (Ja (hK5 (Je fun _ hK6 _=>(Jm (Je fun _ hK7 _=>(Jb (Jg (Jc rfl) rfl (Jg (Jd rfl) rfl (Jf (Ja (hK7 (Je fun _ hK8 _=>(Ez foll0 (by kernel_rfl) (JG (Jc rfl) rfl (JG (JN u97 sz3 rfl rfl rfl (by omega)) rfl (JG (Jr rfl (.s .z) (by first | exact bytesC_get (by simp [*];omega) | exact intsC_get (by simp [*];omega)) pl3) rfl ?_))))))))))))))));refine JG (Jc rfl) rfl (JG (JN u97 sz3 rfl rfl rfl (by omega)) rfl (JG (Jr rfl At.z (by first | exact bytesC_get (by simp [*];omega) | exact intsC_get (by simp [*];omega)) pl3) rfl (JG (Eo rfl rfl) rfl (Ef (Ja (hK8 (Jk rfl (fun h15=>?_) (fun h15=>?_))))))))
  ·
   refine Je fun _ hK9 _=>(Ez foll0 (by kernel_rfl) (JG (Jc rfl) rfl (JG (JN u97 sz3 rfl rfl rfl (by omega)) rfl (JG (Jr rfl At.z (by first | exact bytesC_get (by simp [*];omega) | exact intsC_get (by simp [*];omega)) pl3) rfl (JG (Jc rfl) rfl (JG (JN u97 sz3 rfl rfl rfl (by omega)) rfl (JG (Jr rfl (.s .z) (by first | exact bytesC_get (by simp [*];omega) | exact intsC_get (by simp [*];omega)) pl3) rfl (JG (PR.sub rfl rfl (by first | exact nw _ (by omega) | rfl)) rfl (JG (Jd rfl) rfl (Ef (Ja (hK9 (Jp (JH (Jh ?_)))))))))))))));refine Jh (JH (Jh (Jt rfl (Res.tmp rfl) fun w hH=>?_)));replace hH:=hH.tail;replace hH:=hH.tail;exact ⟨ri (cmp_hit (by omega) hI.2 h15).symm,hH⟩
  ·
   refine Ji (JD (Ja (hK6 (Jb (Jg (Jy rfl rfl (by first | exact nw _ (by omega) | rfl)) rfl (Jg (Jc rfl) rfl (Jf (Ja ?_))))))));exact hAg0 (k+1) ⟨by omega,upto hI.2 (by omega)⟩ (by omega) 13 rfl rfl ⟨rfl,trivial⟩ rfl rfl
 ·
  refine JI (Jl (Jl (JR (Ja (hK2 (Je fun _ hK10 _=>(Jb (Jg (Jd rfl) rfl (Jf (Ja (hK10 (Jp (Jt rfl (Res.tmp rfl) fun w hH=>?_)))))))))))));replace hH:=hH.tail;replace hH:=hH.tail;exact ⟨ri (cmp_miss (fun j hj=>hI.2 j (by omega))).symm,hH⟩
theorem isFactor_c {B:World} {H0 H:HP} {L:List SA} {w:World} {x:Int} (hH:Hp B H0 H L w):Calls Tryz.prog 70 [.int .i64 x].toArray w fun e w'=>e = .returned (.bool (decide (1≤x) && decide (x≤10006)))∧Hp B H0 H L w':=by
 refine JB Tryz.func70 rfl 5 rfl rfl [(0,.int .i64 x)] rfl hH ?_;clear hH;refine Je fun _ hK1 _=>(Jb (Jg (Jd rfl) rfl (Jf (Ja (hK1 (Je fun _ hK2 _=>(Jb (Jg (Jc rfl) rfl (JF fn45 rfl rfl fun w hH=>(within_c hH).mono ?_)))))))));rintro _ w ⟨rfl,hH⟩;refine ⟨_,rfl,fun a hF=>JV hF hH ?_⟩;refine Jg (Jd rfl) rfl (Jf (Ja (hK2 (Jp (Jt rfl (Res.tmp rfl) fun w hH=>?_)))));exact ⟨rfl,hH⟩
theorem ze69:Zero Tryz.prog 69 [.int .u8 0,.int .u8 0,.int .u8 0,.int .u8 0,.int .u8 0,.int .u8 0,.int .u8 0,.int .u8 0,.int .i64 0]:=by unfold Zero;kernel_rfl
theorem fn63:Fn Tryz.prog 63:=⟨_,Tryz.func63,by kernel_rfl,rfl⟩
theorem fn64:Fn Tryz.prog 64:=⟨_,Tryz.func64,by kernel_rfl,rfl⟩
theorem fn69:Fn Tryz.prog 69:=⟨_,Tryz.func69,by kernel_rfl,rfl⟩
theorem fn70:Fn Tryz.prog 70:=⟨_,Tryz.func70,by kernel_rfl,rfl⟩
theorem fn71:Fn Tryz.prog 71:=⟨_,Tryz.func71,by kernel_rfl,rfl⟩
theorem fn72:Fn Tryz.prog 72:=⟨_,Tryz.func72,by kernel_rfl,rfl⟩
theorem good_mono {ds:List Int} {ts:List Term} {i:Nat} (h:isMono ds (tm ts i).mono=false):goodAt ds ts i=false:=by unfold goodAt;rw [h];rfl
theorem good_fac {ds:List Int} {ts:List Term} {i:Nat} (h:(decide (1≤(tm ts i).fac) && decide ((tm ts i).fac≤10006))=false):goodAt ds ts i=false:=by unfold goodAt;rw [h,Bool.and_false];rfl
theorem good_ord {ds:List Int} {ts:List Term} {i:Nat} (h0:0<i) (h:before (tm ts (i - 1)).mono (tm ts i).mono=false):goodAt ds ts i=false:=by unfold goodAt;rw [h,show decide (i=0)=false from decide_eq_false (by omega)];simp
theorem good_yes {ds:List Int} {ts:List Term} {i:Nat} (h1:isMono ds (tm ts i).mono=true) (h2:(decide (1≤(tm ts i).fac) && decide ((tm ts i).fac≤10006))=true) (h3:i=0∨before (tm ts (i - 1)).mono (tm ts i).mono=true):goodAt ds ts i=true:=by
 unfold goodAt;rw [h1,h2]
 rcases h3 with h3 | h3
 ·rw [decide_eq_true h3];rfl
 ·rw [h3];simp
theorem before_le {p q:List Int} (h:cmp p q≥0):before p q=false:=decide_eq_false (by omega)
theorem before_lt {p q:List Int} (h : ¬cmp p q≥0):before p q=true:=decide_eq_true (by omega)
theorem isForm_c {B:World} {H0 H:HP} {L:List SA} {w:World} {qds:Option Addr} {cds:Nat} {ds:List Int} {qts:Option Addr} {cts:Nat} {ts:List Term} (hds:Ints H qds ds) (hts:Terms H qts ts) (hn:ds.length≤1048576) (hl:ts.length≤9223372036854775807) (hH:Hp B H0 H L w):Calls Tryz.prog 47 [.slice qds ds.length cds,.agg [.slice qts ts.length cts].toArray].toArray w fun e w'=>e = .returned (.bool (isForm ds ts))∧Hp B H0 H L w':=by
 refine JB Tryz.func47 rfl 48 rfl rfl [(0,.slice qds ds.length cds),(1,.agg [.slice qts ts.length cts].toArray)] rfl hH ?_;clear hH;refine Je fun _ hK1 _=>(Jb (Ei rfl rfl rfl fun g3=>(Jg (Jd rfl) rfl (Jf (Ja (hK1 (Je fun _ hK2 _=>(Je fun _ hK3 _=>(Jb (Jg (Ju u33 rfl sz31 rfl) rfl (Jg (Jr rfl At.z rfl pl31) rfl (Jg (Jq u31 rfl rfl) rfl (Jg (Ep rfl rfl) rfl (Jf (Ja (hK3 ?_))))))))))))))));refine Jk rfl (fun h10=>?_) (fun h10=>?_)
 ·
  refine Je fun _ hK4 _=>(Jb (Jg (Jd rfl) rfl (Jf (Ja (hK4 (Jp (Jh (Jt rfl (Res.tmp rfl) fun w hH=>?_))))))));replace hH:=hH.tail;exact ⟨rb (isForm_long (by omega)).symm,hH⟩
 ·
  refine Ji (Ja (hK2 (Je fun _ hK5 _=>(Je fun _ hK6 _=>(Jb (Jg (Ju u33 rfl sz31 rfl) rfl (Jg (Jr rfl At.z rfl pl31) rfl (Jg (Jq u31 rfl rfl) rfl (Jg (Jc rfl) rfl (Jf (Ja (hK6 (Jm (JE (σ:=Nat) (fun (k:Nat)=>[(14,.int .i64 (k:Int))]) (fun (k:Nat)=>H) (fun (k:Nat)=>obj g3 (.cells [.slice qts ts.length cts].toArray 33 (0,0))::L) (fun (k:Nat)=>k≤ts.length∧∀j,j<k→goodAt ds ts j=true) (fun (k:Nat)=>ts.length - k) 0 ⟨by omega,fun j hj=>by omega⟩ ⟨rfl,trivial⟩ rfl rfl ?_))))))))))))));rintro k hI _ hAg0;have hk:=hI.1;refine Je fun _ hK7 _=>(Jb (Jg (JK rfl rfl) rfl (Jf (Ja (hK7 (Je fun _ hK8 _=>(Jk rfl (fun hc15=>?_) (fun hc15=>?_))))))))
  ·
   refine Ji (Ja (hK8 (Je fun _ hK9 _=>(Jm (Je fun _ hK10 _=>(Jb (Jg (Jc rfl) rfl (Jg (Ej u31 sz69 rfl rfl rfl (by omega) hts.sm) rfl (Jg (JO rfl (hts.cell _ (by omega)) (hts.sm (i:=k) (by omega)) (by rw [Term.c_length (hts.wf _ (by omega))];exact ag69)) rfl (JP (cs:=(default:Term).c) ze69 rfl fun g6=>(Jg (Jd rfl) rfl (J.stTerm rfl rfl sz69 zero_wf (hts.wf k (by omega)) At.z (Jf (Ja (hK10 (Je fun _ hK11 _=>?_))))))))))))))));refine Je fun _ hK12 _=>(Jb (Jg (Jc rfl) rfl (Jg (Ju u69 rfl sz65 rfl) rfl (Jg (ED rfl At.z (hts.wf k (by omega)) ag65) rfl (JF fn69 rfl rfl fun w hH=>(isMonomial_c hds (hts.wf k (by omega)).mono (by omega) hH).mono ?_)))));rintro _ w ⟨rfl,hH⟩;refine ⟨_,rfl,fun a hF=>JV hF hH ?_⟩;refine Jg (Eq rfl) rfl (Jg (Jc rfl) rfl (Ee (jd:=24) rfl (fun h24=>?_) (fun h24=>?_)))
   ·
    try have h24p:=of_decide_eq_true h24
    refine JJ rfl rfl rfl h24 (JJ rfl rfl rfl h24 (JJ rfl rfl rfl h24 (JJ rfl rfl rfl h24 (Jg (JU rfl h24 rfl) rfl (Jf (Ja (hK12 (Er rfl (Je fun _ hK13 _=>(Jb (Jg (Jd rfl) rfl (Jf (Ja (hK13 (Jp (Jh ?_))))))))))))))));refine JH (Jh (Jh (JH (Jh (Jt rfl (Res.tmp rfl) fun w hH=>?_)))));replace hH:=hH.tail;replace hH:=hH.tail;exact ⟨rb (isForm_bad (k:=k) (by omega) (good_mono (nott h24))).symm,hH⟩
   ·
    try have h24p:=of_decide_eq_false h24
    refine JQ (Ju u69 rfl sz2 rfl) rfl rfl rfl h24 (JQ (PR.ldFac rfl At.z (hts.wf k (by omega)) pl2) rfl rfl rfl h24 (J.gcall fn70 rfl rfl h24 rfl rfl fun w hH=>(isFactor_c hH).mono ?_));rintro _ w ⟨rfl,hH⟩;refine ⟨_,rfl,fun a hF=>JV hF hH ?_⟩;refine JQ (Eq rfl) rfl rfl rfl h24 (Jg (JM rfl h24 rfl) rfl (Jf (Ja (hK12 (Eh rfl (fun h29=>?_) (fun h29=>?_))))))
    ·
     refine Je fun _ hK14 _=>(Jb (Jg (Jd rfl) rfl (Jf (Ja (hK14 (Jp (Jh (JH (Jh (Jh (JH (Jh (Jt rfl (Res.tmp rfl) fun w hH=>?_)))))))))))));replace hH:=hH.tail;replace hH:=hH.tail;exact ⟨rb (isForm_bad (k:=k) (by omega) (good_fac (nott h29))).symm,hH⟩
    ·
     refine Ji (Ja (hK11 (Je fun _ hK15 _=>(En [[], [0], [1], [2], [3,2], [2], [5,2], [4,6,2], [7,2], [8,2], [9,2], [2], [11,2]] (by kernel_rfl) (Jw (fun gh=>Jc rfl) (Jw (fun gh=>Ep rfl rfl) (Jw (fun gh=>Jc rfl) (EN 2 rfl (fun h32=>?_) (fun h32=>?_)))))))))
     ·
      try have h32p:=of_decide_eq_true h32
      refine Ed (fun gh=>Ju u33 rfl sz31 rfl) rfl (fun gh=>rfl) h32 (Ed (fun gh=>Jr rfl (.s .z) rfl pl31) rfl (fun gh=>rfl) h32 (Ed (fun gh=>Jc rfl) rfl (fun gh=>rfl) h32 (Ed (fun gh=>PR.sub rfl rfl (by first | exact nw _ (by omega) | rfl)) rfl (fun gh=>rfl) h32 (Ed (fun gh=>Ej (i':=(k - 1)) u31 sz69 rfl rfl (by omega) (by omega) hts.sm) rfl (fun gh=>rfl) h32 (Ed (fun gh=>El u69 rfl sz65 rfl (hts.sm (i:=(k - 1)) (by omega))) rfl (fun gh=>rfl) h32 (Ed (fun gh=>JO rfl (hts.mono (by omega)) (hts.sm (i:=(k - 1)) (by omega)) (by rw [bytesC_length,(hts.wf _ (by omega)).mono.len];exact ag65)) rfl (fun gh=>rfl) h32 (HJ.gcall fn71 rfl (fun gh=>rfl) h32 (fun gh=>rfl) (fun w X hH=>powerOf_c (hts.wf (k - 1) (by omega)).mono hH) (Ed (fun gh=>Ju u69 rfl sz65 rfl) rfl (fun gh=>rfl) h32 (Ed (fun gh=>ED rfl At.z (hts.wf k (by omega)) ag65) rfl (fun gh=>rfl) h32 (Ec 13 2 foll0 (by kernel_rfl) rfl rfl fun gh=>(Ek (us':=(30,_)::(31,_)::(32,_)::(33,_)::(34,_)::(35,_)::(36,_)::(37,_)::(38,_)::(39,_)::(40,_)::(41,_)::(42,_)::_) (L':=_) rfl rfl (J.gcall fn71 rfl rfl h32 rfl rfl fun w hH=>(powerOf_c (hts.wf k (by omega)).mono hH).mono ?_))))))))))));rintro _ w ⟨rfl,hH⟩;refine ⟨_,rfl,fun a hF=>JV hF hH ?_⟩;refine J.gcall fn72 rfl rfl h32 rfl rfl fun w hH=>(compare_c (hts.wf (k - 1) (by omega)).mono.len (hts.wf k (by omega)).mono.len (hts.wf _ (by omega)).mono.small (hts.wf _ (by omega)).mono.small hH).mono ?_;rintro _ w ⟨rfl,hH⟩;refine ⟨_,rfl,fun a hF=>JV hF hH ?_⟩;refine Jf (Eb (JS.gy (PR.geq rfl rfl) rfl rfl rfl h32 (JG (JU rfl h32 rfl) rfl (Ef (Ja (hK15 (Jk rfl (fun h46=>?_) (fun h46=>?_))))))))
      ·
       refine Je fun _ hK16 _=>(Jb (Jg (Jd rfl) rfl (Jf (Ja (hK16 (Jp (JH (Jh (Jh (JH (Jh (Jt rfl (Res.tmp rfl) fun w hH=>?_))))))))))));replace hH:=hH.tail;replace hH:=hH.tail;exact ⟨rb (isForm_bad (k:=k) (by omega) (good_ord (by omega) (before_le h46))).symm,hH⟩
      ·
       refine Ji (JD (Ja (hK9 (Jb (Jg (Jy rfl rfl (by first | exact nw _ (by omega) | rfl)) rfl (Jg (Jc rfl) rfl (Jf (Ja (JL .z ?_)))))))));exact hAg0 (k+1) ⟨by omega,upto hI.2 (good_yes (notf h24) (notf h29) (.inr (before_lt h46)))⟩ (by omega) 37 rfl rfl ⟨rfl,trivial⟩ rfl rfl
     ·
      try have h32p:=of_decide_eq_false h32
      refine JZ rfl (fun gh=>rfl) h32 (JZ rfl (fun gh=>rfl) h32 (JZ rfl (fun gh=>rfl) h32 (JZ rfl (fun gh=>rfl) h32 (JZ rfl (fun gh=>rfl) h32 (JZ rfl (fun gh=>rfl) h32 (JZ rfl (fun gh=>rfl) h32 (JZ rfl (fun gh=>rfl) h32 (JZ rfl (fun gh=>rfl) h32 (JZ rfl (fun gh=>rfl) h32 (Ec 13 2 foll0 (by kernel_rfl) rfl rfl fun gh=>(Ek (us':=(30,_)::(31,_)::(32,_)::(33,_)::(34,_)::(35,_)::(36,_)::(37,_)::(38,_)::(39,_)::(40,_)::(41,_)::(42,_)::_) (L':=_) rfl rfl (JJ rfl rfl rfl h32 (JJ rfl rfl rfl h32 (Jf ?_))))))))))))));refine Eb (JS.gn rfl rfl rfl h32 (JG (JM rfl h32 rfl) rfl (Ef (Ja (hK15 (Ev rfl (Ji (JD (Ja (hK9 (Jb (Jg (Jy rfl rfl (by first | exact nw _ (by omega) | rfl)) rfl (Jg (Jc rfl) rfl (Jf (Ja (JL .z ?_))))))))))))))));exact hAg0 (k+1) ⟨by omega,upto hI.2 (good_yes (notf h24) (notf h29) (.inl (by omega)))⟩ (by omega) 37 rfl rfl ⟨rfl,trivial⟩ rfl rfl
  ·
   refine JI (Jl (Jl (JR (Ja (hK5 (Je fun _ hK17 _=>(Jb (Jg (Jd rfl) rfl (Jf (Ja (hK17 (Jp (Jt rfl (Res.tmp rfl) fun w hH=>?_)))))))))))));replace hH:=hH.tail;exact ⟨rb ((isForm_good (fun j hj=>hI.2 j (by omega))).trans (decide_eq_true (by omega))).symm,hH⟩
theorem l01Is_c {B:World} {H0 H:HP} {L:List SA} {w:World} {qds:Option Addr} {cds:Nat} {ds:List Int} {qts:Option Addr} {cts:Nat} {ts:List Term} (hds:Ints H qds ds) (hts:Terms H qts ts) (hn:ds.length≤1048576) (hp : ∀j,j<ds.length→0≤ds.getD j 0) (hl:ts.length≤9223372036854775807) (hH:Hp B H0 H L w):Calls Tryz.prog 41 [.slice qds ds.length cds,.agg [.slice qts ts.length cts].toArray].toArray w fun e w'=>e = .returned (.bool (isForm ds ts))∧Hp B H0 H L w':=by
 refine JB Tryz.func41 rfl 51 rfl rfl [(0,.slice qds ds.length cds),(1,.agg [.slice qts ts.length cts].toArray)] rfl hH ?_;clear hH;refine Je fun _ hK1 _=>(Jb (Ei rfl rfl rfl fun g3=>(Jg (Jd rfl) rfl (Jf (Ja (hK1 (Je fun _ hK2 _=>(Je fun _ hK3 _=>(Jb (Jg (Jd rfl) rfl (Jf (Ja (hK3 (Jm (JE (σ:=Nat) (fun (k:Nat)=>[(5,.int .i64 (k:Int))]) (fun (k:Nat)=>H) (fun (k:Nat)=>obj g3 (.cells [.slice qts ts.length cts].toArray 33 (0,0))::L) (fun (k:Nat)=>k≤ts.length∧∀j,j<k→goodAt ds ts j=true) (fun (k:Nat)=>ts.length - k) 0 ⟨by omega,fun j hj=>by omega⟩ ⟨rfl,trivial⟩ rfl rfl ?_)))))))))))))));rintro k hI _ hAg0;have hk:=hI.1;refine Je fun _ hK4 _=>(Je fun _ hK5 _=>(Jb (Jg (Jc rfl) rfl (Jg (Ju u33 rfl sz31 rfl) rfl (Jg (Jr rfl At.z rfl pl31) rfl (Jg (Jq u31 rfl rfl) rfl (Jg (JK rfl rfl) rfl (Jf (Ja (hK5 (Jk rfl (fun hc11=>?_) (fun hc11=>?_))))))))))))
 ·
  refine Ji (Ja (hK4 (Je fun _ hK6 _=>(Jm (Je fun _ hK7 _=>(Jb (Jg (Ju u33 rfl sz31 rfl) rfl (Jg (Jr rfl At.z rfl pl31) rfl (Jg (Jc rfl) rfl (Jg (Ej u31 sz69 rfl rfl rfl (by omega) hts.sm) rfl (Jg (JO rfl (hts.cell _ (by omega)) (hts.sm (i:=k) (by omega)) (by rw [Term.c_length (hts.wf _ (by omega))];exact ag69)) rfl (JP (cs:=(default:Term).c) ze69 rfl fun g6=>(J.stTerm rfl rfl sz69 zero_wf (hts.wf k (by omega)) At.z (Jf (Ja (hK7 ?_))))))))))))))));refine Je fun _ hK8 _=>(En [[], [], [1], [0,2], [3], [4], [5], [6,5], [7,5], [8,5], [5,9], [10], [11], [12,11], [13,11], [14], [15,14], [14], [17,14], [16,18,14], [19,14], [20,14], [14], [22,14]] (by kernel_rfl) (Jw (fun gh=>Jc rfl) (Jw (fun gh=>Ju u69 rfl sz65 rfl) (Jw (fun gh=>ED rfl At.z (hts.wf k (by omega)) ag65) (EI fn63 (fun gh=>rfl) (fun w X hH=>l01Mono_c hds (hts.wf k (by omega)).mono (by omega) hp hH) (Jw (fun gh=>Eq rfl) (Jw (fun gh=>Jc rfl) (EN 5 rfl (fun h24=>?_) (fun h24=>?_)))))))))
  ·
   try have h24p:=of_decide_eq_true h24
   refine JZ rfl (fun gh=>rfl) h24 (JZ rfl (fun gh=>rfl) h24 (JZ rfl (fun gh=>rfl) h24 (JZ rfl (fun gh=>rfl) h24 (Jw (fun gh=>JU rfl h24 rfl) (Jw (fun gh=>Jc rfl) (JZ rfl (fun gh=>rfl) rfl (JZ rfl (fun gh=>rfl) rfl (JZ rfl (fun gh=>rfl) rfl (Ew rfl (fun gh=>rfl) (Ew rfl (fun gh=>rfl) (Ew rfl (fun gh=>rfl) (Ew rfl (fun gh=>rfl) (Ew rfl (fun gh=>rfl) (Ew rfl (fun gh=>rfl) ?_))))))))))))));refine Ew rfl (fun gh=>rfl) (Ew rfl (fun gh=>rfl) (Ew rfl (fun gh=>rfl) (Ec 24 1 foll0 (by kernel_rfl) rfl rfl fun gh=>(Ek (us':=(19,_)::(20,_)::(21,_)::(22,_)::(23,_)::(24,_)::(25,_)::(26,_)::(27,_)::(28,_)::(29,_)::(30,_)::(31,_)::(32,_)::(33,_)::(34,_)::(35,_)::(36,_)::(37,_)::(38,_)::(39,_)::(40,_)::(41,_)::(42,_)::_) (L':=_) rfl rfl (J.gu rfl rfl rfl (Jf (Eb (JS.gu rfl rfl rfl (JS.gn rfl rfl rfl rfl (JG (JU rfl rfl rfl) rfl (Ef (Ja (hK8 (Er rfl (Je fun _ hK9 _=>?_)))))))))))))));refine Jb (Jg (Jd rfl) rfl (Jf (Ja (hK9 (Jp (JH (Jh (Jh (JH (Jh (Jt rfl (Res.tmp rfl) fun w hH=>?_)))))))))));replace hH:=hH.tail;replace hH:=hH.tail;exact ⟨rb (isForm_bad (k:=k) (by omega) (good_mono (nott h24))).symm,hH⟩
  ·
   try have h24p:=of_decide_eq_false h24
   refine Ed (fun gh=>Ju u69 rfl sz2 rfl) rfl (fun gh=>rfl) h24 (Ed (fun gh=>PR.ldFac rfl At.z (hts.wf k (by omega)) pl2) rfl (fun gh=>rfl) h24 (HJ.gcall fn39 rfl (fun gh=>rfl) h24 (fun gh=>rfl) (fun w X hH=>l01In_c hH) (Ed (fun gh=>Eq rfl) rfl (fun gh=>rfl) h24 (Jw (fun gh=>JM rfl h24 rfl) (Jw (fun gh=>Jc rfl) (EN 11 rfl (fun h30=>?_) (fun h30=>?_)))))))
   ·
    try have h30p:=of_decide_eq_true h30
    refine JZ rfl (fun gh=>rfl) h30 (JZ rfl (fun gh=>rfl) h30 (JZ rfl (fun gh=>rfl) h30 (Ew rfl (fun gh=>rfl) (Ew rfl (fun gh=>rfl) (Ew rfl (fun gh=>rfl) (Ew rfl (fun gh=>rfl) (Ew rfl (fun gh=>rfl) (Ew rfl (fun gh=>rfl) (Ew rfl (fun gh=>rfl) (Ew rfl (fun gh=>rfl) (Ew rfl (fun gh=>rfl) (Ec 24 1 foll0 (by kernel_rfl) rfl rfl fun gh=>(Ek (us':=(19,_)::(20,_)::(21,_)::(22,_)::(23,_)::(24,_)::(25,_)::(26,_)::(27,_)::(28,_)::(29,_)::(30,_)::(31,_)::(32,_)::(33,_)::(34,_)::(35,_)::(36,_)::(37,_)::(38,_)::(39,_)::(40,_)::(41,_)::(42,_)::_) (L':=_) rfl rfl (J.gu rfl rfl rfl ?_))))))))))))));refine Jf (Eb (JS.gu rfl rfl rfl (JS.gn rfl rfl rfl h30 (JG (JU rfl h30 rfl) rfl (Ef (Ja (hK8 (Er rfl (Je fun _ hK10 _=>(Jb (Jg (Jd rfl) rfl (Jf (Ja (hK10 (Jp (JH ?_))))))))))))))));refine Jh (Jh (JH (Jh (Jt rfl (Res.tmp rfl) fun w hH=>?_))));replace hH:=hH.tail;replace hH:=hH.tail;exact ⟨rb (isForm_bad (k:=k) (by omega) (good_fac (nott h30))).symm,hH⟩
   ·
    try have h30p:=of_decide_eq_false h30
    refine Ed (fun gh=>Jc rfl) rfl (fun gh=>rfl) h30 (Ed (fun gh=>Ep rfl rfl) rfl (fun gh=>rfl) h30 (Ed (fun gh=>Jc rfl) rfl (fun gh=>rfl) h30 (EN 14 rfl (fun h33=>?_) (fun h33=>?_))))
    ·
     try have h33p:=of_decide_eq_true h33
     refine Ed (fun gh=>Ju u33 rfl sz31 rfl) rfl (fun gh=>rfl) h33 (Ed (fun gh=>Jr rfl (.s .z) rfl pl31) rfl (fun gh=>rfl) h33 (Ed (fun gh=>Jc rfl) rfl (fun gh=>rfl) h33 (Ed (fun gh=>PR.sub rfl rfl (by first | exact nw _ (by omega) | rfl)) rfl (fun gh=>rfl) h33 (Ed (fun gh=>Ej (i':=(k - 1)) u31 sz69 rfl rfl (by omega) (by omega) hts.sm) rfl (fun gh=>rfl) h33 (Ed (fun gh=>El u69 rfl sz65 rfl (hts.sm (i:=(k - 1)) (by omega))) rfl (fun gh=>rfl) h33 (Ed (fun gh=>JO rfl (hts.mono (by omega)) (hts.sm (i:=(k - 1)) (by omega)) (by rw [bytesC_length,(hts.wf _ (by omega)).mono.len];exact ag65)) rfl (fun gh=>rfl) h33 (Ed (fun gh=>Ju u69 rfl sz65 rfl) rfl (fun gh=>rfl) h33 (Ed (fun gh=>ED rfl At.z (hts.wf k (by omega)) ag65) rfl (fun gh=>rfl) h33 (Ec 24 1 foll0 (by kernel_rfl) rfl rfl fun gh=>(Ek (us':=(19,_)::(20,_)::(21,_)::(22,_)::(23,_)::(24,_)::(25,_)::(26,_)::(27,_)::(28,_)::(29,_)::(30,_)::(31,_)::(32,_)::(33,_)::(34,_)::(35,_)::(36,_)::(37,_)::(38,_)::(39,_)::(40,_)::(41,_)::(42,_)::_) (L':=_) rfl rfl (J.gcall fn64 rfl rfl h33 rfl rfl fun w hH=>(l01Before_c (hts.wf (k - 1) (by omega)).mono (hts.wf k (by omega)).mono hH).mono ?_)))))))))));rintro _ w ⟨rfl,hH⟩;refine ⟨_,rfl,fun a hF=>JV hF hH ?_⟩;refine Jf (Eb (JS.gy (Eq rfl) rfl rfl rfl h33 (JS.gy (JU rfl h33 rfl) rfl rfl rfl h30 (JG (JM rfl h30 rfl) rfl (Ef (Ja (hK8 (Eh rfl (fun h46=>?_) (fun h46=>?_)))))))))
     ·
      refine Je fun _ hK11 _=>(Jb (Jg (Jd rfl) rfl (Jf (Ja (hK11 (Jp (JH (Jh (Jh (JH (Jh (Jt rfl (Res.tmp rfl) fun w hH=>?_))))))))))));replace hH:=hH.tail;replace hH:=hH.tail;exact ⟨rb (isForm_bad (k:=k) (by omega) (good_ord (by omega) (nott h46))).symm,hH⟩
     ·
      refine Ji (JD (Ja (hK6 (Jb (Jg (Jc rfl) rfl (Jg (Jy rfl rfl (by first | exact nw _ (by omega) | rfl)) rfl (Jg (Jd rfl) rfl (Jf (Ja (JL .z ?_))))))))));exact hAg0 (k+1) ⟨by omega,upto hI.2 (good_yes (notf h24) (notf h30) (.inr (notf h46)))⟩ (by omega) 43 rfl rfl ⟨rfl,trivial⟩ rfl rfl
    ·
     try have h33p:=of_decide_eq_false h33
     refine JZ rfl (fun gh=>rfl) h33 (JZ rfl (fun gh=>rfl) h33 (JZ rfl (fun gh=>rfl) h33 (JZ rfl (fun gh=>rfl) h33 (JZ rfl (fun gh=>rfl) h33 (JZ rfl (fun gh=>rfl) h33 (JZ rfl (fun gh=>rfl) h33 (JZ rfl (fun gh=>rfl) h33 (JZ rfl (fun gh=>rfl) h33 (Ec 24 1 foll0 (by kernel_rfl) rfl rfl fun gh=>(Ek (us':=(19,_)::(20,_)::(21,_)::(22,_)::(23,_)::(24,_)::(25,_)::(26,_)::(27,_)::(28,_)::(29,_)::(30,_)::(31,_)::(32,_)::(33,_)::(34,_)::(35,_)::(36,_)::(37,_)::(38,_)::(39,_)::(40,_)::(41,_)::(42,_)::_) (L':=_) rfl rfl (JJ rfl rfl rfl h33 (Jf (Eb (JS.gn rfl rfl rfl h33 ?_))))))))))))));refine JS.gy (JM rfl h33 rfl) rfl rfl rfl h30 (JG (JM rfl h30 rfl) rfl (Ef (Ja (hK8 (Ev rfl (Ji (JD (Ja (hK6 (Jb (Jg (Jc rfl) rfl (Jg (Jy rfl rfl (by first | exact nw _ (by omega) | rfl)) rfl (Jg (Jd rfl) rfl (Jf (Ja (JL .z ?_))))))))))))))));exact hAg0 (k+1) ⟨by omega,upto hI.2 (good_yes (notf h24) (notf h30) (.inl (by omega)))⟩ (by omega) 43 rfl rfl ⟨rfl,trivial⟩ rfl rfl
 ·
  refine JI (Jl (Jl (JR (Ja (hK2 (Je fun _ hK12 _=>(Jb (Jg (Ju u33 rfl sz31 rfl) rfl (Jg (Jr rfl At.z rfl pl31) rfl (Jg (Jq u31 rfl rfl) rfl (Jg (PR.leq rfl rfl) rfl (Jg (Jd rfl) rfl (Jf (Ja (hK12 (Jp ?_))))))))))))))));refine Jt rfl (Res.tmp rfl) fun w hH=>?_;replace hH:=hH.tail;exact ⟨rb (isForm_good (fun j hj=>hI.2 j (by omega))).symm,hH⟩
theorem fn113:Fn Tryz.prog 113:=⟨_,Tryz.func113,by kernel_rfl,rfl⟩
theorem fn75:Fn Tryz.prog 75:=⟨_,Tryz.func75,by kernel_rfl,rfl⟩
def wd (ds:List Int) (ts:List Term) (i:Nat):Int:=wsum ds (tm ts i).mono ds.length
theorem wd_bd {ds:List Int} {ts:List Term} {i:Nat} (hn:ds.length≤8) (hd : ∀j,0≤ds.getD j 0∧ds.getD j 0≤12) (hw:Mono (tm ts i).mono):0≤wd ds ts i∧wd ds ts i≤24480:=by
 have h:=wsum_bd hd hw.bd ds.length;unfold wd
 omega
def outAt (ds:List Int) (ts:List Term) (k:Nat):Int:=if k=0 then -1 else wd ds ts 0
theorem outAt_pos {ds:List Int} {ts:List Term} {k:Nat} (h:outAt ds ts k≥0):0<k∧outAt ds ts k=wd ds ts 0:=by
 unfold outAt at h ⊢
 by_cases e:k=0
 ·rw [if_pos e] at h;omega
 ·exact ⟨by omega,if_neg e⟩
theorem outAt_neg {ds:List Int} {ts:List Term} {k:Nat} (h0:0≤wd ds ts 0) (h : ¬outAt ds ts k≥0):k=0:=by
 unfold outAt at h
 by_cases e:k=0
 ·exact e
 ·rw [if_neg e] at h;omega
theorem outAt_succ {ds:List Int} {ts:List Term} {k:Nat} (h:wd ds ts k=wd ds ts 0):wd ds ts k=outAt ds ts (k+1):=by unfold outAt;rw [if_neg (by omega),h]
def homog (ds:List Int) (ts:List Term):Bool:=(List.range ts.length).all fun i=>decide (wd ds ts i=wd ds ts 0)
def degF (ds:List Int) (ts:List Term):Int:=if homog ds ts then outAt ds ts ts.length else 0
theorem homog_no {ds:List Int} {ts:List Term} {k:Nat} (hk:k<ts.length) (h:wd ds ts k≠wd ds ts 0):homog ds ts=false:=by
 unfold homog;exact List.all_eq_false.2 ⟨k,by simpa using hk,by simpa using h⟩
theorem homog_yes {ds:List Int} {ts:List Term} (h : ∀j,j<ts.length→wd ds ts j=wd ds ts 0):homog ds ts=true:=by
 unfold homog
 exact List.all_eq_true.2 fun j hj=>by simpa using h j (by simpa using hj)
theorem degRet {ds:List Int} {ts:List Term} {v:Int} {b:Bool} (hb:homog ds ts=b) (hv:v=if b then outAt ds ts ts.length else 0):Ending.returned (.tuple #[.int .i64 v,.bool b]) = .returned (.tuple #[.int .i64 (degF ds ts),.bool (homog ds ts)]):=by
 rw [hv,degF,hb]
theorem degreeOf_c {B:World} {H0 H:HP} {L:List SA} {w:World} {qds:Option Addr} {cds:Nat} {ds:List Int} {qts:Option Addr} {cts:Nat} {ts:List Term} (hds:Ints H qds ds) (hts:Terms H qts ts) (hn:ds.length≤8) (hd : ∀j,0≤ds.getD j 0∧ds.getD j 0≤12) (hl:ts.length≤9223372036854775807) (hH:Hp B H0 H L w):Calls Tryz.prog 89 [.slice qds ds.length cds,.agg [.slice qts ts.length cts].toArray].toArray w fun e w'=>e = .returned (.tuple #[.int .i64 (degF ds ts),.bool (homog ds ts)])∧Hp B H0 H L w':=by
 refine JB Tryz.func89 rfl 32 rfl rfl [(0,.slice qds ds.length cds),(1,.agg [.slice qts ts.length cts].toArray)] rfl hH ?_;clear hH;refine Je fun _ hK1 _=>(Jb (Ei rfl rfl rfl fun g3=>(Jg (Jd rfl) rfl (Jg (Jd rfl) rfl (Jf (Ja (hK1 (Je fun _ hK2 _=>(Jb (Jg (Jd rfl) rfl (Jf (Ja (hK2 (Je fun _ hK3 _=>(Je fun _ hK4 _=>(Jb ?_))))))))))))))));refine Jg (Ju u33 rfl sz31 rfl) rfl (Jg (Jr rfl At.z rfl pl31) rfl (Jg (Jq u31 rfl rfl) rfl (Jg (Jc rfl) rfl (Jf (Ja (hK4 (Jm (JE (σ:=Nat) (fun (k:Nat)=>[(13,.int .i64 (k:Int)),(6,.int .i64 (outAt ds ts k))]) (fun (k:Nat)=>H) (fun (k:Nat)=>obj g3 (.cells [.slice qts ts.length cts].toArray 33 (0,0))::L) (fun (k:Nat)=>k≤ts.length∧∀j,j<k→wd ds ts j=wd ds ts 0) (fun (k:Nat)=>ts.length - k) 0 ⟨by omega,fun j hj=>by omega⟩ ⟨rfl,⟨rfl,trivial⟩⟩ rfl rfl ?_))))))));rintro k hI _ hAg0;have hk:=hI.1;refine Je fun _ hK5 _=>(Jb (Jg (JK rfl rfl) rfl (Jf (Ja (hK5 (Je fun _ hK6 _=>(Jk rfl (fun hc14=>?_) (fun hc14=>?_))))))))
 ·
  refine Ji (Ja (hK6 (Je fun _ hK7 _=>(Jm (Je fun _ hK8 _=>(Jb (Jg (Ej u31 sz69 rfl rfl rfl (by omega) hts.sm) rfl (Jg (JO rfl (hts.cell _ (by omega)) (hts.sm (i:=k) (by omega)) (by rw [Term.c_length (hts.wf _ (by omega))];exact ag69)) rfl (JP (cs:=(default:Term).c) ze69 rfl fun g8=>(J.stTerm rfl rfl sz69 zero_wf (hts.wf k (by omega)) At.z (Jf (Ja (hK8 (Je fun _ hK9 _=>(Jb (Jg (Ju u69 rfl sz65 rfl) rfl ?_))))))))))))))));refine Jg (ED rfl At.z (hts.wf k (by omega)) ag65) rfl (JF fn71 rfl rfl fun w hH=>(powerOf_c (hts.wf k (by omega)).mono hH).mono ?_);rintro _ w ⟨rfl,hH⟩;refine ⟨_,rfl,fun a hF=>JV hF hH ?_⟩;refine Jg (Jc rfl) rfl (JF fn113 rfl rfl fun w hH=>(degree_c (hts.wf k (by omega)).mono.len hds hn hd (hts.wf k (by omega)).mono.small hH).mono ?_);rintro _ w ⟨rfl,hH⟩;refine ⟨_,rfl,fun a hF=>JV hF hH ?_⟩;refine Jg (Jd rfl) rfl (Jf (Ja (hK9 (Je fun _ hK10 _=>(Je fun _ hK11 _=>(Jb (Jg (Jc rfl) rfl (Jg (PR.geq rfl rfl) rfl (Jg (Jc rfl) rfl (Ee (jd:=24) rfl (fun h24=>?_) (fun h24=>?_)))))))))))
  ·
   try have h24p:=of_decide_eq_true h24
   refine JQ (Jc rfl) rfl rfl rfl h24 (JQ (Jc rfl) rfl rfl rfl h24 (JQ (Eo rfl rfl) rfl rfl rfl h24 (Jg (JU rfl h24 rfl) rfl (Jf (Ja (hK11 (Jk rfl (fun h28=>?_) (fun h28=>?_))))))))
   ·
    refine Je fun _ hK12 _=>(Jb (Jg (Jd rfl) rfl (Jg (Jd rfl) rfl (Jf (Ja (hK12 (Jp (Jh (JH (Jh (Jh (JH (Jh (Ea rfl (Res.tmp rfl) (Res.tmp rfl) fun w hH=>?_))))))))))))));replace hH:=hH.tail;replace hH:=hH.tail;exact ⟨degRet (homog_no (k:=k) (by omega) (fun e=>h28 (e.trans (outAt_pos h24p).2.symm))) rfl,hH⟩
   ·
    have h28x:wd ds ts k=wd ds ts 0:=(Decidable.not_not.1 h28).trans (outAt_pos h24p).2;refine Ji (Ja (hK10 (Jb (Jg (Jc rfl) rfl (Jg (Jd rfl) rfl (Jf (JD (Ja (hK7 (Jb (Jg (Jy rfl rfl (by first | exact nw _ (by omega) | rfl)) rfl (Jg (Jc rfl) rfl (Jf (Ja (JL .z ?_)))))))))))))));exact hAg0 (k+1) ⟨by omega,upto hI.2 h28x⟩ (by omega) 23 rfl rfl ⟨rfl,⟨(vi (outAt_succ (h28x))),trivial⟩⟩ rfl rfl
  ·
   try have h24p:=of_decide_eq_false h24
   refine JJ rfl rfl rfl h24 (JJ rfl rfl rfl h24 (JJ rfl rfl rfl h24 (Jg (JM rfl h24 rfl) rfl (Jf (Ja (hK11 (Ev rfl (Ji (Ja (hK10 (Jb (Jg (Jc rfl) rfl (Jg (Jd rfl) rfl (Jf (JD (Ja (hK7 ?_)))))))))))))))));refine Jb (Jg (Jy rfl rfl (by first | exact nw _ (by omega) | rfl)) rfl (Jg (Jc rfl) rfl (Jf (Ja (JL .z ?_)))));exact hAg0 (k+1) ⟨by omega,upto hI.2 (congrArg (wd ds ts) (outAt_neg (wd_bd hn hd (hts.wf 0 (by omega)).mono).1 h24p))⟩ (by omega) 23 rfl rfl ⟨rfl,⟨(vi (outAt_succ ((congrArg (wd ds ts) (outAt_neg (wd_bd hn hd (hts.wf 0 (by omega)).mono).1 h24p))))),trivial⟩⟩ rfl rfl
 ·
  refine JI (Jl (Jl (JR (Ja (hK3 (Je fun _ hK13 _=>(Jb (Jg (Jc rfl) rfl (Jg (Jd rfl) rfl (Jg (Jd rfl) rfl (Jf (Ja (hK13 (Jp (Ea rfl (Res.tmp rfl) (Res.tmp rfl) fun w hH=>?_)))))))))))))));replace hH:=hH.tail
  obtain rfl:k=ts.length:=by omega
  exact ⟨degRet (homog_yes hI.2) rfl,hH⟩
theorem l01Degree_c {B:World} {H0 H:HP} {L:List SA} {w:World} {qds:Option Addr} {cds:Nat} {ds:List Int} {qts:Option Addr} {cts:Nat} {ts:List Term} (hds:Ints H qds ds) (hts:Terms H qts ts) (hn:ds.length≤8) (hd : ∀j,0≤ds.getD j 0∧ds.getD j 0≤12) (hl:ts.length≤9223372036854775807) (hH:Hp B H0 H L w):Calls Tryz.prog 50 [.slice qds ds.length cds,.agg [.slice qts ts.length cts].toArray].toArray w fun e w'=>e = .returned (.tuple #[.int .i64 (degF ds ts),.bool (homog ds ts)])∧Hp B H0 H L w':=by
 refine JB Tryz.func50 rfl 37 rfl rfl [(0,.slice qds ds.length cds),(1,.agg [.slice qts ts.length cts].toArray)] rfl hH ?_;clear hH;refine Je fun _ hK1 _=>(Jb (Ei rfl rfl rfl fun g3=>(Jg (Jd rfl) rfl (Jg (Jd rfl) rfl (Jf (Ja (hK1 (Je fun _ hK2 _=>(Je fun _ hK3 _=>(Jb (Jg (Ju u33 rfl sz31 rfl) rfl (Jg (Jr rfl At.z rfl pl31) rfl (Jg (Jq u31 rfl rfl) rfl (Jg (EB rfl rfl) rfl (Jf ?_)))))))))))))));refine Ja (hK3 (Jk rfl (fun h11=>?_) (fun h11=>?_)))
 ·
  refine Je fun _ hK4 _=>(Jb (Jg (Jd rfl) rfl (Jg (Jd rfl) rfl (Jf (Ja (hK4 (Jp (Jh (Ea rfl (Res.tmp rfl) (Res.tmp rfl) fun w hH=>?_)))))))));replace hH:=hH.tail;exact ⟨degRet (homog_yes (fun j hj=>by omega)) (by rw [if_pos rfl];unfold outAt;rw [if_pos (by omega)]),hH⟩
 ·
  refine Ji (Ja (hK2 (Je fun _ hK5 _=>(Jb (Jg (Jc rfl) rfl (Jg (Ju u33 rfl sz31 rfl) rfl (Jg (Jr rfl At.z rfl pl31) rfl (Jg (Ej (i':=0) u31 sz69 rfl rfl rfl (by omega) hts.sm) rfl (Jg (El u69 rfl sz65 rfl (hts.sm (i:=0) (by omega))) rfl (Jg (JO rfl (hts.mono (by omega)) (hts.sm (i:=0) (by omega)) (by rw [bytesC_length,(hts.wf _ (by omega)).mono.len];exact ag65)) rfl (JF fn75 rfl rfl fun w hH=>(l01Weight_c hds (hts.wf 0 (by omega)).mono hn hd hH).mono ?_)))))))))));rintro _ w ⟨rfl,hH⟩;refine ⟨_,rfl,fun a hF=>JV hF hH ?_⟩;refine Jg (Jd rfl) rfl (Jf (Ja (hK5 (Je fun _ hK6 _=>(Je fun _ hK7 _=>(Jb (Jg (Jd rfl) rfl (Jf (Ja (hK7 (Jm (JE (σ:=Nat) (fun (k:Nat)=>[(7,.int .i64 (k:Int))]) (fun (k:Nat)=>H) (fun (k:Nat)=>obj g3 (.cells [.slice qts ts.length cts].toArray 33 (0,0))::L) (fun (k:Nat)=>1≤k∧k≤ts.length∧∀j,j<k→wd ds ts j=wd ds ts 0) (fun (k:Nat)=>ts.length - k) 1 ⟨by omega,by omega,fun j hj=>by rw [show j=0 by omega]⟩ ⟨rfl,trivial⟩ rfl rfl ?_))))))))))));rintro k hI _ hAg0;have hk:=hI.2.1;refine Je fun _ hK8 _=>(Je fun _ hK9 _=>(Jb (Jg (Jc rfl) rfl (Jg (Ju u33 rfl sz31 rfl) rfl (Jg (Jr rfl At.z rfl pl31) rfl (Jg (Jq u31 rfl rfl) rfl (Jg (JK rfl rfl) rfl (Jf (Ja (hK9 (Jk rfl (fun hc23=>?_) (fun hc23=>?_))))))))))))
  ·
   refine Ji (Ja (hK8 (Je fun _ hK10 _=>(Jm (Je fun _ hK11 _=>(Jb (Jg (Jc rfl) rfl (Jg (Ju u33 rfl sz31 rfl) rfl (Jg (Jr rfl At.z rfl pl31) rfl (Jg (Jc rfl) rfl (Jg (Ej u31 sz69 rfl rfl rfl (by omega) hts.sm) rfl (Jg (El u69 rfl sz65 rfl (hts.sm (i:=k) (by omega))) rfl (Jg (JO rfl (hts.mono (by omega)) (hts.sm (i:=k) (by omega)) (by rw [bytesC_length,(hts.wf _ (by omega)).mono.len];exact ag65)) rfl (JF fn75 rfl rfl fun w hH=>(l01Weight_c hds (hts.wf k (by omega)).mono hn hd hH).mono ?_))))))))))))));rintro _ w ⟨rfl,hH⟩;refine ⟨_,rfl,fun a hF=>JV hF hH ?_⟩;refine Jg (Jc rfl) rfl (Jg (Eo rfl rfl) rfl (Jf (Ja (hK11 (Jk rfl (fun h35=>?_) (fun h35=>?_))))))
   ·
    refine Je fun _ hK12 _=>(Jb (Jg (Jd rfl) rfl (Jg (Jd rfl) rfl (Jf (Ja (hK12 (Jp (JH (Jh (Jh (JH (Jh (Ea rfl (Res.tmp rfl) (Res.tmp rfl) fun w hH=>?_)))))))))))));replace hH:=hH.tail;exact ⟨degRet (homog_no (k:=k) (by omega) h35) rfl,hH⟩
   ·
    refine Ji (JD (Ja (hK10 (Jb (Jg (Jc rfl) rfl (Jg (Jy rfl rfl (by first | exact nw _ (by omega) | rfl)) rfl (Jg (Jd rfl) rfl (Jf (Ja ?_)))))))));exact hAg0 (k+1) ⟨by omega,by omega,upto hI.2.2 (Decidable.not_not.1 h35)⟩ (by omega) 19 rfl rfl ⟨rfl,trivial⟩ rfl rfl
  ·
   refine JI (Jl (Jl (JR (Ja (hK6 (Je fun _ hK13 _=>(Jb (Jg (Jc rfl) rfl (Jg (Jd rfl) rfl (Jg (Jd rfl) rfl (Jf (Ja (hK13 (Jp (Ea rfl (Res.tmp rfl) (Res.tmp rfl) fun w hH=>?_)))))))))))))));replace hH:=hH.tail
   obtain rfl:k=ts.length:=by omega
   exact ⟨degRet (homog_yes hI.2.2) (by rw [if_pos rfl];unfold outAt;rw [if_neg (by omega)];rfl),hH⟩
theorem markInt64S_s {B:World} {H0 H:HP} {L:List SA} {w:World} {gxs mxs cxs:Nat} {xs:List Value} {k:Int} (hm:mxs≤xs.length) (hn:0≤k∧k+mxs≤9223372036854775807) (hH:Hp B H0 H (obj gxs (.cells xs.toArray 2 (0,0))::L) w):Calls Tryz.prog 15 [.slice (some ⟨gxs,0,none⟩) mxs cxs,.int .i64 k].toArray w fun e w'=>e = .returned (.int .i64 (k+mxs))∧Hp B H0 H (obj gxs (.cells (intsC (marks k mxs)++xs.drop mxs).toArray 2 (0,0))::L) w':=by
 refine JB Tryz.func15 rfl 19 rfl rfl [(0,.slice (some ⟨gxs,0,none⟩) mxs cxs),(1,.int .i64 k)] rfl hH ?_;clear hH;refine Je fun _ hK1 _=>(Jb (Jg (Jd rfl) rfl (Jf (Ja (hK1 (Je fun _ hK2 _=>(Je fun _ hK3 _=>(Jb (Jg (Jd rfl) rfl (Jf (Ja (hK3 (Jm (JE (σ:=Nat) (fun (i:Nat)=>[(5,.int .i64 (i:Int)),(1,.int .i64 (k+i))]) (fun (i:Nat)=>H) (fun (i:Nat)=>obj gxs (.cells ((intsC (marks k mxs)).take i++xs.drop i).toArray 2 (0,0))::L) (fun (i:Nat)=>i≤mxs) (fun (i:Nat)=>mxs - i) 0 (by omega) ⟨rfl,⟨(vi (by omega)),trivial⟩⟩ rfl (by simp) ?_))))))))))))));rintro i hI _ hAg0;have hk:=hI;refine Je fun _ hK4 _=>(Je fun _ hK5 _=>(Jb (Jg (Jc rfl) rfl (Jg (Jc rfl) rfl (Jg (Jq u22 rfl rfl) rfl (Jg (JK rfl rfl) rfl (Jf (Ja (hK5 (Jk rfl (fun hc9=>?_) (fun hc9=>?_)))))))))))
 ·
  refine Ji (Ja (hK4 (Je fun _ hK6 _=>(Jm (Je fun _ hK7 _=>(Jb (Jg (Jc rfl) rfl (Jg (Jc rfl) rfl (Jg (Jc rfl) rfl (Jg (PR.idxO1 u22 sz2 rfl rfl rfl (by omega)) rfl (EA rfl rfl rfl rfl sz2 (by simp;omega) .z (Jf (Ja (hK7 (Jb (Jg (Jc rfl) rfl ?_))))))))))))))));refine Jg (Jy rfl rfl (by first | exact nw _ (by omega) | rfl)) rfl (Jg (Jd rfl) rfl (Jf (JD (Ja (hK6 (Jb (Jg (Jc rfl) rfl (Jg (Jy rfl rfl (by first | exact nw _ (by omega) | rfl)) rfl (Jg (Jd rfl) rfl (Jf (Ja ?_)))))))))));exact hAg0 (i+1) (by omega) (by omega) 16 rfl rfl ⟨rfl,⟨(vi (by omega)),trivial⟩⟩ rfl (by rw [← fill_flat (by omega) (marksC_get (by omega))])
 ·
  refine JI (Jl (Jl (JR (Ja (hK2 (Je fun _ hK8 _=>(Jb (Jg (Jc rfl) rfl (Jg (Jd rfl) rfl (Jf (Ja (hK8 (Jp (Jt rfl (Res.tmp rfl) fun w hH=>?_))))))))))))))
  obtain rfl:i=mxs:=by omega
  exact ⟨rfl,by simpa [List.take_of_length_le] using hH⟩
theorem markInt64S_0 {B:World} {H0 H:HP} {L:List SA} {w:World} {qxs:Option Addr} {cxs:Nat} {k:Int} (hH:Hp B H0 H L w):Calls Tryz.prog 15 [.slice qxs 0 cxs,.int .i64 k].toArray w fun e w'=>e = .returned (.int .i64 k)∧Hp B H0 H L w':=by
 refine JB Tryz.func15 rfl 19 rfl rfl [(0,.slice qxs 0 cxs),(1,.int .i64 k)] rfl hH ?_;clear hH;refine Je fun _ hK1 _=>(Jb (Jg (Jd rfl) rfl (Jf (Ja (hK1 (Je fun _ hK2 _=>(Je fun _ hK3 _=>(Jb (Jg (Jd rfl) rfl (Jf (Ja (hK3 (Jm (JE (σ:=Unit) (fun (_:Unit)=>[(5,.int .i64 0),(1,.int .i64 k)]) (fun (_:Unit)=>H) (fun (_:Unit)=>L) (fun (_:Unit)=>True) (fun (_:Unit)=>0) () trivial ⟨rfl,⟨rfl,trivial⟩⟩ rfl rfl ?_))))))))))))));rintro _ hI _ hAg0;refine Je fun _ hK4 _=>(Je fun _ hK5 _=>(Jb (Jg (Jc rfl) rfl (Jg (Jc rfl) rfl (Jg (Jq u22 rfl rfl) rfl (Jg (JK rfl rfl) rfl (Jf (Ja (hK5 (Jk rfl (fun hc9=>?_) (fun hc9=>?_)))))))))))
 ·
  exact absurd hc9 (by simp)
 ·
  refine JI (Jl (Jl (JR (Ja (hK2 (Je fun _ hK6 _=>(Jb (Jg (Jc rfl) rfl (Jg (Jd rfl) rfl (Jf (Ja (hK6 (Jp (Jt rfl (Res.tmp rfl) fun w hH=>?_))))))))))))));exact ⟨rfl,hH⟩
theorem markInt64S_c {B:World} {H0 H:HP} {L:List SA} {w:World} {q:Option Addr} {c m:Nat} {cells:List Value} {k:Int} (hn:0≤k∧k+m≤9223372036854775807) (hH:Hp B H0 H (own 2 1 q m c cells::L) w):Calls Tryz.prog 15 [.slice q m c,.int .i64 k].toArray w fun e w'=>e = .returned (.int .i64 (k+m))∧Hp B H0 H (own 2 1 q m c (intsC (marks k m))::L) w':=by
 refine hH.openOwn (by decide) (fun h1 h2 h3 h4=>?_) (fun g cs h1 h2 h3 h4 h5 h6 hG=>?_)
 ·subst h1 h2 h3 h4;refine (markInt64S_0 hH).mono ?_;rintro _ w ⟨rfl,h⟩;exact ⟨by simp,h⟩
 ·subst h1;refine (markInt64S_s (xs:=cs) (by omega) hn hG).mono ?_;rintro _ w ⟨rfl,h⟩;exact ⟨rfl,h.shutOwn (by simp;omega) h4 h5 (by rw [Nat.mul_one,List.take_append_of_le_length (by simp),List.take_of_length_le (by simp)])⟩
theorem heldInt64S_c {B:World} {H0 H:HP} {L:List SA} {w:World} {qxs:Option Addr} {cxs xs:Nat} {kxs:Int} (hxs:MInts H qxs kxs xs) (hn:0≤kxs∧kxs+xs≤9223372036854775807) (hH:Hp B H0 H L w):Calls Tryz.prog 22 [.slice qxs xs cxs,.int .i64 kxs].toArray w fun e w'=>e = .returned (.int .i64 (kxs+xs))∧Hp B H0 H L w':=by
 refine JB Tryz.func22 rfl 21 rfl rfl [(0,.slice qxs xs cxs),(1,.int .i64 kxs)] rfl hH ?_;clear hH;refine Je fun _ hK1 _=>(Jb (Jg (Jd rfl) rfl (Jf (Ja (hK1 (Je fun _ hK2 _=>(Je fun _ hK3 _=>(Jb (Jg (Jd rfl) rfl (Jf (Ja (hK3 (Jm (JE (σ:=Nat) (fun (i:Nat)=>[(5,.int .i64 (i:Int)),(1,.int .i64 (kxs+i))]) (fun (i:Nat)=>H) (fun (i:Nat)=>L) (fun (i:Nat)=>i≤xs) (fun (i:Nat)=>xs - i) 0 (by omega) ⟨rfl,⟨(vi (by omega)),trivial⟩⟩ rfl rfl ?_))))))))))))));rintro i hI _ hAg0;have hk:=hI;refine Je fun _ hK4 _=>(Je fun _ hK5 _=>(Jb (Jg (Jc rfl) rfl (Jg (Jc rfl) rfl (Jg (Jq u22 rfl rfl) rfl (Jg (JK rfl rfl) rfl (Jf (Ja (hK5 (Jk rfl (fun hc9=>?_) (fun hc9=>?_)))))))))))
 ·
  refine Ji (Ja (hK4 (Je fun _ hK6 _=>(Jm (Je fun _ hK7 _=>(Je fun _ hK8 _=>(Jb (Jg (Jc rfl) rfl (Jg (Jc rfl) rfl (Jg (Eg u22 sz2 rfl rfl rfl (by omega) hxs.sm) rfl (Jg (JW rfl (hxs _ (by omega)) pl2) rfl (Jg (Jc rfl) rfl (Jg (Eo rfl rfl) rfl (Jf (Ja (hK8 ?_))))))))))))))));refine Jk rfl (fun hc17=>?_) (fun hc17=>?_)
  ·
   refine Je fun _ hK9 _=>(Jb (Jg (Jd rfl) rfl (Jf (Ja (hK9 (Jp (Jh (JH (Jh (Jh (JH (Jh (Jt rfl (Res.tmp rfl) fun w hH=>?_)))))))))))));exact absurd rfl hc17
  ·
   refine Ji (Ja (hK7 (Jb (Jg (Jc rfl) rfl (Jg (Jy rfl rfl (by first | exact nw _ (by omega) | rfl)) rfl (Jg (Jd rfl) rfl (Jf (JD (Ja (hK6 (Jb (Jg (Jc rfl) rfl (Jg (Jy rfl rfl (by first | exact nw _ (by omega) | rfl)) rfl (Jg (Jd rfl) rfl (Jf (Ja ?_))))))))))))))));exact hAg0 (i+1) (by omega) (by omega) 18 rfl rfl ⟨rfl,⟨(vi (by omega)),trivial⟩⟩ rfl rfl
 ·
  refine JI (Jl (Jl (JR (Ja (hK2 (Je fun _ hK10 _=>(Jb (Jg (Jc rfl) rfl (Jg (Jd rfl) rfl (Jf (Ja (hK10 (Jp (Jt rfl (Res.tmp rfl) fun w hH=>?_))))))))))))))
  obtain rfl:i=xs:=by omega
  exact ⟨rfl,hH⟩
def upd (out:List Int) (k n:Nat):List Int:=out.set k (out.getD k 0+out.getD (k - n) 0)
def passE (n:Nat):Nat→List Int→List Int
 | 0,out=>out
 | c+1,out=>upd (passE n c out) (n+c) n
def passO (n m:Nat):Nat→List Int→List Int
 | 0,out=>out
 | c+1,out=>upd (passO n m c out) (m - c) n
def pass (m:Nat) (d:Int) (out:List Int):List Int:=if d.tmod 2=1 then passO d.toNat m (m+1 - d.toNat) out else passE d.toNat (m+1 - d.toNat) out
@[simp] theorem upd_length (out:List Int) (k n:Nat):(upd out k n).length=out.length:=by simp [upd]
@[simp] theorem passE_length (n c:Nat) (out:List Int):(passE n c out).length=out.length:=by induction c with | zero=>rfl | succ c ih=>simp [passE,ih]
@[simp] theorem passO_length (n m c:Nat) (out:List Int):(passO n m c out).length=out.length:=by induction c with | zero=>rfl | succ c ih=>simp [passO,ih]
@[simp] theorem pass_length (m:Nat) (d:Int) (out:List Int):(pass m d out).length=out.length:=by unfold pass;split <;> simp
def cap:Nat→Int
 | 0=>1
 | i+1=>41 * cap i
theorem fn29:Fn Tryz.prog 29:=⟨_,Tryz.func29,by kernel_rfl,rfl⟩
theorem fn30:Fn Tryz.prog 30:=⟨_,Tryz.func30,by kernel_rfl,rfl⟩
theorem markTermS_s {B:World} {H0 H:HP} {L:List SA} {w:World} {gxs mxs cxs:Nat} {xs:List Value} {k:Int} (hm:mxs * 9≤xs.length) (hn:0≤k∧k+9 * mxs≤9223372036854775807) (hH:Hp B H0 H (obj gxs (.cells xs.toArray 69 (0,0))::L) w):Calls Tryz.prog 29 [.slice (some ⟨gxs,0,none⟩) mxs cxs,.int .i64 k].toArray w fun e w'=>e = .returned (.int .i64 (k+9 * mxs))∧Hp B H0 H (obj gxs (.cells (tsC (marksT k mxs)++xs.drop (mxs * 9)).toArray 69 (0,0))::L) w':=by
 refine JB Tryz.func29 rfl 35 rfl rfl [(0,.slice (some ⟨gxs,0,none⟩) mxs cxs),(1,.int .i64 k)] rfl hH ?_;clear hH
 have hML:(tsC (marksT k mxs)).length=mxs * 9:=by rw [tsC_length (marksT_wfs hn),marksT_length]
 refine Je fun _ hK1 _=>(Jb (Jg (Jd rfl) rfl (Jf (Ja (hK1 (Je fun _ hK2 _=>(Je fun _ hK3 _=>(Jb (Jg (Jd rfl) rfl (Jf (Ja (hK3 (Jm (JE (σ:=Nat) (fun (i:Nat)=>[(5,.int .i64 (i:Int)),(1,.int .i64 (k+9 * i))]) (fun (i:Nat)=>H) (fun (i:Nat)=>obj gxs (.cells ((tsC (marksT k mxs)).take (i * 9)++xs.drop (i * 9)).toArray 69 (0,0))::L) (fun (i:Nat)=>i≤mxs) (fun (i:Nat)=>mxs - i) 0 (by omega) ⟨rfl,⟨(vi (by omega)),trivial⟩⟩ rfl (by simp) ?_))))))))))))));rintro i hI _ hAg0;have hk:=hI;refine Je fun _ hK4 _=>(Je fun _ hK5 _=>(Jb (Jg (Jc rfl) rfl (Jg (Jc rfl) rfl (Jg (Jq u31 rfl rfl) rfl (Jg (JK rfl rfl) rfl (Jf (Ja (hK5 (Jk rfl (fun hc10=>?_) (fun hc10=>?_)))))))))))
 ·
  refine Ji (Ja (hK4 (Je fun _ hK6 _=>(Jm (Je fun _ hK7 _=>(Je fun _ hK8 _=>(Jb (Jg (Jd rfl) rfl (Jf (Ja (hK8 (Jm (JE (σ:=Nat) (fun (j:Nat)=>[(6,.int .i64 (j:Int)),(1,.int .i64 (k+9 * i+j))]) (fun (j:Nat)=>H) (fun (j:Nat)=>obj gxs (.cells ((tsC (marksT k mxs)).take (i * 9+j)++xs.drop (i * 9+j)).toArray 69 (0,0))::L) (fun (j:Nat)=>j≤8) (fun (j:Nat)=>8 - j) 0 (by omega) ⟨rfl,⟨(vi (by omega)),trivial⟩⟩ rfl rfl ?_)))))))))))));rintro j hJ _ hAg1;have hj:=hJ;refine Je fun _ hK9 _=>(Je fun _ hK10 _=>(Jb (Jg (Jc rfl) rfl (Jg (JK rfl rfl) rfl (Jf (Ja (hK10 (Jk rfl (fun hc14=>?_) (fun hc14=>?_)))))))))
  ·
   refine Ji (Ja (hK9 (Je fun _ hK11 _=>(Jm (Je fun _ hK12 _=>(Jb (Jg (Jc rfl) rfl (Jg (Jc rfl) rfl (Jg (Jc rfl) rfl (Jg (Jc rfl) rfl (Jg (Ey u3 u5 rfl rfl) rfl (Jg (PR.idxO u31 sz69 rfl rfl rfl (by omega)) rfl (Jg (Ju u69 rfl sz65 rfl) rfl (Jg (PR.idxB u65 sz5 rfl rfl rfl (by omega)) rfl (EA rfl rfl rfl rfl sz5 (by show i * 9+0+j<_;simp only [List.length_append,List.length_take,List.length_drop];omega) .z ?_)))))))))))))));refine Jf (Ja (hK12 (Jb (Jg (Jc rfl) rfl (Jg (Jy rfl rfl (by first | exact nw _ (by omega) | rfl)) rfl (Jg (Jd rfl) rfl (Jf (JD (Ja (hK11 (Jb (Jg (Jc rfl) rfl (Jg (Jy rfl rfl (by first | exact nw _ (by omega) | rfl)) rfl (Jg (Jd rfl) rfl (Jf (Ja ?_))))))))))))))));exact hAg1 (j+1) (by omega) (by omega) 18 rfl rfl ⟨rfl,⟨(vi (by omega)),trivial⟩⟩ rfl (by have e:=fill_flat (M:=tsC (marksT k mxs)) (cs:=xs) (p:=i * 9+j) (by omega) (marksTC_byte hn (by omega) (by omega));rw [show i * 9+(j+1)=i * 9+j+1 by omega,← e];rfl)
  ·
   refine JI (Jl (Jl (JR (Ja (hK7 (Je fun _ hK13 _=>(Jb (Jg (Jc rfl) rfl (Jg (Jc rfl) rfl (Jg (Jc rfl) rfl (Jg (PR.idxO u31 sz69 rfl rfl rfl (by omega)) rfl (Jg (Ju u69 rfl sz2 rfl) rfl (EA rfl rfl rfl rfl sz2 (by show i * 9+8<_;simp only [List.length_append,List.length_take,List.length_drop];omega) .z (Jf (Ja (hK13 ?_))))))))))))))));refine Jb (Jg (Jc rfl) rfl (Jg (Jy rfl rfl (by first | exact nw _ (by omega) | rfl)) rfl (Jg (Jd rfl) rfl (Jf (JD (Ja (hK6 (Jb (Jg (Jc rfl) rfl (Jg (Jy rfl rfl (by first | exact nw _ (by omega) | rfl)) rfl (Jg (Jd rfl) rfl (Jf (Ja ?_)))))))))))));exact hAg0 (i+1) (by omega) (by omega) 22 rfl rfl ⟨rfl,⟨(vi (by omega)),trivial⟩⟩ rfl (by have e:=fill_flat (M:=tsC (marksT k mxs)) (cs:=xs) (p:=i * 9+8) (by omega) (marksTC_fac hn (by omega));obtain rfl:j=8:=(by omega);rw [show (i+1) * 9=i * 9+8+1 by omega,← e,show k+9 * (i:Int)+((8:Nat):Int)=k+9 * (i:Int)+8 by omega];rfl)
 ·
  refine JI (Jl (Jl (JR (Ja (hK2 (Je fun _ hK14 _=>(Jb (Jg (Jc rfl) rfl (Jg (Jd rfl) rfl (Jf (Ja (hK14 (Jp (Jt rfl (Res.tmp rfl) fun w hH=>?_))))))))))))))
  obtain rfl:i=mxs:=by omega
  rw [List.take_of_length_le (by omega)] at hH;exact ⟨rfl,hH⟩
theorem markTermS_0 {B:World} {H0 H:HP} {L:List SA} {w:World} {qxs:Option Addr} {cxs:Nat} {k:Int} (hH:Hp B H0 H L w):Calls Tryz.prog 29 [.slice qxs 0 cxs,.int .i64 k].toArray w fun e w'=>e = .returned (.int .i64 k)∧Hp B H0 H L w':=by
 refine JB Tryz.func29 rfl 35 rfl rfl [(0,.slice qxs 0 cxs),(1,.int .i64 k)] rfl hH ?_;clear hH;refine Je fun _ hK1 _=>(Jb (Jg (Jd rfl) rfl (Jf (Ja (hK1 (Je fun _ hK2 _=>(Je fun _ hK3 _=>(Jb (Jg (Jd rfl) rfl (Jf (Ja (hK3 (Jm (JE (σ:=Unit) (fun (_:Unit)=>[(5,.int .i64 0),(1,.int .i64 k)]) (fun (_:Unit)=>H) (fun (_:Unit)=>L) (fun (_:Unit)=>True) (fun (_:Unit)=>0) () trivial ⟨rfl,⟨rfl,trivial⟩⟩ rfl rfl ?_))))))))))))));rintro _ hI _ hAg0;refine Je fun _ hK4 _=>(Je fun _ hK5 _=>(Jb (Jg (Jc rfl) rfl (Jg (Jc rfl) rfl (Jg (Jq u31 rfl rfl) rfl (Jg (JK rfl rfl) rfl (Jf (Ja (hK5 (Jk rfl (fun hc10=>?_) (fun hc10=>?_)))))))))))
 ·
  exact absurd hc10 (by simp)
 ·
  refine JI (Jl (Jl (JR (Ja (hK2 (Je fun _ hK6 _=>(Jb (Jg (Jc rfl) rfl (Jg (Jd rfl) rfl (Jf (Ja (hK6 (Jp (Jt rfl (Res.tmp rfl) fun w hH=>?_))))))))))))));exact ⟨rfl,hH⟩
theorem markTermS_c {B:World} {H0 H:HP} {L:List SA} {w:World} {q:Option Addr} {c m:Nat} {cells:List Value} {k:Int} (hn:0≤k∧k+9 * (m:Nat)≤9223372036854775807) (hH:Hp B H0 H (own 69 9 q m c cells::L) w):Calls Tryz.prog 29 [.slice q m c,.int .i64 k].toArray w fun e w'=>e = .returned (.int .i64 (k+9 * (m:Nat)))∧Hp B H0 H (own 69 9 q m c (tsC (marksT k m))::L) w':=by
 refine hH.openOwn (by decide) (fun h1 h2 h3 h4=>?_) (fun g cs h1 h2 h3 h4 h5 h6 hG=>?_)
 ·subst h1 h2 h3 h4;refine (markTermS_0 hH).mono ?_;rintro _ w ⟨rfl,h⟩;exact ⟨by simp,h⟩
 ·subst h1;refine (markTermS_s (xs:=cs) (by omega) hn hG).mono ?_;rintro _ w ⟨rfl,h⟩
  have hl:(tsC (marksT k m)).length=m * 9:=by rw [tsC_length (marksT_wfs hn),marksT_length]
  exact ⟨rfl,h.shutOwn (by simp only [List.length_append,List.length_drop];omega) h4 h5 (by rw [List.take_append_of_le_length (by omega),List.take_of_length_le (by omega)])⟩
theorem heldTermS_c {B:World} {H0 H:HP} {L:List SA} {w:World} {qxs:Option Addr} {cxs xs:Nat} {kxs:Int} (hxs:MTerms H qxs kxs xs) (hn:0≤kxs∧kxs+9 * (xs:Nat)≤9223372036854775807) (hH:Hp B H0 H L w):Calls Tryz.prog 30 [.slice qxs xs cxs,.int .i64 kxs].toArray w fun e w'=>e = .returned (.int .i64 (kxs+9 * (xs:Nat)))∧Hp B H0 H L w':=by
 refine JB Tryz.func30 rfl 39 rfl rfl [(0,.slice qxs xs cxs),(1,.int .i64 kxs)] rfl hH ?_;clear hH;refine Je fun _ hK1 _=>(Jb (Jg (Jd rfl) rfl (Jf (Ja (hK1 (Je fun _ hK2 _=>(Je fun _ hK3 _=>(Jb (Jg (Jd rfl) rfl (Jf (Ja (hK3 (Jm (JE (σ:=Nat) (fun (i:Nat)=>[(5,.int .i64 (i:Int)),(1,.int .i64 (kxs+9 * (i:Nat)))]) (fun (i:Nat)=>H) (fun (i:Nat)=>L) (fun (i:Nat)=>i≤xs) (fun (i:Nat)=>xs - i) 0 (by omega) ⟨rfl,⟨(vi (by omega)),trivial⟩⟩ rfl rfl ?_))))))))))))));rintro i hI _ hAg0;have hk:=hI;refine Je fun _ hK4 _=>(Je fun _ hK5 _=>(Jb (Jg (Jc rfl) rfl (Jg (Jc rfl) rfl (Jg (Jq u31 rfl rfl) rfl (Jg (JK rfl rfl) rfl (Jf (Ja (hK5 (Jk rfl (fun hc10=>?_) (fun hc10=>?_)))))))))))
 ·
  refine Ji (Ja (hK4 (Je fun _ hK6 _=>(Jm (Je fun _ hK7 _=>(Je fun _ hK8 _=>(Jb (Jg (Jd rfl) rfl (Jf (Ja (hK8 (Jm (JE (σ:=Nat) (fun (j:Nat)=>[(6,.int .i64 (j:Int)),(1,.int .i64 (kxs+9 * (i:Nat)+(j:Nat)))]) (fun (j:Nat)=>H) (fun (j:Nat)=>L) (fun (j:Nat)=>j≤8) (fun (j:Nat)=>8 - j) 0 (by omega) ⟨rfl,⟨(vi (by omega)),trivial⟩⟩ rfl rfl ?_)))))))))))));rintro j hJ _ hAg1;have hj:=hJ;refine Je fun _ hK9 _=>(Je fun _ hK10 _=>(Jb (Jg (Jc rfl) rfl (Jg (JK rfl rfl) rfl (Jf (Ja (hK10 (Jk rfl (fun hc14=>?_) (fun hc14=>?_)))))))))
  ·
   refine Ji (Ja (hK9 (Je fun _ hK11 _=>(Jm (Je fun _ hK12 _=>(Je fun _ hK13 _=>(Jb (Jg (Jc rfl) rfl (Jg (Jc rfl) rfl (Jg (Jc rfl) rfl (Jg (Ej u31 sz69 rfl rfl rfl (by omega) hxs.sm) rfl (Jg (El u69 rfl sz65 rfl (hxs.sm (i:=i) (by omega))) rfl (Jg (PR.idxP1 u65 sz5 rfl (hxs.sm (i:=i) (by omega)) rfl rfl (by omega)) rfl (Jg (JW rfl (hxs.byte _ (by omega) _ (by omega)) pl5) rfl (Jg (Jc rfl) rfl ?_)))))))))))))));refine Jg (Ey u3 u5 rfl rfl) rfl (Jg (Eo rfl rfl) rfl (Jf (Ja (hK13 (Jk rfl (fun hc26=>?_) (fun hc26=>?_))))))
   ·
    refine Je fun _ hK14 _=>(Jb (Jg (Jd rfl) rfl (Jf (Ja (hK14 (Jp (Jh (JH (Jh (Jh (JH (Jh (JH (Jh (Jh ?_)))))))))))))));refine JH (Jh (Jt rfl (Res.tmp rfl) fun w hH=>?_));exact absurd rfl hc26
   ·
    refine Ji (Ja (hK12 (Jb (Jg (Jc rfl) rfl (Jg (Jy rfl rfl (by first | exact nw _ (by omega) | rfl)) rfl (Jg (Jd rfl) rfl (Jf (JD (Ja (hK11 (Jb (Jg (Jc rfl) rfl (Jg (Jy rfl rfl (by first | exact nw _ (by omega) | rfl)) rfl (Jg (Jd rfl) rfl (Jf (Ja ?_))))))))))))))));exact hAg1 (j+1) (by omega) (by omega) 20 rfl rfl ⟨rfl,⟨(vi (by omega)),trivial⟩⟩ rfl rfl
  ·
   refine JI (Jl (Jl (JR (Ja (hK7 (Je fun _ hK15 _=>(Je fun _ hK16 _=>(Jb (Jg (Jc rfl) rfl (Jg (Jc rfl) rfl (Jg (Ej u31 sz69 rfl rfl rfl (by omega) hxs.sm) rfl (Jg (El u69 rfl sz2 rfl (hxs.sm (i:=i) (by omega))) rfl (Jg (JW rfl (hxs.fac _ (by omega)) pl2) rfl (Jg (Jc rfl) rfl (Jg (Eo rfl rfl) rfl ?_)))))))))))))));refine Jf (Ja (hK16 (Jk rfl (fun hc35=>?_) (fun hc35=>?_))))
   ·
    refine Je fun _ hK17 _=>(Jb (Jg (Jd rfl) rfl (Jf (Ja (hK17 (Jp (Jh (JH (Jh (Jh (JH (Jh (Jt rfl (Res.tmp rfl) fun w hH=>?_)))))))))))));exact absurd (by obtain rfl:j=8:=(by omega);rfl) hc35
   ·
    refine Ji (Ja (hK15 (Jb (Jg (Jc rfl) rfl (Jg (Jy rfl rfl (by first | exact nw _ (by omega) | rfl)) rfl (Jg (Jd rfl) rfl (Jf (JD (Ja (hK6 (Jb (Jg (Jc rfl) rfl (Jg (Jy rfl rfl (by first | exact nw _ (by omega) | rfl)) rfl (Jg (Jd rfl) rfl (Jf (Ja ?_))))))))))))))));exact hAg0 (i+1) (by omega) (by omega) 24 rfl rfl ⟨rfl,⟨(vi (by omega)),trivial⟩⟩ rfl rfl
 ·
  refine JI (Jl (Jl (JR (Ja (hK2 (Je fun _ hK18 _=>(Jb (Jg (Jc rfl) rfl (Jg (Jd rfl) rfl (Jf (Ja (hK18 (Jp (Jt rfl (Res.tmp rfl) fun w hH=>?_))))))))))))))
  obtain rfl:i=xs:=by omega
  exact ⟨rfl,hH⟩
theorem u23:Tryz.prog.underlying 23=some (TypeDesc.slice 33):=by kernel_rfl
theorem u25:Tryz.prog.underlying 25=some (TypeDesc.struct #[{name:="Degrees",type:=22,offset:=0,embedded:=false,tag:="",pkgPath:="",byteOffset:=0},{name:="Images",type:=23,offset:=1,embedded:=false,tag:="",pkgPath:="",byteOffset:=24}]):=by kernel_rfl
theorem sz22:Size Tryz.prog 22 1:=by unfold Size;kernel_rfl
theorem sz23:Size Tryz.prog 23 1:=by unfold Size;kernel_rfl
theorem sz33:Size Tryz.prog 33 1:=by unfold Size;kernel_rfl
theorem pl22:Plain Tryz.prog 22:=⟨_,u22,rfl⟩
theorem pl23:Plain Tryz.prog 23:=⟨_,u23,rfl⟩
theorem ag33:Agg Tryz.prog 33 1:=⟨_,u33,rfl,by kernel_rfl⟩
theorem fn13:Fn Tryz.prog 13:=⟨_,Tryz.func13,by kernel_rfl,rfl⟩
theorem fn14:Fn Tryz.prog 14:=⟨_,Tryz.func14,by kernel_rfl,rfl⟩
theorem fn15:Fn Tryz.prog 15:=⟨_,Tryz.func15,by kernel_rfl,rfl⟩
theorem fn20:Fn Tryz.prog 20:=⟨_,Tryz.func20,by kernel_rfl,rfl⟩
theorem fn21:Fn Tryz.prog 21:=⟨_,Tryz.func21,by kernel_rfl,rfl⟩
theorem fn22:Fn Tryz.prog 22:=⟨_,Tryz.func22,by kernel_rfl,rfl⟩
theorem fn23:Fn Tryz.prog 23:=⟨_,Tryz.func23,by kernel_rfl,rfl⟩
theorem markFormS_s {B:World} {H0 H:HP} {L:List SA} {w:World} {qfs:Option Addr} {cfs:Nat} {vs:Vs} {fs:List (List Term)} {k:Int} (hn:0≤k∧k+9 * (tot fs:Nat)≤9223372036854775807) (hl:fs.length≤9223372036854775807) (hq:0<fs.length→qfs.isSome=true) (hH:Hp B H0 H (emp::ownTs 69 vs fs::own 33 1 qfs fs.length cfs (slicesC vs fs)::L) w):Calls Tryz.prog 21 [.slice qfs fs.length cfs,.int .i64 k].toArray w fun e w'=>e = .returned (.int .i64 (k+9 * (tot fs:Nat)))∧Hp B H0 H (ownTs 69 vs (marksFs k fs)::own 33 1 qfs fs.length cfs (slicesC vs fs)::L) w':=by
 refine JB Tryz.func21 rfl 20 rfl rfl [(0,.slice qfs fs.length cfs),(1,.int .i64 k)] rfl hH ?_;clear hH;refine Je fun _ hK1 _=>(Jb (Jg (Jd rfl) rfl (Jf (Ja (hK1 (Je fun _ hK2 _=>(Je fun _ hK3 _=>(Jb (Jg (Jd rfl) rfl (Jf (Ja (hK3 (Jm (JE (σ:=Nat) (fun (i:Nat)=>[(5,.int .i64 (i:Int)),(1,.int .i64 (k+9 * (tot (fs.take i):Nat)))]) (fun (i:Nat)=>H) (fun (i:Nat)=>ownTs 69 vs (marksFs k (fs.take i))::ownTs 69 (vs.dr i) (fs.drop i)::own 33 1 qfs fs.length cfs (slicesC vs fs)::L) (fun (i:Nat)=>i≤fs.length) (fun (i:Nat)=>fs.length - i) 0 (by omega) ⟨rfl,⟨(vi (by simp [tot])),trivial⟩⟩ rfl rfl ?_))))))))))))));rintro i hI _ hAg0;have hk:=hI;refine Je fun _ hK4 _=>(Je fun _ hK5 _=>(Jb (Jg (Jc rfl) rfl (Jg (Jc rfl) rfl (Jg (Jq u23 rfl rfl) rfl (Jg (JK rfl rfl) rfl (Jf (Ja (hK5 (Jk rfl (fun hc9=>?_) (fun hc9=>?_)))))))))))
 ·
  refine Ji (Ja (hK4 (Je fun _ hK6 _=>(Jm (Jb (Jg (Jc rfl) rfl (Jg (Jc rfl) rfl (Jg (Eg u23 sz33 rfl rfl rfl (by omega) (fun _=>hq (by omega))) rfl (Jg (El u33 rfl sz31 rfl (hq (by omega))) rfl (Jg (EH rfl (.s (.s .z)) (slicesC_get (i:=i) (by omega)) pl31) rfl (Jg (Jc rfl) rfl (JF fn29 rfl rfl fun w hH=>(markTermS_c (by have:=tot_take_le (fs:=fs) (i:=i) (by omega);omega) (Hp.fsIn (i:=i) (hH.front (.s .z)) (by omega))).mono ?_))))))))))));rintro _ w ⟨rfl,hH⟩
  have hH2:=Hp.fsOut (f:=marksT (k+9 * (tot (fs.take i):Nat)) (fm fs i).length) (vs:=vs) (gs:=marksFs k (fs.take i)) (by
   have e:(marksFs k (fs.take i)).length=i:=by simp;omega
   rw [e,marksT_length]
   exact hH.front (.s (.s .z)) |>.front (.s .z))
  refine ⟨_,rfl,fun a hF=>JV hF hH2 ?_⟩;refine Jg (Jd rfl) rfl (Jf (JD (Ja (hK6 (Jb (Jg (Jc rfl) rfl (Jg (Jy rfl rfl (by first | exact nw _ (by omega) | rfl)) rfl (Jg (Jd rfl) rfl (Jf (Ja ?_))))))))));exact hAg0 (i+1) (by omega) (by omega) 17 rfl rfl ⟨rfl,⟨(vi (by rw [tot_succ (by omega)];omega)),trivial⟩⟩ rfl (by rw [marksFs_succ (by omega)])
 ·
  refine JI (Jl (Jl (JR (Ja (hK2 (Je fun _ hK7 _=>(Jb (Jg (Jc rfl) rfl (Jg (Jd rfl) rfl (Jf (Ja (hK7 (Jp (Jt rfl (Res.tmp rfl) fun w hH=>?_))))))))))))));replace hH:=hH.sublist (.cons_cons _ (.cons _ (.cons_cons _ (List.Sublist.refl _))))
  obtain rfl:i=fs.length:=by omega
  rw [List.take_length] at hH;exact ⟨by rw [List.take_length],hH⟩
theorem markFormS_c {B:World} {H0 H:HP} {L:List SA} {w:World} {q:Option Addr} {c:Nat} {vs:Vs} {fs:List (List Term)} {k:Int} (hn:0≤k∧k+9 * (tot fs:Nat)≤9223372036854775807) (hl:fs.length≤9223372036854775807) (hH:Hp B H0 H (ownFs 33 69 q c vs fs::L) w):Calls Tryz.prog 21 [.slice q fs.length c,.int .i64 k].toArray w fun e w'=>e = .returned (.int .i64 (k+9 * (tot fs:Nat)))∧Hp B H0 H (ownFs 33 69 q c vs (marksFs k fs)::L) w':=by
 have hu:=hH.unstar
 have hq:0<fs.length→q.isSome=true:=fun h=>by
  rcases (hu.objs _ (List.mem_cons_self)).1.2 with ⟨_,h2,_⟩ | ⟨g,cur,rfl,_⟩
  ·omega
  ·rfl
 refine (markFormS_s hn hl hq ((hu.front (.s .z)).emp)).mono ?_;rintro _ w ⟨rfl,h⟩;refine ⟨rfl,?_⟩;have h2:=(h.front (.s .z)).star;unfold ownFs;rw [slicesC_marks,marksFs_length];exact h2
theorem heldFormS_c {B:World} {H0 H:HP} {L:List SA} {w:World} {qxs:Option Addr} {cxs:Nat} {xs:List (List Term)} {kxs:Int} (hxs:MForms H qxs kxs xs) (hn:0≤kxs∧kxs+9 * (tot xs:Nat)≤9223372036854775807) (hl:xs.length≤9223372036854775807) (hH:Hp B H0 H L w):Calls Tryz.prog 23 [.slice qxs xs.length cxs,.int .i64 kxs].toArray w fun e w'=>e = .returned (.int .i64 (kxs+9 * (tot xs:Nat)))∧Hp B H0 H L w':=by
 refine JB Tryz.func23 rfl 22 rfl rfl [(0,.slice qxs xs.length cxs),(1,.int .i64 kxs)] rfl hH ?_;clear hH;refine Je fun _ hK1 _=>(Jb (Jg (Jd rfl) rfl (Jf (Ja (hK1 (Je fun _ hK2 _=>(Je fun _ hK3 _=>(Jb (Jg (Jd rfl) rfl (Jf (Ja (hK3 (Jm (JE (σ:=Nat) (fun (i:Nat)=>[(5,.int .i64 (i:Int)),(1,.int .i64 (kxs+9 * (tot (xs.take i):Nat)))]) (fun (i:Nat)=>H) (fun (i:Nat)=>L) (fun (i:Nat)=>i≤xs.length) (fun (i:Nat)=>xs.length - i) 0 (by omega) ⟨rfl,⟨(vi (by simp [tot])),trivial⟩⟩ rfl rfl ?_))))))))))))));rintro i hI _ hAg0;have hk:=hI;refine Je fun _ hK4 _=>(Je fun _ hK5 _=>(Jb (Jg (Jc rfl) rfl (Jg (Jc rfl) rfl (Jg (Jq u23 rfl rfl) rfl (Jg (JK rfl rfl) rfl (Jf (Ja (hK5 (Jk rfl (fun hc9=>?_) (fun hc9=>?_)))))))))))
 ·
  refine Ji (Ja (hK4 (Je fun _ hK6 _=>(Jm (Je fun _ hK7 _=>(Jb (Jg (Jc rfl) rfl (Jg (Jc rfl) rfl (Jg (Eg u23 sz33 rfl rfl rfl (by omega) hxs.sm) rfl (Jg (El u33 rfl sz31 rfl (hxs.sm (i:=i) (by omega))) rfl ?_))))))))));obtain ⟨qe16,ce16,he16,Fe16⟩:=hxs i (by omega);refine Jg (JW rfl he16 pl31) rfl (Jg (Jc rfl) rfl (JF fn30 rfl rfl fun w hH=>(heldTermS_c Fe16 (by have:=tot_take_le (fs:=xs) (i:=i) (by omega);omega) hH).mono ?_));rintro _ w ⟨rfl,hH⟩;refine ⟨_,rfl,fun a hF=>JV hF hH ?_⟩;refine Jg (Jd rfl) rfl (Jf (Ja (hK7 (Je fun _ hK8 _=>(Jb (Jg (Jc rfl) rfl (Jg (JK rfl rfl) rfl (Jf (Ja (hK8 (Jk rfl (fun hc20=>?_) (fun hc20=>?_))))))))))))
  ·
   refine Je fun _ hK9 _=>(Jb (Jg (Jd rfl) rfl (Jf (Ja (hK9 (Jp (JH (Jh (Jh (JH (Jh (Jt rfl (Res.tmp rfl) fun w hH=>?_))))))))))))
   omega
  ·
   refine Ji (JD (Ja (hK6 (Jb (Jg (Jc rfl) rfl (Jg (Jy rfl rfl (by first | exact nw _ (by omega) | rfl)) rfl (Jg (Jd rfl) rfl (Jf (Ja ?_)))))))));exact hAg0 (i+1) (by omega) (by omega) 19 rfl rfl ⟨rfl,⟨(vi (by rw [tot_succ (by omega)];omega)),trivial⟩⟩ rfl rfl
 ·
  refine JI (Jl (Jl (JR (Ja (hK2 (Je fun _ hK10 _=>(Jb (Jg (Jc rfl) rfl (Jg (Jd rfl) rfl (Jf (Ja (hK10 (Jp (Jt rfl (Res.tmp rfl) fun w hH=>?_))))))))))))))
  obtain rfl:i=xs.length:=by omega
  exact ⟨by rw [List.take_length],hH⟩
theorem markAlgebra_c {B:World} {H0 H:HP} {L:List SA} {w:World} {qad qaf:Option Addr} {ma cad caf:Nat} {cellsa:List Value} {vsa:Vs} {a:List (List Term)} {k:Int} (hn:0≤k∧k+ma+9 * (tot a:Nat)≤9223372036854775807) (hl:a.length≤9223372036854775807) (hH:Hp B H0 H (own 2 1 qad ma cad cellsa::ownFs 33 69 qaf caf vsa a::L) w):Calls Tryz.prog 8 [.agg [.slice qad ma cad,.slice qaf a.length caf].toArray,.int .i64 k].toArray w fun e w'=>e = .returned (.int .i64 (k+ma+9 * (tot a:Nat)))∧Hp B H0 H (own 2 1 qad ma cad (intsC (marks k ma))::ownFs 33 69 qaf caf vsa (marksFs (k+ma) a)::L) w':=by
 refine JB Tryz.func8 rfl 14 rfl rfl [(0,.agg [.slice qad ma cad,.slice qaf a.length caf].toArray),(1,.int .i64 k)] rfl hH ?_;clear hH;refine Je fun _ hK1 _=>(Jb (Ei rfl rfl rfl fun g2=>(Jg (Jd rfl) rfl (Jf (Ja (hK1 (Je fun _ hK2 _=>(Jb (Jg (Ju u25 rfl sz22 rfl) rfl (Jg (Jr rfl At.z rfl pl22) rfl (Jg (Jc rfl) rfl (JF fn15 rfl rfl fun w hH=>(markInt64S_c (by omega) (hH.front (.s .z))).mono ?_))))))))))));rintro _ w ⟨rfl,hH⟩;refine ⟨_,rfl,fun a hF=>JV hF hH ?_⟩;refine Jg (Jd rfl) rfl (Jf (Ja (hK2 (Je fun _ hK3 _=>(Jb (Jg (Ju u25 rfl sz23 rfl) rfl (Jg (Jr rfl (.s .z) rfl pl23) rfl (Jg (Jc rfl) rfl (JF fn21 rfl rfl fun w hH=>(markFormS_c (by omega) (by omega) (hH.front (.s (.s .z)))).mono ?_)))))))));rintro _ w ⟨rfl,hH⟩;refine ⟨_,rfl,fun a hF=>JV hF hH ?_⟩;refine Jg (Jd rfl) rfl (Jf (Ja (hK3 (Je fun _ hK4 _=>(Jb (Jg (Jc rfl) rfl (Jg (Jd rfl) rfl (Jf (Ja (hK4 (Jp (Jt rfl (Res.tmp rfl) fun w hH=>?_))))))))))));replace hH:=hH.sublist (.cons_cons _ (.cons_cons _ (.cons _ (List.Sublist.refl _))));exact ⟨rfl,hH.front (.s .z)⟩
theorem heldAlgebra_c {B:World} {H0 H:HP} {L:List SA} {w:World} {qad qaf:Option Addr} {cad caf ma:Nat} {ka:Int} {a:List (List Term)} (had:MInts H qad ka ma) (haf:MForms H qaf (ka+ma) a) (hn:0≤ka∧ka+ma+9 * (tot a:Nat)≤9223372036854775807) (hl:a.length≤9223372036854775807) (hH:Hp B H0 H L w):Calls Tryz.prog 9 [.agg [.slice qad ma cad,.slice qaf a.length caf].toArray,.int .i64 ka].toArray w fun e w'=>e = .returned (.int .i64 (ka+ma+9 * (tot a:Nat)))∧Hp B H0 H L w':=by
 refine JB Tryz.func9 rfl 18 rfl rfl [(0,.agg [.slice qad ma cad,.slice qaf a.length caf].toArray),(1,.int .i64 ka)] rfl hH ?_;clear hH;refine Je fun _ hK1 _=>(Jb (Ei rfl rfl rfl fun g2=>(Jg (Jd rfl) rfl (Jf (Ja (hK1 (Je fun _ hK2 _=>(Jb (Jg (Ju u25 rfl sz22 rfl) rfl (Jg (Jr rfl At.z rfl pl22) rfl (Jg (Jc rfl) rfl (JF fn22 rfl rfl fun w hH=>(heldInt64S_c had (by omega) hH).mono ?_))))))))))));rintro _ w ⟨rfl,hH⟩;refine ⟨_,rfl,fun a hF=>JV hF hH ?_⟩;refine Jg (Jd rfl) rfl (Jf (Ja (hK2 (Je fun _ hK3 _=>(Je fun _ hK4 _=>(Jb (Jg (Jc rfl) rfl (Jg (JK rfl rfl) rfl (Jf (Ja (hK4 (Jk rfl (fun hc10=>?_) (fun hc10=>?_)))))))))))))
 ·
  refine Je fun _ hK5 _=>(Jb (Jg (Jd rfl) rfl (Jf (Ja (hK5 (Jp (Jh (Jt rfl (Res.tmp rfl) fun w hH=>?_))))))));replace hH:=hH.tail
  omega
 ·
  refine Ji (Ja (hK3 (Je fun _ hK6 _=>(Jb (Jg (Ju u25 rfl sz23 rfl) rfl (Jg (Jr rfl At.z rfl pl23) rfl (Jg (Jc rfl) rfl (JF fn23 rfl rfl fun w hH=>(heldFormS_c haf (by omega) (by omega) hH).mono ?_))))))));rintro _ w ⟨rfl,hH⟩;refine ⟨_,rfl,fun a hF=>JV hF hH ?_⟩;refine Jg (Jd rfl) rfl (Jf (Ja (hK6 (Je fun _ hK7 _=>(Je fun _ hK8 _=>(Jb (Jg (Jc rfl) rfl (Jg (JK rfl rfl) rfl (Jf (Ja (hK8 (Jk rfl (fun hc16=>?_) (fun hc16=>?_)))))))))))))
  ·
   refine Je fun _ hK9 _=>(Jb (Jg (Jd rfl) rfl (Jf (Ja (hK9 (Jp (Jh (Jt rfl (Res.tmp rfl) fun w hH=>?_))))))));replace hH:=hH.tail
   omega
  ·
   refine Ji (Ja (hK7 (Je fun _ hK10 _=>(Jb (Jg (Jc rfl) rfl (Jg (Jd rfl) rfl (Jf (Ja (hK10 (Jp (Jt rfl (Res.tmp rfl) fun w hH=>?_)))))))))));replace hH:=hH.tail;exact ⟨rfl,hH⟩
theorem eqFormS_c {B:World} {H0 H:HP} {L:List SA} {w:World} {qxs:Option Addr} {cxs:Nat} {xs:List (List Term)} {qys:Option Addr} {cys:Nat} {ys:List (List Term)} (hxs:Forms H qxs xs) (hys:Forms H qys ys) (hn:xs.length≤9223372036854775807) (hf : ∀i,i<xs.length→(fm xs i).length≤9223372036854775807) (hH:Hp B H0 H L w):Calls Tryz.prog 20 [.slice qxs xs.length cxs,.slice qys ys.length cys].toArray w fun e w'=>e = .returned (.bool (decide (xs=ys)))∧Hp B H0 H L w':=by
 refine JB Tryz.func20 rfl 27 rfl rfl [(0,.slice qxs xs.length cxs),(1,.slice qys ys.length cys)] rfl hH ?_;clear hH;refine Je fun _ hK1 _=>(Jb (Jg (Jd rfl) rfl (Jf (Ja (hK1 (Je fun _ hK2 _=>(Je fun _ hK3 _=>(Jb (Jg (Jc rfl) rfl (Jg (Jq u23 rfl rfl) rfl (Jg (Jc rfl) rfl (Jg (Jq u23 rfl rfl) rfl (Jg (Eo rfl rfl) rfl (Jf (Ja (hK3 ?_))))))))))))))));refine Jk rfl (fun h10=>?_) (fun h10=>?_)
 ·
  refine Je fun _ hK4 _=>(Jb (Jg (Jd rfl) rfl (Jf (Ja (hK4 (Jp (Jh (Jt rfl (Res.tmp rfl) fun w hH=>?_))))))));exact ⟨rb (decide_eq_false (fun e=>h10 (by rw [e]))).symm,hH⟩
 ·
  refine Ji (Ja (hK2 (Je fun _ hK5 _=>(Je fun _ hK6 _=>(Jb (Jg (Jd rfl) rfl (Jf (Ja (hK6 (Jm (JE (σ:=Nat) (fun (k:Nat)=>[(5,.int .i64 (k:Int))]) (fun (k:Nat)=>H) (fun (k:Nat)=>L) (fun (k:Nat)=>k≤xs.length∧∀j,j<k→fm xs j=fm ys j) (fun (k:Nat)=>xs.length - k) 0 ⟨by omega,fun j hj=>by omega⟩ ⟨rfl,trivial⟩ rfl rfl ?_)))))))))));rintro k hI _ hAg0;have hk:=hI.1;refine Je fun _ hK7 _=>(Je fun _ hK8 _=>(Jb (Jg (Jc rfl) rfl (Jg (Jc rfl) rfl (Jg (Jq u23 rfl rfl) rfl (Jg (JK rfl rfl) rfl (Jf (Ja (hK8 (Jk rfl (fun hc14=>?_) (fun hc14=>?_)))))))))))
  ·
   refine Ji (Ja (hK7 (Je fun _ hK9 _=>(Jm (Je fun _ hK10 _=>(En [[], [], [0,1], [2], [], [], [4,5], [6]] (by kernel_rfl) (Jw (fun gh=>Jc rfl) (Jw (fun gh=>Jc rfl) (Jw (fun gh=>Eg u23 sz33 rfl rfl rfl (by omega) hxs.sm) ?_)))))))));obtain ⟨qe20,ce20,he20,le20,Fe20⟩:=hxs k (by omega);refine Jw (fun gh=>JO (cs:=[_]) rfl (one_cell he20) (hxs.sm (i:=k) (by omega)) ag33) (Jw (fun gh=>Jc rfl) (Jw (fun gh=>Jc rfl) (Jw (fun gh=>Eg u23 sz33 rfl rfl rfl (by omega) hys.sm) ?_)));obtain ⟨qe24,ce24,he24,le24,Fe24⟩:=hys k (by omega);refine Jw (fun gh=>JO (cs:=[_]) rfl (one_cell he24) (hys.sm (i:=k) (by omega)) ag33) (Ec 8 1 foll0 (by kernel_rfl) rfl rfl fun gh=>(Ek (us':=(17,_)::(18,_)::(19,_)::(20,_)::(21,_)::(22,_)::(23,_)::(24,_)::_) (L':=_) rfl rfl (JF fn13 rfl rfl fun w hH=>(eqForm_c Fe20 Fe24 (hf k (by omega)) hH).mono ?_)));rintro _ w ⟨rfl,hH⟩;refine ⟨_,rfl,fun a hF=>JV hF hH ?_⟩;refine Jf (Eb (JG (Eq rfl) rfl (Ef (Ja (hK10 (Eh rfl (fun h26=>?_) (fun h26=>?_)))))))
   ·
    refine Je fun _ hK11 _=>(Jb (Jg (Jd rfl) rfl (Jf (Ja (hK11 (Jp (JH (Jh (Jh (JH (Jh (Jt rfl (Res.tmp rfl) fun w hH=>?_))))))))))));exact ⟨rb (decide_eq_false (fun e=>(by rw [e] at h26;simp at h26))).symm,hH⟩
   ·
    refine Ji (JD (Ja (hK9 (Jb (Jg (Jc rfl) rfl (Jg (Jy rfl rfl (by first | exact nw _ (by omega) | rfl)) rfl (Jg (Jd rfl) rfl (Jf (Ja ?_)))))))));exact hAg0 (k+1) ⟨by omega,upto hI.2 (of_decide_eq_true (notf h26))⟩ (by omega) 18 rfl rfl ⟨rfl,trivial⟩ rfl rfl
  ·
   refine JI (Jl (Jl (JR (Ja (hK5 (Je fun _ hK12 _=>(Jb (Jg (Jd rfl) rfl (Jf (Ja (hK12 (Jp (Jt rfl (Res.tmp rfl) fun w hH=>?_)))))))))))));exact ⟨rb (decide_eq_true (forms_eq_of (by omega) (fun j hj=>hI.2 j (by omega)))).symm,hH⟩
theorem eqAlgebra_c {B:World} {H0 H:HP} {L:List SA} {w:World} {qad qaf:Option Addr} {cad caf:Nat} {ad:List Int} {af:List (List Term)} {qbd qbf:Option Addr} {cbd cbf:Nat} {bd:List Int} {bf:List (List Term)} (had:Ints H qad ad) (haf:Forms H qaf af) (hbd:Ints H qbd bd) (hbf:Forms H qbf bf) (hd:ad.length≤1048576) (hn:af.length≤9223372036854775807) (hf : ∀i,i<af.length→(fm af i).length≤9223372036854775807) (hH:Hp B H0 H L w):Calls Tryz.prog 7 [.agg [.slice qad ad.length cad,.slice qaf af.length caf].toArray,.agg [.slice qbd bd.length cbd,.slice qbf bf.length cbf].toArray].toArray w fun e w'=>e = .returned (.bool (decide (ad=bd) && decide (af=bf)))∧Hp B H0 H L w':=by
 refine JB Tryz.func7 rfl 17 rfl rfl [(0,.agg [.slice qad ad.length cad,.slice qaf af.length caf].toArray),(1,.agg [.slice qbd bd.length cbd,.slice qbf bf.length cbf].toArray)] rfl hH ?_;clear hH;refine Je fun _ hK1 _=>(Jb (Ei rfl rfl rfl fun g2=>(Ei rfl rfl rfl fun g3=>(Jg (Jd rfl) rfl (Jf (Ja (hK1 (Je fun _ hK2 _=>(Je fun _ hK3 _=>(Jb (Jg (Ju u25 rfl sz22 rfl) rfl (Jg (Jr rfl (.s .z) rfl pl22) rfl (Jg (Ju u25 rfl sz22 rfl) rfl (Jg (Jr rfl At.z rfl pl22) rfl (JF fn14 rfl rfl fun w hH=>(eqInt64S_c had hbd hd hH).mono ?_)))))))))))))));rintro _ w ⟨rfl,hH⟩;refine ⟨_,rfl,fun a hF=>JV hF hH ?_⟩;refine Jg (Eq rfl) rfl (Jf (Ja (hK3 (Eh rfl (fun h10=>?_) (fun h10=>?_)))))
 ·
  refine Je fun _ hK4 _=>(Jb (Jg (Jd rfl) rfl (Jf (Ja (hK4 (Jp (Jh (Jt rfl (Res.tmp rfl) fun w hH=>?_))))))));replace hH:=hH.tail;replace hH:=hH.tail;exact ⟨rb (by rw [nott h10];rfl),hH⟩
 ·
  refine Ji (Ja (hK2 (Je fun _ hK5 _=>(Je fun _ hK6 _=>(Jb (Jg (Ju u25 rfl sz23 rfl) rfl (Jg (Jr rfl (.s .z) rfl pl23) rfl (Jg (Ju u25 rfl sz23 rfl) rfl (Jg (Jr rfl At.z rfl pl23) rfl (JF fn20 rfl rfl fun w hH=>(eqFormS_c haf hbf hn hf hH).mono ?_))))))))));rintro _ w ⟨rfl,hH⟩;refine ⟨_,rfl,fun a hF=>JV hF hH ?_⟩;refine Jg (Eq rfl) rfl (Jf (Ja (hK6 (Eh rfl (fun h16=>?_) (fun h16=>?_)))))
  ·
   refine Je fun _ hK7 _=>(Jb (Jg (Jd rfl) rfl (Jf (Ja (hK7 (Jp (Jh (Jt rfl (Res.tmp rfl) fun w hH=>?_))))))));replace hH:=hH.tail;replace hH:=hH.tail;exact ⟨rb (by rw [nott h16,Bool.and_false]),hH⟩
  ·
   refine Ji (Ja (hK5 (Je fun _ hK8 _=>(Jb (Jg (Jd rfl) rfl (Jf (Ja (hK8 (Jp (Jt rfl (Res.tmp rfl) fun w hH=>?_))))))))));replace hH:=hH.tail;replace hH:=hH.tail;exact ⟨rb (by rw [notf h10,notf h16];rfl),hH⟩
theorem bz33 : ∀w,(Instr.build 33 #[]).run Tryz.prog w = .ok (.agg [.slice none 0 0].toArray) w:=fun _=>by kernel_rfl
def inDeg (ds:List Int) (n:Int) (t:Term):Bool:=decide (wsum ds t.mono ds.length=n)
def part (ds:List Int) (ts:List Term) (n:Int):List Term:=ts.filter (inDeg ds n)
theorem take_tm {ts:List Term} {k:Nat} (hk:k<ts.length):ts.take (k+1)=ts.take k++[tm ts k]:=by
 rw [List.take_succ_eq_append_getElem hk]
 simp [tm,List.getD_eq_getElem?_getD,List.getElem?_eq_getElem hk]
theorem tm_eq {xs:List Term} {j:Nat} (hj:j<xs.length):xs[j]=tm xs j:=by simp [tm,List.getD_eq_getElem?_getD,List.getElem?_eq_getElem hj]
theorem Hp.weaken {B:World} {H0 H H2:HP} {L:List SA} {w:World} (h:Hp B H0 H2 L w) (hle:Le H H2) (ho : ∀b,b<B.heap.size→H b=H0 b) (h1:Le H0 H):Hp B H0 H L w:=
 ⟨h.below,fun b o hb=>h.agree b o (hle b o hb),ho,h1,fun A hA=>⟨(h.objs A hA).1,fun b hb=>⟨((h.objs A hA).2 b hb).1,((h.objs A hA).2 b hb).2.1,by
  cases e:H b with
  | none=>rfl
  | some o=>have:=hle b o e;rw [((h.objs A hA).2 b hb).2.2] at this;cases this⟩⟩,h.sep⟩
abbrev Pw:=List Int
abbrev Sm:=List (Pw × Int)
theorem tmod_p (x:Int) : ∃r,x.tmod 10007=x - 10007 * r:=⟨x.tdiv 10007,by have:=Int.tmod_add_mul_tdiv x 10007;omega⟩
theorem tmod_bd (x:Int) : -10007<x.tmod 10007∧x.tmod 10007<10007:=by
 rcases Int.le_total 0 x with h | h
 ·rw [Int.tmod_eq_emod_of_nonneg h]
  omega
 ·have e:x = -(-x):=by omega
  rw [e,Int.neg_tmod,Int.tmod_eq_emod_of_nonneg (by omega)]
  omega
def fld (x:Int):Int:=(x.tmod 10007+10007).tmod 10007
theorem fld_eq (x:Int):fld x=x % 10007:=by
 unfold fld;obtain ⟨r,hr⟩:=tmod_p x;have hb:=tmod_bd x;rw [Int.tmod_eq_emod_of_nonneg (by omega)]
 omega
theorem fld_bd (x:Int):0≤fld x∧fld x≤10006:=by rw [fld_eq];omega
theorem fld_tmod (a x:Int):fld (a+x.tmod 10007)=fld (a+x):=by
 rw [fld_eq,fld_eq];obtain ⟨r,hr⟩:=tmod_p x
 omega
theorem fld_fld (a x:Int):fld (a+fld x)=fld (a+x):=by rw [fld_eq,fld_eq,fld_eq];omega
theorem first_of (f:Nat→Bool) : ∀n:Nat,(∀j,j<n→f j=false)∨∃k,k<n∧f k=true∧∀j,j<k→f j=false
 | 0=>.inl fun j hj=>by omega
 | n+1=>by
  rcases first_of f n with h | ⟨k,h1,h2,h3⟩
  ·cases hb:f n with
   | true=>exact .inr ⟨n,by omega,hb,h⟩
   | false=>exact .inl (upto h hb)
  ·exact .inr ⟨k,by omega,h2,h3⟩
theorem before_iff {p q:Pw}:before p q=true↔∃k,k<8∧(∀j,j<k→p.getD j 0=q.getD j 0)∧q.getD k 0<p.getD k 0:=by
 constructor
 ·intro h
  rcases first_of (fun j=>decide (p.getD j 0≠q.getD j 0)) 8 with h1 | ⟨k,h1,h2,h3⟩
  ·rw [before_miss fun j hj=>by simpa using h1 j hj] at h
   cases h
  ·have e : ∀j,j<k→p.getD j 0=q.getD j 0:=fun j hj=>by simpa using h3 j hj
   rw [before_hit h1 e (by simpa using h2)] at h;exact ⟨k,h1,e,by simpa using h⟩
 ·rintro ⟨k,h1,h2,h3⟩;rw [before_hit h1 h2 (by omega)]
  simpa using h3
theorem before_irr (p:Pw):before p p=false:=before_miss fun _ _=>rfl
theorem before_tr {p q r:Pw} (h1:before p q=true) (h2:before q r=true):before p r=true:=by
 obtain ⟨k,a1,a2,a3⟩:=before_iff.1 h1;obtain ⟨m,b1,b2,b3⟩:=before_iff.1 h2;refine before_iff.2 ?_
 rcases Nat.lt_trichotomy k m with h | h | h
 ·exact ⟨k,a1,fun j hj=>by rw [a2 j hj,b2 j (by omega)],by rw [← b2 k h];exact a3⟩
 ·subst h;exact ⟨k,a1,fun j hj=>by rw [a2 j hj,b2 j hj],by omega⟩
 ·exact ⟨m,b1,fun j hj=>by rw [a2 j (by omega),b2 j hj],by rw [a2 m h];exact b3⟩
theorem before_ne {p q:Pw} (h:before p q=true):p≠q:=fun e=>by subst e;rw [before_irr] at h;cases h
theorem before_tot {p q:Pw} (hp:p.length=8) (hq:q.length=8) (h1:before p q=false) (h2:before q p=false):p=q:=by
 refine list_eq_of (by omega) fun j hj=>?_
 rcases first_of (fun j=>decide (p.getD j 0≠q.getD j 0)) 8 with h | ⟨k,a1,a2,a3⟩
 ·simpa using h j (by omega)
 ·have e : ∀j,j<k→p.getD j 0=q.getD j 0:=fun j hj=>by simpa using a3 j hj
  have hne:p.getD k 0≠q.getD k 0:=by simpa using a2
  rw [before_hit a1 e hne] at h1;rw [before_hit a1 (fun j hj=>(e j hj).symm) (Ne.symm hne)] at h2;have a:=of_decide_eq_false h1;have b:=of_decide_eq_false h2
  omega
structure Pok (M:Int) (p:Pw):Prop where
 len:p.length=8
 bd : ∀j,0≤p.getD j 0∧p.getD j 0≤M
theorem Pok.small {M:Int} {p:Pw} (h:Pok M p) (hM:M≤1000000):Small p:=fun j=>by have:=h.bd j;omega
theorem Pok.mono {M M':Int} {p:Pw} (h:Pok M p) (hM:M≤M'):Pok M' p:=⟨h.len,fun j=>by have:=h.bd j;omega⟩
structure Sok (M:Int) (s:Sm):Prop where
 srt:s.Pairwise fun x y=>before x.1 y.1=true
 key : ∀x∈s,Pok M x.1
 val : ∀x∈s,1≤x.2∧x.2≤10006
theorem Sok.nil {M:Int}:Sok M []:=⟨List.Pairwise.nil,fun _ h=>by simp at h,fun _ h=>by simp at h⟩
theorem Sok.tail {M:Int} {x:Pw × Int} {s:Sm} (h:Sok M (x::s)):Sok M s:=⟨(List.pairwise_cons.1 h.srt).2,fun y hy=>h.key y (by simp [hy]),fun y hy=>h.val y (by simp [hy])⟩
theorem Sok.nodup {M:Int} {s:Sm} (h:Sok M s):(s.map (·.1)).Nodup:=by
 rw [List.Nodup,List.pairwise_map];exact h.srt.imp fun h=>before_ne h
def cf:Sm→Pw→Int
 | [],_=>0
 | x::s,p=>if x.1=p then x.2 else cf s p
theorem look_cf (s:Sm) (p:Pw):(look s p).elim (Value.int .i64 0) (Value.int .i64) = .int .i64 (cf s p):=by
 induction s with
 | nil=>rfl
 | cons x s ih=>
  unfold look at ih ⊢;rw [List.find?_cons]
  by_cases e:x.1=p
  ·rw [decide_eq_true e]
   simp [cf,e]
  ·rw [decide_eq_false e];simp only [cf,if_neg e];exact ih
theorem cf_none {s:Sm} {p:Pw} (h : ∀x∈s,x.1≠p):cf s p=0:=by
 induction s with
 | nil=>rfl
 | cons x s ih=>
  simp only [cf];rw [if_neg (h x (by simp)),ih fun y hy=>h y (by simp [hy])]
theorem cf_bd {M:Int} {s:Sm} (h:Sok M s) (p:Pw):0≤cf s p∧cf s p≤10006:=by
 induction s with
 | nil=>simp [cf]
 | cons x s ih=>
  simp only [cf];have:=h.val x (by simp)
  split
  ·omega
  ·exact ih h.tail
theorem Sok.ext {M N:Int} : ∀{s t:Sm},Sok M s→Sok N t→(∀p,cf s p=cf t p)→s=t
 | [], [],_,_,_=>rfl
 | [],y::t,_,ht,h=>by
  have h1:=h y.1
  have h2:=ht.val y (by simp)
  simp [cf] at h1
  omega
 | x::s, [],hs,_,h=>by
  have h1:=h x.1
  have h2:=hs.val x (by simp)
  simp [cf] at h1
  omega
 | x::s,y::t,hs,ht,h=>by
  have sx:=(List.pairwise_cons.1 hs.srt).1
  have sy:=(List.pairwise_cons.1 ht.srt).1
  have vx:=hs.val x (by simp)
  have vy:=ht.val y (by simp)
  have hxy:x.1=y.1:=by
   refine before_tot (hs.key x (by simp)).len (ht.key y (by simp)).len ?_ ?_
   ·cases hb:before x.1 y.1 with
    | false=>rfl
    | true=>
     have h1:=h x.1
     rw [cf_none (s:=y::t) (fun z hz=>by
      rcases List.mem_cons.1 hz with rfl | hz
      ·exact (before_ne hb).symm
      ·exact (before_ne (before_tr hb (sy z hz))).symm)] at h1
     simp [cf] at h1
     omega
   ·cases hb:before y.1 x.1 with
    | false=>rfl
    | true=>
     have h1:=h y.1
     rw [cf_none (s:=x::s) (fun z hz=>by
      rcases List.mem_cons.1 hz with rfl | hz
      ·exact (before_ne hb).symm
      ·exact (before_ne (before_tr hb (sx z hz))).symm)] at h1
     simp [cf] at h1
     omega
  have h2:x.2=y.2:=by
   have h1:=h x.1
   simp only [cf,if_true] at h1
   rwa [if_pos hxy.symm] at h1
  have e:x=y:=by cases x;cases y;simp_all
  subst e
  rw [Sok.ext hs.tail ht.tail fun p=>?_]
  by_cases hp:x.1=p
  ·subst hp
   rw [cf_none fun z hz=>(before_ne (sx z hz)).symm,cf_none fun z hz=>(before_ne (sy z hz)).symm]
  ·have h1:=h p
   simp only [cf] at h1
   rwa [if_neg hp,if_neg hp] at h1
def addS:Sm→Pw→Int→Sm
 | [],p,k=>if fld k=0 then [] else [(p,fld k)]
 | x::s,p,k=>if p=x.1 then (if fld (x.2+k)=0 then s else (p,fld (x.2+k))::s)
  else if before p x.1 then (if fld k=0 then x::s else (p,fld k)::x::s) else x::addS s p k
theorem addS_mem {p:Pw} {k:Int} : ∀{s:Sm} {y:Pw × Int},y∈addS s p k→y.1=p∨y∈s
 | [],y,h=>by
  simp only [addS] at h
  split at h
  ·simp at h
  ·simp at h;exact .inl (by rw [h])
 | x::s,y,h=>by
  simp only [addS] at h
  split at h
  ·split at h
   ·exact .inr (by simp [h])
   ·rcases List.mem_cons.1 h with h | h
    ·exact .inl (by rw [h])
    ·exact .inr (by simp [h])
  ·split at h
   ·split at h
    ·exact .inr h
    ·rcases List.mem_cons.1 h with h | h
     ·exact .inl (by rw [h])
     ·exact .inr h
   ·rcases List.mem_cons.1 h with h | h
    ·exact .inr (by simp [h])
    ·rcases addS_mem h with h | h
     ·exact .inl h
     ·exact .inr (by simp [h])
theorem Sok.add {M:Int} {p:Pw} (hp:Pok M p) (k:Int) : ∀{s:Sm},Sok M s→Sok M (addS s p k)
 | [],_=>by
  simp only [addS]
  split
  ·exact Sok.nil
  ·have:=fld_bd k
   exact ⟨by simp,fun x hx=>by simp at hx;rw [hx];exact hp,fun x hx=>by simp at hx;rw [hx];simp;omega⟩
 | x::s,h=>by
  have sx:=(List.pairwise_cons.1 h.srt).1
  simp only [addS]
  split
  ·rename_i e
   split
   ·exact h.tail
   ·have:=fld_bd (x.2+k)
    refine ⟨List.pairwise_cons.2 ⟨fun y hy=>by rw [e];exact sx y hy,h.tail.srt⟩,fun y hy=>?_,fun y hy=>?_⟩
    ·rcases List.mem_cons.1 hy with rfl | hy
     ·exact hp
     ·exact h.tail.key y hy
    ·rcases List.mem_cons.1 hy with rfl | hy
     ·simp;omega
     ·exact h.tail.val y hy
  ·rename_i e
   split
   ·rename_i hb
    split
    ·exact h
    ·have:=fld_bd k
     refine ⟨List.pairwise_cons.2 ⟨fun y hy=>?_,h.srt⟩,fun y hy=>?_,fun y hy=>?_⟩
     ·rcases List.mem_cons.1 hy with rfl | hy
      ·exact hb
      ·exact before_tr hb (sx y hy)
     ·rcases List.mem_cons.1 hy with rfl | hy
      ·exact hp
      ·exact h.key y hy
     ·rcases List.mem_cons.1 hy with rfl | hy
      ·simp;omega
      ·exact h.val y hy
   ·rename_i hb
    have hb':before x.1 p=true:=by
     cases hc:before x.1 p with
     | true=>rfl
     | false=>exact absurd (before_tot hp.len (h.key x (by simp)).len (by simpa using hb) hc) e
    have ih:=Sok.add hp k h.tail
    refine ⟨List.pairwise_cons.2 ⟨fun y hy=>?_,ih.srt⟩,fun y hy=>?_,fun y hy=>?_⟩
    ·rcases addS_mem hy with hy | hy
     ·rw [hy];exact hb'
     ·exact sx y hy
    ·rcases List.mem_cons.1 hy with rfl | hy
     ·exact h.key _ (by simp)
     ·exact ih.key y hy
    ·rcases List.mem_cons.1 hy with rfl | hy
     ·exact h.val _ (by simp)
     ·exact ih.val y hy
theorem cf_add {M:Int} {p:Pw} (k:Int) (q:Pw) : ∀{s:Sm},Sok M s→cf (addS s p k) q=if p=q then fld (cf s p+k) else cf s q
 | [],_=>by
  simp only [addS,cf]
  rw [Int.zero_add]
  by_cases e:p=q
  ·rw [if_pos e]
   split
   ·rename_i h;rw [h];rfl
   ·simp [cf,e]
  ·rw [if_neg e]
   split
   ·rfl
   ·simp [cf,e]
 | x::s,h=>by
  have sx:=(List.pairwise_cons.1 h.srt).1
  have nx : ∀r,r=x.1→cf s r=0:=fun r hr=>cf_none fun z hz=>by rw [hr];exact (before_ne (sx z hz)).symm
  simp only [addS]
  by_cases e:p=x.1
  ·rw [if_pos e]
   have e1:cf (x::s) p=x.2:=by simp [cf,e]
   rw [e1]
   by_cases e2:p=q
   ·rw [if_pos e2]
    split
    ·rename_i hz
     rw [hz,nx q (by rw [← e2,e])]
    ·simp [cf,e2]
   ·rw [if_neg e2]
    have e3:cf (x::s) q=cf s q:=by simp only [cf];rw [if_neg (by rw [← e];exact e2)]
    rw [e3]
    split
    ·rfl
    ·simp [cf,e2]
  ·rw [if_neg e]
   have e1:cf (x::s) p=cf s p:=by simp only [cf];rw [if_neg (Ne.symm e)]
   split
   ·rename_i hb
    have np:cf s p=0:=cf_none fun z hz=>(before_ne (before_tr hb (sx z hz))).symm
    rw [e1,np,Int.zero_add]
    by_cases e2:p=q
    ·rw [if_pos e2]
     split
     ·rename_i hz
      rw [hz,← e2,e1,np]
     ·simp [cf,e2]
    ·rw [if_neg e2]
     split
     ·rfl
     ·simp only [cf];rw [if_neg e2]
   ·simp only [cf]
    rw [cf_add k q h.tail,if_neg (Ne.symm e)]
    by_cases e2:p=q
    ·rw [if_pos e2,if_neg (by rw [← e2];exact Ne.symm e),if_pos e2]
    ·rw [if_neg e2,if_neg e2]
theorem addS_congr {k k':Int} (h : ∀a,fld (a+k)=fld (a+k')) (p:Pw) : ∀s:Sm,addS s p k=addS s p k'
 | []=>by
  have h0:=h 0
  rw [Int.zero_add,Int.zero_add] at h0
  simp only [addS,h0]
 | x::s=>by
  have h0:=h 0
  rw [Int.zero_add,Int.zero_add] at h0
  simp only [addS,h0,h x.2,addS_congr h p s]
def acc (s:Sm) (l:Sm):Sm:=l.foldl (fun a x=>addS a x.1 x.2) s
theorem acc_nil (s:Sm):acc s []=s:=rfl
theorem acc_cons (s:Sm) (x:Pw × Int) (l:Sm):acc s (x::l)=acc (addS s x.1 x.2) l:=rfl
theorem acc_app (s l m:Sm):acc s (l++m)=acc (acc s l) m:=by unfold acc;rw [List.foldl_append]
theorem acc_one (s l:Sm) (x:Pw × Int):acc s (l++[x])=addS (acc s l) x.1 x.2:=by rw [acc_app];rfl
theorem Sok.acc {M:Int} : ∀{l s:Sm},Sok M s→(∀x∈l,Pok M x.1)→Sok M (G.acc s l)
 | [],_,h,_=>h
 | x::l,s,h,hl=>by
  rw [acc_cons]
  exact Sok.acc (h.add (hl x (by simp)) x.2) fun y hy=>hl y (by simp [hy])
def tot_:Sm→Pw→Int
 | [],_=>0
 | x::l,p=>(if x.1=p then x.2 else 0)+tot_ l p
theorem tot_perm {l m:Sm} (h:l.Perm m) (p:Pw):tot_ l p=tot_ m p:=by
 induction h with
 | nil=>rfl
 | cons x _ ih=>simp only [tot_,ih]
 | swap x y l=>simp only [tot_];omega
 | trans _ _ h1 h2=>rw [h1,h2]
theorem cf_acc {M:Int} (p:Pw) : ∀{l s:Sm},Sok M s→(∀x∈l,Pok M x.1)→cf (acc s l) p=fld (cf s p+tot_ l p)
 | [],s,h,_=>by
  have:=cf_bd h p
  simp only [acc_nil,tot_]
  rw [fld_eq]
  omega
 | x::l,s,h,hl=>by
  rw [acc_cons,cf_acc p (h.add (hl x (by simp)) x.2) fun y hy=>hl y (by simp [hy]),cf_add x.2 p h]
  simp only [tot_]
  by_cases e:x.1=p
  ·rw [if_pos e,if_pos e,e]
   simp only [fld_eq]
   omega
  ·rw [if_neg e,if_neg e,Int.zero_add]
theorem acc_perm {M:Int} {s l m:Sm} (h:Sok M s) (hl : ∀x∈l,Pok M x.1) (hp:l.Perm m):acc s l=acc s m:=
 Sok.ext (h.acc hl) (h.acc fun x hx=>hl x (hp.mem_iff.2 hx)) fun p=>by rw [cf_acc p h hl,cf_acc p h fun x hx=>hl x (hp.mem_iff.2 hx),tot_perm hp]
theorem acc_congr {α:Type} {f g:α→Pw × Int} : ∀{l:List α} (s:Sm),(∀x∈l,(f x).1=(g x).1∧∀a,fld (a+(f x).2)=fld (a+(g x).2))→acc s (l.map f)=acc s (l.map g)
 | [],_,_=>rfl
 | x::l,s,h=>by
  obtain ⟨h1,h2⟩:=h x (by simp)
  simp only [List.map_cons,acc_cons]
  rw [h1,addS_congr h2,acc_congr _ fun y hy=>h y (by simp [hy])]
theorem filt_ne {s:Sm} {p:Pw} (h : ∀x∈s,x.1≠p):(s.filter fun x=>decide (x.1≠p))=s:=by
 rw [List.filter_eq_self];intro x hx
 simpa using h x hx
theorem put_add {M:Int} {p:Pw} (hp:Pok M p) (k:Int) : ∀{s:Sm},Sok M s→fld (cf s p+k)≠0→(putM s p (fld (cf s p+k))).Perm (addS s p k)
 | [],_,hz=>by
  simp only [cf,Int.zero_add] at hz ⊢
  simp only [addS]
  rw [if_neg hz]
  exact List.Perm.refl _
 | x::s,h,hz=>by
  have sx:=(List.pairwise_cons.1 h.srt).1
  simp only [addS]
  by_cases e:p=x.1
  ·have e1:cf (x::s) p=x.2:=by simp [cf,e]
   rw [e1] at hz ⊢
   rw [if_pos e,if_neg hz]
   unfold putM
   rw [List.filter_cons,if_neg (by simp [e]),filt_ne fun z hz=>by rw [e];exact (before_ne (sx z hz)).symm]
  ·have e1:cf (x::s) p=cf s p:=by simp only [cf];rw [if_neg (Ne.symm e)]
   rw [e1] at hz ⊢
   rw [if_neg e]
   split
   ·rename_i hb
    have np : ∀z∈s,z.1≠p:=fun z hz=>(before_ne (before_tr hb (sx z hz))).symm
    rw [cf_none np,Int.zero_add] at hz ⊢
    rw [if_neg hz]
    unfold putM
    rw [filt_ne fun z hz=>by
     rcases List.mem_cons.1 hz with rfl | hz
     ·exact Ne.symm e
     ·exact np z hz]
   ·have ih:=put_add hp k h.tail hz
    unfold putM at ih ⊢
    rw [List.filter_cons,if_pos (by simpa using Ne.symm e)]
    exact (List.Perm.swap _ _ _).trans (ih.cons x)
theorem del_add {M:Int} {p:Pw} (hp:Pok M p) (k:Int) : ∀{s:Sm},Sok M s→fld (cf s p+k)=0→(delM s p).Perm (addS s p k)
 | [],_,hz=>by
  simp only [cf,Int.zero_add] at hz
  simp only [addS]
  rw [if_pos hz]
  exact List.Perm.refl _
 | x::s,h,hz=>by
  have sx:=(List.pairwise_cons.1 h.srt).1
  simp only [addS]
  by_cases e:p=x.1
  ·have e1:cf (x::s) p=x.2:=by simp [cf,e]
   rw [e1] at hz
   rw [if_pos e,if_pos hz]
   unfold delM
   rw [List.filter_cons,if_neg (by simp [e]),filt_ne fun z hz=>by rw [e];exact (before_ne (sx z hz)).symm]
  ·have e1:cf (x::s) p=cf s p:=by simp only [cf];rw [if_neg (Ne.symm e)]
   rw [e1] at hz
   rw [if_neg e]
   split
   ·rename_i hb
    have np : ∀z∈s,z.1≠p:=fun z hz=>(before_ne (before_tr hb (sx z hz))).symm
    rw [cf_none np,Int.zero_add] at hz
    rw [if_pos hz]
    unfold delM
    rw [filt_ne fun z hz=>by
     rcases List.mem_cons.1 hz with rfl | hz
     ·exact Ne.symm e
     ·exact np z hz]
   ·have ih:=del_add hp k h.tail hz
    unfold delM at ih ⊢
    rw [List.filter_cons,if_pos (by simpa using Ne.symm e)]
    exact ih.cons x
def addp (p q:Pw):Pw:=(List.range 8).map fun i=>p.getD i 0+q.getD i 0
@[simp] theorem addp_len (p q:Pw):(addp p q).length=8:=by simp [addp]
theorem getD_ge {p:Pw} {j:Nat} (h:p.length≤j):p.getD j 0=0:=by rw [List.getD_eq_getElem?_getD,List.getElem?_eq_none h];rfl
theorem addp_get {p q:Pw} (hp:p.length=8) (hq:q.length=8) (j:Nat):(addp p q).getD j 0=p.getD j 0+q.getD j 0:=by
 rcases Nat.lt_or_ge j 8 with h | h
 ·simp [addp,List.getD_eq_getElem?_getD,h]
 ·rw [getD_ge (by simp;omega),getD_ge (by omega),getD_ge (by omega)]
  rfl
theorem Pok.add {M N:Int} {p q:Pw} (hp:Pok M p) (hq:Pok N q):Pok (M+N) (addp p q):=⟨by simp,fun j=>by
 rw [addp_get hp.len hq.len]
 have:=hp.bd j
 have:=hq.bd j
 omega⟩
def oin (ds p:Pw) (i:Nat):Nat→Int
 | 0=>0
 | m+1=>oin ds p i m+(ds.getD (i+1+m) 0).tmod 2 * p.getD (i+1+m) 0
def oddTo (ds p q:Pw):Nat→Int
 | 0=>0
 | i+1=>oddTo ds p q i+(if (ds.getD i 0).tmod 2≠0∧0<q.getD i 0 then oin ds p i (ds.length - (i+1)) else 0)
def hitAt (ds p q:Pw) (i:Nat):Bool:=decide ((ds.getD i 0).tmod 2≠0) && (decide (0<p.getD i 0) && decide (0<q.getD i 0))
def hits (ds p q:Pw):Bool:=(List.range ds.length).any (hitAt ds p q)
def sgn (ds p q:Pw):Int:=if hits ds p q then 0 else if (oddTo ds p q ds.length).tmod 2=1 then -1 else 1
theorem hits_yes {ds p q:Pw} {i:Nat} (hi:i<ds.length) (h:hitAt ds p q i=true):hits ds p q=true:=List.any_eq_true.2 ⟨i,List.mem_range.2 hi,h⟩
theorem hits_no {ds p q:Pw} (h : ∀i,i<ds.length→hitAt ds p q i=false):hits ds p q=false:=by
 unfold hits;rw [List.any_eq_false];intro i hi;rw [h i (List.mem_range.1 hi)]
 simp
theorem sgn_cases (ds p q:Pw):sgn ds p q=0∨sgn ds p q=1∨sgn ds p q = -1:=by
 unfold sgn
 split
 ·exact .inl rfl
 ·split
  ·exact .inr (.inr rfl)
  ·exact .inr (.inl rfl)
theorem deg2 {ds:Pw} (hd : ∀j,0≤ds.getD j 0∧ds.getD j 0≤12) (j:Nat):(ds.getD j 0).tmod 2=0∨(ds.getD j 0).tmod 2=1:=by
 have:=hd j;rw [Int.tmod_eq_emod_of_nonneg this.1]
 omega
theorem oin_bd {ds p:Pw} {M:Int} (hd : ∀j,0≤ds.getD j 0∧ds.getD j 0≤12) (hp : ∀j,0≤p.getD j 0∧p.getD j 0≤M) (i:Nat) : ∀m:Nat,0≤oin ds p i m∧oin ds p i m≤m * M
 | 0=>by simp [oin]
 | m+1=>by
  have h1:=oin_bd hd hp i m
  have h2:=hp (i+1+m)
  have e:((m+1:Nat):Int) * M=m * M+M:=by rw [Int.natCast_add,Int.add_mul];simp
  rw [e]
  simp only [oin]
  rcases deg2 hd (i+1+m) with h | h
  ·rw [h,Int.zero_mul];omega
  ·rw [h,Int.one_mul];omega
theorem oddTo_bd {ds p q:Pw} {M:Int} (hn:ds.length≤8) (hd : ∀j,0≤ds.getD j 0∧ds.getD j 0≤12) (hp : ∀j,0≤p.getD j 0∧p.getD j 0≤M) : ∀i:Nat,0≤oddTo ds p q i∧oddTo ds p q i≤i * (8 * M)
 | 0=>by simp [oddTo]
 | i+1=>by
  have h1:=oddTo_bd hn hd hp (q:=q) i
  have h2:=oin_bd hd hp i (ds.length - (i+1))
  have hM:=hp 0
  have h3:((ds.length - (i+1):Nat):Int) * M≤8 * M:=Int.mul_le_mul_of_nonneg_right (by omega) (by omega)
  have e:((i+1:Nat):Int) * (8 * M)=i * (8 * M)+8 * M:=by rw [Int.natCast_add,Int.add_mul];simp
  rw [e]
  simp only [oddTo]
  split <;> omega
def mul1 (ds:Pw) (x:Pw × Int) (t:Sm):Sm:=t.flatMap fun y=>if sgn ds x.1 y.1=0 then [] else [(addp x.1 y.1,(sgn ds x.1 y.1 * x.2 * y.2).tmod 10007)]
def mulL (ds:Pw) (s t:Sm):Sm:=s.flatMap fun x=>mul1 ds x t
def timesS (ds:Pw) (s t:Sm):Sm:=acc [] (mulL ds s t)
theorem mul1_mem {ds:Pw} {x:Pw × Int} {t:Sm} {z:Pw × Int} (h:z∈mul1 ds x t) : ∃y∈t,sgn ds x.1 y.1≠0∧z.1=addp x.1 y.1:=by
 obtain ⟨y,hy,hz⟩:=List.mem_flatMap.1 h
 split at hz
 ·simp at hz
 ·rename_i hs
  simp at hz
  exact ⟨y,hy,hs,by rw [hz]⟩
theorem mulL_mem {ds:Pw} {s t:Sm} {z:Pw × Int} (h:z∈mulL ds s t) : ∃x∈s,∃y∈t,sgn ds x.1 y.1≠0∧z.1=addp x.1 y.1:=by
 obtain ⟨x,hx,hz⟩:=List.mem_flatMap.1 h;obtain ⟨y,hy,h1,h2⟩:=mul1_mem hz;exact ⟨x,hx,y,hy,h1,h2⟩
theorem mulL_pok {ds:Pw} {s t:Sm} {M N:Int} (hs:Sok M s) (ht:Sok N t) : ∀z∈mulL ds s t,Pok (M+N) z.1:=fun z hz=>by
 obtain ⟨x,hx,y,hy,_,e⟩:=mulL_mem hz
 rw [e]
 exact (hs.key x hx).add (ht.key y hy)
theorem Sok.times {ds:Pw} {s t:Sm} {M N:Int} (hs:Sok M s) (ht:Sok N t):Sok (M+N) (timesS ds s t):=Sok.nil.acc (mulL_pok hs ht)
theorem mul1_perm {ds:Pw} {x:Pw × Int} {t t':Sm} (h:t.Perm t'):(mul1 ds x t).Perm (mul1 ds x t'):=h.flatMap_right _
theorem mulL_perm {ds:Pw} {s s' t:Sm} (h:s.Perm s'):(mulL ds s t).Perm (mulL ds s' t):=h.flatMap_right _
theorem mulL_mid {ds:Pw} {l1 l2:Sm} {x:Pw × Int} {t:Sm}:(mulL ds (l1++x::l2) t).Perm (mul1 ds x t++mulL ds (l1++l2) t):=by
 refine (mulL_perm List.perm_middle).trans ?_
 show (mul1 ds x t++mulL ds (l1++l2) t).Perm _
 exact List.Perm.refl _
theorem mul1_mid {ds:Pw} {x y:Pw × Int} {l1 l2:Sm}:(mul1 ds x (l1++y::l2)).Perm ((if sgn ds x.1 y.1=0 then [] else [(addp x.1 y.1,(sgn ds x.1 y.1 * x.2 * y.2).tmod 10007)])++mul1 ds x (l1++l2)):=
 mul1_perm List.perm_middle
def scl (t:Sm) (k:Int):Sm:=t.map fun y=>(y.1,(y.2 * k).tmod 10007)
theorem scl_key {t:Sm} {k:Int} {z:Pw × Int} (h:z∈scl t k) : ∃y∈t,z.1=y.1:=by
 obtain ⟨y,hy,rfl⟩:=List.mem_map.1 h;exact ⟨y,hy,rfl⟩
theorem scl_pok {M:Int} {t:Sm} (h:Sok M t) (k:Int) : ∀z∈scl t k,Pok M z.1:=fun z hz=>by
 obtain ⟨y,hy,e⟩:=scl_key hz
 rw [e]
 exact h.key y hy
end Go.Proofs.YtefpohpaliocaaaGreatDoor.G
