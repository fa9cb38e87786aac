/- A part of the walk of one law: what the functions compute. No condition. -/
import Derived.Test.YthenedanhcnccaaGreatRows
import Derived.Test.YthenedanhcnccaaGreatProg
import Derived.WalkKit
import Derived.KernelRfl
import Derived.JoinedOf
import Derived.Maps.AppendAt
import Derived.Still
import Derived.ProofKit
import Derived.OpenShut
import Derived.StillTail
import Derived.Deep.Upon
import Derived.WalkSpells
import Derived.Maps.Range
import Derived.DeepKeys4
import Derived.Maps.Keyed
import Derived.ChangeOld
import Derived.Below
import Derived.SizedLaws
import Derived.Test.YthenedanhcnccaaGreatPIsbc
set_option linter.unusedVariables false
set_option linter.unusedSimpArgs false
namespace Go.Proofs.YthenedanhcnccaaGreat.G
open Go Go.RowKit
set_option maxHeartbeats 8000000 in
set_option maxRecDepth 10000 in theorem l01Add_c {B:World}{H0 H:HP}{L:List SA}{w:World}{qf:Option Addr}{cf:Nat}{f:List Term}{qg:Option Addr}{cg:Nat}{g:List Term}{k:Int}{M:Int}(hf:Terms H qf f)(hg:Terms H qg g)(hsf:Sok M(toS f))(hsg:Gok M(toS g))(hM:M≤255)(hk:0≤k∧k≤10006)(hl:f.length+g.length≤1000000000)(hH:Hp B H0 H L w): Calls Tryz.prog 130 [.agg [.slice qf f.length cf].toArray,.agg [.slice qg g.length cg].toArray,.int .i64 k].toArray w fun e w'=>∃q c,e=.returned(.agg [.slice q(ofS(acc(toS f)(scl(toS g)k))).length c].toArray)∧Hp B H0 H(own 152 9 q(ofS(acc(toS f)(scl(toS g)k))).length c(tsC(ofS(acc(toS f)(scl(toS g)k)))):: L)w':=by
 refine CJ.enter Tryz.func130 rfl 149 rfl rfl [(0,.agg [.slice qf f.length cf].toArray),(1,.agg [.slice qg g.length cg].toArray),(2,.int .i64 k)] rfl hH ?_;clear hH;have hmw:=mrg_wf(k:=k)hsf hsg hM;refine CJ.seq fun _ hK1 _=>(CJ.region(J.box rfl rfl rfl fun g3=>(J.box rfl rfl rfl fun g4=>(J.alloc ze39 rfl fun g6=>(J.nil(EJ.thenN(hK1(CJ.seq fun _ hK2 _=>(CJ.region(J.own0 152 9 (J.p(PR.buildZ bz39)rfl(J.alloc ze39 rfl fun g7=>(J.storeAll rfl rfl(by first | exact bytesC_one _ | exact intsC_one _ | exact Term.c_one _ | simp [Value.oneCell'])(by simpa [*] using sz39)(by simp [*])At.z(J.nil(EJ.thenN(hK2 ?_))))))))))))))));refine CJ.seq fun _ hK3 _=>(CJ.region(J.p(PR.assign rfl)rfl(J.p(PR.assign rfl)rfl(J.nil(EJ.thenN(hK3(CJ.seq fun _ hK4 _=>(CJ.block(CJ.loopU(σ:=Option Addr × Nat × List Term × Nat × Nat)(fun⟨q,c,O,i,j⟩=> [(8,.int .i64(i:Int)),(9,.int .i64(j:Int))])(fun⟨q,c,O,i,j⟩=> H)(fun⟨q,c,O,i,j⟩=> obj g7(.cells [.slice q(O).length c].toArray 39 (0,0)):: own 152 9 q(O).length c(tsC(O)):: obj g6(.cells [.slice none 0 0].toArray 39 (0,0)):: obj g4(.cells [.slice qg g.length cg].toArray 39 (0,0)):: obj g3(.cells [.slice qf f.length cf].toArray 39 (0,0)):: L)(fun⟨q,c,O,i,j⟩=> i≤f.length∧j≤g.length∧MgAt k f g O i j)(fun⟨q,c,O,i,j⟩=> f.length+g.length - (i+j))(none,0, [],0,0)⟨by omega,by omega,rfl⟩⟨rfl,⟨rfl,trivial⟩⟩rfl rfl ?_)))))))));rintro⟨q,c,O,i,j⟩⟨hi,hj,hO⟩_ hAg0;have hOl:=hO.len;have hOw:Wfs O:=hO.wf hmw;have fb0:=fld_bd(k * (tm g j).fac);have kb0:j<g.length→ -(10006 * 10006)≤k * (tm g j).fac∧k * (tm g j).fac≤10006 * 10006:=fun h=>mul_sb(by omega)(hsg.val _(toS_at(ts:=g)h));refine CJ.seq fun _ hK5 _=>(CJ.seq fun _ hK6 _=>(CJ.region(J.p(PR.move rfl)rfl(J.p(PR.fldA u39 rfl sz37 rfl)rfl(J.p(PR.load rfl(.s(.s(.s(.s .z))))rfl pl37)rfl(J.p(PR.lenSlice u37 rfl rfl)rfl(J.p(PR.lss rfl rfl)rfl(J.p(PR.move rfl)rfl(J.splitB(jd:=18)rfl(fun hg18=>?_)(fun hg18=>?_))))))))))
 ·
  try have hg18p:=of_decide_eq_true hg18
  refine J.gn rfl rfl rfl hg18(J.gn rfl rfl rfl hg18(J.gn rfl rfl rfl hg18(J.gn rfl rfl rfl hg18(J.gn rfl rfl rfl hg18(J.p(PR.pickT rfl hg18 rfl)rfl(J.nil(EJ.thenN(hK6(CJ.condT rfl(CJ.skip(EJ.thenN(hK5(CJ.block(CJ.block(CJ.seq fun _ hK7 _=>(CJ.head [[], [], [1], [2], [0,3], [4], [5], [5], [7,5], [8,5], [6,9,5], [10,5], [11], [12,11], [11], [13,14,11], [15,11], [16,11], [11], [18,11], [11], [19,20,11], [21,11], [22,11]] (by kernel_rfl)?_))))))))))))))));refine HJ.op(fun gh=>PR.move rfl)(HJ.op(fun gh=>PR.fldA u39 rfl sz37 rfl)(HJ.op(fun gh=>PR.load rfl(.s(.s(.s .z)))rfl pl37)(HJ.op(fun gh=>PR.lenSlice u37 rfl rfl)(HJ.op(fun gh=>PR.eql rfl rfl)(HJ.op(fun gh=>PR.move rfl)(HJ.splitB 5 rfl(fun h67=>?_)(fun h67=>?_)))))))
  ·
   try have h67p:=of_decide_eq_true h67
   refine HJ.gn rfl(fun gh=>rfl)h67(HJ.gn rfl(fun gh=>rfl)h67(HJ.gn rfl(fun gh=>rfl)h67(HJ.gn rfl(fun gh=>rfl)h67(HJ.gn rfl(fun gh=>rfl)h67(HJ.gn rfl(fun gh=>rfl)h67(HJ.gu rfl(fun gh=>rfl)(HJ.gu rfl(fun gh=>rfl)(HJ.gu rfl(fun gh=>rfl)(HJ.gu rfl(fun gh=>rfl)(HJ.gu rfl(fun gh=>rfl)(HJ.gu rfl(fun gh=>rfl)(HJ.gu rfl(fun gh=>rfl)(HJ.gu rfl(fun gh=>rfl)(HJ.gu rfl(fun gh=>rfl)?_))))))))))))));refine HJ.gu rfl(fun gh=>rfl)(HJ.gu rfl(fun gh=>rfl)(HJ.gu rfl(fun gh=>rfl)(HJ.close 24 1 foll0(by kernel_rfl)rfl rfl fun gh=>(J.conv(us':=(62,_):: (63,_):: (64,_):: (65,_):: (66,_):: (67,_):: (68,_):: (69,_):: (70,_):: (71,_):: (72,_):: (73,_):: (74,_):: (75,_):: (76,_):: (77,_):: (78,_):: (79,_):: (80,_):: (81,_):: (82,_):: (83,_):: (84,_):: (85,_):: _)(L':=_)rfl rfl(J.gu rfl rfl rfl(J.nil(EJ.still(JS.gn rfl rfl rfl h67(JS.op(PR.pickT rfl h67 rfl)rfl(JS.op(PR.assign rfl)rfl(JS.nil(EJ.thenN(hK7(CJ.condT rfl(CJ.seq fun _ hK8 _=>?_)))))))))))))));refine CJ.head [[], [0], [], [2], [], [3,4], [5], [6]] (by kernel_rfl)(HJ.op(fun gh=>PR.fldA u39 rfl sz37 rfl)(HJ.op(fun gh=>PR.load rfl At.z rfl pl37)(HJ.op(fun gh=>PR.fldA u39 rfl sz37 rfl)(HJ.op(fun gh=>PR.load rfl(.s(.s(.s(.s .z))))rfl pl37)(HJ.op(fun gh=>PR.move rfl)(HJ.op(fun gh=>PR.idx u37 sz152 rfl rfl rfl(by omega)hf.sm)(HJ.op(fun gh=>PR.loadHagg rfl(hf.cell _(by omega))(hf.sm(i:=i)(by omega))(by rw [Term.c_length(hf.wf _(by omega))];exact ag152))(HJ.mk(fun gh=>MK.lit1T u37 ze152 sz152(hf.wf i(by omega))rfl)(HJ.close 8 3 foll0(by kernel_rfl)rfl rfl fun gh=>(J.conv(us':=(89,_):: (90,_):: (91,_):: (92,_):: (93,_):: (94,_):: (95,_):: (96,_):: _)(L':=_::_)rfl rfl(J.appendOT u37 ze152 sz152 by152 rfl rfl(by simp only [List.length_cons,List.length_nil];omega).z(.s .z)(fun _ _=>(.s .z))rfl fun qo97 co97=>(J.p(PR.fldA u39 rfl sz37 rfl)rfl(J.store rfl rfl rfl rfl sz37(by simp [*])(.s .z)(J.nil ?_))))))))))))));refine EJ.still(JS.nil(EJ.thenN(hK8(CJ.region(J.p(PR.move rfl)rfl(J.p(PR.add rfl rfl(by first | exact nw _(by omega)| rfl))rfl(J.p(PR.assign rfl)rfl(J.nil(EJ.inN(EJ.inN(EJ.thenN(EJ.drop .z ?_))))))))))));exact hAg0(qo97,co97,O++[tm f i],i+1,j)⟨by omega,by omega,hO.app(mrgA1(by omega)(by omega))⟩(by show f.length+g.length - _<f.length+g.length - (i+j);omega)55 rfl rfl⟨rfl,⟨rfl,trivial⟩⟩rfl rfl
  ·
   try have h67p:=of_decide_eq_false h67
   refine HJ.gy(fun gh=>PR.move rfl)rfl(fun gh=>rfl)h67(HJ.gy(fun gh=>PR.fldA u39 rfl sz37 rfl)rfl(fun gh=>rfl)h67(HJ.gy(fun gh=>PR.load rfl(.s(.s(.s(.s .z))))rfl pl37)rfl(fun gh=>rfl)h67(HJ.gy(fun gh=>PR.lenSlice u37 rfl rfl)rfl(fun gh=>rfl)h67(HJ.gy(fun gh=>PR.lss rfl rfl)rfl(fun gh=>rfl)h67(HJ.gy(fun gh=>PR.move rfl)rfl(fun gh=>rfl)h67(HJ.splitB 11 rfl(fun h73=>?_)(fun h73=>?_)))))))
   ·
    try have h73p:=of_decide_eq_true h73
    refine HJ.gy(fun gh=>PR.fldA u39 rfl sz37 rfl)rfl(fun gh=>rfl)h73(HJ.gy(fun gh=>PR.load rfl(.s(.s(.s(.s .z))))rfl pl37)rfl(fun gh=>rfl)h73(HJ.gy(fun gh=>PR.move rfl)rfl(fun gh=>rfl)h73(HJ.gy(fun gh=>PR.idx u37 sz152 rfl rfl rfl(by omega)hf.sm)rfl(fun gh=>rfl)h73(HJ.gy(fun gh=>PR.fldP u152 rfl sz150 rfl(hf.sm(i:=i)(by omega)))rfl(fun gh=>rfl)h73(HJ.gy(fun gh=>PR.loadHagg rfl(hf.mono(by omega))(hf.sm(i:=i)(by omega))(by rw [bytesC_length,(hf.wf _(by omega)).mono.len];exact ag150))rfl(fun gh=>rfl)h73(HJ.gy(fun gh=>PR.fldA u39 rfl sz37 rfl)rfl(fun gh=>rfl)h73(HJ.gy(fun gh=>PR.load rfl(.s(.s(.s .z)))rfl pl37)rfl(fun gh=>rfl)h73(HJ.gy(fun gh=>PR.move rfl)rfl(fun gh=>rfl)h73(HJ.gy(fun gh=>PR.idx u37 sz152 rfl rfl rfl(by omega)hg.sm)rfl(fun gh=>rfl)h73(HJ.gy(fun gh=>PR.fldP u152 rfl sz150 rfl(hg.sm(i:=j)(by omega)))rfl(fun gh=>rfl)h73(HJ.gy(fun gh=>PR.loadHagg rfl(hg.mono(by omega))(hg.sm(i:=j)(by omega))(by rw [bytesC_length,(hg.wf _(by omega)).mono.len];exact ag150))rfl(fun gh=>rfl)h73(HJ.close 24 1 foll0(by kernel_rfl)rfl rfl fun gh=>(J.conv(us':=(62,_):: (63,_):: (64,_):: (65,_):: (66,_):: (67,_):: (68,_):: (69,_):: (70,_):: (71,_):: (72,_):: (73,_):: (74,_):: (75,_):: (76,_):: (77,_):: (78,_):: (79,_):: (80,_):: (81,_):: (82,_):: (83,_):: (84,_):: (85,_):: _)(L':=_)rfl rfl(J.gcall fn157 rfl rfl h73 rfl rfl fun w hH=>(l01Before_c(hf.wf i(by omega)).mono(hg.wf j(by omega)).mono hH).mono ?_))))))))))))));rintro _ w⟨rfl,hH⟩;refine⟨_,rfl,fun a hF=>J.of hF hH ?_⟩;refine J.nil(EJ.still(JS.gy(PR.pickT rfl h73 rfl)rfl rfl rfl h67(JS.op(PR.pickF rfl h67 rfl)rfl(JS.op(PR.assign rfl)rfl(JS.nil(EJ.thenN(hK7(CJ.cond rfl(fun h61=>?_)(fun h61=>?_)))))))))
    ·
     refine CJ.seq fun _ hK9 _=>(CJ.head [[], [0], [], [2], [], [3,4], [5], [6]] (by kernel_rfl)(HJ.op(fun gh=>PR.fldA u39 rfl sz37 rfl)(HJ.op(fun gh=>PR.load rfl At.z rfl pl37)(HJ.op(fun gh=>PR.fldA u39 rfl sz37 rfl)(HJ.op(fun gh=>PR.load rfl(.s(.s(.s(.s .z))))rfl pl37)(HJ.op(fun gh=>PR.move rfl)(HJ.op(fun gh=>PR.idx u37 sz152 rfl rfl rfl(by omega)hf.sm)(HJ.op(fun gh=>PR.loadHagg rfl(hf.cell _(by omega))(hf.sm(i:=i)(by omega))(by rw [Term.c_length(hf.wf _(by omega))];exact ag152))(HJ.mk(fun gh=>MK.lit1T u37 ze152 sz152(hf.wf i(by omega))rfl)(HJ.close 8 3 foll0(by kernel_rfl)rfl rfl fun gh=>(J.conv(us':=(89,_):: (90,_):: (91,_):: (92,_):: (93,_):: (94,_):: (95,_):: (96,_):: _)(L':=_::_)rfl rfl(J.appendOT u37 ze152 sz152 by152 rfl rfl(by simp only [List.length_cons,List.length_nil];omega).z(.s .z)(fun _ _=>(.s .z))rfl fun qo97 co97=>(J.p(PR.fldA u39 rfl sz37 rfl)rfl(J.store rfl rfl rfl rfl sz37(by simp [*])(.s .z)?_))))))))))))));refine J.nil(EJ.still(JS.nil(EJ.thenN(hK9(CJ.region(J.p(PR.move rfl)rfl(J.p(PR.add rfl rfl(by first | exact nw _(by omega)| rfl))rfl(J.p(PR.assign rfl)rfl(J.nil(EJ.inN(EJ.inN(EJ.thenN(EJ.drop .z ?_)))))))))))));exact hAg0(qo97,co97,O++[tm f i],i+1,j)⟨by omega,by omega,hO.app(mrgA2(by omega)(by omega)h61)⟩(by show f.length+g.length - _<f.length+g.length - (i+j);omega)55 rfl rfl⟨rfl,⟨rfl,trivial⟩⟩rfl rfl
    ·
     refine CJ.seq fun _ hK10 _=>(CJ.head [[], [], [1], [2], [0,3], [4], [5], [6,5], [5], [7,8,5], [9,5], [10,5], [5], [12,5], [5], [13,14,5], [15,5], [16,5]] (by kernel_rfl)(HJ.op(fun gh=>PR.move rfl)(HJ.op(fun gh=>PR.fldA u39 rfl sz37 rfl)(HJ.op(fun gh=>PR.load rfl(.s(.s(.s(.s .z))))rfl pl37)(HJ.op(fun gh=>PR.lenSlice u37 rfl rfl)(HJ.op(fun gh=>PR.eql rfl rfl)(HJ.op(fun gh=>PR.move rfl)(HJ.splitB 5 rfl(fun h107=>?_)(fun h107=>?_)))))))))
     ·
      try have h107p:=of_decide_eq_true h107
      refine HJ.gn rfl(fun gh=>rfl)h107(HJ.gn rfl(fun gh=>rfl)h107(HJ.gn rfl(fun gh=>rfl)h107(HJ.gn rfl(fun gh=>rfl)h107(HJ.gn rfl(fun gh=>rfl)h107(HJ.gn rfl(fun gh=>rfl)h107(HJ.gn rfl(fun gh=>rfl)h107(HJ.gn rfl(fun gh=>rfl)h107(HJ.gn rfl(fun gh=>rfl)h107(HJ.gn rfl(fun gh=>rfl)h107(HJ.gn rfl(fun gh=>rfl)h107(HJ.gn rfl(fun gh=>rfl)h107(HJ.close 18 1 foll0(by kernel_rfl)rfl rfl fun gh=>(J.conv(us':=(102,_):: (103,_):: (104,_):: (105,_):: (106,_):: (107,_):: (108,_):: (109,_):: (110,_):: (111,_):: (112,_):: (113,_):: (114,_):: (115,_):: (116,_):: (117,_):: (118,_):: (119,_):: _)(L':=_)rfl rfl(J.gn rfl rfl rfl h107 ?_))))))))))))));refine J.nil(EJ.still(JS.op(PR.pickT rfl h107 rfl)rfl(JS.op(PR.assign rfl)rfl(JS.nil(EJ.thenN(hK10(CJ.condT rfl(CJ.seq fun _ hK11 _=>(CJ.seq fun _ hK12 _=>(CJ.region(J.p(PR.move rfl)rfl(J.p(PR.fldA u39 rfl sz37 rfl)rfl(J.p(PR.load rfl(.s(.s(.s .z)))rfl pl37)rfl(J.p(PR.move rfl)rfl(J.p(PR.idx u37 sz152 rfl rfl rfl(by omega)hg.sm)rfl ?_)))))))))))))));refine J.p(PR.fldP u152 rfl sz2 rfl(hg.sm(i:=j)(by omega)))rfl(J.p(PR.loadH rfl(hg.fac(by omega))pl2)rfl(J.p(PR.mul rfl rfl(by first | exact nw _(by omega)| rfl))rfl(J.call fn160 rfl rfl fun w hH=>(l01Mod_c(by omega)hH).mono ?_)));rintro _ w⟨rfl,hH⟩;refine⟨_,rfl,fun a hF=>J.of hF hH ?_⟩;refine J.p(PR.assign rfl)rfl(J.nil(EJ.thenN(hK12(CJ.seq fun _ hK13 _=>(CJ.region(J.p(PR.move rfl)rfl(J.p(PR.neq rfl rfl)rfl(J.nil(EJ.thenN(hK13(CJ.condD rfl(fun h132=>?_)(fun h132=>?_))))))))))))
      ·
       refine CJ.head [[], [0], [], [2], [], [3,4], [5], [6], [], [7,8], [9]] (by kernel_rfl)(HJ.op(fun gh=>PR.fldA u39 rfl sz37 rfl)(HJ.op(fun gh=>PR.load rfl At.z rfl pl37)(HJ.op(fun gh=>PR.fldA u39 rfl sz37 rfl)(HJ.op(fun gh=>PR.load rfl(.s(.s(.s .z)))rfl pl37)(HJ.op(fun gh=>PR.move rfl)(HJ.op(fun gh=>PR.idx u37 sz152 rfl rfl rfl(by omega)hg.sm)(HJ.op(fun gh=>PR.fldP u152 rfl sz150 rfl(hg.sm(i:=j)(by omega)))(HJ.op(fun gh=>PR.loadHagg rfl(hg.mono(by omega))(hg.sm(i:=j)(by omega))(by rw [bytesC_length,(hg.wf _(by omega)).mono.len];exact ag150))(HJ.op(fun gh=>PR.move rfl)(HJ.op(fun gh=>PR.build2 rfl rfl(fun w=>bt152 _ _(hg.wf j(by omega)).mono.len w))(HJ.mk(fun gh=>MK.lit1T u37 ze152 sz152(Term.wf.of(hg.wf j(by omega)).mono(by omega))rfl)(HJ.close 11 3 foll0(by kernel_rfl)rfl rfl fun gh=>(J.conv(us':=(133,_):: (134,_):: (135,_):: (136,_):: (137,_):: (138,_):: (139,_):: (140,_):: (141,_):: (142,_):: (143,_):: _)(L':=_::_)rfl rfl(J.appendOT u37 ze152 sz152 by152 rfl rfl(by simp only [List.length_cons,List.length_nil];omega).z(.s .z)(fun _ _=>(.s .z))rfl fun qo144 co144=>?_))))))))))))));refine J.p(PR.fldA u39 rfl sz37 rfl)rfl(J.store rfl rfl rfl rfl sz37(by simp [*])(.s .z)(J.nil(EJ.still(JS.nil(EJ.thenN(hK11(CJ.region(J.p(PR.move rfl)rfl(J.p(PR.add rfl rfl(by first | exact nw _(by omega)| rfl))rfl(J.p(PR.assign rfl)rfl(J.nil(EJ.inN(EJ.inN(EJ.thenN(EJ.drop .z ?_)))))))))))))));exact hAg0(qo144,co144,O++[⟨(tm g j).mono,fld(k * (tm g j).fac)⟩],i,j+1)(by exfalso;omega)(by show f.length+g.length - _<f.length+g.length - (i+j);omega)91 rfl rfl⟨rfl,⟨rfl,trivial⟩⟩rfl rfl
      ·
       refine CJ.skip(EJ.thenN(hK11(CJ.region(J.p(PR.move rfl)rfl(J.p(PR.add rfl rfl(by first | exact nw _(by omega)| rfl))rfl(J.p(PR.assign rfl)rfl(J.nil(EJ.inN(EJ.inN(EJ.thenN ?_))))))))));exact hAg0(q,c,O,i,j+1)(by exfalso;omega)(by show f.length+g.length - _<f.length+g.length - (i+j);omega)78 rfl rfl⟨rfl,⟨rfl,trivial⟩⟩rfl rfl
     ·
      try have h107p:=of_decide_eq_false h107
      refine HJ.gy(fun gh=>PR.fldA u39 rfl sz37 rfl)rfl(fun gh=>rfl)h107(HJ.gy(fun gh=>PR.load rfl(.s(.s(.s .z)))rfl pl37)rfl(fun gh=>rfl)h107(HJ.gy(fun gh=>PR.move rfl)rfl(fun gh=>rfl)h107(HJ.gy(fun gh=>PR.idx u37 sz152 rfl rfl rfl(by omega)hg.sm)rfl(fun gh=>rfl)h107(HJ.gy(fun gh=>PR.fldP u152 rfl sz150 rfl(hg.sm(i:=j)(by omega)))rfl(fun gh=>rfl)h107(HJ.gy(fun gh=>PR.loadHagg rfl(hg.mono(by omega))(hg.sm(i:=j)(by omega))(by rw [bytesC_length,(hg.wf _(by omega)).mono.len];exact ag150))rfl(fun gh=>rfl)h107(HJ.gy(fun gh=>PR.fldA u39 rfl sz37 rfl)rfl(fun gh=>rfl)h107(HJ.gy(fun gh=>PR.load rfl(.s(.s(.s(.s .z))))rfl pl37)rfl(fun gh=>rfl)h107(HJ.gy(fun gh=>PR.move rfl)rfl(fun gh=>rfl)h107(HJ.gy(fun gh=>PR.idx u37 sz152 rfl rfl rfl(by omega)hf.sm)rfl(fun gh=>rfl)h107(HJ.gy(fun gh=>PR.fldP u152 rfl sz150 rfl(hf.sm(i:=i)(by omega)))rfl(fun gh=>rfl)h107(HJ.gy(fun gh=>PR.loadHagg rfl(hf.mono(by omega))(hf.sm(i:=i)(by omega))(by rw [bytesC_length,(hf.wf _(by omega)).mono.len];exact ag150))rfl(fun gh=>rfl)h107(HJ.close 18 1 foll0(by kernel_rfl)rfl rfl fun gh=>(J.conv(us':=(102,_):: (103,_):: (104,_):: (105,_):: (106,_):: (107,_):: (108,_):: (109,_):: (110,_):: (111,_):: (112,_):: (113,_):: (114,_):: (115,_):: (116,_):: (117,_):: (118,_):: (119,_):: _)(L':=_)rfl rfl(J.gcall fn157 rfl rfl h107 rfl rfl fun w hH=>(l01Before_c(hg.wf j(by omega)).mono(hf.wf i(by omega)).mono hH).mono ?_))))))))))))));rintro _ w⟨rfl,hH⟩;refine⟨_,rfl,fun a hF=>J.of hF hH ?_⟩;refine J.nil(EJ.still(JS.op(PR.pickF rfl h107 rfl)rfl(JS.op(PR.assign rfl)rfl(JS.nil(EJ.thenN(hK10(CJ.cond rfl(fun h101=>?_)(fun h101=>?_))))))))
      ·
       have hjl:j<g.length:=by omega
       have hyv:=hsg.val _(toS_at(ts:=g)hjl);simp only at hyv;have kb:=mul_sb(b:=(tm g j).fac)(B:=10006)(show -10006≤k∧k≤10006 by omega)hyv;have fb:=fld_bd(k * (tm g j).fac);refine CJ.seq fun _ hK14 _=>(CJ.seq fun _ hK15 _=>(CJ.region(J.p(PR.move rfl)rfl(J.p(PR.fldA u39 rfl sz37 rfl)rfl(J.p(PR.load rfl(.s(.s(.s .z)))rfl pl37)rfl(J.p(PR.move rfl)rfl(J.p(PR.idx u37 sz152 rfl rfl rfl(by omega)hg.sm)rfl(J.p(PR.fldP u152 rfl sz2 rfl(hg.sm(i:=j)(by omega)))rfl(J.p(PR.loadH rfl(hg.fac(by omega))pl2)rfl(J.p(PR.mul rfl rfl(by first | exact nw _(by omega)| rfl))rfl(J.call fn160 rfl rfl fun w hH=>(l01Mod_c(by omega)hH).mono ?_)))))))))));rintro _ w⟨rfl,hH⟩;refine⟨_,rfl,fun a hF=>J.of hF hH ?_⟩;refine J.p(PR.assign rfl)rfl(J.nil(EJ.thenN(hK15(CJ.seq fun _ hK16 _=>(CJ.region(J.p(PR.move rfl)rfl(J.p(PR.neq rfl rfl)rfl(J.nil(EJ.thenN(hK16(CJ.condD rfl(fun h132=>?_)(fun h132=>?_))))))))))))
       ·
        refine CJ.head [[], [0], [], [2], [], [3,4], [5], [6], [], [7,8], [9]] (by kernel_rfl)(HJ.op(fun gh=>PR.fldA u39 rfl sz37 rfl)(HJ.op(fun gh=>PR.load rfl At.z rfl pl37)(HJ.op(fun gh=>PR.fldA u39 rfl sz37 rfl)(HJ.op(fun gh=>PR.load rfl(.s(.s(.s .z)))rfl pl37)(HJ.op(fun gh=>PR.move rfl)(HJ.op(fun gh=>PR.idx u37 sz152 rfl rfl rfl(by omega)hg.sm)(HJ.op(fun gh=>PR.fldP u152 rfl sz150 rfl(hg.sm(i:=j)(by omega)))(HJ.op(fun gh=>PR.loadHagg rfl(hg.mono(by omega))(hg.sm(i:=j)(by omega))(by rw [bytesC_length,(hg.wf _(by omega)).mono.len];exact ag150))(HJ.op(fun gh=>PR.move rfl)(HJ.op(fun gh=>PR.build2 rfl rfl(fun w=>bt152 _ _(hg.wf j(by omega)).mono.len w))(HJ.mk(fun gh=>MK.lit1T u37 ze152 sz152(Term.wf.of(hg.wf j(by omega)).mono(by omega))rfl)(HJ.close 11 3 foll0(by kernel_rfl)rfl rfl fun gh=>(J.conv(us':=(133,_):: (134,_):: (135,_):: (136,_):: (137,_):: (138,_):: (139,_):: (140,_):: (141,_):: (142,_):: (143,_):: _)(L':=_::_)rfl rfl(J.appendOT u37 ze152 sz152 by152 rfl rfl(by simp only [List.length_cons,List.length_nil];omega).z(.s .z)(fun _ _=>(.s .z))rfl fun qo144 co144=>?_))))))))))))));refine J.p(PR.fldA u39 rfl sz37 rfl)rfl(J.store rfl rfl rfl rfl sz37(by simp [*])(.s .z)(J.nil(EJ.still(JS.nil(EJ.thenN(hK14(CJ.region(J.p(PR.move rfl)rfl(J.p(PR.add rfl rfl(by first | exact nw _(by omega)| rfl))rfl(J.p(PR.assign rfl)rfl(J.nil(EJ.inN(EJ.inN(EJ.thenN(EJ.drop .z ?_)))))))))))))));exact hAg0(qo144,co144,O++[⟨(tm g j).mono,fld(k * (tm g j).fac)⟩],i,j+1)⟨by omega,by omega,hO.app((mrgB2(by omega)(by omega)(by simp [h61])h101).trans(if_neg h132))⟩(by show f.length+g.length - _<f.length+g.length - (i+j);omega)91 rfl rfl⟨rfl,⟨rfl,trivial⟩⟩rfl rfl
       ·
        refine CJ.skip(EJ.thenN(hK14(CJ.region(J.p(PR.move rfl)rfl(J.p(PR.add rfl rfl(by first | exact nw _(by omega)| rfl))rfl(J.p(PR.assign rfl)rfl(J.nil(EJ.inN(EJ.inN(EJ.thenN ?_))))))))));exact hAg0(q,c,O,i,j+1)⟨by omega,by omega,hO.skip((mrgB2(by omega)(by omega)(by simp [h61])h101).trans(if_pos(Decidable.not_not.1 h132)))⟩(by show f.length+g.length - _<f.length+g.length - (i+j);omega)78 rfl rfl⟨rfl,⟨rfl,trivial⟩⟩rfl rfl
      ·
       have hil:i<f.length:=by omega
       have hxv:=hsf.val _(toS_at(ts:=f)hil);simp only at hxv;have fb2:=fld_bd((tm f i).fac+fld(k * (tm g j).fac))
       have hjl:j<g.length:=by omega
       have hyv:=hsg.val _(toS_at(ts:=g)hjl);simp only at hyv;have kb:=mul_sb(b:=(tm g j).fac)(B:=10006)(show -10006≤k∧k≤10006 by omega)hyv;have fb:=fld_bd(k * (tm g j).fac);refine CJ.seq fun _ hK17 _=>(CJ.seq fun _ hK18 _=>(CJ.head [[], [0], [], [1,2], [3], [4], [], [], [7], [], [8,9], [10], [11], [6,12], [13]] (by kernel_rfl)(HJ.op(fun gh=>PR.fldA u39 rfl sz37 rfl)(HJ.op(fun gh=>PR.load rfl(.s(.s(.s(.s .z))))rfl pl37)(HJ.op(fun gh=>PR.move rfl)(HJ.op(fun gh=>PR.idx u37 sz152 rfl rfl rfl(by omega)hf.sm)(HJ.op(fun gh=>PR.fldP u152 rfl sz2 rfl(hf.sm(i:=i)(by omega)))(HJ.op(fun gh=>PR.loadH rfl(hf.fac(by omega))pl2)(HJ.op(fun gh=>PR.move rfl)(HJ.op(fun gh=>PR.fldA u39 rfl sz37 rfl)(HJ.op(fun gh=>PR.load rfl(.s(.s(.s .z)))rfl pl37)(HJ.op(fun gh=>PR.move rfl)(HJ.op(fun gh=>PR.idx u37 sz152 rfl rfl rfl(by omega)hg.sm)(HJ.op(fun gh=>PR.fldP u152 rfl sz2 rfl(hg.sm(i:=j)(by omega)))?_))))))))))))));refine HJ.op(fun gh=>PR.loadH rfl(hg.fac(by omega))pl2)(HJ.op(fun gh=>PR.mul rfl rfl(by first | exact nw _(by omega)| rfl))(HJ.call fn160(fun gh=>rfl)(fun w X hH=>l01Mod_c(by omega)hH)(HJ.close 15 2 foll0(by kernel_rfl)rfl rfl fun gh=>(J.conv(us':=(25,_):: (26,_):: (27,_):: (28,_):: (29,_):: (30,_):: (31,_):: (32,_):: (33,_):: (34,_):: (35,_):: (36,_):: (37,_):: (38,_):: (39,_):: _)(L':=_)rfl rfl(J.p(PR.add rfl rfl(by first | exact nw _(by omega)| rfl))rfl(J.call fn160 rfl rfl fun w hH=>(l01Mod_c(by omega)hH).mono ?_))))));rintro _ w⟨rfl,hH⟩;refine⟨_,rfl,fun a hF=>J.of hF hH ?_⟩;refine J.nil(EJ.still(JS.op(PR.assign rfl)rfl(JS.nil(EJ.thenN(hK18(CJ.seq fun _ hK19 _=>(CJ.region(J.p(PR.move rfl)rfl(J.p(PR.neq rfl rfl)rfl(J.nil(EJ.thenN(hK19(CJ.condD rfl(fun h43=>?_)(fun h43=>?_))))))))))))))
       ·
        refine CJ.head [[], [0], [], [2], [], [3,4], [5], [6], [], [7,8], [9]] (by kernel_rfl)(HJ.op(fun gh=>PR.fldA u39 rfl sz37 rfl)(HJ.op(fun gh=>PR.load rfl At.z rfl pl37)(HJ.op(fun gh=>PR.fldA u39 rfl sz37 rfl)(HJ.op(fun gh=>PR.load rfl(.s(.s(.s(.s .z))))rfl pl37)(HJ.op(fun gh=>PR.move rfl)(HJ.op(fun gh=>PR.idx u37 sz152 rfl rfl rfl(by omega)hf.sm)(HJ.op(fun gh=>PR.fldP u152 rfl sz150 rfl(hf.sm(i:=i)(by omega)))(HJ.op(fun gh=>PR.loadHagg rfl(hf.mono(by omega))(hf.sm(i:=i)(by omega))(by rw [bytesC_length,(hf.wf _(by omega)).mono.len];exact ag150))(HJ.op(fun gh=>PR.move rfl)(HJ.op(fun gh=>PR.build2 rfl rfl(fun w=>bt152 _ _(hf.wf i(by omega)).mono.len w))(HJ.mk(fun gh=>MK.lit1T u37 ze152 sz152(Term.wf.of(hf.wf i(by omega)).mono(by omega))rfl)(HJ.close 11 3 foll0(by kernel_rfl)rfl rfl fun gh=>(J.conv(us':=(44,_):: (45,_):: (46,_):: (47,_):: (48,_):: (49,_):: (50,_):: (51,_):: (52,_):: (53,_):: (54,_):: _)(L':=_::_)rfl rfl(J.appendOT u37 ze152 sz152 by152 rfl rfl(by simp only [List.length_cons,List.length_nil];omega).z(.s .z)(fun _ _=>(.s .z))rfl fun qo55 co55=>?_))))))))))))));refine J.p(PR.fldA u39 rfl sz37 rfl)rfl(J.store rfl rfl rfl rfl sz37(by simp [*])(.s .z)(J.nil(EJ.still(JS.nil(EJ.thenN(hK17(CJ.seq fun _ hK20 _=>(CJ.region(J.p(PR.move rfl)rfl(J.p(PR.add rfl rfl(by first | exact nw _(by omega)| rfl))rfl(J.p(PR.assign rfl)rfl(J.nil(EJ.thenN(hK20(CJ.region(J.p(PR.move rfl)rfl ?_))))))))))))))));refine J.p(PR.add rfl rfl(by first | exact nw _(by omega)| rfl))rfl(J.p(PR.assign rfl)rfl(J.nil(EJ.inN(EJ.inN(EJ.thenN(EJ.drop .z ?_))))));exact hAg0(qo55,co55,O++[⟨(tm f i).mono,fld((tm f i).fac+fld(k * (tm g j).fac))⟩],i+1,j+1)⟨by omega,by omega,hO.app((mrgC(by omega)(by omega)(by simp [h61])(by simp [h101])).trans(if_neg h43))⟩(by show f.length+g.length - _<f.length+g.length - (i+j);omega)102 rfl rfl⟨rfl,⟨rfl,trivial⟩⟩rfl rfl
       ·
        refine CJ.skip(EJ.thenN(hK17(CJ.seq fun _ hK21 _=>(CJ.region(J.p(PR.move rfl)rfl(J.p(PR.add rfl rfl(by first | exact nw _(by omega)| rfl))rfl(J.p(PR.assign rfl)rfl(J.nil(EJ.thenN(hK21(CJ.region(J.p(PR.move rfl)rfl(J.p(PR.add rfl rfl(by first | exact nw _(by omega)| rfl))rfl(J.p(PR.assign rfl)rfl(J.nil(EJ.inN ?_))))))))))))))));refine EJ.inN(EJ.thenN ?_);exact hAg0(q,c,O,i+1,j+1)⟨by omega,by omega,hO.skip((mrgC(by omega)(by omega)(by simp [h61])(by simp [h101])).trans(if_pos(Decidable.not_not.1 h43)))⟩(by show f.length+g.length - _<f.length+g.length - (i+j);omega)89 rfl rfl⟨rfl,⟨rfl,trivial⟩⟩rfl rfl
   ·
    try have h73p:=of_decide_eq_false h73
    refine HJ.gn rfl(fun gh=>rfl)h73(HJ.gn rfl(fun gh=>rfl)h73(HJ.gn rfl(fun gh=>rfl)h73(HJ.gn rfl(fun gh=>rfl)h73(HJ.gn rfl(fun gh=>rfl)h73(HJ.gn rfl(fun gh=>rfl)h73(HJ.gn rfl(fun gh=>rfl)h73(HJ.gn rfl(fun gh=>rfl)h73(HJ.gn rfl(fun gh=>rfl)h73(HJ.gn rfl(fun gh=>rfl)h73(HJ.gn rfl(fun gh=>rfl)h73(HJ.gn rfl(fun gh=>rfl)h73(HJ.close 24 1 foll0(by kernel_rfl)rfl rfl fun gh=>(J.conv(us':=(62,_):: (63,_):: (64,_):: (65,_):: (66,_):: (67,_):: (68,_):: (69,_):: (70,_):: (71,_):: (72,_):: (73,_):: (74,_):: (75,_):: (76,_):: (77,_):: (78,_):: (79,_):: (80,_):: (81,_):: (82,_):: (83,_):: (84,_):: (85,_):: _)(L':=_)rfl rfl(J.gn rfl rfl rfl h73 ?_))))))))))))));refine J.nil(EJ.still(JS.gy(PR.pickF rfl h73 rfl)rfl rfl rfl h67(JS.op(PR.pickF rfl h67 rfl)rfl(JS.op(PR.assign rfl)rfl(JS.nil(EJ.thenN(hK7(CJ.condF rfl(CJ.seq fun _ hK22 _=>(CJ.head [[], [], [1], [2], [0,3], [4], [5], [6,5], [5], [7,8,5], [9,5], [10,5], [5], [12,5], [5], [13,14,5], [15,5], [16,5]] (by kernel_rfl)(HJ.op(fun gh=>PR.move rfl)(HJ.op(fun gh=>PR.fldA u39 rfl sz37 rfl)(HJ.op(fun gh=>PR.load rfl(.s(.s(.s(.s .z))))rfl pl37)(HJ.op(fun gh=>PR.lenSlice u37 rfl rfl)(HJ.op(fun gh=>PR.eql rfl rfl)?_)))))))))))))));refine HJ.op(fun gh=>PR.move rfl)(HJ.splitB 5 rfl(fun h107=>?_)(fun h107=>?_))
    ·
     try have h107p:=of_decide_eq_true h107
     refine HJ.gn rfl(fun gh=>rfl)h107(HJ.gn rfl(fun gh=>rfl)h107(HJ.gn rfl(fun gh=>rfl)h107(HJ.gn rfl(fun gh=>rfl)h107(HJ.gn rfl(fun gh=>rfl)h107(HJ.gn rfl(fun gh=>rfl)h107(HJ.gn rfl(fun gh=>rfl)h107(HJ.gn rfl(fun gh=>rfl)h107(HJ.gn rfl(fun gh=>rfl)h107(HJ.gn rfl(fun gh=>rfl)h107(HJ.gn rfl(fun gh=>rfl)h107(HJ.gn rfl(fun gh=>rfl)h107(HJ.close 18 1 foll0(by kernel_rfl)rfl rfl fun gh=>(J.conv(us':=(102,_):: (103,_):: (104,_):: (105,_):: (106,_):: (107,_):: (108,_):: (109,_):: (110,_):: (111,_):: (112,_):: (113,_):: (114,_):: (115,_):: (116,_):: (117,_):: (118,_):: (119,_):: _)(L':=_)rfl rfl(J.gn rfl rfl rfl h107 ?_))))))))))))));refine J.nil(EJ.still(JS.op(PR.pickT rfl h107 rfl)rfl(JS.op(PR.assign rfl)rfl(JS.nil(EJ.thenN(hK22(CJ.condT rfl(CJ.seq fun _ hK23 _=>(CJ.seq fun _ hK24 _=>(CJ.region(J.p(PR.move rfl)rfl(J.p(PR.fldA u39 rfl sz37 rfl)rfl(J.p(PR.load rfl(.s(.s(.s .z)))rfl pl37)rfl(J.p(PR.move rfl)rfl(J.p(PR.idx u37 sz152 rfl rfl rfl(by omega)hg.sm)rfl ?_)))))))))))))));refine J.p(PR.fldP u152 rfl sz2 rfl(hg.sm(i:=j)(by omega)))rfl(J.p(PR.loadH rfl(hg.fac(by omega))pl2)rfl(J.p(PR.mul rfl rfl(by first | exact nw _(by omega)| rfl))rfl(J.call fn160 rfl rfl fun w hH=>(l01Mod_c(by omega)hH).mono ?_)));rintro _ w⟨rfl,hH⟩;refine⟨_,rfl,fun a hF=>J.of hF hH ?_⟩;refine J.p(PR.assign rfl)rfl(J.nil(EJ.thenN(hK24(CJ.seq fun _ hK25 _=>(CJ.region(J.p(PR.move rfl)rfl(J.p(PR.neq rfl rfl)rfl(J.nil(EJ.thenN(hK25(CJ.condD rfl(fun h132=>?_)(fun h132=>?_))))))))))))
     ·
      refine CJ.head [[], [0], [], [2], [], [3,4], [5], [6], [], [7,8], [9]] (by kernel_rfl)(HJ.op(fun gh=>PR.fldA u39 rfl sz37 rfl)(HJ.op(fun gh=>PR.load rfl At.z rfl pl37)(HJ.op(fun gh=>PR.fldA u39 rfl sz37 rfl)(HJ.op(fun gh=>PR.load rfl(.s(.s(.s .z)))rfl pl37)(HJ.op(fun gh=>PR.move rfl)(HJ.op(fun gh=>PR.idx u37 sz152 rfl rfl rfl(by omega)hg.sm)(HJ.op(fun gh=>PR.fldP u152 rfl sz150 rfl(hg.sm(i:=j)(by omega)))(HJ.op(fun gh=>PR.loadHagg rfl(hg.mono(by omega))(hg.sm(i:=j)(by omega))(by rw [bytesC_length,(hg.wf _(by omega)).mono.len];exact ag150))(HJ.op(fun gh=>PR.move rfl)(HJ.op(fun gh=>PR.build2 rfl rfl(fun w=>bt152 _ _(hg.wf j(by omega)).mono.len w))(HJ.mk(fun gh=>MK.lit1T u37 ze152 sz152(Term.wf.of(hg.wf j(by omega)).mono(by omega))rfl)(HJ.close 11 3 foll0(by kernel_rfl)rfl rfl fun gh=>(J.conv(us':=(133,_):: (134,_):: (135,_):: (136,_):: (137,_):: (138,_):: (139,_):: (140,_):: (141,_):: (142,_):: (143,_):: _)(L':=_::_)rfl rfl(J.appendOT u37 ze152 sz152 by152 rfl rfl(by simp only [List.length_cons,List.length_nil];omega).z(.s .z)(fun _ _=>(.s .z))rfl fun qo144 co144=>?_))))))))))))));refine J.p(PR.fldA u39 rfl sz37 rfl)rfl(J.store rfl rfl rfl rfl sz37(by simp [*])(.s .z)(J.nil(EJ.still(JS.nil(EJ.thenN(hK23(CJ.region(J.p(PR.move rfl)rfl(J.p(PR.add rfl rfl(by first | exact nw _(by omega)| rfl))rfl(J.p(PR.assign rfl)rfl(J.nil(EJ.inN(EJ.inN(EJ.thenN(EJ.drop .z ?_)))))))))))))));exact hAg0(qo144,co144,O++[⟨(tm g j).mono,fld(k * (tm g j).fac)⟩],i,j+1)⟨by omega,by omega,hO.app((mrgB1(by omega)(by omega)).trans(if_neg h132))⟩(by show f.length+g.length - _<f.length+g.length - (i+j);omega)91 rfl rfl⟨rfl,⟨rfl,trivial⟩⟩rfl rfl
     ·
      refine CJ.skip(EJ.thenN(hK23(CJ.region(J.p(PR.move rfl)rfl(J.p(PR.add rfl rfl(by first | exact nw _(by omega)| rfl))rfl(J.p(PR.assign rfl)rfl(J.nil(EJ.inN(EJ.inN(EJ.thenN ?_))))))))));exact hAg0(q,c,O,i,j+1)⟨by omega,by omega,hO.skip((mrgB1(by omega)(by omega)).trans(if_pos(Decidable.not_not.1 h132)))⟩(by show f.length+g.length - _<f.length+g.length - (i+j);omega)78 rfl rfl⟨rfl,⟨rfl,trivial⟩⟩rfl rfl
    ·
     try have h107p:=of_decide_eq_false h107
     refine HJ.gy(fun gh=>PR.fldA u39 rfl sz37 rfl)rfl(fun gh=>rfl)h107(HJ.gy(fun gh=>PR.load rfl(.s(.s(.s .z)))rfl pl37)rfl(fun gh=>rfl)h107(HJ.gy(fun gh=>PR.move rfl)rfl(fun gh=>rfl)h107(HJ.gy(fun gh=>PR.idx u37 sz152 rfl rfl rfl(by omega)hg.sm)rfl(fun gh=>rfl)h107(HJ.gy(fun gh=>PR.fldP u152 rfl sz150 rfl(hg.sm(i:=j)(by omega)))rfl(fun gh=>rfl)h107(HJ.gy(fun gh=>PR.loadHagg rfl(hg.mono(by omega))(hg.sm(i:=j)(by omega))(by rw [bytesC_length,(hg.wf _(by omega)).mono.len];exact ag150))rfl(fun gh=>rfl)h107(HJ.gy(fun gh=>PR.fldA u39 rfl sz37 rfl)rfl(fun gh=>rfl)h107(HJ.gy(fun gh=>PR.load rfl(.s(.s(.s(.s .z))))rfl pl37)rfl(fun gh=>rfl)h107(HJ.gy(fun gh=>PR.move rfl)rfl(fun gh=>rfl)h107(HJ.gy(fun gh=>PR.idx u37 sz152 rfl rfl rfl(by omega)hf.sm)rfl(fun gh=>rfl)h107(HJ.gy(fun gh=>PR.fldP u152 rfl sz150 rfl(hf.sm(i:=i)(by omega)))rfl(fun gh=>rfl)h107(HJ.gy(fun gh=>PR.loadHagg rfl(hf.mono(by omega))(hf.sm(i:=i)(by omega))(by rw [bytesC_length,(hf.wf _(by omega)).mono.len];exact ag150))rfl(fun gh=>rfl)h107(HJ.close 18 1 foll0(by kernel_rfl)rfl rfl fun gh=>(J.conv(us':=(102,_):: (103,_):: (104,_):: (105,_):: (106,_):: (107,_):: (108,_):: (109,_):: (110,_):: (111,_):: (112,_):: (113,_):: (114,_):: (115,_):: (116,_):: (117,_):: (118,_):: (119,_):: _)(L':=_)rfl rfl(J.gcall fn157 rfl rfl h107 rfl rfl fun w hH=>(l01Before_c(hg.wf j(by omega)).mono(hf.wf i(by omega)).mono hH).mono ?_))))))))))))));rintro _ w⟨rfl,hH⟩;refine⟨_,rfl,fun a hF=>J.of hF hH ?_⟩;refine J.nil(EJ.still(JS.op(PR.pickF rfl h107 rfl)rfl(JS.op(PR.assign rfl)rfl(JS.nil(EJ.thenN(hK22(CJ.cond rfl(fun h101=>?_)(fun h101=>?_))))))))
     ·
      have hjl:j<g.length:=by omega
      have hyv:=hsg.val _(toS_at(ts:=g)hjl);simp only at hyv;have kb:=mul_sb(b:=(tm g j).fac)(B:=10006)(show -10006≤k∧k≤10006 by omega)hyv;have fb:=fld_bd(k * (tm g j).fac);refine CJ.seq fun _ hK26 _=>(CJ.seq fun _ hK27 _=>(CJ.region(J.p(PR.move rfl)rfl(J.p(PR.fldA u39 rfl sz37 rfl)rfl(J.p(PR.load rfl(.s(.s(.s .z)))rfl pl37)rfl(J.p(PR.move rfl)rfl(J.p(PR.idx u37 sz152 rfl rfl rfl(by omega)hg.sm)rfl(J.p(PR.fldP u152 rfl sz2 rfl(hg.sm(i:=j)(by omega)))rfl(J.p(PR.loadH rfl(hg.fac(by omega))pl2)rfl(J.p(PR.mul rfl rfl(by first | exact nw _(by omega)| rfl))rfl(J.call fn160 rfl rfl fun w hH=>(l01Mod_c(by omega)hH).mono ?_)))))))))));rintro _ w⟨rfl,hH⟩;refine⟨_,rfl,fun a hF=>J.of hF hH ?_⟩;refine J.p(PR.assign rfl)rfl(J.nil(EJ.thenN(hK27(CJ.seq fun _ hK28 _=>(CJ.region(J.p(PR.move rfl)rfl(J.p(PR.neq rfl rfl)rfl(J.nil(EJ.thenN(hK28(CJ.condD rfl(fun h132=>?_)(fun h132=>?_))))))))))))
      ·
       refine CJ.head [[], [0], [], [2], [], [3,4], [5], [6], [], [7,8], [9]] (by kernel_rfl)(HJ.op(fun gh=>PR.fldA u39 rfl sz37 rfl)(HJ.op(fun gh=>PR.load rfl At.z rfl pl37)(HJ.op(fun gh=>PR.fldA u39 rfl sz37 rfl)(HJ.op(fun gh=>PR.load rfl(.s(.s(.s .z)))rfl pl37)(HJ.op(fun gh=>PR.move rfl)(HJ.op(fun gh=>PR.idx u37 sz152 rfl rfl rfl(by omega)hg.sm)(HJ.op(fun gh=>PR.fldP u152 rfl sz150 rfl(hg.sm(i:=j)(by omega)))(HJ.op(fun gh=>PR.loadHagg rfl(hg.mono(by omega))(hg.sm(i:=j)(by omega))(by rw [bytesC_length,(hg.wf _(by omega)).mono.len];exact ag150))(HJ.op(fun gh=>PR.move rfl)(HJ.op(fun gh=>PR.build2 rfl rfl(fun w=>bt152 _ _(hg.wf j(by omega)).mono.len w))(HJ.mk(fun gh=>MK.lit1T u37 ze152 sz152(Term.wf.of(hg.wf j(by omega)).mono(by omega))rfl)(HJ.close 11 3 foll0(by kernel_rfl)rfl rfl fun gh=>(J.conv(us':=(133,_):: (134,_):: (135,_):: (136,_):: (137,_):: (138,_):: (139,_):: (140,_):: (141,_):: (142,_):: (143,_):: _)(L':=_::_)rfl rfl(J.appendOT u37 ze152 sz152 by152 rfl rfl(by simp only [List.length_cons,List.length_nil];omega).z(.s .z)(fun _ _=>(.s .z))rfl fun qo144 co144=>?_))))))))))))));refine J.p(PR.fldA u39 rfl sz37 rfl)rfl(J.store rfl rfl rfl rfl sz37(by simp [*])(.s .z)(J.nil(EJ.still(JS.nil(EJ.thenN(hK26(CJ.region(J.p(PR.move rfl)rfl(J.p(PR.add rfl rfl(by first | exact nw _(by omega)| rfl))rfl(J.p(PR.assign rfl)rfl(J.nil(EJ.inN(EJ.inN(EJ.thenN(EJ.drop .z ?_)))))))))))))));exact hAg0(qo144,co144,O++[⟨(tm g j).mono,fld(k * (tm g j).fac)⟩],i,j+1)(by exfalso;omega)(by show f.length+g.length - _<f.length+g.length - (i+j);omega)91 rfl rfl⟨rfl,⟨rfl,trivial⟩⟩rfl rfl
      ·
       refine CJ.skip(EJ.thenN(hK26(CJ.region(J.p(PR.move rfl)rfl(J.p(PR.add rfl rfl(by first | exact nw _(by omega)| rfl))rfl(J.p(PR.assign rfl)rfl(J.nil(EJ.inN(EJ.inN(EJ.thenN ?_))))))))));exact hAg0(q,c,O,i,j+1)(by exfalso;omega)(by show f.length+g.length - _<f.length+g.length - (i+j);omega)78 rfl rfl⟨rfl,⟨rfl,trivial⟩⟩rfl rfl
     ·
      have hil:i<f.length:=by omega
      have hxv:=hsf.val _(toS_at(ts:=f)hil);simp only at hxv;have fb2:=fld_bd((tm f i).fac+fld(k * (tm g j).fac))
      have hjl:j<g.length:=by omega
      have hyv:=hsg.val _(toS_at(ts:=g)hjl);simp only at hyv;have kb:=mul_sb(b:=(tm g j).fac)(B:=10006)(show -10006≤k∧k≤10006 by omega)hyv;have fb:=fld_bd(k * (tm g j).fac);refine CJ.seq fun _ hK29 _=>(CJ.seq fun _ hK30 _=>(CJ.head [[], [0], [], [1,2], [3], [4], [], [], [7], [], [8,9], [10], [11], [6,12], [13]] (by kernel_rfl)(HJ.op(fun gh=>PR.fldA u39 rfl sz37 rfl)(HJ.op(fun gh=>PR.load rfl(.s(.s(.s(.s .z))))rfl pl37)(HJ.op(fun gh=>PR.move rfl)(HJ.op(fun gh=>PR.idx u37 sz152 rfl rfl rfl(by omega)hf.sm)(HJ.op(fun gh=>PR.fldP u152 rfl sz2 rfl(hf.sm(i:=i)(by omega)))(HJ.op(fun gh=>PR.loadH rfl(hf.fac(by omega))pl2)(HJ.op(fun gh=>PR.move rfl)(HJ.op(fun gh=>PR.fldA u39 rfl sz37 rfl)(HJ.op(fun gh=>PR.load rfl(.s(.s(.s .z)))rfl pl37)(HJ.op(fun gh=>PR.move rfl)(HJ.op(fun gh=>PR.idx u37 sz152 rfl rfl rfl(by omega)hg.sm)(HJ.op(fun gh=>PR.fldP u152 rfl sz2 rfl(hg.sm(i:=j)(by omega)))?_))))))))))))));refine HJ.op(fun gh=>PR.loadH rfl(hg.fac(by omega))pl2)(HJ.op(fun gh=>PR.mul rfl rfl(by first | exact nw _(by omega)| rfl))(HJ.call fn160(fun gh=>rfl)(fun w X hH=>l01Mod_c(by omega)hH)(HJ.close 15 2 foll0(by kernel_rfl)rfl rfl fun gh=>(J.conv(us':=(25,_):: (26,_):: (27,_):: (28,_):: (29,_):: (30,_):: (31,_):: (32,_):: (33,_):: (34,_):: (35,_):: (36,_):: (37,_):: (38,_):: (39,_):: _)(L':=_)rfl rfl(J.p(PR.add rfl rfl(by first | exact nw _(by omega)| rfl))rfl(J.call fn160 rfl rfl fun w hH=>(l01Mod_c(by omega)hH).mono ?_))))));rintro _ w⟨rfl,hH⟩;refine⟨_,rfl,fun a hF=>J.of hF hH ?_⟩;refine J.nil(EJ.still(JS.op(PR.assign rfl)rfl(JS.nil(EJ.thenN(hK30(CJ.seq fun _ hK31 _=>(CJ.region(J.p(PR.move rfl)rfl(J.p(PR.neq rfl rfl)rfl(J.nil(EJ.thenN(hK31(CJ.condD rfl(fun h43=>?_)(fun h43=>?_))))))))))))))
      ·
       refine CJ.head [[], [0], [], [2], [], [3,4], [5], [6], [], [7,8], [9]] (by kernel_rfl)(HJ.op(fun gh=>PR.fldA u39 rfl sz37 rfl)(HJ.op(fun gh=>PR.load rfl At.z rfl pl37)(HJ.op(fun gh=>PR.fldA u39 rfl sz37 rfl)(HJ.op(fun gh=>PR.load rfl(.s(.s(.s(.s .z))))rfl pl37)(HJ.op(fun gh=>PR.move rfl)(HJ.op(fun gh=>PR.idx u37 sz152 rfl rfl rfl(by omega)hf.sm)(HJ.op(fun gh=>PR.fldP u152 rfl sz150 rfl(hf.sm(i:=i)(by omega)))(HJ.op(fun gh=>PR.loadHagg rfl(hf.mono(by omega))(hf.sm(i:=i)(by omega))(by rw [bytesC_length,(hf.wf _(by omega)).mono.len];exact ag150))(HJ.op(fun gh=>PR.move rfl)(HJ.op(fun gh=>PR.build2 rfl rfl(fun w=>bt152 _ _(hf.wf i(by omega)).mono.len w))(HJ.mk(fun gh=>MK.lit1T u37 ze152 sz152(Term.wf.of(hf.wf i(by omega)).mono(by omega))rfl)(HJ.close 11 3 foll0(by kernel_rfl)rfl rfl fun gh=>(J.conv(us':=(44,_):: (45,_):: (46,_):: (47,_):: (48,_):: (49,_):: (50,_):: (51,_):: (52,_):: (53,_):: (54,_):: _)(L':=_::_)rfl rfl(J.appendOT u37 ze152 sz152 by152 rfl rfl(by simp only [List.length_cons,List.length_nil];omega).z(.s .z)(fun _ _=>(.s .z))rfl fun qo55 co55=>?_))))))))))))));refine J.p(PR.fldA u39 rfl sz37 rfl)rfl(J.store rfl rfl rfl rfl sz37(by simp [*])(.s .z)(J.nil(EJ.still(JS.nil(EJ.thenN(hK29(CJ.seq fun _ hK32 _=>(CJ.region(J.p(PR.move rfl)rfl(J.p(PR.add rfl rfl(by first | exact nw _(by omega)| rfl))rfl(J.p(PR.assign rfl)rfl(J.nil(EJ.thenN(hK32(CJ.region(J.p(PR.move rfl)rfl ?_))))))))))))))));refine J.p(PR.add rfl rfl(by first | exact nw _(by omega)| rfl))rfl(J.p(PR.assign rfl)rfl(J.nil(EJ.inN(EJ.inN(EJ.thenN(EJ.drop .z ?_))))));exact hAg0(qo55,co55,O++[⟨(tm f i).mono,fld((tm f i).fac+fld(k * (tm g j).fac))⟩],i+1,j+1)(by exfalso;omega)(by show f.length+g.length - _<f.length+g.length - (i+j);omega)102 rfl rfl⟨rfl,⟨rfl,trivial⟩⟩rfl rfl
      ·
       refine CJ.skip(EJ.thenN(hK29(CJ.seq fun _ hK33 _=>(CJ.region(J.p(PR.move rfl)rfl(J.p(PR.add rfl rfl(by first | exact nw _(by omega)| rfl))rfl(J.p(PR.assign rfl)rfl(J.nil(EJ.thenN(hK33(CJ.region(J.p(PR.move rfl)rfl(J.p(PR.add rfl rfl(by first | exact nw _(by omega)| rfl))rfl(J.p(PR.assign rfl)rfl(J.nil(EJ.inN ?_))))))))))))))));refine EJ.inN(EJ.thenN ?_);exact hAg0(q,c,O,i+1,j+1)(by exfalso;omega)(by show f.length+g.length - _<f.length+g.length - (i+j);omega)89 rfl rfl⟨rfl,⟨rfl,trivial⟩⟩rfl rfl
 ·
  try have hg18p:=of_decide_eq_false hg18
  refine J.gy(PR.move rfl)rfl rfl rfl hg18(J.gy(PR.fldA u39 rfl sz37 rfl)rfl rfl rfl hg18(J.gy(PR.load rfl(.s(.s(.s .z)))rfl pl37)rfl rfl rfl hg18(J.gy(PR.lenSlice u37 rfl rfl)rfl rfl rfl hg18(J.gy(PR.lss rfl rfl)rfl rfl rfl hg18(J.p(PR.pickF rfl hg18 rfl)rfl(J.nil(EJ.thenN(hK6(CJ.condD rfl(fun hc24=>?_)(fun hc24=>?_))))))))))
  ·
   refine CJ.skip(EJ.thenN(hK5(CJ.block(CJ.block(CJ.seq fun _ hK34 _=>(CJ.head [[], [], [1], [2], [0,3], [4], [5], [5], [7,5], [8,5], [6,9,5], [10,5], [11], [12,11], [11], [13,14,11], [15,11], [16,11], [11], [18,11], [11], [19,20,11], [21,11], [22,11]] (by kernel_rfl)(HJ.op(fun gh=>PR.move rfl)(HJ.op(fun gh=>PR.fldA u39 rfl sz37 rfl)(HJ.op(fun gh=>PR.load rfl(.s(.s(.s .z)))rfl pl37)(HJ.op(fun gh=>PR.lenSlice u37 rfl rfl)(HJ.op(fun gh=>PR.eql rfl rfl)(HJ.op(fun gh=>PR.move rfl)(HJ.splitB 5 rfl(fun h67=>?_)(fun h67=>?_))))))))))))))
   ·
    try have h67p:=of_decide_eq_true h67
    refine HJ.gn rfl(fun gh=>rfl)h67(HJ.gn rfl(fun gh=>rfl)h67(HJ.gn rfl(fun gh=>rfl)h67(HJ.gn rfl(fun gh=>rfl)h67(HJ.gn rfl(fun gh=>rfl)h67(HJ.gn rfl(fun gh=>rfl)h67(HJ.gu rfl(fun gh=>rfl)(HJ.gu rfl(fun gh=>rfl)(HJ.gu rfl(fun gh=>rfl)(HJ.gu rfl(fun gh=>rfl)(HJ.gu rfl(fun gh=>rfl)(HJ.gu rfl(fun gh=>rfl)(HJ.gu rfl(fun gh=>rfl)(HJ.gu rfl(fun gh=>rfl)(HJ.gu rfl(fun gh=>rfl)?_))))))))))))));refine HJ.gu rfl(fun gh=>rfl)(HJ.gu rfl(fun gh=>rfl)(HJ.gu rfl(fun gh=>rfl)(HJ.close 24 1 foll0(by kernel_rfl)rfl rfl fun gh=>(J.conv(us':=(62,_):: (63,_):: (64,_):: (65,_):: (66,_):: (67,_):: (68,_):: (69,_):: (70,_):: (71,_):: (72,_):: (73,_):: (74,_):: (75,_):: (76,_):: (77,_):: (78,_):: (79,_):: (80,_):: (81,_):: (82,_):: (83,_):: (84,_):: (85,_):: _)(L':=_)rfl rfl(J.gu rfl rfl rfl(J.nil(EJ.still(JS.gn rfl rfl rfl h67(JS.op(PR.pickT rfl h67 rfl)rfl(JS.op(PR.assign rfl)rfl(JS.nil(EJ.thenN(hK34(CJ.condT rfl(CJ.seq fun _ hK35 _=>?_)))))))))))))));refine CJ.head [[], [0], [], [2], [], [3,4], [5], [6]] (by kernel_rfl)(HJ.op(fun gh=>PR.fldA u39 rfl sz37 rfl)(HJ.op(fun gh=>PR.load rfl At.z rfl pl37)(HJ.op(fun gh=>PR.fldA u39 rfl sz37 rfl)(HJ.op(fun gh=>PR.load rfl(.s(.s(.s(.s .z))))rfl pl37)(HJ.op(fun gh=>PR.move rfl)(HJ.op(fun gh=>PR.idx u37 sz152 rfl rfl rfl(by omega)hf.sm)(HJ.op(fun gh=>PR.loadHagg rfl(hf.cell _(by omega))(hf.sm(i:=i)(by omega))(by rw [Term.c_length(hf.wf _(by omega))];exact ag152))(HJ.mk(fun gh=>MK.lit1T u37 ze152 sz152(hf.wf i(by omega))rfl)(HJ.close 8 3 foll0(by kernel_rfl)rfl rfl fun gh=>(J.conv(us':=(89,_):: (90,_):: (91,_):: (92,_):: (93,_):: (94,_):: (95,_):: (96,_):: _)(L':=_::_)rfl rfl(J.appendOT u37 ze152 sz152 by152 rfl rfl(by simp only [List.length_cons,List.length_nil];omega).z(.s .z)(fun _ _=>(.s .z))rfl fun qo97 co97=>(J.p(PR.fldA u39 rfl sz37 rfl)rfl(J.store rfl rfl rfl rfl sz37(by simp [*])(.s .z)(J.nil ?_))))))))))))));refine EJ.still(JS.nil(EJ.thenN(hK35(CJ.region(J.p(PR.move rfl)rfl(J.p(PR.add rfl rfl(by first | exact nw _(by omega)| rfl))rfl(J.p(PR.assign rfl)rfl(J.nil(EJ.inN(EJ.inN(EJ.thenN(EJ.drop .z ?_))))))))))));exact hAg0(qo97,co97,O++[tm f i],i+1,j)(by exfalso;omega)(by show f.length+g.length - _<f.length+g.length - (i+j);omega)55 rfl rfl⟨rfl,⟨rfl,trivial⟩⟩rfl rfl
   ·
    try have h67p:=of_decide_eq_false h67
    refine HJ.gy(fun gh=>PR.move rfl)rfl(fun gh=>rfl)h67(HJ.gy(fun gh=>PR.fldA u39 rfl sz37 rfl)rfl(fun gh=>rfl)h67(HJ.gy(fun gh=>PR.load rfl(.s(.s(.s(.s .z))))rfl pl37)rfl(fun gh=>rfl)h67(HJ.gy(fun gh=>PR.lenSlice u37 rfl rfl)rfl(fun gh=>rfl)h67(HJ.gy(fun gh=>PR.lss rfl rfl)rfl(fun gh=>rfl)h67(HJ.gy(fun gh=>PR.move rfl)rfl(fun gh=>rfl)h67(HJ.splitB 11 rfl(fun h73=>?_)(fun h73=>?_)))))))
    ·
     try have h73p:=of_decide_eq_true h73
     refine HJ.gy(fun gh=>PR.fldA u39 rfl sz37 rfl)rfl(fun gh=>rfl)h73(HJ.gy(fun gh=>PR.load rfl(.s(.s(.s(.s .z))))rfl pl37)rfl(fun gh=>rfl)h73(HJ.gy(fun gh=>PR.move rfl)rfl(fun gh=>rfl)h73(HJ.gy(fun gh=>PR.idx u37 sz152 rfl rfl rfl(by omega)hf.sm)rfl(fun gh=>rfl)h73(HJ.gy(fun gh=>PR.fldP u152 rfl sz150 rfl(hf.sm(i:=i)(by omega)))rfl(fun gh=>rfl)h73(HJ.gy(fun gh=>PR.loadHagg rfl(hf.mono(by omega))(hf.sm(i:=i)(by omega))(by rw [bytesC_length,(hf.wf _(by omega)).mono.len];exact ag150))rfl(fun gh=>rfl)h73(HJ.gy(fun gh=>PR.fldA u39 rfl sz37 rfl)rfl(fun gh=>rfl)h73(HJ.gy(fun gh=>PR.load rfl(.s(.s(.s .z)))rfl pl37)rfl(fun gh=>rfl)h73(HJ.gy(fun gh=>PR.move rfl)rfl(fun gh=>rfl)h73(HJ.gy(fun gh=>PR.idx u37 sz152 rfl rfl rfl(by omega)hg.sm)rfl(fun gh=>rfl)h73(HJ.gy(fun gh=>PR.fldP u152 rfl sz150 rfl(hg.sm(i:=j)(by omega)))rfl(fun gh=>rfl)h73(HJ.gy(fun gh=>PR.loadHagg rfl(hg.mono(by omega))(hg.sm(i:=j)(by omega))(by rw [bytesC_length,(hg.wf _(by omega)).mono.len];exact ag150))rfl(fun gh=>rfl)h73(HJ.close 24 1 foll0(by kernel_rfl)rfl rfl fun gh=>(J.conv(us':=(62,_):: (63,_):: (64,_):: (65,_):: (66,_):: (67,_):: (68,_):: (69,_):: (70,_):: (71,_):: (72,_):: (73,_):: (74,_):: (75,_):: (76,_):: (77,_):: (78,_):: (79,_):: (80,_):: (81,_):: (82,_):: (83,_):: (84,_):: (85,_):: _)(L':=_)rfl rfl(J.gcall fn157 rfl rfl h73 rfl rfl fun w hH=>(l01Before_c(hf.wf i(by omega)).mono(hg.wf j(by omega)).mono hH).mono ?_))))))))))))));rintro _ w⟨rfl,hH⟩;refine⟨_,rfl,fun a hF=>J.of hF hH ?_⟩;refine J.nil(EJ.still(JS.gy(PR.pickT rfl h73 rfl)rfl rfl rfl h67(JS.op(PR.pickF rfl h67 rfl)rfl(JS.op(PR.assign rfl)rfl(JS.nil(EJ.thenN(hK34(CJ.cond rfl(fun h61=>?_)(fun h61=>?_)))))))))
     ·
      refine CJ.seq fun _ hK36 _=>(CJ.head [[], [0], [], [2], [], [3,4], [5], [6]] (by kernel_rfl)(HJ.op(fun gh=>PR.fldA u39 rfl sz37 rfl)(HJ.op(fun gh=>PR.load rfl At.z rfl pl37)(HJ.op(fun gh=>PR.fldA u39 rfl sz37 rfl)(HJ.op(fun gh=>PR.load rfl(.s(.s(.s(.s .z))))rfl pl37)(HJ.op(fun gh=>PR.move rfl)(HJ.op(fun gh=>PR.idx u37 sz152 rfl rfl rfl(by omega)hf.sm)(HJ.op(fun gh=>PR.loadHagg rfl(hf.cell _(by omega))(hf.sm(i:=i)(by omega))(by rw [Term.c_length(hf.wf _(by omega))];exact ag152))(HJ.mk(fun gh=>MK.lit1T u37 ze152 sz152(hf.wf i(by omega))rfl)(HJ.close 8 3 foll0(by kernel_rfl)rfl rfl fun gh=>(J.conv(us':=(89,_):: (90,_):: (91,_):: (92,_):: (93,_):: (94,_):: (95,_):: (96,_):: _)(L':=_::_)rfl rfl(J.appendOT u37 ze152 sz152 by152 rfl rfl(by simp only [List.length_cons,List.length_nil];omega).z(.s .z)(fun _ _=>(.s .z))rfl fun qo97 co97=>(J.p(PR.fldA u39 rfl sz37 rfl)rfl(J.store rfl rfl rfl rfl sz37(by simp [*])(.s .z)?_))))))))))))));refine J.nil(EJ.still(JS.nil(EJ.thenN(hK36(CJ.region(J.p(PR.move rfl)rfl(J.p(PR.add rfl rfl(by first | exact nw _(by omega)| rfl))rfl(J.p(PR.assign rfl)rfl(J.nil(EJ.inN(EJ.inN(EJ.thenN(EJ.drop .z ?_)))))))))))));exact hAg0(qo97,co97,O++[tm f i],i+1,j)(by exfalso;omega)(by show f.length+g.length - _<f.length+g.length - (i+j);omega)55 rfl rfl⟨rfl,⟨rfl,trivial⟩⟩rfl rfl
     ·
      refine CJ.seq fun _ hK37 _=>(CJ.head [[], [], [1], [2], [0,3], [4], [5], [6,5], [5], [7,8,5], [9,5], [10,5], [5], [12,5], [5], [13,14,5], [15,5], [16,5]] (by kernel_rfl)(HJ.op(fun gh=>PR.move rfl)(HJ.op(fun gh=>PR.fldA u39 rfl sz37 rfl)(HJ.op(fun gh=>PR.load rfl(.s(.s(.s(.s .z))))rfl pl37)(HJ.op(fun gh=>PR.lenSlice u37 rfl rfl)(HJ.op(fun gh=>PR.eql rfl rfl)(HJ.op(fun gh=>PR.move rfl)(HJ.splitB 5 rfl(fun h107=>?_)(fun h107=>?_)))))))))
      ·
       try have h107p:=of_decide_eq_true h107
       refine HJ.gn rfl(fun gh=>rfl)h107(HJ.gn rfl(fun gh=>rfl)h107(HJ.gn rfl(fun gh=>rfl)h107(HJ.gn rfl(fun gh=>rfl)h107(HJ.gn rfl(fun gh=>rfl)h107(HJ.gn rfl(fun gh=>rfl)h107(HJ.gn rfl(fun gh=>rfl)h107(HJ.gn rfl(fun gh=>rfl)h107(HJ.gn rfl(fun gh=>rfl)h107(HJ.gn rfl(fun gh=>rfl)h107(HJ.gn rfl(fun gh=>rfl)h107(HJ.gn rfl(fun gh=>rfl)h107(HJ.close 18 1 foll0(by kernel_rfl)rfl rfl fun gh=>(J.conv(us':=(102,_):: (103,_):: (104,_):: (105,_):: (106,_):: (107,_):: (108,_):: (109,_):: (110,_):: (111,_):: (112,_):: (113,_):: (114,_):: (115,_):: (116,_):: (117,_):: (118,_):: (119,_):: _)(L':=_)rfl rfl(J.gn rfl rfl rfl h107 ?_))))))))))))));refine J.nil(EJ.still(JS.op(PR.pickT rfl h107 rfl)rfl(JS.op(PR.assign rfl)rfl(JS.nil(EJ.thenN(hK37(CJ.condT rfl(CJ.seq fun _ hK38 _=>(CJ.seq fun _ hK39 _=>(CJ.region(J.p(PR.move rfl)rfl(J.p(PR.fldA u39 rfl sz37 rfl)rfl(J.p(PR.load rfl(.s(.s(.s .z)))rfl pl37)rfl(J.p(PR.move rfl)rfl(J.p(PR.idx u37 sz152 rfl rfl rfl(by omega)hg.sm)rfl ?_)))))))))))))));refine J.p(PR.fldP u152 rfl sz2 rfl(hg.sm(i:=j)(by omega)))rfl(J.p(PR.loadH rfl(hg.fac(by omega))pl2)rfl(J.p(PR.mul rfl rfl(by first | exact nw _(by omega)| rfl))rfl(J.call fn160 rfl rfl fun w hH=>(l01Mod_c(by omega)hH).mono ?_)));rintro _ w⟨rfl,hH⟩;refine⟨_,rfl,fun a hF=>J.of hF hH ?_⟩;refine J.p(PR.assign rfl)rfl(J.nil(EJ.thenN(hK39(CJ.seq fun _ hK40 _=>(CJ.region(J.p(PR.move rfl)rfl(J.p(PR.neq rfl rfl)rfl(J.nil(EJ.thenN(hK40(CJ.condD rfl(fun h132=>?_)(fun h132=>?_))))))))))))
       ·
        refine CJ.head [[], [0], [], [2], [], [3,4], [5], [6], [], [7,8], [9]] (by kernel_rfl)(HJ.op(fun gh=>PR.fldA u39 rfl sz37 rfl)(HJ.op(fun gh=>PR.load rfl At.z rfl pl37)(HJ.op(fun gh=>PR.fldA u39 rfl sz37 rfl)(HJ.op(fun gh=>PR.load rfl(.s(.s(.s .z)))rfl pl37)(HJ.op(fun gh=>PR.move rfl)(HJ.op(fun gh=>PR.idx u37 sz152 rfl rfl rfl(by omega)hg.sm)(HJ.op(fun gh=>PR.fldP u152 rfl sz150 rfl(hg.sm(i:=j)(by omega)))(HJ.op(fun gh=>PR.loadHagg rfl(hg.mono(by omega))(hg.sm(i:=j)(by omega))(by rw [bytesC_length,(hg.wf _(by omega)).mono.len];exact ag150))(HJ.op(fun gh=>PR.move rfl)(HJ.op(fun gh=>PR.build2 rfl rfl(fun w=>bt152 _ _(hg.wf j(by omega)).mono.len w))(HJ.mk(fun gh=>MK.lit1T u37 ze152 sz152(Term.wf.of(hg.wf j(by omega)).mono(by omega))rfl)(HJ.close 11 3 foll0(by kernel_rfl)rfl rfl fun gh=>(J.conv(us':=(133,_):: (134,_):: (135,_):: (136,_):: (137,_):: (138,_):: (139,_):: (140,_):: (141,_):: (142,_):: (143,_):: _)(L':=_::_)rfl rfl(J.appendOT u37 ze152 sz152 by152 rfl rfl(by simp only [List.length_cons,List.length_nil];omega).z(.s .z)(fun _ _=>(.s .z))rfl fun qo144 co144=>?_))))))))))))));refine J.p(PR.fldA u39 rfl sz37 rfl)rfl(J.store rfl rfl rfl rfl sz37(by simp [*])(.s .z)(J.nil(EJ.still(JS.nil(EJ.thenN(hK38(CJ.region(J.p(PR.move rfl)rfl(J.p(PR.add rfl rfl(by first | exact nw _(by omega)| rfl))rfl(J.p(PR.assign rfl)rfl(J.nil(EJ.inN(EJ.inN(EJ.thenN(EJ.drop .z ?_)))))))))))))));exact hAg0(qo144,co144,O++[⟨(tm g j).mono,fld(k * (tm g j).fac)⟩],i,j+1)(by exfalso;omega)(by show f.length+g.length - _<f.length+g.length - (i+j);omega)91 rfl rfl⟨rfl,⟨rfl,trivial⟩⟩rfl rfl
       ·
        refine CJ.skip(EJ.thenN(hK38(CJ.region(J.p(PR.move rfl)rfl(J.p(PR.add rfl rfl(by first | exact nw _(by omega)| rfl))rfl(J.p(PR.assign rfl)rfl(J.nil(EJ.inN(EJ.inN(EJ.thenN ?_))))))))));exact hAg0(q,c,O,i,j+1)(by exfalso;omega)(by show f.length+g.length - _<f.length+g.length - (i+j);omega)78 rfl rfl⟨rfl,⟨rfl,trivial⟩⟩rfl rfl
      ·
       try have h107p:=of_decide_eq_false h107
       refine HJ.gy(fun gh=>PR.fldA u39 rfl sz37 rfl)rfl(fun gh=>rfl)h107(HJ.gy(fun gh=>PR.load rfl(.s(.s(.s .z)))rfl pl37)rfl(fun gh=>rfl)h107(HJ.gy(fun gh=>PR.move rfl)rfl(fun gh=>rfl)h107(HJ.gy(fun gh=>PR.idx u37 sz152 rfl rfl rfl(by omega)hg.sm)rfl(fun gh=>rfl)h107(HJ.gy(fun gh=>PR.fldP u152 rfl sz150 rfl(hg.sm(i:=j)(by omega)))rfl(fun gh=>rfl)h107(HJ.gy(fun gh=>PR.loadHagg rfl(hg.mono(by omega))(hg.sm(i:=j)(by omega))(by rw [bytesC_length,(hg.wf _(by omega)).mono.len];exact ag150))rfl(fun gh=>rfl)h107(HJ.gy(fun gh=>PR.fldA u39 rfl sz37 rfl)rfl(fun gh=>rfl)h107(HJ.gy(fun gh=>PR.load rfl(.s(.s(.s(.s .z))))rfl pl37)rfl(fun gh=>rfl)h107(HJ.gy(fun gh=>PR.move rfl)rfl(fun gh=>rfl)h107(HJ.gy(fun gh=>PR.idx u37 sz152 rfl rfl rfl(by omega)hf.sm)rfl(fun gh=>rfl)h107(HJ.gy(fun gh=>PR.fldP u152 rfl sz150 rfl(hf.sm(i:=i)(by omega)))rfl(fun gh=>rfl)h107(HJ.gy(fun gh=>PR.loadHagg rfl(hf.mono(by omega))(hf.sm(i:=i)(by omega))(by rw [bytesC_length,(hf.wf _(by omega)).mono.len];exact ag150))rfl(fun gh=>rfl)h107(HJ.close 18 1 foll0(by kernel_rfl)rfl rfl fun gh=>(J.conv(us':=(102,_):: (103,_):: (104,_):: (105,_):: (106,_):: (107,_):: (108,_):: (109,_):: (110,_):: (111,_):: (112,_):: (113,_):: (114,_):: (115,_):: (116,_):: (117,_):: (118,_):: (119,_):: _)(L':=_)rfl rfl(J.gcall fn157 rfl rfl h107 rfl rfl fun w hH=>(l01Before_c(hg.wf j(by omega)).mono(hf.wf i(by omega)).mono hH).mono ?_))))))))))))));rintro _ w⟨rfl,hH⟩;refine⟨_,rfl,fun a hF=>J.of hF hH ?_⟩;refine J.nil(EJ.still(JS.op(PR.pickF rfl h107 rfl)rfl(JS.op(PR.assign rfl)rfl(JS.nil(EJ.thenN(hK37(CJ.cond rfl(fun h101=>?_)(fun h101=>?_))))))))
       ·
        have hjl:j<g.length:=by omega
        have hyv:=hsg.val _(toS_at(ts:=g)hjl);simp only at hyv;have kb:=mul_sb(b:=(tm g j).fac)(B:=10006)(show -10006≤k∧k≤10006 by omega)hyv;have fb:=fld_bd(k * (tm g j).fac);refine CJ.seq fun _ hK41 _=>(CJ.seq fun _ hK42 _=>(CJ.region(J.p(PR.move rfl)rfl(J.p(PR.fldA u39 rfl sz37 rfl)rfl(J.p(PR.load rfl(.s(.s(.s .z)))rfl pl37)rfl(J.p(PR.move rfl)rfl(J.p(PR.idx u37 sz152 rfl rfl rfl(by omega)hg.sm)rfl(J.p(PR.fldP u152 rfl sz2 rfl(hg.sm(i:=j)(by omega)))rfl(J.p(PR.loadH rfl(hg.fac(by omega))pl2)rfl(J.p(PR.mul rfl rfl(by first | exact nw _(by omega)| rfl))rfl(J.call fn160 rfl rfl fun w hH=>(l01Mod_c(by omega)hH).mono ?_)))))))))));rintro _ w⟨rfl,hH⟩;refine⟨_,rfl,fun a hF=>J.of hF hH ?_⟩;refine J.p(PR.assign rfl)rfl(J.nil(EJ.thenN(hK42(CJ.seq fun _ hK43 _=>(CJ.region(J.p(PR.move rfl)rfl(J.p(PR.neq rfl rfl)rfl(J.nil(EJ.thenN(hK43(CJ.condD rfl(fun h132=>?_)(fun h132=>?_))))))))))))
        ·
         refine CJ.head [[], [0], [], [2], [], [3,4], [5], [6], [], [7,8], [9]] (by kernel_rfl)(HJ.op(fun gh=>PR.fldA u39 rfl sz37 rfl)(HJ.op(fun gh=>PR.load rfl At.z rfl pl37)(HJ.op(fun gh=>PR.fldA u39 rfl sz37 rfl)(HJ.op(fun gh=>PR.load rfl(.s(.s(.s .z)))rfl pl37)(HJ.op(fun gh=>PR.move rfl)(HJ.op(fun gh=>PR.idx u37 sz152 rfl rfl rfl(by omega)hg.sm)(HJ.op(fun gh=>PR.fldP u152 rfl sz150 rfl(hg.sm(i:=j)(by omega)))(HJ.op(fun gh=>PR.loadHagg rfl(hg.mono(by omega))(hg.sm(i:=j)(by omega))(by rw [bytesC_length,(hg.wf _(by omega)).mono.len];exact ag150))(HJ.op(fun gh=>PR.move rfl)(HJ.op(fun gh=>PR.build2 rfl rfl(fun w=>bt152 _ _(hg.wf j(by omega)).mono.len w))(HJ.mk(fun gh=>MK.lit1T u37 ze152 sz152(Term.wf.of(hg.wf j(by omega)).mono(by omega))rfl)(HJ.close 11 3 foll0(by kernel_rfl)rfl rfl fun gh=>(J.conv(us':=(133,_):: (134,_):: (135,_):: (136,_):: (137,_):: (138,_):: (139,_):: (140,_):: (141,_):: (142,_):: (143,_):: _)(L':=_::_)rfl rfl(J.appendOT u37 ze152 sz152 by152 rfl rfl(by simp only [List.length_cons,List.length_nil];omega).z(.s .z)(fun _ _=>(.s .z))rfl fun qo144 co144=>?_))))))))))))));refine J.p(PR.fldA u39 rfl sz37 rfl)rfl(J.store rfl rfl rfl rfl sz37(by simp [*])(.s .z)(J.nil(EJ.still(JS.nil(EJ.thenN(hK41(CJ.region(J.p(PR.move rfl)rfl(J.p(PR.add rfl rfl(by first | exact nw _(by omega)| rfl))rfl(J.p(PR.assign rfl)rfl(J.nil(EJ.inN(EJ.inN(EJ.thenN(EJ.drop .z ?_)))))))))))))));exact hAg0(qo144,co144,O++[⟨(tm g j).mono,fld(k * (tm g j).fac)⟩],i,j+1)(by exfalso;omega)(by show f.length+g.length - _<f.length+g.length - (i+j);omega)91 rfl rfl⟨rfl,⟨rfl,trivial⟩⟩rfl rfl
        ·
         refine CJ.skip(EJ.thenN(hK41(CJ.region(J.p(PR.move rfl)rfl(J.p(PR.add rfl rfl(by first | exact nw _(by omega)| rfl))rfl(J.p(PR.assign rfl)rfl(J.nil(EJ.inN(EJ.inN(EJ.thenN ?_))))))))));exact hAg0(q,c,O,i,j+1)(by exfalso;omega)(by show f.length+g.length - _<f.length+g.length - (i+j);omega)78 rfl rfl⟨rfl,⟨rfl,trivial⟩⟩rfl rfl
       ·
        have hil:i<f.length:=by omega
        have hxv:=hsf.val _(toS_at(ts:=f)hil);simp only at hxv;have fb2:=fld_bd((tm f i).fac+fld(k * (tm g j).fac))
        have hjl:j<g.length:=by omega
        have hyv:=hsg.val _(toS_at(ts:=g)hjl);simp only at hyv;have kb:=mul_sb(b:=(tm g j).fac)(B:=10006)(show -10006≤k∧k≤10006 by omega)hyv;have fb:=fld_bd(k * (tm g j).fac);refine CJ.seq fun _ hK44 _=>(CJ.seq fun _ hK45 _=>(CJ.head [[], [0], [], [1,2], [3], [4], [], [], [7], [], [8,9], [10], [11], [6,12], [13]] (by kernel_rfl)(HJ.op(fun gh=>PR.fldA u39 rfl sz37 rfl)(HJ.op(fun gh=>PR.load rfl(.s(.s(.s(.s .z))))rfl pl37)(HJ.op(fun gh=>PR.move rfl)(HJ.op(fun gh=>PR.idx u37 sz152 rfl rfl rfl(by omega)hf.sm)(HJ.op(fun gh=>PR.fldP u152 rfl sz2 rfl(hf.sm(i:=i)(by omega)))(HJ.op(fun gh=>PR.loadH rfl(hf.fac(by omega))pl2)(HJ.op(fun gh=>PR.move rfl)(HJ.op(fun gh=>PR.fldA u39 rfl sz37 rfl)(HJ.op(fun gh=>PR.load rfl(.s(.s(.s .z)))rfl pl37)(HJ.op(fun gh=>PR.move rfl)(HJ.op(fun gh=>PR.idx u37 sz152 rfl rfl rfl(by omega)hg.sm)(HJ.op(fun gh=>PR.fldP u152 rfl sz2 rfl(hg.sm(i:=j)(by omega)))?_))))))))))))));refine HJ.op(fun gh=>PR.loadH rfl(hg.fac(by omega))pl2)(HJ.op(fun gh=>PR.mul rfl rfl(by first | exact nw _(by omega)| rfl))(HJ.call fn160(fun gh=>rfl)(fun w X hH=>l01Mod_c(by omega)hH)(HJ.close 15 2 foll0(by kernel_rfl)rfl rfl fun gh=>(J.conv(us':=(25,_):: (26,_):: (27,_):: (28,_):: (29,_):: (30,_):: (31,_):: (32,_):: (33,_):: (34,_):: (35,_):: (36,_):: (37,_):: (38,_):: (39,_):: _)(L':=_)rfl rfl(J.p(PR.add rfl rfl(by first | exact nw _(by omega)| rfl))rfl(J.call fn160 rfl rfl fun w hH=>(l01Mod_c(by omega)hH).mono ?_))))));rintro _ w⟨rfl,hH⟩;refine⟨_,rfl,fun a hF=>J.of hF hH ?_⟩;refine J.nil(EJ.still(JS.op(PR.assign rfl)rfl(JS.nil(EJ.thenN(hK45(CJ.seq fun _ hK46 _=>(CJ.region(J.p(PR.move rfl)rfl(J.p(PR.neq rfl rfl)rfl(J.nil(EJ.thenN(hK46(CJ.condD rfl(fun h43=>?_)(fun h43=>?_))))))))))))))
        ·
         refine CJ.head [[], [0], [], [2], [], [3,4], [5], [6], [], [7,8], [9]] (by kernel_rfl)(HJ.op(fun gh=>PR.fldA u39 rfl sz37 rfl)(HJ.op(fun gh=>PR.load rfl At.z rfl pl37)(HJ.op(fun gh=>PR.fldA u39 rfl sz37 rfl)(HJ.op(fun gh=>PR.load rfl(.s(.s(.s(.s .z))))rfl pl37)(HJ.op(fun gh=>PR.move rfl)(HJ.op(fun gh=>PR.idx u37 sz152 rfl rfl rfl(by omega)hf.sm)(HJ.op(fun gh=>PR.fldP u152 rfl sz150 rfl(hf.sm(i:=i)(by omega)))(HJ.op(fun gh=>PR.loadHagg rfl(hf.mono(by omega))(hf.sm(i:=i)(by omega))(by rw [bytesC_length,(hf.wf _(by omega)).mono.len];exact ag150))(HJ.op(fun gh=>PR.move rfl)(HJ.op(fun gh=>PR.build2 rfl rfl(fun w=>bt152 _ _(hf.wf i(by omega)).mono.len w))(HJ.mk(fun gh=>MK.lit1T u37 ze152 sz152(Term.wf.of(hf.wf i(by omega)).mono(by omega))rfl)(HJ.close 11 3 foll0(by kernel_rfl)rfl rfl fun gh=>(J.conv(us':=(44,_):: (45,_):: (46,_):: (47,_):: (48,_):: (49,_):: (50,_):: (51,_):: (52,_):: (53,_):: (54,_):: _)(L':=_::_)rfl rfl(J.appendOT u37 ze152 sz152 by152 rfl rfl(by simp only [List.length_cons,List.length_nil];omega).z(.s .z)(fun _ _=>(.s .z))rfl fun qo55 co55=>?_))))))))))))));refine J.p(PR.fldA u39 rfl sz37 rfl)rfl(J.store rfl rfl rfl rfl sz37(by simp [*])(.s .z)(J.nil(EJ.still(JS.nil(EJ.thenN(hK44(CJ.seq fun _ hK47 _=>(CJ.region(J.p(PR.move rfl)rfl(J.p(PR.add rfl rfl(by first | exact nw _(by omega)| rfl))rfl(J.p(PR.assign rfl)rfl(J.nil(EJ.thenN(hK47(CJ.region(J.p(PR.move rfl)rfl ?_))))))))))))))));refine J.p(PR.add rfl rfl(by first | exact nw _(by omega)| rfl))rfl(J.p(PR.assign rfl)rfl(J.nil(EJ.inN(EJ.inN(EJ.thenN(EJ.drop .z ?_))))));exact hAg0(qo55,co55,O++[⟨(tm f i).mono,fld((tm f i).fac+fld(k * (tm g j).fac))⟩],i+1,j+1)(by exfalso;omega)(by show f.length+g.length - _<f.length+g.length - (i+j);omega)102 rfl rfl⟨rfl,⟨rfl,trivial⟩⟩rfl rfl
        ·
         refine CJ.skip(EJ.thenN(hK44(CJ.seq fun _ hK48 _=>(CJ.region(J.p(PR.move rfl)rfl(J.p(PR.add rfl rfl(by first | exact nw _(by omega)| rfl))rfl(J.p(PR.assign rfl)rfl(J.nil(EJ.thenN(hK48(CJ.region(J.p(PR.move rfl)rfl(J.p(PR.add rfl rfl(by first | exact nw _(by omega)| rfl))rfl(J.p(PR.assign rfl)rfl(J.nil(EJ.inN ?_))))))))))))))));refine EJ.inN(EJ.thenN ?_);exact hAg0(q,c,O,i+1,j+1)(by exfalso;omega)(by show f.length+g.length - _<f.length+g.length - (i+j);omega)89 rfl rfl⟨rfl,⟨rfl,trivial⟩⟩rfl rfl
    ·
     try have h73p:=of_decide_eq_false h73
     refine HJ.gn rfl(fun gh=>rfl)h73(HJ.gn rfl(fun gh=>rfl)h73(HJ.gn rfl(fun gh=>rfl)h73(HJ.gn rfl(fun gh=>rfl)h73(HJ.gn rfl(fun gh=>rfl)h73(HJ.gn rfl(fun gh=>rfl)h73(HJ.gn rfl(fun gh=>rfl)h73(HJ.gn rfl(fun gh=>rfl)h73(HJ.gn rfl(fun gh=>rfl)h73(HJ.gn rfl(fun gh=>rfl)h73(HJ.gn rfl(fun gh=>rfl)h73(HJ.gn rfl(fun gh=>rfl)h73(HJ.close 24 1 foll0(by kernel_rfl)rfl rfl fun gh=>(J.conv(us':=(62,_):: (63,_):: (64,_):: (65,_):: (66,_):: (67,_):: (68,_):: (69,_):: (70,_):: (71,_):: (72,_):: (73,_):: (74,_):: (75,_):: (76,_):: (77,_):: (78,_):: (79,_):: (80,_):: (81,_):: (82,_):: (83,_):: (84,_):: (85,_):: _)(L':=_)rfl rfl(J.gn rfl rfl rfl h73 ?_))))))))))))));refine J.nil(EJ.still(JS.gy(PR.pickF rfl h73 rfl)rfl rfl rfl h67(JS.op(PR.pickF rfl h67 rfl)rfl(JS.op(PR.assign rfl)rfl(JS.nil(EJ.thenN(hK34(CJ.condF rfl(CJ.seq fun _ hK49 _=>(CJ.head [[], [], [1], [2], [0,3], [4], [5], [6,5], [5], [7,8,5], [9,5], [10,5], [5], [12,5], [5], [13,14,5], [15,5], [16,5]] (by kernel_rfl)(HJ.op(fun gh=>PR.move rfl)(HJ.op(fun gh=>PR.fldA u39 rfl sz37 rfl)(HJ.op(fun gh=>PR.load rfl(.s(.s(.s(.s .z))))rfl pl37)(HJ.op(fun gh=>PR.lenSlice u37 rfl rfl)(HJ.op(fun gh=>PR.eql rfl rfl)?_)))))))))))))));refine HJ.op(fun gh=>PR.move rfl)(HJ.splitB 5 rfl(fun h107=>?_)(fun h107=>?_))
     ·
      try have h107p:=of_decide_eq_true h107
      refine HJ.gn rfl(fun gh=>rfl)h107(HJ.gn rfl(fun gh=>rfl)h107(HJ.gn rfl(fun gh=>rfl)h107(HJ.gn rfl(fun gh=>rfl)h107(HJ.gn rfl(fun gh=>rfl)h107(HJ.gn rfl(fun gh=>rfl)h107(HJ.gn rfl(fun gh=>rfl)h107(HJ.gn rfl(fun gh=>rfl)h107(HJ.gn rfl(fun gh=>rfl)h107(HJ.gn rfl(fun gh=>rfl)h107(HJ.gn rfl(fun gh=>rfl)h107(HJ.gn rfl(fun gh=>rfl)h107(HJ.close 18 1 foll0(by kernel_rfl)rfl rfl fun gh=>(J.conv(us':=(102,_):: (103,_):: (104,_):: (105,_):: (106,_):: (107,_):: (108,_):: (109,_):: (110,_):: (111,_):: (112,_):: (113,_):: (114,_):: (115,_):: (116,_):: (117,_):: (118,_):: (119,_):: _)(L':=_)rfl rfl(J.gn rfl rfl rfl h107 ?_))))))))))))));refine J.nil(EJ.still(JS.op(PR.pickT rfl h107 rfl)rfl(JS.op(PR.assign rfl)rfl(JS.nil(EJ.thenN(hK49(CJ.condT rfl(CJ.seq fun _ hK50 _=>(CJ.seq fun _ hK51 _=>(CJ.region(J.p(PR.move rfl)rfl(J.p(PR.fldA u39 rfl sz37 rfl)rfl(J.p(PR.load rfl(.s(.s(.s .z)))rfl pl37)rfl(J.p(PR.move rfl)rfl(J.p(PR.idx u37 sz152 rfl rfl rfl(by omega)hg.sm)rfl ?_)))))))))))))));refine J.p(PR.fldP u152 rfl sz2 rfl(hg.sm(i:=j)(by omega)))rfl(J.p(PR.loadH rfl(hg.fac(by omega))pl2)rfl(J.p(PR.mul rfl rfl(by first | exact nw _(by omega)| rfl))rfl(J.call fn160 rfl rfl fun w hH=>(l01Mod_c(by omega)hH).mono ?_)));rintro _ w⟨rfl,hH⟩;refine⟨_,rfl,fun a hF=>J.of hF hH ?_⟩;refine J.p(PR.assign rfl)rfl(J.nil(EJ.thenN(hK51(CJ.seq fun _ hK52 _=>(CJ.region(J.p(PR.move rfl)rfl(J.p(PR.neq rfl rfl)rfl(J.nil(EJ.thenN(hK52(CJ.condD rfl(fun h132=>?_)(fun h132=>?_))))))))))))
      ·
       refine CJ.head [[], [0], [], [2], [], [3,4], [5], [6], [], [7,8], [9]] (by kernel_rfl)(HJ.op(fun gh=>PR.fldA u39 rfl sz37 rfl)(HJ.op(fun gh=>PR.load rfl At.z rfl pl37)(HJ.op(fun gh=>PR.fldA u39 rfl sz37 rfl)(HJ.op(fun gh=>PR.load rfl(.s(.s(.s .z)))rfl pl37)(HJ.op(fun gh=>PR.move rfl)(HJ.op(fun gh=>PR.idx u37 sz152 rfl rfl rfl(by omega)hg.sm)(HJ.op(fun gh=>PR.fldP u152 rfl sz150 rfl(hg.sm(i:=j)(by omega)))(HJ.op(fun gh=>PR.loadHagg rfl(hg.mono(by omega))(hg.sm(i:=j)(by omega))(by rw [bytesC_length,(hg.wf _(by omega)).mono.len];exact ag150))(HJ.op(fun gh=>PR.move rfl)(HJ.op(fun gh=>PR.build2 rfl rfl(fun w=>bt152 _ _(hg.wf j(by omega)).mono.len w))(HJ.mk(fun gh=>MK.lit1T u37 ze152 sz152(Term.wf.of(hg.wf j(by omega)).mono(by omega))rfl)(HJ.close 11 3 foll0(by kernel_rfl)rfl rfl fun gh=>(J.conv(us':=(133,_):: (134,_):: (135,_):: (136,_):: (137,_):: (138,_):: (139,_):: (140,_):: (141,_):: (142,_):: (143,_):: _)(L':=_::_)rfl rfl(J.appendOT u37 ze152 sz152 by152 rfl rfl(by simp only [List.length_cons,List.length_nil];omega).z(.s .z)(fun _ _=>(.s .z))rfl fun qo144 co144=>?_))))))))))))));refine J.p(PR.fldA u39 rfl sz37 rfl)rfl(J.store rfl rfl rfl rfl sz37(by simp [*])(.s .z)(J.nil(EJ.still(JS.nil(EJ.thenN(hK50(CJ.region(J.p(PR.move rfl)rfl(J.p(PR.add rfl rfl(by first | exact nw _(by omega)| rfl))rfl(J.p(PR.assign rfl)rfl(J.nil(EJ.inN(EJ.inN(EJ.thenN(EJ.drop .z ?_)))))))))))))));exact hAg0(qo144,co144,O++[⟨(tm g j).mono,fld(k * (tm g j).fac)⟩],i,j+1)⟨by omega,by omega,hO.app((mrgB1(by omega)(by omega)).trans(if_neg h132))⟩(by show f.length+g.length - _<f.length+g.length - (i+j);omega)91 rfl rfl⟨rfl,⟨rfl,trivial⟩⟩rfl rfl
      ·
       refine CJ.skip(EJ.thenN(hK50(CJ.region(J.p(PR.move rfl)rfl(J.p(PR.add rfl rfl(by first | exact nw _(by omega)| rfl))rfl(J.p(PR.assign rfl)rfl(J.nil(EJ.inN(EJ.inN(EJ.thenN ?_))))))))));exact hAg0(q,c,O,i,j+1)⟨by omega,by omega,hO.skip((mrgB1(by omega)(by omega)).trans(if_pos(Decidable.not_not.1 h132)))⟩(by show f.length+g.length - _<f.length+g.length - (i+j);omega)78 rfl rfl⟨rfl,⟨rfl,trivial⟩⟩rfl rfl
     ·
      try have h107p:=of_decide_eq_false h107
      refine HJ.gy(fun gh=>PR.fldA u39 rfl sz37 rfl)rfl(fun gh=>rfl)h107(HJ.gy(fun gh=>PR.load rfl(.s(.s(.s .z)))rfl pl37)rfl(fun gh=>rfl)h107(HJ.gy(fun gh=>PR.move rfl)rfl(fun gh=>rfl)h107(HJ.gy(fun gh=>PR.idx u37 sz152 rfl rfl rfl(by omega)hg.sm)rfl(fun gh=>rfl)h107(HJ.gy(fun gh=>PR.fldP u152 rfl sz150 rfl(hg.sm(i:=j)(by omega)))rfl(fun gh=>rfl)h107(HJ.gy(fun gh=>PR.loadHagg rfl(hg.mono(by omega))(hg.sm(i:=j)(by omega))(by rw [bytesC_length,(hg.wf _(by omega)).mono.len];exact ag150))rfl(fun gh=>rfl)h107(HJ.gy(fun gh=>PR.fldA u39 rfl sz37 rfl)rfl(fun gh=>rfl)h107(HJ.gy(fun gh=>PR.load rfl(.s(.s(.s(.s .z))))rfl pl37)rfl(fun gh=>rfl)h107(HJ.gy(fun gh=>PR.move rfl)rfl(fun gh=>rfl)h107(HJ.gy(fun gh=>PR.idx u37 sz152 rfl rfl rfl(by omega)hf.sm)rfl(fun gh=>rfl)h107(HJ.gy(fun gh=>PR.fldP u152 rfl sz150 rfl(hf.sm(i:=i)(by omega)))rfl(fun gh=>rfl)h107(HJ.gy(fun gh=>PR.loadHagg rfl(hf.mono(by omega))(hf.sm(i:=i)(by omega))(by rw [bytesC_length,(hf.wf _(by omega)).mono.len];exact ag150))rfl(fun gh=>rfl)h107(HJ.close 18 1 foll0(by kernel_rfl)rfl rfl fun gh=>(J.conv(us':=(102,_):: (103,_):: (104,_):: (105,_):: (106,_):: (107,_):: (108,_):: (109,_):: (110,_):: (111,_):: (112,_):: (113,_):: (114,_):: (115,_):: (116,_):: (117,_):: (118,_):: (119,_):: _)(L':=_)rfl rfl(J.gcall fn157 rfl rfl h107 rfl rfl fun w hH=>(l01Before_c(hg.wf j(by omega)).mono(hf.wf i(by omega)).mono hH).mono ?_))))))))))))));rintro _ w⟨rfl,hH⟩;refine⟨_,rfl,fun a hF=>J.of hF hH ?_⟩;refine J.nil(EJ.still(JS.op(PR.pickF rfl h107 rfl)rfl(JS.op(PR.assign rfl)rfl(JS.nil(EJ.thenN(hK49(CJ.cond rfl(fun h101=>?_)(fun h101=>?_))))))))
      ·
       have hjl:j<g.length:=by omega
       have hyv:=hsg.val _(toS_at(ts:=g)hjl);simp only at hyv;have kb:=mul_sb(b:=(tm g j).fac)(B:=10006)(show -10006≤k∧k≤10006 by omega)hyv;have fb:=fld_bd(k * (tm g j).fac);refine CJ.seq fun _ hK53 _=>(CJ.seq fun _ hK54 _=>(CJ.region(J.p(PR.move rfl)rfl(J.p(PR.fldA u39 rfl sz37 rfl)rfl(J.p(PR.load rfl(.s(.s(.s .z)))rfl pl37)rfl(J.p(PR.move rfl)rfl(J.p(PR.idx u37 sz152 rfl rfl rfl(by omega)hg.sm)rfl(J.p(PR.fldP u152 rfl sz2 rfl(hg.sm(i:=j)(by omega)))rfl(J.p(PR.loadH rfl(hg.fac(by omega))pl2)rfl(J.p(PR.mul rfl rfl(by first | exact nw _(by omega)| rfl))rfl(J.call fn160 rfl rfl fun w hH=>(l01Mod_c(by omega)hH).mono ?_)))))))))));rintro _ w⟨rfl,hH⟩;refine⟨_,rfl,fun a hF=>J.of hF hH ?_⟩;refine J.p(PR.assign rfl)rfl(J.nil(EJ.thenN(hK54(CJ.seq fun _ hK55 _=>(CJ.region(J.p(PR.move rfl)rfl(J.p(PR.neq rfl rfl)rfl(J.nil(EJ.thenN(hK55(CJ.condD rfl(fun h132=>?_)(fun h132=>?_))))))))))))
       ·
        refine CJ.head [[], [0], [], [2], [], [3,4], [5], [6], [], [7,8], [9]] (by kernel_rfl)(HJ.op(fun gh=>PR.fldA u39 rfl sz37 rfl)(HJ.op(fun gh=>PR.load rfl At.z rfl pl37)(HJ.op(fun gh=>PR.fldA u39 rfl sz37 rfl)(HJ.op(fun gh=>PR.load rfl(.s(.s(.s .z)))rfl pl37)(HJ.op(fun gh=>PR.move rfl)(HJ.op(fun gh=>PR.idx u37 sz152 rfl rfl rfl(by omega)hg.sm)(HJ.op(fun gh=>PR.fldP u152 rfl sz150 rfl(hg.sm(i:=j)(by omega)))(HJ.op(fun gh=>PR.loadHagg rfl(hg.mono(by omega))(hg.sm(i:=j)(by omega))(by rw [bytesC_length,(hg.wf _(by omega)).mono.len];exact ag150))(HJ.op(fun gh=>PR.move rfl)(HJ.op(fun gh=>PR.build2 rfl rfl(fun w=>bt152 _ _(hg.wf j(by omega)).mono.len w))(HJ.mk(fun gh=>MK.lit1T u37 ze152 sz152(Term.wf.of(hg.wf j(by omega)).mono(by omega))rfl)(HJ.close 11 3 foll0(by kernel_rfl)rfl rfl fun gh=>(J.conv(us':=(133,_):: (134,_):: (135,_):: (136,_):: (137,_):: (138,_):: (139,_):: (140,_):: (141,_):: (142,_):: (143,_):: _)(L':=_::_)rfl rfl(J.appendOT u37 ze152 sz152 by152 rfl rfl(by simp only [List.length_cons,List.length_nil];omega).z(.s .z)(fun _ _=>(.s .z))rfl fun qo144 co144=>?_))))))))))))));refine J.p(PR.fldA u39 rfl sz37 rfl)rfl(J.store rfl rfl rfl rfl sz37(by simp [*])(.s .z)(J.nil(EJ.still(JS.nil(EJ.thenN(hK53(CJ.region(J.p(PR.move rfl)rfl(J.p(PR.add rfl rfl(by first | exact nw _(by omega)| rfl))rfl(J.p(PR.assign rfl)rfl(J.nil(EJ.inN(EJ.inN(EJ.thenN(EJ.drop .z ?_)))))))))))))));exact hAg0(qo144,co144,O++[⟨(tm g j).mono,fld(k * (tm g j).fac)⟩],i,j+1)(by exfalso;omega)(by show f.length+g.length - _<f.length+g.length - (i+j);omega)91 rfl rfl⟨rfl,⟨rfl,trivial⟩⟩rfl rfl
       ·
        refine CJ.skip(EJ.thenN(hK53(CJ.region(J.p(PR.move rfl)rfl(J.p(PR.add rfl rfl(by first | exact nw _(by omega)| rfl))rfl(J.p(PR.assign rfl)rfl(J.nil(EJ.inN(EJ.inN(EJ.thenN ?_))))))))));exact hAg0(q,c,O,i,j+1)(by exfalso;omega)(by show f.length+g.length - _<f.length+g.length - (i+j);omega)78 rfl rfl⟨rfl,⟨rfl,trivial⟩⟩rfl rfl
      ·
       have hil:i<f.length:=by omega
       have hxv:=hsf.val _(toS_at(ts:=f)hil);simp only at hxv;have fb2:=fld_bd((tm f i).fac+fld(k * (tm g j).fac))
       have hjl:j<g.length:=by omega
       have hyv:=hsg.val _(toS_at(ts:=g)hjl);simp only at hyv;have kb:=mul_sb(b:=(tm g j).fac)(B:=10006)(show -10006≤k∧k≤10006 by omega)hyv;have fb:=fld_bd(k * (tm g j).fac);refine CJ.seq fun _ hK56 _=>(CJ.seq fun _ hK57 _=>(CJ.head [[], [0], [], [1,2], [3], [4], [], [], [7], [], [8,9], [10], [11], [6,12], [13]] (by kernel_rfl)(HJ.op(fun gh=>PR.fldA u39 rfl sz37 rfl)(HJ.op(fun gh=>PR.load rfl(.s(.s(.s(.s .z))))rfl pl37)(HJ.op(fun gh=>PR.move rfl)(HJ.op(fun gh=>PR.idx u37 sz152 rfl rfl rfl(by omega)hf.sm)(HJ.op(fun gh=>PR.fldP u152 rfl sz2 rfl(hf.sm(i:=i)(by omega)))(HJ.op(fun gh=>PR.loadH rfl(hf.fac(by omega))pl2)(HJ.op(fun gh=>PR.move rfl)(HJ.op(fun gh=>PR.fldA u39 rfl sz37 rfl)(HJ.op(fun gh=>PR.load rfl(.s(.s(.s .z)))rfl pl37)(HJ.op(fun gh=>PR.move rfl)(HJ.op(fun gh=>PR.idx u37 sz152 rfl rfl rfl(by omega)hg.sm)(HJ.op(fun gh=>PR.fldP u152 rfl sz2 rfl(hg.sm(i:=j)(by omega)))?_))))))))))))));refine HJ.op(fun gh=>PR.loadH rfl(hg.fac(by omega))pl2)(HJ.op(fun gh=>PR.mul rfl rfl(by first | exact nw _(by omega)| rfl))(HJ.call fn160(fun gh=>rfl)(fun w X hH=>l01Mod_c(by omega)hH)(HJ.close 15 2 foll0(by kernel_rfl)rfl rfl fun gh=>(J.conv(us':=(25,_):: (26,_):: (27,_):: (28,_):: (29,_):: (30,_):: (31,_):: (32,_):: (33,_):: (34,_):: (35,_):: (36,_):: (37,_):: (38,_):: (39,_):: _)(L':=_)rfl rfl(J.p(PR.add rfl rfl(by first | exact nw _(by omega)| rfl))rfl(J.call fn160 rfl rfl fun w hH=>(l01Mod_c(by omega)hH).mono ?_))))));rintro _ w⟨rfl,hH⟩;refine⟨_,rfl,fun a hF=>J.of hF hH ?_⟩;refine J.nil(EJ.still(JS.op(PR.assign rfl)rfl(JS.nil(EJ.thenN(hK57(CJ.seq fun _ hK58 _=>(CJ.region(J.p(PR.move rfl)rfl(J.p(PR.neq rfl rfl)rfl(J.nil(EJ.thenN(hK58(CJ.condD rfl(fun h43=>?_)(fun h43=>?_))))))))))))))
       ·
        refine CJ.head [[], [0], [], [2], [], [3,4], [5], [6], [], [7,8], [9]] (by kernel_rfl)(HJ.op(fun gh=>PR.fldA u39 rfl sz37 rfl)(HJ.op(fun gh=>PR.load rfl At.z rfl pl37)(HJ.op(fun gh=>PR.fldA u39 rfl sz37 rfl)(HJ.op(fun gh=>PR.load rfl(.s(.s(.s(.s .z))))rfl pl37)(HJ.op(fun gh=>PR.move rfl)(HJ.op(fun gh=>PR.idx u37 sz152 rfl rfl rfl(by omega)hf.sm)(HJ.op(fun gh=>PR.fldP u152 rfl sz150 rfl(hf.sm(i:=i)(by omega)))(HJ.op(fun gh=>PR.loadHagg rfl(hf.mono(by omega))(hf.sm(i:=i)(by omega))(by rw [bytesC_length,(hf.wf _(by omega)).mono.len];exact ag150))(HJ.op(fun gh=>PR.move rfl)(HJ.op(fun gh=>PR.build2 rfl rfl(fun w=>bt152 _ _(hf.wf i(by omega)).mono.len w))(HJ.mk(fun gh=>MK.lit1T u37 ze152 sz152(Term.wf.of(hf.wf i(by omega)).mono(by omega))rfl)(HJ.close 11 3 foll0(by kernel_rfl)rfl rfl fun gh=>(J.conv(us':=(44,_):: (45,_):: (46,_):: (47,_):: (48,_):: (49,_):: (50,_):: (51,_):: (52,_):: (53,_):: (54,_):: _)(L':=_::_)rfl rfl(J.appendOT u37 ze152 sz152 by152 rfl rfl(by simp only [List.length_cons,List.length_nil];omega).z(.s .z)(fun _ _=>(.s .z))rfl fun qo55 co55=>?_))))))))))))));refine J.p(PR.fldA u39 rfl sz37 rfl)rfl(J.store rfl rfl rfl rfl sz37(by simp [*])(.s .z)(J.nil(EJ.still(JS.nil(EJ.thenN(hK56(CJ.seq fun _ hK59 _=>(CJ.region(J.p(PR.move rfl)rfl(J.p(PR.add rfl rfl(by first | exact nw _(by omega)| rfl))rfl(J.p(PR.assign rfl)rfl(J.nil(EJ.thenN(hK59(CJ.region(J.p(PR.move rfl)rfl ?_))))))))))))))));refine J.p(PR.add rfl rfl(by first | exact nw _(by omega)| rfl))rfl(J.p(PR.assign rfl)rfl(J.nil(EJ.inN(EJ.inN(EJ.thenN(EJ.drop .z ?_))))));exact hAg0(qo55,co55,O++[⟨(tm f i).mono,fld((tm f i).fac+fld(k * (tm g j).fac))⟩],i+1,j+1)(by exfalso;omega)(by show f.length+g.length - _<f.length+g.length - (i+j);omega)102 rfl rfl⟨rfl,⟨rfl,trivial⟩⟩rfl rfl
       ·
        refine CJ.skip(EJ.thenN(hK56(CJ.seq fun _ hK60 _=>(CJ.region(J.p(PR.move rfl)rfl(J.p(PR.add rfl rfl(by first | exact nw _(by omega)| rfl))rfl(J.p(PR.assign rfl)rfl(J.nil(EJ.thenN(hK60(CJ.region(J.p(PR.move rfl)rfl(J.p(PR.add rfl rfl(by first | exact nw _(by omega)| rfl))rfl(J.p(PR.assign rfl)rfl(J.nil(EJ.inN ?_))))))))))))))));refine EJ.inN(EJ.thenN ?_);exact hAg0(q,c,O,i+1,j+1)(by exfalso;omega)(by show f.length+g.length - _<f.length+g.length - (i+j);omega)89 rfl rfl⟨rfl,⟨rfl,trivial⟩⟩rfl rfl
  ·
   refine CJ.exit(EJ.thenE(EJ.thenE(EJ.inE(EJ.thenN(hK4(CJ.seq fun _ hK61 _=>(CJ.region(J.p(PR.loadAll rfl At.z(by simpa [*] using ag39))rfl(J.storeAll rfl rfl(by first | exact bytesC_one _ | exact intsC_one _ | exact Term.c_one _ | simp [Value.oneCell'])(by simpa [*] using sz39)(by simp [*])(.s(.s .z))(J.nil(EJ.thenN(hK61(CJ.ret(EJ.ret1 rfl(Res.agg rfl(.s(.s .z))(by simpa [*] using ag39))fun w hH=>?_))))))))))))));replace hH:=hH.sublist(.cons _(.cons_cons _(.cons _(.cons _(.cons _(List.Sublist.refl _))))))
   obtain rfl:i=f.length:=by omega
   obtain rfl:j=g.length:=by omega
   unfold MgAt at hO;rw [List.drop_length,List.drop_length,mrg_nn,List.append_nil] at hO;have e9:=hO.trans(mrg_acc hsf hsg);subst e9;exact⟨_,_,rfl,hH⟩
end Go.Proofs.YthenedanhcnccaaGreat.G
namespace Go.Proofs.YthenedanhcnccaaGreat.G
open Go Go.RowKit
theorem fn130:Fn Tryz.prog 130:=⟨_,Tryz.func130,by kernel_rfl,rfl⟩
theorem fn131:Fn Tryz.prog 131:=⟨_,Tryz.func131,by kernel_rfl,rfl⟩
theorem bd39_0 : ∀(q0:Option Addr)(m0 c0:Nat)w,(Instr.build 39 #[(0,.slice q0 m0 c0)]).run Tryz.prog w=.ok(.agg [.slice q0 m0 c0].toArray)w:=fun q0 m0 c0 _=>by kernel_rfl
theorem addS_len(s:Sm)(p:Pw)(k:Int): (addS s p k).length≤s.length+1:=by
 induction s with
 | nil=>simp only [addS];split <;> simp
 | cons x s ih=>
  simp only [addS]
  split
  ·split
   ·simp;omega
   ·simp
  ·split
   ·split <;> simp
   ·simp only [List.length_cons];omega
theorem acc_len(l:Sm): ∀s:Sm,(acc s l).length≤s.length+l.length:=by
 induction l with
 | nil=>intro s;simp [acc]
 | cons x l ih=>
  intro s;rw [acc_cons];have h1:=ih(addS s x.1 x.2);have h2:=addS_len s x.1 x.2;simp only [List.length_cons]
  omega
theorem mul1_len(ds:Pw)(x:Pw × Int)(t:Sm): (mul1 ds x t).length≤t.length:=by
 rw [mul1_raw,List.length_map];exact raw1_len ds x t
theorem mulL_len(ds:Pw)(t:Sm): ∀s:Sm,(mulL ds s t).length≤s.length * t.length
 | []=>by simp [mulL]
 | x::s=>by
  have h1:=mulL_len ds t s
  have h2:=mul1_len ds x t
  unfold mulL at h1 ⊢
  rw [List.flatMap_cons,List.length_append,List.length_cons,Nat.succ_mul]
  omega
theorem gmulL {ds:Pw}{s t:Sm}{M N:Int}(hs:Gok M s)(ht:Gok N t): ∀z∈mulL ds s t,Pok(M+N)z.1:=fun z hz=>by
 obtain⟨x,hx,y,hy,_,e⟩:= mulL_mem hz
 rw [e]
 exact(hs.key x hx).add(ht.key y hy)
theorem mulL_one(ds:Pw){ts:List Term}{k:Nat}(hk:k<ts.length)(t:Sm): mulL ds(toS(ts.take(k+1)))t=mulL ds(toS(ts.take k))t++mul1 ds((tm ts k).mono,(tm ts k).fac)t:=by
 rw [toS_take hk];unfold mulL;rw [List.flatMap_append]
 simp
theorem acc_mulL {ds:Pw}{ts:List Term}{k:Nat}(hk:k<ts.length)(t:Sm): acc(acc [] (mulL ds(toS(ts.take k))t))(scl(shf ds((tm ts k).mono,(tm ts k).fac)t)1)= acc [] (mulL ds(toS(ts.take(k+1)))t):= by
 rw [acc_shf,mulL_one ds hk,acc_app]
theorem mulL_kex {ds:Pw}{s t:Sm}{M N:Int}(hs:Gok M s)(ht:Gok N t)(h1:KEx ds s)(h2:KEx ds t): KEx ds(mulL ds s t):= fun z hz=>by
 obtain⟨x,hx,h⟩:= List.mem_flatMap.1 hz
 exact mul1_kex(hs.key x hx)ht(h1 x hx)h2 z h
theorem KEx.nil {ds:Pw}: KEx ds []:=fun x hx=>by simp at hx
theorem times_kex {ds:Pw}{s t:Sm}{M N:Int}(hs:Gok M s)(ht:Gok N t)(h1:KEx ds s)(h2:KEx ds t): KEx ds(timesS ds s t):= acc_kex KEx.nil(mulL_kex hs ht h1 h2)
theorem gtimes {ds:Pw}{s t:Sm}{M N:Int}(hs:Gok M s)(ht:Gok N t): Sok(M+N)(timesS ds s t):= Sok.nil.acc(gmulL hs ht)
theorem times_lens {ds:Pw}{x:Pw × Int}{f g:List Term}{k:Nat}(hk:k<f.length)(hl:f.length * g.length≤1000000000): (ofS(acc [] (mulL ds(toS(f.take k))(toS g)))).length+(ofS(shf ds x(toS g))).length≤1000000000:=by
 have h1:=acc_len(mulL ds(toS(f.take k))(toS g)) [];have h2:=mulL_len ds(toS g)(toS(f.take k));have h3:=shf_len ds x(toS g);have h4:(k+1)* g.length≤f.length * g.length:=Nat.mul_le_mul_right _ hk;rw [toS_len,toS_len,List.length_take_of_le(by omega)] at h2;rw [toS_len] at h3;rw [ofS_len,ofS_len];rw [Nat.succ_mul] at h4;simp only [List.length_nil] at h1
 omega
theorem times_len(ds:Pw)(s t:Sm): (timesS ds s t).length≤s.length * t.length:=by
 have h1:=acc_len(mulL ds s t) [];have h2:=mulL_len ds t s;unfold timesS;simp only [List.length_nil] at h1
 omega
set_option maxRecDepth 10000 in
theorem l01Single_c {B:World}{H0 H:HP}{L:List SA}{w:World}{m:List Int}{x:Int}(hm:Mono m)(hx : -1000000000000≤x∧x≤1000000000000)(hH:Hp B H0 H L w): Calls Tryz.prog 159 [.agg(bytesC m).toArray,.int .i64 x].toArray w fun e w'=>∃q c,e=.returned(.agg [.slice q(ofS(addS [] m x)).length c].toArray)∧Hp B H0 H(own 152 9 q(ofS(addS [] m x)).length c(tsC(ofS(addS [] m x))):: L)w':=by
 refine CJ.enter Tryz.func159 rfl 15 rfl rfl [(0,.agg(bytesC m).toArray),(1,.int .i64 x)] rfl hH ?_;have hml:=hm.len;clear hH;have fb:=fld_bd x;refine CJ.seq fun _ hK1 _=>(CJ.region(J.box rfl rfl rfl fun g2=>(J.alloc ze39 rfl fun g4=>(J.nil(EJ.thenN(hK1(CJ.seq fun _ hK2 _=>(CJ.seq fun _ hK3 _=>(CJ.region(J.p(PR.move rfl)rfl(J.call fn160 rfl rfl fun w hH=>(l01Mod_c(by omega)hH).mono ?_)))))))))));rintro _ w⟨rfl,hH⟩;refine⟨_,rfl,fun a hF=>J.of hF hH ?_⟩;refine J.p(PR.eql rfl rfl)rfl(J.nil(EJ.thenN(hK3(CJ.condD rfl(fun h7=>?_)(fun h7=>?_)))))
 ·
  refine CJ.seq fun _ hK4 _=>(CJ.region(J.own0 152 9 (J.p(PR.buildZ bz39)rfl(J.storeAll rfl rfl(by first | exact bytesC_one _ | exact intsC_one _ | exact Term.c_one _ | simp [Value.oneCell'])(by simpa [*] using sz39)(by simp [*])(.s .z)(J.nil(EJ.thenN(hK4(CJ.ret(EJ.thenR(EJ.ret1 rfl(Res.agg rfl(.s .z)(by simpa [*] using ag39))fun w hH=>?_))))))))));replace hH:=hH.sublist(.cons_cons _(.cons _(.cons _(List.Sublist.refl _))))
  have e9:ofS(addS [] m x)= []:=by simp only [addS];rw [if_pos h7];rfl
  rw [e9];exact⟨_,_,rfl,hH⟩
 ·
  refine CJ.skip(EJ.thenN(hK2(CJ.seq fun _ hK5 _=>(CJ.head [[], [], [1]] (by kernel_rfl)(HJ.op(fun gh=>PR.loadAll rfl(.s .z)(by simpa [*] using ag150))(HJ.op(fun gh=>PR.move rfl)(HJ.call fn160(fun gh=>rfl)(fun w X hH=>l01Mod_c(by omega)hH)(HJ.close 3 4 foll0(by kernel_rfl)rfl rfl fun gh=>(J.conv(us':=(9,_):: (10,_):: (11,_):: _)(L':=_)rfl rfl(J.p(PR.build2 rfl rfl(fun w=>bt152 _ _ hm.len w))rfl(J.mk(MK.lit1T u37 ze152 sz152(Term.wf.of hm(by omega))rfl)rfl fun qo13 co13=>(J.p(PR.build1 rfl(fun w=>bd39_0 _ _ _ w))rfl(J.storeAll rfl rfl(by first | exact bytesC_one _ | exact intsC_one _ | exact Term.c_one _ | simp [Value.oneCell'])(by simpa [*] using sz39)(by simp [*])(.s .z)(J.nil(EJ.still ?_)))))))))))))));refine JS.nil(EJ.thenN(hK5(CJ.ret(EJ.ret1 rfl(Res.agg rfl(.s .z)(by simpa [*] using ag39))fun w hH=>?_))));replace hH:=hH.sublist(.cons_cons _(.cons _(.cons _(List.Sublist.refl _))))
  have e9:ofS(addS [] m x)= [⟨m,fld x⟩]:=by simp only [addS];rw [if_neg h7];rfl
  rw [e9];exact⟨_,_,rfl,hH⟩
set_option maxHeartbeats 8000000 in
set_option maxRecDepth 10000 in theorem l01Times_c {B:World}{H0 H:HP}{L:List SA}{w:World}{qds:Option Addr}{cds:Nat}{ds:List Int}{qf:Option Addr}{cf:Nat}{f:List Term}{qg:Option Addr}{cg:Nat}{g:List Term}{M N:Int}(hds:Ints H qds ds)(hf:Terms H qf f)(hg:Terms H qg g)(hn:ds.length≤8)(hd : ∀j,0≤ds.getD j 0∧ds.getD j 0≤12)(h1:KEx ds(toS f))(h2:KEx ds(toS g))(hp:Gok M(toS f))(hq:Gok N(toS g))(hM:M+N≤255)(hl:f.length * g.length≤1000000000)(hlf:f.length≤1000000000)(hH:Hp B H0 H L w): Calls Tryz.prog 77 [.slice qds ds.length cds,.agg [.slice qf f.length cf].toArray,.agg [.slice qg g.length cg].toArray].toArray w fun e w'=>∃q c,e=.returned(.agg [.slice q(ofS(timesS ds(toS f)(toS g))).length c].toArray)∧Hp B H0 H(own 152 9 q(ofS(timesS ds(toS f)(toS g))).length c(tsC(ofS(timesS ds(toS f)(toS g)))):: L)w':=by
 refine CJ.enter Tryz.func77 rfl 28 rfl rfl [(0,.slice qds ds.length cds),(1,.agg [.slice qf f.length cf].toArray),(2,.agg [.slice qg g.length cg].toArray)] rfl hH ?_;clear hH;have hw9 : ∀k,Wfs(ofS(acc [] (mulL ds(toS(f.take k))(toS g)))):= fun k=>(Sok.nil.acc(gmulL(hp.take k)hq)).wf hM;refine CJ.seq fun _ hK1 _=>(CJ.region(J.box rfl rfl rfl fun g4=>(J.box rfl rfl rfl fun g5=>(J.alloc ze39 rfl fun g6=>(J.nil(EJ.thenN(hK1(CJ.seq fun _ hK2 _=>(CJ.region(J.own0 152 9 (J.p(PR.buildZ bz39)rfl(J.alloc ze39 rfl fun g7=>(J.storeAll rfl rfl(by first | exact bytesC_one _ | exact intsC_one _ | exact Term.c_one _ | simp [Value.oneCell'])(by simpa [*] using sz39)(by simp [*])At.z(J.nil(EJ.thenN(hK2 ?_))))))))))))))));refine CJ.seq fun _ hK3 _=>(CJ.seq fun _ hK4 _=>(CJ.region(J.p(PR.assign rfl)rfl(J.nil(EJ.thenN(hK4(CJ.block(CJ.loopU(σ:=Option Addr × Nat × Nat)(fun⟨q,c,k⟩=> [(8,.int .i64(k:Int))])(fun⟨q,c,k⟩=> H)(fun⟨q,c,k⟩=> obj g7(.cells [.slice q(ofS(acc [] (mulL ds(toS(f.take k))(toS g)))).length c].toArray 39 (0,0)):: own 152 9 q(ofS(acc [] (mulL ds(toS(f.take k))(toS g)))).length c(tsC(ofS(acc [] (mulL ds(toS(f.take k))(toS g))))):: obj g6(.cells [.slice none 0 0].toArray 39 (0,0)):: obj g5(.cells [.slice qg g.length cg].toArray 39 (0,0)):: obj g4(.cells [.slice qf f.length cf].toArray 39 (0,0)):: L)(fun⟨q,c,k⟩=> k≤f.length)(fun⟨q,c,k⟩=> f.length - k)(none,0,0)(by show 0≤f.length;omega)⟨rfl,trivial⟩rfl rfl ?_))))))));rintro⟨q,c,k⟩hI _ hAg0;have hk:=hI;have wfO:=hw9 k;refine CJ.seq fun _ hK5 _=>(CJ.seq fun _ hK6 _=>(CJ.region(J.p(PR.move rfl)rfl(J.p(PR.fldA u39 rfl sz37 rfl)rfl(J.p(PR.load rfl(.s(.s(.s(.s .z))))rfl pl37)rfl(J.p(PR.lenSlice u37 rfl rfl)rfl(J.p(PR.lss rfl rfl)rfl(J.nil(EJ.thenN(hK6(CJ.condD rfl(fun hc14=>?_)(fun hc14=>?_))))))))))))
 ·
  refine CJ.skip(EJ.thenN(hK5(CJ.seq fun _ hK7 _=>(CJ.block(CJ.head [[], [], [], [2], [], [3,4], [5], [], [1,6,7]] (by kernel_rfl)(HJ.op(fun gh=>PR.loadAll rfl At.z(by simpa [*] using ag39))(HJ.op(fun gh=>PR.move rfl)(HJ.op(fun gh=>PR.fldA u39 rfl sz37 rfl)(HJ.op(fun gh=>PR.load rfl(.s(.s(.s(.s .z))))rfl pl37)(HJ.op(fun gh=>PR.move rfl)(HJ.op(fun gh=>PR.idx u37 sz152 rfl rfl rfl(by omega)hf.sm)(HJ.op(fun gh=>PR.loadHagg rfl(hf.cell _(by omega))(hf.sm(i:=k)(by omega))(by rw [Term.c_length(hf.wf _(by omega))];exact ag152))(HJ.op(fun gh=>PR.loadAll rfl(.s(.s(.s .z)))(by simpa [*] using ag39))(HJ.callN fn131(fun gh=>rfl)(fun w X hH=>l01Shift_c hds(hf.wf k(by omega))hg hn hd(h1 _(toS_at(by omega)))h2(hp.key _(toS_at(by omega)))hq hM(hp.val _(toS_at(by omega)))(Nat.le_trans(Nat.le_mul_of_pos_left _(by omega))hl)hH)(HJ.close 9 2 foll0(by kernel_rfl)rfl rfl fun gh=>?_)))))))))))))));refine J.conv(us':=(17,_):: (18,_):: (19,_):: (20,_):: (21,_):: (22,_):: (23,_):: (24,_):: (25,_):: _)(L':=_::_)rfl rfl(J.call fn130 rfl rfl fun w hH=>hH.lend(.s(.s .z))fun Hl1 hle1 hA1 hB1 hH=>hH.lend .z fun Hl2 hle2 hA2 hB2 hH=>(l01Add_c((own_terms wfO hA1).le hle2)(own_terms(Gok.wf(shf_g(hp.key _(toS_at(by omega)))hq)hM)hA2)(by rw [toS_ofS];exact Sok.nil.acc(gmulL(hp.take k)hq))(by rw [toS_ofS];exact shf_g(hp.key _(toS_at(by omega)))hq)hM(by omega)(times_lens(by omega)hl)hH).mono ?_);rintro _ w⟨qo26,co26,rfl,hH⟩;replace hH:=hB2 _ _ hH;replace hH:=hB1 _ _ hH;refine⟨_,rfl,fun a hF=>J.of hF hH ?_⟩;refine J.storeAll rfl rfl(by first | exact bytesC_one _ | exact intsC_one _ | exact Term.c_one _ | simp [Value.oneCell'])(by simpa [*] using sz39)(by simp [*])(.s(.s(.s .z)))(J.nil(EJ.still(JS.nil(EJ.inN(EJ.thenN(hK7(CJ.region(J.p(PR.move rfl)rfl(J.p(PR.add rfl rfl(by first | exact nw _(by omega)| rfl))rfl(J.p(PR.assign rfl)rfl(J.nil(EJ.thenN(EJ.drop .z(EJ.drop .z(EJ.front(.s(.s(.s(.s .z))))?_)))))))))))))));refine EJ.front(.s(.s(.s(.s .z))))(EJ.front(.s(.s(.s(.s .z))))(EJ.front(.s(.s(.s .z)))(EJ.front(.s(.s(.s(.s .z))))?_)));exact hAg0(qo26,co26,k+1)(by show k+1≤f.length;omega)(by show f.length - (k+1)< f.length - k;omega)19 rfl rfl⟨rfl,trivial⟩rfl(by simp only [toS_ofS];rw [acc_mulL(by omega)])
 ·
  refine CJ.exit(EJ.thenE(EJ.thenE(EJ.inE(EJ.thenN(hK3(CJ.seq fun _ hK8 _=>(CJ.region(J.p(PR.loadAll rfl At.z(by simpa [*] using ag39))rfl(J.storeAll rfl rfl(by first | exact bytesC_one _ | exact intsC_one _ | exact Term.c_one _ | simp [Value.oneCell'])(by simpa [*] using sz39)(by simp [*])(.s(.s .z))(J.nil(EJ.thenN(hK8(CJ.ret(EJ.ret1 rfl(Res.agg rfl(.s(.s .z))(by simpa [*] using ag39))fun w hH=>?_))))))))))))));replace hH:=hH.sublist(.cons _(.cons_cons _(.cons _(.cons _(.cons _(List.Sublist.refl _))))))
  obtain rfl:k=f.length:=by omega
  rw [List.take_length] at hH ⊢;exact⟨_,_,rfl,hH⟩
end Go.Proofs.YthenedanhcnccaaGreat.G
namespace Go.Proofs.YthenedanhcnccaaGreat.G
open Go Go.RowKit
theorem fn159:Fn Tryz.prog 159:=⟨_,Tryz.func159,by kernel_rfl,rfl⟩
theorem fn77:Fn Tryz.prog 77:=⟨_,Tryz.func77,by kernel_rfl,rfl⟩
def frK(p:Pw)(k j:Nat): Pw:=(List.range 8).map fun t=>if t<j∧k≤t then 0 else p.getD t 0
def bkK(p:Pw)(k j:Nat): Pw:=(List.range 8).map fun t=>if t<j∧t≤k then 0 else p.getD t 0
@[simp] theorem frK_len(p:Pw)(k j:Nat): (frK p k j).length=8:=by simp [frK]
@[simp] theorem bkK_len(p:Pw)(k j:Nat): (bkK p k j).length=8:=by simp [bkK]
theorem frK_get {p:Pw}{k j t:Nat}(h:t<8): (frK p k j).getD t 0=if t<j∧k≤t then 0 else p.getD t 0:=by simp [frK,List.getD_eq_getElem?_getD,h]
theorem bkK_get {p:Pw}{k j t:Nat}(h:t<8): (bkK p k j).getD t 0=if t<j∧t≤k then 0 else p.getD t 0:=by simp [bkK,List.getD_eq_getElem?_getD,h]
theorem frK_zero {p:Pw}(hp:p.length=8)(k:Nat): frK p k 0=p:=list8(by simp)hp fun t ht=>by rw [frK_get ht,if_neg(by omega)]
theorem bkK_zero {p:Pw}(hp:p.length=8)(k:Nat): bkK p k 0=p:=list8(by simp)hp fun t ht=>by rw [bkK_get ht,if_neg(by omega)]
theorem frK_end(p:Pw)(k:Nat): frK p k 8=aheadP p k:=list8(by simp)(by simp)fun t ht=>by
 rw [frK_get ht,aheadP_get ht]
 by_cases h:t<k
 ·rw [if_neg(by omega),if_pos h]
 ·rw [if_pos(by omega),if_neg h]
theorem bkK_end(p:Pw)(k:Nat): bkK p k 8=behP p(k+1):= list8(by simp)(by simp)fun t ht=>by
 rw [bkK_get ht,behP_get ht]
 by_cases h:t<k+1
 ·rw [if_pos(by omega),if_pos h]
 ·rw [if_neg(by omega),if_neg h]
theorem frK_yes {p:Pw}{k j:Nat}(hj:j<8)(h:k≤j): (frK p k j).set j 0=frK p k(j+1):= list8(by simp)(by simp)fun t ht=>by
 rw [getD_set8,frK_get ht,frK_get ht]
 by_cases e:j=t
 ·subst e
  rw [if_pos⟨rfl,by simpa using hj⟩,if_pos(by omega)]
 ·rw [if_neg fun h=>e h.1]
  by_cases h2:t<j∧k≤t
  ·rw [if_pos h2,if_pos(by omega)]
  ·rw [if_neg h2,if_neg(by omega)]
theorem frK_no {p:Pw}{k j:Nat}(h : ¬k≤j): frK p k j=frK p k(j+1):= list8(by simp)(by simp)fun t ht=>by
 rw [frK_get ht,frK_get ht,if_neg(by omega),if_neg(by omega)]
theorem bkK_yes {p:Pw}{k j:Nat}(hj:j<8)(h:j≤k): (bkK p k j).set j 0=bkK p k(j+1):= list8(by simp)(by simp)fun t ht=>by
 rw [getD_set8,bkK_get ht,bkK_get ht]
 by_cases e:j=t
 ·subst e
  rw [if_pos⟨rfl,by simpa using hj⟩,if_pos(by omega)]
 ·rw [if_neg fun h=>e h.1]
  by_cases h2:t<j∧t≤k
  ·rw [if_pos h2,if_pos(by omega)]
  ·rw [if_neg h2,if_neg(by omega)]
theorem bkK_no {p:Pw}{k j:Nat}(h : ¬j≤k): bkK p k j=bkK p k(j+1):= list8(by simp)(by simp)fun t ht=>by
 rw [bkK_get ht,bkK_get ht]
 by_cases h2:t<j∧t≤k
 ·rw [if_pos h2,if_pos(by omega)]
 ·rw [if_neg h2,if_neg(by omega)]
theorem aheadP_pok {M:Int}{p:Pw}(h:Pok M p)(k:Nat): Pok M(aheadP p k):= ⟨by simp,fun j=>by
 have:=h.bd j
 rcases Nat.lt_or_ge j 8 with hj | hj
 ·rw [aheadP_get hj]
  split <;> omega
 ·rw [getD_ge(by simp;omega)]
  omega⟩
theorem Pok.mn {M:Int}{p:Pw}(h:Pok M p)(hM:M≤255): Mono p:=⟨h.len,(h.mono hM).bd⟩
theorem wsum_ahead {ds p:Pw}{k:Nat}: ∀{n:Nat},n≤8→wsum ds(aheadP p k)n=wsum ds p(min n k)
 | 0,_=>by simp [wsum]
 | n+1,h=>by
  simp only [wsum]
  rw [wsum_ahead(by omega),aheadP_get(by omega)]
  by_cases hk:n<k
  ·rw [if_pos hk,Nat.min_eq_left(by omega),Nat.min_eq_left(by omega)]
   rfl
  ·rw [if_neg hk,Nat.min_eq_right(by omega),Nat.min_eq_right(by omega),Int.mul_zero,Int.add_zero]
theorem dsg_wsum {ds p:Pw}(hd : ∀j,0≤ds.getD j 0∧ds.getD j 0≤12)(hp : ∀j,0≤p.getD j 0): ∀{k:Nat},k≤ds.length→dsg ds p k=if wsum ds p k % 2=1 then -1 else 1 | 0,_=>by simp [dsg,wsum] | k+1,h=>by have ih:=dsg_wsum hd hp(k:=k)(by omega)have e1:=Int.tmod_eq_emod_of_nonneg(b:=2)(hd k).1 have e2:=Int.tmod_eq_emod_of_nonneg(b:=2)(hp k)have em:=Int.mul_emod(ds.getD k 0)(p.getD k 0)2 have e:wsum ds p(k+1)= wsum ds p k+ds.getD k 0 * p.getD k 0:=rfl by_cases hc:(ds.getD k 0).tmod 2=1∧(p.getD k 0).tmod 2=1 · rw [show ds.getD k 0 % 2=1 by omega,show p.getD k 0 % 2=1 by omega] at em rw [← dsg_yes(by omega)hc.1 hc.2,ih] by_cases c:wsum ds p k % 2=1 · rw [if_pos c,if_neg(by omega)];rfl · rw [if_neg c,if_pos(by omega)];rfl · have em2:(ds.getD k 0 * p.getD k 0)% 2=0:=by
 rcases(show ds.getD k 0 % 2=0∨ds.getD k 0 % 2=1 by omega)with a | a <;> rcases(show p.getD k 0 % 2=0∨p.getD k 0 % 2=1 by omega)with b | b <;> rw [a,b] at em <;> omega
 rw [← dsg_no(fun h=>hc h.2),ih]
 by_cases c:wsum ds p k % 2=1
 ·rw [if_pos c,if_pos(by omega)]
 ·rw [if_neg c,if_neg(by omega)]
theorem wsum_nn {ds p:Pw}(hd : ∀j,0≤ds.getD j 0∧ds.getD j 0≤12)(hp : ∀j,0≤p.getD j 0): ∀k,0≤wsum ds p k
 | 0=>by simp [wsum]
 | k+1=>by
  have h1:=wsum_nn hd hp k
  have h2:=Int.mul_nonneg(hd k).1 (hp k)
  simp only [wsum]
  omega
theorem sg_neg {ds p:Pw}{k:Nat}(hn:ds.length≤8)(hd : ∀j,0≤ds.getD j 0∧ds.getD j 0≤12)(hp : ∀j,0≤p.getD j 0)(hk:k<ds.length)(h:(wsum ds(aheadP p k)ds.length).tmod 2≠0): dsg ds p k = -1:=by
 rw [wsum_ahead hn,Nat.min_eq_right(by omega)] at h;rw [dsg_wsum hd hp(by omega),if_pos];have:=Int.tmod_eq_emod_of_nonneg(b:=2)(show 0≤wsum ds p k from wsum_nn hd hp k)
 omega
theorem sg_pos {ds p:Pw}{k:Nat}(hn:ds.length≤8)(hd : ∀j,0≤ds.getD j 0∧ds.getD j 0≤12)(hp : ∀j,0≤p.getD j 0)(hk:k<ds.length)(h : ¬(wsum ds(aheadP p k)ds.length).tmod 2≠0): dsg ds p k=1:=by
 rw [wsum_ahead hn,Nat.min_eq_right(by omega)] at h;rw [dsg_wsum hd hp(by omega),if_neg];have:=Int.tmod_eq_emod_of_nonneg(b:=2)(show 0≤wsum ds p k from wsum_nn hd hp k)
 omega
theorem addS_one(p:Pw): addS [] p 1=[(p,1)]:=by
 simp only [addS];rw [fld_id(by omega),if_neg(by omega)]
theorem one_wf {p:Pw}(h:Mono p): Wfs(ofS(addS [] p 1)):= by
 rw [addS_one]
 exact fun t ht=>by
  simp [ofS] at ht
  subst ht;exact⟨⟨h.len,h.bd⟩,by show -9223372036854775808≤(1:Int)∧(1:Int)≤9223372036854775807;omega⟩
theorem one_g {M:Int}{p:Pw}(h:Pok M p): Gok M(toS(ofS(addS [] p 1))):= by
 rw [toS_ofS,addS_one];exact(Sok.one h(by omega)).g
theorem one_kex {ds p:Pw}(h:Ex ds p): KEx ds(toS(ofS(addS [] p 1))):= by
 rw [toS_ofS,addS_one];intro x hx
 simp at hx
 rw [hx];exact h
theorem one_len(p:Pw): (ofS(addS [] p 1)).length=1:=by rw [addS_one];rfl
theorem Ex.le {ds p q:Pw}(h:Ex ds p)(hq : ∀j,0≤q.getD j 0∧q.getD j 0≤p.getD j 0): Ex ds q:=
 ⟨fun i hi=>by have:=h.out i hi;have:=hq i;omega,fun i hi ho=>by have:=h.odd i hi ho;have:=hq i;omega⟩
theorem leftP_ex {ds p:Pw}{M:Int}(hp:Pok M p)(h:Ex ds p){k:Nat}(hk:0<p.getD k 0): Ex ds(leftP p k):= h.le fun j=>by
 have b:=hp.bd j
 have c:=hp.bd k
 unfold leftP
 rw [getD_set8]
 split
 ·rename_i e
  rw [← e.1]
  omega
 ·rcases Nat.lt_or_ge j 8 with hj | hj
  ·rw [aheadP_get hj]
   split <;> omega
  ·rw [getD_ge(by simp;omega)]
   omega
theorem behP_ex {ds p:Pw}{M:Int}(hp:Pok M p)(h:Ex ds p)(k:Nat): Ex ds(behP p k):= h.le fun j=>by
 have b:=hp.bd j
 rcases Nat.lt_or_ge j 8 with hj | hj
 ·rw [behP_get hj]
  split <;> omega
 ·rw [getD_ge(by simp;omega)]
  omega
theorem dT_len(ds:Pw)(im:Sm)(p:Pw)(k:Nat): (dT ds im p k).length≤im.length:=by
 unfold dT;have h1:=times_len ds(timesS ds [(leftP p k,1)] im) [(behP p(k+1),1)];have h2:=times_len ds [(leftP p k,1)] im;simp only [List.length_singleton] at h1 h2
 omega
theorem dP_len {ds:Pw}{fs:List(List Term)}{x:Pw × Int}{k:Nat}(hL : ∀i,i<fs.length→(fm fs i).length≤10000)(hk:0<x.1.getD k 0→k<fs.length): (dP ds fs x k).length≤10000:=by
 unfold dP
 split
 ·rename_i h
  have h1:=dT_len ds(toS(fm fs k))x.1 k;have h2:=hL k(hk h);rw [toS_len] at h1;unfold scl;rw [List.length_map]
  omega
 ·simp
theorem dLk_len {ds:Pw}{fs:List(List Term)}{x:Pw × Int}(hL : ∀i,i<fs.length→(fm fs i).length≤10000)(ho : ∀k,0<x.1.getD k 0→k<fs.length): ∀k,(dLk ds fs x k).length≤k * 10000
 | 0=>by simp [dLk]
 | k+1=>by
  have h1:=dLk_len(ds:=ds)hL ho k
  have h2:=dP_len(ds:=ds)hL(ho k)
  rw [dLk_succ,List.length_append]
  omega
theorem dAll_len {ds:Pw}{fs:List(List Term)}(hL : ∀i,i<fs.length→(fm fs i).length≤10000): ∀{s:Sm},Occ fs.length s→(dAll ds fs s).length≤s.length * 80000
 | [],_=>by simp [dAll]
 | x::s,ho=>by
  have h1:=dAll_len(ds:=ds)hL(s:=s)fun y hy=>ho y(by simp [hy])
  have h2:=dLk_len(ds:=ds)hL(ho x(by simp))8
  unfold dAll at h1 ⊢
  rw [List.flatMap_cons,List.length_append,List.length_cons]
  omega
theorem dAll_take {ds:Pw}{fs:List(List Term)}{f:List Term}{i:Nat}(hi:i<f.length): dAll ds fs(toS(f.take(i+1)))= dAll ds fs(toS(f.take i))++ dLk ds fs((tm f i).mono,(tm f i).fac)8:=by
 rw [toS_take hi];unfold dAll;rw [List.flatMap_append]
 simp
theorem dLk_same {ds:Pw}{fs:List(List Term)}{x:Pw × Int}{n:Nat}(h : ∀k,n≤k→x.1.getD k 0=0): ∀m,dLk ds fs x(n+m)= dLk ds fs x n
 | 0=>rfl
 | m+1=>by
  rw [← Nat.add_assoc,dLk_succ,dLk_same h m]
  unfold dP
  rw [if_neg(by rw [h _(by omega)];omega),List.append_nil]
theorem dLk_8 {ds:Pw}{fs:List(List Term)}{x:Pw × Int}(hn:ds.length≤8)(h:Ex ds x.1): dLk ds fs x ds.length=dLk ds fs x 8:=by
 rw [← dLk_same(ds:=ds)(fs:=fs)(x:=x)(n:=ds.length)h.out(8 - ds.length),Nat.add_sub_cancel' hn]
theorem Ex.occ {ds:Pw}{s:Sm}{n:Nat}(h:KEx ds s)(hl:n=ds.length): Occ n s:=fun x hx i hi=>by
 have:=(h x hx).out i
 omega
theorem toS_tk(ts:List Term)(k:Nat): toS(ts.take k)= (toS ts).take k:=by simp [toS,List.map_take]
theorem Sok.tk {M:Int}{ts:List Term}(h:Sok M(toS ts))(k:Nat): Sok M(toS(ts.take k)):= by
 rw [toS_tk];exact⟨h.srt.sublist(List.take_sublist _ _),fun x hx=>h.key x(List.mem_of_mem_take hx),fun x hx=>h.val x(List.mem_of_mem_take hx)⟩
theorem Occ.tk {n:Nat}{ts:List Term}(h:Occ n(toS ts))(k:Nat): Occ n(toS(ts.take k)):= by
 rw [toS_tk];exact fun x hx=>h x(List.mem_of_mem_take hx)
theorem d1_sok {ad:Pw}{af:List(List Term)}{f:List Term}{Mi Ms:Int}(hf:Fok Mi af)(hs:Sok Ms(toS f))(ho:Occ af.length(toS f))(i:Nat): Sok(Ms+Mi+Ms)(acc [] (dAll ad af(toS(f.take i)))):= Sok.nil.acc(dAll_pok(hs.tk i)hf(ho.tk i))
theorem d2_sok {ad:Pw}{af:List(List Term)}{f:List Term}{Mi Ms:Int}(hf:Fok Mi af)(hs:Sok Ms(toS f))(ho:Occ af.length(toS f)){i:Nat}(hi:i<f.length)(k:Nat): Sok(Ms+Mi+Ms)(acc [] (dAll ad af(toS(f.take i))++ dLk ad af((tm f i).mono,(tm f i).fac)k)):= Sok.nil.acc fun z hz=>by
 rcases List.mem_append.1 hz with h | h
 ·exact dAll_pok(hs.tk i)hf(ho.tk i)z h
 ·exact dLk_pok(hs.key _(toS_at hi))hf(ho _(toS_at hi))z h
theorem d2_len {ad:Pw}{af:List(List Term)}{f:List Term}(hL : ∀i,i<af.length→(fm af i).length≤10000)(ho:Occ af.length(toS f))(hlf:f.length≤10000){i k:Nat}(hi:i<f.length)(hk:k≤8): (acc [] (dAll ad af(toS(f.take i))++ dLk ad af((tm f i).mono,(tm f i).fac)k)).length≤900000000:=by
 have h1:=acc_len(dAll ad af(toS(f.take i))++ dLk ad af((tm f i).mono,(tm f i).fac)k) [];have h2:=dAll_len(ds:=ad)hL(ho.tk i);have h3:=dLk_len(ds:=ad)hL(ho _(toS_at hi))k;rw [toS_len,List.length_take_of_le(by omega)] at h2;rw [List.length_append,List.length_nil] at h1
 omega
theorem fac_neg {ds p:Pw}{k:Nat}{x:Int}(h:dsg ds p k = -1): fld(dsg ds p k * x * p.getD k 0)= fld(0 - x * p.getD k 0):= by rw [h];simp only [Int.neg_mul,Int.one_mul,Int.zero_sub]
theorem fac_pos {ds p:Pw}{k:Nat}{x:Int}(h:dsg ds p k=1): fld(dsg ds p k * x * p.getD k 0)= fld(x * p.getD k 0):= by rw [h,Int.one_mul]
set_option maxHeartbeats 8000000 in
set_option maxRecDepth 10000 in theorem l02D_c {B:World}{H0 H:HP}{L:List SA}{w:World}{qad qaf:Option Addr}{cad caf:Nat}{ad:List Int}{af:List(List Term)}{qf:Option Addr}{cf:Nat}{f:List Term}{Mi Ms:Int}(had:Ints H qad ad)(haf:Forms H qaf af)(hf:Terms H qf f)(hn:ad.length≤8)(hd : ∀j,0≤ad.getD j 0∧ad.getD j 0≤12)(hf9:Fok Mi af)(hl:af.length=ad.length)(hk9 : ∀i,i<af.length→KEx ad(toS(fm af i)))(hs:Sok Ms(toS f))(hfk:KEx ad(toS f))(hM:0≤Mi∧0≤Ms∧Ms+Mi+Ms≤255)(hL : ∀i,i<af.length→(fm af i).length≤10000)(hlf:f.length≤10000)(hH:Hp B H0 H L w): Calls Tryz.prog 107 [.agg [.slice qad ad.length cad,.slice qaf af.length caf].toArray,.agg [.slice qf f.length cf].toArray].toArray w fun e w'=>∃q c,e=.returned(.agg [.slice q(ofS(dS ad af(toS f))).length c].toArray)∧Hp B H0 H(own 152 9 q(ofS(dS ad af(toS f))).length c(tsC(ofS(dS ad af(toS f)))):: L)w':=by
 refine CJ.enter Tryz.func107 rfl 103 rfl rfl [(0,.agg [.slice qad ad.length cad,.slice qaf af.length caf].toArray),(1,.agg [.slice qf f.length cf].toArray)] rfl hH ?_;clear hH;have hoc:=Ex.occ hfk hl;refine CJ.seq fun _ hK1 _=>(CJ.region(J.box rfl rfl rfl fun g2=>(J.box rfl rfl rfl fun g3=>(J.alloc ze39 rfl fun g4=>(J.nil(EJ.thenN(hK1(CJ.seq fun _ hK2 _=>(CJ.region(J.own0 152 9 (J.p(PR.buildZ bz39)rfl(J.alloc ze39 rfl fun g5=>(J.storeAll rfl rfl(by first | exact bytesC_one _ | exact intsC_one _ | exact Term.c_one _ | simp [Value.oneCell'])(by simpa [*] using sz39)(by simp [*])At.z(J.nil(EJ.thenN(hK2 ?_))))))))))))))));refine CJ.seq fun _ hK3 _=>(CJ.seq fun _ hK4 _=>(CJ.region(J.p(PR.assign rfl)rfl(J.nil(EJ.thenN(hK4(CJ.block(CJ.loopU(σ:=Option Addr × Nat × Nat)(fun⟨q,c,i⟩=> [(6,.int .i64(i:Int))])(fun⟨q,c,i⟩=> H)(fun⟨q,c,i⟩=> obj g5(.cells [.slice q(ofS(acc [] (dAll ad af(toS(f.take i))))).length c].toArray 39 (0,0)):: own 152 9 q(ofS(acc [] (dAll ad af(toS(f.take i))))).length c(tsC(ofS(acc [] (dAll ad af(toS(f.take i)))))):: obj g4(.cells [.slice none 0 0].toArray 39 (0,0)):: obj g3(.cells [.slice qf f.length cf].toArray 39 (0,0)):: obj g2(.cells [.slice qad ad.length cad,.slice qaf af.length caf].toArray 35 (0,0)):: L)(fun⟨q,c,i⟩=> i≤f.length)(fun⟨q,c,i⟩=> f.length - i)(none,0,0)(by show 0≤f.length;omega)⟨rfl,trivial⟩rfl rfl ?_))))))));rintro⟨q,c,i⟩hI _ hAg0;have hi:=hI;have wfO:=(d1_sok(ad:=ad)hf9 hs hoc i).wf(by omega);refine CJ.seq fun _ hK5 _=>(CJ.seq fun _ hK6 _=>(CJ.region(J.p(PR.move rfl)rfl(J.p(PR.fldA u39 rfl sz37 rfl)rfl(J.p(PR.load rfl(.s(.s(.s .z)))rfl pl37)rfl(J.p(PR.lenSlice u37 rfl rfl)rfl(J.p(PR.lss rfl rfl)rfl(J.nil(EJ.thenN(hK6(CJ.condD rfl(fun h20=>?_)(fun h20=>?_))))))))))))
 ·
  have hxi:=toS_at(ts:=f)(k:=i)(by omega);have hxp:=hs.key _ hxi;have hxv:=hs.val _ hxi;have hxe:=hfk _ hxi;simp only at hxp hxv hxe;have hx8:=hxp.len;have hxn : ∀j,0≤(tm f i).mono.getD j 0:=fun j=>(hxp.bd j).1;refine CJ.skip(EJ.thenN(hK5(CJ.seq fun _ hK7 _=>(CJ.block(CJ.seq fun _ hK8 _=>(CJ.region(J.p(PR.fldA u39 rfl sz37 rfl)rfl(J.p(PR.load rfl(.s(.s(.s .z)))rfl pl37)rfl(J.p(PR.move rfl)rfl(J.p(PR.idx u37 sz152 rfl rfl rfl(by omega)hf.sm)rfl(J.p(PR.fldP u152 rfl sz150 rfl(hf.sm(i:=i)(by omega)))rfl(J.p(PR.loadHagg rfl(hf.mono(by omega))(hf.sm(i:=i)(by omega))(by rw [bytesC_length,(hf.wf _(by omega)).mono.len];exact ag150))rfl(J.alloc ze150 rfl fun g7=>(J.storeAll rfl rfl(by first | exact bytesC_one _ | exact intsC_one _ | exact Term.c_one _ | simp [Value.oneCell'])(by simpa [*] using sz150)(by simp [*])At.z(J.nil ?_)))))))))))))));refine EJ.thenN(hK8(CJ.seq fun _ hK9 _=>(CJ.region(J.p(PR.assign rfl)rfl(J.nil(EJ.thenN(hK9(CJ.block(CJ.loopU(σ:=Option Addr × Nat × Nat)(fun⟨q1,c1,k⟩=> [(8,.int .i64(k:Int))])(fun⟨q1,c1,k⟩=> H)(fun⟨q1,c1,k⟩=> obj g7(.cells(bytesC((tm f i).mono)).toArray 150 (0,0)):: obj g5(.cells [.slice q1(ofS(acc [] (dAll ad af(toS(f.take i))++ dLk ad af((tm f i).mono,(tm f i).fac)k))).length c1].toArray 39 (0,0)):: own 152 9 q1(ofS(acc [] (dAll ad af(toS(f.take i))++ dLk ad af((tm f i).mono,(tm f i).fac)k))).length c1(tsC(ofS(acc [] (dAll ad af(toS(f.take i))++ dLk ad af((tm f i).mono,(tm f i).fac)k)))):: obj g4(.cells [.slice none 0 0].toArray 39 (0,0)):: obj g3(.cells [.slice qf f.length cf].toArray 39 (0,0)):: obj g2(.cells [.slice qad ad.length cad,.slice qaf af.length caf].toArray 35 (0,0)):: L)(fun⟨q1,c1,k⟩=> k≤ad.length)(fun⟨q1,c1,k⟩=> ad.length - k)(q,c,0)(by show 0≤ad.length;omega)⟨rfl,trivial⟩rfl(by simp only [dLk,List.range_zero,List.flatMap_nil,List.append_nil])?_)))))))));rintro⟨q1,c1,k⟩hkI _ hAg1;have hk:=hkI;have wfO:=(d2_sok(ad:=ad)hf9 hs hoc(i:=i)(by omega)k).wf(by omega);refine CJ.seq fun _ hK10 _=>(CJ.seq fun _ hK11 _=>(CJ.region(J.p(PR.move rfl)rfl(J.p(PR.fldA u35 rfl sz22 rfl)rfl(J.p(PR.load rfl(.s(.s(.s(.s(.s .z)))))rfl pl22)rfl(J.p(PR.lenSlice u22 rfl rfl)rfl(J.p(PR.lss rfl rfl)rfl(J.nil(EJ.thenN(hK11(CJ.condD rfl(fun h33=>?_)(fun h33=>?_))))))))))))
  ·
   have hkl:k<af.length:=by omega
   have hpk:=hxp.bd k;refine CJ.skip(EJ.thenN(hK10(CJ.seq fun _ hK12 _=>(CJ.block(CJ.seq fun _ hK13 _=>(CJ.seq fun _ hK14 _=>(CJ.region(J.p(PR.move rfl)rfl(J.p(PR.idxA1 u150 sz5 rfl rfl rfl(by omega))rfl(J.p(PR.load rfl At.z(bytesC_get(by omega))pl5)rfl(J.p(PR.eql rfl rfl)rfl(J.nil(EJ.thenN(hK14(CJ.condD rfl(fun h39=>?_)(fun h39=>?_))))))))))))))))
   ·
    refine CJ.exit(EJ.thenE(EJ.inE(EJ.thenN(hK12(CJ.region(J.p(PR.move rfl)rfl(J.p(PR.add rfl rfl(by first | exact nw _(by omega)| rfl))rfl(J.p(PR.assign rfl)rfl(J.nil(EJ.thenN ?_))))))))));exact hAg1(q1,c1,k+1)(by show k+1≤ad.length;omega)(by show ad.length - (k+1)< ad.length - k;omega)13 rfl rfl⟨rfl,trivial⟩rfl(by simp only [acc_dN(ds:=ad)(fs:=af)(x:=((tm f i).mono,(tm f i).fac))(k:=k)(show ¬0<(tm f i).mono.getD k 0 by omega)])
   ·
    have hpos:0<(tm f i).mono.getD k 0:=by omega
    have hlp:=leftP_pok hxp hpos;have hfp:=aheadP_pok hxp k;have hbp:=behP_pok hxp(k+1);have hlm:=hlp.mn(by omega);have hfm:=hfp.mn(by omega);have hbm:=hbp.mn(by omega);have hle:=leftP_ex hxp hxe hpos;have hbe:=behP_ex hxp hxe(k+1);have mb:=mul_sb(b:=(tm f i).mono.getD k 0)(B:=255)(show -10006≤(tm f i).fac∧(tm f i).fac≤10006 by omega)(by omega);have gt1:=gtimes(ds:=ad)(Sok.one hlp(k:=1)(by omega)).g(hf9 k hkl).1.g;have gt2:=gtimes(ds:=ad)(gt1.g)(Sok.one hbp(k:=1)(by omega)).g;have l9:=hL k hkl;have l8:=d2_len(ad:=ad)hL hoc hlf(i:=i)(k:=k)(by omega)(by omega);refine CJ.skip(EJ.thenN(hK13(CJ.seq fun _ hK15 _=>(CJ.openR(Rs:=[_,_,_,_,_,_])6 [[], [], [], [], [0,2,3], [0,1,2,3,4]] [[6], [6], [], [], [], []] [[], [], [], [], [2], [3]] rfl rfl(by kernel_rfl)?_))));apply GJ.st0 1 rfl
    iterate 3 focus(intros;(conv=>lhs;simp only [slotsZ,zlAt,vs0,resL,at2,eq_self,Nat.reduceEqDiff,reduceIte,Nat.reduceSub,Nat.reduceAdd,List.cons_append,List.nil_append]);all_goals rfl)
    ·
     intro gh X K zq zc zq2 zc2 zb zv hK;refine J.p(PR.loadAll rfl At.z(by simpa [*] using ag150))rfl(J.nilK ?_);exact hK zq zc zq2 zc2 zb zv
    ·
     intro gh gh' h
     rfl
    apply GJ.st0 2 rfl
    iterate 3 focus(intros;(conv=>lhs;simp only [slotsZ,zlAt,vs0,resL,at2,eq_self,Nat.reduceEqDiff,reduceIte,Nat.reduceSub,Nat.reduceAdd,List.cons_append,List.nil_append]);all_goals rfl)
    ·
     intro gh X K zq zc zq2 zc2 zb zv hK;refine J.p(PR.loadAll rfl At.z(by simpa [*] using ag150))rfl(J.nilK ?_);exact hK zq zc zq2 zc2 zb zv
    ·
     intro gh gh' h
     rfl
    apply GJ.st1 3 rfl
    iterate 3 focus(intros;(conv=>lhs;simp only [slotsZ,zlAt,vs0,resL,at2,eq_self,Nat.reduceEqDiff,reduceIte,Nat.reduceSub,Nat.reduceAdd,List.cons_append,List.nil_append]);all_goals rfl)
    ·
     intro gh X K zq zc zq2 zc2 zb zv hK;refine J.alloc ze150 rfl fun g9=>(J.nilK ?_);exact hK zq zc zq2 zc2 g9 zv
    ·
     intro gh gh' h;refine⟨?_,?_⟩<;> rfl
    apply GJ.st1 4 rfl
    iterate 3 focus(intros;(conv=>lhs;simp only [slotsZ,zlAt,vs0,resL,at2,eq_self,Nat.reduceEqDiff,reduceIte,Nat.reduceSub,Nat.reduceAdd,List.cons_append,List.nil_append]);all_goals rfl)
    ·
     intro gh X K zq zc zq2 zc2 zb zv hK;refine J.alloc ze150 rfl fun g10=>(J.nilK ?_);exact hK zq zc zq2 zc2 g10 zv
    ·
     intro gh gh' h;refine⟨?_,?_⟩<;> rfl
    apply GJ.sn1 5 rfl
    iterate 3 focus(intros;(conv=>lhs;simp only [slotsZ,zlAt,vs0,resL,at2,eq_self,Nat.reduceEqDiff,reduceIte,Nat.reduceSub,Nat.reduceAdd,List.cons_append,List.nil_append]);all_goals rfl)
    ·
     intro gh X K hK;refine J.storeAll rfl rfl(by first | exact bytesC_one _ | exact intsC_one _ | exact Term.c_one _ | simp [Value.oneCell'])(by simpa [*] using sz150)(by simp [*])At.z(J.nilK ?_);exact hK
    ·
     intro gh gh' h
     first | simp only [h 2 rfl,h 3 rfl] | rfl
    apply GJ.sn1 6 rfl
    iterate 3 focus(intros;(conv=>lhs;simp only [slotsZ,zlAt,vs0,resL,at2,eq_self,Nat.reduceEqDiff,reduceIte,Nat.reduceSub,Nat.reduceAdd,List.cons_append,List.nil_append]);all_goals rfl)
    ·
     intro gh X K hK;refine J.storeAll rfl rfl(by first | exact bytesC_one _ | exact intsC_one _ | exact Term.c_one _ | simp [Value.oneCell'])(by simpa [*] using sz150)(by simp [*])At.z(J.nilK ?_);exact hK
    ·
     intro gh gh' h
     first | simp only [h 2 rfl,h 3 rfl] | rfl
    apply GJ.close [0,1,2,3,4,5] [0,1,4,5,6,7,8,9,10,11] foll0 rfl rfl rfl(by rfl)
    iterate 2 focus(intros;(conv=>lhs;simp only [slotsZ,zlAt,vs0,resL,at2,eq_self,Nat.reduceEqDiff,reduceIte,Nat.reduceSub,Nat.reduceAdd,List.cons_append,List.nil_append]);all_goals rfl)
    intro gh;generalize(gh 2).b=g9;generalize(gh 3).b=g10;clear gh;refine EJ.thenN(hK15(CJ.seq fun _ hK16 _=>(CJ.seq fun _ hK17 _=>(CJ.region(J.p(PR.assign rfl)rfl(J.nil(EJ.thenN(hK17(CJ.block(CJ.loopU(σ:=Nat)(fun(j:Nat)=> [(11,.int .i64(j:Int))])(fun(j:Nat)=> H)(fun(j:Nat)=> obj g9(.cells(bytesC(frK(tm f i).mono k j)).toArray 150 (0,0)):: obj g10(.cells(bytesC(bkK(tm f i).mono k j)).toArray 150 (0,0)):: obj g7(.cells(bytesC((tm f i).mono)).toArray 150 (0,0)):: obj g5(.cells [.slice q1(ofS(acc [] (dAll ad af(toS(f.take i))++ dLk ad af((tm f i).mono,(tm f i).fac)k))).length c1].toArray 39 (0,0)):: own 152 9 q1(ofS(acc [] (dAll ad af(toS(f.take i))++ dLk ad af((tm f i).mono,(tm f i).fac)k))).length c1(tsC(ofS(acc [] (dAll ad af(toS(f.take i))++ dLk ad af((tm f i).mono,(tm f i).fac)k)))):: obj g4(.cells [.slice none 0 0].toArray 39 (0,0)):: obj g3(.cells [.slice qf f.length cf].toArray 39 (0,0)):: obj g2(.cells [.slice qad ad.length cad,.slice qaf af.length caf].toArray 35 (0,0)):: L)(fun(j:Nat)=> j≤8)(fun(j:Nat)=> 8 - j)0 (by omega)⟨rfl,trivial⟩rfl(by rw [bkK_zero hx8,frK_zero hx8])?_))))))))));rintro j hj _ hAg2;refine CJ.seq fun _ hK18 _=>(CJ.seq fun _ hK19 _=>(CJ.region(J.p(PR.move rfl)rfl(J.p(PR.lss rfl rfl)rfl(J.nil(EJ.thenN(hK19(CJ.condD rfl(fun h43=>?_)(fun h43=>?_)))))))))
    ·
     refine CJ.skip(EJ.thenN(hK18(CJ.seq fun _ hK20 _=>(CJ.block(CJ.seq fun _ hK21 _=>(CJ.seq fun _ hK22 _=>(CJ.region(J.p(PR.move rfl)rfl(J.p(PR.move rfl)rfl(J.p(PR.geq rfl rfl)rfl(J.nil(EJ.thenN(hK22(CJ.condD rfl(fun h48=>?_)(fun h48=>?_)))))))))))))))
     ·
      refine CJ.region(J.p(PR.move rfl)rfl(J.p(PR.idxA1 u150 sz5 rfl rfl rfl(by omega))rfl(J.storeB rfl rfl sz5(by simp;omega)At.z(J.nil(EJ.thenN(hK21(CJ.seq fun _ hK23 _=>(CJ.region(J.p(PR.move rfl)rfl(J.p(PR.move rfl)rfl(J.p(PR.leq rfl rfl)rfl(J.nil(EJ.thenN(hK23(CJ.condD rfl(fun h53=>?_)(fun h53=>?_))))))))))))))))
      ·
       refine CJ.region(J.p(PR.move rfl)rfl(J.p(PR.idxA1 u150 sz5 rfl rfl rfl(by omega))rfl(J.storeB rfl rfl sz5(by simp;omega)(.s .z)(J.nil(EJ.inN(EJ.thenN(hK20(CJ.region(J.p(PR.move rfl)rfl(J.p(PR.add rfl rfl(by first | exact nw _(by omega)| rfl))rfl(J.p(PR.assign rfl)rfl(J.nil(EJ.thenN ?_)))))))))))));exact hAg2(j+1)(by omega)(by omega)16 rfl rfl⟨rfl,trivial⟩rfl(by simp only [frK_yes(p:=(tm f i).mono)(show j<8 by omega)(show k≤j by omega),bkK_yes(p:=(tm f i).mono)(show j<8 by omega)(show j≤k by omega)])
      ·
       refine CJ.skip(EJ.inN(EJ.thenN(hK20(CJ.region(J.p(PR.move rfl)rfl(J.p(PR.add rfl rfl(by first | exact nw _(by omega)| rfl))rfl(J.p(PR.assign rfl)rfl(J.nil(EJ.thenN ?_)))))))));exact hAg2(j+1)(by omega)(by omega)14 rfl rfl⟨rfl,trivial⟩rfl(by simp only [frK_yes(p:=(tm f i).mono)(show j<8 by omega)(show k≤j by omega),bkK_no(p:=(tm f i).mono)(show ¬j≤k by omega)])
     ·
      refine CJ.skip(EJ.thenN(hK21(CJ.seq fun _ hK24 _=>(CJ.region(J.p(PR.move rfl)rfl(J.p(PR.move rfl)rfl(J.p(PR.leq rfl rfl)rfl(J.nil(EJ.thenN(hK24(CJ.condD rfl(fun h53=>?_)(fun h53=>?_))))))))))))
      ·
       refine CJ.region(J.p(PR.move rfl)rfl(J.p(PR.idxA1 u150 sz5 rfl rfl rfl(by omega))rfl(J.storeB rfl rfl sz5(by simp;omega)(.s .z)(J.nil(EJ.inN(EJ.thenN(hK20(CJ.region(J.p(PR.move rfl)rfl(J.p(PR.add rfl rfl(by first | exact nw _(by omega)| rfl))rfl(J.p(PR.assign rfl)rfl(J.nil(EJ.thenN ?_)))))))))))));exact hAg2(j+1)(by omega)(by omega)14 rfl rfl⟨rfl,trivial⟩rfl(by simp only [frK_no(p:=(tm f i).mono)(show ¬k≤j by omega),bkK_yes(p:=(tm f i).mono)(show j<8 by omega)(show j≤k by omega)])
      ·
       refine CJ.skip(EJ.inN(EJ.thenN(hK20(CJ.region(J.p(PR.move rfl)rfl(J.p(PR.add rfl rfl(by first | exact nw _(by omega)| rfl))rfl(J.p(PR.assign rfl)rfl(J.nil(EJ.thenN ?_)))))))));exact hAg2(j+1)(by omega)(by omega)12 rfl rfl⟨rfl,trivial⟩rfl(by simp only [frK_no(p:=(tm f i).mono)(show ¬k≤j by omega),bkK_no(p:=(tm f i).mono)(show ¬j≤k by omega)])
    ·
     obtain rfl:j=8:=by omega
     rw [frK_end,bkK_end];refine CJ.exit(EJ.thenE(EJ.thenE(EJ.inE(EJ.thenN(hK16(CJ.seq fun _ hK25 _=>(CJ.region(J.p(PR.loadAll rfl At.z(by simpa using ag150))rfl(J.alloc ze150 rfl fun g12=>(J.storeAll rfl rfl(by first | exact bytesC_one _ | exact intsC_one _ | exact Term.c_one _ | simp [Value.oneCell'])(by simpa [*] using sz150)(by simp [*])At.z(J.nil(EJ.thenN(hK25(CJ.seq fun _ hK26 _=>(CJ.region(J.p(PR.move rfl)rfl ?_))))))))))))))));refine J.p(PR.move rfl)rfl(J.p(PR.idxA1 u150 sz5 rfl rfl rfl(by omega))rfl(J.p(PR.load rfl(.s(.s(.s .z)))(bytesC_get(by omega))pl5)rfl(J.p(PR.sub rfl rfl(u8_id(by omega)))rfl(J.p(PR.idxA1 u150 sz5 rfl rfl rfl(by omega))rfl(J.storeB rfl rfl sz5(by simp;omega)At.z(J.nil(EJ.thenN(hK26(CJ.seq fun _ hK27 _=>(CJ.regionD foll0(by kernel_rfl)(JS.op(PR.fldA u39 rfl sz37 rfl)rfl(JS.op(PR.load rfl(.s(.s(.s(.s(.s(.s(.s .z)))))))rfl pl37)rfl(JS.op(PR.move rfl)rfl(JS.op(PR.idx u37 sz152 rfl rfl rfl(by omega)hf.sm)rfl(JS.op(PR.fldP u152 rfl sz2 rfl(hf.sm(i:=i)(by omega)))rfl ?_)))))))))))))));refine JS.op(PR.loadH rfl(hf.fac(by omega))pl2)rfl(JS.op(PR.move rfl)rfl(JS.op(PR.idxA1 u150 sz5 rfl rfl rfl(by omega))rfl(JS.op(PR.load rfl(.s(.s(.s .z)))(bytesC_get(by omega))pl5)rfl(JS.op(PR.conv u5 u2 rfl(by first | exact nw _(by omega)| rfl))rfl(JS.op(PR.mul rfl rfl(by first | exact nw _(by omega)| rfl))rfl(JS.op(PR.assign rfl)rfl(JS.nil(EJ.thenN(hK27(CJ.seq fun _ hK28 _=>(CJ.seq fun _ hK29 _=>(CJ.region(J.p(PR.fldA u35 rfl sz22 rfl)rfl(J.p(PR.load rfl(.s(.s(.s(.s(.s(.s(.s(.s .z))))))))rfl pl22)rfl(J.p(PR.loadAll rfl(.s .z)(by simpa using ag150))rfl ?_)))))))))))))));refine J.call fn158 rfl rfl fun w hH=>(l01Weight_c had hfm hn hd hH).mono ?_;rintro _ w⟨rfl,hH⟩;refine⟨_,rfl,fun a hF=>J.of hF hH ?_⟩;refine J.p(PR.rem rfl rfl(by decide)rfl)rfl(J.p(PR.neq rfl rfl)rfl(J.nil(EJ.thenN(hK29(CJ.condD rfl(fun h79=>?_)(fun h79=>?_))))))
     ·
      refine CJ.region(J.p(PR.move rfl)rfl(J.p(PR.neg rfl(by first | exact nw _(by omega)| rfl))rfl(J.p(PR.assign rfl)rfl(J.nil(EJ.thenN(hK28(CJ.seq fun _ hK30 _=>(CJ.openR(Rs:=[_,_,_,_,_,_,_,_,_])12 [[], [0], [], [2], [], [4], [], [4,5,6], [4,5,6,7], [0,1,2,3,4,5,6,7,8], [], [0,1,2,3,4,5,6,7,8,9,10]] [[], [20], [12], [], [], [20], [], [], [], [3], [], []] [[], [], [], [], [], [], [], [], [], [], [], [10]] rfl rfl(by kernel_rfl)?_))))))));apply GJ.st0 1 rfl
      iterate 3 focus(intros;(conv=>lhs;simp only [slotsZ,zlAt,vs0,resL,at2,eq_self,Nat.reduceEqDiff,reduceIte,Nat.reduceSub,Nat.reduceAdd,List.cons_append,List.nil_append]);all_goals rfl)
      ·
       intro gh X K zq zc zq2 zc2 zb zv hK;refine J.p(PR.fldA u35 rfl sz22 rfl)rfl(J.nilK ?_);exact hK zq zc zq2 zc2 zb zv
      ·
       intro gh gh' h
       rfl
      apply GJ.st0 2 rfl
      iterate 3 focus(intros;(conv=>lhs;simp only [slotsZ,zlAt,vs0,resL,at2,eq_self,Nat.reduceEqDiff,reduceIte,Nat.reduceSub,Nat.reduceAdd,List.cons_append,List.nil_append]);all_goals rfl)
      ·
       intro gh X K zq zc zq2 zc2 zb zv hK;refine J.p(PR.load rfl At.z rfl pl22)rfl(J.nilK ?_);exact hK zq zc zq2 zc2 zb zv
      ·
       intro gh gh' h
       rfl
      apply GJ.st0 3 rfl
      iterate 3 focus(intros;(conv=>lhs;simp only [slotsZ,zlAt,vs0,resL,at2,eq_self,Nat.reduceEqDiff,reduceIte,Nat.reduceSub,Nat.reduceAdd,List.cons_append,List.nil_append]);all_goals rfl)
      ·
       intro gh X K zq zc zq2 zc2 zb zv hK;refine J.p(PR.loadAll rfl At.z(by simpa using ag150))rfl(J.nilK ?_);exact hK zq zc zq2 zc2 zb zv
      ·
       intro gh gh' h
       rfl
      apply GJ.st1 4 rfl
      iterate 3 focus(intros;(conv=>lhs;simp only [slotsZ,zlAt,vs0,resL,at2,eq_self,Nat.reduceEqDiff,reduceIte,Nat.reduceSub,Nat.reduceAdd,List.cons_append,List.nil_append]);all_goals rfl)
      ·
       intro gh X K zq zc zq2 zc2 zb zv hK;refine J.call fn159 rfl rfl fun w hH=>(l01Single_c hlm(by omega)hH).mono ?_;rintro _ w⟨qo85,co85,rfl,hH⟩;refine⟨_,rfl,fun a hF=>J.of hF hH ?_⟩;refine J.nilK ?_;exact hK qo85 co85 zq2 zc2 zb zv
      ·
       intro gh gh' h;refine⟨?_,?_⟩<;> rfl
      apply GJ.st0 5 rfl
      iterate 3 focus(intros;(conv=>lhs;simp only [slotsZ,zlAt,vs0,resL,at2,eq_self,Nat.reduceEqDiff,reduceIte,Nat.reduceSub,Nat.reduceAdd,List.cons_append,List.nil_append]);all_goals rfl)
      ·
       intro gh X K zq zc zq2 zc2 zb zv hK;refine J.p(PR.fldA u35 rfl sz33 rfl)rfl(J.nilK ?_);exact hK zq zc zq2 zc2 zb zv
      ·
       intro gh gh' h
       rfl
      apply GJ.st0 6 rfl
      iterate 3 focus(intros;(conv=>lhs;simp only [slotsZ,zlAt,vs0,resL,at2,eq_self,Nat.reduceEqDiff,reduceIte,Nat.reduceSub,Nat.reduceAdd,List.cons_append,List.nil_append]);all_goals rfl)
      ·
       intro gh X K zq zc zq2 zc2 zb zv hK;refine J.p(PR.load rfl At.z rfl pl33)rfl(J.nilK ?_);exact hK zq zc zq2 zc2 zb zv
      ·
       intro gh gh' h
       rfl
      apply GJ.st0 7 rfl
      iterate 3 focus(intros;(conv=>lhs;simp only [slotsZ,zlAt,vs0,resL,at2,eq_self,Nat.reduceEqDiff,reduceIte,Nat.reduceSub,Nat.reduceAdd,List.cons_append,List.nil_append]);all_goals rfl)
      ·
       intro gh X K zq zc zq2 zc2 zb zv hK;refine J.p(PR.move rfl)rfl(J.nilK ?_);exact hK zq zc zq2 zc2 zb zv
      ·
       intro gh gh' h
       rfl
      apply GJ.st0 8 rfl
      iterate 3 focus(intros;(conv=>lhs;simp only [slotsZ,zlAt,vs0,resL,at2,eq_self,Nat.reduceEqDiff,reduceIte,Nat.reduceSub,Nat.reduceAdd,List.cons_append,List.nil_append]);all_goals rfl)
      ·
       intro gh X K zq zc zq2 zc2 zb zv hK;refine J.p(PR.idx1 u33 sz39 rfl rfl rfl(by omega)haf.sm)rfl(J.nilK ?_);exact hK zq zc zq2 zc2 zb zv
      ·
       intro gh gh' h
       rfl
      obtain⟨qe90,ce90,he90,le90,Fe90⟩:= haf k(by omega);apply GJ.st0 9 rfl
      iterate 3 focus(intros;(conv=>lhs;simp only [slotsZ,zlAt,vs0,resL,at2,eq_self,Nat.reduceEqDiff,reduceIte,Nat.reduceSub,Nat.reduceAdd,List.cons_append,List.nil_append]);all_goals rfl)
      ·
       intro gh X K zq zc zq2 zc2 zb zv hK;refine J.p(PR.loadHagg(cs:=[_])rfl(one_cell he90)(haf.sm(i:=k)(by omega))ag39)rfl(J.nilK ?_);exact hK zq zc zq2 zc2 zb zv
      ·
       intro gh gh' h
       rfl
      apply GJ.st1 10 rfl
      iterate 3 focus(intros;(conv=>lhs;simp only [slotsZ,zlAt,vs0,resL,at2,eq_self,Nat.reduceEqDiff,reduceIte,Nat.reduceSub,Nat.reduceAdd,List.cons_append,List.nil_append]);all_goals rfl)
      ·
       intro gh X K zq zc zq2 zc2 zb zv hK;refine J.call fn77 rfl rfl fun w hH=>hH.lend .z fun Hl1 hle1 hA1 hB1 hH=>(l01Times_c(had.le hle1)(own_terms(one_wf hlm)hA1)(Fe90.le hle1)hn hd(one_kex hle)(hk9 k hkl)(one_g hlp)(hf9 k hkl).1.g (by omega)(by rw [one_len];omega)(by rw [one_len];omega)hH).mono ?_;rintro _ w⟨qo91,co91,rfl,hH⟩;replace hH:=hB1 _ _ hH;refine⟨_,rfl,fun a hF=>J.of hF hH ?_⟩;refine EJ.front .z(EJ.front(.s .z)(J.nilK ?_));exact hK qo91 co91 zq2 zc2 zb zv
      ·
       intro gh gh' h;refine⟨?_,?_⟩<;> (first | simp only [h 3 rfl] | rfl)
      apply GJ.st1 11 rfl
      iterate 3 focus(intros;(conv=>lhs;simp only [slotsZ,zlAt,vs0,resL,at2,eq_self,Nat.reduceEqDiff,reduceIte,Nat.reduceSub,Nat.reduceAdd,List.cons_append,List.nil_append]);all_goals rfl)
      ·
       intro gh X K zq zc zq2 zc2 zb zv hK;refine J.alloc ze39 rfl fun g14=>(J.nilK ?_);exact hK zq zc zq2 zc2 g14 zv
      ·
       intro gh gh' h;refine⟨?_,?_⟩<;> rfl
      apply GJ.sn1 12 rfl
      iterate 3 focus(intros;(conv=>lhs;simp only [slotsZ,zlAt,vs0,resL,at2,eq_self,Nat.reduceEqDiff,reduceIte,Nat.reduceSub,Nat.reduceAdd,List.cons_append,List.nil_append]);all_goals rfl)
      ·
       intro gh X K hK;refine J.storeAll rfl rfl(by first | exact bytesC_one _ | exact intsC_one _ | exact Term.c_one _ | simp [Value.oneCell'])(by simpa [*] using sz39)(by simp [*])At.z(J.nilK ?_);exact hK
      ·
       intro gh gh' h
       first | simp only [h 3 rfl,h 9 rfl,h 10 rfl] | rfl
      apply GJ.close [0,1,2,3,4,5,6,7,8,9,10,11] [0,1,2,3,4,5,6,7,8,9,11,12,13,14,15,16,17,18,19,20] foll0 rfl rfl rfl(by rfl)
      iterate 2 focus(intros;(conv=>lhs;simp only [slotsZ,zlAt,vs0,resL,at2,eq_self,Nat.reduceEqDiff,reduceIte,Nat.reduceSub,Nat.reduceAdd,List.cons_append,List.nil_append]);all_goals rfl)
      intro gh;generalize(gh 3).c=co85;generalize(gh 3).q=qo85;generalize(gh 9).c=co91;generalize(gh 9).q=qo91;generalize(gh 10).b=g14;clear gh;refine EJ.thenN(hK30(CJ.openR(Rs:=[_,_,_,_,_,_,_,_,_,_,_,_])11 [[], [], [1], [], [], [4], [1,2,3,4,5], [], [1,2,3,4,5,6,7], [0,1,2,3,4,5,6,7,8], [0,1,2,3,4,5,6,7,8,9]] [[18], [], [22], [13], [16], [], [5,12], [], [], [6,19], []] [[], [], [], [], [], [], [], [], [], [], [18]] rfl rfl(by kernel_rfl)?_));apply GJ.st0 1 rfl
      iterate 3 focus(intros;(conv=>lhs;simp only [slotsZ,zlAt,vs0,resL,at2,eq_self,Nat.reduceEqDiff,reduceIte,Nat.reduceSub,Nat.reduceAdd,List.cons_append,List.nil_append]);all_goals rfl)
      ·
       intro gh X K zq zc zq2 zc2 zb zv hK;refine J.p(PR.loadAll rfl At.z(by simpa [*] using ag39))rfl(J.nilK ?_);exact hK zq zc zq2 zc2 zb zv
      ·
       intro gh gh' h
       rfl
      apply GJ.st0 2 rfl
      iterate 3 focus(intros;(conv=>lhs;simp only [slotsZ,zlAt,vs0,resL,at2,eq_self,Nat.reduceEqDiff,reduceIte,Nat.reduceSub,Nat.reduceAdd,List.cons_append,List.nil_append]);all_goals rfl)
      ·
       intro gh X K zq zc zq2 zc2 zb zv hK;refine J.p(PR.fldA u35 rfl sz22 rfl)rfl(J.nilK ?_);exact hK zq zc zq2 zc2 zb zv
      ·
       intro gh gh' h
       rfl
      apply GJ.st0 3 rfl
      iterate 3 focus(intros;(conv=>lhs;simp only [slotsZ,zlAt,vs0,resL,at2,eq_self,Nat.reduceEqDiff,reduceIte,Nat.reduceSub,Nat.reduceAdd,List.cons_append,List.nil_append]);all_goals rfl)
      ·
       intro gh X K zq zc zq2 zc2 zb zv hK;refine J.p(PR.load rfl At.z rfl pl22)rfl(J.nilK ?_);exact hK zq zc zq2 zc2 zb zv
      ·
       intro gh gh' h
       rfl
      apply GJ.st0 4 rfl
      iterate 3 focus(intros;(conv=>lhs;simp only [slotsZ,zlAt,vs0,resL,at2,eq_self,Nat.reduceEqDiff,reduceIte,Nat.reduceSub,Nat.reduceAdd,List.cons_append,List.nil_append]);all_goals rfl)
      ·
       intro gh X K zq zc zq2 zc2 zb zv hK;refine J.p(PR.loadAll rfl At.z(by simpa [*] using ag39))rfl(J.nilK ?_);exact hK zq zc zq2 zc2 zb zv
      ·
       intro gh gh' h
       rfl
      apply GJ.st0 5 rfl
      iterate 3 focus(intros;(conv=>lhs;simp only [slotsZ,zlAt,vs0,resL,at2,eq_self,Nat.reduceEqDiff,reduceIte,Nat.reduceSub,Nat.reduceAdd,List.cons_append,List.nil_append]);all_goals rfl)
      ·
       intro gh X K zq zc zq2 zc2 zb zv hK;refine J.p(PR.loadAll rfl At.z(by simpa using ag150))rfl(J.nilK ?_);exact hK zq zc zq2 zc2 zb zv
      ·
       intro gh gh' h
       rfl
      apply GJ.st1 6 rfl
      iterate 3 focus(intros;(conv=>lhs;simp only [slotsZ,zlAt,vs0,resL,at2,eq_self,Nat.reduceEqDiff,reduceIte,Nat.reduceSub,Nat.reduceAdd,List.cons_append,List.nil_append]);all_goals rfl)
      ·
       intro gh X K zq zc zq2 zc2 zb zv hK;refine J.call fn159 rfl rfl fun w hH=>(l01Single_c hbm(by omega)hH).mono ?_;rintro _ w⟨qo97,co97,rfl,hH⟩;refine⟨_,rfl,fun a hF=>J.of hF hH ?_⟩;refine J.nilK ?_;exact hK qo97 co97 zq2 zc2 zb zv
      ·
       intro gh gh' h;refine⟨?_,?_⟩<;> rfl
      apply GJ.st1 7 rfl
      iterate 3 focus(intros;(conv=>lhs;simp only [slotsZ,zlAt,vs0,resL,at2,eq_self,Nat.reduceEqDiff,reduceIte,Nat.reduceSub,Nat.reduceAdd,List.cons_append,List.nil_append]);all_goals rfl)
      ·
       intro gh X K zq zc zq2 zc2 zb zv hK;refine J.call fn77 rfl rfl fun w hH=>hH.lend(.s .z)fun Hl1 hle1 hA1 hB1 hH=>hH.lend .z fun Hl2 hle2 hA2 hB2 hH=>(l01Times_c((had.le hle1).le hle2)((own_terms(by simp only [toS_ofS,addS_one];exact gt1.wf(by omega))hA1).le hle2)(own_terms(one_wf hbm)hA2)hn hd(by rw [toS_ofS];exact times_kex(one_g hlp)(hf9 k hkl).1.g (one_kex hle)(hk9 k hkl))(one_kex hbe)(by simp only [toS_ofS,addS_one];exact gt1.g)(one_g hbp)(by omega)(by have h:=times_len ad(toS(ofS(addS [] (leftP(tm f i).mono k)1)))(toS(fm af k));rw [toS_len,toS_len,one_len] at h;rw [one_len,ofS_len];omega)(by have h:=times_len ad(toS(ofS(addS [] (leftP(tm f i).mono k)1)))(toS(fm af k));rw [toS_len,toS_len,one_len] at h;rw [ofS_len];omega)hH).mono ?_;rintro _ w⟨qo98,co98,rfl,hH⟩;replace hH:=hB2 _ _ hH;replace hH:=hB1 _ _ hH;refine⟨_,rfl,fun a hF=>J.of hF hH ?_⟩;refine EJ.front .z(EJ.front(.s .z)(EJ.front(.s(.s .z))(J.nilK ?_)));exact hK qo98 co98 zq2 zc2 zb zv
      ·
       intro gh gh' h;refine⟨?_,?_⟩<;> (first | simp only [h 5 rfl] | rfl)
      apply GJ.st0 8 rfl
      iterate 3 focus(intros;(conv=>lhs;simp only [slotsZ,zlAt,vs0,resL,at2,eq_self,Nat.reduceEqDiff,reduceIte,Nat.reduceSub,Nat.reduceAdd,List.cons_append,List.nil_append]);all_goals rfl)
      ·
       intro gh X K zq zc zq2 zc2 zb zv hK;refine J.p(PR.move rfl)rfl(J.nilK ?_);exact hK zq zc zq2 zc2 zb zv
      ·
       intro gh gh' h
       rfl
      apply GJ.st0 9 rfl
      iterate 3 focus(intros;(conv=>lhs;simp only [slotsZ,zlAt,vs0,resL,at2,eq_self,Nat.reduceEqDiff,reduceIte,Nat.reduceSub,Nat.reduceAdd,List.cons_append,List.nil_append]);all_goals rfl)
      ·
       intro gh X K zq zc zq2 zc2 zb zv hK;refine J.call fn160 rfl rfl fun w hH=>(l01Mod_c(by omega)hH).mono ?_;rintro _ w⟨rfl,hH⟩;refine⟨_,rfl,fun a hF=>J.of hF hH ?_⟩;refine J.nilK ?_;exact hK zq zc zq2 zc2 zb zv
      ·
       intro gh gh' h
       first | simp only [h 5 rfl,h 6 rfl] | rfl
      apply GJ.st1 10 rfl
      iterate 3 focus(intros;(conv=>lhs;simp only [slotsZ,zlAt,vs0,resL,at2,eq_self,Nat.reduceEqDiff,reduceIte,Nat.reduceSub,Nat.reduceAdd,List.cons_append,List.nil_append]);all_goals rfl)
      ·
       intro gh X K zq zc zq2 zc2 zb zv hK;refine J.call fn130 rfl rfl fun w hH=>hH.lend(.s .z)fun Hl1 hle1 hA1 hB1 hH=>hH.lend .z fun Hl2 hle2 hA2 hB2 hH=>(l01Add_c((own_terms wfO hA1).le hle2)(own_terms(by simp only [toS_ofS,addS_one];exact gt2.wf(by omega))hA2)(by rw [toS_ofS];exact d2_sok hf9 hs hoc(by omega)k)(by simp only [toS_ofS,addS_one];exact gt2.g)(by omega)(fld_bd _)(by have h1:=dT_len ad(toS(fm af k))(tm f i).mono k;unfold dT at h1;rw [toS_len] at h1;simp only [toS_ofS,addS_one,ofS_len];omega)hH).mono ?_;rintro _ w⟨qo101,co101,rfl,hH⟩;replace hH:=hB2 _ _ hH;replace hH:=hB1 _ _ hH;refine⟨_,rfl,fun a hF=>J.of hF hH ?_⟩;refine EJ.front .z(EJ.front(.s .z)(EJ.front(.s(.s .z))(J.nilK ?_)));exact hK qo101 co101 zq2 zc2 zb zv
      ·
       intro gh gh' h;refine⟨?_,?_⟩<;> (first | simp only [h 5 rfl,h 6 rfl] | rfl)
      apply GJ.sn1 11 rfl
      iterate 3 focus(intros;(conv=>lhs;simp only [slotsZ,zlAt,vs0,resL,at2,eq_self,Nat.reduceEqDiff,reduceIte,Nat.reduceSub,Nat.reduceAdd,List.cons_append,List.nil_append]);all_goals rfl)
      ·
       intro gh X K hK;refine J.storeAll rfl rfl(by first | exact bytesC_one _ | exact intsC_one _ | exact Term.c_one _ | simp [Value.oneCell'])(by simpa [*] using sz39)(by simp [*])At.z(J.nilK ?_);exact hK
      ·
       intro gh gh' h
       first | simp only [h 5 rfl,h 6 rfl,h 9 rfl] | rfl
      apply GJ.close [0,1,2,3,4,5,6,7,8,9,10] [0,1,2,3,4,5,6,7,8,9,10,11,12,13,14,15,16,17,19,20,21,22] foll0 rfl rfl rfl(by rfl)
      iterate 2 focus(intros;(conv=>lhs;simp only [slotsZ,zlAt,vs0,resL,at2,eq_self,Nat.reduceEqDiff,reduceIte,Nat.reduceSub,Nat.reduceAdd,List.cons_append,List.nil_append]);all_goals rfl)
      intro gh;generalize(gh 5).c=co97;generalize(gh 5).q=qo97;generalize(gh 6).c=co98;generalize(gh 6).q=qo98;generalize(gh 9).c=co101;generalize(gh 9).q=qo101;clear gh;refine EJ.inN(EJ.thenN(hK12(CJ.region(J.p(PR.move rfl)rfl(J.p(PR.add rfl rfl(by first | exact nw _(by omega)| rfl))rfl(J.p(PR.assign rfl)rfl(J.nil(EJ.thenN(EJ.drop(.s(.s(.s(.s(.s(.s(.s(.s(.s(.s(.s .z)))))))))))(EJ.drop .z(EJ.drop .z(EJ.drop(.s(.s .z))(EJ.drop(.s(.s .z))(EJ.drop(.s(.s .z))(EJ.drop(.s(.s .z))?_)))))))))))))));refine EJ.drop(.s(.s .z))(EJ.drop(.s(.s .z))(EJ.front(.s(.s(.s(.s(.s .z)))))(EJ.front(.s(.s(.s(.s(.s .z)))))(EJ.front(.s(.s(.s(.s(.s .z)))))(EJ.front(.s(.s(.s .z)))(EJ.front(.s(.s(.s(.s .z))))(EJ.front(.s(.s(.s(.s(.s .z)))))?_)))))));exact hAg1(qo101,co101,k+1)(by show k+1≤ad.length;omega)(by show ad.length - (k+1)< ad.length - k;omega)71 rfl rfl⟨rfl,trivial⟩rfl(by simp only [toS_ofS,addS_one];rw [← acc_dP(ds:=ad)(fs:=af)(x:=((tm f i).mono,(tm f i).fac))(k:=k)hpos,fac_neg(sg_neg hn hd hxn(by omega)h79)];rfl)
     ·
      refine CJ.skip(EJ.thenN(hK28(CJ.seq fun _ hK31 _=>(CJ.openR(Rs:=[_,_,_,_,_,_,_,_,_])12 [[], [0], [], [2], [], [4], [], [4,5,6], [4,5,6,7], [0,1,2,3,4,5,6,7,8], [], [0,1,2,3,4,5,6,7,8,9,10]] [[], [20], [12], [], [], [20], [], [], [], [3], [], []] [[], [], [], [], [], [], [], [], [], [], [], [10]] rfl rfl(by kernel_rfl)?_))));apply GJ.st0 1 rfl
      iterate 3 focus(intros;(conv=>lhs;simp only [slotsZ,zlAt,vs0,resL,at2,eq_self,Nat.reduceEqDiff,reduceIte,Nat.reduceSub,Nat.reduceAdd,List.cons_append,List.nil_append]);all_goals rfl)
      ·
       intro gh X K zq zc zq2 zc2 zb zv hK;refine J.p(PR.fldA u35 rfl sz22 rfl)rfl(J.nilK ?_);exact hK zq zc zq2 zc2 zb zv
      ·
       intro gh gh' h
       rfl
      apply GJ.st0 2 rfl
      iterate 3 focus(intros;(conv=>lhs;simp only [slotsZ,zlAt,vs0,resL,at2,eq_self,Nat.reduceEqDiff,reduceIte,Nat.reduceSub,Nat.reduceAdd,List.cons_append,List.nil_append]);all_goals rfl)
      ·
       intro gh X K zq zc zq2 zc2 zb zv hK;refine J.p(PR.load rfl At.z rfl pl22)rfl(J.nilK ?_);exact hK zq zc zq2 zc2 zb zv
      ·
       intro gh gh' h
       rfl
      apply GJ.st0 3 rfl
      iterate 3 focus(intros;(conv=>lhs;simp only [slotsZ,zlAt,vs0,resL,at2,eq_self,Nat.reduceEqDiff,reduceIte,Nat.reduceSub,Nat.reduceAdd,List.cons_append,List.nil_append]);all_goals rfl)
      ·
       intro gh X K zq zc zq2 zc2 zb zv hK;refine J.p(PR.loadAll rfl At.z(by simpa using ag150))rfl(J.nilK ?_);exact hK zq zc zq2 zc2 zb zv
      ·
       intro gh gh' h
       rfl
      apply GJ.st1 4 rfl
      iterate 3 focus(intros;(conv=>lhs;simp only [slotsZ,zlAt,vs0,resL,at2,eq_self,Nat.reduceEqDiff,reduceIte,Nat.reduceSub,Nat.reduceAdd,List.cons_append,List.nil_append]);all_goals rfl)
      ·
       intro gh X K zq zc zq2 zc2 zb zv hK;refine J.call fn159 rfl rfl fun w hH=>(l01Single_c hlm(by omega)hH).mono ?_;rintro _ w⟨qo85,co85,rfl,hH⟩;refine⟨_,rfl,fun a hF=>J.of hF hH ?_⟩;refine J.nilK ?_;exact hK qo85 co85 zq2 zc2 zb zv
      ·
       intro gh gh' h;refine⟨?_,?_⟩<;> rfl
      apply GJ.st0 5 rfl
      iterate 3 focus(intros;(conv=>lhs;simp only [slotsZ,zlAt,vs0,resL,at2,eq_self,Nat.reduceEqDiff,reduceIte,Nat.reduceSub,Nat.reduceAdd,List.cons_append,List.nil_append]);all_goals rfl)
      ·
       intro gh X K zq zc zq2 zc2 zb zv hK;refine J.p(PR.fldA u35 rfl sz33 rfl)rfl(J.nilK ?_);exact hK zq zc zq2 zc2 zb zv
      ·
       intro gh gh' h
       rfl
      apply GJ.st0 6 rfl
      iterate 3 focus(intros;(conv=>lhs;simp only [slotsZ,zlAt,vs0,resL,at2,eq_self,Nat.reduceEqDiff,reduceIte,Nat.reduceSub,Nat.reduceAdd,List.cons_append,List.nil_append]);all_goals rfl)
      ·
       intro gh X K zq zc zq2 zc2 zb zv hK;refine J.p(PR.load rfl At.z rfl pl33)rfl(J.nilK ?_);exact hK zq zc zq2 zc2 zb zv
      ·
       intro gh gh' h
       rfl
      apply GJ.st0 7 rfl
      iterate 3 focus(intros;(conv=>lhs;simp only [slotsZ,zlAt,vs0,resL,at2,eq_self,Nat.reduceEqDiff,reduceIte,Nat.reduceSub,Nat.reduceAdd,List.cons_append,List.nil_append]);all_goals rfl)
      ·
       intro gh X K zq zc zq2 zc2 zb zv hK;refine J.p(PR.move rfl)rfl(J.nilK ?_);exact hK zq zc zq2 zc2 zb zv
      ·
       intro gh gh' h
       rfl
      apply GJ.st0 8 rfl
      iterate 3 focus(intros;(conv=>lhs;simp only [slotsZ,zlAt,vs0,resL,at2,eq_self,Nat.reduceEqDiff,reduceIte,Nat.reduceSub,Nat.reduceAdd,List.cons_append,List.nil_append]);all_goals rfl)
      ·
       intro gh X K zq zc zq2 zc2 zb zv hK;refine J.p(PR.idx1 u33 sz39 rfl rfl rfl(by omega)haf.sm)rfl(J.nilK ?_);exact hK zq zc zq2 zc2 zb zv
      ·
       intro gh gh' h
       rfl
      obtain⟨qe90,ce90,he90,le90,Fe90⟩:= haf k(by omega);apply GJ.st0 9 rfl
      iterate 3 focus(intros;(conv=>lhs;simp only [slotsZ,zlAt,vs0,resL,at2,eq_self,Nat.reduceEqDiff,reduceIte,Nat.reduceSub,Nat.reduceAdd,List.cons_append,List.nil_append]);all_goals rfl)
      ·
       intro gh X K zq zc zq2 zc2 zb zv hK;refine J.p(PR.loadHagg(cs:=[_])rfl(one_cell he90)(haf.sm(i:=k)(by omega))ag39)rfl(J.nilK ?_);exact hK zq zc zq2 zc2 zb zv
      ·
       intro gh gh' h
       rfl
      apply GJ.st1 10 rfl
      iterate 3 focus(intros;(conv=>lhs;simp only [slotsZ,zlAt,vs0,resL,at2,eq_self,Nat.reduceEqDiff,reduceIte,Nat.reduceSub,Nat.reduceAdd,List.cons_append,List.nil_append]);all_goals rfl)
      ·
       intro gh X K zq zc zq2 zc2 zb zv hK;refine J.call fn77 rfl rfl fun w hH=>hH.lend .z fun Hl1 hle1 hA1 hB1 hH=>(l01Times_c(had.le hle1)(own_terms(one_wf hlm)hA1)(Fe90.le hle1)hn hd(one_kex hle)(hk9 k hkl)(one_g hlp)(hf9 k hkl).1.g (by omega)(by rw [one_len];omega)(by rw [one_len];omega)hH).mono ?_;rintro _ w⟨qo91,co91,rfl,hH⟩;replace hH:=hB1 _ _ hH;refine⟨_,rfl,fun a hF=>J.of hF hH ?_⟩;refine EJ.front .z(EJ.front(.s .z)(J.nilK ?_));exact hK qo91 co91 zq2 zc2 zb zv
      ·
       intro gh gh' h;refine⟨?_,?_⟩<;> (first | simp only [h 3 rfl] | rfl)
      apply GJ.st1 11 rfl
      iterate 3 focus(intros;(conv=>lhs;simp only [slotsZ,zlAt,vs0,resL,at2,eq_self,Nat.reduceEqDiff,reduceIte,Nat.reduceSub,Nat.reduceAdd,List.cons_append,List.nil_append]);all_goals rfl)
      ·
       intro gh X K zq zc zq2 zc2 zb zv hK;refine J.alloc ze39 rfl fun g14=>(J.nilK ?_);exact hK zq zc zq2 zc2 g14 zv
      ·
       intro gh gh' h;refine⟨?_,?_⟩<;> rfl
      apply GJ.sn1 12 rfl
      iterate 3 focus(intros;(conv=>lhs;simp only [slotsZ,zlAt,vs0,resL,at2,eq_self,Nat.reduceEqDiff,reduceIte,Nat.reduceSub,Nat.reduceAdd,List.cons_append,List.nil_append]);all_goals rfl)
      ·
       intro gh X K hK;refine J.storeAll rfl rfl(by first | exact bytesC_one _ | exact intsC_one _ | exact Term.c_one _ | simp [Value.oneCell'])(by simpa [*] using sz39)(by simp [*])At.z(J.nilK ?_);exact hK
      ·
       intro gh gh' h
       first | simp only [h 3 rfl,h 9 rfl,h 10 rfl] | rfl
      apply GJ.close [0,1,2,3,4,5,6,7,8,9,10,11] [0,1,2,3,4,5,6,7,8,9,11,12,13,14,15,16,17,18,19,20] foll0 rfl rfl rfl(by rfl)
      iterate 2 focus(intros;(conv=>lhs;simp only [slotsZ,zlAt,vs0,resL,at2,eq_self,Nat.reduceEqDiff,reduceIte,Nat.reduceSub,Nat.reduceAdd,List.cons_append,List.nil_append]);all_goals rfl)
      intro gh;generalize(gh 3).c=co85;generalize(gh 3).q=qo85;generalize(gh 9).c=co91;generalize(gh 9).q=qo91;generalize(gh 10).b=g14;clear gh;refine EJ.thenN(hK31(CJ.openR(Rs:=[_,_,_,_,_,_,_,_,_,_,_,_])11 [[], [], [1], [], [], [4], [1,2,3,4,5], [], [1,2,3,4,5,6,7], [0,1,2,3,4,5,6,7,8], [0,1,2,3,4,5,6,7,8,9]] [[18], [], [22], [13], [16], [], [5,12], [], [], [6,19], []] [[], [], [], [], [], [], [], [], [], [], [18]] rfl rfl(by kernel_rfl)?_));apply GJ.st0 1 rfl
      iterate 3 focus(intros;(conv=>lhs;simp only [slotsZ,zlAt,vs0,resL,at2,eq_self,Nat.reduceEqDiff,reduceIte,Nat.reduceSub,Nat.reduceAdd,List.cons_append,List.nil_append]);all_goals rfl)
      ·
       intro gh X K zq zc zq2 zc2 zb zv hK;refine J.p(PR.loadAll rfl At.z(by simpa [*] using ag39))rfl(J.nilK ?_);exact hK zq zc zq2 zc2 zb zv
      ·
       intro gh gh' h
       rfl
      apply GJ.st0 2 rfl
      iterate 3 focus(intros;(conv=>lhs;simp only [slotsZ,zlAt,vs0,resL,at2,eq_self,Nat.reduceEqDiff,reduceIte,Nat.reduceSub,Nat.reduceAdd,List.cons_append,List.nil_append]);all_goals rfl)
      ·
       intro gh X K zq zc zq2 zc2 zb zv hK;refine J.p(PR.fldA u35 rfl sz22 rfl)rfl(J.nilK ?_);exact hK zq zc zq2 zc2 zb zv
      ·
       intro gh gh' h
       rfl
      apply GJ.st0 3 rfl
      iterate 3 focus(intros;(conv=>lhs;simp only [slotsZ,zlAt,vs0,resL,at2,eq_self,Nat.reduceEqDiff,reduceIte,Nat.reduceSub,Nat.reduceAdd,List.cons_append,List.nil_append]);all_goals rfl)
      ·
       intro gh X K zq zc zq2 zc2 zb zv hK;refine J.p(PR.load rfl At.z rfl pl22)rfl(J.nilK ?_);exact hK zq zc zq2 zc2 zb zv
      ·
       intro gh gh' h
       rfl
      apply GJ.st0 4 rfl
      iterate 3 focus(intros;(conv=>lhs;simp only [slotsZ,zlAt,vs0,resL,at2,eq_self,Nat.reduceEqDiff,reduceIte,Nat.reduceSub,Nat.reduceAdd,List.cons_append,List.nil_append]);all_goals rfl)
      ·
       intro gh X K zq zc zq2 zc2 zb zv hK;refine J.p(PR.loadAll rfl At.z(by simpa [*] using ag39))rfl(J.nilK ?_);exact hK zq zc zq2 zc2 zb zv
      ·
       intro gh gh' h
       rfl
      apply GJ.st0 5 rfl
      iterate 3 focus(intros;(conv=>lhs;simp only [slotsZ,zlAt,vs0,resL,at2,eq_self,Nat.reduceEqDiff,reduceIte,Nat.reduceSub,Nat.reduceAdd,List.cons_append,List.nil_append]);all_goals rfl)
      ·
       intro gh X K zq zc zq2 zc2 zb zv hK;refine J.p(PR.loadAll rfl At.z(by simpa using ag150))rfl(J.nilK ?_);exact hK zq zc zq2 zc2 zb zv
      ·
       intro gh gh' h
       rfl
      apply GJ.st1 6 rfl
      iterate 3 focus(intros;(conv=>lhs;simp only [slotsZ,zlAt,vs0,resL,at2,eq_self,Nat.reduceEqDiff,reduceIte,Nat.reduceSub,Nat.reduceAdd,List.cons_append,List.nil_append]);all_goals rfl)
      ·
       intro gh X K zq zc zq2 zc2 zb zv hK;refine J.call fn159 rfl rfl fun w hH=>(l01Single_c hbm(by omega)hH).mono ?_;rintro _ w⟨qo97,co97,rfl,hH⟩;refine⟨_,rfl,fun a hF=>J.of hF hH ?_⟩;refine J.nilK ?_;exact hK qo97 co97 zq2 zc2 zb zv
      ·
       intro gh gh' h;refine⟨?_,?_⟩<;> rfl
      apply GJ.st1 7 rfl
      iterate 3 focus(intros;(conv=>lhs;simp only [slotsZ,zlAt,vs0,resL,at2,eq_self,Nat.reduceEqDiff,reduceIte,Nat.reduceSub,Nat.reduceAdd,List.cons_append,List.nil_append]);all_goals rfl)
      ·
       intro gh X K zq zc zq2 zc2 zb zv hK;refine J.call fn77 rfl rfl fun w hH=>hH.lend(.s .z)fun Hl1 hle1 hA1 hB1 hH=>hH.lend .z fun Hl2 hle2 hA2 hB2 hH=>(l01Times_c((had.le hle1).le hle2)((own_terms(by simp only [toS_ofS,addS_one];exact gt1.wf(by omega))hA1).le hle2)(own_terms(one_wf hbm)hA2)hn hd(by rw [toS_ofS];exact times_kex(one_g hlp)(hf9 k hkl).1.g (one_kex hle)(hk9 k hkl))(one_kex hbe)(by simp only [toS_ofS,addS_one];exact gt1.g)(one_g hbp)(by omega)(by have h:=times_len ad(toS(ofS(addS [] (leftP(tm f i).mono k)1)))(toS(fm af k));rw [toS_len,toS_len,one_len] at h;rw [one_len,ofS_len];omega)(by have h:=times_len ad(toS(ofS(addS [] (leftP(tm f i).mono k)1)))(toS(fm af k));rw [toS_len,toS_len,one_len] at h;rw [ofS_len];omega)hH).mono ?_;rintro _ w⟨qo98,co98,rfl,hH⟩;replace hH:=hB2 _ _ hH;replace hH:=hB1 _ _ hH;refine⟨_,rfl,fun a hF=>J.of hF hH ?_⟩;refine EJ.front .z(EJ.front(.s .z)(EJ.front(.s(.s .z))(J.nilK ?_)));exact hK qo98 co98 zq2 zc2 zb zv
      ·
       intro gh gh' h;refine⟨?_,?_⟩<;> (first | simp only [h 5 rfl] | rfl)
      apply GJ.st0 8 rfl
      iterate 3 focus(intros;(conv=>lhs;simp only [slotsZ,zlAt,vs0,resL,at2,eq_self,Nat.reduceEqDiff,reduceIte,Nat.reduceSub,Nat.reduceAdd,List.cons_append,List.nil_append]);all_goals rfl)
      ·
       intro gh X K zq zc zq2 zc2 zb zv hK;refine J.p(PR.move rfl)rfl(J.nilK ?_);exact hK zq zc zq2 zc2 zb zv
      ·
       intro gh gh' h
       rfl
      apply GJ.st0 9 rfl
      iterate 3 focus(intros;(conv=>lhs;simp only [slotsZ,zlAt,vs0,resL,at2,eq_self,Nat.reduceEqDiff,reduceIte,Nat.reduceSub,Nat.reduceAdd,List.cons_append,List.nil_append]);all_goals rfl)
      ·
       intro gh X K zq zc zq2 zc2 zb zv hK;refine J.call fn160 rfl rfl fun w hH=>(l01Mod_c(by omega)hH).mono ?_;rintro _ w⟨rfl,hH⟩;refine⟨_,rfl,fun a hF=>J.of hF hH ?_⟩;refine J.nilK ?_;exact hK zq zc zq2 zc2 zb zv
      ·
       intro gh gh' h
       first | simp only [h 5 rfl,h 6 rfl] | rfl
      apply GJ.st1 10 rfl
      iterate 3 focus(intros;(conv=>lhs;simp only [slotsZ,zlAt,vs0,resL,at2,eq_self,Nat.reduceEqDiff,reduceIte,Nat.reduceSub,Nat.reduceAdd,List.cons_append,List.nil_append]);all_goals rfl)
      ·
       intro gh X K zq zc zq2 zc2 zb zv hK;refine J.call fn130 rfl rfl fun w hH=>hH.lend(.s .z)fun Hl1 hle1 hA1 hB1 hH=>hH.lend .z fun Hl2 hle2 hA2 hB2 hH=>(l01Add_c((own_terms wfO hA1).le hle2)(own_terms(by simp only [toS_ofS,addS_one];exact gt2.wf(by omega))hA2)(by rw [toS_ofS];exact d2_sok hf9 hs hoc(by omega)k)(by simp only [toS_ofS,addS_one];exact gt2.g)(by omega)(fld_bd _)(by have h1:=dT_len ad(toS(fm af k))(tm f i).mono k;unfold dT at h1;rw [toS_len] at h1;simp only [toS_ofS,addS_one,ofS_len];omega)hH).mono ?_;rintro _ w⟨qo101,co101,rfl,hH⟩;replace hH:=hB2 _ _ hH;replace hH:=hB1 _ _ hH;refine⟨_,rfl,fun a hF=>J.of hF hH ?_⟩;refine EJ.front .z(EJ.front(.s .z)(EJ.front(.s(.s .z))(J.nilK ?_)));exact hK qo101 co101 zq2 zc2 zb zv
      ·
       intro gh gh' h;refine⟨?_,?_⟩<;> (first | simp only [h 5 rfl,h 6 rfl] | rfl)
      apply GJ.sn1 11 rfl
      iterate 3 focus(intros;(conv=>lhs;simp only [slotsZ,zlAt,vs0,resL,at2,eq_self,Nat.reduceEqDiff,reduceIte,Nat.reduceSub,Nat.reduceAdd,List.cons_append,List.nil_append]);all_goals rfl)
      ·
       intro gh X K hK;refine J.storeAll rfl rfl(by first | exact bytesC_one _ | exact intsC_one _ | exact Term.c_one _ | simp [Value.oneCell'])(by simpa [*] using sz39)(by simp [*])At.z(J.nilK ?_);exact hK
      ·
       intro gh gh' h
       first | simp only [h 5 rfl,h 6 rfl,h 9 rfl] | rfl
      apply GJ.close [0,1,2,3,4,5,6,7,8,9,10] [0,1,2,3,4,5,6,7,8,9,10,11,12,13,14,15,16,17,19,20,21,22] foll0 rfl rfl rfl(by rfl)
      iterate 2 focus(intros;(conv=>lhs;simp only [slotsZ,zlAt,vs0,resL,at2,eq_self,Nat.reduceEqDiff,reduceIte,Nat.reduceSub,Nat.reduceAdd,List.cons_append,List.nil_append]);all_goals rfl)
      intro gh;generalize(gh 5).c=co97;generalize(gh 5).q=qo97;generalize(gh 6).c=co98;generalize(gh 6).q=qo98;generalize(gh 9).c=co101;generalize(gh 9).q=qo101;clear gh;refine EJ.inN(EJ.thenN(hK12(CJ.region(J.p(PR.move rfl)rfl(J.p(PR.add rfl rfl(by first | exact nw _(by omega)| rfl))rfl(J.p(PR.assign rfl)rfl(J.nil(EJ.thenN(EJ.drop(.s(.s(.s(.s(.s(.s(.s(.s(.s(.s(.s .z)))))))))))(EJ.drop .z(EJ.drop .z(EJ.drop(.s(.s .z))(EJ.drop(.s(.s .z))(EJ.drop(.s(.s .z))(EJ.drop(.s(.s .z))?_)))))))))))))));refine EJ.drop(.s(.s .z))(EJ.drop(.s(.s .z))(EJ.front(.s(.s(.s(.s(.s .z)))))(EJ.front(.s(.s(.s(.s(.s .z)))))(EJ.front(.s(.s(.s(.s(.s .z)))))(EJ.front(.s(.s(.s .z)))(EJ.front(.s(.s(.s(.s .z))))(EJ.front(.s(.s(.s(.s(.s .z)))))?_)))))));exact hAg1(qo101,co101,k+1)(by show k+1≤ad.length;omega)(by show ad.length - (k+1)< ad.length - k;omega)68 rfl rfl⟨rfl,trivial⟩rfl(by simp only [toS_ofS,addS_one];rw [← acc_dP(ds:=ad)(fs:=af)(x:=((tm f i).mono,(tm f i).fac))(k:=k)hpos,fac_pos(sg_pos hn hd hxn(by omega)h79)];rfl)
  ·
   refine CJ.exit(EJ.thenE(EJ.thenE(EJ.inE(EJ.inN(EJ.thenN(hK7(CJ.region(J.p(PR.move rfl)rfl(J.p(PR.add rfl rfl(by first | exact nw _(by omega)| rfl))rfl(J.p(PR.assign rfl)rfl(J.nil(EJ.thenN(EJ.drop .z ?_)))))))))))));exact hAg0(q1,c1,i+1)(by show i+1≤f.length;omega)(by show f.length - (i+1)< f.length - i;omega)23 rfl rfl⟨rfl,trivial⟩rfl(by dsimp only;rw [dAll_take(by omega),← dLk_8 hn hxe,show ad.length=k by omega])
 ·
  refine CJ.exit(EJ.thenE(EJ.thenE(EJ.inE(EJ.thenN(hK3(CJ.seq fun _ hK32 _=>(CJ.region(J.p(PR.loadAll rfl At.z(by simpa [*] using ag39))rfl(J.storeAll rfl rfl(by first | exact bytesC_one _ | exact intsC_one _ | exact Term.c_one _ | simp [Value.oneCell'])(by simpa [*] using sz39)(by simp [*])(.s(.s .z))(J.nil(EJ.thenN(hK32(CJ.ret(EJ.ret1 rfl(Res.agg rfl(.s(.s .z))(by simpa [*] using ag39))fun w hH=>?_))))))))))))));replace hH:=hH.sublist(.cons _(.cons_cons _(.cons _(.cons _(.cons _(List.Sublist.refl _))))))
  obtain rfl:i=f.length:=by omega
  rw [List.take_length] at hH ⊢;exact⟨_,_,rfl,hH⟩
end Go.Proofs.YthenedanhcnccaaGreat.G
namespace Go.Proofs.YthenedanhcnccaaGreat.G
open Go Go.RowKit
theorem fn113:Fn Tryz.prog 113:=⟨_,Tryz.func113,by kernel_rfl,rfl⟩
theorem fn177:Fn Tryz.prog 177:=⟨_,Tryz.func177,by kernel_rfl,rfl⟩
def ClF(B:World)(H0 H:HP)(g:Nat)(cap:Array Value)(S:List Term→Prop)(p:List Term→Bool): Prop:=∀(H':HP)(L:List SA)(w:World)(q:Option Addr)(c:Nat)(x:List Term),Le H H' →S x→Terms H' q x→Hp B H0 H' L w→Calls Tryz.prog g(#[]++[.agg [.slice q x.length c].toArray].toArray++cap)w fun e w'=>e=.returned(.bool(p x))∧Hp B H0 H' L w'
def idxF(xs:List(List Term))(p:List Term→Bool): Int:=if xs.any p then(xs.findIdx p:Int)else -1
theorem fm_eq {xs:List(List Term)}{j:Nat}(hj:j<xs.length): xs[j]=fm xs j:=by simp [fm,List.getD_eq_getElem?_getD,List.getElem?_eq_getElem hj]
theorem fm_mem {xs:List(List Term)}{j:Nat}(hj:j<xs.length): fm xs j∈xs:=by rw [← fm_eq hj];exact List.getElem_mem hj
theorem idxF_hit {xs:List(List Term)}{p:List Term→Bool}{k:Nat}(hk:k<xs.length)(h : ∀j,j<k→p(fm xs j)= false)(hp:p(fm xs k)= true): idxF xs p=k:=by
 unfold idxF;have ha:xs.any p=true:=List.any_eq_true.2⟨xs[k],List.getElem_mem hk,by rw [fm_eq];exact hp⟩;rw [if_pos ha]
 have:xs.findIdx p=k:=by
  rw [List.findIdx_eq hk];exact⟨by rw [fm_eq];exact hp,fun j hj=>by rw [fm_eq];exact h j hj⟩
 rw [this]
theorem idxF_miss {xs:List(List Term)}{p:List Term→Bool}(h : ∀j,j<xs.length→p(fm xs j)= false): idxF xs p = -1:=by
 unfold idxF;rw [if_neg];intro ha;obtain⟨x,hx,hp⟩:= List.any_eq_true.1 ha;obtain⟨j,hj,rfl⟩:= List.mem_iff_getElem.1 hx;rw [fm_eq hj,h j hj] at hp
 cases hp
theorem idxF_ge(xs:List(List Term))(p:List Term→Bool): decide(idxF xs p≥0)= xs.any p:=by
 unfold idxF
 cases h:xs.any p with
 | true=>rw [if_pos rfl];exact decide_eq_true(by omega)
 | false=>rw [if_neg(by simp)];exact decide_eq_false(by omega)
def degOk(ds:List Int)(ts:List Term)(x:Int): Bool:=homog ds ts && (decide(degF ds ts = -1)|| decide(degF ds ts=x))
def imOk(ds:List Int)(fs:List(List Term))(i:Nat): Bool:=isForm ds(fm fs i)&& degOk ds(fm fs i)(ds.getD i 0+1)
def imsOk(ds:List Int)(fs:List(List Term)): Bool:=(List.range fs.length).all(imOk ds fs)
def noD(ds:List Int)(fs:List(List Term)): Bool:=(List.range fs.length).all fun i=>decide((dS ds fs(toS(fm fs i))).length=0)
def isAlg(ds:List Int)(fs:List(List Term)): Bool:=isDeg ds && decide(fs.length=ds.length)&& imsOk ds fs && noD ds fs
theorem imsOk_bad {ds:List Int}{fs:List(List Term)}{i:Nat}(hi:i<fs.length)(h:imOk ds fs i=false): imsOk ds fs=false:=List.all_eq_false.2⟨i,by simpa using hi,by simp [h]⟩
theorem imsOk_good {ds:List Int}{fs:List(List Term)}(h : ∀j,j<fs.length→imOk ds fs j=true): imsOk ds fs=true:=List.all_eq_true.2 fun j hj=>h j(by simpa using hj)
theorem imsOk_at {ds:List Int}{fs:List(List Term)}(h:imsOk ds fs=true){i:Nat}(hi:i<fs.length): imOk ds fs i=true:=List.all_eq_true.1 h i(by simpa using hi)
theorem noD_bad {ds:List Int}{fs:List(List Term)}{i:Nat}(hi:i<fs.length)(h : ¬(dS ds fs(toS(fm fs i))).length=0): noD ds fs=false:=List.all_eq_false.2⟨i,by simpa using hi,by simpa using h⟩
theorem noD_good {ds:List Int}{fs:List(List Term)}(h : ∀j,j<fs.length→(dS ds fs(toS(fm fs j))).length=0): noD ds fs=true:=List.all_eq_true.2 fun j hj=>by simpa using h j(by simpa using hj)
theorem isMono_le {ds m:List Int}(h:isMono ds m=true){j:Nat}(hj:j<8): m.getD j 0≤most ds j:=by
 unfold isMono at h
 simpa using List.all_eq_true.1 h j(by simpa using hj)
theorem isMono_pok {ds m:List Int}(h:isMono ds m=true)(hm:Mono m): Pok 20 m:=⟨hm.len,fun j=>by
 have b:=hm.bd j
 rcases Nat.lt_or_ge j 8 with hj | hj
 ·have:=isMono_le h hj
  unfold most at this
  split at this
  ·split at this <;> omega
  ·omega
 ·rw [getD_ge(by rw [hm.len];omega)]
  omega⟩
theorem isMono_ex {ds m:List Int}(hd : ∀j,0≤ds.getD j 0∧ds.getD j 0≤12)(hn:ds.length≤8)(h:isMono ds m=true)(hm:Mono m): Ex ds m:=⟨fun i hi=>by
 rcases Nat.lt_or_ge i 8 with hj | hj
 ·have a:=isMono_le h hj
  have b:=(hm.bd i).1
  rw [most_ge(by omega)] at a
  omega
 ·exact getD_ge(by rw [hm.len];omega),fun i hi ho=>by
 have a:=isMono_le h(j:=i)(by omega)
 rw [most_odd(by omega)ho(hd i).1] at a
 exact a⟩
theorem isForm_at {ds:List Int}{ts:List Term}(h:isForm ds ts=true){i:Nat}(hi:i<ts.length): goodAt ds ts i=true:=by
 unfold isForm at h;exact List.all_eq_true.1(Bool.and_eq_true_iff.1 h).2 i(by simpa using hi)
theorem srt_of {s:Sm}: (∀i,0<i→i<s.length→before(s.getD(i - 1)([],0)).1 (s.getD i([],0)).1=true)→s.Pairwise fun x y=>before x.1 y.1=true:=by
 induction s with
 | nil=>intro _;exact List.Pairwise.nil
 | cons x s ih=>
  intro h
  have h2:=ih fun i h0 hi=>by
   have:=h(i+1)(by omega)(by simp;omega);simp only [Nat.add_sub_cancel,List.getD_cons_succ] at this;rw [show i=(i - 1)+ 1 by omega,List.getD_cons_succ] at this
   rwa [show i - 1+1=i by omega] at this
  refine List.pairwise_cons.2⟨fun y hy=>?_,h2⟩
  cases s with
  | nil=>simp at hy
  | cons z s=>
   have hz:before x.1 z.1=true:=by simpa using h 1 (by omega)(by simp)
   rcases List.mem_cons.1 hy with rfl | hy
   ·exact hz
   ·exact before_tr hz((List.pairwise_cons.1 h2).1 y hy)
theorem toS_getD {ts:List Term}{i:Nat}(hi:i<ts.length): (toS ts).getD i([],0)= ((tm ts i).mono,(tm ts i).fac):= by
 simp [toS,tm,List.getD_eq_getElem?_getD,hi]
theorem isForm_sok {ds:List Int}{ts:List Term}(hw:Wfs ts)(h:isForm ds ts=true): Sok 20 (toS ts):= by
 have hg : ∀i,i<ts.length→isMono ds(tm ts i).mono=true∧(1≤(tm ts i).fac∧(tm ts i).fac≤10006)∧(i=0∨before(tm ts(i - 1)).mono(tm ts i).mono=true):= fun i hi=>by
  have:=isForm_at h hi;unfold goodAt at this
  simpa [and_assoc] using this
 refine⟨srt_of fun i h0 hi=>?_,fun x hx=>?_,fun x hx=>?_⟩
 ·rw [toS_len] at hi;rw [toS_getD hi,toS_getD(by omega)];exact(hg i hi).2.2.resolve_left (by omega)
 ·obtain⟨t,ht,rfl⟩:= toS_mem hx;obtain⟨i,hi,rfl⟩:= List.mem_iff_getElem.1 ht;rw [tm_eq hi];exact isMono_pok(hg i hi).1 (hw _(by rw [← tm_eq hi];exact ht)).mono
 ·obtain⟨t,ht,rfl⟩:= toS_mem hx;obtain⟨i,hi,rfl⟩:= List.mem_iff_getElem.1 ht;rw [tm_eq hi];exact(hg i hi).2.1
theorem isForm_kex {ds:List Int}{ts:List Term}(hd : ∀j,0≤ds.getD j 0∧ds.getD j 0≤12)(hn:ds.length≤8)(hw:Wfs ts)(h:isForm ds ts=true): KEx ds(toS ts):= fun x hx=>by
 obtain⟨t,ht,rfl⟩:= toS_mem hx
 obtain⟨i,hi,rfl⟩:= List.mem_iff_getElem.1 ht
 have:=isForm_at h hi
 unfold goodAt at this
 rw [tm_eq hi]
 exact isMono_ex hd hn(by simp at this;exact this.1.1)(hw _(by rw [← tm_eq hi];exact ht)).mono
theorem isForm_len4 {ds:List Int}{ts:List Term}(h:isForm ds ts=true): ts.length≤400:=by
 unfold isForm at h
 simpa using(Bool.and_eq_true_iff.1 h).1
theorem Wfss.fm {fs:List(List Term)}(h:Wfss fs)(i:Nat): Wfs(G.fm fs i):= by
 rcases Nat.lt_or_ge i fs.length with hi | hi
 ·exact h _(fm_mem hi)
 ·rw [G.fm,List.getD_eq_getElem?_getD,List.getElem?_eq_none hi];exact Wfs.nil
structure AlgOk(ds:List Int)(fs:List(List Term)): Prop where
 hn:ds.length≤8
 hd : ∀j,0≤ds.getD j 0∧ds.getD j 0≤12
 hl:fs.length=ds.length
 ok : ∀i,i<fs.length→isForm ds(fm fs i)= true
 wf:Wfss fs
theorem AlgOk.fok {ds:List Int}{fs:List(List Term)}(h:AlgOk ds fs): Fok 20 fs:=fun i hi=>⟨isForm_sok(h.wf.fm i)(h.ok i hi),by have:=isForm_len4(h.ok i hi);omega⟩
theorem AlgOk.kex {ds:List Int}{fs:List(List Term)}(h:AlgOk ds fs): ∀i,i<fs.length→KEx ds(toS(G.fm fs i)):= fun i hi=>isForm_kex h.hd h.hn(h.wf.fm i)(h.ok i hi)
theorem AlgOk.len {ds:List Int}{fs:List(List Term)}(h:AlgOk ds fs): ∀i,i<fs.length→(G.fm fs i).length≤10000:=fun i hi=>by have:=isForm_len4(h.ok i hi);omega
theorem AlgOk.of {ds:List Int}{fs:List(List Term)}(hD:isDeg ds=true)(hl:fs.length=ds.length)(hi:imsOk ds fs=true)(hw:Wfss fs): AlgOk ds fs:=⟨isDeg_len hD,isDeg_bd hD,hl,fun i h=>(Bool.and_eq_true_iff.1(imsOk_at hi h)).1,hw⟩
theorem isAlg_ok {ds:List Int}{fs:List(List Term)}(h:isAlg ds fs=true)(hw:Wfss fs): AlgOk ds fs:=by
 unfold isAlg at h;simp only [Bool.and_eq_true,decide_eq_true_eq] at h;exact AlgOk.of h.1.1.1 h.1.1.2 h.1.2 hw
theorem degF_neg {ds:List Int}{ts:List Term}(hn:ds.length≤8)(hd : ∀j,0≤ds.getD j 0∧ds.getD j 0≤12)(hw:Wfs ts)(hh:homog ds ts=true): degF ds ts = -1↔¬(0<ts.length):= by
 unfold degF outAt;rw [hh,if_pos rfl]
 by_cases e:ts.length=0
 ·rw [if_pos e];omega
 ·rw [if_neg e];have:=wd_bd(i:=0)(ts:=ts)hn hd(hw _(by rw [← tm_eq(by omega)];exact List.getElem_mem(by omega))).mono
  omega
set_option maxRecDepth 10000 in
theorem IndexFuncF_c {B:World}{H0 H:HP}{L:List SA}{w:World}{qxs:Option Addr}{cxs:Nat}{xs:List(List Term)}{gp:Nat}{capp:Array Value}{Sp:List Term→Prop}{p:List Term→Bool}(hxs:Forms H qxs xs)(hgp:Fn Tryz.prog gp)(hp:ClF B H0 H gp capp Sp p)(hn:xs.length≤9223372036854775807)(hS : ∀i,i<xs.length→Sp(fm xs i))(hH:Hp B H0 H L w): Calls Tryz.prog 177 [.slice qxs xs.length cxs,.func(.func gp)#[] capp].toArray w fun e w'=>e=.returned(.int .i64(idxF xs p))∧Hp B H0 H L w':=by
 refine CJ.enter Tryz.func177 rfl 19 rfl rfl [(0,.slice qxs xs.length cxs),(1,.func(.func gp)#[] capp)] rfl hH ?_;clear hH;refine CJ.seq fun _ hK1 _=>(CJ.region(J.p(PR.assign rfl)rfl(J.nil(EJ.thenN(hK1(CJ.seq fun _ hK2 _=>(CJ.seq fun _ hK3 _=>(CJ.region(J.p(PR.move rfl)rfl(J.p(PR.lenSlice u33 rfl rfl)rfl(J.p(PR.move rfl)rfl(J.nil(EJ.thenN(hK3(CJ.block(CJ.loopU(σ:=Nat)(fun(k:Nat)=> [(8,.int .i64(k:Int))])(fun(k:Nat)=> H)(fun(k:Nat)=> L)(fun(k:Nat)=> k≤xs.length∧∀j,j<k→p(fm xs j)= false)(fun(k:Nat)=> xs.length - k)0 ⟨by omega,fun j hj=>by omega⟩⟨rfl,trivial⟩rfl rfl ?_))))))))))))))));rintro k hI _ hAg0;have hk:=hI.1;refine CJ.seq fun _ hK4 _=>(CJ.region(J.p(PR.lss rfl rfl)rfl(J.nil(EJ.thenN(hK4(CJ.seq fun _ hK5 _=>(CJ.condD rfl(fun hc9=>?_)(fun hc9=>?_))))))))
 ·
  refine CJ.skip(EJ.thenN(hK5(CJ.seq fun _ hK6 _=>(CJ.block(CJ.seq fun _ hK7 _=>(CJ.region(J.p(PR.move rfl)rfl(J.p(PR.assign rfl)rfl(J.nil(EJ.thenN(hK7(CJ.seq fun _ hK8 _=>(CJ.region(J.p(PR.move rfl)rfl(J.p(PR.move rfl)rfl(J.p(PR.move rfl)rfl ?_))))))))))))))));refine J.p(PR.idx1 u33 sz39 rfl rfl rfl(by omega)hxs.sm)rfl ?_;obtain⟨qe15,ce15,he15,le15,Fe15⟩:= hxs k(by omega);refine J.p(PR.loadHagg(cs:=[_])rfl(one_cell he15)(hxs.sm(i:=k)(by omega))ag39)rfl(J.callV hgp rfl rfl rfl fun w hH=>(hp _ _ w _ _ _(Le.refl _)(hS _(by omega))Fe15 hH).mono ?_);rintro _ w⟨rfl,hH⟩;refine⟨_,rfl,fun a hF=>J.of hF hH ?_⟩;refine J.nil(EJ.thenN(hK8(CJ.cond rfl(fun h16=>?_)(fun h16=>?_))))
  ·
   refine CJ.seq fun _ hK9 _=>(CJ.region(J.p(PR.move rfl)rfl(J.p(PR.assign rfl)rfl(J.nil(EJ.thenN(hK9(CJ.ret(EJ.inR(EJ.thenR(EJ.thenR(EJ.inR(EJ.thenR(EJ.ret1 rfl(Res.tmp rfl)fun w hH=>?_)))))))))))));exact⟨ri(idxF_hit(by omega)hI.2 h16).symm,hH⟩
  ·
   refine CJ.skip(EJ.inN(EJ.thenN(hK6(CJ.region(J.p(PR.add rfl rfl(by first | exact nw _(by omega)| rfl))rfl(J.p(PR.move rfl)rfl(J.nil(EJ.thenN ?_))))))));exact hAg0(k+1)⟨by omega,upto hI.2 h16⟩(by omega)12 rfl rfl⟨rfl,trivial⟩rfl rfl
 ·
  refine CJ.exit(EJ.thenE(EJ.thenE(EJ.inE(EJ.thenN(hK2(CJ.seq fun _ hK10 _=>(CJ.region(J.p(PR.assign rfl)rfl(J.nil(EJ.thenN(hK10(CJ.ret(EJ.ret1 rfl(Res.tmp rfl)fun w hH=>?_)))))))))))));exact⟨ri(idxF_miss(fun j hj=>hI.2 j(by omega))).symm,hH⟩
set_option maxRecDepth 10000 in
theorem ContainsFuncF_c {B:World}{H0 H:HP}{L:List SA}{w:World}{qxs:Option Addr}{cxs:Nat}{xs:List(List Term)}{gp:Nat}{capp:Array Value}{Sp:List Term→Prop}{p:List Term→Bool}(hxs:Forms H qxs xs)(hgp:Fn Tryz.prog gp)(hp:ClF B H0 H gp capp Sp p)(hn:xs.length≤9223372036854775807)(hS : ∀i,i<xs.length→Sp(fm xs i))(hH:Hp B H0 H L w): Calls Tryz.prog 133 [.slice qxs xs.length cxs,.func(.func gp)#[] capp].toArray w fun e w'=>e=.returned(.bool(xs.any p))∧Hp B H0 H L w':=by
 refine CJ.enter Tryz.func133 rfl 9 rfl rfl [(0,.slice qxs xs.length cxs),(1,.func(.func gp)#[] capp)] rfl hH ?_;clear hH;refine CJ.seq fun _ hK1 _=>(CJ.region(J.p(PR.assign rfl)rfl(J.nil(EJ.thenN(hK1(CJ.seq fun _ hK2 _=>(CJ.region(J.p(PR.move rfl)rfl(J.p(PR.move rfl)rfl(J.call fn177 rfl rfl fun w hH=>(IndexFuncF_c hxs hgp hp(by omega)hS hH).mono ?_))))))))));rintro _ w⟨rfl,hH⟩;refine⟨_,rfl,fun a hF=>J.of hF hH ?_⟩;refine J.p(PR.geq rfl rfl)rfl(J.p(PR.assign rfl)rfl(J.nil(EJ.thenN(hK2(CJ.ret(EJ.ret1 rfl(Res.tmp rfl)fun w hH=>?_))))));exact⟨rb(idxF_ge xs p),hH⟩
set_option maxRecDepth 10000 in
theorem isOfDegree_c {B:World}{H0 H:HP}{L:List SA}{w:World}{qds:Option Addr}{cds:Nat}{ds:List Int}{qts:Option Addr}{cts:Nat}{ts:List Term}{x:Int}(hds:Ints H qds ds)(hts:Terms H qts ts)(hn:ds.length≤8)(hd : ∀j,0≤ds.getD j 0∧ds.getD j 0≤12)(hl:ts.length≤9223372036854775807)(hH:Hp B H0 H L w): Calls Tryz.prog 175 [.slice qds ds.length cds,.agg [.slice qts ts.length cts].toArray,.int .i64 x].toArray w fun e w'=>e=.returned(.bool(degOk ds ts x))∧Hp B H0 H L w':=by
 refine CJ.enter Tryz.func175 rfl 25 rfl rfl [(0,.slice qds ds.length cds),(1,.agg [.slice qts ts.length cts].toArray),(2,.int .i64 x)] rfl hH ?_;clear hH;refine CJ.seq fun _ hK1 _=>(CJ.region(J.box rfl rfl rfl fun g4=>(J.p(PR.assign rfl)rfl(J.nil(EJ.thenN(hK1(CJ.seq fun _ hK2 _=>(CJ.region(J.p(PR.move rfl)rfl(J.p(PR.loadAll rfl At.z(by simpa [*] using ag39))rfl(J.call fn113 rfl rfl fun w hH=>(degreeOf_c hds hts hn hd(by omega)hH).mono ?_)))))))))));rintro _ w⟨rfl,hH⟩;refine⟨_,rfl,fun a hF=>J.of hF hH ?_⟩;refine J.p(PR.move rfl)rfl(J.p(PR.extract rfl rfl)rfl(J.p(PR.extract rfl rfl)rfl(J.p(PR.assign rfl)rfl(J.p(PR.assign rfl)rfl(J.nil(EJ.thenN(hK2(CJ.seq fun _ hK3 _=>(CJ.region(J.p(PR.move rfl)rfl(J.p(PR.move rfl)rfl(J.splitB(jd:=16)rfl(fun hg16=>?_)(fun hg16=>?_)))))))))))))
 ·
  try have hg16p:=of_decide_eq_true hg16
  refine J.gy(PR.move rfl)rfl rfl rfl hg16(J.gy(PR.eql rfl rfl)rfl rfl rfl hg16(J.gy(PR.move rfl)rfl rfl rfl hg16(J.splitB(jd:=19)rfl(fun hg19=>?_)(fun hg19=>?_))))
  ·
   try have hg19p:=of_decide_eq_true hg19
   refine J.gn rfl rfl rfl hg19(J.gn rfl rfl rfl hg19(J.gn rfl rfl rfl hg19(J.gy(PR.pickT rfl hg19 rfl)rfl rfl rfl hg16(J.p(PR.pickT rfl hg16 rfl)rfl(J.p(PR.assign rfl)rfl(J.nil(EJ.thenN(hK3(CJ.ret(EJ.ret1 rfl(Res.tmp rfl)fun w hH=>?_))))))))));replace hH:=hH.tail;exact⟨rb(by unfold degOk;rw [hg16,hg19];rfl),hH⟩
  ·
   try have hg19p:=of_decide_eq_false hg19
   refine J.gy(PR.move rfl)rfl rfl rfl hg19(J.gy(PR.move rfl)rfl rfl rfl hg19(J.gy(PR.eql rfl rfl)rfl rfl rfl hg19(J.gy(PR.pickF rfl hg19 rfl)rfl rfl rfl hg16(J.p(PR.pickT rfl hg16 rfl)rfl(J.p(PR.assign rfl)rfl(J.nil(EJ.thenN(hK3(CJ.ret(EJ.ret1 rfl(Res.tmp rfl)fun w hH=>?_))))))))));replace hH:=hH.tail;exact⟨rb(by unfold degOk;rw [hg16,hg19];simp),hH⟩
 ·
  try have hg16p:=of_decide_eq_false hg16
  refine J.gn rfl rfl rfl hg16(J.gn rfl rfl rfl hg16(J.gn rfl rfl rfl hg16(J.gu rfl rfl rfl(J.gu rfl rfl rfl(J.gu rfl rfl rfl(J.gn rfl rfl rfl hg16(J.p(PR.pickF rfl hg16 rfl)rfl(J.p(PR.assign rfl)rfl(J.nil(EJ.thenN(hK3(CJ.ret(EJ.ret1 rfl(Res.tmp rfl)fun w hH=>?_)))))))))))));replace hH:=hH.tail;exact⟨rb(by unfold degOk;rw [hg16];rfl),hH⟩
end Go.Proofs.YthenedanhcnccaaGreat.G
namespace Go.Proofs.YthenedanhcnccaaGreat.G
open Go Go.RowKit
theorem ag35:Agg Tryz.prog 35 2:=⟨_,u35,rfl,by kernel_rfl⟩
theorem fn105:Fn Tryz.prog 105:=⟨_,Tryz.func105,by kernel_rfl,rfl⟩
theorem fn106:Fn Tryz.prog 106:=⟨_,Tryz.func106,by kernel_rfl,rfl⟩
theorem fn107:Fn Tryz.prog 107:=⟨_,Tryz.func107,by kernel_rfl,rfl⟩
theorem fn126:Fn Tryz.prog 126:=⟨_,Tryz.func126,by kernel_rfl,rfl⟩
theorem fn133:Fn Tryz.prog 133:=⟨_,Tryz.func133,by kernel_rfl,rfl⟩
theorem fn135:Fn Tryz.prog 135:=⟨_,Tryz.func135,by kernel_rfl,rfl⟩
theorem fn164:Fn Tryz.prog 164:=⟨_,Tryz.func164,by kernel_rfl,rfl⟩
theorem fn174:Fn Tryz.prog 174:=⟨_,Tryz.func174,by kernel_rfl,rfl⟩
theorem fn175:Fn Tryz.prog 175:=⟨_,Tryz.func175,by kernel_rfl,rfl⟩
theorem fn176:Fn Tryz.prog 176:=⟨_,Tryz.func176,by kernel_rfl,rfl⟩
theorem imOk_yes {ds:List Int}{fs:List(List Term)}{i:Nat}(h1:isForm ds(fm fs i)= true)(h2:homog ds(fm fs i)= true)(h3:degF ds(fm fs i)= -1∨degF ds(fm fs i)= ds.getD i 0+1): imOk ds fs i=true:=by
 unfold imOk degOk;rw [h1,h2]
 rcases h3 with h | h <;> rw [decide_eq_true h] <;> simp
theorem imOk_no1 {ds:List Int}{fs:List(List Term)}{i:Nat}(h1:isForm ds(fm fs i)= false): imOk ds fs i=false:=by unfold imOk;rw [h1];rfl
theorem imOk_no2 {ds:List Int}{fs:List(List Term)}{i:Nat}(h1:homog ds(fm fs i)= false): imOk ds fs i=false:=by unfold imOk degOk;rw [h1];simp
theorem imOk_no3 {ds:List Int}{fs:List(List Term)}{i:Nat}(h1 : ¬degF ds(fm fs i)= -1)(h2 : ¬degF ds(fm fs i)= ds.getD i 0+1): imOk ds fs i=false:=by unfold imOk degOk;rw [decide_eq_false h1,decide_eq_false h2];simp
set_option maxHeartbeats 4000000 in
set_option maxRecDepth 10000 in theorem l02Is_c {B:World}{H0 H:HP}{L:List SA}{w:World}{qad qaf:Option Addr}{cad caf:Nat}{ad:List Int}{af:List(List Term)}(had:Ints H qad ad)(haf:Forms H qaf af)(hn8:ad.length≤1048576)(hn9:af.length≤1048576)(hl9 : ∀i,i<af.length→(fm af i).length≤1048576)(hH:Hp B H0 H L w): Calls Tryz.prog 72 [.agg [.slice qad ad.length cad,.slice qaf af.length caf].toArray].toArray w fun e w'=>e=.returned(.bool(isAlg ad af))∧Hp B H0 H L w':=by
 refine CJ.enter Tryz.func72 rfl 86 rfl rfl [(0,.agg [.slice qad ad.length cad,.slice qaf af.length caf].toArray)] rfl hH ?_;clear hH;refine CJ.seq fun _ hK1 _=>(CJ.region(J.box rfl rfl rfl fun g1=>(J.p(PR.assign rfl)rfl(J.nil(EJ.thenN(hK1(CJ.seq fun _ hK2 _=>(CJ.seq fun _ hK3 _=>(CJ.region(J.p(PR.fldA u35 rfl sz22 rfl)rfl(J.p(PR.load rfl At.z rfl pl22)rfl(J.call fn126 rfl rfl fun w hH=>(l01Degrees_c had(by omega)hH).mono ?_))))))))))));rintro _ w⟨rfl,hH⟩;refine⟨_,rfl,fun a hF=>J.of hF hH ?_⟩;refine J.p(PR.not rfl)rfl(J.p(PR.move rfl)rfl(J.splitB(jd:=11)rfl(fun hg11=>?_)(fun hg11=>?_)))
 ·
  try have hg11p:=of_decide_eq_true hg11
  refine J.gn rfl rfl rfl hg11(J.gn rfl rfl rfl hg11(J.gn rfl rfl rfl hg11(J.gn rfl rfl rfl hg11(J.gn rfl rfl rfl hg11(J.gn rfl rfl rfl hg11(J.gn rfl rfl rfl hg11(J.p(PR.pickT rfl hg11 rfl)rfl(J.nil(EJ.thenN(hK3(CJ.condT rfl(CJ.seq fun _ hK4 _=>(CJ.region(J.p(PR.assign rfl)rfl(J.nil ?_)))))))))))))));refine EJ.thenN(hK4(CJ.ret(EJ.thenR(EJ.ret1 rfl(Res.tmp rfl)fun w hH=>?_))));replace hH:=hH.tail;exact⟨rb(by unfold isAlg;rw [show isDeg ad=false by simpa using hg11];rfl),hH⟩
 ·
  try have hg11p:=of_decide_eq_false hg11
  refine J.gy(PR.fldA u35 rfl sz33 rfl)rfl rfl rfl hg11(J.gy(PR.load rfl At.z rfl pl33)rfl rfl rfl hg11(J.gy(PR.lenSlice u33 rfl rfl)rfl rfl rfl hg11(J.gy(PR.fldA u35 rfl sz22 rfl)rfl rfl rfl hg11(J.gy(PR.load rfl At.z rfl pl22)rfl rfl rfl hg11(J.gy(PR.lenSlice u22 rfl rfl)rfl rfl rfl hg11(J.gy(PR.neq rfl rfl)rfl rfl rfl hg11(J.p(PR.pickF rfl hg11 rfl)rfl(J.nil(EJ.thenN(hK3(CJ.condD rfl(fun hc19=>?_)(fun hc19=>?_))))))))))))
  ·
   refine CJ.seq fun _ hK5 _=>(CJ.region(J.p(PR.assign rfl)rfl(J.nil(EJ.thenN(hK5(CJ.ret(EJ.thenR(EJ.ret1 rfl(Res.tmp rfl)fun w hH=>?_))))))));replace hH:=hH.tail;exact⟨rb(by unfold isAlg;rw [decide_eq_false(show ¬af.length=ad.length by omega)];simp),hH⟩
  ·
   have hD:isDeg ad=true:=by simpa using hg11
   have hn:=isDeg_len hD;have hd:=isDeg_bd hD
   have hlen:af.length=ad.length:=by omega
   have hpos9 : ∀j,j<ad.length→0≤ad.getD j 0:=fun j _=>(hd j).1;refine CJ.skip(EJ.thenN(hK2(CJ.seq fun _ hK6 _=>(CJ.seq fun _ hK7 _=>(CJ.region(J.p(PR.assign rfl)rfl(J.nil(EJ.thenN(hK7(CJ.block(CJ.loopU(σ:=Nat)(fun(i:Nat)=> [(3,.int .i64(i:Int))])(fun(i:Nat)=> H)(fun(i:Nat)=> obj g1(.cells [.slice qad ad.length cad,.slice qaf af.length caf].toArray 35 (0,0)):: L)(fun(i:Nat)=> i≤af.length∧∀j,j<i→imOk ad af j=true)(fun(i:Nat)=> af.length - i)0 ⟨by omega,fun j hj=>by omega⟩⟨rfl,trivial⟩rfl rfl ?_)))))))))));rintro i⟨hi,hI⟩_ hAg0;refine CJ.seq fun _ hK8 _=>(CJ.seq fun _ hK9 _=>(CJ.region(J.p(PR.move rfl)rfl(J.p(PR.fldA u35 rfl sz33 rfl)rfl(J.p(PR.load rfl At.z rfl pl33)rfl(J.p(PR.lenSlice u33 rfl rfl)rfl(J.p(PR.lss rfl rfl)rfl(J.nil(EJ.thenN(hK9(CJ.condD rfl(fun hc24=>?_)(fun hc24=>?_))))))))))))
   ·
    have hl0:=hl9 i(by omega);have hdi:=hd i;refine CJ.skip(EJ.thenN(hK8(CJ.seq fun _ hK10 _=>(CJ.block(CJ.seq fun _ hK11 _=>(CJ.seq fun _ hK12 _=>(CJ.head [[], [0], [], [2], [], [3,4], [5]] (by kernel_rfl)(HJ.op(fun gh=>PR.fldA u35 rfl sz22 rfl)(HJ.op(fun gh=>PR.load rfl At.z rfl pl22)(HJ.op(fun gh=>PR.fldA u35 rfl sz33 rfl)(HJ.op(fun gh=>PR.load rfl At.z rfl pl33)(HJ.op(fun gh=>PR.move rfl)(HJ.op(fun gh=>PR.idx1 u33 sz39 rfl rfl rfl(by omega)haf.sm)?_)))))))))))));obtain⟨qe33,ce33,he33,le33,Fe33⟩:= haf i(by omega);refine HJ.op(fun gh=>PR.loadHagg(cs:=[_])rfl(one_cell he33)(haf.sm(i:=i)(by omega))ag39)(HJ.close 7 1 foll0(by kernel_rfl)rfl rfl fun gh=>(J.conv(us':=(27,_):: (28,_):: (29,_):: (30,_):: (31,_):: (32,_):: (33,_):: _)(L':=_)rfl rfl(J.call fn105 rfl rfl fun w hH=>(l01Is_c had Fe33(by omega)hpos9(by omega)hH).mono ?_)));rintro _ w⟨rfl,hH⟩;refine⟨_,rfl,fun a hF=>J.of hF hH ?_⟩;refine J.nil(EJ.still(JS.op(PR.not rfl)rfl(JS.nil(EJ.thenN(hK12(CJ.cond rfl(fun h35=>?_)(fun h35=>?_)))))))
    ·
     refine CJ.seq fun _ hK13 _=>(CJ.region(J.p(PR.assign rfl)rfl(J.nil(EJ.thenN(hK13(CJ.ret(EJ.thenR(EJ.inR(EJ.thenR(EJ.thenR(EJ.inR(EJ.thenR(EJ.ret1 rfl(Res.tmp rfl)fun w hH=>?_)))))))))))));replace hH:=hH.tail;exact⟨rb(by unfold isAlg;rw [imsOk_bad(i:=i)(by omega)(imOk_no1(by simpa using h35))];simp),hH⟩
    ·
     have hfo:isForm ad(fm af i)= true:=by simpa using h35
     refine CJ.skip(EJ.thenN(hK11(CJ.seq fun _ hK14 _=>(CJ.head [[], [0], [], [2], [], [3,4], [5]] (by kernel_rfl)(HJ.op(fun gh=>PR.fldA u35 rfl sz22 rfl)(HJ.op(fun gh=>PR.load rfl At.z rfl pl22)(HJ.op(fun gh=>PR.fldA u35 rfl sz33 rfl)(HJ.op(fun gh=>PR.load rfl At.z rfl pl33)(HJ.op(fun gh=>PR.move rfl)(HJ.op(fun gh=>PR.idx1 u33 sz39 rfl rfl rfl(by omega)haf.sm)?_))))))))));obtain⟨qe43,ce43,he43,le43,Fe43⟩:= haf i(by omega);refine HJ.op(fun gh=>PR.loadHagg(cs:=[_])rfl(one_cell he43)(haf.sm(i:=i)(by omega))ag39)(HJ.close 7 1 foll0(by kernel_rfl)rfl rfl fun gh=>(J.conv(us':=(37,_):: (38,_):: (39,_):: (40,_):: (41,_):: (42,_):: (43,_):: _)(L':=_)rfl rfl(J.call fn106 rfl rfl fun w hH=>(l01Degree_c had Fe43 hn hd(by omega)hH).mono ?_)));rintro _ w⟨rfl,hH⟩;refine⟨_,rfl,fun a hF=>J.of hF hH ?_⟩;refine J.nil(EJ.still(JS.op(PR.move rfl)rfl(JS.op(PR.extract rfl rfl)rfl(JS.op(PR.extract rfl rfl)rfl(JS.op(PR.assign rfl)rfl(JS.op(PR.assign rfl)rfl(JS.nil(EJ.thenN(hK14(CJ.seq fun _ hK15 _=>(CJ.region(J.p(PR.move rfl)rfl(J.p(PR.not rfl)rfl(J.p(PR.move rfl)rfl(J.splitB(jd:=49)rfl(fun h49=>?_)(fun h49=>?_))))))))))))))))
     ·
      try have h49p:=of_decide_eq_true h49
      refine J.gn rfl rfl rfl h49(J.gn rfl rfl rfl h49(J.gn rfl rfl rfl h49(J.gn rfl rfl rfl h49(J.gn rfl rfl rfl h49(J.gn rfl rfl rfl h49(J.gn rfl rfl rfl h49(J.gn rfl rfl rfl h49(J.gn rfl rfl rfl h49(J.gu rfl rfl rfl(J.gu rfl rfl rfl(J.gu rfl rfl rfl(J.gu rfl rfl rfl(J.gu rfl rfl rfl(J.gu rfl rfl rfl ?_))))))))))))));refine J.gu rfl rfl rfl(J.gu rfl rfl rfl(J.gn rfl rfl rfl h49(J.p(PR.pickT rfl h49 rfl)rfl(J.nil(EJ.thenN(hK15(CJ.condT rfl(CJ.seq fun _ hK16 _=>(CJ.region(J.p(PR.assign rfl)rfl(J.nil(EJ.thenN(hK16(CJ.ret(EJ.inR(EJ.thenR ?_))))))))))))))));refine EJ.thenR(EJ.inR(EJ.thenR(EJ.ret1 rfl(Res.tmp rfl)fun w hH=>?_)));replace hH:=hH.tail;exact⟨rb(by unfold isAlg;rw [imsOk_bad(i:=i)(by omega)(imOk_no2(by simpa using h49))];simp),hH⟩
     ·
      try have h49p:=of_decide_eq_false h49
      refine J.gy(PR.fldA u35 rfl sz33 rfl)rfl rfl rfl h49(J.gy(PR.load rfl At.z rfl pl33)rfl rfl rfl h49(J.gy(PR.move rfl)rfl rfl rfl h49(J.gy(PR.idx1 u33 sz39 rfl rfl rfl(by omega)haf.sm)rfl rfl rfl h49(J.gy(PR.fldP u39 rfl sz37 rfl(haf.sm(i:=i)(by omega)))rfl rfl rfl h49 ?_))));obtain⟨qe55,ce55,he55,le55,Fe55⟩:= haf i(by omega);refine J.gy(PR.loadH rfl he55 pl37)rfl rfl rfl h49(J.gy(PR.lenSlice u37 rfl rfl)rfl rfl rfl h49(J.gy(PR.gtr rfl rfl)rfl rfl rfl h49(J.gy(PR.move rfl)rfl rfl rfl h49(J.splitB(jd:=58)rfl(fun h58=>?_)(fun h58=>?_)))))
      ·
       try have h58p:=of_decide_eq_true h58
       refine J.gy(PR.move rfl)rfl rfl rfl h58(J.gy(PR.fldA u35 rfl sz22 rfl)rfl rfl rfl h58(J.gy(PR.load rfl At.z rfl pl22)rfl rfl rfl h58(J.gy(PR.move rfl)rfl rfl rfl h58(J.gy(PR.idx1 u22 sz2 rfl rfl rfl(by omega)had.sm)rfl rfl rfl h58(J.gy(PR.loadH rfl(had _(by omega))pl2)rfl rfl rfl h58(J.gy(PR.add rfl rfl(by first | exact nw _(by omega)| rfl))rfl rfl rfl h58(J.gy(PR.neq rfl rfl)rfl rfl rfl h58(J.gy(PR.pickT rfl h58 rfl)rfl rfl rfl h49(J.p(PR.pickF rfl h49 rfl)rfl(J.nil(EJ.thenN(hK15(CJ.condD rfl(fun h68=>?_)(fun h68=>?_))))))))))))))
       ·
        refine CJ.seq fun _ hK17 _=>(CJ.region(J.p(PR.assign rfl)rfl(J.nil(EJ.thenN(hK17(CJ.ret(EJ.inR(EJ.thenR(EJ.thenR(EJ.inR(EJ.thenR(EJ.ret1 rfl(Res.tmp rfl)fun w hH=>?_))))))))))));replace hH:=hH.tail;exact⟨rb(by unfold isAlg;rw [imsOk_bad(i:=i)(by omega)(imOk_no3(fun e=>(degF_neg hn hd(haf.wfss.fm i)(by simpa using h49)).1 e(by omega))h68)];simp),hH⟩
       ·
        refine CJ.skip(EJ.inN(EJ.thenN(hK10(CJ.region(J.p(PR.move rfl)rfl(J.p(PR.add rfl rfl(by first | exact nw _(by omega)| rfl))rfl(J.p(PR.assign rfl)rfl(J.nil(EJ.thenN ?_)))))))));exact hAg0(i+1)⟨by omega,upto hI(imOk_yes hfo(by simpa using h49)(.inr(Decidable.not_not.1 h68)))⟩(by omega)53 rfl rfl⟨rfl,trivial⟩rfl rfl
      ·
       try have h58p:=of_decide_eq_false h58
       refine J.gn rfl rfl rfl h58(J.gn rfl rfl rfl h58(J.gn rfl rfl rfl h58(J.gn rfl rfl rfl h58(J.gn rfl rfl rfl h58(J.gn rfl rfl rfl h58(J.gn rfl rfl rfl h58(J.gn rfl rfl rfl h58(J.gy(PR.pickF rfl h58 rfl)rfl rfl rfl h49(J.p(PR.pickF rfl h49 rfl)rfl(J.nil(EJ.thenN(hK15(CJ.condF rfl(CJ.skip(EJ.inN ?_)))))))))))))));refine EJ.thenN(hK10(CJ.region(J.p(PR.move rfl)rfl(J.p(PR.add rfl rfl(by first | exact nw _(by omega)| rfl))rfl(J.p(PR.assign rfl)rfl(J.nil(EJ.thenN ?_)))))));exact hAg0(i+1)⟨by omega,upto hI(imOk_yes hfo(by simpa using h49)(.inl((degF_neg hn hd(haf.wfss.fm i)(by simpa using h49)).2 (by omega))))⟩(by omega)53 rfl rfl⟨rfl,trivial⟩rfl rfl
   ·
    have hM9:=imsOk_good(ds:=ad)(fs:=af)(fun j hj=>hI j(by omega));have hA:=AlgOk.of hD hlen hM9 haf.wfss;refine CJ.exit(EJ.thenE(EJ.thenE(EJ.inE(EJ.thenN(hK6(CJ.seq fun _ hK18 _=>(CJ.seq fun _ hK19 _=>(CJ.region(J.p(PR.assign rfl)rfl(J.nil(EJ.thenN(hK19(CJ.block(CJ.loopU(σ:=Nat)(fun(k:Nat)=> [(6,.int .i64(k:Int))])(fun(k:Nat)=> H)(fun(k:Nat)=> obj g1(.cells [.slice qad ad.length cad,.slice qaf af.length caf].toArray 35 (0,0)):: L)(fun(k:Nat)=> k≤af.length∧∀j,j<k→(dS ad af(toS(fm af j))).length=0)(fun(k:Nat)=> af.length - k)0 ⟨by omega,fun j hj=>by omega⟩⟨rfl,trivial⟩rfl rfl ?_))))))))))))));rintro k⟨hk,hJ⟩_ hAg1;refine CJ.seq fun _ hK20 _=>(CJ.seq fun _ hK21 _=>(CJ.region(J.p(PR.move rfl)rfl(J.p(PR.fldA u35 rfl sz33 rfl)rfl(J.p(PR.load rfl At.z rfl pl33)rfl(J.p(PR.lenSlice u33 rfl rfl)rfl(J.p(PR.lss rfl rfl)rfl(J.nil(EJ.thenN(hK21(CJ.condD rfl(fun h73=>?_)(fun h73=>?_))))))))))))
    ·
     have hkl:k<af.length:=by omega
     refine CJ.skip(EJ.thenN(hK20(CJ.seq fun _ hK22 _=>(CJ.block(CJ.seq fun _ hK23 _=>(CJ.head [[], [], [1], [], [2,3], [4]] (by kernel_rfl)(HJ.op(fun gh=>PR.loadAll rfl At.z(by simpa [*] using ag35))(HJ.op(fun gh=>PR.fldA u35 rfl sz33 rfl)(HJ.op(fun gh=>PR.load rfl At.z rfl pl33)(HJ.op(fun gh=>PR.move rfl)(HJ.op(fun gh=>PR.idx1 u33 sz39 rfl rfl rfl(by omega)haf.sm)?_)))))))))));obtain⟨qe81,ce81,he81,le81,Fe81⟩:= haf k(by omega);refine HJ.op(fun gh=>PR.loadHagg(cs:=[_])rfl(one_cell he81)(haf.sm(i:=k)(by omega))ag39)(HJ.close 6 1 foll0(by kernel_rfl)rfl rfl fun gh=>(J.conv(us':=(76,_):: (77,_):: (78,_):: (79,_):: (80,_):: (81,_):: _)(L':=_)rfl rfl(J.call fn107 rfl rfl fun w hH=>(l02D_c had haf Fe81 hn hd hA.fok hA.hl hA.kex(hA.fok k hkl).1 (hA.kex k hkl)(by omega)hA.len(hA.len k hkl)hH).mono ?_)));rintro _ w⟨qo82,co82,rfl,hH⟩;refine⟨_,rfl,fun a hF=>J.of hF hH ?_⟩;refine J.nil(EJ.still(JS.op(PR.fieldV u39 rfl pl37 rfl rfl)rfl(JS.op(PR.lenSlice u37 rfl rfl)rfl(JS.op(PR.gtr rfl rfl)rfl(JS.nil(EJ.thenN(hK23(CJ.condD rfl(fun h85=>?_)(fun h85=>?_)))))))))
     ·
      refine CJ.seq fun _ hK24 _=>(CJ.region(J.p(PR.assign rfl)rfl(J.nil(EJ.thenN(hK24(CJ.ret(EJ.inR(EJ.thenR(EJ.thenR(EJ.inR(EJ.thenR(EJ.ret1 rfl(Res.tmp rfl)fun w hH=>?_))))))))))));replace hH:=hH.tail;replace hH:=hH.tail;exact⟨rb(by unfold isAlg;rw [noD_bad(i:=k)(by omega)(by rw [ofS_len] at h85;omega)];simp),hH⟩
     ·
      refine CJ.skip(EJ.inN(EJ.thenN(hK22(CJ.region(J.p(PR.move rfl)rfl(J.p(PR.add rfl rfl(by first | exact nw _(by omega)| rfl))rfl(J.p(PR.assign rfl)rfl(J.nil(EJ.thenN(EJ.drop .z ?_))))))))));exact hAg1(k+1)⟨by omega,upto hJ(by rw [ofS_len] at h85;omega)⟩(by omega)19 rfl rfl⟨rfl,trivial⟩rfl rfl
    ·
     refine CJ.exit(EJ.thenE(EJ.thenE(EJ.inE(EJ.thenN(hK18(CJ.seq fun _ hK25 _=>(CJ.region(J.p(PR.assign rfl)rfl(J.nil(EJ.thenN(hK25(CJ.ret(EJ.ret1 rfl(Res.tmp rfl)fun w hH=>?_)))))))))))));replace hH:=hH.tail;exact⟨rb(by unfold isAlg;rw [hD,decide_eq_true hlen,hM9,noD_good(fun j hj=>hJ j(by omega))];rfl),hH⟩
def noDf(ds:List Int)(fs:List(List Term))(ts:List Term): Bool:=decide((dS ds fs(toS ts)).length>0)
theorem noD_any {ds:List Int}{fs:List(List Term)}: noD ds fs = !(fs.any(noDf ds fs)):= by
 cases h:fs.any(noDf ds fs)with
 | true=>
  obtain⟨x,hx,hp⟩:= List.any_eq_true.1 h;obtain⟨j,hj,rfl⟩:= List.mem_iff_getElem.1 hx;rw [fm_eq hj] at hp;rw [noD_bad hj(by unfold noDf at hp;have:=of_decide_eq_true hp;omega)]
  rfl
 | false=>
  rw [noD_good fun j hj=>by
   have:=List.any_eq_false.1 h _(fm_mem hj);unfold noDf at this;rw [decide_eq_true_eq] at this
   omega]
  rfl
set_option maxRecDepth 10000 in
theorem IsAlgebra1_c {B:World}{H0 H:HP}{L:List SA}{w:World}{qts:Option Addr}{cts:Nat}{ts:List Term}{ba:Nat}{qad qaf:Option Addr}{cad caf:Nat}{ad:List Int}{af:List(List Term)}{Mi Ms:Int}(hts:Terms H qts ts)(pad:CellAt H ba 0 (.slice qad ad.length cad))(paf:CellAt H ba 1 (.slice qaf af.length caf))(had:Ints H qad ad)(haf:Forms H qaf af)(hn:ad.length≤8)(hd : ∀j,0≤ad.getD j 0∧ad.getD j 0≤12)(hf:Fok Mi af)(hl:af.length=ad.length)(hs:Sok Ms(toS ts))(ho:Occ af.length(toS ts))(hM:0≤Mi∧Ms+Mi+Ms≤1000000)(hll:ts.length≤1000000000)(hH:Hp B H0 H L w): Calls Tryz.prog 176 [.agg [.slice qts ts.length cts].toArray,.pointer(some⟨ba,0,none⟩)].toArray w fun e w'=>e=.returned(.bool(noDf ad af ts))∧Hp B H0 H L w':=by
 refine CJ.enter Tryz.func176 rfl 9 rfl rfl [(0,.agg [.slice qts ts.length cts].toArray),(1,.pointer(some⟨ba,0,none⟩))] rfl hH ?_;clear hH;refine CJ.seq fun _ hK1 _=>(CJ.region(J.box rfl rfl rfl fun g2=>(J.p(PR.assign rfl)rfl(J.nil(EJ.thenN(hK1(CJ.seq fun _ hK2 _=>(CJ.region(J.p(PR.loadAll rfl At.z(by simpa [*] using ag39))rfl(J.call fn62 rfl rfl fun w hH=>(sumOf_c hts hs(by omega)hH).mono ?_))))))))));rintro _ w⟨bo5,rfl,hH⟩;refine⟨_,rfl,fun a hF=>J.of hF hH ?_⟩;refine J.call fn164 rfl rfl fun w hH=>hH.lend .z fun Hl1 hle1 hA1 hB1 hH=>(d_c(pad.le hle1)(paf.le hle1)(had.le hle1)(haf.le hle1)(omap_H hA1)hs hn hd hf hl ho hM hH).mono ?_;rintro _ w⟨bo6,rfl,hH⟩;replace hH:=hB1 _ _ hH;refine⟨_,rfl,fun a hF=>J.of hF hH ?_⟩;refine J.p(PR.lenO u84 rfl(.s .z)rfl)rfl(J.p(PR.gtr rfl rfl)rfl(J.p(PR.assign rfl)rfl(J.nil(EJ.thenN(hK2(CJ.ret(EJ.ret1 rfl(Res.tmp rfl)fun w hH=>?_)))))));replace hH:=hH.tail;replace hH:=hH.tail;replace hH:=hH.tail;exact⟨rb(by unfold noDf;exact decide_eq_decide.2(by omega)),hH⟩
set_option maxHeartbeats 4000000 in
set_option maxRecDepth 10000 in theorem IsAlgebra_c {B:World}{H0 H:HP}{L:List SA}{w:World}{qad qaf:Option Addr}{cad caf:Nat}{ad:List Int}{af:List(List Term)}(had:Ints H qad ad)(haf:Forms H qaf af)(hn8:ad.length≤1048576)(hn9:af.length≤1048576)(hl9 : ∀i,i<af.length→(fm af i).length≤1048576)(hH:Hp B H0 H L w): Calls Tryz.prog 132 [.agg [.slice qad ad.length cad,.slice qaf af.length caf].toArray].toArray w fun e w'=>e=.returned(.bool(isAlg ad af))∧Hp B H0 H L w':=by
 refine CJ.enter Tryz.func132 rfl 50 rfl rfl [(0,.agg [.slice qad ad.length cad,.slice qaf af.length caf].toArray)] rfl hH ?_;have hw0:=hH.old;have hw1:=hH.le;clear hH;refine CJ.seq fun _ hK1 _=>(CJ.region(J.box rfl rfl rfl fun g1=>(J.p(PR.assign rfl)rfl(J.nil(EJ.thenN(hK1(CJ.seq fun _ hK2 _=>(CJ.seq fun _ hK3 _=>(CJ.region(J.p(PR.fldA u35 rfl sz22 rfl)rfl(J.p(PR.load rfl At.z rfl pl22)rfl(J.call fn174 rfl rfl fun w hH=>(AreDegrees_c had(by omega)hH).mono ?_))))))))))));rintro _ w⟨rfl,hH⟩;refine⟨_,rfl,fun a hF=>J.of hF hH ?_⟩;refine J.p(PR.not rfl)rfl(J.p(PR.move rfl)rfl(J.splitB(jd:=9)rfl(fun hg9=>?_)(fun hg9=>?_)))
 ·
  try have hg9p:=of_decide_eq_true hg9
  refine J.gn rfl rfl rfl hg9(J.gn rfl rfl rfl hg9(J.gn rfl rfl rfl hg9(J.gn rfl rfl rfl hg9(J.gn rfl rfl rfl hg9(J.gn rfl rfl rfl hg9(J.gn rfl rfl rfl hg9(J.p(PR.pickT rfl hg9 rfl)rfl(J.nil(EJ.thenN(hK3(CJ.condT rfl(CJ.seq fun _ hK4 _=>(CJ.region(J.p(PR.assign rfl)rfl(J.nil ?_)))))))))))))));refine EJ.thenN(hK4(CJ.ret(EJ.thenR(EJ.ret1 rfl(Res.tmp rfl)fun w hH=>?_))));replace hH:=hH.tail;exact⟨rb(by unfold isAlg;rw [show isDeg ad=false by simpa using hg9];rfl),hH⟩
 ·
  try have hg9p:=of_decide_eq_false hg9
  refine J.gy(PR.fldA u35 rfl sz33 rfl)rfl rfl rfl hg9(J.gy(PR.load rfl At.z rfl pl33)rfl rfl rfl hg9(J.gy(PR.lenSlice u33 rfl rfl)rfl rfl rfl hg9(J.gy(PR.fldA u35 rfl sz22 rfl)rfl rfl rfl hg9(J.gy(PR.load rfl At.z rfl pl22)rfl rfl rfl hg9(J.gy(PR.lenSlice u22 rfl rfl)rfl rfl rfl hg9(J.gy(PR.neq rfl rfl)rfl rfl rfl hg9(J.p(PR.pickF rfl hg9 rfl)rfl(J.nil(EJ.thenN(hK3(CJ.condD rfl(fun hc19=>?_)(fun hc19=>?_))))))))))))
  ·
   refine CJ.seq fun _ hK5 _=>(CJ.region(J.p(PR.assign rfl)rfl(J.nil(EJ.thenN(hK5(CJ.ret(EJ.thenR(EJ.ret1 rfl(Res.tmp rfl)fun w hH=>?_))))))));replace hH:=hH.tail;exact⟨rb(by unfold isAlg;rw [decide_eq_false(show ¬af.length=ad.length by omega)];simp),hH⟩
  ·
   have hD:isDeg ad=true:=by simpa using hg9
   have hn:=isDeg_len hD;have hd:=isDeg_bd hD
   have hlen:af.length=ad.length:=by omega
   have hpos9 : ∀j,j<ad.length→0≤ad.getD j 0:=fun j _=>(hd j).1;refine CJ.skip(EJ.thenN(hK2(CJ.seq fun _ hK6 _=>(CJ.seq fun _ hK7 _=>(CJ.region(J.p(PR.fldA u35 rfl sz33 rfl)rfl(J.p(PR.load rfl At.z rfl pl33)rfl(J.p(PR.lenSlice u33 rfl rfl)rfl(J.p(PR.move rfl)rfl(J.nil(EJ.thenN(hK7(CJ.block(CJ.loopU(σ:=Nat)(fun(k:Nat)=> [(21,.int .i64(k:Int))])(fun(k:Nat)=> H)(fun(k:Nat)=> obj g1(.cells [.slice qad ad.length cad,.slice qaf af.length caf].toArray 35 (0,0)):: L)(fun(k:Nat)=> k≤af.length∧∀j,j<k→imOk ad af j=true)(fun(k:Nat)=> af.length - k)0 ⟨by omega,fun j hj=>by omega⟩⟨rfl,trivial⟩rfl rfl ?_))))))))))))));rintro k⟨hk,hI⟩_ hAg0;refine CJ.seq fun _ hK8 _=>(CJ.region(J.p(PR.lss rfl rfl)rfl(J.nil(EJ.thenN(hK8(CJ.seq fun _ hK9 _=>(CJ.condD rfl(fun hc24=>?_)(fun hc24=>?_))))))))
   ·
    have hl0:=hl9 k(by omega);have hdi:=hd k;refine CJ.skip(EJ.thenN(hK9(CJ.seq fun _ hK10 _=>(CJ.block(CJ.seq fun _ hK11 _=>(CJ.region(J.p(PR.move rfl)rfl(J.p(PR.idx1 u33 sz39 rfl rfl rfl(by omega)haf.sm)rfl ?_))))))));obtain⟨qe25,ce25,he25,le25,Fe25⟩:= haf k(by omega);refine J.p(PR.loadHagg(cs:=[_])rfl(one_cell he25)(haf.sm(i:=k)(by omega))ag39)rfl(J.alloc ze39 rfl fun g4=>(J.p(PR.assign rfl)rfl(J.storeAll rfl rfl(by first | exact bytesC_one _ | exact intsC_one _ | exact Term.c_one _ | simp [Value.oneCell'])(by simpa [*] using sz39)(by simp [*])At.z(J.nil(EJ.thenN(hK11(CJ.seq fun _ hK12 _=>(CJ.head [[], [0], [], [1,2], [3], [4], [5], [6,5], [5], [5], [9,5], [5], [10,11,5], [12,5], [13,5]] (by kernel_rfl)(HJ.op(fun gh=>PR.fldA u35 rfl sz22 rfl)(HJ.op(fun gh=>PR.load rfl(.s .z)rfl pl22)(HJ.op(fun gh=>PR.loadAll rfl At.z(by simpa [*] using ag39))(HJ.call fn135(fun gh=>rfl)(fun w X hH=>isForm_c had Fe25(by omega)(by omega)hH)(HJ.op(fun gh=>PR.not rfl)(HJ.op(fun gh=>PR.move rfl)(HJ.splitB 5 rfl(fun h31=>?_)(fun h31=>?_))))))))))))))))
    ·
     try have h31p:=of_decide_eq_true h31
     refine HJ.gn rfl(fun gh=>rfl)h31(HJ.gn rfl(fun gh=>rfl)h31(HJ.gn rfl(fun gh=>rfl)h31(HJ.gn rfl(fun gh=>rfl)h31(HJ.gn rfl(fun gh=>rfl)h31(HJ.gn rfl(fun gh=>rfl)h31(HJ.gn rfl(fun gh=>rfl)h31(HJ.gn rfl(fun gh=>rfl)h31(HJ.gn rfl(fun gh=>rfl)h31(HJ.close 15 1 foll0(by kernel_rfl)rfl rfl fun gh=>(J.conv(us':=(26,_):: (27,_):: (28,_):: (29,_):: (30,_):: (31,_):: (32,_):: (33,_):: (34,_):: (35,_):: (36,_):: (37,_):: (38,_):: (39,_):: (40,_):: _)(L':=_)rfl rfl(J.gn rfl rfl rfl h31(J.nil(EJ.still(JS.gn rfl rfl rfl h31 ?_))))))))))))));refine JS.op(PR.pickT rfl h31 rfl)rfl(JS.nil(EJ.thenN(hK12(CJ.condT rfl(CJ.seq fun _ hK13 _=>(CJ.region(J.p(PR.assign rfl)rfl(J.nil(EJ.thenN(hK13(CJ.ret(EJ.inR(EJ.thenR(EJ.thenR(EJ.inR(EJ.thenR ?_))))))))))))))));refine EJ.ret1 rfl(Res.tmp rfl)fun w hH=>?_;replace hH:=hH.tail;replace hH:=hH.tail;exact⟨rb(by unfold isAlg;rw [imsOk_bad(i:=k)(by omega)(imOk_no1(by simpa using h31))];simp),hH⟩
    ·
     try have h31p:=of_decide_eq_false h31
     refine HJ.gy(fun gh=>PR.fldA u35 rfl sz22 rfl)rfl(fun gh=>rfl)h31(HJ.gy(fun gh=>PR.load rfl(.s .z)rfl pl22)rfl(fun gh=>rfl)h31(HJ.gy(fun gh=>PR.loadAll rfl At.z(by simpa [*] using ag39))rfl(fun gh=>rfl)h31(HJ.gy(fun gh=>PR.fldA u35 rfl sz22 rfl)rfl(fun gh=>rfl)h31(HJ.gy(fun gh=>PR.load rfl(.s .z)rfl pl22)rfl(fun gh=>rfl)h31(HJ.gy(fun gh=>PR.move rfl)rfl(fun gh=>rfl)h31(HJ.gy(fun gh=>PR.idx1 u22 sz2 rfl rfl rfl(by omega)had.sm)rfl(fun gh=>rfl)h31(HJ.gy(fun gh=>PR.loadH rfl(had _(by omega))pl2)rfl(fun gh=>rfl)h31(HJ.gy(fun gh=>PR.add rfl rfl(by first | exact nw _(by omega)| rfl))rfl(fun gh=>rfl)h31(HJ.close 15 1 foll0(by kernel_rfl)rfl rfl fun gh=>(J.conv(us':=(26,_):: (27,_):: (28,_):: (29,_):: (30,_):: (31,_):: (32,_):: (33,_):: (34,_):: (35,_):: (36,_):: (37,_):: (38,_):: (39,_):: (40,_):: _)(L':=_)rfl rfl(J.gcall fn175 rfl rfl h31 rfl rfl fun w hH=>(isOfDegree_c had Fe25 hn hd(by omega)hH).mono ?_)))))))))));rintro _ w⟨rfl,hH⟩;refine⟨_,rfl,fun a hF=>J.of hF hH ?_⟩;refine J.nil(EJ.still(JS.gy(PR.not rfl)rfl rfl rfl h31(JS.op(PR.pickF rfl h31 rfl)rfl(JS.nil(EJ.thenN(hK12(CJ.cond rfl(fun h43=>?_)(fun h43=>?_))))))))
     ·
      refine CJ.seq fun _ hK14 _=>(CJ.region(J.p(PR.assign rfl)rfl(J.nil(EJ.thenN(hK14(CJ.ret(EJ.inR(EJ.thenR(EJ.thenR(EJ.inR(EJ.thenR(EJ.ret1 rfl(Res.tmp rfl)fun w hH=>?_))))))))))));replace hH:=hH.tail;replace hH:=hH.tail;exact⟨rb(by unfold isAlg;rw [imsOk_bad(i:=k)(by omega)(by unfold imOk;rw [show degOk ad(fm af k)(ad.getD k 0+1)= false by simpa using h43];simp)];simp),hH⟩
     ·
      refine CJ.skip(EJ.inN(EJ.thenN(hK10(CJ.region(J.p(PR.add rfl rfl(by first | exact nw _(by omega)| rfl))rfl(J.p(PR.move rfl)rfl(J.nil(EJ.thenN(EJ.drop .z ?_)))))))));exact hAg0(k+1)⟨by omega,upto hI(by unfold imOk;rw [show isForm ad(fm af k)= true by simpa using h31,show degOk ad(fm af k)(ad.getD k 0+1)= true by simpa using h43];rfl)⟩(by omega)27 rfl rfl⟨rfl,trivial⟩rfl rfl
   ·
    have hM9:=imsOk_good(ds:=ad)(fs:=af)(fun j hj=>hI j(by omega));have hA:=AlgOk.of hD hlen hM9 haf.wfss;refine CJ.exit(EJ.thenE(EJ.thenE(EJ.inE(EJ.thenN(hK6(CJ.seq fun _ hK15 _=>(CJ.region(J.p(PR.fldA u35 rfl sz33 rfl)rfl(J.p(PR.load rfl At.z rfl pl33)rfl(J.p(PR.makeFunc(ys:=[])(zs:=[_])rfl rfl)rfl(J.freezeRow .z fun H3 hle3 hc3=>?_)))))))))));have had3:=had.le hle3;have haf3:=haf.le hle3;have hcl:ClF B H0 H3 176 #[.pointer(some⟨g1,0,none⟩)] (fun ts=>isForm ad ts=true∧Wfs ts)(noDf ad af):= fun H' L w q c x hle hS hx hH=>IsAlgebra1_c(Mi:=20)(Ms:=20)hx(CellAt.le(hc3 0 _ rfl)hle)(CellAt.le(hc3 1 _ rfl)hle)(had3.le hle)(haf3.le hle)hn hd hA.fok hA.hl(isForm_sok hS.2 hS.1)(Ex.occ(isForm_kex hd hn hS.2 hS.1)hA.hl)(by omega)(by have:=isForm_len4 hS.1;omega)hH;refine J.call fn133 rfl rfl fun w hH=>(ContainsFuncF_c haf3 fn176 hcl(by omega)(fun i hi=>⟨hA.ok i hi,hA.wf.fm i⟩)hH).mono ?_;rintro _ w⟨rfl,hH⟩;refine⟨_,rfl,fun a hF=>J.of hF hH ?_⟩;refine J.p(PR.not rfl)rfl(J.p(PR.assign rfl)rfl(J.nil(EJ.thenN(hK15(CJ.ret(EJ.ret1 rfl(Res.tmp rfl)fun w hH=>?_))))));exact⟨rb(by unfold isAlg;rw [hD,decide_eq_true hlen,hM9,noD_any];rfl),hH.weaken hle3 hw0 hw1⟩
end Go.Proofs.YthenedanhcnccaaGreat.G
namespace Go.Proofs.YthenedanhcnccaaGreat.G
open Go Go.RowKit
theorem u23:Tryz.prog.underlying 23=some(TypeDesc.slice 28):= by kernel_rfl
theorem u25:Tryz.prog.underlying 25=some(TypeDesc.struct #[{name:="Degrees",type:=22,offset:=0,embedded:=false,tag:="",pkgPath:="",byteOffset:=0},{name:="Images",type:=23,offset:=1,embedded:=false,tag:="",pkgPath:="",byteOffset:=24}]):= by kernel_rfl
theorem sz23:Size Tryz.prog 23 1:=by unfold Size;kernel_rfl
theorem sz28:Size Tryz.prog 28 1:=by unfold Size;kernel_rfl
theorem sz35:Size Tryz.prog 35 2:=by unfold Size;kernel_rfl
theorem by39:Bytes Tryz.prog 39 24:=by unfold Bytes;kernel_rfl
theorem ze35:Zero Tryz.prog 35 [.slice none 0 0,.slice none 0 0]:=by unfold Zero;kernel_rfl
theorem pl23:Plain Tryz.prog 23:=⟨_,u23,rfl⟩
theorem ag28:Agg Tryz.prog 28 1:=⟨_,u28,rfl,by kernel_rfl⟩
theorem fn15:Fn Tryz.prog 15:=⟨_,Tryz.func15,by kernel_rfl,rfl⟩
theorem fn18:Fn Tryz.prog 18:=⟨_,Tryz.func18,by kernel_rfl,rfl⟩
theorem fn42:Fn Tryz.prog 42:=⟨_,Tryz.func42,by kernel_rfl,rfl⟩
theorem fn44:Fn Tryz.prog 44:=⟨_,Tryz.func44,by kernel_rfl,rfl⟩
theorem fn54:Fn Tryz.prog 54:=⟨_,Tryz.func54,by kernel_rfl,rfl⟩
theorem fn58:Fn Tryz.prog 58:=⟨_,Tryz.func58,by kernel_rfl,rfl⟩
def szv(x:Int): Int:=if x<0 then -1 else x
def updV(vs:Vs)(k:Nat)(x:Option Addr × Nat): Vs:=fun j=>if j=k then x else vs j
theorem ownTs_congr {T:TypeId}: ∀{gs:List(List Term)}{vs vs':Vs},(∀j,j<gs.length→vs j=vs' j)→ownTs T vs gs=ownTs T vs' gs
 | [],_,_,_=>rfl
 | g::gs,vs,vs',h=>by
  have h0:=h 0 (by simp)
  have ih:=ownTs_congr(T:=T)(gs:=gs)(vs:=vs.tl)(vs':=vs'.tl)fun j hj=>h(j+1)(by simpa using hj)
  simp only [ownTs,h0,ih]
theorem slicesC_congr : ∀{gs:List(List Term)}{vs vs':Vs},(∀j,j<gs.length→vs j=vs' j)→slicesC vs gs=slicesC vs' gs
 | [],_,_,_=>rfl
 | g::gs,vs,vs',h=>by
  have h0:=h 0 (by simp)
  have ih:=slicesC_congr(gs:=gs)(vs:=vs.tl)(vs':=vs'.tl)fun j hj=>h(j+1)(by simpa using hj)
  simp only [slicesC,h0,ih]
theorem slicesC_app : ∀(vs:Vs)(gs:List(List Term))(f:List Term),slicesC vs(gs++[f])= slicesC vs gs++[.slice(vs gs.length).1 f.length(vs gs.length).2]
 | vs, [],f=>rfl
 | vs,g::gs,f=>by
  simp only [List.cons_append,slicesC]
  rw [slicesC_app vs.tl gs f]
  rfl
theorem take_fm {fs:List(List Term)}{k:Nat}(hk:k<fs.length): fs.take(k+1)= fs.take k++[fm fs k]:=by
 rw [List.take_succ_eq_append_getElem hk,fm_eq hk]
def fillF(vs:Vs)(fs:List(List Term))(k:Nat): List Value:=slicesC vs(fs.take k)++ List.replicate(fs.length - k)(.slice none 0 0)
@[simp] theorem fillF_len {vs:Vs}{fs:List(List Term)}{k:Nat}(hk:k≤fs.length): (fillF vs fs k).length=fs.length:=by simp [fillF];omega
theorem slicesC_upd {vs:Vs}{fs:List(List Term)}{k:Nat}(hk:k<fs.length)(x:Option Addr × Nat): slicesC(updV vs k x)(fs.take(k+1))= slicesC vs(fs.take k)++ [.slice x.1(fm fs k).length x.2]:=by
 have hl:(fs.take k).length=k:=List.length_take_of_le(by omega);rw [take_fm hk,slicesC_app,hl,slicesC_congr(vs':=vs)fun j hj=>by unfold updV;rw [if_neg(by omega)]]
 simp [updV]
theorem fillF_step {vs:Vs}{fs:List(List Term)}{k:Nat}(hk:k<fs.length)(q:Option Addr)(c:Nat): (fillF vs fs k).take k++[.slice q(fm fs k).length c]++(fillF vs fs k).drop(k+1)= fillF(updV vs k(q,c))fs(k+1):= by
 have hl:(slicesC vs(fs.take k)).length=k:=by simp;omega
 unfold fillF;rw [slicesC_upd hk,List.take_append_of_le_length(by omega),List.take_of_length_le(by omega),List.drop_append,List.drop_of_length_le(by omega),List.nil_append,hl,List.drop_replicate]
 congr 2
 omega
theorem fillF_end(vs:Vs)(fs:List(List Term)): fillF vs fs fs.length=slicesC vs fs:=by simp [fillF]
theorem flat1(z:Value): ∀m,(List.replicate m [z]).flatten=List.replicate m z
 | 0=>rfl
 | m+1=>by rw [List.replicate_succ,List.replicate_succ,List.flatten_cons,flat1 z m];rfl
section
variable {P : Program} {ops : Array Oper} {Q : Exit → Act → World → Prop} {n : Nat} {B : World} {H0 H : HP} {rest : List Oper} {us : List (Nat × Value)} {L : List SA} {t : TypeId} {p : String} {af : Array Edge} {d : Nat} {x y : Operand} {R : Act → World → Prop}
theorem J.makeSl(T:TypeId){ty e:TypeId}{k k':IntKind}{i j:Int}{m:Nat}(hu:P.underlying ty=some(.slice e))(hz:Zero P e [.slice none 0 0])(hs:Size P e 1)(hb:Bytes P e 24)(hx:opv us x=some(.int k i))(hy:opv us y=some(.int k' j))(hi:i=(m:Int))(hj:j=(m:Int))(hl:m≤1048576)(hd:Nat.blt d n=true)(hk : ∀g,J P ops Q n B H0 rest((d,.slice(some⟨g,0,none⟩)m m):: us)H(obj g(.cells(List.replicate m(.slice none 0 0)).toArray e(0,0)):: ownTs T nilVs []::L)): J P ops Q n B H0(⟨some d,.makeSlice ty x y,t,p,af,none⟩:: rest)us H L:=by
 refine J.make hu hz hs hb hx hy hi hj(Nat.le_refl _)(by omega)(by omega)hd fun g=>?_;rw [flat1];exact fun a w hF hH=>hk g a w hF(hH.emp.front(.s .z))
theorem EJ.tsSnoc {T:TypeId}{q:Option Addr}{c k:Nat}{fs:List(List Term)}{vs:Vs}(hk:k<fs.length)(h:EJ R n B H0 us H(ownTs T(updV vs k(q,c))(fs.take(k+1)):: L)): EJ R n B H0 us H(own T 9 q(fm fs k).length c(tsC(fm fs k)):: ownTs T vs(fs.take k):: L):= fun a w hF hH=>by
 have hl:(fs.take k).length=k:=List.length_take_of_le(by omega)
 rw [take_fm hk] at h
 refine h a w hF(Hp.fsOut ?_)
 rw [hl,show updV vs k(q,c)k=(q,c)by simp [updV],ownTs_congr(vs':=vs)fun j hj=>by unfold updV;rw [if_neg(by omega)]]
 exact hH
end
theorem tot_pre {fs:List(List Term)}{i:Nat}(hi:i≤fs.length): tot(fs.take i)≤tot fs:=by
 conv=>rhs;rw [← List.take_append_drop i fs,tot_app]
 omega
theorem tot_fm {fs:List(List Term)}{i:Nat}(hi:i<fs.length): (fm fs i).length≤tot fs:=by
 have h1:=tot_succ hi;have h2:=tot_pre(fs:=fs)(i:=i+1)hi
 omega
set_option maxRecDepth 10000 in
theorem toFormS_c {B:World}{H0 H:HP}{L:List SA}{w:World}{qfs:Option Addr}{cfs:Nat}{fs:List(List Term)}(hfs:Forms H qfs fs)(hn:fs.length≤1048576)(hl : ∀i,i<fs.length→(fm fs i).length≤1048576)(hH:Hp B H0 H L w): Calls Tryz.prog 44 [.slice qfs fs.length cfs].toArray w fun e w'=>∃q c vs,e=.returned(.slice q fs.length c)∧Hp B H0 H(ownFs 39 152 q c vs fs::L)w':=by
 refine CJ.enter Tryz.func44 rfl 23 rfl rfl [(0,.slice qfs fs.length cfs)] rfl hH ?_;clear hH;refine CJ.seq fun _ hK1 _=>(CJ.region(J.p(PR.assign rfl)rfl(J.nil(EJ.thenN(hK1(CJ.seq fun _ hK2 _=>(CJ.region(J.p(PR.move rfl)rfl(J.p(PR.lenSlice u23 rfl rfl)rfl(J.makeSl 152 (m:=fs.length)u33 ze39 sz39 by39 rfl rfl rfl rfl(by omega)rfl fun g7=>(J.p(PR.assign rfl)rfl(J.nil(EJ.thenN(hK2(CJ.seq fun _ hK3 _=>(CJ.seq fun _ hK4 _=>?_))))))))))))))));refine CJ.region(J.p(PR.assign rfl)rfl(J.nil(EJ.thenN(hK4(CJ.block(CJ.loopU(σ:=Vs × Nat)(fun⟨vs,k⟩=> [(4,.int .i64(k:Int))])(fun⟨vs,k⟩=> H)(fun⟨vs,k⟩=> obj g7(.cells(fillF vs fs k).toArray 39 (0,0)):: ownTs 152 vs(fs.take k):: L)(fun⟨vs,k⟩=> k≤fs.length)(fun⟨vs,k⟩=> fs.length - k)(nilVs,0)(by show 0≤fs.length;omega)⟨rfl,trivial⟩rfl(by simp [fillF,slicesC])?_))))));rintro⟨vs,k⟩hI _ hAg0;have hk:=hI;refine CJ.seq fun _ hK5 _=>(CJ.seq fun _ hK6 _=>(CJ.region(J.p(PR.move rfl)rfl(J.p(PR.move rfl)rfl(J.p(PR.lenSlice u23 rfl rfl)rfl(J.p(PR.lss rfl rfl)rfl(J.nil(EJ.thenN(hK6(CJ.condD rfl(fun h11=>?_)(fun h11=>?_)))))))))))
 ·
  have hlk:=hl k(by omega);refine CJ.skip(EJ.thenN(hK5(CJ.seq fun _ hK7 _=>(CJ.block(CJ.region(J.p(PR.move rfl)rfl(J.p(PR.move rfl)rfl(J.p(PR.move rfl)rfl(J.p(PR.move rfl)rfl(J.p(PR.idx1 u23 sz28 rfl rfl rfl(by omega)hfs.sm)rfl ?_))))))))));obtain⟨qe19,ce19,he19,le19,Fe19⟩:= hfs k(by omega);refine J.p(PR.loadHagg(cs:=[_])rfl(one_cell he19)(hfs.sm(i:=k)(by omega))ag28)rfl(J.call fn18 rfl rfl fun w hH=>(toForm_c Fe19(by omega)hH).mono ?_);rintro _ w⟨qo20,co20,rfl,hH⟩;refine⟨_,rfl,fun a hF=>J.of hF hH ?_⟩;refine J.p(PR.idxO1 u33 sz39 rfl rfl rfl(by omega))rfl(J.stores(vs:=[.slice qo20(fm fs k).length co20])rfl rfl rfl(by simp [Value.oneCell'])sz39(by rw [fillF_len(by omega)];simp;omega)(.s .z)(J.nil(EJ.inN(EJ.thenN(hK7(CJ.region(J.p(PR.move rfl)rfl(J.p(PR.add rfl rfl(by first | exact nw _(by omega)| rfl))rfl(J.p(PR.assign rfl)rfl(J.nil(EJ.thenN(EJ.front(.s .z)(EJ.front(.s(.s .z))(EJ.front(.s(.s .z))(EJ.tsSnoc(by omega)?_)))))))))))))));refine EJ.front .z(EJ.front(.s .z)?_);exact hAg0(updV vs k(qo20,co20),k+1)(by show k+1≤fs.length;omega)(by show fs.length - (k+1)< fs.length - k;omega)16 rfl rfl⟨rfl,trivial⟩rfl(by dsimp only;rw [← fillF_step(by omega)];rfl)
 ·
  refine CJ.exit(EJ.thenE(EJ.thenE(EJ.inE(EJ.thenN(hK3(CJ.seq fun _ hK8 _=>(CJ.region(J.p(PR.move rfl)rfl(J.p(PR.assign rfl)rfl(J.nil(EJ.thenN(hK8(CJ.ret(EJ.ret1 rfl(Res.tmp rfl)fun w hH=>?_))))))))))))));replace hH:=hH.sublist(.cons_cons _(.cons_cons _(List.Sublist.refl _)))
  obtain rfl:k=fs.length:=by omega
  rw [fillF_end,List.take_length] at hH;exact⟨_,_,_,rfl,(own_full _ 1 hH(by simp)(by simp only [maxLen];omega)).star⟩
set_option maxRecDepth 10000 in
theorem szFormS_c {B:World}{H0 H:HP}{L:List SA}{w:World}{qfs:Option Addr}{cfs:Nat}{fs:List(List Term)}{left:Int}(hfs:Forms H qfs fs)(hn:0≤left∧left≤1000000000∧fs.length≤9223372036854775807)(hl : ∀i,i<fs.length→(fm fs i).length≤9223372036854775807)(hH:Hp B H0 H L w): Calls Tryz.prog 42 [.slice qfs fs.length cfs,.int .i64 left].toArray w fun e w'=>e=.returned(.int .i64(szv(left - fs.length - tot fs)))∧Hp B H0 H L w':=by
 refine CJ.enter Tryz.func42 rfl 27 rfl rfl [(0,.slice qfs fs.length cfs),(1,.int .i64 left)] rfl hH ?_;clear hH;refine CJ.seq fun _ hK1 _=>(CJ.region(J.p(PR.assign rfl)rfl(J.nil(EJ.thenN(hK1(CJ.seq fun _ hK2 _=>(CJ.region(J.p(PR.move rfl)rfl(J.p(PR.move rfl)rfl(J.p(PR.lenSlice u23 rfl rfl)rfl(J.p(PR.sub rfl rfl(by first | exact nw _(by omega)| rfl))rfl(J.p(PR.assign rfl)rfl(J.nil(EJ.thenN(hK2(CJ.seq fun _ hK3 _=>?_))))))))))))))));refine CJ.seq fun _ hK4 _=>(CJ.region(J.p(PR.move rfl)rfl(J.p(PR.lss rfl rfl)rfl(J.nil(EJ.thenN(hK4(CJ.condD rfl(fun h11=>?_)(fun h11=>?_))))))))
 ·
  refine CJ.seq fun _ hK5 _=>(CJ.region(J.p(PR.assign rfl)rfl(J.nil(EJ.thenN(hK5(CJ.ret(EJ.thenR(EJ.ret1 rfl(Res.tmp rfl)fun w hH=>?_))))))));exact⟨ri(by unfold szv;rw [if_pos(by omega)]),hH⟩
 ·
  refine CJ.skip(EJ.thenN(hK3(CJ.seq fun _ hK6 _=>(CJ.seq fun _ hK7 _=>(CJ.region(J.p(PR.assign rfl)rfl(J.nil(EJ.thenN(hK7(CJ.block(CJ.loopU(σ:=Nat)(fun(k:Nat)=> [(5,.int .i64(k:Int)),(1,.int .i64(left - fs.length - tot(fs.take k)))])(fun(k:Nat)=> H)(fun(k:Nat)=> L)(fun(k:Nat)=> k≤fs.length∧0≤left - fs.length - tot(fs.take k))(fun(k:Nat)=> fs.length - k)0 ⟨by omega,by simp [tot];omega⟩⟨rfl,⟨(vi(by simp [tot])),trivial⟩⟩rfl rfl ?_)))))))))));rintro k⟨hk,hI⟩_ hAg0
  skip
  refine CJ.seq fun _ hK8 _=>(CJ.seq fun _ hK9 _=>(CJ.region(J.p(PR.move rfl)rfl(J.p(PR.move rfl)rfl(J.p(PR.lenSlice u23 rfl rfl)rfl(J.p(PR.lss rfl rfl)rfl(J.nil(EJ.thenN(hK9(CJ.condD rfl(fun h15=>?_)(fun h15=>?_)))))))))))
  ·
   have hlk:=hl k(by omega);have ts:=tot_succ(fs:=fs)(i:=k)(by omega);have tp:=tot_pre(fs:=fs)(i:=k+1)(by omega);refine CJ.skip(EJ.thenN(hK8(CJ.seq fun _ hK10 _=>(CJ.block(CJ.seq fun _ hK11 _=>(CJ.region(J.p(PR.move rfl)rfl(J.p(PR.move rfl)rfl(J.p(PR.idx1 u23 sz28 rfl rfl rfl(by omega)hfs.sm)rfl ?_)))))))));obtain⟨qe21,ce21,he21,le21,Fe21⟩:= hfs k(by omega);refine J.p(PR.loadHagg(cs:=[_])rfl(one_cell he21)(hfs.sm(i:=k)(by omega))ag28)rfl(J.p(PR.move rfl)rfl(J.call fn15 rfl rfl fun w hH=>(szForm_c Fe21(by omega)hH).mono ?_));rintro _ w⟨rfl,hH⟩;refine⟨_,rfl,fun a hF=>J.of hF hH ?_⟩;refine J.p(PR.assign rfl)rfl(J.nil(EJ.thenN(hK11(CJ.seq fun _ hK12 _=>(CJ.region(J.p(PR.move rfl)rfl(J.p(PR.lss rfl rfl)rfl(J.nil(EJ.thenN(hK12(CJ.condD rfl(fun h25=>?_)(fun h25=>?_))))))))))))
   ·
    refine CJ.seq fun _ hK13 _=>(CJ.region(J.p(PR.assign rfl)rfl(J.nil(EJ.thenN(hK13(CJ.ret(EJ.inR(EJ.thenR(EJ.thenR(EJ.inR(EJ.thenR(EJ.ret1 rfl(Res.tmp rfl)fun w hH=>?_))))))))))));exact⟨ri(by unfold szv;rw [if_pos(by split at h25 <;> omega)]),hH⟩
   ·
    refine CJ.skip(EJ.inN(EJ.thenN(hK10(CJ.region(J.p(PR.move rfl)rfl(J.p(PR.add rfl rfl(by first | exact nw _(by omega)| rfl))rfl(J.p(PR.assign rfl)rfl(J.nil(EJ.thenN ?_)))))))));exact hAg0(k+1)⟨by omega,by split at h25 <;> omega⟩(by omega)18 rfl rfl⟨rfl,⟨(vi(by split at h25 <;> split <;> omega)),trivial⟩⟩rfl rfl
  ·
   refine CJ.exit(EJ.thenE(EJ.thenE(EJ.inE(EJ.thenN(hK6(CJ.seq fun _ hK14 _=>(CJ.region(J.p(PR.move rfl)rfl(J.p(PR.assign rfl)rfl(J.nil(EJ.thenN(hK14(CJ.ret(EJ.ret1 rfl(Res.tmp rfl)fun w hH=>?_))))))))))))))
   obtain rfl:k=fs.length:=by omega
   rw [List.take_length] at hI ⊢;exact⟨ri(by unfold szv;rw [if_neg(by omega)]),hH⟩
set_option maxRecDepth 10000 in
theorem szInt64S_c {B:World}{H0 H:HP}{L:List SA}{w:World}{qxs:Option Addr}{cxs:Nat}{xs:List Int}{left:Int}(hxs:Ints H qxs xs)(hn:0≤left∧left≤1000000000∧xs.length≤9223372036854775807)(hH:Hp B H0 H L w): Calls Tryz.prog 54 [.slice qxs xs.length cxs,.int .i64 left].toArray w fun e w'=>e=.returned(.int .i64(if left - xs.length<0 then -1 else left - xs.length))∧Hp B H0 H L w':=by
 refine CJ.enter Tryz.func54 rfl 12 rfl rfl [(0,.slice qxs xs.length cxs),(1,.int .i64 left)] rfl hH ?_;clear hH;refine CJ.seq fun _ hK1 _=>(CJ.region(J.p(PR.assign rfl)rfl(J.nil(EJ.thenN(hK1(CJ.seq fun _ hK2 _=>(CJ.region(J.p(PR.move rfl)rfl(J.p(PR.move rfl)rfl(J.p(PR.lenSlice u22 rfl rfl)rfl(J.p(PR.sub rfl rfl(by first | exact nw _(by omega)| rfl))rfl(J.p(PR.assign rfl)rfl(J.nil(EJ.thenN(hK2(CJ.seq fun _ hK3 _=>?_))))))))))))))));refine CJ.seq fun _ hK4 _=>(CJ.region(J.p(PR.move rfl)rfl(J.p(PR.lss rfl rfl)rfl(J.nil(EJ.thenN(hK4(CJ.condD rfl(fun h10=>?_)(fun h10=>?_))))))))
 ·
  refine CJ.seq fun _ hK5 _=>(CJ.region(J.p(PR.assign rfl)rfl(J.nil(EJ.thenN(hK5(CJ.ret(EJ.thenR(EJ.ret1 rfl(Res.tmp rfl)fun w hH=>?_))))))));exact⟨ri(if_pos h10).symm,hH⟩
 ·
  refine CJ.skip(EJ.thenN(hK3(CJ.seq fun _ hK6 _=>(CJ.region(J.p(PR.move rfl)rfl(J.p(PR.assign rfl)rfl(J.nil(EJ.thenN(hK6(CJ.ret(EJ.ret1 rfl(Res.tmp rfl)fun w hH=>?_)))))))))));exact⟨ri(if_neg h10).symm,hH⟩
set_option maxRecDepth 10000 in
theorem szAlgebra_c {B:World}{H0 H:HP}{L:List SA}{w:World}{qad qaf:Option Addr}{cad caf:Nat}{ad:List Int}{af:List(List Term)}{left:Int}(had:Ints H qad ad)(haf:Forms H qaf af)(hn:0≤left∧left≤1000000000∧ad.length≤9223372036854775807∧af.length≤9223372036854775807)(hl : ∀i,i<af.length→(fm af i).length≤9223372036854775807)(hH:Hp B H0 H L w): Calls Tryz.prog 14 [.agg [.slice qad ad.length cad,.slice qaf af.length caf].toArray,.int .i64 left].toArray w fun e w'=>e=.returned(.int .i64(szv(left - ad.length - af.length - tot af)))∧Hp B H0 H L w':=by
 refine CJ.enter Tryz.func14 rfl 18 rfl rfl [(0,.agg [.slice qad ad.length cad,.slice qaf af.length caf].toArray),(1,.int .i64 left)] rfl hH ?_;clear hH;refine CJ.seq fun _ hK1 _=>(CJ.region(J.box rfl rfl rfl fun g2=>(J.p(PR.assign rfl)rfl(J.nil(EJ.thenN(hK1(CJ.seq fun _ hK2 _=>(CJ.region(J.p(PR.fldA u25 rfl sz22 rfl)rfl(J.p(PR.load rfl At.z rfl pl22)rfl(J.p(PR.move rfl)rfl(J.call fn54 rfl rfl fun w hH=>(szInt64S_c had(by omega)hH).mono ?_))))))))))));rintro _ w⟨rfl,hH⟩;refine⟨_,rfl,fun a hF=>J.of hF hH ?_⟩;refine J.p(PR.assign rfl)rfl(J.nil(EJ.thenN(hK2(CJ.seq fun _ hK3 _=>(CJ.seq fun _ hK4 _=>(CJ.region(J.p(PR.move rfl)rfl(J.p(PR.lss rfl rfl)rfl(J.nil(EJ.thenN(hK4(CJ.condD rfl(fun h10=>?_)(fun h10=>?_)))))))))))))
 ·
  refine CJ.seq fun _ hK5 _=>(CJ.region(J.p(PR.assign rfl)rfl(J.nil(EJ.thenN(hK5(CJ.ret(EJ.thenR(EJ.ret1 rfl(Res.tmp rfl)fun w hH=>?_))))))));replace hH:=hH.tail;exact⟨ri(by unfold szv;rw [if_pos(by split at h10 <;> omega)]),hH⟩
 ·
  refine CJ.skip(EJ.thenN(hK3(CJ.seq fun _ hK6 _=>(CJ.region(J.p(PR.fldA u25 rfl sz23 rfl)rfl(J.p(PR.load rfl At.z rfl pl23)rfl(J.p(PR.move rfl)rfl(J.call fn42 rfl rfl fun w hH=>(szFormS_c haf(by split at h10 <;> split <;> omega)hl hH).mono ?_))))))));rintro _ w⟨rfl,hH⟩;refine⟨_,rfl,fun a hF=>J.of hF hH ?_⟩;refine J.p(PR.assign rfl)rfl(J.nil(EJ.thenN(hK6(CJ.seq fun _ hK7 _=>(CJ.seq fun _ hK8 _=>(CJ.region(J.p(PR.move rfl)rfl(J.p(PR.lss rfl rfl)rfl(J.nil(EJ.thenN(hK8(CJ.condD rfl(fun h16=>?_)(fun h16=>?_)))))))))))))
  ·
   refine CJ.seq fun _ hK9 _=>(CJ.region(J.p(PR.assign rfl)rfl(J.nil(EJ.thenN(hK9(CJ.ret(EJ.thenR(EJ.ret1 rfl(Res.tmp rfl)fun w hH=>?_))))))));replace hH:=hH.tail;have e9:=h16;unfold szv at e9 ⊢;exact⟨ri(by rw [if_pos(by split at h10 <;> split at e9 <;> omega)]),hH⟩
  ·
   refine CJ.skip(EJ.thenN(hK7(CJ.seq fun _ hK10 _=>(CJ.region(J.p(PR.move rfl)rfl(J.p(PR.assign rfl)rfl(J.nil(EJ.thenN(hK10(CJ.ret(EJ.ret1 rfl(Res.tmp rfl)fun w hH=>?_)))))))))));replace hH:=hH.tail;exact⟨ri(by unfold szv at h16 ⊢;split at h10 <;> split at h16 <;> split <;> omega),hH⟩
set_option maxRecDepth 10000 in
theorem toAlgebra_c {B:World}{H0 H:HP}{L:List SA}{w:World}{qad qaf:Option Addr}{cad caf:Nat}{ad:List Int}{af:List(List Term)}(had:Ints H qad ad)(haf:Forms H qaf af)(hn:ad.length≤1048576∧af.length≤1048576)(hl : ∀i,i<af.length→(fm af i).length≤1048576)(hH:Hp B H0 H L w): Calls Tryz.prog 17 [.agg [.slice qad ad.length cad,.slice qaf af.length caf].toArray].toArray w fun e w'=>∃qd cd qf cf vs,e=.returned(.agg [.slice qd ad.length cd,.slice qf af.length cf].toArray)∧Hp B H0 H(own 2 1 qd ad.length cd(intsC ad):: ownFs 39 152 qf cf vs af::L)w':=by
 refine CJ.enter Tryz.func17 rfl 13 rfl rfl [(0,.agg [.slice qad ad.length cad,.slice qaf af.length caf].toArray)] rfl hH ?_;clear hH;refine CJ.seq fun _ hK1 _=>(CJ.region(J.box rfl rfl rfl fun g1=>(J.alloc ze35 rfl fun g2=>(J.nil(EJ.thenN(hK1(CJ.seq fun _ hK2 _=>(CJ.region(J.alloc ze35 rfl fun g3=>(J.nil(EJ.thenN(hK2(CJ.seq fun _ hK3 _=>(CJ.region(J.p(PR.fldA u25 rfl sz22 rfl)rfl(J.p(PR.load rfl(.s(.s .z))rfl pl22)rfl ?_))))))))))))))));refine J.call fn58 rfl rfl fun w hH=>(toInt64S_c had(by omega)hH).mono ?_;rintro _ w⟨qo6,co6,rfl,hH⟩;refine⟨_,rfl,fun a hF=>J.of hF hH ?_⟩;refine J.p(PR.fldA u35 rfl sz22 rfl)rfl(J.store rfl rfl rfl rfl sz22(by simp [*])(.s .z)(J.nil(EJ.thenN(hK3(CJ.seq fun _ hK4 _=>(CJ.region(J.p(PR.fldA u25 rfl sz23 rfl)rfl(J.p(PR.load rfl(.s(.s(.s .z)))rfl pl23)rfl(J.call fn44 rfl rfl fun w hH=>(toFormS_c haf(by omega)hl hH).mono ?_)))))))));rintro _ w⟨qo10,co10,vso10,rfl,hH⟩;refine⟨_,rfl,fun a hF=>J.of hF hH ?_⟩;refine J.p(PR.fldA u35 rfl sz33 rfl)rfl(J.store rfl rfl rfl rfl sz33(by simp [*])(.s(.s .z))(J.nil(EJ.thenN(hK4(CJ.seq fun _ hK5 _=>(CJ.region(J.p(PR.loadAll rfl(.s(.s .z))(by simpa [*] using ag35))rfl(J.storeAll rfl rfl(by first | exact bytesC_one _ | exact intsC_one _ | exact Term.c_one _ | simp [Value.oneCell'])(by simpa [*] using sz35)(by simp [*])(.s(.s(.s .z)))(J.nil(EJ.thenN(hK5(CJ.ret(EJ.ret1 rfl(Res.agg rfl(.s(.s(.s .z)))(by simpa [*] using ag35))fun w hH=>?_)))))))))))));replace hH:=hH.sublist(.cons_cons _(.cons_cons _(.cons _(.cons _(.cons _(List.Sublist.refl _))))));exact⟨_,_,_,_,_,rfl,hH.front(.s .z)⟩
end Go.Proofs.YthenedanhcnccaaGreat.G
namespace Go.Proofs.YthenedanhcnccaaGreat.G
open Go Go.RowKit
section
variable {P : Program} {n : Nat} {B : World} {H0 H : HP} {us : List (Nat × Value)} {L : List SA} {t : TypeId} {x : Operand}
theorem PR.loadHb {ty:TypeId}{b:Nat}{u v:Value}(hx:opv us x=some(.pointer(some⟨b,0,none⟩)))(h0:CellAt H b 0 u)(h1:CellAt H b 1 v)(hp:Agg P ty 2): PR P n B H0 us H L(.load ty x)t(.agg [u,v].toArray):=
 PR.loadHagg(q:=some⟨b,0,none⟩)(k:=0)(cs:=[u,v])hx(fun j w hj=>by
  match j,hj with
  | 0,hj=>simp at hj;subst hj;exact h0
  | 1,hj=>simp at hj;subst hj;exact h1
  | j+2,hj=>simp at hj)rfl hp
end
def bothC(ds:List Int)(fs:List(List Term))(ts:List Term): Int:=if isAlg ds fs && isForm ds ts then 0 else 1
theorem isAlg_deg {ds:List Int}{fs:List(List Term)}(h:isAlg ds fs=true): isDeg ds=true:=by
 unfold isAlg at h;simp only [Bool.and_eq_true] at h;exact h.1.1.1
set_option maxRecDepth 10000 in
theorem isClosed_c {B:World}{H0 H:HP}{L:List SA}{w:World}{ba:Nat}{qad qaf:Option Addr}{cad caf:Nat}{ad:List Int}{af:List(List Term)}{qts:Option Addr}{cts:Nat}{ts:List Term}{Mi Ms:Int}(pad:CellAt H ba 0 (.slice qad ad.length cad))(paf:CellAt H ba 1 (.slice qaf af.length caf))(had:Ints H qad ad)(haf:Forms H qaf af)(hts:Terms H qts ts)(hn:ad.length≤8)(hd : ∀j,0≤ad.getD j 0∧ad.getD j 0≤12)(hf:Fok Mi af)(hl:af.length=ad.length)(hs:Sok Ms(toS ts))(ho:Occ af.length(toS ts))(hM:0≤Mi∧Ms+Mi+Ms≤1000000)(hll:ts.length≤1000000000)(hH:Hp B H0 H L w): Calls Tryz.prog 114 [.pointer(some⟨ba,0,none⟩),.agg [.slice qts ts.length cts].toArray].toArray w fun e w'=>e=.returned(.bool(decide((dS ad af(toS ts)).length=0)))∧Hp B H0 H L w':=by
 refine CJ.enter Tryz.func114 rfl 11 rfl rfl [(0,.pointer(some⟨ba,0,none⟩)),(1,.agg [.slice qts ts.length cts].toArray)] rfl hH ?_;clear hH;refine CJ.seq fun _ hK1 _=>(CJ.region(J.box rfl rfl rfl fun g3=>(J.p(PR.assign rfl)rfl(J.nil(EJ.thenN(hK1(CJ.seq fun _ hK2 _=>(CJ.region(J.p(PR.move rfl)rfl(J.p(PR.loadAll rfl At.z(by simpa [*] using ag39))rfl(J.call fn62 rfl rfl fun w hH=>(sumOf_c hts hs(by omega)hH).mono ?_)))))))))));rintro _ w⟨bo7,rfl,hH⟩;refine⟨_,rfl,fun a hF=>J.of hF hH ?_⟩;refine J.call fn164 rfl rfl fun w hH=>hH.lend .z fun Hl1 hle1 hA1 hB1 hH=>(d_c(pad.le hle1)(paf.le hle1)(had.le hle1)(haf.le hle1)(omap_H hA1)hs hn hd hf hl ho hM hH).mono ?_;rintro _ w⟨bo8,rfl,hH⟩;replace hH:=hB1 _ _ hH;refine⟨_,rfl,fun a hF=>J.of hF hH ?_⟩;refine J.p(PR.lenO u84 rfl(.s .z)rfl)rfl(J.p(PR.eql rfl rfl)rfl(J.p(PR.assign rfl)rfl(J.nil(EJ.thenN(hK2(CJ.ret(EJ.ret1 rfl(Res.tmp rfl)fun w hH=>?_)))))));replace hH:=hH.tail;replace hH:=hH.tail;replace hH:=hH.tail;exact⟨rb(decide_eq_decide.2(by omega)),hH⟩
end Go.Proofs.YthenedanhcnccaaGreat.G
