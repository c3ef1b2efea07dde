/- . -/
import Derived.Test.YtanpljalbijfkaaGreatQ00
import Derived.Test.YtanpljalbijfkaaGreatQ01
import Derived.Test.YtanpljalbijfkaaGreatQ28
import Derived.Test.YtanpljalbijfkaaGreatQ29
import Derived.Test.YtanpljalbijfkaaGreatQ30
import Derived.Test.YtanpljalbijfkaaGreatQ32
import Derived.Deep.MidRow
import Derived.ProofKit
import Derived.OpenShut
import Derived.ChangeOld
import Derived.Deep.Slices
import Derived.SizedLaws
namespace Go.Proofs.YtanpljalbijfkaaGreat
open Go.RowKit
set_option maxHeartbeats 16000000
set_option maxRecDepth 100000 in
theorem Qoi (w:World):Calls Tryz.prog 9 #[] w (fun e w'=>e = .returned (.bool true)∧Ext w w'):=by
 have hq:=Qgd
 obtain ⟨HEX,HBD,HWK,HCK,HB0⟩:=Z5 (Qlj w) (fun vs w1 (h:SchAt w1 schE vs)=>Qk2 schE vs w1 h Qgr) (fun gp A c w1 (h:PlanAt w1 gp schE) (hl:StpsAt w1 w1.heap.size A [stpE1])=>Qpi gp schE A c 1 [stpE1] w1 h (Qjs Qgr (by rw [Qjw])) Qgr hl rfl (fun k hk=>by obtain rfl:k=0:=(by simpa using hk); show stpE1.name.size≤maxLen; decide) (by omega)) (fun gp w1 (h:PlanAt w1 gp schE)=>Qh9 gp schE w1 h (Qjs Qgr (by rw [Qjw])) Qgr) Qjw
 rw [Qtq] at HWK
 rw [Qrj] at HCK
 unfold Qv0 at HWK
 unfold Qd at HCK
 unfold Qey Qd at HBD
 obtain ⟨B0,hB0⟩:=V1 (schE.badK schE.n)
 rw [← hB0] at HBD HB0
 clear hB0
 go_enter Tryz.func9,Tryz.ntmps9
 go_wp2_with fail
 refine HEX.out.mono ?_
 rintro e w1 ⟨vs,rfl,hS1,hE1⟩
 obtain ⟨HS1,HE1⟩:=Z2 hS1 hE1
 clear hS1 hE1
 go_wp2_with fail
 refine (HBD.out vs w1 HS1.out).mono ?_
 rintro e w2 (⟨hne,_⟩ | ⟨_,gp,rfl,hP2,hE2⟩)
 ·exact absurd (by rw [HB0.out]) hne
 obtain ⟨HP2,HE2⟩:=Z2 hP2 (HE1.out.trans' hE2)
 clear hP2 hE2
 obtain ⟨w3,g3,hw3,hg3,Hw3,Hg3,hF,hFE⟩:=T0 w2 34 #[.int .i64 0,.int .i64 0]
 obtain ⟨w4,g4,hw4,hg4,Hw4,Hg4,hT,hTE⟩:=T0 w3 76 #[.int .i64 1,.int .i64 0,.string ⟨#[120]⟩]
 obtain ⟨HE4,HP4⟩:=Z2 ((HE2.out.trans' hFE).trans' hTE) ((HP2.out.ext hFE).ext hTE)
 have HL4:=hide (show StpsAt w4 w4.heap.size (some ⟨g4,0,none⟩) [stpE1] from ⟨rfl,fun _=>⟨_,rfl,hT.lt,fun j u hu=>by
  have e:(⟨g4,0,none⟩:Addr).add j=⟨g4,j,none⟩:=by
   unfold Addr.add
   split
   ·next h=>rw [h]
   ·simp
  rw [e,hT.cell,gA]
  exact hu⟩⟩)
 clear hw3 hg3 hw4 hg4 hF hFE hT hTE
 go_upto_region 2 with fail
 rw [← Hw3.out]
 refine wp_region_lit ?_
 refine wpList_plain rfl fun K0 hK0=>?_
 go_simp
 refine hK0 _ _ ?_
 refine wpList_plain rfl fun K1 hK1=>?_
 go_simp
 refine hK1 _ _ ?_
 refine wpList_plain rfl fun K2 hK2=>?_
 go_simp
 refine hK2 _ _ ?_
 rw [← Hw4.out,← Hg4.out]
 go_wp2_with fail
 refine (HWK.out gp (some ⟨g4,0,none⟩) 1 w4 HP4.out HL4.out).mono ?_
 rintro e w5 ⟨rfl,hE5⟩
 obtain ⟨HP5,HE5⟩:=Z2 (HP4.out.ext hE5) (HE4.out.trans' hE5)
 clear hE5
 go_wp2_with fail
 refine (HCK.out gp w5 HP5.out).mono ?_
 rintro e w6 ⟨rfl,hE6⟩
 have HE6:=hide (HE5.out.trans' hE6)
 clear hE6
 go_wp2_with fail
 go_ret
 exact ⟨rfl,HE6.out⟩
def Qcj (s:Sch):Bool:=!Qdy s && ((s.badK 99).1 == 0 && (s.badK 99).2 == 0)
theorem Qvv {s:Sch} (h:(s.badK 99).1=0):(s.badK s.n).1=0:=by
 obtain ⟨h1,h2,h3,h4,h5⟩:=Qjr h
 have hn:=Qth h2
 have hl:Qq s.ws s.os=(0,0):=Qmg h1
 rw [Qez hl h2 h3 h4,← Sch.loops_same (Qh2 s) (k:=99) (by omega)]
 exact h5
theorem Qf7 {s:Sch} (hz:SchSz s) (h:Qcj s=true):s.Good∧(s.badK s.n).1=0:=by
 unfold Qcj at h
 simp only [Bool.and_eq_true,beq_iff_eq] at h
 have:=Qvv h.2.1
 exact ⟨Qjs hz this,this⟩
theorem Qk7 {s:Sch} (h:Qcj s=true):s.rightF.1=0:=by
 unfold Qcj at h
 simp only [Bool.and_eq_true,beq_iff_eq] at h
 exact (Qjr h.2.1).2.2.1
set_option maxRecDepth 100000 in
theorem Qpr (s:Sch) (vs:List Value) (w:World) (hS:SchAt w s vs) (hz:SchSz s):Calls Tryz.prog 8 #[.agg vs.toArray] w (fun e w'=>e = .returned (.bool (Qcj s))∧Ext w w'):=by
 have hq:=Qgd
 have hgr:=fun w1 (hE:Ext w w1)=>Qtr s vs w1 (hS.ext hE) hz
 have hwr:=fun w1 (hE:Ext w w1) (hg:Qdy s=false)=>Qro s vs w1 (hS.ext hE) hz (Qmc hg).1 (Qmc hg).2.2
 obtain ⟨A1,c1,A2,c2,A3,c3,vr,rfl,hA1,hA2,hA3,hR⟩:=hS
 obtain ⟨y0,y1,y2,y3,y4,y5,y6,y7,y8,rfl⟩:∃ y0 y1 y2 y3 y4 y5 y6 y7 y8:Value,vr = [y0,y1,y2,y3,y4,y5,y6,y7,y8]:=by obtain ⟨y0,y1,y2,y3,y4,y5,y6,y7,y8,e⟩:=hR.nine; exact ⟨y0,y1,y2,y3,y4,y5,y6,y7,y8,e⟩
 obtain ⟨nw,hnw,no,hno,n,hn⟩:=V3 (s.ws.length) (s.os.length) (s.n)
 rw [← hnw,← hno,← hn] at hgr hwr ⊢
 have HG:=hide (show ∀ w1,Ext w w1→Calls Tryz.prog 18 #[.agg #[.slice A1 nw c1,.slice A2 no c2,.slice A3 n c3,y0,y1,y2,y3,y4,y5,y6,y7,y8]] w1 (fun e w'=>e = .returned (.bool (Qdy s))∧Ext w1 w') from hgr)
 have HW:=hide (show ∀ w1,Ext w w1→Qdy s=false→Calls Tryz.prog 27 #[.agg #[.slice A1 nw c1,.slice A2 no c2,.slice A3 n c3,y0,y1,y2,y3,y4,y5,y6,y7,y8]] w1 (fun e w'=>e = .returned (Qd (s.badK 99))∧Ext w1 w') from hwr)
 show Calls Tryz.prog 8 #[.agg #[.slice A1 nw c1,.slice A2 no c2,.slice A3 n c3,y0,y1,y2,y3,y4,y5,y6,y7,y8]] w (fun e w'=>e = .returned (.bool (Qcj s))∧Ext w w')
 unfold Qcj
 obtain ⟨⟨b1,b2⟩,hb⟩:∃ x,x=s.badK 99:=⟨_,rfl⟩
 obtain ⟨g,hg⟩:=V1 (Qdy s)
 rw [← hg] at HG HW
 rw [← hb] at HW
 rw [← hb,← hg]
 clear hb hg hgr hwr hA1 hA2 hA3 hR hnw hno hn hz
 unfold Qd at HW
 obtain ⟨w1,g1,hw1,hg1,Hw1,Hg1,hB,hBE⟩:=T0 w 31 #[.slice A1 nw c1,.slice A2 no c2,.slice A3 n c3,y0,y1,y2,y3,y4,y5,y6,y7,y8]
 obtain ⟨HE1,HB1⟩:=Z2 hBE hB
 obtain ⟨v0,v1,v2,v3,v4,v5,v6,v7,v8,v9,v10,v11⟩:=X12 hB
 clear hw1 hg1 hB hBE
 go_enter Tryz.func8,Tryz.ntmps8
 go_upto_region 1 with fail
 rw [← Hw1.out,← Hg1.out]
 go_wp2_with fail
 refine (HG.out w1 HE1.out).mono ?_
 rintro e w2 ⟨rfl,hE2⟩
 have HE2:=hide (HE1.out.trans' hE2)
 have hB2:=HB1.out.ext hE2
 clear v0 v1 v2 v3 v4 v5 v6 v7 v8 v9 v10 v11
 obtain ⟨v0,v1,v2,v3,v4,v5,v6,v7,v8,v9,v10,v11⟩:=X12 hB2
 clear hE2 hB2
 cases g with
 | true =>
  go_wp2_with fail
  go_ret
  exact ⟨rfl,HE2.out⟩
 | false =>
  go_wp2_with fail
  refine (HW.out w2 HE2.out (by trivial)).mono ?_
  rintro e w3 ⟨rfl,hE3⟩
  have HE3:=hide (HE2.out.trans' hE3)
  clear hE3 v0 v1 v2 v3 v4 v5 v6 v7 v8 v9 v10 v11
  go_wp2_with fail
  go_ret
  exact ⟨rfl,HE3.out⟩
section
variable {P:Program} {ops:Array Oper} {C:World→Prop} {Q:Act→Prop} {a:Act} {o:Oper} {rest:List Oper}
theorem Qjz (hw:Region.wanted o (yielded ops a.tmps)=true) (ty:TypeId) (x:Operand) (ho:o.op = .load ty x)
  (b k:Nat) (hx:a.eval x = .pointer (some ⟨b,k,none⟩)) (cs:List Value) (d:TypeDesc) (hc:∀ w,C w→w.rangeAt b k cs)
  (hu:P.underlying ty=some d) (hd:d.isRow=true) (hi:(P.info? ty).map (·.size)=some cs.length) (h:wpQuiet P ops C Q rest (a.put o.dst (.agg cs.toArray))):wpQuiet P ops C Q (o :: rest) a :=
 wpQuiet_step fun K hK=>by
  rw [if_pos hw]
  refine ⟨.agg cs.toArray,fun w hCw=>?_,hK _ h⟩
  unfold Oper.quietAt execOp
  simp only [ho,hx,Instr.loadAt,Instr.sureAddr,Sem.run_bind,Sem.run_pure,Result.andThen_ok,run_loadVar_mid w b k ty cs d (hc w hCw) hu hd hi]
  exact ⟨rfl,rfl⟩
end
section
variable {P:Program} {ops:Array Oper} {S:World→Prop}
theorem Qt3 {Q:Exit→Act→World→Prop} {o:Oper} {r:List Oper} {K0:Act→World→Prop} {a:Act} {w:World} (hw:Region.wanted o (yielded ops a.tmps)=true)
  (h:∀ K:Act→World→Prop,(∀ a w,S w→Qca P ops Q S K0 r a w→K a w)→o.wp P a w K (fun e a' w'=>match e with | .normal=>S w'∧Qca P ops Q S K0 r a' w' | e=>Q e a' w')):Qca P ops Q S K0 (o :: r) a w:=by
 show wpList P ops _ [o] a w
 unfold wpList
 rw [if_pos hw]
 exact .inl (h _ fun a w h1 h2=>⟨h1,h2⟩)
end
set_option maxRecDepth 100000 in
theorem Qmq (s:Sch) (w:World) (vs:List Value) (hS:SchAt w s vs) (hz:SchSz s):Calls Tryz.prog 3 #[.agg vs.toArray] w (fun e w'=>e = .returned (.bool true)∧Ext w w'):=by
 have hq:=Qgd
 obtain ⟨HLV,HCN,HCK,HWR,HGD⟩:=Z5 Qoi Qn7 (fun gp w1 (h:PlanAt w1 gp s) (hf:Qcj s=true)=>Qh9 gp s w1 h (Qf7 hz hf).1 hz) (fun us w1 (h:DPlan w1 s us) (hf:Qcj s=true)=>Qrt s us w1 h (Qf7 hz hf).1 hz (Qt1 (Qk7 hf))) (fun (hf:Qcj s=true)=>(Qf7 hz hf).2)
 have hfn:=fun w1 (hE:Ext w w1)=>Qpr s vs w1 (hS.ext hE) hz
 have hbd:=fun w1 (hE:Ext w w1)=>Qk2 s vs w1 (hS.ext hE) hz
 have hdb:=fun w1 (hE:Ext w w1) (hf:Qcj s=true)=>Qrs s vs w1 (hS.ext hE) hz (Qf7 hz hf).1 (Qpq (Qk7 hf))
 obtain ⟨A1,c1,A2,c2,A3,c3,vr,rfl,hA1,hA2,hA3,hR⟩:=hS
 obtain ⟨y0,y1,y2,y3,y4,y5,y6,y7,y8,rfl⟩:∃ y0 y1 y2 y3 y4 y5 y6 y7 y8:Value,vr = [y0,y1,y2,y3,y4,y5,y6,y7,y8]:=by obtain ⟨y0,y1,y2,y3,y4,y5,y6,y7,y8,e⟩:=hR.nine; exact ⟨y0,y1,y2,y3,y4,y5,y6,y7,y8,e⟩
 obtain ⟨nw,hnw,no,hno,n,hn⟩:=V3 (s.ws.length) (s.os.length) (s.n)
 rw [← hnw,← hno,← hn] at hfn hbd hdb ⊢
 have HFN:=hide (show ∀ w1,Ext w w1→Calls Tryz.prog 8 #[.agg #[.slice A1 nw c1,.slice A2 no c2,.slice A3 n c3,y0,y1,y2,y3,y4,y5,y6,y7,y8]] w1 (fun e w'=>e = .returned (.bool (Qcj s))∧Ext w1 w') from hfn)
 have HBD:=hide (show ∀ w1,Ext w w1→Calls Tryz.prog 10 #[.agg #[.slice A1 nw c1,.slice A2 no c2,.slice A3 n c3,y0,y1,y2,y3,y4,y5,y6,y7,y8]] w1 (Qey s w1) from hbd)
 have HDB:=hide (show ∀ w1,Ext w w1→Qcj s=true→Calls Tryz.prog 12 #[.agg #[.slice A1 nw c1,.slice A2 no c2,.slice A3 n c3,y0,y1,y2,y3,y4,y5,y6,y7,y8]] w1 (fun e w'=>∃ us,e = .returned (.agg us.toArray)∧DPlan w' s us∧Ext w1 w') from hdb)
 show Calls Tryz.prog 3 #[.agg #[.slice A1 nw c1,.slice A2 no c2,.slice A3 n c3,y0,y1,y2,y3,y4,y5,y6,y7,y8]] w (fun e w'=>e = .returned (.bool true)∧Ext w w')
 obtain ⟨⟨C1,C2⟩,hC⟩:∃ x,x=checkF s:=⟨_,rfl⟩
 rw [← hC] at HCK HWR
 obtain ⟨FB,hFB⟩:=V1 (Qcj s)
 rw [← hFB] at HFN HDB HCK HWR HGD
 clear hFB hC hfn hbd hdb hz hA1 hA2 hA3 hR hnw hno hn
 unfold Qd at HCK HWR HCN
 unfold Qey Qd at HBD
 obtain ⟨w1,g1,hw1,hg1,Hw1,Hg1,hB,hBE⟩:=T0 w 31 #[.slice A1 nw c1,.slice A2 no c2,.slice A3 n c3,y0,y1,y2,y3,y4,y5,y6,y7,y8]
 obtain ⟨HE1,HB1⟩:=Z2 hBE hB
 clear hw1 hg1 hB hBE
 go_enter Tryz.func3,Tryz.ntmps3
 go_upto_region 1 with fail
 rw [← Hw1.out,← Hg1.out]
 go_wp2_with fail
 refine (HCN.out w1).mono ?_
 rintro e w2 ⟨rfl,hE2⟩
 obtain ⟨HE2,HB2⟩:=Z2 (HE1.out.trans' hE2) (HB1.out.ext hE2)
 have hB2:=HB2.out
 obtain ⟨v0,v1,v2,v3,v4,v5,v6,v7,v8,v9,v10,v11⟩:=X12 hB2
 clear hE2 hB2
 go_wp2_with fail
 refine (HFN.out w2 HE2.out).mono ?_
 rintro e w3 ⟨rfl,hE3⟩
 obtain ⟨HE3,HB3⟩:=Z2 (HE2.out.trans' hE3) (HB2.out.ext hE3)
 clear hE3 v0 v1 v2 v3 v4 v5 v6 v7 v8 v9 v10 v11
 cases FB with
 | false =>
  go_wp2_with fail
  refine (HLV.out w3).mono ?_
  rintro e w4 ⟨rfl,hE4⟩
  have HE4:=hide (HE3.out.trans' hE4)
  clear hE4
  go_wp2_with fail
  go_ret
  exact ⟨rfl,HE4.out⟩
 | true =>
  have hB3:=HB3.out
  obtain ⟨v0,v1,v2,v3,v4,v5,v6,v7,v8,v9,v10,v11⟩:=X12 hB3
  clear hB3
  go_wp2_with fail
  refine (HBD.out w3 HE3.out).mono ?_
  rintro e w4 (⟨hne,_⟩ | ⟨_,gp,rfl,hP4,hE4⟩)
  ·exact absurd (HGD.out (by trivial)) hne
  clear v0 v1 v2 v3 v4 v5 v6 v7 v8 v9 v10 v11
  obtain ⟨w5,g5,hw5,hg5,Hw5,Hg5,hF,hFE⟩:=T0 w4 34 #[.int .i64 0,.int .i64 0]
  obtain ⟨HE5,HP5,HB5⟩:=Z3 ((HE3.out.trans' hE4).trans' hFE) (hP4.ext hFE) ((HB3.out.ext hE4).ext hFE)
  clear hw5 hg5 hF hFE hE4 hP4
  go_upto_region 6 with fail
  rw [← Hw5.out]
  rename_i Kz hKz
  refine Qbz [0,2] [1,3,4] [5,6] [7,8] [9] 9 (by kernel_rfl) (by kernel_rfl) (fun w'=>Ext w5 w') (Ext.drew' (Ext.rfl' w5)) ?_
  intro I _ f hf
  have HFF:=hide hf
  clear hf
  simp only [Qag,List.map_cons,List.map_nil,gA,gH,gS,Option.getD_some]
  repeat (go_big_quiet_step ((fail)))
  refine Qjz rfl 31 _ rfl g1 0 rfl [.slice A1 nw c1,.slice A2 no c2,.slice A3 n c3,y0,y1,y2,y3,y4,y5,y6,y7,y8] _ (by rintro _ ⟨n_,rfl⟩; exact range_blk (HB5.out.ext (HFF.out n_))) Tryz.underlying31 rfl (by kernel_rfl) ?_
  simp only [Act.put,gE,gF,gG]
  repeat (go_big_quiet_step ((fail)))
  refine wpQuiet_nil ?_
  refine Qt rfl ?_
  intro K1 hK1
  go_simp
  refine (HCK.out gp _ (HP5.out.ext (Ext.drew' (Ext.rfl' w5))) (by trivial)).mono ?_
  rintro e w6 ⟨rfl,hE6⟩
  have hE6':=(Ext.drew' (Ext.rfl' w5)).trans' hE6
  refine hK1 _ _ hE6' ?_
  refine Qt rfl ?_
  intro K2 hK2
  go_simp
  refine (HDB.out w6 (HE5.out.trans' hE6') (by trivial)).mono ?_
  rintro e w7 ⟨us,rfl,hD7,hE7⟩
  have hE7':=hE6'.trans' hE7
  refine hK2 _ _ hE7' ?_
  refine Qt rfl ?_
  intro K3 hK3
  go_simp
  refine (HWR.out us w7 hD7 (by trivial)).mono ?_
  rintro e w8 ⟨rfl,hE8⟩
  have hE8':=hE7'.trans' hE8
  refine hK3 _ _ hE8' ?_
  refine Qav ?_
  repeat (go_big_quiet_step ((fail)))
  refine wpQuiet_nil ?_
  refine Qt3 rfl ?_
  intro K4 hK4
  go_simp
  refine (HLV.out w8).mono ?_
  rintro e w9 ⟨rfl,hE9⟩
  have hE9':=hE8'.trans' hE9
  refine hK4 _ _ hE9' ?_
  refine Qt rfl ?_
  intro K5 hK5
  go_simp
  refine hK5 _ _ hE9' ?_
  refine Qav ?_
  have HE9:=hide (HE5.out.trans' hE9')
  clear hE6 hE6' hE7 hE7' hE8 hE8' hE9 hE9' hD7
  go_wp2_with fail
  refine hKz _ _ ?_
  go_wp2_with fail
  go_ret
  exact ⟨rfl,HE9.out⟩
end Go.Proofs.YtanpljalbijfkaaGreat
namespace Go.Proofs.YtanpljalbijfkaaGreat
open Go.ChangeShapes Go.WideShapes Go.ChangeAt Go.RowKit Go.Deep
set_option maxHeartbeats 16000000
theorem Tryz.own:ownKnob Tryz.prog.godebug=none:=by kernel_rfl
theorem Tryz.laidOut:laidOutB Tryz.prog=true:=by kernel_rfl
def WOk {H:Type} (t:TypeId) (d:DataW H):Prop:=∀ n ∈ d.weights Tryz.prog t,n≤reachBytes
theorem WOk.part {H:Type} {t:TypeId} {fs:Array Field} {parts:List (DataW H)} (hu:Tryz.prog.underlying t=some (.struct fs)) (h:WOk t (.agg parts)) {j:Nat} {tj:TypeId} {d:DataW H} (ht:(fs.toList.map (·.type))[j]? = some tj) (hd:parts[j]? = some d):WOk tj d:=by
 intro n hn
 refine h n ?_
 simp only [DataW.weights,hu]
 exact DataW.weights_mem_each ht hd n hn
theorem Qlk {H:Type} {e:TypeId} {l:List (DataW H)} {d:DataW H} (hd:d ∈ l) {n:Nat} (hn:n ∈ d.weights Tryz.prog e):n ∈ DataW.weightsAll Tryz.prog e l:=by
 induction l with
 | nil=>cases hd
 | cons x r ih =>
  simp only [DataW.weightsAll,List.mem_append]
  rcases List.mem_cons.1 hd with rfl | hd
  ·exact .inl hn
  ·exact .inr (ih hd)
theorem WOk.elem {H:Type} {t e:TypeId} {elems spare:List (DataW H)} (hu:Tryz.prog.underlying t=some (.slice e)) (h:WOk t (.slice elems spare)) {d:DataW H} (hd:d ∈ elems):WOk e d:=by
 intro n hn
 refine h n ?_
 simp only [DataW.weights,hu,List.mem_cons,List.mem_append]
 exact .inr (.inl (Qlk hd hn))
theorem WOk.len {H:Type} {t e:TypeId} {elems spare:List (DataW H)} (hu:Tryz.prog.underlying t=some (.slice e)) (h:WOk t (.slice elems spare)):(elems.length + spare.length) * Tryz.prog.bytesOf e≤reachBytes:=by
 refine h _ ?_
 simp [DataW.weights,hu]
instance:Inhabited Ty:=⟨.nil⟩
instance:Inhabited PtH:=⟨⟨wd0,false,[],0,0,0,0,[]⟩⟩
section
variable {H:Type} {enc:TypeId × Value→H} {W:World} {base:Nat} {spare:Nat→Bool} {held:Bool}
theorem Qw3 {α:Type} {l:List α} (h:l.length=2):∃ a b,l = [a,b]:=by
 match l,h with
 | [a,b],_=>exact ⟨a,b,rfl⟩
theorem Qp9 {α:Type} {l:List α} (h:l.length=4):∃ a b c d,l = [a,b,c,d]:=by
 match l,h with
 | [a,b,c,d],_=>exact ⟨a,b,c,d,rfl⟩
theorem Qwm {α:Type} {l:List α} (h:l.length=9):∃ a0 a1 a2 a3 a4 a5 a6 a7 a8,l = [a0,a1,a2,a3,a4,a5,a6,a7,a8]:=by
 match l,h with
 | [a0,a1,a2,a3,a4,a5,a6,a7,a8],_=>exact ⟨a0,a1,a2,a3,a4,a5,a6,a7,a8,rfl⟩
theorem Qcw {α:Type} {l:List α} {n m:Nat} (h:l.length=n + m):∃ a b,l=a ++ b∧a.length=n∧b.length=m :=
 ⟨l.take n,l.drop n,(List.take_append_drop n l).symm,by rw [List.length_take]; omega,by rw [List.length_drop]; omega⟩
set_option maxRecDepth 100000 in
theorem Qdh {fuel:Nat} {cs:List Value} {x:DataW H × List MemPlace} (h:DataW.trod enc Tryz.prog W base spare held fuel 27 cs=some x):∃ p:Wd,cs = [.string p.1,.int .i64 p.2]∧p.1.size≤maxLen:=by
 obtain ⟨xs,m,_,_,hl,hxl,hx⟩:=DataW.trod_struct Tryz.underlying27 h
 have h2:Tryz.prog.cellsOf 27=2:=by kernel_rfl
 have h1:Tryz.prog.cellsOf 9=1:=by kernel_rfl
 have h3:Tryz.prog.cellsOf 3=1:=by kernel_rfl
 have hl':cs.length=2:=hl.trans h2
 clear hl h2
 obtain ⟨u,v,rfl⟩:=Qw3 hl'
 have e0:DataW.trod enc Tryz.prog W base spare held m 9 (List.take (Tryz.prog.cellsOf 9) (List.drop 0 [u,v]))=xs[0]?:=hx 0 _ rfl
 have e1:DataW.trod enc Tryz.prog W base spare held m 3 (List.take (Tryz.prog.cellsOf 3) (List.drop 1 [u,v]))=xs[1]?:=hx 1 _ rfl
 have hxl':xs.length=2:=hxl
 obtain ⟨x0,hx0⟩:∃ x0,xs[0]? = some x0:=⟨_,List.getElem?_eq_getElem (by omega)⟩
 obtain ⟨x1,hx1⟩:∃ x1,xs[1]? = some x1:=⟨_,List.getElem?_eq_getElem (by omega)⟩
 generalize Tryz.prog.cellsOf 9=k at e0 h1
 generalize Tryz.prog.cellsOf 3=k' at e1 h3
 subst h1 h3
 obtain ⟨s,ha,_,hw⟩:=DataW.trod_string Tryz.underlying9 (e0.trans hx0)
 obtain ⟨b,hb,_,_⟩:=DataW.trod_int Tryz.underlying3 (e1.trans hx1)
 simp at ha hb
 exact ⟨(s,b),by rw [ha,hb],hw⟩
theorem Qoj {n k j:Nat} (_hk:0 < k) (h:j < n * k):j / k < n:=Nat.div_lt_of_lt_mul (by rw [Nat.mul_comm]; exact h)
set_option maxRecDepth 100000 in
theorem Qe0 {fuel:Nat} {cs:List Value} {x:DataW H × List MemPlace} (h:DataW.trod enc Tryz.prog W base spare held fuel 22 cs=some x) (hw:WOk 22 x.1) :
  ∃ (a:Option Addr) (c:Nat) (ws:List Wd),cs = [.slice a ws.length c]∧WdsAt W W.heap.size a ws∧Qn ws:=by
 have h2:Tryz.prog.cellsOf 27=2:=by kernel_rfl
 have hby:Tryz.prog.bytesOf 27=24:=by kernel_rfl
 rcases open_slice Tryz.underlying22 h with ⟨hcs,_⟩ | ⟨a,len,cap,m,n,D,Pl,hcs,_,hlc,hm,hmm,hd,hx⟩
 ·exact ⟨none,0,[],hcs,Reads.none_,by simp,by intro i; simp [wNm,wd0,maxLen,ByteArray.size]⟩
 ·have hlm:len≤m:=by rw [hmm]; split <;> omega
  have hlen:len≤5864062014634:=by
   rw [hd] at hw
   have:=hw.len Tryz.underlying22
   rw [hby,List.length_map,List.length_range] at this
   unfold reachBytes at this
   omega
  rw [h2] at hx
  have hex:∀ i,i < len→∃ q:Wd,(W.cell? (a.add (i * 2))=some (.string q.1)∧W.cell? (a.add (i * 2 + 1))=some (.int .i64 q.2))∧q.1.size≤maxLen:=by
   intro i hi
   obtain ⟨cs,hc,ht⟩:=hx i (by omega)
   obtain ⟨q,rfl,hq⟩:=Qdh ht
   obtain ⟨_,_,hat⟩:=World.cells?_some hc
   have c0:=hat 0 (by omega)
   have c1:=hat 1 (by omega)
   rw [add_add] at c0 c1
   exact ⟨q,⟨by simpa using c0,by simpa using c1⟩,hq⟩
  obtain ⟨f,hf'⟩:=choose_lt (α:=Wd) hex
  have hat:∀ i,i < len→wNm ((List.range len).map f) i=(f i).1∧wPl ((List.range len).map f) i=(f i).2:=fun i hi=>by
   simp [wNm,wPl,List.getD_eq_getElem?_getD,List.getElem?_map,List.getElem?_range hi]
  refine ⟨some a,cap,(List.range len).map f,by rw [hcs]; simp,⟨by rw [Qgh],fun hn=>⟨a,rfl,?_,fun j u hu=>?_⟩⟩,by simpa using hlen,fun i=>?_⟩
  ·have c0:=(hf' 0 (by simpa using hn)).1.1
   simp only [Nat.zero_mul] at c0
   have:=World.block_lt_of_cell? W _ c0
   simpa [Addr.add] using this
  ·have hj:j < len * 2:=by
    have:=(List.getElem?_eq_some_iff.1 hu).1
    rw [Qgh] at this
    simpa using this
   have hk:=Qoj (by omega) hj
   have hg:=Qga ((List.range len).map f) (j / 2) (by simpa using hk)
   rw [(hat _ hk).1,(hat _ hk).2] at hg
   have hh:=(hf' _ hk).1
   rcases Nat.mod_two_eq_zero_or_one j with e | e
   ·have ej:j=j / 2 * 2:=by omega
    rw [ej] at hu ⊢
    rw [hg.1] at hu
    rw [hh.1,← hu]
   ·have ej:j=j / 2 * 2 + 1:=by omega
    rw [ej] at hu ⊢
    rw [hg.2] at hu
    rw [hh.2,← hu]
  ·by_cases hi':i < len
   ·rw [(hat i hi').1]; exact (hf' i hi').2
   ·have:wNm ((List.range len).map f) i=⟨#[]⟩:=by
     simp [wNm,wd0,List.getD_eq_getElem?_getD,List.getElem?_eq_none (show (List.range len).length≤i by simpa using hi')]
    rw [this]; simp [maxLen,ByteArray.size]
theorem Qep {l a b c:List Value} {n k:Nat} (h:l=a ++ (b ++ c)) (hn:a.length=n) (hk:b.length=k):List.take k (List.drop n l)=b:=by
 subst h
 subst hn
 subst hk
 rw [List.drop_left,List.take_left]
set_option maxRecDepth 100000 in
theorem Qps {fuel:Nat} {cs:List Value} {x:DataW H × List MemPlace} (h:DataW.trod enc Tryz.prog W base spare held fuel 129 cs=some x) (hw:WOk 129 x.1) :
  ∃ (k n a:Int) (A:Option Addr) (c:Nat) (ws:List Wd),cs = [.int .i64 k,.int .i64 n,.int .i64 a,.slice A ws.length c]∧WdsAt W W.heap.size A ws∧Qn ws:=by
 obtain ⟨xs,m,_,hx1,hl,hxl,hx⟩:=DataW.trod_struct Tryz.underlying129 h
 have h2:Tryz.prog.cellsOf 129=4:=by kernel_rfl
 have h1:Tryz.prog.cellsOf 3=1:=by kernel_rfl
 have h3:Tryz.prog.cellsOf 22=1:=by kernel_rfl
 have hl':cs.length=4:=hl.trans h2
 clear hl h2
 obtain ⟨u0,u1,u2,u3,rfl⟩:=Qp9 hl'
 have e0:DataW.trod enc Tryz.prog W base spare held m 3 (List.take (Tryz.prog.cellsOf 3) (List.drop 0 [u0,u1,u2,u3]))=xs[0]?:=hx 0 _ rfl
 have e1:DataW.trod enc Tryz.prog W base spare held m 3 (List.take (Tryz.prog.cellsOf 3) (List.drop 1 [u0,u1,u2,u3]))=xs[1]?:=hx 1 _ rfl
 have e2:DataW.trod enc Tryz.prog W base spare held m 3 (List.take (Tryz.prog.cellsOf 3) (List.drop 2 [u0,u1,u2,u3]))=xs[2]?:=hx 2 _ rfl
 have e3:DataW.trod enc Tryz.prog W base spare held m 22 (List.take (Tryz.prog.cellsOf 22) (List.drop 3 [u0,u1,u2,u3]))=xs[3]?:=hx 3 _ rfl
 have hxl':xs.length=4:=hxl
 obtain ⟨x0,hx0⟩:∃ x0,xs[0]? = some x0:=⟨_,List.getElem?_eq_getElem (by omega)⟩
 obtain ⟨x1,hx1'⟩:∃ x1,xs[1]? = some x1:=⟨_,List.getElem?_eq_getElem (by omega)⟩
 obtain ⟨x2,hx2⟩:∃ x2,xs[2]? = some x2:=⟨_,List.getElem?_eq_getElem (by omega)⟩
 obtain ⟨x3,hx3⟩:∃ x3,xs[3]? = some x3:=⟨_,List.getElem?_eq_getElem (by omega)⟩
 have hw3:WOk 22 x3.1:=by
  rw [hx1] at hw
  exact hw.part (j:=3) Tryz.underlying129 rfl (by rw [List.getElem?_map,hx3]; rfl)
 generalize Tryz.prog.cellsOf 3=k at e0 e1 e2 h1
 generalize Tryz.prog.cellsOf 22=k' at e3 h3
 subst h1 h3
 obtain ⟨a,ha,_,_⟩:=DataW.trod_int Tryz.underlying3 (e0.trans hx0)
 obtain ⟨b,hb,_,_⟩:=DataW.trod_int Tryz.underlying3 (e1.trans hx1')
 obtain ⟨c,hc,_,_⟩:=DataW.trod_int Tryz.underlying3 (e2.trans hx2)
 obtain ⟨A,cc,ws,hd,k1,k2⟩:=Qe0 (e3.trans hx3) hw3
 simp at ha hb hc hd
 exact ⟨a,b,c,A,cc,ws,by rw [ha,hb,hc,hd],k1,k2⟩
set_option maxRecDepth 100000 in
theorem Qt4 {fuel:Nat} {cs:List Value} {x:DataW H × List MemPlace} (h:DataW.trod enc Tryz.prog W base spare held fuel 131 cs=some x) (hw:WOk 131 x.1)
  (hty:∀ m,m < fuel→∀ (cs:List Value) (x:DataW H × List MemPlace),DataW.trod enc Tryz.prog W base spare held m 29 cs=some x→WOk 29 x.1→∃ t:Ty,TyAt W W.heap.size t cs∧Q3 t) :
  ∃ (q:PtH) (t:Ty) (Al:Option Addr) (cl:Nat) (Ac:Option Addr) (cc:Nat) (vt:List Value),cs=ptV q Al cl Ac cc ++ vt∧WdsAt W W.heap.size Al q.label∧WdsAt W W.heap.size Ac q.cl∧TyAt W W.heap.size t vt∧q.name.1.size≤maxLen∧Qn q.label∧Qn q.cl∧Q3 t:=by
 obtain ⟨xs,m,hm,hx1,hl,hxl,hx⟩:=DataW.trod_struct Tryz.underlying131 h
 have h18:Tryz.prog.cellsOf 131=18:=by kernel_rfl
 have h1:Tryz.prog.cellsOf 3=1:=by kernel_rfl
 have hbo:Tryz.prog.cellsOf 4=1:=by kernel_rfl
 have h2:Tryz.prog.cellsOf 27=2:=by kernel_rfl
 have h3:Tryz.prog.cellsOf 22=1:=by kernel_rfl
 have h4:Tryz.prog.cellsOf 129=4:=by kernel_rfl
 have h9:Tryz.prog.cellsOf 29=9:=by kernel_rfl
 have hl':cs.length=2 + 16:=hl.trans h18
 clear hl h18
 obtain ⟨c0,r0,rfl,l0,m0⟩:=Qcw hl'
 obtain ⟨c1,r1,rfl,l1,m1⟩:=Qcw (n:=1) (m:=15) m0
 obtain ⟨c2,r2,rfl,l2,m2⟩:=Qcw (n:=1) (m:=14) m1
 obtain ⟨c3,r3,rfl,l3,m3⟩:=Qcw (n:=1) (m:=13) m2
 obtain ⟨c4,c5,rfl,l4,l5⟩:=Qcw (n:=4) (m:=9) m3
 obtain ⟨L,hL⟩:=V1 (c0 ++ (c1 ++ (c2 ++ (c3 ++ (c4 ++ c5)))))
 rw [← hL] at hx ⊢
 have e0:DataW.trod enc Tryz.prog W base spare held m 27 (List.take (Tryz.prog.cellsOf 27) (List.drop 0 L))=xs[0]?:=hx 0 _ rfl
 have e1:DataW.trod enc Tryz.prog W base spare held m 4 (List.take (Tryz.prog.cellsOf 4) (List.drop 2 L))=xs[1]?:=hx 1 _ rfl
 have e2:DataW.trod enc Tryz.prog W base spare held m 22 (List.take (Tryz.prog.cellsOf 22) (List.drop 3 L))=xs[2]?:=hx 2 _ rfl
 have e3:DataW.trod enc Tryz.prog W base spare held m 3 (List.take (Tryz.prog.cellsOf 3) (List.drop 4 L))=xs[3]?:=hx 3 _ rfl
 have e4:DataW.trod enc Tryz.prog W base spare held m 129 (List.take (Tryz.prog.cellsOf 129) (List.drop 5 L))=xs[4]?:=hx 4 _ rfl
 have e5:DataW.trod enc Tryz.prog W base spare held m 29 (List.take (Tryz.prog.cellsOf 29) (List.drop 9 L))=xs[5]?:=hx 5 _ rfl
 rw [h2,Qep (n:=0) (a:=[]) hL rfl l0] at e0
 rw [hbo,Qep (a:=c0) hL l0 l1] at e1
 rw [h3,Qep (a:=c0 ++ c1) (b:=c2) (c:=c3 ++ (c4 ++ c5)) (by rw [hL]; simp) (by rw [List.length_append,l0,l1]) l2] at e2
 rw [h1,Qep (a:=c0 ++ c1 ++ c2) (b:=c3) (c:=c4 ++ c5) (by rw [hL]; simp) (by rw [List.length_append,List.length_append,l0,l1,l2]) l3] at e3
 rw [h4,Qep (a:=c0 ++ c1 ++ c2 ++ c3) (b:=c4) (c:=c5) (by rw [hL]; simp) (by rw [List.length_append,List.length_append,List.length_append,l0,l1,l2,l3]) l4] at e4
 rw [h9,Qep (a:=c0 ++ c1 ++ c2 ++ c3 ++ c4) (b:=c5) (c:=[]) (by rw [hL]; simp) (by rw [List.length_append,List.length_append,List.length_append,List.length_append,l0,l1,l2,l3,l4]) l5] at e5
 have hxl':xs.length=6:=hxl
 obtain ⟨x0,hx0⟩:∃ x0,xs[0]? = some x0:=⟨_,List.getElem?_eq_getElem (by omega)⟩
 obtain ⟨x1,hx1'⟩:∃ x1,xs[1]? = some x1:=⟨_,List.getElem?_eq_getElem (by omega)⟩
 obtain ⟨x2,hx2⟩:∃ x2,xs[2]? = some x2:=⟨_,List.getElem?_eq_getElem (by omega)⟩
 obtain ⟨x3,hx3⟩:∃ x3,xs[3]? = some x3:=⟨_,List.getElem?_eq_getElem (by omega)⟩
 obtain ⟨x4,hx4⟩:∃ x4,xs[4]? = some x4:=⟨_,List.getElem?_eq_getElem (by omega)⟩
 obtain ⟨x5,hx5⟩:∃ x5,xs[5]? = some x5:=⟨_,List.getElem?_eq_getElem (by omega)⟩
 rw [hx1] at hw
 have hw2:WOk 22 x2.1:=hw.part (j:=2) Tryz.underlying131 rfl (by rw [List.getElem?_map,hx2]; rfl)
 have hw4:WOk 129 x4.1:=hw.part (j:=4) Tryz.underlying131 rfl (by rw [List.getElem?_map,hx4]; rfl)
 have hw5:WOk 29 x5.1:=hw.part (j:=5) Tryz.underlying131 rfl (by rw [List.getElem?_map,hx5]; rfl)
 obtain ⟨nm,rfl,n1⟩:=Qdh (e0.trans hx0)
 obtain ⟨br,rfl,_⟩:=DataW.trod_bool Tryz.underlying4 (e1.trans hx1')
 obtain ⟨Al,cl,lb,rfl,g1,g2⟩:=Qe0 (e2.trans hx2) hw2
 obtain ⟨wi,rfl,_,_⟩:=DataW.trod_int Tryz.underlying3 (e3.trans hx3)
 obtain ⟨ck,cn,ca,Ac,cc,cw,rfl,g3,g4⟩:=Qps (e4.trans hx4) hw4
 obtain ⟨t,g5,g6⟩:=hty m (by omega) c5 x5 (e5.trans hx5) hw5
 exact ⟨⟨nm,br,lb,wi,ck,cn,ca,cw⟩,t,Al,cl,Ac,cc,c5,by rw [hL]; rfl,g1,g3,g5,n1,g2,g4,g6⟩
set_option maxRecDepth 100000 in
theorem Qqa:∀ (fuel:Nat) (cs:List Value) (x:DataW H × List MemPlace),DataW.trod enc Tryz.prog W base spare held fuel 29 cs=some x→WOk 29 x.1→∃ t:Ty,TyAt W W.heap.size t cs∧Q3 t:=by
 intro fuel
 induction fuel using Nat.strongRecOn with
 | _ fuel ih =>
  intro cs x h hw
  obtain ⟨xs,m,hm,hx1,hl,hxl,hx⟩:=DataW.trod_struct Tryz.underlying29 h
  have h9:Tryz.prog.cellsOf 29=9:=by kernel_rfl
  have h1:Tryz.prog.cellsOf 3=1:=by kernel_rfl
  have h2:Tryz.prog.cellsOf 27=2:=by kernel_rfl
  have h3:Tryz.prog.cellsOf 22=1:=by kernel_rfl
  have h4:Tryz.prog.cellsOf 25=1:=by kernel_rfl
  have h18:Tryz.prog.cellsOf 131=18:=by kernel_rfl
  have hl':cs.length=9:=hl.trans h9
  clear hl h9
  obtain ⟨u0,u1,u2,u3,u4,u5,u6,u7,u8,rfl⟩:=Qwm hl'
  have e0:DataW.trod enc Tryz.prog W base spare held m 3 (List.take (Tryz.prog.cellsOf 3) (List.drop 0 [u0,u1,u2,u3,u4,u5,u6,u7,u8]))=xs[0]?:=hx 0 _ rfl
  have e1:DataW.trod enc Tryz.prog W base spare held m 3 (List.take (Tryz.prog.cellsOf 3) (List.drop 1 [u0,u1,u2,u3,u4,u5,u6,u7,u8]))=xs[1]?:=hx 1 _ rfl
  have e2:DataW.trod enc Tryz.prog W base spare held m 3 (List.take (Tryz.prog.cellsOf 3) (List.drop 2 [u0,u1,u2,u3,u4,u5,u6,u7,u8]))=xs[2]?:=hx 2 _ rfl
  have e3:DataW.trod enc Tryz.prog W base spare held m 3 (List.take (Tryz.prog.cellsOf 3) (List.drop 3 [u0,u1,u2,u3,u4,u5,u6,u7,u8]))=xs[3]?:=hx 3 _ rfl
  have e4:DataW.trod enc Tryz.prog W base spare held m 3 (List.take (Tryz.prog.cellsOf 3) (List.drop 4 [u0,u1,u2,u3,u4,u5,u6,u7,u8]))=xs[4]?:=hx 4 _ rfl
  have e5:DataW.trod enc Tryz.prog W base spare held m 22 (List.take (Tryz.prog.cellsOf 22) (List.drop 5 [u0,u1,u2,u3,u4,u5,u6,u7,u8]))=xs[5]?:=hx 5 _ rfl
  have e6:DataW.trod enc Tryz.prog W base spare held m 25 (List.take (Tryz.prog.cellsOf 25) (List.drop 6 [u0,u1,u2,u3,u4,u5,u6,u7,u8]))=xs[6]?:=hx 6 _ rfl
  have e7:DataW.trod enc Tryz.prog W base spare held m 27 (List.take (Tryz.prog.cellsOf 27) (List.drop 7 [u0,u1,u2,u3,u4,u5,u6,u7,u8]))=xs[7]?:=hx 7 _ rfl
  have hxl':xs.length=8:=hxl
  obtain ⟨x0,hx0⟩:∃ x0,xs[0]? = some x0:=⟨_,List.getElem?_eq_getElem (by omega)⟩
  obtain ⟨x1,hx1'⟩:∃ x1,xs[1]? = some x1:=⟨_,List.getElem?_eq_getElem (by omega)⟩
  obtain ⟨x2,hx2⟩:∃ x2,xs[2]? = some x2:=⟨_,List.getElem?_eq_getElem (by omega)⟩
  obtain ⟨x3,hx3⟩:∃ x3,xs[3]? = some x3:=⟨_,List.getElem?_eq_getElem (by omega)⟩
  obtain ⟨x4,hx4⟩:∃ x4,xs[4]? = some x4:=⟨_,List.getElem?_eq_getElem (by omega)⟩
  obtain ⟨x5,hx5⟩:∃ x5,xs[5]? = some x5:=⟨_,List.getElem?_eq_getElem (by omega)⟩
  obtain ⟨x6,hx6⟩:∃ x6,xs[6]? = some x6:=⟨_,List.getElem?_eq_getElem (by omega)⟩
  obtain ⟨x7,hx7⟩:∃ x7,xs[7]? = some x7:=⟨_,List.getElem?_eq_getElem (by omega)⟩
  rw [hx1] at hw
  have hw5:WOk 22 x5.1:=hw.part (j:=5) Tryz.underlying29 rfl (by rw [List.getElem?_map,hx5]; rfl)
  have hw6:WOk 25 x6.1:=hw.part (j:=6) Tryz.underlying29 rfl (by rw [List.getElem?_map,hx6]; rfl)
  generalize Tryz.prog.cellsOf 3=k1 at e0 e1 e2 e3 e4 h1
  generalize Tryz.prog.cellsOf 22=k3 at e5 h3
  generalize Tryz.prog.cellsOf 25=k4 at e6 h4
  generalize Tryz.prog.cellsOf 27=k2 at e7 h2
  subst h1 h3 h4 h2
  obtain ⟨kd,a0,_,_⟩:=DataW.trod_int Tryz.underlying3 (e0.trans hx0)
  obtain ⟨at_,a1,_,_⟩:=DataW.trod_int Tryz.underlying3 (e1.trans hx1')
  obtain ⟨lo,a2,_,_⟩:=DataW.trod_int Tryz.underlying3 (e2.trans hx2)
  obtain ⟨hi,a3,_,_⟩:=DataW.trod_int Tryz.underlying3 (e3.trans hx3)
  obtain ⟨mo,a4,_,_⟩:=DataW.trod_int Tryz.underlying3 (e4.trans hx4)
  obtain ⟨An,cn,nws,a5,w1,w2⟩:=Qe0 (e5.trans hx5) hw5
  obtain ⟨nm,a7,w3⟩:=Qdh (e7.trans hx7)
  have e6':=e6.trans hx6
  simp at a0 a1 a2 a3 a4 a5 a7
  simp only [List.take_succ_cons,List.take_zero,List.drop_succ_cons,List.drop_zero] at e6'
  subst a0 a1 a2 a3 a4 a5
  obtain ⟨rfl,rfl⟩:=a7
  have key:∃ (Ap:Option Addr) (cp n:Nat) (p:Nat→PtH) (t:Nat→Ty),u6 = .slice Ap n cp∧n≤628292358710 ∧
    (0 < n→∃ b o,Ap=some ⟨b,o,none⟩∧b < W.heap.size∧∀ i,i < n→∃ Al cl Ac cc vt,(∀ j v,(ptV (p i) Al cl Ac cc ++ vt)[j]? = some v→W.cell? ⟨b,o + i * 18 + j,none⟩=some v)∧WdsAt W W.heap.size Al (p i).label∧WdsAt W W.heap.size Ac (p i).cl∧TyAt W W.heap.size (t i) vt) ∧
    ∀ i,i < n→(p i).name.1.size≤maxLen∧Qn (p i).label∧Qn (p i).cl∧Q3 (t i):=by
   rcases DataW.trod_slice Tryz.underlying25 e6' with ⟨hcs,_⟩ | ⟨a,len,cap,elems,rest,n,hmn,hcs,hx6',_,hlc,hcm,hel,hall,_,_⟩
   ·refine ⟨none,0,0,fun _=>⟨wd0,false,[],0,0,0,0,[]⟩,fun _=>.nil,by simpa using hcs,by omega,fun h=>absurd h (by omega),fun i hi=>absurd hi (by omega)⟩
   ·have hby:Tryz.prog.bytesOf 131=224:=by kernel_rfl
    have hlen:len≤628292358710:=by
     rw [hx6'] at hw6
     have:=hw6.len Tryz.underlying25
     rw [hby,List.length_map,List.length_map,hel] at this
     unfold reachBytes at this
     omega
    rw [h18] at hall
    have hex:∀ i,i < len→∃ qt:PtH × Ty,(∃ Al cl Ac cc vt,(∀ j v,(ptV qt.1 Al cl Ac cc ++ vt)[j]? = some v→W.cell? (a.add (i * 18 + j))=some v)∧WdsAt W W.heap.size Al qt.1.label∧WdsAt W W.heap.size Ac qt.1.cl∧TyAt W W.heap.size qt.2 vt)∧qt.1.name.1.size≤maxLen∧Qn qt.1.label∧Qn qt.1.cl∧Q3 qt.2:=by
     intro i hi
     obtain ⟨xe,hxe⟩:∃ xe,elems[i]? = some xe:=⟨_,List.getElem?_eq_getElem (by omega)⟩
     have hb:=(hall i hi).trans hxe
     obtain ⟨cs',hc,ht⟩:=Option.bind_eq_some_iff.1 hb
     have hwe:WOk 131 xe.1:=by
      rw [hx6'] at hw6
      exact hw6.elem Tryz.underlying25 (List.mem_map.2 ⟨xe,List.mem_of_getElem? hxe,rfl⟩)
     obtain ⟨q,t,Al,cl,Ac,cc,vt,rfl,g1,g2,g3,g4,g5,g6,g7⟩:=Qt4 ht hwe (fun m' hm'=>ih m' (by omega))
     obtain ⟨_,hlc',hat⟩:=World.cells?_some hc
     refine ⟨(q,t),⟨Al,cl,Ac,cc,vt,fun j v hv=>?_,g1,g2,g3⟩,g4,g5,g6,g7⟩
     have hj:j < 18:=by
      have h9:=(List.getElem?_eq_some_iff.1 hv).1
      have hvl:vt.length=9:=by obtain ⟨_,_,_,_,_,_,rfl⟩:=g3.form; rfl
      rw [List.length_append,hvl] at h9
      exact h9
     have:=hat j hj
     rw [add_add] at this
     rw [this,hv]
    obtain ⟨f,hf⟩:=choose_lt (α:=PtH × Ty) hex
    refine ⟨some a,cap,len,fun i=>(f i).1,fun i=>(f i).2,by simpa using hcs,hlen,fun h0=>?_,fun i hi=>(hf i hi).2⟩
    have hcell0:W.cell? (a.add 0)=some (.string (f 0).1.name.1):=by
     obtain ⟨⟨Al,cl,Ac,cc,vt,g1,_⟩,_⟩:=hf 0 h0
     exact g1 0 _ rfl
    obtain ⟨b,o,sp⟩:=a
    have hsp:sp=none:=by
     rcases sp with _ | sp
     ·rfl
     ·simp [Addr.add,World.cell?] at hcell0
      split at hcell0 <;> simp at hcell0
    subst hsp
    have hadd:∀ j,(⟨b,o,none⟩:Addr).add j=⟨b,o + j,none⟩:=fun j=>by
     unfold Addr.add
     split
     ·rename_i h; subst h; rfl
     ·rfl
    refine ⟨b,o,rfl,?_,fun i hi=>?_⟩
    ·have:=World.block_lt_of_cell? W _ hcell0
     simpa [Addr.add] using this
    ·obtain ⟨⟨Al,cl,Ac,cc,vt,g1,g2,g3,g4⟩,_⟩:=hf i hi
     refine ⟨Al,cl,Ac,cc,vt,fun j v hv=>?_,g2,g3,g4⟩
     have:=g1 j v hv
     rw [hadd] at this
     rw [Nat.add_assoc]
     exact this
  obtain ⟨Ap,cp,n,p,t,rfl,k1,k2,k3⟩:=key
  exact ⟨.mk ⟨kd,at_,lo,hi,mo,nws,nm⟩ n p t,⟨An,cn,Ap,cp,rfl,w1,k2⟩,w2,w3,k1,k3⟩
theorem Qw4 {ts:List TypeId} {ds:List (DataW H)} (h:(DataW.weightsEach Tryz.prog ts ds).all (·≤reachBytes)=true) {j:Nat} {t:TypeId} {d:DataW H} (ht:ts[j]? = some t) (hd:ds[j]? = some d):WOk t d:=by
 intro n hn
 have:=List.all_eq_true.1 h n (DataW.weights_mem_each ht hd n hn)
 simpa using this
end
end Go.Proofs.YtanpljalbijfkaaGreat
