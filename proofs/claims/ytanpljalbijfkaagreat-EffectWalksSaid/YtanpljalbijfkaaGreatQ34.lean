/- . -/
import Derived.Test.YtanpljalbijfkaaGreatQ01
import Derived.Test.YtanpljalbijfkaaGreatQ28
import Derived.Test.YtanpljalbijfkaaGreatQ32
import Derived.Test.YtanpljalbijfkaaGreatQ33
import Derived.ProofKit
import Derived.OpenShut
import Derived.ChangeOld
import Derived.Deep.Slices
import Derived.SizedLaws
namespace Go.Proofs.YtanpljalbijfkaaGreat
open Go.RowKit
set_option maxHeartbeats 16000000
set_option maxRecDepth 100000 in
theorem Qop (s:Sch) (w:World) (vs:List Value) (hS:SchAt w s vs) (hz:SchSz s) (A:Option Addr) (n0 c0:Nat) (l:List StP) (hl:StpsAt w w.heap.size A l) (hn0:n0=l.length) (hsz:Qla l) (hcap:n0≤c0):Calls Tryz.prog 4 #[.agg vs.toArray,.slice A n0 c0] w (fun e w'=>e = .returned (.bool true)∧Ext w w'):=by
 obtain ⟨HLV,HWN,HGD,HWK,HDW⟩:=Z5 Qoo (Qpo A n0 c0) (fun (hf:Qcd s=true)=>(Qcu hz hf).2) (fun gp w1 (hE:Ext w w1) (h:PlanAt w1 gp s) (hf:Qcd s=true) (hb:n0≤100)=>Qjg gp s A c0 n0 l w1 h (Qcu hz hf).1 hz (hl.ext hE) hn0 hsz (by omega)) (fun us w1 (hE:Ext w w1) (h:DPlan w1 s us) (hf:Qcd s=true) (hb:n0≤100)=>Qui s us (Qcu hz hf).1 hz l n0 A c0 (Qdx s) w1 h (hl.ext hE) hsz hn0 (by omega) hcap (Qlp (Qcu hz hf).1) (Qqd (Qcu hz hf).1))
 have HBT:=hide (fun w1 Aq cq (hM:MatAt w1 w1.heap.size Aq (Qz s.ws.length (prs s.ws s.os))) (hf:Qcd s=true)=>(show Calls Tryz.prog 15 #[.slice Aq s.ws.length cq] w1 (fun e w'=>e = .returned (.int .i64 (Qib s:Nat))∧w1=w') from by
  have hg:=(Qcu hz hf).1
  have:=Qmw Aq cq s.ws.length (Qz s.ws.length (prs s.ws s.os)) w1 hM (Qe9 _ _) (by rw [Qao]) (by have:=hg.lat.few; omega) hg.lat.lat
  have e:LatM.botN s.ws.length (mat (Qz s.ws.length (prs s.ws s.os)))=Qib s:=rfl
  rw [e] at this
  exact this))
 have hfn:=fun w1 (hE:Ext w w1)=>Qpx s vs w1 (hS.ext hE) hz
 have hbd:=fun w1 (hE:Ext w w1)=>Qk8 s vs w1 (hS.ext hE) hz
 have hdb:=fun w1 (hE:Ext w w1) (hf:Qcd s=true)=>Qr3 s vs w1 (hS.ext hE) hz (Qcu hz hf).1 (Qpw (Qr4 hf))
 obtain ⟨A1,c1,A2,c2,A3,c3,vr,rfl,hA1,hA2,hA3,hR⟩:=hS
 obtain ⟨y0,y1,y2,y3,y4,y5,y6,y7,y8,rfl⟩:∃ y0 y1 y2 y3 y4 y5 y6 y7 y8:Value,vr = [y0,y1,y2,y3,y4,y5,y6,y7,y8]:=by obtain ⟨y0,y1,y2,y3,y4,y5,y6,y7,y8,e⟩:=hR.nine; exact ⟨y0,y1,y2,y3,y4,y5,y6,y7,y8,e⟩
 obtain ⟨nw,hnw,no,hno,n,hn⟩:=V3 (s.ws.length) (s.os.length) (s.n)
 rw [← hnw,← hno,← hn] at hfn hbd hdb ⊢
 have HFN:=hide (show ∀ w1,Ext w w1→Calls Tryz.prog 8 #[.agg #[.slice A1 nw c1,.slice A2 no c2,.slice A3 n c3,y0,y1,y2,y3,y4,y5,y6,y7,y8]] w1 (fun e w'=>e = .returned (.bool (Qcd s))∧Ext w1 w') from hfn)
 have HBD:=hide (show ∀ w1,Ext w w1→Calls Tryz.prog 10 #[.agg #[.slice A1 nw c1,.slice A2 no c2,.slice A3 n c3,y0,y1,y2,y3,y4,y5,y6,y7,y8]] w1 (Qex s w1) from hbd)
 have HDB:=hide (show ∀ w1,Ext w w1→Qcd s=true→Calls Tryz.prog 12 #[.agg #[.slice A1 nw c1,.slice A2 no c2,.slice A3 n c3,y0,y1,y2,y3,y4,y5,y6,y7,y8]] w1 (fun e w'=>∃ us,e = .returned (.agg us.toArray)∧DPlan w' s us∧Ext w1 w') from hdb)
 show Calls Tryz.prog 4 #[.agg #[.slice A1 nw c1,.slice A2 no c2,.slice A3 n c3,y0,y1,y2,y3,y4,y5,y6,y7,y8],.slice A n0 c0] w (fun e w'=>e = .returned (.bool true)∧Ext w w')
 obtain ⟨R,hRw⟩:=V1 (Qa7 s (Qdx s) l)
 rw [← hRw] at HWK HDW
 obtain ⟨FB,hFB⟩:=V1 (Qcd s)
 rw [← hFB] at HFN HDB HWK HDW HGD HBT
 unfold Qdx at HDW
 dsimp only at HDW
 clear hFB hRw hfn hbd hdb hz hl hn0 hsz hcap hA1 hA2 hA3 hR hnw hno hn
 unfold Qex Qd at HBD
 have hn0:=nZ n0
 obtain ⟨w1,g1,hw1,hg1,Hw1,Hg1,hB,hBE⟩:=T0 w 31 #[.slice A1 nw c1,.slice A2 no c2,.slice A3 n c3,y0,y1,y2,y3,y4,y5,y6,y7,y8]
 obtain ⟨HE1,HB1⟩:=Z2 hBE hB
 obtain ⟨v0,v1,v2,v3,v4,v5,v6,v7,v8,v9,v10,v11⟩:=X12 hB
 clear hw1 hg1 hB hBE
 go_enter Tryz.func4,Tryz.ntmps4
 go_upto_region 1 with fail
 rw [← Hw1.out,← Hg1.out]
 go_wp2_with fail
 refine (HFN.out w1 HE1.out).mono ?_
 rintro e w3 ⟨rfl,hE3⟩
 obtain ⟨HE3,HB3⟩:=Z2 (HE1.out.trans' hE3) (HB1.out.ext hE3)
 clear hE3 v0 v1 v2 v3 v4 v5 v6 v7 v8 v9 v10 v11
 have lives_end:∀ w5,Ext w w5→Calls Tryz.prog 9 #[] w5 (fun e w'=>e = .returned (.bool true)∧Ext w w'):=fun w5 hE=>(HLV.out w5).mono fun e w' ⟨h1,h2⟩=>⟨h1,hE.trans' h2⟩
 have HLE:=hide lives_end
 clear lives_end
 cases FB with
 | false =>
  go_wp2_with fail
  refine (HLE.out w3 HE3.out).mono ?_
  rintro e w4 ⟨rfl,hE4⟩
  have HE4:=hide hE4
  clear hE4
  go_wp2_with fail
  go_ret
  exact ⟨rfl,HE4.out⟩
 | true =>
  by_cases h100:(100:Int) < (n0:Int)
  ·go_wp2_with fail
   refine (HLE.out w3 HE3.out).mono ?_
   rintro e w4 ⟨rfl,hE4⟩
   have HE4:=hide hE4
   clear hE4
   go_wp2_with fail
   go_ret
   exact ⟨rfl,HE4.out⟩
  have hb100:n0≤100:=by omega
  have hB3:=HB3.out
  obtain ⟨v0,v1,v2,v3,v4,v5,v6,v7,v8,v9,v10,v11⟩:=X12 hB3
  clear hB3
  go_wp2_with fail
  refine (HBD.out w3 HE3.out).mono ?_
  rintro e w4 (⟨hne,_⟩ | ⟨_,gp,rfl,hP4,hE4⟩)
  ·exact absurd (HGD.out (by trivial)) hne
  clear v0 v1 v2 v3 v4 v5 v6 v7 v8 v9 v10 v11
  obtain ⟨w5,g5,hw5,hg5,Hw5,Hg5,hF,hFE⟩:=T0 w4 34 #[.int .i64 0,.int .i64 0]
  obtain ⟨HE5,HP5,HB5⟩:=Z3 ((HE3.out.trans' hE4).trans' hFE) (hP4.ext hFE) ((HB3.out.ext hE4).ext hFE)
  clear hw5 hg5 hF hFE hE4 hP4
  go_upto_region 4 with fail
  rw [← Hw5.out]
  have hB5:=HB5.out
  obtain ⟨v0,v1,v2,v3,v4,v5,v6,v7,v8,v9,v10,v11⟩:=X12 hB5
  clear hB5
  go_wp2_with fail
  refine (HDB.out w5 HE5.out (by trivial)).mono ?_
  rintro e w6 ⟨us,rfl,hD6,hE6⟩
  clear v0 v1 v2 v3 v4 v5 v6 v7 v8 v9 v10 v11
  obtain ⟨B1,d1,Aq,cq,Bn,cn,rfl,hM6,_⟩:=hD6.open_
  obtain ⟨K,hK,N,hN,RI,hRI,BI,hBI⟩:=V4 (s.ws.length) (s.nodes.length) (s.rootI) (Qib s)
  obtain ⟨HBX,HWX⟩:=Z2 (fun w1 (hE:Ext w6 w1)=>HBT.out w1 Aq cq (MatAt.ext' hM6 hE) (by trivial)) (fun w1 (hE:Ext w6 w1)=>HDW.out _ w1 ((HE5.out.trans' hE6).trans' hE) (hD6.ext hE) (by trivial) hb100)
  rw [← hK,← hBI] at HBX
  rw [← hK,← hN,← hRI,← hBI] at HWX
  rw [← hK,← hN,← hRI]
  have HWY:=hide (show ∀ w1,Ext w6 w1→Calls Tryz.prog 14 #[.agg #[.slice B1 K d1,.slice Aq K cq,.slice Bn N cn,.int .i64 (RI:Int)],.int .i64 (RI:Int),.int .i64 (BI:Int),.slice A n0 c0] w1 (fun e w'=>e = .returned (Qhc R)∧Ext w1 w') from HWX.out)
  obtain ⟨w7,g7,hw7,hg7,Hw7,Hg7,hV,hVE⟩:=T0 w6 45 #[.slice B1 K d1,.slice Aq K cq,.slice Bn N cn,.int .i64 (RI:Int)]
  obtain ⟨HE67,HE7,HP7,HV7⟩:=Z4 hVE ((HE5.out.trans' hE6).trans' hVE) ((HP5.out.ext hE6).ext hVE) hV
  have HWZ:=hide (fun hP=>HWK.out gp w7 HE7.out hP (by trivial) hb100)
  clear hw7 hg7 hV hVE hE6 hD6 hM6 hK hN hRI hBI HWX HDW HWK
  go_upto_region 5 with fail
  rw [← Hw7.out,← Hg7.out]
  go_wp2_with fail
  refine (HWZ.out HP7.out).mono ?_
  rintro e w8 ⟨rfl,hE8⟩
  obtain ⟨HE8,HV8,HE68⟩:=Z3 (HE7.out.trans' hE8) (HV7.out.ext hE8) (HE67.out.trans' hE8)
  clear hE8
  cases R with
  | none =>
   unfold Qmx
   go_upto_region 6 with fail
   simp only [Qhc] at HWY
   have hV8:=HV8.out
   obtain ⟨-,s1,-,s3⟩:=X4 hV8
   clear hV8
   refine Qaz (by kernel_rfl) (by kernel_rfl) w8 (Ext.rfl' _) ?_
   intro I _ f hf hcf
   have s1':∀ n_,(f n_).cell? ⟨g7,1,none⟩=some (.slice Aq K cq):=fun n_=>((hf n_).cell (p:=⟨g7,1,none⟩) HV8.out.lt).trans s1
   have s3':∀ n_,(f n_).cell? ⟨g7,3,none⟩=some (.int .i64 (RI:Int)):=fun n_=>((hf n_).cell (p:=⟨g7,3,none⟩) HV8.out.lt).trans s3
   obtain ⟨HBZ,HWW,HF⟩:=Z3 (fun n_=>Qji (HBX.out (f n_) (HE68.out.trans' (hf n_)))) (fun n_=>Qb3 hf hcf (HWY.out (f n_) (HE68.out.trans' (hf n_)))) hf
   clear s1 s3 hf hcf
   refine Qbt rfl 45 _ rfl g7 0 rfl [.slice B1 K d1,.slice Aq K cq,.slice Bn N cn,.int .i64 (RI:Int)] _ (by rintro _ ⟨n_,rfl⟩; exact range_blk (HV8.out.ext (HF.out n_))) Tryz.underlying45 rfl infoDW ?_
   simp only [Act.put,gE,gF,gG]
   repeat (go_big_quiet_step ((first | (go_at_call 15; exact HBZ.out _) | (go_at_call 14; with_reducible exact HWW.out _))))
   refine wpQuiet_nil ?_
   rintro _ ⟨nq,rfl⟩
   obtain ⟨w9,hw9⟩:=V1 (f nq)
   have HE9:=hide (show Ext w w9 by rw [hw9]; exact HE8.out.trans' (HF.out nq))
   rw [← hw9]
   clear s1' s3' hw9
   go_wp2_with fail
   refine (HWN.out w9).mono ?_
   rintro e w10 ⟨rfl,rfl⟩
   go_wp2_with fail
   refine (HLE.out w9 HE9.out).mono ?_
   rintro e w11 ⟨rfl,hE11⟩
   have HE11:=hide hE11
   clear hE11
   go_wp2_with fail
   go_ret
   exact ⟨rfl,HE11.out⟩
  | some y =>
   obtain ⟨y1,y2⟩:=y
   unfold Qmx
   dsimp only
   have hy0:=nZ y1
   go_upto_region 6 with fail
   simp only [Qhc] at HWY
   have hV8:=HV8.out
   obtain ⟨-,s1,-,s3⟩:=X4 hV8
   clear hV8
   refine Qaz (by kernel_rfl) (by kernel_rfl) w8 (Ext.rfl' _) ?_
   intro I _ f hf hcf
   have s1':∀ n_,(f n_).cell? ⟨g7,1,none⟩=some (.slice Aq K cq):=fun n_=>((hf n_).cell (p:=⟨g7,1,none⟩) HV8.out.lt).trans s1
   have s3':∀ n_,(f n_).cell? ⟨g7,3,none⟩=some (.int .i64 (RI:Int)):=fun n_=>((hf n_).cell (p:=⟨g7,3,none⟩) HV8.out.lt).trans s3
   obtain ⟨HBZ,HWW,HF⟩:=Z3 (fun n_=>Qji (HBX.out (f n_) (HE68.out.trans' (hf n_)))) (fun n_=>Qb3 hf hcf (HWY.out (f n_) (HE68.out.trans' (hf n_)))) hf
   clear s1 s3 hf hcf
   refine Qbt rfl 45 _ rfl g7 0 rfl [.slice B1 K d1,.slice Aq K cq,.slice Bn N cn,.int .i64 (RI:Int)] _ (by rintro _ ⟨n_,rfl⟩; exact range_blk (HV8.out.ext (HF.out n_))) Tryz.underlying45 rfl infoDW ?_
   simp only [Act.put,gE,gF,gG]
   repeat (go_big_quiet_step ((first | (go_at_call 15; exact HBZ.out _) | (go_at_call 14; with_reducible exact HWW.out _))))
   refine wpQuiet_nil ?_
   rintro _ ⟨nq,rfl⟩
   obtain ⟨w9,hw9⟩:=V1 (f nq)
   have HE9:=hide (show Ext w w9 by rw [hw9]; exact HE8.out.trans' (HF.out nq))
   rw [← hw9]
   clear s1' s3' hw9
   go_wp2_with fail
   refine (HWN.out w9).mono ?_
   rintro e w10 ⟨rfl,rfl⟩
   go_wp2_with fail
   refine (HLE.out w9 HE9.out).mono ?_
   rintro e w11 ⟨rfl,hE11⟩
   have HE11:=hide hE11
   clear hE11
   go_wp2_with fail
   go_ret
   exact ⟨rfl,HE11.out⟩
end Go.Proofs.YtanpljalbijfkaaGreat
namespace Go.Proofs.YtanpljalbijfkaaGreat
open Go.ChangeShapes Go.WideShapes Go.ChangeAt Go.RowKit Go.Deep
set_option maxHeartbeats 16000000
theorem Tryz.own:ownKnob Tryz.prog.godebug=none:=by kernel_rfl
theorem Tryz.laidOut:laidOutB Tryz.prog=true:=by kernel_rfl
def WOk {H:Type} (t:TypeId) (d:DataW H):Prop:=∀ n ∈ d.weights Tryz.prog t,n≤reachBytes
theorem WOk.part {H:Type} {t:TypeId} {fs:Array Field} {parts:List (DataW H)} (hu:Tryz.prog.underlying t=some (.struct fs)) (h:WOk t (.agg parts)) {j:Nat} {tj:TypeId} {d:DataW H} (ht:(fs.toList.map (·.type))[j]? = some tj) (hd:parts[j]? = some d):WOk tj d:=by
 intro n hn
 refine h n ?_
 simp only [DataW.weights,hu]
 exact DataW.weights_mem_each ht hd n hn
theorem Qlr {H:Type} {e:TypeId} {l:List (DataW H)} {d:DataW H} (hd:d ∈ l) {n:Nat} (hn:n ∈ d.weights Tryz.prog e):n ∈ DataW.weightsAll Tryz.prog e l:=by
 induction l with
 | nil=>cases hd
 | cons x r ih =>
  simp only [DataW.weightsAll,List.mem_append]
  rcases List.mem_cons.1 hd with rfl | hd
  ·exact .inl hn
  ·exact .inr (ih hd)
theorem WOk.elem {H:Type} {t e:TypeId} {elems spare:List (DataW H)} (hu:Tryz.prog.underlying t=some (.slice e)) (h:WOk t (.slice elems spare)) {d:DataW H} (hd:d ∈ elems):WOk e d:=by
 intro n hn
 refine h n ?_
 simp only [DataW.weights,hu,List.mem_cons,List.mem_append]
 exact .inr (.inl (Qlr hd hn))
theorem WOk.len {H:Type} {t e:TypeId} {elems spare:List (DataW H)} (hu:Tryz.prog.underlying t=some (.slice e)) (h:WOk t (.slice elems spare)):(elems.length + spare.length) * Tryz.prog.bytesOf e≤reachBytes:=by
 refine h _ ?_
 simp [DataW.weights,hu]
instance:Inhabited Ty:=⟨.nil⟩
instance:Inhabited PtH:=⟨⟨wd0,false,[],0,0,0,0,[]⟩⟩
section
variable {H:Type} {enc:TypeId × Value→H} {W:World} {base:Nat} {spare:Nat→Bool} {held:Bool}
theorem Qxe {α:Type} {l:List α} (h:l.length=2):∃ a b,l = [a,b]:=by
 match l,h with
 | [a,b],_=>exact ⟨a,b,rfl⟩
theorem Qqi {α:Type} {l:List α} (h:l.length=4):∃ a b c d,l = [a,b,c,d]:=by
 match l,h with
 | [a,b,c,d],_=>exact ⟨a,b,c,d,rfl⟩
theorem Qwy {α:Type} {l:List α} (h:l.length=9):∃ a0 a1 a2 a3 a4 a5 a6 a7 a8,l = [a0,a1,a2,a3,a4,a5,a6,a7,a8]:=by
 match l,h with
 | [a0,a1,a2,a3,a4,a5,a6,a7,a8],_=>exact ⟨a0,a1,a2,a3,a4,a5,a6,a7,a8,rfl⟩
theorem Qc0 {α:Type} {l:List α} {n m:Nat} (h:l.length=n + m):∃ a b,l=a ++ b∧a.length=n∧b.length=m :=
 ⟨l.take n,l.drop n,(List.take_append_drop n l).symm,by rw [List.length_take]; omega,by rw [List.length_drop]; omega⟩
set_option maxRecDepth 100000 in
theorem Qdi {fuel:Nat} {cs:List Value} {x:DataW H × List MemPlace} (h:DataW.trod enc Tryz.prog W base spare held fuel 27 cs=some x):∃ p:Wd,cs = [.string p.1,.int .i64 p.2]∧p.1.size≤maxLen:=by
 obtain ⟨xs,m,_,_,hl,hxl,hx⟩:=DataW.trod_struct Tryz.underlying27 h
 have h2:Tryz.prog.cellsOf 27=2:=by kernel_rfl
 have h1:Tryz.prog.cellsOf 9=1:=by kernel_rfl
 have h3:Tryz.prog.cellsOf 3=1:=by kernel_rfl
 have hl':cs.length=2:=hl.trans h2
 clear hl h2
 obtain ⟨u,v,rfl⟩:=Qxe hl'
 have e0:DataW.trod enc Tryz.prog W base spare held m 9 (List.take (Tryz.prog.cellsOf 9) (List.drop 0 [u,v]))=xs[0]?:=hx 0 _ rfl
 have e1:DataW.trod enc Tryz.prog W base spare held m 3 (List.take (Tryz.prog.cellsOf 3) (List.drop 1 [u,v]))=xs[1]?:=hx 1 _ rfl
 have hxl':xs.length=2:=hxl
 obtain ⟨x0,hx0⟩:∃ x0,xs[0]? = some x0:=⟨_,List.getElem?_eq_getElem (by omega)⟩
 obtain ⟨x1,hx1⟩:∃ x1,xs[1]? = some x1:=⟨_,List.getElem?_eq_getElem (by omega)⟩
 generalize Tryz.prog.cellsOf 9=k at e0 h1
 generalize Tryz.prog.cellsOf 3=k' at e1 h3
 subst h1 h3
 obtain ⟨s,ha,_,hw⟩:=DataW.trod_string Tryz.underlying9 (e0.trans hx0)
 obtain ⟨b,hb,_,_⟩:=DataW.trod_int Tryz.underlying3 (e1.trans hx1)
 simp at ha hb
 exact ⟨(s,b),by rw [ha,hb],hw⟩
theorem Qj5 {n k j:Nat} (_hk:0 < k) (h:j < n * k):j / k < n:=Nat.div_lt_of_lt_mul (by rw [Nat.mul_comm]; exact h)
set_option maxRecDepth 100000 in
theorem Qez {fuel:Nat} {cs:List Value} {x:DataW H × List MemPlace} (h:DataW.trod enc Tryz.prog W base spare held fuel 22 cs=some x) (hw:WOk 22 x.1) :
  ∃ (a:Option Addr) (c:Nat) (ws:List Wd),cs = [.slice a ws.length c]∧WdsAt W W.heap.size a ws∧Qo ws:=by
 have h2:Tryz.prog.cellsOf 27=2:=by kernel_rfl
 have hby:Tryz.prog.bytesOf 27=24:=by kernel_rfl
 rcases open_slice Tryz.underlying22 h with ⟨hcs,_⟩ | ⟨a,len,cap,m,n,D,Pl,hcs,_,hlc,hm,hmm,hd,hx⟩
 ·exact ⟨none,0,[],hcs,Reads.none_,by simp,by intro i; simp [wNm,wd0,maxLen,ByteArray.size]⟩
 ·have hlm:len≤m:=by rw [hmm]; split <;> omega
  have hlen:len≤5864062014634:=by
   rw [hd] at hw
   have:=hw.len Tryz.underlying22
   rw [hby,List.length_map,List.length_range] at this
   unfold reachBytes at this
   omega
  rw [h2] at hx
  have hex:∀ i,i < len→∃ q:Wd,(W.cell? (a.add (i * 2))=some (.string q.1)∧W.cell? (a.add (i * 2 + 1))=some (.int .i64 q.2))∧q.1.size≤maxLen:=by
   intro i hi
   obtain ⟨cs,hc,ht⟩:=hx i (by omega)
   obtain ⟨q,rfl,hq⟩:=Qdi ht
   obtain ⟨_,_,hat⟩:=World.cells?_some hc
   have c0:=hat 0 (by omega)
   have c1:=hat 1 (by omega)
   rw [add_add] at c0 c1
   exact ⟨q,⟨by simpa using c0,by simpa using c1⟩,hq⟩
  obtain ⟨f,hf'⟩:=choose_lt (α:=Wd) hex
  have hat:∀ i,i < len→wNm ((List.range len).map f) i=(f i).1∧wPl ((List.range len).map f) i=(f i).2:=fun i hi=>by
   simp [wNm,wPl,List.getD_eq_getElem?_getD,List.getElem?_map,List.getElem?_range hi]
  refine ⟨some a,cap,(List.range len).map f,by rw [hcs]; simp,⟨by rw [Qgf],fun hn=>⟨a,rfl,?_,fun j u hu=>?_⟩⟩,by simpa using hlen,fun i=>?_⟩
  ·have c0:=(hf' 0 (by simpa using hn)).1.1
   simp only [Nat.zero_mul] at c0
   have:=World.block_lt_of_cell? W _ c0
   simpa [Addr.add] using this
  ·have hj:j < len * 2:=by
    have:=(List.getElem?_eq_some_iff.1 hu).1
    rw [Qgf] at this
    simpa using this
   have hk:=Qj5 (by omega) hj
   have hg:=Qf8 ((List.range len).map f) (j / 2) (by simpa using hk)
   rw [(hat _ hk).1,(hat _ hk).2] at hg
   have hh:=(hf' _ hk).1
   rcases Nat.mod_two_eq_zero_or_one j with e | e
   ·have ej:j=j / 2 * 2:=by omega
    rw [ej] at hu ⊢
    rw [hg.1] at hu
    rw [hh.1,← hu]
   ·have ej:j=j / 2 * 2 + 1:=by omega
    rw [ej] at hu ⊢
    rw [hg.2] at hu
    rw [hh.2,← hu]
  ·by_cases hi':i < len
   ·rw [(hat i hi').1]; exact (hf' i hi').2
   ·have:wNm ((List.range len).map f) i=⟨#[]⟩:=by
     simp [wNm,wd0,List.getD_eq_getElem?_getD,List.getElem?_eq_none (show (List.range len).length≤i by simpa using hi')]
    rw [this]; simp [maxLen,ByteArray.size]
theorem Qeo {l a b c:List Value} {n k:Nat} (h:l=a ++ (b ++ c)) (hn:a.length=n) (hk:b.length=k):List.take k (List.drop n l)=b:=by
 subst h
 subst hn
 subst hk
 rw [List.drop_left,List.take_left]
set_option maxRecDepth 100000 in
theorem Qpz {fuel:Nat} {cs:List Value} {x:DataW H × List MemPlace} (h:DataW.trod enc Tryz.prog W base spare held fuel 129 cs=some x) (hw:WOk 129 x.1) :
  ∃ (k n a:Int) (A:Option Addr) (c:Nat) (ws:List Wd),cs = [.int .i64 k,.int .i64 n,.int .i64 a,.slice A ws.length c]∧WdsAt W W.heap.size A ws∧Qo ws:=by
 obtain ⟨xs,m,_,hx1,hl,hxl,hx⟩:=DataW.trod_struct Tryz.underlying129 h
 have h2:Tryz.prog.cellsOf 129=4:=by kernel_rfl
 have h1:Tryz.prog.cellsOf 3=1:=by kernel_rfl
 have h3:Tryz.prog.cellsOf 22=1:=by kernel_rfl
 have hl':cs.length=4:=hl.trans h2
 clear hl h2
 obtain ⟨u0,u1,u2,u3,rfl⟩:=Qqi hl'
 have e0:DataW.trod enc Tryz.prog W base spare held m 3 (List.take (Tryz.prog.cellsOf 3) (List.drop 0 [u0,u1,u2,u3]))=xs[0]?:=hx 0 _ rfl
 have e1:DataW.trod enc Tryz.prog W base spare held m 3 (List.take (Tryz.prog.cellsOf 3) (List.drop 1 [u0,u1,u2,u3]))=xs[1]?:=hx 1 _ rfl
 have e2:DataW.trod enc Tryz.prog W base spare held m 3 (List.take (Tryz.prog.cellsOf 3) (List.drop 2 [u0,u1,u2,u3]))=xs[2]?:=hx 2 _ rfl
 have e3:DataW.trod enc Tryz.prog W base spare held m 22 (List.take (Tryz.prog.cellsOf 22) (List.drop 3 [u0,u1,u2,u3]))=xs[3]?:=hx 3 _ rfl
 have hxl':xs.length=4:=hxl
 obtain ⟨x0,hx0⟩:∃ x0,xs[0]? = some x0:=⟨_,List.getElem?_eq_getElem (by omega)⟩
 obtain ⟨x1,hx1'⟩:∃ x1,xs[1]? = some x1:=⟨_,List.getElem?_eq_getElem (by omega)⟩
 obtain ⟨x2,hx2⟩:∃ x2,xs[2]? = some x2:=⟨_,List.getElem?_eq_getElem (by omega)⟩
 obtain ⟨x3,hx3⟩:∃ x3,xs[3]? = some x3:=⟨_,List.getElem?_eq_getElem (by omega)⟩
 have hw3:WOk 22 x3.1:=by
  rw [hx1] at hw
  exact hw.part (j:=3) Tryz.underlying129 rfl (by rw [List.getElem?_map,hx3]; rfl)
 generalize Tryz.prog.cellsOf 3=k at e0 e1 e2 h1
 generalize Tryz.prog.cellsOf 22=k' at e3 h3
 subst h1 h3
 obtain ⟨a,ha,_,_⟩:=DataW.trod_int Tryz.underlying3 (e0.trans hx0)
 obtain ⟨b,hb,_,_⟩:=DataW.trod_int Tryz.underlying3 (e1.trans hx1')
 obtain ⟨c,hc,_,_⟩:=DataW.trod_int Tryz.underlying3 (e2.trans hx2)
 obtain ⟨A,cc,ws,hd,k1,k2⟩:=Qez (e3.trans hx3) hw3
 simp at ha hb hc hd
 exact ⟨a,b,c,A,cc,ws,by rw [ha,hb,hc,hd],k1,k2⟩
set_option maxRecDepth 100000 in
theorem Quj {fuel:Nat} {cs:List Value} {x:DataW H × List MemPlace} (h:DataW.trod enc Tryz.prog W base spare held fuel 131 cs=some x) (hw:WOk 131 x.1)
  (hty:∀ m,m < fuel→∀ (cs:List Value) (x:DataW H × List MemPlace),DataW.trod enc Tryz.prog W base spare held m 29 cs=some x→WOk 29 x.1→∃ t:Ty,TyAt W W.heap.size t cs∧Q4 t) :
  ∃ (q:PtH) (t:Ty) (Al:Option Addr) (cl:Nat) (Ac:Option Addr) (cc:Nat) (vt:List Value),cs=ptV q Al cl Ac cc ++ vt∧WdsAt W W.heap.size Al q.label∧WdsAt W W.heap.size Ac q.cl∧TyAt W W.heap.size t vt∧q.name.1.size≤maxLen∧Qo q.label∧Qo q.cl∧Q4 t:=by
 obtain ⟨xs,m,hm,hx1,hl,hxl,hx⟩:=DataW.trod_struct Tryz.underlying131 h
 have h18:Tryz.prog.cellsOf 131=18:=by kernel_rfl
 have h1:Tryz.prog.cellsOf 3=1:=by kernel_rfl
 have hbo:Tryz.prog.cellsOf 4=1:=by kernel_rfl
 have h2:Tryz.prog.cellsOf 27=2:=by kernel_rfl
 have h3:Tryz.prog.cellsOf 22=1:=by kernel_rfl
 have h4:Tryz.prog.cellsOf 129=4:=by kernel_rfl
 have h9:Tryz.prog.cellsOf 29=9:=by kernel_rfl
 have hl':cs.length=2 + 16:=hl.trans h18
 clear hl h18
 obtain ⟨c0,r0,rfl,l0,m0⟩:=Qc0 hl'
 obtain ⟨c1,r1,rfl,l1,m1⟩:=Qc0 (n:=1) (m:=15) m0
 obtain ⟨c2,r2,rfl,l2,m2⟩:=Qc0 (n:=1) (m:=14) m1
 obtain ⟨c3,r3,rfl,l3,m3⟩:=Qc0 (n:=1) (m:=13) m2
 obtain ⟨c4,c5,rfl,l4,l5⟩:=Qc0 (n:=4) (m:=9) m3
 obtain ⟨L,hL⟩:=V1 (c0 ++ (c1 ++ (c2 ++ (c3 ++ (c4 ++ c5)))))
 rw [← hL] at hx ⊢
 have e0:DataW.trod enc Tryz.prog W base spare held m 27 (List.take (Tryz.prog.cellsOf 27) (List.drop 0 L))=xs[0]?:=hx 0 _ rfl
 have e1:DataW.trod enc Tryz.prog W base spare held m 4 (List.take (Tryz.prog.cellsOf 4) (List.drop 2 L))=xs[1]?:=hx 1 _ rfl
 have e2:DataW.trod enc Tryz.prog W base spare held m 22 (List.take (Tryz.prog.cellsOf 22) (List.drop 3 L))=xs[2]?:=hx 2 _ rfl
 have e3:DataW.trod enc Tryz.prog W base spare held m 3 (List.take (Tryz.prog.cellsOf 3) (List.drop 4 L))=xs[3]?:=hx 3 _ rfl
 have e4:DataW.trod enc Tryz.prog W base spare held m 129 (List.take (Tryz.prog.cellsOf 129) (List.drop 5 L))=xs[4]?:=hx 4 _ rfl
 have e5:DataW.trod enc Tryz.prog W base spare held m 29 (List.take (Tryz.prog.cellsOf 29) (List.drop 9 L))=xs[5]?:=hx 5 _ rfl
 rw [h2,Qeo (n:=0) (a:=[]) hL rfl l0] at e0
 rw [hbo,Qeo (a:=c0) hL l0 l1] at e1
 rw [h3,Qeo (a:=c0 ++ c1) (b:=c2) (c:=c3 ++ (c4 ++ c5)) (by rw [hL]; simp) (by rw [List.length_append,l0,l1]) l2] at e2
 rw [h1,Qeo (a:=c0 ++ c1 ++ c2) (b:=c3) (c:=c4 ++ c5) (by rw [hL]; simp) (by rw [List.length_append,List.length_append,l0,l1,l2]) l3] at e3
 rw [h4,Qeo (a:=c0 ++ c1 ++ c2 ++ c3) (b:=c4) (c:=c5) (by rw [hL]; simp) (by rw [List.length_append,List.length_append,List.length_append,l0,l1,l2,l3]) l4] at e4
 rw [h9,Qeo (a:=c0 ++ c1 ++ c2 ++ c3 ++ c4) (b:=c5) (c:=[]) (by rw [hL]; simp) (by rw [List.length_append,List.length_append,List.length_append,List.length_append,l0,l1,l2,l3,l4]) l5] at e5
 have hxl':xs.length=6:=hxl
 obtain ⟨x0,hx0⟩:∃ x0,xs[0]? = some x0:=⟨_,List.getElem?_eq_getElem (by omega)⟩
 obtain ⟨x1,hx1'⟩:∃ x1,xs[1]? = some x1:=⟨_,List.getElem?_eq_getElem (by omega)⟩
 obtain ⟨x2,hx2⟩:∃ x2,xs[2]? = some x2:=⟨_,List.getElem?_eq_getElem (by omega)⟩
 obtain ⟨x3,hx3⟩:∃ x3,xs[3]? = some x3:=⟨_,List.getElem?_eq_getElem (by omega)⟩
 obtain ⟨x4,hx4⟩:∃ x4,xs[4]? = some x4:=⟨_,List.getElem?_eq_getElem (by omega)⟩
 obtain ⟨x5,hx5⟩:∃ x5,xs[5]? = some x5:=⟨_,List.getElem?_eq_getElem (by omega)⟩
 rw [hx1] at hw
 have hw2:WOk 22 x2.1:=hw.part (j:=2) Tryz.underlying131 rfl (by rw [List.getElem?_map,hx2]; rfl)
 have hw4:WOk 129 x4.1:=hw.part (j:=4) Tryz.underlying131 rfl (by rw [List.getElem?_map,hx4]; rfl)
 have hw5:WOk 29 x5.1:=hw.part (j:=5) Tryz.underlying131 rfl (by rw [List.getElem?_map,hx5]; rfl)
 obtain ⟨nm,rfl,n1⟩:=Qdi (e0.trans hx0)
 obtain ⟨br,rfl,_⟩:=DataW.trod_bool Tryz.underlying4 (e1.trans hx1')
 obtain ⟨Al,cl,lb,rfl,g1,g2⟩:=Qez (e2.trans hx2) hw2
 obtain ⟨wi,rfl,_,_⟩:=DataW.trod_int Tryz.underlying3 (e3.trans hx3)
 obtain ⟨ck,cn,ca,Ac,cc,cw,rfl,g3,g4⟩:=Qpz (e4.trans hx4) hw4
 obtain ⟨t,g5,g6⟩:=hty m (by omega) c5 x5 (e5.trans hx5) hw5
 exact ⟨⟨nm,br,lb,wi,ck,cn,ca,cw⟩,t,Al,cl,Ac,cc,c5,by rw [hL]; rfl,g1,g3,g5,n1,g2,g4,g6⟩
set_option maxRecDepth 100000 in
theorem Qqj:∀ (fuel:Nat) (cs:List Value) (x:DataW H × List MemPlace),DataW.trod enc Tryz.prog W base spare held fuel 29 cs=some x→WOk 29 x.1→∃ t:Ty,TyAt W W.heap.size t cs∧Q4 t:=by
 intro fuel
 induction fuel using Nat.strongRecOn with
 | _ fuel ih =>
  intro cs x h hw
  obtain ⟨xs,m,hm,hx1,hl,hxl,hx⟩:=DataW.trod_struct Tryz.underlying29 h
  have h9:Tryz.prog.cellsOf 29=9:=by kernel_rfl
  have h1:Tryz.prog.cellsOf 3=1:=by kernel_rfl
  have h2:Tryz.prog.cellsOf 27=2:=by kernel_rfl
  have h3:Tryz.prog.cellsOf 22=1:=by kernel_rfl
  have h4:Tryz.prog.cellsOf 25=1:=by kernel_rfl
  have h18:Tryz.prog.cellsOf 131=18:=by kernel_rfl
  have hl':cs.length=9:=hl.trans h9
  clear hl h9
  obtain ⟨u0,u1,u2,u3,u4,u5,u6,u7,u8,rfl⟩:=Qwy hl'
  have e0:DataW.trod enc Tryz.prog W base spare held m 3 (List.take (Tryz.prog.cellsOf 3) (List.drop 0 [u0,u1,u2,u3,u4,u5,u6,u7,u8]))=xs[0]?:=hx 0 _ rfl
  have e1:DataW.trod enc Tryz.prog W base spare held m 3 (List.take (Tryz.prog.cellsOf 3) (List.drop 1 [u0,u1,u2,u3,u4,u5,u6,u7,u8]))=xs[1]?:=hx 1 _ rfl
  have e2:DataW.trod enc Tryz.prog W base spare held m 3 (List.take (Tryz.prog.cellsOf 3) (List.drop 2 [u0,u1,u2,u3,u4,u5,u6,u7,u8]))=xs[2]?:=hx 2 _ rfl
  have e3:DataW.trod enc Tryz.prog W base spare held m 3 (List.take (Tryz.prog.cellsOf 3) (List.drop 3 [u0,u1,u2,u3,u4,u5,u6,u7,u8]))=xs[3]?:=hx 3 _ rfl
  have e4:DataW.trod enc Tryz.prog W base spare held m 3 (List.take (Tryz.prog.cellsOf 3) (List.drop 4 [u0,u1,u2,u3,u4,u5,u6,u7,u8]))=xs[4]?:=hx 4 _ rfl
  have e5:DataW.trod enc Tryz.prog W base spare held m 22 (List.take (Tryz.prog.cellsOf 22) (List.drop 5 [u0,u1,u2,u3,u4,u5,u6,u7,u8]))=xs[5]?:=hx 5 _ rfl
  have e6:DataW.trod enc Tryz.prog W base spare held m 25 (List.take (Tryz.prog.cellsOf 25) (List.drop 6 [u0,u1,u2,u3,u4,u5,u6,u7,u8]))=xs[6]?:=hx 6 _ rfl
  have e7:DataW.trod enc Tryz.prog W base spare held m 27 (List.take (Tryz.prog.cellsOf 27) (List.drop 7 [u0,u1,u2,u3,u4,u5,u6,u7,u8]))=xs[7]?:=hx 7 _ rfl
  have hxl':xs.length=8:=hxl
  obtain ⟨x0,hx0⟩:∃ x0,xs[0]? = some x0:=⟨_,List.getElem?_eq_getElem (by omega)⟩
  obtain ⟨x1,hx1'⟩:∃ x1,xs[1]? = some x1:=⟨_,List.getElem?_eq_getElem (by omega)⟩
  obtain ⟨x2,hx2⟩:∃ x2,xs[2]? = some x2:=⟨_,List.getElem?_eq_getElem (by omega)⟩
  obtain ⟨x3,hx3⟩:∃ x3,xs[3]? = some x3:=⟨_,List.getElem?_eq_getElem (by omega)⟩
  obtain ⟨x4,hx4⟩:∃ x4,xs[4]? = some x4:=⟨_,List.getElem?_eq_getElem (by omega)⟩
  obtain ⟨x5,hx5⟩:∃ x5,xs[5]? = some x5:=⟨_,List.getElem?_eq_getElem (by omega)⟩
  obtain ⟨x6,hx6⟩:∃ x6,xs[6]? = some x6:=⟨_,List.getElem?_eq_getElem (by omega)⟩
  obtain ⟨x7,hx7⟩:∃ x7,xs[7]? = some x7:=⟨_,List.getElem?_eq_getElem (by omega)⟩
  rw [hx1] at hw
  have hw5:WOk 22 x5.1:=hw.part (j:=5) Tryz.underlying29 rfl (by rw [List.getElem?_map,hx5]; rfl)
  have hw6:WOk 25 x6.1:=hw.part (j:=6) Tryz.underlying29 rfl (by rw [List.getElem?_map,hx6]; rfl)
  generalize Tryz.prog.cellsOf 3=k1 at e0 e1 e2 e3 e4 h1
  generalize Tryz.prog.cellsOf 22=k3 at e5 h3
  generalize Tryz.prog.cellsOf 25=k4 at e6 h4
  generalize Tryz.prog.cellsOf 27=k2 at e7 h2
  subst h1 h3 h4 h2
  obtain ⟨kd,a0,_,_⟩:=DataW.trod_int Tryz.underlying3 (e0.trans hx0)
  obtain ⟨at_,a1,_,_⟩:=DataW.trod_int Tryz.underlying3 (e1.trans hx1')
  obtain ⟨lo,a2,_,_⟩:=DataW.trod_int Tryz.underlying3 (e2.trans hx2)
  obtain ⟨hi,a3,_,_⟩:=DataW.trod_int Tryz.underlying3 (e3.trans hx3)
  obtain ⟨mo,a4,_,_⟩:=DataW.trod_int Tryz.underlying3 (e4.trans hx4)
  obtain ⟨An,cn,nws,a5,w1,w2⟩:=Qez (e5.trans hx5) hw5
  obtain ⟨nm,a7,w3⟩:=Qdi (e7.trans hx7)
  have e6':=e6.trans hx6
  simp at a0 a1 a2 a3 a4 a5 a7
  simp only [List.take_succ_cons,List.take_zero,List.drop_succ_cons,List.drop_zero] at e6'
  subst a0 a1 a2 a3 a4 a5
  obtain ⟨rfl,rfl⟩:=a7
  have key:∃ (Ap:Option Addr) (cp n:Nat) (p:Nat→PtH) (t:Nat→Ty),u6 = .slice Ap n cp∧n≤628292358710 ∧
    (0 < n→∃ b o,Ap=some ⟨b,o,none⟩∧b < W.heap.size∧∀ i,i < n→∃ Al cl Ac cc vt,(∀ j v,(ptV (p i) Al cl Ac cc ++ vt)[j]? = some v→W.cell? ⟨b,o + i * 18 + j,none⟩=some v)∧WdsAt W W.heap.size Al (p i).label∧WdsAt W W.heap.size Ac (p i).cl∧TyAt W W.heap.size (t i) vt) ∧
    ∀ i,i < n→(p i).name.1.size≤maxLen∧Qo (p i).label∧Qo (p i).cl∧Q4 (t i):=by
   rcases DataW.trod_slice Tryz.underlying25 e6' with ⟨hcs,_⟩ | ⟨a,len,cap,elems,rest,n,hmn,hcs,hx6',_,hlc,hcm,hel,hall,_,_⟩
   ·refine ⟨none,0,0,fun _=>⟨wd0,false,[],0,0,0,0,[]⟩,fun _=>.nil,by simpa using hcs,by omega,fun h=>absurd h (by omega),fun i hi=>absurd hi (by omega)⟩
   ·have hby:Tryz.prog.bytesOf 131=224:=by kernel_rfl
    have hlen:len≤628292358710:=by
     rw [hx6'] at hw6
     have:=hw6.len Tryz.underlying25
     rw [hby,List.length_map,List.length_map,hel] at this
     unfold reachBytes at this
     omega
    rw [h18] at hall
    have hex:∀ i,i < len→∃ qt:PtH × Ty,(∃ Al cl Ac cc vt,(∀ j v,(ptV qt.1 Al cl Ac cc ++ vt)[j]? = some v→W.cell? (a.add (i * 18 + j))=some v)∧WdsAt W W.heap.size Al qt.1.label∧WdsAt W W.heap.size Ac qt.1.cl∧TyAt W W.heap.size qt.2 vt)∧qt.1.name.1.size≤maxLen∧Qo qt.1.label∧Qo qt.1.cl∧Q4 qt.2:=by
     intro i hi
     obtain ⟨xe,hxe⟩:∃ xe,elems[i]? = some xe:=⟨_,List.getElem?_eq_getElem (by omega)⟩
     have hb:=(hall i hi).trans hxe
     obtain ⟨cs',hc,ht⟩:=Option.bind_eq_some_iff.1 hb
     have hwe:WOk 131 xe.1:=by
      rw [hx6'] at hw6
      exact hw6.elem Tryz.underlying25 (List.mem_map.2 ⟨xe,List.mem_of_getElem? hxe,rfl⟩)
     obtain ⟨q,t,Al,cl,Ac,cc,vt,rfl,g1,g2,g3,g4,g5,g6,g7⟩:=Quj ht hwe (fun m' hm'=>ih m' (by omega))
     obtain ⟨_,hlc',hat⟩:=World.cells?_some hc
     refine ⟨(q,t),⟨Al,cl,Ac,cc,vt,fun j v hv=>?_,g1,g2,g3⟩,g4,g5,g6,g7⟩
     have hj:j < 18:=by
      have h9:=(List.getElem?_eq_some_iff.1 hv).1
      have hvl:vt.length=9:=by obtain ⟨_,_,_,_,_,_,rfl⟩:=g3.form; rfl
      rw [List.length_append,hvl] at h9
      exact h9
     have:=hat j hj
     rw [add_add] at this
     rw [this,hv]
    obtain ⟨f,hf⟩:=choose_lt (α:=PtH × Ty) hex
    refine ⟨some a,cap,len,fun i=>(f i).1,fun i=>(f i).2,by simpa using hcs,hlen,fun h0=>?_,fun i hi=>(hf i hi).2⟩
    have hcell0:W.cell? (a.add 0)=some (.string (f 0).1.name.1):=by
     obtain ⟨⟨Al,cl,Ac,cc,vt,g1,_⟩,_⟩:=hf 0 h0
     exact g1 0 _ rfl
    obtain ⟨b,o,sp⟩:=a
    have hsp:sp=none:=by
     rcases sp with _ | sp
     ·rfl
     ·simp [Addr.add,World.cell?] at hcell0
      split at hcell0 <;> simp at hcell0
    subst hsp
    have hadd:∀ j,(⟨b,o,none⟩:Addr).add j=⟨b,o + j,none⟩:=fun j=>by
     unfold Addr.add
     split
     ·rename_i h; subst h; rfl
     ·rfl
    refine ⟨b,o,rfl,?_,fun i hi=>?_⟩
    ·have:=World.block_lt_of_cell? W _ hcell0
     simpa [Addr.add] using this
    ·obtain ⟨⟨Al,cl,Ac,cc,vt,g1,g2,g3,g4⟩,_⟩:=hf i hi
     refine ⟨Al,cl,Ac,cc,vt,fun j v hv=>?_,g2,g3,g4⟩
     have:=g1 j v hv
     rw [hadd] at this
     rw [Nat.add_assoc]
     exact this
  obtain ⟨Ap,cp,n,p,t,rfl,k1,k2,k3⟩:=key
  exact ⟨.mk ⟨kd,at_,lo,hi,mo,nws,nm⟩ n p t,⟨An,cn,Ap,cp,rfl,w1,k2⟩,w2,w3,k1,k3⟩
theorem Qxf {ts:List TypeId} {ds:List (DataW H)} (h:(DataW.weightsEach Tryz.prog ts ds).all (·≤reachBytes)=true) {j:Nat} {t:TypeId} {d:DataW H} (ht:ts[j]? = some t) (hd:ds[j]? = some d):WOk t d:=by
 intro n hn
 have:=List.all_eq_true.1 h n (DataW.weights_mem_each ht hd n hn)
 simpa using this
end
instance:Inhabited StP:=⟨⟨0,0,⟨#[]⟩⟩⟩
section
variable {H:Type} {enc:TypeId × Value→H} {W:World} {base:Nat} {spare:Nat→Bool} {held:Bool}
set_option maxRecDepth 100000 in
theorem Quk {fuel:Nat} {cs:List Value} {x:DataW H × List MemPlace} (h:DataW.trod enc Tryz.prog W base spare held fuel 133 cs=some x):∃ p:Wd × Wd,cs = [.string p.1.1,.int .i64 p.1.2,.string p.2.1,.int .i64 p.2.2]:=by
 obtain ⟨xs,m,_,_,hl,hxl,hx⟩:=DataW.trod_struct Tryz.underlying133 h
 have h2:Tryz.prog.cellsOf 133=4:=by kernel_rfl
 have h1:Tryz.prog.cellsOf 27=2:=by kernel_rfl
 have hl':cs.length=4:=hl.trans h2
 clear hl h2
 obtain ⟨a,b,c,d,rfl⟩:=Qqi hl'
 have e0:DataW.trod enc Tryz.prog W base spare held m 27 (List.take (Tryz.prog.cellsOf 27) (List.drop 0 [a,b,c,d]))=xs[0]?:=hx 0 _ rfl
 have e1:DataW.trod enc Tryz.prog W base spare held m 27 (List.take (Tryz.prog.cellsOf 27) (List.drop 2 [a,b,c,d]))=xs[1]?:=hx 1 _ rfl
 have hxl':xs.length=2:=hxl
 obtain ⟨x0,hx0⟩:∃ x0,xs[0]? = some x0:=⟨_,List.getElem?_eq_getElem (by omega)⟩
 obtain ⟨x1,hx1⟩:∃ x1,xs[1]? = some x1:=⟨_,List.getElem?_eq_getElem (by omega)⟩
 generalize Tryz.prog.cellsOf 27=k at e0 e1 h1
 subst h1
 obtain ⟨p,hp,_⟩:=Qdi (e0.trans hx0)
 obtain ⟨q,hq,_⟩:=Qdi (e1.trans hx1)
 simp at hp hq
 exact ⟨(p,q),by rw [hp.1,hp.2,hq.1,hq.2]⟩
set_option maxRecDepth 100000 in
theorem Qr7 {fuel:Nat} {cs:List Value} {x:DataW H × List MemPlace} (h:DataW.trod enc Tryz.prog W base spare held fuel 23 cs=some x) (hw:WOk 23 x.1) :
  ∃ (a:Option Addr) (c:Nat) (os:List (Wd × Wd)),cs = [.slice a os.length c]∧OdsAt W W.heap.size a os∧os.length≤5864062014634:=by
 have h2:Tryz.prog.cellsOf 133=4:=by kernel_rfl
 have hby:Tryz.prog.bytesOf 133=48:=by kernel_rfl
 rcases open_slice Tryz.underlying23 h with ⟨hcs,_⟩ | ⟨a,len,cap,m,n,D,Pl,hcs,_,hlc,hm,hmm,hd,hx⟩
 ·exact ⟨none,0,[],hcs,Reads.none_,by simp⟩
 ·have hlm:len≤m:=by rw [hmm]; split <;> omega
  have hlen:len≤5864062014634:=by
   rw [hd] at hw
   have:=hw.len Tryz.underlying23
   rw [hby,List.length_map,List.length_range] at this
   unfold reachBytes at this
   omega
  rw [h2] at hx
  have hex:∀ i,i < len→∃ q:Wd × Wd,W.cell? (a.add (i * 4))=some (.string q.1.1)∧W.cell? (a.add (i * 4 + 1))=some (.int .i64 q.1.2)∧W.cell? (a.add (i * 4 + 2))=some (.string q.2.1)∧W.cell? (a.add (i * 4 + 3))=some (.int .i64 q.2.2):=by
   intro i hi
   obtain ⟨cs,hc,ht⟩:=hx i (by omega)
   obtain ⟨q,rfl⟩:=Quk ht
   obtain ⟨_,_,hat⟩:=World.cells?_some hc
   have c0:=hat 0 (by omega)
   have c1:=hat 1 (by omega)
   have c2:=hat 2 (by omega)
   have c3:=hat 3 (by omega)
   rw [add_add] at c0 c1 c2 c3
   exact ⟨q,by simpa using c0,by simpa using c1,by simpa using c2,by simpa using c3⟩
  obtain ⟨f,hf'⟩:=choose_lt (α:=Wd × Wd) hex
  have hat:∀ i,i < len→lo ((List.range len).map f) i=(f i).1∧hi ((List.range len).map f) i=(f i).2:=fun i hi'=>by
   simp [lo,hi,List.getD_eq_getElem?_getD,List.getElem?_map,List.getElem?_range hi']
  refine ⟨some a,cap,(List.range len).map f,by rw [hcs]; simp,⟨by rw [Qgg],fun hn=>⟨a,rfl,?_,fun j u hu=>?_⟩⟩,by simpa using hlen⟩
  ·have c0:=(hf' 0 (by simpa using hn)).1
   simp only [Nat.zero_mul] at c0
   have:=World.block_lt_of_cell? W _ c0
   simpa [Addr.add] using this
  ·have hj:j < len * 4:=by
    have:=(List.getElem?_eq_some_iff.1 hu).1
    rw [Qgg] at this
    simpa using this
   have hk:=Qj5 (by omega) hj
   have hg:=Qi2 ((List.range len).map f) (j / 4) (by simpa using hk)
   rw [(hat _ hk).1,(hat _ hk).2] at hg
   have hh:=hf' _ hk
   have e4:j % 4=0∨j % 4=1∨j % 4=2∨j % 4=3:=by omega
   rcases e4 with e | e | e | e
   ·have ej:j=j / 4 * 4:=by omega
    rw [ej] at hu ⊢
    rw [hg.1] at hu
    rw [hh.1,← hu]
   ·have ej:j=j / 4 * 4 + 1:=by omega
    rw [ej] at hu ⊢
    rw [hg.2.1] at hu
    rw [hh.2.1,← hu]
   ·have ej:j=j / 4 * 4 + 2:=by omega
    rw [ej] at hu ⊢
    rw [hg.2.2.1] at hu
    rw [hh.2.2.1,← hu]
   ·have ej:j=j / 4 * 4 + 3:=by omega
    rw [ej] at hu ⊢
    rw [hg.2.2.2] at hu
    rw [hh.2.2.2,← hu]
set_option maxRecDepth 100000 in
theorem Qr8 {fuel:Nat} {cs:List Value} {x:DataW H × List MemPlace} (h:DataW.trod enc Tryz.prog W base spare held fuel 90 cs=some x) (hw:WOk 90 x.1) :
  ∃ (q:Wd) (t:Ty) (vt:List Value),cs = [.string q.1,.int .i64 q.2] ++ vt∧TyAt W W.heap.size t vt∧q.1.size≤maxLen∧Q4 t:=by
 obtain ⟨xs,m,_,hx1,hl,hxl,hx⟩:=DataW.trod_struct Tryz.underlying90 h
 have h11:Tryz.prog.cellsOf 90=11:=by kernel_rfl
 have h2:Tryz.prog.cellsOf 27=2:=by kernel_rfl
 have h9:Tryz.prog.cellsOf 29=9:=by kernel_rfl
 have hl':cs.length=2 + 9:=hl.trans h11
 clear hl h11
 obtain ⟨c0,c1,rfl,l0,l1⟩:=Qc0 hl'
 obtain ⟨L,hL⟩:=V1 (c0 ++ c1)
 rw [← hL] at hx ⊢
 have e0:DataW.trod enc Tryz.prog W base spare held m 27 (List.take (Tryz.prog.cellsOf 27) (List.drop 0 L))=xs[0]?:=hx 0 _ rfl
 have e1:DataW.trod enc Tryz.prog W base spare held m 29 (List.take (Tryz.prog.cellsOf 29) (List.drop 2 L))=xs[1]?:=hx 1 _ rfl
 rw [h2,Qeo (n:=0) (a:=[]) (b:=c0) (c:=c1) (by rw [hL]; rfl) rfl l0] at e0
 rw [h9,Qeo (a:=c0) (b:=c1) (c:=[]) (by rw [hL]; simp) l0 l1] at e1
 have hxl':xs.length=2:=hxl
 obtain ⟨x0,hx0⟩:∃ x0,xs[0]? = some x0:=⟨_,List.getElem?_eq_getElem (by omega)⟩
 obtain ⟨x1,hx1'⟩:∃ x1,xs[1]? = some x1:=⟨_,List.getElem?_eq_getElem (by omega)⟩
 rw [hx1] at hw
 have hw1:WOk 29 x1.1:=hw.part (j:=1) Tryz.underlying90 rfl (by rw [List.getElem?_map,hx1']; rfl)
 obtain ⟨q,rfl,n1⟩:=Qdi (e0.trans hx0)
 obtain ⟨t,g1,g2⟩:=Qqj _ _ _ (e1.trans hx1') hw1
 exact ⟨q,t,c1,by rw [hL],g1,n1,g2⟩
set_option maxRecDepth 100000 in
theorem Qp0 {fuel:Nat} {cs:List Value} {x:DataW H × List MemPlace} (h:DataW.trod enc Tryz.prog W base spare held fuel 24 cs=some x) (hw:WOk 24 x.1) :
  ∃ (A:Option Addr) (c n:Nat) (nm:Nat→Wd) (ty:Nat→Ty),cs = [.slice A n c]∧NamedAt W W.heap.size A n nm ty∧n≤5864062014634∧∀ i,i < n→(nm i).1.size≤maxLen∧Q4 (ty i):=by
 have h11:Tryz.prog.cellsOf 90=11:=by kernel_rfl
 have hby:Tryz.prog.bytesOf 90=136:=by kernel_rfl
 rcases DataW.trod_slice Tryz.underlying24 h with ⟨hcs,_⟩ | ⟨a,len,cap,elems,rest,n,hmn,hcs,hx6',_,hlc,hcm,hel,hall,_,_⟩
 ·exact ⟨none,0,0,fun _=>wd0,fun _=>.nil,hcs,fun h=>absurd h (by omega),by omega,fun i hi=>absurd hi (by omega)⟩
 ·have hlen:len≤5864062014634:=by
   rw [hx6'] at hw
   have:=hw.len Tryz.underlying24
   rw [hby,List.length_map,List.length_map,hel] at this
   unfold reachBytes at this
   omega
  rw [h11] at hall
  have hex:∀ i,i < len→∃ qt:Wd × Ty,(∃ vt,(∀ j v,([.string qt.1.1,.int .i64 qt.1.2] ++ vt)[j]? = some v→W.cell? (a.add (i * 11 + j))=some v)∧TyAt W W.heap.size qt.2 vt)∧qt.1.1.size≤maxLen∧Q4 qt.2:=by
   intro i hi
   obtain ⟨xe,hxe⟩:∃ xe,elems[i]? = some xe:=⟨_,List.getElem?_eq_getElem (by omega)⟩
   have hb:=(hall i hi).trans hxe
   obtain ⟨cs',hc,ht⟩:=Option.bind_eq_some_iff.1 hb
   have hwe:WOk 90 xe.1:=by
    rw [hx6'] at hw
    exact hw.elem Tryz.underlying24 (List.mem_map.2 ⟨xe,List.mem_of_getElem? hxe,rfl⟩)
   obtain ⟨q,t,vt,rfl,g1,g2,g3⟩:=Qr8 ht hwe
   obtain ⟨_,hlc',hat⟩:=World.cells?_some hc
   refine ⟨(q,t),⟨vt,fun j v hv=>?_,g1⟩,g2,g3⟩
   have hj:j < 11:=by
    have h9:=(List.getElem?_eq_some_iff.1 hv).1
    have hvl:vt.length=9:=by obtain ⟨_,_,_,_,_,_,rfl⟩:=g1.form; rfl
    rw [List.length_append,hvl] at h9
    exact h9
   have:=hat j hj
   rw [add_add] at this
   rw [this,hv]
  obtain ⟨f,hf⟩:=choose_lt (α:=Wd × Ty) hex
  refine ⟨some a,cap,len,fun i=>(f i).1,fun i=>(f i).2,hcs,fun h0=>?_,hlen,fun i hi=>(hf i hi).2⟩
  have hcell0:W.cell? (a.add 0)=some (.string (f 0).1.1):=by
   obtain ⟨⟨vt,g1,_⟩,_⟩:=hf 0 h0
   exact g1 0 _ rfl
  obtain ⟨b,o,sp⟩:=a
  have hsp:sp=none:=by
   rcases sp with _ | sp
   ·rfl
   ·simp [Addr.add,World.cell?] at hcell0
    split at hcell0 <;> simp at hcell0
  subst hsp
  have hadd:∀ j,(⟨b,o,none⟩:Addr).add j=⟨b,o + j,none⟩:=fun j=>by
   unfold Addr.add
   split
   ·rename_i h; subst h; rfl
   ·rfl
  refine ⟨b,o,rfl,?_,fun i hi=>?_⟩
  ·have:=World.block_lt_of_cell? W _ hcell0
   simpa [Addr.add] using this
  ·obtain ⟨⟨vt,g1,g2⟩,_⟩:=hf i hi
   refine ⟨vt,fun j v hv=>?_,g2⟩
   have:=g1 j v hv
   rw [hadd] at this
   rw [Nat.add_assoc]
   exact this
set_option maxRecDepth 100000 in
theorem Qwc {r:Reach} {b0:Nat} {v:Value} {d:DataW H} {p:List MemPlace} (hv:Value.okWide Tryz.prog W r b0 31 v) (h:DataW.Trod enc Tryz.prog W base spare held 31 v d p) (hw:WOk 31 d):∃ (s:Sch) (vs:List Value),v = .agg vs.toArray∧SchAt W s vs∧SchSz s:=by
 simp only [Value.okWide,Tryz.underlying31] at hv
 obtain ⟨cs,rfl,_,_⟩:=hv
 obtain ⟨fuel,hf⟩:=h
 obtain ⟨xs,m,_,hx1,hl,hxl,hx⟩:=DataW.trod_struct Tryz.underlying31 hf
 have h12:Tryz.prog.cellsOf 31=12:=by kernel_rfl
 have h1:Tryz.prog.cellsOf 22=1:=by kernel_rfl
 have h2:Tryz.prog.cellsOf 23=1:=by kernel_rfl
 have h3:Tryz.prog.cellsOf 24=1:=by kernel_rfl
 have h9:Tryz.prog.cellsOf 29=9:=by kernel_rfl
 have e:(Value.agg cs).cells.toList=cs.toList:=by simp [Value.cells]
 rw [e] at hl hx
 have hl':cs.toList.length=1 + 11:=hl.trans h12
 clear hl h12 e
 obtain ⟨c0,r0,hc0,l0,m0⟩:=Qc0 hl'
 obtain ⟨c1,r1,rfl,l1,m1⟩:=Qc0 (n:=1) (m:=10) m0
 obtain ⟨c2,c3,rfl,l2,l3⟩:=Qc0 (n:=1) (m:=9) m1
 obtain ⟨L,hL⟩:=V1 (cs.toList)
 rw [← hL] at hx hc0
 have e0:DataW.trod enc Tryz.prog W base spare held m 22 (List.take (Tryz.prog.cellsOf 22) (List.drop 0 L))=xs[0]?:=hx 0 _ rfl
 have e1:DataW.trod enc Tryz.prog W base spare held m 23 (List.take (Tryz.prog.cellsOf 23) (List.drop 1 L))=xs[1]?:=hx 1 _ rfl
 have e2:DataW.trod enc Tryz.prog W base spare held m 24 (List.take (Tryz.prog.cellsOf 24) (List.drop 2 L))=xs[2]?:=hx 2 _ rfl
 have e3:DataW.trod enc Tryz.prog W base spare held m 29 (List.take (Tryz.prog.cellsOf 29) (List.drop 3 L))=xs[3]?:=hx 3 _ rfl
 rw [h1,Qeo (n:=0) (a:=[]) (b:=c0) (by rw [hc0]; rfl) rfl l0] at e0
 rw [h2,Qeo (a:=c0) (b:=c1) (by rw [hc0]) l0 l1] at e1
 rw [h3,Qeo (a:=c0 ++ c1) (b:=c2) (c:=c3) (by rw [hc0]; simp) (by rw [List.length_append,l0,l1]) l2] at e2
 rw [h9,Qeo (a:=c0 ++ c1 ++ c2) (b:=c3) (c:=[]) (by rw [hc0]; simp) (by rw [List.length_append,List.length_append,l0,l1,l2]) l3] at e3
 have hxl':xs.length=4:=hxl
 obtain ⟨x0,hx0⟩:∃ x0,xs[0]? = some x0:=⟨_,List.getElem?_eq_getElem (by omega)⟩
 obtain ⟨x1,hx1'⟩:∃ x1,xs[1]? = some x1:=⟨_,List.getElem?_eq_getElem (by omega)⟩
 obtain ⟨x2,hx2⟩:∃ x2,xs[2]? = some x2:=⟨_,List.getElem?_eq_getElem (by omega)⟩
 obtain ⟨x3,hx3⟩:∃ x3,xs[3]? = some x3:=⟨_,List.getElem?_eq_getElem (by omega)⟩
 have hx1'':d=DataW.agg (List.map (fun x=>x.fst) xs):=congrArg Prod.fst hx1
 rw [hx1''] at hw
 have hw0:WOk 22 x0.1:=hw.part (j:=0) Tryz.underlying31 rfl (by rw [List.getElem?_map,hx0]; rfl)
 have hw1:WOk 23 x1.1:=hw.part (j:=1) Tryz.underlying31 rfl (by rw [List.getElem?_map,hx1']; rfl)
 have hw2:WOk 24 x2.1:=hw.part (j:=2) Tryz.underlying31 rfl (by rw [List.getElem?_map,hx2]; rfl)
 have hw3:WOk 29 x3.1:=hw.part (j:=3) Tryz.underlying31 rfl (by rw [List.getElem?_map,hx3]; rfl)
 obtain ⟨A1,k1,ws,rfl,g1,s1⟩:=Qez (e0.trans hx0) hw0
 obtain ⟨A2,k2,os,rfl,g2,s2⟩:=Qr7 (e1.trans hx1') hw1
 obtain ⟨A3,k3,n,nm,ty,rfl,g3,s3,s4⟩:=Qp0 (e2.trans hx2) hw2
 obtain ⟨t,g4,s5⟩:=Qqj _ _ _ (e3.trans hx3) hw3
 refine ⟨⟨ws,os,n,nm,ty,t⟩,L,by rw [hL,Array.toArray_toList],⟨A1,k1,A2,k2,A3,k3,c3,by rw [hc0]; rfl,g1,g2,g3,g4⟩,⟨s1,s2,s3,fun i hi=>(s4 i hi).1,fun i hi=>(s4 i hi).2,s5⟩⟩
set_option maxRecDepth 100000 in
theorem Qul {fuel:Nat} {cs:List Value} {x:DataW H × List MemPlace} (h:DataW.trod enc Tryz.prog W base spare held fuel 76 cs=some x):∃ p:StP,cs=stV p∧p.name.size≤maxLen:=by
 obtain ⟨xs,m,_,_,hl,hxl,hx⟩:=DataW.trod_struct Tryz.underlying76 h
 have h3:Tryz.prog.cellsOf 76=3:=by kernel_rfl
 have h1:Tryz.prog.cellsOf 3=1:=by kernel_rfl
 have h2:Tryz.prog.cellsOf 9=1:=by kernel_rfl
 have hl':cs.length=3:=hl.trans h3
 clear hl h3
 obtain ⟨u,v,z,rfl⟩:∃ u v z,cs = [u,v,z]:=by
  match cs,hl' with
  | [u,v,z],_=>exact ⟨u,v,z,rfl⟩
 have e0:DataW.trod enc Tryz.prog W base spare held m 3 (List.take (Tryz.prog.cellsOf 3) (List.drop 0 [u,v,z]))=xs[0]?:=hx 0 _ rfl
 have e1:DataW.trod enc Tryz.prog W base spare held m 3 (List.take (Tryz.prog.cellsOf 3) (List.drop 1 [u,v,z]))=xs[1]?:=hx 1 _ rfl
 have e2:DataW.trod enc Tryz.prog W base spare held m 9 (List.take (Tryz.prog.cellsOf 9) (List.drop 2 [u,v,z]))=xs[2]?:=hx 2 _ rfl
 have hxl':xs.length=3:=hxl
 obtain ⟨x0,hx0⟩:∃ x0,xs[0]? = some x0:=⟨_,List.getElem?_eq_getElem (by omega)⟩
 obtain ⟨x1,hx1⟩:∃ x1,xs[1]? = some x1:=⟨_,List.getElem?_eq_getElem (by omega)⟩
 obtain ⟨x2,hx2⟩:∃ x2,xs[2]? = some x2:=⟨_,List.getElem?_eq_getElem (by omega)⟩
 generalize Tryz.prog.cellsOf 3=k at e0 e1 h1
 generalize Tryz.prog.cellsOf 9=k' at e2 h2
 subst h1 h2
 obtain ⟨a,ha,_,_⟩:=DataW.trod_int Tryz.underlying3 (e0.trans hx0)
 obtain ⟨b,hb,_,_⟩:=DataW.trod_int Tryz.underlying3 (e1.trans hx1)
 obtain ⟨c,hc,_,hw⟩:=DataW.trod_string Tryz.underlying9 (e2.trans hx2)
 simp at ha hb hc
 exact ⟨⟨a,b,c⟩,by rw [ha,hb,hc]; rfl,hw⟩
set_option maxRecDepth 100000 in
theorem Qr9 {a0:Option Addr} {len cap:Nat} {d:DataW H} {p:List MemPlace} (h:DataW.Trod enc Tryz.prog W base spare held 47 (.slice a0 len cap) d p) :
  ∃ l:List StP,len=l.length∧StpsAt W W.heap.size a0 l∧Qla l∧len≤cap∧len≤9223372036854775807:=by
 obtain ⟨fuel,hf⟩:=h
 have h3:Tryz.prog.cellsOf 76=3:=by kernel_rfl
 rcases open_slice Tryz.underlying47 hf with ⟨hcs,_⟩ | ⟨a,l,c,m,n,D,Pl,hcs,_,hlc,hm,hmm,hd,hx⟩
 ·simp [Value.cells] at hcs
  obtain ⟨rfl,rfl,rfl⟩:=hcs
  exact ⟨[],rfl,Reads.none_,fun k hk=>absurd hk (Nat.not_lt_zero _),Nat.le_refl _,by omega⟩
 ·simp [Value.cells] at hcs
  obtain ⟨rfl,rfl,rfl⟩:=hcs
  have hlm:len≤m:=by rw [hmm]; split <;> omega
  rw [h3] at hx
  have hex:∀ i,i < len→∃ q:StP,(W.cell? (a.add (i * 3))=some (.int .i64 q.kind)∧W.cell? (a.add (i * 3 + 1))=some (.int .i64 q.n)∧W.cell? (a.add (i * 3 + 2))=some (.string q.name))∧q.name.size≤maxLen:=by
   intro i hi
   obtain ⟨cs,hc,ht⟩:=hx i (by omega)
   obtain ⟨q,rfl,hq⟩:=Qul ht
   obtain ⟨_,_,hat⟩:=World.cells?_some hc
   have c0:=hat 0 (by omega)
   have c1:=hat 1 (by omega)
   have c2:=hat 2 (by omega)
   rw [add_add] at c0 c1 c2
   exact ⟨q,⟨by simpa [stV] using c0,by simpa [stV] using c1,by simpa [stV] using c2⟩,hq⟩
  obtain ⟨f,hf'⟩:=choose_lt (α:=StP) hex
  have hcl:∀ l:List StP,(Qcz l).length=l.length * 3:=fun l=>by
   induction l with
   | nil=>rfl
   | cons e r ih=>show (stV e ++ Qcz r).length=_; rw [List.length_append,ih]; simp [stV]; omega
  refine ⟨(List.range len).map f,by simp,⟨by rw [hcl],fun hn=>⟨a,rfl,?_,fun j u hu=>?_⟩⟩,fun k hk=>?_,hlc,by unfold maxLen at hm; omega⟩
  ·have c0:=(hf' 0 (by simpa using hn)).1.1
   simp only [Nat.zero_mul] at c0
   have:=World.block_lt_of_cell? W _ c0
   simpa [Addr.add] using this
  ·have hj:j < len * 3:=by
    have:=(List.getElem?_eq_some_iff.1 hu).1
    rw [hcl] at this
    simpa using this
   have hk:=Qj5 (by omega) hj
   have hg:=Qjf ((List.range len).map f) (j / 3) (by simpa using hk) (j % 3)
   have hgf:((List.range len).map f)[j / 3]'(by simpa using hk)=f (j / 3):=by simp
   rw [hgf] at hg
   have hh:=(hf' _ hk).1
   have e3:j % 3=0∨j % 3=1∨j % 3=2:=by omega
   have ej:j=j / 3 * 3 + j % 3:=by omega
   rw [ej] at hu ⊢
   rcases e3 with e | e | e
   ·rw [e] at hg hu ⊢
    rw [hg _ rfl] at hu
    rw [Nat.add_zero,hh.1,← hu]
   ·rw [e] at hg hu ⊢
    rw [hg _ rfl] at hu
    rw [hh.2.1,← hu]
   ·rw [e] at hg hu ⊢
    rw [hg _ rfl] at hu
    rw [hh.2.2,← hu]
  ·have hk':k < len:=by simpa using hk
   have:((List.range len).map f)[k]=f k:=by simp
   rw [this]
   exact (hf' k hk').2
end
end Go.Proofs.YtanpljalbijfkaaGreat
