/- . -/
import Derived.Test.YtanpljalbijfkaaGreatQ22
namespace Go.Proofs.YtanpljalbijfkaaGreat
open Go.RowKit
set_option maxHeartbeats 16000000
set_option maxRecDepth 100000 in
theorem Qro (s:Sch) (w0 wK:World) (gb gl gp gt n3 c3 cn:Nat) (A3 An:Option Addr) (xs:List Value) (mm:Int) (hC:NCtx s w0 wK gb gl gp gt n3 c3 cn A3 An xs mm) (h:TyH) (n:Nat) (p:Nat→PtH) (t:Nat→Ty) (hk:h.kind≠9) (h64:n≤64) (hS:Q1 (.mk h n p t)) (ih:∀ i,i < n→(p i).bare=false→Qic s w0 wK gb gl gp gt cn An (t i)):Qic s w0 wK gb gl gp gt cn An (.mk h n p t):=by
 intro w A c L U vs hst hlen hT
 obtain ⟨Ai,ci,Ap,cp,rfl,hN,hPt⟩:=hT.open_
 have hI:s.nodeI (.mk h n p t) L.length=L.length:=if_neg hk
 rw [hI]
 obtain ⟨⟨hms,_⟩,_,_,hSz⟩:=hS
 have hE0:=hC.old hst.mv
 have HB:=Qa (hC.bld hst.mv)
 have HP:=Qa hst.plan
 obtain ⟨HED,HRM,HNm,HPT,HE0,HST,HKW⟩:=Z7 (fun k (hkn:k < n) w1 A2 c2 L2 U2 vs (hs2:NSt wK gp gl gt s.n cn An w1 A2 c2 L2 U2) (hl2:(p k).bare=false→L2.length + Q6 (t k)≤2000) (hpa:PartAt w0 w0.heap.size (p k) (t k) vs)=>Qrm s w0 wK gb gl gp gt n3 c3 cn A3 An xs mm hC (p k) (t k) (hSz k hkn).2.1 (hSz k hkn).2.2.1 w1 A2 c2 L2 U2 vs hs2 hl2 hpa (ih k hkn)) (fun k (hkn:k < n) (hb:(p k).bare=false)=>Qp7 (s:=s) hk hlen hkn hb) (hN.ext hE0) hPt hE0 hst (hst.mv.size)
 have HGPK:=Qa hC.hgpK
 obtain ⟨HK9,HOLD,HBLD⟩:=Z3 hk (fun w' (hm:Mv (fun i=>i=gp) wK w')=>hC.old hm) (fun w' (hm:Mv (fun i=>i=gp) wK w')=>hC.bld hm)
 have HGBK:=Qa (show gb < wK.heap.size from hC.hB.lt)
 have hl2:L.length≤2000:=by omega
 unfold tyV
 obtain ⟨m,hm_⟩:=V1 (h.names.length)
 rw [← hm_] at hms ⊢
 have HM:=Qa hm_
 have hk':(h.kind == 9)=false:=by simpa using hk
 have hgpw:gp < w.heap.size:=Nat.lt_of_lt_of_le hC.hgpK hst.mv.size
 have hgbw:gb < w.heap.size:=(hC.bld hst.mv).lt
 have hm0:=nZ m
 have hn0:=nZ n
 obtain ⟨w1,g1,hw1,hg1,Hw1,Hg1,hT1,hT1E⟩:=T0 w 29 #[.int .i64 h.kind,.int .i64 h.at_,.int .i64 h.lo,.int .i64 h.hi,.int .i64 h.most,.slice Ai m ci,.slice Ap n cp,.string h.name.1,.int .i64 h.name.2]
 obtain ⟨t0,t1,t2,t3,t4⟩:=X5 hT1
 obtain ⟨w2,g2,hw2,hg2,Hw2,Hg2,hD,hDE⟩:=T0 w1 66 #[.int .i64 h.kind,.int .i64 h.at_,.int .i64 h.lo,.int .i64 h.hi,.int .i64 h.most,.slice none 0 0,.slice none 0 0]
 have Hg2':=Qa (show g2=g1 + 1 by rw [hg2,hw1,World.size_alloc,← hg1])
 obtain ⟨HE1,HE2,HE12⟩:=Z3 hT1E (hT1E.trans' hDE) hDE
 have b13:=(HB.out.ext hT1E).c13
 have p1:=(HP.out.ext hT1E).cell 1
 simp only [gA,gH,gS] at p1
 obtain ⟨HT1,HT2,HD⟩:=Z3 hT1 (hT1.ext hDE) hD
 have hg12:w.heap.size≤g1:=by omega
 have hg12':w1.heap.size≤g2:=by omega
 have hg22:w2.heap.size=g2 + 1:=by rw [hw2,World.size_alloc,hg2]
 have HG22:=Qa hg22
 clear hw1 hg1 hw2 hg2 hT1 hT1E hD hDE hC hst hI hSz hE0 hN hPt hT ih hm_ hk
 go_enter Tryz.func36,Tryz.ntmps36
 go_upto_region 1 with fail
 rw [← Hw1.out,← Hg1.out]
 go_upto_region 6 with fail
 rw [← Hw2.out,← Hg2.out]
 obtain ⟨-,-,-,-,-,t5⟩:=X6 HT2.out
 clear t0 t1 t2 t3 t4 b13 p1
 go_wp2_with fail
 clear t5
 go_loopw [63] (fun i wr=>∃ (k:Nat) (Ao:Option Addr) (co:Nat),k≤m∧i = .int .i64 (k:Int)∧Ext w1 wr∧Blk wr g2 66 #[.int .i64 h.kind,.int .i64 h.at_,.int .i64 h.lo,.int .i64 h.hi,.int .i64 h.most,.slice Ao k co,.slice none 0 0]∧wr.ownsRow (g2 + 1) 9 1 (.slice Ao k co) k (Qi ((nms h.names).take k))) (fun i _=>m - (intOf i).toNat)
 case atStart=>exact ⟨0,none,0,Nat.zero_le _,rfl,HE12.out,HD.out,World.ownsRow_nil _ _ _ _⟩
 case round =>
  obtain ⟨k,Ao,co,hk,rfl,hE,hB2,hO⟩:=hrel
  by_cases hlt:k < m
  ·obtain ⟨b,o,rfl,hb,hc⟩:=HNm.out.cell (by have:=HM.out; omega)
   obtain ⟨q1',q2'⟩:=hc k (by have:=HM.out; omega)
   have hEw:=HE1.out.trans' hE
   have q1:=(hEw.cell (p:=⟨b,o + k * 2,none⟩) hb).trans q1'
   have q2:=(hEw.cell (p:=⟨b,o + k * 2 + 1,none⟩) hb).trans q2'
   have hmo:=Qkr h.names k (by have:=HM.out; omega)
   obtain ⟨x,hx,y,hy⟩:=V2 (wNm h.names k) (wPl h.names k)
   rw [← hx] at q1 hmo
   rw [← hy] at q2
   have HMO:=Qa hmo
   obtain ⟨w5,g5,hw5,hg5,Hw5,Hg5,hV,hVE⟩:=T0 wr 27 #[.string x,.int .i64 y]
   obtain ⟨v0,v1⟩:=X2 hV
   obtain ⟨HE5,HO5,HD5⟩:=Z3 (hE.trans' hVE) (Qz hO hVE) (hB2.ext hVE)
   obtain ⟨-,-,-,-,-,d5⟩:=X6 HD5.out
   have i0:=nZ k
   have i1:(k:Int) < (m:Int):=by omega
   have hs5:g2 + 1≤w5.heap.size:=by have:=HD5.out.lt; omega
   clear hE hB2 hO hc q1' q2' hEw hmo hx hy hw5 hg5 hV hVE hb
   go_upto_region 9 with fail
   rw [← Hw5.out,← Hg5.out]
   clear q1 q2 v1
   go_wp2_with (at_builtin; refine Qg9 _ rfl _ _ rfl (g2 + 1) _ k ((nms h.names).take k) rfl w5.heap.size x _ rfl (HO5.out.alloc _) (Qau _ _ _ _ rfl) (by omega) (by simp only [World.size_alloc]; omega) ?_)
   intro A6 c6 w6 hown6 hgrow6 _
   have hE6:Ext w1 w6:=grown_ext' (w:=w1) (wr:=w5) (base:=g2 + 1) HE5.out ((Ext.rfl' w5).alloc nL _) hgrow6 HO5.out (by omega)
   have hD6:=Qea (HD5.out.alloc (.cells #[.string x] 9)) hgrow6 HO5.out (.inl (Nat.lt_succ_self g2))
   rw [← HMO.out] at hown6
   obtain ⟨HE6,HO6,HD6⟩:=Z3 hE6 hown6 hD6
   obtain ⟨-,-,-,-,-,e5⟩:=X6 hD6
   have ef5:=hD6.free 5
   clear hown6 hgrow6 hE6 hD6 v0 d5
   go_wp2_with fail
   go_roundw
   case rel=>exact ⟨k + 1,A6,c6,by omega,by go_num,HE6.out.setCell (p:=⟨g2,5,none⟩) hg12' _,HD6.out.set_ 5 _,own_far HO6.out (fun e=>by have:=own_block HO6.out g2 e; omega) _⟩
   case measure=>simp [intOf]; omega
  ·obtain rfl:k=m:=by omega
   have htk:(nms h.names).take k=nms h.names:=List.take_of_length_le (by rw [Qt,← HM.out]; exact Nat.le_refl _)
   rw [htk] at hO
   have hEw:=HE1.out.trans' hE
   obtain ⟨xs',hrow,hel⟩:=HST.out.row
   have hbase8:w.heap.size≤g2 + 1:=by have:=HE1.out.size; omega
   have s1:=(HB.out.ext hEw).c13
   have s2:=(HP.out.ext hEw).cell 1
   simp only [gA,gH,gS] at s2
   obtain ⟨w8,rfl⟩:=V1 (wr)
   obtain ⟨HEW,HON⟩:=Z2 hEw hO
   have HVB:=Qa (show ∀ i,(∃ a,Ao=some a∧a.block=i)→w.heap.size≤i from fun i ⟨a,ha,e⟩=>by have:=(Qie hO a ha).1; omega)
   obtain ⟨HROW,HEL,HD8,HT8⟩:=Z4 hrow hel hB2 (HT1.out.ext hE)
   have hsz8:w.heap.size≤w8.heap.size:=hEw.size
   have HS8:=Qa hsz8
   clear htk hEw hO hrow hel hE hB2
   go_upto_region 11 with fail
   rename_i Kz hKz
   refine Qa5 12 14 (by kernel_rfl) (by kernel_rfl) (fun w'=>w'.cell? ⟨gb,13,none⟩=some (.pointer (some ⟨gp,0,none⟩))∧w'.cell? ⟨gp,1,none⟩=some (.slice A L.length c)∧Blk w' g2 66 #[.int .i64 h.kind,.int .i64 h.at_,.int .i64 h.lo,.int .i64 h.hi,.int .i64 h.most,.slice Ao k co,.slice none 0 0]) ⟨s1,s2,HD8.out.drewN 1⟩ ?_
   intro I _ f hf
   have q13:=fun n=>(hf n).1
   have q1:=fun n=>(hf n).2.1
   have r0:∀ n,(f n).cell? ⟨g2,0,none⟩=some (.int .i64 h.kind):=fun n=>(hf n).2.2.cell 0
   have r1:∀ n,(f n).cell? ⟨g2,1,none⟩=some (.int .i64 h.at_):=fun n=>(hf n).2.2.cell 1
   have r2:∀ n,(f n).cell? ⟨g2,2,none⟩=some (.int .i64 h.lo):=fun n=>(hf n).2.2.cell 2
   have r3:∀ n,(f n).cell? ⟨g2,3,none⟩=some (.int .i64 h.hi):=fun n=>(hf n).2.2.cell 3
   have r4:∀ n,(f n).cell? ⟨g2,4,none⟩=some (.int .i64 h.most):=fun n=>(hf n).2.2.cell 4
   have r5:∀ n,(f n).cell? ⟨g2,5,none⟩=some (.slice Ao k co):=fun n=>(hf n).2.2.cell 5
   have r6:∀ n,(f n).cell? ⟨g2,6,none⟩=some (.slice none 0 0):=fun n=>(hf n).2.2.cell 6
   clear hf
   simp only [List.take_succ_cons,List.take_zero,List.drop_succ_cons,List.drop_zero]
   repeat (go_big_quiet_step ((fail)))
   refine wpQuiet_nil ?_
   clear q13 q1 r0 r1 r2 r3 r4 r5 r6
   refine Qak (by decide) rfl ?_
   intro K1 hK1
   go_simp
   have ha13:=(World.cell?_alloc_lt (w8.drew) (.cells #[.int .i64 h.kind,.int .i64 h.at_,.int .i64 h.lo,.int .i64 h.hi,.int .i64 h.most,.slice Ao k co,.slice none 0 0] 66) ⟨gb,13,none⟩ (by show gb < w8.heap.size; omega)).trans s1
   have ha1:=(World.cell?_alloc_lt (w8.drew) (.cells #[.int .i64 h.kind,.int .i64 h.at_,.int .i64 h.lo,.int .i64 h.hi,.int .i64 h.most,.slice Ao k co,.slice none 0 0] 66) ⟨gp,1,none⟩ (by show gp < w8.heap.size; omega)).trans s2
   have haD:=(HD8.out.drewN 1).alloc (.cells #[.int .i64 h.kind,.int .i64 h.at_,.int .i64 h.lo,.int .i64 h.hi,.int .i64 h.most,.slice Ao k co,.slice none 0 0] 66)
   refine hK1 _ _ ⟨ha13,ha1,haD⟩ ?_
   refine Qak (by decide) rfl ?_
   intro K2 hK2
   obtain ⟨wX,hwX⟩:=V1 ((w8.alloc (.cells #[.int .i64 h.kind,.int .i64 h.at_,.int .i64 h.lo,.int .i64 h.hi,.int .i64 h.most,.slice Ao k co,.slice none 0 0] 66)).drew)
   have hEX:Ext w8 wX:=by rw [hwX]; exact Ext.drew' ((Ext.rfl' w8).alloc nL _)
   have hrd:Reads wX (w8.heap.size + 1) 7 (some ⟨w8.heap.size,0,none⟩) 1 [.int .i64 h.kind,.int .i64 h.at_,.int .i64 h.lo,.int .i64 h.hi,.int .i64 h.most,.slice Ao k co,.slice none 0 0]:=by rw [hwX]; exact Qgq w8 66 [.int .i64 h.kind,.int .i64 h.at_,.int .i64 h.lo,.int .i64 h.hi,.int .i64 h.most,.slice Ao k co,.slice none 0 0] 7 rfl _ rfl
   have hsX:wX.heap.size=w8.heap.size + 1:=by rw [hwX]; exact World.size_alloc _ _
   rw [← hwX]
   refine Qi2 wX (.tmp 85) (.tmp 87) rfl wK.heap.size (.slice A L.length c) L.length xs' rfl (w8.heap.size + 1) (some ⟨w8.heap.size,0,none⟩) 1 [.int .i64 h.kind,.int .i64 h.at_,.int .i64 h.lo,.int .i64 h.hi,.int .i64 h.most,.slice Ao k co,.slice none 0 0] rfl (Qz (Qz HROW.out HEW.out) hEX) hrd (by intro u hu; simp at hu; rcases hu with rfl | rfl | rfl | rfl | rfl | rfl | rfl <;> rfl) (by omega) (by have:=HKW.out; omega) ?_
   intro A4 c4 w4 hown4 hgrow4 hob4
   have hpush:=NSt.push_node HST.out HROW.out HEL.out HGPK.out HEW.out HON.out hbase8 HM.out hEX hown4 hgrow4 hob4
   have hA4:=HST.out.ownA
   have hX4:∀ i,w.heap.size≤i∧i < w8.heap.size∨i=gb∨i=gp→w4.heap[i]? = w8.heap[i]?:=fun i hi=>by
    have hnA:some i≠(Value.slice A L.length c).ownBlock:=fun e=>by
     obtain ⟨a,ha,e2⟩:=Qal e.symm
     have:=hA4 a ha
     rcases hi with hi | hi | hi
     ·omega
     ·have hgbK:=HGBK.out; omega
     ·have:=HGPK.out; omega
    have hlt:i < w8.heap.size:=by rcases hi with hi | hi | hi <;> omega
    exact (hgrow4.block i (by omega) hnA).trans (hEX.block i hlt)
   have k13:w4.cell? ⟨gb,13,none⟩=some (.pointer (some ⟨gp,0,none⟩)):=(World.cell?_of_block (hX4 gb (.inr (.inl rfl)))).trans s1
   have k1:w4.cell? ⟨gp,1,none⟩=some (.slice A L.length c):=(World.cell?_of_block (hX4 gp (.inr (.inr rfl)))).trans s2
   have kD:Blk w4 g2 66 #[.int .i64 h.kind,.int .i64 h.at_,.int .i64 h.lo,.int .i64 h.hi,.int .i64 h.most,.slice Ao k co,.slice none 0 0]:=(hX4 g2 (.inl ⟨by have:=HE1.out.size; omega,HD8.out.lt⟩)).trans HD8.out
   have kT:Blk w4 g1 29 #[.int .i64 h.kind,.int .i64 h.at_,.int .i64 h.lo,.int .i64 h.hi,.int .i64 h.most,.slice Ai k ci,.slice Ap n cp,.string h.name.1,.int .i64 h.name.2]:=(hX4 g1 (.inl ⟨hg12,HT8.out.lt⟩)).trans HT8.out
   have kP:Blk w4 gp 83 #[.pointer (some ⟨gl,0,none⟩),.slice A L.length c,.int .i64 0,.pointer (some ⟨gt,0,none⟩),.slice An s.n cn]:=(hX4 gp (.inr (.inr rfl))).trans (HP.out.ext HEW.out)
   have kf1:=kP.free 1
   have hgg:gp≠g1:=by omega
   obtain ⟨HPUSH,HT4⟩:=Z2 hpush kT
   clear hpush hA4 hX4 hown4 hgrow4 hob4 hEX hrd hsX hwX kT ha13 ha1 haD HEL HROW HON HD8 HT8
   refine hK2 _ _ ⟨k13,k1,kD⟩ ?_
   refine Qcv (by decide) ?_
   clear k13 kD s1 s2 kP
   go_wp2_with fail
   refine hKz _ _ ?_
   obtain ⟨w9,hw9⟩:=V1 (w4.setCell ⟨gp,1,none⟩ (.slice A4 (L.length + 1) c4))
   have hpush:=HPUSH.out
   have hT9:Blk w9 g1 29 #[.int .i64 h.kind,.int .i64 h.at_,.int .i64 h.lo,.int .i64 h.hi,.int .i64 h.most,.slice Ai k ci,.slice Ap n cp,.string h.name.1,.int .i64 h.name.2]:=by rw [hw9]; exact HT4.out.far (fun e=>hgg e.symm) _
   rw [← hw9] at hpush
   obtain ⟨-,-,-,-,-,-,t6⟩:=X7 hT9
   have hin8:=hbase8
   have HL0:=Qa (NodLoop.start (s:=s) (p:=p) (t:=t) (U:=U) (L:=L) (h:=h) hpush.1 hpush.2.1 hpush.2.2 (fun i hi=>by
    rcases hi with hi | hi
    ·exact .inl hi
    ·exact .inr (HVB.out i hi)))
   clear hpush HPUSH hT9 k1 kf1
   rw [← hw9]
   clear hw9
   go_wp2_with fail
   clear t6
   go_loopw [94,11] (fun i v wx=>∃ (q:Nat) (Ae:Option Addr) (ce:Nat),q≤n∧i = .int .i64 (q:Int)∧v = .slice Ae q ce∧Hid (NodLoop s wK gp gl gt cn An w A U h p t L q Ae ce wx)) (fun i _ _=>n - (intOf i).toNat)
   case atStart=>exact ⟨0,none,0,Nat.zero_le _,rfl,rfl,HL0.out⟩
   case round =>
    obtain ⟨q,Ae,ce,hq,rfl,rfl,HL⟩:=hrel
    obtain ⟨A2,c2,U2,n1,n2,n3,n4,n5,n6⟩:=HL.out
    by_cases hlt2:q < n
    ·obtain ⟨b,o,rfl,hb,hc⟩:=HPT.out (by omega)
     obtain ⟨vs,h1,h2⟩:=hc q hlt2
     have hEr:=HOLD.out wr n1.mv
     have HR1:=Qa (show wr.rangeAt b (o + q * 18) vs from fun j v hv=>(hEr.cell (p:=⟨b,o + q * 18 + j,none⟩) hb).trans (h1 j v hv))
     have HVL:=Qa h2.len
     have HVO:=Qa h2.one
     obtain ⟨w5,hw5,g5,hg5⟩:=V2 (wr.alloc (.cells vs.toArray 131)) (wr.heap.size)
     have hV:Blk w5 g5 131 vs.toArray:=by rw [hw5,hg5]; exact Blk.new _ _ _
     have hVE:Ext wr w5:=by rw [hw5]; exact (Ext.rfl' wr).alloc nL _
     have hed:=HED.out q hlt2 w5 A2 c2 _ U2 vs (n1.ext hVE) (fun hb=>HRM.out q hlt2 hb) h2
     rw [Qp6,Qg8,Sch.edgeX_eq] at hed
     have HEDG:=Qa hed
     have hes:=Qi1 s L.length p t q
     obtain ⟨EP,hEP⟩:=V1 (s.edgeP L.length p t q)
     rw [← hEP] at HEDG hes
     obtain ⟨HES,HSTP,HN5,HVE,HV,HW5,HG5⟩:=Z7 hes (fun (w6 wX w7:World) (Ae':Option Addr) (ce':Nat) hN hX hO7 hg hb=>NodLoop.step (w6:=w6) (wX:=wX) (w7:=w7) (Ae':=Ae') (ce':=ce') HGPK.out HKW.out n1 n2 n3 n4 n5 n6 hVE hN hX hO7 hg hb) n5 hVE hV hw5 hg5
     have HWS:=Qa n2.size
     have i0:=nZ q
     have i1:(q:Int) < (n:Int):=by omega
     have HXNA:=Qa (fun (w6:World) (L':List NodeP) (hN:NStep wK gp gl gt s.n cn An w5 A2 U2 L' w6)=>(show w6.ownsRow w.heap.size 70 10 (.slice Ae q ce) q (Qy (Qca s L.length p t q)) from by
      obtain ⟨_,_,_,_,k2,_,_⟩:=hN
      refine k2.own (Qz n5 hVE) fun g hg=>?_
      obtain ⟨a,ha,e⟩:=Qal hg
      rw [← e]; exact (n6 a ha).1))
     clear hc h1 h2 hEr hw5 hg5 hV hVE hed hes hEP n1 n2 n3 n4 n5 n6 hb HL
     go_upto_region 15 with fail
     refine wp_region_lit ?_
     refine wpList_plain rfl fun K3 hK3=>?_
     go_simp
     refine hK3 _ _ ?_
     refine wpList_load_mid rfl 131 _ rfl b (o + q * 18) rfl vs _ HR1.out Tryz.underlying131 rfl (infoPart' HVL.out) ?_
     refine wpList_plain rfl fun K4 hK4=>?_
     go_simp
     refine hK4 _ _ ?_
     refine Qd rfl 131 _ _ rfl _ vs.toArray rfl rfl (Qc8 HVL.out) (by show _=vs.length; rw [HVL.out]; rfl) HVO.out ?_
     go_upto_region 16 with fail
     rw [← HW5.out,← HG5.out]
     refine wp_region_lit ?_
     refine wpList_plain rfl fun K5 hK5=>?_
     go_simp
     refine hK5 _ _ ?_
     refine wpList_plain rfl fun K6 hK6=>?_
     go_simp
     refine hK6 _ _ ?_
     refine wpList_load_mid rfl 131 _ rfl g5 0 rfl vs _ (Qai HV.out) Tryz.underlying131 rfl (infoPart' HVL.out) ?_
     refine wpList_plain rfl fun K7 hK7=>?_
     go_simp
     refine HEDG.out.mono ?_
     rintro e w6 ⟨rfl,hN6⟩
     refine hK7 _ _ ?_
     refine Qn9 rfl _ rfl EP rfl ?_
     obtain ⟨wX,hwX⟩:=V1 (w6.alloc (.cells (Qaj EP).toArray 70))
     have hEX:Ext w6 wX:=by rw [hwX]; exact (Ext.rfl' w6).alloc nL _
     have hrd:Reads wX (w6.heap.size + 1) 10 (some ⟨w6.heap.size,0,none⟩) 1 (Qaj EP):=by rw [hwX]; exact Qgq w6 70 (Qaj EP) 10 rfl _ rfl
     have hO6:=HXNA.out w6 _ hN6
     have hs6:w.heap.size≤w6.heap.size:=Nat.le_trans (Nat.le_trans HWS.out HVE.out.size) (by obtain ⟨_,_,_,_,k2,_⟩:=hN6; exact k2.size)
     rw [← hwX]
     refine Qid wX rfl _ _ rfl w.heap.size _ q (Qy (Qca s L.length p t q)) rfl (w6.heap.size + 1) (some ⟨w6.heap.size,0,none⟩) 1 (Qaj EP) rfl (Qz hO6 hEX) hrd (Qp8 EP) (by omega) (by have:=hEX.size; omega) ?_
     intro A7 c7 w7 hown7 hgrow7 hob7
     rw [← HES.out] at hown7
     have HNEW:=Qa (HSTP.out w6 wX w7 A7 c7 hN6 hEX hown7 hgrow7 hob7)
     clear hN6 hwX hEX hrd hO6 hs6 hown7 hgrow7 hob7
     go_wp2_with fail
     go_roundw
     case rel=>exact ⟨q + 1,A7,c7,by omega,by go_num,rfl,HNEW.out⟩
     case measure=>simp [intOf]; omega
    ·obtain rfl:q=n:=by omega
     obtain ⟨xsr,hro,_⟩:=n1.row
     have hlk:(L ++ nd0 h :: s.kidsTo p t (L.length + 1) q).length=L.length + 1 + (s.kidsTo p t (L.length + 1) q).length:=Qg8 s h p t L q
     obtain ⟨g,cap,hv,_,hgl⟩:=hro.form (by rw [hlk]; omega)
     injection hv with hv1 hv2 hv3
     subst hv1
     subst hv3
     have hx1:=hro.1
     have hd:=hro.cellAt (L.length * 7 + 6) (by rw [hlk]; omega)
     have hdf:=hro.frozenAt (L.length * 7 + 6)
     rw [List.getElem?_eq_getElem (show L.length * 7 + 6 < xsr.length by rw [hx1,hlk]; omega)] at hd
     obtain ⟨u,hu⟩:=V1 (xsr[L.length * 7 + 6]'(by rw [hx1,hlk]; omega))
     rw [← hu] at hd
     have b13:=(HBLD.out wr n1.mv).c13
     obtain ⟨-,p1⟩:=X2 n1.plan
     have HDONE:=Qa (NodLoop.done HK9.out n1 n2 n3 n4 n5 n6)
     obtain ⟨N,hN⟩:=V1 ((L ++ nd0 h :: s.kidsTo p t (L.length + 1) q).length)
     rw [← hN] at p1 hlk
     have j0:(0:Int)≤(L.length:Int):=by omega
     have j1:(L.length:Int) < (N:Int):=by omega
     clear n1 n2 n3 n4 n5 n6 HL hro hv2 hx1 hu hN hlk hgl
     go_wp2_with fail
     go_ret
     exact ⟨rfl,HDONE.out⟩
theorem Qfv {f:Nat→Flt} {n:Nat} (h:((Qg (fun i=>Sch.optF (f i)) n).getD (0,0)).1=0):∀ i,i < n→(f i).1=0:=by
 cases hq:Qg (fun i=>Sch.optF (f i)) n with
 | none =>
  intro i hi
  have:=firstOf_miss.1 hq i hi
  unfold Sch.optF at this
  split at this
  ·assumption
  ·cases this
 | some x =>
  rw [hq] at h
  obtain ⟨i,_,hx⟩:=List.exists_of_findSome?_eq_some hq
  unfold Sch.optF at hx
  split at hx
  ·cases hx
  ·injection hx with hx
   subst hx
   exact absurd h (by assumption)
theorem Qp9 (s:Sch) (t:Ty) (h:(s.knownF t).1=0):s.knownF t=(0,0):=by
 cases t with
 | nil=>rfl
 | mk h' n p t =>
  rw [Sch.knownF_mk] at h ⊢
  split at h
  ·cases h
  ·rename_i c
   rw [if_neg c]
   exact Qhu (fun i x hx=>by unfold Sch.optF at hx; split at hx; cases hx; injection hx with hx; rw [← hx]; assumption) h
theorem Qmf {s:Sch} {p:Nat→PtH} {t:Nat→Ty} {i:Nat} (h:(s.partK p t i).1=0) (hb:(p i).bare=false):(s.knownF (t i)).1=0:=by
 unfold Sch.partK at h
 split at h
 ·contradiction
 ·rw [if_neg (by rw [hb]; decide)] at h
  exact h
theorem Qrp (s:Sch) (t:Ty):(s.knownF t).1=0→s.Known t:=by
 induction t with
 | nil=>intro _; trivial
 | mk h n p t ih =>
  intro hz
  rw [Sch.knownF_mk] at hz
  by_cases c:h.kind=9∧findL s.names h.name.1 < 0
  ·rw [if_pos c] at hz; cases hz
  ·rw [if_neg c] at hz
   exact ⟨fun h9=>by have:=fun hh=>c ⟨h9,hh⟩; omega,fun i hi hb=>ih i (Qmf (Qfv (f:=s.partK p t) hz i hi) hb)⟩
theorem Qk2 (f:Nat→Option Flt) (n:Nat):Qg f (n + 1)=match Qg f n with | some x=>some x | none=>f n:=by
 unfold Qg
 rw [List.range_succ,List.findSome?_append]
 cases List.findSome? f (List.range n) with
 | some x=>rfl
 | none=>cases hn:f n <;> simp [hn]
theorem Qoa {f:Nat→Flt} (hz:∀ i,(f i).1=0→f i=(0,0)) (m:Int):∀ n,goTo (fun i m=>(f i,m)) n m=((Qg (fun i=>Sch.optF (f i)) n).getD (0,0),m):=by
 intro n
 induction n with
 | zero=>rfl
 | succ n ih =>
  show (if (goTo (fun i m=>(f i,m)) n m).1.1≠0 then goTo (fun i m=>(f i,m)) n m else (f n,(goTo (fun i m=>(f i,m)) n m).2))=_
  rw [ih,Qk2]
  cases hq:Qg (fun i=>Sch.optF (f i)) n with
  | some x =>
   obtain ⟨i,_,hx⟩:=List.exists_of_findSome?_eq_some hq
   have:x.1≠0:=by unfold Sch.optF at hx; split at hx; cases hx; injection hx with hx; rw [← hx]; assumption
   rw [if_pos (by simpa using this)]
  | none =>
   rw [if_neg (by simp)]
   show (f n,m)=((Sch.optF (f n)).getD (0,0),m)
   by_cases h0:(f n).1=0
   ·rw [show Sch.optF (f n)=none from if_pos h0,hz n h0]; rfl
   ·rw [show Sch.optF (f n)=some (f n) from if_neg h0]; rfl
theorem Qmg (s:Sch) (m:Int):goTo (fun k m=>(s.knownF (s.all k),m)) (s.n + 1) m=(s.knownsF,m):=Qoa (f:=fun k=>s.knownF (s.all k)) (fun _i=>Qp9 s _) m (s.n + 1)
theorem Qjk {s:Sch} (h:s.knownsF.1=0):∀ i,i≤s.n→s.Known (s.all i):=fun i hi=>Qrp s _ (Qfv (f:=fun k=>s.knownF (s.all k)) h i (by omega))
theorem Qk3 {s:Sch} (h:(s.loopsF s.n).1=0):∀ i,i < s.n→∃ j,s.endK s.n i=some j:=by
 intro i hi
 cases hj:s.endK s.n i with
 | some j=>exact ⟨j,rfl⟩
 | none =>
  exfalso
  unfold Sch.loopsF at h
  cases hq:Qg (s.loopAt s.n) s.n with
  | none =>
   have:=firstOf_miss.1 hq i hi
   unfold Sch.loopAt at this
   rw [hj,if_pos rfl] at this
   cases this
  | some x =>
   rw [hq] at h
   obtain ⟨k,_,hx⟩:=List.exists_of_findSome?_eq_some hq
   unfold Sch.loopAt at hx
   split at hx
   ·injection hx with hx; rw [← hx] at h; cases h
   ·cases hx
structure Sch.Good (s:Sch):Prop where
 lat:LatOk s
 lvl:GoodL s.ws s.os
 fine:s.Fine
 known:∀ i,i≤s.n→s.Known (s.all i)
 ends : ∀ i, i < s.n → ∃ j, s.endK s.n i = some j
theorem Qrq {s:Sch} {k:Nat} (h:(s.badK k).1=0):(Qx s.ws s.os).1=0∧s.calledF.1=0∧s.rightF.1=0∧s.knownsF.1=0∧(s.loopsF k).1=0:=by
 unfold Sch.badK at h
 by_cases c1:(Qx s.ws s.os).1≠0
 ·rw [if_pos c1] at h; exact absurd h c1
 rw [if_neg c1] at h
 by_cases c2:s.calledF.1≠0
 ·rw [if_pos c2] at h; exact absurd h c2
 rw [if_neg c2] at h
 by_cases c3:s.rightF.1≠0
 ·rw [if_pos c3] at h; exact absurd h c3
 rw [if_neg c3] at h
 by_cases c4:s.knownsF.1≠0
 ·rw [if_pos c4] at h; exact absurd h c4
 rw [if_neg c4] at h
 exact ⟨by omega,by omega,by omega,by omega,h⟩
theorem Qha {s:Sch} (hS:SchSz s) (h:(s.badK s.n).1=0):s.Good:=by
 obtain ⟨h1,h2,h3,h4,h5⟩:=Qrq h
 exact ⟨Qkv h1,Qix h1,Sch.fine_of (fun i hi=>hS.all i hi) h2 h3,Qjk h4,Qk3 h5⟩
theorem Qrr (s:Sch) (w0 wK:World) (gb gl gp gt n3 c3 cn:Nat) (A3 An:Option Addr) (xs:List Value) (mm:Int) (hC:NCtx s w0 wK gb gl gp gt n3 c3 cn A3 An xs mm) (t:Ty):Fit t→Q1 t→s.Known t→Qic s w0 wK gb gl gp gt cn An t:=by
 induction t with
 | nil=>intro h; exact h.elim
 | mk h n p t ih =>
  intro hF hS hK
  have hF':=hF
  obtain ⟨_,_,h64,_,_,hFp⟩:=hF'
  by_cases hk:h.kind=9
  ·refine Qrn s w0 wK gb gl gp gt n3 c3 cn A3 An xs mm hC h n p t hk (hK.1 hk) ?_
   have hf:=hK.1 hk
   rcases Nat.eq_zero_or_pos s.n with h0 | h0
   ·exfalso
    have hnm:s.names = []:=by unfold Sch.names; rw [h0]; rfl
    rw [hnm] at hf
    exact absurd hf (by unfold findL; simp)
   ·exact h0
  ·exact Qro s w0 wK gb gl gp gt n3 c3 cn A3 An xs mm hC h n p t hk h64 hS fun i hi hb=>ih i ((hFp i hi).2 hb) (hS.2.2.2 i hi).2.2.2 (hK.2 i hi hb)
def PlanAt (w:World) (gp:Nat) (s:Sch):Prop :=
 ∃ gl gt A c An cn xs,Blk w gp 83 #[.pointer (some ⟨gl,0,none⟩),.slice A s.nodes.length c,.int .i64 (s.rootI:Nat),.pointer (some ⟨gt,0,none⟩),.slice An s.n cn]∧LatAt w gl s.ws s.os∧Reads w w.heap.size 7 A s.nodes.length xs∧∀ k (hk:k < s.nodes.length),ElAt w s.nodes[k] (fun i=>i < w.heap.size) ((xs.drop (k * 7)).take 7)
theorem PlanAt.ext {w w':World} {gp:Nat} {s:Sch} (h:PlanAt w gp s) (hE:Ext w w'):PlanAt w' gp s:=by
 obtain ⟨gl,gt,A,c,An,cn,xs,h1,h2,h3,h4⟩:=h
 exact ⟨gl,gt,A,c,An,cn,xs,h1.ext hE,h2.ext hE,(Reads.keep h3 fun _ hp=>hE.cell hp).more hE.size,fun k hk=>(h4 k hk).mv (Mv.of_ext (X:=fun _=>False) hE) fun i hi=>⟨fun hh=>hh,Nat.lt_of_lt_of_le hi hE.size⟩⟩
theorem NSt.plan_at {s:Sch} {wK w w0:World} {gp gl gt cn c:Nat} {An A:Option Addr} {U:Nat→Prop} (h:NSt wK gp gl gt s.n cn An w A c s.nodes U) (hgpK:gp < wK.heap.size) (hE:Ext w0 w) (hgp:w0.heap.size≤gp) (hL:LatAt w0 gl s.ws s.os):PlanAt (w.setCell ⟨gp,2,none⟩ (.int .i64 (s.rootI:Nat))) gp s:=by
 obtain ⟨xs,hrow,hel⟩:=h.row
 have hAK:=h.ownA
 have hset:Mv (fun i=>i=gp) w (w.setCell ⟨gp,2,none⟩ (.int .i64 (s.rootI:Nat))):=(Mv.rfl' (fun i=>i=gp) w).set (.inr rfl) _
 have hw:=h.mv.size
 refine ⟨gl,gt,A,c,An,cn,xs,h.plan.set_ 2 _,?_,?_,fun k hk=>?_⟩
 ·exact hL.ext (hE.setCell (p:=⟨gp,2,none⟩) hgp _)
 ·exact Reads.mv (Reads.of_own hrow) hset fun a ha e=>by have:=hAK a ha; omega
 ·exact (hel k hk).mv hset fun i hi=>⟨fun e=>(h.free i hi).2 (.inl e),by rw [size_setCell']; exact (h.free i hi).1⟩
def Qdp (s:Sch) (w:World) (e:Ending) (w':World):Prop :=
 ((s.badK s.n).1≠0∧e = .returned (.tuple #[.pointer none,Qe (s.badK s.n)])∧Ext w w') ∨
 ((s.badK s.n).1=0∧∃ gp,e = .returned (.tuple #[.pointer (some ⟨gp,0,none⟩),Qe (0,0)])∧PlanAt w' gp s∧Ext w w')
section
variable {s:Sch} {k:Nat}
theorem Qrs (h:(Qx s.ws s.os).1≠0):s.badK k=Qx s.ws s.os:=if_pos h
theorem Qmh (h1:Qx s.ws s.os=(0,0)) (h:s.calledF.1≠0):s.badK k=s.calledF:=by
 unfold Sch.badK; rw [if_neg (by rw [h1]; simp),if_pos h]
theorem Qob (h1:Qx s.ws s.os=(0,0)) (h2:s.calledF.1=0) (h:s.rightF.1≠0):s.badK k=s.rightF:=by
 unfold Sch.badK; rw [if_neg (by rw [h1]; simp),if_neg (by rw [h2]; simp),if_pos h]
theorem Qoc (h1:Qx s.ws s.os=(0,0)) (h2:s.calledF.1=0) (h3:s.rightF.1=0) (h:s.knownsF.1≠0):s.badK k=s.knownsF:=by
 unfold Sch.badK; rw [if_neg (by rw [h1]; simp),if_neg (by rw [h2]; simp),if_neg (by rw [h3]; simp),if_pos h]
theorem Qif (h1:Qx s.ws s.os=(0,0)) (h2:s.calledF.1=0) (h3:s.rightF.1=0) (h4:s.knownsF.1=0):s.badK k=s.loopsF k:=by
 unfold Sch.badK; rw [if_neg (by rw [h1]; simp),if_neg (by rw [h2]; simp),if_neg (by rw [h3]; simp),if_neg (by rw [h4]; simp)]
end
theorem Qod {s:Sch} (hf:s.Fine) {k:Nat} (hk:k≤s.n):(s.nodesTo k).length + Q6 (s.all k)≤512:=by
 have h1:=Qbz (f:=fun i=>Q4 (s.all i)) (show k < s.n + 1 by omega)
 have h2:=hf.many
 have h3:Ql (fun i=>Q6 (s.all i)) k≤Ql (fun i=>Q4 (s.all i)) k:=Qdw fun i _=>Qdr _
 have h4:=Qdr (s.all k)
 rw [Sch.nodesTo_length]
 omega
theorem Qs3 {s:Sch} (h:s.calledF.1=0):s.n≤64:=by
 unfold Sch.calledF at h
 rcases Nat.lt_or_ge 64 s.n with h1 | h1
 ·rw [if_pos h1] at h; cases h
 ·exact h1
theorem Qig (w:World) (g i j:Nat) (u v:Value):Mv (fun k=>k=g) w ((w.setCell ⟨g,i,none⟩ u).setCell ⟨g,j,none⟩ v):=((Mv.rfl' (fun k=>k=g) w).set (.inr rfl) u).set (.inr rfl) v
theorem Qgb {w:World} {g:Nat} {t:TypeId} {a b u v:Value} (h:Blk w g t #[a,b]):Blk ((w.setCell ⟨g,0,none⟩ u).setCell ⟨g,1,none⟩ v) g t #[u,v]:=(h.set_ 0 u).set_ 1 v
theorem NSt.none {wK:World} {gp gl gt n cn:Nat} {An:Option Addr} (h:Blk wK gp 83 #[.pointer (some ⟨gl,0,none⟩),.slice none 0 0,.int .i64 0,.pointer (some ⟨gt,0,none⟩),.slice An n cn]):NSt wK gp gl gt n cn An wK none 0 [] (fun _=>False) :=
 ⟨Mv.rfl' _ _,h,⟨[],World.ownsRow_nil _ _ _ _,fun _k hk=>absurd hk (Nat.not_lt_zero _)⟩,fun _ hh=>hh.elim⟩
theorem NSt.next {wK w w':World} {gp gl gt n cn c:Nat} {An A:Option Addr} {L L':List NodeP} {U:Nat→Prop} (_:NSt wK gp gl gt n cn An w A c L U) (hN:NStep wK gp gl gt n cn An w A U L' w'):∃ A' c' U',NSt wK gp gl gt n cn An w' A' c' L' U':=by
 obtain ⟨A',c',U',h1,_⟩:=hN; exact ⟨A',c',U',h1⟩
set_option maxRecDepth 100000 in
theorem Qih (s:Sch) (vs:List Value) (w:World) (hS:SchAt w s vs) (hz:SchSz s):Calls Tryz.prog 10 #[.agg vs.toArray] w (Qdp s w):=by
 obtain ⟨A1,c1,A2,c2,A3,c3,vr,rfl,hA1,hA2,hA3,hR⟩:=hS
 obtain ⟨y0,y1,y2,y3,y4,y5,y6,y7,y8,rfl⟩:∃ y0 y1 y2 y3 y4 y5 y6 y7 y8:Value,vr = [y0,y1,y2,y3,y4,y5,y6,y7,y8]:=by obtain ⟨y0,y1,y2,y3,y4,y5,y6,y7,y8,e⟩:=hR.nine; exact ⟨y0,y1,y2,y3,y4,y5,y6,y7,y8,e⟩
 obtain ⟨HLB,HNM,HRT,HSZ⟩:=Z4 (fun w1 (hE:Ext w w1)=>Qpc A1 c1 s.ws.length s.ws A2 c2 s.os.length s.os w1 (hA1.ext hE) hz.ws.2 rfl (hA2.ext hE) rfl) hA3 hR hz
 obtain ⟨nw,hnw,no,hno,n,hn⟩:=V3 (s.ws.length) (s.os.length) (s.n)
 rw [← hnw,← hno] at HLB
 rw [← hn] at HNM
 rw [← hnw,← hno,← hn]
 have HN:=Qa hn
 have hnb:n≤5864062014634:=by rw [hn]; exact hz.n
 clear hnw hno hn hA1 hA2 hA3 hR hz
 show Calls Tryz.prog 10 #[.agg #[.slice A1 nw c1,.slice A2 no c2,.slice A3 n c3,y0,y1,y2,y3,y4,y5,y6,y7,y8]] w _
 obtain ⟨w1,g1,hw1,hg1,Hw1,Hg1,hS,hSE⟩:=T0 w 31 #[.slice A1 nw c1,.slice A2 no c2,.slice A3 n c3,y0,y1,y2,y3,y4,y5,y6,y7,y8]
 obtain ⟨w2,g3,hw2,hg3,Hw2,Hg3,hZ,hZE⟩:=T0 w1 34 #[.int .i64 0,.int .i64 0]
 have Hg3':=Qa (show g3=g1 + 1 by rw [hg3,hw1,World.size_alloc,← hg1])
 have HE2:=Qa (hSE.trans' hZE)
 have hlo3:w.heap.size≤g3:=by have:=hSE.size; omega
 obtain ⟨HS2,HZ2⟩:=Z2 (hS.ext hZE) hZ
 obtain ⟨t0,t1⟩:=X2 HS2.out
 clear hw1 hg1 hw2 hg3 hS hSE hZ hZE
 go_enter Tryz.func10,Tryz.ntmps10
 go_upto_region 1 with fail
 rw [← Hw1.out,← Hg1.out,← Hw2.out,← Hg3'.out]
 go_wp2_with fail
 refine (HLB.out w2 HE2.out).mono ?_
 clear t0 t1
 rintro e w3 (⟨hne,rfl,hE3⟩ | ⟨hq,gl,rfl,hL3,hE3⟩)
 ·have HBK:=Qa (Qrs (s:=s) (k:=s.n) hne)
  obtain ⟨E,hE,A,hA⟩:=V2 ((Qx s.ws s.os).1) ((Qx s.ws s.os).2)
  have HF:=Qa (show Qe (Qx s.ws s.os) = .agg #[.int .i64 E,.int .i64 A] by rw [hE,hA]; rfl)
  have HF2:=Qa (show Qx s.ws s.os=(E,A) by rw [hE,hA])
  rw [HF.out]
  rw [← hE] at hne
  have hxb:(E != 0)=true:=by rw [bne_iff_ne]; exact hne
  obtain ⟨w4,g5,hw4,hg5,Hw4,Hg5,hF,hFE⟩:=T0 w3 34 #[.int .i64 E,.int .i64 A]
  obtain ⟨HE4,HZ4,HNE⟩:=Z3 ((HE2.out.trans' hE3).trans' hFE) ((HZ2.out.ext hE3).ext hFE) hne
  obtain ⟨u0,u1⟩:=X2 hF
  obtain ⟨z0,z1⟩:=X2 HZ4.out
  obtain ⟨f0,f1⟩:=Y2 HZ4.out
  clear hw4 hg5 hF hFE hE3 hE hA hne
  go_upto_region 2 with fail
  rw [← Hw4.out,← Hg5.out]
  go_wp2_with fail
  go_region
  go_wp2_with fail
  refine Qn (f:=(E,A)) (g:=g3) (v:=.pointer none) ((HZ4.out.set_ 0 _).set_ 1 _) rfl rfl rfl rfl (.inl ⟨by rw [HBK.out,HF2.out]; exact HNE.out,by rw [HBK.out,HF2.out],?_⟩)
  first
   | exact (HE4.out.setCell (p:=⟨g3,0,none⟩) hlo3 _).setCell (p:=⟨g3,1,none⟩) hlo3 _
   | exact Ext.drew' ((HE4.out.setCell (p:=⟨g3,0,none⟩) hlo3 _).setCell (p:=⟨g3,1,none⟩) hlo3 _)
   | exact ((Ext.drew' HE4.out).setCell (p:=⟨g3,0,none⟩) hlo3 _).setCell (p:=⟨g3,1,none⟩) hlo3 _
 ·obtain ⟨HQ,HL3,HE3,HS3,HZ3,HOK⟩:=Z6 hq hL3 (HE2.out.trans' hE3) (HS2.out.ext hE3) (HZ2.out.ext hE3) (Qkv (s:=s) (by rw [hq]))
  rw [show Qe (0,0) = .agg #[.int .i64 0,.int .i64 0] from rfl]
  obtain ⟨w4,g5,hw4,hg5,Hw4,Hg5,hF,hFE⟩:=T0 w3 34 #[.int .i64 0,.int .i64 0]
  obtain ⟨w5,gp,hw5,hgp,Hw5,Hgp,hP,hPE⟩:=T0 w4 83 #[.pointer (some ⟨gl,0,none⟩),.slice none 0 0,.int .i64 0,.pointer none,.slice none 0 0]
  obtain ⟨w6,gb,hw6,hgb,Hw6,Hgb,hB,hBE⟩:=T0 w5 85 #[.slice A1 nw c1,.slice A2 no c2,.slice A3 n c3,y0,y1,y2,y3,y4,y5,y6,y7,y8,.pointer (some ⟨gl,0,none⟩),.pointer (some ⟨gp,0,none⟩),.int .i64 0]
  have hE36:Ext w3 w6:=(hFE.trans' hPE).trans' hBE
  have hgp3:w3.heap.size≤gp:=by have:=hFE.size; omega
  have hgb3:w3.heap.size≤gb:=by have:=hFE.size; have:=hPE.size; omega
  have hg53:w3.heap.size≤g5:=by omega
  have hsz4:w4.heap.size=w3.heap.size + 1:=by rw [hw4,World.size_alloc]
  have hsz5:w5.heap.size=w4.heap.size + 1:=by rw [hw5,World.size_alloc]
  have hgbp:gb≠gp:=by omega
  have hgp5:gp≠g5:=by omega
  have hgb5:gb≠g5:=by omega
  have hBA:BldAt w6 gb A3 n c3 [y0,y1,y2,y3,y4,y5,y6,y7,y8] gl gp 0:=⟨.slice A1 nw c1,.slice A2 no c2,rfl,hB⟩
  obtain ⟨HP6,HF6,HBA,HE36⟩:=Z4 (hP.ext hBE) ((hF.ext hPE).ext hBE) hBA hE36
  have hS4:=HS3.out.ext hFE
  have Hgb':=Qa (show gb=gp + 1 by omega)
  obtain ⟨t0,t1,t2,t3,t4,t5,t6,t7,t8,t9,t10,t11⟩:=X12 hS4
  obtain ⟨u0,u1⟩:=X2 hF
  have hs6:w6.heap.size=gb + 1:=by rw [hw6,World.size_alloc,← hgb]
  clear hw4 hg5 hF hFE hw5 hgp hP hPE hw6 hgb hB hBE hE36 hBA hS4 hq hL3 hE3 hsz4 hsz5
  go_upto_region 2 with fail
  rw [← Hw4.out,← Hg5.out]
  go_upto_region 5 with fail
  rw [← Hgp.out,← Hw5.out,← Hgb'.out,← Hw6.out]
  clear t0 t1 t2 t3 t4 t5 t6 t7 t8 t9 t10 t11 u0 u1
  have hszn:∀ i,i < n→(s.nm i).1.size≤maxLen:=fun i hi=>HSZ.out.nm i (by have:=HN.out; omega)
  have HCALL:=Qa (Qme gb gl gp n c3 A3 [y0,y1,y2,y3,y4,y5,y6,y7,y8] 0 0 (.slice none 0 0) (.pointer none) (.slice none 0 0) s w6 HBA.out HN.out hszn HP6.out (HNM.out.ext (HE3.out.trans' HE36.out)))
  clear hszn
  go_wp2_with fail
  refine HCALL.out.mono ?_
  rintro e w7 ⟨rfl,hm7,hg7⟩
  obtain ⟨HBA7,HE37,HF7,HG7⟩:=Z4 (HBA.out.mv hm7 (fun e=>hgbp e)) (hm7.below HE36.out (fun i e=>by rw [e]; exact hgp3)) (hm7.blk HF6.out (fun e=>hgp5 e.symm)) hg7
  clear hm7 hg7 HCALL
  obtain ⟨Ew8,hEw8,Bw8,hBw8⟩:=V2 ((s.calledF).1) ((s.calledF).2)
  have HVw8:=Qa (show Qe (s.calledF) = .agg #[.int .i64 Ew8,.int .i64 Bw8] by rw [hEw8,hBw8]; rfl)
  have HQw8:=Qa (show s.calledF=(Ew8,Bw8) by rw [hEw8,hBw8])
  rw [HVw8.out]
  obtain ⟨u0,u1⟩:=X2 HF7.out
  obtain ⟨v0,v1⟩:=Y2 HF7.out
  obtain ⟨w8,hw8⟩:=V1 ((w7.setCell ⟨g5,0,none⟩ (.int .i64 Ew8)).setCell ⟨g5,1,none⟩ (.int .i64 Bw8))
  have HMw8:=Qa (show Mv (fun i=>i=g5) w7 w8 by rw [hw8]; exact Qig _ _ _ _ _ _)
  have HFw8:=Qa (show Blk w8 g5 34 #[.int .i64 Ew8,.int .i64 Bw8] by rw [hw8]; exact Qgb HF7.out)
  have HE3w8:=Qa (HMw8.out.below HE37.out (fun i e=>by rw [e]; exact hg53))
  clear hEw8 hBw8
  go_upto_region 6 with fail
  rw [← hw8]
  clear hw8 u0 u1 v0 v1
  obtain ⟨u0,u1⟩:=X2 HFw8.out
  by_cases h0:Ew8=0
  rotate_left
  ·have hxb:(Ew8 != 0)=true:=by rw [bne_iff_ne]; exact h0
   have HNE:=Qa h0
   have HBK:=Qa (show s.badK s.n=s.calledF from Qmh HQ.out (by rw [HQw8.out]; exact HNE.out))
   have HZb:=Qa (HZ3.out.ext HE3w8.out)
   obtain ⟨z0,z1⟩:=X2 HZb.out
   obtain ⟨f0,f1⟩:=Y2 HZb.out
   have HEX:=Qa (HE3.out.trans' HE3w8.out)
   clear h0
   go_wp2_with fail
   go_region
   go_wp2_with fail
   refine Qn (f:=(Ew8,Bw8)) (g:=g3) (v:=.pointer none) ((HZb.out.set_ 0 _).set_ 1 _) rfl rfl rfl rfl (.inl ⟨by rw [HBK.out,HQw8.out]; exact HNE.out,by rw [HBK.out,HQw8.out],?_⟩)
   first
    | exact (HEX.out.setCell (p:=⟨g3,0,none⟩) hlo3 _).setCell (p:=⟨g3,1,none⟩) hlo3 _
    | exact Ext.drew' ((HEX.out.setCell (p:=⟨g3,0,none⟩) hlo3 _).setCell (p:=⟨g3,1,none⟩) hlo3 _)
    | exact ((Ext.drew' HEX.out).setCell (p:=⟨g3,0,none⟩) hlo3 _).setCell (p:=⟨g3,1,none⟩) hlo3 _
  have hxb:(Ew8 != 0)=false:=by simpa using h0
  have HZw8:=Qa (show (s.calledF).1=0 by rw [HQw8.out]; exact h0)
  clear h0
  obtain ⟨gt,hP7,hT7⟩:=HG7.out HZw8.out
  obtain ⟨HP7,HT7⟩:=Z2 hP7 hT7
  have hg5l:g5 < w6.heap.size:=HF6.out.lt
  have hgbl:gb < w6.heap.size:=HBA.out.lt
  have hgpl:gp < w6.heap.size:=HP6.out.lt
  have h64:n≤64:=by rw [HN.out]; exact Qs3 HZw8.out
  obtain ⟨HN3,HR3⟩:=Z2 (HNM.out.ext HE3.out) (HRT.out.ext HE3.out)
  clear hP7 hT7 HG7
  obtain ⟨HBA8,HP8,HT8⟩:=Z3 (HBA7.out.mv HMw8.out hgb5) (HMw8.out.blk HP7.out hgp5) (HT7.out.mv HMw8.out (fun i hi e=>by omega))
  have hea:Calls Tryz.prog 31 #[.pointer (some ⟨gb,0,none⟩),.func (.func 32) #[.pointer (some ⟨gb,0,none⟩)] #[]] w8 (fun e w'=>e = .returned (Qe s.rightF)∧(∃ m,BldAt w' gb A3 n c3 [y0,y1,y2,y3,y4,y5,y6,y7,y8] gl gp m)∧Mv (fun i=>i=gb) w8 w') :=
   (Qn6 s.rightG gb gl gp n c3 A3 [y0,y1,y2,y3,y4,y5,y6,y7,y8] 0 s w3 w8 HBA8.out HN.out h64 HE3w8.out hgb3 HN3.out HR3.out (fun k hk m w1 vs hb hm ht=>by
    rw [Qrj]
    exact Qpw gb gl gp n c3 A3 _ m (s.all k) w1 vs hb ht (HSZ.out.all k (by have:=HN.out; omega)))).mono (by
    rintro e w' ⟨rfl,h1,h2⟩
    exact ⟨by rw [HN.out]; rfl,⟨_,h1⟩,h2⟩)
  have HEA:=Qa hea
  clear hea
  go_upto_region 8 with fail
  go_wp2_with fail
  refine HEA.out.mono ?_
  rintro e w9 ⟨rfl,⟨m9,hb9⟩,hm9⟩
  obtain ⟨HBA9,HM9,HP9,HT9,HE39,HF9⟩:=Z6 hb9 hm9 (hm9.blk HP8.out (fun e=>hgbp e.symm)) (HT8.out.mv hm9 (fun i hi e=>by omega)) (hm9.below HE3w8.out (fun i e=>by rw [e]; exact hgb3)) (hm9.blk HFw8.out (fun e=>hgb5 e.symm))
  clear hb9 hm9 HEA
  obtain ⟨Ew10,hEw10,Bw10,hBw10⟩:=V2 ((s.rightF).1) ((s.rightF).2)
  have HVw10:=Qa (show Qe (s.rightF) = .agg #[.int .i64 Ew10,.int .i64 Bw10] by rw [hEw10,hBw10]; rfl)
  have HQw10:=Qa (show s.rightF=(Ew10,Bw10) by rw [hEw10,hBw10])
  rw [HVw10.out]
  obtain ⟨u0,u1⟩:=X2 HF9.out
  obtain ⟨v0,v1⟩:=Y2 HF9.out
  obtain ⟨w10,hw10⟩:=V1 ((w9.setCell ⟨g5,0,none⟩ (.int .i64 Ew10)).setCell ⟨g5,1,none⟩ (.int .i64 Bw10))
  have HMw10:=Qa (show Mv (fun i=>i=g5) w9 w10 by rw [hw10]; exact Qig _ _ _ _ _ _)
  have HFw10:=Qa (show Blk w10 g5 34 #[.int .i64 Ew10,.int .i64 Bw10] by rw [hw10]; exact Qgb HF9.out)
  have HE3w10:=Qa (HMw10.out.below HE39.out (fun i e=>by rw [e]; exact hg53))
  clear hEw10 hBw10
  go_upto_region 9 with fail
  rw [← hw10]
  clear hw10 u0 u1 v0 v1
  obtain ⟨u0,u1⟩:=X2 HFw10.out
  by_cases h0:Ew10=0
  rotate_left
  ·have hxb:(Ew10 != 0)=true:=by rw [bne_iff_ne]; exact h0
   have HNE:=Qa h0
   have HBK:=Qa (show s.badK s.n=s.rightF from Qob HQ.out HZw8.out (by rw [HQw10.out]; exact HNE.out))
   have HZb:=Qa (HZ3.out.ext HE3w10.out)
   obtain ⟨z0,z1⟩:=X2 HZb.out
   obtain ⟨f0,f1⟩:=Y2 HZb.out
   have HEX:=Qa (HE3.out.trans' HE3w10.out)
   clear h0
   go_wp2_with fail
   go_region
   go_wp2_with fail
   refine Qn (f:=(Ew10,Bw10)) (g:=g3) (v:=.pointer none) ((HZb.out.set_ 0 _).set_ 1 _) rfl rfl rfl rfl (.inl ⟨by rw [HBK.out,HQw10.out]; exact HNE.out,by rw [HBK.out,HQw10.out],?_⟩)
   first
    | exact (HEX.out.setCell (p:=⟨g3,0,none⟩) hlo3 _).setCell (p:=⟨g3,1,none⟩) hlo3 _
    | exact Ext.drew' ((HEX.out.setCell (p:=⟨g3,0,none⟩) hlo3 _).setCell (p:=⟨g3,1,none⟩) hlo3 _)
    | exact ((Ext.drew' HEX.out).setCell (p:=⟨g3,0,none⟩) hlo3 _).setCell (p:=⟨g3,1,none⟩) hlo3 _
  have hxb:(Ew10 != 0)=false:=by simpa using h0
  have HZw10:=Qa (show (s.rightF).1=0 by rw [HQw10.out]; exact h0)
  clear h0
  obtain ⟨HBA10,HP10,HT10,HFI⟩:=Z4 (HBA9.out.mv HMw10.out hgb5) (HMw10.out.blk HP9.out hgp5) (HT9.out.mv HMw10.out (fun i hi e=>by omega)) (Sch.fine_of (s:=s) (fun i hi=>HSZ.out.all i hi) HZw8.out HZw10.out)
  have hek:Calls Tryz.prog 31 #[.pointer (some ⟨gb,0,none⟩),.func (.func 33) #[.pointer (some ⟨gb,0,none⟩)] #[]] w10 (fun e w'=>e = .returned (Qe s.knownsF)∧(∃ m,BldAt w' gb A3 n c3 [y0,y1,y2,y3,y4,y5,y6,y7,y8] gl gp m)∧Mv (fun i=>i=gb) w10 w') :=
   (Qn7 (fun k m=>(s.knownF (s.all k),m)) gb gl gp n c3 A3 [y0,y1,y2,y3,y4,y5,y6,y7,y8] m9 s w3 w10 HBA10.out HN.out h64 HE3w10.out hgb3 HN3.out HR3.out (fun k hk m w1 vs hb hm ht=>by
    have hE1:=hm.below HE3w10.out (fun i e=>by rw [e]; exact hgb3)
    refine (Qp2 gb gl gp gt n c3 A3 _ m 0 (.slice none 0 0) (.slice none 0 0) s w1 hb (hm.blk HP10.out (fun e=>hgbp e.symm)) (HT10.out.mv hm (fun i hi e=>by omega)).tab (HL3.out.ext hE1) HOK.out HFI.out.few (s.all k) (HFI.out.fit k (by have:=HN.out; omega)) (HSZ.out.all k (by have:=HN.out; omega)) w1 vs (Ext.rfl' _) ht).mono ?_
    rintro e w' ⟨rfl,h2⟩
    exact ⟨rfl,hb.ext h2,Mv.of_ext h2⟩)).mono (by
    rintro e w' ⟨rfl,h1,h2⟩
    exact ⟨by rw [HN.out,Qmg],⟨_,h1⟩,h2⟩)
  have HEK:=Qa hek
  clear hek
  go_upto_region 11 with fail
  go_wp2_with fail
  refine HEK.out.mono ?_
  rintro e w11 ⟨rfl,⟨m11,hb11⟩,hm11⟩
  obtain ⟨HBA11,HM11,HP11,HT11,HE311,HF11⟩:=Z6 hb11 hm11 (hm11.blk HP10.out (fun e=>hgbp e.symm)) (HT10.out.mv hm11 (fun i hi e=>by omega)) (hm11.below HE3w10.out (fun i e=>by rw [e]; exact hgb3)) (hm11.blk HFw10.out (fun e=>hgb5 e.symm))
  clear hb11 hm11 HEK
  obtain ⟨Ew12,hEw12,Bw12,hBw12⟩:=V2 ((s.knownsF).1) ((s.knownsF).2)
  have HVw12:=Qa (show Qe (s.knownsF) = .agg #[.int .i64 Ew12,.int .i64 Bw12] by rw [hEw12,hBw12]; rfl)
  have HQw12:=Qa (show s.knownsF=(Ew12,Bw12) by rw [hEw12,hBw12])
  rw [HVw12.out]
  obtain ⟨u0,u1⟩:=X2 HF11.out
  obtain ⟨v0,v1⟩:=Y2 HF11.out
  obtain ⟨w12,hw12⟩:=V1 ((w11.setCell ⟨g5,0,none⟩ (.int .i64 Ew12)).setCell ⟨g5,1,none⟩ (.int .i64 Bw12))
  have HMw12:=Qa (show Mv (fun i=>i=g5) w11 w12 by rw [hw12]; exact Qig _ _ _ _ _ _)
  have HFw12:=Qa (show Blk w12 g5 34 #[.int .i64 Ew12,.int .i64 Bw12] by rw [hw12]; exact Qgb HF11.out)
  have HE3w12:=Qa (HMw12.out.below HE311.out (fun i e=>by rw [e]; exact hg53))
  clear hEw12 hBw12
  go_upto_region 12 with fail
  rw [← hw12]
  clear hw12 u0 u1 v0 v1
  obtain ⟨u0,u1⟩:=X2 HFw12.out
  by_cases h0:Ew12=0
  rotate_left
  ·have hxb:(Ew12 != 0)=true:=by rw [bne_iff_ne]; exact h0
   have HNE:=Qa h0
   have HBK:=Qa (show s.badK s.n=s.knownsF from Qoc HQ.out HZw8.out HZw10.out (by rw [HQw12.out]; exact HNE.out))
   have HZb:=Qa (HZ3.out.ext HE3w12.out)
   obtain ⟨z0,z1⟩:=X2 HZb.out
   obtain ⟨f0,f1⟩:=Y2 HZb.out
   have HEX:=Qa (HE3.out.trans' HE3w12.out)
   clear h0
   go_wp2_with fail
   go_region
   go_wp2_with fail
   refine Qn (f:=(Ew12,Bw12)) (g:=g3) (v:=.pointer none) ((HZb.out.set_ 0 _).set_ 1 _) rfl rfl rfl rfl (.inl ⟨by rw [HBK.out,HQw12.out]; exact HNE.out,by rw [HBK.out,HQw12.out],?_⟩)
   first
    | exact (HEX.out.setCell (p:=⟨g3,0,none⟩) hlo3 _).setCell (p:=⟨g3,1,none⟩) hlo3 _
    | exact Ext.drew' ((HEX.out.setCell (p:=⟨g3,0,none⟩) hlo3 _).setCell (p:=⟨g3,1,none⟩) hlo3 _)
    | exact ((Ext.drew' HEX.out).setCell (p:=⟨g3,0,none⟩) hlo3 _).setCell (p:=⟨g3,1,none⟩) hlo3 _
  have hxb:(Ew12 != 0)=false:=by simpa using h0
  have HZw12:=Qa (show (s.knownsF).1=0 by rw [HQw12.out]; exact h0)
  clear h0
  obtain ⟨HBA12,HP12,HT12⟩:=Z3 (HBA11.out.mv HMw12.out hgb5) (HMw12.out.blk HP11.out hgp5) (HT11.out.mv HMw12.out (fun i hi e=>by omega))
  have HLO:=Qa (Qps gb gl gp gt n c3 A3 [y0,y1,y2,y3,y4,y5,y6,y7,y8] m11 0 (.slice none 0 0) (.slice none 0 0) s w12 HBA12.out HN.out (by omega) HP12.out HT12.out.tab (HN3.out.ext HE3w12.out))
  go_upto_region 14 with fail
  go_wp2_with fail
  refine HLO.out.mono ?_
  rintro e w13 ⟨rfl,hE13⟩
  obtain ⟨HBA13,HP13,HT13,HE313,HF13⟩:=Z5 (HBA12.out.ext hE13) (HP12.out.ext hE13) (HT12.out.mv (Mv.of_ext (X:=fun _=>False) hE13) (fun _ _ hh=>hh)) (HE3w12.out.trans' hE13) (HFw12.out.ext hE13)
  clear hE13 HLO
  obtain ⟨Ew14,hEw14,Bw14,hBw14⟩:=V2 ((s.loopsF s.n).1) ((s.loopsF s.n).2)
  have HVw14:=Qa (show Qe (s.loopsF s.n) = .agg #[.int .i64 Ew14,.int .i64 Bw14] by rw [hEw14,hBw14]; rfl)
  have HQw14:=Qa (show s.loopsF s.n=(Ew14,Bw14) by rw [hEw14,hBw14])
  rw [HVw14.out]
  obtain ⟨u0,u1⟩:=X2 HF13.out
  obtain ⟨v0,v1⟩:=Y2 HF13.out
  obtain ⟨w14,hw14⟩:=V1 ((w13.setCell ⟨g5,0,none⟩ (.int .i64 Ew14)).setCell ⟨g5,1,none⟩ (.int .i64 Bw14))
  have HMw14:=Qa (show Mv (fun i=>i=g5) w13 w14 by rw [hw14]; exact Qig _ _ _ _ _ _)
  have HFw14:=Qa (show Blk w14 g5 34 #[.int .i64 Ew14,.int .i64 Bw14] by rw [hw14]; exact Qgb HF13.out)
  have HE3w14:=Qa (HMw14.out.below HE313.out (fun i e=>by rw [e]; exact hg53))
  clear hEw14 hBw14
  go_upto_region 15 with fail
  rw [← hw14]
  clear hw14 u0 u1 v0 v1
  obtain ⟨u0,u1⟩:=X2 HFw14.out
  by_cases h0:Ew14=0
  rotate_left
  ·have hxb:(Ew14 != 0)=true:=by rw [bne_iff_ne]; exact h0
   have HNE:=Qa h0
   have HBK:=Qa (show s.badK s.n=s.loopsF s.n from Qif HQ.out HZw8.out HZw10.out HZw12.out)
   have HZb:=Qa (HZ3.out.ext HE3w14.out)
   obtain ⟨z0,z1⟩:=X2 HZb.out
   obtain ⟨f0,f1⟩:=Y2 HZb.out
   have HEX:=Qa (HE3.out.trans' HE3w14.out)
   clear h0
   go_wp2_with fail
   go_region
   go_wp2_with fail
   refine Qn (f:=(Ew14,Bw14)) (g:=g3) (v:=.pointer none) ((HZb.out.set_ 0 _).set_ 1 _) rfl rfl rfl rfl (.inl ⟨by rw [HBK.out,HQw14.out]; exact HNE.out,by rw [HBK.out,HQw14.out],?_⟩)
   first
    | exact (HEX.out.setCell (p:=⟨g3,0,none⟩) hlo3 _).setCell (p:=⟨g3,1,none⟩) hlo3 _
    | exact Ext.drew' ((HEX.out.setCell (p:=⟨g3,0,none⟩) hlo3 _).setCell (p:=⟨g3,1,none⟩) hlo3 _)
    | exact ((Ext.drew' HEX.out).setCell (p:=⟨g3,0,none⟩) hlo3 _).setCell (p:=⟨g3,1,none⟩) hlo3 _
  have hxb:(Ew14 != 0)=false:=by simpa using h0
  have HZw14:=Qa (show (s.loopsF s.n).1=0 by rw [HQw14.out]; exact h0)
  clear h0
  obtain ⟨HBA14,HP14,HT14⟩:=Z3 (HBA13.out.mv HMw14.out hgb5) (HMw14.out.blk HP13.out hgp5) (HT13.out.mv HMw14.out (fun i hi e=>by omega))
  go_upto_region 17 with fail
  have HPL:=Qa (Qn3 gb gl gp gt n c3 A3 [y0,y1,y2,y3,y4,y5,y6,y7,y8] m11 0 (.slice none 0 0) s w3 w14 HBA14.out HN.out HFI.out HP14.out (HT14.out.more (fun i hi=>by omega)) HE3w14.out hgp3 HN3.out (fun i hi=>HSZ.out.ty i (by have:=HN.out; omega)) (fun i hi=>by rw [HN.out]; exact Qk3 HZw14.out i (by have:=HN.out; omega)))
  go_wp2_with fail
  refine HPL.out.mono ?_
  rintro e w15 ⟨rfl,hm15,An,cn,hP15,hNa15,hAn15⟩
  have hE315:=hm15.below HE3w14.out (fun i e=>by rw [e]; exact hgp3)
  have hBA15:=HBA14.out.mv hm15 hgbp
  have hT15:=HT14.out.mv hm15 (fun i hi e=>by omega)
  rw [HN.out] at hP15 hNa15
  have hC:NCtx s w3 w15 gb gl gp gt n c3 cn A3 An [y0,y1,y2,y3,y4,y5,y6,y7,y8] m11:=⟨hBA15,hgbp,hE315,hgp3,hP15.lt,HL3.out,HOK.out,hT15.more (fun i hi=>by omega),hNa15,fun a ha e=>by have:=hAn15 a ha; have:=HP14.out.lt; omega,HFI.out.few⟩
  obtain ⟨HND,HN0,HC⟩:=Z3 (fun k (hk:k≤n)=>Qrr s w3 w15 gb gl gp gt n c3 cn A3 An [y0,y1,y2,y3,y4,y5,y6,y7,y8] m11 hC (s.all k) (HFI.out.fit k (by have:=HN.out; omega)) (HSZ.out.all k (by have:=HN.out; omega)) (Qjk HZw12.out k (by have:=HN.out; omega))) (NSt.none hP15) hC
  have HPK:=Qa hP15.lt
  obtain ⟨HE315,HRM⟩:=Z2 hE315 (fun k (hk:k≤n)=>Qod HFI.out (k:=k) (by have:=HN.out; omega))
  have hn0:=nZ n
  have r2:=(HS3.out.ext hE315).cell 2
  simp only [gA,gH,gS] at r2
  clear hm15 hP15 hNa15 hAn15 hE315 hBA15 hT15 hC HPL u0 u1
  go_wp2_with fail
  clear r2
  go_loopw [61] (fun i wr=>∃ k:Nat,k≤n∧i = .int .i64 (k:Int)∧Hid (∃ A c U,NSt w15 gp gl gt s.n cn An wr A c (s.nodesTo k) U)) (fun i _=>n - (intOf i).toNat)
  case atStart=>exact ⟨0,Nat.zero_le _,rfl,⟨none,0,_,HN0.out⟩⟩
  case round =>
   obtain ⟨k,hk,rfl,HS⟩:=hrel
   obtain ⟨A,c,U,hst⟩:=HS.out
   by_cases hlt:k < n
   ·obtain ⟨b,o,rfl,hb,hc⟩:=HN3.out (by omega)
    obtain ⟨vt,h1,h2⟩:=hc k hlt
    obtain ⟨z0,z1,z2,z3,z4,z5,z6,z7,z8,rfl⟩:∃ z0 z1 z2 z3 z4 z5 z6 z7 z8:Value,vt = [z0,z1,z2,z3,z4,z5,z6,z7,z8]:=by obtain ⟨y0,y1,y2,y3,y4,y5,y6,y7,y8,e⟩:=h2.nine; exact ⟨y0,y1,y2,y3,y4,y5,y6,y7,y8,e⟩
    have hEr:=HC.out.old hst.mv
    have HRG:=Qa (show wr.rangeAt b (o + k * 11) [.string (s.nm k).1,.int .i64 (s.nm k).2,z0,z1,z2,z3,z4,z5,z6,z7,z8] from fun j v hv=>(hEr.cell (p:=⟨b,o + k * 11 + j,none⟩) hb).trans (h1 j v hv))
    obtain ⟨x,hx,y,hy⟩:=V2 ((s.nm k).1) ((s.nm k).2)
    rw [← hx,← hy] at HRG
    have HZO:=Qa (show (#[.string x,.int .i64 y,z0,z1,z2,z3,z4,z5,z6,z7,z8]:Array Value).all (·.oneCell')=true by obtain ⟨h',n',A',c',A2',c2',e⟩:=h2.form; unfold tyV at e; injection e with e0 e; injection e with e1 e; injection e with e2 e; injection e with e3 e; injection e with e4 e; injection e with e5 e; injection e with e6 e; injection e with e7 e; injection e with e8 e; subst e0; subst e1; subst e2; subst e3; subst e4; subst e5; subst e6; subst e7; subst e8; simp [Value.oneCell'])
    obtain ⟨w16,g8,hw16,hg8,Hw16,Hg8,hV,hVE⟩:=T0 wr 90 #[.string x,.int .i64 y,z0,z1,z2,z3,z4,z5,z6,z7,z8]
    obtain ⟨-,-,v2,v3,v4,v5,v6,v7,v8,v9,v10⟩:=X11 hV
    have hnode:=HND.out k hk w16 A c (s.nodesTo k) U [z0,z1,z2,z3,z4,z5,z6,z7,z8] (hst.ext hVE) (by have:=HRM.out k hk; omega) (by rw [Sch.all_lt (by have:=HN.out; omega)]; exact h2)
    rw [← Sch.nodesTo_succ] at hnode
    obtain ⟨HNO,HST⟩:=Z2 hnode (hst.ext hVE)
    have i0:=nZ k
    have i1:(k:Int) < (n:Int):=by omega
    clear hc h1 h2 hEr hx hy hw16 hg8 hV hVE hnode hst HS hb
    go_upto_region 20 with fail
    refine wp_region_lit ?_
    refine wpList_plain rfl fun K0 hK0=>?_
    go_simp
    refine hK0 _ _ ?_
    refine wpList_load_mid rfl 90 _ rfl b (o + k * 11) rfl _ _ HRG.out Tryz.underlying90 rfl Qbb ?_
    refine wpList_plain rfl fun K0 hK0=>?_
    go_simp
    refine hK0 _ _ ?_
    refine Qd rfl 90 _ _ rfl _ #[.string x,.int .i64 y,z0,z1,z2,z3,z4,z5,z6,z7,z8] rfl rfl Qbb rfl HZO.out ?_
    go_upto_region 21 with fail
    rw [← Hw16.out,← Hg8.out]
    go_wp2_with fail
    refine HNO.out.mono ?_
    rintro e w17 ⟨rfl,hN17⟩
    have HNX:=Qa (NSt.next HST.out hN17)
    clear hN17 v2 v3 v4 v5 v6 v7 v8 v9 v10
    go_wp2_with fail
    go_roundw
    case rel=>exact ⟨k + 1,by omega,by go_num,HNX.out⟩
    case measure=>simp [intOf]; omega
   ·obtain rfl:k=n:=by omega
    have hroot:s.all k=s.root:=by rw [HN.out]; exact Sch.all_end s
    have hR4:=HR3.out
    have hnode:=fun w1 (hE:Ext wr w1)=>HND.out k nL w1 A c (s.nodesTo k) U [y0,y1,y2,y3,y4,y5,y6,y7,y8] (hst.ext hE) (by have:=HRM.out k nL; omega) (by rw [hroot]; exact hR4)
    rw [← Sch.nodesTo_succ,hroot] at hnode
    have hI:s.nodeI s.root (s.nodesTo k).length=s.rootI:=by rw [HN.out]; rfl
    have hNd:s.nodesTo (k + 1)=s.nodes:=by rw [HN.out]; rfl
    rw [hI,hNd] at hnode
    have HNO:=Qa hnode
    have hEw:=HC.out.old hst.mv
    obtain ⟨HEW,HST⟩:=Z2 hEw hst
    obtain ⟨RI,hRI⟩:=V1 (s.rootI)
    rw [← hRI] at HNO
    have HRI:=Qa hRI
    have s13:=(HC.out.bld hst.mv).c13
    have HSW:=Qa (HS3.out.ext hEw)
    clear hroot hR4 hnode hI hNd hst HS hEw hRI
    go_upto_region 23 with fail
    rename_i Kz hKz
    refine Qa5 7 8 (by kernel_rfl) (by kernel_rfl) (fun w'=>w'.cell? ⟨gb,13,none⟩=some (.pointer (some ⟨gp,0,none⟩))∧Blk w' g1 31 #[.slice A1 nw c1,.slice A2 no c2,.slice A3 k c3,y0,y1,y2,y3,y4,y5,y6,y7,y8]) ⟨s13,HSW.out.drewN 1⟩ ?_
    intro I _ f hf
    have q13:=fun n=>(hf n).1
    have q0:∀ n,(f n).cell? ⟨g1,3,none⟩=some y0:=fun n=>(hf n).2.cell 3
    have q1:∀ n,(f n).cell? ⟨g1,4,none⟩=some y1:=fun n=>(hf n).2.cell 4
    have q2:∀ n,(f n).cell? ⟨g1,5,none⟩=some y2:=fun n=>(hf n).2.cell 5
    have q3:∀ n,(f n).cell? ⟨g1,6,none⟩=some y3:=fun n=>(hf n).2.cell 6
    have q4:∀ n,(f n).cell? ⟨g1,7,none⟩=some y4:=fun n=>(hf n).2.cell 7
    have q5:∀ n,(f n).cell? ⟨g1,8,none⟩=some y5:=fun n=>(hf n).2.cell 8
    have q6:∀ n,(f n).cell? ⟨g1,9,none⟩=some y6:=fun n=>(hf n).2.cell 9
    have q7:∀ n,(f n).cell? ⟨g1,10,none⟩=some y7:=fun n=>(hf n).2.cell 10
    have q8:∀ n,(f n).cell? ⟨g1,11,none⟩=some y8:=fun n=>(hf n).2.cell 11
    clear hf
    simp only [List.take_succ_cons,List.take_zero,List.drop_succ_cons,List.drop_zero]
    repeat (go_big_quiet_step ((fail)))
    refine wpQuiet_nil ?_
    clear q13 q0 q1 q2 q3 q4 q5 q6 q7 q8
    refine Qak (by decide) rfl ?_
    intro K1 hK1
    go_simp
    refine (HNO.out _ (Ext.drew' (Ext.rfl' wr))).mono ?_
    rintro e w19 ⟨rfl,hN19⟩
    obtain ⟨A9,c9,U9,hs9⟩:=NSt.next (HST.out.ext (Ext.drew' (Ext.rfl' wr))) hN19
    have hE19:=HC.out.old hs9.mv
    have k13:=(HC.out.bld hs9.mv).c13
    have hS9:=HS3.out.ext hE19
    obtain ⟨-,-,p2⟩:=X3 hs9.plan
    have pf2:=hs9.plan.free 2
    obtain ⟨HS9,HE19⟩:=Z2 hs9 hE19
    refine hK1 _ _ ⟨k13,hS9⟩ ?_
    refine Qcv (by decide) ?_
    clear hN19 hs9 hE19 hS9 s13 k13
    go_wp2_with fail
    refine hKz _ _ ?_
    obtain ⟨w20,hw20⟩:=V1 (w19.setCell ⟨gp,2,none⟩ (.int .i64 (RI:Int)))
    have hPA:PlanAt w20 gp s:=by
     rw [hw20,HRI.out]
     exact HS9.out.plan_at HPK.out HE19.out hgp3 HL3.out
    have hE20:Ext w3 w20:=by rw [hw20]; exact HE19.out.setCell (p:=⟨gp,2,none⟩) hgp3 _
    have k13:w20.cell? ⟨gb,13,none⟩=some (.pointer (some ⟨gp,0,none⟩)):=by
     rw [hw20]
     exact (World.cell?_setCell_other _ _ _ _ (by intro e; injection e with e1; exact hgbp e1.symm)).trans (HC.out.bld HS9.out.mv).c13
    rw [← hw20]
    have hZ20:=HZ3.out.ext hE20
    obtain ⟨z0,z1⟩:=X2 hZ20
    obtain ⟨f0,f1⟩:=Y2 hZ20
    obtain ⟨HZ20,HPA,HE20⟩:=Z3 hZ20 hPA (HE3.out.trans' hE20)
    have HBK:=Qa (show (s.badK s.n).1=0 by rw [Qif HQ.out HZw8.out HZw10.out HZw12.out]; exact HZw14.out)
    clear hw20 hPA hE20 hZ20 p2 pf2
    go_wp2_with fail
    have e0:=Qbf w20 HZ20.out (i:=0) (v:=.int .i64 0) rfl
    have e1:=Qbf w20 HZ20.out (i:=1) (v:=.int .i64 0) rfl
    rw [e0,e1]
    exact Qn (f:=(0,0)) (g:=g3) (v:=.pointer (some ⟨gp,0,none⟩)) HZ20.out rfl rfl rfl rfl (.inr ⟨HBK.out,gp,rfl,HPA.out,HE20.out⟩)
set_option maxRecDepth 100000 in
theorem Qk4 (A:Option Addr) (c n:Nat) (w:World) (l:List ByteArray) (h:StrAt w w.heap.size A l) (hn:n=l.length) (hb:n≤5864062014634) :
  Calls Tryz.prog 53 #[.slice A n c] w (fun e w'=>∃ A' c',e = .returned (.slice A' n c')∧StrAt w' w'.heap.size A' l∧Ext w w'∧∀ a,A'=some a→w.heap.size≤a.block):=by
 obtain ⟨i0,hi,hz0,hz1,hz2⟩:=Qex
 have q22:∀ (w:World) (a:Option Addr) (n c n' c':Nat),(binOp .eql 63 (.slice a n c) (.slice none n' c')).run Tryz.prog w = .ok (.bool a.isNone) w:=fun w a n c n' c'=>Lib.run_eql_slice_nil w _ _ a n c n' c' Tryz.underlying63
 cases A with
 | none =>
  have h0:n=0:=by
   rcases Nat.eq_zero_or_pos n with e | e
   ·exact e
   ·obtain ⟨ad,e,_⟩:=h.2 (by omega)
    cases e
  have hl:l = []:=List.eq_nil_of_length_eq_zero (by omega)
  subst hl
  subst h0
  clear h hn hb
  go_enter Tryz.func53,Tryz.ntmps53
  go_wp2_with fail
  go_ret
  exact ⟨none,0,rfl,⟨rfl,fun hh=>absurd hh (Nat.lt_irrefl _)⟩,Ext.rfl' _,fun a ha=>by cases ha⟩
 | some ad =>
  obtain ⟨H,HN⟩:=Z2 h hn
  clear h hn
  go_enter Tryz.func53,Tryz.ntmps53
  go_wp2_with (at_builtin; refine wpList_append_own_at _ rfl _ _ 63 rfl w.heap.size 9 i0 _ 1 16 Tryz.underlying63 hi hz0 hz1 hz2 rfl (by decide) _ _ _ rfl (World.ownsRow_made w #[] 0 nL (Nat.zero_le _) rfl) ad n c (Qi l) rfl ?qc1 ?qc2 ?qc3 ?qc4 ?qc5 ?qc6 ?_)
  case qc1=>rw [HN.out]; exact H.out.1
  case qc2 =>
   intro j u hj
   have hp:0 < l.length:=by
    rcases Nat.eq_zero_or_pos l.length with e | e
    ·have:=List.eq_nil_of_length_eq_zero e
     rw [this] at hj
     cases hj
    ·exact e
   obtain ⟨ad',e,hb',hc⟩:=H.out.2 hp
   injection e with e
   rw [e]
   exact (World.cell?_alloc_lt _ _ (ad'.add j) (by rw [Qbv]; exact hb')).trans (hc j u hj)
  case qc3=>exact fun u hu=>by obtain ⟨x,_,rfl⟩:=List.mem_map.1 hu; rfl
  case qc4=>unfold maxLen; omega
  case qc5=>omega
  case qc6=>simp
  intro v' w1 hown hgrow _ _
  have hE:Ext w w1:=((Ext.rfl' w).alloc nL _).grown hgrow (by simp) (by intro k hk; simp [Value.ownBlock] at hk; omega)
  have hv:∃ A' c',v' = .slice A' n c':=by
   rcases hown.2 with ⟨e,h0⟩ | ⟨g,cap,cur,e,_⟩
   ·exact ⟨none,0,by rw [e,h0]⟩
   ·exact ⟨_,_,e⟩
  obtain ⟨A',c',rfl⟩:=hv
  have hr:=Reads.of_own hown
  obtain ⟨HR,HBS,HE⟩:=Z3 hr (Qcj hown) hE
  clear hr hE hown hgrow
  go_wp2_with fail
  go_ret
  exact ⟨A',c',rfl,by have:=HR.out; rw [HN.out] at this; exact this,HE.out,HBS.out⟩
set_option maxRecDepth 100000 in
theorem Qjw (A:Option Addr) (c n:Nat) (w:World) (l:List EdgeP) (h:EdgesAt w w.heap.size A l) (hn:n=l.length) (hb:n≤1000000) :
  Calls Tryz.prog 54 #[.slice A n c] w (fun e w'=>∃ A' c',e = .returned (.slice A' n c')∧EdgesAt w' w'.heap.size A' l∧Ext w w'∧∀ a,A'=some a→w.heap.size≤a.block):=by
 obtain ⟨i0,hi,hz0,hz1,hz2⟩:=Qjj
 have q22:∀ (w:World) (a:Option Addr) (n c n' c':Nat),(binOp .eql 64 (.slice a n c) (.slice none n' c')).run Tryz.prog w = .ok (.bool a.isNone) w:=fun w a n c n' c'=>Lib.run_eql_slice_nil w _ _ a n c n' c' Tryz.underlying64
 cases A with
 | none =>
  have h0:n=0:=by
   rcases Nat.eq_zero_or_pos n with e | e
   ·exact e
   ·obtain ⟨ad,e,_⟩:=h.2 (by omega)
    cases e
  have hl:l = []:=List.eq_nil_of_length_eq_zero (by omega)
  subst hl
  subst h0
  clear h hn hb
  go_enter Tryz.func54,Tryz.ntmps54
  go_wp2_with fail
  go_ret
  exact ⟨none,0,rfl,⟨rfl,fun hh=>absurd hh (Nat.lt_irrefl _)⟩,Ext.rfl' _,fun a ha=>by cases ha⟩
 | some ad =>
  obtain ⟨H,HN⟩:=Z2 h hn
  clear h hn
  go_enter Tryz.func54,Tryz.ntmps54
  go_wp2_with (at_builtin; refine wpList_append_own_at _ rfl _ _ 64 rfl w.heap.size 70 i0 _ 10 88 Tryz.underlying64 hi hz0 hz1 hz2 rfl (by decide) _ _ _ rfl (World.ownsRow_made w #[] 0 nL (Nat.zero_le _) rfl) ad n c (Qy l) rfl ?qc1 ?qc2 ?qc3 ?qc4 ?qc5 ?qc6 ?_)
  case qc1=>rw [HN.out]; exact H.out.1
  case qc2 =>
   intro j u hj
   have hp:0 < l.length:=by
    rcases Nat.eq_zero_or_pos l.length with e | e
    ·have:=List.eq_nil_of_length_eq_zero e
     rw [this] at hj
     cases hj
    ·exact e
   obtain ⟨ad',e,hb',hc⟩:=H.out.2 hp
   injection e with e
   rw [e]
   exact (World.cell?_alloc_lt _ _ (ad'.add j) (by rw [Qbv]; exact hb')).trans (hc j u hj)
  case qc3=>exact edgeCells_one l
  case qc4=>unfold maxLen; omega
  case qc5=>omega
  case qc6=>simp
  intro v' w1 hown hgrow _ _
  have hE:Ext w w1:=((Ext.rfl' w).alloc nL _).grown hgrow (by simp) (by intro k hk; simp [Value.ownBlock] at hk; omega)
  have hv:∃ A' c',v' = .slice A' n c':=by
   rcases hown.2 with ⟨e,h0⟩ | ⟨g,cap,cur,e,_⟩
   ·exact ⟨none,0,by rw [e,h0]⟩
   ·exact ⟨_,_,e⟩
  obtain ⟨A',c',rfl⟩:=hv
  have hr:=Reads.of_own hown
  obtain ⟨HR,HBS,HE⟩:=Z3 hr (Qcj hown) hE
  clear hr hE hown hgrow
  go_wp2_with fail
  go_ret
  exact ⟨A',c',rfl,by have:=HR.out; rw [HN.out] at this; exact this,HE.out,HBS.out⟩
theorem Qej (gp:Nat) (s:Sch) (w:World) (h:PlanAt w gp s):Calls Tryz.prog 23 #[.pointer (some ⟨gp,0,none⟩)] w (fun e w'=>e = .returned (.int .i64 (s.nodes.length:Nat))∧w=w'):=by
 obtain ⟨gl,gt,A,c,An,cn,xs,h1,h2,_,_⟩:=h
 obtain ⟨-,t0⟩:=X2 h1
 have H2:=Qa h2
 clear h1 h2
 go_enter Tryz.func23,Tryz.ntmps23
 go_wp2_with fail
 go_ret
 exact ⟨rfl,rfl⟩
theorem Qd0 (gp:Nat) (s:Sch) (w:World) (h:PlanAt w gp s):Calls Tryz.prog 21 #[.pointer (some ⟨gp,0,none⟩)] w (fun e w'=>e = .returned (.int .i64 (s.rootI:Nat))∧w=w'):=by
 obtain ⟨gl,gt,A,c,An,cn,xs,h1,h2,_,_⟩:=h
 obtain ⟨-,-,t0⟩:=X3 h1
 have H2:=Qa h2
 clear h1 h2
 go_enter Tryz.func21,Tryz.ntmps21
 go_wp2_with fail
 go_ret
 exact ⟨rfl,rfl⟩
end Go.Proofs.YtanpljalbijfkaaGreat
