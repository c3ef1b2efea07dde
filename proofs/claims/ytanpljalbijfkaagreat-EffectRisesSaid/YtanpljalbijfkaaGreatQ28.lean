/- . -/
import Derived.Test.YtanpljalbijfkaaGreatQ26
import Derived.Test.YtanpljalbijfkaaGreatQ27
import Derived.Shelf.Sort.Plain
import Derived.Test.YtanpljalbijfkaaGreatProg
import Derived.Deep.LoopGhost
import Derived.Deep.OwnRows
namespace Go.Proofs.YtanpljalbijfkaaGreat
open Go.Shelf
set_option maxHeartbeats 16000000
def Tryz.lays191_ren:Go.Shelf.Ren:=⟨fun | 191=>47 | 189=>84 | 125=>114 | 257=>113 | 128=>142 | 129=>143 | 294=>133 | 295=>134 | 296=>135 | 297=>136 | 298=>137 | 299=>138 | 216=>139 | 300=>140 | 301=>141 | 328=>164 | 329=>165 | 330=>166 | 331=>167 | 332=>168 | 215=>169 | 343=>178 | n=>n,fun | 28=>58 | 0=>0 | 3=>3 | 46=>187 | 51=>214 | 53=>157 | 4=>4 | 183=>208 | 182=>207 | 131=>142 | 5=>5 | 9=>9 | 218=>228 | 222=>232 | 228=>237 | 229=>50 | n=>n,fun | n=>n⟩
theorem Tryz.lays191:Go.Proofs.Lays.n191 Tryz.prog Tryz.lays191_ren:={
 mixed:=by kernel_rfl
 f125:=Tryz.func114.trans (congrArg some (by kernel_rfl))
 f128:=Tryz.func142.trans (congrArg some (by kernel_rfl))
 f129:=Tryz.func143.trans (congrArg some (by kernel_rfl))
 f189:=Tryz.func84.trans (congrArg some (by kernel_rfl))
 f191:=Tryz.func47.trans (congrArg some (by kernel_rfl))
 f215:=Tryz.func169.trans (congrArg some (by kernel_rfl))
 f216:=Tryz.func139.trans (congrArg some (by kernel_rfl))
 f257:=Tryz.func113.trans (congrArg some (by kernel_rfl))
 f294:=Tryz.func133.trans (congrArg some (by kernel_rfl))
 f295:=Tryz.func134.trans (congrArg some (by kernel_rfl))
 f296:=Tryz.func135.trans (congrArg some (by kernel_rfl))
 f297:=Tryz.func136.trans (congrArg some (by kernel_rfl))
 f298:=Tryz.func137.trans (congrArg some (by kernel_rfl))
 f299:=Tryz.func138.trans (congrArg some (by kernel_rfl))
 f300:=Tryz.func140.trans (congrArg some (by kernel_rfl))
 f301:=Tryz.func141.trans (congrArg some (by kernel_rfl))
 f328:=Tryz.func164.trans (congrArg some (by kernel_rfl))
 f329:=Tryz.func165.trans (congrArg some (by kernel_rfl))
 f330:=Tryz.func166.trans (congrArg some (by kernel_rfl))
 f331:=Tryz.func167.trans (congrArg some (by kernel_rfl))
 f332:=Tryz.func168.trans (congrArg some (by kernel_rfl))
 f343:=Tryz.func178.trans (congrArg some (by kernel_rfl))
 t0:=Tryz.underlying0
 a0:=Tryz.isAgg0
 z0:=Tryz.sizeOf0
 v0:=Tryz.zeroValue0
 t3:=Tryz.underlying3
 a3:=Tryz.isAgg3
 z3:=Tryz.sizeOf3
 v3:=Tryz.zeroValue3
 t4:=Tryz.underlying4
 a4:=Tryz.isAgg4
 z4:=Tryz.sizeOf4
 v4:=Tryz.zeroValue4
 t5:=Tryz.underlying5
 a5:=Tryz.isAgg5
 z5:=Tryz.sizeOf5
 v5:=Tryz.zeroValue5
 t9:=Tryz.underlying9
 a9:=Tryz.isAgg9
 z9:=Tryz.sizeOf9
 v9:=Tryz.zeroValue9
 t28:=Tryz.underlying58
 a28:=Tryz.isAgg58
 z28:=Tryz.sizeOf58
 v28:=Tryz.zeroValue58
 t46:=Tryz.underlying187
 a46:=Tryz.isAgg187
 z46:=Tryz.sizeOf187
 v46:=Tryz.zeroValue187
 t51:=Tryz.underlying214
 a51:=Tryz.isAgg214
 z51:=Tryz.sizeOf214
 v51:=Tryz.zeroValue214
 t53:=Tryz.underlying157
 a53:=Tryz.isAgg157
 z53:=Tryz.sizeOf157
 v53:=Tryz.zeroValue157
 t131:=Tryz.underlying142
 a131:=Tryz.isAgg142
 z131:=Tryz.sizeOf142
 v131:=Tryz.zeroValue142
 t182:=Tryz.underlying207
 a182:=Tryz.isAgg207
 z182:=Tryz.sizeOf207
 v182:=Tryz.zeroValue207
 t183:=Tryz.underlying208
 a183:=Tryz.isAgg208
 z183:=Tryz.sizeOf208
 v183:=Tryz.zeroValue208
 t218:=Tryz.underlying228
 a218:=Tryz.isAgg228
 z218:=Tryz.sizeOf228
 v218:=Tryz.zeroValue228
 t222:=Tryz.underlying232
 a222:=Tryz.isAgg232
 z222:=Tryz.sizeOf232
 v222:=Tryz.zeroValue232
 t228:=Tryz.underlying237
 a228:=Tryz.isAgg237
 z228:=Tryz.sizeOf237
 v228:=Tryz.zeroValue237
 t229:=Tryz.underlying50
 a229:=Tryz.isAgg50
 z229:=Tryz.sizeOf50
 v229:=Tryz.zeroValue50 }
end Go.Proofs.YtanpljalbijfkaaGreat
namespace Go.Proofs.YtanpljalbijfkaaGreat
open Go.RowKit Go.Shelf Go.Sort
set_option maxHeartbeats 16000000
theorem Qi5 (w:World):Calls Tryz.prog 143 #[.int .u64 0] w (fun e w'=>e = .returned (.int .i64 0)∧w=w'):=by
 go_enter Tryz.func143,Tryz.ntmps143
 go_wp2_with fail
 go_ret
 exact ⟨Qat (show wrap64 (wrap64 (Lib.len8 0))=0 by decide +kernel),rfl⟩
theorem Qle (w:World):Calls Tryz.prog 114 #[.int .u64 0] w (fun e w'=>e = .returned (.int .i64 0)∧w=w'):=by
 go_enter Tryz.func114,Tryz.ntmps114
 go_wp2_with fail
 refine (Qi5 w).mono ?_
 rintro e w' ⟨rfl,rfl⟩
 go_wp2_with fail
 go_ret
 exact ⟨rfl,rfl⟩
theorem Qj0 (w:World):Calls Tryz.prog 133 #[.slice none 0 0,.int .i64 0,.int .i64 0] w (fun e w'=>e = .returned (.tuple #[])∧w=w'):=by
 go_enter Tryz.func133,Tryz.ntmps133
 go_wp2_with fail
 go_loopw [6] (fun v wr=>v = .int .i64 1∧w=wr) (fun _ _=>0)
 case atStart=>exact ⟨rfl,rfl⟩
 case round =>
  obtain ⟨rfl,rfl⟩:=hrel
  go_wp2_with fail
  go_end0
  exact ⟨rfl,rfl⟩
theorem Qst (w:World):Calls Tryz.prog 113 #[.slice none 0 0,.int .i64 0,.int .i64 0,.int .i64 0] w (fun e w'=>e = .returned (.tuple #[])∧w=w'):=by
 go_enter Tryz.func113,Tryz.ntmps113
 go_wp2_with fail
 go_loopw [1,2] (fun a b wr=>a = .int .i64 0∧b = .int .i64 0∧w=wr) (fun _ _ _=>0)
 case atStart=>exact ⟨rfl,rfl,rfl⟩
 case round =>
  obtain ⟨rfl,rfl,rfl⟩:=hrel
  go_wp2_with fail
  refine (Qj0 w).mono ?_
  rintro e w' ⟨rfl,rfl⟩
  go_wp2_with fail
  refine bodyPost_ret (results_none rfl _ _ _) rfl ?_
  exact ⟨rfl,rfl⟩
theorem Qr3 (w:World):Calls Tryz.prog 84 #[.slice none 0 0] w (fun e w'=>e = .returned (.tuple #[])∧w=w'):=by
 go_enter Tryz.func84,Tryz.ntmps84
 go_wp2_with fail
 refine (Qle w).mono ?_
 rintro e w' ⟨rfl,rfl⟩
 go_wp2_with fail
 refine (Qst w).mono ?_
 rintro e w' ⟨rfl,rfl⟩
 go_wp2_with fail
 go_end0
 exact ⟨rfl,rfl⟩
theorem Qlf (w:World):Calls Tryz.prog 47 #[.slice none 0 0] w (fun e w'=>e = .returned (.tuple #[])∧w=w'):=by
 go_enter Tryz.func47,Tryz.ntmps47
 go_wp2_with fail
 refine (Qr3 w).mono ?_
 rintro e w' ⟨rfl,rfl⟩
 go_wp2_with fail
 go_end0
 exact ⟨rfl,rfl⟩
theorem Qlg (w:World) (B:Nat) (A:Option Addr) (n c:Nat) (l l':List Nat) (h:w.ownsRow B 3 1 (.slice A n c) n (Qj l)) (hn:n=l.length) (hb:n≤1000000) (hs:((l.map fun (a:Nat)=>(a:Int)).mergeSort fun x y=>decide (x≤y))=l'.map fun (a:Nat)=>(a:Int)) :
  Calls Tryz.prog 47 #[.slice A n c] w (fun e w'=>e = .returned (.tuple #[])∧w'.ownsRow B 3 1 (.slice A n c) n (Qj l')∧w.grownBy w' (Value.slice A n c).ownBlock):=by
 have hlen:l'.length=l.length:=by
  have:=congrArg List.length hs
  simpa using this.symm
 rcases h.2 with ⟨hv,h0⟩ | ⟨g,cap,cur,hv,hg,hh,hnc,hcm,hcs,ht⟩
 ·injection hv with h1 h2 h3
  subst h1 h3
  have hl:l = []:=List.length_eq_zero_iff.1 (by omega)
  have hl':l' = []:=List.length_eq_zero_iff.1 (by omega)
  subst hl hl' h0
  refine (Qlf w).mono ?_
  rintro e w' ⟨rfl,rfl⟩
  exact ⟨rfl,h,World.grownBy.refl w _⟩
 ·injection hv with h1 h2 h3
  subst h1 h3
  have hH:Holds (Value.int .i64) w g 0 (l.map fun (a:Nat)=>(a:Int)).toArray:=by
   intro j hj
   have hjl:j < l.length:=by simpa using hj
   refine ⟨?_,(show Blk w g 3 cur from hh).free _⟩
   rw [Nat.zero_add,h.cellAt j (by omega)]
   simp [Qj,hjl]
  have:=Any.sort_Ints Tryz.lays191 g 0 c (l.map fun (a:Nat)=>(a:Int)) w hH (Blk.lt (cs:=cur) (t:=3) hh) (by simp; omega)
  rw [List.length_map,← hn] at this
  refine this.mono ?_
  rintro e w' ⟨rfl,m,os,rfl⟩
  refine ⟨rfl,?_,grownBy_sortedI _⟩
  rw [hs]
  have h5:=ownsRow_sortedI (w:=w) (base:=B) (n:=m) (os:=os) (ss:=l.map fun (a:Nat)=>(a:Int)) (ts:=l'.map fun (a:Nat)=>(a:Int)) (by simp [hlen]) hg hh (by simp; omega) hcm hcs
  rw [List.length_map,← hn] at h5
  have e6:((l'.map fun (a:Nat)=>(a:Int)).map (Value.int .i64))=Qj l':=by simp [Qj]
  rw [e6] at h5
  exact h5
end Go.Proofs.YtanpljalbijfkaaGreat
namespace Go.Proofs.YtanpljalbijfkaaGreat
open Go.RowKit
set_option maxHeartbeats 16000000
theorem Qql:(Tryz.prog.info? 70).map (·.size)=some 10:=by kernel_rfl
theorem Qr4 (L:List (Nat × Nat)) (x1 x2:Nat):∀ i,Qdi (Qv L) x1 (Qv L x1 ++ [x2]) i=Qv (L ++ [(x1,x2)]) i:=by
 intro i
 rw [Qoj]
 by_cases e:x1=i
 ·subst e; rw [Qam,if_pos rfl]
 ·rw [Qad _ _ (fun h=>e h.symm),if_neg e]
theorem RSt.congr {w0 w:World} {go gm N gq n cq:Nat} {A:Nat→Option Addr} {c:Nat→Nat} {F G:Nat→List Nat} {S Q:List (Nat × Nat)} {Aq:Option Addr} (h:RSt w0 w go gm N A c F S gq Aq n cq Q) (e:∀ i,i < N→F i=G i):RSt w0 w go gm N A c G S gq Aq n cq Q :=
 ⟨h.ext,h.lo,h.out.congr e,h.tab,h.que⟩
theorem RSt.set_eq {w0 w:World} {go gm N gq n cq:Nat} {A:Nat→Option Addr} {c:Nat→Nat} {F:Nat→List Nat} {S S' Q Q':List (Nat × Nat)} {Aq:Option Addr} (h:RSt w0 w go gm N A c F S gq Aq n cq Q) (e:S=S') (e2:Q=Q'):RSt w0 w go gm N A c F S' gq Aq n cq Q':=by subst e e2; exact h
set_option maxRecDepth 100000 in
theorem Qlh (gp:Nat) (s:Sch) (w:World) (h:PlanAt w gp s) (hg:s.Good) (hz:SchSz s):Calls Tryz.prog 16 #[.pointer (some ⟨gp,0,none⟩)] w (fun e w'=>(∃ A c,e = .returned (.slice A s.nodes.length c)∧ReachAt w' A s)∧Ext w w'):=by
 obtain ⟨gl,hpl⟩:=h.lat
 have h512:=Qec hg.fine
 have hlf:=hg.lat.few
 obtain ⟨HLEN,HROOT,HLAT,HBOT,HJN,HND,HOK,HIN⟩:=Z8 (fun w1 (hE:Ext w w1)=>Qej gp s w1 (h.ext hE)) (fun w1 (hE:Ext w w1)=>Qd0 gp s w1 (h.ext hE)) (fun w1 (hE:Ext w w1)=>Qb1 gp gl s w1 (hpl.ext hE)) (fun w1 (hE:Ext w w1)=>Qfy gl s w1 (hpl.2.2.ext hE) hg) (fun w1 (hE:Ext w w1) (a l:Nat) (ha:a < s.ws.length) (hl:l < s.ws.length)=>Qmx gl s w1 (hpl.2.2.ext hE) hg a l ha hl) (fun w1 (hE:Ext w w1) (k:Nat) (hk:k < s.nodes.length)=>(show Calls Tryz.prog 24 #[.pointer (some ⟨gp,0,none⟩),.int .i64 (k:Int)] w1 (Qjn (Qf s k) w1) by rw [Qar hk]; exact Qfw gp k s w1 (h.ext hE) hk h512 (Qbt hg hz hk))) (fun (k:Nat) (hk:k < s.nodes.length)=>(show NodeOk s (Qf s k) by rw [Qar hk]; exact Qbt hg hz hk)) (fun (x:Nat × Nat) (h:Rch s x)=>(h.in_ hg hz:inP s x))
 obtain ⟨HFEW,HFEWM,HSRT,HJL,HST⟩:=Z5 (fun (L Q:List (Nat × Nat)) (h:Vis s L Q)=>h.few hg hz) (fun (L Q:List (Nat × Nat)) (x:Nat × Nat) (q:Nat) (h:Mid s L x Q q)=>h.few hg hz) (fun (L:List (Nat × Nat)) (h:Vis s L []) i=>Qok hg hz h i) (fun (a l:Nat) (ha:a < s.ws.length) (hl:l < s.ws.length)=>(Qij hg ha hl:jnS s a l < s.ws.length)) (Vis.start s)
 have hR1:=Qi3 hg
 have hB1:=Qet hg
 have HPOST:=Qa (fun (A:Option Addr) (c:Nat) (w':World) (h1:ReachAt w' A s) (h2:Ext w w')=>(show (∃ A' c',Ending.returned (.slice A s.nodes.length c) = .returned (.slice A' s.nodes.length c')∧ReachAt w' A' s)∧Ext w w' from ⟨⟨A,c,rfl,h1⟩,h2⟩))
 obtain ⟨N,hN,K,hK⟩:=V2 (s.nodes.length) (s.ws.length)
 rw [← hN] at HLEN HND HOK HFEW HFEWM hR1 h512 HPOST ⊢
 rw [← hK] at HJN HFEW HFEWM HJL hB1 hlf
 obtain ⟨RI,hRI,BI,hBI⟩:=V2 (s.rootI) (Qcc s)
 rw [← hRI] at HROOT HST hR1
 rw [← hBI] at HBOT HST hB1
 obtain ⟨HNN,HKK⟩:=Z2 hN hK
 have hmk:=fun w1=>run_make_row' (P:=Tryz.prog) 54 58 (.slice none 0 0) 24 Tryz.underlying54 (by kernel_rfl) rfl .i64 .i64 N (by omega) (by omega) w1
 obtain ⟨w1,hw1,go,hgo⟩:=V2 (w.alloc (.cells (madeCells #[.slice none 0 0] N) 58)) (w.heap.size)
 have hO1:OutAt w1 w.heap.size go N (fun _=>none) (fun _=>0) (fun _=>[]):=by rw [hw1,hgo]; exact OutAt.made w _ N
 have hE1:Ext w w1:=by rw [hw1]; exact (Ext.rfl' w).alloc nL _
 obtain ⟨Hw1,Hgo,HO1,HE1⟩:=Z4 hw1 hgo hO1 hE1
 obtain ⟨POST,hPOST⟩:∃ P:Ending→World→Prop,P=fun e w'=>(∃ A c,e = .returned (.slice A N c)∧ReachAt w' A s)∧Ext w w':=⟨_,rfl⟩
 have HPOST2:=Qa (fun (A:Option Addr) (c:Nat) (w':World) (h1:ReachAt w' A s) (h2:Ext w w')=>(show POST (.returned (.slice A N c)) w' by rw [hPOST]; exact HPOST.out A c w' h1 h2))
 rw [← hPOST]
 clear hPOST HPOST hN hK hRI hBI hw1 hgo hO1 hE1 h hpl hg hz
 show Calls Tryz.prog 16 #[.pointer (some ⟨gp,0,none⟩)] w (fun e w'=>POST e w')
 go_enter Tryz.func16,Tryz.ntmps16
 go_wp2_with fail
 refine (HLEN.out w (Ext.rfl' w)).mono ?_
 rintro e w' ⟨rfl,rfl⟩
 go_upto_region 2 with fail
 rw [← Hw1.out,← Hgo.out]
 clear hmk
 go_wp2_with fail
 refine (HROOT.out w1 HE1.out).mono ?_
 rintro e w' ⟨rfl,rfl⟩
 go_wp2_with fail
 refine (HLAT.out w1 HE1.out).mono ?_
 rintro e w' ⟨rfl,rfl⟩
 go_wp2_with fail
 refine (HBOT.out w1 HE1.out).mono ?_
 rintro e w' ⟨rfl,rfl⟩
 obtain ⟨w2,g4,hw2,hg4,Hw2,Hg4,hX,hXE⟩:=T0 w1 103 #[.int .i64 (RI:Int),.int .i64 (BI:Int)]
 obtain ⟨HE2,HO2⟩:=Z2 (HE1.out.trans' hXE) (HO1.out.ext hXE)
 obtain ⟨t0,t1⟩:=X2 hX
 have HX2:=Qa hX
 clear hw2 hg4 hX hXE
 go_upto_region 5 with fail
 rw [← Hw2.out,← Hg4.out]
 have hmm:=@run_makeMap Tryz.prog
 obtain ⟨w3,hw3,gm,hgm⟩:=V2 (w2.alloc (.map #[] 0)) (w2.heap.size)
 have hM:MapAt w3 gm []:=by rw [hw3,hgm]; exact MapAt.new w2
 have hME:Ext w2 w3:=by rw [hw3]; exact (Ext.rfl' w2).alloc nL _
 obtain ⟨Hw3,Hgm,HM,HX3,HO3,HE3⟩:=Z6 hw3 hgm hM (HX2.out.ext hME) (HO2.out.ext hME) (HE2.out.trans' hME)
 have hlom:w.heap.size≤gm:=by have:=HE2.out.size; rw [hgm]; exact this
 clear hw3 hgm hM hME
 refine wp_region_lit ?_
 refine wpList_plain rfl fun K0 hK0=>?_
 go_simp
 refine hK0 _ _ ?_
 rw [← Hw3.out,← Hgm.out]
 clear t0 t1 hmm
 have hX3:=HX3.out
 obtain ⟨t0,t1⟩:=X2 hX3
 refine wpList_plain rfl fun K0 hK0=>?_
 go_simp
 refine hK0 _ _ ?_
 refine Qin rfl _ _ _ (.inr rfl) gm [] HM.out (RI,BI) (by dsimp only; omega) (by dsimp only; omega) (by simp) rfl rfl rfl ?_
 intro w4 hM4 hg4m
 have hE4:Mv (fun k=>k=gm) w3 w4:=Mv.of_grown hg4m fun g e=>by injection e with e; exact e.symm
 have hX4:Blk w4 g4 103 #[.int .i64 (RI:Int),.int .i64 (BI:Int)]:=hE4.blk hX3 fun e=>HM.out.no_row hX3 e.symm
 obtain ⟨HO4,HE4,HM4⟩:=Z3 (HO3.out.mv hE4 (fun e=>(by obtain ⟨⟨cs,hB,_⟩,_,_⟩:=HO3.out; exact HM.out.no_row hB e.symm)) fun i a hi ha=>HO3.out.ne_map HM.out hi ha) (hE4.below HE3.out fun i e=>by rw [e]; exact hlom) hM4
 obtain ⟨u0,u1⟩:=X2 hX4
 clear t0 t1 hX3 hX4 hE4 hg4m hM4
 go_upto_region 6 with fail
 obtain ⟨w5,gq,hw5,hgq,Hw5,Hgq,hQ,hQE⟩:=T0 w4 103 #[.int .i64 (RI:Int),.int .i64 (BI:Int)]
 have HS5:=Qa (show RSt w w5 go gm N (fun _=>none) (fun _=>0) (fun _=>[]) [(RI,BI)] gq (some ⟨gq,0,none⟩) 1 1 [(RI,BI)] from ⟨HE4.out.trans' hQE,⟨by rw [Hgo.out]; exact Nat.le_refl _,hlom,by have:=HE4.out.size; rw [hgq]; exact this⟩,HO4.out.ext hQE,HM4.out.of_block (hQE.block gm HM4.out.lt),QAt.one hQ rfl⟩)
 clear hw5 hgq hQ hQE hlom
 go_upto_region 7 with fail
 rw [← Hw5.out,← Hgq.out]
 clear u0 u1
 obtain ⟨NK,hNK⟩:=V1 (N * K)
 rw [← hNK] at HFEW HFEWM
 have hNKb:NK≤16384:=by rw [hNK]; exact Nat.le_trans (Nat.mul_le_mul h512 hlf) (by decide)
 clear hNK
 go_loopg [6] (NK + 1) (fun gk v wr=>∃ (L Q:List (Nat × Nat)) (A:Nat→Option Addr) (c:Nat→Nat) (gq:Nat) (Aq:Option Addr) (n cq:Nat),v = .slice Aq n cq∧gk + L.length=NK + 1∧Hid (n=Q.length)∧Hid (Vis s L Q)∧Hid (RSt w wr go gm N A c (Qv L) (L ++ Q) gq Aq n cq Q))
 case atStart=>exact ⟨[],[(RI,BI)],_,_,gq,some ⟨gq,0,none⟩,1,1,rfl,rfl,rfl,HST.out,HS5.out⟩
 case round =>
  obtain ⟨L,Q,A,c,gq,Aq,n,cq,rfl,hgk,HNQ,HV,HS⟩:=hrel
  clear HS5
  have hn0:=nZ n
  cases Q with
  | nil =>
   obtain rfl:n=0:=HNQ.out
   have hLN:L.length≤16384:=by have h1:=HFEW.out L [] HV.out; simp at h1; omega
   have HSL:=Qa (fun i=>HSRT.out L HV.out i)
   have HSLN:=Qa (fun i=>(show (Q5 s i).length=(Qv L i).length from by
    have:=congrArg List.length (HSL.out i)
    simpa using this.symm))
   have HLL:=Qa (fun i=>(show (Qv L i).length≤1000000 from by
    have h3:(Qv L i).length≤L.length:=by unfold Qv; rw [List.length_map]; exact List.length_filter_le _ _
    omega))
   have HO0:=Qa (HS.out.out.congr (G:=fun i=>if i < 0 then Q5 s i else Qv L i) (fun i _=>by rw [if_neg (Nat.not_lt_zero i)]))
   have HE0:=Qa HS.out.ext
   clear hgk HV HS HNQ hLN
   go_wp2_with fail
   go_loopw [95] (fun i w2=>∃ k:Nat,k≤N∧i = .int .i64 (k:Int)∧Hid (Ext w w2)∧Hid (OutAt w2 w.heap.size go N A c (fun i=>if i < k then Q5 s i else Qv L i))) (fun i _=>N - (intOf i).toNat)
   case atStart=>exact ⟨0,Nat.zero_le _,rfl,HE0.out,HO0.out⟩
   case round =>
    obtain ⟨k,hk,rfl,HEk,HOk⟩:=hrel
    clear HE0 HO0
    by_cases hlt:k < N
    ·have ck:=HOk.out.cell hlt
     have hown:=HOk.out.own k hlt
     try dsimp only at ck hown
     rw [if_neg (Nat.lt_irrefl k)] at ck hown
     obtain ⟨m,hm,Ak,hAk,Ck,hCk⟩:=V3 ((Qv L k).length) (A k) (c k)
     rw [← hm,← hAk,← hCk] at ck hown
     obtain ⟨HCALL,HMM,HAK,HCK⟩:=Z4 (Qlg _ w.heap.size Ak m Ck (Qv L k) (Q5 s k) hown hm (by rw [hm]; exact HLL.out k) (HSL.out k)) hm hAk hCk
     have i0:=nZ k
     have i1:(k:Int) < (N:Int):=by omega
     clear hown hm hAk hCk
     go_wp2_with fail
     refine HCALL.out.mono ?_
     rintro e w3 ⟨rfl,hO3,hg3⟩
     clear ck
     have hO4:=HOk.out.turn (w':=w3) hlt (l:=Q5 s k) (by rw [if_neg (Nat.lt_irrefl k)]; exact HSLN.out k) (by rw [HSLN.out k,← HMM.out,← HAK.out,← HCK.out]; exact hO3) (by rw [if_neg (Nat.lt_irrefl k),← HMM.out,← HAK.out,← HCK.out]; exact hg3)
     have HO4:=Qa (hO4.congr (G:=fun i=>if i < k + 1 then Q5 s i else Qv L i) (fun i _=>by
      by_cases e:i=k
      ·subst e; rw [Qam,if_pos (Nat.lt_succ_self _)]
      ·rw [Qad _ _ e]
       by_cases h:i < k
       ·rw [if_pos h,if_pos (by omega)]
       ·rw [if_neg h,if_neg (by omega)]))
     have hm3:Mv (fun j=>∃ a,Ak=some a∧j=a.block) _ w3:=Mv.of_grown hg3 fun g e=>by
      cases hA:Ak with
      | none=>rw [hA] at e; cases e
      | some a=>rw [hA] at e; injection e with e; exact ⟨a,rfl,e.symm⟩
     have HE4:=Qa (hm3.below HEk.out (fun j hj=>by
      obtain ⟨a,hA,rfl⟩:=hj
      exact (own_lt' (HOk.out.own k hlt) (HAK.out.symm.trans hA)).2.1))
     clear hO3 hg3 hO4 hm3 HOk HEk
     go_wp2_with fail
     go_roundw
     case rel=>exact ⟨k + 1,by omega,by go_num,HE4.out,HO4.out⟩
     case measure=>simp [intOf]; omega
    ·obtain rfl:k=N:=by omega
     have HFIN:=Qa (ReachAt.of (HOk.out.congr (G:=Q5 s) (fun i hi=>by rw [if_pos hi])) HNN.out)
     clear HOk
     go_wp2_with fail
     exact HPOST2.out _ _ _ HFIN.out HEk.out
  | cons x Q =>
   obtain ⟨x1,x2⟩:=x
   have hn1:n=Q.length + 1:=HNQ.out
   have hxr:=HV.out.ok (x1,x2) (by simp)
   have hxin:=HIN.out _ hxr
   unfold inP at hxin
   rw [← HNN.out,← HKK.out] at hxin
   obtain ⟨hx1,hx2⟩:=hxin
   dsimp only at hx1 hx2
   obtain ⟨off,rfl,q0,q1⟩:=HS.out.que.head
   have hcq:n≤cq:=HS.out.que.2.1
   have hn2:(0:Int) < (n:Int):=by omega
   clear hxr hn1
   obtain ⟨w6,g7,hw6,hg7,Hw6,Hg7,hY,hYE⟩:=T0 wr 103 #[.int .i64 (x1:Int),.int .i64 (x2:Int)]
   obtain ⟨HS6,HY6⟩:=Z2 (HS.out.grow hYE) hY
   have hq7:gq < g7:=by rw [hg7]; exact HS.out.que.lt
   clear hw6 hg7 hY hYE
   go_upto_region 9 with fail
   rw [← Hw6.out,← Hg7.out]
   clear q0 q1
   go_cut [6] (fun v wx=>v = .slice (if cq=1 then some ⟨gq,off,none⟩ else some ⟨gq,off + 2,none⟩) (n - 1) (cq - 1)∧w6=wx)
   case first =>
    by_cases hc1:cq=1
    ·subst hc1
     go_wp2_with fail
     go_meet
     exact ⟨by rw [show n - 1=0 by omega]; rfl,rfl⟩
    ·go_wp2_with fail
     go_meet
     exact ⟨by rw [if_neg hc1],rfl⟩
   case rest =>
    obtain ⟨rfl,rfl⟩:=hcut
    obtain ⟨Aq',hAq'⟩:∃ A':Option Addr,A'=(if cq=1 then some ⟨gq,off,none⟩ else some ⟨gq,off + 2,none⟩):=⟨_,rfl⟩
    have hs7:RSt w w6 go gm N A c (Qv L) (L ++ (x1,x2) :: Q) gq Aq' (n - 1) (cq - 1) Q:=by rw [hAq']; exact HS6.out.pop
    rw [← hAq']
    obtain ⟨n',hn',cq',hcq'⟩:=V2 (n - 1) (cq - 1)
    rw [← hn',← hcq'] at hs7 ⊢
    have HNQ':=Qa (show n'=Q.length by rw [hn',HNQ.out]; rfl)
    have HS7:=Qa hs7
    have c10:=hs7.out.cell hx1
    have hx1i:=nZ x1
    have hx1j:(x1:Int) < (N:Int):=by omega
    obtain ⟨m,hm,Ax,hAx,cx,hcx⟩:=V3 ((Qv L x1).length) (A x1) (c x1)
    rw [← hm,← hAx,← hcx] at c10
    obtain ⟨HMX,HAX,HCX⟩:=Z3 hm hAx hcx
    clear hs7 hAq' hn' hcq' hm hAx hcx hcq hn2 hn0 HNQ HS6 HS
    go_upto_region 10 with fail
    rename_i Kz hKz
    refine Qcy [0,1,2,3,4,5,6,7,8,9] [10,11] [] [] [12,13] 12 (by kernel_rfl) (by kernel_rfl) (fun w'=>Blk w' g7 103 #[.int .i64 (x1:Int),.int .i64 (x2:Int)]∧w'.cell? ⟨go,x1,none⟩=some (.slice Ax m cx)) ⟨HY6.out,c10⟩ ?_
    intro I _ f hf
    have y0:=fun n_=>(hf n_).1.cell 0
    have y1:=fun n_=>(hf n_).1.cell 1
    have d10:=fun n_=>(hf n_).2
    simp only [gA,gH,gS] at y0 y1
    clear hf c10
    simp only [Q3,List.map_cons,List.map_nil,gA,gH,gS,Option.getD_some]
    repeat (go_big_quiet_step ((fail)))
    refine wpQuiet_nil ?_
    clear y0 y1 d10
    obtain ⟨w8,hw8,g8,hg8⟩:=V2 ((w6.alloc (.cells #[.int .i64 (x2:Int)] 3)).drew) (w6.heap.size)
    have hE8:Ext w6 w8:=by rw [hw8]; exact Ext.drew' ((Ext.rfl' w6).alloc nL _)
    have hI8:Reads w8 (g8 + 1) 1 (some ⟨g8,0,none⟩) 1 [.int .i64 (x2:Int)]:=by rw [hw8]; exact (Qau w6 3 (.int .i64 (x2:Int)) g8 hg8).drew
    have hS8:Blk w8 g7 103 #[.int .i64 (x1:Int),.int .i64 (x2:Int)]∧w8.cell? ⟨go,x1,none⟩=some (.slice Ax m cx):=⟨HY6.out.ext hE8,by rw [HMX.out,HAX.out,HCX.out]; exact (HS7.out.out.ext hE8).cell hx1⟩
    refine Qq rfl ?_
    intro K1 hK1
    go_simp
    rw [← hw8,← hg8]
    refine hK1 _ _ hS8 ?_
    refine Qq rfl ?_
    intro K2 hK2
    obtain ⟨i0,hi0,hz0,hs0,hb0⟩:=Qc0
    have hown8:w8.ownsRow w.heap.size 3 1 (.slice Ax m cx) m (Qj (Qv L x1)):=by rw [HMX.out,HAX.out,HCX.out]; exact (HS7.out.out.ext hE8).own x1 hx1
    have hm1:m≤1000000:=by
     have h1:=hown8.1
     have h2:=HFEW.out L ((x1,x2) :: Q) HV.out
     have h3:(Qv L x1).length≤L.length:=by unfold Qv; rw [List.length_map]; exact List.length_filter_le _ _
     have h4:=HMX.out
     omega
    refine Qbo w8 _ _ 58 rfl w.heap.size 3 i0 _ 1 8 Tryz.underlying58 hi0 hz0 hs0 hb0 rfl (by decide) (.slice Ax m cx) m (Qj (Qv L x1)) rfl hown8 (g8 + 1) (some ⟨g8,0,none⟩) 1 _ [.int .i64 (x2:Int)] rfl hI8 (fun u hu=>by rw [List.mem_singleton.1 hu]; rfl) (by unfold maxLen; omega) (by omega) (by have:=HS7.out.ext.size; have:=hE8.size; omega) ?_
    intro v' w9 hO9 hg9 hn9
    obtain ⟨A9,c9,rfl⟩:∃ A9 c9,v' = .slice A9 (m + 1) c9:=by
     rcases hO9.2 with ⟨e,h0⟩ | ⟨g,cap,cur,e,_⟩
     ·omega
     ·exact ⟨_,_,e⟩
    have hap:=(HS7.out.grow hE8).app (w':=w9) (x:=x2) (A':=A9) (c':=c9) hx1 (by rw [← HMX.out]; simpa [Qj] using hO9) (by rw [← HMX.out,← HAX.out,← HCX.out]; exact hg9) (by rw [← HMX.out,← HAX.out,← HCX.out]; exact hn9)
    rw [← HMX.out] at hap
    have hap2:=hap.congr (fun i _=>Qr4 L x1 x2 i)
    have hmv:Mv (fun k=>∃ a,Ax=some a∧k=a.block) w8 w9:=Mv.of_grown hg9 fun g e=>by
     cases hA:Ax with
     | none=>rw [hA] at e; cases e
     | some a=>rw [hA] at e; injection e with e; exact ⟨a,rfl,e.symm⟩
    have hneY:¬ ∃ a,Ax=some a∧g7=a.block:=fun ⟨a,h1,h2⟩=>(HS7.out.out.ext hE8).ne hS8.1 (by decide) hx1 (HAX.out.symm.trans h1) h2.symm
    have hneG:¬ ∃ a,Ax=some a∧go=a.block:=fun ⟨a,h1,h2⟩=>by
     obtain ⟨⟨cs,hB,_⟩,_,_⟩:=HS7.out.out.ext hE8
     exact (HS7.out.out.ext hE8).ne hB (by decide) hx1 (HAX.out.symm.trans h1) h2.symm
    have hS9:Blk w9 g7 103 #[.int .i64 (x1:Int),.int .i64 (x2:Int)]∧w9.cell? ⟨go,x1,none⟩=some (.slice Ax m cx):=⟨hmv.blk hS8.1 hneY,(hmv.cell (p:=⟨go,x1,none⟩) (HS7.out.out.ext hE8).lt hneG).trans hS8.2⟩
    have hgne:g7≠go:=by
     obtain ⟨⟨cs,hB,_⟩,_,_⟩:=HS7.out.out.ext hE8
     intro e
     have h1:=hS8.1
     rw [e] at h1
     unfold Blk at h1 hB
     rw [hB] at h1
     injection h1 with h1
     injection h1 with _ e
     exact absurd e (by decide)
    have d9:=hS9.2
    have f9:w9.frozen? ⟨go,x1,none⟩=false:=by
     obtain ⟨⟨cs,hB,_⟩,_,_⟩:=HS7.out.out.ext hE8
     exact (hmv.blk hB hneG).free _
    obtain ⟨HY10,HS10⟩:=Z2 (hS9.1.far (p:=⟨go,x1,none⟩) hgne (.slice A9 (m + 1) c9)) hap2
    refine hK2 _ _ hS9 ?_
    refine Qa0 ?_
    refine wpQuiet_nil ?_
    refine Qa0 ?_
    clear hw8 hg8 hE8 hI8 hS8 hi0 hz0 hs0 hb0 hown8 hm1 hO9 hg9 hn9 hap hap2 hmv hneY hneG hS9 hgne HS7 HY6
    go_wp2_with fail
    refine hKz _ _ ?_
    obtain ⟨w10,hw10⟩:=V1 (w9.setCell ⟨go,x1,none⟩ (.slice A9 (m + 1) c9))
    rw [← hw10] at HY10 HS10 ⊢
    clear hw10 d9 f9
    obtain ⟨A10,hA10,C10,hC10⟩:=V2 (Qdi A x1 A9) (Qdi c x1 c9)
    rw [← hA10,← hC10] at HS10
    clear hA10 hC10
    have HMID:=Qa (HV.out.take)
    have hokd:=HOK.out x1 hx1
    have HNDx:=Qa (fun w1 (hE:Ext w w1)=>HND.out w1 hE x1 hx1)
    obtain ⟨d,hd⟩:=V1 (Qf s x1)
    rw [← hd] at hokd HNDx
    obtain ⟨HD,HDK⟩:=Z2 hd hokd
    have hqd:=hokd.few
    have hY10:=HY10.out
    have y0:=X1 hY10
    clear hd hokd hY10
    go_wp2_with fail
    refine (HNDx.out w10 HS10.out.ext).mono ?_
    rintro e w11 ⟨An,cn,Ae,ce,rfl,_,hX11,hE11,hF11⟩
    unfold Qbm
    obtain ⟨m',hm',q',hq'⟩:=V2 (d.names.length) (d.edges.length)
    rw [← hm',← hq']
    rw [← hq'] at hqd
    have HQ:=Qa hq'
    have hq0:=nZ q'
    obtain ⟨w12,g12,hw12,hg12,Hw12,Hg12,hD,hDE⟩:=T0 w11 66 #[.int .i64 d.kind,.int .i64 d.at_,.int .i64 d.lo,.int .i64 d.hi,.int .i64 d.most,.slice An m' cn,.slice Ae q' ce]
    obtain ⟨HS12,HY12,HX12⟩:=Z3 ((HS10.out.grow hE11).grow hDE) ((HY10.out.ext hE11).ext hDE) (EdgesAt.ext hX11 hDE)
    have hm12:gm < w10.heap.size:=HS10.out.tab.lt
    have hq12:gq < w10.heap.size:=HS10.out.que.lt
    have hne1:g7≠gm:=fun e=>HS12.out.tab.no_row HY12.out e.symm
    have hne2:g12≠gm:=fun e=>HS12.out.tab.no_row hD e.symm
    have hne3:g12≠gq:=by have:=hE11.size; omega
    have hF12:∀ a,Ae=some a→a.block≠gm∧a.block≠gq:=fun a ha=>by have:=hF11 a ha; omega
    have HF12:=Qa hF12
    obtain ⟨-,-,-,-,-,-,d6⟩:=X7 hD
    have hX12:Mv (fun k=>k=gm∨k=gq) w12 w12:=Mv.rfl' _ _
    have HNE:=Qa (show g7≠gm∧g7≠gq∧g12≠gm∧g12≠gq∧g7 < w12.heap.size from ⟨hne1,by omega,hne2,hne3,HY12.out.lt⟩)
    have HD12:=Qa hD
    clear y0 hw12 hg12 hm' hq' hD hDE hE11 hX11 HS10 HY10 HNDx hF11 hF12 hm12 hq12 hne1 hne2 hne3
    go_upto_region 12 with fail
    rw [← Hw12.out,← Hg12.out]
    go_wp2_with fail
    clear d6
    go_loopw [63,6] (fun i v wr=>∃ (q:Nat) (Q2:List (Nat × Nat)) (gq2:Nat) (Aq2:Option Addr) (n2 cq2:Nat),q≤q'∧i = .int .i64 (q:Int)∧v = .slice Aq2 n2 cq2∧Hid (n2=Q2.length)∧Hid (Mid s L (x1,x2) Q2 q)∧Hid (RSt w wr go gm N A10 C10 (Qv (L ++ [(x1,x2)])) (L ++ (x1,x2) :: Q2) gq2 Aq2 n2 cq2 Q2)∧Hid (gq2=gq∨w12.heap.size≤gq2)∧Hid (Mv (fun k=>k=gm∨k=gq) w12 wr)) (fun i _ _=>q' - (intOf i).toNat)
    case atStart=>exact ⟨0,Q,gq,_,_,_,Nat.zero_le _,rfl,rfl,HNQ'.out,HMID.out,HS12.out,.inl rfl,hX12⟩
    case round =>
     clear hX12 HS12 HMID HNQ'
     obtain ⟨q,Q2,gq2,Aq2,n2,cq2,hq,rfl,rfl,HN2,HMD,HS2,HG2,HMV⟩:=hrel
     obtain ⟨HYr,HDr⟩:=Z2 (HMV.out.blk HY12.out (fun h=>by rcases h with h | h; exact HNE.out.1 h; exact HNE.out.2.1 h)) (HMV.out.blk HD12.out (fun h=>by rcases h with h | h; exact HNE.out.2.2.1 h; exact HNE.out.2.2.2.1 h))
     by_cases hlt:q < q'
     ·have hqd2:q < d.edges.length:=by have:=HQ.out; omega
      obtain ⟨b,o,rfl,hb,hc⟩:=HX12.out.cell (by omega)
      have h1:=hc q hqd2
      have hoe:=HDK.out.edge q hqd2
      have hpass:=fun hp=>HMD.out.pass (by rw [← HD.out]; exact hqd2) hp
      have hpush:=fun hb hn=>HMD.out.push (by rw [← HD.out]; exact hqd2) hb hn
      obtain ⟨e,he⟩:=V1 (d.edges[q])
      have he2:∀ h,(Qf s (x1,x2).1).edges[q]'h=e:=by
       intro h
       rw [he]
       simp only [HD.out]
      have hpass2:e.bare=true∨goE s (x1,x2) e ∈ L ++ (x1,x2) :: Q2→Mid s L (x1,x2) Q2 (q + 1):=fun hp=>hpass (by rw [he2]; exact hp)
      have hpush2:e.bare=false→¬ goE s (x1,x2) e ∈ L ++ (x1,x2) :: Q2→Mid s L (x1,x2) (Q2 ++ [goE s (x1,x2) e]) (q + 1):=fun hb hn=>by
       have:=hpush (by rw [he2]; exact hb) (by rw [he2]; exact hn)
       rw [he2] at this
       exact this
      rw [← he] at h1 hoe
      obtain ⟨HPASS,HPUSH⟩:=Z2 hpass2 hpush2
      have HRG:=Qa (show wr.rangeAt b (o + q * 10) [.string e.name,.bool e.bare,.int .i64 e.at_,.int .i64 e.tgt,.int .i64 e.label,.int .i64 e.wide,.int .i64 e.coarse,.int .i64 e.n,.int .i64 e.seen,.int .i64 e.cat] from fun j v hv=>(HMV.out.cell (p:=⟨b,o + q * 10 + j,none⟩) hb (fun h=>by rcases h with h | h; exact (HF12.out _ rfl).1 h; exact (HF12.out _ rfl).2 h)).trans (h1 j v hv))
      have HOE:=Qa hoe
      have j0:=nZ q
      have j1:(q:Int) < (q':Int):=by omega
      clear hc h1 hoe hpass hpush hpass2 hpush2 he2 he hb hqd2
      obtain ⟨w13,g13,hw13,hg13,Hw13,Hg13,hU,hUE⟩:=T0 wr 70 #[.string e.name,.bool e.bare,.int .i64 e.at_,.int .i64 e.tgt,.int .i64 e.label,.int .i64 e.wide,.int .i64 e.coarse,.int .i64 e.n,.int .i64 e.seen,.int .i64 e.cat]
      obtain ⟨HS13,HU13,HY13,HM13⟩:=Z4 (HS2.out.grow hUE) hU (HYr.out.ext hUE) (HMV.out.ext hUE)
      clear hw13 hg13 hU hUE
      go_upto_region 14 with fail
      refine wp_region_lit ?_
      refine wpList_plain rfl fun K0 hK0=>?_
      go_simp
      refine hK0 _ _ ?_
      refine wpList_load_mid rfl 70 _ rfl b (o + q * 10) rfl _ _ HRG.out Tryz.underlying70 rfl Qql ?_
      refine wpList_plain rfl fun K0 hK0=>?_
      go_simp
      refine hK0 _ _ ?_
      refine Qd rfl 70 _ _ rfl _ #[.string e.name,.bool e.bare,.int .i64 e.at_,.int .i64 e.tgt,.int .i64 e.label,.int .i64 e.wide,.int .i64 e.coarse,.int .i64 e.n,.int .i64 e.seen,.int .i64 e.cat] rfl rfl Qql rfl (by simp [Value.oneCell']) ?_
      go_upto_region 15 with fail
      rw [← Hw13.out,← Hg13.out]
      obtain ⟨la,hla,hlan⟩:=HOE.out.lab
      rw [← HKK.out] at hlan
      have HLA:=Qa hlan
      have hU13:=HU13.out
      obtain ⟨-,u1,-,u3,u4⟩:=X5 hU13
      rw [hla] at u4
      have HLL:=Qa hla
      have hY13:=HY13.out
      obtain ⟨-,y1⟩:=X2 hY13
      clear hla hlan hY13 hU13
      obtain ⟨jv,hjv⟩:=V1 (jnS s x2 la)
      have HJV:=Qa hjv
      simp only [Act.put]
      go_cut [12] (fun v wx=>∃ gy,v = .pointer (some ⟨gy,0,none⟩)∧Blk wx gy 103 #[.int .i64 e.tgt,.int .i64 (jv:Int)]∧Ext w13 wx)
      case first =>
       rename_i Kz hKz
       have hEd:Ext w w13.drew:=Ext.drew' HS13.out.ext
       have hSd:Ext w13 w13.drew:=Ext.drew' (Ext.rfl' w13)
       have hEa:Ext w ((w13.alloc (.cells #[.int .i64 0,.int .i64 0] 103)).drew):=Ext.drew' (HS13.out.ext.alloc HS13.out.ext.size _)
       have hSa:Ext w13 ((w13.alloc (.cells #[.int .i64 0,.int .i64 0] 103)).drew):=Ext.drew' ((Ext.rfl' w13).alloc nL _)
       have HJx:=Qa (fun w1 (hE:Ext w w1)=>HJN.out w1 hE x2 la hx2 HLA.out)
       rw [← hjv] at HJx
       refine Qjx [0,1,2,4,5,6,7] 10 [3,8,9] [11] 11 (by kernel_rfl) (by kernel_rfl) (fun w'=>Ext w13 w') hSd ?_
       intro I _ f hf
       have r1:∀ n_,(f n_).cell? ⟨g7,1,none⟩=some (.int .i64 (x2:Int)):=fun n_=>((hf n_).cell (p:=⟨g7,1,none⟩) HY13.out.lt).trans y1
       have r3:∀ n_,(f n_).cell? ⟨g13,3,none⟩=some (.int .i64 e.tgt):=fun n_=>((hf n_).cell (p:=⟨g13,3,none⟩) HU13.out.lt).trans u3
       have r4:∀ n_,(f n_).cell? ⟨g13,4,none⟩=some (.int .i64 (la:Int)):=fun n_=>((hf n_).cell (p:=⟨g13,4,none⟩) HU13.out.lt).trans u4
       clear hf y1 u1 u3 u4 hjv
       simp only [Q3,List.map_cons,List.map_nil,gA,gH,gS,Option.getD_some]
       repeat (go_big_quiet_step ((fail)))
       refine wpQuiet_nil ?_
       clear r1 r3 r4
       refine Qf2 rfl ?_ ?_
       ·refine Qq rfl ?_
        intro K1 hK1
        go_simp
        refine hK1 _ _ hSa ?_
        refine Qq rfl ?_
        intro K2 hK2
        go_simp
        refine (HLAT.out _ hEa).mono ?_
        rintro e' w' ⟨rfl,rfl⟩
        refine hK2 _ _ hSa ?_
        refine Qq rfl ?_
        intro K3 hK3
        go_simp
        refine (HJx.out _ hEa).mono ?_
        rintro e' w' ⟨rfl,rfl⟩
        refine hK3 _ _ hSa ?_
        refine Qq rfl ?_
        intro K4 hK4
        go_simp
        refine hK4 _ _ hSa ?_
        refine Qa0 ?_
        go_wp2_with fail
        refine hKz _ _ ?_
        go_meet
        exact ⟨w13.heap.size,rfl,Blk.new w13 _ _,Ext.drew' ((Ext.rfl' w13).alloc nL _)⟩
       ·intro K1 hK1
        go_simp
        refine (HLAT.out _ hEd).mono ?_
        rintro e' w' ⟨rfl,rfl⟩
        refine hK1 _ _ hSd ?_
        refine Qf2 rfl ?_ ?_
        ·refine Qq rfl ?_
         intro K2 hK2
         go_simp
         refine hK2 _ _ hSa ?_
         refine Qq rfl ?_
         intro K3 hK3
         go_simp
         refine (HJx.out _ hEa).mono ?_
         rintro e' w' ⟨rfl,rfl⟩
         refine hK3 _ _ hSa ?_
         refine Qq rfl ?_
         intro K4 hK4
         go_simp
         refine hK4 _ _ hSa ?_
         refine Qa0 ?_
         go_wp2_with fail
         refine hKz _ _ ?_
         go_meet
         exact ⟨w13.heap.size,rfl,Blk.new w13 _ _,Ext.drew' ((Ext.rfl' w13).alloc nL _)⟩
        ·intro K2 hK2
         go_simp
         refine (HJx.out _ hEd).mono ?_
         rintro e' w' ⟨rfl,rfl⟩
         refine hK2 _ _ hSd ?_
         refine Qf2 rfl ?_ ?_
         ·refine Qq rfl ?_
          intro K3 hK3
          go_simp
          refine hK3 _ _ hSa ?_
          refine Qq rfl ?_
          intro K4 hK4
          go_simp
          refine hK4 _ _ hSa ?_
          refine Qa0 ?_
          go_wp2_with fail
          refine hKz _ _ ?_
          go_meet
          exact ⟨w13.heap.size,rfl,Blk.new w13 _ _,Ext.drew' ((Ext.rfl' w13).alloc nL _)⟩
         ·intro K3 hK3
          go_simp
          refine hK3 _ _ hSd ?_
          refine Qqj ?_
          refine Qq rfl ?_
          intro K4 hK4
          go_simp
          refine hK4 _ _ hSa ?_
          refine Qa0 ?_
          go_wp2_with fail
          refine hKz _ _ ?_
          go_meet
          exact ⟨w13.heap.size,rfl,Blk.new w13 _ _,Ext.drew' ((Ext.rfl' w13).alloc nL _)⟩
      case rest =>
       rename World=>w14
       obtain ⟨gy,rfl,hB14,hE14⟩:=hcut
       obtain ⟨HS14,HM14⟩:=Z2 (HS13.out.grow hE14) (HM13.out.ext hE14)
       have hU14:=HU13.out.ext hE14
       clear y1 u1 u3 u4
       obtain ⟨-,u1⟩:=X2 hU14
       obtain ⟨p0,p1⟩:=X2 hB14
       obtain ⟨HU14,HB14⟩:=Z2 hU14 hB14
       clear hU14 hB14 hE14 hjv HU13 HS13 HM13 HY13
       cases heb:e.bare with
       | true =>
        rw [heb] at u1
        have HNX:=Qa (HPASS.out (.inl heb))
        clear heb
        go_wp2_with fail
        go_roundw
        case rel=>exact ⟨q + 1,Q2,gq2,Aq2,n2,cq2,by omega,by go_num,rfl,HN2.out,HNX.out,HS14.out,HG2.out,HM14.out⟩
        case measure=>simp [intOf]; omega
       | false =>
        rw [heb] at u1
        obtain ⟨tg,htg,htn⟩:=HOE.out.to_ heb
        rw [← HNN.out] at htn
        have hgo:goE s (x1,x2) e=(tg,jv):=by
         unfold goE
         rw [htg,HLL.out,HJV.out]
         rfl
        have hjvn:jv < K:=by rw [HJV.out]; exact HJL.out x2 la hx2 HLA.out
        rw [htg] at p0
        have hlook:=HS14.out.tab.look (tg,jv) (by dsimp only; omega) (by dsimp only; omega)
        dsimp only at hlook
        have HPASS2:=Qa HPASS.out
        rw [hgo] at HPASS2
        have HPUSH2:=Qa (HPUSH.out heb)
        rw [hgo] at HPUSH2
        have hS1:(L ++ (x1,x2) :: Q2).length≤1000000:=by
         have h1:=HFEWM.out L Q2 (x1,x2) q HMD.out
         rw [List.length_append,List.length_cons]
         omega
        clear hgo heb HPASS HPUSH
        by_cases hin:(tg,jv) ∈ L ++ (x1,x2) :: Q2
        ·rw [if_pos hin] at hlook
         have HNX:=Qa (HPASS2.out (.inr hin))
         clear hin
         go_wp2_with fail
         go_roundw
         case rel=>exact ⟨q + 1,Q2,gq2,Aq2,n2,cq2,by omega,by go_num,rfl,HN2.out,HNX.out,HS14.out,HG2.out,HM14.out⟩
         case measure=>simp [intOf]; omega
        ·rw [if_neg hin] at hlook
         have HNX:=Qa (HPUSH2.out hin)
         clear hin
         go_upto_region 17 with fail
         refine wp_region_lit ?_
         refine wpList_plain rfl fun K0 hK0=>?_
         go_simp
         refine hK0 _ _ ?_
         refine wpList_plain rfl fun K1 hK1=>?_
         go_simp
         refine hK1 _ _ ?_
         refine Qin rfl _ _ _ (.inl rfl) gm (L ++ (x1,x2) :: Q2) HS14.out.tab (tg,jv) (by dsimp only; omega) (by dsimp only; omega) hS1 rfl rfl rfl ?_
         intro w15 hM15 hg15
         have hm15:Mv (fun k=>k=gm) w14 w15:=Mv.of_grown hg15 fun g e=>by injection e with e; exact e.symm
         obtain ⟨HS15,HM15⟩:=Z2 (HS14.out.put hM15 hg15) (HM14.out.trans (hm15.more fun i _ h=>.inl h))
         have hB15:Blk w15 gy 103 #[.int .i64 (tg:Int),.int .i64 (jv:Int)]:=by
          have h1:=hm15.blk HB14.out fun e=>HS14.out.tab.no_row HB14.out e.symm
          rw [htg] at h1
          exact h1
         clear p0 p1 u1 hlook
         obtain ⟨p0,p1⟩:=X2 hB15
         clear hM15 hg15 hm15 hB15 hS1 HM14 HS14 HB14 HU14 htg
         go_upto_region 18 with fail
         obtain ⟨w16,g16,hw16,hg16,Hw16,Hg16,hZ,hZE⟩:=T0 w15 103 #[.int .i64 (tg:Int),.int .i64 (jv:Int)]
         obtain ⟨HS16,HM16,HZ16⟩:=Z3 (HS15.out.grow hZE) (HM15.out.ext hZE) hZ
         clear hw16 hg16 hZ hZE
         refine wp_region_lit ?_
         refine wpList_plain rfl fun K0 hK0=>?_
         go_simp
         refine hK0 _ _ ?_
         refine wpList_plain rfl fun K1 hK1=>?_
         go_simp
         refine hK1 _ _ ?_
         refine wpList_plain rfl fun K2 hK2=>?_
         go_simp
         refine hK2 _ _ ?_
         rw [← Hw16.out,← Hg16.out]
         clear p0 p1
         have hn2b:n2≤1000000:=by
          have h1:=HFEWM.out L Q2 (x1,x2) q HMD.out
          have h2:=HN2.out
          omega
         refine Qio rfl _ _ rfl HS16.out.que rfl (tg,jv) g16 1 rfl HZ16.out hn2b ?_
         intro A17 c17 g17 w17 hQ17 hg17 hn17
         have HS17:=Qa ((HS16.out.push hQ17 hg17 hn17).set_eq (S':=L ++ (x1,x2) :: (Q2 ++ [(tg,jv)])) (by simp) rfl)
         have hm17:Mv (fun k=>k=gq2) w16 w17:=Mv.of_grown hg17 fun g e=>by injection e with e; exact e.symm
         have HM17:=Qa (HM16.out.trans' hm17 (fun i hi hx e=>by
          rcases HG2.out with h | h
          ·exact hx (.inr (e.trans h))
          ·omega))
         have HG17:=Qa (show g17=gq∨w12.heap.size≤g17 from by
          rcases hn17 with h | h
          ·rw [h]; exact HG2.out
          ·right; have:=HM16.out.size; omega)
         have HN17:=Qa (show n2 + 1=(Q2 ++ [(tg,jv)]).length by rw [List.length_append,HN2.out]; rfl)
         clear hQ17 hg17 hn17 hm17 hn2b HS16 HM16 HZ16 HS15 HM15
         go_wp2_with fail
         go_roundw
         case rel=>exact ⟨q + 1,Q2 ++ [(tg,jv)],g17,A17,n2 + 1,c17,by omega,by go_num,rfl,HN17.out,HNX.out,HS17.out,HG17.out,HM17.out⟩
         case measure=>simp [intOf]; omega
     ·obtain rfl:q=q':=by omega
      have HVN:=Qa (HMD.out.done (by rw [← HD.out]; exact Nat.le_of_eq HQ.out.symm))
      have hfw:=HFEWM.out L Q2 (x1,x2) q HMD.out
      have HSN:=Qa (HS2.out.set_eq (S':=(L ++ [(x1,x2)]) ++ Q2) (by simp) rfl)
      clear HMV HYr HDr
      go_wp2_with fail
      go_roundg (gk - 1)
      case measure=>omega
      case rel=>exact ⟨L ++ [(x1,x2)],Q2,A10,C10,gq2,Aq2,n2,cq2,rfl,by rw [List.length_append,List.length_singleton]; omega,HN2.out,HVN.out,HSN.out⟩
theorem Qmz {s:Sch} (hg:s.Good) (hz:SchSz s) {x y:Nat × Nat} {st:StP} (hx:inP s x) (h:goF s x st=some y):∃ e ∈ (Qf s x.1).edges,e.bare=false∧y=goE s x e:=by
 unfold goF at h
 by_cases hs:stB st=true
 ·rw [if_pos hs] at h
  unfold Qdh at h
  cases he:Qhe s x.1 st with
  | none=>rw [he] at h; cases h
  | some e =>
   rw [he] at h
   injection h with h
   unfold Qhe at he
   have hp:=List.find?_some he
   have hm:=List.mem_of_find?_eq_some he
   refine ⟨e,hm,?_,h.symm⟩
   have hd:NodeOk s (Qf s x.1):=by rw [Qar hx.1]; exact Qbt hg hz hx.1
   obtain ⟨i,hi,rfl⟩:=List.getElem_of_mem hm
   exact Qfz (hd.edge i hi) hp
 ·rw [if_neg hs] at h; cases h
theorem Qli {s:Sch} (hg:s.Good) (hz:SchSz s) (l:List StP):∀ x y,Rch s x→walkF s x l=some y→Rch s y:=by
 induction l with
 | nil=>intro x y hx h; injection h with h; rw [← h]; exact hx
 | cons st r ih =>
  intro x y hx h
  have h':(match goF s x st with | some y=>walkF s y r | none=>none)=some y:=h
  cases hgo:goF s x st with
  | none=>rw [hgo] at h'; cases h'
  | some z =>
   rw [hgo] at h'
   obtain ⟨e,he,hb,rfl⟩:=Qmz hg hz (hx.in_ hg hz) hgo
   exact ih _ y (.step hx he hb) h'
theorem Qth {s:Sch} (hg:s.Good) (hz:SchSz s) {x y:Nat × Nat} {st:StP} (hx:inP s x) (h:goF s x st=some y):Qu s.ws s.os x.2 y.2=true:=by
 obtain ⟨e,he,hb,rfl⟩:=Qmz hg hz hx h
 have hd:NodeOk s (Qf s x.1):=by rw [Qar hx.1]; exact Qbt hg hz hx.1
 obtain ⟨i,hi,rfl⟩:=List.getElem_of_mem he
 obtain ⟨l,hl1,hl2⟩:=(hd.edge i hi).lab
 show Qu s.ws s.os x.2 (jnS s x.2 ((Qf s x.1).edges[i].label).toNat)=true
 rw [hl1]
 exact (LatM.jn_left hg.lat.lat hx.2 hl2).1
def LastOk (s:Sch) (l:List StP) (i b:Nat):Prop:=b < s.ws.length∧(i=0→b=Qcc s)∧∀ y,walkF s (rootP s) (l.take i)=some y→Qu s.ws s.os b y.2=true
theorem Qqm {s:Sch} (hg:s.Good) (l:List StP):LastOk s l 0 (Qcc s):=⟨Qet hg,fun _=>rfl,fun y h=>by
 injection h with h
 rw [← h]
 exact hg.lat.lat.po.refl _ (Qet hg)⟩
theorem Qqn {s:Sch} (hg:s.Good) (hz:SchSz s) {l:List StP} {i:Nat} (hi:i < l.length) {y:Nat × Nat} (h:walkF s (rootP s) (l.take i)=some y):LastOk s l (i + 1) y.2:=by
 have hy:=(Qli hg hz _ _ _ .root h).in_ hg hz
 refine ⟨hy.2,fun h=>absurd h (Nat.succ_ne_zero i),fun z hw=>?_⟩
 rw [Qjo hi h] at hw
 exact Qth hg hz hy hw
theorem StpsAt.take {w:World} {B:Nat} {A:Option Addr} {l:List StP} (h:StpsAt w B A l) (i:Nat):StpsAt w B A (l.take i):=by
 have hcl:∀ l:List StP,(Qbh l).length=l.length * 3:=fun l=>by
  induction l with
  | nil=>rfl
  | cons e r ih=>show (stV e ++ Qbh r).length=_; rw [List.length_append,ih]; simp [stV]; omega
 refine ⟨hcl _,fun hn=>?_⟩
 have hl:0 < l.length:=by rw [List.length_take] at hn; omega
 obtain ⟨ad,e,hb,hc⟩:=h.2 hl
 refine ⟨ad,e,hb,fun j u hu=>hc j u ?_⟩
 have hs:Qbh l=Qbh (l.take i) ++ Qbh (l.drop i):=by
  unfold Qbh
  rw [← List.flatMap_append,List.take_append_drop]
 rw [hs,List.getElem?_append_left (List.getElem?_eq_some_iff.1 hu).1]
 exact hu
theorem reachL_le' (s:Sch) (i:Nat):(Q5 s i).length≤s.ws.length:=by
 unfold Q5
 exact Nat.le_trans (List.length_filter_le _ _) (by simp)
def anyTo (L:List Nat) (y q:Nat):Bool:=(L.take q).any fun a=>a == y
theorem Qip {L:List Nat} {y q:Nat} (hq:q < L.length):anyTo L y (q + 1)=(anyTo L y q || (L[q] == y)):=by
 unfold anyTo
 rw [List.take_add_one,List.any_append,List.getElem?_eq_getElem hq]
 simp
theorem Qjp {L:List Nat} {y:Nat} (h:y ∈ L):anyTo L y L.length=true:=by
 unfold anyTo
 rw [List.take_length,List.any_eq_true]
 exact ⟨y,h,by simp⟩
set_option maxRecDepth 100000 in
theorem Qlj (s:Sch) (w:World) (vs:List Value) (hS:SchAt w s vs) (hz:SchSz s) (A:Option Addr) (n0 c0:Nat) (l:List StP) (hl:StpsAt w w.heap.size A l) (hn0:n0=l.length) (hsz:Qk8 l) (hcap:n0≤c0) (hbig:n0≤9223372036854775807):Calls Tryz.prog 6 #[.agg vs.toArray,.slice A n0 c0] w (fun e w'=>e = .returned (.bool true)∧Ext w w'):=by
 obtain ⟨HLV,HGO,HRC⟩:=Z3 Qla (fun (h:(s.badK s.n).1=0)=>Qha hz h) (fun gp w1 (h:PlanAt w1 gp s) (hg:s.Good)=>Qlh gp s w1 h hg hz)
 have HWK:=Qa (fun gp w1 (hE:Ext w w1) (h:PlanAt w1 gp s) (hg:s.Good) (i:Nat) (hi:i≤n0) (hb:n0≤100)=>Qgt gp s A c0 i (l.take i) w1 h hg hz ((hl.ext hE).take i) (by rw [List.length_take]; omega) (fun k hk=>by
  rw [List.getElem_take]
  exact hsz k (by rw [List.length_take] at hk; omega)) (by omega))
 obtain ⟨HRCH,HLN,HIN,HMR⟩:=Z4 (fun (hg:s.Good) i y h=>Qli hg hz (l.take i) _ y .root h) (fun (hg:s.Good) i (hi:i < l.length) y h=>Qqn hg hz hi (y:=y) h) (fun (hg:s.Good) y (h:Rch s y)=>h.in_ hg hz) (fun (hg:s.Good) i a=>mem_reachL hg hz (i:=i) (a:=a))
 have hgr:=fun w1 (hE:Ext w w1)=>Qqh s vs w1 (hS.ext hE) hz
 have hbd:=fun w1 (hE:Ext w w1)=>Qih s vs w1 (hS.ext hE) hz
 obtain ⟨A1,c1,A2,c2,A3,c3,vr,rfl,hA1,hA2,hA3,hR⟩:=hS
 obtain ⟨y0,y1,y2,y3,y4,y5,y6,y7,y8,rfl⟩:∃ y0 y1 y2 y3 y4 y5 y6 y7 y8:Value,vr = [y0,y1,y2,y3,y4,y5,y6,y7,y8]:=by obtain ⟨y0,y1,y2,y3,y4,y5,y6,y7,y8,e⟩:=hR.nine; exact ⟨y0,y1,y2,y3,y4,y5,y6,y7,y8,e⟩
 obtain ⟨nw,hnw,no,hno,n,hn⟩:=V3 (s.ws.length) (s.os.length) (s.n)
 rw [← hnw,← hno,← hn] at hgr hbd ⊢
 have HGR:=Qa (show ∀ w1,Ext w w1→Calls Tryz.prog 18 #[.agg #[.slice A1 nw c1,.slice A2 no c2,.slice A3 n c3,y0,y1,y2,y3,y4,y5,y6,y7,y8]] w1 (fun e w'=>e = .returned (.bool (Qil s))∧Ext w1 w') from hgr)
 have HBD:=Qa (show ∀ w1,Ext w w1→Calls Tryz.prog 10 #[.agg #[.slice A1 nw c1,.slice A2 no c2,.slice A3 n c3,y0,y1,y2,y3,y4,y5,y6,y7,y8]] w1 (Qdp s w1) from hbd)
 show Calls Tryz.prog 6 #[.agg #[.slice A1 nw c1,.slice A2 no c2,.slice A3 n c3,y0,y1,y2,y3,y4,y5,y6,y7,y8],.slice A n0 c0] w (fun e w'=>e = .returned (.bool true)∧Ext w w')
 obtain ⟨GB,hGB⟩:=V1 (Qil s)
 rw [← hGB] at HGR
 obtain ⟨⟨b1,b2⟩,hbk⟩:∃ x,x=s.badK s.n:=⟨_,rfl⟩
 unfold Qdp Qe at HBD
 rw [← hbk] at HBD HGO
 have HNL:=Qa hn0
 clear hGB hgr hbd hz hl hn0 hsz hbk hA1 hA2 hA3 hR hnw hno hn
 have hn0:=nZ n0
 obtain ⟨w1,g1,hw1,hg1,Hw1,Hg1,hB,hBE⟩:=T0 w 31 #[.slice A1 nw c1,.slice A2 no c2,.slice A3 n c3,y0,y1,y2,y3,y4,y5,y6,y7,y8]
 obtain ⟨HE1,HB1⟩:=Z2 hBE hB
 obtain ⟨v0,v1,v2,v3,v4,v5,v6,v7,v8,v9,v10,v11⟩:=X12 hB
 clear hw1 hg1 hB hBE
 go_enter Tryz.func6,Tryz.ntmps6
 go_upto_region 1 with fail
 rw [← Hw1.out,← Hg1.out]
 go_wp2_with fail
 refine (HGR.out w1 HE1.out).mono ?_
 rintro e w3 ⟨rfl,hE3⟩
 obtain ⟨HE3,HB3⟩:=Z2 (HE1.out.trans' hE3) (HB1.out.ext hE3)
 clear hE3 v0 v1 v2 v3 v4 v5 v6 v7 v8 v9 v10 v11
 have lives_end:∀ w5,Ext w w5→Calls Tryz.prog 9 #[] w5 (fun e w'=>e = .returned (.bool true)∧Ext w w'):=fun w5 hE=>(HLV.out w5).mono fun e w' ⟨h1,h2⟩=>⟨h1,hE.trans' h2⟩
 have HLE:=Qa lives_end
 clear lives_end
 cases GB with
 | true =>
  go_wp2_with fail
  refine (HLE.out w3 HE3.out).mono ?_
  rintro e w4 ⟨rfl,hE4⟩
  have HE4:=Qa hE4
  clear hE4
  go_wp2_with fail
  go_ret
  exact ⟨rfl,HE4.out⟩
 | false =>
  by_cases h100:(100:Int) < (n0:Int)
  ·go_wp2_with fail
   refine (HLE.out w3 HE3.out).mono ?_
   rintro e w4 ⟨rfl,hE4⟩
   have HE4:=Qa hE4
   clear hE4
   go_wp2_with fail
   go_ret
   exact ⟨rfl,HE4.out⟩
  have hb100:n0≤100:=by omega
  have hB3:=HB3.out
  obtain ⟨v0,v1,v2,v3,v4,v5,v6,v7,v8,v9,v10,v11⟩:=X12 hB3
  clear hB3
  go_wp2_with fail
  refine (HBD.out w3 HE3.out).mono ?_
  rintro e w4 (⟨hne,rfl,hE4⟩ | ⟨hb0,gp,rfl,hP4,hE4⟩)
  ·have hneb:(b1 != 0)=true:=by simpa using hne
   have HE4:=Qa (HE3.out.trans' hE4)
   clear v0 v1 v2 v3 v4 v5 v6 v7 v8 v9 v10 v11 hE4 hne
   go_wp2_with fail
   refine (HLE.out _ (HE4.out.alloc HE4.out.size _)).mono ?_
   rintro e w5 ⟨rfl,hE5⟩
   have HE5:=Qa hE5
   clear hE5
   go_wp2_with fail
   go_ret
   exact ⟨rfl,HE5.out⟩
  clear v0 v1 v2 v3 v4 v5 v6 v7 v8 v9 v10 v11
  have hg:=HGO.out hb0
  obtain ⟨w5,g5,hw5,hg5,Hw5,Hg5,hF,hFE⟩:=T0 w4 34 #[.int .i64 0,.int .i64 0]
  obtain ⟨HE5,HP5⟩:=Z2 ((HE3.out.trans' hE4).trans' hFE) (hP4.ext hFE)
  have z0:=X1 hF
  clear hw5 hg5 hF hFE hE4 hP4 hb0
  go_upto_region 4 with fail
  rw [← Hw5.out,← Hg5.out]
  go_wp2_with fail
  clear z0
  refine (HRC.out gp w5 HP5.out hg).mono ?_
  rintro e w6 ⟨⟨A6,c6,rfl,hR6⟩,hE6⟩
  obtain ⟨HE6,HP6,HR6⟩:=Z3 (HE5.out.trans' hE6) (HP5.out.ext hE6) hR6
  clear hE6 hR6
  obtain ⟨gl,hpl⟩:=HP6.out.lat
  obtain ⟨HLAT,HBO,HRT⟩:=Z3 (fun w1 (hE:Ext w6 w1)=>Qb1 gp gl s w1 (hpl.ext hE)) (Qfy gl s w6 hpl.2.2 hg) (fun w1 (hE:Ext w6 w1)=>Qd0 gp s w1 (HP6.out.ext hE))
  have HLQ:=Qa (fun w1 (hE:Ext w6 w1) (a b:Nat) (ha:a < s.ws.length) (hb:b < s.ws.length)=>(show Calls Tryz.prog 22 #[.pointer (some ⟨gl,0,none⟩),.int .i64 (a:Int),.int .i64 (b:Int)] w1 (fun e w'=>e = .returned (.bool (Qu s.ws s.os a b))∧w1=w') from by
   have:=Qh2 gl s.ws s.os w1 (hpl.2.2.ext hE) (Qhy hg.lvl.found) a b
   have e1:Qeg s.ws s.os a b=Qu s.ws s.os a b:=by unfold Qeg; rw [Qav ha,Qav hb]; rfl
   rw [e1] at this
   exact this))
  obtain ⟨HW6,HLZ,HRM⟩:=Z3 (fun w1 (hE:Ext w6 w1) (i:Nat) (hi:i≤n0)=>HWK.out gp w1 (HE6.out.trans' hE) (HP6.out.ext hE) hg i hi hb100) (Qqm hg l) (fun i=>reachL_le' s i)
  have hk64:s.ws.length≤32:=hg.lat.few
  have hn512:=Qec hg.fine
  obtain ⟨g6,rfl,hg6,hc6⟩:=HR6.out
  obtain ⟨K,hK,N,hN,RI,hRI,BI,hBI⟩:=V4 (s.ws.length) (s.nodes.length) (s.rootI) (Qcc s)
  rw [← hK] at HLQ HRM hk64
  rw [← hN] at hc6 hn512 ⊢
  rw [← hRI] at HRT
  rw [← hBI] at HBO
  obtain ⟨HC6,HKK,HNN,HRI,HBI⟩:=Z5 hc6 hK hN hRI hBI
  have hN0:=nZ N
  clear hK hN hRI hBI hc6 hpl
  go_wp2_with fail
  refine (HLAT.out w6 (Ext.rfl' _)).mono ?_
  rintro e w' ⟨rfl,rfl⟩
  go_wp2_with fail
  refine HBO.out.mono ?_
  rintro e w' ⟨rfl,rfl⟩
  go_wp2_with fail
  go_loopw [9,8] (fun i v wr=>∃ (k b:Nat),k≤n0 + 1∧i = .int .i64 (k:Int)∧v = .int .i64 (b:Int)∧Hid (k≤n0→LastOk s l k b)∧Hid (Ext w6 wr)) (fun i _ _=>n0 + 1 - (intOf i).toNat)
  case atStart=>exact ⟨0,BI,Nat.zero_le _,rfl,rfl,fun _=>by rw [HBI.out]; exact HLZ.out,Ext.rfl' _⟩
  case round =>
   obtain ⟨k,b,hk,rfl,rfl,HLK,HEr⟩:=hrel
   by_cases hlt:k≤n0
   ·have hL:=HLK.out hlt
    have hbK:b < K:=by rw [HKK.out]; exact hL.1
    obtain ⟨HL,HWW⟩:=Z2 hL (HW6.out wr HEr.out k hlt)
    have i0:=nZ k
    have i1:(k:Int)≤(n0:Int):=by omega
    have i2:¬ (n0:Int) < (k:Int):=by omega
    have i3:(k:Int)≤(c0:Int):=by omega
    obtain ⟨R,hR⟩:=V1 (walkF s (rootP s) (l.take k))
    rw [← hR] at HWW
    have HRR:=Qa hR
    clear hL hR
    go_upto_region 11 with fail
    go_wp2_with fail
    refine HWW.out.mono ?_
    rintro e w7 ⟨rfl,hE7⟩
    have HE7:=Qa (HEr.out.trans' hE7)
    clear hE7 HWW
    cases R with
    | none =>
     unfold Qj1
     have hk0:((k:Int) == 0)=false:=by
      rw [beq_eq_false_iff_ne]
      intro h
      obtain rfl:k=0:=by omega
      cases HRR.out
     go_wp2_with fail
     refine (HLE.out _ (HE6.out.trans' HE7.out)).mono ?_
     rintro e w9 ⟨rfl,hE9⟩
     have HE9:=Qa hE9
     clear hE9
     go_wp2_with fail
     go_ret
     exact ⟨rfl,HE9.out⟩
    | some y =>
     obtain ⟨yn,yl⟩:=y
     have hrch:=HRCH.out hg k (yn,yl) HRR.out.symm
     have hin2:=HIN.out hg (yn,yl) hrch
     have hyn:yn < N:=by rw [HNN.out]; exact hin2.1
     have hyl:yl < K:=by rw [HKK.out]; exact hin2.2
     have HMEM:=Qa ((HMR.out hg yn yl).2 hrch)
     have hlq:=HLQ.out w7 HE7.out b yl hbK hyl
     rw [HL.out.2.2 _ HRR.out.symm] at hlq
     have HLQ2:=Qa hlq
     have HNXT:=Qa (show k + 1≤n0→LastOk s l (k + 1) yl from fun h=>HLN.out hg k (by have:=HNL.out; omega) (yn,yl) HRR.out.symm)
     have HRT7:=Qa (HRT.out w7 HE7.out)
     obtain ⟨Ai,ci,h1,h2⟩:=HC6.out yn hyn
     have p1:=(HE7.out.cell (p:=⟨g6,yn,none⟩) hg6).trans h1
     have HNA:=Qa (h2.ext HE7.out)
     obtain ⟨m,hm⟩:=V1 ((Q5 s yn).length)
     rw [← hm] at p1
     have HM:=Qa hm
     have hm32:m≤32:=by have:=HRM.out yn; omega
     have yn0:=nZ yn
     have yn1:(yn:Int) < (N:Int):=by omega
     have yn2:¬ (N:Int)≤(yn:Int):=by omega
     have yn3:¬ (yn:Int) < 0:=by omega
     clear h1 h2 hm hlq hrch hin2
     unfold Qj1
     by_cases hk0:k=0
     ·subst hk0
      have hroot:some (yn,yl)=some (s.rootI,Qcc s):=HRR.out
      have hbb:=HL.out.2.1 rfl
      obtain rfl:yl=b:=by injection hroot with h; injection h with h3 h4; rw [h4,hbb]
      obtain rfl:yn=RI:=by injection hroot with h; injection h with h3 h4; rw [h3,HRI.out]
      clear hroot hbb
      go_wp2_with fail
      refine HRT7.out.mono ?_
      rintro e w' ⟨rfl,rfl⟩
      go_wp2_with fail
      go_loopw [14,13] (fun a t wr=>∃ (q:Nat) (bb:Bool),q≤m∧a = .int .i64 (q:Int)∧t = .bool bb∧Hid (bb=anyTo (Q5 s yn) yl q)∧w7=wr) (fun a _ _=>m - (intOf a).toNat)
      case atStart=>exact ⟨0,false,Nat.zero_le _,rfl,rfl,rfl,rfl⟩
      case round =>
       obtain ⟨q,bb,hq,rfl,rfl,HQ,rfl⟩:=hrel
       by_cases hlt2:q < m
       ·have hqL:q < (Q5 s yn).length:=by rw [← HM.out]; exact hlt2
        obtain ⟨e,he⟩:=V1 ((Q5 s yn)[q])
        obtain ⟨d,hd⟩:=V1 ((e == yl))
        have HNX:=Qa (show (bb || d)=anyTo (Q5 s yn) yl (q + 1) by rw [Qip hqL,← HQ.out,hd,he])
        have hin:((e:Int) == (yl:Int))=d:=by
         rw [hd]
         by_cases h:e=yl
         ·rw [h]; simp
         ·have h2:(e:Int)≠(yl:Int):=by omega
          rw [beq_eq_false_iff_ne.2 h,beq_eq_false_iff_ne.2 h2]
        obtain ⟨bk,o,rfl,hbk,hc⟩:=HNA.out.form (by rw [← HM.out]; omega) (by decide)
        have p4:=hc q (.int .i64 (e:Int)) (by unfold Qj; rw [List.getElem?_map,List.getElem?_eq_getElem hqL,he]; rfl)
        have q0:=nZ q
        have q1:(q:Int) < (m:Int):=by omega
        have q2:¬ (m:Int)≤(q:Int):=by omega
        clear hc hqL he hd hbk
        cases bb with
        | true =>
         go_wp2_with fail
         go_roundw
         case rel=>exact ⟨q + 1,true,by omega,by go_num,rfl,HNX.out,by first | rfl | trivial⟩
         case measure=>simp [intOf]; omega
        | false =>
         go_wp2_with fail
         go_roundw
         case rel=>exact ⟨q + 1,d,by omega,by go_num,rfl,HNX.out,by first | rfl | trivial⟩
         case measure=>simp [intOf]; omega
       ·obtain rfl:m=q:=by omega
        obtain rfl:bb=true:=by rw [HQ.out,HM.out]; exact Qjp HMEM.out
        go_wp2_with fail
        refine (HLAT.out w7 HE7.out).mono ?_
        rintro e w' ⟨rfl,rfl⟩
        go_wp2_with fail
        refine HLQ2.out.mono ?_
        rintro e w' ⟨rfl,rfl⟩
        go_wp2_with fail
        go_roundw
        case rel=>exact ⟨0 + 1,yl,by omega,by go_num,rfl,HNXT.out,HE7.out⟩
        case measure=>first | (simp [intOf]; done) | (simp [intOf]; omega)
     ·have hk1:((k:Int) == 0)=false:=by
       rw [beq_eq_false_iff_ne]
       omega
      go_wp2_with fail
      go_loopw [14,13] (fun a t wr=>∃ (q:Nat) (bb:Bool),q≤m∧a = .int .i64 (q:Int)∧t = .bool bb∧Hid (bb=anyTo (Q5 s yn) yl q)∧w7=wr) (fun a _ _=>m - (intOf a).toNat)
      case atStart=>exact ⟨0,false,Nat.zero_le _,rfl,rfl,rfl,rfl⟩
      case round =>
       obtain ⟨q,bb,hq,rfl,rfl,HQ,rfl⟩:=hrel
       by_cases hlt2:q < m
       ·have hqL:q < (Q5 s yn).length:=by rw [← HM.out]; exact hlt2
        obtain ⟨e,he⟩:=V1 ((Q5 s yn)[q])
        obtain ⟨d,hd⟩:=V1 ((e == yl))
        have HNX:=Qa (show (bb || d)=anyTo (Q5 s yn) yl (q + 1) by rw [Qip hqL,← HQ.out,hd,he])
        have hin:((e:Int) == (yl:Int))=d:=by
         rw [hd]
         by_cases h:e=yl
         ·rw [h]; simp
         ·have h2:(e:Int)≠(yl:Int):=by omega
          rw [beq_eq_false_iff_ne.2 h,beq_eq_false_iff_ne.2 h2]
        obtain ⟨bk,o,rfl,hbk,hc⟩:=HNA.out.form (by rw [← HM.out]; omega) (by decide)
        have p4:=hc q (.int .i64 (e:Int)) (by unfold Qj; rw [List.getElem?_map,List.getElem?_eq_getElem hqL,he]; rfl)
        have q0:=nZ q
        have q1:(q:Int) < (m:Int):=by omega
        have q2:¬ (m:Int)≤(q:Int):=by omega
        clear hc hqL he hd hbk
        cases bb with
        | true =>
         go_wp2_with fail
         go_roundw
         case rel=>exact ⟨q + 1,true,by omega,by go_num,rfl,HNX.out,by first | rfl | trivial⟩
         case measure=>simp [intOf]; omega
        | false =>
         go_wp2_with fail
         go_roundw
         case rel=>exact ⟨q + 1,d,by omega,by go_num,rfl,HNX.out,by first | rfl | trivial⟩
         case measure=>simp [intOf]; omega
       ·obtain rfl:m=q:=by omega
        obtain rfl:bb=true:=by rw [HQ.out,HM.out]; exact Qjp HMEM.out
        go_wp2_with fail
        refine (HLAT.out w7 HE7.out).mono ?_
        rintro e w' ⟨rfl,rfl⟩
        go_wp2_with fail
        refine HLQ2.out.mono ?_
        rintro e w' ⟨rfl,rfl⟩
        go_wp2_with fail
        go_roundw
        case rel=>exact ⟨k + 1,yl,by omega,by go_num,rfl,HNXT.out,HE7.out⟩
        case measure=>simp [intOf]; omega
   ·have hkn:¬ (k:Int)≤(n0:Int):=by omega
    go_wp2_with fail
    refine (HLE.out _ (HE6.out.trans' HEr.out)).mono ?_
    rintro e w9 ⟨rfl,hE9⟩
    have HE9:=Qa hE9
    clear hE9
    go_wp2_with fail
    go_ret
    exact ⟨rfl,HE9.out⟩
end Go.Proofs.YtanpljalbijfkaaGreat
