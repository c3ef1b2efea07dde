/- . -/
import Derived.Test.YtanpljalbijfkaaGreatQ18
namespace Go.Proofs.YtanpljalbijfkaaGreat
open Go.RowKit
set_option maxHeartbeats 16000000
theorem own_at {h:TyH} {n:Nat} {p:Nat→PtH} {t:Nat→Ty} {w:World} {B:Nat} {An:Option Addr} {cn:Nat} {Ap:Option Addr} {cp:Nat} (hT:TyAt w B (.mk h n p t) (tyV h An cn Ap n cp)) (An':Option Addr) (cn':Nat) (Ap':Option Addr) (cp':Nat)
  (h4:h.kind=4→An'=An) (h5:4 < h.kind∧h.kind < 9→Ap'=Ap):TyAt w B (.mk (ownH h) (ownN h n) p t) (tyV (ownH h) An' cn' Ap' (ownN h n) cp'):=by
 obtain ⟨A1,c1,A2,c2,e,hw,hp⟩:=hT;unfold tyV at e;simp only [List.cons.injEq,Value.slice.injEq,and_true,true_and] at e;obtain ⟨⟨rfl,rfl⟩,rfl,rfl⟩:=e;refine ⟨_,_,_,_,rfl,?_,fun hn=>?_⟩
 ·by_cases k4:h.kind=4
  ·rw [h4 k4,show (ownH h).names=h.names from if_pos k4]; exact hw
  ·rw [show (ownH h).names = [] from if_neg k4]; exact Reads.none_
 ·by_cases k5:4 < h.kind∧h.kind < 9
  ·rw [show ownN h n=n from if_pos k5] at hn ⊢
   rw [h5 k5]; exact hp hn
  ·rw [show ownN h n=0 from if_neg k5] at hn; omega
theorem own_sz {h:TyH} {n:Nat} {p:Nat→PtH} {t:Nat→Ty} (hs:Qr (.mk h n p t)):Qr (.mk (ownH h) (ownN h n) p t):=by
 obtain ⟨h1,h2,h3,h4⟩:=hs;refine ⟨?_,?_,?_,fun i hi=>h4 i ?_⟩
 ·by_cases k4:h.kind=4
  ·rw [show (ownH h).names=h.names from if_pos k4]; exact h1
  ·rw [show (ownH h).names = [] from if_neg k4]; exact Qd5
 ·by_cases k9:h.kind=9
  ·rw [show (ownH h).name=h.name from if_pos k9]; exact h2
  ·rw [show (ownH h).name=wd0 from if_neg k9]; exact Nat.zero_le _
 ·unfold ownN; split <;> omega
 ·unfold ownN at hi; split at hi <;> omega
set_option maxRecDepth 100000 in
theorem Qsp (a lo hi mo y:Int) (An:Option Addr) (z cn:Nat) (Ap:Option Addr) (n cp:Nat) (s:ByteArray) (R:Bool) (w:World)
  (hsame:∀ w1,Ext w w1→Calls Tryz.prog 116 #[.agg #[.int .i64 2,.int .i64 a,.int .i64 lo,.int .i64 hi,.int .i64 mo,.slice An z cn,.slice Ap n cp,.string s,.int .i64 y],.agg #[.int .i64 2,.int .i64 0,.int .i64 lo,.int .i64 hi,.int .i64 0,.slice none 0 0,.slice none 0 0,.string ⟨#[]⟩,.int .i64 0]] w1 (fun e w'=>e = .returned (.bool R)∧Ext w1 w')) :
  Calls Tryz.prog 92 #[.agg #[.int .i64 2,.int .i64 a,.int .i64 lo,.int .i64 hi,.int .i64 mo,.slice An z cn,.slice Ap n cp,.string s,.int .i64 y]] w (fun e w'=>e = .returned (.bool R)∧Ext w w'):=by
 have HS:=hide hsame;obtain ⟨w0,hw0⟩:=V1 (w.alloc (.cells #[.int .i64 2,.int .i64 a,.int .i64 lo,.int .i64 hi,.int .i64 mo,.slice An z cn,.slice Ap n cp,.string s,.int .i64 y] 29));have hT0:=bN hw0;obtain ⟨wa,hwa⟩:=V1 (w0.alloc (.cells #[.int .i64 2,.int .i64 0,.int .i64 0,.int .i64 0,.int .i64 0,.slice none 0 0,.slice none 0 0,.string ⟨#[]⟩,.int .i64 0] 29));have hT:Blk wa w.heap.size 29 #[.int .i64 2,.int .i64 a,.int .i64 lo,.int .i64 hi,.int .i64 mo,.slice An z cn,.slice Ap n cp,.string s,.int .i64 y]:=by rw [hwa]; exact hT0.alloc _
 have hU:=bN hwa;have hE:Ext w wa:=by rw [hwa,hw0]; exact ((Ext.rfl' w).alloc nL _).alloc (by simp only [World.size_alloc]; omega) _
 have hlo:w.heap.size≤w0.heap.size:=by rw [hw0]; simp only [World.size_alloc]; omega
 have hne:w.heap.size≠w0.heap.size:=by rw [hw0]; simp only [World.size_alloc]; omega
 obtain ⟨gu,hgu,gt,hgt⟩:=V2 (w0.heap.size) (w.heap.size);rw [← hgt] at hT0;have i0:=X1 hT0;rw [← hgu] at hU hlo hne;rw [← hgt] at hT hne;obtain ⟨t0,t1,t2,t3,t4,t5,t6,t7,t8⟩:=X9 hT;obtain ⟨u0,u1,u2,u3,u4,u5,u6,u7,u8⟩:=X9 hU;have g0:=hU.free 0;obtain ⟨HT,HU,HE,HLO,HNE,HW0,HWA,HGU⟩:=Z8 hT hU hE hlo hne hw0 hwa hgu;have HGT:=hide hgt;clear hsame hw0 hwa hT0 hT hU hE hlo hne hgu hgt;go_enter Tryz.func92,Tryz.ntmps92
 go_upto_region 1 with fail
 rw [← HW0.out,← HGT.out];go_upto_region 2 with fail
 rw [← HWA.out,← HGU.out];clear i0;clear g0;have g2:=HU.out.free 2;go_upto_region 4 with fail
 have hT:Blk (wa.setCell ⟨gu,2,none⟩ (.int .i64 lo)) gt 29 #[.int .i64 2,.int .i64 a,.int .i64 lo,.int .i64 hi,.int .i64 mo,.slice An z cn,.slice Ap n cp,.string s,.int .i64 y]:=(HT.out.far (p:=⟨gu,2,none⟩) HNE.out _);have hU:Blk (wa.setCell ⟨gu,2,none⟩ (.int .i64 lo)) gu 29 #[.int .i64 2,.int .i64 0,.int .i64 lo,.int .i64 0,.int .i64 0,.slice none 0 0,.slice none 0 0,.string ⟨#[]⟩,.int .i64 0]:=(HU.out.set_ 2 _);have hE:Ext w (wa.setCell ⟨gu,2,none⟩ (.int .i64 lo)):=(HE.out.setCell HLO.out _);obtain ⟨w1,hw1⟩:=V1 ((wa.setCell ⟨gu,2,none⟩ (.int .i64 lo)));rw [← hw1] at hT hU hE ⊢;obtain ⟨t0,t1,t2,t3,t4,t5,t6,t7,t8⟩:=X9 hT;obtain ⟨u0,u1,u2,u3,u4,u5,u6,u7,u8⟩:=X9 hU;obtain ⟨HT,HU,HE⟩:=Z3 hT hU hE;clear hT hU hE hw1;have g3:=HU.out.free 3;go_upto_region 5 with fail
 have hT:Blk (w1.setCell ⟨gu,3,none⟩ (.int .i64 hi)) gt 29 #[.int .i64 2,.int .i64 a,.int .i64 lo,.int .i64 hi,.int .i64 mo,.slice An z cn,.slice Ap n cp,.string s,.int .i64 y]:=(HT.out.far (p:=⟨gu,3,none⟩) HNE.out _);have hU:Blk (w1.setCell ⟨gu,3,none⟩ (.int .i64 hi)) gu 29 #[.int .i64 2,.int .i64 0,.int .i64 lo,.int .i64 hi,.int .i64 0,.slice none 0 0,.slice none 0 0,.string ⟨#[]⟩,.int .i64 0]:=(HU.out.set_ 3 _);have hE:Ext w (w1.setCell ⟨gu,3,none⟩ (.int .i64 hi)):=(HE.out.setCell HLO.out _);obtain ⟨w2,hw2⟩:=V1 ((w1.setCell ⟨gu,3,none⟩ (.int .i64 hi)));rw [← hw2] at hT hU hE ⊢;obtain ⟨t0,t1,t2,t3,t4,t5,t6,t7,t8⟩:=X9 hT;obtain ⟨u0,u1,u2,u3,u4,u5,u6,u7,u8⟩:=X9 hU;obtain ⟨HT,HU,HE⟩:=Z3 hT hU hE;clear hT hU hE hw2;go_wp2_with fail
 refine (HS.out _ HE.out).mono ?_;rintro e w9 ⟨rfl,hE9⟩;have HE9:=hide (HE.out.trans' hE9);clear hE9;go_wp2_with fail
 go_ret
 exact ⟨rfl,HE9.out⟩
set_option maxRecDepth 100000 in
theorem Qsq (a lo hi mo y:Int) (An:Option Addr) (z cn:Nat) (Ap:Option Addr) (n cp:Nat) (s:ByteArray) (R:Bool) (w:World)
  (hsame:∀ w1,Ext w w1→Calls Tryz.prog 116 #[.agg #[.int .i64 3,.int .i64 a,.int .i64 lo,.int .i64 hi,.int .i64 mo,.slice An z cn,.slice Ap n cp,.string s,.int .i64 y],.agg #[.int .i64 3,.int .i64 0,.int .i64 0,.int .i64 0,.int .i64 mo,.slice none 0 0,.slice none 0 0,.string ⟨#[]⟩,.int .i64 0]] w1 (fun e w'=>e = .returned (.bool R)∧Ext w1 w')) :
  Calls Tryz.prog 92 #[.agg #[.int .i64 3,.int .i64 a,.int .i64 lo,.int .i64 hi,.int .i64 mo,.slice An z cn,.slice Ap n cp,.string s,.int .i64 y]] w (fun e w'=>e = .returned (.bool R)∧Ext w w'):=by
 have HS:=hide hsame;obtain ⟨w0,hw0⟩:=V1 (w.alloc (.cells #[.int .i64 3,.int .i64 a,.int .i64 lo,.int .i64 hi,.int .i64 mo,.slice An z cn,.slice Ap n cp,.string s,.int .i64 y] 29));have hT0:=bN hw0;obtain ⟨wa,hwa⟩:=V1 (w0.alloc (.cells #[.int .i64 3,.int .i64 0,.int .i64 0,.int .i64 0,.int .i64 0,.slice none 0 0,.slice none 0 0,.string ⟨#[]⟩,.int .i64 0] 29));have hT:Blk wa w.heap.size 29 #[.int .i64 3,.int .i64 a,.int .i64 lo,.int .i64 hi,.int .i64 mo,.slice An z cn,.slice Ap n cp,.string s,.int .i64 y]:=by rw [hwa]; exact hT0.alloc _
 have hU:=bN hwa;have hE:Ext w wa:=by rw [hwa,hw0]; exact ((Ext.rfl' w).alloc nL _).alloc (by simp only [World.size_alloc]; omega) _
 have hlo:w.heap.size≤w0.heap.size:=by rw [hw0]; simp only [World.size_alloc]; omega
 have hne:w.heap.size≠w0.heap.size:=by rw [hw0]; simp only [World.size_alloc]; omega
 obtain ⟨gu,hgu,gt,hgt⟩:=V2 (w0.heap.size) (w.heap.size);rw [← hgt] at hT0;have i0:=X1 hT0;rw [← hgu] at hU hlo hne;rw [← hgt] at hT hne;obtain ⟨t0,t1,t2,t3,t4,t5,t6,t7,t8⟩:=X9 hT;obtain ⟨u0,u1,u2,u3,u4,u5,u6,u7,u8⟩:=X9 hU;have g0:=hU.free 0;obtain ⟨HT,HU,HE,HLO,HNE,HW0,HWA,HGU⟩:=Z8 hT hU hE hlo hne hw0 hwa hgu;have HGT:=hide hgt;clear hsame hw0 hwa hT0 hT hU hE hlo hne hgu hgt;go_enter Tryz.func92,Tryz.ntmps92
 go_upto_region 1 with fail
 rw [← HW0.out,← HGT.out];go_upto_region 2 with fail
 rw [← HWA.out,← HGU.out];clear i0;clear g0;have g4:=HU.out.free 4;go_upto_region 7 with fail
 have hT:Blk (wa.setCell ⟨gu,4,none⟩ (.int .i64 mo)) gt 29 #[.int .i64 3,.int .i64 a,.int .i64 lo,.int .i64 hi,.int .i64 mo,.slice An z cn,.slice Ap n cp,.string s,.int .i64 y]:=(HT.out.far (p:=⟨gu,4,none⟩) HNE.out _);have hU:Blk (wa.setCell ⟨gu,4,none⟩ (.int .i64 mo)) gu 29 #[.int .i64 3,.int .i64 0,.int .i64 0,.int .i64 0,.int .i64 mo,.slice none 0 0,.slice none 0 0,.string ⟨#[]⟩,.int .i64 0]:=(HU.out.set_ 4 _);have hE:Ext w (wa.setCell ⟨gu,4,none⟩ (.int .i64 mo)):=(HE.out.setCell HLO.out _);obtain ⟨w1,hw1⟩:=V1 ((wa.setCell ⟨gu,4,none⟩ (.int .i64 mo)));rw [← hw1] at hT hU hE ⊢;obtain ⟨t0,t1,t2,t3,t4,t5,t6,t7,t8⟩:=X9 hT;obtain ⟨u0,u1,u2,u3,u4,u5,u6,u7,u8⟩:=X9 hU;obtain ⟨HT,HU,HE⟩:=Z3 hT hU hE;clear hT hU hE hw1;go_wp2_with fail
 refine (HS.out _ HE.out).mono ?_;rintro e w9 ⟨rfl,hE9⟩;have HE9:=hide (HE.out.trans' hE9);clear hE9;go_wp2_with fail
 go_ret
 exact ⟨rfl,HE9.out⟩
set_option maxRecDepth 100000 in
theorem Qsr (a lo hi mo y:Int) (An:Option Addr) (z cn:Nat) (Ap:Option Addr) (n cp:Nat) (s:ByteArray) (R:Bool) (w:World)
  (hsame:∀ w1,Ext w w1→Calls Tryz.prog 116 #[.agg #[.int .i64 4,.int .i64 a,.int .i64 lo,.int .i64 hi,.int .i64 mo,.slice An z cn,.slice Ap n cp,.string s,.int .i64 y],.agg #[.int .i64 4,.int .i64 0,.int .i64 0,.int .i64 0,.int .i64 0,.slice An z cn,.slice none 0 0,.string ⟨#[]⟩,.int .i64 0]] w1 (fun e w'=>e = .returned (.bool R)∧Ext w1 w')) :
  Calls Tryz.prog 92 #[.agg #[.int .i64 4,.int .i64 a,.int .i64 lo,.int .i64 hi,.int .i64 mo,.slice An z cn,.slice Ap n cp,.string s,.int .i64 y]] w (fun e w'=>e = .returned (.bool R)∧Ext w w'):=by
 have HS:=hide hsame;obtain ⟨w0,hw0⟩:=V1 (w.alloc (.cells #[.int .i64 4,.int .i64 a,.int .i64 lo,.int .i64 hi,.int .i64 mo,.slice An z cn,.slice Ap n cp,.string s,.int .i64 y] 29));have hT0:=bN hw0;obtain ⟨wa,hwa⟩:=V1 (w0.alloc (.cells #[.int .i64 4,.int .i64 0,.int .i64 0,.int .i64 0,.int .i64 0,.slice none 0 0,.slice none 0 0,.string ⟨#[]⟩,.int .i64 0] 29));have hT:Blk wa w.heap.size 29 #[.int .i64 4,.int .i64 a,.int .i64 lo,.int .i64 hi,.int .i64 mo,.slice An z cn,.slice Ap n cp,.string s,.int .i64 y]:=by rw [hwa]; exact hT0.alloc _
 have hU:=bN hwa;have hE:Ext w wa:=by rw [hwa,hw0]; exact ((Ext.rfl' w).alloc nL _).alloc (by simp only [World.size_alloc]; omega) _
 have hlo:w.heap.size≤w0.heap.size:=by rw [hw0]; simp only [World.size_alloc]; omega
 have hne:w.heap.size≠w0.heap.size:=by rw [hw0]; simp only [World.size_alloc]; omega
 obtain ⟨gu,hgu,gt,hgt⟩:=V2 (w0.heap.size) (w.heap.size);rw [← hgt] at hT0;have i0:=X1 hT0;rw [← hgu] at hU hlo hne;rw [← hgt] at hT hne;obtain ⟨t0,t1,t2,t3,t4,t5,t6,t7,t8⟩:=X9 hT;obtain ⟨u0,u1,u2,u3,u4,u5,u6,u7,u8⟩:=X9 hU;have g0:=hU.free 0;obtain ⟨HT,HU,HE,HLO,HNE,HW0,HWA,HGU⟩:=Z8 hT hU hE hlo hne hw0 hwa hgu;have HGT:=hide hgt;clear hsame hw0 hwa hT0 hT hU hE hlo hne hgu hgt;go_enter Tryz.func92,Tryz.ntmps92
 go_upto_region 1 with fail
 rw [← HW0.out,← HGT.out];go_upto_region 2 with fail
 rw [← HWA.out,← HGU.out];clear i0;clear g0;have g5:=HU.out.free 5;go_upto_region 9 with fail
 have hT:Blk (wa.setCell ⟨gu,5,none⟩ (.slice An z cn)) gt 29 #[.int .i64 4,.int .i64 a,.int .i64 lo,.int .i64 hi,.int .i64 mo,.slice An z cn,.slice Ap n cp,.string s,.int .i64 y]:=(HT.out.far (p:=⟨gu,5,none⟩) HNE.out _);have hU:Blk (wa.setCell ⟨gu,5,none⟩ (.slice An z cn)) gu 29 #[.int .i64 4,.int .i64 0,.int .i64 0,.int .i64 0,.int .i64 0,.slice An z cn,.slice none 0 0,.string ⟨#[]⟩,.int .i64 0]:=(HU.out.set_ 5 _);have hE:Ext w (wa.setCell ⟨gu,5,none⟩ (.slice An z cn)):=(HE.out.setCell HLO.out _);obtain ⟨w1,hw1⟩:=V1 ((wa.setCell ⟨gu,5,none⟩ (.slice An z cn)));rw [← hw1] at hT hU hE ⊢;obtain ⟨t0,t1,t2,t3,t4,t5,t6,t7,t8⟩:=X9 hT;obtain ⟨u0,u1,u2,u3,u4,u5,u6,u7,u8⟩:=X9 hU;obtain ⟨HT,HU,HE⟩:=Z3 hT hU hE;clear hT hU hE hw1;go_wp2_with fail
 refine (HS.out _ HE.out).mono ?_;rintro e w9 ⟨rfl,hE9⟩;have HE9:=hide (HE.out.trans' hE9);clear hE9;go_wp2_with fail
 go_ret
 exact ⟨rfl,HE9.out⟩
set_option maxRecDepth 100000 in
theorem Qss (a lo hi mo y:Int) (An:Option Addr) (z cn:Nat) (Ap:Option Addr) (n cp:Nat) (s:ByteArray) (R:Bool) (w:World)
  (hsame:∀ w1,Ext w w1→Calls Tryz.prog 116 #[.agg #[.int .i64 5,.int .i64 a,.int .i64 lo,.int .i64 hi,.int .i64 mo,.slice An z cn,.slice Ap n cp,.string s,.int .i64 y],.agg #[.int .i64 5,.int .i64 0,.int .i64 0,.int .i64 0,.int .i64 mo,.slice none 0 0,.slice Ap n cp,.string ⟨#[]⟩,.int .i64 0]] w1 (fun e w'=>e = .returned (.bool R)∧Ext w1 w')) :
  Calls Tryz.prog 92 #[.agg #[.int .i64 5,.int .i64 a,.int .i64 lo,.int .i64 hi,.int .i64 mo,.slice An z cn,.slice Ap n cp,.string s,.int .i64 y]] w (fun e w'=>e = .returned (.bool R)∧Ext w w'):=by
 have HS:=hide hsame;obtain ⟨w0,hw0⟩:=V1 (w.alloc (.cells #[.int .i64 5,.int .i64 a,.int .i64 lo,.int .i64 hi,.int .i64 mo,.slice An z cn,.slice Ap n cp,.string s,.int .i64 y] 29));have hT0:=bN hw0;obtain ⟨wa,hwa⟩:=V1 (w0.alloc (.cells #[.int .i64 5,.int .i64 0,.int .i64 0,.int .i64 0,.int .i64 0,.slice none 0 0,.slice none 0 0,.string ⟨#[]⟩,.int .i64 0] 29));have hT:Blk wa w.heap.size 29 #[.int .i64 5,.int .i64 a,.int .i64 lo,.int .i64 hi,.int .i64 mo,.slice An z cn,.slice Ap n cp,.string s,.int .i64 y]:=by rw [hwa]; exact hT0.alloc _
 have hU:=bN hwa;have hE:Ext w wa:=by rw [hwa,hw0]; exact ((Ext.rfl' w).alloc nL _).alloc (by simp only [World.size_alloc]; omega) _
 have hlo:w.heap.size≤w0.heap.size:=by rw [hw0]; simp only [World.size_alloc]; omega
 have hne:w.heap.size≠w0.heap.size:=by rw [hw0]; simp only [World.size_alloc]; omega
 obtain ⟨gu,hgu,gt,hgt⟩:=V2 (w0.heap.size) (w.heap.size);rw [← hgt] at hT0;have i0:=X1 hT0;rw [← hgu] at hU hlo hne;rw [← hgt] at hT hne;obtain ⟨t0,t1,t2,t3,t4,t5,t6,t7,t8⟩:=X9 hT;obtain ⟨u0,u1,u2,u3,u4,u5,u6,u7,u8⟩:=X9 hU;have g0:=hU.free 0;obtain ⟨HT,HU,HE,HLO,HNE,HW0,HWA,HGU⟩:=Z8 hT hU hE hlo hne hw0 hwa hgu;have HGT:=hide hgt;clear hsame hw0 hwa hT0 hT hU hE hlo hne hgu hgt;go_enter Tryz.func92,Tryz.ntmps92
 go_upto_region 1 with fail
 rw [← HW0.out,← HGT.out];go_upto_region 2 with fail
 rw [← HWA.out,← HGU.out];clear i0;clear g0;have g4:=HU.out.free 4;go_upto_region 7 with fail
 have hT:Blk (wa.setCell ⟨gu,4,none⟩ (.int .i64 mo)) gt 29 #[.int .i64 5,.int .i64 a,.int .i64 lo,.int .i64 hi,.int .i64 mo,.slice An z cn,.slice Ap n cp,.string s,.int .i64 y]:=(HT.out.far (p:=⟨gu,4,none⟩) HNE.out _);have hU:Blk (wa.setCell ⟨gu,4,none⟩ (.int .i64 mo)) gu 29 #[.int .i64 5,.int .i64 0,.int .i64 0,.int .i64 0,.int .i64 mo,.slice none 0 0,.slice none 0 0,.string ⟨#[]⟩,.int .i64 0]:=(HU.out.set_ 4 _);have hE:Ext w (wa.setCell ⟨gu,4,none⟩ (.int .i64 mo)):=(HE.out.setCell HLO.out _);obtain ⟨w1,hw1⟩:=V1 ((wa.setCell ⟨gu,4,none⟩ (.int .i64 mo)));rw [← hw1] at hT hU hE ⊢;obtain ⟨t0,t1,t2,t3,t4,t5,t6,t7,t8⟩:=X9 hT;obtain ⟨u0,u1,u2,u3,u4,u5,u6,u7,u8⟩:=X9 hU;obtain ⟨HT,HU,HE⟩:=Z3 hT hU hE;clear hT hU hE hw1;have g6:=HU.out.free 6;go_upto_region 11 with fail
 have hT:Blk (w1.setCell ⟨gu,6,none⟩ (.slice Ap n cp)) gt 29 #[.int .i64 5,.int .i64 a,.int .i64 lo,.int .i64 hi,.int .i64 mo,.slice An z cn,.slice Ap n cp,.string s,.int .i64 y]:=(HT.out.far (p:=⟨gu,6,none⟩) HNE.out _);have hU:Blk (w1.setCell ⟨gu,6,none⟩ (.slice Ap n cp)) gu 29 #[.int .i64 5,.int .i64 0,.int .i64 0,.int .i64 0,.int .i64 mo,.slice none 0 0,.slice Ap n cp,.string ⟨#[]⟩,.int .i64 0]:=(HU.out.set_ 6 _);have hE:Ext w (w1.setCell ⟨gu,6,none⟩ (.slice Ap n cp)):=(HE.out.setCell HLO.out _);obtain ⟨w2,hw2⟩:=V1 ((w1.setCell ⟨gu,6,none⟩ (.slice Ap n cp)));rw [← hw2] at hT hU hE ⊢;obtain ⟨t0,t1,t2,t3,t4,t5,t6,t7,t8⟩:=X9 hT;obtain ⟨u0,u1,u2,u3,u4,u5,u6,u7,u8⟩:=X9 hU;obtain ⟨HT,HU,HE⟩:=Z3 hT hU hE;clear hT hU hE hw2;go_wp2_with fail
 refine (HS.out _ HE.out).mono ?_;rintro e w9 ⟨rfl,hE9⟩;have HE9:=hide (HE.out.trans' hE9);clear hE9;go_wp2_with fail
 go_ret
 exact ⟨rfl,HE9.out⟩
set_option maxRecDepth 100000 in
theorem Qst (k a lo hi mo y:Int) (An:Option Addr) (z cn:Nat) (Ap:Option Addr) (n cp:Nat) (s:ByteArray) (k2:(k == 2)=false) (k3:(k == 3)=false) (k4:(k == 4)=false) (k5:(k == 5)=false) (k6:4 < k) (k7:k < 9) (k9:(k == 9)=false) (R:Bool) (w:World)
  (hsame:∀ w1,Ext w w1→Calls Tryz.prog 116 #[.agg #[.int .i64 k,.int .i64 a,.int .i64 lo,.int .i64 hi,.int .i64 mo,.slice An z cn,.slice Ap n cp,.string s,.int .i64 y],.agg #[.int .i64 k,.int .i64 0,.int .i64 0,.int .i64 0,.int .i64 0,.slice none 0 0,.slice Ap n cp,.string ⟨#[]⟩,.int .i64 0]] w1 (fun e w'=>e = .returned (.bool R)∧Ext w1 w')) :
  Calls Tryz.prog 92 #[.agg #[.int .i64 k,.int .i64 a,.int .i64 lo,.int .i64 hi,.int .i64 mo,.slice An z cn,.slice Ap n cp,.string s,.int .i64 y]] w (fun e w'=>e = .returned (.bool R)∧Ext w w'):=by
 have HS:=hide hsame;obtain ⟨w0,hw0⟩:=V1 (w.alloc (.cells #[.int .i64 k,.int .i64 a,.int .i64 lo,.int .i64 hi,.int .i64 mo,.slice An z cn,.slice Ap n cp,.string s,.int .i64 y] 29));have hT0:=bN hw0;obtain ⟨wa,hwa⟩:=V1 (w0.alloc (.cells #[.int .i64 k,.int .i64 0,.int .i64 0,.int .i64 0,.int .i64 0,.slice none 0 0,.slice none 0 0,.string ⟨#[]⟩,.int .i64 0] 29));have hT:Blk wa w.heap.size 29 #[.int .i64 k,.int .i64 a,.int .i64 lo,.int .i64 hi,.int .i64 mo,.slice An z cn,.slice Ap n cp,.string s,.int .i64 y]:=by rw [hwa]; exact hT0.alloc _
 have hU:=bN hwa;have hE:Ext w wa:=by rw [hwa,hw0]; exact ((Ext.rfl' w).alloc nL _).alloc (by simp only [World.size_alloc]; omega) _
 have hlo:w.heap.size≤w0.heap.size:=by rw [hw0]; simp only [World.size_alloc]; omega
 have hne:w.heap.size≠w0.heap.size:=by rw [hw0]; simp only [World.size_alloc]; omega
 obtain ⟨gu,hgu,gt,hgt⟩:=V2 (w0.heap.size) (w.heap.size);rw [← hgt] at hT0;have i0:=X1 hT0;rw [← hgu] at hU hlo hne;rw [← hgt] at hT hne;obtain ⟨t0,t1,t2,t3,t4,t5,t6,t7,t8⟩:=X9 hT;obtain ⟨u0,u1,u2,u3,u4,u5,u6,u7,u8⟩:=X9 hU;have g0:=hU.free 0;obtain ⟨HT,HU,HE,HLO,HNE,HW0,HWA,HGU⟩:=Z8 hT hU hE hlo hne hw0 hwa hgu;have HGT:=hide hgt;clear hsame hw0 hwa hT0 hT hU hE hlo hne hgu hgt;go_enter Tryz.func92,Tryz.ntmps92
 go_upto_region 1 with fail
 rw [← HW0.out,← HGT.out];go_upto_region 2 with fail
 rw [← HWA.out,← HGU.out];clear i0;clear g0;have g6:=HU.out.free 6;go_upto_region 11 with fail
 have hT:Blk (wa.setCell ⟨gu,6,none⟩ (.slice Ap n cp)) gt 29 #[.int .i64 k,.int .i64 a,.int .i64 lo,.int .i64 hi,.int .i64 mo,.slice An z cn,.slice Ap n cp,.string s,.int .i64 y]:=(HT.out.far (p:=⟨gu,6,none⟩) HNE.out _);have hU:Blk (wa.setCell ⟨gu,6,none⟩ (.slice Ap n cp)) gu 29 #[.int .i64 k,.int .i64 0,.int .i64 0,.int .i64 0,.int .i64 0,.slice none 0 0,.slice Ap n cp,.string ⟨#[]⟩,.int .i64 0]:=(HU.out.set_ 6 _);have hE:Ext w (wa.setCell ⟨gu,6,none⟩ (.slice Ap n cp)):=(HE.out.setCell HLO.out _);obtain ⟨w1,hw1⟩:=V1 ((wa.setCell ⟨gu,6,none⟩ (.slice Ap n cp)));rw [← hw1] at hT hU hE ⊢;obtain ⟨t0,t1,t2,t3,t4,t5,t6,t7,t8⟩:=X9 hT;obtain ⟨u0,u1,u2,u3,u4,u5,u6,u7,u8⟩:=X9 hU;obtain ⟨HT,HU,HE⟩:=Z3 hT hU hE;clear hT hU hE hw1;go_wp2_with fail
 refine (HS.out _ HE.out).mono ?_;rintro e w9 ⟨rfl,hE9⟩;have HE9:=hide (HE.out.trans' hE9);clear hE9;go_wp2_with fail
 go_ret
 exact ⟨rfl,HE9.out⟩
set_option maxRecDepth 100000 in
theorem Qsu (a lo hi mo y:Int) (An:Option Addr) (z cn:Nat) (Ap:Option Addr) (n cp:Nat) (s:ByteArray) (R:Bool) (w:World)
  (hsame:∀ w1,Ext w w1→Calls Tryz.prog 116 #[.agg #[.int .i64 9,.int .i64 a,.int .i64 lo,.int .i64 hi,.int .i64 mo,.slice An z cn,.slice Ap n cp,.string s,.int .i64 y],.agg #[.int .i64 9,.int .i64 0,.int .i64 0,.int .i64 0,.int .i64 0,.slice none 0 0,.slice none 0 0,.string s,.int .i64 y]] w1 (fun e w'=>e = .returned (.bool R)∧Ext w1 w')) :
  Calls Tryz.prog 92 #[.agg #[.int .i64 9,.int .i64 a,.int .i64 lo,.int .i64 hi,.int .i64 mo,.slice An z cn,.slice Ap n cp,.string s,.int .i64 y]] w (fun e w'=>e = .returned (.bool R)∧Ext w w'):=by
 have HS:=hide hsame;obtain ⟨w0,hw0⟩:=V1 (w.alloc (.cells #[.int .i64 9,.int .i64 a,.int .i64 lo,.int .i64 hi,.int .i64 mo,.slice An z cn,.slice Ap n cp,.string s,.int .i64 y] 29));have hT0:=bN hw0;obtain ⟨wa,hwa⟩:=V1 (w0.alloc (.cells #[.int .i64 9,.int .i64 0,.int .i64 0,.int .i64 0,.int .i64 0,.slice none 0 0,.slice none 0 0,.string ⟨#[]⟩,.int .i64 0] 29));have hT:Blk wa w.heap.size 29 #[.int .i64 9,.int .i64 a,.int .i64 lo,.int .i64 hi,.int .i64 mo,.slice An z cn,.slice Ap n cp,.string s,.int .i64 y]:=by rw [hwa]; exact hT0.alloc _
 have hU:=bN hwa;have hE:Ext w wa:=by rw [hwa,hw0]; exact ((Ext.rfl' w).alloc nL _).alloc (by simp only [World.size_alloc]; omega) _
 have hlo:w.heap.size≤w0.heap.size:=by rw [hw0]; simp only [World.size_alloc]; omega
 have hne:w.heap.size≠w0.heap.size:=by rw [hw0]; simp only [World.size_alloc]; omega
 obtain ⟨gu,hgu,gt,hgt⟩:=V2 (w0.heap.size) (w.heap.size);rw [← hgt] at hT0;have i0:=X1 hT0;rw [← hgu] at hU hlo hne;rw [← hgt] at hT hne;obtain ⟨t0,t1,t2,t3,t4,t5,t6,t7,t8⟩:=X9 hT;obtain ⟨u0,u1,u2,u3,u4,u5,u6,u7,u8⟩:=X9 hU;have g0:=hU.free 0;obtain ⟨HT,HU,HE,HLO,HNE,HW0,HWA,HGU⟩:=Z8 hT hU hE hlo hne hw0 hwa hgu;have HGT:=hide hgt;clear hsame hw0 hwa hT0 hT hU hE hlo hne hgu hgt;go_enter Tryz.func92,Tryz.ntmps92
 go_upto_region 1 with fail
 rw [← HW0.out,← HGT.out];go_upto_region 2 with fail
 rw [← HWA.out,← HGU.out];clear i0;clear g0;have g7:=HU.out.free 7;have g8:=HU.out.free 8;go_upto_region 13 with fail
 have hT:Blk ((wa.setCell ⟨gu,7,none⟩ (.string s)).setCell ⟨gu,8,none⟩ (.int .i64 y)) gt 29 #[.int .i64 9,.int .i64 a,.int .i64 lo,.int .i64 hi,.int .i64 mo,.slice An z cn,.slice Ap n cp,.string s,.int .i64 y]:=((HT.out.far (p:=⟨gu,7,none⟩) HNE.out _).far (p:=⟨gu,8,none⟩) HNE.out _);have hU:Blk ((wa.setCell ⟨gu,7,none⟩ (.string s)).setCell ⟨gu,8,none⟩ (.int .i64 y)) gu 29 #[.int .i64 9,.int .i64 0,.int .i64 0,.int .i64 0,.int .i64 0,.slice none 0 0,.slice none 0 0,.string s,.int .i64 y]:=((HU.out.set_ 7 _).set_ 8 _);have hE:Ext w ((wa.setCell ⟨gu,7,none⟩ (.string s)).setCell ⟨gu,8,none⟩ (.int .i64 y)):=((HE.out.setCell HLO.out _).setCell HLO.out _);obtain ⟨w1,hw1⟩:=V1 (((wa.setCell ⟨gu,7,none⟩ (.string s)).setCell ⟨gu,8,none⟩ (.int .i64 y)));rw [← hw1] at hT hU hE ⊢;obtain ⟨t0,t1,t2,t3,t4,t5,t6,t7,t8⟩:=X9 hT;obtain ⟨u0,u1,u2,u3,u4,u5,u6,u7,u8⟩:=X9 hU;obtain ⟨HT,HU,HE⟩:=Z3 hT hU hE;clear hT hU hE hw1;go_wp2_with fail
 refine (HS.out _ HE.out).mono ?_;rintro e w9 ⟨rfl,hE9⟩;have HE9:=hide (HE.out.trans' hE9);clear hE9;go_wp2_with fail
 go_ret
 exact ⟨rfl,HE9.out⟩
set_option maxRecDepth 100000 in
theorem Qsv (k a lo hi mo y:Int) (An:Option Addr) (z cn:Nat) (Ap:Option Addr) (n cp:Nat) (s:ByteArray) (k2:(k == 2)=false) (k3:(k == 3)=false) (k4:(k == 4)=false) (k5:(k == 5)=false) (k6:¬ 4 < k) (k9:(k == 9)=false) (R:Bool) (w:World)
  (hsame:∀ w1,Ext w w1→Calls Tryz.prog 116 #[.agg #[.int .i64 k,.int .i64 a,.int .i64 lo,.int .i64 hi,.int .i64 mo,.slice An z cn,.slice Ap n cp,.string s,.int .i64 y],.agg #[.int .i64 k,.int .i64 0,.int .i64 0,.int .i64 0,.int .i64 0,.slice none 0 0,.slice none 0 0,.string ⟨#[]⟩,.int .i64 0]] w1 (fun e w'=>e = .returned (.bool R)∧Ext w1 w')) :
  Calls Tryz.prog 92 #[.agg #[.int .i64 k,.int .i64 a,.int .i64 lo,.int .i64 hi,.int .i64 mo,.slice An z cn,.slice Ap n cp,.string s,.int .i64 y]] w (fun e w'=>e = .returned (.bool R)∧Ext w w'):=by
 have HS:=hide hsame;obtain ⟨w0,hw0⟩:=V1 (w.alloc (.cells #[.int .i64 k,.int .i64 a,.int .i64 lo,.int .i64 hi,.int .i64 mo,.slice An z cn,.slice Ap n cp,.string s,.int .i64 y] 29));have hT0:=bN hw0;obtain ⟨wa,hwa⟩:=V1 (w0.alloc (.cells #[.int .i64 k,.int .i64 0,.int .i64 0,.int .i64 0,.int .i64 0,.slice none 0 0,.slice none 0 0,.string ⟨#[]⟩,.int .i64 0] 29));have hT:Blk wa w.heap.size 29 #[.int .i64 k,.int .i64 a,.int .i64 lo,.int .i64 hi,.int .i64 mo,.slice An z cn,.slice Ap n cp,.string s,.int .i64 y]:=by rw [hwa]; exact hT0.alloc _
 have hU:=bN hwa;have hE:Ext w wa:=by rw [hwa,hw0]; exact ((Ext.rfl' w).alloc nL _).alloc (by simp only [World.size_alloc]; omega) _
 have hlo:w.heap.size≤w0.heap.size:=by rw [hw0]; simp only [World.size_alloc]; omega
 have hne:w.heap.size≠w0.heap.size:=by rw [hw0]; simp only [World.size_alloc]; omega
 obtain ⟨gu,hgu,gt,hgt⟩:=V2 (w0.heap.size) (w.heap.size);rw [← hgt] at hT0;have i0:=X1 hT0;rw [← hgu] at hU hlo hne;rw [← hgt] at hT hne;obtain ⟨t0,t1,t2,t3,t4,t5,t6,t7,t8⟩:=X9 hT;obtain ⟨u0,u1,u2,u3,u4,u5,u6,u7,u8⟩:=X9 hU;have g0:=hU.free 0;obtain ⟨HT,HU,HE,HLO,HNE,HW0,HWA,HGU⟩:=Z8 hT hU hE hlo hne hw0 hwa hgu;have HGT:=hide hgt;clear hsame hw0 hwa hT0 hT hU hE hlo hne hgu hgt;go_enter Tryz.func92,Tryz.ntmps92
 go_upto_region 1 with fail
 rw [← HW0.out,← HGT.out];go_upto_region 2 with fail
 rw [← HWA.out,← HGU.out];clear i0;go_wp2_with fail
 refine (HS.out _ HE.out).mono ?_;rintro e w9 ⟨rfl,hE9⟩;have HE9:=hide (HE.out.trans' hE9);clear hE9;go_wp2_with fail
 go_ret
 exact ⟨rfl,HE9.out⟩
set_option maxRecDepth 100000 in
theorem Qsw (k a lo hi mo y:Int) (An:Option Addr) (z cn:Nat) (Ap:Option Addr) (n cp:Nat) (s:ByteArray) (k2:(k == 2)=false) (k3:(k == 3)=false) (k4:(k == 4)=false) (k5:(k == 5)=false) (k6:4 < k) (k7:¬ k < 9) (k9:(k == 9)=false) (R:Bool) (w:World)
  (hsame:∀ w1,Ext w w1→Calls Tryz.prog 116 #[.agg #[.int .i64 k,.int .i64 a,.int .i64 lo,.int .i64 hi,.int .i64 mo,.slice An z cn,.slice Ap n cp,.string s,.int .i64 y],.agg #[.int .i64 k,.int .i64 0,.int .i64 0,.int .i64 0,.int .i64 0,.slice none 0 0,.slice none 0 0,.string ⟨#[]⟩,.int .i64 0]] w1 (fun e w'=>e = .returned (.bool R)∧Ext w1 w')) :
  Calls Tryz.prog 92 #[.agg #[.int .i64 k,.int .i64 a,.int .i64 lo,.int .i64 hi,.int .i64 mo,.slice An z cn,.slice Ap n cp,.string s,.int .i64 y]] w (fun e w'=>e = .returned (.bool R)∧Ext w w'):=by
 have HS:=hide hsame;obtain ⟨w0,hw0⟩:=V1 (w.alloc (.cells #[.int .i64 k,.int .i64 a,.int .i64 lo,.int .i64 hi,.int .i64 mo,.slice An z cn,.slice Ap n cp,.string s,.int .i64 y] 29));have hT0:=bN hw0;obtain ⟨wa,hwa⟩:=V1 (w0.alloc (.cells #[.int .i64 k,.int .i64 0,.int .i64 0,.int .i64 0,.int .i64 0,.slice none 0 0,.slice none 0 0,.string ⟨#[]⟩,.int .i64 0] 29));have hT:Blk wa w.heap.size 29 #[.int .i64 k,.int .i64 a,.int .i64 lo,.int .i64 hi,.int .i64 mo,.slice An z cn,.slice Ap n cp,.string s,.int .i64 y]:=by rw [hwa]; exact hT0.alloc _
 have hU:=bN hwa;have hE:Ext w wa:=by rw [hwa,hw0]; exact ((Ext.rfl' w).alloc nL _).alloc (by simp only [World.size_alloc]; omega) _
 have hlo:w.heap.size≤w0.heap.size:=by rw [hw0]; simp only [World.size_alloc]; omega
 have hne:w.heap.size≠w0.heap.size:=by rw [hw0]; simp only [World.size_alloc]; omega
 obtain ⟨gu,hgu,gt,hgt⟩:=V2 (w0.heap.size) (w.heap.size);rw [← hgt] at hT0;have i0:=X1 hT0;rw [← hgu] at hU hlo hne;rw [← hgt] at hT hne;obtain ⟨t0,t1,t2,t3,t4,t5,t6,t7,t8⟩:=X9 hT;obtain ⟨u0,u1,u2,u3,u4,u5,u6,u7,u8⟩:=X9 hU;have g0:=hU.free 0;obtain ⟨HT,HU,HE,HLO,HNE,HW0,HWA,HGU⟩:=Z8 hT hU hE hlo hne hw0 hwa hgu;have HGT:=hide hgt;clear hsame hw0 hwa hT0 hT hU hE hlo hne hgu hgt;go_enter Tryz.func92,Tryz.ntmps92
 go_upto_region 1 with fail
 rw [← HW0.out,← HGT.out];go_upto_region 2 with fail
 rw [← HWA.out,← HGU.out];clear i0;go_wp2_with fail
 refine (HS.out _ HE.out).mono ?_;rintro e w9 ⟨rfl,hE9⟩;have HE9:=hide (HE.out.trans' hE9);clear hE9;go_wp2_with fail
 go_ret
 exact ⟨rfl,HE9.out⟩
theorem refOwn_any (h:TyH) (n:Nat) (p:Nat→PtH) (t:Nat→Ty) (w:World) (vs:List Value) (hT:TyAt w w.heap.size (.mk h n p t) vs) (hs:Qr (.mk h n p t)) :
  Calls Tryz.prog 92 #[.agg vs.toArray] w (fun e w'=>e = .returned (.bool (Qcd h n))∧Ext w w'):=by
 obtain ⟨An,cn,Ap,cp,e,_,_⟩:=id hT;subst e;have hsame:∀ (An':Option Addr) (cn':Nat) (Ap':Option Addr) (cp':Nat),(h.kind=4→An'=An)→(4 < h.kind∧h.kind < 9→Ap'=Ap)→∀ w1,Ext w w1→Calls Tryz.prog 116 #[.agg (tyV h An cn Ap n cp).toArray,.agg (tyV (ownH h) An' cn' Ap' (ownN h n) cp').toArray] w1 (fun e w'=>e = .returned (.bool (Qcd h n))∧Ext w1 w'):=by
  intro An' cn' Ap' cp' h4 h5 w1 hE;have:=refSame_any (.mk h n p t) (.mk (ownH h) (ownN h n) p t) w1 _ _ (hT.ext hE) (own_at (hT.ext hE) An' cn' Ap' cp' h4 h5) hs (own_sz hs)
  rw [Qr4] at this;exact this
 clear hT hs;generalize Qcd h n=R at hsame ⊢
 obtain ⟨k,a,lo,hi,mo,na,s,y⟩:=h;unfold tyV ownH ownN at hsame;unfold tyV;dsimp only at hsame ⊢
 by_cases k2:k=2
 ·subst k2;exact Qsp a lo hi mo y An na.length cn Ap n cp s R w (fun w1 hE=>hsame none 0 none 0 (by intro hh; omega) (by intro hh; omega) w1 hE)
 by_cases k3:k=3
 ·subst k3;exact Qsq a lo hi mo y An na.length cn Ap n cp s R w (fun w1 hE=>hsame none 0 none 0 (by intro hh; omega) (by intro hh; omega) w1 hE)
 by_cases k4:k=4
 ·subst k4;exact Qsr a lo hi mo y An na.length cn Ap n cp s R w (fun w1 hE=>hsame An cn none 0 (fun _=>rfl) (by intro hh; omega) w1 hE)
 by_cases k5:k=5
 ·subst k5;exact Qss a lo hi mo y An na.length cn Ap n cp s R w (fun w1 hE=>hsame none 0 Ap cp (by intro hh; omega) (fun _=>rfl) w1 hE)
 by_cases k9:k=9
 ·subst k9;exact Qsu a lo hi mo y An na.length cn Ap n cp s R w (fun w1 hE=>hsame none 0 none 0 (by intro hh; omega) (by intro hh; omega) w1 hE)
 have j2:(k == 2)=false:=by simpa using k2
 have j3:(k == 3)=false:=by simpa using k3
 have j4:(k == 4)=false:=by simpa using k4
 have j5:(k == 5)=false:=by simpa using k5
 have j9:(k == 9)=false:=by simpa using k9
 rw [if_neg k2,if_neg k2,if_neg (show ¬ (k=3∨k=5) by omega),if_neg k4,if_neg k9] at hsame
 by_cases c4:4 < k
 ·by_cases c9:k < 9
  ·rw [if_pos ⟨c4,c9⟩] at hsame;exact Qst k a lo hi mo y An na.length cn Ap n cp s j2 j3 j4 j5 c4 c9 j9 R w (fun w1 hE=>hsame none 0 Ap cp (fun e=>absurd e k4) (fun _=>rfl) w1 hE)
  ·rw [if_neg (fun hh=>c9 hh.2)] at hsame
   exact Qsw k a lo hi mo y An na.length cn Ap n cp s j2 j3 j4 j5 c4 c9 j9 R w (fun w1 hE=>hsame none 0 none 0 (fun e=>absurd e k4) (fun hh=>absurd hh.2 c9) w1 hE)
 ·rw [if_neg (fun hh=>c4 hh.1)] at hsame
  exact Qsv k a lo hi mo y An na.length cn Ap n cp s j2 j3 j4 j5 c4 j9 R w (fun w1 hE=>hsame none 0 none 0 (fun e=>absurd e k4) (fun hh=>absurd hh.1 c4) w1 hE)
theorem Qd6 (p q:PtH) (t u:Ty) (w:World) (vs us:List Value) (h:PartAt w w.heap.size p t vs) (h':PartAt w w.heap.size q u us) (hs:Qi p.label) (hs2:Qi p.cl) (hst:Qr t) (hsq:Qi q.label) (hsq2:Qi q.cl) (hsu:Qr u) :
  Calls Tryz.prog 175 #[.agg vs.toArray,.agg us.toArray] w (fun e w'=>e = .returned (.bool (Q3 p q && Qu t u))∧Ext w w') :=
 Qf8 p q t u w vs us h h' hs hs2 hsq hsq2 (fun w1 vt ut _ h1 h2=>Qso t u w1 vt ut h1 h2 hst hsu)
theorem kOwn_any (h:TyH) (n:Nat) (p:Nat→PtH) (t:Nat→Ty) (w:World) (vs:List Value) (hT:TyAt w w.heap.size (.mk h n p t) vs) :
  Calls Tryz.prog 128 #[.agg vs.toArray] w (fun e w'=>e = .returned (.bool (Qcd h n))∧Ext w w'):=by
 obtain ⟨An,cn,Ap,cp,e,_,_⟩:=hT;subst e;unfold Qcd tyV;by_cases k2:h.kind=2
 ·rw [k2]; exact Qu4 _ _ _ _ _ An _ cn Ap n cp _ w
 by_cases k3:h.kind=3
 ·rw [k3]; exact Qu5 _ _ _ _ _ An _ cn Ap n cp _ w
 by_cases k5:h.kind=5
 ·rw [k5]; exact Qu6 _ _ _ _ _ An _ cn Ap n cp _ w
 exact Qu7 _ _ _ _ _ _ An _ cn Ap n cp _ (by simpa using k2) (by simpa using k3) (by simpa using k5) w
theorem Qbo {w:World} {g:Nat} {t:TypeId} {cs:Array Value} (h:Blk w g t cs) {o m:Nat} (ho:o + m≤cs.size):w.there g o m:=fun j hj=>by
 refine ⟨?_,h.free _⟩;rw [h.cell,Array.getElem?_eq_getElem (by omega)]; rfl
theorem Qlk {w:World} {g:Nat} (hg:w.heap.size≤g) (vs:List Value):∀ (o:Nat) {w':World},Ext w w'→Ext w (w'.setCells g o vs):=by
 induction vs with
 | nil=>intro o w' h; exact h
 | cons v r ih=>intro o w' h; exact ih (o + 1) (h.setCell hg v)
theorem Qoz {w:World} {b o:Nat} {l m:List Value} (h:w.rangeAt b o l) (h':w.rangeAt b (o + l.length) m):w.rangeAt b o (l ++ m):=by
 intro j v hv;rcases Nat.lt_or_ge j l.length with hj | hj
 ·rw [List.getElem?_append_left hj] at hv;exact h j v hv
 ·rw [List.getElem?_append_right hj] at hv;have:=h' (j - l.length) v hv
  rw [show o + l.length + (j - l.length)=o + j by omega] at this
  exact this
theorem Qo0 {w:World} {b o:Nat} {l m:List Value} (h:w.rangeAt b o (l ++ m)):w.rangeAt b o l:=fun j v hv=>by
 refine h j v ?_;rw [List.getElem?_append_left (List.getElem?_eq_some_iff.1 hv).1]; exact hv
set_option maxRecDepth 100000 in
theorem Qqr (q:PtH) (t:Ty) (w:World) (vs:List Value) (h:PartAt w w.heap.size q t vs) (hs:Qi q.label) (hs2:Qi q.cl) :
  Calls Tryz.prog 162 #[.agg vs.toArray] w (fun e w'=>e = .returned (.bool (Q3 q (zPt wd0 false)))∧Ext w w'):=by
 obtain ⟨Al,cl,Ac,cc,vt,rfl,hl,hc,ht⟩:=h;obtain ⟨x0,x1,x2,x3,x4,x5,x6,x7,x8,rfl⟩:=ht.nine;obtain ⟨us,hus,w0,hw0⟩:=V2 (ptV q Al cl Ac cc ++ zCells) (w.alloc (.cells (ptV q Al cl Ac cc ++ [x0,x1,x2,x3,x4,x5,x6,x7,x8]).toArray 131));have hB:Blk w0 w.heap.size 131 (ptV q Al cl Ac cc ++ [x0,x1,x2,x3,x4,x5,x6,x7,x8]).toArray:=by rw [hw0]; exact Blk.new _ _ _
 have hE:Ext w w0:=by rw [hw0]; exact (Ext.rfl' w).alloc nL _
 obtain ⟨w1,hw1⟩:=V1 (w0.setCells w.heap.size 9 zCells);have hE1:Ext w w1:=by rw [hw1]; exact Qlk nL _ _ hE
 have hpa:PartAt w1 w1.heap.size q zTy us:=⟨Al,cl,Ac,cc,zCells,hus,hl.ext hE1,hc.ext hE1,Qli _ _⟩;have hcall:=Qd6 q (zPt wd0 false) zTy zTy w1 us (ptV (zPt wd0 false) none 0 none 0 ++ zCells) hpa (Qd4 _ _ _ _) hs hs2 Qgb Qd5 Qd5 Qgb;rw [Qr5] at hcall;have hul:us.length=18:=hpa.len;have hth:=Qbo hB (o:=9) (m:=9) (Nat.le_refl 18);have hrg:w1.rangeAt w.heap.size 0 us:=by
  rw [hw1,hus];refine Qoz (World.rangeAt_setCells_apart (Qo0 (Qv hB)) _ _ _ (.inr (.inl (Nat.le_refl 9)))) ?_;exact World.rangeAt_setCells_same _ _ _ _ hth
 obtain ⟨R,hR⟩:=V1 (Q3 q (zPt wd0 false));rw [← hR] at hcall ⊢;obtain ⟨g,hg⟩:=V1 (w.heap.size);rw [← hg] at hrg hth hw1;have HC:=hide (show Calls Tryz.prog 175 #[.agg us.toArray,.agg #[.string ⟨#[]⟩,.int .i64 0,.bool false,.slice none 0 0,.int .i64 0,.int .i64 0,.int .i64 0,.int .i64 0,.slice none 0 0,.int .i64 0,.int .i64 0,.int .i64 0,.int .i64 0,.int .i64 0,.slice none 0 0,.slice none 0 0,.string ⟨#[]⟩,.int .i64 0]] w1 (fun e w'=>e = .returned (.bool R)∧Ext w1 w') from hcall)
 obtain ⟨HRG,HTH,HUL,HE1,HW,HW1,HG⟩:=Z7 hrg hth hul hE1 hw0 hw1 hg;unfold ptV at HW ⊢;simp only [List.cons_append,List.nil_append] at HW ⊢;clear hcall hrg hth hul hE1 hw0 hw1 hg hR hpa hB hE hus hl hc ht hs hs2;go_enter Tryz.func162,Tryz.ntmps162
 go_upto_region 1 with fail
 rw [← HW.out,← HG.out];refine wp_region_lit ?_;refine wpList_plain rfl fun K1 hK1=>?_
 go_simp;refine hK1 _ _ ?_;refine wpList_plain rfl fun K2 hK2=>?_
 go_simp;refine hK2 _ _ ?_;refine wpList_store_mid rfl 29 _ _ rfl g 9 zCells.toArray rfl rfl HTH.out (by kernel_rfl) (by kernel_rfl) ?_
 rw [← HW1.out];go_upto_region 2 with fail
 refine wp_region_lit ?_;refine wpList_load_mid rfl 131 _ rfl g 0 rfl us _ HRG.out Tryz.underlying131 rfl (infoPart' HUL.out) ?_;go_wp2_with fail
 refine HC.out.mono ?_;rintro e w2 ⟨rfl,hE2⟩;have HE2:=hide (HE1.out.trans' hE2);clear hE2;go_wp2_with fail
 go_ret
 exact ⟨rfl,HE2.out⟩
def Qbw (n:Nat) (p:Nat→PtH):List Wd:=(List.range n).map fun i=>(p i).name
theorem Qby (n:Nat) (p:Nat→PtH):(Qbw n p).length=n:=by simp [Qbw]
theorem Qqs (n:Nat) (p:Nat→PtH):Qbw (n + 1) p=Qbw n p ++ [(p n).name]:=by simp [Qbw,List.range_succ]
theorem Qll (n:Nat) (p:Nat→PtH):nms (Qbw n p)=Qd n p:=by
 unfold nms Qbw Qd;rw [List.map_map];rfl
theorem Qn1 {n i:Nat} {p:Nat→PtH} (h:i < n):(Qbw n p).getD i wd0=(p i).name:=by
 unfold Qbw;rw [List.getD_eq_getElem?_getD,List.getElem?_map,List.getElem?_range h]; rfl
theorem Qc5 {w:World} {B:Nat} {A:Option Addr} {n:Nat} {p:Nat→PtH} {t:Nat→Ty} (h:PartsAt w B A n p t) {b o:Nat} (e:A=some ⟨b,o,none⟩) {i:Nat} (hi:i < n) :
  w.cell? ⟨b,o + i * 18,none⟩=some (.string (p i).name.1)∧w.cell? ⟨b,o + i * 18 + 1,none⟩=some (.int .i64 (p i).name.2):=by
 obtain ⟨b',o',e',hb,hc⟩:=h (by omega)
 rw [e] at e';cases e'
 obtain ⟨vs,h1,Al,cl,Ac,cc,vt,rfl,_,_,_⟩:=hc i hi;exact ⟨h1 0 _ rfl,h1 1 _ rfl⟩
def Qqt (n:Nat) (p:Nat→PtH) (w:World) (e:Ending) (w':World):Prop:=∃ A c,e = .returned (.slice A n c)∧WdsAt w' w'.heap.size A (Qbw n p)∧Ext w w'
set_option maxRecDepth 100000 in
theorem Qgc (A:Option Addr) (c n:Nat) (p:Nat→PtH) (t:Nat→Ty) (w:World) (h:PartsAt w w.heap.size A n p t) (hn':n≤5864062014634) :
  Calls Tryz.prog 118 #[.slice A n c] w (Qqt n p w):=by
 have HP:=hide h;clear h;go_enter Tryz.func118,Tryz.ntmps118
 go_wp2_with fail
 go_loopw [4,3] (fun i o wr=>∃ (k:Nat) (Ao:Option Addr) (co:Nat),k≤n∧i = .int .i64 (k:Int)∧o = .slice Ao k co∧wr.ownsRow w.heap.size 27 2 (.slice Ao k co) k (wdCells (Qbw k p))∧Ext w wr) (fun i _ _=>n - (intOf i).toNat)
 case atStart=>exact ⟨0,none,0,Nat.zero_le _,rfl,rfl,World.ownsRow_nil _ _ _ _,Ext.rfl' w⟩
 case round =>
  obtain ⟨k,Ao,co,hk,rfl,rfl,hO,hE⟩:=hrel;obtain ⟨HO,HE⟩:=Z2 hO hE;by_cases hlt:k < n
  ·obtain ⟨b,o,hA,hbs,_⟩:=HP.out (by omega)
   obtain ⟨p0,p1⟩:=Qc5 HP.out hA hlt;subst hA;have q0:=(hE.cell (p:=⟨b,o + k * 18,none⟩) hbs).trans p0;have q1:=(hE.cell (p:=⟨b,o + k * 18 + 1,none⟩) hbs).trans p1;have hst:=Qqs k p;rw [show (p k).name=((p k).name.1,(p k).name.2) from rfl] at hst
   obtain ⟨s,hs,y,hy⟩:=V2 ((p k).name.1) ((p k).name.2);rw [← hs] at q0 hst;rw [← hy] at q1 hst;have HST:=hide hst;have i0:=nZ k;have i1:(k:Int) < (n:Int):=by omega
   clear p0 p1 hs hy hst hO hE;go_wp2_with (at_builtin; refine Qd2 _ rfl _ _ rfl w.heap.size _ k (Qbw k p) rfl (wr.heap.size + 1) (some ⟨wr.heap.size,0,none⟩) 1 (s,y) rfl (HO.out.alloc _) (Qlg _ _ _ _ _ rfl) (by omega) (by have:=HE.out.size; simp only [World.size_alloc]; omega) ?_)
   intro A3 c3 w3 hown3 hgrow3 _;have HE3:=hide (grown_ext' (w:=w) (wr:=wr) (base:=w.heap.size) HE.out ((Ext.rfl' wr).alloc nL _) hgrow3 HO.out nL);rw [← HST.out] at hown3;have HO3:=hide hown3;clear hown3 hgrow3 q0 q1;go_wp2_with fail
   go_roundw
   case rel=>exact ⟨k + 1,A3,c3,by omega,by go_num,rfl,HO3.out,HE3.out⟩
   case measure=>simp [intOf]; omega
  ·obtain rfl:k=n:=by omega
   clear hO hE;go_wp2_with fail
   go_ret
   refine ⟨Ao,co,rfl,?_,HE.out⟩;unfold WdsAt;rw [Qby];exact Reads.of_own HO.out
def Grw (gc:Nat) (w w':World):Prop:=w.grownBy w' (some gc)
theorem Grw.of_ext {gc:Nat} {w w':World} (h:Ext w w'):Grw gc w w':=Qbl h _
theorem Grw.trans {gc:Nat} {a b c:World} (h:Grw gc a b) (k:Grw gc b c):Grw gc a c :=
 ⟨k.os.trans h.os,k.tape.trans h.tape,k.output.trans h.output,Nat.le_trans h.size k.size,fun i hi hr=>(k.block i (Nat.lt_of_lt_of_le hi h.size) hr).trans (h.block i hi hr)⟩
theorem Grw.ext {gc:Nat} {a b c:World} (h:Grw gc a b) (k:Ext b c):Grw gc a c:=h.trans (.of_ext k)
theorem Grw.sz {gc:Nat} {a b:World} (h:Grw gc a b):a.heap.size≤b.heap.size:=h.size
theorem size_setCell' (w:World) (p:Addr) (v:Value):(w.setCell p v).heap.size=w.heap.size:=by simp [World.setCell]
theorem Grw.set {gc g i:Nat} {a b:World} (h:Grw gc a b) (hg:a.heap.size≤g∨g=gc) (v:Value):Grw gc a (b.setCell ⟨g,i,none⟩ v):=by
 refine ⟨h.os,h.tape,h.output,?_,fun k hk hr=>?_⟩
 ·rw [size_setCell']; exact h.size
 ·refine (Below.heap_setCell b ⟨g,i,none⟩ v k ?_).trans (h.block k hk hr);rintro rfl;rcases hg with hg | hg
  ·exact absurd hk (Nat.not_lt.2 hg)
  ·rw [hg] at hr; exact hr rfl
theorem Grw.blk {gc g:Nat} {w w':World} {t:TypeId} {cs:Array Value} (hg:Grw gc w w') (h:Blk w g t cs) (hne:g≠gc):Blk w' g t cs:=h.grown hg (by intro e; cases e; exact hne rfl)
theorem TyAt.keep {t:Ty} {B:Nat} : ∀ {w w':World} {vs:List Value},TyAt w B t vs→(∀ p:Addr,p.block < B→w'.cell? p=w.cell? p)→TyAt w' B t vs:=by
 induction t with
 | nil=>intro w w' vs h _; exact h.elim
 | mk h n p t ih =>
  rintro w w' vs ⟨An,cn,Ap,cp,rfl,h1,h2⟩ hE;refine ⟨An,cn,Ap,cp,rfl,Reads.keep h1 hE,fun hn=>?_⟩
  obtain ⟨b,o,e,hb,hc⟩:=h2 hn;refine ⟨b,o,e,hb,fun i hi=>?_⟩
  obtain ⟨Al,cl,Ac,cc,vt,q1,q2,q3,q4⟩:=hc i hi;exact ⟨Al,cl,Ac,cc,vt,fun j v hv=>(hE ⟨b,o + i * 18 + j,none⟩ hb).trans (q1 j v hv),Reads.keep q2 hE,Reads.keep q3 hE,ih i q4 hE⟩
theorem TyAt.more {t:Ty} {B B':Nat} (hB:B≤B'):∀ {w:World} {vs:List Value},TyAt w B t vs→TyAt w B' t vs:=by
 induction t with
 | nil=>intro w vs h; exact h.elim
 | mk h n p t ih =>
  rintro w vs ⟨An,cn,Ap,cp,rfl,h1,h2⟩;refine ⟨An,cn,Ap,cp,rfl,Reads.more h1 hB,fun hn=>?_⟩
  obtain ⟨b,o,e,hb,hc⟩:=h2 hn;refine ⟨b,o,e,Nat.lt_of_lt_of_le hb hB,fun i hi=>?_⟩
  obtain ⟨Al,cl,Ac,cc,vt,q1,q2,q3,q4⟩:=hc i hi;exact ⟨Al,cl,Ac,cc,vt,q1,Reads.more q2 hB,Reads.more q3 hB,ih i q4⟩
theorem PartAt.keep {q:PtH} {t:Ty} {B:Nat} {w w':World} {vs:List Value} (h:PartAt w B q t vs) (hE:∀ p:Addr,p.block < B→w'.cell? p=w.cell? p):PartAt w' B q t vs:=by
 obtain ⟨Al,cl,Ac,cc,vt,e,h1,h2,h3⟩:=h;exact ⟨Al,cl,Ac,cc,vt,e,Reads.keep h1 hE,Reads.keep h2 hE,h3.keep hE⟩
theorem PartAt.more {q:PtH} {t:Ty} {B B':Nat} (hB:B≤B') {w:World} {vs:List Value} (h:PartAt w B q t vs):PartAt w B' q t vs:=by
 obtain ⟨Al,cl,Ac,cc,vt,e,h1,h2,h3⟩:=h;exact ⟨Al,cl,Ac,cc,vt,e,Reads.more h1 hB,Reads.more h2 hB,h3.more hB⟩
theorem PartsAt.keep {A:Option Addr} {n:Nat} {p:Nat→PtH} {t:Nat→Ty} {B:Nat} {w w':World} (h:PartsAt w B A n p t) (hE:∀ p:Addr,p.block < B→w'.cell? p=w.cell? p):PartsAt w' B A n p t:=by
 intro hn;obtain ⟨b,o,e,hb,hc⟩:=h hn;refine ⟨b,o,e,hb,fun i hi=>?_⟩
 obtain ⟨vs,h1,h2⟩:=hc i hi;exact ⟨vs,fun j v hv=>(hE ⟨b,o + i * 18 + j,none⟩ hb).trans (h1 j v hv),h2.keep hE⟩
theorem Grw.cells {gc B:Nat} {w w':World} (h:Grw gc w w') (hB:B≤w.heap.size) (hc:B≤gc):∀ p:Addr,p.block < B→w'.cell? p=w.cell? p:=fun p hp=>by
 have:=h.block p.block (Nat.lt_of_lt_of_le hp hB) (by intro e; cases e; omega)
 unfold World.cell?;rw [this]
def Qav (r:Wr) (gc:Nat) (w:World) (e:Ending) (w':World):Prop:=e = .returned (fltV r.1)∧Grw gc w w'∧Blk w' gc 180 #[.int .i64 r.2]
def ChkC (t:Ty) (d:Int) (B:Nat):Prop:=∀ (gc:Nat) (m:Int) (w:World) (vs:List Value),TyAt w B t vs→B≤gc→Blk w gc 180 #[.int .i64 m] →
 Calls Tryz.prog 107 #[.pointer (some ⟨gc,0,none⟩),.agg vs.toArray,.int .i64 d] w (Qav (chk t d m) gc w)
def Qag (u:Bool) (q:PtH) (t:Ty) (sub:Int→Wr) (m:Int):Wr :=
 if q.bare=true then (if u=true∧Qbb q t=true then ((0,0),m) else ((19,q.name.2),m)) else if (Qaf q).1≠0 then (Qaf q,m) else sub m
theorem infoTy' {vs:List Value} (h:vs.length=9):(Tryz.prog.info? 29).map (·.size)=some vs.length:=by
 rw [h]; kernel_rfl
set_option maxRecDepth 100000 in
theorem one_any (h:TyH) (n:Nat) (p:Nat→PtH) (t:Nat→Ty) (d m:Int) (gc B:Nat) (An Ap:Option Addr) (cn cp:Nat) (w:World) (hP:PartsAt w B Ap n p t) (hsz:∀ i,i < n→Qi (p i).label∧Qi (p i).cl) (hBg:B≤gc) (hC:Blk w gc 180 #[.int .i64 m]) (hsub:0 < n→ChkC (t 0) (IntKind.i64.wrap (d + 1)) B) :
  Calls Tryz.prog 130 #[.pointer (some ⟨gc,0,none⟩),.agg (tyV h An cn Ap n cp).toArray,.int .i64 d] w (Qav (Qf1 h n p (fun m=>chk (t 0) (IntKind.i64.wrap (d + 1)) m) m) gc w):=by
 have e1:=IntWalk.i64_left (d + 1);rw [e1] at hsub ⊢;clear e1;have hx:Qf1 h n p (fun m=>chk (t 0) (wrap64 (d + 1)) m) m=if n=1∧Q3 (p 0) (zPt wd0 false)=true then (if h.most < 0∨1024 < h.most then ((20,h.at_),m) else chk (t 0) (wrap64 (d + 1)) m) else ((19,h.at_),m):=rfl
 generalize hRR:Qf1 h n p (fun m=>chk (t 0) (wrap64 (d + 1)) m) m=R at hx ⊢
 clear hRR;obtain ⟨vs0,hv0⟩:=V1 ((tyV h An cn Ap n cp).toArray);rw [← hv0];unfold tyV at hv0;generalize h.kind=kd at hv0
 generalize h.at_=a at hv0 hx
 generalize h.lo=lo at hv0
 generalize h.hi=hi at hv0
 generalize h.most=mo at hv0 hx
 generalize h.names.length=nn at hv0
 generalize h.name.1=s0 at hv0
 generalize h.name.2=s1 at hv0
 subst hv0;obtain ⟨w0,hw0⟩:=V1 ((w.alloc (.cells #[.int .i64 kd,.int .i64 a,.int .i64 lo,.int .i64 hi,.int .i64 mo,.slice An nn cn,.slice Ap n cp,.string s0,.int .i64 s1] 29)).alloc (.cells #[.int .i64 0,.int .i64 0] 34));have hT:Blk w0 w.heap.size 29 #[.int .i64 kd,.int .i64 a,.int .i64 lo,.int .i64 hi,.int .i64 mo,.slice An nn cn,.slice Ap n cp,.string s0,.int .i64 s1]:=by rw [hw0]; exact (Blk.new _ _ _).alloc _
 have hF:Blk w0 (w.heap.size + 1) 34 #[.int .i64 0,.int .i64 0]:=by
  rw [hw0]; have:=Blk.new (w.alloc (.cells #[.int .i64 kd,.int .i64 a,.int .i64 lo,.int .i64 hi,.int .i64 mo,.slice An nn cn,.slice Ap n cp,.string s0,.int .i64 s1] 29)) 34 #[.int .i64 0,.int .i64 0]; simpa only [World.size_alloc] using this
 have hE:Ext w w0:=by rw [hw0]; exact ((Ext.rfl' w).alloc nL _).alloc (by simp only [World.size_alloc]; omega) _
 have hS:w0.heap.size=w.heap.size + 2:=by rw [hw0]; simp only [World.size_alloc]
 have hC1:Blk w0 gc 180 #[.int .i64 m]:=hC.ext hE;have hgl:=hC.lt;have hBw:B≤w.heap.size:=Nat.le_of_lt (Nat.lt_of_le_of_lt hBg hgl);have n1:w.heap.size + 1≠gc:=by omega
 have n2:w.heap.size≠gc:=by omega
 have hlo:w.heap.size≤w.heap.size + 1:=Nat.le_succ _;generalize hCK:chk (t 0) (wrap64 (d + 1)) m=CK at hx
 obtain ⟨gf,hgf,gt,hgt⟩:=V2 (w.heap.size + 1) (w.heap.size);rw [← hgf] at hF hlo n1;rw [← hgt] at hT n2;obtain ⟨HX,HW,HGF,HGT,HF,HE,HC,HT⟩:=Z8 hx hw0 hgf hgt hF hE hC1 hT;obtain ⟨HN,HN2,HLO,HBW,HBG⟩:=Z5 n1 n2 hlo hBw hBg;obtain ⟨b0,b1⟩:=X2 HF.out;obtain ⟨f0,f1⟩:=Y2 HF.out;have t1:=hT.cell 1;have t4:=hT.cell 4;have t6:=hT.cell 6;simp only [gA,gH,gS] at t1 t4 t6;clear hx hw0 hF hE hC1 hT n1 n2 hlo hgf hgt hS hBw hBg hgl hC;by_cases hn:n=1
 ·subst hn;obtain ⟨b,o,rfl,hb,hc⟩:=hP (by omega)
  obtain ⟨vs,r0,hpa⟩:=hc 0 (by omega)
  rw [Nat.zero_mul,Nat.add_zero] at r0;have hs:=hsz 0 (by omega)
  have hsb:=hsub (by omega)
  obtain ⟨Al,cl,Ac,cc,vt,hvs,hl,hcc,htt⟩:=id hpa;have hpw:PartAt w w.heap.size (p 0) (t 0) vs:=hpa.more HBW.out;have hem:=Qqr (p 0) (t 0) w0 vs (hpw.ext HE.out) hs.1 hs.2;have hchk:=fun w1 (hE:Ext w w1) (hC1:Blk w1 gc 180 #[.int .i64 m])=>hsb gc m w1 vt (htt.keep fun q hq=>hE.cell (Nat.lt_of_lt_of_le hq HBW.out)) HBG.out hC1
  rw [hCK] at hchk;have hvl:vs.length=18:=hpw.len;have htl:vt.length=9:=by obtain ⟨y0,y1,y2,y3,y4,y5,y6,y7,y8,e⟩:=htt.nine; rw [e]; rfl
  have hr1:w0.rangeAt b o vs:=fun j v hv=>(HE.out.cell (p:=⟨b,o + j,none⟩) (Nat.lt_of_lt_of_le hb HBW.out)).trans (r0 j v hv)
  have hrt:w.rangeAt b (o + 9) vt:=fun j v hv=>by
   have:=r0 (9 + j) v (by rw [hvs,List.getElem?_append_right (by show 9≤9 + j; omega)]; rw [show 9 + j - (ptV (p 0) Al cl Ac cc).length=j by show 9 + j - 9=j; omega]; exact hv)
   rwa [← Nat.add_assoc] at this
  have hbw:=Nat.lt_of_lt_of_le hb HBW.out;generalize Q3 (p 0) (zPt wd0 false)=SB at hem HX
  obtain ⟨HEM,HCHK,HVL,HTL,HR1,HRT,HB⟩:=Z7 hem hchk hvl htl hr1 hrt hbw;clear hem hchk hvl htl hr1 hrt hbw hpw hvs hl hcc htt hs hsb hpa r0 hc hb hsz hsub hP hCK;cases SB with
  | false =>
   have HR:=hide (show R=((19,a),m) by rw [HX.out,if_neg (fun hh=>by cases hh.2)])
   go_enter Tryz.func130,Tryz.ntmps130
   go_upto_region 1 with fail
   rw [← HW.out,← HGF.out,← HGT.out];refine wp_region_lit ?_;refine wpList_plain rfl fun K1 hK1=>?_
   go_simp;refine hK1 _ _ ?_;refine wpList_plain rfl fun K2 hK2=>?_
   go_simp;refine hK2 _ _ ?_;refine wpList_plain rfl fun K3 hK3=>?_
   go_simp;refine hK3 _ _ ?_;refine wpList_plain rfl fun K4 hK4=>?_
   go_simp;refine hK4 _ _ ?_;refine wpList_plain rfl fun K5 hK5=>?_
   go_simp;refine hK5 _ _ ?_;refine wpList_unguard' (by rfl) ?_
   refine wpList_plain rfl fun K6 hK6=>?_
   go_simp;refine hK6 _ _ ?_;refine wpList_unguard' (by rfl) ?_
   refine wpList_plain rfl fun K7 hK7=>?_
   go_simp;refine hK7 _ _ ?_;refine wpList_unguard' (by rfl) ?_
   refine wpList_plain rfl fun K8 hK8=>?_
   go_simp;refine hK8 _ _ ?_;refine wpList_unguard' (by rfl) ?_
   refine wpList_load_mid rfl 131 _ rfl b o rfl vs _ HR1.out Tryz.underlying131 rfl (infoPart' HVL.out) ?_;go_wp2_with fail
   refine HEM.out.mono ?_;rintro e w3 ⟨rfl,hE3⟩;obtain ⟨HF3,HE3,HC3⟩:=Z3 (HF.out.ext hE3) (HE.out.trans' hE3) (HC.out.ext hE3);have hT3:=HT.out.ext hE3;obtain ⟨b0,b1⟩:=X2 HF3.out;obtain ⟨f0,f1⟩:=Y2 HF3.out;have t1:=hT3.cell 1;have t4:=hT3.cell 4;have t6:=hT3.cell 6;simp only [gA,gH,gS] at t1 t4 t6;clear hE3 hT3;go_wp2_with fail
   refine (Qn 19 a _).mono ?_;rintro e w5 ⟨rfl,hE5⟩;obtain ⟨HF5,HE5,HC5⟩:=Z3 (HF3.out.ext hE5) (HE3.out.trans' hE5) (HC3.out.ext hE5);obtain ⟨b0,b1⟩:=X2 HF5.out;obtain ⟨f0,f1⟩:=Y2 HF5.out;unfold fltV;clear hE5;go_wp2_with fail
   exact Qa (f:=(19,a)) (g:=gf) ((HF5.out.set_ 0 _).set_ 1 _) rfl rfl rfl ⟨by rw [HR.out],((Grw.of_ext HE5.out).set (.inl HLO.out) _).set (.inl HLO.out) _,by rw [HR.out]; exact (HC5.out.far HN.out.symm _).far HN.out.symm _⟩
  | true =>
   have HX2:=hide (show R=if mo < 0∨1024 < mo then ((20,a),m) else CK by rw [HX.out,if_pos ⟨rfl,rfl⟩])
   by_cases c1:mo < 0
   ·have HR:=hide (show R=((20,a),m) by rw [HX2.out,if_pos (.inl c1)])
    go_enter Tryz.func130,Tryz.ntmps130
    go_upto_region 1 with fail
    rw [← HW.out,← HGF.out,← HGT.out];refine wp_region_lit ?_;refine wpList_plain rfl fun K1 hK1=>?_
    go_simp;refine hK1 _ _ ?_;refine wpList_plain rfl fun K2 hK2=>?_
    go_simp;refine hK2 _ _ ?_;refine wpList_plain rfl fun K3 hK3=>?_
    go_simp;refine hK3 _ _ ?_;refine wpList_plain rfl fun K4 hK4=>?_
    go_simp;refine hK4 _ _ ?_;refine wpList_plain rfl fun K5 hK5=>?_
    go_simp;refine hK5 _ _ ?_;refine wpList_unguard' (by rfl) ?_
    refine wpList_plain rfl fun K6 hK6=>?_
    go_simp;refine hK6 _ _ ?_;refine wpList_unguard' (by rfl) ?_
    refine wpList_plain rfl fun K7 hK7=>?_
    go_simp;refine hK7 _ _ ?_;refine wpList_unguard' (by rfl) ?_
    refine wpList_plain rfl fun K8 hK8=>?_
    go_simp;refine hK8 _ _ ?_;refine wpList_unguard' (by rfl) ?_
    refine wpList_load_mid rfl 131 _ rfl b o rfl vs _ HR1.out Tryz.underlying131 rfl (infoPart' HVL.out) ?_;go_wp2_with fail
    refine HEM.out.mono ?_;rintro e w3 ⟨rfl,hE3⟩;obtain ⟨HF3,HE3,HC3⟩:=Z3 (HF.out.ext hE3) (HE.out.trans' hE3) (HC.out.ext hE3);have hT3:=HT.out.ext hE3;obtain ⟨b0,b1⟩:=X2 HF3.out;obtain ⟨f0,f1⟩:=Y2 HF3.out;have t1:=hT3.cell 1;have t4:=hT3.cell 4;have t6:=hT3.cell 6;simp only [gA,gH,gS] at t1 t4 t6;clear hE3 hT3;go_wp2_with fail
    refine (Qn 20 a _).mono ?_;rintro e w5 ⟨rfl,hE5⟩;obtain ⟨HF5,HE5,HC5⟩:=Z3 (HF3.out.ext hE5) (HE3.out.trans' hE5) (HC3.out.ext hE5);obtain ⟨b0,b1⟩:=X2 HF5.out;obtain ⟨f0,f1⟩:=Y2 HF5.out;unfold fltV;clear hE5;go_wp2_with fail
    exact Qa (f:=(20,a)) (g:=gf) ((HF5.out.set_ 0 _).set_ 1 _) rfl rfl rfl ⟨by rw [HR.out],((Grw.of_ext HE5.out).set (.inl HLO.out) _).set (.inl HLO.out) _,by rw [HR.out]; exact (HC5.out.far HN.out.symm _).far HN.out.symm _⟩
   by_cases c2:1024 < mo
   ·have HR:=hide (show R=((20,a),m) by rw [HX2.out,if_pos (.inr c2)])
    go_enter Tryz.func130,Tryz.ntmps130
    go_upto_region 1 with fail
    rw [← HW.out,← HGF.out,← HGT.out];refine wp_region_lit ?_;refine wpList_plain rfl fun K1 hK1=>?_
    go_simp;refine hK1 _ _ ?_;refine wpList_plain rfl fun K2 hK2=>?_
    go_simp;refine hK2 _ _ ?_;refine wpList_plain rfl fun K3 hK3=>?_
    go_simp;refine hK3 _ _ ?_;refine wpList_plain rfl fun K4 hK4=>?_
    go_simp;refine hK4 _ _ ?_;refine wpList_plain rfl fun K5 hK5=>?_
    go_simp;refine hK5 _ _ ?_;refine wpList_unguard' (by rfl) ?_
    refine wpList_plain rfl fun K6 hK6=>?_
    go_simp;refine hK6 _ _ ?_;refine wpList_unguard' (by rfl) ?_
    refine wpList_plain rfl fun K7 hK7=>?_
    go_simp;refine hK7 _ _ ?_;refine wpList_unguard' (by rfl) ?_
    refine wpList_plain rfl fun K8 hK8=>?_
    go_simp;refine hK8 _ _ ?_;refine wpList_unguard' (by rfl) ?_
    refine wpList_load_mid rfl 131 _ rfl b o rfl vs _ HR1.out Tryz.underlying131 rfl (infoPart' HVL.out) ?_;go_wp2_with fail
    refine HEM.out.mono ?_;rintro e w3 ⟨rfl,hE3⟩;obtain ⟨HF3,HE3,HC3⟩:=Z3 (HF.out.ext hE3) (HE.out.trans' hE3) (HC.out.ext hE3);have hT3:=HT.out.ext hE3;obtain ⟨b0,b1⟩:=X2 HF3.out;obtain ⟨f0,f1⟩:=Y2 HF3.out;have t1:=hT3.cell 1;have t4:=hT3.cell 4;have t6:=hT3.cell 6;simp only [gA,gH,gS] at t1 t4 t6;clear hE3 hT3;go_wp2_with fail
    refine (Qn 20 a _).mono ?_;rintro e w5 ⟨rfl,hE5⟩;obtain ⟨HF5,HE5,HC5⟩:=Z3 (HF3.out.ext hE5) (HE3.out.trans' hE5) (HC3.out.ext hE5);obtain ⟨b0,b1⟩:=X2 HF5.out;obtain ⟨f0,f1⟩:=Y2 HF5.out;unfold fltV;clear hE5;go_wp2_with fail
    exact Qa (f:=(20,a)) (g:=gf) ((HF5.out.set_ 0 _).set_ 1 _) rfl rfl rfl ⟨by rw [HR.out],((Grw.of_ext HE5.out).set (.inl HLO.out) _).set (.inl HLO.out) _,by rw [HR.out]; exact (HC5.out.far HN.out.symm _).far HN.out.symm _⟩
   have HR:=hide (show R=CK by rw [HX2.out,if_neg (fun hh=>hh.elim c1 c2)])
   go_enter Tryz.func130,Tryz.ntmps130
   go_upto_region 1 with fail
   rw [← HW.out,← HGF.out,← HGT.out];refine wp_region_lit ?_;refine wpList_plain rfl fun K1 hK1=>?_
   go_simp;refine hK1 _ _ ?_;refine wpList_plain rfl fun K2 hK2=>?_
   go_simp;refine hK2 _ _ ?_;refine wpList_plain rfl fun K3 hK3=>?_
   go_simp;refine hK3 _ _ ?_;refine wpList_plain rfl fun K4 hK4=>?_
   go_simp;refine hK4 _ _ ?_;refine wpList_plain rfl fun K5 hK5=>?_
   go_simp;refine hK5 _ _ ?_;refine wpList_unguard' (by rfl) ?_
   refine wpList_plain rfl fun K6 hK6=>?_
   go_simp;refine hK6 _ _ ?_;refine wpList_unguard' (by rfl) ?_
   refine wpList_plain rfl fun K7 hK7=>?_
   go_simp;refine hK7 _ _ ?_;refine wpList_unguard' (by rfl) ?_
   refine wpList_plain rfl fun K8 hK8=>?_
   go_simp;refine hK8 _ _ ?_;refine wpList_unguard' (by rfl) ?_
   refine wpList_load_mid rfl 131 _ rfl b o rfl vs _ HR1.out Tryz.underlying131 rfl (infoPart' HVL.out) ?_;go_wp2_with fail
   refine HEM.out.mono ?_;rintro e w3 ⟨rfl,hE3⟩;obtain ⟨HF3,HE3,HC3⟩:=Z3 (HF.out.ext hE3) (HE.out.trans' hE3) (HC.out.ext hE3);have hT3:=HT.out.ext hE3;obtain ⟨b0,b1⟩:=X2 HF3.out;obtain ⟨f0,f1⟩:=Y2 HF3.out;have t1:=hT3.cell 1;have t4:=hT3.cell 4;have t6:=hT3.cell 6;simp only [gA,gH,gS] at t1 t4 t6;clear hE3 hT3;go_upto_region 5 with fail
   have HRT3:=hide (show w3.rangeAt b (o + 9) vt from fun j v hv=>(HE3.out.cell (p:=⟨b,o + 9 + j,none⟩) HB.out).trans (HRT.out j v hv))
   refine wp_region_lit ?_;refine wpList_plain rfl fun K11 hK11=>?_
   go_simp;refine hK11 _ _ ?_;refine wpList_plain rfl fun K12 hK12=>?_
   go_simp;refine hK12 _ _ ?_;refine wpList_plain rfl fun K13 hK13=>?_
   go_simp;refine hK13 _ _ ?_;refine wpList_plain rfl fun K14 hK14=>?_
   go_simp;refine hK14 _ _ ?_;refine wpList_plain rfl fun K15 hK15=>?_
   go_simp;refine hK15 _ _ ?_;refine wpList_load_mid rfl 29 _ rfl b (o + 9) rfl vt _ HRT3.out Tryz.underlying29 rfl (infoTy' HTL.out) ?_;go_wp2_with fail
   refine (HCHK.out _ HE3.out HC3.out).mono ?_;rintro e w8 ⟨rfl,hE8,hC8⟩;obtain ⟨⟨D1,D2⟩,D3⟩:=CK;obtain ⟨HF8,HE8,HC8⟩:=Z3 (hE8.blk HF3.out HN.out) ((Grw.of_ext HE3.out).trans hE8) hC8;obtain ⟨b0,b1⟩:=X2 HF8.out;obtain ⟨f0,f1⟩:=Y2 HF8.out;unfold fltV;clear hE8 hC8;go_wp2_with fail
   exact Qa (f:=(D1,D2)) (g:=gf) ((HF8.out.set_ 0 _).set_ 1 _) rfl rfl rfl ⟨by rw [HR.out],(HE8.out.set (.inl HLO.out) _).set (.inl HLO.out) _,by rw [HR.out]; exact (HC8.out.far HN.out.symm _).far HN.out.symm _⟩
 ·have HR:=hide (show R=((19,a),m) by rw [HX.out,if_neg (fun hh=>hn hh.1)])
  have i0:((n:Int) != 1)=true:=by simp; omega
  clear hP hsz hsub hCK;go_enter Tryz.func130,Tryz.ntmps130
  go_upto_region 1 with fail
  rw [← HW.out,← HGF.out,← HGT.out];go_wp2_with fail
  refine (Qn 19 a _).mono ?_;rintro e w5 ⟨rfl,hE5⟩;obtain ⟨HF5,HE5,HC5⟩:=Z3 (HF.out.ext hE5) (HE.out.trans' hE5) (HC.out.ext hE5);obtain ⟨b0,b1⟩:=X2 HF5.out;obtain ⟨f0,f1⟩:=Y2 HF5.out;unfold fltV;clear hE5;go_wp2_with fail
  exact Qa (f:=(19,a)) (g:=gf) ((HF5.out.set_ 0 _).set_ 1 _) rfl rfl rfl ⟨by rw [HR.out],((Grw.of_ext HE5.out).set (.inl HLO.out) _).set (.inl HLO.out) _,by rw [HR.out]; exact (HC5.out.far HN.out.symm _).far HN.out.symm _⟩
end Go.Proofs.YtanpljalbijfkaaGreat
