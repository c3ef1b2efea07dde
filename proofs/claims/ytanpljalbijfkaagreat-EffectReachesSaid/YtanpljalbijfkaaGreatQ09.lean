/- . -/
import Derived.Test.YtanpljalbijfkaaGreatQ01
import Derived.Test.YtanpljalbijfkaaGreatQ04
import Derived.Test.YtanpljalbijfkaaGreatQ07
import Derived.Test.YtanpljalbijfkaaGreatQ08
import Derived.Deep.CutBlock
import Derived.Laws.EntriesVeiled
namespace Go.Proofs.YtanpljalbijfkaaGreat
open Go.RowKit
set_option maxHeartbeats 16000000
set_option maxRecDepth 100000 in
theorem Qop (g n cn:Nat) (An:Option Addr) (p1 p2 p3 p4:Value) (I:Nat→Bool) (M:Nat→Nat→Bool) (w:World) (hc:w.cell? ⟨g,0,none⟩=some (.slice An n cn)) (hn:n≤1000) (hM:LatM.Po n M)
  (hin:∀ c:Nat,c < n→Calls Tryz.prog 105 #[.int .i64 (c:Int),p1,p2,p3] w (fun e w'=>e = .returned (.bool (I c))∧w=w'))
  (hbe:∀ a b:Nat,a < n→b < n→Calls Tryz.prog 102 #[.int .i64 (a:Int),.int .i64 (b:Int),p4] w (fun e w'=>e = .returned (.bool (M a b))∧w=w')) :
  Calls Tryz.prog 103 #[.pointer (some ⟨g,0,none⟩),.func (.func 105) #[] #[p1,p2,p3],.func (.func 102) #[] #[p4]] w (fun e w'=>e = .returned (.int .i64 (LatM.bestL n I M))∧w=w'):=by
 obtain ⟨HIN,HBE,HM⟩:=Z3 hin hbe hM;clear hin hbe hM;go_enter Tryz.func103,Tryz.ntmps103
 go_wp2_with fail
 go_loopw [15,7] (fun i o wr=>∃ (k:Nat) (r:Int),k≤n∧i = .int .i64 k∧o = .int .i64 r∧w=wr∧Hid (r=LatM.pass I M k)) (fun i _ _=>n - (intOf i).toNat)
 case atStart=>exact ⟨0,-1,Nat.zero_le _,rfl,rfl,rfl,rfl⟩
 case round =>
  obtain ⟨k,r,hk,rfl,rfl,rfl,HR⟩:=hrel;by_cases hlt:k < n
  ·have hI:=HIN.out k hlt;obtain ⟨v,hv⟩:=V1 (I k);rw [← hv] at hI;obtain ⟨HI,HV⟩:=Z2 hI hv;clear hI hv;cases v with
   | false =>
    have HP:=hide (show r=LatM.pass I M (k + 1) by rw [LatM.pass,if_neg (by rw [← HV.out]; simp)]; exact HR.out)
    go_wp2_with fail
    refine HI.out.mono ?_;rintro e w' ⟨rfl,rfl⟩;go_wp2_with fail
    go_roundw
    case rel=>exact ⟨k + 1,r,by omega,by go_num,rfl,by trivial,HP⟩
    case measure=>simp [intOf]; omega
   | true =>
    rcases LatM.pass_in (I:=I) (M:=M) k with h1 | ⟨c,hc',h1,_⟩
    ·obtain rfl:r = -1:=HR.out.trans h1;have HP:=hide (show (k:Int)=LatM.pass I M (k + 1) by rw [LatM.pass,if_pos ⟨HV.out.symm,.inl h1⟩])
     clear h1 HR;go_wp2_with fail
     refine HI.out.mono ?_;rintro e w' ⟨rfl,rfl⟩;go_wp2_with fail
     go_roundw
     case rel=>exact ⟨k + 1,k,by omega,by go_num,rfl,by trivial,HP⟩
     case measure=>simp [intOf]; omega
    ·obtain rfl:r=(c:Int):=HR.out.trans h1;have hB:=HBE.out k c hlt (by omega)
     obtain ⟨u,hu⟩:=V1 (M k c);rw [← hu] at hB;obtain ⟨HB,HU,HC⟩:=Z3 hB hu h1;clear hB hu h1;cases u with
     | true =>
      have HP:=hide (show (k:Int)=LatM.pass I M (k + 1) by rw [LatM.pass,if_pos ⟨HV.out.symm,.inr (by rw [HC.out,Int.toNat_natCast]; exact HU.out.symm)⟩])
      go_wp2_with fail
      refine HI.out.mono ?_;rintro e w' ⟨rfl,rfl⟩;go_wp2_with fail
      refine HB.out.mono ?_;rintro e w' ⟨rfl,rfl⟩;go_wp2_with fail
      go_roundw
      case rel=>exact ⟨k + 1,k,by omega,by go_num,rfl,by trivial,HP⟩
      case measure=>simp [intOf]; omega
     | false =>
      have HP:=hide (show (c:Int)=LatM.pass I M (k + 1) by rw [LatM.pass,if_neg (by rw [HC.out,Int.toNat_natCast,← HU.out]; simp)]; exact HC.out.symm)
      go_wp2_with fail
      refine HI.out.mono ?_;rintro e w' ⟨rfl,rfl⟩;go_wp2_with fail
      refine HB.out.mono ?_;rintro e w' ⟨rfl,rfl⟩;go_wp2_with fail
      go_roundw
      case rel=>exact ⟨k + 1,c,by omega,by go_num,rfl,by trivial,HP⟩
      case measure=>simp [intOf]; omega
  ·obtain rfl:k=n:=by omega
   have HPE:=hide (LatM.pass_end HM.out r HR.out);have hcs:=LatM.pass_in (I:=I) (M:=M) k;rw [← HR.out] at hcs;clear HR;rcases hcs with h1 | ⟨c,_,h1,_⟩
   ·subst h1;have HQ:=hide (HPE.out.1 rfl);clear HPE;go_wp2_with fail
    go_loopw [38] (fun i wr=>∃ d:Nat,d≤k∧i = .int .i64 d∧w=wr) (fun i _=>k - (intOf i).toNat)
    case atStart=>exact ⟨0,Nat.zero_le _,rfl,rfl⟩
    case round =>
     obtain ⟨d,hd,rfl,rfl⟩:=hrel;by_cases hdl:d < k
     ·go_wp2_with fail
      go_roundw
      case rel=>exact ⟨d + 1,by omega,by go_num,by trivial⟩
      case measure=>simp [intOf]; omega
     ·obtain rfl:d=k:=by omega
      go_wp2_with fail
      go_ret
      exact ⟨Qq HQ.out.symm,rfl⟩
   ·subst h1;obtain ⟨hcn,_⟩:=HPE.out.2.1 c rfl;have h3:=HPE.out.2.2.1;have h4:=HPE.out.2.2.2;rw [Int.toNat_natCast] at h3 h4;obtain ⟨HC3,HC4,HBC⟩:=Z3 h3 h4 (fun d hd=>HBE.out c d hcn hd)
    clear HPE h3 h4 HBE;go_wp2_with fail
    go_loopw [38] (fun i wr=>∃ d:Nat,d≤k∧i = .int .i64 d∧w=wr∧Hid (∀ x,x < d→I x=true→M c x=true)) (fun i _=>k - (intOf i).toNat)
    case atStart=>exact ⟨0,Nat.zero_le _,rfl,rfl,fun x hx=>absurd hx (by omega)⟩
    case round =>
     obtain ⟨d,hd,rfl,rfl,HD⟩:=hrel;by_cases hdl:d < k
     ·have hI:=HIN.out d hdl;obtain ⟨v,hv⟩:=V1 (I d);rw [← hv] at hI;obtain ⟨HI,HV⟩:=Z2 hI hv;clear hI hv;cases v with
      | false =>
       have HD2:=hide (below_step (P:=fun x=>I x=true→M c x=true) HD.out (by rw [← HV.out]; intro h; cases h))
       clear HD;go_wp2_with fail
       refine HI.out.mono ?_;rintro e w' ⟨rfl,rfl⟩;go_wp2_with fail
       go_roundw
       case rel=>exact ⟨d + 1,by omega,by go_num,by trivial,HD2⟩
       case measure=>simp [intOf]; omega
      | true =>
       have hB:=HBC.out d hdl;obtain ⟨u,hu⟩:=V1 (M c d);rw [← hu] at hB;obtain ⟨HB,HU⟩:=Z2 hB hu;clear hB hu;cases u with
       | true =>
        have HD2:=hide (below_step (P:=fun x=>I x=true→M c x=true) HD.out (fun _=>HU.out.symm))
        clear HD;go_wp2_with fail
        refine HI.out.mono ?_;rintro e w' ⟨rfl,rfl⟩;go_wp2_with fail
        refine HB.out.mono ?_;rintro e w' ⟨rfl,rfl⟩;go_wp2_with fail
        go_roundw
        case rel=>exact ⟨d + 1,by omega,by go_num,by trivial,HD2⟩
        case measure=>simp [intOf]; omega
       | false =>
        have HQ:=hide (HC4.out d hdl HV.out.symm HU.out.symm);clear HD;go_wp2_with fail
        refine HI.out.mono ?_;rintro e w' ⟨rfl,rfl⟩;go_wp2_with fail
        refine HB.out.mono ?_;rintro e w' ⟨rfl,rfl⟩;go_wp2_with fail
        go_ret
        exact ⟨Qq HQ.out.symm,rfl⟩
     ·obtain rfl:d=k:=by omega
      have HQ:=hide (HC3.out HD.out);clear HD;go_wp2_with fail
      go_ret
      exact ⟨Qq HQ.out.symm,rfl⟩
def BoundsPost (n:Nat) (L:Nat→Nat→Bool) (w:World) (g gr:Nat) (rs:List Nat) (c0 c1:Value) (e:Ending) (w':World):Prop :=
 e = .returned (.int .i64 (LatM.boundsL n L))∧w.grownBy w' (some g)∧(LatM.boundsL n L < 0→RelAt w' gr rs∧∃ J M,LBlk w' g c0 c1 (.pointer (some ⟨gr,0,none⟩)) J M∧∀ x y,x < n→y < n→J x y=LatM.joinL n L x y∧M x y=LatM.joinL n (fun a b=>L b a) x y)
theorem Qhc {n:Nat} {L:Nat→Nat→Bool} {a b:Nat} (hP:LatM.Po n L) (hb:b < n) (hab:a≤b) (h0:∀ j,j < b→LatM.lacks n L j=false) (h:LatM.joinL n L a b = -1∨LatM.joinL n (fun x y=>L y x) a b = -1):LatM.boundsL n L=b:=by
 refine LatM.boundsL_hit hb (LatM.lacks_iff.2 ⟨a,?_,?_⟩) h0
 ·rcases Nat.lt_or_ge a b with h1 | h1
  ·exact h1
  ·obtain rfl:a=b:=by omega
   have e1:=LatM.joinL_self hP hb;have e2:=LatM.joinL_self hP.turn hb;omega
 ·rcases h with h | h
  ·exact .inl (by omega)
  ·exact .inr (by omega)
theorem BoundsPost.fail {n:Nat} {L:Nat→Nat→Bool} {w wr:World} {g gr b:Nat} {rs:List Nat} {c0 c1:Value} (h:LatM.boundsL n L=b) (hg:w.grownBy wr (some g)):BoundsPost n L w g gr rs c0 c1 (.returned (.int .i64 (b:Int))) wr :=
 ⟨Qq h.symm,hg,fun h'=>absurd h' (by omega)⟩
def Quq (w:World) (g gr:Nat) (rs:List Nat) (c0 c1:Value) (n:Nat) (L:Nat→Nat→Bool) (b a Ba Bb:Nat) (wx:World):Prop :=
 ∃ J M:Nat→Nat→Int,BMem w g gr rs c0 c1 J M wx∧Blk wx Ba 3 #[.int .i64 (a:Int)]∧Blk wx Bb 3 #[.int .i64 (b:Int)]∧DoneTo (LatM.joinL n L) J b (a + 1)∧DoneTo (LatM.joinL n fun x y=>L y x) M b (a + 1)∧∀ x,x < a + 1→0≤LatM.joinL n L x b∧0≤LatM.joinL n (fun x y=>L y x) x b
set_option maxRecDepth 100000 in
theorem Qoq (g gr n cn:Nat) (An:Option Addr) (c1:Value) (J0 M0:Nat→Nat→Int) (rs:List Nat) (L:Nat→Nat→Bool) (w:World)
  (hl:LBlk w g (.slice An n cn) c1 (.pointer (some ⟨gr,0,none⟩)) J0 M0) (hr:RelAt w gr rs) (hn:n≤32) (hP:LatM.Po n L) (hL:∀ a b:Nat,a < n→b < n→Qad rs a b=L a b) :
  Calls Tryz.prog 67 #[.pointer (some ⟨g,0,none⟩)] w (BoundsPost n L w g gr rs (.slice An n cn) c1):=by
 obtain ⟨HL,HR,HP,HM⟩:=Z4 hl hr hP hL;have hlt:=hl.lt;have e0:=hl.cell0;have hlt1:g < w.heap.size + 1:=by omega
 have hlt2:g < w.heap.size + 1 + 1:=by omega
 clear hl hr hP hL;go_enter Tryz.func67,Tryz.ntmps67
 go_wp2_with fail
 have hB0:BMem w g gr rs (.slice An n cn) c1 J0 M0 (((w.alloc (.cells #[.pointer (some ⟨g,0,none⟩)] 59)).alloc (.cells #[.func (.func 101) #[] #[.pointer (some ⟨w.heap.size,0,none⟩)]] 62)).alloc (.cells #[.func (.func 102) #[] #[.pointer (some ⟨w.heap.size,0,none⟩)]] 62)):=by
  have hE:Ext w (((w.alloc (.cells #[.pointer (some ⟨g,0,none⟩)] 59)).alloc (.cells #[.func (.func 101) #[] #[.pointer (some ⟨w.heap.size,0,none⟩)]] 62)).alloc (.cells #[.func (.func 102) #[] #[.pointer (some ⟨w.heap.size,0,none⟩)]] 62)) :=
   (((Ext.rfl' w).alloc nL _).alloc (by simp) _).alloc (by simp; omega) _
  exact ⟨Qbl hE _,((Blk.new w _ _).alloc _).alloc _,(Blk.new_eq _ _ _ (by simp)).alloc _,Blk.new_eq _ _ _ (by simp),HL.out.ext hE,HR.out.ext hE,hlt⟩
 have HB0:=hide hB0;clear hB0 e0 hlt1 hlt2;go_loopw [16] (fun i wr=>∃ (b:Nat) (J M:Nat→Nat→Int),b≤n∧i = .int .i64 b∧BMem w g gr rs (.slice An n cn) c1 J M wr∧w.heap.size + 3≤wr.heap.size∧Hid (DoneTo (LatM.joinL n L) J b 0∧DoneTo (LatM.joinL n fun x y=>L y x) M b 0∧∀ j,j < b→LatM.lacks n L j=false)) (fun i _=>n - (intOf i).toNat)
 case atStart=>exact ⟨0,J0,M0,Nat.zero_le _,rfl,HB0.out,by simp,⟨fun x y h=>absurd h (by omega),fun x y h=>absurd h (by omega),fun j hj=>absurd hj (by omega)⟩⟩
 case round =>
  obtain ⟨b,J,M,hb,rfl,hB,hsz,HD⟩:=hrel;have HB:=hide hB;clear hB HB0;by_cases hbn:b < n
  ·obtain ⟨wo,rfl⟩:∃ wo:World,wo=wr:=⟨_,rfl⟩;go_wp2_with fail
   have hB1:=(HB.out.alloc (.cells #[.int .i64 (b:Int)] 3)).alloc (.cells #[.int .i64 0] 3);have hb1:=(Blk.new wo 3 #[.int .i64 (b:Int)]).alloc (.cells #[.int .i64 0] 3);have ha1:=Blk.new_eq (wo.alloc (.cells #[.int .i64 (b:Int)] 3)) 3 #[.int .i64 ((0:Nat):Int)] (g:=wo.heap.size + 1) (by simp)
   obtain ⟨HB1,Hb1,Ha1⟩:=Z3 hB1 hb1 ha1;clear hB1 hb1 ha1;go_loopw [6] (fun p wi=>∃ (a Ba:Nat) (J M:Nat→Nat→Int),a≤b + 1∧p = .pointer (some ⟨Ba,0,none⟩)∧wo.heap.size < Ba∧Blk wi Ba 3 #[.int .i64 (a:Int)]∧Blk wi wo.heap.size 3 #[.int .i64 (b:Int)]∧BMem w g gr rs (.slice An n cn) c1 J M wi∧Hid (DoneTo (LatM.joinL n L) J b a∧DoneTo (LatM.joinL n fun x y=>L y x) M b a∧∀ x,x < a→0≤LatM.joinL n L x b∧0≤LatM.joinL n (fun x y=>L y x) x b)) (fun p wi=>match p with | .pointer (some q)=>b + 1 - (intOf ((wi.cell? q).getD undef)).toNat | _=>0)
   case atStart=>exact ⟨0,wo.heap.size + 1,J,M,by omega,rfl,by omega,Ha1.out,Hb1.out,HB1.out,HD.out.1,HD.out.2.1,fun x hx=>absurd hx (by omega)⟩
   case round =>
    clear HB1 Hb1 Ha1 HB;obtain ⟨a,Ba,J',M',ha,rfl,hBa,hA,hBb,hB,HD2⟩:=hrel;obtain ⟨HB,HA,HBb⟩:=Z3 hB hA hBb;have x0:=hB.t.cell 0;have x1:=hB.d.cell 0;have x2:=hB.u.cell 0;have x2:wr.cell? ⟨w.heap.size + 1 + 1,0,none⟩=_:=x2;have x3:=hA.cell 0;have x4:=hBb.cell 0;simp only [gA,gH] at x0 x1 x2 x3 x4;have l0:=hB.t.lt;have l1:=hB.d.lt;have l2:w.heap.size + 1 + 1 < wr.heap.size:=hB.u.lt;have l3:=hA.lt;have l4:=hBb.lt;have HN:=hide hB.l.cell0;clear hB hA hBb;by_cases hab:a≤b
    ·have x5:=HB.out.l.cell2;have hbd:=Qk7 g n cn An (.pointer (some ⟨w.heap.size + 1,0,none⟩)) (.pointer (some ⟨Ba,0,none⟩)) (.pointer (some ⟨wo.heap.size,0,none⟩)) (.pointer (some ⟨w.heap.size,0,none⟩)) (fun c=>L a c && L b c) L wr HN.out (by omega) HP.out
      (fun c hc=>by have:=Qoo (w.heap.size + 1) Ba wo.heap.size w.heap.size g gr rs wr a b c x1 x3 x4 x0 x5 HB.out.r; rwa [HM.out a c (by omega) hc,HM.out b c hbn hc] at this)
      (fun c d hc hd=>by have:=Qhr w.heap.size g gr rs wr c d x0 x5 HB.out.r; rwa [HM.out c d hc hd] at this)
     have hbu:=Qop g n cn An (.pointer (some ⟨w.heap.size + 1 + 1,0,none⟩)) (.pointer (some ⟨Ba,0,none⟩)) (.pointer (some ⟨wo.heap.size,0,none⟩)) (.pointer (some ⟨w.heap.size,0,none⟩)) (fun c=>L c a && L c b) (fun x y=>L y x) wr HN.out (by omega) HP.out.turn
      (fun c hc=>by have:=Qsf (w.heap.size + 1 + 1) Ba wo.heap.size w.heap.size g gr rs wr a b c x2 x3 x4 x0 x5 HB.out.r; rwa [HM.out c a hc (by omega),HM.out c b hc hbn] at this)
      (fun c d hc hd=>by have:=Qk6 w.heap.size g gr rs wr c d x0 x5 HB.out.r; rwa [HM.out d c hd hc] at this)
     have hjc:=LatM.bestL_cases n (fun c=>L a c && L b c) L
     have hmc:=LatM.bestL_cases n (fun c=>L c a && L c b) (fun x y=>L y x)
     obtain ⟨j,hj,m,hm⟩:=V2 (LatM.bestL n (fun c=>L a c && L b c) L) (LatM.bestL n (fun c=>L c a && L c b) (fun x y=>L y x))
     rw [← hj] at hbd hjc;rw [← hm] at hbu hmc;obtain ⟨HBD,HBU⟩:=Z2 hbd hbu;have HJ:Hid (j=LatM.joinL n L a b):=hide hj;have HMM:Hid (m=LatM.joinL n (fun x y=>L y x) a b):=hide hm
     obtain ⟨HJC,HMC⟩:=Z2 hjc hmc;clear hbd hbu hj hm hjc hmc x5;go_upto_block 3 with fail
     go_cut [] (fun wx=>Quq w g gr rs (.slice An n cn) c1 n L b a Ba wo.heap.size wx)
     case first =>
      go_wp2_with fail
      refine HBD.out.mono ?_;rintro e w' ⟨rfl,rfl⟩;go_wp2_with fail
      refine HBU.out.mono ?_;rintro e w' ⟨rfl,rfl⟩;rcases HJC.out with rfl | ⟨cj,_,rfl,_⟩
      ·go_wp2_with fail
       go_ret
       exact BoundsPost.fail (Qhc HP.out hbn hab HD.out.2.2 (.inl HJ.out.symm)) HB.out.grown
      ·have hcj:((cj:Int) == -1)=false:=by rw [beq_eq_false_iff_ne]; omega
       rcases HMC.out with rfl | ⟨cm,_,rfl,_⟩
       ·go_wp2_with fail
        go_ret
        exact BoundsPost.fail (Qhc HP.out hbn hab HD.out.2.2 (.inr HMM.out.symm)) HB.out.grown
       ·have hcm:((cm:Int) == -1)=false:=by rw [beq_eq_false_iff_ne]; omega
        go_upto_region 13 with fail
        go_cut [] (fun wx=>∃ J2:Nat→Nat→Int,BMem w g gr rs (.slice An n cn) c1 J2 M' wx∧Blk wx Ba 3 #[.int .i64 (a:Int)]∧Blk wx wo.heap.size 3 #[.int .i64 (b:Int)]∧Hid (DoneTo (LatM.joinL n L) J2 b (a + 1)))
        case first =>
         have y0:=HB.out.l.cellJ (show a < 32 by omega) (show b < 32 by omega)
         have y1:=HB.out.l.cellJ (show b < 32 by omega) (show a < 32 by omega)
         have z0:=HB.out.l.free (3 + a * 32 + b);have z1:=HB.out.l.free (3 + b * 32 + a);have i0:=nZ a;have i1:(a:Int) < 32:=by omega
         have i2:=nZ b;have i3:(b:Int) < 32:=by omega
         have y2:=(HB.out.l.setJ (show a < 32 by omega) (show b < 32 by omega) (cj:Int)).cellJ (show b < 32 by omega) (show a < 32 by omega)
         have y3:=(HB.out.l.setJ (show b < 32 by omega) (show a < 32 by omega) (cj:Int)).cellJ (show a < 32 by omega) (show b < 32 by omega)
         have hD:=DoneTo.step HD2.out.1 (LatM.joinL_comm n L a b);rw [← HJ.out] at hD;have HDD:=hide hD;clear hD;go_region
         all_goals
          go_wp2_with fail
          go_meet
          first
           | exact ⟨_,((HB.out.setJ (show a < 32 by omega) (show b < 32 by omega) (cj:Int)).setJ (show b < 32 by omega) (show a < 32 by omega) (cj:Int)).drew,((HA.out.far (show Ba≠g by omega) _).far (show Ba≠g by omega) _),((HBb.out.far (show wo.heap.size≠g by omega) _).far (show wo.heap.size≠g by omega) _),HDD.out.1⟩
           | exact ⟨_,((HB.out.setJ (show b < 32 by omega) (show a < 32 by omega) (cj:Int)).setJ (show a < 32 by omega) (show b < 32 by omega) (cj:Int)).drew,((HA.out.far (show Ba≠g by omega) _).far (show Ba≠g by omega) _),((HBb.out.far (show wo.heap.size≠g by omega) _).far (show wo.heap.size≠g by omega) _),HDD.out.2⟩
        case rest =>
         obtain ⟨J2,hB2,hA2,hBb2,HDJ⟩:=hcut;clear x0 x1 x2 x3 x4 HB HBb HBD HBU HN l0 l1 l2 l3 l4;obtain ⟨wd,rfl⟩:∃ wd:World,wd=wc:=⟨_,rfl⟩;obtain ⟨HB2,HA2,HBb2⟩:=Z3 hB2 hA2 hBb2;have x0:=hB2.t.cell 0;have x3:=hA2.cell 0;have x4:=hBb2.cell 0;simp only [gA,gH] at x0 x3 x4;clear hB2 hA2 hBb2;have y0:=HB2.out.l.cellM (show a < 32 by omega) (show b < 32 by omega)
         have y1:=HB2.out.l.cellM (show b < 32 by omega) (show a < 32 by omega)
         have z0:=HB2.out.l.free (1027 + a * 32 + b);have z1:=HB2.out.l.free (1027 + b * 32 + a);have i0:=nZ a;have i1:(a:Int) < 32:=by omega
         have i2:=nZ b;have i3:(b:Int) < 32:=by omega
         have y2:=(HB2.out.l.setM (show a < 32 by omega) (show b < 32 by omega) (cm:Int)).cellM (show b < 32 by omega) (show a < 32 by omega)
         have y3:=(HB2.out.l.setM (show b < 32 by omega) (show a < 32 by omega) (cm:Int)).cellM (show a < 32 by omega) (show b < 32 by omega)
         have hD:=DoneTo.step HD2.out.2.1 (LatM.joinL_comm n (fun x y=>L y x) a b)
         rw [← HMM.out] at hD;have HDD:=hide hD;clear hD;have HXX:=hide (below_step (P:=fun x=>0≤LatM.joinL n L x b∧0≤LatM.joinL n (fun x y=>L y x) x b) HD2.out.2.2 ⟨by rw [← HJ.out]; omega,by rw [← HMM.out]; omega⟩)
         go_wp2_with fail
         go_region
         all_goals
          go_wp2_with fail
          go_meet
          first
           | exact ⟨_,_,((HB2.out.setM (show a < 32 by omega) (show b < 32 by omega) (cm:Int)).setM (show b < 32 by omega) (show a < 32 by omega) (cm:Int)).drew,((HA2.out.far (show Ba≠g by omega) _).far (show Ba≠g by omega) _),((HBb2.out.far (show wo.heap.size≠g by omega) _).far (show wo.heap.size≠g by omega) _),HDJ.out,HDD.out.1,HXX.out⟩
           | exact ⟨_,_,((HB2.out.setM (show b < 32 by omega) (show a < 32 by omega) (cm:Int)).setM (show a < 32 by omega) (show b < 32 by omega) (cm:Int)).drew,((HA2.out.far (show Ba≠g by omega) _).far (show Ba≠g by omega) _),((HBb2.out.far (show wo.heap.size≠g by omega) _).far (show wo.heap.size≠g by omega) _),HDJ.out,HDD.out.2,HXX.out⟩
     case rest =>
      obtain ⟨J2,M2,hB3,hA3,hBb3,hDJ,hDM,hXX⟩:=hcut;obtain ⟨HDJ,HDM,HXX⟩:=Z3 hDJ hDM hXX;clear x0 x1 x2 x3 x4 HB HBb HBD HBU HN l0 l1 l2 l3 l4 hDJ hDM hXX;obtain ⟨HB3,HBb3⟩:=Z2 hB3 hBb3;have x3:=hA3.cell 0;simp only [gA,gH] at x3;have l3:=hA3.lt;clear hB3 hA3 hBb3;go_wp2_with fail
      go_roundw
      case rel =>
       refine ⟨a + 1,wc.heap.size,J2,M2,by omega,rfl,by omega,?_,HBb3.out.alloc _,HB3.out.alloc _,HDJ.out,HDM.out,HXX.out⟩
       rw [show (((a + 1:Nat)):Int)=(a:Int) + 1 from by omega]
       exact Blk.new _ _ _
      case measure =>
       have h3:=HA.out.cell 0;simp only [gA,gH] at h3;simp [intOf,h3]
       omega
    ·obtain rfl:a=b + 1:=by omega
     have HDN:=hide (And.intro (DoneTo.next HD2.out.1) (And.intro (DoneTo.next HD2.out.2.1) (show LatM.lacks n L b=false by
      rw [← Bool.not_eq_true,LatM.lacks_iff];rintro ⟨x,hx,h | h⟩
      ·have:=(HD2.out.2.2 x (by omega)).1; omega
      ·have:=(HD2.out.2.2 x (by omega)).2; omega)))
     have hsz2:w.heap.size + 3≤wr.heap.size:=by omega
     go_wp2_with fail
     go_roundw
     case rel=>exact ⟨b + 1,J',M',by omega,by go_num,HB.out,hsz2,HDN.out.1,HDN.out.2.1,below_step HD.out.2.2 HDN.out.2.2⟩
     case measure=>simp [intOf]; omega
  ·obtain rfl:b=n:=by omega
   have hb0:=LatM.boundsL_miss HD.out.2.2;have HF:=hide hb0;clear hb0;go_wp2_with fail
   go_ret
   exact ⟨Qq HF.out.symm,HB.out.grown,fun _=>⟨HB.out.r,J,M,HB.out.l,fun x y hx hy=>⟨HD.out.1 x y (.inl ⟨hx,hy⟩),HD.out.2.1 x y (.inl ⟨hx,hy⟩)⟩⟩⟩
end Go.Proofs.YtanpljalbijfkaaGreat
namespace Go.Proofs.YtanpljalbijfkaaGreat.LatM
theorem Lat.turn {n:Nat} {M:Nat→Nat→Bool} (h:Lat n M):Lat n (fun a b=>M b a):=⟨h.po.turn,h.some,h.meet,h.join⟩
def jn (n:Nat) (M:Nat→Nat→Bool) (a b:Nat):Nat:=(joinL n M a b).toNat
theorem jn_eq {n:Nat} {M:Nat→Nat→Bool} (h:Lat n M) {a b:Nat} (ha:a < n) (hb:b < n):joinL n M a b=jn n M a b∧jn n M a b < n:=by
 obtain ⟨j,hj,e⟩:=h.join a b ha hb;unfold jn;rw [e];exact ⟨rfl,hj⟩
theorem jn_iff {n:Nat} {M:Nat→Nat→Bool} (h:Lat n M) {a b c:Nat} (ha:a < n) (hb:b < n) (hc:c < n):M (jn n M a b) c=true↔M a c=true∧M b c=true:=by
 obtain ⟨e,hj⟩:=jn_eq h ha hb;exact (joinL_iff h.po ha hb hj).1 e c hc
theorem jn_left {n:Nat} {M:Nat→Nat→Bool} (h:Lat n M) {a b:Nat} (ha:a < n) (hb:b < n):M a (jn n M a b)=true∧M b (jn n M a b)=true :=
 have hj:=(jn_eq h ha hb).2
 (jn_iff h ha hb hj).1 (h.po.refl _ hj)
def topTo (n:Nat) (M:Nat→Nat→Bool):Nat→Nat
 | 0=>0
 | k + 1=>jn n M (topTo n M k) k
theorem topTo_facts {n:Nat} {M:Nat→Nat→Bool} (h:Lat n M) (k:Nat) (hk:k≤n):topTo n M k < n∧∀ a,a < k→M a (topTo n M k)=true:=by
 induction k with
 | zero=>exact ⟨h.some,fun a ha=>by omega⟩
 | succ k ih =>
  obtain ⟨h1,h2⟩:=ih (by omega)
  have h3:=(jn_eq h h1 (show k < n by omega)).2
  obtain ⟨h4,h5⟩:=jn_left h h1 (show k < n by omega)
  refine ⟨h3,fun a ha=>?_⟩
  by_cases e:a=k
  ·subst e; exact h5
  ·exact h.po.trans a _ _ (by omega) h1 h3 (h2 a (by omega)) h4
def topN (n:Nat) (M:Nat→Nat→Bool):Nat:=topTo n M n
theorem topN_lt {n:Nat} {M:Nat→Nat→Bool} (h:Lat n M):topN n M < n:=(topTo_facts h n nL).1
theorem topN_top {n:Nat} {M:Nat→Nat→Bool} (h:Lat n M) {a:Nat} (ha:a < n):M a (topN n M)=true:=(topTo_facts h n nL).2 a ha
end Go.Proofs.YtanpljalbijfkaaGreat.LatM
namespace Go.Proofs.YtanpljalbijfkaaGreat
open Go.RowKit
set_option maxHeartbeats 16000000
def Q7 (ws:List Wd) (i:Nat):Option (Int × Int) :=
 if Qj (wNm ws i)=false then some (9,wPl ws i) else if findL (nms ws) (wNm ws i) < (i:Int) then some (10,wPl ws i) else none
def lo (os:List (Wd × Wd)) (i:Nat):Wd:=(os.getD i (wd0,wd0)).1
def hi (os:List (Wd × Wd)) (i:Nat):Wd:=(os.getD i (wd0,wd0)).2
def Q4 (ws:List Wd) (os:List (Wd × Wd)) (i:Nat):Option (Int × Int) :=
 if findL (nms ws) (lo os i).1 < 0 then some (17,(lo os i).2) else if findL (nms ws) (hi os i).1 < 0 then some (17,(hi os i).2) else none
def prs (ws:List Wd) (os:List (Wd × Wd)):List (Int × Int):=os.map fun p=>(findL (nms ws) p.1.1,findL (nms ws) p.2.1)
theorem prs_length (ws:List Wd) (os:List (Wd × Wd)):(prs ws os).length=os.length:=by simp [prs]
theorem prs_at {ws:List Wd} {os:List (Wd × Wd)} {i:Nat} (h:i < (prs ws os).length):(prs ws os)[i]=(findL (nms ws) (lo os i).1,findL (nms ws) (hi os i).1):=by
 have h':i < os.length:=by simpa [prs] using h
 simp [prs,lo,hi,List.getD_eq_getElem?_getD,List.getElem?_eq_getElem h']
def leqL (ws:List Wd) (os:List (Wd × Wd)) (a b:Nat):Bool:=mat (leads ws.length (prs ws os)) a b
def Qbm (ws:List Wd) (os:List (Wd × Wd)):Int × Int :=
 if LatM.boundsL ws.length (leqL ws os) < 0 then (0,0) else (12,wPl ws (LatM.boundsL ws.length (leqL ws os)).toNat)
def Qb5 (ws:List Wd) (os:List (Wd × Wd)):Int × Int :=
 match Qac (leads ws.length (prs ws os)) with
 | some a=>(11,wPl ws a)
 | none=>Qbm ws os
def wrongL (ws:List Wd) (os:List (Wd × Wd)):Int × Int :=
 if ws.length=0 then (15,0) else if 32 < ws.length then (8,wPl ws 32) else if 256 < os.length then (8,(lo os 256).2) else
 match Qf (Q7 ws) ws.length with
 | some x=>x
 | none=>match Qf (Q4 ws os) os.length with
  | some x=>x
  | none=>Qb5 ws os
theorem Qf4 {ws:List Wd} {os:List (Wd × Wd)} (h:∀ j,j < os.length→Q4 ws os j=none):Qah ws.length (prs ws os)=true:=by
 unfold Qah;rw [List.all_eq_true];intro p hp;obtain ⟨i,hi',rfl⟩:=List.getElem_of_mem hp;rw [prs_at hi'];have h1:=h i (by simpa [prs] using hi')
 unfold Q4 at h1;have b1:=Qep (nms ws) (lo os i).1;have b2:=Qep (nms ws) (hi os i).1;rw [nms_length] at b1 b2;by_cases c1:findL (nms ws) (lo os i).1 < 0
 ·rw [if_pos c1] at h1; cases h1
 by_cases c2:findL (nms ws) (hi os i).1 < 0
 ·rw [if_neg c1,if_pos c2] at h1; cases h1
 unfold okP;simp
 omega
structure GoodL (ws:List Wd) (os:List (Wd × Wd)):Prop where
 pos:0 < ws.length
 few:ws.length≤32
 fewO:os.length≤256
 named:∀ i,i < ws.length→Q7 ws i=none
 found:∀ i,i < os.length→Q4 ws os i=none
 lat:LatM.Lat ws.length (leqL ws os)
theorem Qtt {n:Nat} {ps:List (Int × Int)} (hok:Qah n ps=true) (h:Qac (leads n ps)=none):LatM.Po n (mat (leads n ps)):=by
 refine ⟨fun a ha=>(Qb4 hok a a ha).2 (.refl _),fun a b c ha hb hc h1 h2=>?_,fun a b ha hb h1 h2=>?_⟩
 ·exact (Qb4 hok a c ha).2 (((Qb4 hok a b ha).1 h1).trans ((Qb4 hok b c hb).1 h2))
 ·by_cases e:a=b
  ·exact e
  ·have:=Qup hok h a b ha hb e h1; rw [this] at h2; cases h2
theorem Qmz {n:Nat} {M:Nat→Nat→Bool} (h:LatM.boundsL n M < 0):∀ j,j < n→LatM.lacks n M j=false:=by
 intro j hj;unfold LatM.boundsL at h;cases hf:(List.range n).find? (LatM.lacks n M) with
 | some b=>rw [hf] at h; exact absurd h (by show ¬ (b:Int) < 0; omega)
 | none =>
  rw [List.find?_eq_none] at hf;simpa using hf j (List.mem_range.2 hj)
theorem Qgy {ws:List Wd} {os:List (Wd × Wd)} (h:(wrongL ws os).1=0):GoodL ws os:=by
 unfold wrongL at h;by_cases c1:ws.length=0
 ·rw [if_pos c1] at h; cases h
 rw [if_neg c1] at h;by_cases c2:32 < ws.length
 ·rw [if_pos c2] at h; cases h
 rw [if_neg c2] at h;by_cases c3:256 < os.length
 ·rw [if_pos c3] at h; cases h
 rw [if_neg c3] at h;cases h1:Qf (Q7 ws) ws.length with
 | some x =>
  rw [h1] at h;exfalso
  obtain ⟨i,_,hi'⟩:=List.exists_of_findSome?_eq_some h1;unfold Q7 at hi';split at hi'
  ·cases hi'; cases h
  ·split at hi'
   ·cases hi'; cases h
   ·cases hi'
 | none =>
  rw [h1] at h;have hn:=firstOf_miss.1 h1;cases h2:Qf (Q4 ws os) os.length with
  | some x =>
   rw [h2] at h;exfalso
   obtain ⟨i,_,hi'⟩:=List.exists_of_findSome?_eq_some h2;unfold Q4 at hi';split at hi'
   ·cases hi'; cases h
   ·split at hi'
    ·cases hi'; cases h
    ·cases hi'
  | none =>
   rw [h2] at h;have ho:=firstOf_miss.1 h2;have hok:=Qf4 ho;unfold Qb5 at h;cases h3:Qac (leads ws.length (prs ws os)) with
   | some a=>rw [h3] at h; cases h
   | none =>
    rw [h3] at h;have hpo:=Qtt hok h3;unfold Qbm at h;dsimp only at h
    by_cases c4:LatM.boundsL ws.length (leqL ws os) < 0
    ·exact ⟨by omega,by omega,by omega,hn,ho,LatM.lat_of hpo (by omega) (Qmz c4)⟩
    ·rw [if_neg c4] at h; cases h
end Go.Proofs.YtanpljalbijfkaaGreat
