/- . -/
import Derived.Test.YtanpljalbijfkaaGreatQ00
import Derived.Test.YtanpljalbijfkaaGreatQ21
import Derived.OrdersHeld
namespace Go.Proofs.YtanpljalbijfkaaGreat
open Go.RowKit
set_option maxHeartbeats 16000000
def BldAt (w:World) (gb:Nat) (A3:Option Addr) (n c3:Nat) (xs:List Value) (gl gp:Nat) (m:Int):Prop :=
 ∃ y1 y2,xs.length=9∧Blk w gb 85 (y1 :: y2 :: .slice A3 n c3 :: (xs ++ [.pointer (some ⟨gl,0,none⟩),.pointer (some ⟨gp,0,none⟩),.int .i64 m])).toArray
section
variable {w w':World} {gb:Nat} {A3:Option Addr} {n c3:Nat} {xs:List Value} {gl gp:Nat} {m:Int}
theorem BldAt.nine (h:BldAt w gb A3 n c3 xs gl gp m):∃ a0 a1 a2 a3 a4 a5 a6 a7 a8:Value,xs = [a0,a1,a2,a3,a4,a5,a6,a7,a8]:=by
 obtain ⟨_,_,h,_⟩:=h;match xs,h with
 | [a0,a1,a2,a3,a4,a5,a6,a7,a8],_=>exact ⟨a0,a1,a2,a3,a4,a5,a6,a7,a8,rfl⟩
theorem BldAt.ext (h:BldAt w gb A3 n c3 xs gl gp m) (hE:Ext w w'):BldAt w' gb A3 n c3 xs gl gp m:=by
 obtain ⟨y1,y2,hl,hB⟩:=h;exact ⟨y1,y2,hl,hB.ext hE⟩
theorem BldAt.mv (h:BldAt w gb A3 n c3 xs gl gp m) {X:Nat→Prop} (hm:Mv X w w') (hx:¬ X gb):BldAt w' gb A3 n c3 xs gl gp m:=by
 obtain ⟨y1,y2,hl,hB⟩:=h;exact ⟨y1,y2,hl,hm.blk hB hx⟩
theorem BldAt.lt (h:BldAt w gb A3 n c3 xs gl gp m):gb < w.heap.size:=by
 obtain ⟨y1,y2,hl,hB⟩:=h;exact hB.lt
theorem BldAt.ne (h:BldAt w gb A3 n c3 xs gl gp m) {g:Nat} {t:TypeId} {cs:Array Value} (hB:Blk w g t cs) (ht:t≠85):g≠gb:=by
 obtain ⟨y1,y2,hl,hB'⟩:=h;intro e;subst e;unfold Blk at hB hB';rw [hB] at hB';injection hB' with hB'
 injection hB' with h1 h2
 exact ht h2
theorem BldAt.c2 (h:BldAt w gb A3 n c3 xs gl gp m):w.cell? ⟨gb,2,none⟩=some (.slice A3 n c3):=by
 obtain ⟨y1,y2,hl,hB⟩:=h;exact hB.cell 2
theorem BldAt.root (h:BldAt w gb A3 n c3 xs gl gp m):w.rangeAt gb 3 xs:=by
 obtain ⟨y1,y2,hl,hB⟩:=h;intro j v hv;have hj:j < xs.length:=(List.getElem?_eq_some_iff.1 hv).1;rw [hB.cell (3 + j)];rw [gA,show 3 + j=j + 1 + 1 + 1 by omega,gS,gS,gS,List.getElem?_append_left hj]
 exact hv
theorem BldAt.c12 (h:BldAt w gb A3 n c3 xs gl gp m):w.cell? ⟨gb,12,none⟩=some (.pointer (some ⟨gl,0,none⟩)):=by
 obtain ⟨a0,a1,a2,a3,a4,a5,a6,a7,a8,rfl⟩:=h.nine;obtain ⟨y1,y2,hl,hB⟩:=h;exact hB.cell 12
theorem BldAt.c13 (h:BldAt w gb A3 n c3 xs gl gp m):w.cell? ⟨gb,13,none⟩=some (.pointer (some ⟨gp,0,none⟩)):=by
 obtain ⟨a0,a1,a2,a3,a4,a5,a6,a7,a8,rfl⟩:=h.nine;obtain ⟨y1,y2,hl,hB⟩:=h;exact hB.cell 13
theorem BldAt.c14 (h:BldAt w gb A3 n c3 xs gl gp m):w.cell? ⟨gb,14,none⟩=some (.int .i64 m):=by
 obtain ⟨a0,a1,a2,a3,a4,a5,a6,a7,a8,rfl⟩:=h.nine;obtain ⟨y1,y2,hl,hB⟩:=h;exact hB.cell 14
theorem BldAt.f14 (h:BldAt w gb A3 n c3 xs gl gp m):w.frozen? ⟨gb,14,none⟩=false:=by
 obtain ⟨y1,y2,hl,hB⟩:=h;exact hB.free 14
theorem BldAt.set14 (h:BldAt w gb A3 n c3 xs gl gp m) (m':Int):BldAt (w.setCell ⟨gb,14,none⟩ (.int .i64 m')) gb A3 n c3 xs gl gp m':=by
 obtain ⟨a0,a1,a2,a3,a4,a5,a6,a7,a8,rfl⟩:=h.nine;obtain ⟨y1,y2,hl,hB⟩:=h;exact ⟨y1,y2,rfl,hB.set_ 14 _⟩
end
set_option maxRecDepth 100000 in
theorem Qj2 (gb gl gp n c3:Nat) (A3:Option Addr) (xs:List Value) (mm:Int) (s:Sch) (A:Option Addr) (c m:Nat) (us:List Wd) (w:World) (hB:BldAt w gb A3 n c3 xs gl gp mm) (hL:LatAt w gl s.ws s.os) (hok:LatOk s) (hu:WdsAt w w.heap.size A us) (hm:m=us.length) (hm':m≤9223372036854775807) :
  Calls Tryz.prog 111 #[.pointer (some ⟨gb,0,none⟩),.slice A m c] w (fun e w'=>e = .returned (.int .i64 (ofI s.ws s.os us))∧Ext w w'):=by
 have HO:=hide (Qjw gl s.ws s.os A c m us w hL hok.few hok.lat hu hm hm');have b12:=hB.c12;obtain ⟨x,hx⟩:=V1 (ofI s.ws s.os us);obtain ⟨⟨f1,f2⟩,hf⟩:∃ x,x=ofF s.ws us:=⟨_,rfl⟩;rw [← hx,← hf] at HO;rw [← hx];clear hB hL hok hu hm hx hf;go_enter Tryz.func111,Tryz.ntmps111
 go_wp2_with fail
 refine HO.out.mono ?_;rintro e w1 ⟨rfl,hE1⟩;have HE1:=hide hE1;clear hE1;unfold fltV;go_wp2_with fail
 go_ret
 exact ⟨rfl,HE1.out.alloc HE1.out.size _⟩
theorem Qb6 {s:Sch} (h:0 < s.n) (x:ByteArray):s.find x < s.n:=by
 unfold Sch.find;have hl:s.names.length=s.n:=by simp [Sch.names]
 rcases Qch s.names x with ⟨e,_⟩ | ⟨i,hi,e,_⟩
 ·rw [e]; exact h
 ·rw [e,Int.toNat_natCast]; omega
theorem closed (s:Sch):s.Closed:=fun i hi _=>Qb6 (by omega) _
theorem Qff (s:Sch) (x:ByteArray):findR s.names x = .tuple #[.int .i64 (s.find x:Nat),.bool (decide (0≤findL s.names x))]:=by
 unfold findR Sch.find;rcases Qch s.names x with ⟨e,_⟩ | ⟨i,hi,e,_⟩
 ·rw [e]; rfl
 ·rw [e,if_neg (by omega),Int.toNat_natCast]
def Qvg:Option Nat→Int | some j=>j | none=>-1
theorem Qbg:(Tryz.prog.info? 29).map (·.size)=some 9:=by kernel_rfl
theorem Qbp {w:World} {b o:Nat} {xs ys:List Value} (h:w.rangeAt b o (xs ++ ys)):w.rangeAt b (o + xs.length) ys:=by
 intro j v hv;have:=h (xs.length + j) v (by rw [List.getElem?_append_right (Nat.le_add_right _ _),Nat.add_sub_cancel_left]; exact hv)
 rw [← Nat.add_assoc] at this;exact this
set_option maxRecDepth 100000 in
theorem Qn4 (gb gl gp gt n c3:Nat) (A3:Option Addr) (xs:List Value) (mm r0:Int) (NV MV:Value) (s:Sch) (i:Nat) (w:World) (hB:BldAt w gb A3 n c3 xs gl gp mm) (hn:n=s.n) (h64:n≤1000000) (hi:i < n)
  (hP:Blk w gp 83 #[.pointer (some ⟨gl,0,none⟩),NV,.int .i64 r0,.pointer (some ⟨gt,0,none⟩),MV]) (hT:TabAt w gt s.names) (hN:NamedAt w w.heap.size A3 n s.nm s.ty) :
  Calls Tryz.prog 74 #[.pointer (some ⟨gb,0,none⟩),.int .i64 (i:Int)] w (fun e w'=>e = .returned (.int .i64 (Qvg (s.endK n i)))∧Ext w w'):=by
 have HF:=hide (fun x w1 (hE:Ext w w1)=>(show Calls Tryz.prog 72 #[.pointer (some ⟨gt,0,none⟩),.string x] w1 (fun e w'=>e = .returned (.tuple #[.int .i64 (s.find x:Nat),.bool (decide (0≤findL s.names x))])∧Ext w1 w') by
  have:=Qbh gt s.names x w1 (hT.ext hE) (by simp [Sch.names]; omega)
  rw [Qff] at this;exact this))
 obtain ⟨HB,HP,HN⟩:=Z3 hB hP hN;have hFL:=fun x=>Qb6 (s:=s) (by omega) x
 rw [← hn] at hFL;have HFL:=hide hFL;obtain ⟨E,hE_⟩:=V1 (s.endK n i);rw [← hE_];have HE0:=hide hE_;have b2:=hB.c2;have hle:(n:Int)≤1000000:=by omega
 have hle0:=nZ n;clear hB hP hN hT hn hFL hE_;go_enter Tryz.func74,Tryz.ntmps74
 go_wp2_with fail
 clear b2;go_loopw [13,1] (fun c iv wr=>∃ (r j:Nat),r≤n + 1∧c = .int .i64 (r:Int)∧iv = .int .i64 (j:Int)∧j < n∧Ext w wr∧Hid ((r≤n→s.endK (n - r) j=E)∧(r=n + 1→E=none))) (fun c _ _=>n + 1 - (intOf c).toNat)
 case atStart=>exact ⟨0,i,Nat.zero_le _,rfl,rfl,hi,Ext.rfl' _,⟨fun _=>by rw [HE0.out]; rfl,fun h=>by omega⟩⟩
 case round =>
  obtain ⟨r,j,hr,rfl,rfl,hj,hE,HR⟩:=hrel;have HE:=hide hE;by_cases hlt:r < n + 1
  ·obtain ⟨b,o,rfl,hb,hc⟩:=HN.out (by omega)
   obtain ⟨vt,h1,h2⟩:=hc j hj;have hrg:wr.rangeAt b (o + j * 11 + 2) vt:=Qbp (xs:=[.string (s.nm j).1,.int .i64 (s.nm j).2]) fun j' v hv=>(hE.cell (p:=⟨b,o + j * 11 + j',none⟩) hb).trans (h1 j' v hv)
   cases ht:s.ty j with
   | nil=>rw [ht] at h2; exact h2.elim
   | mk h np p t =>
    rw [ht] at h2;obtain ⟨An,cn,Ap,cp,rfl,_,_⟩:=h2;have HRG:=hide hrg;unfold tyV at HRG;have b2:=(HB.out.ext hE).c2;obtain ⟨w5,hw5,g5,hg5⟩:=V2 (wr.alloc (.cells #[.int .i64 h.kind,.int .i64 h.at_,.int .i64 h.lo,.int .i64 h.hi,.int .i64 h.most,.slice An h.names.length cn,.slice Ap np cp,.string h.name.1,.int .i64 h.name.2] 29)) (wr.heap.size);have hV:Blk w5 g5 29 #[.int .i64 h.kind,.int .i64 h.at_,.int .i64 h.lo,.int .i64 h.hi,.int .i64 h.most,.slice An h.names.length cn,.slice Ap np cp,.string h.name.1,.int .i64 h.name.2]:=by rw [hw5,hg5]; exact Blk.new _ _ _
    have hVE:Ext wr w5:=by rw [hw5]; exact (Ext.rfl' wr).alloc nL _
    obtain ⟨Hw5,Hg5⟩:=Z2 hw5 hg5;obtain ⟨v0,-,-,-,-,-,-,v7⟩:=X8 hV;have HE5:=hide (hE.trans' hVE);have i0:=nZ j;have i1:(j:Int) < (n:Int):=by omega
    have r0':(0:Int)≤(r:Int):=by omega
    have r1:(r:Int) < (n:Int) + 1:=by omega
    have r2:decide ((r:Int) < (n:Int) + 1)=true:=by simpa using r1
    have hR1:=HR.out.1 (by omega)
    by_cases hk:h.kind=9
    ·have hst:s.endK (n - r) j=if n - r=0 then none else s.endK (n - r - 1) (s.find h.name.1):=by
      cases hnr:n - r with
      | zero=>rw [Sch.endK_zero,ht,if_pos (show (Ty.mk h np p t).kd=9 from hk),if_pos rfl]
      | succ q=>rw [Sch.endK_succ,ht,if_pos (show (Ty.mk h np p t).kd=9 from hk),if_neg (by omega)]; rfl
     have HNX:=hide (show (r + 1≤n→s.endK (n - (r + 1)) (s.find h.name.1)=E)∧(r + 1=n + 1→E=none) by
      rw [hR1] at hst;refine ⟨fun hh=>?_,fun hh=>?_⟩
      ·rw [if_neg (by omega)] at hst
       rw [hst,show n - (r + 1)=n - r - 1 by omega]
      ·rw [if_pos (by omega)] at hst
       exact hst)
     obtain ⟨x,hx⟩:=V1 (h.name.1);rw [← hx] at HNX v7 HRG Hw5 hV;obtain ⟨f,hf⟩:=V1 (s.find x);have hfl:=HFL.out x;have HFx:=hide (HF.out x);rw [← hf] at HNX hfl HFx;obtain ⟨fb,hfb⟩:=V1 (decide (0≤findL s.names x));rw [← hfb] at HFx;have hk':(h.kind == 9)=true:=by rw [hk]; rfl
     have hk2:(h.kind != 9)=false:=by rw [hk]; rfl
     have p3:=(HP.out.ext HE5.out).cell 3;have b13:=(HB.out.ext HE5.out).c13;simp only [gA,gH,gS] at p3;have HV5:=hide hV;clear hrg h1 hc hst hR1 hE hw5 hg5 hV hVE ht hk hx hf hfb;go_upto_region 3 with fail
     refine wp_region_lit ?_;refine wpList_plain rfl fun K0 hK0=>?_
     go_simp;refine hK0 _ _ ?_;refine wpList_plain rfl fun K1 hK1=>?_
     go_simp;refine hK1 _ _ ?_;refine wpList_plain rfl fun K2 hK2=>?_
     go_simp;refine hK2 _ _ ?_;refine wpList_plain rfl fun K3 hK3=>?_
     go_simp;refine hK3 _ _ ?_;refine wpList_plain rfl fun K4 hK4=>?_
     go_simp;refine hK4 _ _ ?_;refine wpList_plain rfl fun K5 hK5=>?_
     go_simp;refine hK5 _ _ ?_;refine wpList_plain rfl fun K6 hK6=>?_
     go_simp;refine hK6 _ _ ?_;refine wpList_plain rfl fun K7 hK7=>?_
     go_simp;refine hK7 _ _ ?_;refine wpList_load_mid rfl 29 _ rfl b (o + j * 11 + 2) rfl _ _ HRG.out Tryz.underlying29 rfl Qbg ?_;refine wpList_plain rfl fun K0 hK0=>?_
     go_simp;refine hK0 _ _ ?_;refine Qc rfl 29 _ _ rfl _ #[.int .i64 h.kind,.int .i64 h.at_,.int .i64 h.lo,.int .i64 h.hi,.int .i64 h.most,.slice An h.names.length cn,.slice Ap np cp,.string x,.int .i64 h.name.2] rfl rfl Qbg rfl (by simp [Value.oneCell']) ?_
     go_upto_region 4 with fail
     rw [← Hw5.out,← Hg5.out];clear b2;go_wp2_with fail
     refine Qbf (by kernel_rfl) (by kernel_rfl) w5 (Ext.rfl' _) ?_
     intro I _ f_ hf hc;have q3:∀ n,(f_ n).cell? ⟨gp,3,none⟩=some (.pointer (some ⟨gt,0,none⟩)):=fun n=>((HP.out.ext HE5.out).ext (hf n)).cell 3
     have q13:∀ n,(f_ n).cell? ⟨gb,13,none⟩=some (.pointer (some ⟨gp,0,none⟩)):=fun n=>((HB.out.ext HE5.out).ext (hf n)).c13
     have q7:∀ n,(f_ n).cell? ⟨g5,7,none⟩=some (.string x):=fun n=>(HV5.out.ext (hf n)).cell 7
     obtain ⟨H1,HG⟩:=Z2 (fun n=>Qcr hf hc (HFx.out (f_ n) (HE5.out.trans' (hf n)))) hf
     clear hf hc v0 v7 p3 b13;repeat (go_big_quiet_step ((go_at_call 72; with_reducible exact H1.out _)))
     refine wpQuiet_nil ?_;rintro _ ⟨nq,rfl⟩;go_wp2_with fail
     go_roundw
     case rel=>exact ⟨r + 1,f,by omega,by go_num,rfl,hfl,HE5.out.trans' (HG.out nq),HNX.out⟩
     case measure=>simp [intOf]; omega
    ·have HRT:=hide (show E=some j by
      rw [← hR1];cases hnr:n - r with
      | zero=>rw [Sch.endK_zero,ht,if_neg (show ¬ (Ty.mk h np p t).kd=9 from hk)]
      | succ q=>rw [Sch.endK_succ,ht,if_neg (show ¬ (Ty.mk h np p t).kd=9 from hk)])
     have hk':(h.kind == 9)=false:=by simpa using hk
     have hk2:(h.kind != 9)=true:=by simpa using hk
     clear hrg h1 hc hR1 hE hw5 hg5 hV hVE ht hk HR;go_upto_region 3 with fail
     refine wp_region_lit ?_;refine wpList_plain rfl fun K0 hK0=>?_
     go_simp;refine hK0 _ _ ?_;refine wpList_plain rfl fun K1 hK1=>?_
     go_simp;refine hK1 _ _ ?_;refine wpList_plain rfl fun K2 hK2=>?_
     go_simp;refine hK2 _ _ ?_;refine wpList_plain rfl fun K3 hK3=>?_
     go_simp;refine hK3 _ _ ?_;refine wpList_plain rfl fun K4 hK4=>?_
     go_simp;refine hK4 _ _ ?_;refine wpList_plain rfl fun K5 hK5=>?_
     go_simp;refine hK5 _ _ ?_;refine wpList_plain rfl fun K6 hK6=>?_
     go_simp;refine hK6 _ _ ?_;refine wpList_plain rfl fun K7 hK7=>?_
     go_simp;refine hK7 _ _ ?_;refine wpList_load_mid rfl 29 _ rfl b (o + j * 11 + 2) rfl _ _ HRG.out Tryz.underlying29 rfl Qbg ?_;refine wpList_plain rfl fun K0 hK0=>?_
     go_simp;refine hK0 _ _ ?_;refine Qc rfl 29 _ _ rfl _ #[.int .i64 h.kind,.int .i64 h.at_,.int .i64 h.lo,.int .i64 h.hi,.int .i64 h.most,.slice An h.names.length cn,.slice Ap np cp,.string h.name.1,.int .i64 h.name.2] rfl rfl Qbg rfl (by simp [Value.oneCell']) ?_
     go_upto_region 4 with fail
     rw [← Hw5.out,← Hg5.out];clear b2;go_wp2_with fail
     go_ret
     exact ⟨by rw [HRT.out]; rfl,HE5.out⟩
  ·obtain rfl:r=n + 1:=by omega
   have HRN:=hide (HR.out.2 rfl);have r2:decide ((((n + 1:Nat)):Int) < (n:Int) + 1)=false:=by simp
   clear hE HR;go_wp2_with fail
   go_ret
   exact ⟨by rw [HRN.out]; rfl,HE.out⟩
theorem Qa2:(Tryz.prog.info? 90).map (·.size)=some 11:=by kernel_rfl
theorem TyAt.open2 {t:Ty} {w:World} {B:Nat} {vs:List Value} (hT:TyAt w B t vs):∃ (h:TyH) (n:Nat) (p:Nat→PtH) (k:Nat→Ty) (An:Option Addr) (cn:Nat) (Ap:Option Addr) (cp:Nat),t = .mk h n p k∧vs=tyV h An cn Ap n cp:=by
 cases t with
 | nil=>exact hT.elim
 | mk h n p k =>
  obtain ⟨An,cn,Ap,cp,e,_⟩:=hT;exact ⟨h,n,p,k,An,cn,Ap,cp,rfl,e⟩
theorem Qqz {s:Sch} {k:Nat} (hk:k < s.n) (h0:∀ j,j < k→s.loopAt s.n j=none) (h:s.endK s.n k=none):s.loopsF s.n=(11,(s.nm k).2):=by
 unfold Sch.loopsF;rw [Qk hk h0 (show s.loopAt s.n k=some (11,(s.nm k).2) by unfold Sch.loopAt; rw [h,if_pos rfl])]
 rfl
theorem Qo3 {s:Sch} (h0:∀ j,j < s.n→s.loopAt s.n j=none):s.loopsF s.n=(0,0):=by
 unfold Sch.loopsF;rw [firstOf_miss.2 h0];rfl
theorem Qm9 {s:Sch} {k j:Nat} (h:s.endK s.n k=some j):s.loopAt s.n k=none:=by
 unfold Sch.loopAt; rw [h]; rfl
set_option maxRecDepth 100000 in
theorem Qq0 (gb gl gp gt n c3:Nat) (A3:Option Addr) (xs:List Value) (mm r0:Int) (NV MV:Value) (s:Sch) (w:World) (hB:BldAt w gb A3 n c3 xs gl gp mm) (hn:n=s.n) (h64:n≤1000000)
  (hP:Blk w gp 83 #[.pointer (some ⟨gl,0,none⟩),NV,.int .i64 r0,.pointer (some ⟨gt,0,none⟩),MV]) (hT:TabAt w gt s.names) (hN:NamedAt w w.heap.size A3 n s.nm s.ty) :
  Calls Tryz.prog 34 #[.pointer (some ⟨gb,0,none⟩)] w (fun e w'=>e = .returned (fltV (s.loopsF s.n))∧Ext w w'):=by
 obtain ⟨HEND,HIT,HMI,HSO⟩:=Z4 (fun (k:Nat) (hk:k < n) w1 (hE:Ext w w1)=>Qn4 gb gl gp gt n c3 A3 xs mm r0 NV MV s k w1 (hB.ext hE) hn h64 hk (hP.ext hE) (hT.ext hE) (hN.ext hE)) (fun k (hk:k < n) (hh:∀ j,j < k→s.loopAt s.n j=none) (he:s.endK n k=none)=>Qqz (s:=s) (k:=k) (by omega) hh (by rw [← hn]; exact he)) (fun (hh:∀ j,j < n→s.loopAt s.n j=none)=>Qo3 (s:=s) (fun j hj=>hh j (by omega))) (fun k j (he:s.endK n k=some j)=>Qm9 (s:=s) (k:=k) (j:=j) (by rw [← hn]; exact he))
 obtain ⟨R,hR⟩:=V1 (s.loopsF s.n);rw [← hR] at HIT HMI ⊢;obtain ⟨HB,HN⟩:=Z2 hB hN;have hle:(n:Int)≤1000000:=by omega
 have hle0:=nZ n;obtain ⟨w1,g,hw1,hg,Hw1,Hg,hZ,hZE⟩:=T0 w 34 #[.int .i64 0,.int .i64 0];obtain ⟨HE1,HZ⟩:=Z2 hZE hZ;have b2:=(hB.ext hZE).c2;clear hB hP hN hT hn hR hw1 hg hZ hZE;go_enter Tryz.func34,Tryz.ntmps34
 go_upto_region 1 with fail
 rw [← Hw1.out,← Hg.out];go_wp2_with fail
 clear b2;go_loopw [11] (fun i wr=>∃ k:Nat,k≤n∧i = .int .i64 (k:Int)∧Ext w1 wr∧Hid (∀ j,j < k→s.loopAt s.n j=none)) (fun i _=>n - (intOf i).toNat)
 case atStart=>exact ⟨0,Nat.zero_le _,rfl,Ext.rfl' _,fun j hj=>absurd hj (Nat.not_lt_zero _)⟩
 case round =>
  obtain ⟨k,hk,rfl,hE',HA⟩:=hrel;have hE:=HE1.out.trans' hE';obtain ⟨HE,HZr⟩:=Z2 hE (HZ.out.ext hE');by_cases hlt:k < n
  ·obtain ⟨b,o,rfl,hb,hc⟩:=HN.out (by omega)
   obtain ⟨vt,h1,h2⟩:=hc k hlt;have hrg:=fun j' (v:Value) hv=>(hE.cell (p:=⟨b,o + k * 11 + j',none⟩) hb).trans (h1 j' v hv)
   obtain ⟨h,np,p,t,An,cn,Ap,cp,hty,rfl⟩:=h2.open2;have HRG:=hide (show wr.rangeAt b (o + k * 11) ([.string (s.nm k).1,.int .i64 (s.nm k).2] ++ tyV h An cn Ap np cp) from hrg)
   unfold tyV at HRG;simp only [List.cons_append,List.nil_append] at HRG;obtain ⟨x,hx,y,hy⟩:=V2 ((s.nm k).1) ((s.nm k).2);rw [← hx,← hy] at HRG;obtain ⟨w5,g5,hw5,hg5,Hw5,Hg5,hV,hVE⟩:=T0 wr 90 #[.string x,.int .i64 y,.int .i64 h.kind,.int .i64 h.at_,.int .i64 h.lo,.int .i64 h.hi,.int .i64 h.most,.slice An h.names.length cn,.slice Ap np cp,.string h.name.1,.int .i64 h.name.2];obtain ⟨-,v1⟩:=X2 hV;obtain ⟨HE5,HX5,HZ5,HV⟩:=Z4 (hE.trans' hVE) (hE'.trans' hVE) (HZr.out.ext hVE) hV;have i0:=nZ k;have i1:(k:Int) < (n:Int):=by omega
   have hend:=HEND.out k hlt w5 HE5.out;have hhit:=HIT.out k hlt HA.out;have hso:=HSO.out k;obtain ⟨E,hEE⟩:=V1 (s.endK n k);rw [← hEE] at hend hhit hso;rw [← hy] at hhit;obtain ⟨HHIT,HSO'⟩:=Z2 hhit hso;clear hrg h1 h2 hc hE hE' hw5 hg5 hV hVE hx hy hty hEE hso hhit;cases E with
   | none =>
    have HRR:=hide (HHIT.out rfl);have HEN:=hide (show Calls Tryz.prog 74 #[.pointer (some ⟨gb,0,none⟩),.int .i64 (k:Int)] w5 (fun e w'=>e = .returned (.int .i64 (-1))∧Ext w5 w') from hend)
    clear hend HHIT HSO';go_upto_region 3 with fail
    refine wp_region_lit ?_;refine wpList_plain rfl fun K0 hK0=>?_
    go_simp;refine hK0 _ _ ?_;refine wpList_plain rfl fun K1 hK1=>?_
    go_simp;refine hK1 _ _ ?_;refine wpList_load_mid rfl 90 _ rfl b (o + k * 11) rfl _ _ HRG.out Tryz.underlying90 rfl Qa2 ?_;refine wpList_plain rfl fun K0 hK0=>?_
    go_simp;refine hK0 _ _ ?_;refine wpList_plain rfl fun K1 hK1=>?_
    go_simp;refine hK1 _ _ ?_;refine Qc rfl 90 _ _ rfl _ #[.string x,.int .i64 y,.int .i64 h.kind,.int .i64 h.at_,.int .i64 h.lo,.int .i64 h.hi,.int .i64 h.most,.slice An h.names.length cn,.slice Ap np cp,.string h.name.1,.int .i64 h.name.2] rfl rfl Qa2 rfl (by simp [Value.oneCell']) ?_
    go_upto_region 4 with fail
    rw [← Hw5.out,← Hg5.out];go_wp2_with fail
    refine HEN.out.mono ?_;rintro e w6 ⟨rfl,hE6⟩;obtain ⟨HE6,HZ6⟩:=Z2 (HE5.out.trans' hE6) (HZ5.out.ext hE6);have u1:=(HV.out.ext hE6).cell 1;obtain ⟨z0,z1⟩:=X2 HZ6.out;obtain ⟨f0,f1⟩:=Y2 HZ6.out;simp only [gA,gH,gS] at u1;clear v1 hE6;go_wp2_with fail
    exact Qa (f:=(11,y)) (g:=g) ((HZ6.out.set_ 0 _).set_ 1 _) rfl rfl rfl ⟨by rw [HRR.out],ext_two' HE6.out (by rw [Hg.out]; exact Nat.le_refl _) _ _⟩
   | some q =>
    have HA2:=hide (Q0 HA.out (HSO'.out q rfl));have HEN:=hide (show Calls Tryz.prog 74 #[.pointer (some ⟨gb,0,none⟩),.int .i64 (k:Int)] w5 (fun e w'=>e = .returned (.int .i64 (q:Int))∧Ext w5 w') from hend)
    have hq:((q:Int) == -1)=false:=by rw [beq_eq_false_iff_ne]; omega
    clear hend HHIT HSO' HA;go_upto_region 3 with fail
    refine wp_region_lit ?_;refine wpList_plain rfl fun K0 hK0=>?_
    go_simp;refine hK0 _ _ ?_;refine wpList_plain rfl fun K1 hK1=>?_
    go_simp;refine hK1 _ _ ?_;refine wpList_load_mid rfl 90 _ rfl b (o + k * 11) rfl _ _ HRG.out Tryz.underlying90 rfl Qa2 ?_;refine wpList_plain rfl fun K0 hK0=>?_
    go_simp;refine hK0 _ _ ?_;refine wpList_plain rfl fun K1 hK1=>?_
    go_simp;refine hK1 _ _ ?_;refine Qc rfl 90 _ _ rfl _ #[.string x,.int .i64 y,.int .i64 h.kind,.int .i64 h.at_,.int .i64 h.lo,.int .i64 h.hi,.int .i64 h.most,.slice An h.names.length cn,.slice Ap np cp,.string h.name.1,.int .i64 h.name.2] rfl rfl Qa2 rfl (by simp [Value.oneCell']) ?_
    go_upto_region 4 with fail
    rw [← Hw5.out,← Hg5.out];go_wp2_with fail
    refine HEN.out.mono ?_;rintro e w6 ⟨rfl,hE6⟩;have HX6:=hide (HX5.out.trans' hE6);clear v1 hE6;go_wp2_with fail
    go_roundw
    case rel=>exact ⟨k + 1,by omega,by go_num,HX6.out,HA2.out⟩
    case measure=>simp [intOf]; omega
  ·obtain rfl:k=n:=by omega
   have HRR:=hide (HMI.out HA.out);obtain ⟨z0,z1⟩:=X2 HZr.out;obtain ⟨f0,f1⟩:=Y2 HZr.out;clear hE hE' HA;go_wp2_with fail
   exact Qa (f:=(0,0)) (g:=g) ((HZr.out.set_ 0 _).set_ 1 _) rfl rfl rfl ⟨by rw [HRR.out],ext_two' HE.out (by rw [Hg.out]; exact Nat.le_refl _) _ _⟩
section
variable {P:Program} {ops:Array Oper} {md:Region.Mode} {S:World→Prop}
def Qez:Op→Bool
 | .move _ | .assign _ | .load _ _ | .nilCheck _ | .fieldAddr _ _ _ | .indexAddr _ _ _ | .extract _ _ | .build _ _ | .binOp _ _ _ _ _ | .unOp _ _ _=>true
 | _=>false
def Qn5 (r:Result Next):Prop:=∀ n w,r = .ok n w→∃ v,n = .value v
theorem Qq1 {s:Sem Value} {w:World} : Qn5 ((do pure (Next.value (← s)):Sem Next).run P w):=by
 intro n w' h;simp only [Sem.run_bind,Sem.run_pure] at h;cases hs:s.run P w with
 | ok v w2=>rw [hs] at h; simp only [Result.andThen_ok] at h; injection h with h1 _; exact ⟨v,h1.symm⟩
 | halt x w2=>rw [hs] at h; cases h
theorem Qiv {o:Oper} (ho:Qez o.op=true) (ρ:Operand→Value) (w:World):Qn5 ((execOp ρ o).run P w):=by
 unfold execOp;cases hop:o.op <;> rw [hop] at ho <;> simp only [Qez,Bool.false_eq_true] at ho <;> dsimp only
 case move=>intro n w' h; injection h with h1 _; exact ⟨_,h1.symm⟩
 case assign=>intro n w' h; injection h with h1 _; exact ⟨_,h1.symm⟩
 case nilCheck x =>
  intro n w' h;split at h
  ·cases h
  ·cases h
  ·cases h
  ·split at h
   ·cases h
   ·simp only [Sem.run_bind] at h;revert h
    generalize (program.run P w)=r0
    cases r0 with
    | halt x w2=>intro h; cases h
    | ok p w2 =>
     simp only [Result.andThen_ok];intro h;generalize hg:(nilAhead (p.types.size + Made.depth) _ _ _).run P w2=r1 at h
     cases r1 with
     | halt x w3=>cases h
     | ok q w3 =>
      simp only [Result.andThen_ok] at h;split at h
      ·cases h
      ·injection h with h1 _; exact ⟨_,h1.symm⟩
   ·injection h with h1 _; exact ⟨_,h1.symm⟩
  ·injection h with h1 _; exact ⟨_,h1.symm⟩
 all_goals exact Qq1
def Qdc (P:Program) (md:Region.Mode) (ops:Array Oper) (Q:Exit→Act→World→Prop) (S:World→Prop) (z:Nat):Nat→Array Bool→Act→World→Prop
 | 0,ls,a,w=>Region.ready md ops ls = []∧Q .normal a w
 | f + 1,ls,a,w=>(Region.ready md ops ls = []→Q .normal a w)∧∀ i,i ∈ Region.ready md ops ls→wpOp P ops Q i (fun a' w'=>(i < z→S w')∧Qdc P md ops Q S z f (ls.setIfInBounds i true) a' w') a w
theorem Qet {Q:Exit→Act→World→Prop} {z:Nat} : ∀ (f:Nat) {ls:Array Bool} {a:Act} {w:World},Qdc P md ops Q S z f ls a w→wpAny P md ops Q f ls a w:=by
 intro f;induction f with
 | zero=>intro ls a w h; exact h
 | succ f ih=>intro ls a w h; exact ⟨h.1,fun i hi=>wpOp_mono (fun a' w' h'=>ih h'.2) (h.2 i hi)⟩
def Qcw (md:Region.Mode) (ops:Array Oper) (z:Nat):Bool:=(List.range ops.size).all fun j=>decide (j < z) || (List.range z).all fun i=>Region.waitsFor md ops j i
theorem Qo4 {z i j:Nat} {ls:Array Bool} (hz:Qcw md ops z=true) (hi:i < z) (hun:ls.getD i true=false) (hj:j ∈ Region.ready md ops ls):j < z:=by
 rcases Nat.lt_or_ge j z with h | h
 ·exact h
 ·obtain ⟨_,oj,hoj,hall⟩:=mem_ready.1 hj;have h1:=List.all_eq_true.1 hz j (List.mem_range.2 (Array.getElem?_eq_some_iff.1 hoj).1);rw [Bool.or_eq_true,decide_eq_true_eq] at h1;rcases h1 with h1 | h1
  ·exact h1
  ·obtain ⟨o',ho',e,he,hb,hon⟩:=Region.waitsFor_spec (List.all_eq_true.1 h1 i (List.mem_range.2 hi));obtain rfl:oj=o':=Option.some.inj (hoj.symm.trans ho');have:=hall e he hb
   rw [hon,getD_both hun] at this;cases this
theorem Qj3 {Q:Exit→Act→World→Prop} {z i:Nat} {oi:Oper} {v:Value} (hi:ops[i]? = some oi) (hsel:∀ (j:Nat) (o:Oper) cs b,ops[j]? = some o→o.op≠.select cs b) (hz:Qcw md ops z=true) (hiz:i < z)
  (hQ:∀ c a w,Q (.panic c) (a.put oi.dst v) w→Q (.panic c) a w) :
  ∀ (f:Nat) (ls:Array Bool) (a:Act) (w:World),(∀ j oj,ops[j]? = some oj→j≠i→ls.getD j true=false→(∀ e ∈ oj.after,Region.binds md e=true→e.on≠i)→oi.apart ops oj=true) →
   i ∈ Region.ready md ops ls→YieldsIf P ops S oi v a→S w→Qdc P md ops Q S z f (ls.setIfInBounds i true) (a.put oi.dst v) w→Qdc P md ops Q S z (f + 1) ls a w:=by
 intro f;induction f with
 | zero =>
  intro ls a w _ hr hy hS H;refine ⟨fun e=>(by rw [e] at hr; cases hr),fun j hj=>?_⟩
  by_cases e:j=i
  ·rw [e]; exact hy.wpOp hi hS ⟨fun _=>hS,H⟩
  ·have:=ready_mono hj e
   rw [H.1] at this;cases this
 | succ f ih =>
  intro ls a w hfree hr hy hS H;refine ⟨fun e=>(by rw [e] at hr; cases hr),fun j hj=>?_⟩
  by_cases e:j=i
  ·rw [e]; exact hy.wpOp hi hS ⟨fun _=>hS,H⟩
  ·have hun:=(mem_ready.1 hr).1;have hjz:=Qo4 hz hiz hun hj;obtain ⟨hju,oj,hoj,hall⟩:=mem_ready.1 hj;have hno:∀ e ∈ oj.after,Region.binds md e=true→e.on≠i:=fun e he hb hh=>by
    have:=hall e he hb
    rw [hh,getD_both hun] at this;cases this
   refine wpOp_mono (fun a' w' h3=>⟨h3.2.1,ih (ls.setIfInBounds j true) a' w' (fun k ok hk hki hku hkn=>?_) (ready_mono hr (Ne.symm e)) h3.1 (h3.2.1 hjz) ?_⟩) (wpOp_putIf hoj (hfree j oj hoj e hju hno) (fun cs b=>hsel i oi cs b hi) (fun cs b=>hsel j oj cs b hoj) hQ hy (H.2 j (ready_mono hj e)))
   ·refine hfree k ok hk hki ?_ hkn;by_cases hjk:j=k
    ·rw [← hjk]; exact hju
    ·rw [getD_set_ne true hjk] at hku; exact hku
   ·rw [Array.setIfInBounds_comm _ _ e];exact h3.2.2
def Qbq (P:Program) (ops:Array Oper) (Q:Exit→Act→World→Prop) (S:World→Prop) (z:Nat):Nat→List Oper→Act→World→Prop
 | _,[],a,w=>Q .normal a w
 | k,o :: r,a,w=>if k < z then wpList P ops (fun e a' w'=>match e with | .normal=>S w'∧Qbq P ops Q S z (k + 1) r a' w' | e=>Q e a' w') [o] a w else wpList P ops Q (o :: r) a w
theorem Qgd {o:Oper} {a:Act} {w:World} {K K':Act→World→Prop} {Q Q':Exit→Act→World→Prop} (h:∀ a w,K a w→K' a w) (hp:∀ c a w,Q (.panic c) a w→Q' (.panic c) a w) (ho:∀ a w,Q .outgrown a w→Q' .outgrown a w) (hh:o.wp P a w K Q):o.wp P a w K' Q':=by
 unfold Oper.wp at *;generalize (execOp a.eval o).run P w=r at *
 cases r with
 | ok n w' =>
  cases n <;> simp only [Oper.upon] at hh ⊢
  case value=>exact h _ _ hh
  case skip=>exact h _ _ hh
  case defer=>exact h _ _ hh
  case enter=>exact Calls.mono hh (fun e w'' he=>by
   cases e with
   | returned v=>exact h _ _ he
   | panicked c=>exact hp _ _ _ he
   | outgrown=>obtain ⟨a',w2,h2⟩:=he; exact ⟨a',w2,ho _ _ h2⟩)
  case row=>exact Rows.mono hh (fun _ _ he=>h _ _ he)
 | halt x w' =>
  cases x <;> simp only [Oper.upon] at hh ⊢
  case panic v=>exact hp _ _ _ hh
theorem Qc0 {Q Q':Exit→Act→World→Prop} {k:Nat} {o:Oper} {a:Act} {w:World} {K:Act→World→Prop} (h0:ops[k]? = some o) (hk:∀ a w,Q' .normal a w→K a w) (hp:∀ c a w,Q' (.panic c) a w→Q (.panic c) a w) (ho:∀ a w,Q' .outgrown a w→Q .outgrown a w)
  (h:wpList P ops Q' [o] a w):wpOp P ops Q k K a w:=by
 unfold wpOp;rw [h0];dsimp only
 unfold wpList at h;split
 ·rw [if_pos (by assumption)] at h
  rcases h with h | ⟨h1,a',w',h2⟩
  ·exact .inl (Qgd hk hp ho h)
  ·exact .inr ⟨h1,a',w',ho _ _ h2⟩
 ·rw [if_neg (by assumption)] at h
  exact hk _ _ h
theorem Qna {Q:Exit→Act→World→Prop} {z:Nat} : ∀ (l:List Oper) (k:Nat) (ls:Array Bool) (a:Act) (w:World),(∀ j,l[j]? = ops[k + j]?)→Region.seqB md ops l.length k ls=true→Qbq P ops Q S z k l a w→Qdc P md ops Q S z l.length ls a w:=by
 intro l;induction l with
 | nil =>
  intro k ls a w _ hB h;exact ⟨by simpa [Region.seqB] using hB,h⟩
 | cons o l ih =>
  intro k ls a w hl hB h;have h0:ops[k]? = some o:=by simpa using (hl 0).symm
  have hl':∀ j,l[j]? = ops[k + 1 + j]?:=fun j=>by
   have:=hl (j + 1)
   rw [show k + 1 + j=k + (j + 1) by omega,← this,gS]
  simp only [List.length_cons,Region.seqB,Bool.and_eq_true,decide_eq_true_eq] at hB;refine ⟨fun e=>(by rw [hB.1] at e; cases e),fun i hi=>?_⟩
  rw [hB.1] at hi;obtain rfl:i=k:=by simpa using hi
  unfold Qbq at h;by_cases hz:i < z
  ·rw [if_pos hz] at h;exact Qc0 (Q':=fun e a' w'=>match e with | .normal=>S w'∧Qbq P ops Q S z (i + 1) l a' w' | e=>Q e a' w') h0 (fun a' w' h'=>⟨fun _=>h'.1,ih (i + 1) _ a' w' hl' hB.2 h'.2⟩) (fun _ _ _ h'=>h') (fun _ _ h'=>h') h
  ·rw [if_neg hz] at h;have hw:wpOp P ops Q i (wpList P ops Q l) a w:=by unfold wpOp; rw [h0]; exact h
   refine wpOp_mono (fun a' w' h'=>⟨fun hh=>absurd hh hz,ih (i + 1) _ a' w' hl' hB.2 ?_⟩) hw
   cases l with
   | nil=>exact h'
   | cons o2 r=>unfold Qbq; rw [if_neg (by omega)]; exact h'
theorem Qsz {Q:Exit→Act→World→Prop} {z n:Nat} {w:World} (hsel:Region.noSelect ops=true) (hz:Qcw md ops z=true) (hnz:n≤z) (hpl:∀ i o,i < n→ops[i]? = some o→Qez o.op=true) (hQ:∀ c a w,¬ Q (.panic c) a w) (hS:S w) :
  ∀ (l:List Oper) (k:Nat) (ls:Array Bool) (a:Act),(∀ j,j < l.length→l[j]? = ops[k + j]?)→k + l.length=n →
  Region.lexHead md ops (ops.size - n) l.length k ls=true→wpQuiet P ops S (fun a'=>Qbq P ops Q S z n (ops.toList.drop n) a' w) l a→Qdc P md ops Q S z (l.length + (ops.size - n)) ls a w:=by
 intro l;induction l with
 | nil =>
  intro k ls a _ hk hB h;obtain rfl:k=n:=hk;have hd:(ops.toList.drop k).length=ops.size - k:=by rw [List.length_drop,Array.length_toList]
  have:=Qna (md:=md) (S:=S) (z:=z) (Q:=Q) (ops.toList.drop k) k ls a w (fun j=>by rw [List.getElem?_drop,Array.getElem?_toList]) (by rw [hd]; exact hB) h
  rw [hd] at this;rw [List.length_nil,Nat.zero_add];exact this
 | cons o l ih =>
  intro k ls a hl hk hB h;have h0:ops[k]? = some o:=(hl 0 (Nat.succ_pos _)).symm;rw [List.length_cons] at hk;rw [List.length_cons,Region.lexHead,Bool.and_eq_true,Bool.and_eq_true] at hB;have hr:k ∈ Region.ready md ops ls:=by simpa using hB.1.1
  have hkn:k < n:=by omega
  have hq:qOp P ops S k (wpQuiet P ops S (fun a'=>Qbq P ops Q S z n (ops.toList.drop n) a' w) l) a:=by unfold qOp; rw [h0]; exact h
  obtain ⟨v,hy,hK⟩:=yieldsIn_of_qOp h0 hq;have hy':YieldsIf P ops S o v a:=by
   rcases hy with ⟨h1,h2⟩ | ⟨h1,h2⟩
   ·refine .inl ⟨h1,fun w1 hw1=>?_⟩
    have h3:=h2 w1 hw1;have h4:=Qiv (P:=P) (hpl k o hkn h0) a.eval w1;unfold Oper.quietAt at h3;cases hr:(execOp a.eval o).run P w1 with
    | ok nx w2 =>
     rw [hr] at h3 h4;obtain ⟨u,rfl⟩:=h4 _ _ rfl;obtain ⟨e1,e2⟩:=h3;rw [e1,e2]
    | halt x w2=>rw [hr] at h3; exact h3.elim
   ·exact .inr ⟨h1,h2⟩
  rw [List.length_cons,Nat.succ_add];refine Qj3 h0 (Region.noSelect_spec hsel) hz (by omega) (fun c a w h=>absurd h (hQ c _ w)) _ ls a w (Region.free_spec h0 hB.1.2) hr hy' hS (ih (k + 1) _ _ (fun j hj=>?_) (by omega) hB.2 hK)
  have:=hl (j + 1) (by rw [List.length_cons]; omega)
  rw [show k + 1 + j=k + (j + 1) by omega,← this,gS]
def Qbd (Q:Exit→Act→World→Prop):Exit→Act→World→Prop:=fun e a w=>match e with | .panic _=>False | e=>Q e a w
theorem wpOp_calm {Q:Exit→Act→World→Prop} {i:Nat} {K:Act→World→Prop} {a:Act} {w:World} (h:wpOp P ops (Qbd Q) i K a w):wpOp P ops Q i K a w:=by
 unfold wpOp at *;split
 ·simpa [*] using h
 ·rename_i o ho
  simp only [ho] at h;split
  ·rename_i hw
   simp only [hw,if_true] at h;rcases h with h | ⟨h1,a',w',h2⟩
   ·exact .inl (Qgd (Q:=Qbd Q) (fun _ _ h=>h) (fun _ _ _ (h:False)=>h.elim) (fun _ _ h=>h) h)
   ·exact .inr ⟨h1,a',w',h2⟩
  ·rename_i hw
   simp only [hw] at h;exact h
theorem Qhv {Q:Exit→Act→World→Prop} : ∀ (f:Nat) {ls:Array Bool} {a:Act} {w:World},wpAny P md ops (Qbd Q) f ls a w→wpAny P md ops Q f ls a w:=by
 intro f;induction f with
 | zero=>intro ls a w h; exact h
 | succ f ih=>intro ls a w h; exact ⟨h.1,fun i hi=>wpOp_mono (fun a' w' h'=>ih h') (wpOp_calm (h.2 i hi))⟩
def Qt2 (l:List Oper) (n:Nat):Bool:=(l.take n).all fun o=>Qez o.op
def Qlo (md:Region.Mode) (l:List Oper) (n z:Nat):Bool:=Region.noSelect l.toArray && decide (n≤z) && decide (n≤l.length) && Qt2 l n && Qcw md l.toArray z && Region.lexHead md l.toArray (l.toArray.size - n) n 0 (Array.replicate l.toArray.size false)
theorem Qiw {id:Nat} {Q:Exit→Act→World→Prop} {a:Act} {w:World} {l:List Oper} (n z:Nat) (hm:P.follows .mixedOrders=true) (hB:Qlo .any l n z=true) (hS:S { w with drawn:=w.drawn + 1 })
  (h:wpQuiet P l.toArray S (fun a'=>Qbq P l.toArray (Qbd Q) S z n (l.drop n) a' { w with drawn:=w.drawn + 1 }) (l.take n) a):(Code.region id l.toArray true).wp P Q a w:=by
 simp only [Qlo,Bool.and_eq_true,decide_eq_true_eq] at hB;obtain ⟨⟨⟨⟨⟨hsel,hnz⟩,hnl⟩,hpl⟩,hz⟩,hlex⟩:=hB;have htl:(l.take n).length=n:=by rw [List.length_take]; omega
 refine wp_region_any hm (Qhv _ ?_);have:=Qsz (md:=.any) (S:=S) (Q:=Qbd Q) (n:=n) hsel hz hnz (fun i o hi ho=>?_) (fun c a w h=>h) hS (l.take n) 0 (Array.replicate l.toArray.size false) a (fun j hj=>by
  rw [htl] at hj;rw [List.getElem?_take_of_lt hj,Nat.zero_add,gA]) (by rw [htl,Nat.zero_add]) (by rw [htl]; exact hlex) h
 ·rw [htl,show n + (l.toArray.size - n)=l.toArray.size by simp; omega] at this
  exact Qet _ this
 ·rw [gA] at ho;refine List.all_eq_true.1 hpl o ?_;obtain ⟨hlt,rfl⟩:=List.getElem?_eq_some_iff.1 ho;exact List.mem_take_iff_getElem.2 ⟨i,by rw [Nat.min_def]; split <;> omega,rfl⟩
theorem Qax {id:Nat} {Q:Exit→Act→World→Prop} {a:Act} {w:World} {l:List Oper} (n z:Nat) (hm:P.follows .mixedOrders=true) (hB:Qlo .any l n z=true) (S:World→Prop) (hS:S w.drew)
  (h:∀ (I:Type) [Nonempty I] (f:I→World),(∀ n,S (f n))→wpQuiet P l.toArray (fun w'=>∃ n,w'=f n) (fun a'=>Qbq P l.toArray (Qbd Q) S z n (l.drop n) a' w.drew) (l.take n) a):(Code.region id l.toArray true).wp P Q a w:=by
 refine Qiw (S:=S) n z hm hB hS ?_;haveI:Nonempty {w':World // S w'}:=⟨⟨_,hS⟩⟩
 have:=h {w':World // S w'} Subtype.val (fun n=>n.2)
 have e:(fun w'=>∃ n:{w':World // S w'},w'=n.1)=S:=by
  funext w'
  exact propext ⟨fun ⟨n,hn⟩=>by rw [hn]; exact n.2,fun h=>⟨⟨w',h⟩,rfl⟩⟩
 rw [e] at this;exact this
theorem Qq2 {Q:Exit→Act→World→Prop} {z k:Nat} {o:Oper} {r:List Oper} {a:Act} {w:World} (hk:k < z) (h:wpList P ops (fun e a' w'=>match e with | .normal=>S w'∧Qbq P ops Q S z (k + 1) r a' w' | e=>Q e a' w') [o] a w):Qbq P ops Q S z k (o :: r) a w:=by
 unfold Qbq; rw [if_pos hk]; exact h
theorem seqF_plain {Q:Exit→Act→World→Prop} {z k:Nat} {o:Oper} {r:List Oper} {a:Act} {w:World} (hk:k < z) (hg:o.guard=none)
  (h:∀ K:Act→World→Prop,(∀ a w,S w→Qbq P ops Q S z (k + 1) r a w→K a w)→o.wp P a w K (fun e a' w'=>match e with | .normal=>S w'∧Qbq P ops Q S z (k + 1) r a' w' | e=>Q e a' w')):Qbq P ops Q S z k (o :: r) a w :=
 Qq2 hk (wpList_plain hg fun K hK=>h K fun a w h1 h2=>hK a w ⟨h1,h2⟩)
theorem seqF_there {Q:Exit→Act→World→Prop} {z k:Nat} {l:List Oper} {a:Act} {w:World} (hk:z≤k) (h:wpList P ops Q l a w):Qbq P ops Q S z k l a w:=by
 cases l with
 | nil=>exact h
 | cons o r=>unfold Qbq; rw [if_neg (by omega)]; exact h
end
end Go.Proofs.YtanpljalbijfkaaGreat
