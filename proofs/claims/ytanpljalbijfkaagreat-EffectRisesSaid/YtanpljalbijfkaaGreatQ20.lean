/- . -/
import Derived.Test.YtanpljalbijfkaaGreatQ00
import Derived.Test.YtanpljalbijfkaaGreatQ19
import Derived.OrdersHeld
namespace Go.Proofs.YtanpljalbijfkaaGreat
open Go.RowKit
set_option maxHeartbeats 16000000
theorem Qfr:(Tryz.prog.info? 29).map (·.size)=some 9:=by kernel_rfl
theorem Qfs {w:World} {b o:Nat} {xs ys:List Value} (h:w.rangeAt b o (xs ++ ys)):w.rangeAt b (o + xs.length) ys:=by
 intro j v hv
 have:=h (xs.length + j) v (by rw [List.getElem?_append_right (Nat.le_add_right _ _),Nat.add_sub_cancel_left]; exact hv)
 rw [← Nat.add_assoc] at this
 exact this
set_option maxRecDepth 100000 in
theorem Qmv (gb gl gp gt n c3:Nat) (A3:Option Addr) (xs:List Value) (mm r0:Int) (NV MV:Value) (s:Sch) (i:Nat) (w:World) (hB:BldAt w gb A3 n c3 xs gl gp mm) (hn:n=s.n) (h64:n≤1000000) (hi:i < n)
  (hP:Blk w gp 83 #[.pointer (some ⟨gl,0,none⟩),NV,.int .i64 r0,.pointer (some ⟨gt,0,none⟩),MV]) (hT:TabAt w gt s.names) (hN:NamedAt w w.heap.size A3 n s.nm s.ty) :
  Calls Tryz.prog 74 #[.pointer (some ⟨gb,0,none⟩),.int .i64 (i:Int)] w (fun e w'=>e = .returned (.int .i64 (Qti (s.endK n i)))∧Ext w w'):=by
 have HF:=Qa (fun x w1 (hE:Ext w w1)=>(show Calls Tryz.prog 72 #[.pointer (some ⟨gt,0,none⟩),.string x] w1 (fun e w'=>e = .returned (.tuple #[.int .i64 (s.find x:Nat),.bool (decide (0≤findL s.names x))])∧Ext w1 w') by
  have:=Qbq gt s.names x w1 (hT.ext hE) (by simp [Sch.names]; omega)
  rw [Qe4] at this
  exact this))
 obtain ⟨HB,HP,HN⟩:=Z3 hB hP hN
 have hFL:=fun x=>Qeq (s:=s) (by omega) x
 rw [← hn] at hFL
 have HFL:=Qa hFL
 obtain ⟨E,hE_⟩:=V1 (s.endK n i)
 rw [← hE_]
 have HE0:=Qa hE_
 have b2:=hB.c2
 have hle:(n:Int)≤1000000:=by omega
 have hle0:=nZ n
 clear hB hP hN hT hn hFL hE_
 go_enter Tryz.func74,Tryz.ntmps74
 go_wp2_with fail
 clear b2
 go_loopw [13,1] (fun c iv wr=>∃ (r j:Nat),r≤n + 1∧c = .int .i64 (r:Int)∧iv = .int .i64 (j:Int)∧j < n∧Ext w wr∧Hid ((r≤n→s.endK (n - r) j=E)∧(r=n + 1→E=none))) (fun c _ _=>n + 1 - (intOf c).toNat)
 case atStart=>exact ⟨0,i,Nat.zero_le _,rfl,rfl,hi,Ext.rfl' _,⟨fun _=>by rw [HE0.out]; rfl,fun h=>by omega⟩⟩
 case round =>
  obtain ⟨r,j,hr,rfl,rfl,hj,hE,HR⟩:=hrel
  have HE:=Qa hE
  by_cases hlt:r < n + 1
  ·obtain ⟨b,o,rfl,hb,hc⟩:=HN.out (by omega)
   obtain ⟨vt,h1,h2⟩:=hc j hj
   have hrg:wr.rangeAt b (o + j * 11 + 2) vt:=Qfs (xs:=[.string (s.nm j).1,.int .i64 (s.nm j).2]) fun j' v hv=>(hE.cell (p:=⟨b,o + j * 11 + j',none⟩) hb).trans (h1 j' v hv)
   cases ht:s.ty j with
   | nil=>rw [ht] at h2; exact h2.elim
   | mk h np p t =>
    rw [ht] at h2
    obtain ⟨An,cn,Ap,cp,rfl,_,_⟩:=h2
    have HRG:=Qa hrg
    unfold tyV at HRG
    have b2:=(HB.out.ext hE).c2
    obtain ⟨w5,hw5,g5,hg5⟩:=V2 (wr.alloc (.cells #[.int .i64 h.kind,.int .i64 h.at_,.int .i64 h.lo,.int .i64 h.hi,.int .i64 h.most,.slice An h.names.length cn,.slice Ap np cp,.string h.name.1,.int .i64 h.name.2] 29)) (wr.heap.size)
    have hV:Blk w5 g5 29 #[.int .i64 h.kind,.int .i64 h.at_,.int .i64 h.lo,.int .i64 h.hi,.int .i64 h.most,.slice An h.names.length cn,.slice Ap np cp,.string h.name.1,.int .i64 h.name.2]:=by rw [hw5,hg5]; exact Blk.new _ _ _
    have hVE:Ext wr w5:=by rw [hw5]; exact (Ext.rfl' wr).alloc nL _
    obtain ⟨Hw5,Hg5⟩:=Z2 hw5 hg5
    obtain ⟨v0,-,-,-,-,-,-,v7⟩:=X8 hV
    have HE5:=Qa (hE.trans' hVE)
    have i0:=nZ j
    have i1:(j:Int) < (n:Int):=by omega
    have r0':(0:Int)≤(r:Int):=by omega
    have r1:(r:Int) < (n:Int) + 1:=by omega
    have r2:decide ((r:Int) < (n:Int) + 1)=true:=by simpa using r1
    have hR1:=HR.out.1 (by omega)
    by_cases hk:h.kind=9
    ·have hst:s.endK (n - r) j=if n - r=0 then none else s.endK (n - r - 1) (s.find h.name.1):=by
      cases hnr:n - r with
      | zero=>rw [Sch.endK_zero,ht,if_pos (show (Ty.mk h np p t).kd=9 from hk),if_pos rfl]
      | succ q=>rw [Sch.endK_succ,ht,if_pos (show (Ty.mk h np p t).kd=9 from hk),if_neg (by omega)]; rfl
     have HNX:=Qa (show (r + 1≤n→s.endK (n - (r + 1)) (s.find h.name.1)=E)∧(r + 1=n + 1→E=none) by
      rw [hR1] at hst
      refine ⟨fun hh=>?_,fun hh=>?_⟩
      ·rw [if_neg (by omega)] at hst
       rw [hst,show n - (r + 1)=n - r - 1 by omega]
      ·rw [if_pos (by omega)] at hst
       exact hst)
     obtain ⟨x,hx⟩:=V1 (h.name.1)
     rw [← hx] at HNX v7 HRG Hw5 hV
     obtain ⟨f,hf⟩:=V1 (s.find x)
     have hfl:=HFL.out x
     have HFx:=Qa (HF.out x)
     rw [← hf] at HNX hfl HFx
     obtain ⟨fb,hfb⟩:=V1 (decide (0≤findL s.names x))
     rw [← hfb] at HFx
     have hk':(h.kind == 9)=true:=by rw [hk]; rfl
     have hk2:(h.kind != 9)=false:=by rw [hk]; rfl
     have p3:=(HP.out.ext HE5.out).cell 3
     have b13:=(HB.out.ext HE5.out).c13
     simp only [gA,gH,gS] at p3
     have HV5:=Qa hV
     clear hrg h1 hc hst hR1 hE hw5 hg5 hV hVE ht hk hx hf hfb
     go_upto_region 3 with fail
     refine wp_region_lit ?_
     refine wpList_plain rfl fun K0 hK0=>?_
     go_simp
     refine hK0 _ _ ?_
     refine wpList_plain rfl fun K1 hK1=>?_
     go_simp
     refine hK1 _ _ ?_
     refine wpList_plain rfl fun K2 hK2=>?_
     go_simp
     refine hK2 _ _ ?_
     refine wpList_plain rfl fun K3 hK3=>?_
     go_simp
     refine hK3 _ _ ?_
     refine wpList_plain rfl fun K4 hK4=>?_
     go_simp
     refine hK4 _ _ ?_
     refine wpList_plain rfl fun K5 hK5=>?_
     go_simp
     refine hK5 _ _ ?_
     refine wpList_plain rfl fun K6 hK6=>?_
     go_simp
     refine hK6 _ _ ?_
     refine wpList_plain rfl fun K7 hK7=>?_
     go_simp
     refine hK7 _ _ ?_
     refine wpList_load_mid rfl 29 _ rfl b (o + j * 11 + 2) rfl _ _ HRG.out Tryz.underlying29 rfl Qfr ?_
     refine wpList_plain rfl fun K0 hK0=>?_
     go_simp
     refine hK0 _ _ ?_
     refine Qd rfl 29 _ _ rfl _ #[.int .i64 h.kind,.int .i64 h.at_,.int .i64 h.lo,.int .i64 h.hi,.int .i64 h.most,.slice An h.names.length cn,.slice Ap np cp,.string x,.int .i64 h.name.2] rfl rfl Qfr rfl (by simp [Value.oneCell']) ?_
     go_upto_region 4 with fail
     rw [← Hw5.out,← Hg5.out]
     clear b2
     go_wp2_with fail
     refine Qdc (by kernel_rfl) (by kernel_rfl) w5 (Ext.rfl' _) ?_
     intro I _ f_ hf hc
     have q3:∀ n,(f_ n).cell? ⟨gp,3,none⟩=some (.pointer (some ⟨gt,0,none⟩)):=fun n=>((HP.out.ext HE5.out).ext (hf n)).cell 3
     have q13:∀ n,(f_ n).cell? ⟨gb,13,none⟩=some (.pointer (some ⟨gp,0,none⟩)):=fun n=>((HB.out.ext HE5.out).ext (hf n)).c13
     have q7:∀ n,(f_ n).cell? ⟨g5,7,none⟩=some (.string x):=fun n=>(HV5.out.ext (hf n)).cell 7
     obtain ⟨H1,HG⟩:=Z2 (fun n=>Qir hf hc (HFx.out (f_ n) (HE5.out.trans' (hf n)))) hf
     clear hf hc v0 v7 p3 b13
     repeat (go_big_quiet_step ((go_at_call 72; with_reducible exact H1.out _)))
     refine wpQuiet_nil ?_
     rintro _ ⟨nq,rfl⟩
     go_wp2_with fail
     go_roundw
     case rel=>exact ⟨r + 1,f,by omega,by go_num,rfl,hfl,HE5.out.trans' (HG.out nq),HNX.out⟩
     case measure=>simp [intOf]; omega
    ·have HRT:=Qa (show E=some j by
      rw [← hR1]
      cases hnr:n - r with
      | zero=>rw [Sch.endK_zero,ht,if_neg (show ¬ (Ty.mk h np p t).kd=9 from hk)]
      | succ q=>rw [Sch.endK_succ,ht,if_neg (show ¬ (Ty.mk h np p t).kd=9 from hk)])
     have hk':(h.kind == 9)=false:=by simpa using hk
     have hk2:(h.kind != 9)=true:=by simpa using hk
     clear hrg h1 hc hR1 hE hw5 hg5 hV hVE ht hk HR
     go_upto_region 3 with fail
     refine wp_region_lit ?_
     refine wpList_plain rfl fun K0 hK0=>?_
     go_simp
     refine hK0 _ _ ?_
     refine wpList_plain rfl fun K1 hK1=>?_
     go_simp
     refine hK1 _ _ ?_
     refine wpList_plain rfl fun K2 hK2=>?_
     go_simp
     refine hK2 _ _ ?_
     refine wpList_plain rfl fun K3 hK3=>?_
     go_simp
     refine hK3 _ _ ?_
     refine wpList_plain rfl fun K4 hK4=>?_
     go_simp
     refine hK4 _ _ ?_
     refine wpList_plain rfl fun K5 hK5=>?_
     go_simp
     refine hK5 _ _ ?_
     refine wpList_plain rfl fun K6 hK6=>?_
     go_simp
     refine hK6 _ _ ?_
     refine wpList_plain rfl fun K7 hK7=>?_
     go_simp
     refine hK7 _ _ ?_
     refine wpList_load_mid rfl 29 _ rfl b (o + j * 11 + 2) rfl _ _ HRG.out Tryz.underlying29 rfl Qfr ?_
     refine wpList_plain rfl fun K0 hK0=>?_
     go_simp
     refine hK0 _ _ ?_
     refine Qd rfl 29 _ _ rfl _ #[.int .i64 h.kind,.int .i64 h.at_,.int .i64 h.lo,.int .i64 h.hi,.int .i64 h.most,.slice An h.names.length cn,.slice Ap np cp,.string h.name.1,.int .i64 h.name.2] rfl rfl Qfr rfl (by simp [Value.oneCell']) ?_
     go_upto_region 4 with fail
     rw [← Hw5.out,← Hg5.out]
     clear b2
     go_wp2_with fail
     go_ret
     exact ⟨by rw [HRT.out]; rfl,HE5.out⟩
  ·obtain rfl:r=n + 1:=by omega
   have HRN:=Qa (HR.out.2 rfl)
   have r2:decide ((((n + 1:Nat)):Int) < (n:Int) + 1)=false:=by simp
   clear hE HR
   go_wp2_with fail
   go_ret
   exact ⟨by rw [HRN.out]; rfl,HE.out⟩
theorem Qbb:(Tryz.prog.info? 90).map (·.size)=some 11:=by kernel_rfl
theorem TyAt.open2 {t:Ty} {w:World} {B:Nat} {vs:List Value} (hT:TyAt w B t vs):∃ (h:TyH) (n:Nat) (p:Nat→PtH) (k:Nat→Ty) (An:Option Addr) (cn:Nat) (Ap:Option Addr) (cp:Nat),t = .mk h n p k∧vs=tyV h An cn Ap n cp:=by
 cases t with
 | nil=>exact hT.elim
 | mk h n p k =>
  obtain ⟨An,cn,Ap,cp,e,_⟩:=hT
  exact ⟨h,n,p,k,An,cn,Ap,cp,rfl,e⟩
theorem Qpr {s:Sch} {k:Nat} (hk:k < s.n) (h0:∀ j,j < k→s.loopAt s.n j=none) (h:s.endK s.n k=none):s.loopsF s.n=(11,(s.nm k).2):=by
 unfold Sch.loopsF
 rw [Qab hk h0 (show s.loopAt s.n k=some (11,(s.nm k).2) by unfold Sch.loopAt; rw [h,if_pos rfl])]
 rfl
theorem Qn0 {s:Sch} (h0:∀ j,j < s.n→s.loopAt s.n j=none):s.loopsF s.n=(0,0):=by
 unfold Sch.loopsF
 rw [firstOf_miss.2 h0]
 rfl
theorem Ql8 {s:Sch} {k j:Nat} (h:s.endK s.n k=some j):s.loopAt s.n k=none:=by
 unfold Sch.loopAt; rw [h]; rfl
set_option maxRecDepth 100000 in
theorem Qps (gb gl gp gt n c3:Nat) (A3:Option Addr) (xs:List Value) (mm r0:Int) (NV MV:Value) (s:Sch) (w:World) (hB:BldAt w gb A3 n c3 xs gl gp mm) (hn:n=s.n) (h64:n≤1000000)
  (hP:Blk w gp 83 #[.pointer (some ⟨gl,0,none⟩),NV,.int .i64 r0,.pointer (some ⟨gt,0,none⟩),MV]) (hT:TabAt w gt s.names) (hN:NamedAt w w.heap.size A3 n s.nm s.ty) :
  Calls Tryz.prog 34 #[.pointer (some ⟨gb,0,none⟩)] w (fun e w'=>e = .returned (Qe (s.loopsF s.n))∧Ext w w'):=by
 obtain ⟨HEND,HIT,HMI,HSO⟩:=Z4 (fun (k:Nat) (hk:k < n) w1 (hE:Ext w w1)=>Qmv gb gl gp gt n c3 A3 xs mm r0 NV MV s k w1 (hB.ext hE) hn h64 hk (hP.ext hE) (hT.ext hE) (hN.ext hE)) (fun k (hk:k < n) (hh:∀ j,j < k→s.loopAt s.n j=none) (he:s.endK n k=none)=>Qpr (s:=s) (k:=k) (by omega) hh (by rw [← hn]; exact he)) (fun (hh:∀ j,j < n→s.loopAt s.n j=none)=>Qn0 (s:=s) (fun j hj=>hh j (by omega))) (fun k j (he:s.endK n k=some j)=>Ql8 (s:=s) (k:=k) (j:=j) (by rw [← hn]; exact he))
 obtain ⟨R,hR⟩:=V1 (s.loopsF s.n)
 rw [← hR] at HIT HMI ⊢
 obtain ⟨HB,HN⟩:=Z2 hB hN
 have hle:(n:Int)≤1000000:=by omega
 have hle0:=nZ n
 obtain ⟨w1,g,hw1,hg,Hw1,Hg,hZ,hZE⟩:=T0 w 34 #[.int .i64 0,.int .i64 0]
 obtain ⟨HE1,HZ⟩:=Z2 hZE hZ
 have b2:=(hB.ext hZE).c2
 clear hB hP hN hT hn hR hw1 hg hZ hZE
 go_enter Tryz.func34,Tryz.ntmps34
 go_upto_region 1 with fail
 rw [← Hw1.out,← Hg.out]
 go_wp2_with fail
 clear b2
 go_loopw [11] (fun i wr=>∃ k:Nat,k≤n∧i = .int .i64 (k:Int)∧Ext w1 wr∧Hid (∀ j,j < k→s.loopAt s.n j=none)) (fun i _=>n - (intOf i).toNat)
 case atStart=>exact ⟨0,Nat.zero_le _,rfl,Ext.rfl' _,fun j hj=>absurd hj (Nat.not_lt_zero _)⟩
 case round =>
  obtain ⟨k,hk,rfl,hE',HA⟩:=hrel
  have hE:=HE1.out.trans' hE'
  obtain ⟨HE,HZr⟩:=Z2 hE (HZ.out.ext hE')
  by_cases hlt:k < n
  ·obtain ⟨b,o,rfl,hb,hc⟩:=HN.out (by omega)
   obtain ⟨vt,h1,h2⟩:=hc k hlt
   have hrg:=fun j' (v:Value) hv=>(hE.cell (p:=⟨b,o + k * 11 + j',none⟩) hb).trans (h1 j' v hv)
   obtain ⟨h,np,p,t,An,cn,Ap,cp,hty,rfl⟩:=h2.open2
   have HRG:=Qa (show wr.rangeAt b (o + k * 11) ([.string (s.nm k).1,.int .i64 (s.nm k).2] ++ tyV h An cn Ap np cp) from hrg)
   unfold tyV at HRG
   simp only [List.cons_append,List.nil_append] at HRG
   obtain ⟨x,hx,y,hy⟩:=V2 ((s.nm k).1) ((s.nm k).2)
   rw [← hx,← hy] at HRG
   obtain ⟨w5,g5,hw5,hg5,Hw5,Hg5,hV,hVE⟩:=T0 wr 90 #[.string x,.int .i64 y,.int .i64 h.kind,.int .i64 h.at_,.int .i64 h.lo,.int .i64 h.hi,.int .i64 h.most,.slice An h.names.length cn,.slice Ap np cp,.string h.name.1,.int .i64 h.name.2]
   obtain ⟨-,v1⟩:=X2 hV
   obtain ⟨HE5,HX5,HZ5,HV⟩:=Z4 (hE.trans' hVE) (hE'.trans' hVE) (HZr.out.ext hVE) hV
   have i0:=nZ k
   have i1:(k:Int) < (n:Int):=by omega
   have hend:=HEND.out k hlt w5 HE5.out
   have hhit:=HIT.out k hlt HA.out
   have hso:=HSO.out k
   obtain ⟨E,hEE⟩:=V1 (s.endK n k)
   rw [← hEE] at hend hhit hso
   rw [← hy] at hhit
   obtain ⟨HHIT,HSO'⟩:=Z2 hhit hso
   clear hrg h1 h2 hc hE hE' hw5 hg5 hV hVE hx hy hty hEE hso hhit
   cases E with
   | none =>
    have HRR:=Qa (HHIT.out rfl)
    have HEN:=Qa (show Calls Tryz.prog 74 #[.pointer (some ⟨gb,0,none⟩),.int .i64 (k:Int)] w5 (fun e w'=>e = .returned (.int .i64 (-1))∧Ext w5 w') from hend)
    clear hend HHIT HSO'
    go_upto_region 3 with fail
    refine wp_region_lit ?_
    refine wpList_plain rfl fun K0 hK0=>?_
    go_simp
    refine hK0 _ _ ?_
    refine wpList_plain rfl fun K1 hK1=>?_
    go_simp
    refine hK1 _ _ ?_
    refine wpList_load_mid rfl 90 _ rfl b (o + k * 11) rfl _ _ HRG.out Tryz.underlying90 rfl Qbb ?_
    refine wpList_plain rfl fun K0 hK0=>?_
    go_simp
    refine hK0 _ _ ?_
    refine wpList_plain rfl fun K1 hK1=>?_
    go_simp
    refine hK1 _ _ ?_
    refine Qd rfl 90 _ _ rfl _ #[.string x,.int .i64 y,.int .i64 h.kind,.int .i64 h.at_,.int .i64 h.lo,.int .i64 h.hi,.int .i64 h.most,.slice An h.names.length cn,.slice Ap np cp,.string h.name.1,.int .i64 h.name.2] rfl rfl Qbb rfl (by simp [Value.oneCell']) ?_
    go_upto_region 4 with fail
    rw [← Hw5.out,← Hg5.out]
    go_wp2_with fail
    refine HEN.out.mono ?_
    rintro e w6 ⟨rfl,hE6⟩
    obtain ⟨HE6,HZ6⟩:=Z2 (HE5.out.trans' hE6) (HZ5.out.ext hE6)
    have u1:=(HV.out.ext hE6).cell 1
    obtain ⟨z0,z1⟩:=X2 HZ6.out
    obtain ⟨f0,f1⟩:=Y2 HZ6.out
    simp only [gA,gH,gS] at u1
    clear v1 hE6
    go_wp2_with fail
    exact Qc (f:=(11,y)) (g:=g) ((HZ6.out.set_ 0 _).set_ 1 _) rfl rfl rfl ⟨by rw [HRR.out],ext_two' HE6.out (by rw [Hg.out]; exact Nat.le_refl _) _ _⟩
   | some q =>
    have HA2:=Qa (Qa4 HA.out (HSO'.out q rfl))
    have HEN:=Qa (show Calls Tryz.prog 74 #[.pointer (some ⟨gb,0,none⟩),.int .i64 (k:Int)] w5 (fun e w'=>e = .returned (.int .i64 (q:Int))∧Ext w5 w') from hend)
    have hq:((q:Int) == -1)=false:=by rw [beq_eq_false_iff_ne]; omega
    clear hend HHIT HSO' HA
    go_upto_region 3 with fail
    refine wp_region_lit ?_
    refine wpList_plain rfl fun K0 hK0=>?_
    go_simp
    refine hK0 _ _ ?_
    refine wpList_plain rfl fun K1 hK1=>?_
    go_simp
    refine hK1 _ _ ?_
    refine wpList_load_mid rfl 90 _ rfl b (o + k * 11) rfl _ _ HRG.out Tryz.underlying90 rfl Qbb ?_
    refine wpList_plain rfl fun K0 hK0=>?_
    go_simp
    refine hK0 _ _ ?_
    refine wpList_plain rfl fun K1 hK1=>?_
    go_simp
    refine hK1 _ _ ?_
    refine Qd rfl 90 _ _ rfl _ #[.string x,.int .i64 y,.int .i64 h.kind,.int .i64 h.at_,.int .i64 h.lo,.int .i64 h.hi,.int .i64 h.most,.slice An h.names.length cn,.slice Ap np cp,.string h.name.1,.int .i64 h.name.2] rfl rfl Qbb rfl (by simp [Value.oneCell']) ?_
    go_upto_region 4 with fail
    rw [← Hw5.out,← Hg5.out]
    go_wp2_with fail
    refine HEN.out.mono ?_
    rintro e w6 ⟨rfl,hE6⟩
    have HX6:=Qa (HX5.out.trans' hE6)
    clear v1 hE6
    go_wp2_with fail
    go_roundw
    case rel=>exact ⟨k + 1,by omega,by go_num,HX6.out,HA2.out⟩
    case measure=>simp [intOf]; omega
  ·obtain rfl:k=n:=by omega
   have HRR:=Qa (HMI.out HA.out)
   obtain ⟨z0,z1⟩:=X2 HZr.out
   obtain ⟨f0,f1⟩:=Y2 HZr.out
   clear hE hE' HA
   go_wp2_with fail
   exact Qc (f:=(0,0)) (g:=g) ((HZr.out.set_ 0 _).set_ 1 _) rfl rfl rfl ⟨by rw [HRR.out],ext_two' HE.out (by rw [Hg.out]; exact Nat.le_refl _) _ _⟩
section
variable {P:Program} {ops:Array Oper} {md:Region.Mode} {S:World→Prop}
def Qer:Op→Bool
 | .move _ | .assign _ | .load _ _ | .nilCheck _ | .fieldAddr _ _ _ | .indexAddr _ _ _ | .extract _ _ | .build _ _ | .binOp _ _ _ _ _ | .unOp _ _ _=>true
 | _=>false
def Qmw (r:Result Next):Prop:=∀ n w,r = .ok n w→∃ v,n = .value v
theorem Qpt {s:Sem Value} {w:World} : Qmw ((do pure (Next.value (← s)):Sem Next).run P w):=by
 intro n w' h
 simp only [Sem.run_bind,Sem.run_pure] at h
 cases hs:s.run P w with
 | ok v w2=>rw [hs] at h; simp only [Result.andThen_ok] at h; injection h with h1 _; exact ⟨v,h1.symm⟩
 | halt x w2=>rw [hs] at h; cases h
theorem Qh9 {o:Oper} (ho:Qer o.op=true) (ρ:Operand→Value) (w:World):Qmw ((execOp ρ o).run P w):=by
 unfold execOp
 cases hop:o.op <;> rw [hop] at ho <;> simp only [Qer,Bool.false_eq_true] at ho <;> dsimp only
 case move=>intro n w' h; injection h with h1 _; exact ⟨_,h1.symm⟩
 case assign=>intro n w' h; injection h with h1 _; exact ⟨_,h1.symm⟩
 case nilCheck x =>
  intro n w' h
  split at h
  ·cases h
  ·cases h
  ·cases h
  ·split at h
   ·cases h
   ·simp only [Sem.run_bind] at h
    revert h
    generalize (program.run P w)=r0
    cases r0 with
    | halt x w2=>intro h; cases h
    | ok p w2 =>
     simp only [Result.andThen_ok]
     intro h
     generalize hg:(nilAhead (p.types.size + Made.depth) _ _ _).run P w2=r1 at h
     cases r1 with
     | halt x w3=>cases h
     | ok q w3 =>
      simp only [Result.andThen_ok] at h
      split at h
      ·cases h
      ·injection h with h1 _; exact ⟨_,h1.symm⟩
   ·injection h with h1 _; exact ⟨_,h1.symm⟩
  ·injection h with h1 _; exact ⟨_,h1.symm⟩
 all_goals exact Qpt
def Qdg (P:Program) (md:Region.Mode) (ops:Array Oper) (Q:Exit→Act→World→Prop) (S:World→Prop) (z:Nat):Nat→Array Bool→Act→World→Prop
 | 0,ls,a,w=>Region.ready md ops ls = []∧Q .normal a w
 | f + 1,ls,a,w=>(Region.ready md ops ls = []→Q .normal a w)∧∀ i,i ∈ Region.ready md ops ls→wpOp P ops Q i (fun a' w'=>(i < z→S w')∧Qdg P md ops Q S z f (ls.setIfInBounds i true) a' w') a w
theorem Qei {Q:Exit→Act→World→Prop} {z:Nat} : ∀ (f:Nat) {ls:Array Bool} {a:Act} {w:World},Qdg P md ops Q S z f ls a w→wpAny P md ops Q f ls a w:=by
 intro f
 induction f with
 | zero=>intro ls a w h; exact h
 | succ f ih=>intro ls a w h; exact ⟨h.1,fun i hi=>wpOp_mono (fun a' w' h'=>ih h'.2) (h.2 i hi)⟩
def Qc4 (md:Region.Mode) (ops:Array Oper) (z:Nat):Bool:=(List.range ops.size).all fun j=>decide (j < z) || (List.range z).all fun i=>Region.waitsFor md ops j i
theorem Qn1 {z i j:Nat} {ls:Array Bool} (hz:Qc4 md ops z=true) (hi:i < z) (hun:ls.getD i true=false) (hj:j ∈ Region.ready md ops ls):j < z:=by
 rcases Nat.lt_or_ge j z with h | h
 ·exact h
 ·obtain ⟨_,oj,hoj,hall⟩:=mem_ready.1 hj
  have h1:=List.all_eq_true.1 hz j (List.mem_range.2 (Array.getElem?_eq_some_iff.1 hoj).1)
  rw [Bool.or_eq_true,decide_eq_true_eq] at h1
  rcases h1 with h1 | h1
  ·exact h1
  ·obtain ⟨o',ho',e,he,hb,hon⟩:=Region.waitsFor_spec (List.all_eq_true.1 h1 i (List.mem_range.2 hi))
   obtain rfl:oj=o':=Option.some.inj (hoj.symm.trans ho')
   have:=hall e he hb
   rw [hon,getD_both hun] at this
   cases this
theorem Qjg {Q:Exit→Act→World→Prop} {z i:Nat} {oi:Oper} {v:Value} (hi:ops[i]? = some oi) (hsel:∀ (j:Nat) (o:Oper) cs b,ops[j]? = some o→o.op≠.select cs b) (hz:Qc4 md ops z=true) (hiz:i < z)
  (hQ:∀ c a w,Q (.panic c) (a.put oi.dst v) w→Q (.panic c) a w) :
  ∀ (f:Nat) (ls:Array Bool) (a:Act) (w:World),(∀ j oj,ops[j]? = some oj→j≠i→ls.getD j true=false→(∀ e ∈ oj.after,Region.binds md e=true→e.on≠i)→oi.apart ops oj=true) →
   i ∈ Region.ready md ops ls→YieldsIf P ops S oi v a→S w→Qdg P md ops Q S z f (ls.setIfInBounds i true) (a.put oi.dst v) w→Qdg P md ops Q S z (f + 1) ls a w:=by
 intro f
 induction f with
 | zero =>
  intro ls a w _ hr hy hS H
  refine ⟨fun e=>(by rw [e] at hr; cases hr),fun j hj=>?_⟩
  by_cases e:j=i
  ·rw [e]; exact hy.wpOp hi hS ⟨fun _=>hS,H⟩
  ·have:=ready_mono hj e
   rw [H.1] at this
   cases this
 | succ f ih =>
  intro ls a w hfree hr hy hS H
  refine ⟨fun e=>(by rw [e] at hr; cases hr),fun j hj=>?_⟩
  by_cases e:j=i
  ·rw [e]; exact hy.wpOp hi hS ⟨fun _=>hS,H⟩
  ·have hun:=(mem_ready.1 hr).1
   have hjz:=Qn1 hz hiz hun hj
   obtain ⟨hju,oj,hoj,hall⟩:=mem_ready.1 hj
   have hno:∀ e ∈ oj.after,Region.binds md e=true→e.on≠i:=fun e he hb hh=>by
    have:=hall e he hb
    rw [hh,getD_both hun] at this
    cases this
   refine wpOp_mono (fun a' w' h3=>⟨h3.2.1,ih (ls.setIfInBounds j true) a' w' (fun k ok hk hki hku hkn=>?_) (ready_mono hr (Ne.symm e)) h3.1 (h3.2.1 hjz) ?_⟩) (wpOp_putIf hoj (hfree j oj hoj e hju hno) (fun cs b=>hsel i oi cs b hi) (fun cs b=>hsel j oj cs b hoj) hQ hy (H.2 j (ready_mono hj e)))
   ·refine hfree k ok hk hki ?_ hkn
    by_cases hjk:j=k
    ·rw [← hjk]; exact hju
    ·rw [getD_set_ne true hjk] at hku; exact hku
   ·rw [Array.setIfInBounds_comm _ _ e]
    exact h3.2.2
def Qb0 (P:Program) (ops:Array Oper) (Q:Exit→Act→World→Prop) (S:World→Prop) (z:Nat):Nat→List Oper→Act→World→Prop
 | _,[],a,w=>Q .normal a w
 | k,o :: r,a,w=>if k < z then wpList P ops (fun e a' w'=>match e with | .normal=>S w'∧Qb0 P ops Q S z (k + 1) r a' w' | e=>Q e a' w') [o] a w else wpList P ops Q (o :: r) a w
theorem Qft {o:Oper} {a:Act} {w:World} {K K':Act→World→Prop} {Q Q':Exit→Act→World→Prop} (h:∀ a w,K a w→K' a w) (hp:∀ c a w,Q (.panic c) a w→Q' (.panic c) a w) (ho:∀ a w,Q .outgrown a w→Q' .outgrown a w) (hh:o.wp P a w K Q):o.wp P a w K' Q':=by
 unfold Oper.wp at *
 generalize (execOp a.eval o).run P w=r at *
 cases r with
 | ok n w' =>
  cases n <;> simp only [Oper.upon] at hh ⊢
  case value=>exact h _ _ hh
  case skip=>exact h _ _ hh
  case defer=>exact h _ _ hh
  case enter=>exact Calls.mono hh (fun e w'' he=>by
   cases e with
   | returned v=>exact h _ _ he
   | panicked c=>exact hp _ _ _ he
   | outgrown=>obtain ⟨a',w2,h2⟩:=he; exact ⟨a',w2,ho _ _ h2⟩)
  case row=>exact Rows.mono hh (fun _ _ he=>h _ _ he)
 | halt x w' =>
  cases x <;> simp only [Oper.upon] at hh ⊢
  case panic v=>exact hp _ _ _ hh
theorem Qc6 {Q Q':Exit→Act→World→Prop} {k:Nat} {o:Oper} {a:Act} {w:World} {K:Act→World→Prop} (h0:ops[k]? = some o) (hk:∀ a w,Q' .normal a w→K a w) (hp:∀ c a w,Q' (.panic c) a w→Q (.panic c) a w) (ho:∀ a w,Q' .outgrown a w→Q .outgrown a w)
  (h:wpList P ops Q' [o] a w):wpOp P ops Q k K a w:=by
 unfold wpOp
 rw [h0]
 dsimp only
 unfold wpList at h
 split
 ·rw [if_pos (by assumption)] at h
  rcases h with h | ⟨h1,a',w',h2⟩
  ·exact .inl (Qft hk hp ho h)
  ·exact .inr ⟨h1,a',w',ho _ _ h2⟩
 ·rw [if_neg (by assumption)] at h
  exact hk _ _ h
theorem Ql9 {Q:Exit→Act→World→Prop} {z:Nat} : ∀ (l:List Oper) (k:Nat) (ls:Array Bool) (a:Act) (w:World),(∀ j,l[j]? = ops[k + j]?)→Region.seqB md ops l.length k ls=true→Qb0 P ops Q S z k l a w→Qdg P md ops Q S z l.length ls a w:=by
 intro l
 induction l with
 | nil =>
  intro k ls a w _ hB h
  exact ⟨by simpa [Region.seqB] using hB,h⟩
 | cons o l ih =>
  intro k ls a w hl hB h
  have h0:ops[k]? = some o:=by simpa using (hl 0).symm
  have hl':∀ j,l[j]? = ops[k + 1 + j]?:=fun j=>by
   have:=hl (j + 1)
   rw [show k + 1 + j=k + (j + 1) by omega,← this,gS]
  simp only [List.length_cons,Region.seqB,Bool.and_eq_true,decide_eq_true_eq] at hB
  refine ⟨fun e=>(by rw [hB.1] at e; cases e),fun i hi=>?_⟩
  rw [hB.1] at hi
  obtain rfl:i=k:=by simpa using hi
  unfold Qb0 at h
  by_cases hz:i < z
  ·rw [if_pos hz] at h
   exact Qc6 (Q':=fun e a' w'=>match e with | .normal=>S w'∧Qb0 P ops Q S z (i + 1) l a' w' | e=>Q e a' w') h0 (fun a' w' h'=>⟨fun _=>h'.1,ih (i + 1) _ a' w' hl' hB.2 h'.2⟩) (fun _ _ _ h'=>h') (fun _ _ h'=>h') h
  ·rw [if_neg hz] at h
   have hw:wpOp P ops Q i (wpList P ops Q l) a w:=by unfold wpOp; rw [h0]; exact h
   refine wpOp_mono (fun a' w' h'=>⟨fun hh=>absurd hh hz,ih (i + 1) _ a' w' hl' hB.2 ?_⟩) hw
   cases l with
   | nil=>exact h'
   | cons o2 r=>unfold Qb0; rw [if_neg (by omega)]; exact h'
theorem Qrh {Q:Exit→Act→World→Prop} {z n:Nat} {w:World} (hsel:Region.noSelect ops=true) (hz:Qc4 md ops z=true) (hnz:n≤z) (hpl:∀ i o,i < n→ops[i]? = some o→Qer o.op=true) (hQ:∀ c a w,¬ Q (.panic c) a w) (hS:S w) :
  ∀ (l:List Oper) (k:Nat) (ls:Array Bool) (a:Act),(∀ j,j < l.length→l[j]? = ops[k + j]?)→k + l.length=n →
  Region.lexHead md ops (ops.size - n) l.length k ls=true→wpQuiet P ops S (fun a'=>Qb0 P ops Q S z n (ops.toList.drop n) a' w) l a→Qdg P md ops Q S z (l.length + (ops.size - n)) ls a w:=by
 intro l
 induction l with
 | nil =>
  intro k ls a _ hk hB h
  obtain rfl:k=n:=hk
  have hd:(ops.toList.drop k).length=ops.size - k:=by rw [List.length_drop,Array.length_toList]
  have:=Ql9 (md:=md) (S:=S) (z:=z) (Q:=Q) (ops.toList.drop k) k ls a w (fun j=>by rw [List.getElem?_drop,Array.getElem?_toList]) (by rw [hd]; exact hB) h
  rw [hd] at this
  rw [List.length_nil,Nat.zero_add]
  exact this
 | cons o l ih =>
  intro k ls a hl hk hB h
  have h0:ops[k]? = some o:=(hl 0 (Nat.succ_pos _)).symm
  rw [List.length_cons] at hk
  rw [List.length_cons,Region.lexHead,Bool.and_eq_true,Bool.and_eq_true] at hB
  have hr:k ∈ Region.ready md ops ls:=by simpa using hB.1.1
  have hkn:k < n:=by omega
  have hq:qOp P ops S k (wpQuiet P ops S (fun a'=>Qb0 P ops Q S z n (ops.toList.drop n) a' w) l) a:=by unfold qOp; rw [h0]; exact h
  obtain ⟨v,hy,hK⟩:=yieldsIn_of_qOp h0 hq
  have hy':YieldsIf P ops S o v a:=by
   rcases hy with ⟨h1,h2⟩ | ⟨h1,h2⟩
   ·refine .inl ⟨h1,fun w1 hw1=>?_⟩
    have h3:=h2 w1 hw1
    have h4:=Qh9 (P:=P) (hpl k o hkn h0) a.eval w1
    unfold Oper.quietAt at h3
    cases hr:(execOp a.eval o).run P w1 with
    | ok nx w2 =>
     rw [hr] at h3 h4
     obtain ⟨u,rfl⟩:=h4 _ _ rfl
     obtain ⟨e1,e2⟩:=h3
     rw [e1,e2]
    | halt x w2=>rw [hr] at h3; exact h3.elim
   ·exact .inr ⟨h1,h2⟩
  rw [List.length_cons,Nat.succ_add]
  refine Qjg h0 (Region.noSelect_spec hsel) hz (by omega) (fun c a w h=>absurd h (hQ c _ w)) _ ls a w (Region.free_spec h0 hB.1.2) hr hy' hS (ih (k + 1) _ _ (fun j hj=>?_) (by omega) hB.2 hK)
  have:=hl (j + 1) (by rw [List.length_cons]; omega)
  rw [show k + 1 + j=k + (j + 1) by omega,← this,gS]
def Qbn (Q:Exit→Act→World→Prop):Exit→Act→World→Prop:=fun e a w=>match e with | .panic _=>False | e=>Q e a w
theorem wpOp_calm {Q:Exit→Act→World→Prop} {i:Nat} {K:Act→World→Prop} {a:Act} {w:World} (h:wpOp P ops (Qbn Q) i K a w):wpOp P ops Q i K a w:=by
 unfold wpOp at *
 split
 ·simpa [*] using h
 ·rename_i o ho
  simp only [ho] at h
  split
  ·rename_i hw
   simp only [hw,if_true] at h
   rcases h with h | ⟨h1,a',w',h2⟩
   ·exact .inl (Qft (Q:=Qbn Q) (fun _ _ h=>h) (fun _ _ _ (h:False)=>h.elim) (fun _ _ h=>h) h)
   ·exact .inr ⟨h1,a',w',h2⟩
  ·rename_i hw
   simp only [hw] at h
   exact h
theorem Qg7 {Q:Exit→Act→World→Prop} : ∀ (f:Nat) {ls:Array Bool} {a:Act} {w:World},wpAny P md ops (Qbn Q) f ls a w→wpAny P md ops Q f ls a w:=by
 intro f
 induction f with
 | zero=>intro ls a w h; exact h
 | succ f ih=>intro ls a w h; exact ⟨h.1,fun i hi=>wpOp_mono (fun a' w' h'=>ih h') (wpOp_calm (h.2 i hi))⟩
def Qsj (l:List Oper) (n:Nat):Bool:=(l.take n).all fun o=>Qer o.op
def Qkw (md:Region.Mode) (l:List Oper) (n z:Nat):Bool:=Region.noSelect l.toArray && decide (n≤z) && decide (n≤l.length) && Qsj l n && Qc4 md l.toArray z && Region.lexHead md l.toArray (l.toArray.size - n) n 0 (Array.replicate l.toArray.size false)
theorem Qia {id:Nat} {Q:Exit→Act→World→Prop} {a:Act} {w:World} {l:List Oper} (n z:Nat) (hm:P.follows .mixedOrders=true) (hB:Qkw .any l n z=true) (hS:S { w with drawn:=w.drawn + 1 })
  (h:wpQuiet P l.toArray S (fun a'=>Qb0 P l.toArray (Qbn Q) S z n (l.drop n) a' { w with drawn:=w.drawn + 1 }) (l.take n) a):(Code.region id l.toArray true).wp P Q a w:=by
 simp only [Qkw,Bool.and_eq_true,decide_eq_true_eq] at hB
 obtain ⟨⟨⟨⟨⟨hsel,hnz⟩,hnl⟩,hpl⟩,hz⟩,hlex⟩:=hB
 have htl:(l.take n).length=n:=by rw [List.length_take]; omega
 refine wp_region_any hm (Qg7 _ ?_)
 have:=Qrh (md:=.any) (S:=S) (Q:=Qbn Q) (n:=n) hsel hz hnz (fun i o hi ho=>?_) (fun c a w h=>h) hS (l.take n) 0 (Array.replicate l.toArray.size false) a (fun j hj=>by
  rw [htl] at hj
  rw [List.getElem?_take_of_lt hj,Nat.zero_add,gA]) (by rw [htl,Nat.zero_add]) (by rw [htl]; exact hlex) h
 ·rw [htl,show n + (l.toArray.size - n)=l.toArray.size by simp; omega] at this
  exact Qei _ this
 ·rw [gA] at ho
  refine List.all_eq_true.1 hpl o ?_
  obtain ⟨hlt,rfl⟩:=List.getElem?_eq_some_iff.1 ho
  exact List.mem_take_iff_getElem.2 ⟨i,by rw [Nat.min_def]; split <;> omega,rfl⟩
theorem Qa5 {id:Nat} {Q:Exit→Act→World→Prop} {a:Act} {w:World} {l:List Oper} (n z:Nat) (hm:P.follows .mixedOrders=true) (hB:Qkw .any l n z=true) (S:World→Prop) (hS:S w.drew)
  (h:∀ (I:Type) [Nonempty I] (f:I→World),(∀ n,S (f n))→wpQuiet P l.toArray (fun w'=>∃ n,w'=f n) (fun a'=>Qb0 P l.toArray (Qbn Q) S z n (l.drop n) a' w.drew) (l.take n) a):(Code.region id l.toArray true).wp P Q a w:=by
 refine Qia (S:=S) n z hm hB hS ?_
 haveI:Nonempty {w':World // S w'}:=⟨⟨_,hS⟩⟩
 have:=h {w':World // S w'} Subtype.val (fun n=>n.2)
 have e:(fun w'=>∃ n:{w':World // S w'},w'=n.1)=S:=by
  funext w'
  exact propext ⟨fun ⟨n,hn⟩=>by rw [hn]; exact n.2,fun h=>⟨⟨w',h⟩,rfl⟩⟩
 rw [e] at this
 exact this
theorem Qpu {Q:Exit→Act→World→Prop} {z k:Nat} {o:Oper} {r:List Oper} {a:Act} {w:World} (hk:k < z) (h:wpList P ops (fun e a' w'=>match e with | .normal=>S w'∧Qb0 P ops Q S z (k + 1) r a' w' | e=>Q e a' w') [o] a w):Qb0 P ops Q S z k (o :: r) a w:=by
 unfold Qb0; rw [if_pos hk]; exact h
theorem Qak {Q:Exit→Act→World→Prop} {z k:Nat} {o:Oper} {r:List Oper} {a:Act} {w:World} (hk:k < z) (hg:o.guard=none)
  (h:∀ K:Act→World→Prop,(∀ a w,S w→Qb0 P ops Q S z (k + 1) r a w→K a w)→o.wp P a w K (fun e a' w'=>match e with | .normal=>S w'∧Qb0 P ops Q S z (k + 1) r a' w' | e=>Q e a' w')):Qb0 P ops Q S z k (o :: r) a w :=
 Qpu hk (wpList_plain hg fun K hK=>h K fun a w h1 h2=>hK a w ⟨h1,h2⟩)
theorem Qcv {Q:Exit→Act→World→Prop} {z k:Nat} {l:List Oper} {a:Act} {w:World} (hk:z≤k) (h:wpList P ops Q l a w):Qb0 P ops Q S z k l a w:=by
 cases l with
 | nil=>exact h
 | cons o r=>unfold Qb0; rw [if_neg (by omega)]; exact h
end
theorem TabB.mv {w w':World} {D X:Nat→Prop} {g:Nat} {l:List ByteArray} (h:TabB w D g l) (hm:Mv X w w') (hD:∀ i,D i→¬ X i):TabB w' D g l:=by
 obtain ⟨Al,cl,Ao,co,O,h1,h2,h3,h4,h5,h6,h7,h8⟩:=h
 exact ⟨Al,cl,Ao,co,O,hm.blk h1 (hD _ h6),Reads.mv h2 hm fun a ha=>hD _ (h7 a ha),Reads.mv h3 hm fun a ha=>hD _ (h8 a ha),h4,h5,h6,h7,h8⟩
theorem TabB.more {w:World} {D D':Nat→Prop} {g:Nat} {l:List ByteArray} (h:TabB w D g l) (hD:∀ i,D i→D' i):TabB w D' g l:=by
 obtain ⟨Al,cl,Ao,co,O,h1,h2,h3,h4,h5,h6,h7,h8⟩:=h
 exact ⟨Al,cl,Ao,co,O,h1,h2,h3,h4,h5,hD _ h6,fun a ha=>hD _ (h7 a ha),fun a ha=>hD _ (h8 a ha)⟩
theorem Qib {s:Sch} (hf:s.Fine) {k:Nat} (hk:k < s.n):s.first (k + 1)=s.first k + Q6 (s.ty k)∧s.first k + Q6 (s.ty k)≤512∧Q4 (s.ty k)≤512:=by
 have h1:=Qbz (f:=fun i=>Q4 (s.all i)) (show k < s.n + 1 by omega)
 have h2:=hf.many
 have h3:s.first k≤Ql (fun i=>Q4 (s.all i)) k:=Qdw fun i hi=>by rw [Sch.all_lt (show i < s.n by omega)]; exact Qdr _
 have h4:=Qdr (s.ty k)
 rw [Sch.all_lt hk] at h1
 exact ⟨rfl,by omega,by omega⟩
theorem Qri {s:Sch} (hf:s.Fine) {k:Nat} (hk:k≤s.n):s.first k≤512:=by
 rcases Nat.eq_zero_or_pos k with h0 | h0
 ·subst h0; exact Nat.zero_le _
 ·obtain ⟨j,rfl⟩:∃ j,k=j + 1:=⟨k - 1,by omega⟩
  have:=Qib hf (show j < s.n by omega)
  omega
def Qbp (s:Sch) (k:Nat):List Nat:=(List.range k).map s.start
theorem Qma (s:Sch) (k:Nat):Qbp s (k + 1)=Qbp s k ++ [s.start k]:=by
 unfold Qbp
 rw [List.range_succ,List.map_append]
 rfl
theorem Qcg (s:Sch) (k:Nat):(Qbp s k).length=k:=by simp [Qbp]
theorem own_block {w:World} {base size n:Nat} {e:TypeId} {v:Value} {xs:List Value} (h:w.ownsRow base e size v n xs):∀ g,v.ownBlock=some g→base≤g:=by
 intro g hg
 rcases h.2 with ⟨rfl,_⟩ | ⟨g',cap,cur,rfl,hb,_⟩
 ·cases hg
 ·have e:g'=g:=by simpa [Value.ownBlock] using hg
  rw [← e]; exact hb
theorem Qmb (w:World) {o:Oper} {a:Act} {K:Act→World→Prop} {Q:Exit→Act→World→Prop} (s x:Operand)
  (ho:o.op = .call { callee:=.builtin .append,args:=#[s,x],argTypes:=#[58,58] })
  (base:Nat) (v:Value) (n:Nat) (l:List Nat) (hs:a.eval s=v) (g:Nat) (u:Nat) (c:Nat) (hx:a.eval x = .slice (some ⟨g,0,none⟩) 1 c)
  (hown:w.ownsRow base 3 1 v n (Qj l)) (hr:Reads w (g + 1) 1 (some ⟨g,0,none⟩) 1 [.int .i64 (u:Int)]) (hn:n≤1073741823) (hbase:base≤w.heap.size)
  (h:∀ A' c' w',w'.ownsRow base 3 1 (.slice A' (n + 1) c') (n + 1) (Qj (l ++ [u]))→w.grownBy w' v.ownBlock→(Value.ownBlock (.slice A' (n + 1) c')=v.ownBlock∨Value.ownBlock (.slice A' (n + 1) c')=some w.heap.size)→K (a.put o.dst (.slice A' (n + 1) c')) w'):o.wp Tryz.prog a w K Q:=by
 obtain ⟨i0,hi,hz,hs2,hb⟩:=Qc0
 refine Qbo w s x 58 ho base 3 i0 _ 1 8 Tryz.underlying58 hi hz hs2 hb rfl (by decide) v n (Qj l) hs hown (g + 1) _ 1 c [.int .i64 (u:Int)] hx hr (fun y hy=>by rw [List.mem_singleton.1 hy]; rfl) (by unfold maxLen; omega) (by omega) hbase ?_
 intro v' w' h2 h3 h4
 have hv:∃ A' c',v' = .slice A' (n + 1) c':=by
  rcases h2.2 with ⟨e,h0⟩ | ⟨g,cap,cur,e,_⟩
  ·omega
  ·exact ⟨_,_,e⟩
 obtain ⟨A',c',hv⟩:=hv
 rw [hv] at h2 h4 ⊢
 refine h A' c' w' ?_ h3 h4
 have:Qj (l ++ [u])=Qj l ++ [.int .i64 (u:Int)]:=by simp [Qj]
 rw [this]
 exact h2
def Qn2 (s:Sch) (gl gp gt n:Nat) (NV:Value) (r0:Int) (w:World) (e:Ending) (w':World):Prop :=
 e = .returned (.tuple #[])∧Mv (fun i=>i=gp) w w'∧∃ An cn,Blk w' gp 83 #[.pointer (some ⟨gl,0,none⟩),NV,.int .i64 r0,.pointer (some ⟨gt,0,none⟩),.slice An n cn]∧NatAt w' w'.heap.size An (Qbp s n)∧∀ a,An=some a→w.heap.size≤a.block
set_option maxRecDepth 100000 in
theorem Qn3 (gb gl gp gt n c3:Nat) (A3:Option Addr) (xs:List Value) (mm r0:Int) (NV:Value) (s:Sch) (w0 w:World) (hB:BldAt w gb A3 n c3 xs gl gp mm) (hn:n=s.n) (hf:s.Fine)
  (hP:Blk w gp 83 #[.pointer (some ⟨gl,0,none⟩),NV,.int .i64 r0,.pointer (some ⟨gt,0,none⟩),.slice none 0 0]) (hT:TabB w (fun i=>i≠gp) gt s.names) (hE0:Ext w0 w) (hgp:w0.heap.size≤gp) (hN:NamedAt w0 w0.heap.size A3 n s.nm s.ty) (hsz:∀ i,i < n→Q1 (s.ty i)) (hend:∀ i,i < n→∃ j,s.endK n i=some j) :
  Calls Tryz.prog 35 #[.pointer (some ⟨gb,0,none⟩)] w (Qn2 s gl gp gt n NV r0 w):=by
 obtain ⟨i0,hi,hz0,hz1,hz2⟩:=Qc0
 have h64:n≤64:=by rw [hn]; exact hf.few
 have hne:gp≠gb:=hB.ne hP (by decide)
 have hgpl:=hP.lt
 have hgbl:=hB.lt
 obtain ⟨HNE,HGP,HEND,HB,HP,HT,HE0,HN⟩:=Z8 hne hgp (fun (k:Nat) (hk:k < n) (MV:Value) w1 (hB1:BldAt w1 gb A3 n c3 xs gl gp mm) (hP1:Blk w1 gp 83 #[.pointer (some ⟨gl,0,none⟩),NV,.int .i64 r0,.pointer (some ⟨gt,0,none⟩),MV]) (hT1:TabAt w1 gt s.names) (hE1:Ext w0 w1)=>Qmv gb gl gp gt n c3 A3 xs mm r0 NV MV s k w1 hB1 hn (by omega) hk hP1 hT1 (hN.ext hE1)) hB hP hT hE0 hN
 obtain ⟨HSZ,HFS,HFL⟩:=Z3 hsz (fun k (hk:k < n)=>Qib hf (k:=k) (by omega)) (fun k (hk:k≤n)=>Qri hf (k:=k) (by omega))
 have HEN:=Qa (fun i (hi:i < n)=>(show ∃ j,j < n∧s.endK n i=some j∧s.start i=s.first j by
  obtain ⟨j,hj⟩:=hend i hi
  refine ⟨j,?_,hj,?_⟩
  ·have:=(Sch.endK_lt (closed s) (by omega) hj).1; omega
  ·unfold Sch.start; rw [← hn,hj]))
 have hle:(n:Int)≤64:=by omega
 have hle0:=nZ n
 have b2:=hB.c2
 clear hB hP hT hE0 hN hn hf hsz hend hne hgp
 go_enter Tryz.func35,Tryz.ntmps35
 go_wp2_with (at_make; refine wpList_make_full _ rfl _ _ 58 rfl w.heap.size 3 i0 (.int .i64 0) 1 Tryz.underlying58 hi hz0 hz1 _ _ _ _ n rfl rfl rfl rfl ?c1 ?c2 nL ?_)
 case c1=>rw [hz2]; omega
 case c2=>unfold maxLen; omega
 intro w2 hown2 hgrow2
 have hE2:=Q8 hgrow2
 have hg2:=(hown2.lt w.heap.size rfl).2
 obtain ⟨gf,hgf⟩:=V1 (w.heap.size)
 have hr2:∀ p,p < n→w2.cell? ⟨w.heap.size,p,none⟩=some (.int .i64 0):=fun p hp=>by
  rw [hown2.cellAt p (by omega)]
  simp [madeCells,hp,Nat.mod_one]
 have hf2:∀ p,w2.frozen? ⟨w.heap.size,p,none⟩=false:=fun p=>hown2.frozenAt p
 rw [← hgf] at hr2 hf2 hg2 ⊢
 obtain ⟨HGF,HR2,HF2,HE2⟩:=Z4 hgf hr2 hf2 hE2
 have b3:=(HB.out.ext hE2).c2
 clear hown2 hgrow2 hE2 hr2 hf2 hgf b2
 go_wp2_with fail
 clear b3
 go_loopw [20,3] (fun i at_ wr=>∃ k:Nat,k≤n∧i = .int .i64 (k:Int)∧at_ = .int .i64 ((s.first k:Nat):Int)∧Ext w wr∧gf < wr.heap.size∧Hid ((∀ p,p < n→wr.cell? ⟨gf,p,none⟩=some (.int .i64 ((if p < k then s.first p else 0:Nat):Int)))∧∀ p,wr.frozen? ⟨gf,p,none⟩=false)) (fun i _ _=>n - (intOf i).toNat)
 case atStart=>exact ⟨0,Nat.zero_le _,rfl,rfl,HE2.out,hg2,fun p hp=>by rw [HR2.out p hp,if_neg (Nat.not_lt_zero _)]; rfl,HF2.out⟩
 case round =>
  clear HR2 HF2 HE2 hg2
  obtain ⟨k,hk,rfl,rfl,hE,hgs,HC⟩:=hrel
  have HE:=Qa hE
  by_cases hlt:k < n
  ·have hEw:=HE0.out.trans' hE
   obtain ⟨b,o,rfl,hb,hc⟩:=HN.out (by omega)
   obtain ⟨vt,h1,h2⟩:=hc k hlt
   have hrg:=fun j' (v:Value) hv=>(hEw.cell (p:=⟨b,o + k * 11 + j',none⟩) hb).trans (h1 j' v hv)
   obtain ⟨h,np,p,t,An,cn,Ap,cp,hty,rfl⟩:=h2.open2
   have HRG:=Qa (show wr.rangeAt b (o + k * 11) ([.string (s.nm k).1,.int .i64 (s.nm k).2] ++ tyV h An cn Ap np cp) from hrg)
   unfold tyV at HRG
   simp only [List.cons_append,List.nil_append] at HRG
   obtain ⟨x,hx,y,hy⟩:=V2 ((s.nm k).1) ((s.nm k).2)
   rw [← hx,← hy] at HRG
   have hnod:=fun w1 (hE1:Ext w0 w1)=>Qpb (s.ty k) w1 _ (TyAt.ext h2 hE1) (HSZ.out k hlt) (by have:=(HFS.out k hlt).2.2; omega)
   obtain ⟨q1,q2,q3⟩:=HFS.out k hlt
   have HQ:=Qa q1
   obtain ⟨z,hz⟩:=V1 (Q6 (s.ty k))
   rw [← hz] at hnod q2
   have HNOD:=Qa (show ∀ w1,Ext w0 w1→Calls Tryz.prog 75 #[.agg #[.int .i64 h.kind,.int .i64 h.at_,.int .i64 h.lo,.int .i64 h.hi,.int .i64 h.most,.slice An h.names.length cn,.slice Ap np cp,.string h.name.1,.int .i64 h.name.2]] w1 (fun e w'=>e = .returned (.int .i64 (z:Int))∧Ext w1 w') from hnod)
   obtain ⟨fk,hfk⟩:=V1 (s.first k)
   rw [← hfk] at q2 ⊢
   obtain ⟨HFK,HZ⟩:=Z2 hfk hz
   obtain ⟨w5,g5,hw5,hg5,Hw5,Hg5,hV,hVE⟩:=T0 wr 90 #[.string x,.int .i64 y,.int .i64 h.kind,.int .i64 h.at_,.int .i64 h.lo,.int .i64 h.hi,.int .i64 h.most,.slice An h.names.length cn,.slice Ap np cp,.string h.name.1,.int .i64 h.name.2]
   obtain ⟨-,-,v2,v3,v4,v5,v6,v7,v8,v9,v10⟩:=X11 hV
   obtain ⟨HE5,HX5,HEw,HV⟩:=Z4 (hE.trans' hVE) hVE hEw hV
   have d1:=(hVE.cell (p:=⟨gf,k,none⟩) hgs).trans (HC.out.1 k hlt)
   have d2:=(hVE.frozen (p:=⟨gf,k,none⟩) hgs).trans (HC.out.2 k)
   have hgg:gf≠g5:=by have:=Hg5.out; omega
   rw [if_neg (Nat.lt_irrefl k)] at d1
   have i0:=nZ k
   have i1:(k:Int) < (n:Int):=by omega
   have c0:=nZ fk
   have c1:(fk:Int)≤512:=by omega
   have x0:=nZ z
   have x1:(z:Int)≤512:=by omega
   clear hrg h1 h2 hc hE hEw hw5 hg5 hV hVE hx hy hty q1 q2 q3 hnod hfk hz
   go_upto_region 4 with fail
   refine wp_region_lit ?_
   refine wpList_plain rfl fun K0 hK0=>?_
   go_simp
   refine hK0 _ _ ?_
   refine wpList_plain rfl fun K1 hK1=>?_
   go_simp
   refine hK1 _ _ ?_
   refine wpList_load_mid rfl 90 _ rfl b (o + k * 11) rfl _ _ HRG.out Tryz.underlying90 rfl Qbb ?_
   refine wpList_plain rfl fun K0 hK0=>?_
   go_simp
   refine hK0 _ _ ?_
   refine wpList_plain rfl fun K1 hK1=>?_
   go_simp
   refine hK1 _ _ ?_
   refine Qd rfl 90 _ _ rfl _ #[.string x,.int .i64 y,.int .i64 h.kind,.int .i64 h.at_,.int .i64 h.lo,.int .i64 h.hi,.int .i64 h.most,.slice An h.names.length cn,.slice Ap np cp,.string h.name.1,.int .i64 h.name.2] rfl rfl Qbb rfl (by simp [Value.oneCell']) ?_
   go_upto_region 5 with fail
   rw [← Hw5.out,← Hg5.out]
   obtain ⟨w6,hw6⟩:=V1 (w5.setCell ⟨gf,k,none⟩ (.int .i64 (fk:Int)))
   have HE6:=Qa (show Ext w w6 by rw [hw6]; exact HE5.out.setCell (by rw [HGF.out]; exact Nat.le_refl _) _)
   have hV6:Blk w6 g5 90 #[.string x,.int .i64 y,.int .i64 h.kind,.int .i64 h.at_,.int .i64 h.lo,.int .i64 h.hi,.int .i64 h.most,.slice An h.names.length cn,.slice Ap np cp,.string h.name.1,.int .i64 h.name.2]:=by rw [hw6]; exact HV.out.far (fun e=>hgg e.symm) _
   have HC6:=Qa (show (∀ p,p < n→w6.cell? ⟨gf,p,none⟩=some (.int .i64 ((if p < k + 1 then s.first p else 0:Nat):Int)))∧(∀ p,w6.frozen? ⟨gf,p,none⟩=false)∧gf < w6.heap.size by
    rw [hw6]
    refine ⟨fun p hp=>?_,fun p=>?_,?_⟩
    ·by_cases e:p=k
     ·subst e
      rw [if_pos (Nat.lt_succ_self _),← HFK.out]
      exact World.cell?_setCell_same _ _ _ d1
     ·refine (World.cell?_setCell_other _ _ _ _ (by intro e'; injection e' with _ e'; omega)).trans ?_
      rw [(HX5.out.cell (p:=⟨gf,p,none⟩) hgs).trans (HC.out.1 p hp)]
      by_cases e2:p < k
      ·rw [if_pos e2,if_pos (by omega)]
      ·rw [if_neg e2,if_neg (by omega)]
    ·rw [World.frozen?_setCell]
     exact (HX5.out.frozen (p:=⟨gf,p,none⟩) hgs).trans (HC.out.2 p)
    ·rw [size_setCell']; exact Nat.lt_of_lt_of_le hgs HX5.out.size)
   have HW6:=Qa hw6
   clear hw6
   go_upto_region 6 with fail
   rw [← HW6.out]
   obtain ⟨u0,-,u2,u3,u4,u5,u6,u7,u8,u9,u10⟩:=X11 hV6
   clear d1 d2 v2 v3 v4 v5 v6 v7 v8 v9 v10 HC HX5 hV6
   go_wp2_with fail
   refine (HNOD.out w6 (HE0.out.trans' HE6.out)).mono ?_
   rintro e w7 ⟨rfl,hE7⟩
   have HE7:=Qa (HE6.out.trans' hE7)
   have HC7:=Qa (show (∀ p,p < n→w7.cell? ⟨gf,p,none⟩=some (.int .i64 ((if p < k + 1 then s.first p else 0:Nat):Int)))∧(∀ p,w7.frozen? ⟨gf,p,none⟩=false) from ⟨fun p hp=>(hE7.cell (p:=⟨gf,p,none⟩) HC6.out.2.2).trans (HC6.out.1 p hp),fun p=>(hE7.frozen (p:=⟨gf,p,none⟩) HC6.out.2.2).trans (HC6.out.2.1 p)⟩)
   have hgs7:gf < w7.heap.size:=Nat.lt_of_lt_of_le HC6.out.2.2 hE7.size
   clear hE7 u0 u2 u3 u4 u5 u6 u7 u8 u9 u10
   go_wp2_with fail
   go_roundw
   case rel=>exact ⟨k + 1,by omega,by go_num,by rw [HQ.out,← HFK.out,← HZ.out]; go_num,HE7.out,hgs7,HC7.out⟩
   case measure=>simp [intOf]; omega
  ·obtain rfl:k=n:=by omega
   have hB8:=HB.out.ext hE
   have hP8:=HP.out.ext hE
   have hT8:=HT.out.mv (Mv.of_ext (X:=fun i=>i=gp) hE) (fun i hi=>hi)
   have hE08:=HE0.out.trans' hE
   have hR8:∀ p,p < k→wr.cell? ⟨gf,p,none⟩=some (.int .i64 ((s.first p:Nat):Int)):=fun p hp=>by rw [HC.out.1 p hp,if_pos hp]
   obtain ⟨w8,rfl⟩:=V1 (wr)
   have lgb:=hB8.lt
   have lgp:=hP8.lt
   have hgfp:gf≠gp:=by rw [HGF.out]; omega
   obtain ⟨HB8,HT8,HE8,HE08,HR8,HP8⟩:=Z6 hB8 hT8 hE hE08 hR8 hP8
   have b2:=hB8.c2
   clear HC HB HP HT HE0 hB8 hT8 hE08 hR8 hP8 hE HE
   go_wp2_with fail
   clear b2
   go_loopw [41] (fun i wx=>∃ (q:Nat) (Ao:Option Addr) (co:Nat),q≤k∧i = .int .i64 (q:Int)∧Blk wx gp 83 #[.pointer (some ⟨gl,0,none⟩),NV,.int .i64 r0,.pointer (some ⟨gt,0,none⟩),.slice Ao q co]∧wx.ownsRow w8.heap.size 3 1 (.slice Ao q co) q (Qj (Qbp s q))∧Mv (fun i=>i=gp) w8 wx) (fun i _=>k - (intOf i).toNat)
   case atStart=>exact ⟨0,none,0,Nat.zero_le _,rfl,HP8.out,World.ownsRow_nil _ _ _ _,Mv.rfl' _ _⟩
   case round =>
    obtain ⟨q,Ao,co,hq,rfl,hP,hO,hM⟩:=hrel
    obtain ⟨HM,HO⟩:=Z2 hM hO
    by_cases hlt2:q < k
    ·obtain ⟨j,hjk,hj,hst⟩:=HEN.out q hlt2
     have hBr:=HB8.out.mv hM (X:=fun i=>i=gp) (fun e=>HNE.out e.symm)
     have hTr:=HT8.out.mv hM (fun i hi=>hi)
     have hE0r:=hM.below HE08.out (fun i hi=>by rw [hi]; exact HGP.out)
     have hend:=fun w1 (hE1:Ext wr w1)=>HEND.out q hlt2 _ w1 (hBr.ext hE1) (hP.ext hE1) (hTr.tab.ext hE1) (hE0r.trans' hE1)
     rw [hj] at hend
     have HEN1:=Qa (show ∀ w1,Ext wr w1→Calls Tryz.prog 74 #[.pointer (some ⟨gb,0,none⟩),.int .i64 (q:Int)] w1 (fun e w'=>e = .returned (.int .i64 (j:Int))∧Ext w1 w') from hend)
     have s1:=hBr.c13
     have s2:=hP.cell 4
     have s3:=(hM.cell (p:=⟨gf,j,none⟩) hgs hgfp).trans (HR8.out j hjk)
     obtain ⟨fj,hfj⟩:=V1 (s.first j)
     rw [← hfj] at s3 hst
     have HST:=Qa hst
     simp only [gA,gH,gS] at s2
     have j0:=nZ j
     have j1:(j:Int) < (k:Int):=by omega
     have i0:=nZ q
     have i1:(q:Int) < (k:Int):=by omega
     have hsz:=hM.size
     obtain ⟨HSZW,HPr,HOB⟩:=Z3 hsz hP (own_block hO)
     clear hP hO hM hBr hTr hE0r hend hj hfj hst hjk
     go_upto_region 11 with fail
     rename_i Kz hKz
     refine Qa5 14 19 (by kernel_rfl) (by kernel_rfl) (fun w'=>w'.cell? ⟨gb,13,none⟩=some (.pointer (some ⟨gp,0,none⟩))∧w'.cell? ⟨gp,4,none⟩=some (.slice Ao q co)) ⟨s1,s2⟩ ?_
     intro I _ f hf
     have q1:=fun n=>(hf n).1
     have q2:=fun n=>(hf n).2
     clear hf
     simp only [List.take_succ_cons,List.take_zero,List.drop_succ_cons,List.drop_zero]
     repeat (go_big_quiet_step ((fail)))
     refine wpQuiet_nil ?_
     clear q1 q2
     refine Qak (by decide) rfl ?_
     intro K1 hK1
     go_simp
     refine (HEN1.out _ (Ext.drew' (Ext.rfl' wr))).mono ?_
     rintro e wz ⟨rfl,hEz⟩
     have hEz':=((Ext.rfl' wr).drew').trans' hEz
     have zsz:=hEz'.size
     have z1:=(hEz'.cell (p:=⟨gb,13,none⟩) (by show gb < _; omega)).trans s1
     have z2:=(hEz'.cell (p:=⟨gp,4,none⟩) (by show gp < _; omega)).trans s2
     have z3:=(hEz'.cell (p:=⟨gf,j,none⟩) (by show gf < _; omega)).trans s3
     obtain ⟨HEz,HZ12⟩:=Z2 hEz' (And.intro z1 z2)
     clear hEz hEz' s1 s2 s3 z1 z2
     refine hK1 _ _ HZ12.out ?_
     refine Qak (by decide) rfl ?_
     intro K2 hK2
     go_simp
     refine hK2 _ _ HZ12.out ?_
     refine Qak (by decide) rfl ?_
     intro K3 hK3
     go_simp
     refine hK3 _ _ HZ12.out ?_
     refine Qak (by decide) rfl ?_
     intro K4 hK4
     go_simp
     refine hK4 _ _ ⟨(World.cell?_alloc_lt _ _ ⟨gb,13,none⟩ (by show gb < _; omega)).trans HZ12.out.1,(World.cell?_alloc_lt _ _ ⟨gp,4,none⟩ (by show gp < _; omega)).trans HZ12.out.2⟩ ?_
     refine Qak (by decide) rfl ?_
     intro K5 hK5
     refine Qmb _ (.tmp 54) (.tmp 61) rfl w8.heap.size (.slice Ao q co) q (Qbp s q) rfl wz.heap.size fj 1 rfl ((Qz HO.out HEz.out).alloc _) (Qau _ _ _ _ rfl) (by omega) (by simp only [World.size_alloc]; omega) ?_
     intro A4 c4 w4 hown4 hgrow4 _
     have hX4:∀ i,i < w8.heap.size→w4.heap[i]? = wz.heap[i]?:=fun i hi=>(hgrow4.block i (by simp only [World.size_alloc]; omega) (fun e=>by have:=HOB.out i e.symm; omega)).trans (Below.heap_alloc _ _ i (by omega))
     have HM4:=Qa (show Mv (fun i=>i=gp) w8 w4 from ⟨hgrow4.os.trans (HEz.out.os.trans HM.out.os),hgrow4.tape.trans (HEz.out.tape.trans HM.out.tape),hgrow4.output.trans (HEz.out.output.trans HM.out.output),by have:=hgrow4.size; simp only [World.size_alloc] at this; omega,fun i hi hx=>(hX4 i hi).trans ((HEz.out.block i (by omega)).trans (HM.out.block i hi hx))⟩)
     have hP4:Blk w4 gp 83 #[.pointer (some ⟨gl,0,none⟩),NV,.int .i64 r0,.pointer (some ⟨gt,0,none⟩),.slice Ao q co]:=(hX4 gp lgp).trans (HPr.out.ext HEz.out)
     obtain ⟨HP4,HO4⟩:=Z2 hP4 hown4
     refine hK5 _ _ ⟨(World.cell?_of_block (hX4 gb lgb)).trans HZ12.out.1,(World.cell?_of_block (hX4 gp lgp)).trans HZ12.out.2⟩ ?_
     refine Qcv (by decide) ?_
     obtain ⟨-,-,-,-,p0⟩:=X5 hP4
     have p1:=hP4.free 4
     clear hown4 hgrow4 hX4 hP4 z3
     go_wp2_with fail
     refine hKz _ _ ?_
     go_wp2_with fail
     go_roundw
     case rel =>
      have hm:=(Mv.rfl' (fun i=>i=gp) w4).set (g:=gp) (i:=4) (.inr rfl) (.slice A4 (q + 1) c4)
      refine ⟨q + 1,A4,c4,by omega,by go_num,HP4.out.set_ 4 _,?_,HM4.out.set (.inr rfl) _⟩
      rw [Qma,HST.out]
      exact hm.own HO4.out fun g hg e=>by have:=own_block HO4.out g hg; omega
     case measure=>simp [intOf]; omega
    ·have hqk:q=k:=by omega
     obtain ⟨HQK,HPr⟩:=Z2 hqk hP
     clear hP hO hM hqk
     have hqk2:¬ (q:Int) < (k:Int):=by omega
     go_wp2_with fail
     refine bodyPost_ret (results_none rfl _ _ _) rfl ?_
     refine ⟨rfl,(Mv.of_ext HE8.out).trans HM.out,Ao,co,?_,?_,?_⟩
     ·rw [← HQK.out]; exact HPr.out
     ·have:=Reads.of_own HO.out
      rw [← HQK.out]
      unfold NatAt
      rw [Qcg]
      exact this
     ·intro a ha
      exact Nat.le_trans HE8.out.size (Qcj HO.out a ha)
end Go.Proofs.YtanpljalbijfkaaGreat
