/- . -/
import Derived.Test.YtanpljalbijfkaaGreatQ19
import Derived.Test.YtanpljalbijfkaaGreatQ20
namespace Go.Proofs.YtanpljalbijfkaaGreat
open Go.RowKit
set_option maxHeartbeats 16000000
theorem Qdz (s:Sch):s.names.length=s.n:=by simp [Sch.names]
theorem Qkx {s:Sch} {k:Nat} (hk:k < s.names.length):s.names[k]=(s.nm k).1:=by simp [Sch.names]
theorem Qn4 {s:Sch} {k:Nat} (hk:k < s.n):s.names.take (k + 1)=s.names.take k ++ [(s.nm k).1]:=by
 have hk':k < s.names.length:=by rw [Qdz]; exact hk
 rw [List.take_add_one,List.getElem?_eq_getElem hk',Qkx hk']
 rfl
theorem nameAt_none {s:Sch} {k:Nat} : s.nameAt k=none↔listE s.names k=0:=by
 unfold Sch.nameAt
 split
 ·exact ⟨fun _=>by assumption,fun _=>rfl⟩
 ·exact ⟨fun h=>(by cases h),fun h=>(by contradiction)⟩
theorem Qmc {s:Sch} (h:64 < s.n):s.calledF=(8,(s.nm 64).2):=if_pos h
theorem Qn5 {s:Sch} {k:Nat} {ev:Int} (h64:¬ 64 < s.n) (hk:k < s.n) (h:∀ j,j < k→s.nameAt j=none) (he:listE s.names k=ev) (hev:ev≠0):s.calledF=(ev,(s.nm k).2):=by
 unfold Sch.calledF
 rw [if_neg h64,Qab (k:=k) (x:=(ev,(s.nm k).2)) hk h (by unfold Sch.nameAt; rw [he,if_neg hev])]
 rfl
theorem Qmd {s:Sch} (h64:¬ 64 < s.n) (h:∀ j,j < s.n→s.nameAt j=none):s.calledF=(0,0):=by
 unfold Sch.calledF
 rw [if_neg h64,firstOf_miss.2 h]
 rfl
theorem Qpv {s:Sch} {k:Nat} (hk:k < s.n) (h:∀ j,j < k→s.nameAt j=none) :
  (Qr (s.nm k).1=false→listE s.names k=9)∧(Qr (s.nm k).1=true→(0≤Q9 (s.names.take (k + 1))→listE s.names k=10)∧(Q9 (s.names.take (k + 1)) < 0→s.nameAt k=none)):=by
 have hk':k < s.names.length:=by rw [Qdz]; exact hk
 have hg:s.names.getD k ⟨#[]⟩=(s.nm k).1:=by rw [List.getD_eq_getElem?_getD,List.getElem?_eq_getElem hk',Qkx hk']; rfl
 have ht:=Qi9 hk' (fun j hj=>(Qhs (nameAt_none.1 (h j hj))).2)
 unfold listE
 rw [hg]
 refine ⟨fun hr=>if_pos hr,fun hr=>⟨fun hh=>?_,fun hh=>nameAt_none.2 ?_⟩⟩
 ·rw [if_neg (by rw [hr]; decide),if_pos]
  cases hx:Qw s.names k with
  | true=>rfl
  | false=>have:=ht.2 hx; omega
 ·unfold listE
  rw [hg,if_neg (by rw [hr]; decide),ht.1 hh]
  rfl
theorem TabB.set {w:World} {D:Nat→Prop} {t g i:Nat} {l:List ByteArray} {v:Value} (h:TabB w D t l) (hD:¬ D g):TabB (w.setCell ⟨g,i,none⟩ v) D t l :=
 h.mv (X:=fun j=>j=g) ((Mv.rfl' (fun j=>j=g) w).set (.inr rfl) v) (fun j hj e=>by rw [e] at hj; exact hD hj)
def Qgo (s:Sch) (gl gp:Nat) (NV MV:Value) (r0:Int) (w:World) (e:Ending) (w':World):Prop :=
 e = .returned (Qe s.calledF)∧Mv (fun i=>i=gp) w w'∧(s.calledF.1=0→∃ gt,Blk w' gp 83 #[.pointer (some ⟨gl,0,none⟩),NV,.int .i64 r0,.pointer (some ⟨gt,0,none⟩),MV]∧TabB w' (fun i=>w.heap.size≤i) gt s.names)
set_option maxRecDepth 100000 in
theorem Qme (gb gl gp n c3:Nat) (A3:Option Addr) (xs:List Value) (mm r0:Int) (NV TV MV:Value) (s:Sch) (w:World) (hB:BldAt w gb A3 n c3 xs gl gp mm) (hn:n=s.n) (hsz:∀ i,i < n→(s.nm i).1.size≤maxLen)
  (hP:Blk w gp 83 #[.pointer (some ⟨gl,0,none⟩),NV,.int .i64 r0,TV,MV]) (hN:NamedAt w w.heap.size A3 n s.nm s.ty) :
  Calls Tryz.prog 30 #[.pointer (some ⟨gb,0,none⟩)] w (Qgo s gl gp NV MV r0 w):=by
 obtain ⟨w1,g,hw1,hg,Hw1,Hg,hZ,hZE⟩:=T0 w 34 #[.int .i64 0,.int .i64 0]
 obtain ⟨HE1,HZ⟩:=Z2 hZE hZ
 have hB1:=hB.ext hZE
 have hP1:=hP.ext hZE
 have hN1:=hN.ext hZE
 have hgbl:=hB.lt
 have hgpl:=hP.lt
 have b2:=hB1.c2
 by_cases c1:64 < n
 ·have HR:=Qa (Qmc (s:=s) (by omega))
  unfold Qgo
  rw [HR.out]
  obtain ⟨b,o,rfl,hb,hc⟩:=hN1 (by omega)
  obtain ⟨vt,h1,h2⟩:=hc 64 (by omega)
  have d1:w1.cell? ⟨b,o + 64 * 11 + 1,none⟩=some (.int .i64 (s.nm 64).2):=h1 1 _ rfl
  obtain ⟨x,hx⟩:=V1 ((s.nm 64).2)
  rw [← hx] at d1 ⊢
  rw [show o + 64 * 11 + 1=o + 705 by omega] at d1
  obtain ⟨z0,z1⟩:=X2 hZ
  obtain ⟨f0,f1⟩:=Y2 hZ
  have i0:(64:Int) < (n:Int):=by omega
  clear hw1 hg hZ hZE hB1 hP1 hN1 hB hP hN hn hc h1 h2 hx HR hsz
  go_enter Tryz.func30,Tryz.ntmps30
  go_upto_region 1 with fail
  rw [← Hw1.out,← Hg.out]
  go_wp2_with fail
  exact Qc (f:=(8,x)) (g:=g) ((HZ.out.set_ 0 _).set_ 1 _) rfl rfl rfl ⟨rfl,.of_ext (ext_two' HE1.out (by rw [Hg.out]; exact Nat.le_refl _) _ _),fun h=>by cases h⟩
 obtain ⟨HIT,HMI,HLE,HMO⟩:=Z4 (fun k (hk:k < n) (hh:∀ j,j < k→s.nameAt j=none) (ev:Int) (he:listE s.names k=ev) (hev:ev≠0)=>Qn5 (s:=s) (k:=k) (ev:=ev) (by omega) (by omega) hh he hev) (fun (hh:∀ j,j < n→s.nameAt j=none)=>Qmd (s:=s) (by omega) (fun j hj=>hh j (by omega))) (fun k (hk:k < n) (hh:∀ j,j < k→s.nameAt j=none)=>Qpv (s:=s) (k:=k) (by omega) hh) (fun k (hk:k < n)=>Qn4 (s:=s) (k:=k) (by omega))
 have HLN:=Qa (show s.names.length=n by rw [Qdz,hn])
 obtain ⟨NL,hNL⟩:=V1 (s.names)
 obtain ⟨HSZ,HB,HP,HN⟩:=Z4 hsz hB1 hP1 hN1
 have i1:¬ (64:Int) < (n:Int):=by omega
 have h64:n≤64:=by omega
 clear hw1 hg hZ hZE hB1 hP1 hN1 hB hP hN hn hsz c1 hNL NL
 go_enter Tryz.func30,Tryz.ntmps30
 go_upto_region 1 with fail
 rw [← Hw1.out,← Hg.out]
 go_wp2_with fail
 clear b2
 go_loopw [29,3] (fun i o wr=>∃ (k:Nat) (Ao:Option Addr) (co:Nat),k≤n∧i = .int .i64 (k:Int)∧o = .slice Ao k co∧Ext w1 wr∧wr.ownsRow w1.heap.size 9 1 (.slice Ao k co) k (Qi (s.names.take k))∧Hid (∀ j,j < k→s.nameAt j=none)) (fun i _ _=>n - (intOf i).toNat)
 case atStart=>exact ⟨0,none,0,Nat.zero_le _,rfl,rfl,Ext.rfl' _,World.ownsRow_nil _ _ _ _,fun j hj=>absurd hj (Nat.not_lt_zero _)⟩
 case round =>
  obtain ⟨k,Ao,co,hk,rfl,rfl,hE,hO,HA⟩:=hrel
  have HE:=Qa hE
  by_cases hlt:k < n
  ·obtain ⟨b,o,rfl,hb,hc⟩:=HN.out (by omega)
   obtain ⟨vt,h1,h2⟩:=hc k hlt
   have hrg:=fun j' (v:Value) hv=>(hE.cell (p:=⟨b,o + k * 11 + j',none⟩) hb).trans (h1 j' v hv)
   obtain ⟨h,np,p,t,An,cn,Ap,cp,hty,rfl⟩:=h2.open2
   have HRG:=Qa (show wr.rangeAt b (o + k * 11) ([.string (s.nm k).1,.int .i64 (s.nm k).2] ++ tyV h An cn Ap np cp) from hrg)
   unfold tyV at HRG
   simp only [List.cons_append,List.nil_append] at HRG
   obtain ⟨x,hx,y,hy⟩:=V2 ((s.nm k).1) ((s.nm k).2)
   rw [← hx,← hy] at HRG
   have hsx:=HSZ.out k hlt
   have hle:=HLE.out k hlt HA.out
   have hit:=HIT.out k hlt HA.out
   have hmo:=HMO.out k hlt
   rw [← hx] at hsx hle hmo
   rw [← hy] at hit
   obtain ⟨HRI,HHIT,HMO',HST⟩:=Z4 (fun w=>Qcm x w hsx) hit hmo (fun h=>Qa4 HA.out (show s.nameAt k=none from h))
   obtain ⟨rb,hrb⟩:=V1 (Qr x)
   rw [← hrb] at HRI hle
   obtain ⟨tw,htw⟩:=V1 (Q9 (s.names.take (k + 1)))
   rw [← htw] at hle
   obtain ⟨HTW,HLE'⟩:=Z2 htw hle
   obtain ⟨w5,g5,hw5,hg5,Hw5,Hg5,hV,hVE⟩:=T0 wr 90 #[.string x,.int .i64 y,.int .i64 h.kind,.int .i64 h.at_,.int .i64 h.lo,.int .i64 h.hi,.int .i64 h.most,.slice An h.names.length cn,.slice Ap np cp,.string h.name.1,.int .i64 h.name.2]
   obtain ⟨HE5,HV,HO5⟩:=Z3 (hE.trans' hVE) hV (Qz hO hVE)
   have hg5:w1.heap.size≤g5:=by rw [hg5]; exact hE.size
   have HGO:=Qa (show ∀ q,Value.ownBlock (.slice Ao k co)=some q→q < g5 from fun q e=>by have:=(hO.lt q e).2; have:=Hg5.out; omega)
   obtain ⟨v0,v1⟩:=X2 hV
   have i0:=nZ k
   have i2:(k:Int) < (n:Int):=by omega
   clear hrg h1 h2 hc hE hO hw5 hV hVE hx hy hty hsx hle hit hmo hrb htw HA HIT HMI HLE HMO
   rename_i hg5_
   clear hg5_
   go_upto_region 6 with fail
   refine wp_region_lit ?_
   refine wpList_plain rfl fun K0 hK0=>?_
   go_simp
   refine hK0 _ _ ?_
   refine wpList_load_mid rfl 90 _ rfl b (o + k * 11) rfl _ _ HRG.out Tryz.underlying90 rfl Qbb ?_
   refine wpList_plain rfl fun K0 hK0=>?_
   go_simp
   refine hK0 _ _ ?_
   refine Qd rfl 90 _ _ rfl _ #[.string x,.int .i64 y,.int .i64 h.kind,.int .i64 h.at_,.int .i64 h.lo,.int .i64 h.hi,.int .i64 h.most,.slice An h.names.length cn,.slice Ap np cp,.string h.name.1,.int .i64 h.name.2] rfl rfl Qbb rfl (by simp [Value.oneCell']) ?_
   go_upto_region 7 with fail
   rw [← Hw5.out,← Hg5.out]
   go_wp2_with (at_builtin; refine Qa9 _ rfl _ _ rfl w1.heap.size _ k (s.names.take k) rfl w5.heap.size x _ rfl (HO5.out.alloc _) (Qau _ _ _ _ rfl) (by omega) (by simp only [World.size_alloc]; have:=HE5.out.size; omega) ?_)
   intro A6 c6 w6 hown6 hgrow6 _
   have hE6:Ext w1 w6:=grown_ext' (w:=w1) (wr:=w5) (base:=w1.heap.size) HE5.out ((Ext.rfl' w5).alloc nL _) hgrow6 HO5.out nL
   have hV6:Blk w6 g5 90 #[.string x,.int .i64 y,.int .i64 h.kind,.int .i64 h.at_,.int .i64 h.lo,.int .i64 h.hi,.int .i64 h.most,.slice An h.names.length cn,.slice Ap np cp,.string h.name.1,.int .i64 h.name.2] :=
    (hgrow6.block g5 (HV.out.alloc _).lt (fun e=>absurd (HGO.out g5 e.symm) (Nat.lt_irrefl _))).trans (HV.out.alloc _)
   rw [← HMO'.out] at hown6
   have hsa:StrAt w6 w6.heap.size A6 (s.names.take (k + 1)):=by
    have:=Reads.of_own hown6
    unfold StrAt
    rw [show (s.names.take (k + 1)).length=k + 1 by rw [List.length_take,HLN.out]; omega]
    exact this
   have htc:=Qfh A6 c6 (k + 1) (s.names.take (k + 1)) w6 hsa (by rw [List.length_take,HLN.out]; omega) (by omega)
   rw [← HTW.out] at htc
   obtain ⟨HTC,HE6,HO6,HZ6,HV6⟩:=Z5 htc hE6 hown6 (HZ.out.ext hE6) hV6
   obtain ⟨u0,u1⟩:=X2 hV6
   clear hown6 hgrow6 hE6 hV6 hsa htc v0 v1 HV HGO HO5 HTW
   cases rb with
   | false =>
    have HX:=Qa (HHIT.out 9 (HLE'.out.1 rfl) (by decide))
    obtain ⟨z0,z1⟩:=X2 HZ6.out
    obtain ⟨f0,f1⟩:=Y2 HZ6.out
    go_upto_region 8 with fail
    go_wp2_with fail
    refine (HRI.out _).mono ?_
    rintro e w7 ⟨rfl,rfl⟩
    go_wp2_with fail
    exact Qc (f:=(9,y)) (g:=g) ((HZ6.out.set_ 0 _).set_ 1 _) rfl rfl rfl ⟨by rw [HX.out],.of_ext (ext_two' (HE1.out.trans' HE6.out) (by rw [Hg.out]; exact Nat.le_refl _) _ _),fun h=>by rw [HX.out] at h; cases h⟩
   | true =>
    by_cases ht:0≤tw
    ·have HX:=Qa (HHIT.out 10 ((HLE'.out.2 rfl).1 ht) (by decide))
     go_upto_region 8 with fail
     go_wp2_with fail
     refine (HRI.out _).mono ?_
     rintro e w7 ⟨rfl,rfl⟩
     go_wp2_with fail
     refine HTC.out.mono ?_
     rintro e w8 ⟨rfl,hE8⟩
     obtain ⟨HE8,HZ8⟩:=Z2 ((HE1.out.trans' HE6.out).trans' hE8) (HZ6.out.ext hE8)
     have t0:=(HV6.out.ext hE8).cell 0
     have t1:=(HV6.out.ext hE8).cell 1
     obtain ⟨z0,z1⟩:=X2 HZ8.out
     obtain ⟨f0,f1⟩:=Y2 HZ8.out
     simp only [gA,gH,gS] at t0 t1
     clear hE8 u0 u1
     go_wp2_with fail
     exact Qc (f:=(10,y)) (g:=g) ((HZ8.out.set_ 0 _).set_ 1 _) rfl rfl rfl ⟨by rw [HX.out],.of_ext (ext_two' HE8.out (by rw [Hg.out]; exact Nat.le_refl _) _ _),fun h=>by rw [HX.out] at h; cases h⟩
    ·have HA2:=Qa (HST.out ((HLE'.out.2 rfl).2 (by omega)))
     go_upto_region 8 with fail
     go_wp2_with fail
     refine (HRI.out _).mono ?_
     rintro e w7 ⟨rfl,rfl⟩
     go_wp2_with fail
     refine HTC.out.mono ?_
     rintro e w8 ⟨rfl,hE8⟩
     obtain ⟨HE8,HO8⟩:=Z2 (HE6.out.trans' hE8) (Qz HO6.out hE8)
     clear hE8 u0 u1
     go_wp2_with fail
     go_roundw
     case rel=>exact ⟨k + 1,A6,c6,by omega,by go_num,rfl,HE8.out,HO8.out,HA2.out⟩
     case measure=>simp [intOf]; omega
  ·obtain rfl:k=n:=by omega
   have HX:=Qa (HMI.out HA.out)
   have htk:s.names.take k=s.names:=List.take_of_length_le (by rw [HLN.out]; exact Nat.le_refl _)
   rw [htk] at hO
   have hsa:StrAt wr wr.heap.size Ao s.names:=by
    have:=Reads.of_own hO
    unfold StrAt
    rw [HLN.out]
    exact this
   have HNEW:=Qa (fun w2 (hE2:Ext wr w2)=>Qgh Ao co k s.names w2 (hsa.ext hE2) HLN.out.symm (by omega))
   have hs:wr.cell? ⟨gb,13,none⟩=some (.pointer (some ⟨gp,0,none⟩)):=(HB.out.ext hE).c13
   have hgbw:gb < wr.heap.size:=Nat.lt_of_lt_of_le hgbl (Nat.le_trans HE1.out.size hE.size)
   obtain ⟨HPr,HZr⟩:=Z2 (HP.out.ext hE) (HZ.out.ext hE)
   clear hO hsa htk HIT HMI HLE HMO hE
   go_wp2_with fail
   rename_i Kz hKz
   refine Qa5 5 6 (by kernel_rfl) (by kernel_rfl) (fun w'=>w'.cell? ⟨gb,13,none⟩=some (.pointer (some ⟨gp,0,none⟩))) hs ?_
   intro I _ f hf
   simp only [List.take_succ_cons,List.take_zero,List.drop_succ_cons,List.drop_zero]
   repeat (go_big_quiet_step ((fail)))
   refine wpQuiet_nil ?_
   clear hf
   refine Qak (by decide) rfl ?_
   intro K1 hK1
   go_simp
   refine (HNEW.out _ (Ext.drew' (Ext.rfl' wr))).mono ?_
   rintro e w7 ⟨gt,rfl,hT7,hE7⟩
   have hE7':=((Ext.rfl' wr).drew').trans' hE7
   obtain ⟨HE7,HT7,HP7⟩:=Z3 hE7' hT7 (HPr.out.ext hE7')
   have hz7:=HZr.out.ext hE7'
   have s7:=(hE7'.cell (p:=⟨gb,13,none⟩) hgbw).trans hs
   have p1:=HP7.out.free 3
   have p0:=HP7.out.cell 3
   have hgg:gp≠g:=by rw [Hg.out]; omega
   obtain ⟨z0,z1⟩:=X2 hz7
   obtain ⟨f0,f1⟩:=Y2 hz7
   simp only [gA,gH,gS] at p0
   have HZ7:=Qa hz7
   clear hE7 hE7' hT7 hz7 hs
   refine hK1 _ _ s7 ?_
   refine Qcv (by decide) ?_
   go_wp2_with fail
   refine hKz _ _ ?_
   go_wp2_with fail
   have HX0:s.calledF.1=0:=by rw [HX.out]
   refine Qc (f:=(0,0)) (g:=g) (((HZ7.out.far (fun e=>hgg e.symm) _).set_ 0 _).set_ 1 _) rfl rfl rfl ⟨by rw [HX.out],?_,fun _=>?_⟩
   ·exact (((Mv.of_ext (X:=fun i=>i=gp) ((HE1.out.trans' HE.out).trans' HE7.out)).set (g:=gp) (.inr rfl) _).set (g:=g) (.inl (Nat.le_of_eq Hg.out.symm)) _).set (g:=g) (.inl (Nat.le_of_eq Hg.out.symm)) _
   ·refine ⟨gt,((HP7.out.set_ 3 _).far hgg _).far hgg _,?_⟩
    have hgs:g < wr.heap.size:=Nat.lt_of_lt_of_le HZ.out.lt HE.out.size
    have hgp':gp < wr.heap.size:=Nat.lt_of_lt_of_le HP.out.lt HE.out.size
    exact (((HT7.out.set (i:=3) (Nat.not_le.2 hgp')).set (i:=0) (Nat.not_le.2 hgs)).set (i:=1) (Nat.not_le.2 hgs)).more fun i hi=>Nat.le_trans (HE1.out.trans' HE.out).size hi
def Qfu (t:Ty) (m:Int):Wr :=
 if (chk t 1 0).1.1≠0 then ((chk t 1 0).1,m) else if 512 < IntKind.i64.wrap (m + Qaf t) then ((8,t.pl),IntKind.i64.wrap (m + Qaf t)) else ((0,0),IntKind.i64.wrap (m + Qaf t))
theorem Qrj (s:Sch) (i:Nat) (m:Int):s.rightG i m=Qfu (s.all i) m:=rfl
theorem TyAt.at1 {t:Ty} {w:World} {B:Nat} {vs:List Value} (h:TyAt w B t vs):vs[1]? = some (.int .i64 t.pl):=by
 cases t with
 | nil=>exact h.elim
 | mk h' n p k=>obtain ⟨An,cn,Ap,cp,rfl,_⟩:=h; rfl
theorem Mv.set_at {g i:Nat} {a b:World} (h:Mv (fun k=>k=g) a b) (v:Value):Mv (fun k=>k=g) a (b.setCell ⟨g,i,none⟩ v):=h.set (.inr rfl) v
theorem BldAt.set_far {w:World} {gb:Nat} {A3:Option Addr} {n c3:Nat} {xs:List Value} {gl gp:Nat} {m:Int} (h:BldAt w gb A3 n c3 xs gl gp m) {g:Nat} (hg:gb≠g) {i j:Nat} {u v:Value} : BldAt ((w.setCell ⟨g,i,none⟩ u).setCell ⟨g,j,none⟩ v) gb A3 n c3 xs gl gp m :=
 h.mv (X:=fun k=>k=g) (((Mv.rfl' (fun k=>k=g) w).set (.inr rfl) u).set (.inr rfl) v) hg
def Qbc (r:Wr) (gb:Nat) (A3:Option Addr) (n c3:Nat) (xs:List Value) (gl gp:Nat) (w:World) (e:Ending) (w':World):Prop:=e = .returned (Qe r.1)∧BldAt w' gb A3 n c3 xs gl gp r.2∧Mv (fun i=>i=gb) w w'
set_option maxRecDepth 100000 in
theorem Qpw (gb gl gp n c3:Nat) (A3:Option Addr) (xs:List Value) (m:Int) (t:Ty) (w:World) (vs:List Value) (hB:BldAt w gb A3 n c3 xs gl gp m) (h:TyAt w w.heap.size t vs) (hs:Q1 t) :
  Calls Tryz.prog 32 #[.pointer (some ⟨gb,0,none⟩),.agg vs.toArray] w (Qbc (Qfu t m) gb A3 n c3 xs gl gp w):=by
 have hri:=fun w1 (hE:Ext w w1)=>Qnz t w1 vs (h.ext hE) hs
 have hct:=fun w1 (hE:Ext w w1)=>Qpa t w1 vs (h.ext hE) hs
 have h1:=h.at1
 obtain ⟨x0,x1,x2,x3,x4,x5,x6,x7,x8,rfl⟩:=h.nine
 obtain rfl:x1 = .int .i64 t.pl:=by injection h1
 obtain ⟨⟨⟨E,A⟩,M⟩,hC⟩:∃ x,x=chk t 1 0:=⟨_,rfl⟩
 rw [← hC] at hri
 obtain ⟨C,hCC⟩:=V1 (Qaf t)
 rw [← hCC] at hct
 obtain ⟨pl,hpl⟩:=V1 (t.pl)
 rw [← hpl] at hri hct ⊢
 have HRT:=Qa (show Qfu t m=if E≠0 then ((E,A),m) else if 512 < IntKind.i64.wrap (m + C) then ((8,pl),IntKind.i64.wrap (m + C)) else ((0,0),IntKind.i64.wrap (m + C)) by unfold Qfu; rw [← hC,← hCC,← hpl])
 have HRI:=Qa (show ∀ w1,Ext w w1→Calls Tryz.prog 70 #[.agg #[x0,.int .i64 pl,x2,x3,x4,x5,x6,x7,x8]] w1 (fun e w'=>e = .returned (.agg #[.int .i64 E,.int .i64 A])∧Ext w1 w') from hri)
 have HCT:=Qa (show ∀ w1,Ext w w1→Calls Tryz.prog 71 #[.agg #[x0,.int .i64 pl,x2,x3,x4,x5,x6,x7,x8]] w1 (fun e w'=>e = .returned (.int .i64 C)∧Ext w1 w') from hct)
 obtain ⟨R,hR⟩:=V1 (Qfu t m)
 rw [← hR] at HRT ⊢
 obtain ⟨w1,g1,hw1,hg1,Hw1,Hg1,hT,hTE⟩:=T0 w 29 #[x0,.int .i64 pl,x2,x3,x4,x5,x6,x7,x8]
 obtain ⟨w2,g2,hw2,hg2,Hw2,Hg2,hZ,hZE⟩:=T0 w1 34 #[.int .i64 0,.int .i64 0]
 have Hg2':=Qa (show g2=g1 + 1 by rw [hg2,hw1,World.size_alloc,← hg1])
 obtain ⟨HE2,HB,HT2,HZ2⟩:=Z4 (hTE.trans' hZE) hB (hT.ext hZE) hZ
 have hgb:=hB.lt
 have hgg:gb≠g2:=by have:=hTE.size; omega
 have HGG:=Qa hgg
 have hlo2:w.heap.size≤g2:=by have:=hTE.size; omega
 show Calls Tryz.prog 32 #[.pointer (some ⟨gb,0,none⟩),.agg #[x0,.int .i64 pl,x2,x3,x4,x5,x6,x7,x8]] w _
 obtain ⟨t0,t1,t2,t3,t4,t5,t6,t7,t8⟩:=X9 HT2.out
 clear hw1 hg1 hw2 hg2 hT hZ hTE hZE hB h hs hri hct hC hCC hpl hR h1 hgg
 go_enter Tryz.func32,Tryz.ntmps32
 go_upto_region 1 with fail
 rw [← Hw1.out,← Hg1.out,← Hw2.out,← Hg2'.out]
 go_wp2_with fail
 refine (HRI.out w2 HE2.out).mono ?_
 rintro e w3 ⟨rfl,hE3⟩
 obtain ⟨HT3,HZ3,HE3⟩:=Z3 (HT2.out.ext hE3) (HZ2.out.ext hE3) (HE2.out.trans' hE3)
 clear hE3 t0 t1 t2 t3 t4 t5 t6 t7 t8
 obtain ⟨w4,g4,hw4,hg4,Hw4,Hg4,hF,hFE⟩:=T0 w3 34 #[.int .i64 E,.int .i64 A]
 obtain ⟨HT4,HZ4,HE4⟩:=Z3 (HT3.out.ext hFE) (HZ3.out.ext hFE) (HE3.out.trans' hFE)
 obtain ⟨u0,u1⟩:=X2 hF
 clear hw4 hg4 hF hFE
 go_upto_region 2 with fail
 rw [← Hw4.out,← Hg4.out]
 by_cases hE0:E=0
 ·have hEb:(E == 0)=true:=by simpa using hE0
  have hEb2:(E != 0)=false:=by simpa using hE0
  have hrt:=HRT.out
  rw [if_neg (by rw [hE0]; simp)] at hrt
  obtain ⟨q,hq⟩:=V1 (IntKind.i64.wrap (m + C))
  rw [← hq] at hrt
  obtain ⟨HQ,HR2⟩:=Z2 hq hrt
  obtain ⟨t0,t1,t2,t3,t4,t5,t6,t7,t8⟩:=X9 HT4.out
  have s1:=(HB.out.ext HE4.out).c14
  have hgs:gb < w4.heap.size:=Nat.lt_of_lt_of_le hgb HE4.out.size
  have HBf:=Qa (HB.out.ext HE4.out)
  clear hrt hq HRT hE0
  go_wp2_with fail
  rename_i Kz hKz
  refine Qa5 5 7 (by kernel_rfl) (by kernel_rfl) (fun w'=>w'.cell? ⟨gb,14,none⟩=some (.int .i64 m)∧Blk w' g1 29 #[x0,.int .i64 pl,x2,x3,x4,x5,x6,x7,x8]) ⟨s1,HT4.out.drewN 1⟩ ?_
  intro I _ f hf
  have r14:=fun n=>(hf n).1
  have r0:∀ n,(f n).cell? ⟨g1,0,none⟩=some x0:=fun n=>(hf n).2.cell 0
  have r1:∀ n,(f n).cell? ⟨g1,1,none⟩=some (.int .i64 pl):=fun n=>(hf n).2.cell 1
  have r2:∀ n,(f n).cell? ⟨g1,2,none⟩=some x2:=fun n=>(hf n).2.cell 2
  have r3:∀ n,(f n).cell? ⟨g1,3,none⟩=some x3:=fun n=>(hf n).2.cell 3
  have r4:∀ n,(f n).cell? ⟨g1,4,none⟩=some x4:=fun n=>(hf n).2.cell 4
  have r5:∀ n,(f n).cell? ⟨g1,5,none⟩=some x5:=fun n=>(hf n).2.cell 5
  have r6:∀ n,(f n).cell? ⟨g1,6,none⟩=some x6:=fun n=>(hf n).2.cell 6
  have r7:∀ n,(f n).cell? ⟨g1,7,none⟩=some x7:=fun n=>(hf n).2.cell 7
  have r8:∀ n,(f n).cell? ⟨g1,8,none⟩=some x8:=fun n=>(hf n).2.cell 8
  clear hf
  simp only [List.take_succ_cons,List.take_zero,List.drop_succ_cons,List.drop_zero]
  repeat (go_big_quiet_step ((fail)))
  refine wpQuiet_nil ?_
  clear r14 r0 r1 r2 r3 r4 r5 r6 r7 r8
  refine Qak (by decide) rfl ?_
  intro K1 hK1
  go_simp
  refine (HCT.out _ (HE4.out.drew')).mono ?_
  rintro e w5 ⟨rfl,hE5⟩
  have hE5':=((Ext.rfl' w4).drew').trans' hE5
  obtain ⟨HE5,HT5,HZ5,HB5⟩:=Z4 (HE4.out.trans' hE5') (HT4.out.ext hE5') (HZ4.out.ext hE5') (HBf.out.ext hE5')
  have s5:=HB5.out.c14
  have f14:=HB5.out.f14
  clear hE5 hE5' s1 t0 t1 t2 t3 t4 t5 t6 t7 t8 u0 u1
  refine hK1 _ _ ⟨s5,HT5.out⟩ ?_
  refine Qak (by decide) rfl ?_
  intro K2 hK2
  go_simp
  rw [← HQ.out]
  refine hK2 _ _ ⟨s5,HT5.out⟩ ?_
  refine Qcv (by decide) ?_
  go_wp2_with fail
  refine hKz _ _ ?_
  obtain ⟨w6,hw6⟩:=V1 (w5.setCell ⟨gb,14,none⟩ (.int .i64 q))
  have hb6:BldAt w6 gb A3 n c3 xs gl gp q:=by rw [hw6]; exact HB5.out.set14 q
  have hm6:Mv (fun i=>i=gb) w w6:=by rw [hw6]; exact (Mv.of_ext (X:=fun i=>i=gb) HE5.out).set_at _
  have hz6:Blk w6 g2 34 #[.int .i64 0,.int .i64 0]:=by rw [hw6]; exact HZ5.out.far (fun e=>HGG.out e.symm) _
  have ht6:Blk w6 g1 29 #[x0,.int .i64 pl,x2,x3,x4,x5,x6,x7,x8]:=by rw [hw6]; exact HT5.out.far (HB5.out.ne HT5.out (by decide)) _
  rw [← hw6]
  obtain ⟨HBM,HZ6⟩:=Z2 (And.intro hb6 hm6) hz6
  have c14:=hb6.c14
  obtain ⟨-,t1⟩:=X2 ht6
  obtain ⟨z0,z1⟩:=X2 HZ6.out
  obtain ⟨f0,f1⟩:=Y2 HZ6.out
  clear hw6 hb6 hm6 hz6 ht6 s5 f14
  by_cases hq5:512 < q
  ·have hrt:=HR2.out
   rw [if_pos hq5] at hrt
   have HR3:=Qa hrt
   clear hrt HR2
   go_wp2_with fail
   exact Qc (f:=(8,pl)) (g:=g2) ((HZ6.out.set_ 0 _).set_ 1 _) rfl rfl rfl ⟨by rw [HR3.out],BldAt.set_far (by rw [HR3.out]; exact HBM.out.1) HGG.out,((HBM.out.2.set (g:=g2) (.inl hlo2) _).set (g:=g2) (.inl hlo2) _)⟩
  ·have hrt:=HR2.out
   rw [if_neg hq5] at hrt
   have HR3:=Qa hrt
   clear hrt HR2
   go_wp2_with fail
   exact Qc (f:=(0,0)) (g:=g2) ((HZ6.out.set_ 0 _).set_ 1 _) rfl rfl rfl ⟨by rw [HR3.out],BldAt.set_far (by rw [HR3.out]; exact HBM.out.1) HGG.out,((HBM.out.2.set (g:=g2) (.inl hlo2) _).set (g:=g2) (.inl hlo2) _)⟩
 ·have hEb:(E == 0)=false:=by simpa using hE0
  have hEb2:(E != 0)=true:=by simpa using hE0
  have hrt:=HRT.out
  rw [if_pos hE0] at hrt
  obtain ⟨HR2,HBM⟩:=Z2 hrt (And.intro (HB.out.ext HE4.out) (Mv.of_ext (X:=fun i=>i=gb) HE4.out))
  obtain ⟨z0,z1⟩:=X2 HZ4.out
  obtain ⟨f0,f1⟩:=Y2 HZ4.out
  clear hrt hE0
  go_wp2_with fail
  exact Qc (f:=(E,A)) (g:=g2) ((HZ4.out.set_ 0 _).set_ 1 _) rfl rfl rfl ⟨by rw [HR2.out],BldAt.set_far (by rw [HR2.out]; exact HBM.out.1) HGG.out,((HBM.out.2.set (g:=g2) (.inl hlo2) _).set (g:=g2) (.inl hlo2) _)⟩
theorem Qky {g:Nat→Int→Wr} {k n:Nat} {m:Int} {r:Wr} (hk:k < n) (h0:(goTo g k m).1.1=0) (hr:g k (goTo g k m).2=r) (hn:r.1.1≠0):goTo g n m=r:=by
 have e:=Qbi h0
 rw [hr] at e
 rw [Qcs (show k + 1≤n by omega) (by rw [e]; exact hn),e]
set_option maxRecDepth 100000 in
theorem Qn6 (G:Nat→Int→Wr) (gb gl gp n c3:Nat) (A3:Option Addr) (xs:List Value) (m0:Int) (s:Sch) (w0 w:World) (hB:BldAt w gb A3 n c3 xs gl gp m0) (hn:n=s.n) (h64:n≤64) (hE0:Ext w0 w) (hgb:w0.heap.size≤gb)
  (hN:NamedAt w0 w0.heap.size A3 n s.nm s.ty) (hroot:TyAt w0 w0.heap.size s.root xs)
  (hdo:∀ k,k≤n→∀ (m:Int) (w1:World) (vs:List Value),BldAt w1 gb A3 n c3 xs gl gp m→Mv (fun i=>i=gb) w w1→TyAt w1 w1.heap.size (s.all k) vs→Calls Tryz.prog 32 #[.pointer (some ⟨gb,0,none⟩),.agg vs.toArray] w1 (Qbc (G k m) gb A3 n c3 xs gl gp w1)) :
  Calls Tryz.prog 31 #[.pointer (some ⟨gb,0,none⟩),.func (.func 32) #[.pointer (some ⟨gb,0,none⟩)] #[]] w (Qbc (goTo G (n + 1) m0) gb A3 n c3 xs gl gp w):=by
 obtain ⟨x0,x1,x2,x3,x4,x5,x6,x7,x8,rfl⟩:=hroot.nine
 have hgbl:=hB.lt
 have hle:(n:Int)≤64:=by omega
 have hle0:=nZ n
 obtain ⟨HHIT,HNX,HDO,HN,HRT,HGB,HE0,HALL⟩:=Z8 (fun k (hk:k < n + 1) (h0:(goTo G k m0).1.1=0) (r:Wr) (hr:G k (goTo G k m0).2=r) (hh:r.1.1≠0)=>Qky (n:=n + 1) hk h0 hr hh) (fun k (h0:(goTo G k m0).1.1=0)=>Qbi (g:=G) (k:=k) (m:=m0) h0) hdo hN hroot hgb hE0 (fun k (hk:k < n)=>Sch.all_lt (s:=s) (i:=k) (by omega))
 have HEND:=Qa (show s.all n=s.root by rw [hn]; exact Sch.all_end s)
 obtain ⟨R,hR⟩:=V1 (goTo G (n + 1) m0)
 have HR:=Qa hR
 rw [← hR]
 obtain ⟨w1,g,hw1,hg,Hw1,Hg,hZ,hZE⟩:=T0 w 34 #[.int .i64 0,.int .i64 0]
 obtain ⟨HE1,HZ⟩:=Z2 hZE hZ
 have hB1:=hB.ext hZE
 have b2:=hB1.c2
 have HB1:=Qa hB1
 have hgg:gb≠g:=by omega
 have HGG:=Qa hgg
 have hsz1:w.heap.size≤w1.heap.size:=hZE.size
 clear hw1 hg hZ hZE hB1 hB hn hE0 hgb hN hroot hdo hR hgg
 go_enter Tryz.func31,Tryz.ntmps31
 go_upto_region 1 with fail
 rw [← Hw1.out,← Hg.out]
 go_wp2_with fail
 clear b2
 go_loopw [14] (fun i wr=>∃ k:Nat,k≤n∧i = .int .i64 (k:Int)∧Hid ((goTo G k m0).1.1=0)∧BldAt wr gb A3 n c3 [x0,x1,x2,x3,x4,x5,x6,x7,x8] gl gp (goTo G k m0).2∧Mv (fun i=>i=gb) w1 wr) (fun i _=>n - (intOf i).toNat)
 case atStart=>exact ⟨0,Nat.zero_le _,rfl,rfl,HB1.out,Mv.rfl' _ _⟩
 case round =>
  clear HB1
  obtain ⟨k,hk,rfl,HZ0,hB,hM⟩:=hrel
  have HM:=Qa hM
  have hEw:Ext w0 wr:=hM.below (HE0.out.trans' HE1.out) (fun i hi=>by rw [hi]; exact HGB.out)
  have hszr:=hM.size
  by_cases hlt:k < n
  ·obtain ⟨b,o,rfl,hb,hc⟩:=HN.out (by omega)
   obtain ⟨vt,h1,h2⟩:=hc k hlt
   have hrg:=fun j' (v:Value) hv=>(hEw.cell (p:=⟨b,o + k * 11 + j',none⟩) hb).trans (h1 j' v hv)
   obtain ⟨h,np,p,t,An,cn,Ap,cp,hty,rfl⟩:=h2.open2
   have HRG:=Qa (show wr.rangeAt b (o + k * 11) ([.string (s.nm k).1,.int .i64 (s.nm k).2] ++ tyV h An cn Ap np cp) from hrg)
   unfold tyV at HRG
   simp only [List.cons_append,List.nil_append] at HRG
   obtain ⟨x,hx,y,hy⟩:=V2 ((s.nm k).1) ((s.nm k).2)
   rw [← hx,← hy] at HRG
   obtain ⟨w5,g5,hw5,hg5,Hw5,Hg5,hV,hVE⟩:=T0 wr 90 #[.string x,.int .i64 y,.int .i64 h.kind,.int .i64 h.at_,.int .i64 h.lo,.int .i64 h.hi,.int .i64 h.most,.slice An h.names.length cn,.slice Ap np cp,.string h.name.1,.int .i64 h.name.2]
   have HV:=Qa hV
   have hB5:=hB.ext hVE
   have HE5:=Qa hVE
   have hM5:=hM.ext hVE
   have hdo:=HDO.out k hk _ w5 _ hB5 ((Mv.of_ext HE1.out).trans hM5) (by rw [HALL.out k hlt]; exact h2.ext (hEw.trans' hVE))
   have hit:=HHIT.out k (by omega) HZ0.out
   have hnx:=HNX.out k HZ0.out
   obtain ⟨⟨⟨E,A⟩,M⟩,hr⟩:∃ r,r=G k (goTo G k m0).2:=⟨_,rfl⟩
   rw [← hr] at hdo hit hnx
   have hit:=hit _ rfl
   rw [← HR.out] at hit
   obtain ⟨HIT,HNX'⟩:=Z2 hit hnx
   have HCALL:=Qa (show Calls Tryz.prog 32 #[.pointer (some ⟨gb,0,none⟩),.agg #[.int .i64 h.kind,.int .i64 h.at_,.int .i64 h.lo,.int .i64 h.hi,.int .i64 h.most,.slice An h.names.length cn,.slice Ap np cp,.string h.name.1,.int .i64 h.name.2]] w5 (Qbc ((E,A),M) gb _ n c3 [x0,x1,x2,x3,x4,x5,x6,x7,x8] gl gp w5) from hdo)
   obtain ⟨HM5,HZ5⟩:=Z2 hM5 ((hM5.blk HZ.out (fun e=>HGG.out e.symm)))
   obtain ⟨-,-,v2,v3,v4,v5,v6,v7,v8,v9,v10⟩:=X11 hV
   have i0:=nZ k
   have i1:(k:Int) < (n:Int):=by omega
   have hgs5:g5≠gb:=by omega
   have HGS:=Qa hgs5
   clear hrg h1 h2 hc hEw hM hB hw5 hV hVE hx hy hty hdo hit hnx hr hB5 hM5 hgs5 HHIT HNX HM
   clear hg5
   go_upto_region 3 with fail
   refine wp_region_lit ?_
   refine wpList_plain rfl fun K0 hK0=>?_
   go_simp
   refine hK0 _ _ ?_
   refine wpList_load_mid rfl 90 _ rfl b (o + k * 11) rfl _ _ HRG.out Tryz.underlying90 rfl Qbb ?_
   refine wpList_plain rfl fun K0 hK0=>?_
   go_simp
   refine hK0 _ _ ?_
   refine Qd rfl 90 _ _ rfl _ #[.string x,.int .i64 y,.int .i64 h.kind,.int .i64 h.at_,.int .i64 h.lo,.int .i64 h.hi,.int .i64 h.most,.slice An h.names.length cn,.slice Ap np cp,.string h.name.1,.int .i64 h.name.2] rfl rfl Qbb rfl (by simp [Value.oneCell']) ?_
   go_upto_region 4 with fail
   rw [← Hw5.out,← Hg5.out]
   go_wp2_with fail
   refine HCALL.out.mono ?_
   rintro e w6 ⟨rfl,hB6,hM6⟩
   unfold Qe
   dsimp only at hB6 ⊢
   obtain ⟨w7,g7,hw7,hg7,Hw7,Hg7,hF,hFE⟩:=T0 w6 34 #[.int .i64 E,.int .i64 A]
   obtain ⟨HB7,HM7,HZ7⟩:=Z3 (hB6.ext hFE) ((HM5.out.trans hM6).ext hFE) ((hM6.blk HZ5.out (fun e=>HGG.out e.symm)).ext hFE)
   obtain ⟨u0,u1⟩:=X2 hF
   clear hB6 hM6 hw7 hg7 hF hFE v2 v3 v4 v5 v6 v7 v8 v9 v10
   go_upto_region 5 with fail
   rw [← Hw7.out,← Hg7.out]
   by_cases hE0:E=0
   ·have hEb:(E == 0)=true:=by simpa using hE0
    have hEb2:(E != 0)=false:=by simpa using hE0
    have HZN:=Qa (show (goTo G (k + 1) m0).1.1=0 by rw [HNX'.out]; exact hE0)
    have HBN:=Qa (show BldAt w7 gb _ n c3 [x0,x1,x2,x3,x4,x5,x6,x7,x8] gl gp (goTo G (k + 1) m0).2 by rw [HNX'.out]; exact HB7.out)
    clear hE0
    go_wp2_with fail
    go_roundw
    case rel=>exact ⟨k + 1,by omega,by go_num,HZN.out,HBN.out,HM7.out⟩
    case measure=>simp [intOf]; omega
   ·have hEb:(E == 0)=false:=by simpa using hE0
    have hEb2:(E != 0)=true:=by simpa using hE0
    have HRR:=Qa (HIT.out hE0)
    obtain ⟨z0,z1⟩:=X2 HZ7.out
    obtain ⟨f0,f1⟩:=Y2 HZ7.out
    clear hE0
    go_wp2_with fail
    exact Qc (f:=(E,A)) (g:=g) ((HZ7.out.set_ 0 _).set_ 1 _) rfl rfl rfl ⟨by rw [HRR.out],BldAt.set_far (by rw [HRR.out]; exact HB7.out) HGG.out,(((Mv.of_ext HE1.out).trans HM7.out).set (g:=g) (.inl (Nat.le_of_eq Hg.out.symm)) _).set (g:=g) (.inl (Nat.le_of_eq Hg.out.symm)) _⟩
  ·obtain rfl:k=n:=by omega
   have hdo:=HDO.out k nL _ wr _ hB ((Mv.of_ext HE1.out).trans hM) (by rw [HEND.out]; exact HRT.out.ext hEw)
   have hnx:=HNX.out k HZ0.out
   obtain ⟨⟨⟨E,A⟩,M⟩,hr⟩:∃ r,r=G k (goTo G k m0).2:=⟨_,rfl⟩
   rw [← hr] at hdo hnx
   rw [← HR.out] at hnx
   have HRR:=Qa hnx
   have HCALL:=Qa (show Calls Tryz.prog 32 #[.pointer (some ⟨gb,0,none⟩),.agg #[x0,x1,x2,x3,x4,x5,x6,x7,x8]] wr (Qbc ((E,A),M) gb A3 k c3 [x0,x1,x2,x3,x4,x5,x6,x7,x8] gl gp wr) from hdo)
   have HZr:=Qa (hM.blk HZ.out (fun e=>HGG.out e.symm))
   have hrt:=hB.root
   have r0:wr.cell? ⟨gb,3,none⟩=some x0:=hrt 0 _ rfl
   have r1:wr.cell? ⟨gb,4,none⟩=some x1:=hrt 1 _ rfl
   have r2:wr.cell? ⟨gb,5,none⟩=some x2:=hrt 2 _ rfl
   have r3:wr.cell? ⟨gb,6,none⟩=some x3:=hrt 3 _ rfl
   have r4:wr.cell? ⟨gb,7,none⟩=some x4:=hrt 4 _ rfl
   have r5:wr.cell? ⟨gb,8,none⟩=some x5:=hrt 5 _ rfl
   have r6:wr.cell? ⟨gb,9,none⟩=some x6:=hrt 6 _ rfl
   have r7:wr.cell? ⟨gb,10,none⟩=some x7:=hrt 7 _ rfl
   have r8:wr.cell? ⟨gb,11,none⟩=some x8:=hrt 8 _ rfl
   clear hdo hnx hr hB hM hEw HHIT HNX hrt
   go_wp2_with fail
   refine HCALL.out.mono ?_
   rintro e w6 ⟨rfl,hB6,hM6⟩
   unfold Qe
   dsimp only at hB6 ⊢
   obtain ⟨HB7,HM7,HZ7⟩:=Z3 hB6 (HM.out.trans hM6) (hM6.blk HZr.out (fun e=>HGG.out e.symm))
   obtain ⟨z0,z1⟩:=X2 HZ7.out
   obtain ⟨f0,f1⟩:=Y2 HZ7.out
   clear hB6 hM6 r0 r1 r2 r3 r4 r5 r6 r7 r8
   go_wp2_with fail
   exact Qc (f:=(E,A)) (g:=g) ((HZ7.out.set_ 0 _).set_ 1 _) rfl rfl rfl ⟨by rw [HRR.out],BldAt.set_far (by rw [HRR.out]; exact HB7.out) HGG.out,(((Mv.of_ext HE1.out).trans HM7.out).set (g:=g) (.inl (Nat.le_of_eq Hg.out.symm)) _).set (g:=g) (.inl (Nat.le_of_eq Hg.out.symm)) _⟩
set_option maxRecDepth 100000 in
theorem Qn7 (G:Nat→Int→Wr) (gb gl gp n c3:Nat) (A3:Option Addr) (xs:List Value) (m0:Int) (s:Sch) (w0 w:World) (hB:BldAt w gb A3 n c3 xs gl gp m0) (hn:n=s.n) (h64:n≤64) (hE0:Ext w0 w) (hgb:w0.heap.size≤gb)
  (hN:NamedAt w0 w0.heap.size A3 n s.nm s.ty) (hroot:TyAt w0 w0.heap.size s.root xs)
  (hdo:∀ k,k≤n→∀ (m:Int) (w1:World) (vs:List Value),BldAt w1 gb A3 n c3 xs gl gp m→Mv (fun i=>i=gb) w w1→TyAt w1 w1.heap.size (s.all k) vs→Calls Tryz.prog 33 #[.pointer (some ⟨gb,0,none⟩),.agg vs.toArray] w1 (Qbc (G k m) gb A3 n c3 xs gl gp w1)) :
  Calls Tryz.prog 31 #[.pointer (some ⟨gb,0,none⟩),.func (.func 33) #[.pointer (some ⟨gb,0,none⟩)] #[]] w (Qbc (goTo G (n + 1) m0) gb A3 n c3 xs gl gp w):=by
 obtain ⟨x0,x1,x2,x3,x4,x5,x6,x7,x8,rfl⟩:=hroot.nine
 have hgbl:=hB.lt
 have hle:(n:Int)≤64:=by omega
 have hle0:=nZ n
 obtain ⟨HHIT,HNX,HDO,HN,HRT,HGB,HE0,HALL⟩:=Z8 (fun k (hk:k < n + 1) (h0:(goTo G k m0).1.1=0) (r:Wr) (hr:G k (goTo G k m0).2=r) (hh:r.1.1≠0)=>Qky (n:=n + 1) hk h0 hr hh) (fun k (h0:(goTo G k m0).1.1=0)=>Qbi (g:=G) (k:=k) (m:=m0) h0) hdo hN hroot hgb hE0 (fun k (hk:k < n)=>Sch.all_lt (s:=s) (i:=k) (by omega))
 have HEND:=Qa (show s.all n=s.root by rw [hn]; exact Sch.all_end s)
 obtain ⟨R,hR⟩:=V1 (goTo G (n + 1) m0)
 have HR:=Qa hR
 rw [← hR]
 obtain ⟨w1,g,hw1,hg,Hw1,Hg,hZ,hZE⟩:=T0 w 34 #[.int .i64 0,.int .i64 0]
 obtain ⟨HE1,HZ⟩:=Z2 hZE hZ
 have hB1:=hB.ext hZE
 have b2:=hB1.c2
 have HB1:=Qa hB1
 have hgg:gb≠g:=by omega
 have HGG:=Qa hgg
 have hsz1:w.heap.size≤w1.heap.size:=hZE.size
 clear hw1 hg hZ hZE hB1 hB hn hE0 hgb hN hroot hdo hR hgg
 go_enter Tryz.func31,Tryz.ntmps31
 go_upto_region 1 with fail
 rw [← Hw1.out,← Hg.out]
 go_wp2_with fail
 clear b2
 go_loopw [14] (fun i wr=>∃ k:Nat,k≤n∧i = .int .i64 (k:Int)∧Hid ((goTo G k m0).1.1=0)∧BldAt wr gb A3 n c3 [x0,x1,x2,x3,x4,x5,x6,x7,x8] gl gp (goTo G k m0).2∧Mv (fun i=>i=gb) w1 wr) (fun i _=>n - (intOf i).toNat)
 case atStart=>exact ⟨0,Nat.zero_le _,rfl,rfl,HB1.out,Mv.rfl' _ _⟩
 case round =>
  clear HB1
  obtain ⟨k,hk,rfl,HZ0,hB,hM⟩:=hrel
  have HM:=Qa hM
  have hEw:Ext w0 wr:=hM.below (HE0.out.trans' HE1.out) (fun i hi=>by rw [hi]; exact HGB.out)
  have hszr:=hM.size
  by_cases hlt:k < n
  ·obtain ⟨b,o,rfl,hb,hc⟩:=HN.out (by omega)
   obtain ⟨vt,h1,h2⟩:=hc k hlt
   have hrg:=fun j' (v:Value) hv=>(hEw.cell (p:=⟨b,o + k * 11 + j',none⟩) hb).trans (h1 j' v hv)
   obtain ⟨h,np,p,t,An,cn,Ap,cp,hty,rfl⟩:=h2.open2
   have HRG:=Qa (show wr.rangeAt b (o + k * 11) ([.string (s.nm k).1,.int .i64 (s.nm k).2] ++ tyV h An cn Ap np cp) from hrg)
   unfold tyV at HRG
   simp only [List.cons_append,List.nil_append] at HRG
   obtain ⟨x,hx,y,hy⟩:=V2 ((s.nm k).1) ((s.nm k).2)
   rw [← hx,← hy] at HRG
   obtain ⟨w5,g5,hw5,hg5,Hw5,Hg5,hV,hVE⟩:=T0 wr 90 #[.string x,.int .i64 y,.int .i64 h.kind,.int .i64 h.at_,.int .i64 h.lo,.int .i64 h.hi,.int .i64 h.most,.slice An h.names.length cn,.slice Ap np cp,.string h.name.1,.int .i64 h.name.2]
   have HV:=Qa hV
   have hB5:=hB.ext hVE
   have HE5:=Qa hVE
   have hM5:=hM.ext hVE
   have hdo:=HDO.out k hk _ w5 _ hB5 ((Mv.of_ext HE1.out).trans hM5) (by rw [HALL.out k hlt]; exact h2.ext (hEw.trans' hVE))
   have hit:=HHIT.out k (by omega) HZ0.out
   have hnx:=HNX.out k HZ0.out
   obtain ⟨⟨⟨E,A⟩,M⟩,hr⟩:∃ r,r=G k (goTo G k m0).2:=⟨_,rfl⟩
   rw [← hr] at hdo hit hnx
   have hit:=hit _ rfl
   rw [← HR.out] at hit
   obtain ⟨HIT,HNX'⟩:=Z2 hit hnx
   have HCALL:=Qa (show Calls Tryz.prog 33 #[.pointer (some ⟨gb,0,none⟩),.agg #[.int .i64 h.kind,.int .i64 h.at_,.int .i64 h.lo,.int .i64 h.hi,.int .i64 h.most,.slice An h.names.length cn,.slice Ap np cp,.string h.name.1,.int .i64 h.name.2]] w5 (Qbc ((E,A),M) gb _ n c3 [x0,x1,x2,x3,x4,x5,x6,x7,x8] gl gp w5) from hdo)
   obtain ⟨HM5,HZ5⟩:=Z2 hM5 ((hM5.blk HZ.out (fun e=>HGG.out e.symm)))
   obtain ⟨-,-,v2,v3,v4,v5,v6,v7,v8,v9,v10⟩:=X11 hV
   have i0:=nZ k
   have i1:(k:Int) < (n:Int):=by omega
   have hgs5:g5≠gb:=by omega
   have HGS:=Qa hgs5
   clear hrg h1 h2 hc hEw hM hB hw5 hV hVE hx hy hty hdo hit hnx hr hB5 hM5 hgs5 HHIT HNX HM
   clear hg5
   go_upto_region 3 with fail
   refine wp_region_lit ?_
   refine wpList_plain rfl fun K0 hK0=>?_
   go_simp
   refine hK0 _ _ ?_
   refine wpList_load_mid rfl 90 _ rfl b (o + k * 11) rfl _ _ HRG.out Tryz.underlying90 rfl Qbb ?_
   refine wpList_plain rfl fun K0 hK0=>?_
   go_simp
   refine hK0 _ _ ?_
   refine Qd rfl 90 _ _ rfl _ #[.string x,.int .i64 y,.int .i64 h.kind,.int .i64 h.at_,.int .i64 h.lo,.int .i64 h.hi,.int .i64 h.most,.slice An h.names.length cn,.slice Ap np cp,.string h.name.1,.int .i64 h.name.2] rfl rfl Qbb rfl (by simp [Value.oneCell']) ?_
   go_upto_region 4 with fail
   rw [← Hw5.out,← Hg5.out]
   go_wp2_with fail
   refine HCALL.out.mono ?_
   rintro e w6 ⟨rfl,hB6,hM6⟩
   unfold Qe
   dsimp only at hB6 ⊢
   obtain ⟨w7,g7,hw7,hg7,Hw7,Hg7,hF,hFE⟩:=T0 w6 34 #[.int .i64 E,.int .i64 A]
   obtain ⟨HB7,HM7,HZ7⟩:=Z3 (hB6.ext hFE) ((HM5.out.trans hM6).ext hFE) ((hM6.blk HZ5.out (fun e=>HGG.out e.symm)).ext hFE)
   obtain ⟨u0,u1⟩:=X2 hF
   clear hB6 hM6 hw7 hg7 hF hFE v2 v3 v4 v5 v6 v7 v8 v9 v10
   go_upto_region 5 with fail
   rw [← Hw7.out,← Hg7.out]
   by_cases hE0:E=0
   ·have hEb:(E == 0)=true:=by simpa using hE0
    have hEb2:(E != 0)=false:=by simpa using hE0
    have HZN:=Qa (show (goTo G (k + 1) m0).1.1=0 by rw [HNX'.out]; exact hE0)
    have HBN:=Qa (show BldAt w7 gb _ n c3 [x0,x1,x2,x3,x4,x5,x6,x7,x8] gl gp (goTo G (k + 1) m0).2 by rw [HNX'.out]; exact HB7.out)
    clear hE0
    go_wp2_with fail
    go_roundw
    case rel=>exact ⟨k + 1,by omega,by go_num,HZN.out,HBN.out,HM7.out⟩
    case measure=>simp [intOf]; omega
   ·have hEb:(E == 0)=false:=by simpa using hE0
    have hEb2:(E != 0)=true:=by simpa using hE0
    have HRR:=Qa (HIT.out hE0)
    obtain ⟨z0,z1⟩:=X2 HZ7.out
    obtain ⟨f0,f1⟩:=Y2 HZ7.out
    clear hE0
    go_wp2_with fail
    exact Qc (f:=(E,A)) (g:=g) ((HZ7.out.set_ 0 _).set_ 1 _) rfl rfl rfl ⟨by rw [HRR.out],BldAt.set_far (by rw [HRR.out]; exact HB7.out) HGG.out,(((Mv.of_ext HE1.out).trans HM7.out).set (g:=g) (.inl (Nat.le_of_eq Hg.out.symm)) _).set (g:=g) (.inl (Nat.le_of_eq Hg.out.symm)) _⟩
  ·obtain rfl:k=n:=by omega
   have hdo:=HDO.out k nL _ wr _ hB ((Mv.of_ext HE1.out).trans hM) (by rw [HEND.out]; exact HRT.out.ext hEw)
   have hnx:=HNX.out k HZ0.out
   obtain ⟨⟨⟨E,A⟩,M⟩,hr⟩:∃ r,r=G k (goTo G k m0).2:=⟨_,rfl⟩
   rw [← hr] at hdo hnx
   rw [← HR.out] at hnx
   have HRR:=Qa hnx
   have HCALL:=Qa (show Calls Tryz.prog 33 #[.pointer (some ⟨gb,0,none⟩),.agg #[x0,x1,x2,x3,x4,x5,x6,x7,x8]] wr (Qbc ((E,A),M) gb A3 k c3 [x0,x1,x2,x3,x4,x5,x6,x7,x8] gl gp wr) from hdo)
   have HZr:=Qa (hM.blk HZ.out (fun e=>HGG.out e.symm))
   have hrt:=hB.root
   have r0:wr.cell? ⟨gb,3,none⟩=some x0:=hrt 0 _ rfl
   have r1:wr.cell? ⟨gb,4,none⟩=some x1:=hrt 1 _ rfl
   have r2:wr.cell? ⟨gb,5,none⟩=some x2:=hrt 2 _ rfl
   have r3:wr.cell? ⟨gb,6,none⟩=some x3:=hrt 3 _ rfl
   have r4:wr.cell? ⟨gb,7,none⟩=some x4:=hrt 4 _ rfl
   have r5:wr.cell? ⟨gb,8,none⟩=some x5:=hrt 5 _ rfl
   have r6:wr.cell? ⟨gb,9,none⟩=some x6:=hrt 6 _ rfl
   have r7:wr.cell? ⟨gb,10,none⟩=some x7:=hrt 7 _ rfl
   have r8:wr.cell? ⟨gb,11,none⟩=some x8:=hrt 8 _ rfl
   clear hdo hnx hr hB hM hEw HHIT HNX hrt
   go_wp2_with fail
   refine HCALL.out.mono ?_
   rintro e w6 ⟨rfl,hB6,hM6⟩
   unfold Qe
   dsimp only at hB6 ⊢
   obtain ⟨HB7,HM7,HZ7⟩:=Z3 hB6 (HM.out.trans hM6) (hM6.blk HZr.out (fun e=>HGG.out e.symm))
   obtain ⟨z0,z1⟩:=X2 HZ7.out
   obtain ⟨f0,f1⟩:=Y2 HZ7.out
   clear hB6 hM6 r0 r1 r2 r3 r4 r5 r6 r7 r8
   go_wp2_with fail
   exact Qc (f:=(E,A)) (g:=g) ((HZ7.out.set_ 0 _).set_ 1 _) rfl rfl rfl ⟨by rw [HRR.out],BldAt.set_far (by rw [HRR.out]; exact HB7.out) HGG.out,(((Mv.of_ext HE1.out).trans HM7.out).set (g:=g) (.inl (Nat.le_of_eq Hg.out.symm)) _).set (g:=g) (.inl (Nat.le_of_eq Hg.out.symm)) _⟩
theorem Qjh {f:Flt} (h:f.1=0):Sch.optF f=none:=if_pos h
theorem Qpx {f:Flt} (h:f.1≠0):Sch.optF f=some f:=if_neg h
theorem Qji (ws us:List Wd):ofF ws us=(0,0)∨(ofF ws us).1≠0:=by
 unfold ofF
 cases h:Qg (Qb7 ws us) us.length with
 | none=>exact .inl rfl
 | some x =>
  right
  obtain ⟨i,_,hi⟩:=List.exists_of_findSome?_eq_some h
  unfold Qb7 at hi
  split at hi
  ·cases hi; simp
  ·cases hi
theorem Qpy {s:Sch} {h:TyH} {n:Nat} {p:Nat→PtH} {t:Nat→Ty} (hk:h.kind≠9) {k:Nat} {f:Flt} (hkn:k < n) (h0:∀ j,j < k→(s.partK p t j).1=0) (hf:s.partK p t k=f) (hn:f.1≠0):s.knownF (.mk h n p t)=f:=by
 rw [Sch.knownF_mk,if_neg (fun hh=>hk hh.1),Qab (k:=k) (x:=f) hkn (fun j hj=>Qjh (h0 j hj)) (by rw [hf]; exact Qpx hn)]
 rfl
theorem Qn8 {s:Sch} {h:TyH} {n:Nat} {p:Nat→PtH} {t:Nat→Ty} (hk:h.kind≠9) (h0:∀ j,j < n→(s.partK p t j).1=0):s.knownF (.mk h n p t)=(0,0):=by
 rw [Sch.knownF_mk,if_neg (fun hh=>hk hh.1),firstOf_miss.2 (fun j hj=>Qjh (h0 j hj))]
 rfl
theorem Qpz {s:Sch} {h:TyH} {p:Nat→PtH} {t:Nat→Ty} (hk:h.kind=9):s.knownF (.mk h 0 p t)=if 0≤findL s.names h.name.1 then (0,0) else (15,h.name.2):=by
 rw [Sch.knownF_mk]
 by_cases c:0≤findL s.names h.name.1
 ·rw [if_neg (by omega),if_pos c]; rfl
 ·rw [if_pos ⟨hk,by omega⟩,if_neg c]
theorem Qp0 {s:Sch} {p:Nat→PtH} {t:Nat→Ty} {k:Nat} (h:(ofF s.ws (p k).label).1≠0):s.partK p t k=ofF s.ws (p k).label:=by
 have e:s.wordsF (p k)=ofF s.ws (p k).label:=if_pos h
 unfold Sch.partK
 rw [e,if_pos h]
theorem Qrk {s:Sch} {p:Nat→PtH} {t:Nat→Ty} {k:Nat} (h0:ofF s.ws (p k).label=(0,0)) (h:(ofF s.ws (p k).cl).1≠0):s.partK p t k=ofF s.ws (p k).cl:=by
 have e:s.wordsF (p k)=ofF s.ws (p k).cl:=if_neg (by rw [h0]; simp)
 unfold Sch.partK
 rw [e,if_pos h]
theorem Qp1 {s:Sch} {p:Nat→PtH} {t:Nat→Ty} {k:Nat} (h0:ofF s.ws (p k).label=(0,0)) (h:ofF s.ws (p k).cl=(0,0)):s.partK p t k=if (p k).bare=true then (0,0) else s.knownF (t k):=by
 have e:s.wordsF (p k)=ofF s.ws (p k).cl:=if_neg (by rw [h0]; simp)
 unfold Sch.partK
 rw [e,h,if_neg (by simp)]
set_option maxRecDepth 100000 in
theorem Qp2 (gb gl gp gt n3 c3:Nat) (A3:Option Addr) (xs:List Value) (mm r0:Int) (NV MV:Value) (s:Sch) (wK:World) (hB:BldAt wK gb A3 n3 c3 xs gl gp mm)
  (hP:Blk wK gp 83 #[.pointer (some ⟨gl,0,none⟩),NV,.int .i64 r0,.pointer (some ⟨gt,0,none⟩),MV]) (hTb:TabAt wK gt s.names) (hL:LatAt wK gl s.ws s.os) (hok:LatOk s) (hn3:s.n≤64) (t:Ty) :
  Fit t→Q1 t→∀ (w:World) (vs:List Value),Ext wK w→TyAt w w.heap.size t vs→Calls Tryz.prog 33 #[.pointer (some ⟨gb,0,none⟩),.agg vs.toArray] w (fun e w'=>e = .returned (Qe (s.knownF t))∧Ext w w'):=by
 induction t with
 | nil=>intro hF; exact hF.elim
 | mk h n p t ih =>
  intro hF hS w vs hK hT
  obtain ⟨An,cn,Ap,cp,rfl,hN,hPt⟩:=hT
  obtain ⟨_,_,_,hSz⟩:=hS
  obtain ⟨_,_,h64,hF9,_,hFp⟩:=hF
  have HFND:=Qa (fun x w1 (hE:Ext wK w1)=>(show Calls Tryz.prog 72 #[.pointer (some ⟨gt,0,none⟩),.string x] w1 (fun e w'=>e = .returned (.tuple #[.int .i64 (s.find x:Nat),.bool (decide (0≤findL s.names x))])∧Ext w1 w') by
   have:=Qbq gt s.names x w1 (hTb.ext hE) (by simp [Sch.names]; omega)
   rw [Qe4] at this
   exact this))
  obtain ⟨HOF,HB,HP,HPT,HSZ,HFP,HIH,HK⟩:=Z8 (fun (A:Option Addr) (c m:Nat) (us:List Wd) w1 (hE:Ext wK w1) (hu:WdsAt w1 w1.heap.size A us) (hm:m=us.length) (hm':m≤9223372036854775807)=>Qjc gl s.ws s.os A c m us w1 (hL.ext hE) hok.few hok.lat hu hm hm') hB hP hPt hSz hFp ih hK
  obtain ⟨w1,g1,hw1,hg1,Hw1,Hg1,hT,hTE⟩:=T0 w 29 #[.int .i64 h.kind,.int .i64 h.at_,.int .i64 h.lo,.int .i64 h.hi,.int .i64 h.most,.slice An h.names.length cn,.slice Ap n cp,.string h.name.1,.int .i64 h.name.2]
  obtain ⟨w2,g2,hw2,hg2,Hw2,Hg2,hZ,hZE⟩:=T0 w1 34 #[.int .i64 0,.int .i64 0]
  have Hg2':=Qa (show g2=g1 + 1 by rw [hg2,hw1,World.size_alloc,← hg1])
  obtain ⟨HE2,HT2,HZ2⟩:=Z3 (hTE.trans' hZE) (hT.ext hZE) hZ
  have hlo2:w.heap.size≤g2:=by have:=hTE.size; omega
  have hle:(n:Int)≤64:=by omega
  have hle0:=nZ n
  show Calls Tryz.prog 33 #[.pointer (some ⟨gb,0,none⟩),.agg #[.int .i64 h.kind,.int .i64 h.at_,.int .i64 h.lo,.int .i64 h.hi,.int .i64 h.most,.slice An h.names.length cn,.slice Ap n cp,.string h.name.1,.int .i64 h.name.2]] w _
  obtain ⟨t0,-,-,-,-,-,t6,t7,t8⟩:=X9 HT2.out
  by_cases hk:h.kind=9
  ·obtain rfl:n=0:=hF9 (.inr hk)
   have hkr:=Qpz (s:=s) (p:=p) (t:=t) hk
   obtain ⟨R,hR⟩:=V1 (s.knownF (.mk h 0 p t))
   rw [← hR] at hkr ⊢
   have hk':(h.kind == 9)=true:=by rw [hk]; rfl
   obtain ⟨fb,hfb⟩:=V1 (decide (0≤findL s.names h.name.1))
   have hkr2:R=if fb=true then (0,0) else (15,h.name.2):=by
    rw [hkr,hfb]
    by_cases c:0≤findL s.names h.name.1
    ·rw [if_pos c,if_pos (by simpa using c)]
    ·rw [if_neg c,if_neg (by simpa using c)]
   obtain ⟨x,hx,y,hy⟩:=V2 (h.name.1) (h.name.2)
   rw [← hx] at t7 hfb
   rw [← hy] at t8 hkr2
   have HFx:=Qa (HFND.out x)
   rw [← hfb] at HFx
   obtain ⟨f0,hf0⟩:=V1 (s.find x)
   rw [← hf0] at HFx
   have HR2:=Qa hkr2
   have p3:=(HP.out.ext (hK.trans' HE2.out)).cell 3
   have b13:=(HB.out.ext (hK.trans' HE2.out)).c13
   obtain ⟨HPe,HBe⟩:=Z2 (HP.out.ext (hK.trans' HE2.out)) (HB.out.ext (hK.trans' HE2.out))
   have HX:=Qa (show ∀ w',Ext w2 w'→w'.cell? ⟨g1,7,none⟩=some (.string x)∧w'.cell? ⟨g1,8,none⟩=some (.int .i64 y)∧w'.cell? ⟨g1,6,none⟩=some (.slice Ap 0 cp) from fun w' hE=>⟨(hE.cell (p:=⟨g1,7,none⟩) HT2.out.lt).trans t7,(hE.cell (p:=⟨g1,8,none⟩) HT2.out.lt).trans t8,(hE.cell (p:=⟨g1,6,none⟩) HT2.out.lt).trans t6⟩)
   simp only [gA,gH,gS] at p3
   clear hw1 hg1 hw2 hg2 hT hZ hTE hZE hB hP hTb hL hok hPt hSz hFp ih hN hK hk hkr hkr2 hR hfb hx hy hf0 hF9 h64 hn3
   go_enter Tryz.func33,Tryz.ntmps33
   go_upto_region 1 with fail
   rw [← Hw1.out,← Hg1.out,← Hw2.out,← Hg2'.out]
   go_wp2_with fail
   clear t0 t6 t7 t8 p3 b13
   refine Qdc (by kernel_rfl) (by kernel_rfl) w2 (Ext.rfl' _) ?_
   intro I _ f hf hc
   have q3:∀ n,(f n).cell? ⟨gp,3,none⟩=some (.pointer (some ⟨gt,0,none⟩)):=fun n=>(HPe.out.ext (hf n)).cell 3
   have q13:∀ n,(f n).cell? ⟨gb,13,none⟩=some (.pointer (some ⟨gp,0,none⟩)):=fun n=>(HBe.out.ext (hf n)).c13
   have q7:∀ n,(f n).cell? ⟨g1,7,none⟩=some (.string x):=fun n=>(HX.out _ (hf n)).1
   obtain ⟨H1,HG⟩:=Z2 (fun n=>Qir hf hc (HFx.out (f n) ((HK.out.trans' HE2.out).trans' (hf n)))) hf
   clear hf hc
   repeat (go_big_quiet_step ((go_at_call 72; with_reducible exact H1.out _)))
   refine wpQuiet_nil ?_
   rintro _ ⟨nq,rfl⟩
   obtain ⟨HEq,HZq⟩:=Z2 (HE2.out.trans' (HG.out nq)) (HZ2.out.ext (HG.out nq))
   have q6:=(HX.out _ (HG.out nq)).2.2
   have q8:=(HX.out _ (HG.out nq)).2.1
   obtain ⟨w3,hw3⟩:=V1 (f nq)
   rw [← hw3] at HEq HZq q6 q8 ⊢
   clear q3 q13 q7 hw3
   have z0:=HZq.out.cell 0
   have z1:=HZq.out.cell 1
   have f0':=HZq.out.free 0
   have f1':=HZq.out.free 1
   simp only [gA,gH,gS] at z0 z1
   cases fb with
   | false =>
    have hR3:=HR2.out
    rw [if_neg (by decide)] at hR3
    have HR3:=Qa hR3
    clear hR3
    go_wp2_with fail
    exact Qc (f:=(15,y)) (g:=g2) ((HZq.out.set_ 0 _).set_ 1 _) rfl rfl rfl ⟨by rw [HR3.out],ext_two' HEq.out hlo2 _ _⟩
   | true =>
    have hR3:=HR2.out
    rw [if_pos rfl] at hR3
    have HR3:=Qa hR3
    clear hR3
    go_wp2_with fail
    go_loopw [40] (fun i wr=>i = .int .i64 0∧w3=wr) (fun _ _=>0)
    case atStart=>exact ⟨rfl,rfl⟩
    case round =>
     obtain ⟨rfl,rfl⟩:=hrel
     go_wp2_with fail
     exact Qc (f:=(0,0)) (g:=g2) ((HZq.out.set_ 0 _).set_ 1 _) rfl rfl rfl ⟨by rw [HR3.out],ext_two' HEq.out hlo2 _ _⟩
  ·have hk':(h.kind == 9)=false:=by simpa using hk
   obtain ⟨HHIT,HMISS⟩:=Z2 (fun k (hkn:k < n) (h0:∀ j,j < k→(s.partK p t j).1=0) (f:Flt) (hf:s.partK p t k=f) (hn:f.1≠0)=>Qpy (s:=s) hk hkn h0 hf hn) (fun (h0:∀ j,j < n→(s.partK p t j).1=0)=>Qn8 (s:=s) (p:=p) (t:=t) hk h0)
   obtain ⟨R,hR⟩:=V1 (s.knownF (.mk h n p t))
   rw [← hR] at HHIT HMISS ⊢
   have HBe:=Qa (HB.out.ext (hK.trans' HE2.out))
   clear hw1 hg1 hw2 hg2 hT hZ hTE hZE hB hP hTb hL hok hPt hSz hFp ih hN hK hk hR hF9 hn3 HFND t7 t8
   go_enter Tryz.func33,Tryz.ntmps33
   go_upto_region 1 with fail
   rw [← Hw1.out,← Hg1.out,← Hw2.out,← Hg2'.out]
   go_wp2_with fail
   clear t0 t6
   go_loopw [40] (fun i wr=>∃ k:Nat,k≤n∧i = .int .i64 (k:Int)∧Ext w2 wr∧Hid (∀ j,j < k→(s.partK p t j).1=0)) (fun i _=>n - (intOf i).toNat)
   case atStart=>exact ⟨0,Nat.zero_le _,rfl,Ext.rfl' _,fun j hj=>absurd hj (Nat.not_lt_zero _)⟩
   case round =>
    obtain ⟨k,hk,rfl,hE,HA⟩:=hrel
    obtain ⟨HE,HZr⟩:=Z2 hE (HZ2.out.ext hE)
    have t6:=(HT2.out.ext hE).cell 6
    simp only [gA,gH,gS] at t6
    by_cases hkn:k < n
    ·obtain ⟨b,o,rfl,hb,hc⟩:=HPT.out (by omega)
     obtain ⟨Al,cl,Ac,cc,vt,q1,q2,q3,q4⟩:=hc k hkn
     have hEw:=HE2.out.trans' hE
     have hcell:=fun j (v:Value) hv=>(hEw.cell (p:=⟨b,o + k * 18 + j,none⟩) hb).trans (q1 j v hv)
     obtain ⟨_,hsl,hsc,hst⟩:=HSZ.out k hkn
     have hfp:=HFP.out k hkn
     have hit:=HHIT.out k hkn HA.out
     have hlab:=fun hh=>Qp0 (s:=s) (p:=p) (t:=t) (k:=k) hh
     have hcl:=fun h0 hh=>Qrk (s:=s) (p:=p) (t:=t) (k:=k) h0 hh
     have hsub:=fun h0 hh=>Qp1 (s:=s) (p:=p) (t:=t) (k:=k) h0 hh
     have HST:=Qa (fun hh=>Qa4 HA.out (show (s.partK p t k).1=0 from hh))
     have hol:=fun w1 (hE1:Ext wr w1)=>HOF.out Al cl _ _ w1 (HK.out.trans' (hEw.trans' hE1)) (q2.ext (hEw.trans' hE1)) rfl (by have:=hsl.1; omega)
     have hoc:=fun w1 (hE1:Ext wr w1)=>HOF.out Ac cc _ _ w1 (HK.out.trans' (hEw.trans' hE1)) (q3.ext (hEw.trans' hE1)) rfl (by have:=hsc.1; omega)
     have hcall:=fun (hb:(p k).bare=false) w1 (hE1:Ext wr w1)=>HIH.out k (hfp.2 hb) hst w1 vt (HK.out.trans' (hEw.trans' hE1)) (q4.ext (hEw.trans' hE1))
     have hsplit:=Qji s.ws (p k).label
     have hsplit2:=Qji s.ws (p k).cl
     obtain ⟨h',n',An',cn',Ap',cp',rfl⟩:=q4.form
     have HRG:=Qa (show wr.rangeAt b (o + k * 18) (ptV (p k) Al cl Ac cc ++ tyV h' An' cn' Ap' n' cp') from hcell)
     unfold ptV tyV at HRG
     simp only [List.cons_append,List.nil_append] at HRG
     obtain ⟨⟨e1,a1⟩,hf1⟩:∃ f,f=ofF s.ws (p k).label:=⟨_,rfl⟩
     obtain ⟨⟨e2,a2⟩,hf2⟩:∃ f,f=ofF s.ws (p k).cl:=⟨_,rfl⟩
     obtain ⟨⟨e3,a3⟩,hf3⟩:∃ f,f=s.knownF (t k):=⟨_,rfl⟩
     obtain ⟨i1_,hi1,i2_,hi2⟩:=V2 (ofI s.ws s.os (p k).label) (ofI s.ws s.os (p k).cl)
     rw [← hf1,← hi1] at hol
     rw [← hf2,← hi2] at hoc
     rw [← hf1] at hlab hcl hsub hsplit
     rw [← hf2] at hcl hsub hsplit2
     rw [← hf3] at hcall hsub
     obtain ⟨nm,hnm_⟩:=V1 ((p k).name.1)
     rw [← hnm_] at HRG
     obtain ⟨na,hna_⟩:=V1 ((p k).name.2)
     rw [← hna_] at HRG
     obtain ⟨br,hbr_⟩:=V1 ((p k).bare)
     rw [← hbr_] at HRG hcall hsub
     obtain ⟨ll,hll_⟩:=V1 ((p k).label.length)
     rw [← hll_] at HRG hol
     obtain ⟨wi,hwi_⟩:=V1 ((p k).wide)
     rw [← hwi_] at HRG
     obtain ⟨ck,hck_⟩:=V1 ((p k).ck)
     rw [← hck_] at HRG
     obtain ⟨cn2,hcn2_⟩:=V1 ((p k).cn)
     rw [← hcn2_] at HRG
     obtain ⟨ca,hca_⟩:=V1 ((p k).cat)
     rw [← hca_] at HRG
     obtain ⟨lc,hlc_⟩:=V1 ((p k).cl.length)
     rw [← hlc_] at HRG hoc
     obtain ⟨PK,hPK⟩:=V1 (s.partK p t k)
     rw [← hPK] at hit hlab hcl hsub HST
     obtain ⟨HIT,HLAB,HCL,HSUB,HSP⟩:=Z5 (fun f=>hit f) hlab hcl hsub (And.intro hsplit hsplit2)
     have HOL:=Qa (show ∀ w1,Ext wr w1→Calls Tryz.prog 73 #[.pointer (some ⟨gl,0,none⟩),.slice Al ll cl] w1 (fun e w'=>e = .returned (.tuple #[.int .i64 i1_,.agg #[.int .i64 e1,.int .i64 a1]])∧Ext w1 w') from hol)
     have HOC:=Qa (show ∀ w1,Ext wr w1→Calls Tryz.prog 73 #[.pointer (some ⟨gl,0,none⟩),.slice Ac lc cc] w1 (fun e w'=>e = .returned (.tuple #[.int .i64 i2_,.agg #[.int .i64 e2,.int .i64 a2]])∧Ext w1 w') from hoc)
     have HCALL:=Qa (show br=false→∀ w1,Ext wr w1→Calls Tryz.prog 33 #[.pointer (some ⟨gb,0,none⟩),.agg #[.int .i64 h'.kind,.int .i64 h'.at_,.int .i64 h'.lo,.int .i64 h'.hi,.int .i64 h'.most,.slice An' h'.names.length cn',.slice Ap' n' cp',.string h'.name.1,.int .i64 h'.name.2]] w1 (fun e w'=>e = .returned (.agg #[.int .i64 e3,.int .i64 a3])∧Ext w1 w') from hcall)
     obtain ⟨w5,g5,hw5,hg5,Hw5,Hg5,hV,hVE⟩:=T0 wr 131 #[.string nm,.int .i64 na,.bool br,.slice Al ll cl,.int .i64 wi,.int .i64 ck,.int .i64 cn2,.int .i64 ca,.slice Ac lc cc,.int .i64 h'.kind,.int .i64 h'.at_,.int .i64 h'.lo,.int .i64 h'.hi,.int .i64 h'.most,.slice An' h'.names.length cn',.slice Ap' n' cp',.string h'.name.1,.int .i64 h'.name.2]
     obtain ⟨HE5,HX5,HV,HZ5⟩:=Z4 (hE.trans' hVE) hVE hV (HZr.out.ext hVE)
     obtain ⟨-,-,-,v3,-,-,-,-,v8⟩:=X9 hV
     have j0:=nZ k
     have j1:(k:Int) < (n:Int):=by omega
     clear hcell hc q1 q2 q3 q4 hE hEw hw5 hg5 hV hVE hsl hsc hst hfp hit hlab hcl hsub hol hoc hcall hsplit hsplit2 hf1 hf2 hf3 hi1 hi2 hPK hnm_ hna_ hbr_ hll_ hwi_ hck_ hcn2_ hca_ hlc_ HOF HIH HHIT HSZ HFP
     go_upto_region 7 with fail
     refine wp_region_lit ?_
     refine wpList_plain rfl fun K1 hK1=>?_
     go_simp
     refine hK1 _ _ ?_
     refine wpList_load_mid rfl 131 _ rfl b (o + k * 18) rfl _ _ HRG.out Tryz.underlying131 rfl Qc3 ?_
     refine wpList_plain rfl fun K2 hK2=>?_
     go_simp
     refine hK2 _ _ ?_
     refine Qd rfl 131 _ _ rfl _ #[.string nm,.int .i64 na,.bool br,.slice Al ll cl,.int .i64 wi,.int .i64 ck,.int .i64 cn2,.int .i64 ca,.slice Ac lc cc,.int .i64 h'.kind,.int .i64 h'.at_,.int .i64 h'.lo,.int .i64 h'.hi,.int .i64 h'.most,.slice An' h'.names.length cn',.slice Ap' n' cp',.string h'.name.1,.int .i64 h'.name.2] rfl rfl Qc3 rfl (by simp [Value.oneCell']) ?_
     go_upto_region 8 with fail
     rw [← Hw5.out,← Hg5.out]
     obtain ⟨w6,g6,hw6,hg6,Hw6,Hg6,hS,hSE⟩:=T0 w5 22 #[.slice Al ll cl,.slice Ac lc cc]
     obtain ⟨HE6,HX6,HV6,HZ6,HS⟩:=Z5 (HE5.out.trans' hSE) (HX5.out.trans' hSE) (HV.out.ext hSE) (HZ5.out.ext hSE) hS
     clear hw6 hg6 hS hSE
     go_wp2_with fail
     rw [← Hw6.out,← Hg6.out]
     clear v3 v8
     go_loopw [51] (fun i wr=>∃ j:Nat,j≤2∧i = .int .i64 (j:Int)∧Ext w6 wr∧Hid ((1≤j→((e1,a1):Flt)=(0,0))∧(2≤j→((e2,a2):Flt)=(0,0)))) (fun i _=>2 - (intOf i).toNat)
     case atStart=>exact ⟨0,by omega,rfl,Ext.rfl' _,fun h=>by omega,fun h=>by omega⟩
     case round =>
      obtain ⟨j,hj,rfl,hEi,HJ⟩:=hrel
      have x0:=(HS.out.ext hEi).cell 0
      have x1:=(HS.out.ext hEi).cell 1
      have b12:=(HBe.out.ext (HE6.out.trans' hEi)).c12
      simp only [gA,gH,gS] at x0 x1
      rcases (show j=0∨j=1∨j=2 by omega) with rfl | rfl | rfl
      ·go_wp2_with fail
       refine (HOL.out wr (HX6.out.trans' hEi)).mono ?_
       rintro e w7 ⟨rfl,hE7⟩
       obtain ⟨w8,hw8,g8,hg8⟩:=V2 (w7.alloc (.cells #[.int .i64 e1,.int .i64 a1] 34)) (w7.heap.size)
       have hF8:Blk w8 g8 34 #[.int .i64 e1,.int .i64 a1]:=by rw [hw8,hg8]; exact Blk.new _ _ _
       have hE8:Ext wr w8:=by rw [hw8]; exact hE7.alloc hE7.size _
       obtain ⟨Hw8,Hg8,HE8,HZ8⟩:=Z4 hw8 hg8 (hEi.trans' hE8) (HZ6.out.ext (hEi.trans' hE8))
       obtain ⟨y0,y1⟩:=X2 hF8
       clear hw8 hg8 hF8 hE8 hE7 x0 x1
       go_upto_region 12 with fail
       rw [← Hw8.out,← Hg8.out]
       by_cases he:e1=0
       ·have hb1:(e1 == 0)=true:=by simpa using he
        have hb2:(e1 != 0)=false:=by simpa using he
        have HNXT:=Qa (show (1≤1→((e1,a1):Flt)=(0,0))∧(2≤1→((e2,a2):Flt)=(0,0)) from ⟨fun _=>HSP.out.1.resolve_right (fun hh=>hh he),fun h=>by omega⟩)
        clear he hEi
        go_wp2_with fail
        go_roundw
        case rel=>exact ⟨_,by omega,by go_num,HE8.out,HNXT.out⟩
        case measure=>simp [intOf]
       ·have hb1:(e1 == 0)=false:=by simpa using he
        have hb2:(e1 != 0)=true:=by simpa using he
        have HRR:=Qa (show R=(e1,a1) from HIT.out _ (HLAB.out he) he)
        obtain ⟨z0,z1⟩:=X2 HZ8.out
        obtain ⟨f0,f1⟩:=Y2 HZ8.out
        clear he hEi
        go_wp2_with fail
        exact Qc (f:=(e1,a1)) (g:=g2) ((HZ8.out.set_ 0 _).set_ 1 _) rfl rfl rfl ⟨by rw [HRR.out],ext_two' (HE2.out.trans' (HE6.out.trans' HE8.out)) hlo2 _ _⟩
      ·have hl0:=HJ.out.1 (by omega)
       go_wp2_with fail
       refine (HOC.out wr (HX6.out.trans' hEi)).mono ?_
       rintro e w7 ⟨rfl,hE7⟩
       obtain ⟨w8,hw8,g8,hg8⟩:=V2 (w7.alloc (.cells #[.int .i64 e2,.int .i64 a2] 34)) (w7.heap.size)
       have hF8:Blk w8 g8 34 #[.int .i64 e2,.int .i64 a2]:=by rw [hw8,hg8]; exact Blk.new _ _ _
       have hE8:Ext wr w8:=by rw [hw8]; exact hE7.alloc hE7.size _
       obtain ⟨Hw8,Hg8,HE8,HZ8⟩:=Z4 hw8 hg8 (hEi.trans' hE8) (HZ6.out.ext (hEi.trans' hE8))
       obtain ⟨y0,y1⟩:=X2 hF8
       clear hw8 hg8 hF8 hE8 hE7 x0 x1
       go_upto_region 12 with fail
       rw [← Hw8.out,← Hg8.out]
       by_cases he:e2=0
       ·have hb1:(e2 == 0)=true:=by simpa using he
        have hb2:(e2 != 0)=false:=by simpa using he
        have HNXT:=Qa (show (1≤2→((e1,a1):Flt)=(0,0))∧(2≤2→((e2,a2):Flt)=(0,0)) from ⟨fun _=>hl0,fun _=>HSP.out.2.resolve_right (fun hh=>hh he)⟩)
        clear he hEi
        go_wp2_with fail
        go_roundw
        case rel=>exact ⟨_,by omega,by go_num,HE8.out,HNXT.out⟩
        case measure=>simp [intOf]
       ·have hb1:(e2 == 0)=false:=by simpa using he
        have hb2:(e2 != 0)=true:=by simpa using he
        have HRR:=Qa (show R=(e2,a2) from HIT.out _ (HCL.out hl0 he) he)
        obtain ⟨z0,z1⟩:=X2 HZ8.out
        obtain ⟨f0,f1⟩:=Y2 HZ8.out
        clear he hEi
        go_wp2_with fail
        exact Qc (f:=(e2,a2)) (g:=g2) ((HZ8.out.set_ 0 _).set_ 1 _) rfl rfl rfl ⟨by rw [HRR.out],ext_two' (HE2.out.trans' (HE6.out.trans' HE8.out)) hlo2 _ _⟩
      ·have hl0:=HJ.out.1 (by omega)
       have hc0:=HJ.out.2 (by omega)
       have hpk:=HSUB.out hl0 hc0
       have v2:=(HV6.out.ext hEi).cell 2
       have v9:=(HV6.out.ext hEi).cell 9
       have v10:=(HV6.out.ext hEi).cell 10
       have v11:=(HV6.out.ext hEi).cell 11
       have v12:=(HV6.out.ext hEi).cell 12
       have v13:=(HV6.out.ext hEi).cell 13
       have v14:=(HV6.out.ext hEi).cell 14
       have v15:=(HV6.out.ext hEi).cell 15
       have v16:=(HV6.out.ext hEi).cell 16
       have v17:=(HV6.out.ext hEi).cell 17
       simp only [gA,gH,gS] at v2 v9 v10 v11 v12 v13 v14 v15 v16 v17
       obtain ⟨HEo,HEx,HZo⟩:=Z3 (HE6.out.trans' hEi) (HX6.out.trans' hEi) (HZ6.out.ext hEi)
       clear x0 x1 b12 hl0 hc0 hEi
       cases br with
       | true =>
        rw [if_pos rfl] at hpk
        have HST2:=Qa (HST.out (by rw [hpk]))
        clear hpk
        go_wp2_with fail
        go_roundw
        case rel=>exact ⟨k + 1,by omega,by go_num,HEo.out,HST2.out⟩
        case measure=>simp [intOf]; omega
       | false =>
        rw [if_neg (by decide)] at hpk
        obtain ⟨HPK,HC2⟩:=Z2 hpk (HCALL.out rfl wr HEx.out)
        clear hpk HCALL
        go_wp2_with fail
        refine HC2.out.mono ?_
        rintro e w7 ⟨rfl,hE7⟩
        obtain ⟨w8,hw8,g8,hg8⟩:=V2 (w7.alloc (.cells #[.int .i64 e3,.int .i64 a3] 34)) (w7.heap.size)
        have hF8:Blk w8 g8 34 #[.int .i64 e3,.int .i64 a3]:=by rw [hw8,hg8]; exact Blk.new _ _ _
        have hE8:Ext wr w8:=by rw [hw8]; exact hE7.alloc hE7.size _
        obtain ⟨Hw8,Hg8,HE8,HZ8⟩:=Z4 hw8 hg8 (HEo.out.trans' hE8) (HZo.out.ext hE8)
        obtain ⟨y0,y1⟩:=X2 hF8
        clear hw8 hg8 hF8 hE8 hE7 v2 v9 v10 v11 v12 v13 v14 v15 v16 v17
        go_upto_region 17 with fail
        rw [← Hw8.out,← Hg8.out]
        by_cases he:e3=0
        ·have hb1:(e3 == 0)=true:=by simpa using he
         have hb2:(e3 != 0)=false:=by simpa using he
         have HST2:=Qa (HST.out (by rw [HPK.out]; exact he))
         clear he
         go_wp2_with fail
         go_roundw
         case rel=>exact ⟨k + 1,by omega,by go_num,HE8.out,HST2.out⟩
         case measure=>simp [intOf]; omega
        ·have hb1:(e3 == 0)=false:=by simpa using he
         have hb2:(e3 != 0)=true:=by simpa using he
         have HRR:=Qa (show R=(e3,a3) from HIT.out _ HPK.out he)
         obtain ⟨z0,z1⟩:=X2 HZ8.out
         obtain ⟨f0,f1⟩:=Y2 HZ8.out
         clear he
         go_wp2_with fail
         exact Qc (f:=(e3,a3)) (g:=g2) ((HZ8.out.set_ 0 _).set_ 1 _) rfl rfl rfl ⟨by rw [HRR.out],ext_two' (HE2.out.trans' HE8.out) hlo2 _ _⟩
    ·obtain rfl:k=n:=by omega
     have HRR:=Qa (HMISS.out HA.out)
     obtain ⟨z0,z1⟩:=X2 HZr.out
     obtain ⟨f0,f1⟩:=Y2 HZr.out
     clear hE HA
     go_wp2_with fail
     exact Qc (f:=(0,0)) (g:=g2) ((HZr.out.set_ 0 _).set_ 1 _) rfl rfl rfl ⟨by rw [HRR.out],ext_two' (HE2.out.trans' HE.out) hlo2 _ _⟩
end Go.Proofs.YtanpljalbijfkaaGreat
