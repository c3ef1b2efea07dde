/- . -/
import Derived.Test.YtanpljalbijfkaaGreatQ15
import Derived.Test.YtanpljalbijfkaaGreatQ16
import Derived.Deep.RegionHeld
namespace Go.Proofs.YtanpljalbijfkaaGreat
open Go.RowKit
set_option maxHeartbeats 16000000
theorem Qkr (ws:List Wd) (k:Nat) (hk:k < ws.length):(nms ws).take (k + 1)=(nms ws).take k ++ [wNm ws k]:=by
 have hk':k < (nms ws).length:=by rw [Qt]; exact hk
 rw [List.take_add_one,List.getElem?_eq_getElem hk',Qfe hk']
 rfl
theorem Qea {wr w0 w3:World} {base size n g:Nat} {e t:TypeId} {v:Value} {xs:List Value} {cs:Array Value} (hB:Blk w0 g t cs) (hg:w0.grownBy w3 v.ownBlock) (hO:wr.ownsRow base e size v n xs) (hne:g < base∨wr.heap.size≤g):Blk w3 g t cs:=by
 refine (hg.block g hB.lt ?_).trans hB
 intro e
 have:=hO.lt g e.symm
 omega
theorem listAt_none {l:List Wd} {k:Nat} : Qhr l k=none↔listE (nms l) k=0:=by
 unfold Qhr
 split
 ·exact ⟨fun _=>by assumption,fun _=>rfl⟩
 ·exact ⟨fun h=>(by cases h),fun h=>(by contradiction)⟩
theorem Qpi {a:Int} {l:List Wd} {n k:Nat} (hn:n=l.length) (h64:¬ 64 < n) (hk:k < n) (h:∀ j,j < k→listE (nms l) j=0) (hb:¬ listE (nms l) k=0):Qbk a l=(listE (nms l) k,wPl l k):=by
 unfold Qbk
 rw [if_neg (by omega),if_neg (by omega),Qab (k:=k) (x:=(listE (nms l) k,wPl l k)) (by omega) (fun j hj=>listAt_none.2 (h j hj)) (if_neg hb)]
 rfl
theorem Qnv {a:Int} {l:List Wd} {n:Nat} (hn:n=l.length) (h0:n≠0) (h64:¬ 64 < n) (h:∀ j,j < n→listE (nms l) j=0):Qbk a l=(0,0):=by
 unfold Qbk
 rw [if_neg (by omega),if_neg (by omega),firstOf_miss.2 (fun j hj=>listAt_none.2 (h j (by omega)))]
 rfl
set_option maxRecDepth 100000 in
theorem Qrf (a:Int) (x0 x2 x3 x4 x6 x7 x8:Value) (A:Option Addr) (c n:Nat) (l:List Wd) (w:World) (h:WdsAt w w.heap.size A l) (hn:n=l.length) (hsz:Qo l) :
  Calls Tryz.prog 129 #[.agg #[x0,.int .i64 a,x2,x3,x4,.slice A n c,x6,x7,x8]] w (fun e w'=>e = .returned (Qe (Qbk a l))∧Ext w w'):=by
 obtain ⟨w0,hw0⟩:=V1 ((w.alloc (.cells #[x0,.int .i64 a,x2,x3,x4,.slice A n c,x6,x7,x8] 29)).alloc (.cells #[.int .i64 0,.int .i64 0] 34))
 have hT:Blk w0 w.heap.size 29 #[x0,.int .i64 a,x2,x3,x4,.slice A n c,x6,x7,x8]:=by rw [hw0]; exact (Blk.new _ _ _).alloc _
 have hF:Blk w0 (w.heap.size + 1) 34 #[.int .i64 0,.int .i64 0]:=by
  rw [hw0]; have:=Blk.new (w.alloc (.cells #[x0,.int .i64 a,x2,x3,x4,.slice A n c,x6,x7,x8] 29)) 34 #[.int .i64 0,.int .i64 0]; simpa only [World.size_alloc] using this
 have hE:Ext w w0:=by rw [hw0]; exact ((Ext.rfl' w).alloc nL _).alloc (by simp only [World.size_alloc]; omega) _
 have hS:w0.heap.size=w.heap.size + 2:=by rw [hw0]; simp only [World.size_alloc]
 have h0:=h.ext hE
 have hlo:w.heap.size≤w.heap.size + 1:=Nat.le_succ _
 obtain ⟨gf,hgf,gt,hgt⟩:=V2 (w.heap.size + 1) (w.heap.size)
 have hgfl:gf < w0.heap.size:=by rw [hS,hgf]; omega
 have hgtl:gt < w0.heap.size:=by rw [hS,hgt]; omega
 rw [← hgf] at hF hlo
 rw [← hgt] at hT
 obtain ⟨-,t1,-,-,-,t5⟩:=X6 hT
 obtain ⟨b0,b1⟩:=X2 hF
 obtain ⟨f0,f1⟩:=Y2 hF
 obtain ⟨HW,HGF,HGT,HF,HE,HLO,HGFL⟩:=Z7 hw0 hgf hgt hF hE hlo hgfl
 clear hw0 hT hF hE hS hgf hgt hlo hgfl hgtl h
 by_cases c0:n=0
 ·have HR:=Qa (show Qbk a l=(15,a) by unfold Qbk; rw [if_pos (by omega)])
  rw [HR.out]
  subst c0
  clear hn h0
  go_enter Tryz.func129,Tryz.ntmps129
  go_upto_region 1 with fail
  rw [← HW.out,← HGF.out,← HGT.out]
  go_wp2_with fail
  refine (Qk 15 a _).mono ?_
  rintro e w5 ⟨rfl,hE5⟩
  obtain ⟨HF5,HE5⟩:=Z2 (HF.out.ext hE5) (HE.out.trans' hE5)
  obtain ⟨b0,b1⟩:=X2 HF5.out
  obtain ⟨f0,f1⟩:=Y2 HF5.out
  unfold Qe
  clear hE5
  go_wp2_with fail
  exact Qc (f:=(15,a)) (g:=gf) ((HF5.out.set_ 0 _).set_ 1 _) rfl rfl rfl ⟨rfl,ext_two' HE5.out HLO.out _ _⟩
 by_cases c1:64 < n
 ·have HR:=Qa (show Qbk a l=(8,wPl l 64) by unfold Qbk; rw [if_neg (by omega),if_pos (by omega)])
  rw [HR.out]
  obtain ⟨b,o,rfl,hbs,hcell⟩:=h0.cell (by omega)
  have d1:=(hcell 64 (by omega)).2
  obtain ⟨x,hx⟩:=V1 (wPl l 64)
  rw [← hx] at d1 ⊢
  have i0:((n:Int) == 0)=false:=by simp; omega
  clear hn h0 hx hcell HR
  go_enter Tryz.func129,Tryz.ntmps129
  go_upto_region 1 with fail
  rw [← HW.out,← HGF.out,← HGT.out]
  go_wp2_with fail
  refine (Qk 8 x _).mono ?_
  rintro e w5 ⟨rfl,hE5⟩
  obtain ⟨HF5,HE5⟩:=Z2 (HF.out.ext hE5) (HE.out.trans' hE5)
  obtain ⟨b0,b1⟩:=X2 HF5.out
  obtain ⟨f0,f1⟩:=Y2 HF5.out
  unfold Qe
  clear hE5
  go_wp2_with fail
  exact Qc (f:=(8,x)) (g:=gf) ((HF5.out.set_ 0 _).set_ 1 _) rfl rfl rfl ⟨rfl,ext_two' HE5.out HLO.out _ _⟩
 obtain ⟨HIT,HMI⟩:=Z2 (fun k (hk:k < n) hh hb=>Qpi (a:=a) (k:=k) hn c1 hk hh hb) (fun hh=>Qnv (a:=a) hn c0 c1 hh)
 obtain ⟨R,hR⟩:=V1 (Qbk a l)
 rw [← hR] at HIT HMI ⊢
 obtain ⟨HN,HH,HSZ⟩:=Z3 hn h0 hsz
 have i0:((n:Int) == 0)=false:=by simp; omega
 have i1:¬ (64:Int) < (n:Int):=by omega
 have H64:=Qa c1
 obtain ⟨base,hbase⟩:=V1 (w0.heap.size)
 have HBASE:=Qa hbase
 clear hR hn h0 hsz c0 c1 hbase
 go_enter Tryz.func129,Tryz.ntmps129
 go_upto_region 1 with fail
 rw [← HW.out,← HGF.out,← HGT.out]
 go_wp2_with fail
 go_loopw [29,3] (fun i o wr=>∃ (k:Nat) (Ao:Option Addr) (co:Nat),k≤n∧i = .int .i64 k∧o = .slice Ao k co∧Ext w0 wr∧Blk wr gf 34 #[.int .i64 0,.int .i64 0]∧wr.ownsRow base 9 1 (.slice Ao k co) k (Qi ((nms l).take k))∧Hid (∀ j,j < k→listE (nms l) j=0)) (fun i _ _=>n - (intOf i).toNat)
 case atStart=>exact ⟨0,none,0,Nat.zero_le _,rfl,rfl,Ext.rfl' _,HF.out,World.ownsRow_nil _ _ _ _,fun j hj=>absurd hj (by omega)⟩
 case round =>
  obtain ⟨k,Ao,co,hk,rfl,rfl,hEr,hB,hO,HA⟩:=hrel
  obtain ⟨HEr,HB,HO⟩:=Z3 hEr hB hO
  have hbs0:base≤wr.heap.size:=by rw [HBASE.out]; exact hEr.size
  by_cases hlt:k < n
  ·have hkl:k < l.length:=by rw [← HN.out]; exact hlt
   have hkn:k < (nms l).length:=by rw [Qt]; exact hkl
   obtain ⟨b,o,rfl,hbs,hcell⟩:=HH.out.cell (by omega)
   obtain ⟨p1,p2⟩:=hcell k hkl
   have hne:=Qeh hkn (wPl l k) HA.out
   have hhit:=HIT.out k hlt HA.out
   have HST:=Qa (fun hh=>Qa4 HA.out (show listE (nms l) k=0 from hh))
   have hst:=Qkr l k hkl
   have hgd:((nms l).take (k + 1)).getD k ⟨#[]⟩=wNm l k:=by
    rw [List.getD_eq_getElem?_getD,List.getElem?_take_of_lt (Nat.lt_succ_self k),List.getElem?_eq_getElem hkn,Qfe hkn]; rfl
   have hxs:=HSZ.out.2 k
   rw [← hgd] at hxs
   obtain ⟨x,hx,p,hp,ev,hev⟩:=V3 (wNm l k) (wPl l k) (listE (nms l) k)
   rw [← hx] at p1 hst
   rw [← hp] at p2 hne hhit
   rw [← hev] at hne hhit HST
   have q1:wr.cell? ⟨b,o + k * 2,none⟩=some (.string x):=(hEr.cell (p:=⟨b,o + k * 2,none⟩) hbs).trans p1
   have q2:wr.cell? ⟨b,o + k * 2 + 1,none⟩=some (.int .i64 p):=(hEr.cell (p:=⟨b,o + k * 2 + 1,none⟩) hbs).trans p2
   obtain ⟨w1,hw1⟩:=V1 (wr.alloc (.cells #[.string x,.int .i64 p] 27))
   have hV:=bN hw1
   have hB1:Blk w1 gf 34 #[.int .i64 0,.int .i64 0]:=by rw [hw1]; exact hB.alloc _
   have hO1:w1.ownsRow base 9 1 (.slice Ao k co) k (Qi ((nms l).take k)):=by rw [hw1]; exact hO.alloc _
   have hE1:Ext w0 w1:=by rw [hw1]; exact hEr.alloc hEr.size _
   have hs1:w1.heap.size=wr.heap.size + 1:=by rw [hw1]; simp only [World.size_alloc]
   obtain ⟨gv,hgv⟩:=V1 (wr.heap.size)
   rw [← hgv] at hV
   have hgvb:base≤gv:=by rw [hgv]; exact hbs0
   have hgvO:∀ g,Value.ownBlock (.slice Ao k co)=some g→g < gv:=fun g e=>by rw [hgv]; exact (HO.out.lt g e).2
   obtain ⟨v0,v1⟩:=X2 hV
   obtain ⟨HNE,HHIT,HST2,HXS,HW1,HG1,HV1,HB1⟩:=Z8 hne hhit hst hxs hw1 hgv hV hB1
   obtain ⟨HO1,HE1,HGV⟩:=Z3 hO1 hE1 hgvO
   have hbs1:base≤w1.heap.size:=by rw [hs1]; omega
   have HKL:=Qa hkn
   clear hw1 hV hB1 hO1 hE1 hs1 hgv hgvO hne hhit hst hxs hx hp hev hgd hkn hkl p1 p2 hcell hEr hB hO HB HO HEr HIT HMI
   go_upto_region 9 with fail
   rw [← HW1.out,← HG1.out]
   clear q1 q2
   go_wp2_with (at_builtin; refine Qa9 _ rfl _ _ rfl base _ k ((nms l).take k) rfl w1.heap.size x _ rfl (HO1.out.alloc _) (Qau _ _ _ _ rfl) (by omega) (by simp; omega) ?_)
   intro A3 c3 w3 hown3 hgrow3 _
   have hE3:Ext w0 w3:=grown_ext' (w:=w0) (wr:=w1) (base:=base) HE1.out ((Ext.rfl' w1).alloc nL _) hgrow3 HO1.out (by rw [HBASE.out]; exact Nat.le_refl _)
   have hB3:=Qea (HB1.out.alloc (.cells #[.string x] 9)) hgrow3 HO1.out (.inl (by rw [HBASE.out]; exact HGFL.out))
   have hV3:Blk w3 gv 27 #[.string x,.int .i64 p]:=by
    refine (hgrow3.block gv (HV1.out.alloc _).lt ?_).trans (HV1.out.alloc _)
    intro e
    exact absurd (HGV.out gv e.symm) (Nat.lt_irrefl _)
   obtain ⟨v0,v1⟩:=X2 hV3
   rw [← HST2.out] at hown3
   have hlen:k + 1=((nms l).take (k + 1)).length:=by rw [List.length_take]; have:=HKL.out; omega
   have hsa:StrAt w3 w3.heap.size A3 ((nms l).take (k + 1)):=by
    unfold StrAt
    rw [← hlen]
    exact Reads.of_own hown3
   have hli:=Qe1 A3 c3 (k + 1) k p _ w3 hsa hlen rfl (by have:=H64.out; omega) HXS.out
   rw [HNE.out] at hli
   obtain ⟨HLI,HB3,HE3,HO3⟩:=Z4 hli hB3 hE3 hown3
   clear hgrow3 hown3 hB3 hV3 hE3 hli hsa hlen HNE HV1
   by_cases he:ev=0
   ·have hli:=HLI.out
    rw [if_pos he] at hli
    obtain ⟨HLJ,HA2⟩:=Z2 hli (HST.out he)
    clear hli HLI HST HHIT HA he
    go_upto_region 10 with fail
    go_wp2_with fail
    refine HLJ.out.mono ?_
    rintro e w5 ⟨rfl,hE5⟩
    obtain ⟨w6,hw6⟩:=V1 (w5.alloc (.cells #[.int .i64 0,.int .i64 0] 34))
    have hE6:Ext w3 w6:=by rw [hw6]; exact hE5.alloc hE5.size _
    obtain ⟨HB6,HE6,HO6⟩:=Z3 (HB3.out.ext hE6) (HE3.out.trans' hE6) (Qz HO3.out hE6)
    have hf6:=bN hw6
    obtain ⟨g5,hg5⟩:=V1 (w5.heap.size)
    rw [← hg5] at hf6
    obtain ⟨u0,u1⟩:=X2 hf6
    obtain ⟨HW6,HG5⟩:=Z2 hw6 hg5
    clear hw6 hg5 hf6 hE6 hE5 v0 v1
    unfold Qe
    go_upto_region 11 with fail
    rw [← HW6.out,← HG5.out]
    go_wp2_with fail
    go_roundw
    case rel=>exact ⟨k + 1,A3,c3,by omega,by go_num,rfl,HE6.out,HB6.out,HO6.out,HA2.out⟩
    case measure=>simp [intOf]; omega
   ·have hli:=HLI.out
    rw [if_neg he] at hli
    obtain ⟨HLJ,HX⟩:=Z2 hli (HHIT.out he)
    have j0:(ev == 0)=false:=by simpa using he
    clear hli HLI HST HHIT HA he
    go_upto_region 10 with fail
    go_wp2_with fail
    refine HLJ.out.mono ?_
    rintro e w5 ⟨rfl,hE5⟩
    obtain ⟨w6,hw6⟩:=V1 (w5.alloc (.cells #[.int .i64 ev,.int .i64 p] 34))
    have hE6:Ext w3 w6:=by rw [hw6]; exact hE5.alloc hE5.size _
    obtain ⟨HB6,HE6⟩:=Z2 (HB3.out.ext hE6) (HE.out.trans' (HE3.out.trans' hE6))
    have hf6:=bN hw6
    obtain ⟨g5,hg5⟩:=V1 (w5.heap.size)
    rw [← hg5] at hf6
    obtain ⟨u0,u1⟩:=X2 hf6
    obtain ⟨b0,b1⟩:=X2 HB6.out
    obtain ⟨f0,f1⟩:=Y2 HB6.out
    obtain ⟨HW6,HG5⟩:=Z2 hw6 hg5
    clear hw6 hg5 hf6 hE6 hE5 v0 v1
    unfold Qe
    go_upto_region 11 with fail
    rw [← HW6.out,← HG5.out]
    go_wp2_with fail
    exact Qc (f:=(ev,p)) (g:=gf) ((HB6.out.set_ 0 _).set_ 1 _) rfl rfl rfl ⟨by rw [HX.out],ext_two' HE6.out HLO.out _ _⟩
  ·obtain rfl:k=n:=by omega
   obtain ⟨HX,HE6⟩:=Z2 (HMI.out HA.out) (HE.out.trans' hEr)
   obtain ⟨b0,b1⟩:=X2 hB
   obtain ⟨f0,f1⟩:=Y2 hB
   clear hB hO hEr HA
   go_wp2_with fail
   exact Qc (f:=(0,0)) (g:=gf) ((HB.out.set_ 0 _).set_ 1 _) rfl rfl rfl ⟨by rw [HX.out],ext_two' HE6.out HLO.out _ _⟩
theorem wpList_unguard' {P:Program} {ops:Array Oper} {rest:List Oper} {o:Oper} {a:Act} {w:World} {Q:Exit→Act→World→Prop} (hw:Region.wanted o (yielded ops a.tmps)=true) (h:wpList P ops Q ({ o with guard:=none } :: rest) a w):wpList P ops Q (o :: rest) a w:=by
 unfold wpList at h ⊢
 rw [if_pos hw]
 rw [if_pos (by simp [Region.wanted])] at h
 exact h
abbrev zCells:List Value:=[.int .i64 0,.int .i64 0,.int .i64 0,.int .i64 0,.int .i64 0,.slice none 0 0,.slice none 0 0,.string ⟨#[]⟩,.int .i64 0]
theorem Qpj (w:World) (B:Nat):TyAt w B zTy zCells:=⟨none,0,none,0,rfl,Reads.none_,fun h=>absurd h (by omega)⟩
theorem Qh6:Q1 zTy:=by
 refine ⟨⟨Nat.zero_le _,fun k=>?_⟩,Nat.zero_le _,Nat.zero_le _,fun i hi=>absurd hi (Nat.not_lt_zero i)⟩
 show (wNm [] k).size≤maxLen
 rw [show wNm [] k=⟨#[]⟩ from rfl]; exact Nat.zero_le _
theorem Qks (w:World) (B:Nat) (nm:Wd) (b:Bool):PartAt w B (zPt nm b) zTy (ptV (zPt nm b) none 0 none 0 ++ zCells):=⟨none,0,none,0,zCells,rfl,Reads.none_,Reads.none_,Qpj w B⟩
theorem Qep:Qo []:=⟨Nat.zero_le _,fun k=>by rw [show wNm [] k=⟨#[]⟩ from rfl]; exact Nat.zero_le _⟩
theorem Qdy (p q:PtH) (t u:Ty) (w:World) (vs us:List Value) (h:PartAt w w.heap.size p t vs) (h':PartAt w w.heap.size q u us) (hs:Qo p.label) (hs2:Qo p.cl) (hst:Q1 t) (hsq:Qo q.label) (hsq2:Qo q.cl) (hsu:Q1 u) :
  Calls Tryz.prog 175 #[.agg vs.toArray,.agg us.toArray] w (fun e w'=>e = .returned (.bool (Qay p q && Qaq t u))∧Ext w w') :=
 Qfn p q t u w vs us h h' hs hs2 hsq hsq2 (fun w1 vt ut _ h1 h2=>Qre t u w1 vt ut h1 h2 hst hsu)
theorem Qrg (h:TyH) (n:Nat) (p:Nat→PtH) (t:Nat→Ty) (w:World) (vs:List Value) (hT:TyAt w w.heap.size (.mk h n p t) vs) :
  Calls Tryz.prog 128 #[.agg vs.toArray] w (fun e w'=>e = .returned (.bool (Qff h n))∧Ext w w'):=by
 obtain ⟨An,cn,Ap,cp,e,_,_⟩:=hT
 subst e
 unfold Qff tyV
 by_cases k2:h.kind=2
 ·rw [k2]; exact Qs8 _ _ _ _ _ An _ cn Ap n cp _ w
 by_cases k3:h.kind=3
 ·rw [k3]; exact Qs9 _ _ _ _ _ An _ cn Ap n cp _ w
 by_cases k5:h.kind=5
 ·rw [k5]; exact Qta _ _ _ _ _ An _ cn Ap n cp _ w
 exact Qtb _ _ _ _ _ _ An _ cn Ap n cp _ (by simpa using k2) (by simpa using k3) (by simpa using k5) w
theorem Qc9 {w:World} {g:Nat} {t:TypeId} {cs:Array Value} (h:Blk w g t cs) {o m:Nat} (ho:o + m≤cs.size):w.there g o m:=fun j hj=>by
 refine ⟨?_,h.free _⟩
 rw [h.cell,Array.getElem?_eq_getElem (by omega)]; rfl
theorem Qkt {w:World} {g:Nat} (hg:w.heap.size≤g) (vs:List Value):∀ (o:Nat) {w':World},Ext w w'→Ext w (w'.setCells g o vs):=by
 induction vs with
 | nil=>intro o w' h; exact h
 | cons v r ih=>intro o w' h; exact ih (o + 1) (h.setCell hg v)
theorem Qnw {w:World} {b o:Nat} {l m:List Value} (h:w.rangeAt b o l) (h':w.rangeAt b (o + l.length) m):w.rangeAt b o (l ++ m):=by
 intro j v hv
 rcases Nat.lt_or_ge j l.length with hj | hj
 ·rw [List.getElem?_append_left hj] at hv
  exact h j v hv
 ·rw [List.getElem?_append_right hj] at hv
  have:=h' (j - l.length) v hv
  rw [show o + l.length + (j - l.length)=o + j by omega] at this
  exact this
theorem Qnx {w:World} {b o:Nat} {l m:List Value} (h:w.rangeAt b o (l ++ m)):w.rangeAt b o l:=fun j v hv=>by
 refine h j v ?_
 rw [List.getElem?_append_left (List.getElem?_eq_some_iff.1 hv).1]; exact hv
set_option maxRecDepth 100000 in
theorem Qpk (q:PtH) (t:Ty) (w:World) (vs:List Value) (h:PartAt w w.heap.size q t vs) (hs:Qo q.label) (hs2:Qo q.cl) :
  Calls Tryz.prog 162 #[.agg vs.toArray] w (fun e w'=>e = .returned (.bool (Qay q (zPt wd0 false)))∧Ext w w'):=by
 obtain ⟨Al,cl,Ac,cc,vt,rfl,hl,hc,ht⟩:=h
 obtain ⟨x0,x1,x2,x3,x4,x5,x6,x7,x8,rfl⟩:=ht.nine
 obtain ⟨us,hus,w0,hw0⟩:=V2 (ptV q Al cl Ac cc ++ zCells) (w.alloc (.cells (ptV q Al cl Ac cc ++ [x0,x1,x2,x3,x4,x5,x6,x7,x8]).toArray 131))
 have hB:Blk w0 w.heap.size 131 (ptV q Al cl Ac cc ++ [x0,x1,x2,x3,x4,x5,x6,x7,x8]).toArray:=by rw [hw0]; exact Blk.new _ _ _
 have hE:Ext w w0:=by rw [hw0]; exact (Ext.rfl' w).alloc nL _
 obtain ⟨w1,hw1⟩:=V1 (w0.setCells w.heap.size 9 zCells)
 have hE1:Ext w w1:=by rw [hw1]; exact Qkt nL _ _ hE
 have hpa:PartAt w1 w1.heap.size q zTy us:=⟨Al,cl,Ac,cc,zCells,hus,hl.ext hE1,hc.ext hE1,Qpj _ _⟩
 have hcall:=Qdy q (zPt wd0 false) zTy zTy w1 us (ptV (zPt wd0 false) none 0 none 0 ++ zCells) hpa (Qks _ _ _ _) hs hs2 Qh6 Qep Qep Qh6
 rw [Qqw] at hcall
 have hul:us.length=18:=hpa.len
 have hth:=Qc9 hB (o:=9) (m:=9) (Nat.le_refl 18)
 have hrg:w1.rangeAt w.heap.size 0 us:=by
  rw [hw1,hus]
  refine Qnw (World.rangeAt_setCells_apart (Qnx (Qai hB)) _ _ _ (.inr (.inl (Nat.le_refl 9)))) ?_
  exact World.rangeAt_setCells_same _ _ _ _ hth
 obtain ⟨R,hR⟩:=V1 (Qay q (zPt wd0 false))
 rw [← hR] at hcall ⊢
 obtain ⟨g,hg⟩:=V1 (w.heap.size)
 rw [← hg] at hrg hth hw1
 have HC:=Qa (show Calls Tryz.prog 175 #[.agg us.toArray,.agg #[.string ⟨#[]⟩,.int .i64 0,.bool false,.slice none 0 0,.int .i64 0,.int .i64 0,.int .i64 0,.int .i64 0,.slice none 0 0,.int .i64 0,.int .i64 0,.int .i64 0,.int .i64 0,.int .i64 0,.slice none 0 0,.slice none 0 0,.string ⟨#[]⟩,.int .i64 0]] w1 (fun e w'=>e = .returned (.bool R)∧Ext w1 w') from hcall)
 obtain ⟨HRG,HTH,HUL,HE1,HW,HW1,HG⟩:=Z7 hrg hth hul hE1 hw0 hw1 hg
 unfold ptV at HW ⊢
 simp only [List.cons_append,List.nil_append] at HW ⊢
 clear hcall hrg hth hul hE1 hw0 hw1 hg hR hpa hB hE hus hl hc ht hs hs2
 go_enter Tryz.func162,Tryz.ntmps162
 go_upto_region 1 with fail
 rw [← HW.out,← HG.out]
 refine wp_region_lit ?_
 refine wpList_plain rfl fun K1 hK1=>?_
 go_simp
 refine hK1 _ _ ?_
 refine wpList_plain rfl fun K2 hK2=>?_
 go_simp
 refine hK2 _ _ ?_
 refine wpList_store_mid rfl 29 _ _ rfl g 9 zCells.toArray rfl rfl HTH.out (by kernel_rfl) (by kernel_rfl) ?_
 rw [← HW1.out]
 go_upto_region 2 with fail
 refine wp_region_lit ?_
 refine wpList_load_mid rfl 131 _ rfl g 0 rfl us _ HRG.out Tryz.underlying131 rfl (infoPart' HUL.out) ?_
 go_wp2_with fail
 refine HC.out.mono ?_
 rintro e w2 ⟨rfl,hE2⟩
 have HE2:=Qa (HE1.out.trans' hE2)
 clear hE2
 go_wp2_with fail
 go_ret
 exact ⟨rfl,HE2.out⟩
theorem Qje {w:World} {B:Nat} {A:Option Addr} {n:Nat} {p:Nat→PtH} {t:Nat→Ty} (h:PartsAt w B A n p t) {b o:Nat} (e:A=some ⟨b,o,none⟩) {i:Nat} (hi:i < n) :
  w.cell? ⟨b,o + i * 18,none⟩=some (.string (p i).name.1)∧w.cell? ⟨b,o + i * 18 + 1,none⟩=some (.int .i64 (p i).name.2):=by
 obtain ⟨b',o',e',hb,hc⟩:=h (by omega)
 rw [e] at e'
 cases e'
 obtain ⟨vs,h1,Al,cl,Ac,cc,vt,rfl,_,_,_⟩:=hc i hi
 exact ⟨h1 0 _ rfl,h1 1 _ rfl⟩
end Go.Proofs.YtanpljalbijfkaaGreat
