/- . -/
import Derived.Test.YtanpljalbijfkaaGreatQ03
import Derived.Test.YtanpljalbijfkaaGreatQ11
import Derived.Test.YtanpljalbijfkaaGreatQ13
import Derived.Laws.StructEq
namespace Go.Proofs.YtanpljalbijfkaaGreat
open Go.RowKit
set_option maxHeartbeats 16000000
set_option maxRecDepth 100000 in
theorem Qpb (t:Ty):∀ (w:World) (vs:List Value),TyAt w w.heap.size t vs→Q1 t→Q4 t≤100000→Calls Tryz.prog 75 #[.agg vs.toArray] w (fun e w'=>e = .returned (.int .i64 (Q6 t:Nat))∧Ext w w'):=by
 induction t with
 | nil=>intro w vs hT; exact hT.elim
 | mk h n p t ih =>
  intro w vs hT hS hC
  obtain ⟨An,cn,Ap,cp,rfl,hN,hP⟩:=hT
  obtain ⟨_,_,hn,hSz⟩:=hS
  rw [Qf9] at hC
  obtain ⟨w1,hw1,g,hg⟩:=V2 (w.alloc (.cells #[.int .i64 h.kind,.int .i64 h.at_,.int .i64 h.lo,.int .i64 h.hi,.int .i64 h.most,.slice An h.names.length cn,.slice Ap n cp,.string h.name.1,.int .i64 h.name.2] 29)) (w.heap.size)
  have hB:Blk w1 g 29 #[.int .i64 h.kind,.int .i64 h.at_,.int .i64 h.lo,.int .i64 h.hi,.int .i64 h.most,.slice An h.names.length cn,.slice Ap n cp,.string h.name.1,.int .i64 h.name.2]:=by rw [hw1,hg]; exact Blk.new _ _ _
  have hBE:Ext w w1:=by rw [hw1]; exact (Ext.rfl' w).alloc nL _
  obtain ⟨Hw1,Hg⟩:=Z2 hw1 hg
  obtain ⟨b0,-,-,-,-,-,b6⟩:=X7 hB
  obtain ⟨HE1,HIH,HP,HSZ,HCN⟩:=Z5 hBE ih hP hSz hC
  by_cases hk:h.kind=9
  ·rw [Qkl hk]
   show Calls Tryz.prog 75 #[.agg #[.int .i64 h.kind,.int .i64 h.at_,.int .i64 h.lo,.int .i64 h.hi,.int .i64 h.most,.slice An h.names.length cn,.slice Ap n cp,.string h.name.1,.int .i64 h.name.2]] w _
   have hk':(h.kind == 9)=true:=by rw [hk]; rfl
   clear hw1 hg hB hBE ih hP hSz hN hC hk
   go_enter Tryz.func75,Tryz.ntmps75
   go_upto_region 1 with fail
   rw [← Hw1.out,← Hg.out]
   go_wp2_with fail
   go_ret
   exact ⟨rfl,HE1.out⟩
  rw [Qdx hk]
  obtain ⟨C,hCC⟩:=V1 (Ql (fun i=>if (p i).bare=true then 0 else Q6 (t i)))
  have HC:=Qa (fun k (hk:k < n)=>(show C (k + 1)=C k + (if (p k).bare=true then 0 else Q6 (t k))∧C k + (if (p k).bare=true then 0 else Q6 (t k))≤100000∧((p k).bare=false→Q4 (t k)≤100000) by
   rw [hCC]
   refine ⟨rfl,?_,fun hb=>?_⟩
   ·have h1:=Qbz (f:=fun i=>if (p i).bare=true then 0 else Q6 (t i)) hk
    have h2:Ql (fun i=>if (p i).bare=true then 0 else Q6 (t i)) n≤Ql (fun i=>if (p i).bare=true then 0 else Q4 (t i)) n:=Qdw fun i _=>by
     by_cases hb:(p i).bare=true
     ·rw [if_pos hb,if_pos hb]; exact Nat.le_refl _
     ·rw [if_neg hb,if_neg hb]; exact Qdr _
    omega
   ·have h1:=Qbz (f:=fun i=>if (p i).bare=true then 0 else Q4 (t i)) hk
    rw [hb,if_neg (by decide)] at h1
    omega))
  have HC0:=Qa (show C 0=0 by rw [hCC]; rfl)
  rw [← hCC]
  have hk':(h.kind == 9)=false:=by simpa using hk
  show Calls Tryz.prog 75 #[.agg #[.int .i64 h.kind,.int .i64 h.at_,.int .i64 h.lo,.int .i64 h.hi,.int .i64 h.most,.slice An h.names.length cn,.slice Ap n cp,.string h.name.1,.int .i64 h.name.2]] w _
  clear hw1 hg hB hBE ih hP hSz hN hC hk hCC
  go_enter Tryz.func75,Tryz.ntmps75
  go_upto_region 1 with fail
  rw [← Hw1.out,← Hg.out]
  go_wp2_with fail
  clear b0 b6
  go_loopw [12,3] (fun i cv wr=>∃ k:Nat,k≤n∧i = .int .i64 (k:Int)∧cv = .int .i64 ((1 + C k:Nat):Int)∧Ext w1 wr) (fun i _ _=>n - (intOf i).toNat)
  case atStart=>exact ⟨0,Nat.zero_le _,rfl,by rw [HC0.out]; rfl,Ext.rfl' _⟩
  case round =>
   obtain ⟨k,hk,rfl,rfl,hE⟩:=hrel
   have HE:=Qa hE
   by_cases hkn:k < n
   ·obtain ⟨b,o,rfl,hb,hc⟩:=HP.out (by omega)
    obtain ⟨Al,cl,Ac,cc,vt,q1,q2,q3,q4⟩:=hc k hkn
    have hEw:=HE1.out.trans' hE
    have hcell:=fun j (v:Value) hv=>(hEw.cell (p:=⟨b,o + k * 18 + j,none⟩) hb).trans (q1 j v hv)
    obtain ⟨hck,hle,hcn⟩:=HC.out k hkn
    have hcall:=fun (hb:(p k).bare=false) w2 (hE2:Ext wr w2)=>HIH.out k w2 vt (q4.ext (hEw.trans' hE2)) (HSZ.out k hkn).2.2.2 (hcn hb)
    obtain ⟨h',n',An',cn',Ap',cp',rfl⟩:=q4.form
    have HRG:=Qa (show wr.rangeAt b (o + k * 18) (ptV (p k) Al cl Ac cc ++ tyV h' An' cn' Ap' n' cp') from hcell)
    unfold ptV tyV at HRG
    simp only [List.cons_append,List.nil_append] at HRG
    obtain ⟨nm,hnm_⟩:=V1 ((p k).name.1)
    rw [← hnm_] at HRG
    obtain ⟨na,hna_⟩:=V1 ((p k).name.2)
    rw [← hna_] at HRG
    obtain ⟨br,hbr_⟩:=V1 ((p k).bare)
    rw [← hbr_] at HRG hck hle hcall
    obtain ⟨ll,hll_⟩:=V1 ((p k).label.length)
    rw [← hll_] at HRG
    obtain ⟨wi,hwi_⟩:=V1 ((p k).wide)
    rw [← hwi_] at HRG
    obtain ⟨ck,hck_⟩:=V1 ((p k).ck)
    rw [← hck_] at HRG
    obtain ⟨cn2,hcn2_⟩:=V1 ((p k).cn)
    rw [← hcn2_] at HRG
    obtain ⟨ca,hca_⟩:=V1 ((p k).cat)
    rw [← hca_] at HRG
    obtain ⟨lc,hlc_⟩:=V1 ((p k).cl.length)
    rw [← hlc_] at HRG
    obtain ⟨x,hx⟩:=V1 (Q6 (t k))
    rw [← hx] at hck hle hcall
    obtain ⟨c,hcc⟩:=V1 (C k)
    rw [← hcc] at hck hle ⊢
    have HCALL:=Qa (show br=false→∀ w2,Ext wr w2→Calls Tryz.prog 75 #[.agg #[.int .i64 h'.kind,.int .i64 h'.at_,.int .i64 h'.lo,.int .i64 h'.hi,.int .i64 h'.most,.slice An' h'.names.length cn',.slice Ap' n' cp',.string h'.name.1,.int .i64 h'.name.2]] w2 (fun e w'=>e = .returned (.int .i64 (x:Int))∧Ext w2 w') from hcall)
    obtain ⟨w5,hw5,g5,hg5⟩:=V2 (wr.alloc (.cells #[.string nm,.int .i64 na,.bool br,.slice Al ll cl,.int .i64 wi,.int .i64 ck,.int .i64 cn2,.int .i64 ca,.slice Ac lc cc,.int .i64 h'.kind,.int .i64 h'.at_,.int .i64 h'.lo,.int .i64 h'.hi,.int .i64 h'.most,.slice An' h'.names.length cn',.slice Ap' n' cp',.string h'.name.1,.int .i64 h'.name.2] 131)) (wr.heap.size)
    have hV:Blk w5 g5 131 #[.string nm,.int .i64 na,.bool br,.slice Al ll cl,.int .i64 wi,.int .i64 ck,.int .i64 cn2,.int .i64 ca,.slice Ac lc cc,.int .i64 h'.kind,.int .i64 h'.at_,.int .i64 h'.lo,.int .i64 h'.hi,.int .i64 h'.most,.slice An' h'.names.length cn',.slice Ap' n' cp',.string h'.name.1,.int .i64 h'.name.2]:=by rw [hw5,hg5]; exact Blk.new _ _ _
    have hVE:Ext wr w5:=by rw [hw5]; exact (Ext.rfl' wr).alloc nL _
    obtain ⟨Hw5,Hg5,HE5,HV⟩:=Z4 hw5 hg5 (hE.trans' hVE) hVE
    obtain ⟨-,-,v2,-,-,-,-,-,-,v9,v10,v11,v12,v13,v14,v15,v16,v17⟩:=X18 hV
    have i0:=nZ k
    have i1:(k:Int) < (n:Int):=by omega
    clear hcell hcall hc q1 q2 q3 q4 hE hEw hx hw5 hg5 hV hVE hcn hcc hnm_ hna_ hbr_ hll_ hwi_ hck_ hcn2_ hca_ hlc_
    go_upto_region 6 with fail
    refine wp_region_lit ?_
    refine wpList_plain rfl fun K1 hK1=>?_
    go_simp
    refine hK1 _ _ ?_
    refine wpList_load_mid rfl 131 _ rfl b (o + k * 18) rfl _ _ HRG.out Tryz.underlying131 rfl Qc3 ?_
    refine wpList_plain rfl fun K2 hK2=>?_
    go_simp
    refine hK2 _ _ ?_
    refine Qd rfl 131 _ _ rfl _ #[.string nm,.int .i64 na,.bool br,.slice Al ll cl,.int .i64 wi,.int .i64 ck,.int .i64 cn2,.int .i64 ca,.slice Ac lc cc,.int .i64 h'.kind,.int .i64 h'.at_,.int .i64 h'.lo,.int .i64 h'.hi,.int .i64 h'.most,.slice An' h'.names.length cn',.slice Ap' n' cp',.string h'.name.1,.int .i64 h'.name.2] rfl rfl Qc3 rfl (by simp [Value.oneCell']) ?_
    go_upto_region 7 with fail
    rw [← Hw5.out,← Hg5.out]
    cases br with
    | true =>
     rw [if_pos rfl] at hck hle
     have HCK:=Qa hck
     clear hck
     go_wp2_with fail
     go_roundw
     case rel=>exact ⟨k + 1,by omega,by go_num,by rw [HCK.out]; rfl,HE5.out⟩
     case measure=>simp [intOf]; omega
    | false =>
     rw [if_neg (by decide)] at hck hle
     obtain ⟨HCK,HC5⟩:=Z2 hck (HCALL.out rfl w5 HV.out)
     clear hck HCALL
     have c0:(0:Int)≤((1 + c:Nat):Int):=by omega
     have c1:((1 + c:Nat):Int)≤100001:=by omega
     have x0:=nZ x
     have x1:(x:Int)≤100000:=by omega
     go_wp2_with fail
     refine HC5.out.mono ?_
     rintro e w6 ⟨rfl,hE6⟩
     have HE6:=Qa (HE5.out.trans' hE6)
     clear hE6 v2 v9 v10 v11 v12 v13 v14 v15 v16 v17
     go_wp2_with fail
     go_roundw
     case rel=>exact ⟨k + 1,by omega,by go_num,by rw [HCK.out]; go_num,HE6.out⟩
     case measure=>simp [intOf]; omega
   ·obtain rfl:k=n:=by omega
    clear hE
    go_wp2_with fail
    go_ret
    exact ⟨rfl,HE1.out.trans' HE.out⟩
theorem Qkn {ws:List Wd} {os:List (Wd × Wd)} {a:Nat} (h:Qb3 (Qan ws.length (prs ws os))=some a):Qc1 ws os=(11,wPl ws a)∧a < ws.length:=by
 unfold Qc1
 rw [h]
 refine ⟨rfl,?_⟩
 have:=List.mem_of_find?_eq_some h
 rw [List.mem_range,Qby] at this
 exact this
theorem Qko {ws:List Wd} {os:List (Wd × Wd)} (h:Qb3 (Qan ws.length (prs ws os))=none):Qc1 ws os=Qck ws os:=by
 unfold Qc1
 rw [h]
theorem Qkp (n:Nat) (L:Nat→Nat→Bool):LatM.boundsL n L = -1∨∃ b:Nat,b < n∧LatM.boundsL n L=b:=by
 unfold LatM.boundsL
 cases hf:(List.range n).find? (LatM.lacks n L) with
 | none=>exact .inl rfl
 | some b=>exact .inr ⟨b,List.mem_range.1 (List.mem_of_find?_eq_some hf),rfl⟩
theorem Qjr {ws:List Wd} {os:List (Wd × Wd)} {b:Nat} (h:LatM.boundsL ws.length (Qu ws os)=b):Qck ws os=(12,wPl ws b):=by
 unfold Qck
 rw [h,if_neg (by omega),Int.toNat_natCast]
theorem Qjs {ws:List Wd} {os:List (Wd × Wd)} (h:LatM.boundsL ws.length (Qu ws os) = -1):Qck ws os=(0,0):=by
 unfold Qck
 rw [h,if_pos (by omega)]
set_option maxRecDepth 100000 in
theorem Qpc (A:Option Addr) (c n:Nat) (ws:List Wd) (A2:Option Addr) (c2 m:Nat) (os:List (Wd × Wd)) (w:World) (h:WdsAt w w.heap.size A ws) (hsz:∀ i,(wNm ws i).size≤maxLen) (hn:n=ws.length) (h2:OdsAt w w.heap.size A2 os) (hm:m=os.length) :
  Calls Tryz.prog 29 #[.slice A n c,.slice A2 m c2] w (Qo5 ws os w):=by
 obtain ⟨HN,HM,HMany,HCal,HNum,HW⟩:=Z6 hn hm (fun (w1:World) (hE:Ext w w1)=>Qq7 A c n ws A2 c2 m os w1 (h.ext hE) hn (h2.ext hE) hm) (fun (w1:World) (hE:Ext w w1) (hle:n≤1000)=>Qnj A c n ws w1 (h.ext hE) hsz hn hle) (fun (w1:World) (hE:Ext w w1) (gt:Nat) (hT:TabAt w1 gt (nms ws)) (hle:n≤1000) (hle2:m≤1000)=>Qkj gt ws A2 c2 m os w1 hT (by omega) (h2.ext hE) hm hle2) h
 clear h h2
 rcases Qnm ws os with ⟨hf,hp,hs,ho⟩ | ⟨x,y,hf,hx,hw⟩
 ·rw [hf,show Qe (0,0) = .agg #[.int .i64 0,.int .i64 0] from rfl] at HMany
  have hn0:0 < n:=by omega
  have hn1:n≤32:=by omega
  have hm1:m≤256:=by omega
  obtain ⟨hw1,hw2,hw3⟩:=Qo6 hp hs ho
  obtain ⟨HW1,HW2,HW3⟩:=Z3 hw1 hw2 hw3
  clear hf hp hs ho hw1 hw2 hw3 hn hm
  go_enter Tryz.func29,Tryz.ntmps29
  go_wp2_with fail
  refine (HMany.out _ ((Ext.rfl' w).alloc nL _)).mono ?_
  rintro e w1 ⟨rfl,hE1⟩
  have hF:=(Blk.new w 34 #[.int .i64 0,.int .i64 0]).ext hE1
  obtain ⟨HE1,HF⟩:=Z2 (Ext.trans' ((Ext.rfl' w).alloc nL _) hE1) hF
  clear hE1 hF HMany
  go_wp2_with fail
  refine (HCal.out _ (HE1.out.alloc HE1.out.size _) (by omega)).mono ?_
  rintro e w2 (⟨⟨x,y⟩,hx,rfl,hE2⟩ | ⟨hx,A3,c3,rfl,hS,hE2⟩)
  ·have hw:=HW1.out _ (by rw [← HN.out]; exact hx)
   have hx0:=Qnn hx
   have hxb:((x:Int) != 0)=true:=by rw [bne_iff_ne]; exact hx0
   have hF:=(HF.out.alloc (.cells #[.int .i64 0,.int .i64 0] 34)).ext hE2
   obtain ⟨f0,f1⟩:=Y2 hF
   have b0:=hF.cell 0
   have b1:=hF.cell 1
   have l0:=hF.lt
   simp only [gA,gH,gS] at b0 b1
   obtain ⟨HE2,HFF,HWW,HX⟩:=Z4 (Ext.trans' (HE1.out.alloc HE1.out.size _) hE2) hF hw hx0
   rw [show Qe (x,y) = .agg #[.int .i64 x,.int .i64 y] from rfl]
   clear hE2 hF hw hx0 hx
   go_wp2_with fail
   go_region
   go_wp2_with fail
   exact Qn (f:=(x,y)) (g:=w.heap.size) (v:=.pointer none) (((HFF.out.set_ 0 _).set_ 1 _).alloc _) rfl rfl rfl rfl (.inl ⟨by rw [HWW.out]; exact HX.out,by rw [HWW.out],((Qa1 HE2.out _ _).alloc (by simpa using HE2.out.size) _).drew⟩)
  ·have HX:=Qa hx
   have hF:=(HF.out.alloc (.cells #[.int .i64 0,.int .i64 0] 34)).ext hE2
   obtain ⟨HE2,HFF,HS,HNew⟩:=Z4 (Ext.trans' (HE1.out.alloc HE1.out.size _) hE2) hF hS (fun (w4:World) (hE:Ext w2 w4)=>Qhp A3 c3 n (nms ws) w4 (hS.ext hE) (by rw [Qt]; exact HN.out) (by omega))
   rw [show Qe (0,0) = .agg #[.int .i64 0,.int .i64 0] from rfl]
   clear hE2 hF hS HF HE1 hx
   go_wp2_with fail
   refine (HNew.out _ ((Ext.rfl' w2).alloc nL _)).mono ?_
   rintro e w3 ⟨gt,rfl,hT,hE3⟩
   obtain ⟨HE23,HG,HT⟩:=Z3 (Ext.trans' ((Ext.rfl' w2).alloc nL _) hE3) ((Blk.new w2 34 #[.int .i64 0,.int .i64 0]).ext hE3) hT
   clear hE3 hT HNew
   go_wp2_with ((with_reducible refine Qg1 rfl _ _ rfl (.slice A3 n c3) (.pointer (some ⟨gt,0,none⟩)) rfl rfl rfl rfl ?_); intro cs hcs; have q1:=hcs.out.2.2.1)
   clear q1
   obtain ⟨g,hg⟩:=V1 (w3.heap.size)
   rw [← hg]
   have hL:=hcs.out.blk (Blk.new_eq w3 119 cs hg)
   obtain ⟨w4,hw4⟩:=V1 (w3.alloc (.cells cs 119))
   have hE4:Ext w3 w4:=by rw [hw4]; exact (Ext.rfl' w3).alloc nL _
   rw [← hw4] at hL ⊢
   obtain ⟨HL,HG4,HT4,HE24,HE34,HGG⟩:=Z6 hL (HG.out.ext hE4) (HT.out.ext hE4) (HE23.out.trans' hE4) hE4 hg
   have HT3:=Qa HT.out
   clear hcs hL hE4 hw4 hg HG HT
   refine (HNum.out _ (HE2.out.trans' HE24.out) gt HT4.out (by omega) (by omega)).mono ?_
   rintro e w5 (⟨⟨x,y⟩,hx,rfl,hE5⟩ | ⟨hx2,A5,c5,rfl,hP,hE5⟩)
   ·have hw:=HW2.out (by rw [← HN.out]; exact HX.out) _ (by rw [← HM.out]; exact hx)
    have hx0:=Qly hx
    have hxb:((x:Int) != 0)=true:=by rw [bne_iff_ne]; exact hx0
    have hF:=(HFF.out.ext HE24.out).ext hE5
    have hG:=HG4.out.ext hE5
    obtain ⟨f0,f1⟩:=Y2 hF
    have b0:=hF.cell 0
    have b1:=hF.cell 1
    have l0:=hF.lt
    obtain ⟨g0,g1⟩:=Y2 hG
    have d0:=hG.cell 0
    have d1:=hG.cell 1
    have l1:=hG.lt
    have l2:=HFF.out.lt
    have l3:w.heap.size≠w2.heap.size:=by omega
    have l4:w2.heap.size≠w.heap.size:=by omega
    simp only [gA,gH,gS] at b0 b1 d0 d1
    obtain ⟨HE5,HF5,HWW,HX0⟩:=Z4 ((HE2.out.trans' HE24.out).trans' hE5) hF hw hx0
    rw [show Qe (x,y) = .agg #[.int .i64 x,.int .i64 y] from rfl]
    clear hE5 hF hG hw hx0 hx
    go_wp2_with fail
    go_region
    go_wp2_with fail
    exact Qn (f:=(x,y)) (g:=w.heap.size) (v:=.pointer none) ((((HF5.out.far (p:=⟨w2.heap.size,0,none⟩) l3 _).far (p:=⟨w2.heap.size,1,none⟩) l3 _).set_ 0 _).set_ 1 _) rfl rfl rfl rfl
     (.inl ⟨by rw [HWW.out]; exact HX0.out,by rw [HWW.out],(Qa1 ((HE5.out.setCell (p:=⟨w2.heap.size,0,none⟩) (show w.heap.size≤w2.heap.size by omega) _).setCell (p:=⟨w2.heap.size,1,none⟩) (show w.heap.size≤w2.heap.size by omega) _) _ _).drew⟩)
   ·obtain ⟨HOK,HX2⟩:=Z2 (Qhy (firstOf_miss.1 (by rw [← HM.out]; exact hx2))) hx2
    have hlen:(prs ws os).length=m:=by rw [Qe0]; exact HM.out.symm
    have HRN:Hid (Calls Tryz.prog 64 #[.int .i64 n,.slice A5 m c5] w5 (Qiu n (prs ws os) w5)):=by rw [← hlen]; exact Qa (Qm9 n (by omega) A5 c5 (prs ws os) w5 hP (by omega))
    have hG:=HG4.out.ext hE5
    have s0:=Qbf w5 hG (i:=0) (v:=.int .i64 0) rfl
    have s1:=Qbf w5 hG (i:=1) (v:=.int .i64 0) rfl
    obtain ⟨g0,g1⟩:=Y2 hG
    have d0:=hG.cell 0
    have d1:=hG.cell 1
    have l1:=hG.lt
    simp only [gA,gH,gS] at d0 d1
    obtain ⟨HE35,HL5⟩:=Z2 (HE34.out.trans' hE5) (HL.out.ext hE5)
    rw [show Qe (0,0) = .agg #[.int .i64 0,.int .i64 0] from rfl]
    clear hE5 hG hlen hP hx2 HNum
    go_wp2_with fail
    refine HRN.out.mono ?_
    rintro e w6 (⟨hok,bo,rfl,hR,hE6⟩ | ⟨hok,_⟩)
    ·obtain ⟨HR,HOK2,HE36,HL6⟩:=Z4 hR hok (HE35.out.trans' hE6) (HL5.out.ext hE6)
     clear hE6 hok hR s0 s1 d0 d1 g0 g1 l1 HRN
     go_wp2_with fail
     refine (Qlv bo _ _ HR.out).mono ?_
     rintro e w7 ⟨rfl,hE7⟩
     have hlp:=Qsb (show n≤64 by omega) HOK2.out
     obtain ⟨lp,hlpe⟩:=V1 (Qct (RelM.close (Qm n (prs ws os))))
     rw [← hlpe] at hlp ⊢
     obtain ⟨HLP,HE37,HL7,HR7⟩:=Z4 hlp (HE36.out.trans' hE7) (HL6.out.ext hE7) (HR.out.ext hE7)
     clear hlpe hE7 hlp
     cases lp with
     | some a =>
      obtain ⟨hlb,han⟩:=Qkn (by rw [← HN.out]; exact HLP.out.symm)
      have hw:=(HW3.out (by rw [← HN.out]; exact HX.out) (by rw [← HM.out]; exact HX2.out)).trans hlb
      rw [← HN.out] at han
      have hE7:=(HE2.out.trans' (HE23.out.trans' HE37.out))
      obtain ⟨b,o,rfl,hbs,hcell⟩:=HW.out.cell (by rw [← HN.out]; omega)
      have hp:=(hcell a (by rw [← HN.out]; exact han)).2
      obtain ⟨p,hpe⟩:=V1 (wPl ws a)
      rw [← hpe] at hp hw
      have q1:w7.cell? ⟨b,o + a * 2 + 1,none⟩=some (.int .i64 p):=(hE7.cell (p:=⟨b,o + a * 2 + 1,none⟩) hbs).trans hp
      have hF:=HFF.out.ext (HE23.out.trans' HE37.out)
      obtain ⟨b0,b1⟩:=X2 hF
      obtain ⟨f0,f1⟩:=Y2 hF
      have i0:=nZ a
      have i1:(a:Int) < (n:Int):=by omega
      obtain ⟨HE7,HF7,HWW⟩:=Z3 hE7 hF hw
      clear hE7 hF hw hlb hpe hp hcell hbs
      go_wp2_with fail
      go_region
      go_wp2_with fail
      exact Qn (f:=(11,p)) (g:=w.heap.size) (v:=.pointer none) ((HF7.out.set_ 0 _).set_ 1 _) rfl rfl rfl rfl (.inl ⟨by rw [HWW.out]; exact show (11:Int)≠0 by decide,by rw [HWW.out],(Qa1 HE7.out _ _).drew⟩)
     | none =>
      obtain ⟨HW4,HPO⟩:=Z2 ((HW3.out (by rw [← HN.out]; exact HX.out) (by rw [← HM.out]; exact HX2.out)).trans (Qko (by rw [← HN.out]; exact HLP.out.symm))) (Qr8 HOK2.out HLP.out.symm)
      go_wp2_with fail
      refine (Qfk bo _ _ HR7.out).mono ?_
      rintro e w8 ⟨gr,rfl,hC,hE8⟩
      have HE38:=Qa (HE37.out.trans' hE8)
      have hL8:=HL7.out.ext hE8
      have c2f:=hL8.free 2
      have c20:=hL8.cell2
      have l8:=hL8.lt
      obtain ⟨HL8,HC⟩:=Z2 hL8 hC
      clear hE8 hL8 hC HL7 HR7
      go_wp2_with fail
      have hL9:=HL8.out.set2 (.pointer (some ⟨gr,0,none⟩))
      have hR9:RelAt (w8.setCell ⟨g,2,none⟩ (.pointer (some ⟨gr,0,none⟩))) gr (RelM.close (Qm n (prs ws os))):=by
       obtain ⟨cs,hB,_⟩:=HL8.out
       exact HC.out.kept hB (by decide) (by decide) (fun k _ hk=>Below.heap_setCell w8 _ _ k hk)
      have hE9:Ext w3 (w8.setCell ⟨g,2,none⟩ (.pointer (some ⟨gr,0,none⟩))):=HE38.out.setCell (p:=⟨g,2,none⟩) (by rw [HGG.out]; exact Nat.le_refl _) _
      obtain ⟨w9,hw9⟩:=V1 (w8.setCell ⟨g,2,none⟩ (.pointer (some ⟨gr,0,none⟩)))
      rw [← hw9] at hL9 hR9 hE9 ⊢
      clear hw9 c2f c20 l8 HL8 HC
      refine (Qng g gr n c3 A3 _ _ _ _ (Qu ws os) w9 hL9 hR9 hn1 (by rw [HN.out] at HPO ⊢; exact HPO.out) (fun a b ha hb=>by rw [Qce HOK2.out a b ha hb,HN.out]; rfl)).mono ?_
      rintro e w10 ⟨rfl,hG,hres⟩
      have hE10:Ext w3 w10:=hE9.grown hG hE9.size (fun k hk=>by cases hk; rw [HGG.out]; exact Nat.le_refl _)
      have hF:=HFF.out.ext (HE23.out.trans' hE10)
      obtain ⟨b0,b1⟩:=X2 hF
      obtain ⟨f0,f1⟩:=Y2 hF
      obtain ⟨HE3,HE10,HF10⟩:=Z3 hE10 (HE2.out.trans' (HE23.out.trans' hE10)) hF
      have hbc:=Qkp n (Qu ws os)
      obtain ⟨bb,hbb⟩:=V1 (LatM.boundsL n (Qu ws os))
      rw [← hbb] at hres hbc ⊢
      obtain ⟨HRES,HBB⟩:=Z2 hres hbb
      clear hE9 hL9 hR9 hG hE10 hres hbb
      rcases hbc with rfl | ⟨b,hbn,rfl⟩
      ·have s0:=Qbf w10 hF (i:=0) (v:=.int .i64 0) rfl
       have s1:=Qbf w10 hF (i:=1) (v:=.int .i64 0) rfl
       clear hF
       go_wp2_with fail
       obtain ⟨hR,J,M,hL,hJM⟩:=HRES.out (by decide)
       exact Qn (f:=(0,0)) (g:=w.heap.size) (v:=.pointer (some ⟨g,0,none⟩)) HF10.out rfl rfl rfl rfl
        (.inr ⟨HW4.out.trans (Qjs (by rw [← HN.out]; exact HBB.out.symm)),g,rfl,⟨A3,c3,gt,gr,J,M,by rw [← HN.out]; exact hL,HS.out.ext (HE23.out.trans' HE3.out),HT3.out.ext HE3.out,by rw [← HN.out]; exact hR,by rw [← HN.out]; exact hJM⟩,HE10.out⟩)
      ·have hw:=HW4.out.trans (Qjr (by rw [← HN.out]; exact HBB.out.symm))
       obtain ⟨b',o,rfl,hbs,hcell⟩:=HW.out.cell (by rw [← HN.out]; omega)
       have hp:=(hcell b (by rw [← HN.out]; exact hbn)).2
       obtain ⟨p,hpe⟩:=V1 (wPl ws b)
       rw [← hpe] at hp hw
       have q1:w10.cell? ⟨b',o + b * 2 + 1,none⟩=some (.int .i64 p):=(HE10.out.cell (p:=⟨b',o + b * 2 + 1,none⟩) hbs).trans hp
       have i0:=nZ b
       have i1:(b:Int) < (n:Int):=by omega
       have i2:((b:Int) != -1)=true:=by rw [bne_iff_ne]; omega
       have HWW:=Qa hw
       clear hF hw hpe hp hcell hbs
       go_wp2_with fail
       go_region
       go_wp2_with fail
       exact Qn (f:=(12,p)) (g:=w.heap.size) (v:=.pointer none) ((HF10.out.set_ 0 _).set_ 1 _) rfl rfl rfl rfl (.inl ⟨by rw [HWW.out]; exact show (12:Int)≠0 by decide,by rw [HWW.out],(Qa1 HE10.out _ _).drew⟩)
    ·rw [HN.out,HOK.out] at hok; cases hok
 ·rw [hf,show Qe (x,y) = .agg #[.int .i64 x,.int .i64 y] from rfl] at HMany
  have hxb:((x:Int) != 0)=true:=by rw [bne_iff_ne]; exact hx
  obtain ⟨HX,HWW⟩:=Z2 hx hw
  clear hf hx hw hn hm
  go_enter Tryz.func29,Tryz.ntmps29
  go_wp2_with fail
  refine (HMany.out _ ((Ext.rfl' w).alloc nL _)).mono ?_
  rintro e w1 ⟨rfl,hE1⟩
  have hF:=(Blk.new w 34 #[.int .i64 0,.int .i64 0]).ext hE1
  obtain ⟨f0,f1⟩:=Y2 hF
  have b0:=hF.cell 0
  have b1:=hF.cell 1
  have l0:=hF.lt
  simp only [gA,gH,gS] at b0 b1
  obtain ⟨HE1,HF⟩:=Z2 (Ext.trans' ((Ext.rfl' w).alloc nL _) hE1) hF
  clear hE1 hF HMany
  go_wp2_with fail
  go_region
  go_wp2_with fail
  exact Qn (f:=(x,y)) (g:=w.heap.size) (v:=.pointer none) (((HF.out.set_ 0 _).set_ 1 _).alloc _) rfl rfl rfl rfl (.inl ⟨by rw [HWW.out]; exact HX.out,by rw [HWW.out],((Qa1 HE1.out _ _).alloc (by simpa using HE1.out.size) _).drew⟩)
theorem Qsd:∃ i,Tryz.prog.info? 27=some i∧i.zero=some (.agg #[.string ⟨#[]⟩,.int .i64 0])∧i.size=2∧i.bytes=24 :=
 Qbr (a:=2) (b:=24) (v:=.agg #[.string ⟨#[]⟩,.int .i64 0]) (s:=2) (by kernel_rfl)
theorem Qiy (l m:List Wd):Q0 (l ++ m)=Q0 l ++ Q0 m:=by simp [Q0]
theorem Ql1 (l:List Wd):∀ u ∈ Q0 l,u.oneCell'=true:=by
 intro u hu
 simp only [Q0,List.mem_flatMap] at hu
 obtain ⟨p,_,hu⟩:=hu
 simp at hu
 rcases hu with rfl | rfl <;> rfl
theorem Qrc (w:World) (t:TypeId) (s:ByteArray) (y:Int) (g:Nat) (hg:g=w.heap.size):Reads (w.alloc (.cells #[.string s,.int .i64 y] t)) (g + 1) 2 (some ⟨g,0,none⟩) 1 (Q0 [(s,y)]):=by
 subst hg
 refine ⟨rfl,fun _=>⟨_,rfl,by simp,fun j u hu=>?_⟩⟩
 have e:(⟨w.heap.size,0,none⟩:Addr).add j=⟨w.heap.size,j,none⟩:=by unfold Addr.add; split <;> simp_all
 rw [e,World.cell?_alloc_new]
 simpa [Q0] using hu
theorem Qg5 (w:World) {ops:Array Oper} {rest:List Oper} {o:Oper} {a:Act} {Q:Exit→Act→World→Prop} (hgd:o.guard=none) (s x:Operand)
  (ho:o.op = .call { callee:=.builtin .append,args:=#[s,x],argTypes:=#[22,22] })
  (base:Nat) (v:Value) (n:Nat) (l:List Wd) (hs:a.eval s=v) (B:Nat) (A:Option Addr) (c:Nat) (p:Wd) (hx:a.eval x = .slice A 1 c)
  (hown:w.ownsRow base 27 2 v n (Q0 l)) (hr:Reads w B 2 A 1 (Q0 [p])) (hn:n≤5864062014633) (hbase:base≤w.heap.size)
  (h:∀ A' c' w',w'.ownsRow base 27 2 (.slice A' (n + 1) c') (n + 1) (Q0 (l ++ [p]))→w.grownBy w' v.ownBlock→(Value.ownBlock (.slice A' (n + 1) c')=v.ownBlock∨Value.ownBlock (.slice A' (n + 1) c')=some w.heap.size)→wpList Tryz.prog ops Q rest (a.put o.dst (.slice A' (n + 1) c')) w'):wpList Tryz.prog ops Q (o :: rest) a w:=by
 obtain ⟨i0,hi,hz,hs2,hb⟩:=Qsd
 refine Q7 w hgd s x 22 ho base 27 i0 _ 2 24 Tryz.underlying22 hi hz hs2 hb rfl (by decide) v n (Q0 l) hs hown B A 1 c (Q0 [p]) hx hr (Ql1 _) (by unfold maxLen; omega) (by omega) hbase ?_
 rw [← Qiy]
 exact h
def Qao (l:List Wd):List Wd:=l.map fun p=>(p.1,0)
theorem Qde (l:List Wd):(Qao l).length=l.length:=by simp [Qao]
theorem Qkq (l:List Wd):nms (Qao l)=nms l:=by
 unfold nms Qao
 rw [List.map_map]
 rfl
theorem Qh4 (l:List Wd):Qao l=(nms l).map fun s=>(s,0):=by
 unfold nms Qao
 rw [List.map_map]
 rfl
theorem Qpd {a b:List Wd} : Qao a=Qao b↔nms a=nms b:=by
 constructor
 ·intro h
  rw [← Qkq a,h,Qkq]
 ·intro h
  rw [Qh4,Qh4,h]
theorem Ql2 {l:List Wd} {k:Nat} (hk:k < l.length):Qao (l.take (k + 1))=Qao (l.take k) ++ [(wNm l k,0)]:=by
 unfold Qao
 rw [List.take_succ_eq_append_getElem hk,List.map_append]
 congr 1
 unfold wNm
 rw [List.getD_eq_getElem?_getD,List.getElem?_eq_getElem hk]
 rfl
def Qpe (l:List Wd) (w:World) (e:Ending) (w':World):Prop:=∃ A c,e = .returned (.slice A l.length c)∧WdsAt w' w'.heap.size A (Qao l)∧Ext w w'
set_option maxRecDepth 100000 in
theorem Qjd (A:Option Addr) (c n:Nat) (l:List Wd) (w:World) (h:WdsAt w w.heap.size A l) (hn:n=l.length) (hn':n≤5864062014634) :
  Calls Tryz.prog 183 #[.slice A n c] w (Qpe l w):=by
 obtain ⟨HN,HWS⟩:=Z2 hn h
 clear hn h
 go_enter Tryz.func183,Tryz.ntmps183
 go_wp2_with fail
 go_loopw [8,3] (fun i o wr=>∃ (k:Nat) (Ao:Option Addr) (co:Nat),k≤n∧i = .int .i64 (k:Int)∧o = .slice Ao k co∧wr.ownsRow w.heap.size 27 2 (.slice Ao k co) k (Q0 (Qao (l.take k)))∧Ext w wr) (fun i _ _=>n - (intOf i).toNat)
 case atStart=>exact ⟨0,none,0,Nat.zero_le _,rfl,rfl,World.ownsRow_nil _ _ _ _,Ext.rfl' w⟩
 case round =>
  obtain ⟨k,Ao,co,hk,rfl,rfl,hO,hE⟩:=hrel
  obtain ⟨HO,HE⟩:=Z2 hO hE
  by_cases hlt:k < n
  ·have hkl:k < l.length:=by rw [← HN.out]; exact hlt
   obtain ⟨b,o,rfl,hbs,hcell⟩:=HWS.out.cell (by omega)
   obtain ⟨p0,p1⟩:=hcell k hkl
   have q0:=(hE.cell (p:=⟨b,o + k * 2,none⟩) hbs).trans p0
   have q1:=(hE.cell (p:=⟨b,o + k * 2 + 1,none⟩) hbs).trans p1
   have hst:=Ql2 hkl
   obtain ⟨s,hs,y,hy⟩:=V2 (wNm l k) (wPl l k)
   rw [← hs] at q0 hst
   rw [← hy] at q1
   have HST:=Qa hst
   have i0:=nZ k
   have i1:(k:Int) < (n:Int):=by omega
   obtain ⟨w5,hw5,g5,hg5⟩:=V2 (wr.alloc (.cells #[.string s,.int .i64 y] 27)) (wr.heap.size)
   have hV:Blk w5 g5 27 #[.string s,.int .i64 y]:=by rw [hw5,hg5]; exact Blk.new _ _ _
   have hE5':Ext wr w5:=by rw [hw5]; exact (Ext.rfl' wr).alloc nL _
   obtain ⟨v0,v1⟩:=X2 hV
   obtain ⟨HE5,HO5⟩:=Z2 (hE.trans' hE5') (Qz hO hE5')
   have hsz:=HE5.out.size
   obtain ⟨HW5,HG5⟩:=Z2 hw5 hg5
   clear hcell p0 p1 hs hy hst hO hE hkl hw5 hg5 hV hE5' HO
   go_upto_region 5 with fail
   rw [← HW5.out,← HG5.out]
   clear q0 q1
   go_wp2_with (at_builtin; refine Qg5 _ rfl _ _ rfl w.heap.size _ k (Qao (l.take k)) rfl (w5.heap.size + 1) (some ⟨w5.heap.size,0,none⟩) 1 (s,0) rfl (HO5.out.alloc _) (Qrc _ _ _ _ _ rfl) (by omega) (by simp only [World.size_alloc]; omega) ?_)
   intro A3 c3 w3 hown3 hgrow3 _
   have HE3:=Qa (grown_ext' (w:=w) (wr:=w5) (base:=w.heap.size) HE5.out ((Ext.rfl' w5).alloc nL _) hgrow3 HO5.out nL)
   rw [← HST.out] at hown3
   have HO3:=Qa hown3
   clear hown3 hgrow3 v0 v1
   go_wp2_with fail
   go_roundw
   case rel=>exact ⟨k + 1,A3,c3,by omega,by go_num,rfl,HO3.out,HE3.out⟩
   case measure=>simp [intOf]; omega
  ·obtain rfl:k=n:=by omega
   have hO':=HO.out
   rw [List.take_of_length_le (by rw [← HN.out]; exact Nat.le_refl _)] at hO'
   have HO':=Qa hO'
   clear hO hE hO'
   go_wp2_with fail
   go_ret
   refine ⟨Ao,co,by rw [← HN.out]; rfl,?_,HE.out⟩
   unfold WdsAt
   rw [Qde,← HN.out]
   exact Reads.of_own HO'.out
theorem Qpf {α:Type} {l:List α} (h:l.length=2):∃ a b,l = [a,b]:=by
 match l,h with
 | [a,b],_=>exact ⟨a,b,rfl⟩
theorem Ql3 (a:ByteArray) (b:Int) (c:ByteArray) (d:Int) (w:World):(Op.equalIn 10000 27 (.agg #[.string a,.int .i64 b]) (.agg #[.string c,.int .i64 d])).run Tryz.prog w = .ok (a.toList == c.toList && b == d) w:=by
 rw [run_equalIn_struct w 9999 27 _ _ (by kernel_rfl) (by kernel_rfl)]
 obtain ⟨f1,f2,hf,h1,h2,h3,h4,h5,h6⟩:∃ f1 f2:Field,(Tryz.prog.fieldsOf 27).toList = [f1,f2]∧f1.name≠ "_"∧f2.name≠ "_"∧f1.type=9∧f2.type=3∧f1.offset=0∧f2.offset=1:=by
  have hm:(Tryz.prog.fieldsOf 27).toList.map (fun f=>(f.name,f.type,f.offset)) = [("Name",9,0),("At",3,1)]:=by kernel_rfl
  obtain ⟨f1,f2,hl⟩:=Qpf (show (Tryz.prog.fieldsOf 27).toList.length=2 by have:=congrArg List.length hm; simpa only [List.length_map,List.length_cons,List.length_nil] using this)
  rw [hl] at hm
  simp only [List.map_cons,List.map_nil,List.cons.injEq,Prod.mk.injEq,and_true] at hm
  obtain ⟨⟨a1,a2,a3⟩,b1,b2,b3⟩:=hm
  exact ⟨f1,f2,hl,by rw [a1]; decide,by rw [b1]; decide,a2,b2,a3,b3⟩
 have hp0:∀ (x:ByteArray) (y:Int),(part 9 #[.string x,.int .i64 y] 0).run Tryz.prog w = .ok (.string x) w:=fun x y=>by kernel_rfl
 have hp1:∀ (x:ByteArray) (y:Int),(part 3 #[.string x,.int .i64 y] 1).run Tryz.prog w = .ok (.int .i64 y) w:=fun x y=>by kernel_rfl
 have he:∀ x y:ByteArray,(Op.equalIn 9999 9 (.string x) (.string y)).run Tryz.prog w = .ok (x.toList == y.toList) w:=fun x y=>run_equalIn_string w 9998 _ x y (by kernel_rfl)
 have he2:∀ x y:Int,(Op.equalIn 9999 3 (.int .i64 x) (.int .i64 y)).run Tryz.prog w = .ok (x == y) w:=fun x y=>run_equalIn_int w 9998 _ _ .i64 x y (by kernel_rfl)
 rw [hf]
 unfold Op.eqFields
 rw [if_pos h1,h3,h5]
 simp only [Sem.run_bind,hp0,Result.andThen_ok,he]
 cases hx:(a.toList == c.toList)
 ·simp
 ·simp only [Bool.not_true,Bool.false_eq_true,if_false]
  unfold Op.eqFields
  rw [if_pos h2,h4,h6]
  simp only [Sem.run_bind,hp1,Result.andThen_ok,he2]
  cases hy:(b == d)
  ·simp
  ·simp [Op.eqFields]
theorem Qa4 {P:Nat→Prop} {k:Nat} (h:∀ j,j < k→P j) (hk:P k):∀ j,j < k + 1→P j:=fun j hj=>by
 rcases Nat.lt_or_ge j k with h1 | h1
 ·exact h j h1
 ·obtain rfl:j=k:=by omega
  exact hk
def wAt (l:List Wd) (k:Nat):Wd:=(wNm l k,wPl l k)
theorem Qmt {l:List Wd} {k:Nat} (hk:k < l.length):l[k]=wAt l k:=by
 unfold wAt wNm wPl
 rw [List.getD_eq_getElem?_getD,List.getElem?_eq_getElem hk]
 rfl
theorem Qs1 {l m:List Wd} {n:Nat} (hl:n=l.length) (hm:n=m.length):l=m↔∀ k,k < n→wAt l k=wAt m k:=by
 constructor
 ·rintro rfl k _; rfl
 ·intro h
  apply List.ext_getElem (by omega)
  intro i hi hj
  rw [Qmt hi,Qmt hj,h i (by omega)]
set_option maxRecDepth 100000 in
theorem Qnr (A:Option Addr) (c n:Nat) (l:List Wd) (A2:Option Addr) (c2 n2:Nat) (m:List Wd) (w:World) (h:WdsAt w w.heap.size A l) (hn:n=l.length) (hn':n≤5864062014634) (h2:WdsAt w w.heap.size A2 m) (hn2:n2=m.length) :
  Calls Tryz.prog 182 #[.slice A n c,.slice A2 n2 c2] w (fun e w'=>e = .returned (.bool (decide (l=m)))∧Ext w w'):=by
 by_cases hln:n=n2
 ·subst hln
  have hiff:=Qs1 hn hn2
  obtain ⟨HYES,HNO⟩:=Z2 (fun (hh:∀ k,k < n→wAt l k=wAt m k)=>(decide_eq_true (hiff.2 hh)).symm) (fun k (hk:k < n) (hh:¬ wAt l k=wAt m k)=>(show false=decide (l=m) from (decide_eq_false fun e=>hh (hiff.1 e k hk)).symm))
  obtain ⟨R,hR⟩:=V1 (decide (l=m))
  rw [← hR] at HYES HNO ⊢
  obtain ⟨HN,HN2,HL,HM⟩:=Z4 hn hn2 h h2
  clear hn hn2 hiff hR h h2
  go_enter Tryz.func182,Tryz.ntmps182
  go_wp2_with fail
  go_loopw [13] (fun i wr=>∃ k:Nat,k≤n∧i = .int .i64 (k:Int)∧Ext w wr∧Hid (∀ j,j < k→wAt l j=wAt m j)) (fun i _=>n - (intOf i).toNat)
  case atStart=>exact ⟨0,Nat.zero_le _,rfl,Ext.rfl' _,fun j hj=>absurd hj (by omega)⟩
  case round =>
   obtain ⟨k,hk,rfl,hE,HA⟩:=hrel
   have HE:=Qa hE
   by_cases hkn:k < n
   ·obtain ⟨b,o,rfl,hb,hc⟩:=HL.out.cell (by rw [← HN.out]; omega)
    obtain ⟨b',o',rfl,hb',hc'⟩:=HM.out.cell (by rw [← HN2.out]; omega)
    obtain ⟨p0,p1⟩:=hc k (by rw [← HN.out]; exact hkn)
    obtain ⟨r0,r1⟩:=hc' k (by rw [← HN2.out]; exact hkn)
    have q0:=(hE.cell (p:=⟨b,o + k * 2,none⟩) hb).trans p0
    have q1:=(hE.cell (p:=⟨b,o + k * 2 + 1,none⟩) hb).trans p1
    have s0:=(hE.cell (p:=⟨b',o' + k * 2,none⟩) hb').trans r0
    have s1:=(hE.cell (p:=⟨b',o' + k * 2 + 1,none⟩) hb').trans r1
    have hno:=HNO.out k hkn
    have hw1:wAt l k=(wNm l k,wPl l k):=rfl
    have hw2:wAt m k=(wNm m k,wPl m k):=rfl
    have HA2:=Qa (fun hh=>Qa4 HA.out (show wAt l k=wAt m k from hh))
    rw [hw1,hw2] at hno HA2
    obtain ⟨x,hx,y,hy,x',hx',y',hy'⟩:=V4 (wNm l k) (wPl l k) (wNm m k) (wPl m k)
    rw [← hx] at q0 hno HA2
    rw [← hy] at q1 hno HA2
    rw [← hx'] at s0 hno HA2
    rw [← hy'] at s1 hno HA2
    have hq:=fun w=>Ql3 x y x' y' w
    have hdec:(x.toList == x'.toList && y == y')=decide ((x,y)=(x',y')):=by
     rw [Qa3,Bool.eq_iff_iff]
     simp
    have i0:=nZ k
    have i1:(k:Int) < (n:Int):=by omega
    by_cases he:(x,y)=(x',y')
    ·rw [decide_eq_true he] at hdec
     have hq2:∀ w,(Op.equalIn 10000 27 (.agg #[.string x,.int .i64 y]) (.agg #[.string x',.int .i64 y'])).run Tryz.prog w = .ok true w:=fun w=>by rw [hq w,hdec]
     have HA3:=Qa (HA2.out he)
     clear hq hdec he hno HA HA2 hx hy hx' hy' p0 p1 r0 r1 hc hc' hw1 hw2 hE
     go_wp2_with fail
     go_quiet (fail)
     have hEq:=Qp HE.out nq
     go_wp2_with fail
     go_roundw
     case rel=>exact ⟨k + 1,by omega,by go_num,hEq,HA3⟩
     case measure=>simp [intOf]; omega
    ·have HX:=Qa (hno he)
     rw [decide_eq_false he] at hdec
     have hq2:∀ w,(Op.equalIn 10000 27 (.agg #[.string x,.int .i64 y]) (.agg #[.string x',.int .i64 y'])).run Tryz.prog w = .ok false w:=fun w=>by rw [hq w,hdec]
     clear hq hdec he hno HA HA2 hx hy hx' hy' p0 p1 r0 r1 hc hc' hw1 hw2 hE
     go_wp2_with fail
     go_quiet (fail)
     have hEq:=Qp HE.out nq
     go_wp2_with fail
     go_ret
     exact ⟨Qb HX.out,hEq⟩
   ·obtain rfl:k=n:=by omega
    have HX:=Qa (HYES.out HA.out)
    clear HA hE
    go_wp2_with fail
    go_ret
    exact ⟨Qb HX.out,HE.out⟩
 ·have HX:=Qa (show false=decide (l=m) from (decide_eq_false fun e=>hln (by rw [hn,hn2,e])).symm)
  have hne:((n:Int) != (n2:Int))=true:=by simp; omega
  clear hn hn2 h h2
  go_enter Tryz.func182,Tryz.ntmps182
  go_wp2_with fail
  go_ret
  exact ⟨Qb HX.out,Ext.rfl' _⟩
set_option maxRecDepth 100000 in
theorem Qdf (A:Option Addr) (c n:Nat) (l:List Wd) (A2:Option Addr) (c2 n2:Nat) (m:List Wd) (w:World) (h:WdsAt w w.heap.size A l) (hn:n=l.length) (hn':n≤5864062014634) (h2:WdsAt w w.heap.size A2 m) (hn2:n2=m.length) (hn2':n2≤5864062014634) :
  Calls Tryz.prog 180 #[.slice A n c,.slice A2 n2 c2] w (fun e w'=>e = .returned (.bool (Qbe l m))∧Ext w w'):=by
 obtain ⟨H1,H2,HN,HN2⟩:=Z4 (Qjd A c n l w h hn hn') (fun w1 (hE:Ext w w1)=>Qjd A2 c2 n2 m w1 (h2.ext hE) hn2 hn2') hn hn2
 have hb:decide (Qao l=Qao m)=Qbe l m:=by unfold Qbe; rw [decide_eq_decide]; exact Qpd
 obtain ⟨R,hR⟩:=V1 (Qbe l m)
 rw [← hR] at hb ⊢
 have HB:=Qa hb
 clear hb hR
 clear h hn h2 hn2
 go_enter Tryz.func180,Tryz.ntmps180
 go_wp2_with fail
 refine H1.out.mono ?_
 rintro e w3 ⟨A3,c3,rfl,hW3,hE3⟩
 rw [← HN.out]
 obtain ⟨HW3,HE3,HC⟩:=Z3 hW3 hE3 (H2.out w3 hE3)
 clear hW3 hE3
 go_wp2_with fail
 refine HC.out.mono ?_
 rintro e w4 ⟨A4,c4,rfl,hW4,hE4⟩
 rw [← HN2.out]
 obtain ⟨HE4,HEQ⟩:=Z2 (HE3.out.trans' hE4) (Qnr A3 c3 n (Qao l) A4 c4 n2 (Qao m) w4 (HW3.out.ext hE4) (by rw [Qde]; exact HN.out) hn' hW4 (by rw [Qde]; exact HN2.out))
 rw [HB.out] at HEQ
 clear hW4 hE4 HC H1 H2 HB
 go_wp2_with fail
 refine HEQ.out.mono ?_
 rintro e w5 ⟨rfl,hE5⟩
 have HE5:=Qa (HE4.out.trans' hE5)
 clear hE5
 go_wp2_with fail
 go_ret
 exact ⟨rfl,HE5.out⟩
end Go.Proofs.YtanpljalbijfkaaGreat
