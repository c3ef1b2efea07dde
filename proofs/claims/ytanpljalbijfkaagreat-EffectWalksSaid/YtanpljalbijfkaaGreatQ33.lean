/- . -/
import Derived.Test.YtanpljalbijfkaaGreatQ00
import Derived.Test.YtanpljalbijfkaaGreatQ12
import Derived.Test.YtanpljalbijfkaaGreatQ14
import Derived.Test.YtanpljalbijfkaaGreatQ32
import Derived.Deep.MidRow
namespace Go.Proofs.YtanpljalbijfkaaGreat
open Go.RowKit
set_option maxHeartbeats 16000000
def Qd9 (e:EdgeP) (st:StP):Bool:=decide (e.name=st.name) && !e.bare
def Qr5 (d:NodeP) (e:EdgeP) (st:StP):Bool :=
 if st.kind=1 then decide (d.kind=7) && Qd9 e st else if st.kind=5 then decide (d.kind=8) && Qd9 e st else if st.kind=2∨st.kind=3 then decide (d.kind=5) && decide (st.n < d.most) else decide (d.kind=6)
theorem Qwx {s:Sch} {d:NodeP} {e:EdgeP} {st:StP} (he:EdgeOk s d e) (h:stB st=true):Qr5 d e st=fitsB d e st:=by
 unfold Qr5 fitsB Qd9
 by_cases h1:st.kind=1
 ·rw [if_pos h1,if_pos h1]
  cases hb:e.bare with
  | false=>simp
  | true=>rw [(he.bare hb).1]; simp
 rw [if_neg h1,if_neg h1]
 by_cases h5:st.kind=5
 ·rw [if_pos h5,if_pos h5,Bool.and_assoc]
 rw [if_neg h5,if_neg h5]
 by_cases h2:st.kind=2
 ·rw [if_pos (.inl h2),if_pos h2]
 rw [if_neg h2]
 by_cases h3:st.kind=3
 ·rw [if_pos (.inr h3),if_pos h3]
  unfold stB at h
  rw [if_neg (by omega),if_neg h2,if_pos (.inl h3)] at h
  simp only [Bool.and_eq_true,decide_eq_true_eq] at h
  rw [h.1]
 ·rw [if_neg (by omega),if_neg h3]
theorem Qwa {st:StP} (h:stB st=true):st.kind=1∨st.kind=5∨st.kind=2∨st.kind=3∨st.kind=4:=by
 unfold stB at h
 by_cases h1:st.kind=1∨st.kind=5
 ·omega
 rw [if_neg h1] at h
 by_cases h2:st.kind=2
 ·omega
 rw [if_neg h2] at h
 by_cases h3:st.kind=3∨st.kind=4
 ·omega
 rw [if_neg h3] at h
 cases h
def Qj4 (d:NodeP) (st:StP) (w:World) (e:Ending) (w':World):Prop:=∃ z:Int,e = .returned (.int .i64 z)∧Ext w w'∧((∃ i,∃ hi:i < d.edges.length,z=(i:Int)∧stB st=true∧(∀ j (hj:j < d.edges.length),j < i→fitsB d d.edges[j] st=false)∧fitsB d d.edges[i] st=true)∨(z = -1∧(stB st=true→∀ j (hj:j < d.edges.length),fitsB d d.edges[j] st=false)))
set_option maxRecDepth 100000 in
theorem Quh (s:Sch) (d:NodeP) (st:StP) (An:Option Addr) (cn:Nat) (Ae:Option Addr) (ce:Nat) (w:World) (hok:NodeOk s d) (hX:EdgesAt w w.heap.size Ae d.edges) (hs:st.name.size≤maxLen):Calls Tryz.prog 44 #[.agg (Qa1 d An cn Ae ce).toArray,.agg (stV st).toArray] w (Qj4 d st w):=by
 obtain ⟨HR,HKN,HEQ⟩:=Z3 (fun g c (w1:World) (h:w1.rangeAt g 0 (stV st)) (hg:g < w1.heap.size)=>Qmv g c st w1 h hg hs) (fun (h:stB st=true)=>Qwa h) (fun j (hj:j < d.edges.length) (h:stB st=true)=>Qwx (hok.edge j hj) h)
 have hqd:=hok.few
 have HXX:=hide hX
 have HP:=hide (show ∀ (z:Int) w',Ext w w'→((∃ i,∃ hi:i < d.edges.length,z=(i:Int)∧stB st=true∧(∀ j (hj:j < d.edges.length),j < i→fitsB d d.edges[j] st=false)∧fitsB d d.edges[i] st=true)∨(z = -1∧(stB st=true→∀ j (hj:j < d.edges.length),fitsB d d.edges[j] st=false)))→Qj4 d st w (.returned (.int .i64 z)) w' from fun z w' h1 h2=>⟨z,rfl,h1,h2⟩)
 obtain ⟨SB,hSB⟩:=V1 (stB st)
 rw [← hSB] at HR HKN HEQ HP
 obtain ⟨HDF,HDN⟩:=Z2 (fun e=>(show Qr5 d e st=if st.kind=1 then decide (d.kind=7) && Qd9 e st else if st.kind=5 then decide (d.kind=8) && Qd9 e st else if st.kind=2∨st.kind=3 then decide (d.kind=5) && decide (st.n < d.most) else decide (d.kind=6) from rfl)) (fun e=>(show Qd9 e st=(decide (e.name=st.name) && !e.bare) from rfl))
 unfold Qa1
 obtain ⟨dk,hdk,da,hda,dl,hdl,dh,hdh,dm,hdm,m',hm'⟩:=V6 (d.kind) (d.at_) (d.lo) (d.hi) (d.most) (d.names.length)
 obtain ⟨q',hq'⟩:=V1 (d.edges.length)
 rw [← hdk,← hdm] at HDF
 rw [← hq'] at hqd
 rw [← hdk,← hda,← hdl,← hdh,← hdm,← hm',← hq']
 have HQ:=hide hq'
 unfold stV at HR ⊢
 obtain ⟨kd,hkd,sn,hsn,nm,hnm⟩:=V3 (st.kind) (st.n) (st.name)
 rw [← hkd] at HDF HKN
 rw [← hsn] at HDF
 rw [← hnm] at HDN
 rw [← hkd,← hsn,← hnm] at HR ⊢
 have hq0:=nZ q'
 clear hX hok hs hSB hdk hda hdl hdh hdm hm' hq' hkd hsn hnm
 obtain ⟨POST,hPOST⟩:=V1 (Qj4 d st w)
 rw [← hPOST] at HP ⊢
 clear hPOST
 show Calls Tryz.prog 44 #[.agg #[.int .i64 dk,.int .i64 da,.int .i64 dl,.int .i64 dh,.int .i64 dm,.slice An m' cn,.slice Ae q' ce],.agg #[.int .i64 kd,.int .i64 sn,.string nm]] w (fun e w'=>POST e w')
 obtain ⟨w1,g2,hw1,hg2,Hw1,Hg2,hN,hNE⟩:=T0 w 94 #[.int .i64 dk,.int .i64 da,.int .i64 dl,.int .i64 dh,.int .i64 dm,.slice An m' cn,.slice Ae q' ce]
 obtain ⟨w2,g3,hw2,hg3,Hw2,Hg3,hS,hSE⟩:=T0 w1 76 #[.int .i64 kd,.int .i64 sn,.string nm]
 obtain ⟨w3,g4,hw3,hg4,Hw3,Hg4,hL,hLE⟩:=T0 w2 76 #[.int .i64 kd,.int .i64 sn,.string nm]
 have Hg3':=hide (show g3=g2 + 1 by rw [hg3,hw1,World.size_alloc,← hg2])
 have Hg4':=hide (show g4=g3 + 1 by rw [hg4,hw2,World.size_alloc,← hg3])
 obtain ⟨HE3,HN3,HS3,HR3⟩:=Z4 ((hNE.trans' hSE).trans' hLE) ((hN.ext hSE).ext hLE) (hS.ext hLE) (HR.out g4 1 w3 (range_blk hL) hL.lt)
 obtain ⟨s0,s1,s2⟩:=X3 hS
 clear hw1 hg2 hw2 hg3 hw3 hg4 hN hNE hS hSE hL hLE HR
 go_enter Tryz.func44,Tryz.ntmps44
 go_upto_region 1 with fail
 rw [← Hw1.out,← Hg2.out,← Hw2.out,← Hg3'.out]
 go_wp2_with fail
 rw [← Hw3.out,← Hg4.out]
 clear s0 s1 s2
 refine HR3.out.mono ?_
 rintro e w4 ⟨rfl,hE4⟩
 obtain ⟨HE4,HN4,HS4⟩:=Z3 (HE3.out.trans' hE4) (HN3.out.ext hE4) (HS3.out.ext hE4)
 clear hE4
 cases SB with
 | false =>
  go_wp2_with fail
  exact HP.out _ _ HE4.out (.inr ⟨rfl,fun h=>by cases h⟩)
 | true =>
  have hkn:=HKN.out rfl
  have HKN2:=hide hkn
  clear hkn
  go_wp2_with fail
  go_loopw [5] (fun i wr=>∃ k:Nat,k≤q'∧i = .int .i64 (k:Int)∧Ext w4 wr∧Hid (∀ j (hj:j < d.edges.length),j < k→fitsB d d.edges[j] st=false)) (fun i _=>q' - (intOf i).toNat)
  case atStart=>exact ⟨0,Nat.zero_le _,rfl,Ext.rfl' _,fun j _ hj=>absurd hj (Nat.not_lt_zero _)⟩
  case round =>
   obtain ⟨k,hk,rfl,hE,HA⟩:=hrel
   have hNr:=HN4.out.ext hE
   have hSr:=HS4.out.ext hE
   obtain ⟨n0,-,-,-,n4,-,n6⟩:=X7 hNr
   obtain ⟨s0,s1,s2⟩:=X3 hSr
   by_cases hlt:k < q'
   ·have hkd2:k < d.edges.length:=by have:=HQ.out; omega
    obtain ⟨b,o,rfl,hb,hc⟩:=HXX.out.cell (by omega)
    have h1:=hc k hkd2
    have hfe:=HEQ.out k hkd2 (by trivial)
    have hhit:=fun (h:fitsB d d.edges[k] st=true) w' (hE:Ext w w')=>HP.out (k:Int) w' hE (.inl ⟨k,hkd2,rfl,(by trivial),HA.out,h⟩)
    have hnx:fitsB d d.edges[k] st=false→∀ j (hj:j < d.edges.length),j < k + 1→fitsB d d.edges[j] st=false:=fun h j hj hjk=>by
     rcases Nat.lt_or_ge j k with h1 | h1
     ·exact HA.out j hj h1
     ·have:j=k:=by omega
      subst this
      exact h
    have hdn:=HDN.out d.edges[k]
    have hdf:=HDF.out d.edges[k]
    rw [hfe] at hdf
    have hEw:=HE4.out.trans' hE
    have e0:=(hEw.cell (p:=⟨b,o + k * 10 + 0,none⟩) hb).trans (h1 0 (.string d.edges[k].name) rfl)
    have e1:=(hEw.cell (p:=⟨b,o + k * 10 + 1,none⟩) hb).trans (h1 1 (.bool d.edges[k].bare) rfl)
    rw [Nat.add_zero] at e0
    obtain ⟨en,hen,eb,heb⟩:=V2 (d.edges[k].name) (d.edges[k].bare)
    rw [← hen] at e0 hdn
    rw [← heb] at e1 hdn
    obtain ⟨DF,hDF⟩:=V1 (fitsB d d.edges[k] st)
    rw [← hDF] at hdf hhit hnx
    obtain ⟨DN,hDN⟩:=V1 (Qd9 d.edges[k] st)
    rw [← hDN] at hdf hdn
    obtain ⟨HDF2,HDN2,HHIT,HNX,HEr,HEw,HSr,HNr⟩:=Z8 hdf hdn hhit hnx hE hEw hSr hNr
    have i0:=nZ k
    have i1:(k:Int) < (q':Int):=by omega
    clear h1 hc hkd2 hfe hhit hnx hdn hdf hE hEw hen heb hDF hDN hNr hSr hb s0 s1
    go_upto_region 6 with fail
    go_cut [6] (fun v wx=>v = .bool DN∧Ext wr wx)
    case first =>
     clear n0 n4
     by_cases hnm:en=nm
     ·have hb1:(en.toList == nm.toList)=true:=by rw [Qan]; simpa using hnm
      have hx:DN = !eb:=by rw [HDN2.out,decide_eq_true hnm]; rfl
      have HX:=hide hx
      clear hnm hx
      go_quiet (fail)
      go_wp2_with fail
      go_meet
      exact ⟨by rw [HX.out],below_drewN (Ext.rfl' _) _⟩
     ·have hb1:(en.toList == nm.toList)=false:=by rw [Qan]; simpa using hnm
      have hx:DN=false:=by rw [HDN2.out,decide_eq_false hnm]; rfl
      have HX:=hide hx
      clear hnm hx
      go_quiet (fail)
      go_wp2_with fail
      go_meet
      exact ⟨by rw [HX.out],below_drewN (Ext.rfl' _) _⟩
    case rest =>
     rename World=>w7
     obtain ⟨rfl,hE7⟩:=hcut
     have hN7:=HNr.out.ext hE7
     have hS7:=HSr.out.ext hE7
     obtain ⟨HE7,HEw7⟩:=Z2 (HEr.out.trans' hE7) (HEw.out.trans' hE7)
     clear hE7 n0 n4 n6 s2 e0 e1
     obtain ⟨n0,-,-,-,n4⟩:=X5 hN7
     obtain ⟨s0,s1⟩:=X2 hS7
     clear hN7 hS7
     go_upto_region 7 with fail
     go_cut [91] (fun v wx=>v = .bool DF∧Ext w7 wx)
     case first =>
      rcases HKN2.out with hv | hv | hv | hv | hv
      ·have hdf:=HDF2.out
       rw [if_pos hv] at hdf
       have HD3:=hide hdf
       rw [hv] at s0
       clear hdf hv
       by_cases hk:dk=7
       rotate_left
       ·have hkb:(dk == 7)=false:=by simpa using hk
        have hx:DF=false:=by rw [HD3.out,decide_eq_false hk]; rfl
        have HX:=hide hx
        clear hx hk
        go_wp2_with fail
        go_meet
        exact ⟨by rw [HX.out],Ext.rfl' _⟩
       have hkb:(dk == 7)=true:=by simpa using hk
       cases DN with
       | true =>
        have hx:DF=true:=by rw [HD3.out,decide_eq_true hk]; rfl
        have HX:=hide hx
        clear hx hk
        go_wp2_with fail
        go_meet
        exact ⟨by rw [HX.out],Ext.rfl' _⟩
       | false =>
        have hx:DF=false:=by rw [HD3.out,decide_eq_true hk]; rfl
        have HX:=hide hx
        clear hx hk
        go_wp2_with fail
        go_meet
        exact ⟨by rw [HX.out],Ext.rfl' _⟩
      ·have hdf:=HDF2.out
       rw [if_neg (by omega),if_pos hv] at hdf
       have HD3:=hide hdf
       rw [hv] at s0
       clear hdf hv
       by_cases hk:dk=8
       rotate_left
       ·have hkb:(dk == 8)=false:=by simpa using hk
        have hx:DF=false:=by rw [HD3.out,decide_eq_false hk]; rfl
        have HX:=hide hx
        clear hx hk
        go_wp2_with fail
        go_meet
        exact ⟨by rw [HX.out],Ext.rfl' _⟩
       have hkb:(dk == 8)=true:=by simpa using hk
       cases DN with
       | true =>
        have hx:DF=true:=by rw [HD3.out,decide_eq_true hk]; rfl
        have HX:=hide hx
        clear hx hk
        go_wp2_with fail
        go_meet
        exact ⟨by rw [HX.out],Ext.rfl' _⟩
       | false =>
        have hx:DF=false:=by rw [HD3.out,decide_eq_true hk]; rfl
        have HX:=hide hx
        clear hx hk
        go_wp2_with fail
        go_meet
        exact ⟨by rw [HX.out],Ext.rfl' _⟩
      ·have hdf:=HDF2.out
       rw [if_neg (by omega),if_neg (by omega),if_pos (.inl hv)] at hdf
       have HD3:=hide hdf
       rw [hv] at s0
       clear hdf hv
       by_cases hk:dk=5
       rotate_left
       ·have hkb:(dk == 5)=false:=by simpa using hk
        have hx:DF=false:=by rw [HD3.out,decide_eq_false hk]; rfl
        have HX:=hide hx
        clear hx hk
        go_wp2_with fail
        go_meet
        exact ⟨by rw [HX.out],Ext.rfl' _⟩
       have hkb:(dk == 5)=true:=by simpa using hk
       by_cases hm:sn < dm
       ·have hmb:decide (sn < dm)=true:=by simpa using hm
        have hx:DF=true:=by rw [HD3.out,decide_eq_true hk,hmb]; rfl
        have HX:=hide hx
        clear hx hk hm
        go_wp2_with fail
        go_meet
        exact ⟨by rw [HX.out],Ext.rfl' _⟩
       ·have hmb:decide (sn < dm)=false:=by simpa using hm
        have hx:DF=false:=by rw [HD3.out,decide_eq_true hk,hmb]; rfl
        have HX:=hide hx
        clear hx hk hm
        go_wp2_with fail
        go_meet
        exact ⟨by rw [HX.out],Ext.rfl' _⟩
      ·have hdf:=HDF2.out
       rw [if_neg (by omega),if_neg (by omega),if_pos (.inr hv)] at hdf
       have HD3:=hide hdf
       rw [hv] at s0
       clear hdf hv
       by_cases hk:dk=5
       rotate_left
       ·have hkb:(dk == 5)=false:=by simpa using hk
        have hx:DF=false:=by rw [HD3.out,decide_eq_false hk]; rfl
        have HX:=hide hx
        clear hx hk
        go_wp2_with fail
        go_meet
        exact ⟨by rw [HX.out],Ext.rfl' _⟩
       have hkb:(dk == 5)=true:=by simpa using hk
       by_cases hm:sn < dm
       ·have hmb:decide (sn < dm)=true:=by simpa using hm
        have hx:DF=true:=by rw [HD3.out,decide_eq_true hk,hmb]; rfl
        have HX:=hide hx
        clear hx hk hm
        go_wp2_with fail
        go_meet
        exact ⟨by rw [HX.out],Ext.rfl' _⟩
       ·have hmb:decide (sn < dm)=false:=by simpa using hm
        have hx:DF=false:=by rw [HD3.out,decide_eq_true hk,hmb]; rfl
        have HX:=hide hx
        clear hx hk hm
        go_wp2_with fail
        go_meet
        exact ⟨by rw [HX.out],Ext.rfl' _⟩
      ·have hdf:=HDF2.out
       rw [if_neg (by omega),if_neg (by omega),if_neg (by omega)] at hdf
       have HD3:=hide hdf
       rw [hv] at s0
       clear hdf hv
       by_cases hk:dk=6
       rotate_left
       ·have hkb:(dk == 6)=false:=by simpa using hk
        have hx:DF=false:=by rw [HD3.out,decide_eq_false hk]
        have HX:=hide hx
        clear hx hk
        go_wp2_with fail
        go_meet
        exact ⟨by rw [HX.out],Ext.rfl' _⟩
       have hkb:(dk == 6)=true:=by simpa using hk
       have hx:DF=true:=by rw [HD3.out,decide_eq_true hk]
       have HX:=hide hx
       clear hx hk
       go_wp2_with fail
       go_meet
       exact ⟨by rw [HX.out],Ext.rfl' _⟩
     case rest =>
      rename World=>w8
      obtain ⟨rfl,hE8⟩:=hcut
      obtain ⟨HE8,HEw8⟩:=Z2 (HE7.out.trans' hE8) (HEw7.out.trans' hE8)
      clear hE8 n0 n4 s0 s1
      cases DF with
      | true =>
       go_wp2_with fail
       exact HHIT.out (by trivial) _ HEw8.out
      | false =>
       go_wp2_with fail
       go_roundw
       case rel=>exact ⟨k + 1,by omega,by go_num,HE8.out,HNX.out (by trivial)⟩
       case measure=>simp [intOf]; omega
   ·obtain rfl:k=q':=by omega
    have HEr:=hide (HE4.out.trans' hE)
    clear hE hNr hSr
    go_wp2_with fail
    exact HP.out _ _ HEr.out (.inr ⟨rfl,fun _ j hj=>HA.out j hj (by have:=HQ.out; omega)⟩)
section
variable {P:Program} {ops:Array Oper} {C:World→Prop} {Q:Act→Prop} {a:Act} {o:Oper} {rest:List Oper}
theorem Qbt (hw:Region.wanted o (yielded ops a.tmps)=true) (ty:TypeId) (x:Operand) (ho:o.op = .load ty x)
  (b k:Nat) (hx:a.eval x = .pointer (some ⟨b,k,none⟩)) (cs:List Value) (d:TypeDesc) (hc:∀ w,C w→w.rangeAt b k cs)
  (hu:P.underlying ty=some d) (hd:d.isRow=true) (hi:(P.info? ty).map (·.size)=some cs.length) (h:wpQuiet P ops C Q rest (a.put o.dst (.agg cs.toArray))):wpQuiet P ops C Q (o :: rest) a :=
 wpQuiet_step fun K hK=>by
  rw [if_pos hw]
  refine ⟨.agg cs.toArray,fun w hCw=>?_,hK _ h⟩
  unfold Oper.quietAt execOp
  simp only [ho,hx,Instr.loadAt,Instr.sureAddr,Sem.run_bind,Sem.run_pure,Result.andThen_ok,run_loadVar_mid w b k ty cs d (hc w hCw) hu hd hi]
  exact ⟨rfl,rfl⟩
end
def edgeIx (d:NodeP) (st:StP):Int:=if stB st=true then (match d.edges.findIdx? (fun e=>fitsB d e st) with | some i=>(i:Int) | none=>-1) else -1
theorem Qle {d:NodeP} {st:StP} (hs:stB st=true) {i:Nat} (hi:i < d.edges.length) (h0:∀ j (hj:j < d.edges.length),j < i→fitsB d d.edges[j] st=false) (h:fitsB d d.edges[i] st=true):edgeIx d st=(i:Int):=by
 unfold edgeIx
 have e:d.edges.findIdx? (fun e=>fitsB d e st)=some i:=List.findIdx?_eq_some_iff_getElem.2 ⟨hi,h,fun j hj=>by have:=h0 j (Nat.lt_trans hj hi) hj; simp [this]⟩
 rw [if_pos hs,e]
theorem Qgd {d:NodeP} {st:StP} (h:stB st=true→∀ j (hj:j < d.edges.length),fitsB d d.edges[j] st=false):edgeIx d st = -1:=by
 unfold edgeIx
 by_cases hs:stB st=true
 ·have e:d.edges.findIdx? (fun e=>fitsB d e st)=none:=List.findIdx?_eq_none_iff.2 fun x hx=>by
   obtain ⟨j,hj,rfl⟩:=List.getElem_of_mem hx
   exact h hs j hj
  rw [if_pos hs,e]
 ·rw [if_neg hs]
theorem Qpy (d:NodeP) (st:StP):(∃ i,∃ hi:i < d.edges.length,edgeIx d st=(i:Int)∧stB st=true∧(∀ j (hj:j < d.edges.length),j < i→fitsB d d.edges[j] st=false)∧fitsB d d.edges[i] st=true)∨(edgeIx d st = -1∧(stB st=true→∀ j (hj:j < d.edges.length),fitsB d d.edges[j] st=false)):=by
 by_cases hs:stB st=true
 ·cases hf:d.edges.findIdx? (fun e=>fitsB d e st) with
  | some i =>
   obtain ⟨hi,h1,h2⟩:=List.findIdx?_eq_some_iff_getElem.1 hf
   have h0:∀ j (hj:j < d.edges.length),j < i→fitsB d d.edges[j] st=false:=fun j hj hji=>by simpa using h2 j hji
   exact .inl ⟨i,hi,Qle hs hi h0 h1,hs,h0,h1⟩
  | none =>
   have h0:∀ j (hj:j < d.edges.length),fitsB d d.edges[j] st=false:=fun j hj=>by
    have:=List.findIdx?_eq_none_iff.1 hf _ (List.getElem_mem hj)
    simpa using this
   exact .inr ⟨Qgd fun _=>h0,fun _=>h0⟩
 ·exact .inr ⟨Qgd fun h=>absurd h hs,fun h=>absurd h hs⟩
theorem Qwb (s:Sch) (d:NodeP) (st:StP) (An:Option Addr) (cn:Nat) (Ae:Option Addr) (ce:Nat) (w:World) (hok:NodeOk s d) (hX:EdgesAt w w.heap.size Ae d.edges) (hs:st.name.size≤maxLen):Calls Tryz.prog 44 #[.agg (Qa1 d An cn Ae ce).toArray,.agg (stV st).toArray] w (fun e w'=>e = .returned (.int .i64 (edgeIx d st))∧Ext w w') :=
 (Quh s d st An cn Ae ce w hok hX hs).mono fun e w' h=>by
  obtain ⟨z,rfl,hE,⟨i,hi,rfl,h1,h2,h3⟩ | ⟨rfl,h1⟩⟩:=h
  ·exact ⟨by rw [Qle h1 hi h2 h3],hE⟩
  ·exact ⟨by rw [Qgd h1],hE⟩
def Qhc:Option (Nat × Nat)→Value
 | none=>.tuple #[.int .i64 (-1),.int .i64 (-1)]
 | some y=>.tuple #[.int .i64 (y.1:Int),.int .i64 (y.2:Int)]
theorem infoDN7:(Tryz.prog.info? 94).map (·.size)=some 7:=by kernel_rfl
theorem StpsAt.tail {w:World} {B b o:Nat} {st:StP} {l:List StP} (h:StpsAt w B (some ⟨b,o,none⟩) (st :: l)):StpsAt w B (some ⟨b,o + 3,none⟩) l:=by
 refine ⟨?_,fun hn=>?_⟩
 ·have:=h.1
  have e:(Qcz (st :: l)).length=3 + (Qcz l).length:=by show (stV st ++ Qcz l).length=_; rw [List.length_append]; rfl
  rw [e] at this
  rw [List.length_cons] at this
  omega
 ·obtain ⟨ad,e,hb,hc⟩:=h.2 (by simp)
  injection e with e
  subst e
  refine ⟨_,rfl,hb,fun j u hu=>?_⟩
  have h1:=hc (3 + j) u (by
   show (stV st ++ Qcz l)[3 + j]? = _
   rw [List.getElem?_append_right (by show 3≤3 + j; omega),show 3 + j - (stV st).length=j by show 3 + j - 3=j; omega]
   exact hu)
  rw [← Qqk] at h1
  exact h1
theorem StpsAt.nil_ (w:World) (B:Nat) (A:Option Addr):StpsAt w B A []:=⟨rfl,fun h=>absurd h (Nat.lt_irrefl 0)⟩
set_option maxRecDepth 100000 in
theorem Qui (s:Sch) (us:List Value) (hg:s.Good) (hz:SchSz s):∀ (l:List StP) (n:Nat) (A:Option Addr) (cp:Nat) (x:Nat × Nat) (w:World),DPlan w s us→StpsAt w w.heap.size A l→Qla l→n=l.length→n≤4611686018427387904→n≤cp→x.1 < s.nodes.length→x.2 < s.ws.length →
  Calls Tryz.prog 14 #[.agg us.toArray,.int .i64 (x.1:Int),.int .i64 (x.2:Int),.slice A n cp] w (fun e w'=>e = .returned (Qhc (Qa7 s x l))∧Ext w w'):=by
 intro l
 induction l with
 | nil =>
  intro n A cp x w h hl hsz hn hnb hcp h1 h2
  obtain ⟨A1,c1,Aq,cq,Al,c,rfl,_,_⟩:=h.open_
  obtain ⟨x1,x2⟩:=x
  obtain ⟨N,hN,nw,hnw,r,hr⟩:=V3 (s.nodes.length) (s.ws.length) (s.rootI)
  rw [← hN,← hnw,← hr]
  subst hn
  show Calls Tryz.prog 14 #[.agg #[.slice A1 nw c1,.slice Aq nw cq,.slice Al N c,.int .i64 (r:Int)],.int .i64 (x1:Int),.int .i64 (x2:Int),.slice A 0 cp] w (fun e w'=>e = .returned (.tuple #[.int .i64 (x1:Int),.int .i64 (x2:Int)])∧Ext w w')
  have HE:=hide (show Ext w (w.alloc (.cells #[.slice A1 nw c1,.slice Aq nw cq,.slice Al N c,.int .i64 (r:Int)] 45)) from (Ext.rfl' w).alloc nL _)
  clear hN hnw hr h hl hsz h1 h2 hg hz
  go_enter Tryz.func14,Tryz.ntmps14
  go_wp2_with fail
  go_ret2
  exact ⟨rfl,HE.out⟩
 | cons st l ih =>
  intro n A cp x w h hl hsz hn hnb hcp h1 h2
  obtain ⟨A1,c1,Aq,cq,Al,c,rfl,hM,hN⟩:=h.open_
  obtain ⟨x1,x2⟩:=x
  have HIH:=hide (fun A' c' y w1 (h1:Ext w w1) (h2:StpsAt w1 w1.heap.size A' l) (hc:l.length≤c') (h3:y.1 < s.nodes.length) (h4:y.2 < s.ws.length)=>ih l.length A' c' y w1 (h.ext h1) h2 (fun k hk=>hsz (k + 1) (by simpa using hk)) rfl (by rw [hn] at hnb; simp at hnb; omega) hc h3 h4)
  have h512:=Qh9 hg.fine
  have hN0:0 < s.nodes.length:=Nat.lt_of_le_of_lt (Nat.zero_le _) (Qlp hg)
  obtain ⟨bn,on,rfl,hbn,hnod⟩:=hN.form hN0
  have hw0:=hg.lat.lat.some
  have HJ:=hide (fun w1 (h1:Ext w w1) (b:Nat) (hb:b < s.ws.length)=>(show Calls Tryz.prog 45 #[.slice Aq s.ws.length cq,.int .i64 (x2:Int),.int .i64 (b:Int)] w1 (fun e w'=>e = .returned (.int .i64 (jnS s x2 b:Nat))∧w1=w') from by
   have:=Qga Aq cq s.ws.length (Qz s.ws.length (prs s.ws s.os)) x2 b w1 (MatAt.ext' hM h1) (Qe9 _ _) (by rw [Qao]) (by have:=hg.lat.few; omega) h2 hb
   have e:=(LatM.jn_eq hg.lat.lat h2 hb).1
   have e':LatM.joinL s.ws.length (mat (Qz s.ws.length (prs s.ws s.os))) x2 b=(jnS s x2 b:Nat):=e
   rw [e'] at this
   exact this))
  have HOK:=hide (show NodeOk s (Q3 s x1) by rw [Qcb h1]; exact Qe1 hg hz h1)
  have HIN:=hide (fun y hy=>Qqf hg hz (x:=(x1,x2)) (y:=y) (st:=st) h1 h2 hy)
  obtain ⟨An,cn,Ae,ce,h7,_,hX⟩:=hnod x1 h1
  have HST:=hide (show Qa7 s (x1,x2) (st :: l)=match goF s (x1,x2) st with | some y=>Qa7 s y l | none=>none from rfl)
  obtain ⟨HHIT,HMISS,HR7⟩:=Z3 (fun (i:Nat) (hi:i < (Q3 s x1).edges.length) h0 h m lv hm hl=>Qqe (s:=s) (x:=(x1,x2)) (st:=st) (d:=Q3 s x1) rfl (i:=i) hi h0 h (m:=m) (l:=lv) hm hl) (fun h0=>Qof (s:=s) (x:=(x1,x2)) (st:=st) (d:=Q3 s x1) rfl h0) (fun w1 (h1:Ext w w1)=>(show w1.rangeAt bn (on + x1 * 7) (Qa1 (Q3 s x1) An cn Ae ce) from fun j v hv=>(h1.cell (p:=⟨bn,on + x1 * 7 + j,none⟩) hbn).trans (h7 j v hv)))
  have hss:st.name.size≤maxLen:=hsz 0 (by simp)
  have HED:=hide (fun w1 (h1:Ext w w1)=>Qwb s (Q3 s x1) st An cn Ae ce w1 HOK.out (EdgesAt.ext hX h1) hss)
  obtain ⟨d,hd⟩:=V1 (Q3 s x1)
  rw [← hd] at HOK HHIT HMISS HR7 HED hX
  have HXX:=hide hX
  obtain ⟨b,o,rfl,hb,hc⟩:=hl.cell (by simp)
  have hc0:=hc 0 (by simp)
  rw [gD,Nat.zero_mul,Nat.add_zero] at hc0
  have HS3:=hide (fun w1 (h1:Ext w w1)=>(show w1.rangeAt b o (stV st) from fun j v hv=>(h1.cell (p:=⟨b,o + j,none⟩) hb).trans (hc0 j v hv)))
  have hn1:0 < n:=by rw [hn]; simp
  have HTL:=hide (fun w1 (h1:Ext w w1)=>(hl.ext h1).tail)
  have HNL:=hide (show l.length=n - 1 by rw [hn]; simp)
  obtain ⟨L,hL,N,hNN⟩:=V2 (l.length) (s.nodes.length)
  rw [← hNN] at HIH HIN h512 h1
  obtain ⟨nw,hnw⟩:=V1 (s.ws.length)
  rw [← hnw] at HIH HJ HIN h2
  obtain ⟨HNW,HNN⟩:=Z2 hnw hNN
  obtain ⟨R,hR⟩:=V1 (Qa7 s (x1,x2) (st :: l))
  rw [← hR] at HST ⊢
  obtain ⟨r,hr⟩:=V1 (s.rootI)
  rw [← hr] at HIH
  rw [← hNN,← hnw,← hr]
  unfold Qa1 at HR7 HED
  unfold stV at HS3 HED
  obtain ⟨zi,hzi⟩:=V1 (edgeIx d st)
  rw [← hzi] at HED
  obtain ⟨HZI,HD⟩:=Z2 hzi hd
  have hx0:=nZ x1
  have hx1:(x1:Int) < (N:Int):=by omega
  have hx2:=nZ x2
  have hn2:(n:Int)≠0:=by omega
  have hn0:((n:Int) == 0)=false:=by simpa using hn2
  have hn3:(0:Int) < (n:Int):=by omega
  clear hnw hr hR hNN hN0 hN hM h hg hz hnod hw0 hn2 hL hzi hd hsz ih hX hl hc hc0 h7 h1 h2
  show Calls Tryz.prog 14 #[.agg #[.slice A1 nw c1,.slice Aq nw cq,.slice (some ⟨bn,on,none⟩) N c,.int .i64 (r:Int)],.int .i64 (x1:Int),.int .i64 (x2:Int),.slice (some ⟨b,o,none⟩) n cp] w _
  obtain ⟨w1,g1,hw1,hg1,Hw1,Hg1,hV,hVE⟩:=T0 w 45 #[.slice A1 nw c1,.slice Aq nw cq,.slice (some ⟨bn,on,none⟩) N c,.int .i64 (r:Int)]
  obtain ⟨HE1,HV1⟩:=Z2 hVE hV
  obtain ⟨s0,s1,s2,s3⟩:=X4 hV
  clear hw1 hg1 hV hVE hn
  go_enter Tryz.func14,Tryz.ntmps14
  go_upto_region 1 with fail
  rw [← Hw1.out,← Hg1.out]
  go_upto_region 3 with fail
  refine Qaz (by kernel_rfl) (by kernel_rfl) w1 (Ext.rfl' _) ?_
  intro I _ f hf hcf
  have s2':∀ n,(f n).cell? ⟨g1,2,none⟩=some (.slice (some ⟨bn,on,none⟩) N c):=fun n=>((hf n).cell (p:=⟨g1,2,none⟩) HV1.out.lt).trans s2
  obtain ⟨HED2,HF⟩:=Z2 (fun n=>Qb3 hf hcf (HED.out (f n) (HE1.out.trans' (hf n)))) hf
  clear s0 s1 s2 s3 hcf hf
  repeat (go_big_quiet_step (fail))
  refine Qbt rfl 94 _ rfl bn (on + x1 * 7) rfl [.int .i64 d.kind,.int .i64 d.at_,.int .i64 d.lo,.int .i64 d.hi,.int .i64 d.most,.slice An d.names.length cn,.slice Ae d.edges.length ce] _ (by rintro _ ⟨n,rfl⟩; exact HR7.out _ (HE1.out.trans' (HF.out n))) Tryz.underlying94 rfl infoDN7 ?_
  simp only [Act.put,gE,gF,gG]
  repeat (go_big_quiet_step (fail))
  refine Qbt rfl 76 _ rfl b o rfl [.int .i64 st.kind,.int .i64 st.n,.string st.name] _ (by rintro _ ⟨n,rfl⟩; exact HS3.out _ (HE1.out.trans' (HF.out n))) Tryz.underlying76 rfl (by kernel_rfl) ?_
  simp only [Act.put,gE,gF,gG]
  repeat (go_big_quiet_step ((go_at_call 44; exact HED2.out _)))
  refine wpQuiet_nil ?_
  rintro _ ⟨nq,rfl⟩
  have hE2:=HF.out nq
  obtain ⟨w2,hw2⟩:=V1 (f nq)
  rw [← hw2] at hE2 ⊢
  obtain ⟨HE2,HV2⟩:=Z2 (HE1.out.trans' hE2) (HV1.out.ext hE2)
  clear hw2 HED2 s2' HF hE2 f HE1 HV1
  rcases Qpy d st with ⟨i,hi,hix,hsb,hf0,hfi⟩ | ⟨hix,hno⟩
  rotate_left
  ·have hzi:=HZI.out.trans hix
   have hno2:goF s (x1,x2) st=none:=by
    unfold goF
    by_cases hs:stB st=true
    ·rw [if_pos hs]; exact HMISS.out (hno hs)
    ·rw [if_neg hs]
   have HRN:=hide (show R=none by rw [HST.out,hno2])
   subst hzi
   clear hix hno hno2 HIH HTL
   go_wp2_with fail
   go_ret2
   exact ⟨by rw [HRN.out]; rfl,HE2.out⟩
  ·have hzi:=HZI.out.trans hix
   obtain ⟨b2,o2,rfl,hb2,hc2⟩:=HXX.out.cell (by omega)
   have h10:=hc2 i hi
   have hoe:=HOK.out.edge i hi
   have hbare:=Qic hoe hfi
   obtain ⟨m,hm,hmN⟩:=hoe.to_ hbare
   obtain ⟨la,hla,hlan⟩:=hoe.lab
   have hgo:goF s (x1,x2) st=some (m,jnS s x2 la):=by
    unfold goF
    rw [if_pos hsb]
    exact HHIT.out i hi hf0 hfi m la hm hla
   have hin:=HIN.out (m,jnS s x2 la) (by have:=hgo; unfold goF at this; rw [if_pos hsb] at this; exact this)
   have HRN:=hide (show R=Qa7 s (m,jnS s x2 la) l by rw [HST.out,hgo])
   have hlan':la < nw:=by rw [HNW.out]; exact hlan
   obtain ⟨e,he⟩:=V1 (d.edges[i])
   rw [← he] at h10 hm hla
   have HR10:=hide (show w2.rangeAt b2 (o2 + i * 10) [.string e.name,.bool e.bare,.int .i64 e.at_,.int .i64 e.tgt,.int .i64 e.label,.int .i64 e.wide,.int .i64 e.coarse,.int .i64 e.n,.int .i64 e.seen,.int .i64 e.cat] from fun j v hv=>(HE2.out.cell (p:=⟨b2,o2 + i * 10 + j,none⟩) hb2).trans (h10 j v hv))
   have q7:=HR7.out w2 HE2.out 6 _ rfl
   have hqd:d.edges.length≤64:=HOK.out.few
   obtain ⟨q',hq'⟩:=V1 (d.edges.length)
   rw [← hq'] at hqd hi q7
   subst hzi
   obtain ⟨HI,HLN⟩:=Z2 hin hlan'
   have i0:=nZ i
   have i1:(i:Int) < (q':Int):=by omega
   have i2:((i:Int) < 0)=False:=by simp
   have hV2:=HV2.out
   obtain ⟨s0,s1,s2,s3⟩:=X4 hV2
   obtain ⟨HMM,HLA⟩:=Z2 hm hla
   clear hm hla hix hsb hf0 hfi hc2 h10 hoe hbare hmN hlan hgo hin hlan' he hq' hV2 HIN HHIT HMISS HXX HED HOK HST HR7
   obtain ⟨w3,g3,hw3,hg3,Hw3,Hg3,hU,hUE⟩:=T0 w2 95 #[.string e.name,.bool e.bare,.int .i64 e.at_,.int .i64 e.tgt,.int .i64 e.label,.int .i64 e.wide,.int .i64 e.coarse,.int .i64 e.n,.int .i64 e.seen,.int .i64 e.cat]
   obtain ⟨HE3,HV3,HU3⟩:=Z3 (HE2.out.trans' hUE) (HV2.out.ext hUE) hU
   clear hw3 hg3 hU hUE
   go_upto_region 6 with fail
   refine wp_region_lit ?_
   refine wpList_plain rfl fun K0 hK0=>?_
   go_simp
   refine hK0 _ _ ?_
   refine wpList_plain rfl fun K1 hK1=>?_
   go_simp
   refine hK1 _ _ ?_
   refine wpList_plain rfl fun K2 hK2=>?_
   go_simp
   refine hK2 _ _ ?_
   refine wpList_plain rfl fun K3 hK3=>?_
   go_simp
   refine hK3 _ _ ?_
   refine wpList_plain rfl fun K4 hK4=>?_
   go_simp
   refine hK4 _ _ ?_
   refine wpList_plain rfl fun K5 hK5=>?_
   go_simp
   refine hK5 _ _ ?_
   refine wpList_plain rfl fun K6 hK6=>?_
   go_simp
   refine hK6 _ _ ?_
   refine wpList_plain rfl fun K7 hK7=>?_
   go_simp
   refine hK7 _ _ ?_
   refine wpList_load_mid rfl 95 _ rfl b2 (o2 + i * 10) rfl _ _ HR10.out Tryz.underlying95 rfl Qon ?_
   refine wpList_plain rfl fun K0 hK0=>?_
   go_simp
   refine hK0 _ _ ?_
   refine Qe rfl 95 _ _ rfl _ #[.string e.name,.bool e.bare,.int .i64 e.at_,.int .i64 e.tgt,.int .i64 e.label,.int .i64 e.wide,.int .i64 e.coarse,.int .i64 e.n,.int .i64 e.seen,.int .i64 e.cat] rfl rfl Qon rfl (by simp [Value.oneCell']) ?_
   go_upto_region 7 with fail
   rw [← Hw3.out,← Hg3.out]
   have hV3:=HV3.out
   obtain ⟨s0,s1,s2,s3⟩:=X4 hV3
   have hU3:=HU3.out
   obtain ⟨-,-,-,u3,u4⟩:=X5 hU3
   rw [HMM.out] at u3
   rw [HLA.out] at u4
   refine Qaz (by kernel_rfl) (by kernel_rfl) w3 (Ext.rfl' _) ?_
   intro I _ f hf hcf
   have s0':∀ n,(f n).cell? ⟨g1,0,none⟩=some (.slice A1 nw c1):=fun n=>((hf n).cell (p:=⟨g1,0,none⟩) HV3.out.lt).trans s0
   have s1':∀ n,(f n).cell? ⟨g1,1,none⟩=some (.slice Aq nw cq):=fun n=>((hf n).cell (p:=⟨g1,1,none⟩) HV3.out.lt).trans s1
   have s2':∀ n,(f n).cell? ⟨g1,2,none⟩=some (.slice (some ⟨bn,on,none⟩) N c):=fun n=>((hf n).cell (p:=⟨g1,2,none⟩) HV3.out.lt).trans s2
   have s3':∀ n,(f n).cell? ⟨g1,3,none⟩=some (.int .i64 (r:Int)):=fun n=>((hf n).cell (p:=⟨g1,3,none⟩) HV3.out.lt).trans s3
   have u3':∀ n,(f n).cell? ⟨g3,3,none⟩=some (.int .i64 (m:Int)):=fun n=>((hf n).cell (p:=⟨g3,3,none⟩) HU3.out.lt).trans u3
   have u4':∀ n,(f n).cell? ⟨g3,4,none⟩=some (.int .i64 (la:Int)):=fun n=>((hf n).cell (p:=⟨g3,4,none⟩) HU3.out.lt).trans u4
   obtain ⟨HJ2,HW2⟩:=Z2 (fun n=>Qji (HJ.out (f n) (HE3.out.trans' (hf n)) la HLN.out)) (fun n (A':Option Addr) c' (hA:StpsAt (f n) (f n).heap.size A' l) (hc:l.length≤c')=>Qb3 (v:=Qhc (Qa7 s (m,jnS s x2 la) l)) hf hcf (HIH.out A' c' (m,jnS s x2 la) (f n) (HE3.out.trans' (hf n)) hA hc HI.out.1 HI.out.2))
   dsimp only at HW2
   rw [HNL.out] at HW2
   rw [← HRN.out] at HW2
   have hncp:n - 1≤cp - 1:=by omega
   obtain ⟨HTL2,HF⟩:=Z2 (fun n=>HTL.out (f n) (HE3.out.trans' (hf n))) hf
   clear s0 s1 s2 s3 u3 u4 hf hcf HTL hV3 hU3
   obtain ⟨A',hA',HTL3⟩:∃ A':Option Addr,A'=(if cp=1 then some ⟨b,o,none⟩ else some ⟨b,o + 3,none⟩)∧Hid (∀ n,StpsAt (f n) (f n).heap.size A' l):=by
    refine ⟨_,rfl,fun n=>?_⟩
    by_cases hc1:cp=1
    ·rw [if_pos hc1]
     have hl0:l = []:=List.length_eq_zero_iff.1 (by have:=HNL.out; omega)
     rw [hl0]
     exact StpsAt.nil_ _ _ _
    ·rw [if_neg hc1]
     exact HTL2.out n
   have hn1':((n:Int) - 1)=((n - 1:Nat):Int):=by omega
   have HA':=hide hA'
   clear hA' HTL2
   refine Qbt rfl 45 _ rfl g1 0 rfl [.slice A1 nw c1,.slice Aq nw cq,.slice (some ⟨bn,on,none⟩) N c,.int .i64 (r:Int)] _ (by rintro _ ⟨n,rfl⟩; exact range_blk (HV3.out.ext (HF.out n))) Tryz.underlying45 rfl infoDW ?_
   simp only [Act.put,gE,gF,gG]
   repeat (go_big_quiet_step ((first | (go_at_call 45; exact HJ2.out _))))
   rw [← HA'.out]
   cases R with
   | none =>
    have HW3:=hide (fun n=>HW2.out n A' (cp - 1) (HTL3.out n) hncp)
    simp only [Qhc] at HW3
    repeat (go_big_quiet_step ((go_at_call 14; with_reducible exact HW3.out _)))
    refine wpQuiet_nil ?_
    rintro _ ⟨nq,rfl⟩
    have HEn:=hide (HE3.out.trans' (HF.out nq))
    obtain ⟨w9,hw9⟩:=V1 (f nq)
    rw [← hw9] at HEn ⊢
    clear s0' s1' s2' s3' u3' u4' hw9
    go_wp2_with fail
    go_ret2
    exact ⟨rfl,HEn.out⟩
   | some y =>
    have HW3:=hide (fun n=>HW2.out n A' (cp - 1) (HTL3.out n) hncp)
    simp only [Qhc] at HW3
    repeat (go_big_quiet_step ((go_at_call 14; with_reducible exact HW3.out _)))
    refine wpQuiet_nil ?_
    rintro _ ⟨nq,rfl⟩
    have HEn:=hide (HE3.out.trans' (HF.out nq))
    obtain ⟨w9,hw9⟩:=V1 (f nq)
    rw [← hw9] at HEn ⊢
    clear s0' s1' s2' s3' u3' u4' hw9
    go_wp2_with fail
    go_ret2
    exact ⟨rfl,HEn.out⟩
def allTo (M:Nat→Nat→Bool) (a k:Nat):Bool:=(List.range k).all fun b=>M a b
theorem Qr6 (M:Nat→Nat→Bool) (a k:Nat):allTo M a (k + 1)=(allTo M a k && M a k):=by
 unfold allTo
 rw [List.range_succ,List.all_append]
 simp
theorem allTo_iff {M:Nat→Nat→Bool} {a k:Nat} : allTo M a k=true↔∀ b,b < k→M a b=true:=by
 unfold allTo
 rw [List.all_eq_true]
 exact ⟨fun h b hb=>h b (List.mem_range.2 hb),fun h b hb=>h b (List.mem_range.1 hb)⟩
theorem Qxd {n:Nat} {M:Nat→Nat→Bool} (hl:LatM.Lat n M) {a:Nat} (ha:a < n) (h:allTo M a n=true):a=LatM.botN n M :=
 hl.po.anti _ _ ha (LatM.botN_lt hl) (allTo_iff.1 h _ (LatM.botN_lt hl)) (LatM.botN_bot hl ha)
set_option maxRecDepth 100000 in
theorem Qmw (A:Option Addr) (cp n:Nat) (M:List (List Bool)) (w:World) (h:MatAt w w.heap.size A M) (hsq:∀ r ∈ M,r.length=M.length) (hn:n=M.length) (hl:n≤64) (hlat:LatM.Lat n (mat M)) :
  Calls Tryz.prog 15 #[.slice A n cp] w (fun e w'=>e = .returned (.int .i64 ((LatM.botN n (mat M):Nat):Int))∧w=w'):=by
 have hbn:=LatM.botN_lt hlat
 obtain ⟨b0,o0,rfl,_,hrow⟩:=h.form hsq (by omega)
 rw [← hn] at hrow
 obtain ⟨HROW,HBE⟩:=Z2 hrow (fun (a:Nat) (ha:a < n) (h:allTo (mat M) a n=true)=>Qxd hlat ha h)
 have HBB:=hide (show allTo (mat M) (LatM.botN n (mat M)) n=true from allTo_iff.2 fun b hb=>LatM.botN_bot hlat hb)
 obtain ⟨bt,hbt⟩:=V1 (LatM.botN n (mat M))
 rw [← hbt] at HBE HBB hbn ⊢
 clear hrow h hsq hn hlat hbt
 go_enter Tryz.func15,Tryz.ntmps15
 go_wp2_with fail
 go_loop [3] (fun i=>∃ c:Nat,c≤n∧i = .int .i64 c∧Hid (∀ j,j < c→allTo (mat M) j n=false)) (fun i=>n - (intOf i).toNat)
 case atStart=>exact ⟨0,Nat.zero_le _,rfl,fun j hj=>absurd hj (by omega)⟩
 case round =>
  obtain ⟨c,hc,rfl,HA⟩:=hrel
  by_cases hcn:c < n
  ·have i4:=nZ c
   have i5:(c:Int) < (n:Int):=by omega
   obtain ⟨bc,oc,cc,fc,_,gc⟩:=HROW.out c hcn
   have GC:=hide gc
   clear gc
   go_wp2_with fail
   go_loop [5,4] (fun i v=>∃ (d:Nat) (u:Bool),d≤n∧i = .int .i64 d∧v = .bool u∧Hid (u=allTo (mat M) c d)) (fun i _=>n - (intOf i).toNat)
   case atStart=>exact ⟨0,_,Nat.zero_le _,rfl,rfl,rfl⟩
   case round =>
    obtain ⟨d,u,hd,rfl,rfl,HU⟩:=hrel
    by_cases hdn:d < n
    ·have i6:=nZ d
     have i7:(d:Int) < (n:Int):=by omega
     have zc:=GC.out d hdn
     have hs:=Qr6 (mat M) c d
     obtain ⟨z1,hz1⟩:=V1 (mat M c d)
     rw [← hz1] at zc hs
     have HS:=hide hs
     clear hz1 hs
     cases u with
     | false =>
      go_wp2_with fail
      go_round
      case rel=>exact ⟨d + 1,false,by omega,by go_num,rfl,(show false=allTo (mat M) c (d + 1) from by rw [HS.out,← HU.out]; rfl)⟩
      case measure=>simp [intOf]; omega
     | true =>
      go_wp2_with fail
      go_round
      case rel=>exact ⟨d + 1,z1,by omega,by go_num,rfl,(show z1=allTo (mat M) c (d + 1) from by rw [HS.out,← HU.out]; rfl)⟩
      case measure=>simp [intOf]; omega
    ·obtain rfl:d=n:=by omega
     cases u with
     | true =>
      have hb:=HBE.out c hcn HU.out.symm
      subst hb
      go_wp2_with fail
      go_ret
      exact ⟨rfl,rfl⟩
     | false =>
      have HB:=hide (below_step HA.out HU.out.symm)
      clear HA
      go_wp2_with fail
      go_round
      case rel=>exact ⟨c + 1,by omega,by go_num,HB⟩
      case measure=>simp [intOf]; omega
  ·exact absurd HBB.out (by rw [HA.out bt (by omega)]; decide)
end Go.Proofs.YtanpljalbijfkaaGreat
