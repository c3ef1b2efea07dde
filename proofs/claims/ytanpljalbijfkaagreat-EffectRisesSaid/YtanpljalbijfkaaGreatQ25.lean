/- . -/
import Derived.Test.YtanpljalbijfkaaGreatQ24
namespace Go.Proofs.YtanpljalbijfkaaGreat
open Go.RowKit
set_option maxHeartbeats 16000000
set_option maxRecDepth 100000 in
theorem Qoe (g c:Nat) (x:StP) (w:World) (h:w.rangeAt g 0 (stV x)) (hg:g < w.heap.size) (hs:x.name.size≤maxLen):Calls Tryz.prog 42 #[.slice (some ⟨g,0,none⟩) 1 c] w (fun e w'=>e = .returned (.bool (stB x))∧Ext w w'):=by
 have HR:=Qa (fun w1=>Qmi x w1 hs)
 have c0:=h 0 (.int .i64 x.kind) rfl
 have c1:=h 1 (.int .i64 x.n) rfl
 have c2:=h 2 (.string x.name) rfl
 rw [Nat.zero_add] at c0 c1 c2
 obtain ⟨SB,hSB⟩:=V1 (stB x)
 rw [← hSB] at HR ⊢
 unfold stV at HR
 clear h hs hSB
 obtain ⟨k,n,nm⟩:=x
 dsimp only at c0 c1 c2 HR
 go_enter Tryz.func42,Tryz.ntmps42
 go_wp2_with fail
 go_loopw [10] (fun i wr=>∃ q:Nat,q≤1∧i = .int .i64 (q:Int)∧Ext w wr∧Hid (q=1→SB=true)) (fun i _=>1 - (intOf i).toNat)
 case atStart=>exact ⟨0,by omega,rfl,Ext.rfl' _,fun h=>by cases h⟩
 case round =>
  obtain ⟨q,hq,rfl,hE,hS⟩:=hrel
  by_cases hq0:q=0
  ·subst hq0
   have d0:=(hE.cell (p:=⟨g,0,none⟩) hg).trans c0
   have d1:=(hE.cell (p:=⟨g,1,none⟩) hg).trans c1
   have d2:=(hE.cell (p:=⟨g,2,none⟩) hg).trans c2
   obtain ⟨w5,g5,hw5,hg5,Hw5,Hg5,hV,hVE⟩:=T0 wr 76 #[.int .i64 k,.int .i64 n,.string nm]
   obtain ⟨v0,v1,v2⟩:=X3 hV
   have HE5:=Qa (hE.trans' hVE)
   clear hw5 hg5 hV hVE hE hS
   go_upto_region 6 with fail
   rw [← Hw5.out,← Hg5.out]
   clear c0 c1 c2 d0 d1 d2
   go_wp2_with fail
   refine (HR.out _).mono ?_
   rintro e w6 ⟨rfl,hE6⟩
   have HE6:=Qa (HE5.out.trans' hE6)
   clear hE6 v0 v1 v2
   cases SB with
   | true =>
    go_wp2_with fail
    go_roundw
    case rel=>exact ⟨1,Nat.le_refl _,by go_num,HE6.out,fun _=>by trivial⟩
    case measure=>simp [intOf]
   | false =>
    go_wp2_with fail
    go_ret
    exact ⟨rfl,HE6.out⟩
  ·obtain rfl:q=1:=by omega
   obtain ⟨HE,HSB⟩:=Z2 hE (hS.out rfl)
   clear hE hS
   go_wp2_with fail
   go_ret
   exact ⟨Qb HSB.out.symm,HE.out⟩
def Qe8 (c:Int):Int:=if c=1 then 2 else if c=2 then 3 else 5
theorem Qrw (c:Int) (w:World):Calls Tryz.prog 25 #[.int .i64 c] w (fun e w'=>e = .returned (.int .i64 (Qe8 c))∧w=w'):=by
 unfold Qe8
 by_cases h1:c=1
 ·subst h1
  go_enter Tryz.func25,Tryz.ntmps25
  go_wp2_with fail
  go_ret
  exact ⟨rfl,rfl⟩
 ·have k1:(c == 1)=false:=by simpa using h1
  rw [if_neg h1]
  by_cases h2:c=2
  ·subst h2
   go_enter Tryz.func25,Tryz.ntmps25
   go_wp2_with fail
   go_ret
   exact ⟨rfl,rfl⟩
  ·have k2:(c == 2)=false:=by simpa using h2
   rw [if_neg h2]
   clear h1 h2
   go_enter Tryz.func25,Tryz.ntmps25
   go_wp2_with fail
   go_ret
   exact ⟨rfl,rfl⟩
def Qfx (s:Sch) (a b:Int):Bool:=decide (a≠b) && Qeg s.ws s.os a b
theorem Qqc (g:Nat) (s:Sch) (w:World) (h:LatAt w g s.ws s.os) (hg:s.Good) (a b:Int):Calls Tryz.prog 26 #[.pointer (some ⟨g,0,none⟩),.int .i64 a,.int .i64 b] w (fun e w'=>e = .returned (.bool (Qfx s a b))∧w=w'):=by
 have HQ:=Qa (Qh2 g s.ws s.os w h (Qhy hg.lvl.found) a b)
 unfold Qfx
 obtain ⟨L,hL⟩:=V1 (Qeg s.ws s.os a b)
 rw [← hL] at HQ ⊢
 clear hL h hg
 by_cases hab:a=b
 ·have k:(a != b)=false:=by simpa using hab
  have HAB:=Qa hab
  clear hab
  go_enter Tryz.func26,Tryz.ntmps26
  go_wp2_with fail
  go_ret
  exact ⟨Qb (by simp [HAB.out]),rfl⟩
 ·have k:(a != b)=true:=by simpa using hab
  have HAB:=Qa hab
  clear hab
  go_enter Tryz.func26,Tryz.ntmps26
  go_wp2_with fail
  refine HQ.out.mono ?_
  rintro e w1 ⟨rfl,rfl⟩
  go_wp2_with fail
  go_ret
  exact ⟨Qb (by simp [HAB.out]),rfl⟩
def Qch (d:NodeP) (e:EdgeP) (x:StP):Bool :=
 if x.kind=1 then decide (d.kind=7) && decide (e.name=x.name) else if x.kind=5 then decide (d.kind=8) && decide (e.name=x.name) && !e.bare else if x.kind=2 then decide (d.kind=5) && decide (x.n < d.most) else if x.kind=3 then decide (d.kind=5) && decide (0 < d.most) else decide (d.kind=6)
set_option maxRecDepth 100000 in
theorem Qrx (d:NodeP) (e:EdgeP) (x:StP) (An:Option Addr) (cn:Nat) (Ae:Option Addr) (ce:Nat) (w:World):Calls Tryz.prog 82 #[.agg (Qbm d An cn Ae ce).toArray,.agg (Qaj e).toArray,.agg (stV x).toArray] w (fun e' w'=>e' = .returned (.bool (Qch d e x))∧Ext w w'):=by
 obtain ⟨k,n,nm⟩:=x
 unfold Qbm Qaj stV Qch
 dsimp only
 obtain ⟨dk,hdk,dm,hdm,en,hen,eb,heb⟩:=V4 (d.kind) (d.most) (e.name) (e.bare)
 rw [← hdk,← hdm,← hen,← heb]
 clear hdk hdm hen heb
 obtain ⟨w1,g1,hw1,hg1,Hw1,Hg1,hA,hAE⟩:=T0 w 66 #[.int .i64 dk,.int .i64 d.at_,.int .i64 d.lo,.int .i64 d.hi,.int .i64 dm,.slice An d.names.length cn,.slice Ae d.edges.length ce]
 obtain ⟨w2,g2,hw2,hg2,Hw2,Hg2,hB,hBE⟩:=T0 w1 70 #[.string en,.bool eb,.int .i64 e.at_,.int .i64 e.tgt,.int .i64 e.label,.int .i64 e.wide,.int .i64 e.coarse,.int .i64 e.n,.int .i64 e.seen,.int .i64 e.cat]
 obtain ⟨w3,g3,hw3,hg3,Hw3,Hg3,hC,hCE⟩:=T0 w2 76 #[.int .i64 k,.int .i64 n,.string nm]
 have HE:=Qa ((hAE.trans' hBE).trans' hCE)
 have hA3:=(hA.ext hBE).ext hCE
 have hB3:=hB.ext hCE
 have Hg2':=Qa (show g2=g1 + 1 by rw [hg2,hw1,World.size_alloc,← hg1])
 have Hg3':=Qa (show g3=g2 + 1 by rw [hg3,hw2,World.size_alloc,← hg2])
 obtain ⟨a0,-,-,-,a4⟩:=X5 hA3
 obtain ⟨b0,b1⟩:=X2 hB3
 obtain ⟨c0,c1,c2⟩:=X3 hC
 clear hw1 hg1 hw2 hg2 hw3 hg3 hA hAE hB hBE hC hCE hA3 hB3
 by_cases h1:k=1
 ·subst h1
  by_cases hd:dk=7
  ·subst hd
   by_cases hq:en.toList=nm.toList
   ·go_enter Tryz.func82,Tryz.ntmps82
    go_upto_region 1 with fail
    rw [← Hw1.out,← Hg1.out,← Hw2.out,← Hg2'.out,← Hw3.out,← Hg3'.out]
    go_wp2_with fail
    go_ret
    exact ⟨Qb (by simp [← Qa3,hq]),HE.out⟩
   ·go_enter Tryz.func82,Tryz.ntmps82
    go_upto_region 1 with fail
    rw [← Hw1.out,← Hg1.out,← Hw2.out,← Hg2'.out,← Hw3.out,← Hg3'.out]
    go_wp2_with fail
    go_ret
    exact ⟨Qb (by simp [← Qa3]),HE.out⟩
  ·have hd':(dk == 7)=false:=by simpa using hd
   go_enter Tryz.func82,Tryz.ntmps82
   go_upto_region 1 with fail
   rw [← Hw1.out,← Hg1.out,← Hw2.out,← Hg2'.out,← Hw3.out,← Hg3'.out]
   go_wp2_with fail
   go_ret
   exact ⟨Qb (by simp),HE.out⟩
 have k1:(k == 1)=false:=by simpa using h1
 by_cases h5:k=5
 ·subst h5
  by_cases hd:dk=8
  ·subst hd
   by_cases hq:en.toList=nm.toList
   ·go_enter Tryz.func82,Tryz.ntmps82
    go_upto_region 1 with fail
    rw [← Hw1.out,← Hg1.out,← Hw2.out,← Hg2'.out,← Hw3.out,← Hg3'.out]
    go_wp2_with fail
    go_ret
    exact ⟨Qb (by simp [← Qa3,hq]),HE.out⟩
   ·go_enter Tryz.func82,Tryz.ntmps82
    go_upto_region 1 with fail
    rw [← Hw1.out,← Hg1.out,← Hw2.out,← Hg2'.out,← Hw3.out,← Hg3'.out]
    go_wp2_with fail
    go_ret
    exact ⟨Qb (by simp [← Qa3,hq]),HE.out⟩
  ·have hd':(dk == 8)=false:=by simpa using hd
   go_enter Tryz.func82,Tryz.ntmps82
   go_upto_region 1 with fail
   rw [← Hw1.out,← Hg1.out,← Hw2.out,← Hg2'.out,← Hw3.out,← Hg3'.out]
   go_wp2_with fail
   go_ret
   exact ⟨Qb (by simp),HE.out⟩
 have k5:(k == 5)=false:=by simpa using h5
 by_cases h2:k=2
 ·subst h2
  by_cases hd:dk=5
  ·subst hd
   go_enter Tryz.func82,Tryz.ntmps82
   go_upto_region 1 with fail
   rw [← Hw1.out,← Hg1.out,← Hw2.out,← Hg2'.out,← Hw3.out,← Hg3'.out]
   go_wp2_with fail
   go_ret
   exact ⟨Qb (by simp),HE.out⟩
  ·have hd':(dk == 5)=false:=by simpa using hd
   go_enter Tryz.func82,Tryz.ntmps82
   go_upto_region 1 with fail
   rw [← Hw1.out,← Hg1.out,← Hw2.out,← Hg2'.out,← Hw3.out,← Hg3'.out]
   go_wp2_with fail
   go_ret
   exact ⟨Qb (by simp),HE.out⟩
 have k2:(k == 2)=false:=by simpa using h2
 by_cases h3:k=3
 ·subst h3
  by_cases hd:dk=5
  ·subst hd
   go_enter Tryz.func82,Tryz.ntmps82
   go_upto_region 1 with fail
   rw [← Hw1.out,← Hg1.out,← Hw2.out,← Hg2'.out,← Hw3.out,← Hg3'.out]
   go_wp2_with fail
   go_ret
   exact ⟨Qb (by simp),HE.out⟩
  ·have hd':(dk == 5)=false:=by simpa using hd
   go_enter Tryz.func82,Tryz.ntmps82
   go_upto_region 1 with fail
   rw [← Hw1.out,← Hg1.out,← Hw2.out,← Hg2'.out,← Hw3.out,← Hg3'.out]
   go_wp2_with fail
   go_ret
   exact ⟨Qb (by simp),HE.out⟩
 have k3:(k == 3)=false:=by simpa using h3
 by_cases hd:dk=6
 ·subst hd
  go_enter Tryz.func82,Tryz.ntmps82
  go_upto_region 1 with fail
  rw [← Hw1.out,← Hg1.out,← Hw2.out,← Hg2'.out,← Hw3.out,← Hg3'.out]
  go_wp2_with fail
  go_ret
  exact ⟨Qb (by simp),HE.out⟩
 ·have hd':(dk == 6)=false:=by simpa using hd
  go_enter Tryz.func82,Tryz.ntmps82
  go_upto_region 1 with fail
  rw [← Hw1.out,← Hg1.out,← Hw2.out,← Hg2'.out,← Hw3.out,← Hg3'.out]
  go_wp2_with fail
  go_ret
  exact ⟨Qb (by simp),HE.out⟩
def PlanL (w:World) (gp gl:Nat) (s:Sch):Prop:=w.cell? ⟨gp,0,none⟩=some (.pointer (some ⟨gl,0,none⟩))∧gp < w.heap.size∧LatAt w gl s.ws s.os
theorem PlanAt.lat {w:World} {gp:Nat} {s:Sch} (h:PlanAt w gp s):∃ gl,PlanL w gp gl s:=by
 obtain ⟨gl,_,_,_,_,_,_,h1,h2,_,_⟩:=h
 exact ⟨gl,h1.cell 0,h1.lt,h2⟩
theorem PlanL.ext {w w':World} {gp gl:Nat} {s:Sch} (h:PlanL w gp gl s) (hE:Ext w w'):PlanL w' gp gl s:=⟨(hE.cell (p:=⟨gp,0,none⟩) h.2.1).trans h.1,Nat.lt_of_lt_of_le h.2.1 hE.size,h.2.2.ext hE⟩
theorem Qb1 (gp gl:Nat) (s:Sch) (w:World) (h:PlanL w gp gl s):Calls Tryz.prog 19 #[.pointer (some ⟨gp,0,none⟩)] w (fun e w'=>e = .returned (.pointer (some ⟨gl,0,none⟩))∧w=w'):=by
 have t0:=h.1
 clear h
 go_enter Tryz.func19,Tryz.ntmps19
 go_wp2_with fail
 go_ret
 exact ⟨rfl,rfl⟩
def ndz:NodeP:=⟨0,0,0,0,0,[],[]⟩
def Qf (s:Sch) (k:Nat):NodeP:=s.nodes.getD k ndz
theorem Qar {s:Sch} {k:Nat} (h:k < s.nodes.length):Qf s k=s.nodes[k]:=by
 unfold Qf
 rw [List.getD_eq_getElem?_getD,List.getElem?_eq_getElem h]
 rfl
def Qii (s:Sch) (e:EdgeP):Option Flt :=
 if e.coarse=0 then none else if (Qf s e.tgt.toNat).kind≠Qe8 e.coarse then some (14,e.cat) else if Qfx s e.seen e.label=false then some (18,e.cat) else none
def Qdb (s:Sch) (l:List EdgeP) (i:Nat):Option Flt:=match l[i]? with | some e=>Qii s e | none=>none
def Qtg (s:Sch) (d:NodeP):Option Flt:=Qg (Qdb s d.edges) d.edges.length
def Qd2 (s:Sch) (k:Nat):Option Flt:=Qtg s (Qf s k)
def Qd3 (s:Sch):Flt:=(Qg (Qd2 s) s.nodes.length).getD (0,0)
theorem Qqd (s:Sch) {l:List EdgeP} {i:Nat} (h:i < l.length):Qdb s l i=Qii s l[i]:=by
 unfold Qdb
 rw [List.getElem?_eq_getElem h]
theorem Qqe {s:Sch} {k i:Nat} {f:Flt} (hk:k < s.nodes.length) (h0:∀ j,j < k→Qd2 s j=none) (hi:i < (Qf s k).edges.length) (h1:∀ j,j < i→Qdb s (Qf s k).edges j=none) (h:Qdb s (Qf s k).edges i=some f):Qd3 s=f:=by
 unfold Qd3
 rw [Qab hk h0 (show Qd2 s k=some f from Qab hi h1 h)]
 rfl
theorem Qof {s:Sch} (h0:∀ j,j < s.nodes.length→Qd2 s j=none):Qd3 s=(0,0):=by
 unfold Qd3
 rw [firstOf_miss.2 h0]
 rfl
theorem Qmj {s:Sch} {k:Nat} (h:∀ j,j < (Qf s k).edges.length→Qdb s (Qf s k).edges j=none):Qd2 s k=none:=firstOf_miss.2 h
set_option maxRecDepth 100000 in
theorem Qk7 (gp:Nat) (s:Sch) (w:World) (h:PlanAt w gp s) (hg:s.Good) (hz:SchSz s):Calls Tryz.prog 7 #[.pointer (some ⟨gp,0,none⟩)] w (fun e w'=>e = .returned (Qe (Qd3 s))∧Ext w w'):=by
 obtain ⟨gl,hpl⟩:=h.lat
 have h512:=Qec hg.fine
 obtain ⟨HLEN,HLAT,HBEL,HNOD,HOK,HHIT,HMISS⟩:=Z7 (fun w1 (hE:Ext w w1)=>Qej gp s w1 (h.ext hE)) (fun w1 (hE:Ext w w1)=>Qb1 gp gl s w1 (hpl.ext hE)) (fun w1 (hE:Ext w w1) a b=>Qqc gl s w1 (hpl.2.2.ext hE) hg a b) (fun k (hk:k < s.nodes.length) w1 (hE:Ext w w1)=>(show Calls Tryz.prog 24 #[.pointer (some ⟨gp,0,none⟩),.int .i64 (k:Int)] w1 (Qhd (Qf s k) w1) by rw [Qar hk]; exact Qgr gp k s w1 (h.ext hE) hk h512 (Qbt hg hz hk))) (fun k (hk:k < s.nodes.length)=>(show NodeOk s (Qf s k) by rw [Qar hk]; exact Qbt hg hz hk)) (fun (k i:Nat) (f:Flt) (hk:k < s.nodes.length) h0 hi h1 h2=>Qqe (s:=s) (k:=k) (i:=i) (f:=f) hk h0 hi h1 h2) (fun h0=>Qof (s:=s) h0)
 obtain ⟨N,hN⟩:=V1 (s.nodes.length)
 rw [← hN] at HLEN HNOD HOK HHIT HMISS
 have HNN:=Qa hN
 obtain ⟨R,hR⟩:=V1 (Qd3 s)
 rw [← hR] at HHIT HMISS ⊢
 have hN0:=nZ N
 have hN5:N≤512:=by rw [hN]; exact h512
 obtain ⟨w1,g2,hw1,hg2,Hw1,Hg2,hZ,hZE⟩:=T0 w 34 #[.int .i64 0,.int .i64 0]
 obtain ⟨HE1,HZ1⟩:=Z2 hZE hZ
 have hlo2:w.heap.size≤g2:=by omega
 clear hw1 hg2 hZ hZE hR hN h hg hz hpl h512
 go_enter Tryz.func7,Tryz.ntmps7
 go_upto_region 1 with fail
 rw [← Hw1.out,← Hg2.out]
 go_wp2_with fail
 refine (HLEN.out w1 HE1.out).mono ?_
 rintro e w1' ⟨rfl,rfl⟩
 go_wp2_with fail
 go_loopw [15] (fun i wr=>∃ k:Nat,k≤N∧i = .int .i64 (k:Int)∧Ext w1 wr∧Hid (∀ j,j < k→Qd2 s j=none)) (fun i _=>N - (intOf i).toNat)
 case atStart=>exact ⟨0,Nat.zero_le _,rfl,Ext.rfl' _,fun j hj=>absurd hj (Nat.not_lt_zero _)⟩
 case round =>
  obtain ⟨k,hk,rfl,hE,HA⟩:=hrel
  by_cases hlt:k < N
  ·have hnod:=HNOD.out k hlt wr (HE1.out.trans' hE)
   have hok:=HOK.out k hlt
   have hhit:=fun i f hi h1 h2=>HHIT.out k i f hlt HA.out hi h1 h2
   have hnn:=fun h=>Qa4 HA.out (show Qd2 s k=none from Qmj h)
   obtain ⟨d,hd⟩:=V1 (Qf s k)
   rw [← hd] at hnod hok hhit hnn
   obtain ⟨HND,HDK,HHT,HNX,HEr⟩:=Z5 hnod hok hhit hnn hE
   have i0:=nZ k
   have i1:(k:Int) < (N:Int):=by omega
   clear hnod hok hhit hnn hd hE HHIT
   go_upto_region 6 with fail
   go_wp2_with fail
   refine HND.out.mono ?_
   rintro e w3 ⟨An',cn',Ae',ce',rfl,_,hX3,hE3⟩
   unfold Qbm
   have hqd:d.edges.length≤64:=HDK.out.few
   obtain ⟨m',hm',q',hq'⟩:=V2 (d.names.length) (d.edges.length)
   rw [← hm',← hq']
   have HQ:=Qa hq'
   have hq0:=nZ q'
   obtain ⟨w5,g4,hw5,hg4,Hw5,Hg4,hD,hDE⟩:=T0 w3 66 #[.int .i64 d.kind,.int .i64 d.at_,.int .i64 d.lo,.int .i64 d.hi,.int .i64 d.most,.slice An' m' cn',.slice Ae' q' ce']
   obtain ⟨HE5,HX5,HD5⟩:=Z3 ((HEr.out.trans' hE3).trans' hDE) (EdgesAt.ext hX3 hDE) hD
   obtain ⟨-,-,-,-,-,-,d6⟩:=X7 hD
   rw [← hq'] at hqd
   clear hX3 hE3 hm' hq' hw5 hg4 hD hDE
   go_upto_region 7 with fail
   rw [← Hw5.out,← Hg4.out]
   go_wp2_with fail
   clear d6
   go_loopw [27] (fun i wx=>∃ q:Nat,q≤q'∧i = .int .i64 (q:Int)∧Ext w5 wx∧Hid (∀ j,j < q→Qdb s d.edges j=none)) (fun i _=>q' - (intOf i).toNat)
   case atStart=>exact ⟨0,Nat.zero_le _,rfl,Ext.rfl' _,fun j hj=>absurd hj (Nat.not_lt_zero _)⟩
   case round =>
    obtain ⟨q,hq,rfl,hE2,HB⟩:=hrel
    by_cases hlt2:q < q'
    ·have hqd2:q < d.edges.length:=by have:=HQ.out; omega
     obtain ⟨b,o,rfl,hb,hc⟩:=HX5.out.cell (by omega)
     have h1:=hc q hqd2
     have hok:=HDK.out.edge q hqd2
     have hef:=Qqd s hqd2
     have hht:=fun f h=>HHT.out q f hqd2 HB.out h
     have hbn:=fun h=>Qa4 HB.out (show Qdb s d.edges q=none from h)
     rw [hef] at hht hbn
     obtain ⟨e,he⟩:=V1 (d.edges[q])
     rw [← he] at h1 hok hht hbn
     have HRG:=Qa (show wr.rangeAt b (o + q * 10) [.string e.name,.bool e.bare,.int .i64 e.at_,.int .i64 e.tgt,.int .i64 e.label,.int .i64 e.wide,.int .i64 e.coarse,.int .i64 e.n,.int .i64 e.seen,.int .i64 e.cat] from fun j v hv=>(hE2.cell (p:=⟨b,o + q * 10 + j,none⟩) hb).trans (h1 j v hv))
     obtain ⟨HOE,HHE,HBN⟩:=Z3 hok hht hbn
     have j0:=nZ q
     have j1:(q:Int) < (q':Int):=by omega
     have hEw2:=HE5.out.trans' hE2
     clear hc h1 hok hef hht hbn he hb hqd2
     obtain ⟨w6,g7,hw6,hg7,Hw6,Hg7,hV,hVE⟩:=T0 wr 70 #[.string e.name,.bool e.bare,.int .i64 e.at_,.int .i64 e.tgt,.int .i64 e.label,.int .i64 e.wide,.int .i64 e.coarse,.int .i64 e.n,.int .i64 e.seen,.int .i64 e.cat]
     obtain ⟨HE6,HF6,HV6⟩:=Z3 (hEw2.trans' hVE) (hE2.trans' hVE) hV
     obtain ⟨-,-,-,-,-,-,v6⟩:=X7 hV
     clear hw6 hg7 hV hVE hE2 hEw2
     go_upto_region 9 with fail
     refine wp_region_lit ?_
     refine wpList_plain rfl fun K0 hK0=>?_
     go_simp
     refine hK0 _ _ ?_
     refine wpList_load_mid rfl 70 _ rfl b (o + q * 10) rfl _ _ HRG.out Tryz.underlying70 rfl Qc5 ?_
     refine wpList_plain rfl fun K0 hK0=>?_
     go_simp
     refine hK0 _ _ ?_
     refine Qd rfl 70 _ _ rfl _ #[.string e.name,.bool e.bare,.int .i64 e.at_,.int .i64 e.tgt,.int .i64 e.label,.int .i64 e.wide,.int .i64 e.coarse,.int .i64 e.n,.int .i64 e.seen,.int .i64 e.cat] rfl rfl Qc5 rfl (by simp [Value.oneCell']) ?_
     go_upto_region 10 with fail
     rw [← Hw6.out,← Hg7.out]
     by_cases hc0:e.coarse=0
     ·have hcb:(e.coarse == 0)=true:=by simpa using hc0
      have HNE:=Qa (HBN.out (show Qii s e=none from if_pos hc0))
      clear hc0 HBN HHE HOE
      go_wp2_with fail
      go_roundw
      case rel=>exact ⟨q + 1,by omega,by go_num,HF6.out,HNE.out⟩
      case measure=>simp [intOf]; omega
     have hcb:(e.coarse == 0)=false:=by simpa using hc0
     have hbare:e.bare=false:=by
      cases hb:e.bare with
      | false=>rfl
      | true=>exact absurd (HOE.out.bare hb).2.1 hc0
     obtain ⟨m,hm,hmN⟩:=HOE.out.to_ hbare
     rw [← HNN.out] at hmN
     have hnod:=HNOD.out m hmN w6 (HE1.out.trans' HE6.out)
     obtain ⟨d2,hd2⟩:=V1 (Qf s m)
     have hEF:Qii s e=if d2.kind≠Qe8 e.coarse then some (14,e.cat) else if Qfx s e.seen e.label=false then some (18,e.cat) else none:=by
      unfold Qii
      rw [if_neg hc0,hm,Int.toNat_natCast,← hd2]
     rw [← hd2] at hnod
     obtain ⟨HND2,HEF⟩:=Z2 hnod hEF
     obtain ⟨-,-,-,v3⟩:=X4 HV6.out
     rw [hm] at v3
     clear hc0 hbare hm hmN hnod hd2 hEF HOE
     go_upto_region 11 with fail
     go_wp2_with fail
     refine HND2.out.mono ?_
     rintro e' w7 ⟨An',cn',Ae',ce',rfl,_,_,hE7⟩
     unfold Qbm
     obtain ⟨m',hm',q2',hq2'⟩:=V2 (d2.names.length) (d2.edges.length)
     rw [← hm',← hq2']
     obtain ⟨w8,g8,hw8,hg8,Hw8,Hg8,hD,hDE⟩:=T0 w7 66 #[.int .i64 d2.kind,.int .i64 d2.at_,.int .i64 d2.lo,.int .i64 d2.hi,.int .i64 d2.most,.slice An' m' cn',.slice Ae' q2' ce']
     obtain ⟨HE8,HF8⟩:=Z2 ((HE6.out.trans' hE7).trans' hDE) ((HF6.out.trans' hE7).trans' hDE)
     have hV8:=(HV6.out.ext hE7).ext hDE
     obtain ⟨HV8,HD8⟩:=Z2 hV8 hD
     have d0:=X1 hD
     obtain ⟨-,-,-,-,u4,-,u6,-,u8,u9⟩:=X10 hV8
     clear hE7 hm' hq2' hw8 hg8 hD hDE hV8 v3 v6
     go_upto_region 12 with fail
     rw [← Hw8.out,← Hg8.out]
     have HA1:=Qa (fun n:Nat=>Qev (n:=n) (Qrw e.coarse (_root_.Go.World.drewN w8 n)))
     have hef:=HEF.out
     go_quiet ((go_at_call 25; with_reducible exact HA1.out _))
     obtain ⟨w9,hw9⟩:=V1 (w8.drewN nq)
     have hE9:Ext w8 w9:=by rw [hw9]; exact Qp (Ext.rfl' _) nq
     have hV9:=HV8.out.ext hE9
     obtain ⟨HE9,HF9⟩:=Z2 (HE8.out.trans' hE9) (HF8.out.trans' hE9)
     rw [← hw9]
     have HV9:=Qa hV9
     clear hw9 hE9 hV9 d0 u4 u6 u8 u9 HA1
     have HEF2:=Qa hef
     clear hef
     have hZ9:=HZ1.out.ext HE9.out
     obtain ⟨-,-,-,-,u4,-,-,-,u8,u9⟩:=X10 HV9.out
     obtain ⟨z0,z1⟩:=X2 hZ9
     obtain ⟨f0,f1⟩:=Y2 hZ9
     have HZ9:=Qa hZ9
     clear hZ9
     by_cases hk2:d2.kind=Qe8 e.coarse
     rotate_left
     ·have hkb:(d2.kind != Qe8 e.coarse)=true:=by rw [bne_iff_ne]; exact hk2
      have hX:=HHE.out (14,e.cat) (by rw [HEF2.out,if_pos hk2])
      have HX:=Qa hX
      clear hX hk2
      go_wp2_with fail
      exact Qc (f:=(14,e.cat)) (g:=g2) ((HZ9.out.set_ 0 _).set_ 1 _) rfl rfl rfl ⟨by rw [HX.out],ext_two' (HE1.out.trans' HE9.out) hlo2 _ _⟩
     have hkb:(d2.kind != Qe8 e.coarse)=false:=by simpa using hk2
     have hef:=HEF2.out
     rw [if_neg (fun hh=>hh hk2)] at hef
     obtain ⟨HA2,HA3⟩:=Z2 (fun n:Nat=>Qev (n:=n) (HLAT.out (_root_.Go.World.drewN w9 n) (Qp (HE1.out.trans' HE9.out) n))) (fun n:Nat=>Qev (n:=n) (HBEL.out (_root_.Go.World.drewN w9 n) (Qp (HE1.out.trans' HE9.out) n) e.seen e.label))
     obtain ⟨BB,hBB⟩:=V1 (Qfx s e.seen e.label)
     rw [← hBB] at hef HA3
     have HEF3:=Qa hef
     clear hef hk2 hBB
     go_upto_region 14 with fail
     go_quiet ((first | (go_at_call 19; with_reducible exact HA2.out _) | (go_at_call 26; with_reducible exact HA3.out _)))
     obtain ⟨w10,hw10⟩:=V1 (w9.drewN nq)
     have hE10:Ext w9 w10:=by rw [hw10]; exact Qp (Ext.rfl' _) nq
     obtain ⟨HE10,HF10⟩:=Z2 (HE9.out.trans' hE10) (HF9.out.trans' hE10)
     have hV10:=HV9.out.ext hE10
     have hZ10:=HZ9.out.ext hE10
     rw [← hw10]
     clear hw10 u4 u8 u9 z0 z1 f0 f1 HA2 HA3
     obtain ⟨-,-,-,-,-,-,-,-,-,u9⟩:=X10 hV10
     obtain ⟨z0,z1⟩:=X2 hZ10
     obtain ⟨f0,f1⟩:=Y2 hZ10
     have HZ10:=Qa hZ10
     clear hE10 hV10 hZ10
     cases BB with
     | false =>
      have HX:=Qa (HHE.out (18,e.cat) (by rw [HEF3.out,if_pos rfl]))
      go_wp2_with fail
      exact Qc (f:=(18,e.cat)) (g:=g2) ((HZ10.out.set_ 0 _).set_ 1 _) rfl rfl rfl ⟨by rw [HX.out],ext_two' (HE1.out.trans' HE10.out) hlo2 _ _⟩
     | true =>
      have HNE:=Qa (HBN.out (by rw [HEF3.out,if_neg (by decide)]))
      go_wp2_with fail
      go_roundw
      case rel=>exact ⟨q + 1,by omega,by go_num,HF10.out,HNE.out⟩
      case measure=>simp [intOf]; omega
    ·obtain rfl:q=q':=by omega
     obtain ⟨HNE,HEq⟩:=Z2 (HNX.out (fun j hj=>HB.out j (by have:=HQ.out; omega))) (HE5.out.trans' hE2)
     clear hE2 HNX HB
     go_wp2_with fail
     go_roundw
     case rel=>exact ⟨k + 1,by omega,by go_num,HEq.out,HNE.out⟩
     case measure=>simp [intOf]; omega
  ·obtain rfl:k=N:=by omega
   have HX:=Qa (HMISS.out (fun j hj=>HA.out j (by have:=HNN.out; omega)))
   have hZr:=HZ1.out.ext hE
   have HEr:=Qa (HE1.out.trans' hE)
   obtain ⟨z0,z1⟩:=X2 hZr
   obtain ⟨f0,f1⟩:=Y2 hZr
   have HZr:=Qa hZr
   clear hZr hE HMISS HHIT
   go_wp2_with fail
   exact Qc (f:=(0,0)) (g:=g2) ((HZr.out.set_ 0 _).set_ 1 _) rfl rfl rfl ⟨by rw [HX.out],ext_two' HEr.out hlo2 _ _⟩
def jnS (s:Sch) (a b:Nat):Nat:=LatM.jn s.ws.length (Qu s.ws s.os) a b
def Qcc (s:Sch):Nat:=LatM.topN s.ws.length (Qd9 (Qu s.ws s.os))
theorem Qij {s:Sch} (hg:s.Good) {a b:Nat} (ha:a < s.ws.length) (hb:b < s.ws.length):jnS s a b < s.ws.length:=(LatM.jn_eq hg.lat.lat ha hb).2
theorem Qet {s:Sch} (hg:s.Good):Qcc s < s.ws.length:=LatM.topN_lt hg.lat.lat.turn
theorem Qmx (g:Nat) (s:Sch) (w:World) (h:LatAt w g s.ws s.os) (hg:s.Good) (a b:Nat) (ha:a < s.ws.length) (hb:b < s.ws.length):Calls Tryz.prog 46 #[.pointer (some ⟨g,0,none⟩),.int .i64 (a:Int),.int .i64 (b:Int)] w (fun e w'=>e = .returned (.int .i64 (jnS s a b:Nat))∧w=w'):=by
 have:=Qgm g s.ws s.os w h hg.lat.few a b
 rw [Qc7 ha hb,(LatM.jn_eq hg.lat.lat ha hb).1] at this
 exact this
theorem Qfy (g:Nat) (s:Sch) (w:World) (h:LatAt w g s.ws s.os) (hg:s.Good):Calls Tryz.prog 20 #[.pointer (some ⟨g,0,none⟩)] w (fun e w'=>e = .returned (.int .i64 (Qcc s:Nat))∧w=w') :=
 Qfc g s.ws s.os w h hg.lat.few hg.lat.lat.turn
def Qhe (s:Sch) (x:Nat) (st:StP):Option EdgeP:=(Qf s x).edges.find? (fun e=>Qch (Qf s x) e st)
def Qdh (s:Sch) (x:Nat × Nat) (st:StP):Option (Nat × Nat):=match Qhe s x.1 st with | some e=>some (e.tgt.toNat,jnS s x.2 e.label.toNat) | none=>none
def Qry:Option (Nat × Nat)→Value
 | none=>.tuple #[.agg #[.int .i64 0,.int .i64 0],.bool false]
 | some y=>.tuple #[.agg #[.int .i64 (y.1:Int),.int .i64 (y.2:Int)],.bool true]
theorem Qfz {s:Sch} {d:NodeP} {e:EdgeP} {st:StP} (he:EdgeOk s d e) (h:Qch d e st=true):e.bare=false:=by
 cases hb:e.bare with
 | false=>rfl
 | true =>
  have h8:=(he.bare hb).1
  unfold Qch at h
  rw [h8,hb] at h
  simp at h
theorem Qog {α:Type} {p:α→Bool} {l:List α} {i:Nat} (hi:i < l.length) (h0:∀ j (hj:j < l.length),j < i→p l[j]=false) (h:p l[i]=true):l.find? p=some l[i]:=by
 induction l generalizing i with
 | nil=>simp at hi
 | cons a r ih =>
  cases i with
  | zero=>rw [List.find?_cons_of_pos (by simpa using h)]; rfl
  | succ i =>
   have ha:p a=false:=h0 0 (Nat.succ_pos _) (Nat.succ_pos _)
   rw [List.find?_cons_of_neg (by rw [ha]; decide)]
   exact ih (by simpa using hi) (fun j hj hji=>h0 (j + 1) (by simpa using hj) (by omega)) h
theorem Qsm {s:Sch} {x:Nat × Nat} {st:StP} {d:NodeP} (hd:d=Qf s x.1) {i:Nat} (hi:i < d.edges.length) (h0:∀ j (hj:j < d.edges.length),j < i→Qch d d.edges[j] st=false) (h:Qch d d.edges[i] st=true) {m l:Nat} (hm:d.edges[i].tgt=m) (hl:d.edges[i].label=l):Qdh s x st=some (m,jnS s x.2 l):=by
 subst hd
 unfold Qdh Qhe
 rw [Qog hi h0 h]
 dsimp only
 rw [hm,hl,Int.toNat_natCast,Int.toNat_natCast]
theorem Qrz {s:Sch} {x:Nat × Nat} {st:StP} {d:NodeP} (hd:d=Qf s x.1) (h0:∀ j (hj:j < d.edges.length),Qch d d.edges[j] st=false):Qdh s x st=none:=by
 subst hd
 unfold Qdh Qhe
 rw [List.find?_eq_none.2 fun e he=>by
  obtain ⟨j,hj,rfl⟩:=List.getElem_of_mem he
  rw [h0 j hj]; decide]
theorem Qgf {fn:Func} {u p:Tmp} {cs:Array Value} (h:fn.results=#[.cell p 103,.tmp u]) (tmps:Array Value) (w:World) (g:Nat) (hp:tmps.getD p undef = .pointer (some ⟨g,0,none⟩)) (hB:Blk w g 103 cs) (hi:(Tryz.prog.info? 103).map (·.size)=some cs.size) :
  (results fn tmps).run Tryz.prog w = .ok (.tuple #[.agg cs,tmps.getD u undef]) w:=by
 have hp':tmps[p]?.getD undef = .pointer (some ⟨g,0,none⟩):=by simpa using hp
 have hl:=run_loadVar_row (P:=Tryz.prog) (ty:=103) w g 103 cs (0,0) _ hB Tryz.underlying103 rfl hi
 simp [results,h,hp',asAddr,hl]
theorem Qfd {g:Nat} {w2:World} {fn:Func} {u p:Tmp} {a:Act} {R:Ending→World→Prop} {cs:Array Value} {v:Value} (hB:Blk w2 g 103 cs) (hi:(Tryz.prog.info? 103).map (·.size)=some cs.size) (hfn:fn.results=#[.cell p 103,.tmp u]) (hu:a.tmps.getD u undef=v) (hp:a.tmps.getD p undef = .pointer (some ⟨g,0,none⟩)) (hd:a.defers = [])
  (hR:R (.returned (.tuple #[.agg cs,v])) w2):bodyPost Tryz.prog fn R .ret a w2:=by
 subst hu
 exact bodyPost_ret (Qgf hfn _ _ g hp hB hi) hd hR
set_option maxRecDepth 100000 in
theorem Qmk (gp:Nat) (s:Sch) (w:World) (h:PlanAt w gp s) (hg:s.Good) (hz:SchSz s) (x:Nat × Nat) (st:StP) (hx1:x.1 < s.nodes.length) (hx2:x.2 < s.ws.length):Calls Tryz.prog 43 #[.pointer (some ⟨gp,0,none⟩),.agg #[.int .i64 (x.1:Int),.int .i64 (x.2:Int)],.agg (stV st).toArray] w (fun e w'=>e = .returned (Qry (Qdh s x st))∧Ext w w'):=by
 obtain ⟨gl,hpl⟩:=h.lat
 have h512:=Qec hg.fine
 have hlf:=hg.lat.few
 obtain ⟨HLAT,HJN,HJL⟩:=Z3 (fun w1 (hE:Ext w w1)=>Qb1 gp gl s w1 (hpl.ext hE)) (fun w1 (hE:Ext w w1) (l:Nat) (hl:l < s.ws.length)=>Qmx gl s w1 (hpl.2.2.ext hE) hg x.2 l hx2 hl) (fun (l:Nat) (hl:l < s.ws.length)=>Nat.lt_of_lt_of_le (Qij hg hx2 hl) hlf)
 have hnod:=fun w1 (hE:Ext w w1)=>(show Calls Tryz.prog 24 #[.pointer (some ⟨gp,0,none⟩),.int .i64 (x.1:Int)] w1 (Qhd (Qf s x.1) w1) by rw [Qar hx1]; exact Qgr gp x.1 s w1 (h.ext hE) hx1 h512 (Qbt hg hz hx1))
 have hok:NodeOk s (Qf s x.1):=by rw [Qar hx1]; exact Qbt hg hz hx1
 obtain ⟨d,hd⟩:=V1 (Qf s x.1)
 obtain ⟨HHIT,HMISS⟩:=Z2 (fun i hi h0 h1 m l hm hl=>Qsm (s:=s) (x:=x) (st:=st) hd (i:=i) hi h0 h1 (m:=m) (l:=l) hm hl) (fun h0=>Qrz (s:=s) (x:=x) (st:=st) hd h0)
 rw [← hd] at hnod hok
 obtain ⟨HFIT,HND,HDK⟩:=Z3 (fun e An cn Ae ce w1=>Qrx d e st An cn Ae ce w1) hnod hok
 obtain ⟨R,hR⟩:=V1 (Qdh s x st)
 rw [← hR] at HHIT HMISS ⊢
 obtain ⟨x1,x2⟩:=x
 dsimp only at *
 unfold stV at HFIT ⊢
 obtain ⟨w1,g1,hw1,hg1,Hw1,Hg1,hX,hXE⟩:=T0 w 103 #[.int .i64 (x1:Int),.int .i64 (x2:Int)]
 obtain ⟨w2,g2,hw2,hg2,Hw2,Hg2,hS,hSE⟩:=T0 w1 76 #[.int .i64 st.kind,.int .i64 st.n,.string st.name]
 obtain ⟨w3,g3,hw3,hg3,Hw3,Hg3,hZ,hZE⟩:=T0 w2 103 #[.int .i64 0,.int .i64 0]
 have Hg2':=Qa (show g2=g1 + 1 by rw [hg2,hw1,World.size_alloc,← hg1])
 have Hg3':=Qa (show g3=g2 + 1 by rw [hg3,hw2,World.size_alloc,← hg2])
 obtain ⟨HE3,HX3,HS3,HZ3⟩:=Z4 ((hXE.trans' hSE).trans' hZE) ((hX.ext hSE).ext hZE) (hS.ext hZE) hZ
 have hlo3:w.heap.size≤g3:=by have:=hXE.size; have:=hSE.size; omega
 have t0:=X1 HX3.out
 clear hw1 hg1 hw2 hg2 hw3 hg3 hX hXE hS hSE hZ hZE hR hd hnod hok h hg hz hpl h512 hlf hx1 hx2
 go_enter Tryz.func43,Tryz.ntmps43
 go_upto_region 1 with fail
 rw [← Hw1.out,← Hg1.out,← Hw2.out,← Hg2'.out,← Hw3.out,← Hg3'.out]
 go_wp2_with fail
 refine (HND.out w3 HE3.out).mono ?_
 rintro e w4 ⟨An',cn',Ae',ce',rfl,_,hX4,hE4⟩
 unfold Qbm at HFIT ⊢
 have hqd:d.edges.length≤64:=HDK.out.few
 obtain ⟨m',hm',q',hq'⟩:=V2 (d.names.length) (d.edges.length)
 rw [← hm',← hq'] at HFIT ⊢
 have HQ:=Qa hq'
 have hq0:=nZ q'
 obtain ⟨w5,g5,hw5,hg5,Hw5,Hg5,hD,hDE⟩:=T0 w4 66 #[.int .i64 d.kind,.int .i64 d.at_,.int .i64 d.lo,.int .i64 d.hi,.int .i64 d.most,.slice An' m' cn',.slice Ae' q' ce']
 obtain ⟨HE5,HX5,HD5,HP5,HS5,HZ5⟩:=Z6 ((HE3.out.trans' hE4).trans' hDE) (EdgesAt.ext hX4 hDE) hD ((HX3.out.ext hE4).ext hDE) ((HS3.out.ext hE4).ext hDE) ((HZ3.out.ext hE4).ext hDE)
 obtain ⟨-,-,-,-,-,-,d6⟩:=X7 hD
 rw [← hq'] at hqd
 clear hX4 hE4 hm' hq' hw5 hg5 hD hDE t0
 go_upto_region 2 with fail
 rw [← Hw5.out,← Hg5.out]
 go_wp2_with fail
 clear d6
 go_loopw [22] (fun i wx=>∃ q:Nat,q≤q'∧i = .int .i64 (q:Int)∧Ext w5 wx∧Hid (∀ j (hj:j < d.edges.length),j < q→Qch d d.edges[j] st=false)) (fun i _=>q' - (intOf i).toNat)
 case atStart=>exact ⟨0,Nat.zero_le _,rfl,Ext.rfl' _,fun j _ hj=>absurd hj (Nat.not_lt_zero _)⟩
 case round =>
  obtain ⟨q,hq,rfl,hE2,HB⟩:=hrel
  by_cases hlt2:q < q'
  ·have hqd2:q < d.edges.length:=by have:=HQ.out; omega
   obtain ⟨b,o,rfl,hb,hc⟩:=HX5.out.cell (by omega)
   have h1:=hc q hqd2
   have hok:=HDK.out.edge q hqd2
   have hht:=fun h m l hm hl=>HHIT.out q hqd2 HB.out h m l hm hl
   have hbn:Qch d d.edges[q] st=false→∀ j (hj:j < d.edges.length),j < q + 1→Qch d d.edges[j] st=false:=fun h j hj hjq=>by
    by_cases e:j=q
    ·subst e; exact h
    ·exact HB.out j hj (by omega)
   obtain ⟨e,he⟩:=V1 (d.edges[q])
   rw [← he] at h1 hok hht hbn
   obtain ⟨HOE,HHE,HBN⟩:=Z3 hok hht hbn
   have HRG:=Qa (show wr.rangeAt b (o + q * 10) [.string e.name,.bool e.bare,.int .i64 e.at_,.int .i64 e.tgt,.int .i64 e.label,.int .i64 e.wide,.int .i64 e.coarse,.int .i64 e.n,.int .i64 e.seen,.int .i64 e.cat] from fun j v hv=>(hE2.cell (p:=⟨b,o + q * 10 + j,none⟩) hb).trans (h1 j v hv))
   have j0:=nZ q
   have j1:(q:Int) < (q':Int):=by omega
   have hEw2:=HE5.out.trans' hE2
   have HP6:=Qa (HP5.out.ext hE2)
   have hfit:=HFIT.out e An' cn' (some ⟨b,o,none⟩) ce'
   unfold Qaj at hfit
   have HFI:=Qa hfit
   clear hc h1 hok hht hbn he hb hqd2 hfit
   obtain ⟨w6,g7,hw6,hg7,Hw6,Hg7,hV,hVE⟩:=T0 wr 70 #[.string e.name,.bool e.bare,.int .i64 e.at_,.int .i64 e.tgt,.int .i64 e.label,.int .i64 e.wide,.int .i64 e.coarse,.int .i64 e.n,.int .i64 e.seen,.int .i64 e.cat]
   obtain ⟨HE6,HF6,HV6⟩:=Z3 (hEw2.trans' hVE) (hE2.trans' hVE) hV
   have hD6:=HD5.out.ext HF6.out
   have hS6:=HS5.out.ext HF6.out
   obtain ⟨v0,v1,v2,v3,v4,v5,v6,v7,v8,v9⟩:=X10 hV
   obtain ⟨d0,d1,d2,d3,d4,d5,d6⟩:=X7 hD6
   obtain ⟨s0,s1,s2⟩:=X3 hS6
   clear hw6 hg7 hV hVE hE2 hEw2 hD6 hS6
   go_upto_region 4 with fail
   refine wp_region_lit ?_
   refine wpList_plain rfl fun K0 hK0=>?_
   go_simp
   refine hK0 _ _ ?_
   refine wpList_load_mid rfl 70 _ rfl b (o + q * 10) rfl _ _ HRG.out Tryz.underlying70 rfl Qc5 ?_
   refine wpList_plain rfl fun K0 hK0=>?_
   go_simp
   refine hK0 _ _ ?_
   refine Qd rfl 70 _ _ rfl _ #[.string e.name,.bool e.bare,.int .i64 e.at_,.int .i64 e.tgt,.int .i64 e.label,.int .i64 e.wide,.int .i64 e.coarse,.int .i64 e.n,.int .i64 e.seen,.int .i64 e.cat] rfl rfl Qc5 rfl (by simp [Value.oneCell']) ?_
   go_upto_region 5 with fail
   rw [← Hw6.out,← Hg7.out]
   go_wp2_with fail
   refine (HFI.out w6).mono ?_
   rintro e' w7 ⟨rfl,hE7⟩
   obtain ⟨HE7,HF7,HV7⟩:=Z3 (HE6.out.trans' hE7) (HF6.out.trans' hE7) (HV6.out.ext hE7)
   obtain ⟨FB_,hFB⟩:=V1 (Qch d e st)
   rw [← hFB]
   have HFB:=Qa hFB
   clear hE7 v0 v1 v2 v3 v4 v5 v6 v7 v8 v9 d0 d1 d2 d3 d4 d5 d6 s0 s1 s2 hFB
   cases FB_ with
   | false =>
    have HNE:=Qa (HBN.out HFB.out.symm)
    go_wp2_with fail
    go_roundw
    case rel=>exact ⟨q + 1,by omega,by go_num,HF7.out,HNE.out⟩
    case measure=>simp [intOf]; omega
   | true =>
    obtain ⟨m,hm,_⟩:=HOE.out.to_ (Qfz HOE.out HFB.out.symm)
    obtain ⟨l,hl,hlw⟩:=HOE.out.lab
    have HR:=Qa (HHE.out HFB.out.symm m l hm hl)
    have hJN:=fun w1 (hE:Ext w w1)=>HJN.out w1 hE l hlw
    obtain ⟨J,hJ⟩:=V1 (jnS s x2 l)
    rw [← hJ] at hJN
    have HJ:=Qa hJN
    have hR:=HR.out
    rw [← hJ] at hR
    have HRR:=Qa hR
    have hV7:=HV7.out
    rw [hm,hl] at hV7
    have hP7:=(HP5.out.ext HF7.out)
    obtain ⟨-,-,-,v3,v4⟩:=X5 hV7
    obtain ⟨-,p1⟩:=X2 hP7
    have hZ7:=HZ5.out.ext HF7.out
    have HZ7:=Qa hZ7
    clear hm hl hlw hJN hJ hR hV7 hP7 hZ7
    go_upto_region 6 with fail
    rename_i Kz hKz
    refine Qcy [0,1,2,4,5,6,7] [3,8,9] [] [] [10,11] 10 (by kernel_rfl) (by kernel_rfl) (fun w'=>(w'.cell? ⟨g7,3,none⟩=some (.int .i64 (m:Int))∧w'.cell? ⟨g7,4,none⟩=some (.int .i64 (l:Int)))∧w'.cell? ⟨g1,1,none⟩=some (.int .i64 (x2:Int))) ⟨⟨v3,v4⟩,p1⟩ ?_
    intro I _ f hf
    have q3:=fun n=>(hf n).1.1
    have q4:=fun n=>(hf n).1.2
    have q5:=fun n=>(hf n).2
    clear hf
    simp only [Q3,List.map_cons,List.map_nil,gA,gH,gS,Option.getD_some]
    repeat (go_big_quiet_step ((fail)))
    refine wpQuiet_nil ?_
    clear q3 q4 q5
    refine Qq rfl ?_
    intro K1 hK1
    go_simp
    refine (HLAT.out _ (HE7.out.drew')).mono ?_
    rintro e' w8 ⟨rfl,rfl⟩
    refine hK1 _ _ ⟨⟨v3,v4⟩,p1⟩ ?_
    refine Qq rfl ?_
    intro K2 hK2
    go_simp
    refine (HJ.out _ (HE7.out.drew')).mono ?_
    rintro e' w8 ⟨rfl,rfl⟩
    refine hK2 _ _ ⟨⟨v3,v4⟩,p1⟩ ?_
    refine Qq rfl ?_
    intro K3 hK3
    go_simp
    refine hK3 _ _ ⟨⟨v3,v4⟩,p1⟩ ?_
    refine Qa0 ?_
    refine wpQuiet_nil ?_
    refine Qa0 ?_
    have hZ8:=HZ7.out.drewN 1
    obtain ⟨z0,z1⟩:=X2 HZ7.out
    obtain ⟨f0,f1⟩:=Y2 HZ7.out
    obtain ⟨HZ8,HE8⟩:=Z2 hZ8 (HE7.out.drew')
    clear hZ8 v3 v4 p1
    go_wp2_with fail
    refine hKz _ _ ?_
    go_wp2_with fail
    refine Qfd (g:=g3) ((HZ8.out.set_ 0 (.int .i64 (m:Int))).set_ 1 (.int .i64 (J:Int))) (by kernel_rfl) rfl rfl rfl rfl ⟨by rw [HRR.out]; rfl,?_⟩
    exact (HE8.out.setCell (p:=⟨g3,0,none⟩) hlo3 _).setCell (p:=⟨g3,1,none⟩) hlo3 _
  ·obtain rfl:q=q':=by omega
   have HR:=Qa (HMISS.out (fun j hj=>HB.out j hj (by have:=HQ.out; omega)))
   have hZ7:=HZ5.out.ext hE2
   obtain ⟨z0,z1⟩:=X2 hZ7
   obtain ⟨f0,f1⟩:=Y2 hZ7
   obtain ⟨HZ7,HE7⟩:=Z2 hZ7 (HE5.out.trans' hE2)
   clear hZ7 hE2 HB HHIT HMISS
   go_wp2_with fail
   refine Qfd (g:=g3) ((HZ7.out.set_ 0 (.int .i64 0)).set_ 1 (.int .i64 0)) (by kernel_rfl) rfl rfl rfl rfl ⟨by rw [HR.out]; rfl,?_⟩
   exact (HE7.out.setCell (p:=⟨g3,0,none⟩) hlo3 _).setCell (p:=⟨g3,1,none⟩) hlo3 _
end Go.Proofs.YtanpljalbijfkaaGreat
