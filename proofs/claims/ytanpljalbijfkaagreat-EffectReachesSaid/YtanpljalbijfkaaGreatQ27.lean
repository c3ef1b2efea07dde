/- . -/
import Derived.Test.YtanpljalbijfkaaGreatQ01
import Derived.Test.YtanpljalbijfkaaGreatQ13
import Derived.Test.YtanpljalbijfkaaGreatQ16
import Derived.Test.YtanpljalbijfkaaGreatQ26
namespace Go.Proofs.YtanpljalbijfkaaGreat
open Go.RowKit
set_option maxHeartbeats 16000000
structure StP where
 kind:Int
 n:Int
 name:ByteArray
def stV (x:StP):List Value:=[.int .i64 x.kind,.int .i64 x.n,.string x.name]
def stB (x:StP):Bool :=
 if x.kind=1∨x.kind=5 then decide (x.n=0) && Qj x.name else if x.kind=2 then decide (0≤x.n) && decide (x.name.toList = []) else if x.kind=3∨x.kind=4 then decide (x.n=0) && decide (x.name.toList = []) else false
set_option maxRecDepth 100000 in
theorem Qnf (x:StP) (w:World) (hs:x.name.size≤maxLen):Calls Tryz.prog 81 #[.agg (stV x).toArray] w (fun e w'=>e = .returned (.bool (stB x))∧Ext w w'):=by
 obtain ⟨k,n,nm⟩:=x;have HR:=hide (fun w1=>right_any nm w1 hs)
 unfold stB stV;dsimp only
 obtain ⟨rb,hrb⟩:=V1 (Qj nm);rw [← hrb];rw [← hrb] at HR;clear hrb hs;obtain ⟨w1,g1,hw1,hg1,Hw1,Hg1,hT,hTE⟩:=T0 w 76 #[.int .i64 k,.int .i64 n,.string nm];obtain ⟨t0,t1,t2⟩:=X3 hT;have HE:=hide hTE;have hw1':=hw1;clear hw1 hg1 hT hTE;have HW1':=hide hw1';clear hw1';by_cases h1:k=1
 ·subst h1;by_cases hn:n=0
  ·subst hn;by_cases hm:nm.toList = []
   ·go_enter Tryz.func81,Tryz.ntmps81
    go_upto_region 1 with fail
    rw [← HW1'.out,← Hg1.out];go_wp2_with fail
    refine (HR.out _).mono ?_;rintro e w2 ⟨rfl,rfl⟩;go_wp2_with fail
    go_ret
    exact ⟨Qb (by simp),HE.out⟩
   ·go_enter Tryz.func81,Tryz.ntmps81
    go_upto_region 1 with fail
    rw [← HW1'.out,← Hg1.out];go_wp2_with fail
    refine (HR.out _).mono ?_;rintro e w2 ⟨rfl,rfl⟩;go_wp2_with fail
    go_ret
    exact ⟨Qb (by simp),HE.out⟩
  ·have hn':(n == 0)=false:=by simpa using hn
   by_cases hm:nm.toList = []
   ·by_cases hp:0≤n
    ·go_enter Tryz.func81,Tryz.ntmps81
     go_upto_region 1 with fail
     rw [← HW1'.out,← Hg1.out];go_wp2_with fail
     go_ret
     exact ⟨Qb (by simp),HE.out⟩
    ·go_enter Tryz.func81,Tryz.ntmps81
     go_upto_region 1 with fail
     rw [← HW1'.out,← Hg1.out];go_wp2_with fail
     go_ret
     exact ⟨Qb (by simp),HE.out⟩
   ·by_cases hp:0≤n
    ·go_enter Tryz.func81,Tryz.ntmps81
     go_upto_region 1 with fail
     rw [← HW1'.out,← Hg1.out];go_wp2_with fail
     go_ret
     exact ⟨Qb (by simp),HE.out⟩
    ·go_enter Tryz.func81,Tryz.ntmps81
     go_upto_region 1 with fail
     rw [← HW1'.out,← Hg1.out];go_wp2_with fail
     go_ret
     exact ⟨Qb (by simp),HE.out⟩
 by_cases h2:k=2
 ·subst h2;by_cases hn:n=0
  ·subst hn;by_cases hm:nm.toList = []
   ·go_enter Tryz.func81,Tryz.ntmps81
    go_upto_region 1 with fail
    rw [← HW1'.out,← Hg1.out];go_wp2_with fail
    go_ret
    exact ⟨Qb (by simp),HE.out⟩
   ·go_enter Tryz.func81,Tryz.ntmps81
    go_upto_region 1 with fail
    rw [← HW1'.out,← Hg1.out];go_wp2_with fail
    go_ret
    exact ⟨Qb (by simp [hm]),HE.out⟩
  ·have hn':(n == 0)=false:=by simpa using hn
   by_cases hm:nm.toList = []
   ·by_cases hp:0≤n
    ·go_enter Tryz.func81,Tryz.ntmps81
     go_upto_region 1 with fail
     rw [← HW1'.out,← Hg1.out];go_wp2_with fail
     go_ret
     exact ⟨Qb (by simp),HE.out⟩
    ·go_enter Tryz.func81,Tryz.ntmps81
     go_upto_region 1 with fail
     rw [← HW1'.out,← Hg1.out];go_wp2_with fail
     go_ret
     exact ⟨Qb (by simp [hp]),HE.out⟩
   ·by_cases hp:0≤n
    ·go_enter Tryz.func81,Tryz.ntmps81
     go_upto_region 1 with fail
     rw [← HW1'.out,← Hg1.out];go_wp2_with fail
     go_ret
     exact ⟨Qb (by simp [hm]),HE.out⟩
    ·go_enter Tryz.func81,Tryz.ntmps81
     go_upto_region 1 with fail
     rw [← HW1'.out,← Hg1.out];go_wp2_with fail
     go_ret
     exact ⟨Qb (by simp),HE.out⟩
 by_cases h3:k=3
 ·subst h3;by_cases hn:n=0
  ·subst hn;by_cases hm:nm.toList = []
   ·go_enter Tryz.func81,Tryz.ntmps81
    go_upto_region 1 with fail
    rw [← HW1'.out,← Hg1.out];go_wp2_with fail
    go_ret
    exact ⟨Qb (by simp),HE.out⟩
   ·go_enter Tryz.func81,Tryz.ntmps81
    go_upto_region 1 with fail
    rw [← HW1'.out,← Hg1.out];go_wp2_with fail
    go_ret
    exact ⟨Qb (by simp [hm]),HE.out⟩
  ·have hn':(n == 0)=false:=by simpa using hn
   by_cases hm:nm.toList = []
   ·by_cases hp:0≤n
    ·go_enter Tryz.func81,Tryz.ntmps81
     go_upto_region 1 with fail
     rw [← HW1'.out,← Hg1.out];go_wp2_with fail
     go_ret
     exact ⟨Qb (by simp),HE.out⟩
    ·go_enter Tryz.func81,Tryz.ntmps81
     go_upto_region 1 with fail
     rw [← HW1'.out,← Hg1.out];go_wp2_with fail
     go_ret
     exact ⟨Qb (by simp),HE.out⟩
   ·by_cases hp:0≤n
    ·go_enter Tryz.func81,Tryz.ntmps81
     go_upto_region 1 with fail
     rw [← HW1'.out,← Hg1.out];go_wp2_with fail
     go_ret
     exact ⟨Qb (by simp),HE.out⟩
    ·go_enter Tryz.func81,Tryz.ntmps81
     go_upto_region 1 with fail
     rw [← HW1'.out,← Hg1.out];go_wp2_with fail
     go_ret
     exact ⟨Qb (by simp),HE.out⟩
 by_cases h4:k=4
 ·subst h4;by_cases hn:n=0
  ·subst hn;by_cases hm:nm.toList = []
   ·go_enter Tryz.func81,Tryz.ntmps81
    go_upto_region 1 with fail
    rw [← HW1'.out,← Hg1.out];go_wp2_with fail
    go_ret
    exact ⟨Qb (by simp),HE.out⟩
   ·go_enter Tryz.func81,Tryz.ntmps81
    go_upto_region 1 with fail
    rw [← HW1'.out,← Hg1.out];go_wp2_with fail
    go_ret
    exact ⟨Qb (by simp [hm]),HE.out⟩
  ·have hn':(n == 0)=false:=by simpa using hn
   by_cases hm:nm.toList = []
   ·by_cases hp:0≤n
    ·go_enter Tryz.func81,Tryz.ntmps81
     go_upto_region 1 with fail
     rw [← HW1'.out,← Hg1.out];go_wp2_with fail
     go_ret
     exact ⟨Qb (by simp),HE.out⟩
    ·go_enter Tryz.func81,Tryz.ntmps81
     go_upto_region 1 with fail
     rw [← HW1'.out,← Hg1.out];go_wp2_with fail
     go_ret
     exact ⟨Qb (by simp),HE.out⟩
   ·by_cases hp:0≤n
    ·go_enter Tryz.func81,Tryz.ntmps81
     go_upto_region 1 with fail
     rw [← HW1'.out,← Hg1.out];go_wp2_with fail
     go_ret
     exact ⟨Qb (by simp),HE.out⟩
    ·go_enter Tryz.func81,Tryz.ntmps81
     go_upto_region 1 with fail
     rw [← HW1'.out,← Hg1.out];go_wp2_with fail
     go_ret
     exact ⟨Qb (by simp),HE.out⟩
 by_cases h5:k=5
 ·subst h5;by_cases hn:n=0
  ·subst hn;by_cases hm:nm.toList = []
   ·go_enter Tryz.func81,Tryz.ntmps81
    go_upto_region 1 with fail
    rw [← HW1'.out,← Hg1.out];go_wp2_with fail
    refine (HR.out _).mono ?_;rintro e w2 ⟨rfl,rfl⟩;go_wp2_with fail
    go_ret
    exact ⟨Qb (by simp),HE.out⟩
   ·go_enter Tryz.func81,Tryz.ntmps81
    go_upto_region 1 with fail
    rw [← HW1'.out,← Hg1.out];go_wp2_with fail
    refine (HR.out _).mono ?_;rintro e w2 ⟨rfl,rfl⟩;go_wp2_with fail
    go_ret
    exact ⟨Qb (by simp),HE.out⟩
  ·have hn':(n == 0)=false:=by simpa using hn
   by_cases hm:nm.toList = []
   ·by_cases hp:0≤n
    ·go_enter Tryz.func81,Tryz.ntmps81
     go_upto_region 1 with fail
     rw [← HW1'.out,← Hg1.out];go_wp2_with fail
     go_ret
     exact ⟨Qb (by simp),HE.out⟩
    ·go_enter Tryz.func81,Tryz.ntmps81
     go_upto_region 1 with fail
     rw [← HW1'.out,← Hg1.out];go_wp2_with fail
     go_ret
     exact ⟨Qb (by simp),HE.out⟩
   ·by_cases hp:0≤n
    ·go_enter Tryz.func81,Tryz.ntmps81
     go_upto_region 1 with fail
     rw [← HW1'.out,← Hg1.out];go_wp2_with fail
     go_ret
     exact ⟨Qb (by simp),HE.out⟩
    ·go_enter Tryz.func81,Tryz.ntmps81
     go_upto_region 1 with fail
     rw [← HW1'.out,← Hg1.out];go_wp2_with fail
     go_ret
     exact ⟨Qb (by simp),HE.out⟩
 have k1:(k == 1)=false:=by simpa using h1
 have k2:(k == 2)=false:=by simpa using h2
 have k3:(k == 3)=false:=by simpa using h3
 have k4:(k == 4)=false:=by simpa using h4
 have k5:(k == 5)=false:=by simpa using h5
 by_cases hn:n=0
 ·subst hn;by_cases hm:nm.toList = []
  ·go_enter Tryz.func81,Tryz.ntmps81
   go_upto_region 1 with fail
   rw [← HW1'.out,← Hg1.out];go_wp2_with fail
   go_ret
   exact ⟨Qb (by simp),HE.out⟩
  ·go_enter Tryz.func81,Tryz.ntmps81
   go_upto_region 1 with fail
   rw [← HW1'.out,← Hg1.out];go_wp2_with fail
   go_ret
   exact ⟨Qb (by simp),HE.out⟩
 ·have hn':(n == 0)=false:=by simpa using hn
  by_cases hm:nm.toList = []
  ·by_cases hp:0≤n
   ·go_enter Tryz.func81,Tryz.ntmps81
    go_upto_region 1 with fail
    rw [← HW1'.out,← Hg1.out];go_wp2_with fail
    go_ret
    exact ⟨Qb (by simp),HE.out⟩
   ·go_enter Tryz.func81,Tryz.ntmps81
    go_upto_region 1 with fail
    rw [← HW1'.out,← Hg1.out];go_wp2_with fail
    go_ret
    exact ⟨Qb (by simp),HE.out⟩
  ·by_cases hp:0≤n
   ·go_enter Tryz.func81,Tryz.ntmps81
    go_upto_region 1 with fail
    rw [← HW1'.out,← Hg1.out];go_wp2_with fail
    go_ret
    exact ⟨Qb (by simp),HE.out⟩
   ·go_enter Tryz.func81,Tryz.ntmps81
    go_upto_region 1 with fail
    rw [← HW1'.out,← Hg1.out];go_wp2_with fail
    go_ret
    exact ⟨Qb (by simp),HE.out⟩
set_option maxRecDepth 100000 in
theorem Qpc (g c:Nat) (x:StP) (w:World) (h:w.rangeAt g 0 (stV x)) (hg:g < w.heap.size) (hs:x.name.size≤maxLen):Calls Tryz.prog 42 #[.slice (some ⟨g,0,none⟩) 1 c] w (fun e w'=>e = .returned (.bool (stB x))∧Ext w w'):=by
 have HR:=hide (fun w1=>Qnf x w1 hs)
 have c0:=h 0 (.int .i64 x.kind) rfl;have c1:=h 1 (.int .i64 x.n) rfl;have c2:=h 2 (.string x.name) rfl;rw [Nat.zero_add] at c0 c1 c2;obtain ⟨SB,hSB⟩:=V1 (stB x);rw [← hSB] at HR ⊢;unfold stV at HR;clear h hs hSB;obtain ⟨k,n,nm⟩:=x;dsimp only at c0 c1 c2 HR
 go_enter Tryz.func42,Tryz.ntmps42
 go_wp2_with fail
 go_loopw [10] (fun i wr=>∃ q:Nat,q≤1∧i = .int .i64 (q:Int)∧Ext w wr∧Hid (q=1→SB=true)) (fun i _=>1 - (intOf i).toNat)
 case atStart=>exact ⟨0,by omega,rfl,Ext.rfl' _,fun h=>by cases h⟩
 case round =>
  obtain ⟨q,hq,rfl,hE,hS⟩:=hrel;by_cases hq0:q=0
  ·subst hq0;have d0:=(hE.cell (p:=⟨g,0,none⟩) hg).trans c0;have d1:=(hE.cell (p:=⟨g,1,none⟩) hg).trans c1;have d2:=(hE.cell (p:=⟨g,2,none⟩) hg).trans c2;obtain ⟨w5,g5,hw5,hg5,Hw5,Hg5,hV,hVE⟩:=T0 wr 76 #[.int .i64 k,.int .i64 n,.string nm];obtain ⟨v0,v1,v2⟩:=X3 hV;have HE5:=hide (hE.trans' hVE);clear hw5 hg5 hV hVE hE hS;go_upto_region 6 with fail
   rw [← Hw5.out,← Hg5.out];clear c0 c1 c2 d0 d1 d2;go_wp2_with fail
   refine (HR.out _).mono ?_;rintro e w6 ⟨rfl,hE6⟩;have HE6:=hide (HE5.out.trans' hE6);clear hE6 v0 v1 v2;cases SB with
   | true =>
    go_wp2_with fail
    go_roundw
    case rel=>exact ⟨1,Nat.le_refl _,by go_num,HE6.out,fun _=>by trivial⟩
    case measure=>simp [intOf]
   | false =>
    go_wp2_with fail
    go_ret
    exact ⟨rfl,HE6.out⟩
  ·obtain rfl:q=1:=by omega
   obtain ⟨HE,HSB⟩:=Z2 hE (hS.out rfl);clear hE hS;go_wp2_with fail
   go_ret
   exact ⟨Qb HSB.out.symm,HE.out⟩
def Qfk (c:Int):Int:=if c=1 then 2 else if c=2 then 3 else 5
theorem Qs8 (c:Int) (w:World):Calls Tryz.prog 25 #[.int .i64 c] w (fun e w'=>e = .returned (.int .i64 (Qfk c))∧w=w'):=by
 unfold Qfk;by_cases h1:c=1
 ·subst h1;go_enter Tryz.func25,Tryz.ntmps25
  go_wp2_with fail
  go_ret
  exact ⟨rfl,rfl⟩
 ·have k1:(c == 1)=false:=by simpa using h1
  rw [if_neg h1];by_cases h2:c=2
  ·subst h2;go_enter Tryz.func25,Tryz.ntmps25
   go_wp2_with fail
   go_ret
   exact ⟨rfl,rfl⟩
  ·have k2:(c == 2)=false:=by simpa using h2
   rw [if_neg h2];clear h1 h2;go_enter Tryz.func25,Tryz.ntmps25
   go_wp2_with fail
   go_ret
   exact ⟨rfl,rfl⟩
def Qgl (s:Sch) (a b:Int):Bool:=decide (a≠b) && Qf5 s.ws s.os a b
theorem Qrf (g:Nat) (s:Sch) (w:World) (h:LatAt w g s.ws s.os) (hg:s.Good) (a b:Int):Calls Tryz.prog 26 #[.pointer (some ⟨g,0,none⟩),.int .i64 a,.int .i64 b] w (fun e w'=>e = .returned (.bool (Qgl s a b))∧w=w'):=by
 have HQ:=hide (Qow g s.ws s.os w h (Qf4 hg.lvl.found) a b);unfold Qgl;obtain ⟨L,hL⟩:=V1 (Qf5 s.ws s.os a b);rw [← hL] at HQ ⊢;clear hL h hg;by_cases hab:a=b
 ·have k:(a != b)=false:=by simpa using hab
  have HAB:=hide hab;clear hab;go_enter Tryz.func26,Tryz.ntmps26
  go_wp2_with fail
  go_ret
  exact ⟨Qb (by simp [HAB.out]),rfl⟩
 ·have k:(a != b)=true:=by simpa using hab
  have HAB:=hide hab;clear hab;go_enter Tryz.func26,Tryz.ntmps26
  go_wp2_with fail
  refine HQ.out.mono ?_;rintro e w1 ⟨rfl,rfl⟩;go_wp2_with fail
  go_ret
  exact ⟨Qb (by simp [HAB.out]),rfl⟩
def fitsB (d:NodeP) (e:EdgeP) (x:StP):Bool :=
 if x.kind=1 then decide (d.kind=7) && decide (e.name=x.name) else if x.kind=5 then decide (d.kind=8) && decide (e.name=x.name) && !e.bare else if x.kind=2 then decide (d.kind=5) && decide (x.n < d.most) else if x.kind=3 then decide (d.kind=5) && decide (0 < d.most) else decide (d.kind=6)
set_option maxRecDepth 100000 in
theorem Qs9 (d:NodeP) (e:EdgeP) (x:StP) (An:Option Addr) (cn:Nat) (Ae:Option Addr) (ce:Nat) (w:World):Calls Tryz.prog 82 #[.agg (nodeV d An cn Ae ce).toArray,.agg (edgeV e).toArray,.agg (stV x).toArray] w (fun e' w'=>e' = .returned (.bool (fitsB d e x))∧Ext w w'):=by
 obtain ⟨k,n,nm⟩:=x;unfold nodeV edgeV stV fitsB;dsimp only
 obtain ⟨dk,hdk,dm,hdm,en,hen,eb,heb⟩:=V4 (d.kind) (d.most) (e.name) (e.bare);rw [← hdk,← hdm,← hen,← heb];clear hdk hdm hen heb;obtain ⟨w1,g1,hw1,hg1,Hw1,Hg1,hA,hAE⟩:=T0 w 66 #[.int .i64 dk,.int .i64 d.at_,.int .i64 d.lo,.int .i64 d.hi,.int .i64 dm,.slice An d.names.length cn,.slice Ae d.edges.length ce];obtain ⟨w2,g2,hw2,hg2,Hw2,Hg2,hB,hBE⟩:=T0 w1 70 #[.string en,.bool eb,.int .i64 e.at_,.int .i64 e.tgt,.int .i64 e.label,.int .i64 e.wide,.int .i64 e.coarse,.int .i64 e.n,.int .i64 e.seen,.int .i64 e.cat];obtain ⟨w3,g3,hw3,hg3,Hw3,Hg3,hC,hCE⟩:=T0 w2 76 #[.int .i64 k,.int .i64 n,.string nm];have HE:=hide ((hAE.trans' hBE).trans' hCE);have hA3:=(hA.ext hBE).ext hCE;have hB3:=hB.ext hCE;have Hg2':=hide (show g2=g1 + 1 by rw [hg2,hw1,World.size_alloc,← hg1])
 have Hg3':=hide (show g3=g2 + 1 by rw [hg3,hw2,World.size_alloc,← hg2])
 obtain ⟨a0,-,-,-,a4⟩:=X5 hA3;obtain ⟨b0,b1⟩:=X2 hB3;obtain ⟨c0,c1,c2⟩:=X3 hC;clear hw1 hg1 hw2 hg2 hw3 hg3 hA hAE hB hBE hC hCE hA3 hB3;by_cases h1:k=1
 ·subst h1;by_cases hd:dk=7
  ·subst hd;by_cases hq:en.toList=nm.toList
   ·go_enter Tryz.func82,Tryz.ntmps82
    go_upto_region 1 with fail
    rw [← Hw1.out,← Hg1.out,← Hw2.out,← Hg2'.out,← Hw3.out,← Hg3'.out];go_wp2_with fail
    go_ret
    exact ⟨Qb (by simp [← Q8,hq]),HE.out⟩
   ·go_enter Tryz.func82,Tryz.ntmps82
    go_upto_region 1 with fail
    rw [← Hw1.out,← Hg1.out,← Hw2.out,← Hg2'.out,← Hw3.out,← Hg3'.out];go_wp2_with fail
    go_ret
    exact ⟨Qb (by simp [← Q8]),HE.out⟩
  ·have hd':(dk == 7)=false:=by simpa using hd
   go_enter Tryz.func82,Tryz.ntmps82
   go_upto_region 1 with fail
   rw [← Hw1.out,← Hg1.out,← Hw2.out,← Hg2'.out,← Hw3.out,← Hg3'.out];go_wp2_with fail
   go_ret
   exact ⟨Qb (by simp),HE.out⟩
 have k1:(k == 1)=false:=by simpa using h1
 by_cases h5:k=5
 ·subst h5;by_cases hd:dk=8
  ·subst hd;by_cases hq:en.toList=nm.toList
   ·go_enter Tryz.func82,Tryz.ntmps82
    go_upto_region 1 with fail
    rw [← Hw1.out,← Hg1.out,← Hw2.out,← Hg2'.out,← Hw3.out,← Hg3'.out];go_wp2_with fail
    go_ret
    exact ⟨Qb (by simp [← Q8,hq]),HE.out⟩
   ·go_enter Tryz.func82,Tryz.ntmps82
    go_upto_region 1 with fail
    rw [← Hw1.out,← Hg1.out,← Hw2.out,← Hg2'.out,← Hw3.out,← Hg3'.out];go_wp2_with fail
    go_ret
    exact ⟨Qb (by simp [← Q8,hq]),HE.out⟩
  ·have hd':(dk == 8)=false:=by simpa using hd
   go_enter Tryz.func82,Tryz.ntmps82
   go_upto_region 1 with fail
   rw [← Hw1.out,← Hg1.out,← Hw2.out,← Hg2'.out,← Hw3.out,← Hg3'.out];go_wp2_with fail
   go_ret
   exact ⟨Qb (by simp),HE.out⟩
 have k5:(k == 5)=false:=by simpa using h5
 by_cases h2:k=2
 ·subst h2;by_cases hd:dk=5
  ·subst hd;go_enter Tryz.func82,Tryz.ntmps82
   go_upto_region 1 with fail
   rw [← Hw1.out,← Hg1.out,← Hw2.out,← Hg2'.out,← Hw3.out,← Hg3'.out];go_wp2_with fail
   go_ret
   exact ⟨Qb (by simp),HE.out⟩
  ·have hd':(dk == 5)=false:=by simpa using hd
   go_enter Tryz.func82,Tryz.ntmps82
   go_upto_region 1 with fail
   rw [← Hw1.out,← Hg1.out,← Hw2.out,← Hg2'.out,← Hw3.out,← Hg3'.out];go_wp2_with fail
   go_ret
   exact ⟨Qb (by simp),HE.out⟩
 have k2:(k == 2)=false:=by simpa using h2
 by_cases h3:k=3
 ·subst h3;by_cases hd:dk=5
  ·subst hd;go_enter Tryz.func82,Tryz.ntmps82
   go_upto_region 1 with fail
   rw [← Hw1.out,← Hg1.out,← Hw2.out,← Hg2'.out,← Hw3.out,← Hg3'.out];go_wp2_with fail
   go_ret
   exact ⟨Qb (by simp),HE.out⟩
  ·have hd':(dk == 5)=false:=by simpa using hd
   go_enter Tryz.func82,Tryz.ntmps82
   go_upto_region 1 with fail
   rw [← Hw1.out,← Hg1.out,← Hw2.out,← Hg2'.out,← Hw3.out,← Hg3'.out];go_wp2_with fail
   go_ret
   exact ⟨Qb (by simp),HE.out⟩
 have k3:(k == 3)=false:=by simpa using h3
 by_cases hd:dk=6
 ·subst hd;go_enter Tryz.func82,Tryz.ntmps82
  go_upto_region 1 with fail
  rw [← Hw1.out,← Hg1.out,← Hw2.out,← Hg2'.out,← Hw3.out,← Hg3'.out];go_wp2_with fail
  go_ret
  exact ⟨Qb (by simp),HE.out⟩
 ·have hd':(dk == 6)=false:=by simpa using hd
  go_enter Tryz.func82,Tryz.ntmps82
  go_upto_region 1 with fail
  rw [← Hw1.out,← Hg1.out,← Hw2.out,← Hg2'.out,← Hw3.out,← Hg3'.out];go_wp2_with fail
  go_ret
  exact ⟨Qb (by simp),HE.out⟩
def PlanL (w:World) (gp gl:Nat) (s:Sch):Prop:=w.cell? ⟨gp,0,none⟩=some (.pointer (some ⟨gl,0,none⟩))∧gp < w.heap.size∧LatAt w gl s.ws s.os
theorem PlanAt.lat {w:World} {gp:Nat} {s:Sch} (h:PlanAt w gp s):∃ gl,PlanL w gp gl s:=by
 obtain ⟨gl,_,_,_,_,_,_,h1,h2,_,_⟩:=h;exact ⟨gl,h1.cell 0,h1.lt,h2⟩
theorem PlanL.ext {w w':World} {gp gl:Nat} {s:Sch} (h:PlanL w gp gl s) (hE:Ext w w'):PlanL w' gp gl s:=⟨(hE.cell (p:=⟨gp,0,none⟩) h.2.1).trans h.1,Nat.lt_of_lt_of_le h.2.1 hE.size,h.2.2.ext hE⟩
theorem Qco (gp gl:Nat) (s:Sch) (w:World) (h:PlanL w gp gl s):Calls Tryz.prog 19 #[.pointer (some ⟨gp,0,none⟩)] w (fun e w'=>e = .returned (.pointer (some ⟨gl,0,none⟩))∧w=w'):=by
 have t0:=h.1;clear h;go_enter Tryz.func19,Tryz.ntmps19
 go_wp2_with fail
 go_ret
 exact ⟨rfl,rfl⟩
def ndz:NodeP:=⟨0,0,0,0,0,[],[]⟩
def nodeAtL (s:Sch) (k:Nat):NodeP:=s.nodes.getD k ndz
theorem Qam {s:Sch} {k:Nat} (h:k < s.nodes.length):nodeAtL s k=s.nodes[k]:=by
 unfold nodeAtL;rw [List.getD_eq_getElem?_getD,List.getElem?_eq_getElem h];rfl
def Qi3 (s:Sch) (e:EdgeP):Option Flt :=
 if e.coarse=0 then none else if (nodeAtL s e.tgt.toNat).kind≠Qfk e.coarse then some (14,e.cat) else if Qgl s e.seen e.label=false then some (18,e.cat) else none
def Qc8 (s:Sch) (l:List EdgeP) (i:Nat):Option Flt:=match l[i]? with | some e=>Qi3 s e | none=>none
def Qvc (s:Sch) (d:NodeP):Option Flt:=Qf (Qc8 s d.edges) d.edges.length
def Qd9 (s:Sch) (k:Nat):Option Flt:=Qvc s (nodeAtL s k)
def Qea (s:Sch):Flt:=(Qf (Qd9 s) s.nodes.length).getD (0,0)
theorem Qrg (s:Sch) {l:List EdgeP} {i:Nat} (h:i < l.length):Qc8 s l i=Qi3 s l[i]:=by
 unfold Qc8;rw [List.getElem?_eq_getElem h]
theorem Qrh {s:Sch} {k i:Nat} {f:Flt} (hk:k < s.nodes.length) (h0:∀ j,j < k→Qd9 s j=none) (hi:i < (nodeAtL s k).edges.length) (h1:∀ j,j < i→Qc8 s (nodeAtL s k).edges j=none) (h:Qc8 s (nodeAtL s k).edges i=some f):Qea s=f:=by
 unfold Qea;rw [Qk hk h0 (show Qd9 s k=some f from Qk hi h1 h)]
 rfl
theorem Qpd {s:Sch} (h0:∀ j,j < s.nodes.length→Qd9 s j=none):Qea s=(0,0):=by
 unfold Qea;rw [firstOf_miss.2 h0];rfl
theorem Qng {s:Sch} {k:Nat} (h:∀ j,j < (nodeAtL s k).edges.length→Qc8 s (nodeAtL s k).edges j=none):Qd9 s k=none:=firstOf_miss.2 h
set_option maxRecDepth 100000 in
theorem Ql3 (gp:Nat) (s:Sch) (w:World) (h:PlanAt w gp s) (hg:s.Good) (hz:SchSz s):Calls Tryz.prog 7 #[.pointer (some ⟨gp,0,none⟩)] w (fun e w'=>e = .returned (fltV (Qea s))∧Ext w w'):=by
 obtain ⟨gl,hpl⟩:=h.lat;have h512:=Qc7 hg.fine;obtain ⟨HLEN,HLAT,HBEL,HNOD,HOK,HHIT,HMISS⟩:=Z7 (fun w1 (hE:Ext w w1)=>Qeu gp s w1 (h.ext hE)) (fun w1 (hE:Ext w w1)=>Qco gp gl s w1 (hpl.ext hE)) (fun w1 (hE:Ext w w1) a b=>Qrf gl s w1 (hpl.2.2.ext hE) hg a b) (fun k (hk:k < s.nodes.length) w1 (hE:Ext w w1)=>(show Calls Tryz.prog 24 #[.pointer (some ⟨gp,0,none⟩),.int .i64 (k:Int)] w1 (Qh2 (nodeAtL s k) w1) by rw [Qam hk]; exact Qhm gp k s w1 (h.ext hE) hk h512 (Qbu hg hz hk))) (fun k (hk:k < s.nodes.length)=>(show NodeOk s (nodeAtL s k) by rw [Qam hk]; exact Qbu hg hz hk)) (fun (k i:Nat) (f:Flt) (hk:k < s.nodes.length) h0 hi h1 h2=>Qrh (s:=s) (k:=k) (i:=i) (f:=f) hk h0 hi h1 h2) (fun h0=>Qpd (s:=s) h0)
 obtain ⟨N,hN⟩:=V1 (s.nodes.length);rw [← hN] at HLEN HNOD HOK HHIT HMISS;have HNN:=hide hN;obtain ⟨R,hR⟩:=V1 (Qea s);rw [← hR] at HHIT HMISS ⊢;have hN0:=nZ N;have hN5:N≤512:=by rw [hN]; exact h512
 obtain ⟨w1,g2,hw1,hg2,Hw1,Hg2,hZ,hZE⟩:=T0 w 34 #[.int .i64 0,.int .i64 0];obtain ⟨HE1,HZ1⟩:=Z2 hZE hZ;have hlo2:w.heap.size≤g2:=by omega
 clear hw1 hg2 hZ hZE hR hN h hg hz hpl h512;go_enter Tryz.func7,Tryz.ntmps7
 go_upto_region 1 with fail
 rw [← Hw1.out,← Hg2.out];go_wp2_with fail
 refine (HLEN.out w1 HE1.out).mono ?_;rintro e w1' ⟨rfl,rfl⟩;go_wp2_with fail
 go_loopw [15] (fun i wr=>∃ k:Nat,k≤N∧i = .int .i64 (k:Int)∧Ext w1 wr∧Hid (∀ j,j < k→Qd9 s j=none)) (fun i _=>N - (intOf i).toNat)
 case atStart=>exact ⟨0,Nat.zero_le _,rfl,Ext.rfl' _,fun j hj=>absurd hj (Nat.not_lt_zero _)⟩
 case round =>
  obtain ⟨k,hk,rfl,hE,HA⟩:=hrel;by_cases hlt:k < N
  ·have hnod:=HNOD.out k hlt wr (HE1.out.trans' hE);have hok:=HOK.out k hlt;have hhit:=fun i f hi h1 h2=>HHIT.out k i f hlt HA.out hi h1 h2
   have hnn:=fun h=>Q0 HA.out (show Qd9 s k=none from Qng h)
   obtain ⟨d,hd⟩:=V1 (nodeAtL s k);rw [← hd] at hnod hok hhit hnn;obtain ⟨HND,HDK,HHT,HNX,HEr⟩:=Z5 hnod hok hhit hnn hE;have i0:=nZ k;have i1:(k:Int) < (N:Int):=by omega
   clear hnod hok hhit hnn hd hE HHIT;go_upto_region 6 with fail
   go_wp2_with fail
   refine HND.out.mono ?_;rintro e w3 ⟨An',cn',Ae',ce',rfl,_,hX3,hE3⟩;unfold nodeV;have hqd:d.edges.length≤64:=HDK.out.few;obtain ⟨m',hm',q',hq'⟩:=V2 (d.names.length) (d.edges.length);rw [← hm',← hq'];have HQ:=hide hq';have hq0:=nZ q';obtain ⟨w5,g4,hw5,hg4,Hw5,Hg4,hD,hDE⟩:=T0 w3 66 #[.int .i64 d.kind,.int .i64 d.at_,.int .i64 d.lo,.int .i64 d.hi,.int .i64 d.most,.slice An' m' cn',.slice Ae' q' ce'];obtain ⟨HE5,HX5,HD5⟩:=Z3 ((HEr.out.trans' hE3).trans' hDE) (EdgesAt.ext hX3 hDE) hD;obtain ⟨-,-,-,-,-,-,d6⟩:=X7 hD;rw [← hq'] at hqd;clear hX3 hE3 hm' hq' hw5 hg4 hD hDE;go_upto_region 7 with fail
   rw [← Hw5.out,← Hg4.out];go_wp2_with fail
   clear d6;go_loopw [27] (fun i wx=>∃ q:Nat,q≤q'∧i = .int .i64 (q:Int)∧Ext w5 wx∧Hid (∀ j,j < q→Qc8 s d.edges j=none)) (fun i _=>q' - (intOf i).toNat)
   case atStart=>exact ⟨0,Nat.zero_le _,rfl,Ext.rfl' _,fun j hj=>absurd hj (Nat.not_lt_zero _)⟩
   case round =>
    obtain ⟨q,hq,rfl,hE2,HB⟩:=hrel;by_cases hlt2:q < q'
    ·have hqd2:q < d.edges.length:=by have:=HQ.out; omega
     obtain ⟨b,o,rfl,hb,hc⟩:=HX5.out.cell (by omega)
     have h1:=hc q hqd2;have hok:=HDK.out.edge q hqd2;have hef:=Qrg s hqd2;have hht:=fun f h=>HHT.out q f hqd2 HB.out h
     have hbn:=fun h=>Q0 HB.out (show Qc8 s d.edges q=none from h)
     rw [hef] at hht hbn;obtain ⟨e,he⟩:=V1 (d.edges[q]);rw [← he] at h1 hok hht hbn;have HRG:=hide (show wr.rangeAt b (o + q * 10) [.string e.name,.bool e.bare,.int .i64 e.at_,.int .i64 e.tgt,.int .i64 e.label,.int .i64 e.wide,.int .i64 e.coarse,.int .i64 e.n,.int .i64 e.seen,.int .i64 e.cat] from fun j v hv=>(hE2.cell (p:=⟨b,o + q * 10 + j,none⟩) hb).trans (h1 j v hv))
     obtain ⟨HOE,HHE,HBN⟩:=Z3 hok hht hbn;have j0:=nZ q;have j1:(q:Int) < (q':Int):=by omega
     have hEw2:=HE5.out.trans' hE2;clear hc h1 hok hef hht hbn he hb hqd2;obtain ⟨w6,g7,hw6,hg7,Hw6,Hg7,hV,hVE⟩:=T0 wr 70 #[.string e.name,.bool e.bare,.int .i64 e.at_,.int .i64 e.tgt,.int .i64 e.label,.int .i64 e.wide,.int .i64 e.coarse,.int .i64 e.n,.int .i64 e.seen,.int .i64 e.cat];obtain ⟨HE6,HF6,HV6⟩:=Z3 (hEw2.trans' hVE) (hE2.trans' hVE) hV;obtain ⟨-,-,-,-,-,-,v6⟩:=X7 hV;clear hw6 hg7 hV hVE hE2 hEw2;go_upto_region 9 with fail
     refine wp_region_lit ?_;refine wpList_plain rfl fun K0 hK0=>?_
     go_simp;refine hK0 _ _ ?_;refine wpList_load_mid rfl 70 _ rfl b (o + q * 10) rfl _ _ HRG.out Tryz.underlying70 rfl Qcx ?_;refine wpList_plain rfl fun K0 hK0=>?_
     go_simp;refine hK0 _ _ ?_;refine Qc rfl 70 _ _ rfl _ #[.string e.name,.bool e.bare,.int .i64 e.at_,.int .i64 e.tgt,.int .i64 e.label,.int .i64 e.wide,.int .i64 e.coarse,.int .i64 e.n,.int .i64 e.seen,.int .i64 e.cat] rfl rfl Qcx rfl (by simp [Value.oneCell']) ?_
     go_upto_region 10 with fail
     rw [← Hw6.out,← Hg7.out];by_cases hc0:e.coarse=0
     ·have hcb:(e.coarse == 0)=true:=by simpa using hc0
      have HNE:=hide (HBN.out (show Qi3 s e=none from if_pos hc0))
      clear hc0 HBN HHE HOE;go_wp2_with fail
      go_roundw
      case rel=>exact ⟨q + 1,by omega,by go_num,HF6.out,HNE.out⟩
      case measure=>simp [intOf]; omega
     have hcb:(e.coarse == 0)=false:=by simpa using hc0
     have hbare:e.bare=false:=by
      cases hb:e.bare with
      | false=>rfl
      | true=>exact absurd (HOE.out.bare hb).2.1 hc0
     obtain ⟨m,hm,hmN⟩:=HOE.out.to_ hbare;rw [← HNN.out] at hmN;have hnod:=HNOD.out m hmN w6 (HE1.out.trans' HE6.out);obtain ⟨d2,hd2⟩:=V1 (nodeAtL s m);have hEF:Qi3 s e=if d2.kind≠Qfk e.coarse then some (14,e.cat) else if Qgl s e.seen e.label=false then some (18,e.cat) else none:=by
      unfold Qi3;rw [if_neg hc0,hm,Int.toNat_natCast,← hd2]
     rw [← hd2] at hnod;obtain ⟨HND2,HEF⟩:=Z2 hnod hEF;obtain ⟨-,-,-,v3⟩:=X4 HV6.out;rw [hm] at v3;clear hc0 hbare hm hmN hnod hd2 hEF HOE;go_upto_region 11 with fail
     go_wp2_with fail
     refine HND2.out.mono ?_;rintro e' w7 ⟨An',cn',Ae',ce',rfl,_,_,hE7⟩;unfold nodeV;obtain ⟨m',hm',q2',hq2'⟩:=V2 (d2.names.length) (d2.edges.length);rw [← hm',← hq2'];obtain ⟨w8,g8,hw8,hg8,Hw8,Hg8,hD,hDE⟩:=T0 w7 66 #[.int .i64 d2.kind,.int .i64 d2.at_,.int .i64 d2.lo,.int .i64 d2.hi,.int .i64 d2.most,.slice An' m' cn',.slice Ae' q2' ce'];obtain ⟨HE8,HF8⟩:=Z2 ((HE6.out.trans' hE7).trans' hDE) ((HF6.out.trans' hE7).trans' hDE);have hV8:=(HV6.out.ext hE7).ext hDE;obtain ⟨HV8,HD8⟩:=Z2 hV8 hD;have d0:=X1 hD;obtain ⟨-,-,-,-,u4,-,u6,-,u8,u9⟩:=X10 hV8;clear hE7 hm' hq2' hw8 hg8 hD hDE hV8 v3 v6;go_upto_region 12 with fail
     rw [← Hw8.out,← Hg8.out];have HA1:=hide (fun n:Nat=>Qdh (n:=n) (Qs8 e.coarse (_root_.Go.World.drewN w8 n)))
     have hef:=HEF.out;go_quiet ((go_at_call 25; with_reducible exact HA1.out _))
     obtain ⟨w9,hw9⟩:=V1 (w8.drewN nq);have hE9:Ext w8 w9:=by rw [hw9]; exact below_drewN (Ext.rfl' _) nq
     have hV9:=HV8.out.ext hE9;obtain ⟨HE9,HF9⟩:=Z2 (HE8.out.trans' hE9) (HF8.out.trans' hE9);rw [← hw9];have HV9:=hide hV9;clear hw9 hE9 hV9 d0 u4 u6 u8 u9 HA1;have HEF2:=hide hef;clear hef;have hZ9:=HZ1.out.ext HE9.out;obtain ⟨-,-,-,-,u4,-,-,-,u8,u9⟩:=X10 HV9.out;obtain ⟨z0,z1⟩:=X2 hZ9;obtain ⟨f0,f1⟩:=Y2 hZ9;have HZ9:=hide hZ9;clear hZ9;by_cases hk2:d2.kind=Qfk e.coarse
     rotate_left
     ·have hkb:(d2.kind != Qfk e.coarse)=true:=by rw [bne_iff_ne]; exact hk2
      have hX:=HHE.out (14,e.cat) (by rw [HEF2.out,if_pos hk2])
      have HX:=hide hX;clear hX hk2;go_wp2_with fail
      exact Qa (f:=(14,e.cat)) (g:=g2) ((HZ9.out.set_ 0 _).set_ 1 _) rfl rfl rfl ⟨by rw [HX.out],ext_two' (HE1.out.trans' HE9.out) hlo2 _ _⟩
     have hkb:(d2.kind != Qfk e.coarse)=false:=by simpa using hk2
     have hef:=HEF2.out;rw [if_neg (fun hh=>hh hk2)] at hef
     obtain ⟨HA2,HA3⟩:=Z2 (fun n:Nat=>Qdh (n:=n) (HLAT.out (_root_.Go.World.drewN w9 n) (below_drewN (HE1.out.trans' HE9.out) n))) (fun n:Nat=>Qdh (n:=n) (HBEL.out (_root_.Go.World.drewN w9 n) (below_drewN (HE1.out.trans' HE9.out) n) e.seen e.label))
     obtain ⟨BB,hBB⟩:=V1 (Qgl s e.seen e.label);rw [← hBB] at hef HA3;have HEF3:=hide hef;clear hef hk2 hBB;go_upto_region 14 with fail
     go_quiet ((first | (go_at_call 19; with_reducible exact HA2.out _) | (go_at_call 26; with_reducible exact HA3.out _)))
     obtain ⟨w10,hw10⟩:=V1 (w9.drewN nq);have hE10:Ext w9 w10:=by rw [hw10]; exact below_drewN (Ext.rfl' _) nq
     obtain ⟨HE10,HF10⟩:=Z2 (HE9.out.trans' hE10) (HF9.out.trans' hE10);have hV10:=HV9.out.ext hE10;have hZ10:=HZ9.out.ext hE10;rw [← hw10];clear hw10 u4 u8 u9 z0 z1 f0 f1 HA2 HA3;obtain ⟨-,-,-,-,-,-,-,-,-,u9⟩:=X10 hV10;obtain ⟨z0,z1⟩:=X2 hZ10;obtain ⟨f0,f1⟩:=Y2 hZ10;have HZ10:=hide hZ10;clear hE10 hV10 hZ10;cases BB with
     | false =>
      have HX:=hide (HHE.out (18,e.cat) (by rw [HEF3.out,if_pos rfl]))
      go_wp2_with fail
      exact Qa (f:=(18,e.cat)) (g:=g2) ((HZ10.out.set_ 0 _).set_ 1 _) rfl rfl rfl ⟨by rw [HX.out],ext_two' (HE1.out.trans' HE10.out) hlo2 _ _⟩
     | true =>
      have HNE:=hide (HBN.out (by rw [HEF3.out,if_neg (by decide)]))
      go_wp2_with fail
      go_roundw
      case rel=>exact ⟨q + 1,by omega,by go_num,HF10.out,HNE.out⟩
      case measure=>simp [intOf]; omega
    ·obtain rfl:q=q':=by omega
     obtain ⟨HNE,HEq⟩:=Z2 (HNX.out (fun j hj=>HB.out j (by have:=HQ.out; omega))) (HE5.out.trans' hE2)
     clear hE2 HNX HB;go_wp2_with fail
     go_roundw
     case rel=>exact ⟨k + 1,by omega,by go_num,HEq.out,HNE.out⟩
     case measure=>simp [intOf]; omega
  ·obtain rfl:k=N:=by omega
   have HX:=hide (HMISS.out (fun j hj=>HA.out j (by have:=HNN.out; omega)))
   have hZr:=HZ1.out.ext hE;have HEr:=hide (HE1.out.trans' hE);obtain ⟨z0,z1⟩:=X2 hZr;obtain ⟨f0,f1⟩:=Y2 hZr;have HZr:=hide hZr;clear hZr hE HMISS HHIT;go_wp2_with fail
   exact Qa (f:=(0,0)) (g:=g2) ((HZr.out.set_ 0 _).set_ 1 _) rfl rfl rfl ⟨by rw [HX.out],ext_two' HEr.out hlo2 _ _⟩
end Go.Proofs.YtanpljalbijfkaaGreat
