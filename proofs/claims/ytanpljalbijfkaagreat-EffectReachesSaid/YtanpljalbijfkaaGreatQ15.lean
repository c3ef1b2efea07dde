/- . -/
import Derived.Test.YtanpljalbijfkaaGreatQ03
import Derived.Test.YtanpljalbijfkaaGreatQ12
import Derived.Test.YtanpljalbijfkaaGreatQ13
import Derived.Test.YtanpljalbijfkaaGreatQ14
import Derived.Laws.StructEq
namespace Go.Proofs.YtanpljalbijfkaaGreat
open Go.RowKit
set_option maxHeartbeats 16000000
set_option maxRecDepth 100000 in
theorem Qlf (A:Option Addr) (c n:Nat) (ws:List Wd) (A2:Option Addr) (c2 m:Nat) (os:List (Wd × Wd)) (w:World) (h:WdsAt w w.heap.size A ws) (hsz:∀ i,(wNm ws i).size≤maxLen) (hn:n=ws.length) (h2:OdsAt w w.heap.size A2 os) (hm:m=os.length) :
  Calls Tryz.prog 55 #[.slice A n c,.slice A2 m c2] w (fun e w'=>e = .returned (fltV (wrongL ws os))∧Ext w w'):=by
 by_cases c0:n=0
 ·have e:wrongL ws os=(15,0):=by unfold wrongL; rw [if_pos (by omega)]
  rw [e];subst c0;clear h h2 hn hm e hsz;go_enter Tryz.func55,Tryz.ntmps55
  go_wp2_with fail
  exact Qak (f:=(15,0)) (Blk.new _ _ _) rfl rfl rfl ⟨rfl,(Ext.rfl' w).alloc nL _⟩
 have hn0:((n:Int) == 0)=false:=by rw [beq_eq_false_iff_ne]; omega
 by_cases c1:32 < n
 ·have e:wrongL ws os=(8,wPl ws 32):=by unfold wrongL; rw [if_neg (by omega),if_pos (by omega)]
  rw [e];obtain ⟨b,o,rfl,hbs,hcell⟩:=h.cell (by omega)
  have d1:=(hcell 32 (by omega)).2
  obtain ⟨x,hx⟩:=V1 (wPl ws 32);rw [← hx] at d1 ⊢;clear hx hcell h h2 hn hm e hsz;go_enter Tryz.func55,Tryz.ntmps55
  go_wp2_with fail
  exact Qak (f:=(8,x)) (Blk.new _ _ _) rfl rfl rfl ⟨rfl,(Ext.rfl' w).alloc nL _⟩
 by_cases c3:256 < m
 ·have e:wrongL ws os=(8,(lo os 256).2):=by unfold wrongL; rw [if_neg (by omega),if_neg (by omega),if_pos (by omega)]
  rw [e];obtain ⟨b,o,rfl,hbs,hcell⟩:=h2.cell (by omega)
  have d1:=(hcell 256 (by omega)).2.1
  obtain ⟨x,hx⟩:=V1 ((lo os 256).2);rw [← hx] at d1 ⊢;clear hx hcell h h2 hn hm e hsz;go_enter Tryz.func55,Tryz.ntmps55
  go_wp2_with fail
  exact Qak (f:=(8,x)) (Blk.new _ _ _) rfl rfl rfl ⟨rfl,(Ext.rfl' w).alloc nL _⟩
 obtain ⟨hw1,hw2,hw3⟩:=Qjv (ws:=ws) (os:=os) (by omega) (by omega) (by omega)
 obtain ⟨HW1,HW2,HW3,HN,HM⟩:=Z5 hw1 hw2 hw3 hn hm;obtain ⟨w0,hw0⟩:=V1 (w.alloc (.cells #[.int .i64 0,.int .i64 0] 34));have hE0:Ext w w0:=by rw [hw0]; exact (Ext.rfl' w).alloc nL _
 have hB0:=bN hw0;obtain ⟨HH,HO,HSZ⟩:=Z3 (h.ext hE0) (h2.ext hE0) hsz;obtain ⟨HFind,HLeq,HE0,HB0⟩:=Z4 (fun (w1:World) (s:ByteArray) (hE:Ext w0 w1)=>Qei A c n ws s w1 (HH.out.ext hE) hn (by omega)) (fun (hok:Qah ws.length (prs ws os)=true)=>Qip A c n ws A2 c2 m os w0 HH.out hn (by omega) HO.out hm (by omega) hok) hE0 hB0
 clear h h2 hn hm hsz hw1 hw2 hw3 hE0 hB0;go_enter Tryz.func55,Tryz.ntmps55
 go_wp2_with fail
 rw [← hw0];clear hw0;obtain ⟨b0,b1⟩:=X2 HB0.out;obtain ⟨f0,f1⟩:=Y2 HB0.out;go_loop [5] (fun i=>∃ k:Nat,k≤n∧i = .int .i64 k∧Hid (∀ j,j < k→Q7 ws j=none)) (fun i=>n - (intOf i).toNat)
 case atStart=>exact ⟨0,Nat.zero_le _,rfl,fun j hj=>absurd hj (by omega)⟩
 case round =>
  obtain ⟨k,hk,rfl,HA⟩:=hrel;by_cases hlt:k < n
  ·have hkl:k < ws.length:=by rw [← HN.out]; exact hlt
   obtain ⟨b,o,rfl,hbs,hcell⟩:=HH.out.cell (by omega)
   obtain ⟨p1,p2⟩:=hcell k hkl;have hs:=HSZ.out k;have hnb:Q7 ws k=if Qj (wNm ws k)=false then some (9,wPl ws k) else if findL (nms ws) (wNm ws k) < (k:Int) then some (10,wPl ws k) else none:=rfl;obtain ⟨x,hx,p,hp⟩:=V2 (wNm ws k) (wPl ws k);rw [← hx] at p1 hs hnb;rw [← hp] at p2 hnb;obtain ⟨HR,HFi⟩:=Z2 (refRight_any x w0 hs) (HFind.out w0 x (Ext.rfl' _));obtain ⟨rb,hrb,f,hf⟩:=V2 (Qj x) (findL (nms ws) x);rw [← hrb] at HR hnb;rw [← hf] at HFi hnb;have HNB:=hide hnb;have i0:=nZ k;have i1:(k:Int) < (n:Int):=by omega
   clear hcell hx hp hrb hf hnb hs hkl;cases rb with
   | false =>
    have HX:=hide (HW1.out _ (Qk (n:=ws.length) (by rw [← HN.out]; exact hlt) HA.out (HNB.out.trans (if_pos rfl))))
    go_wp2_with fail
    refine HR.out.mono ?_;rintro e w' ⟨rfl,rfl⟩;go_wp2_with fail
    exact Qak (f:=(9,p)) ((HB0.out.set_ 0 _).set_ 1 _) rfl rfl rfl ⟨by rw [HX.out],Qw HE0.out _ _⟩
   | true =>
    by_cases hfk:f < (k:Int)
    ·have HX:=hide (HW1.out _ (Qk (n:=ws.length) (by rw [← HN.out]; exact hlt) HA.out (HNB.out.trans (by rw [if_neg (by decide),if_pos hfk]))))
     go_wp2_with fail
     refine HR.out.mono ?_;rintro e w' ⟨rfl,rfl⟩;go_wp2_with fail
     refine HFi.out.mono ?_;rintro e w' ⟨rfl,rfl⟩;go_wp2_with fail
     exact Qak (f:=(10,p)) ((HB0.out.set_ 0 _).set_ 1 _) rfl rfl rfl ⟨by rw [HX.out],Qw HE0.out _ _⟩
    ·have HA2:=hide (below_step HA.out (HNB.out.trans (by rw [if_neg (by decide),if_neg hfk])))
     clear HA;go_wp2_with fail
     refine HR.out.mono ?_;rintro e w' ⟨rfl,rfl⟩;go_wp2_with fail
     refine HFi.out.mono ?_;rintro e w' ⟨rfl,rfl⟩;go_wp2_with fail
     go_round
     case rel=>exact ⟨k + 1,by omega,by go_num,HA2⟩
     case measure=>simp [intOf]; omega
  ·obtain rfl:k=n:=by omega
   have HX:=hide (firstOf_miss.2 HA.out);rw [HN.out] at HX;clear HA;go_wp2_with fail
   go_loop [6] (fun i=>∃ q:Nat,q≤m∧i = .int .i64 q∧Hid (∀ j,j < q→Q4 ws os j=none)) (fun i=>m - (intOf i).toNat)
   case atStart=>exact ⟨0,Nat.zero_le _,rfl,fun j hj=>absurd hj (by omega)⟩
   case round =>
    obtain ⟨q,hq,rfl,HA⟩:=hrel;by_cases hqm:q < m
    ·have hql:q < os.length:=by rw [← HM.out]; exact hqm
     obtain ⟨b,o,rfl,hbs,hcell⟩:=HO.out.cell (by omega)
     obtain ⟨p1,p2,p3,p4⟩:=hcell q hql;obtain ⟨hn1,hn2,hn3⟩:=Qim (ws:=ws) (os:=os) (k:=q);obtain ⟨x,hx,p,hp,y,hy,p',hp'⟩:=V4 ((lo os q).1) ((lo os q).2) ((hi os q).1) ((hi os q).2);rw [← hx] at p1 hn1 hn2 hn3;rw [← hp] at p2 hn1;rw [← hy] at p3 hn2 hn3;rw [← hp'] at p4 hn2;obtain ⟨HF1,HF2⟩:=Z2 (HFind.out w0 x (Ext.rfl' _)) (HFind.out w0 y (Ext.rfl' _));obtain ⟨f1',hf1,f2,hf2⟩:=V2 (findL (nms ws) x) (findL (nms ws) y);rw [← hf1] at HF1 hn1 hn2 hn3;rw [← hf2] at HF2 hn2 hn3;obtain ⟨H1,H2,H3⟩:=Z3 hn1 hn2 hn3;have i0:=nZ q;have i1:(q:Int) < (m:Int):=by omega
     clear hcell hx hp hy hp' hf1 hf2 hn1 hn2 hn3 hql;by_cases hc1:f1' < 0
     ·have HXX:=hide (HW2.out HX.out _ (Qk (n:=os.length) (by rw [← HM.out]; exact hqm) HA.out (H1.out hc1)))
      go_wp2_with fail
      refine HF1.out.mono ?_;rintro e w' ⟨rfl,rfl⟩;go_wp2_with fail
      exact Qak (f:=(17,p)) ((HB0.out.set_ 0 _).set_ 1 _) rfl rfl rfl ⟨by rw [HXX.out],Qw HE0.out _ _⟩
     ·by_cases hc2:f2 < 0
      ·have HXX:=hide (HW2.out HX.out _ (Qk (n:=os.length) (by rw [← HM.out]; exact hqm) HA.out (H2.out hc1 hc2)))
       go_wp2_with fail
       refine HF1.out.mono ?_;rintro e w' ⟨rfl,rfl⟩;go_wp2_with fail
       refine HF2.out.mono ?_;rintro e w' ⟨rfl,rfl⟩;go_wp2_with fail
       exact Qak (f:=(17,p')) ((HB0.out.set_ 0 _).set_ 1 _) rfl rfl rfl ⟨by rw [HXX.out],Qw HE0.out _ _⟩
      ·have HA2:=hide (below_step HA.out (H3.out hc1 hc2));clear HA;go_wp2_with fail
       refine HF1.out.mono ?_;rintro e w' ⟨rfl,rfl⟩;go_wp2_with fail
       refine HF2.out.mono ?_;rintro e w' ⟨rfl,rfl⟩;go_wp2_with fail
       go_round
       case rel=>exact ⟨q + 1,by omega,by go_num,HA2⟩
       case measure=>simp [intOf]; omega
    ·obtain rfl:q=m:=by omega
     have hx2:=firstOf_miss.2 HA.out;rw [HM.out] at hx2;obtain ⟨HOK,HW4⟩:=Z2 (Qf4 (firstOf_miss.1 hx2)) (HW3.out HX.out hx2);clear HA hx2;go_wp2_with fail
     refine (HLeq.out HOK.out).mono ?_;rintro e w1 ⟨A3,c3,rfl,hL,hE1⟩;obtain ⟨L,hLL⟩:=V1 (leads ws.length (prs ws os));have hmat:mat L=leqL ws os:=by rw [hLL]; rfl
     have hlen:L.length=k:=by rw [hLL,leads_length,HN.out]
     have hsq:∀ r ∈ L,r.length=L.length:=by rw [hLL]; exact Qdx _ _
     rw [← hLL] at hL;have hlo:=Qmu A3 c3 L w1 hL hsq (by omega)
     rw [hlen] at hlo;rw [← HN.out];obtain ⟨HLO,HL,HMAT,HLEN,HSQ,HLL⟩:=Z6 hlo hL hmat hlen hsq hLL;have hB1:=HB0.out.ext hE1;obtain ⟨HE1,HB1,HH1⟩:=Z3 (HE0.out.trans' hE1) hB1 (HH.out.ext hE1);obtain ⟨g0,g1⟩:=X2 hB1;obtain ⟨h0,h1⟩:=Y2 hB1;have hrl:Qbc L = -1∧Qac L=none∨∃ a:Nat,Qbc L=a∧Qac L=some a:=by
      unfold Qbc;cases Qac L with
      | none=>exact .inl ⟨rfl,rfl⟩
      | some a=>exact .inr ⟨a,rfl,rfl⟩
     obtain ⟨ri,hri⟩:=V1 (Qbc L);rw [← hri] at HLO hrl;clear hL hmat hlen hsq hLL hlo hB1 hE1 b0 b1 f0 f1 hri HLeq;rcases hrl with ⟨rfl,hrn⟩ | ⟨a,rfl,hrs⟩
     ·obtain ⟨HRN,HW5,HT⟩:=Z3 hrn (HW4.out.trans (Qf7 (by rw [← HLL.out]; exact hrn))) (Qm5 A3 c3 k L w1 HL.out HSQ.out HLEN.out.symm (by omega))
      clear hrn;go_wp2_with fail
      refine HLO.out.mono ?_;rintro e w' ⟨rfl,rfl⟩;go_wp2_with fail
      refine HT.out.mono ?_;rintro e w2 ⟨A4,c4,rfl,hT,hE2⟩;rw [HLEN.out];have hL2:=HL.out.below hE2 hE2.size;obtain ⟨HJ1,HJ2,HG,HE2⟩:=Z4 (fun (a b:Nat) (ha:a < k) (hb:b < k)=>refJoin_any A3 c3 k L a b w2 hL2 HSQ.out HLEN.out.symm (by omega) ha hb) (fun (a b:Nat) (ha:a < k) (hb:b < k)=>refJoin_any A4 c4 k (turnM L) a b w2 hT (turnM_sq L) (by rw [turnM_length]; exact HLEN.out.symm) (by omega) ha hb) (fun (a b:Nat) (ha:a < k) (hb:b < k)=>(by have:=join_turn (M:=L) (a:=a) (b:=b) (by rw [HLEN.out]; exact ha) (by rw [HLEN.out]; exact hb); rw [HLEN.out,HMAT.out] at this; exact this:LatM.joinL k (mat (turnM L)) a b=LatM.joinL k (fun x y=>leqL ws os y x) a b)) (HE1.out.trans' hE2)
      have hB2:=HB1.out.ext hE2;obtain ⟨HB2,HH2⟩:=Z2 hB2 (HH1.out.ext hE2);obtain ⟨b0,b1⟩:=X2 hB2;obtain ⟨f0,f1⟩:=Y2 hB2;rw [HMAT.out] at HJ1;clear hT hE2 hL2 hB2 g0 g1 h0 h1 HT HLO;go_wp2_with fail
      go_loop [10] (fun i=>∃ b:Nat,b≤k∧i = .int .i64 b∧Hid (∀ j,j < b→LatM.lacks k (leqL ws os) j=false)) (fun i=>k - (intOf i).toNat)
      case atStart=>exact ⟨0,Nat.zero_le _,rfl,fun j hj=>absurd hj (by omega)⟩
      case round =>
       obtain ⟨b,hb,rfl,HA⟩:=hrel;by_cases hbk:b < k
       ·go_wp2_with fail
        go_loop [11] (fun i=>∃ a:Nat,a≤b∧i = .int .i64 a∧Hid (∀ x,x < a→0≤LatM.joinL k (leqL ws os) x b∧0≤LatM.joinL k (fun x y=>leqL ws os y x) x b)) (fun i=>b - (intOf i).toNat)
        case atStart=>exact ⟨0,Nat.zero_le _,rfl,fun j hj=>absurd hj (by omega)⟩
        case round =>
         obtain ⟨a,ha,rfl,HB⟩:=hrel;by_cases hab:a < b
         ·have hj1:=HJ1.out a b (by omega) hbk
          have hj2:=HJ2.out a b (by omega) hbk
          rw [HG.out a b (by omega) hbk] at hj2
          have hbad:∀ (h:LatM.joinL k (leqL ws os) a b < 0∨LatM.joinL k (fun x y=>leqL ws os y x) a b < 0),wrongL ws os=(12,wPl ws b):=fun h=>by
           refine HW5.out.trans (Qfu ?_);rw [← HN.out];exact LatM.boundsL_hit hbk (LatM.lacks_iff.2 ⟨a,hab,h⟩) HA.out
          have hgood:0≤LatM.joinL k (leqL ws os) a b→0≤LatM.joinL k (fun x y=>leqL ws os y x) a b→∀ x,x < a + 1→0≤LatM.joinL k (leqL ws os) x b∧0≤LatM.joinL k (fun x y=>leqL ws os y x) x b :=
           fun h1 h2=>below_step (P:=fun x=>0≤LatM.joinL k (leqL ws os) x b∧0≤LatM.joinL k (fun x y=>leqL ws os y x) x b) HB.out ⟨h1,h2⟩
          obtain ⟨j1,hje1,j2,hje2⟩:=V2 (LatM.joinL k (leqL ws os) a b) (LatM.joinL k (fun x y=>leqL ws os y x) a b)
          rw [← hje1] at hj1 hbad hgood;rw [← hje2] at hj2 hbad hgood;obtain ⟨bb,o,rfl,hbs,hcell⟩:=HH2.out.cell (by rw [← HN.out]; omega)
          have p2:=(hcell b (by rw [← HN.out]; exact hbk)).2
          obtain ⟨p,hp⟩:=V1 (wPl ws b);rw [← hp] at p2 hbad;obtain ⟨HC1,HC2,HBAD,HGOOD⟩:=Z4 hj1 hj2 hbad hgood;have i0:=nZ b;have i1:(b:Int) < (k:Int):=by omega
          clear hj1 hj2 hbad hgood hje1 hje2 hcell hp;by_cases n1:j1 < 0
          ·have HX:=hide (HBAD.out (.inl n1));go_wp2_with fail
           refine HC1.out.mono ?_;rintro e w' ⟨rfl,rfl⟩;go_wp2_with fail
           exact Qak (f:=(12,p)) ((HB2.out.set_ 0 _).set_ 1 _) rfl rfl rfl ⟨by rw [HX.out],Qw HE2.out _ _⟩
          ·by_cases n2:j2 < 0
           ·have HX:=hide (HBAD.out (.inr n2));go_wp2_with fail
            refine HC1.out.mono ?_;rintro e w' ⟨rfl,rfl⟩;go_wp2_with fail
            refine HC2.out.mono ?_;rintro e w' ⟨rfl,rfl⟩;go_wp2_with fail
            exact Qak (f:=(12,p)) ((HB2.out.set_ 0 _).set_ 1 _) rfl rfl rfl ⟨by rw [HX.out],Qw HE2.out _ _⟩
           ·have HX:=hide (HGOOD.out (by omega) (by omega))
            clear HB;go_wp2_with fail
            refine HC1.out.mono ?_;rintro e w' ⟨rfl,rfl⟩;go_wp2_with fail
            refine HC2.out.mono ?_;rintro e w' ⟨rfl,rfl⟩;go_wp2_with fail
            go_round
            case rel=>exact ⟨a + 1,by omega,by go_num,HX⟩
            case measure=>simp [intOf]; omega
         ·obtain rfl:a=b:=by omega
          have HX:=hide (below_step HA.out (show LatM.lacks k (leqL ws os) a=false by
           rw [← Bool.not_eq_true,LatM.lacks_iff];rintro ⟨x,hx,h | h⟩
           ·have:=(HB.out x hx).1; omega
           ·have:=(HB.out x hx).2; omega))
          clear HA;go_wp2_with fail
          go_round
          case rel=>exact ⟨a + 1,by omega,by go_num,HX⟩
          case measure=>simp [intOf]; omega
       ·obtain rfl:b=k:=by omega
        have HX:=hide (HW5.out.trans (Qfv (by rw [← HN.out]; exact LatM.boundsL_miss HA.out)))
        clear HA;go_wp2_with fail
        exact Qak (f:=(0,0)) ((HB2.out.set_ 0 _).set_ 1 _) rfl rfl rfl ⟨by rw [HX.out],Qw HE2.out _ _⟩
     ·obtain ⟨hlb,han⟩:=Qf6 (by rw [← HLL.out]; exact hrs)
      have HX:=hide (HW4.out.trans hlb);rw [← HN.out] at han;obtain ⟨bb,o,rfl,hbs,hcell⟩:=HH1.out.cell (by rw [← HN.out]; omega)
      have p2:=(hcell a (by rw [← HN.out]; exact han)).2
      obtain ⟨p,hp⟩:=V1 (wPl ws a);rw [← hp] at p2 HX;have i0:=nZ a;have i1:(a:Int) < (k:Int):=by omega
      clear hlb hcell hp hrs;go_wp2_with fail
      refine HLO.out.mono ?_;rintro e w' ⟨rfl,rfl⟩;go_wp2_with fail
      exact Qak (f:=(11,p)) ((HB1.out.set_ 0 _).set_ 1 _) rfl rfl rfl ⟨by rw [HX.out],Qw HE1.out _ _⟩
theorem Qsm {l:List Nat} {p:Nat→Bool} {k:Nat} (hk:k < l.length):(l.take (k + 1)).all p=((l.take k).all p && p l[k]):=by
 rw [List.take_succ_eq_append_getElem hk,List.all_append];simp
theorem Qqi {l:List Nat} {p:Nat→Bool} {k:Nat} (hk:k < l.length) (h:p l[k]=false):l.all p=false:=by
 rw [List.all_eq_false];exact ⟨l[k],List.getElem_mem hk,by rw [h]; decide⟩
set_option maxRecDepth 100000 in
theorem Qsn (A:Option Addr) (cp n:Nat) (M:List (List Bool)) (A2:Option Addr) (c2 m:Nat) (l:List Nat) (v:Nat) (w:World) (h:MatAt w w.heap.size A M) (hsq:∀ r ∈ M,r.length=M.length) (hn:n=M.length) (hn0:0 < n) (hl:n≤64) (hN:NatAt w w.heap.size A2 l) (hm:m=l.length) (hm':m≤9223372036854775807) (hlt:∀ k ∈ l,k < n) (hv:v < n) :
  Calls Tryz.prog 132 #[.slice A n cp,.slice A2 m c2,.int .i64 (v:Int)] w (fun e w'=>e = .returned (.bool (LatM.over (mat M) l v))∧w=w'):=by
 obtain ⟨b0,o0,rfl,_,hrow⟩:=h.form hsq (by omega)
 rw [← hn] at hrow;obtain ⟨HROW,HM,HNN,HLT⟩:=Z4 hrow hm hN hlt;have i0:=nZ v;have i1:(v:Int) < (n:Int):=by omega
 clear hrow h hsq hn hm hN hlt;go_enter Tryz.func132,Tryz.ntmps132
 go_wp2_with fail
 go_loopw [7] (fun i wr=>∃ k:Nat,k≤m∧i = .int .i64 k∧w=wr∧Hid ((l.take k).all (fun a=>mat M a v)=true)) (fun i _=>m - (intOf i).toNat)
 case atStart=>exact ⟨0,Nat.zero_le _,rfl,rfl,rfl⟩
 case round =>
  obtain ⟨k,hk,rfl,rfl,HA⟩:=hrel;by_cases hkm:k < m
  ·have hkl:k < l.length:=by rw [← HM.out]; exact hkm
   obtain ⟨b,o,rfl,_,hcell⟩:=HNN.out.cell (by omega)
   have q1:=hcell k hkl;have hin:=HLT.out _ (List.getElem_mem hkl);obtain ⟨bk,ok,ck,f1,_,g1⟩:=HROW.out l[k] hin;have g1':=g1 v hv;have hst:=Qsm (p:=fun a=>mat M a v) hkl
   have hno:=fun h=>Qqi (p:=fun a=>mat M a v) hkl h
   obtain ⟨i,hi⟩:=V1 (l[k]);rw [← hi] at q1 hin f1 g1' hst hno;obtain ⟨r,hr⟩:=V1 (mat M i v);rw [← hr] at g1' hst hno;obtain ⟨HST,HNO⟩:=Z2 hst hno;have i2:=nZ i;have i3:(i:Int) < (n:Int):=by omega
   clear hcell g1 hst hno hi hr;cases r with
   | true =>
    have HA2:=hide (show (l.take (k + 1)).all (fun a=>mat M a v)=true by rw [HST.out,HA.out]; rfl)
    clear HA HST HNO;go_wp2_with fail
    go_roundw
    case rel=>exact ⟨k + 1,by omega,by go_num,by trivial,HA2⟩
    case measure=>simp [intOf]; omega
   | false =>
    have HX:=hide (HNO.out rfl);clear HST HNO;go_wp2_with fail
    go_ret
    exact ⟨Qb (by unfold LatM.over; rw [HX.out]),rfl⟩
  ·obtain rfl:k=m:=by omega
   have HX:=hide (show LatM.over (mat M) l v=true by
    have:=HA.out
    rw [List.take_of_length_le (by rw [← HM.out]; exact Nat.le_refl _)] at this
    exact this)
   clear HA;go_wp2_with fail
   go_ret
   exact ⟨Qb HX.out.symm,rfl⟩
set_option maxRecDepth 100000 in
theorem Qqj (A:Option Addr) (cp n:Nat) (M:List (List Bool)) (A2:Option Addr) (c2 m:Nat) (l:List Nat) (w:World) (h:MatAt w w.heap.size A M) (hsq:∀ r ∈ M,r.length=M.length) (hn:n=M.length) (hl:n≤64) (hN:NatAt w w.heap.size A2 l) (hm:m=l.length) (hm':m≤9223372036854775807) (hlt:∀ k ∈ l,k < n) :
  Calls Tryz.prog 112 #[.slice A n cp,.slice A2 m c2] w (fun e w'=>e = .returned (.int .i64 (LatM.leastL n (mat M) l))∧w=w'):=by
 obtain ⟨HOV,HROW⟩:=Z2 (fun (v:Nat) (hv:v < n)=>Qsn A cp n M A2 c2 m l v w h hsq hn (by omega) hl hN hm hm' hlt hv) (fun (h0:0 < n)=>(by have:=h.form hsq (by omega); rw [← hn] at this; exact this:∃ b o,A=some ⟨b,o,none⟩∧b < w.heap.size∧∀ k,k < n→∃ bk ok ck,w.cell? ⟨b,o + k,none⟩=some (.slice (some ⟨bk,ok,none⟩) n ck)∧bk < w.heap.size∧∀ j,j < n→w.cell? ⟨bk,ok + j,none⟩=some (.bool (mat M k j))))
 obtain ⟨I,hI⟩:∃ I:Nat→Bool,I=LatM.over (mat M) l:=⟨_,rfl⟩;rw [← hI] at HOV;rw [show LatM.leastL n (mat M) l=LatM.bestL n I (mat M) by rw [hI]; rfl]
 obtain ⟨N,hN'⟩:=V1 (mat M);rw [← hN'] at HROW ⊢;clear h hsq hn hN hm hm' hlt hI hN';go_enter Tryz.func112,Tryz.ntmps112
 go_wp2_with fail
 go_loopw [5] (fun i wr=>∃ c:Nat,c≤n∧i = .int .i64 c∧w=wr∧Hid (∀ j,j < c→LatM.isBest n I N j=false)) (fun i _=>n - (intOf i).toNat)
 case atStart=>exact ⟨0,Nat.zero_le _,rfl,rfl,fun j hj=>absurd hj (by omega)⟩
 case round =>
  obtain ⟨c,hc,rfl,rfl,HA⟩:=hrel;by_cases hcn:c < n
  ·have HO1:=hide (HOV.out c hcn);obtain ⟨b0,o0,rfl,_,hrow⟩:=HROW.out (by omega)
   obtain ⟨bc,oc,cc,fc,_,gc⟩:=hrow c hcn;have GC:=hide gc;have i0:=nZ c;have i1:(c:Int) < (n:Int):=by omega
   clear hrow gc;go_wp2_with fail
   refine HO1.out.mono ?_;rintro e w' ⟨rfl,rfl⟩;go_wp2_with fail
   go_loopw [7,6] (fun i v wr=>∃ (d:Nat) (u:Bool),d≤n∧i = .int .i64 d∧v = .bool u∧w=wr∧Hid (u=Qci I N c d)) (fun i _ _=>n - (intOf i).toNat)
   case atStart=>exact ⟨0,_,Nat.zero_le _,rfl,rfl,rfl,(bestTo_zero I N c).symm⟩
   case round =>
    obtain ⟨d,u,hd,rfl,rfl,rfl,HU⟩:=hrel;by_cases hdn:d < n
    ·have ho:=HOV.out d hdn;have zc:=GC.out d hdn;have i2:=nZ d;have i3:(d:Int) < (n:Int):=by omega
     have hy:=fun h=>Qdl (I:=I) (M:=N) (c:=c) (k:=d) h
     have hno:=fun h1 h2=>Qjy (I:=I) (M:=N) (c:=c) (k:=d) h1 h2
     obtain ⟨x,hx,z,hz⟩:=V2 (I d) (N c d);rw [← hx] at ho hy hno;rw [← hz] at zc hy hno;obtain ⟨HO,HY,HNO⟩:=Z3 ho hy hno;clear ho hy hno hx hz;cases x with
     | false =>
      have HS:=hide (HY.out (.inl rfl));clear HY HNO;go_wp2_with fail
      refine HO.out.mono ?_;rintro e w' ⟨rfl,rfl⟩;go_wp2_with fail
      go_roundw
      case rel=>exact ⟨d + 1,u,by omega,by go_num,rfl,by trivial,by rw [HS.out]; exact HU.out⟩
      case measure=>simp [intOf]; omega
     | true =>
      cases z with
      | true =>
       have HS:=hide (HY.out (.inr rfl));clear HY HNO;go_wp2_with fail
       refine HO.out.mono ?_;rintro e w' ⟨rfl,rfl⟩;go_wp2_with fail
       go_roundw
       case rel=>exact ⟨d + 1,u,by omega,by go_num,rfl,by trivial,by rw [HS.out]; exact HU.out⟩
       case measure=>simp [intOf]; omega
      | false =>
       have HS:=hide (HNO.out rfl rfl);clear HY HNO;go_wp2_with fail
       refine HO.out.mono ?_;rintro e w' ⟨rfl,rfl⟩;go_wp2_with fail
       go_roundw
       case rel=>exact ⟨d + 1,false,by omega,by go_num,rfl,by trivial,HS.out.symm⟩
       case measure=>simp [intOf]; omega
    ·obtain rfl:d=n:=by omega
     cases u with
     | true =>
      have HJ:=hide (LatM.bestL_first hcn (show LatM.isBest d I N c=true from HU.out.symm) HA.out)
      go_wp2_with fail
      go_ret
      exact ⟨Qq HJ.out.symm,rfl⟩
     | false =>
      have HB:=hide (below_step HA.out (show LatM.isBest d I N c=false from HU.out.symm))
      clear HA;go_wp2_with fail
      go_roundw
      case rel=>exact ⟨c + 1,by omega,by go_num,by trivial,HB⟩
      case measure=>simp [intOf]; omega
  ·obtain rfl:c=n:=by omega
   have HM:=hide (LatM.bestL_miss HA.out);go_wp2_with fail
   go_ret
   exact ⟨Qq HM.out.symm,rfl⟩
set_option maxRecDepth 100000 in
theorem Qqk (A:Option Addr) (c n:Nat) (ws:List Wd) (os:List (Wd × Wd)) (A2:Option Addr) (c2:Nat) (M:List (List Bool)) (A3:Option Addr) (c3 m:Nat) (us:List Wd) (w:World) (h:WdsAt w w.heap.size A ws) (hn:n=ws.length) (hl:n≤64) (hM:MatAt w w.heap.size A2 M) (hsq:∀ r ∈ M,r.length=M.length) (hMl:n=M.length) (hmat:mat M=leqL ws os) (hlat:LatM.Lat ws.length (leqL ws os)) (hu:WdsAt w w.heap.size A3 us) (hm:m=us.length) (hm':m≤1000000) :
  Calls Tryz.prog 79 #[.slice A n c,.slice A2 n c2,.slice A3 m c3] w (fun e w'=>e = .returned (.tuple #[.int .i64 (ofI ws os us),fltV (ofF ws us)])∧Ext w w'):=by
 obtain ⟨HM,HU,HFnd,HLst,HMAT,HLAT,HN⟩:=Z7 hm hu (fun (w1:World) (hE:Ext w w1) (s:ByteArray)=>Qei A c n ws s w1 (h.ext hE) hn (by omega)) (fun (w1:World) (hE:Ext w w1) (A4:Option Addr) (c4 q:Nat) (l:List Nat) (hN:NatAt w1 w1.heap.size A4 l) (hq:q=l.length) (hq':q≤9223372036854775807) (hlt:∀ k ∈ l,k < n)=>Qqj A2 c2 n M A4 c4 q l w1 (hM.below hE hE.size) hsq hMl hl hN hq hq' hlt) hmat hlat hn
 clear h hn hl hM hsq hMl hmat hlat hu hm;go_enter Tryz.func79,Tryz.ntmps79
 go_wp2_with fail
 go_loopw [9,8] (fun i o wr=>∃ (k:Nat) (Ao:Option Addr) (co:Nat),k≤m∧i = .int .i64 k∧o = .slice Ao k co∧Ext w wr∧Blk wr w.heap.size 34 #[.int .i64 0,.int .i64 0]∧wr.ownsRow (w.heap.size + 1) 3 1 (.slice Ao k co) k (natCells (ofIdx ws us k))∧Hid (∀ j,j < k→Qab ws us j=none)) (fun i _ _=>m - (intOf i).toNat)
 case atStart=>exact ⟨0,none,0,Nat.zero_le _,rfl,rfl,(Ext.rfl' w).alloc nL _,Blk.new _ _ _,World.ownsRow_nil _ _ _ _,fun j hj=>absurd hj (by omega)⟩
 case round =>
  obtain ⟨k,Ao,co,hk,rfl,rfl,hE,hB,hO,HA⟩:=hrel;obtain ⟨HE,HB,HO⟩:=Z3 hE hB hO;by_cases hlt:k < m
  ·have hkl:k < us.length:=by rw [← HM.out]; exact hlt
   obtain ⟨b,o,rfl,hbs,hcell⟩:=HU.out.cell (by omega)
   obtain ⟨hp1,hp2⟩:=hcell k hkl;have hcase:=Qch (nms ws) (wNm us k);have hbad:findL (nms ws) (wNm us k) = -1→Qab ws us k=some (17,wPl us k):=fun e=>by unfold Qab; rw [e,if_pos (by omega)]
   have hgood:∀ q:Nat,findL (nms ws) (wNm us k)=q→Qab ws us k=none∧ofIdx ws us (k + 1)=ofIdx ws us k ++ [q]:=fun q e=>⟨by unfold Qab; rw [e,if_neg (by omega)],by rw [Qio,e]; rfl⟩
   have hf:=HFnd.out wr hE (wNm us k);obtain ⟨x,hx,p,hp⟩:=V2 (wNm us k) (wPl us k);rw [← hx] at hp1 hcase hbad hgood hf;rw [← hp] at hp2 hbad;have q1:wr.cell? ⟨b,o + k * 2,none⟩=some (.string x):=(hE.cell (p:=⟨b,o + k * 2,none⟩) hbs).trans hp1;have q2:wr.cell? ⟨b,o + k * 2 + 1,none⟩=some (.int .i64 p):=(hE.cell (p:=⟨b,o + k * 2 + 1,none⟩) hbs).trans hp2;have i0:=nZ k;have i1:(k:Int) < (m:Int):=by omega
   obtain ⟨HBAD,HGOOD⟩:=Z2 hbad hgood;have hsz:=hB.lt;clear hp1 hp2 hcell hx hp hbad hgood;rcases hcase with ⟨e1,_⟩ | ⟨q,hq,e1,_⟩
   ·rw [e1] at hf;obtain ⟨HF,HX⟩:=Z2 hf (Qk (n:=m) hlt HA.out (HBAD.out e1));obtain ⟨b0,b1⟩:=X2 hB;obtain ⟨f0,f1⟩:=Y2 hB;clear hf e1 HGOOD HBAD hB hE hO;go_wp2_with fail
    refine HF.out.mono ?_;rintro e w' ⟨rfl,rfl⟩;go_wp2_with fail
    go_region
    go_wp2_with fail
    exact Ql (f:=(17,p)) (g:=w.heap.size) (v:=.int .i64 0) ((HB.out.set_ 0 _).set_ 1 _) rfl rfl rfl rfl ⟨by unfold ofI ofF; rw [← HM.out,HX.out],(Qw HE.out _ _).drew'⟩
   ·rw [e1] at hf;have HF:=hide hf;obtain ⟨g1,g2⟩:=HGOOD.out q e1;obtain ⟨HA2,HG2⟩:=Z2 (below_step HA.out g1) g2;have hq0:¬ (q:Int) < 0:=by omega
    clear hf e1 HGOOD HBAD g1 g2 hq hE hO hB HA;go_wp2_with fail
    refine HF.out.mono ?_;rintro e w' ⟨rfl,rfl⟩;go_wp2_with (at_builtin; refine wpList_append_Nat _ rfl _ _ rfl (w.heap.size + 1) _ k (ofIdx ws us k) rfl wr.heap.size q _ rfl (HO.out.alloc _) (reads_new _ _ _) (by omega) (by simp; omega) ?_)
    intro A4 c4 w3 hown3 hgrow3 _;obtain ⟨HE3,HB3⟩:=Z2 (grown_ext' (w:=w) (wr:=wr) (base:=w.heap.size + 1) HE.out ((Ext.rfl' wr).alloc nL _) hgrow3 HO.out (by omega)) (grown_blk (HB.out.alloc _) hgrow3 HO.out (.inl (by omega)))
    rw [← HG2.out] at hown3;have HO3:=hide hown3;clear hown3 hgrow3 q1 q2;go_wp2_with fail
    go_roundw
    case rel=>exact ⟨k + 1,A4,c4,by omega,by go_num,rfl,HE3.out,HB3.out,HO3.out,HA2⟩
    case measure=>simp [intOf]; omega
  ·obtain rfl:k=m:=by omega
   have HX:=hide (firstOf_miss.2 HA.out);have hil:(ofIdx ws us k).length=k:=by simp [ofIdx]
   have hna:NatAt wr wr.heap.size Ao (ofIdx ws us k):=by
    unfold NatAt;rw [hil];exact Reads.of_own HO.out
   have hll:=HLst.out wr hE Ao co k (ofIdx ws us k) hna hil.symm (by omega) (by have:=Qfa HA.out; intro x hx; have:=this x hx; rw [HN.out]; exact this)
   rw [show LatM.leastL n (mat M) (ofIdx ws us k)=(LatM.allJoin ws.length (leqL ws os) (ofIdx ws us k):Nat) by rw [HMAT.out,HN.out]; exact LatM.leastL_eq HLAT.out (Qfa HA.out)] at hll
   obtain ⟨t,ht⟩:=V1 (LatM.allJoin ws.length (leqL ws os) (ofIdx ws us k));rw [← ht] at hll;obtain ⟨HT,HL⟩:=Z2 ht hll;obtain ⟨b0,b1⟩:=X2 hB;obtain ⟨f0,f1⟩:=Y2 hB;clear hB hE HA hil hna hll ht hO;go_wp2_with fail
   refine HL.out.mono ?_;rintro e w' ⟨rfl,rfl⟩;go_wp2_with fail
   exact Ql (f:=(0,0)) (g:=w.heap.size) (v:=.int .i64 t) ((HB.out.set_ 0 _).set_ 1 _) rfl rfl rfl rfl ⟨by unfold ofI ofF; rw [← HM.out,HX.out,HT.out],Qw HE.out _ _⟩
theorem Qtz:∃ i,Tryz.prog.info? 27=some i∧i.zero=some (.agg #[.string ⟨#[]⟩,.int .i64 0])∧i.size=2∧i.bytes=24 :=
 Qal (a:=2) (b:=24) (v:=.agg #[.string ⟨#[]⟩,.int .i64 0]) (s:=2) (by kernel_rfl)
theorem Qjh (l m:List Wd):wdCells (l ++ m)=wdCells l ++ wdCells m:=by simp [wdCells]
theorem Qm6 (l:List Wd):∀ u ∈ wdCells l,u.oneCell'=true:=by
 intro u hu;simp only [wdCells,List.mem_flatMap] at hu;obtain ⟨p,_,hu⟩:=hu;simp at hu
 rcases hu with rfl | rfl <;> rfl
theorem Qlg (w:World) (t:TypeId) (s:ByteArray) (y:Int) (g:Nat) (hg:g=w.heap.size):Reads (w.alloc (.cells #[.string s,.int .i64 y] t)) (g + 1) 2 (some ⟨g,0,none⟩) 1 (wdCells [(s,y)]):=by
 subst hg;refine ⟨rfl,fun _=>⟨_,rfl,by simp,fun j u hu=>?_⟩⟩
 have e:(⟨w.heap.size,0,none⟩:Addr).add j=⟨w.heap.size,j,none⟩:=by unfold Addr.add; split <;> simp_all
 rw [e,World.cell?_alloc_new];simpa [wdCells] using hu
theorem Qd2 (w:World) {ops:Array Oper} {rest:List Oper} {o:Oper} {a:Act} {Q:Exit→Act→World→Prop} (hgd:o.guard=none) (s x:Operand)
  (ho:o.op = .call { callee:=.builtin .append,args:=#[s,x],argTypes:=#[22,22] })
  (base:Nat) (v:Value) (n:Nat) (l:List Wd) (hs:a.eval s=v) (B:Nat) (A:Option Addr) (c:Nat) (p:Wd) (hx:a.eval x = .slice A 1 c)
  (hown:w.ownsRow base 27 2 v n (wdCells l)) (hr:Reads w B 2 A 1 (wdCells [p])) (hn:n≤5864062014633) (hbase:base≤w.heap.size)
  (h:∀ A' c' w',w'.ownsRow base 27 2 (.slice A' (n + 1) c') (n + 1) (wdCells (l ++ [p]))→w.grownBy w' v.ownBlock→(Value.ownBlock (.slice A' (n + 1) c')=v.ownBlock∨Value.ownBlock (.slice A' (n + 1) c')=some w.heap.size)→wpList Tryz.prog ops Q rest (a.put o.dst (.slice A' (n + 1) c')) w'):wpList Tryz.prog ops Q (o :: rest) a w:=by
 obtain ⟨i0,hi,hz,hs2,hb⟩:=Qtz;refine Qp w hgd s x 22 ho base 27 i0 _ 2 24 Tryz.underlying22 hi hz hs2 hb rfl (by decide) v n (wdCells l) hs hown B A 1 c (wdCells [p]) hx hr (Qm6 _) (by unfold maxLen; omega) (by omega) hbase ?_
 rw [← Qjh];exact h
def bareWs (l:List Wd):List Wd:=l.map fun p=>(p.1,0)
theorem bareWs_length (l:List Wd):(bareWs l).length=l.length:=by simp [bareWs]
theorem nms_bare (l:List Wd):nms (bareWs l)=nms l:=by
 unfold nms bareWs;rw [List.map_map];rfl
theorem bareWs_nms (l:List Wd):bareWs l=(nms l).map fun s=>(s,0):=by
 unfold nms bareWs;rw [List.map_map];rfl
theorem Qql {a b:List Wd} : bareWs a=bareWs b↔nms a=nms b:=by
 constructor
 ·intro h;rw [← nms_bare a,h,nms_bare]
 ·intro h;rw [bareWs_nms,bareWs_nms,h]
theorem Qm7 {l:List Wd} {k:Nat} (hk:k < l.length):bareWs (l.take (k + 1))=bareWs (l.take k) ++ [(wNm l k,0)]:=by
 unfold bareWs;rw [List.take_succ_eq_append_getElem hk,List.map_append];congr 1
 unfold wNm;rw [List.getD_eq_getElem?_getD,List.getElem?_eq_getElem hk];rfl
def Qqm (l:List Wd) (w:World) (e:Ending) (w':World):Prop:=∃ A c,e = .returned (.slice A l.length c)∧WdsAt w' w'.heap.size A (bareWs l)∧Ext w w'
set_option maxRecDepth 100000 in
theorem Qjz (A:Option Addr) (c n:Nat) (l:List Wd) (w:World) (h:WdsAt w w.heap.size A l) (hn:n=l.length) (hn':n≤5864062014634) :
  Calls Tryz.prog 183 #[.slice A n c] w (Qqm l w):=by
 obtain ⟨HN,HWS⟩:=Z2 hn h;clear hn h;go_enter Tryz.func183,Tryz.ntmps183
 go_wp2_with fail
 go_loopw [8,3] (fun i o wr=>∃ (k:Nat) (Ao:Option Addr) (co:Nat),k≤n∧i = .int .i64 (k:Int)∧o = .slice Ao k co∧wr.ownsRow w.heap.size 27 2 (.slice Ao k co) k (wdCells (bareWs (l.take k)))∧Ext w wr) (fun i _ _=>n - (intOf i).toNat)
 case atStart=>exact ⟨0,none,0,Nat.zero_le _,rfl,rfl,World.ownsRow_nil _ _ _ _,Ext.rfl' w⟩
 case round =>
  obtain ⟨k,Ao,co,hk,rfl,rfl,hO,hE⟩:=hrel;obtain ⟨HO,HE⟩:=Z2 hO hE;by_cases hlt:k < n
  ·have hkl:k < l.length:=by rw [← HN.out]; exact hlt
   obtain ⟨b,o,rfl,hbs,hcell⟩:=HWS.out.cell (by omega)
   obtain ⟨p0,p1⟩:=hcell k hkl;have q0:=(hE.cell (p:=⟨b,o + k * 2,none⟩) hbs).trans p0;have q1:=(hE.cell (p:=⟨b,o + k * 2 + 1,none⟩) hbs).trans p1;have hst:=Qm7 hkl;obtain ⟨s,hs,y,hy⟩:=V2 (wNm l k) (wPl l k);rw [← hs] at q0 hst;rw [← hy] at q1;have HST:=hide hst;have i0:=nZ k;have i1:(k:Int) < (n:Int):=by omega
   obtain ⟨w5,hw5,g5,hg5⟩:=V2 (wr.alloc (.cells #[.string s,.int .i64 y] 27)) (wr.heap.size);have hV:Blk w5 g5 27 #[.string s,.int .i64 y]:=by rw [hw5,hg5]; exact Blk.new _ _ _
   have hE5':Ext wr w5:=by rw [hw5]; exact (Ext.rfl' wr).alloc nL _
   obtain ⟨v0,v1⟩:=X2 hV;obtain ⟨HE5,HO5⟩:=Z2 (hE.trans' hE5') (own_ext hO hE5');have hsz:=HE5.out.size;obtain ⟨HW5,HG5⟩:=Z2 hw5 hg5;clear hcell p0 p1 hs hy hst hO hE hkl hw5 hg5 hV hE5' HO;go_upto_region 5 with fail
   rw [← HW5.out,← HG5.out];clear q0 q1;go_wp2_with (at_builtin; refine Qd2 _ rfl _ _ rfl w.heap.size _ k (bareWs (l.take k)) rfl (w5.heap.size + 1) (some ⟨w5.heap.size,0,none⟩) 1 (s,0) rfl (HO5.out.alloc _) (Qlg _ _ _ _ _ rfl) (by omega) (by simp only [World.size_alloc]; omega) ?_)
   intro A3 c3 w3 hown3 hgrow3 _;have HE3:=hide (grown_ext' (w:=w) (wr:=w5) (base:=w.heap.size) HE5.out ((Ext.rfl' w5).alloc nL _) hgrow3 HO5.out nL);rw [← HST.out] at hown3;have HO3:=hide hown3;clear hown3 hgrow3 v0 v1;go_wp2_with fail
   go_roundw
   case rel=>exact ⟨k + 1,A3,c3,by omega,by go_num,rfl,HO3.out,HE3.out⟩
   case measure=>simp [intOf]; omega
  ·obtain rfl:k=n:=by omega
   have hO':=HO.out;rw [List.take_of_length_le (by rw [← HN.out]; exact Nat.le_refl _)] at hO'
   have HO':=hide hO';clear hO hE hO';go_wp2_with fail
   go_ret
   refine ⟨Ao,co,by rw [← HN.out]; rfl,?_,HE.out⟩
   unfold WdsAt;rw [bareWs_length,← HN.out];exact Reads.of_own HO'.out
theorem Qqn {α:Type} {l:List α} (h:l.length=2):∃ a b,l = [a,b]:=by
 match l,h with
 | [a,b],_=>exact ⟨a,b,rfl⟩
theorem Qm8 (a:ByteArray) (b:Int) (c:ByteArray) (d:Int) (w:World):(Op.equalIn 10000 27 (.agg #[.string a,.int .i64 b]) (.agg #[.string c,.int .i64 d])).run Tryz.prog w = .ok (a.toList == c.toList && b == d) w:=by
 rw [run_equalIn_struct w 9999 27 _ _ (by kernel_rfl) (by kernel_rfl)]
 obtain ⟨f1,f2,hf,h1,h2,h3,h4,h5,h6⟩:∃ f1 f2:Field,(Tryz.prog.fieldsOf 27).toList = [f1,f2]∧f1.name≠ "_"∧f2.name≠ "_"∧f1.type=9∧f2.type=3∧f1.offset=0∧f2.offset=1:=by
  have hm:(Tryz.prog.fieldsOf 27).toList.map (fun f=>(f.name,f.type,f.offset)) = [("Name",9,0),("At",3,1)]:=by kernel_rfl
  obtain ⟨f1,f2,hl⟩:=Qqn (show (Tryz.prog.fieldsOf 27).toList.length=2 by have:=congrArg List.length hm; simpa only [List.length_map,List.length_cons,List.length_nil] using this)
  rw [hl] at hm;simp only [List.map_cons,List.map_nil,List.cons.injEq,Prod.mk.injEq,and_true] at hm;obtain ⟨⟨a1,a2,a3⟩,b1,b2,b3⟩:=hm;exact ⟨f1,f2,hl,by rw [a1]; decide,by rw [b1]; decide,a2,b2,a3,b3⟩
 have hp0:∀ (x:ByteArray) (y:Int),(part 9 #[.string x,.int .i64 y] 0).run Tryz.prog w = .ok (.string x) w:=fun x y=>by kernel_rfl
 have hp1:∀ (x:ByteArray) (y:Int),(part 3 #[.string x,.int .i64 y] 1).run Tryz.prog w = .ok (.int .i64 y) w:=fun x y=>by kernel_rfl
 have he:∀ x y:ByteArray,(Op.equalIn 9999 9 (.string x) (.string y)).run Tryz.prog w = .ok (x.toList == y.toList) w:=fun x y=>run_equalIn_string w 9998 _ x y (by kernel_rfl)
 have he2:∀ x y:Int,(Op.equalIn 9999 3 (.int .i64 x) (.int .i64 y)).run Tryz.prog w = .ok (x == y) w:=fun x y=>run_equalIn_int w 9998 _ _ .i64 x y (by kernel_rfl)
 rw [hf];unfold Op.eqFields;rw [if_pos h1,h3,h5];simp only [Sem.run_bind,hp0,Result.andThen_ok,he];cases hx:(a.toList == c.toList)
 ·simp
 ·simp only [Bool.not_true,Bool.false_eq_true,if_false];unfold Op.eqFields;rw [if_pos h2,h4,h6];simp only [Sem.run_bind,hp1,Result.andThen_ok,he2];cases hy:(b == d)
  ·simp
  ·simp [Op.eqFields]
theorem Q0 {P:Nat→Prop} {k:Nat} (h:∀ j,j < k→P j) (hk:P k):∀ j,j < k + 1→P j:=fun j hj=>by
 rcases Nat.lt_or_ge j k with h1 | h1
 ·exact h j h1
 ·obtain rfl:j=k:=by omega
  exact hk
def wAt (l:List Wd) (k:Nat):Wd:=(wNm l k,wPl l k)
theorem wAt_get {l:List Wd} {k:Nat} (hk:k < l.length):l[k]=wAt l k:=by
 unfold wAt wNm wPl;rw [List.getD_eq_getElem?_getD,List.getElem?_eq_getElem hk];rfl
theorem Qus {l m:List Wd} {n:Nat} (hl:n=l.length) (hm:n=m.length):l=m↔∀ k,k < n→wAt l k=wAt m k:=by
 constructor
 ·rintro rfl k _; rfl
 ·intro h;apply List.ext_getElem (by omega)
  intro i hi hj;rw [wAt_get hi,wAt_get hj,h i (by omega)]
theorem Qut {l m:List Wd} {n:Nat} (hl:n=l.length) (hm:n=m.length):nms l=nms m↔∀ k,k < n→wNm l k=wNm m k:=by
 constructor
 ·intro h k hk;rw [← nms_at (by rw [nms_length]; omega),← nms_at (by rw [nms_length]; omega)]
  simp only [h]
 ·intro h;apply List.ext_getElem (by rw [nms_length,nms_length]; omega)
  intro i hi hj;rw [nms_at hi,nms_at hj];exact h i (by rw [nms_length] at hi; omega)
set_option maxRecDepth 100000 in
theorem equalW_any (A:Option Addr) (c n:Nat) (l:List Wd) (A2:Option Addr) (c2 n2:Nat) (m:List Wd) (w:World) (h:WdsAt w w.heap.size A l) (hn:n=l.length) (hn':n≤5864062014634) (h2:WdsAt w w.heap.size A2 m) (hn2:n2=m.length) :
  Calls Tryz.prog 182 #[.slice A n c,.slice A2 n2 c2] w (fun e w'=>e = .returned (.bool (decide (l=m)))∧Ext w w'):=by
 by_cases hln:n=n2
 ·subst hln;have hiff:=Qus hn hn2;obtain ⟨HYES,HNO⟩:=Z2 (fun (hh:∀ k,k < n→wAt l k=wAt m k)=>(decide_eq_true (hiff.2 hh)).symm) (fun k (hk:k < n) (hh:¬ wAt l k=wAt m k)=>(show false=decide (l=m) from (decide_eq_false fun e=>hh (hiff.1 e k hk)).symm))
  obtain ⟨R,hR⟩:=V1 (decide (l=m));rw [← hR] at HYES HNO ⊢;obtain ⟨HN,HN2,HL,HM⟩:=Z4 hn hn2 h h2;clear hn hn2 hiff hR h h2;go_enter Tryz.func182,Tryz.ntmps182
  go_wp2_with fail
  go_loopw [13] (fun i wr=>∃ k:Nat,k≤n∧i = .int .i64 (k:Int)∧Ext w wr∧Hid (∀ j,j < k→wAt l j=wAt m j)) (fun i _=>n - (intOf i).toNat)
  case atStart=>exact ⟨0,Nat.zero_le _,rfl,Ext.rfl' _,fun j hj=>absurd hj (by omega)⟩
  case round =>
   obtain ⟨k,hk,rfl,hE,HA⟩:=hrel;have HE:=hide hE;by_cases hkn:k < n
   ·obtain ⟨b,o,rfl,hb,hc⟩:=HL.out.cell (by rw [← HN.out]; omega)
    obtain ⟨b',o',rfl,hb',hc'⟩:=HM.out.cell (by rw [← HN2.out]; omega)
    obtain ⟨p0,p1⟩:=hc k (by rw [← HN.out]; exact hkn)
    obtain ⟨r0,r1⟩:=hc' k (by rw [← HN2.out]; exact hkn)
    have q0:=(hE.cell (p:=⟨b,o + k * 2,none⟩) hb).trans p0;have q1:=(hE.cell (p:=⟨b,o + k * 2 + 1,none⟩) hb).trans p1;have s0:=(hE.cell (p:=⟨b',o' + k * 2,none⟩) hb').trans r0;have s1:=(hE.cell (p:=⟨b',o' + k * 2 + 1,none⟩) hb').trans r1;have hno:=HNO.out k hkn;have hw1:wAt l k=(wNm l k,wPl l k):=rfl;have hw2:wAt m k=(wNm m k,wPl m k):=rfl;have HA2:=hide (fun hh=>Q0 HA.out (show wAt l k=wAt m k from hh))
    rw [hw1,hw2] at hno HA2;obtain ⟨x,hx,y,hy,x',hx',y',hy'⟩:=V4 (wNm l k) (wPl l k) (wNm m k) (wPl m k);rw [← hx] at q0 hno HA2;rw [← hy] at q1 hno HA2;rw [← hx'] at s0 hno HA2;rw [← hy'] at s1 hno HA2;have hq:=fun w=>Qm8 x y x' y' w
    have hdec:(x.toList == x'.toList && y == y')=decide ((x,y)=(x',y')):=by
     rw [Q8,Bool.eq_iff_iff];simp
    have i0:=nZ k;have i1:(k:Int) < (n:Int):=by omega
    by_cases he:(x,y)=(x',y')
    ·rw [decide_eq_true he] at hdec;have hq2:∀ w,(Op.equalIn 10000 27 (.agg #[.string x,.int .i64 y]) (.agg #[.string x',.int .i64 y'])).run Tryz.prog w = .ok true w:=fun w=>by rw [hq w,hdec]
     have HA3:=hide (HA2.out he);clear hq hdec he hno HA HA2 hx hy hx' hy' p0 p1 r0 r1 hc hc' hw1 hw2 hE;go_wp2_with fail
     go_quiet (fail)
     have hEq:=below_drewN HE.out nq;go_wp2_with fail
     go_roundw
     case rel=>exact ⟨k + 1,by omega,by go_num,hEq,HA3⟩
     case measure=>simp [intOf]; omega
    ·have HX:=hide (hno he);rw [decide_eq_false he] at hdec;have hq2:∀ w,(Op.equalIn 10000 27 (.agg #[.string x,.int .i64 y]) (.agg #[.string x',.int .i64 y'])).run Tryz.prog w = .ok false w:=fun w=>by rw [hq w,hdec]
     clear hq hdec he hno HA HA2 hx hy hx' hy' p0 p1 r0 r1 hc hc' hw1 hw2 hE;go_wp2_with fail
     go_quiet (fail)
     have hEq:=below_drewN HE.out nq;go_wp2_with fail
     go_ret
     exact ⟨Qb HX.out,hEq⟩
   ·obtain rfl:k=n:=by omega
    have HX:=hide (HYES.out HA.out);clear HA hE;go_wp2_with fail
    go_ret
    exact ⟨Qb HX.out,HE.out⟩
 ·have HX:=hide (show false=decide (l=m) from (decide_eq_false fun e=>hln (by rw [hn,hn2,e])).symm)
  have hne:((n:Int) != (n2:Int))=true:=by simp; omega
  clear hn hn2 h h2;go_enter Tryz.func182,Tryz.ntmps182
  go_wp2_with fail
  go_ret
  exact ⟨Qb HX.out,Ext.rfl' _⟩
set_option maxRecDepth 100000 in
theorem Qda (A:Option Addr) (c n:Nat) (l:List Wd) (A2:Option Addr) (c2 n2:Nat) (m:List Wd) (w:World) (h:WdsAt w w.heap.size A l) (hn:n=l.length) (hn':n≤5864062014634) (h2:WdsAt w w.heap.size A2 m) (hn2:n2=m.length) (hn2':n2≤5864062014634) :
  Calls Tryz.prog 180 #[.slice A n c,.slice A2 n2 c2] w (fun e w'=>e = .returned (.bool (Qx l m))∧Ext w w'):=by
 obtain ⟨H1,H2,HN,HN2⟩:=Z4 (Qjz A c n l w h hn hn') (fun w1 (hE:Ext w w1)=>Qjz A2 c2 n2 m w1 (h2.ext hE) hn2 hn2') hn hn2
 have hb:decide (bareWs l=bareWs m)=Qx l m:=by unfold Qx; rw [decide_eq_decide]; exact Qql
 obtain ⟨R,hR⟩:=V1 (Qx l m);rw [← hR] at hb ⊢;have HB:=hide hb;clear hb hR;clear h hn h2 hn2;go_enter Tryz.func180,Tryz.ntmps180
 go_wp2_with fail
 refine H1.out.mono ?_;rintro e w3 ⟨A3,c3,rfl,hW3,hE3⟩;rw [← HN.out];obtain ⟨HW3,HE3,HC⟩:=Z3 hW3 hE3 (H2.out w3 hE3);clear hW3 hE3;go_wp2_with fail
 refine HC.out.mono ?_;rintro e w4 ⟨A4,c4,rfl,hW4,hE4⟩;rw [← HN2.out];obtain ⟨HE4,HEQ⟩:=Z2 (HE3.out.trans' hE4) (equalW_any A3 c3 n (bareWs l) A4 c4 n2 (bareWs m) w4 (HW3.out.ext hE4) (by rw [bareWs_length]; exact HN.out) hn' hW4 (by rw [bareWs_length]; exact HN2.out))
 rw [HB.out] at HEQ;clear hW4 hE4 HC H1 H2 HB;go_wp2_with fail
 refine HEQ.out.mono ?_;rintro e w5 ⟨rfl,hE5⟩;have HE5:=hide (HE4.out.trans' hE5);clear hE5;go_wp2_with fail
 go_ret
 exact ⟨rfl,HE5.out⟩
set_option maxRecDepth 100000 in
theorem Qd3 (A:Option Addr) (c n:Nat) (l:List Wd) (A2:Option Addr) (c2 n2:Nat) (m:List Wd) (w:World) (h:WdsAt w w.heap.size A l) (hn:n=l.length) (hn':n≤5864062014634) (h2:WdsAt w w.heap.size A2 m) (hn2:n2=m.length) :
  Calls Tryz.prog 117 #[.slice A n c,.slice A2 n2 c2] w (fun e w'=>e = .returned (.bool (Qx l m))∧Ext w w'):=by
 by_cases hln:n=n2
 ·subst hln;have hiff:=Qut hn hn2;obtain ⟨HYES,HNO⟩:=Z2 (fun (hh:∀ k,k < n→wNm l k=wNm m k)=>(show true=Qx l m from (decide_eq_true (hiff.2 hh)).symm)) (fun k (hk:k < n) (hh:¬ wNm l k=wNm m k)=>(show false=Qx l m from (decide_eq_false fun e=>hh (hiff.1 e k hk)).symm))
  obtain ⟨R,hR⟩:=V1 (Qx l m);rw [← hR] at HYES HNO ⊢;obtain ⟨HN,HN2,HL,HM⟩:=Z4 hn hn2 h h2;clear hn hn2 hiff hR h h2;go_enter Tryz.func117,Tryz.ntmps117
  go_wp2_with fail
  go_loopw [5] (fun i wr=>∃ k:Nat,k≤n∧i = .int .i64 (k:Int)∧Ext w wr∧Hid (∀ j,j < k→wNm l j=wNm m j)) (fun i _=>n - (intOf i).toNat)
  case atStart=>exact ⟨0,Nat.zero_le _,rfl,Ext.rfl' _,fun j hj=>absurd hj (by omega)⟩
  case round =>
   obtain ⟨k,hk,rfl,hE,HA⟩:=hrel;have HE:=hide hE;by_cases hkn:k < n
   ·obtain ⟨b,o,rfl,hb,hc⟩:=HL.out.cell (by rw [← HN.out]; omega)
    obtain ⟨b',o',rfl,hb',hc'⟩:=HM.out.cell (by rw [← HN2.out]; omega)
    obtain ⟨p0,p1⟩:=hc k (by rw [← HN.out]; exact hkn)
    obtain ⟨r0,r1⟩:=hc' k (by rw [← HN2.out]; exact hkn)
    have q0:=(hE.cell (p:=⟨b,o + k * 2,none⟩) hb).trans p0;have s0:=(hE.cell (p:=⟨b',o' + k * 2,none⟩) hb').trans r0;have hno:=HNO.out k hkn;have HA2:=hide (fun hh=>Q0 HA.out (show wNm l k=wNm m k from hh))
    obtain ⟨x,hx,x',hx'⟩:=V2 (wNm l k) (wNm m k);rw [← hx] at q0 hno HA2;rw [← hx'] at s0 hno HA2;have hxy:=Q8 x x';have i0:=nZ k;have i1:(k:Int) < (n:Int):=by omega
    by_cases he:x=x'
    ·have HA3:=hide (HA2.out he);subst he;clear hxy hno HA HA2 hx hx' p0 p1 r0 r1 hc hc' hE;go_wp2_with fail
     go_quiet (fail)
     have hEq:=below_drewN HE.out nq;go_wp2_with fail
     go_roundw
     case rel=>exact ⟨k + 1,by omega,by go_num,hEq,HA3⟩
     case measure=>simp [intOf]; omega
    ·have HX:=hide (hno he);have hne:(x.toList == x'.toList)=false:=by rw [hxy]; simpa using he
     clear hxy he hno HA HA2 hx hx' p0 p1 r0 r1 hc hc' hE;go_wp2_with fail
     go_quiet (fail)
     have hEq:=below_drewN HE.out nq;go_wp2_with fail
     go_ret
     exact ⟨Qb HX.out,hEq⟩
   ·obtain rfl:k=n:=by omega
    have HX:=hide (HYES.out HA.out);clear HA hE;go_wp2_with fail
    go_ret
    exact ⟨Qb HX.out,HE.out⟩
 ·have HX:=hide (show false=Qx l m from (decide_eq_false fun e=>hln (by rw [hn,hn2,← nms_length l,e,nms_length])).symm)
  have hne:((n:Int) != (n2:Int))=true:=by simp; omega
  clear hn hn2 h h2;go_enter Tryz.func117,Tryz.ntmps117
  go_wp2_with fail
  go_ret
  exact ⟨Qb HX.out,Ext.rfl' _⟩
end Go.Proofs.YtanpljalbijfkaaGreat
