/- . -/
import Derived.Test.YtanpljalbijfkaaGreatQ07
import Derived.Test.YtanpljalbijfkaaGreatQ08
import Derived.Test.YtanpljalbijfkaaGreatQ11
import Derived.Test.YtanpljalbijfkaaGreatQ13
import Derived.Deep.RegionHeld3
namespace Go.Proofs.YtanpljalbijfkaaGreat
open Go.RowKit
set_option maxHeartbeats 16000000
set_option maxRecDepth 100000 in
theorem Qqf (t:Ty):∀ (w:World) (vs:List Value),TyAt w w.heap.size t vs→Qr t→Qz t≤100000→Calls Tryz.prog 75 #[.agg vs.toArray] w (fun e w'=>e = .returned (.int .i64 (nodC t:Nat))∧Ext w w'):=by
 induction t with
 | nil=>intro w vs hT; exact hT.elim
 | mk h n p t ih =>
  intro w vs hT hS hC;obtain ⟨An,cn,Ap,cp,rfl,hN,hP⟩:=hT;obtain ⟨_,_,hn,hSz⟩:=hS;rw [cntN_mk] at hC;obtain ⟨w1,hw1,g,hg⟩:=V2 (w.alloc (.cells #[.int .i64 h.kind,.int .i64 h.at_,.int .i64 h.lo,.int .i64 h.hi,.int .i64 h.most,.slice An h.names.length cn,.slice Ap n cp,.string h.name.1,.int .i64 h.name.2] 29)) (w.heap.size);have hB:Blk w1 g 29 #[.int .i64 h.kind,.int .i64 h.at_,.int .i64 h.lo,.int .i64 h.hi,.int .i64 h.most,.slice An h.names.length cn,.slice Ap n cp,.string h.name.1,.int .i64 h.name.2]:=by rw [hw1,hg]; exact Blk.new _ _ _
  have hBE:Ext w w1:=by rw [hw1]; exact (Ext.rfl' w).alloc nL _
  obtain ⟨Hw1,Hg⟩:=Z2 hw1 hg;obtain ⟨b0,-,-,-,-,-,b6⟩:=X7 hB;obtain ⟨HE1,HIH,HP,HSZ,HCN⟩:=Z5 hBE ih hP hSz hC;by_cases hk:h.kind=9
  ·rw [Qfc hk];show Calls Tryz.prog 75 #[.agg #[.int .i64 h.kind,.int .i64 h.at_,.int .i64 h.lo,.int .i64 h.hi,.int .i64 h.most,.slice An h.names.length cn,.slice Ap n cp,.string h.name.1,.int .i64 h.name.2]] w _
   have hk':(h.kind == 9)=true:=by rw [hk]; rfl
   clear hw1 hg hB hBE ih hP hSz hN hC hk;go_enter Tryz.func75,Tryz.ntmps75
   go_upto_region 1 with fail
   rw [← Hw1.out,← Hg.out];go_wp2_with fail
   go_ret
   exact ⟨rfl,HE1.out⟩
  rw [Qbn hk];obtain ⟨C,hCC⟩:=V1 (sumTo (fun i=>if (p i).bare=true then 0 else nodC (t i)))
  have HC:=hide (fun k (hk:k < n)=>(show C (k + 1)=C k + (if (p k).bare=true then 0 else nodC (t k))∧C k + (if (p k).bare=true then 0 else nodC (t k))≤100000∧((p k).bare=false→Qz (t k)≤100000) by
   rw [hCC];refine ⟨rfl,?_,fun hb=>?_⟩
   ·have h1:=Qa5 (f:=fun i=>if (p i).bare=true then 0 else nodC (t i)) hk
    have h2:sumTo (fun i=>if (p i).bare=true then 0 else nodC (t i)) n≤sumTo (fun i=>if (p i).bare=true then 0 else Qz (t i)) n:=Qdz fun i _=>by
     by_cases hb:(p i).bare=true
     ·rw [if_pos hb,if_pos hb]; exact Nat.le_refl _
     ·rw [if_neg hb,if_neg hb]; exact Qcu _
    omega
   ·have h1:=Qa5 (f:=fun i=>if (p i).bare=true then 0 else Qz (t i)) hk
    rw [hb,if_neg (by decide)] at h1
    omega))
  have HC0:=hide (show C 0=0 by rw [hCC]; rfl)
  rw [← hCC];have hk':(h.kind == 9)=false:=by simpa using hk
  show Calls Tryz.prog 75 #[.agg #[.int .i64 h.kind,.int .i64 h.at_,.int .i64 h.lo,.int .i64 h.hi,.int .i64 h.most,.slice An h.names.length cn,.slice Ap n cp,.string h.name.1,.int .i64 h.name.2]] w _
  clear hw1 hg hB hBE ih hP hSz hN hC hk hCC;go_enter Tryz.func75,Tryz.ntmps75
  go_upto_region 1 with fail
  rw [← Hw1.out,← Hg.out];go_wp2_with fail
  clear b0 b6;go_loopw [12,3] (fun i cv wr=>∃ k:Nat,k≤n∧i = .int .i64 (k:Int)∧cv = .int .i64 ((1 + C k:Nat):Int)∧Ext w1 wr) (fun i _ _=>n - (intOf i).toNat)
  case atStart=>exact ⟨0,Nat.zero_le _,rfl,by rw [HC0.out]; rfl,Ext.rfl' _⟩
  case round =>
   obtain ⟨k,hk,rfl,rfl,hE⟩:=hrel;have HE:=hide hE;by_cases hkn:k < n
   ·obtain ⟨b,o,rfl,hb,hc⟩:=HP.out (by omega)
    obtain ⟨Al,cl,Ac,cc,vt,q1,q2,q3,q4⟩:=hc k hkn;have hEw:=HE1.out.trans' hE;have hcell:=fun j (v:Value) hv=>(hEw.cell (p:=⟨b,o + k * 18 + j,none⟩) hb).trans (q1 j v hv)
    obtain ⟨hck,hle,hcn⟩:=HC.out k hkn;have hcall:=fun (hb:(p k).bare=false) w2 (hE2:Ext wr w2)=>HIH.out k w2 vt (q4.ext (hEw.trans' hE2)) (HSZ.out k hkn).2.2.2 (hcn hb)
    obtain ⟨h',n',An',cn',Ap',cp',rfl⟩:=q4.form;have HRG:=hide (show wr.rangeAt b (o + k * 18) (ptV (p k) Al cl Ac cc ++ tyV h' An' cn' Ap' n' cp') from hcell)
    unfold ptV tyV at HRG;simp only [List.cons_append,List.nil_append] at HRG;obtain ⟨nm,hnm_⟩:=V1 ((p k).name.1);rw [← hnm_] at HRG;obtain ⟨na,hna_⟩:=V1 ((p k).name.2);rw [← hna_] at HRG;obtain ⟨br,hbr_⟩:=V1 ((p k).bare);rw [← hbr_] at HRG hck hle hcall;obtain ⟨ll,hll_⟩:=V1 ((p k).label.length);rw [← hll_] at HRG;obtain ⟨wi,hwi_⟩:=V1 ((p k).wide);rw [← hwi_] at HRG;obtain ⟨ck,hck_⟩:=V1 ((p k).ck);rw [← hck_] at HRG;obtain ⟨cn2,hcn2_⟩:=V1 ((p k).cn);rw [← hcn2_] at HRG;obtain ⟨ca,hca_⟩:=V1 ((p k).cat);rw [← hca_] at HRG;obtain ⟨lc,hlc_⟩:=V1 ((p k).cl.length);rw [← hlc_] at HRG;obtain ⟨x,hx⟩:=V1 (nodC (t k));rw [← hx] at hck hle hcall;obtain ⟨c,hcc⟩:=V1 (C k);rw [← hcc] at hck hle ⊢;have HCALL:=hide (show br=false→∀ w2,Ext wr w2→Calls Tryz.prog 75 #[.agg #[.int .i64 h'.kind,.int .i64 h'.at_,.int .i64 h'.lo,.int .i64 h'.hi,.int .i64 h'.most,.slice An' h'.names.length cn',.slice Ap' n' cp',.string h'.name.1,.int .i64 h'.name.2]] w2 (fun e w'=>e = .returned (.int .i64 (x:Int))∧Ext w2 w') from hcall)
    obtain ⟨w5,hw5,g5,hg5⟩:=V2 (wr.alloc (.cells #[.string nm,.int .i64 na,.bool br,.slice Al ll cl,.int .i64 wi,.int .i64 ck,.int .i64 cn2,.int .i64 ca,.slice Ac lc cc,.int .i64 h'.kind,.int .i64 h'.at_,.int .i64 h'.lo,.int .i64 h'.hi,.int .i64 h'.most,.slice An' h'.names.length cn',.slice Ap' n' cp',.string h'.name.1,.int .i64 h'.name.2] 131)) (wr.heap.size);have hV:Blk w5 g5 131 #[.string nm,.int .i64 na,.bool br,.slice Al ll cl,.int .i64 wi,.int .i64 ck,.int .i64 cn2,.int .i64 ca,.slice Ac lc cc,.int .i64 h'.kind,.int .i64 h'.at_,.int .i64 h'.lo,.int .i64 h'.hi,.int .i64 h'.most,.slice An' h'.names.length cn',.slice Ap' n' cp',.string h'.name.1,.int .i64 h'.name.2]:=by rw [hw5,hg5]; exact Blk.new _ _ _
    have hVE:Ext wr w5:=by rw [hw5]; exact (Ext.rfl' wr).alloc nL _
    obtain ⟨Hw5,Hg5,HE5,HV⟩:=Z4 hw5 hg5 (hE.trans' hVE) hVE;obtain ⟨-,-,v2,-,-,-,-,-,-,v9,v10,v11,v12,v13,v14,v15,v16,v17⟩:=X18 hV;have i0:=nZ k;have i1:(k:Int) < (n:Int):=by omega
    clear hcell hcall hc q1 q2 q3 q4 hE hEw hx hw5 hg5 hV hVE hcn hcc hnm_ hna_ hbr_ hll_ hwi_ hck_ hcn2_ hca_ hlc_;go_upto_region 6 with fail
    refine wp_region_lit ?_;refine wpList_plain rfl fun K1 hK1=>?_
    go_simp;refine hK1 _ _ ?_;refine wpList_load_mid rfl 131 _ rfl b (o + k * 18) rfl _ _ HRG.out Tryz.underlying131 rfl Qcv ?_;refine wpList_plain rfl fun K2 hK2=>?_
    go_simp;refine hK2 _ _ ?_;refine Qc rfl 131 _ _ rfl _ #[.string nm,.int .i64 na,.bool br,.slice Al ll cl,.int .i64 wi,.int .i64 ck,.int .i64 cn2,.int .i64 ca,.slice Ac lc cc,.int .i64 h'.kind,.int .i64 h'.at_,.int .i64 h'.lo,.int .i64 h'.hi,.int .i64 h'.most,.slice An' h'.names.length cn',.slice Ap' n' cp',.string h'.name.1,.int .i64 h'.name.2] rfl rfl Qcv rfl (by simp [Value.oneCell']) ?_
    go_upto_region 7 with fail
    rw [← Hw5.out,← Hg5.out];cases br with
    | true =>
     rw [if_pos rfl] at hck hle;have HCK:=hide hck;clear hck;go_wp2_with fail
     go_roundw
     case rel=>exact ⟨k + 1,by omega,by go_num,by rw [HCK.out]; rfl,HE5.out⟩
     case measure=>simp [intOf]; omega
    | false =>
     rw [if_neg (by decide)] at hck hle
     obtain ⟨HCK,HC5⟩:=Z2 hck (HCALL.out rfl w5 HV.out);clear hck HCALL;have c0:(0:Int)≤((1 + c:Nat):Int):=by omega
     have c1:((1 + c:Nat):Int)≤100001:=by omega
     have x0:=nZ x;have x1:(x:Int)≤100000:=by omega
     go_wp2_with fail
     refine HC5.out.mono ?_;rintro e w6 ⟨rfl,hE6⟩;have HE6:=hide (HE5.out.trans' hE6);clear hE6 v2 v9 v10 v11 v12 v13 v14 v15 v16 v17;go_wp2_with fail
     go_roundw
     case rel=>exact ⟨k + 1,by omega,by go_num,by rw [HCK.out]; go_num,HE6.out⟩
     case measure=>simp [intOf]; omega
   ·obtain rfl:k=n:=by omega
    clear hE;go_wp2_with fail
    go_ret
    exact ⟨rfl,HE1.out.trans' HE.out⟩
set_option maxRecDepth 100000 in
theorem Qei (A:Option Addr) (c n:Nat) (ws:List Wd) (s:ByteArray) (w:World) (h:WdsAt w w.heap.size A ws) (hn:n=ws.length) (hl:n≤9223372036854775807) :
  Calls Tryz.prog 87 #[.slice A n c,.string s] w (fun e w'=>e = .returned (.int .i64 (findL (nms ws) s))∧w=w'):=by
 obtain ⟨HN,H⟩:=Z2 hn h;clear hn h;go_enter Tryz.func87,Tryz.ntmps87
 go_wp2_with fail
 go_loop [5] (fun i=>∃ k:Nat,k≤n∧i = .int .i64 k∧Hid (∀ j (hj:j < (nms ws).length),j < k→(nms ws)[j]≠s)) (fun i=>n - (intOf i).toNat)
 case atStart=>exact ⟨0,Nat.zero_le _,rfl,fun j _ hj=>absurd hj (by omega)⟩
 case round =>
  obtain ⟨k,hk,rfl,HA⟩:=hrel;by_cases hlt:k < n
  ·have hkl:k < (nms ws).length:=by rw [nms_length,← HN.out]; exact hlt
   obtain ⟨b,o,rfl,_,hcell⟩:=H.out.cell (by rw [← HN.out]; omega)
   have hp1:=(hcell k (by rw [← HN.out]; exact hlt)).1
   obtain ⟨x,hx⟩:=V1 (wNm ws k);rw [← hx] at hp1;have HX:=hide (show x=(nms ws)[k] by rw [nms_at]; exact hx)
   clear hcell hx;cases he:(x.toList == s.toList) with
   | true =>
    have hf:=Qeo hkl HA.out (by rw [← HX.out]; have:=Q8 x s; rw [he] at this; simpa using this.symm)
    have HF:=hide hf;clear hf;go_wp2_with fail
    go_ret
    exact ⟨Qq (by unfold findL; rw [HF.out]),rfl⟩
   | false =>
    have hn:∀ j (hj:j < (nms ws).length),j < k + 1→(nms ws)[j]≠s:=fun j hj hjk=>by
     by_cases e:j=k
     ·subst e; rw [← HX.out]; have:=Q8 x s; rw [he] at this; simpa using this.symm
     ·exact HA.out j hj (by omega)
    have HNN:=hide hn;clear hn HA;go_wp2_with fail
    go_round
    case rel=>exact ⟨k + 1,by omega,by go_num,HNN⟩
    case measure=>simp [intOf]; omega
  ·obtain rfl:k=n:=by omega
   have hf:=findIdx_miss fun j hj=>HA.out j hj (by rw [nms_length,← HN.out] at hj; exact hj)
   have HF:=hide hf;clear hf;go_wp2_with fail
   go_ret
   exact ⟨Qq (by unfold findL; rw [HF.out]),rfl⟩
theorem Qkj (w:World) {ops:Array Oper} {o:Oper} {a:Act} {K:Act→World→Prop} {Q:Exit→Act→World→Prop} {E:Prop} (hgd:o.guard=none) (s x:Operand)
  (ho:o.op = .call { callee:=.builtin .append,args:=#[s,x],argTypes:=#[137,137] })
  (base:Nat) (v:Value) (n:Nat) (l:List (Int × Int)) (hs:a.eval s=v) (B:Nat) (A:Option Addr) (c:Nat) (p:Int × Int) (hx:a.eval x = .slice A 1 c)
  (hown:w.ownsRow base 172 2 v n (pairCells l)) (hr:Reads w B 2 A 1 (pairCells [p])) (hn:n≤1000000) (hbase:base≤w.heap.size)
  (h:∀ A' c' w',w'.ownsRow base 172 2 (.slice A' (n + 1) c') (n + 1) (pairCells (l ++ [p]))→w.grownBy w' v.ownBlock→K (a.put o.dst (.slice A' (n + 1) c')) w') :
  if Region.wanted o (yielded ops a.tmps)=true then Oper.wp Tryz.prog o a w K Q else E:=by
 obtain ⟨i0,hi,hz,hs2,hb⟩:=Qjt;refine Qec w hgd s x 137 ho base 172 i0 _ 2 16 Tryz.underlying137 hi hz hs2 hb rfl (by decide) v n (pairCells l) hs hown B A 1 c (pairCells [p]) hx hr (Qfs _) (by unfold maxLen; omega) (by omega) hbase ?_
 intro v' w' h2 h3 _;have hv:∃ A' c',v' = .slice A' (n + 1) c':=by
  rcases h2.2 with ⟨e,h0⟩ | ⟨g,cap,cur,e,_⟩
  ·omega
  ·exact ⟨_,_,e⟩
 obtain ⟨A',c',hv⟩:=hv;rw [hv] at h2 ⊢;rw [← Qdy] at h2;exact h A' c' w' h2 h3
def Qqg (ws:List Wd) (os:List (Wd × Wd)) (w:World) (e:Ending) (w':World):Prop :=
 ∃ A c,e = .returned (.slice A os.length c)∧PairsAt w' w'.heap.size A (prs ws os)∧Ext w w'
set_option maxRecDepth 100000 in
set_option maxHeartbeats 2000000 in
theorem Qlb (A : Option Addr) (c n : Nat) (ws : List Wd) (A2 : Option Addr) (c2 m : Nat) (os : List (Wd × Wd)) (w : World) (h : WdsAt w w.heap.size A ws) (hn : n = ws.length) (hl : n ≤ 9223372036854775807) (h2 : OdsAt w w.heap.size A2 os) (hm : m = os.length) (hle : m ≤ 1000) :
    Calls Tryz.prog 78 #[.slice A n c, .slice A2 m c2] w (Qqg ws os w) := by
  have HM := hide hm;have HW := hide h2;have HF := hide (fun (w1 : World) (s : ByteArray) (hE : Ext w w1) => Qei A c n ws s w1 (h.ext hE) hn hl)
  clear hm h2 h hn;go_enter Tryz.func78, Tryz.ntmps78
  go_wp2_with fail
  go_loopw [6, 5] (fun i o wr => ∃ (k : Nat) (Ao : Option Addr) (co : Nat), k ≤ m ∧ i = .int .i64 k ∧ o = .slice Ao k co ∧ Ext w wr ∧ wr.ownsRow w.heap.size 172 2 (.slice Ao k co) k (pairCells ((prs ws os).take k))) (fun i _ _ => m - (intOf i).toNat)
  case atStart => exact ⟨0, none, 0, Nat.zero_le _, rfl, rfl, Ext.rfl' w, World.ownsRow_nil _ _ _ _⟩
  case round =>
    obtain ⟨k, Ao, co, hk, rfl, rfl, hE, hO⟩ := hrel;have HE := hide hE;have HO := hide hO;by_cases hlt : k < m
    · have hkl : k < os.length := by rw [← HM.out]; exact hlt
      obtain ⟨b, o, rfl, hbs, hcell⟩ := HW.out.cell (by omega)
      obtain ⟨hp1, _, hp3, _⟩ := hcell k hkl;have hst := Qk8 ws os k hkl;obtain ⟨x, hx⟩ : ∃ x, x = (lo os k).1 := ⟨_, rfl⟩;obtain ⟨y, hy⟩ : ∃ x, x = (hi os k).1 := ⟨_, rfl⟩;rw [← hx] at hp1 hst;rw [← hy] at hp3 hst;have q1 : wr.cell? ⟨b, o + k * 4, none⟩ = some (.string x) := (hE.cell (p := ⟨b, o + k * 4, none⟩) hbs).trans hp1;have q3 : wr.cell? ⟨b, o + k * 4 + 2, none⟩ = some (.string y) := (hE.cell (p := ⟨b, o + k * 4 + 2, none⟩) hbs).trans hp3;have lb : b < wr.heap.size := Nat.lt_of_lt_of_le hbs hE.size;have HF1 := hide (fun w1 h => HF.out w1 x h)
      have HF2 := hide (fun w1 h => HF.out w1 y h)
      obtain ⟨f1, hf1⟩ : ∃ f, f = findL (nms ws) x := ⟨_, rfl⟩;obtain ⟨f2, hf2⟩ : ∃ f, f = findL (nms ws) y := ⟨_, rfl⟩;rw [← hf1] at HF1 hst;rw [← hf2] at HF2 hst;have HST := hide hst;have HC := hide (And.intro hp1 hp3);have i0 : (0 : Int) ≤ (k : Int) := by omega
      have i1 : (k : Int) < (m : Int) := by omega
      clear hst hx hy hf1 hf2 hcell hp1 hp3 hE hO;go_wp2_with fail
      go_region_held3 (fun w' => w'.cell? ⟨b, o + k * 4, none⟩ = some (.string x) ∧ w'.cell? ⟨b, o + k * 4 + 2, none⟩ = some (.string y)) (go_keep)
        ((first
          | (refine Qkj _ rfl _ _ rfl w.heap.size _ k ((prs ws os).take k) rfl (wr.heap.size + 1) _ 1 (f1, f2) rfl (by first | exact (HO.out.alloc _).drew | exact (HO.out.drew).alloc _) (by first | exact (Qe9 _ _ _ _ _ rfl) | exact (Qe9 _ _ _ _ _ rfl).drew) (by omega) (by have := HE.out.size; simp; omega) ?_
             intro A3 c3 w3 hown3 hgrow3;have HE3 := hide (grown_ext' (w := w) (wr := wr) (base := w.heap.size) HE.out (by first | exact Ext.drew' ((Ext.rfl' wr).alloc (Nat.le_refl _) _) | exact ((Ext.rfl' wr).drew').alloc (Nat.le_refl _) _) hgrow3 HO.out (Nat.le_refl _))
             rw [← HST.out] at hown3;have HO3 := hide hown3;have k1 : w3.cell? ⟨b, o + k * 4, none⟩ = some (.string x) := (HE3.out.cell (p := ⟨b, o + k * 4, none⟩) hbs).trans HC.out.1;have k2 : w3.cell? ⟨b, o + k * 4 + 2, none⟩ = some (.string y) := (HE3.out.cell (p := ⟨b, o + k * 4 + 2, none⟩) hbs).trans HC.out.2;clear hown3 hgrow3)
          | (go_at_call 87
             with_reducible refine (HF1.out _ HE.out.drew').mono ?_
             rintro e w' ⟨rfl, rfl⟩)
          | (go_at_call 87
             with_reducible refine (HF2.out _ HE.out.drew').mono ?_
             rintro e w' ⟨rfl, rfl⟩)))
      all_goals
        go_wp2_with fail
        go_roundw
        case rel => exact ⟨k + 1, A3, c3, by omega, by go_num, rfl, HE3.out, HO3.out⟩
        case measure => simp [intOf]; omega
    · obtain rfl : k = m := by omega
      have hlen : k = (prs ws os).length := by rw [prs_length]; exact HM.out
      rw [List.take_of_length_le (by omega)] at hO
      have HO' := hide hO;have HL := hide hlen;clear hlen hO hE;go_wp2_with fail
      go_ret
      refine ⟨Ao, co, by rw [← HM.out]; rfl, ?_, HE.out⟩
      unfold PairsAt;rw [← HL.out];exact Reads.of_own HO'.out
def Qnz (ws:List Wd) (os:List (Wd × Wd)) (w:World) (e:Ending) (w':World):Prop :=
 ∃ A c,e = .returned (.slice A ws.length c)∧MatAt w' w'.heap.size A (leads ws.length (prs ws os))∧Ext w w'
theorem Qip (A:Option Addr) (c n:Nat) (ws:List Wd) (A2:Option Addr) (c2 m:Nat) (os:List (Wd × Wd)) (w:World) (h:WdsAt w w.heap.size A ws) (hn:n=ws.length) (hl:n≤64) (h2:OdsAt w w.heap.size A2 os) (hm:m=os.length) (hle:m≤1000) (hok:Qah ws.length (prs ws os)=true) :
  Calls Tryz.prog 37 #[.slice A n c,.slice A2 m c2] w (Qnz ws os w):=by
 obtain ⟨HP,HN,HM,HOK⟩:=Z4 (Qlb A c n ws A2 c2 m os w h hn (by omega) h2 hm hle) hn hm hok
 clear h h2 hn hm hok;go_enter Tryz.func37,Tryz.ntmps37
 go_wp2_with fail
 refine HP.out.mono ?_;rintro e w1 ⟨A3,c3,rfl,hP,hE⟩;have hlen:(prs ws os).length=os.length:=prs_length ws os;have hL:=refLeads_any n hl A3 c3 (prs ws os) w1 hP (by have:=HM.out; omega) (by rw [HN.out]; exact HOK.out)
 rw [hlen,← HM.out,leads_length] at hL;obtain ⟨HL,HE⟩:=Z2 hL hE;rw [← HM.out];clear hL hE hlen hP;go_wp2_with fail
 refine HL.out.mono ?_;rintro e w2 ⟨A4,c4,rfl,hM,hE2⟩;obtain ⟨HE2,HMM⟩:=Z2 (HE.out.trans' hE2) hM;clear hE2 hM;go_wp2_with fail
 go_ret
 exact ⟨A4,c4,by rw [← HN.out]; rfl,by rw [← HN.out]; exact HMM.out,HE2.out⟩
def Qci (I:Nat→Bool) (M:Nat→Nat→Bool) (c:Nat) (k:Nat):Bool:=I c && (List.range k).all fun d=>!I d || M c d
theorem Qjy {I:Nat→Bool} {M:Nat→Nat→Bool} {c k:Nat} (h1:I k=true) (h2:M c k=false):Qci I M c (k + 1)=false:=by
 unfold Qci;rw [List.range_succ,List.all_append];simp [h1,h2]
theorem Qdl {I:Nat→Bool} {M:Nat→Nat→Bool} {c k:Nat} (h:I k=false∨M c k=true):Qci I M c (k + 1)=Qci I M c k:=by
 unfold Qci;rw [List.range_succ,List.all_append];rcases h with h | h <;> simp [h]
theorem bestTo_zero (I:Nat→Bool) (M:Nat→Nat→Bool) (c:Nat):Qci I M c 0=I c:=by simp [Qci]
set_option maxRecDepth 100000 in
theorem refJoin_any (A:Option Addr) (cp n:Nat) (M:List (List Bool)) (a b:Nat) (w:World) (h:MatAt w w.heap.size A M) (hsq:∀ r ∈ M,r.length=M.length) (hn:n=M.length) (hl:n≤64) (ha:a < n) (hb:b < n) :
  Calls Tryz.prog 45 #[.slice A n cp,.int .i64 (a:Int),.int .i64 (b:Int)] w (fun e w'=>e = .returned (.int .i64 (LatM.joinL n (mat M) a b))∧w=w'):=by
 obtain ⟨b0,o0,rfl,_,hrow⟩:=h.form hsq (by omega)
 rw [← hn] at hrow;have HROW:=hide hrow;obtain ⟨I,hI⟩:∃ I:Nat→Bool,I=fun c=>mat M a c && mat M b c:=⟨_,rfl⟩
 have hJ:LatM.joinL n (mat M) a b=LatM.bestL n I (mat M):=by rw [hI]; rfl
 rw [hJ];have HI:=hide hI;have i0:=nZ a;have i1:(a:Int) < (n:Int):=by omega
 have i2:=nZ b;have i3:(b:Int) < (n:Int):=by omega
 obtain ⟨ba,oa,ca,fa,_,ga⟩:=HROW.out a ha;obtain ⟨bb,ob,cb,fb,_,gb⟩:=HROW.out b hb;obtain ⟨GA,GB⟩:=Z2 ga gb;clear hrow h hsq hn hI hJ ga gb;go_enter Tryz.func45,Tryz.ntmps45
 go_wp2_with fail
 go_loop [7] (fun i=>∃ c:Nat,c≤n∧i = .int .i64 c∧Hid (∀ j,j < c→LatM.isBest n I (mat M) j=false)) (fun i=>n - (intOf i).toNat)
 case atStart=>exact ⟨0,Nat.zero_le _,rfl,fun j hj=>absurd hj (by omega)⟩
 case round =>
  obtain ⟨c,hc,rfl,HA⟩:=hrel;by_cases hcn:c < n
  ·have i4:=nZ c;have i5:(c:Int) < (n:Int):=by omega
   have xa:=GA.out c hcn;have xb:=GB.out c hcn;have hbz:=bestTo_zero I (mat M) c;rw [show I c=(mat M a c && mat M b c) by rw [HI.out]] at hbz
   obtain ⟨x,hx,y,hy⟩:=V2 (mat M a c) (mat M b c);rw [← hx] at xa hbz;rw [← hy] at xb hbz;have HBZ:=hide hbz;clear hx hy hbz;obtain ⟨bc,oc,cc,fc,_,gc⟩:=HROW.out c hcn;have GC:=hide gc;clear gc;cases x
   all_goals
    go_wp2_with fail
    go_loop [9,8] (fun i v=>∃ (d:Nat) (u:Bool),d≤n∧i = .int .i64 d∧v = .bool u∧Hid (u=Qci I (mat M) c d)) (fun i _=>n - (intOf i).toNat)
    case atStart=>exact ⟨0,_,Nat.zero_le _,rfl,rfl,hide (by have h:=HBZ.out; simp only [Bool.false_and,Bool.true_and] at h; exact h.symm)⟩
    case round =>
     clear xa xb;obtain ⟨d,u,hd,rfl,rfl,HU⟩:=hrel;by_cases hdn:d < n
     ·have i6:=nZ d;have i7:(d:Int) < (n:Int):=by omega
      have za:=GA.out d hdn;have zb:=GB.out d hdn;have zc:=GC.out d hdn;have hid:I d=(mat M a d && mat M b d):=by rw [HI.out]
      obtain ⟨x1,hx1,y1,hy1,z1,hz1⟩:=V3 (mat M a d) (mat M b d) (mat M c d);rw [← hx1] at za;rw [← hy1] at zb;rw [← hz1] at zc;rw [← hx1,← hy1] at hid;obtain ⟨HID,HZ⟩:=Z2 hid hz1;clear hx1 hy1 hz1 hid;cases x1 with
      | false =>
       have HS:=hide (Qdl (M:=mat M) (c:=c) (.inl (by rw [HID.out]; rfl:I d=false)))
       go_wp2_with fail
       go_round
       case rel=>exact ⟨d + 1,u,by omega,by go_num,rfl,by rw [HS.out]; exact HU.out⟩
       case measure=>simp [intOf]; omega
      | true =>
       cases y1 with
       | false =>
        have HS:=hide (Qdl (M:=mat M) (c:=c) (.inl (by rw [HID.out]; rfl:I d=false)))
        go_wp2_with fail
        go_round
        case rel=>exact ⟨d + 1,u,by omega,by go_num,rfl,by rw [HS.out]; exact HU.out⟩
        case measure=>simp [intOf]; omega
       | true =>
        cases z1 with
        | true =>
         have HS:=hide (Qdl (I:=I) (M:=mat M) (c:=c) (.inr HZ.out.symm));go_wp2_with fail
         go_round
         case rel=>exact ⟨d + 1,u,by omega,by go_num,rfl,by rw [HS.out]; exact HU.out⟩
         case measure=>simp [intOf]; omega
        | false =>
         have HS:=hide (Qjy (M:=mat M) (c:=c) (by rw [HID.out]; rfl:I d=true) HZ.out.symm)
         go_wp2_with fail
         go_round
         case rel=>exact ⟨d + 1,false,by omega,by go_num,rfl,HS.out.symm⟩
         case measure=>simp [intOf]; omega
     ·obtain rfl:d=n:=by omega
      cases u with
      | true =>
       have HJ:=hide (LatM.bestL_first hcn (show LatM.isBest d I (mat M) c=true from HU.out.symm) HA.out)
       go_wp2_with fail
       go_ret
       exact ⟨Qq HJ.out.symm,rfl⟩
      | false =>
       have HB:=hide (below_step HA.out (show LatM.isBest d I (mat M) c=false from HU.out.symm))
       clear HA;go_wp2_with fail
       go_round
       case rel=>exact ⟨c + 1,by omega,by go_num,HB⟩
       case measure=>simp [intOf]; omega
  ·obtain rfl:c=n:=by omega
   have hm:=LatM.bestL_miss HA.out;have HM:=hide hm;clear hm;go_wp2_with fail
   go_ret
   exact ⟨Qq HM.out.symm,rfl⟩
def turnM (M:List (List Bool)):List (List Bool):=(List.range M.length).map fun a=>(List.range M.length).map fun b=>mat M b a
theorem turnM_length (M:List (List Bool)):(turnM M).length=M.length:=by simp [turnM]
theorem turnM_sq (M:List (List Bool)):∀ r ∈ turnM M,r.length=(turnM M).length:=by
 intro r hr;rw [turnM_length];unfold turnM at hr;obtain ⟨a,_,rfl⟩:=List.mem_map.1 hr;simp
theorem Qsk {M:List (List Bool)} {a b:Nat} (ha:a < M.length) (hb:b < M.length):mat (turnM M) a b=mat M b a:=by
 unfold turnM;have e:∀ (F:Nat→Nat→Bool),mat ((List.range M.length).map fun a=>(List.range M.length).map fun b=>F a b) a b=F a b:=fun F=>by
  unfold mat;simp [List.getD_eq_getElem?_getD,ha,hb]
 exact e fun a b=>mat M b a
theorem Qm3 {n:Nat} {I J:Nat→Bool} {M N:Nat→Nat→Bool} (hI:∀ c,c < n→I c=J c) (hM:∀ c d,c < n→d < n→M c d=N c d):LatM.bestL n I M=LatM.bestL n J N:=by
 unfold LatM.bestL;have:(List.range n).find? (LatM.isBest n I M)=(List.range n).find? (LatM.isBest n J N):=by
  refine Qii fun c hc=>?_
  have hc':=List.mem_range.1 hc;unfold LatM.isBest;rw [hI c hc'];congr 1
  rw [Bool.eq_iff_iff,List.all_eq_true,List.all_eq_true];constructor
  ·intro h d hd;have hd':=List.mem_range.1 hd;rw [← hI d hd',← hM c d hc' hd']; exact h d hd
  ·intro h d hd;have hd':=List.mem_range.1 hd;rw [hI d hd',hM c d hc' hd']; exact h d hd
 rw [this]
theorem Qm4 {n:Nat} {M N:Nat→Nat→Bool} {a b:Nat} (ha:a < n) (hb:b < n) (h:∀ c d,c < n→d < n→M c d=N c d):LatM.joinL n M a b=LatM.joinL n N a b :=
 Qm3 (fun c hc=>by rw [h a c ha hc,h b c hb hc]) h
theorem join_turn {M:List (List Bool)} {a b:Nat} (ha:a < M.length) (hb:b < M.length):LatM.joinL M.length (mat (turnM M)) a b=LatM.joinL M.length (fun x y=>mat M y x) a b :=
 Qm4 ha hb fun _c _d hc hd=>Qsk hc hd
def Qey (M:List (List Bool)) (a:Nat):List Bool:=(List.range M.length).map fun b=>mat M b a
def TurnRel (W:World) (M:List (List Bool)) (n a:Nat) (A:Option Addr) (c:Nat) (w:World):Prop :=
 ∃ vs:List Value,vs.length=a∧w.ownsRow W.heap.size 57 1 (.slice A a c) a vs∧(∀ (k:Nat) (v:Value),vs[k]? = some v→OwnBools W.heap.size n w v (Qey M k))∧Ext W w
theorem TurnRel.next {W:World} {M:List (List Bool)} {n a:Nat} {A:Option Addr} {c:Nat} {w w2 w3:World} {A':Option Addr} {c':Nat} {o:Obj} {vs:List Value}
  (hv:vs.length=a) (ho:w.ownsRow W.heap.size 57 1 (.slice A a c) a vs) (hrow:∀ (k:Nat) (v:Value),vs[k]? = some v→OwnBools W.heap.size n w v (Qey M k)) (hE:Ext W w)
  (hr:RowRel w n w.heap.size (Qey M a) w2)
  (hown:w3.ownsRow W.heap.size 57 1 (.slice A' (a + 1) c') (a + 1) (vs ++ [.slice (some ⟨w.heap.size,0,none⟩) n n]))
  (hg:(w2.alloc o).grownBy w3 (Value.ownBlock (.slice A a c))):TurnRel W M n (a + 1) A' c' w3:=by
 obtain ⟨r1,r2,r3⟩:=hr;have hbw:∀ g,Value.ownBlock (.slice A a c)=some g→W.heap.size≤g∧g < w.heap.size:=fun g h=>ho.lt g h
 have hE3:Ext W w3:=((Below.trans hE (r3.mono hE.size)).alloc (Nat.le_trans hE.size r3.size) o).grown hg (by have:=hE.size; have:=r3.size; simp; omega) (fun g h=>(hbw g h).1)
 have ho2:(w2.alloc o).ownsRow W.heap.size 57 1 (.slice A a c) a vs:=(own_ext ho r3).alloc o;refine ⟨_,by simp [hv],hown,fun k v hk=>?_,hE3⟩
 by_cases h:k < a
 ·rw [List.getElem?_append_left (by omega)] at hk
  obtain ⟨hl,hs,h2⟩:=hrow k v hk;have h2':=(own_ext h2 r3).alloc o;exact ⟨hl,hs,h2'.kept hg (Qh6 h2' ho2 (by decide))⟩
 ·have hk':k=a:=by
   have:=(List.getElem?_eq_some_iff.1 hk).1
   simp [hv] at this
   omega
  subst hk';rw [List.getElem?_append_right (by omega)] at hk
  simp [hv] at hk
  subst hk;have r1':=(Qds r1 hE.size).alloc o;exact ⟨r2,⟨_,_,rfl⟩,r1'.kept hg (Qh6 r1' ho2 (by decide))⟩
def halfRow (M:List (List Bool)) (a k n:Nat):List Bool:=(List.range n).map fun b=>if b < k then mat M b a else false
theorem Qlc (M:List (List Bool)) (a n:Nat):List.replicate n false=halfRow M a 0 n:=by
 unfold halfRow;apply List.ext_getElem
 ·simp
 ·intro i h1 h2; simp
theorem Qld {M:List (List Bool)} {a k n:Nat} (_hk:k < n):(halfRow M a k n).set k (mat M k a)=halfRow M a (k + 1) n:=by
 apply List.ext_getElem
 ·simp [halfRow]
 ·intro i h1 h2;simp only [halfRow,List.getElem_set,List.getElem_map,List.getElem_range];by_cases e:k=i
  ·subst e; rw [if_pos rfl,if_pos (by omega)]
  ·rw [if_neg e];by_cases h:i < k
   ·rw [if_pos h,if_pos (by omega)]
   ·rw [if_neg h,if_neg (by omega)]
theorem halfRow_end {M:List (List Bool)} {a n:Nat} (hn:n=M.length):halfRow M a n n=Qey M a:=by
 subst hn;unfold halfRow Qey;apply List.map_congr_left
 intro b hb;rw [if_pos (List.mem_range.1 hb)]
def Qsl (M:List (List Bool)) (w:World) (e:Ending) (w':World):Prop:=∃ A c,e = .returned (.slice A M.length c)∧MatAt w' w'.heap.size A (turnM M)∧Ext w w'
set_option maxRecDepth 100000 in
theorem Qm5 (A:Option Addr) (cp n:Nat) (M:List (List Bool)) (w:World) (h:MatAt w w.heap.size A M) (hsq:∀ r ∈ M,r.length=M.length) (hn:n=M.length) (hl:n≤64) :
  Calls Tryz.prog 89 #[.slice A n cp] w (Qsl M w):=by
 obtain ⟨i0,hi,hz0,hz1,hz2⟩:=info_parts Qjr;obtain ⟨j0,gi,gz0,gz1,gz2⟩:=info_parts Qih;obtain ⟨HN,HF⟩:=Z2 hn (fun (hp:0 < n)=>h.form hsq (by rw [← hn]; exact hp))
 clear hn h hsq;go_enter Tryz.func89,Tryz.ntmps89
 go_wp2_with fail
 go_loopw [4,3] (fun i v wr=>∃ a A c,a≤n∧i = .int .i64 (a:Nat)∧v = .slice A a c∧Hid (TurnRel w M n a A c wr)) (fun i _ _=>n - (intOf i).toNat)
 case atStart=>exact ⟨0,none,0,Nat.zero_le _,rfl,rfl,hide ⟨[],rfl,World.ownsRow_nil _ _ _ _,fun k v hv=>by simp at hv,Ext.rfl' _⟩⟩
 case round =>
  obtain ⟨a,Ao,co,ha,rfl,rfl,HL⟩:=hrel;by_cases hlt:a < n
  ·obtain ⟨wo,rfl⟩:∃ wo:World,wo=wr:=⟨_,rfl⟩;obtain ⟨b0,o0,rfl,hb0,hrow⟩:=HF.out (by omega)
   have HROW:=hide hrow;clear hrow;go_wp2_with (at_make; refine wpList_make_full _ rfl _ _ 57 rfl wo.heap.size 4 i0 (.bool false) 1 Tryz.underlying57 hi hz0 hz1 _ _ _ _ n rfl rfl rfl rfl ?c1 ?c2 nL ?_)
   case c1=>first | omega | (rw [hz2]; omega)
   case c2=>unfold maxLen; omega
   intro w1 hown hgrow;have hR0:RowRel wo n wo.heap.size (halfRow M a 0 n) w1:=by
    rw [← Qlc];exact ⟨by simpa [toList_madeCells_one] using hown,by simp,ext_of_grown hgrow⟩
   have HR0:=hide hR0;clear hR0 hown hgrow;obtain ⟨g,hg⟩:=V1 (wo.heap.size);rw [← hg] at HR0 ⊢;have HG:=hide hg;clear hg;go_wp2_with fail
   go_loopw [6] (fun i wk=>∃ k:Nat,k≤n∧i = .int .i64 k∧Hid (RowRel wo n g (halfRow M a k n) wk)) (fun i _=>n - (intOf i).toNat)
   case atStart=>exact ⟨0,Nat.zero_le _,rfl,HR0⟩
   case round =>
    clear HR0;obtain ⟨k,hk,rfl,HR⟩:=hrel;by_cases hkn:k < n
    ·obtain ⟨bk,ok,ck,fk,hbk,gk⟩:=HROW.out k (by rw [← HN.out]; exact hkn)
     have hgk:=gk a (by rw [← HN.out]; exact hlt)
     rw [← HN.out] at fk;have hext:Ext w wo:=HL.out.choose_spec.2.2.2;have hs1:=hext.size;have hgw:g=wo.heap.size:=HG.out;have hE2:Below w.heap.size w wr:=hext.trans (HR.out.2.2.mono (by omega))
     have p1:=(hE2.cell (p:=⟨b0,o0 + k,none⟩) hb0).trans fk;have p2:=(hE2.cell (p:=⟨bk,ok + a,none⟩) hbk).trans hgk;have hcy:=HR.out.cell k hkn;have hfy:=HR.out.free k;obtain ⟨x,hx⟩:=V1 (mat M k a);rw [← hx] at p2;have hst:=Qld (M:=M) (a:=a) hkn;rw [← hx] at hst;have HST:=hide hst;clear hx hst gk hgk fk hbk hext hE2 hs1 hgw;have i1:=nZ k;have i2:=nZ a;have i3:(k:Int) < (n:Int):=by omega
     have i4:(a:Int) < (n:Int):=by omega
     go_wp2_with fail
     go_roundw
     case rel=>exact ⟨k + 1,by omega,by go_num,by rw [← HST.out]; exact hide (HR.out.set k x)⟩
     case measure=>simp [intOf]; omega
    ·obtain rfl:k=n:=by omega
     have hown:=HL.out;obtain ⟨vs,hvs,hown,hrow,hE⟩:=hown;obtain ⟨HROW2,HOWN,HEE,HVS⟩:=Z4 hrow hown hE hvs;clear hrow hvs;have hgE:g=wo.heap.size:=HG.out;have hown2:=Qjm (w':=wr) hown HR.out.2.2 (fun g' hg'=>by rw [hgE]; exact (hown.lt g' hg').2)
     have HO2:=hide hown2;have hbase:w.heap.size≤wr.heap.size:=Nat.le_trans hE.size (by have:=HR.out.2.2.size; omega)
     clear hown hown2 hgE hE;go_wp2_with (at_builtin; refine Qp _ rfl _ _ 42 rfl w.heap.size 57 j0 (.slice none 0 0) 1 24 Tryz.underlying42 gi gz0 gz1 gz2 rfl (by decide) _ a vs rfl (HO2.out.alloc _) (wr.heap.size + 1) (some ⟨wr.heap.size,0,none⟩) 1 1 [.slice (some ⟨g,0,none⟩) k k] rfl (reads_new _ _ _) ?d0 ?d1 ?d2 ?d3 ?_)
     case d0=>intro u hu; simp at hu; subst hu; rfl
     case d1=>unfold maxLen; omega
     case d2=>omega
     case d3=>simp; omega
     intro A' c' w3 hown3 hgrow3 hat;rw [HG.out] at hown3;have hRR:=HR.out;rw [HG.out,halfRow_end HN.out] at hRR;have HLN:=hide (TurnRel.next HVS.out HOWN.out HROW2.out HEE.out hRR hown3 hgrow3);clear hRR hown3 hgrow3 hat;go_wp2_with fail
     go_roundw
     case rel=>exact ⟨a + 1,A',c',by omega,by go_num,rfl,HLN⟩
     case measure=>simp [intOf]; omega
  ·obtain rfl:a=n:=by omega
   go_wp2_with fail
   go_ret
   obtain ⟨vs,hvs,hown,hrow,hE⟩:=HL.out;refine ⟨Ao,co,by rw [← HN.out]; rfl,⟨vs,by rw [turnM_length,← HN.out]; exact hvs,by rw [turnM_length,← HN.out]; exact Reads.of_own hown,fun k v r hv hr=>?_⟩,hE⟩
   have:=(hrow k v hv).at_
   simp only [turnM,List.getElem?_map,Option.map_eq_some_iff] at hr;obtain ⟨q,hq,rfl⟩:=hr;rw [List.getElem?_range] at hq
   ·simp at hq; subst hq; exact this
   ·have:=(List.getElem?_eq_some_iff.1 hv).1; have:=HN.out; omega
theorem Qf6 {ws:List Wd} {os:List (Wd × Wd)} {a:Nat} (h:Qac (leads ws.length (prs ws os))=some a):Qb5 ws os=(11,wPl ws a)∧a < ws.length:=by
 unfold Qb5;rw [h];refine ⟨rfl,?_⟩;have:=List.mem_of_find?_eq_some h
 rw [List.mem_range,leads_length] at this;exact this
theorem Qf7 {ws:List Wd} {os:List (Wd × Wd)} (h:Qac (leads ws.length (prs ws os))=none):Qb5 ws os=Qbm ws os:=by
 unfold Qb5;rw [h]
theorem Qle (n:Nat) (L:Nat→Nat→Bool):LatM.boundsL n L = -1∨∃ b:Nat,b < n∧LatM.boundsL n L=b:=by
 unfold LatM.boundsL;cases hf:(List.range n).find? (LatM.lacks n L) with
 | none=>exact .inl rfl
 | some b=>exact .inr ⟨b,List.mem_range.1 (List.mem_of_find?_eq_some hf),rfl⟩
theorem Qfu {ws:List Wd} {os:List (Wd × Wd)} {b:Nat} (h:LatM.boundsL ws.length (leqL ws os)=b):Qbm ws os=(12,wPl ws b):=by
 unfold Qbm;rw [h,if_neg (by omega),Int.toNat_natCast]
theorem Qfv {ws:List Wd} {os:List (Wd × Wd)} (h:LatM.boundsL ws.length (leqL ws os) = -1):Qbm ws os=(0,0):=by
 unfold Qbm;rw [h,if_pos (by omega)]
set_option maxRecDepth 100000 in
theorem Qqh (A:Option Addr) (c n:Nat) (ws:List Wd) (A2:Option Addr) (c2 m:Nat) (os:List (Wd × Wd)) (w:World) (h:WdsAt w w.heap.size A ws) (hsz:∀ i,(wNm ws i).size≤maxLen) (hn:n=ws.length) (h2:OdsAt w w.heap.size A2 os) (hm:m=os.length) :
  Calls Tryz.prog 29 #[.slice A n c,.slice A2 m c2] w (Qqb ws os w):=by
 obtain ⟨HN,HM,HMany,HCal,HNum,HW⟩:=Z6 hn hm (fun (w1:World) (hE:Ext w w1)=>Qsg A c n ws A2 c2 m os w1 (h.ext hE) hn (h2.ext hE) hm) (fun (w1:World) (hE:Ext w w1) (hle:n≤1000)=>Qot A c n ws w1 (h.ext hE) hsz hn hle) (fun (w1:World) (hE:Ext w w1) (gt:Nat) (hT:TabAt w1 gt (nms ws)) (hle:n≤1000) (hle2:m≤1000)=>Qla gt ws A2 c2 m os w1 hT (by omega) (h2.ext hE) hm hle2) h
 clear h h2;rcases Qou ws os with ⟨hf,hp,hs,ho⟩ | ⟨x,y,hf,hx,hw⟩
 ·rw [hf,show fltV (0,0) = .agg #[.int .i64 0,.int .i64 0] from rfl] at HMany
  have hn0:0 < n:=by omega
  have hn1:n≤32:=by omega
  have hm1:m≤256:=by omega
  obtain ⟨hw1,hw2,hw3⟩:=Qjv hp hs ho;obtain ⟨HW1,HW2,HW3⟩:=Z3 hw1 hw2 hw3;clear hf hp hs ho hw1 hw2 hw3 hn hm;go_enter Tryz.func29,Tryz.ntmps29
  go_wp2_with fail
  refine (HMany.out _ ((Ext.rfl' w).alloc nL _)).mono ?_;rintro e w1 ⟨rfl,hE1⟩;have hF:=(Blk.new w 34 #[.int .i64 0,.int .i64 0]).ext hE1;obtain ⟨HE1,HF⟩:=Z2 (Ext.trans' ((Ext.rfl' w).alloc nL _) hE1) hF;clear hE1 hF HMany;go_wp2_with fail
  refine (HCal.out _ (HE1.out.alloc HE1.out.size _) (by omega)).mono ?_
  rintro e w2 (⟨⟨x,y⟩,hx,rfl,hE2⟩ | ⟨hx,A3,c3,rfl,hS,hE2⟩)
  ·have hw:=HW1.out _ (by rw [← HN.out]; exact hx)
   have hx0:=Qov hx;have hxb:((x:Int) != 0)=true:=by rw [bne_iff_ne]; exact hx0
   have hF:=(HF.out.alloc (.cells #[.int .i64 0,.int .i64 0] 34)).ext hE2;obtain ⟨f0,f1⟩:=Y2 hF;have b0:=hF.cell 0;have b1:=hF.cell 1;have l0:=hF.lt;simp only [gA,gH,gS] at b0 b1;obtain ⟨HE2,HFF,HWW,HX⟩:=Z4 (Ext.trans' (HE1.out.alloc HE1.out.size _) hE2) hF hw hx0;rw [show fltV (x,y) = .agg #[.int .i64 x,.int .i64 y] from rfl]
   clear hE2 hF hw hx0 hx;go_wp2_with fail
   go_region
   go_wp2_with fail
   exact Ql (f:=(x,y)) (g:=w.heap.size) (v:=.pointer none) (((HFF.out.set_ 0 _).set_ 1 _).alloc _) rfl rfl rfl rfl (.inl ⟨by rw [HWW.out]; exact HX.out,by rw [HWW.out],((Qw HE2.out _ _).alloc (by simpa using HE2.out.size) _).drew⟩)
  ·have HX:=hide hx;have hF:=(HF.out.alloc (.cells #[.int .i64 0,.int .i64 0] 34)).ext hE2;obtain ⟨HE2,HFF,HS,HNew⟩:=Z4 (Ext.trans' (HE1.out.alloc HE1.out.size _) hE2) hF hS (fun (w4:World) (hE:Ext w2 w4)=>Qib A3 c3 n (nms ws) w4 (hS.ext hE) (by rw [nms_length]; exact HN.out) (by omega))
   rw [show fltV (0,0) = .agg #[.int .i64 0,.int .i64 0] from rfl]
   clear hE2 hF hS HF HE1 hx;go_wp2_with fail
   refine (HNew.out _ ((Ext.rfl' w2).alloc nL _)).mono ?_;rintro e w3 ⟨gt,rfl,hT,hE3⟩;obtain ⟨HE23,HG,HT⟩:=Z3 (Ext.trans' ((Ext.rfl' w2).alloc nL _) hE3) ((Blk.new w2 34 #[.int .i64 0,.int .i64 0]).ext hE3) hT;clear hE3 hT HNew;go_wp2_with ((with_reducible refine wpList_build_lat rfl _ _ rfl (.slice A3 n c3) (.pointer (some ⟨gt,0,none⟩)) rfl rfl rfl rfl ?_); intro cs hcs; have q1:=hcs.out.2.2.1)
   clear q1;obtain ⟨g,hg⟩:=V1 (w3.heap.size);rw [← hg];have hL:=hcs.out.blk (Blk.new_eq w3 119 cs hg);obtain ⟨w4,hw4⟩:=V1 (w3.alloc (.cells cs 119));have hE4:Ext w3 w4:=by rw [hw4]; exact (Ext.rfl' w3).alloc nL _
   rw [← hw4] at hL ⊢;obtain ⟨HL,HG4,HT4,HE24,HE34,HGG⟩:=Z6 hL (HG.out.ext hE4) (HT.out.ext hE4) (HE23.out.trans' hE4) hE4 hg;have HT3:=hide HT.out;clear hcs hL hE4 hw4 hg HG HT;refine (HNum.out _ (HE2.out.trans' HE24.out) gt HT4.out (by omega) (by omega)).mono ?_
   rintro e w5 (⟨⟨x,y⟩,hx,rfl,hE5⟩ | ⟨hx2,A5,c5,rfl,hP,hE5⟩)
   ·have hw:=HW2.out (by rw [← HN.out]; exact HX.out) _ (by rw [← HM.out]; exact hx)
    have hx0:=Qm0 hx;have hxb:((x:Int) != 0)=true:=by rw [bne_iff_ne]; exact hx0
    have hF:=(HFF.out.ext HE24.out).ext hE5;have hG:=HG4.out.ext hE5;obtain ⟨f0,f1⟩:=Y2 hF;have b0:=hF.cell 0;have b1:=hF.cell 1;have l0:=hF.lt;obtain ⟨g0,g1⟩:=Y2 hG;have d0:=hG.cell 0;have d1:=hG.cell 1;have l1:=hG.lt;have l2:=HFF.out.lt;have l3:w.heap.size≠w2.heap.size:=by omega
    have l4:w2.heap.size≠w.heap.size:=by omega
    simp only [gA,gH,gS] at b0 b1 d0 d1;obtain ⟨HE5,HF5,HWW,HX0⟩:=Z4 ((HE2.out.trans' HE24.out).trans' hE5) hF hw hx0;rw [show fltV (x,y) = .agg #[.int .i64 x,.int .i64 y] from rfl]
    clear hE5 hF hG hw hx0 hx;go_wp2_with fail
    go_region
    go_wp2_with fail
    exact Ql (f:=(x,y)) (g:=w.heap.size) (v:=.pointer none) ((((HF5.out.far (p:=⟨w2.heap.size,0,none⟩) l3 _).far (p:=⟨w2.heap.size,1,none⟩) l3 _).set_ 0 _).set_ 1 _) rfl rfl rfl rfl
     (.inl ⟨by rw [HWW.out]; exact HX0.out,by rw [HWW.out],(Qw ((HE5.out.setCell (p:=⟨w2.heap.size,0,none⟩) (show w.heap.size≤w2.heap.size by omega) _).setCell (p:=⟨w2.heap.size,1,none⟩) (show w.heap.size≤w2.heap.size by omega) _) _ _).drew⟩)
   ·obtain ⟨HOK,HX2⟩:=Z2 (Qf4 (firstOf_miss.1 (by rw [← HM.out]; exact hx2))) hx2
    have hlen:(prs ws os).length=m:=by rw [prs_length]; exact HM.out.symm
    have HRN:Hid (Calls Tryz.prog 64 #[.int .i64 n,.slice A5 m c5] w5 (Qje n (prs ws os) w5)):=by rw [← hlen]; exact hide (Qok n (by omega) A5 c5 (prs ws os) w5 hP (by omega))
    have hG:=HG4.out.ext hE5;have s0:=Qa8 w5 hG (i:=0) (v:=.int .i64 0) rfl;have s1:=Qa8 w5 hG (i:=1) (v:=.int .i64 0) rfl;obtain ⟨g0,g1⟩:=Y2 hG;have d0:=hG.cell 0;have d1:=hG.cell 1;have l1:=hG.lt;simp only [gA,gH,gS] at d0 d1;obtain ⟨HE35,HL5⟩:=Z2 (HE34.out.trans' hE5) (HL.out.ext hE5);rw [show fltV (0,0) = .agg #[.int .i64 0,.int .i64 0] from rfl]
    clear hE5 hG hlen hP hx2 HNum;go_wp2_with fail
    refine HRN.out.mono ?_;rintro e w6 (⟨hok,bo,rfl,hR,hE6⟩ | ⟨hok,_⟩)
    ·obtain ⟨HR,HOK2,HE36,HL6⟩:=Z4 hR hok (HE35.out.trans' hE6) (HL5.out.ext hE6);clear hE6 hok hR s0 s1 d0 d1 g0 g1 l1 HRN;go_wp2_with fail
     refine (Qmx bo _ _ HR.out).mono ?_;rintro e w7 ⟨rfl,hE7⟩;have hlp:=loop_eq (show n≤64 by omega) HOK2.out
     obtain ⟨lp,hlpe⟩:=V1 (Qcg (RelM.close (newRows n (prs ws os))));rw [← hlpe] at hlp ⊢;obtain ⟨HLP,HE37,HL7,HR7⟩:=Z4 hlp (HE36.out.trans' hE7) (HL6.out.ext hE7) (HR.out.ext hE7);clear hlpe hE7 hlp;cases lp with
     | some a =>
      obtain ⟨hlb,han⟩:=Qf6 (by rw [← HN.out]; exact HLP.out.symm)
      have hw:=(HW3.out (by rw [← HN.out]; exact HX.out) (by rw [← HM.out]; exact HX2.out)).trans hlb
      rw [← HN.out] at han;have hE7:=(HE2.out.trans' (HE23.out.trans' HE37.out));obtain ⟨b,o,rfl,hbs,hcell⟩:=HW.out.cell (by rw [← HN.out]; omega)
      have hp:=(hcell a (by rw [← HN.out]; exact han)).2
      obtain ⟨p,hpe⟩:=V1 (wPl ws a);rw [← hpe] at hp hw;have q1:w7.cell? ⟨b,o + a * 2 + 1,none⟩=some (.int .i64 p):=(hE7.cell (p:=⟨b,o + a * 2 + 1,none⟩) hbs).trans hp;have hF:=HFF.out.ext (HE23.out.trans' HE37.out);obtain ⟨b0,b1⟩:=X2 hF;obtain ⟨f0,f1⟩:=Y2 hF;have i0:=nZ a;have i1:(a:Int) < (n:Int):=by omega
      obtain ⟨HE7,HF7,HWW⟩:=Z3 hE7 hF hw;clear hE7 hF hw hlb hpe hp hcell hbs;go_wp2_with fail
      go_region
      go_wp2_with fail
      exact Ql (f:=(11,p)) (g:=w.heap.size) (v:=.pointer none) ((HF7.out.set_ 0 _).set_ 1 _) rfl rfl rfl rfl (.inl ⟨by rw [HWW.out]; exact show (11:Int)≠0 by decide,by rw [HWW.out],(Qw HE7.out _ _).drew⟩)
     | none =>
      obtain ⟨HW4,HPO⟩:=Z2 ((HW3.out (by rw [← HN.out]; exact HX.out) (by rw [← HM.out]; exact HX2.out)).trans (Qf7 (by rw [← HN.out]; exact HLP.out.symm))) (Qtt HOK2.out HLP.out.symm)
      go_wp2_with fail
      refine (Qf3 bo _ _ HR7.out).mono ?_;rintro e w8 ⟨gr,rfl,hC,hE8⟩;have HE38:=hide (HE37.out.trans' hE8);have hL8:=HL7.out.ext hE8;have c2f:=hL8.free 2;have c20:=hL8.cell2;have l8:=hL8.lt;obtain ⟨HL8,HC⟩:=Z2 hL8 hC;clear hE8 hL8 hC HL7 HR7;go_wp2_with fail
      have hL9:=HL8.out.set2 (.pointer (some ⟨gr,0,none⟩));have hR9:RelAt (w8.setCell ⟨g,2,none⟩ (.pointer (some ⟨gr,0,none⟩))) gr (RelM.close (newRows n (prs ws os))):=by
       obtain ⟨cs,hB,_⟩:=HL8.out;exact HC.out.kept hB (by decide) (by decide) (fun k _ hk=>Below.heap_setCell w8 _ _ k hk)
      have hE9:Ext w3 (w8.setCell ⟨g,2,none⟩ (.pointer (some ⟨gr,0,none⟩))):=HE38.out.setCell (p:=⟨g,2,none⟩) (by rw [HGG.out]; exact Nat.le_refl _) _
      obtain ⟨w9,hw9⟩:=V1 (w8.setCell ⟨g,2,none⟩ (.pointer (some ⟨gr,0,none⟩)));rw [← hw9] at hL9 hR9 hE9 ⊢;clear hw9 c2f c20 l8 HL8 HC;refine (Qoq g gr n c3 A3 _ _ _ _ (leqL ws os) w9 hL9 hR9 hn1 (by rw [HN.out] at HPO ⊢; exact HPO.out) (fun a b ha hb=>by rw [Qbz HOK2.out a b ha hb,HN.out]; rfl)).mono ?_
      rintro e w10 ⟨rfl,hG,hres⟩;have hE10:Ext w3 w10:=hE9.grown hG hE9.size (fun k hk=>by cases hk; rw [HGG.out]; exact Nat.le_refl _)
      have hF:=HFF.out.ext (HE23.out.trans' hE10);obtain ⟨b0,b1⟩:=X2 hF;obtain ⟨f0,f1⟩:=Y2 hF;obtain ⟨HE3,HE10,HF10⟩:=Z3 hE10 (HE2.out.trans' (HE23.out.trans' hE10)) hF;have hbc:=Qle n (leqL ws os);obtain ⟨bb,hbb⟩:=V1 (LatM.boundsL n (leqL ws os));rw [← hbb] at hres hbc ⊢;obtain ⟨HRES,HBB⟩:=Z2 hres hbb;clear hE9 hL9 hR9 hG hE10 hres hbb;rcases hbc with rfl | ⟨b,hbn,rfl⟩
      ·have s0:=Qa8 w10 hF (i:=0) (v:=.int .i64 0) rfl;have s1:=Qa8 w10 hF (i:=1) (v:=.int .i64 0) rfl;clear hF;go_wp2_with fail
       obtain ⟨hR,J,M,hL,hJM⟩:=HRES.out (by decide)
       exact Ql (f:=(0,0)) (g:=w.heap.size) (v:=.pointer (some ⟨g,0,none⟩)) HF10.out rfl rfl rfl rfl
        (.inr ⟨HW4.out.trans (Qfv (by rw [← HN.out]; exact HBB.out.symm)),g,rfl,⟨A3,c3,gt,gr,J,M,by rw [← HN.out]; exact hL,HS.out.ext (HE23.out.trans' HE3.out),HT3.out.ext HE3.out,by rw [← HN.out]; exact hR,by rw [← HN.out]; exact hJM⟩,HE10.out⟩)
      ·have hw:=HW4.out.trans (Qfu (by rw [← HN.out]; exact HBB.out.symm))
       obtain ⟨b',o,rfl,hbs,hcell⟩:=HW.out.cell (by rw [← HN.out]; omega)
       have hp:=(hcell b (by rw [← HN.out]; exact hbn)).2
       obtain ⟨p,hpe⟩:=V1 (wPl ws b);rw [← hpe] at hp hw;have q1:w10.cell? ⟨b',o + b * 2 + 1,none⟩=some (.int .i64 p):=(HE10.out.cell (p:=⟨b',o + b * 2 + 1,none⟩) hbs).trans hp;have i0:=nZ b;have i1:(b:Int) < (n:Int):=by omega
       have i2:((b:Int) != -1)=true:=by rw [bne_iff_ne]; omega
       have HWW:=hide hw;clear hF hw hpe hp hcell hbs;go_wp2_with fail
       go_region
       go_wp2_with fail
       exact Ql (f:=(12,p)) (g:=w.heap.size) (v:=.pointer none) ((HF10.out.set_ 0 _).set_ 1 _) rfl rfl rfl rfl (.inl ⟨by rw [HWW.out]; exact show (12:Int)≠0 by decide,by rw [HWW.out],(Qw HE10.out _ _).drew⟩)
    ·rw [HN.out,HOK.out] at hok; cases hok
 ·rw [hf,show fltV (x,y) = .agg #[.int .i64 x,.int .i64 y] from rfl] at HMany
  have hxb:((x:Int) != 0)=true:=by rw [bne_iff_ne]; exact hx
  obtain ⟨HX,HWW⟩:=Z2 hx hw;clear hf hx hw hn hm;go_enter Tryz.func29,Tryz.ntmps29
  go_wp2_with fail
  refine (HMany.out _ ((Ext.rfl' w).alloc nL _)).mono ?_;rintro e w1 ⟨rfl,hE1⟩;have hF:=(Blk.new w 34 #[.int .i64 0,.int .i64 0]).ext hE1;obtain ⟨f0,f1⟩:=Y2 hF;have b0:=hF.cell 0;have b1:=hF.cell 1;have l0:=hF.lt;simp only [gA,gH,gS] at b0 b1;obtain ⟨HE1,HF⟩:=Z2 (Ext.trans' ((Ext.rfl' w).alloc nL _) hE1) hF;clear hE1 hF HMany;go_wp2_with fail
  go_region
  go_wp2_with fail
  exact Ql (f:=(x,y)) (g:=w.heap.size) (v:=.pointer none) (((HF.out.set_ 0 _).set_ 1 _).alloc _) rfl rfl rfl rfl (.inl ⟨by rw [HWW.out]; exact HX.out,by rw [HWW.out],((Qw HE1.out _ _).alloc (by simpa using HE1.out.size) _).drew⟩)
end Go.Proofs.YtanpljalbijfkaaGreat
