/- . -/
import Derived.Test.YtanpljalbijfkaaGreatQ12
import Derived.Test.YtanpljalbijfkaaGreatQ14
import Derived.Test.YtanpljalbijfkaaGreatQ29
import Derived.Test.YtanpljalbijfkaaGreatQ33
import Derived.Deep.LoopGhost
import Derived.Deep.OwnRows
namespace Go.Proofs.YtanpljalbijfkaaGreat
open Go.RowKit Go.Shelf Go.Sort
set_option maxHeartbeats 16000000
theorem Qjk (w:World):Calls Tryz.prog 143 #[.int .u64 0] w (fun e w'=>e = .returned (.int .i64 0)∧w=w'):=by
 go_enter Tryz.func143,Tryz.ntmps143
 go_wp2_with fail
 go_ret
 exact ⟨Qq (show wrap64 (wrap64 (Lib.len8 0))=0 by decide +kernel),rfl⟩
theorem Qmf (w:World):Calls Tryz.prog 114 #[.int .u64 0] w (fun e w'=>e = .returned (.int .i64 0)∧w=w'):=by
 go_enter Tryz.func114,Tryz.ntmps114
 go_wp2_with fail
 refine (Qjk w).mono ?_;rintro e w' ⟨rfl,rfl⟩;go_wp2_with fail
 go_ret
 exact ⟨rfl,rfl⟩
theorem Qkr (w:World):Calls Tryz.prog 133 #[.slice none 0 0,.int .i64 0,.int .i64 0] w (fun e w'=>e = .returned (.tuple #[])∧w=w'):=by
 go_enter Tryz.func133,Tryz.ntmps133
 go_wp2_with fail
 go_loopw [6] (fun v wr=>v = .int .i64 1∧w=wr) (fun _ _=>0)
 case atStart=>exact ⟨rfl,rfl⟩
 case round =>
  obtain ⟨rfl,rfl⟩:=hrel;go_wp2_with fail
  go_end0
  exact ⟨rfl,rfl⟩
theorem Qug (w:World):Calls Tryz.prog 113 #[.slice none 0 0,.int .i64 0,.int .i64 0,.int .i64 0] w (fun e w'=>e = .returned (.tuple #[])∧w=w'):=by
 go_enter Tryz.func113,Tryz.ntmps113
 go_wp2_with fail
 go_loopw [1,2] (fun a b wr=>a = .int .i64 0∧b = .int .i64 0∧w=wr) (fun _ _ _=>0)
 case atStart=>exact ⟨rfl,rfl,rfl⟩
 case round =>
  obtain ⟨rfl,rfl,rfl⟩:=hrel;go_wp2_with fail
  refine (Qkr w).mono ?_;rintro e w' ⟨rfl,rfl⟩;go_wp2_with fail
  refine bodyPost_ret (results_none rfl _ _ _) rfl ?_;exact ⟨rfl,rfl⟩
theorem Qtn (w:World):Calls Tryz.prog 84 #[.slice none 0 0] w (fun e w'=>e = .returned (.tuple #[])∧w=w'):=by
 go_enter Tryz.func84,Tryz.ntmps84
 go_wp2_with fail
 refine (Qmf w).mono ?_;rintro e w' ⟨rfl,rfl⟩;go_wp2_with fail
 refine (Qug w).mono ?_;rintro e w' ⟨rfl,rfl⟩;go_wp2_with fail
 go_end0
 exact ⟨rfl,rfl⟩
theorem Qmg (w:World):Calls Tryz.prog 47 #[.slice none 0 0] w (fun e w'=>e = .returned (.tuple #[])∧w=w'):=by
 go_enter Tryz.func47,Tryz.ntmps47
 go_wp2_with fail
 refine (Qtn w).mono ?_;rintro e w' ⟨rfl,rfl⟩;go_wp2_with fail
 go_end0
 exact ⟨rfl,rfl⟩
theorem Qmh (w:World) (B:Nat) (A:Option Addr) (n c:Nat) (l l':List Nat) (h:w.ownsRow B 3 1 (.slice A n c) n (natCells l)) (hn:n=l.length) (hb:n≤1000000) (hs:((l.map fun (a:Nat)=>(a:Int)).mergeSort fun x y=>decide (x≤y))=l'.map fun (a:Nat)=>(a:Int)) :
  Calls Tryz.prog 47 #[.slice A n c] w (fun e w'=>e = .returned (.tuple #[])∧w'.ownsRow B 3 1 (.slice A n c) n (natCells l')∧w.grownBy w' (Value.slice A n c).ownBlock):=by
 have hlen:l'.length=l.length:=by
  have:=congrArg List.length hs
  simpa using this.symm
 rcases h.2 with ⟨hv,h0⟩ | ⟨g,cap,cur,hv,hg,hh,hnc,hcm,hcs,ht⟩
 ·injection hv with h1 h2 h3
  subst h1 h3;have hl:l = []:=List.length_eq_zero_iff.1 (by omega)
  have hl':l' = []:=List.length_eq_zero_iff.1 (by omega)
  subst hl hl' h0;refine (Qmg w).mono ?_;rintro e w' ⟨rfl,rfl⟩;exact ⟨rfl,h,World.grownBy.refl w _⟩
 ·injection hv with h1 h2 h3
  subst h1 h3;have hH:Holds (Value.int .i64) w g 0 (l.map fun (a:Nat)=>(a:Int)).toArray:=by
   intro j hj;have hjl:j < l.length:=by simpa using hj
   refine ⟨?_,(show Blk w g 3 cur from hh).free _⟩
   rw [Nat.zero_add,h.cellAt j (by omega)]
   simp [natCells,hjl]
  have:=Any.sort_Ints Tryz.lays191 g 0 c (l.map fun (a:Nat)=>(a:Int)) w hH (Blk.lt (cs:=cur) (t:=3) hh) (by simp; omega)
  rw [List.length_map,← hn] at this;refine this.mono ?_;rintro e w' ⟨rfl,m,os,rfl⟩;refine ⟨rfl,?_,grownBy_sortedI _⟩;rw [hs];have h5:=ownsRow_sortedI (w:=w) (base:=B) (n:=m) (os:=os) (ss:=l.map fun (a:Nat)=>(a:Int)) (ts:=l'.map fun (a:Nat)=>(a:Int)) (by simp [hlen]) hg hh (by simp; omega) hcm hcs
  rw [List.length_map,← hn] at h5;have e6:((l'.map fun (a:Nat)=>(a:Int)).map (Value.int .i64))=natCells l':=by simp [natCells]
  rw [e6] at h5;exact h5
end Go.Proofs.YtanpljalbijfkaaGreat
namespace Go.Proofs.YtanpljalbijfkaaGreat
open Go.RowKit
set_option maxHeartbeats 16000000
theorem Qru:(Tryz.prog.info? 70).map (·.size)=some 10:=by kernel_rfl
theorem Qto (L:List (Nat × Nat)) (x1 x2:Nat):∀ i,Qde (lvsOf L) x1 (lvsOf L x1 ++ [x2]) i=lvsOf (L ++ [(x1,x2)]) i:=by
 intro i;rw [lvsOf_snoc];by_cases e:x1=i
 ·subst e; rw [Qaj,if_pos rfl]
 ·rw [Qaa _ _ (fun h=>e h.symm),if_neg e]
theorem RSt.congr {w0 w:World} {go gm N gq n cq:Nat} {A:Nat→Option Addr} {c:Nat→Nat} {F G:Nat→List Nat} {S Q:List (Nat × Nat)} {Aq:Option Addr} (h:RSt w0 w go gm N A c F S gq Aq n cq Q) (e:∀ i,i < N→F i=G i):RSt w0 w go gm N A c G S gq Aq n cq Q :=
 ⟨h.ext,h.lo,h.out.congr e,h.tab,h.que⟩
theorem RSt.set_eq {w0 w:World} {go gm N gq n cq:Nat} {A:Nat→Option Addr} {c:Nat→Nat} {F:Nat→List Nat} {S S' Q Q':List (Nat × Nat)} {Aq:Option Addr} (h:RSt w0 w go gm N A c F S gq Aq n cq Q) (e:S=S') (e2:Q=Q'):RSt w0 w go gm N A c F S' gq Aq n cq Q':=by subst e e2; exact h
set_option maxRecDepth 100000 in
theorem Qmi (w:World):Calls Tryz.prog 16 #[.pointer none] w (fun e w'=>e = .returned (.slice (some ⟨w.heap.size,0,none⟩) 0 0)∧Ext w w'):=by
 have HE:=hide ((Ext.rfl' w).alloc nL (.cells (madeCells #[.slice none 0 0] 0) 58));have hmk:∀ w1,(Instr.makeSlice 54 (.int .i64 0) (.int .i64 0)).run Tryz.prog w1 = .ok (.slice (some ⟨w1.heap.size,0,none⟩) 0 0) (w1.alloc (.cells (madeCells #[.slice none 0 0] 0) 58)):=fun w1=>run_make_row' (P:=Tryz.prog) 54 58 (.slice none 0 0) 24 Tryz.underlying54 (by kernel_rfl) rfl .i64 .i64 0 (by omega) (by omega) w1
 obtain ⟨POST,hPOST⟩:∃ P:Ending→World→Prop,P=fun e w'=>e = .returned (.slice (some ⟨w.heap.size,0,none⟩) 0 0)∧Ext w w':=⟨_,rfl⟩
 have HP:=hide (show POST (.returned (.slice (some ⟨w.heap.size,0,none⟩) 0 0)) (w.alloc (.cells (madeCells #[.slice none 0 0] 0) 58)) by rw [hPOST]; exact ⟨rfl,HE.out⟩)
 rw [← hPOST];clear hPOST HE;show Calls Tryz.prog 16 #[.pointer none] w (fun e w'=>POST e w')
 have HLEN:=hide (Qne w);go_enter Tryz.func16,Tryz.ntmps16
 go_wp2_with fail
 refine HLEN.out.mono ?_;rintro e w' ⟨rfl,rfl⟩;go_wp2_with fail
 exact HP.out
set_option maxRecDepth 100000 in
theorem Qmj (gp:Nat) (s:Sch) (w:World) (h:PlanAt w gp s) (hg:s.Good) (hz:SchSz s):Calls Tryz.prog 16 #[.pointer (some ⟨gp,0,none⟩)] w (fun e w'=>(∃ A c,e = .returned (.slice A s.nodes.length c)∧ReachAt w' A s)∧Ext w w'):=by
 obtain ⟨gl,hpl⟩:=h.lat;have h512:=Qc7 hg.fine;have hlf:=hg.lat.few;obtain ⟨HLEN,HROOT,HLAT,HBOT,HJN,HND,HOK,HIN⟩:=Z8 (fun w1 (hE:Ext w w1)=>Qeu gp s w1 (h.ext hE)) (fun w1 (hE:Ext w w1)=>Qgi gp s w1 (h.ext hE)) (fun w1 (hE:Ext w w1)=>Qco gp gl s w1 (hpl.ext hE)) (fun w1 (hE:Ext w w1)=>Qka gl s w1 (hpl.2.2.ext hE) hg) (fun w1 (hE:Ext w w1) (a l:Nat) (ha:a < s.ws.length) (hl:l < s.ws.length)=>Qn7 gl s w1 (hpl.2.2.ext hE) hg a l ha hl) (fun w1 (hE:Ext w w1) (k:Nat) (hk:k < s.nodes.length)=>(show Calls Tryz.prog 24 #[.pointer (some ⟨gp,0,none⟩),.int .i64 (k:Int)] w1 (Qj9 (nodeAtL s k) w1) by rw [Qam hk]; exact Qgk gp k s w1 (h.ext hE) hk h512 (Qbu hg hz hk))) (fun (k:Nat) (hk:k < s.nodes.length)=>(show NodeOk s (nodeAtL s k) by rw [Qam hk]; exact Qbu hg hz hk)) (fun (x:Nat × Nat) (h:Rch s x)=>(h.in_ hg hz:inP s x))
 obtain ⟨HFEW,HFEWM,HSRT,HJL,HST⟩:=Z5 (fun (L Q:List (Nat × Nat)) (h:Vis s L Q)=>h.few hg hz) (fun (L Q:List (Nat × Nat)) (x:Nat × Nat) (q:Nat) (h:Mid s L x Q q)=>h.few hg hz) (fun (L:List (Nat × Nat)) (h:Vis s L []) i=>Qpr hg hz h i) (fun (a l:Nat) (ha:a < s.ws.length) (hl:l < s.ws.length)=>(Qgm hg ha hl:jnS s a l < s.ws.length)) (Vis.start s)
 have hR1:=Qg1 hg;have hB1:=Qg2 hg;have HPOST:=hide (fun (A:Option Addr) (c:Nat) (w':World) (h1:ReachAt w' A s) (h2:Ext w w')=>(show (∃ A' c',Ending.returned (.slice A s.nodes.length c) = .returned (.slice A' s.nodes.length c')∧ReachAt w' A' s)∧Ext w w' from ⟨⟨A,c,rfl,h1⟩,h2⟩))
 obtain ⟨N,hN,K,hK⟩:=V2 (s.nodes.length) (s.ws.length);rw [← hN] at HLEN HND HOK HFEW HFEWM hR1 h512 HPOST ⊢;rw [← hK] at HJN HFEW HFEWM HJL hB1 hlf;obtain ⟨RI,hRI,BI,hBI⟩:=V2 (s.rootI) (Qbi s);rw [← hRI] at HROOT HST hR1;rw [← hBI] at HBOT HST hB1;obtain ⟨HNN,HKK⟩:=Z2 hN hK;have hmk:=fun w1=>run_make_row' (P:=Tryz.prog) 54 58 (.slice none 0 0) 24 Tryz.underlying54 (by kernel_rfl) rfl .i64 .i64 N (by omega) (by omega) w1
 obtain ⟨w1,hw1,go,hgo⟩:=V2 (w.alloc (.cells (madeCells #[.slice none 0 0] N) 58)) (w.heap.size);have hO1:OutAt w1 w.heap.size go N (fun _=>none) (fun _=>0) (fun _=>[]):=by rw [hw1,hgo]; exact OutAt.made w _ N
 have hE1:Ext w w1:=by rw [hw1]; exact (Ext.rfl' w).alloc nL _
 obtain ⟨Hw1,Hgo,HO1,HE1⟩:=Z4 hw1 hgo hO1 hE1;obtain ⟨POST,hPOST⟩:∃ P:Ending→World→Prop,P=fun e w'=>(∃ A c,e = .returned (.slice A N c)∧ReachAt w' A s)∧Ext w w':=⟨_,rfl⟩
 have HPOST2:=hide (fun (A:Option Addr) (c:Nat) (w':World) (h1:ReachAt w' A s) (h2:Ext w w')=>(show POST (.returned (.slice A N c)) w' by rw [hPOST]; exact HPOST.out A c w' h1 h2))
 rw [← hPOST];clear hPOST HPOST hN hK hRI hBI hw1 hgo hO1 hE1 h hpl hg hz;show Calls Tryz.prog 16 #[.pointer (some ⟨gp,0,none⟩)] w (fun e w'=>POST e w')
 go_enter Tryz.func16,Tryz.ntmps16
 go_wp2_with fail
 refine (HLEN.out w (Ext.rfl' w)).mono ?_;rintro e w' ⟨rfl,rfl⟩;go_upto_region 2 with fail
 rw [← Hw1.out,← Hgo.out];clear hmk;go_wp2_with fail
 refine (HROOT.out w1 HE1.out).mono ?_;rintro e w' ⟨rfl,rfl⟩;go_wp2_with fail
 refine (HLAT.out w1 HE1.out).mono ?_;rintro e w' ⟨rfl,rfl⟩;go_wp2_with fail
 refine (HBOT.out w1 HE1.out).mono ?_;rintro e w' ⟨rfl,rfl⟩;obtain ⟨w2,g4,hw2,hg4,Hw2,Hg4,hX,hXE⟩:=T0 w1 103 #[.int .i64 (RI:Int),.int .i64 (BI:Int)];obtain ⟨HE2,HO2⟩:=Z2 (HE1.out.trans' hXE) (HO1.out.ext hXE);obtain ⟨t0,t1⟩:=X2 hX;have HX2:=hide hX;clear hw2 hg4 hX hXE;go_upto_region 5 with fail
 rw [← Hw2.out,← Hg4.out];have hmm:=@run_makeMap Tryz.prog;obtain ⟨w3,hw3,gm,hgm⟩:=V2 (w2.alloc (.map #[] 0)) (w2.heap.size);have hM:MapAt w3 gm []:=by rw [hw3,hgm]; exact MapAt.new w2
 have hME:Ext w2 w3:=by rw [hw3]; exact (Ext.rfl' w2).alloc nL _
 obtain ⟨Hw3,Hgm,HM,HX3,HO3,HE3⟩:=Z6 hw3 hgm hM (HX2.out.ext hME) (HO2.out.ext hME) (HE2.out.trans' hME);have hlom:w.heap.size≤gm:=by have:=HE2.out.size; rw [hgm]; exact this
 clear hw3 hgm hM hME;refine wp_region_lit ?_;refine wpList_plain rfl fun K0 hK0=>?_
 go_simp;refine hK0 _ _ ?_;rw [← Hw3.out,← Hgm.out];clear t0 t1 hmm;have hX3:=HX3.out;obtain ⟨t0,t1⟩:=X2 hX3;refine wpList_plain rfl fun K0 hK0=>?_
 go_simp;refine hK0 _ _ ?_;refine Qi8 rfl _ _ _ (.inr rfl) gm [] HM.out (RI,BI) (by dsimp only; omega) (by dsimp only; omega) (by simp) rfl rfl rfl ?_
 intro w4 hM4 hg4m;have hE4:Mv (fun k=>k=gm) w3 w4:=Mv.of_grown hg4m fun g e=>by injection e with e; exact e.symm
 have hX4:Blk w4 g4 103 #[.int .i64 (RI:Int),.int .i64 (BI:Int)]:=hE4.blk hX3 fun e=>HM.out.no_row hX3 e.symm
 obtain ⟨HO4,HE4,HM4⟩:=Z3 (HO3.out.mv hE4 (fun e=>(by obtain ⟨⟨cs,hB,_⟩,_,_⟩:=HO3.out; exact HM.out.no_row hB e.symm)) fun i a hi ha=>HO3.out.ne_map HM.out hi ha) (hE4.below HE3.out fun i e=>by rw [e]; exact hlom) hM4
 obtain ⟨u0,u1⟩:=X2 hX4;clear t0 t1 hX3 hX4 hE4 hg4m hM4;go_upto_region 6 with fail
 obtain ⟨w5,gq,hw5,hgq,Hw5,Hgq,hQ,hQE⟩:=T0 w4 103 #[.int .i64 (RI:Int),.int .i64 (BI:Int)];have HS5:=hide (show RSt w w5 go gm N (fun _=>none) (fun _=>0) (fun _=>[]) [(RI,BI)] gq (some ⟨gq,0,none⟩) 1 1 [(RI,BI)] from ⟨HE4.out.trans' hQE,⟨by rw [Hgo.out]; exact Nat.le_refl _,hlom,by have:=HE4.out.size; rw [hgq]; exact this⟩,HO4.out.ext hQE,HM4.out.of_block (hQE.block gm HM4.out.lt),QAt.one hQ rfl⟩)
 clear hw5 hgq hQ hQE hlom;go_upto_region 7 with fail
 rw [← Hw5.out,← Hgq.out];clear u0 u1;obtain ⟨NK,hNK⟩:=V1 (N * K);rw [← hNK] at HFEW HFEWM;have hNKb:NK≤16384:=by rw [hNK]; exact Nat.le_trans (Nat.mul_le_mul h512 hlf) (by decide)
 clear hNK;go_loopg [6] (NK + 1) (fun gk v wr=>∃ (L Q:List (Nat × Nat)) (A:Nat→Option Addr) (c:Nat→Nat) (gq:Nat) (Aq:Option Addr) (n cq:Nat),v = .slice Aq n cq∧gk + L.length=NK + 1∧Hid (n=Q.length)∧Hid (Vis s L Q)∧Hid (RSt w wr go gm N A c (lvsOf L) (L ++ Q) gq Aq n cq Q))
 case atStart=>exact ⟨[],[(RI,BI)],_,_,gq,some ⟨gq,0,none⟩,1,1,rfl,rfl,rfl,HST.out,HS5.out⟩
 case round =>
  obtain ⟨L,Q,A,c,gq,Aq,n,cq,rfl,hgk,HNQ,HV,HS⟩:=hrel;clear HS5;have hn0:=nZ n;cases Q with
  | nil =>
   obtain rfl:n=0:=HNQ.out;have hLN:L.length≤16384:=by have h1:=HFEW.out L [] HV.out; simp at h1; omega
   have HSL:=hide (fun i=>HSRT.out L HV.out i)
   have HSLN:=hide (fun i=>(show (reachL s i).length=(lvsOf L i).length from by
    have:=congrArg List.length (HSL.out i)
    simpa using this.symm))
   have HLL:=hide (fun i=>(show (lvsOf L i).length≤1000000 from by
    have h3:(lvsOf L i).length≤L.length:=by unfold lvsOf; rw [List.length_map]; exact List.length_filter_le _ _
    omega))
   have HO0:=hide (HS.out.out.congr (G:=fun i=>if i < 0 then reachL s i else lvsOf L i) (fun i _=>by rw [if_neg (Nat.not_lt_zero i)]))
   have HE0:=hide HS.out.ext;clear hgk HV HS HNQ hLN;go_wp2_with fail
   go_loopw [95] (fun i w2=>∃ k:Nat,k≤N∧i = .int .i64 (k:Int)∧Hid (Ext w w2)∧Hid (OutAt w2 w.heap.size go N A c (fun i=>if i < k then reachL s i else lvsOf L i))) (fun i _=>N - (intOf i).toNat)
   case atStart=>exact ⟨0,Nat.zero_le _,rfl,HE0.out,HO0.out⟩
   case round =>
    obtain ⟨k,hk,rfl,HEk,HOk⟩:=hrel;clear HE0 HO0;by_cases hlt:k < N
    ·have ck:=HOk.out.cell hlt;have hown:=HOk.out.own k hlt;try dsimp only at ck hown
     rw [if_neg (Nat.lt_irrefl k)] at ck hown;obtain ⟨m,hm,Ak,hAk,Ck,hCk⟩:=V3 ((lvsOf L k).length) (A k) (c k);rw [← hm,← hAk,← hCk] at ck hown;obtain ⟨HCALL,HMM,HAK,HCK⟩:=Z4 (Qmh _ w.heap.size Ak m Ck (lvsOf L k) (reachL s k) hown hm (by rw [hm]; exact HLL.out k) (HSL.out k)) hm hAk hCk
     have i0:=nZ k;have i1:(k:Int) < (N:Int):=by omega
     clear hown hm hAk hCk;go_wp2_with fail
     refine HCALL.out.mono ?_;rintro e w3 ⟨rfl,hO3,hg3⟩;clear ck;have hO4:=HOk.out.turn (w':=w3) hlt (l:=reachL s k) (by rw [if_neg (Nat.lt_irrefl k)]; exact HSLN.out k) (by rw [HSLN.out k,← HMM.out,← HAK.out,← HCK.out]; exact hO3) (by rw [if_neg (Nat.lt_irrefl k),← HMM.out,← HAK.out,← HCK.out]; exact hg3)
     have HO4:=hide (hO4.congr (G:=fun i=>if i < k + 1 then reachL s i else lvsOf L i) (fun i _=>by
      by_cases e:i=k
      ·subst e; rw [Qaj,if_pos (Nat.lt_succ_self _)]
      ·rw [Qaa _ _ e];by_cases h:i < k
       ·rw [if_pos h,if_pos (by omega)]
       ·rw [if_neg h,if_neg (by omega)]))
     have hm3:Mv (fun j=>∃ a,Ak=some a∧j=a.block) _ w3:=Mv.of_grown hg3 fun g e=>by
      cases hA:Ak with
      | none=>rw [hA] at e; cases e
      | some a=>rw [hA] at e; injection e with e; exact ⟨a,rfl,e.symm⟩
     have HE4:=hide (hm3.below HEk.out (fun j hj=>by
      obtain ⟨a,hA,rfl⟩:=hj;exact (own_lt' (HOk.out.own k hlt) (HAK.out.symm.trans hA)).2.1))
     clear hO3 hg3 hO4 hm3 HOk HEk;go_wp2_with fail
     go_roundw
     case rel=>exact ⟨k + 1,by omega,by go_num,HE4.out,HO4.out⟩
     case measure=>simp [intOf]; omega
    ·obtain rfl:k=N:=by omega
     have HFIN:=hide (ReachAt.of (HOk.out.congr (G:=reachL s) (fun i hi=>by rw [if_pos hi])) HNN.out)
     clear HOk;go_wp2_with fail
     exact HPOST2.out _ _ _ HFIN.out HEk.out
  | cons x Q =>
   obtain ⟨x1,x2⟩:=x;have hn1:n=Q.length + 1:=HNQ.out;have hxr:=HV.out.ok (x1,x2) (by simp)
   have hxin:=HIN.out _ hxr;unfold inP at hxin;rw [← HNN.out,← HKK.out] at hxin;obtain ⟨hx1,hx2⟩:=hxin;dsimp only at hx1 hx2
   obtain ⟨off,rfl,q0,q1⟩:=HS.out.que.head;have hcq:n≤cq:=HS.out.que.2.1;have hn2:(0:Int) < (n:Int):=by omega
   clear hxr hn1;obtain ⟨w6,g7,hw6,hg7,Hw6,Hg7,hY,hYE⟩:=T0 wr 103 #[.int .i64 (x1:Int),.int .i64 (x2:Int)];obtain ⟨HS6,HY6⟩:=Z2 (HS.out.grow hYE) hY;have hq7:gq < g7:=by rw [hg7]; exact HS.out.que.lt
   clear hw6 hg7 hY hYE;go_upto_region 9 with fail
   rw [← Hw6.out,← Hg7.out];clear q0 q1;go_cut [6] (fun v wx=>v = .slice (if cq=1 then some ⟨gq,off,none⟩ else some ⟨gq,off + 2,none⟩) (n - 1) (cq - 1)∧w6=wx)
   case first =>
    by_cases hc1:cq=1
    ·subst hc1;go_wp2_with fail
     go_meet
     exact ⟨by rw [show n - 1=0 by omega]; rfl,rfl⟩
    ·go_wp2_with fail
     go_meet
     exact ⟨by rw [if_neg hc1],rfl⟩
   case rest =>
    obtain ⟨rfl,rfl⟩:=hcut;obtain ⟨Aq',hAq'⟩:∃ A':Option Addr,A'=(if cq=1 then some ⟨gq,off,none⟩ else some ⟨gq,off + 2,none⟩):=⟨_,rfl⟩;have hs7:RSt w w6 go gm N A c (lvsOf L) (L ++ (x1,x2) :: Q) gq Aq' (n - 1) (cq - 1) Q:=by rw [hAq']; exact HS6.out.pop
    rw [← hAq'];obtain ⟨n',hn',cq',hcq'⟩:=V2 (n - 1) (cq - 1);rw [← hn',← hcq'] at hs7 ⊢;have HNQ':=hide (show n'=Q.length by rw [hn',HNQ.out]; rfl)
    have HS7:=hide hs7;have c10:=hs7.out.cell hx1;have hx1i:=nZ x1;have hx1j:(x1:Int) < (N:Int):=by omega
    obtain ⟨m,hm,Ax,hAx,cx,hcx⟩:=V3 ((lvsOf L x1).length) (A x1) (c x1);rw [← hm,← hAx,← hcx] at c10;obtain ⟨HMX,HAX,HCX⟩:=Z3 hm hAx hcx;clear hs7 hAq' hn' hcq' hm hAx hcx hcq hn2 hn0 HNQ HS6 HS;go_upto_region 10 with fail
    rename_i Kz hKz
    refine Qaq [0,1,2,3,4,5,6,7,8,9] [10,11] [] [] [12,13] 12 (by kernel_rfl) (by kernel_rfl) (fun w'=>Blk w' g7 103 #[.int .i64 (x1:Int),.int .i64 (x2:Int)]∧w'.cell? ⟨go,x1,none⟩=some (.slice Ax m cx)) ⟨HY6.out,c10⟩ ?_
    intro I _ f hf;have y0:=fun n_=>(hf n_).1.cell 0
    have y1:=fun n_=>(hf n_).1.cell 1
    have d10:=fun n_=>(hf n_).2
    simp only [gA,gH,gS] at y0 y1;clear hf c10;simp only [opsAt,List.map_cons,List.map_nil,gA,gH,gS,Option.getD_some];repeat (go_big_quiet_step ((fail)))
    refine wpQuiet_nil ?_;clear y0 y1 d10;obtain ⟨w8,hw8,g8,hg8⟩:=V2 ((w6.alloc (.cells #[.int .i64 (x2:Int)] 3)).drew) (w6.heap.size);have hE8:Ext w6 w8:=by rw [hw8]; exact Ext.drew' ((Ext.rfl' w6).alloc nL _)
    have hI8:Reads w8 (g8 + 1) 1 (some ⟨g8,0,none⟩) 1 [.int .i64 (x2:Int)]:=by rw [hw8]; exact (reads_at w6 3 (.int .i64 (x2:Int)) g8 hg8).drew
    have hS8:Blk w8 g7 103 #[.int .i64 (x1:Int),.int .i64 (x2:Int)]∧w8.cell? ⟨go,x1,none⟩=some (.slice Ax m cx):=⟨HY6.out.ext hE8,by rw [HMX.out,HAX.out,HCX.out]; exact (HS7.out.out.ext hE8).cell hx1⟩
    refine seqK_plain rfl ?_;intro K1 hK1;go_simp;rw [← hw8,← hg8];refine hK1 _ _ hS8 ?_;refine seqK_plain rfl ?_;intro K2 hK2;obtain ⟨i0,hi0,hz0,hs0,hb0⟩:=info_int;have hown8:w8.ownsRow w.heap.size 3 1 (.slice Ax m cx) m (natCells (lvsOf L x1)):=by rw [HMX.out,HAX.out,HCX.out]; exact (HS7.out.out.ext hE8).own x1 hx1
    have hm1:m≤1000000:=by
     have h1:=hown8.1;have h2:=HFEW.out L ((x1,x2) :: Q) HV.out;have h3:(lvsOf L x1).length≤L.length:=by unfold lvsOf; rw [List.length_map]; exact List.length_filter_le _ _
     have h4:=HMX.out;omega
    refine Qar w8 _ _ 58 rfl w.heap.size 3 i0 _ 1 8 Tryz.underlying58 hi0 hz0 hs0 hb0 rfl (by decide) (.slice Ax m cx) m (natCells (lvsOf L x1)) rfl hown8 (g8 + 1) (some ⟨g8,0,none⟩) 1 _ [.int .i64 (x2:Int)] rfl hI8 (fun u hu=>by rw [List.mem_singleton.1 hu]; rfl) (by unfold maxLen; omega) (by omega) (by have:=HS7.out.ext.size; have:=hE8.size; omega) ?_
    intro v' w9 hO9 hg9 hn9;obtain ⟨A9,c9,rfl⟩:∃ A9 c9,v' = .slice A9 (m + 1) c9:=by
     rcases hO9.2 with ⟨e,h0⟩ | ⟨g,cap,cur,e,_⟩
     ·omega
     ·exact ⟨_,_,e⟩
    have hap:=(HS7.out.grow hE8).app (w':=w9) (x:=x2) (A':=A9) (c':=c9) hx1 (by rw [← HMX.out]; simpa [natCells] using hO9) (by rw [← HMX.out,← HAX.out,← HCX.out]; exact hg9) (by rw [← HMX.out,← HAX.out,← HCX.out]; exact hn9)
    rw [← HMX.out] at hap;have hap2:=hap.congr (fun i _=>Qto L x1 x2 i)
    have hmv:Mv (fun k=>∃ a,Ax=some a∧k=a.block) w8 w9:=Mv.of_grown hg9 fun g e=>by
     cases hA:Ax with
     | none=>rw [hA] at e; cases e
     | some a=>rw [hA] at e; injection e with e; exact ⟨a,rfl,e.symm⟩
    have hneY:¬ ∃ a,Ax=some a∧g7=a.block:=fun ⟨a,h1,h2⟩=>(HS7.out.out.ext hE8).ne hS8.1 (by decide) hx1 (HAX.out.symm.trans h1) h2.symm
    have hneG:¬ ∃ a,Ax=some a∧go=a.block:=fun ⟨a,h1,h2⟩=>by
     obtain ⟨⟨cs,hB,_⟩,_,_⟩:=HS7.out.out.ext hE8;exact (HS7.out.out.ext hE8).ne hB (by decide) hx1 (HAX.out.symm.trans h1) h2.symm
    have hS9:Blk w9 g7 103 #[.int .i64 (x1:Int),.int .i64 (x2:Int)]∧w9.cell? ⟨go,x1,none⟩=some (.slice Ax m cx):=⟨hmv.blk hS8.1 hneY,(hmv.cell (p:=⟨go,x1,none⟩) (HS7.out.out.ext hE8).lt hneG).trans hS8.2⟩;have hgne:g7≠go:=by
     obtain ⟨⟨cs,hB,_⟩,_,_⟩:=HS7.out.out.ext hE8;intro e;have h1:=hS8.1;rw [e] at h1;unfold Blk at h1 hB;rw [hB] at h1;injection h1 with h1
     injection h1 with _ e
     exact absurd e (by decide)
    have d9:=hS9.2;have f9:w9.frozen? ⟨go,x1,none⟩=false:=by
     obtain ⟨⟨cs,hB,_⟩,_,_⟩:=HS7.out.out.ext hE8;exact (hmv.blk hB hneG).free _
    obtain ⟨HY10,HS10⟩:=Z2 (hS9.1.far (p:=⟨go,x1,none⟩) hgne (.slice A9 (m + 1) c9)) hap2;refine hK2 _ _ hS9 ?_;refine seqK_done ?_;refine wpQuiet_nil ?_;refine seqK_done ?_;clear hw8 hg8 hE8 hI8 hS8 hi0 hz0 hs0 hb0 hown8 hm1 hO9 hg9 hn9 hap hap2 hmv hneY hneG hS9 hgne HS7 HY6;go_wp2_with fail
    refine hKz _ _ ?_;obtain ⟨w10,hw10⟩:=V1 (w9.setCell ⟨go,x1,none⟩ (.slice A9 (m + 1) c9));rw [← hw10] at HY10 HS10 ⊢;clear hw10 d9 f9;obtain ⟨A10,hA10,C10,hC10⟩:=V2 (Qde A x1 A9) (Qde c x1 c9);rw [← hA10,← hC10] at HS10;clear hA10 hC10;have HMID:=hide (HV.out.take);have hokd:=HOK.out x1 hx1;have HNDx:=hide (fun w1 (hE:Ext w w1)=>HND.out w1 hE x1 hx1)
    obtain ⟨d,hd⟩:=V1 (nodeAtL s x1);rw [← hd] at hokd HNDx;obtain ⟨HD,HDK⟩:=Z2 hd hokd;have hqd:=hokd.few;have hY10:=HY10.out;have y0:=X1 hY10;clear hd hokd hY10;go_wp2_with fail
    refine (HNDx.out w10 HS10.out.ext).mono ?_;rintro e w11 ⟨An,cn,Ae,ce,rfl,_,hX11,hE11,hF11⟩;unfold nodeV;obtain ⟨m',hm',q',hq'⟩:=V2 (d.names.length) (d.edges.length);rw [← hm',← hq'];rw [← hq'] at hqd;have HQ:=hide hq';have hq0:=nZ q';obtain ⟨w12,g12,hw12,hg12,Hw12,Hg12,hD,hDE⟩:=T0 w11 66 #[.int .i64 d.kind,.int .i64 d.at_,.int .i64 d.lo,.int .i64 d.hi,.int .i64 d.most,.slice An m' cn,.slice Ae q' ce];obtain ⟨HS12,HY12,HX12⟩:=Z3 ((HS10.out.grow hE11).grow hDE) ((HY10.out.ext hE11).ext hDE) (EdgesAt.ext hX11 hDE);have hm12:gm < w10.heap.size:=HS10.out.tab.lt;have hq12:gq < w10.heap.size:=HS10.out.que.lt;have hne1:g7≠gm:=fun e=>HS12.out.tab.no_row HY12.out e.symm
    have hne2:g12≠gm:=fun e=>HS12.out.tab.no_row hD e.symm
    have hne3:g12≠gq:=by have:=hE11.size; omega
    have hF12:∀ a,Ae=some a→a.block≠gm∧a.block≠gq:=fun a ha=>by have:=hF11 a ha; omega
    have HF12:=hide hF12;obtain ⟨-,-,-,-,-,-,d6⟩:=X7 hD;have hX12:Mv (fun k=>k=gm∨k=gq) w12 w12:=Mv.rfl' _ _
    have HNE:=hide (show g7≠gm∧g7≠gq∧g12≠gm∧g12≠gq∧g7 < w12.heap.size from ⟨hne1,by omega,hne2,hne3,HY12.out.lt⟩)
    have HD12:=hide hD;clear y0 hw12 hg12 hm' hq' hD hDE hE11 hX11 HS10 HY10 HNDx hF11 hF12 hm12 hq12 hne1 hne2 hne3;go_upto_region 12 with fail
    rw [← Hw12.out,← Hg12.out];go_wp2_with fail
    clear d6;go_loopw [63,6] (fun i v wr=>∃ (q:Nat) (Q2:List (Nat × Nat)) (gq2:Nat) (Aq2:Option Addr) (n2 cq2:Nat),q≤q'∧i = .int .i64 (q:Int)∧v = .slice Aq2 n2 cq2∧Hid (n2=Q2.length)∧Hid (Mid s L (x1,x2) Q2 q)∧Hid (RSt w wr go gm N A10 C10 (lvsOf (L ++ [(x1,x2)])) (L ++ (x1,x2) :: Q2) gq2 Aq2 n2 cq2 Q2)∧Hid (gq2=gq∨w12.heap.size≤gq2)∧Hid (Mv (fun k=>k=gm∨k=gq) w12 wr)) (fun i _ _=>q' - (intOf i).toNat)
    case atStart=>exact ⟨0,Q,gq,_,_,_,Nat.zero_le _,rfl,rfl,HNQ'.out,HMID.out,HS12.out,.inl rfl,hX12⟩
    case round =>
     clear hX12 HS12 HMID HNQ';obtain ⟨q,Q2,gq2,Aq2,n2,cq2,hq,rfl,rfl,HN2,HMD,HS2,HG2,HMV⟩:=hrel;obtain ⟨HYr,HDr⟩:=Z2 (HMV.out.blk HY12.out (fun h=>by rcases h with h | h; exact HNE.out.1 h; exact HNE.out.2.1 h)) (HMV.out.blk HD12.out (fun h=>by rcases h with h | h; exact HNE.out.2.2.1 h; exact HNE.out.2.2.2.1 h))
     by_cases hlt:q < q'
     ·have hqd2:q < d.edges.length:=by have:=HQ.out; omega
      obtain ⟨b,o,rfl,hb,hc⟩:=HX12.out.cell (by omega)
      have h1:=hc q hqd2;have hoe:=HDK.out.edge q hqd2;have hpass:=fun hp=>HMD.out.pass (by rw [← HD.out]; exact hqd2) hp
      have hpush:=fun hb hn=>HMD.out.push (by rw [← HD.out]; exact hqd2) hb hn
      obtain ⟨e,he⟩:=V1 (d.edges[q]);have he2:∀ h,(nodeAtL s (x1,x2).1).edges[q]'h=e:=by
       intro h;rw [he];simp only [HD.out]
      have hpass2:e.bare=true∨goE s (x1,x2) e ∈ L ++ (x1,x2) :: Q2→Mid s L (x1,x2) Q2 (q + 1):=fun hp=>hpass (by rw [he2]; exact hp)
      have hpush2:e.bare=false→¬ goE s (x1,x2) e ∈ L ++ (x1,x2) :: Q2→Mid s L (x1,x2) (Q2 ++ [goE s (x1,x2) e]) (q + 1):=fun hb hn=>by
       have:=hpush (by rw [he2]; exact hb) (by rw [he2]; exact hn)
       rw [he2] at this;exact this
      rw [← he] at h1 hoe;obtain ⟨HPASS,HPUSH⟩:=Z2 hpass2 hpush2;have HRG:=hide (show wr.rangeAt b (o + q * 10) [.string e.name,.bool e.bare,.int .i64 e.at_,.int .i64 e.tgt,.int .i64 e.label,.int .i64 e.wide,.int .i64 e.coarse,.int .i64 e.n,.int .i64 e.seen,.int .i64 e.cat] from fun j v hv=>(HMV.out.cell (p:=⟨b,o + q * 10 + j,none⟩) hb (fun h=>by rcases h with h | h; exact (HF12.out _ rfl).1 h; exact (HF12.out _ rfl).2 h)).trans (h1 j v hv))
      have HOE:=hide hoe;have j0:=nZ q;have j1:(q:Int) < (q':Int):=by omega
      clear hc h1 hoe hpass hpush hpass2 hpush2 he2 he hb hqd2;obtain ⟨w13,g13,hw13,hg13,Hw13,Hg13,hU,hUE⟩:=T0 wr 70 #[.string e.name,.bool e.bare,.int .i64 e.at_,.int .i64 e.tgt,.int .i64 e.label,.int .i64 e.wide,.int .i64 e.coarse,.int .i64 e.n,.int .i64 e.seen,.int .i64 e.cat];obtain ⟨HS13,HU13,HY13,HM13⟩:=Z4 (HS2.out.grow hUE) hU (HYr.out.ext hUE) (HMV.out.ext hUE);clear hw13 hg13 hU hUE;go_upto_region 14 with fail
      refine wp_region_lit ?_;refine wpList_plain rfl fun K0 hK0=>?_
      go_simp;refine hK0 _ _ ?_;refine wpList_load_mid rfl 70 _ rfl b (o + q * 10) rfl _ _ HRG.out Tryz.underlying70 rfl Qru ?_;refine wpList_plain rfl fun K0 hK0=>?_
      go_simp;refine hK0 _ _ ?_;refine Qc rfl 70 _ _ rfl _ #[.string e.name,.bool e.bare,.int .i64 e.at_,.int .i64 e.tgt,.int .i64 e.label,.int .i64 e.wide,.int .i64 e.coarse,.int .i64 e.n,.int .i64 e.seen,.int .i64 e.cat] rfl rfl Qru rfl (by simp [Value.oneCell']) ?_
      go_upto_region 15 with fail
      rw [← Hw13.out,← Hg13.out];obtain ⟨la,hla,hlan⟩:=HOE.out.lab;rw [← HKK.out] at hlan;have HLA:=hide hlan;have hU13:=HU13.out;obtain ⟨-,u1,-,u3,u4⟩:=X5 hU13;rw [hla] at u4;have HLL:=hide hla;have hY13:=HY13.out;obtain ⟨-,y1⟩:=X2 hY13;clear hla hlan hY13 hU13;obtain ⟨jv,hjv⟩:=V1 (jnS s x2 la);have HJV:=hide hjv;simp only [Act.put];go_cut [12] (fun v wx=>∃ gy,v = .pointer (some ⟨gy,0,none⟩)∧Blk wx gy 103 #[.int .i64 e.tgt,.int .i64 (jv:Int)]∧Ext w13 wx)
      case first =>
       rename_i Kz hKz
       have hEd:Ext w w13.drew:=Ext.drew' HS13.out.ext;have hSd:Ext w13 w13.drew:=Ext.drew' (Ext.rfl' w13);have hEa:Ext w ((w13.alloc (.cells #[.int .i64 0,.int .i64 0] 103)).drew):=Ext.drew' (HS13.out.ext.alloc HS13.out.ext.size _);have hSa:Ext w13 ((w13.alloc (.cells #[.int .i64 0,.int .i64 0] 103)).drew):=Ext.drew' ((Ext.rfl' w13).alloc nL _);have HJx:=hide (fun w1 (hE:Ext w w1)=>HJN.out w1 hE x2 la hx2 HLA.out)
       rw [← hjv] at HJx;refine Qdd [0,1,2,4,5,6,7] 10 [3,8,9] [11] 11 (by kernel_rfl) (by kernel_rfl) (fun w'=>Ext w13 w') hSd ?_
       intro I _ f hf;have r1:∀ n_,(f n_).cell? ⟨g7,1,none⟩=some (.int .i64 (x2:Int)):=fun n_=>((hf n_).cell (p:=⟨g7,1,none⟩) HY13.out.lt).trans y1
       have r3:∀ n_,(f n_).cell? ⟨g13,3,none⟩=some (.int .i64 e.tgt):=fun n_=>((hf n_).cell (p:=⟨g13,3,none⟩) HU13.out.lt).trans u3
       have r4:∀ n_,(f n_).cell? ⟨g13,4,none⟩=some (.int .i64 (la:Int)):=fun n_=>((hf n_).cell (p:=⟨g13,4,none⟩) HU13.out.lt).trans u4
       clear hf y1 u1 u3 u4 hjv;simp only [opsAt,List.map_cons,List.map_nil,gA,gH,gS,Option.getD_some];repeat (go_big_quiet_step ((fail)))
       refine wpQuiet_nil ?_;clear r1 r3 r4;refine mixK_here rfl ?_ ?_
       ·refine seqK_plain rfl ?_;intro K1 hK1;go_simp;refine hK1 _ _ hSa ?_;refine seqK_plain rfl ?_;intro K2 hK2;go_simp;refine (HLAT.out _ hEa).mono ?_;rintro e' w' ⟨rfl,rfl⟩;refine hK2 _ _ hSa ?_;refine seqK_plain rfl ?_;intro K3 hK3;go_simp;refine (HJx.out _ hEa).mono ?_;rintro e' w' ⟨rfl,rfl⟩;refine hK3 _ _ hSa ?_;refine seqK_plain rfl ?_;intro K4 hK4;go_simp;refine hK4 _ _ hSa ?_;refine seqK_done ?_;go_wp2_with fail
        refine hKz _ _ ?_;go_meet
        exact ⟨w13.heap.size,rfl,Blk.new w13 _ _,Ext.drew' ((Ext.rfl' w13).alloc nL _)⟩
       ·intro K1 hK1;go_simp;refine (HLAT.out _ hEd).mono ?_;rintro e' w' ⟨rfl,rfl⟩;refine hK1 _ _ hSd ?_;refine mixK_here rfl ?_ ?_
        ·refine seqK_plain rfl ?_;intro K2 hK2;go_simp;refine hK2 _ _ hSa ?_;refine seqK_plain rfl ?_;intro K3 hK3;go_simp;refine (HJx.out _ hEa).mono ?_;rintro e' w' ⟨rfl,rfl⟩;refine hK3 _ _ hSa ?_;refine seqK_plain rfl ?_;intro K4 hK4;go_simp;refine hK4 _ _ hSa ?_;refine seqK_done ?_;go_wp2_with fail
         refine hKz _ _ ?_;go_meet
         exact ⟨w13.heap.size,rfl,Blk.new w13 _ _,Ext.drew' ((Ext.rfl' w13).alloc nL _)⟩
        ·intro K2 hK2;go_simp;refine (HJx.out _ hEd).mono ?_;rintro e' w' ⟨rfl,rfl⟩;refine hK2 _ _ hSd ?_;refine mixK_here rfl ?_ ?_
         ·refine seqK_plain rfl ?_;intro K3 hK3;go_simp;refine hK3 _ _ hSa ?_;refine seqK_plain rfl ?_;intro K4 hK4;go_simp;refine hK4 _ _ hSa ?_;refine seqK_done ?_;go_wp2_with fail
          refine hKz _ _ ?_;go_meet
          exact ⟨w13.heap.size,rfl,Blk.new w13 _ _,Ext.drew' ((Ext.rfl' w13).alloc nL _)⟩
         ·intro K3 hK3;go_simp;refine hK3 _ _ hSd ?_;refine mixK_done ?_;refine seqK_plain rfl ?_;intro K4 hK4;go_simp;refine hK4 _ _ hSa ?_;refine seqK_done ?_;go_wp2_with fail
          refine hKz _ _ ?_;go_meet
          exact ⟨w13.heap.size,rfl,Blk.new w13 _ _,Ext.drew' ((Ext.rfl' w13).alloc nL _)⟩
      case rest =>
       rename World=>w14
       obtain ⟨gy,rfl,hB14,hE14⟩:=hcut;obtain ⟨HS14,HM14⟩:=Z2 (HS13.out.grow hE14) (HM13.out.ext hE14);have hU14:=HU13.out.ext hE14;clear y1 u1 u3 u4;obtain ⟨-,u1⟩:=X2 hU14;obtain ⟨p0,p1⟩:=X2 hB14;obtain ⟨HU14,HB14⟩:=Z2 hU14 hB14;clear hU14 hB14 hE14 hjv HU13 HS13 HM13 HY13;cases heb:e.bare with
       | true =>
        rw [heb] at u1;have HNX:=hide (HPASS.out (.inl heb));clear heb;go_wp2_with fail
        go_roundw
        case rel=>exact ⟨q + 1,Q2,gq2,Aq2,n2,cq2,by omega,by go_num,rfl,HN2.out,HNX.out,HS14.out,HG2.out,HM14.out⟩
        case measure=>simp [intOf]; omega
       | false =>
        rw [heb] at u1;obtain ⟨tg,htg,htn⟩:=HOE.out.to_ heb;rw [← HNN.out] at htn;have hgo:goE s (x1,x2) e=(tg,jv):=by
         unfold goE;rw [htg,HLL.out,HJV.out];rfl
        have hjvn:jv < K:=by rw [HJV.out]; exact HJL.out x2 la hx2 HLA.out
        rw [htg] at p0;have hlook:=HS14.out.tab.look (tg,jv) (by dsimp only; omega) (by dsimp only; omega)
        dsimp only at hlook
        have HPASS2:=hide HPASS.out;rw [hgo] at HPASS2;have HPUSH2:=hide (HPUSH.out heb);rw [hgo] at HPUSH2;have hS1:(L ++ (x1,x2) :: Q2).length≤1000000:=by
         have h1:=HFEWM.out L Q2 (x1,x2) q HMD.out;rw [List.length_append,List.length_cons];omega
        clear hgo heb HPASS HPUSH;by_cases hin:(tg,jv) ∈ L ++ (x1,x2) :: Q2
        ·rw [if_pos hin] at hlook;have HNX:=hide (HPASS2.out (.inr hin));clear hin;go_wp2_with fail
         go_roundw
         case rel=>exact ⟨q + 1,Q2,gq2,Aq2,n2,cq2,by omega,by go_num,rfl,HN2.out,HNX.out,HS14.out,HG2.out,HM14.out⟩
         case measure=>simp [intOf]; omega
        ·rw [if_neg hin] at hlook;have HNX:=hide (HPUSH2.out hin);clear hin;go_upto_region 17 with fail
         refine wp_region_lit ?_;refine wpList_plain rfl fun K0 hK0=>?_
         go_simp;refine hK0 _ _ ?_;refine wpList_plain rfl fun K1 hK1=>?_
         go_simp;refine hK1 _ _ ?_;refine Qi8 rfl _ _ _ (.inl rfl) gm (L ++ (x1,x2) :: Q2) HS14.out.tab (tg,jv) (by dsimp only; omega) (by dsimp only; omega) hS1 rfl rfl rfl ?_
         intro w15 hM15 hg15;have hm15:Mv (fun k=>k=gm) w14 w15:=Mv.of_grown hg15 fun g e=>by injection e with e; exact e.symm
         obtain ⟨HS15,HM15⟩:=Z2 (HS14.out.put hM15 hg15) (HM14.out.trans (hm15.more fun i _ h=>.inl h))
         have hB15:Blk w15 gy 103 #[.int .i64 (tg:Int),.int .i64 (jv:Int)]:=by
          have h1:=hm15.blk HB14.out fun e=>HS14.out.tab.no_row HB14.out e.symm
          rw [htg] at h1;exact h1
         clear p0 p1 u1 hlook;obtain ⟨p0,p1⟩:=X2 hB15;clear hM15 hg15 hm15 hB15 hS1 HM14 HS14 HB14 HU14 htg;go_upto_region 18 with fail
         obtain ⟨w16,g16,hw16,hg16,Hw16,Hg16,hZ,hZE⟩:=T0 w15 103 #[.int .i64 (tg:Int),.int .i64 (jv:Int)];obtain ⟨HS16,HM16,HZ16⟩:=Z3 (HS15.out.grow hZE) (HM15.out.ext hZE) hZ;clear hw16 hg16 hZ hZE;refine wp_region_lit ?_;refine wpList_plain rfl fun K0 hK0=>?_
         go_simp;refine hK0 _ _ ?_;refine wpList_plain rfl fun K1 hK1=>?_
         go_simp;refine hK1 _ _ ?_;refine wpList_plain rfl fun K2 hK2=>?_
         go_simp;refine hK2 _ _ ?_;rw [← Hw16.out,← Hg16.out];clear p0 p1;have hn2b:n2≤1000000:=by
          have h1:=HFEWM.out L Q2 (x1,x2) q HMD.out;have h2:=HN2.out;omega
         refine Qi9 rfl _ _ rfl HS16.out.que rfl (tg,jv) g16 1 rfl HZ16.out hn2b ?_;intro A17 c17 g17 w17 hQ17 hg17 hn17;have HS17:=hide ((HS16.out.push hQ17 hg17 hn17).set_eq (S':=L ++ (x1,x2) :: (Q2 ++ [(tg,jv)])) (by simp) rfl)
         have hm17:Mv (fun k=>k=gq2) w16 w17:=Mv.of_grown hg17 fun g e=>by injection e with e; exact e.symm
         have HM17:=hide (HM16.out.trans' hm17 (fun i hi hx e=>by
          rcases HG2.out with h | h
          ·exact hx (.inr (e.trans h))
          ·omega))
         have HG17:=hide (show g17=gq∨w12.heap.size≤g17 from by
          rcases hn17 with h | h
          ·rw [h]; exact HG2.out
          ·right; have:=HM16.out.size; omega)
         have HN17:=hide (show n2 + 1=(Q2 ++ [(tg,jv)]).length by rw [List.length_append,HN2.out]; rfl)
         clear hQ17 hg17 hn17 hm17 hn2b HS16 HM16 HZ16 HS15 HM15;go_wp2_with fail
         go_roundw
         case rel=>exact ⟨q + 1,Q2 ++ [(tg,jv)],g17,A17,n2 + 1,c17,by omega,by go_num,rfl,HN17.out,HNX.out,HS17.out,HG17.out,HM17.out⟩
         case measure=>simp [intOf]; omega
     ·obtain rfl:q=q':=by omega
      have HVN:=hide (HMD.out.done (by rw [← HD.out]; exact Nat.le_of_eq HQ.out.symm))
      have hfw:=HFEWM.out L Q2 (x1,x2) q HMD.out;have HSN:=hide (HS2.out.set_eq (S':=(L ++ [(x1,x2)]) ++ Q2) (by simp) rfl)
      clear HMV HYr HDr;go_wp2_with fail
      go_roundg (gk - 1)
      case measure=>omega
      case rel=>exact ⟨L ++ [(x1,x2)],Q2,A10,C10,gq2,Aq2,n2,cq2,rfl,by rw [List.length_append,List.length_singleton]; omega,HN2.out,HVN.out,HSN.out⟩
def Qcq (m:Nat) (F:Nat→Nat→Bool) (n:Nat):Nat:=(List.range (n * m)).countP fun p=>F (p / m) (p % m)
theorem Quh (m:Nat) (F:Nat→Nat→Bool) (n:Nat):Qcq m F n≤n * m:=by
 unfold Qcq;exact Nat.le_trans List.countP_le_length (by simp)
theorem Qnu {α:Type} {p q:α→Bool} {l:List α} (h:∀ x ∈ l,p x=true→q x=true) {y:α} (hy:y ∈ l) (h1:p y=false) (h2:q y=true):l.countP p < l.countP q:=by
 induction l with
 | nil=>cases hy
 | cons x r ih =>
  have hle:r.countP p≤r.countP q:=List.countP_mono_left fun z hz=>h z (by simp [hz])
  rcases List.mem_cons.1 hy with e | e
  ·subst e;rw [List.countP_cons_of_neg (by simp [h1]),List.countP_cons_of_pos h2]
   omega
  ·have:=ih (fun z hz=>h z (by simp [hz])) e
   by_cases hx:p x=true
   ·rw [List.countP_cons_of_pos hx,List.countP_cons_of_pos (h x (by simp) hx)]; omega
   ·rw [List.countP_cons_of_neg hx];exact Nat.lt_of_lt_of_le this (by rw [List.countP_cons]; omega)
def upd2 (F:Nat→Nat→Bool) (i a:Nat):Nat→Nat→Bool:=fun x y=>if x=i∧y=a then true else F x y
theorem Qgv (F:Nat→Nat→Bool) (i a:Nat):upd2 F i a i a=true:=if_pos ⟨rfl,rfl⟩
theorem Qmk {F:Nat→Nat→Bool} {i a x y:Nat} (h:F x y=true):upd2 F i a x y=true:=by
 unfold upd2; split <;> simp [h]
theorem Qkh {F:Nat→Nat→Bool} {i a x y:Nat} (h:upd2 F i a x y=true):(x=i∧y=a)∨F x y=true:=by
 unfold upd2 at h; split at h
 ·exact .inl (by assumption)
 ·exact .inr h
theorem Qrv {m n:Nat} {F:Nat→Nat→Bool} {i a:Nat} (hi:i < n) (ha:a < m) (h:F i a=false):Qcq m F n < Qcq m (upd2 F i a) n:=by
 unfold Qcq;have e1:(i * m + a) / m=i:=by rw [Nat.mul_comm,Nat.mul_add_div (by omega),Nat.div_eq_of_lt ha,Nat.add_zero]
 have e2:(i * m + a) % m=a:=by rw [Nat.mul_comm,Nat.mul_add_mod,Nat.mod_eq_of_lt ha]
 refine Qnu (fun x _ hx=>Qmk hx) (y:=i * m + a) ?_ ?_ ?_
 ·rw [List.mem_range];have:(i + 1) * m≤n * m:=Nat.mul_le_mul_right m hi
  rw [Nat.succ_mul] at this;omega
 ·show F ((i * m + a) / m) ((i * m + a) % m)=false
  rw [e1,e2]; exact h
 ·show upd2 F i a ((i * m + a) / m) ((i * m + a) % m)=true
  rw [e1,e2]; exact Qgv F i a
def okF (s:Sch) (F:Nat→Nat→Bool) (i k a:Nat):Prop:=∀ (h:k < (nodeAtL s i).edges.length),(nodeAtL s i).edges[k].bare=false→F i a=true→F (goE s (i,a) (nodeAtL s i).edges[k]).1 (goE s (i,a) (nodeAtL s i).edges[k]).2=true
def CA (s:Sch) (F:Nat→Nat→Bool) (i k a:Nat):Prop:=∀ b,b < a→okF s F i k b
def CK (s:Sch) (F:Nat→Nat→Bool) (i k:Nat):Prop:=∀ j,j < k→CA s F i j s.ws.length
def CI (s:Sch) (F:Nat→Nat→Bool) (i:Nat):Prop:=∀ j,j < i→CK s F j (nodeAtL s j).edges.length
theorem CA.nil (s:Sch) (F:Nat→Nat→Bool) (i k:Nat):CA s F i k 0:=fun _ h=>absurd h (Nat.not_lt_zero _)
theorem CK.nil (s:Sch) (F:Nat→Nat→Bool) (i:Nat):CK s F i 0:=fun _ h=>absurd h (Nat.not_lt_zero _)
theorem CI.nil (s:Sch) (F:Nat→Nat→Bool):CI s F 0:=fun _ h=>absurd h (Nat.not_lt_zero _)
theorem CA.next {s:Sch} {F:Nat→Nat→Bool} {i k a:Nat} (h:CA s F i k a) (h1:okF s F i k a):CA s F i k (a + 1):=fun b hb=>by
 rcases Nat.lt_or_ge b a with h2 | h2
 ·exact h b h2
 ·obtain rfl:b=a:=by omega
  exact h1
theorem CK.next {s:Sch} {F:Nat→Nat→Bool} {i k:Nat} (h:CK s F i k) (h1:CA s F i k s.ws.length):CK s F i (k + 1):=fun b hb=>by
 rcases Nat.lt_or_ge b k with h2 | h2
 ·exact h b h2
 ·obtain rfl:b=k:=by omega
  exact h1
theorem CI.next {s:Sch} {F:Nat→Nat→Bool} {i:Nat} (h:CI s F i) (h1:CK s F i (nodeAtL s i).edges.length):CI s F (i + 1):=fun b hb=>by
 rcases Nat.lt_or_ge b i with h2 | h2
 ·exact h b h2
 ·obtain rfl:b=i:=by omega
  exact h1
theorem CA.bare {s:Sch} {F:Nat→Nat→Bool} {i k:Nat} (hk:k < (nodeAtL s i).edges.length) (h:(nodeAtL s i).edges[k].bare=true) (a:Nat):CA s F i k a:=fun _ _ _ hb=>by rw [h] at hb; cases hb
structure Rnd (s:Sch) (F0 F:Nat→Nat→Bool) (ch:Bool):Prop where
 root:F s.rootI (Qbi s)=true
 ok:∀ i a,F i a=true→Rch s (i,a)
 le:Qcq s.ws.length F0 s.nodes.length≤Qcq s.ws.length F s.nodes.length
 lt:ch=true→Qcq s.ws.length F0 s.nodes.length < Qcq s.ws.length F s.nodes.length
theorem Rnd.start {s:Sch} {F0 F:Nat→Nat→Bool} {ch:Bool} (h:Rnd s F0 F ch):Rnd s F F false:=⟨h.root,h.ok,Nat.le_refl _,fun h=>by cases h⟩
theorem Rnd.set {s:Sch} {F0 F:Nat→Nat→Bool} {ch:Bool} (h:Rnd s F0 F ch) (hg:s.Good) (hz:SchSz s) {i a k:Nat} (hk:k < (nodeAtL s i).edges.length) (hb:(nodeAtL s i).edges[k].bare=false) (hF:F i a=true) {i' a':Nat} (e1:(goE s (i,a) (nodeAtL s i).edges[k]).1=i') (e2:(goE s (i,a) (nodeAtL s i).edges[k]).2=a') (hn:F i' a'=false):Rnd s F0 (upd2 F i' a') true:=by
 have hr:Rch s (goE s (i,a) (nodeAtL s i).edges[k]):=.step (h.ok i a hF) (List.getElem_mem hk) hb;have hin:=hr.in_ hg hz;unfold inP at hin;rw [e1,e2] at hin;have hlt:=Qrv hin.1 hin.2 hn;refine ⟨Qmk h.root,fun x y hxy=>?_,Nat.le_trans h.le (Nat.le_of_lt hlt),fun _=>Nat.lt_of_le_of_lt h.le hlt⟩
 rcases Qkh hxy with ⟨rfl,rfl⟩ | hxy
 ·have e:goE s (i,a) (nodeAtL s i).edges[k]=(x,y):=Prod.ext e1 e2;rw [← e]; exact hr
 ·exact h.ok x y hxy
theorem Rnd.all {s:Sch} (hg:s.Good) (hz:SchSz s) {F0 F:Nat→Nat→Bool} {ch:Bool} (h:Rnd s F0 F ch) (hc:CI s F s.nodes.length) (i a:Nat):F i a=true↔Rch s (i,a):=by
 refine ⟨h.ok i a,fun hr=>?_⟩
 have key:∀ x,Rch s x→F x.1 x.2=true:=by
  intro x hx;induction hx with
  | root=>exact h.root
  | @step y e hy he hb ih =>
   have hin:=hy.in_ hg hz;obtain ⟨k,hk,rfl⟩:=List.getElem_of_mem he;exact hc y.1 hin.1 k hk y.2 hin.2 hk hb ih
 exact key _ hr
structure GridAt (w:World) (B gi N K:Nat) (r:Nat→Nat) (F:Nat→Nat→Bool):Prop where
 top:∃ cs:Array Value,Blk w gi 57 cs∧∀ i,i < N→cs[i]? = some (.slice (some ⟨r i,0,none⟩) K K)
 row:∀ i,i < N→∃ cs:Array Value,Blk w (r i) 4 cs∧cs.size=K∧∀ a,a < K→cs[a]? = some (.bool (F i a))
 apart:∀ i j,i < N→j < N→i≠j→r i≠r j
 lo:B≤gi∧∀ i,i < N→B≤r i
section
variable {w w':World} {B gi N K:Nat} {r:Nat→Nat} {F:Nat→Nat→Bool}
theorem GridAt.ext (h:GridAt w B gi N K r F) (hE:Ext w w'):GridAt w' B gi N K r F:=by
 obtain ⟨⟨cs,h1,h2⟩,h3,h4,h5⟩:=h;exact ⟨⟨cs,h1.ext hE,h2⟩,fun i hi=>by obtain ⟨cs,a1,a2⟩:=h3 i hi; exact ⟨cs,a1.ext hE,a2⟩,h4,h5⟩
theorem GridAt.cell (h:GridAt w B gi N K r F) {i:Nat} (hi:i < N):w.cell? ⟨gi,i,none⟩=some (.slice (some ⟨r i,0,none⟩) K K):=by
 obtain ⟨⟨cs,h1,h2⟩,h3,h4,h5⟩:=h;rw [h1.cell]; exact h2 i hi
theorem GridAt.bit (h:GridAt w B gi N K r F) {i a:Nat} (hi:i < N) (ha:a < K):w.cell? ⟨r i,a,none⟩=some (.bool (F i a)):=by
 obtain ⟨cs,h1,_,h2⟩:=h.row i hi;rw [h1.cell]; exact h2 a ha
theorem GridAt.free (h:GridAt w B gi N K r F) {i:Nat} (hi:i < N) (a:Nat):w.frozen? ⟨r i,a,none⟩=false:=by
 obtain ⟨cs,h1,_,h2⟩:=h.row i hi;exact h1.free a
theorem GridAt.lt (h:GridAt w B gi N K r F) {i:Nat} (hi:i < N):r i < w.heap.size:=by
 obtain ⟨cs,h1,_,h2⟩:=h.row i hi;exact h1.lt
theorem GridAt.top_lt (h:GridAt w B gi N K r F):gi < w.heap.size:=by
 obtain ⟨⟨cs,h1,h2⟩,_⟩:=h;exact h1.lt
theorem GridAt.set (h:GridAt w B gi N K r F) {i a:Nat} (hi:i < N) (ha:a < K):GridAt (w.setCell ⟨r i,a,none⟩ (.bool true)) B gi N K r (upd2 F i a):=by
 obtain ⟨⟨cs,h1,h2⟩,h3,h4,h5⟩:=h;have hne:gi≠r i:=by
  obtain ⟨c1,a1,_⟩:=h3 i hi;intro e;rw [← e] at a1;unfold Blk at h1 a1;rw [h1] at a1;injection a1 with a1
  injection a1 with _ e2
  exact absurd e2 (by decide)
 refine ⟨⟨cs,h1.far (by exact hne) _,h2⟩,fun j hj=>?_,h4,h5⟩
 obtain ⟨cj,a1,a2,a3⟩:=h3 j hj;by_cases e:j=i
 ·subst e;refine ⟨_,a1.set_ a _,by simpa using a2,fun b hb=>?_⟩
  rw [Array.getElem?_setIfInBounds];by_cases e2:a=b
  ·subst e2;rw [if_pos rfl,if_pos (by omega),Qgv]
  ·rw [if_neg e2,a3 b hb];unfold upd2;rw [if_neg (fun hh=>e2 hh.2.symm)]
 ·refine ⟨cj,a1.far (by exact h4 j i hj hi e) _,a2,fun b hb=>?_⟩
  rw [a3 b hb];unfold upd2;rw [if_neg (fun hh=>e hh.1)]
end
open Classical in
def ReachM (w:World) (A:Option Addr) (s:Sch):Prop :=
 ∃ g,A=some ⟨g,0,none⟩∧g < w.heap.size∧∀ i,i < s.nodes.length→∃ b,b < w.heap.size∧w.cell? ⟨g,i,none⟩=some (.slice (some ⟨b,0,none⟩) s.ws.length s.ws.length)∧∀ a,a < s.ws.length→w.cell? ⟨b,a,none⟩=some (.bool (decide (Rch s (i,a))))
open Classical in
theorem ReachM.of {w:World} {B gi N K:Nat} {r:Nat→Nat} {F:Nat→Nat→Bool} {s:Sch} (h:GridAt w B gi N K r F) (hN:N=s.nodes.length) (hK:K=s.ws.length) (hF:∀ i a,F i a=true↔Rch s (i,a)):ReachM w (some ⟨gi,0,none⟩) s:=by
 subst hN hK;refine ⟨gi,rfl,h.top_lt,fun i hi=>⟨r i,h.lt hi,h.cell hi,fun a ha=>?_⟩⟩
 rw [h.bit hi ha];congr 2
 cases hF':F i a with
 | true=>exact (decide_eq_true ((hF i a).1 hF')).symm
 | false=>exact (decide_eq_false (fun hr=>by rw [(hF i a).2 hr] at hF'; cases hF')).symm
def allTo (M:Nat→Nat→Bool) (a k:Nat):Bool:=(List.range k).all fun b=>M a b
theorem Qps (M:Nat→Nat→Bool) (a k:Nat):allTo M a (k + 1)=(allTo M a k && M a k):=by
 unfold allTo;rw [List.range_succ,List.all_append];simp
theorem allTo_iff {M:Nat→Nat→Bool} {a k:Nat} : allTo M a k=true↔∀ b,b < k→M a b=true:=by
 unfold allTo;rw [List.all_eq_true];exact ⟨fun h b hb=>h b (List.mem_range.2 hb),fun h b hb=>h b (List.mem_range.1 hb)⟩
theorem Qu1 {n:Nat} {M:Nat→Nat→Bool} (hl:LatM.Lat n M) {a:Nat} (ha:a < n) (h:allTo M a n=true):a=LatM.botN n M :=
 hl.po.anti _ _ ha (LatM.botN_lt hl) (allTo_iff.1 h _ (LatM.botN_lt hl)) (LatM.botN_bot hl ha)
set_option maxRecDepth 100000 in
theorem Qks (A:Option Addr) (cp n:Nat) (M:List (List Bool)) (w:World) (h:MatAt w w.heap.size A M) (hsq:∀ r ∈ M,r.length=M.length) (hn:n=M.length) (hl:n≤64) (hlat:LatM.Lat n (mat M)) :
  Calls Tryz.prog 15 #[.slice A n cp] w (fun e w'=>e = .returned (.int .i64 ((LatM.botN n (mat M):Nat):Int))∧w=w'):=by
 have hbn:=LatM.botN_lt hlat;obtain ⟨b0,o0,rfl,_,hrow⟩:=h.form hsq (by omega)
 rw [← hn] at hrow;obtain ⟨HROW,HBE⟩:=Z2 hrow (fun (a:Nat) (ha:a < n) (h:allTo (mat M) a n=true)=>Qu1 hlat ha h)
 have HBB:=hide (show allTo (mat M) (LatM.botN n (mat M)) n=true from allTo_iff.2 fun b hb=>LatM.botN_bot hlat hb)
 obtain ⟨bt,hbt⟩:=V1 (LatM.botN n (mat M));rw [← hbt] at HBE HBB hbn ⊢;clear hrow h hsq hn hlat hbt;go_enter Tryz.func15,Tryz.ntmps15
 go_wp2_with fail
 go_loop [3] (fun i=>∃ c:Nat,c≤n∧i = .int .i64 c∧Hid (∀ j,j < c→allTo (mat M) j n=false)) (fun i=>n - (intOf i).toNat)
 case atStart=>exact ⟨0,Nat.zero_le _,rfl,fun j hj=>absurd hj (by omega)⟩
 case round =>
  obtain ⟨c,hc,rfl,HA⟩:=hrel;by_cases hcn:c < n
  ·have i4:=nZ c;have i5:(c:Int) < (n:Int):=by omega
   obtain ⟨bc,oc,cc,fc,_,gc⟩:=HROW.out c hcn;have GC:=hide gc;clear gc;go_wp2_with fail
   go_loop [5,4] (fun i v=>∃ (d:Nat) (u:Bool),d≤n∧i = .int .i64 d∧v = .bool u∧Hid (u=allTo (mat M) c d)) (fun i _=>n - (intOf i).toNat)
   case atStart=>exact ⟨0,_,Nat.zero_le _,rfl,rfl,rfl⟩
   case round =>
    obtain ⟨d,u,hd,rfl,rfl,HU⟩:=hrel;by_cases hdn:d < n
    ·have i6:=nZ d;have i7:(d:Int) < (n:Int):=by omega
     have zc:=GC.out d hdn;have hs:=Qps (mat M) c d;obtain ⟨z1,hz1⟩:=V1 (mat M c d);rw [← hz1] at zc hs;have HS:=hide hs;clear hz1 hs;cases u with
     | false =>
      go_wp2_with fail
      go_round
      case rel=>exact ⟨d + 1,false,by omega,by go_num,rfl,(show false=allTo (mat M) c (d + 1) from by rw [HS.out,← HU.out]; rfl)⟩
      case measure=>simp [intOf]; omega
     | true =>
      go_wp2_with fail
      go_round
      case rel=>exact ⟨d + 1,z1,by omega,by go_num,rfl,(show z1=allTo (mat M) c (d + 1) from by rw [HS.out,← HU.out]; rfl)⟩
      case measure=>simp [intOf]; omega
    ·obtain rfl:d=n:=by omega
     cases u with
     | true =>
      have hb:=HBE.out c hcn HU.out.symm;subst hb;go_wp2_with fail
      go_ret
      exact ⟨rfl,rfl⟩
     | false =>
      have HB:=hide (below_step HA.out HU.out.symm);clear HA;go_wp2_with fail
      go_round
      case rel=>exact ⟨c + 1,by omega,by go_num,HB⟩
      case measure=>simp [intOf]; omega
  ·exact absurd HBB.out (by rw [HA.out bt (by omega)]; decide)
end Go.Proofs.YtanpljalbijfkaaGreat
