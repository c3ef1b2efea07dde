/- . -/
import Derived.Test.YtanpljalbijfkaaGreatQ01
import Derived.Test.YtanpljalbijfkaaGreatQ28
import Derived.Test.YtanpljalbijfkaaGreatQ29
import Derived.Test.YtanpljalbijfkaaGreatQ32
import Derived.Test.YtanpljalbijfkaaGreatQ34
import Derived.Deep.LoopGhost
import Derived.Deep.OwnRows
import Derived.ProofKit
import Derived.OpenShut
import Derived.ChangeOld
import Derived.Deep.Slices
import Derived.SizedLaws
namespace Go.Proofs.YtanpljalbijfkaaGreat
open Go.RowKit
set_option maxHeartbeats 16000000
def Qja (K r:Nat):Value:=.slice (some ⟨r,0,none⟩) K K
structure GMk (w0 w:World) (K:Nat) (A:Option Addr) (k c:Nat) (rs:List Nat):Prop where
 ext:Ext w0 w
 len:rs.length=k
 own:w.ownsRow w0.heap.size 57 1 (.slice A k c) k (rs.map (Qja K))
 row:∀ r ∈ rs,Blk w r 4 (madeCells #[.bool false] K)∧w0.heap.size≤r
 nodup:rs.Nodup
theorem GMk.nil (w:World) (K:Nat):GMk w w K none 0 0 []:=⟨Ext.rfl' w,rfl,World.ownsRow_nil _ _ _ _,fun r hr=>(by cases hr),List.nodup_nil⟩
theorem GMk.push {w0 w wX w':World} {K k c c':Nat} {A A':Option Addr} {rs:List Nat} (h:GMk w0 w K A k c rs) (hX:Ext w wX) {r:Nat} (hr:Blk wX r 4 (madeCells #[.bool false] K)) (hrw:w.heap.size≤r)
  (hO:w'.ownsRow w0.heap.size 57 1 (.slice A' (k + 1) c') (k + 1) (rs.map (Qja K) ++ [Qja K r])) (hg:wX.grownBy w' (Value.slice A k c).ownBlock):GMk w0 w' K A' (k + 1) c' (rs ++ [r]):=by
 have hm:Mv (fun j=>∃ a,A=some a∧j=a.block) wX w':=Mv.of_grown hg fun g e=>by
  cases hA:A with
  | none=>rw [hA] at e; cases e
  | some a=>rw [hA] at e; injection e with e; exact ⟨a,rfl,e.symm⟩
 have hne:∀ j,w.heap.size≤j∨(∃ cs,Blk w j 4 cs)→¬ ∃ a,A=some a∧j=a.block:=by
  rintro j hj ⟨a,hA,rfl⟩;rcases h.own.2 with ⟨hv,_⟩ | ⟨g,cap,cur,hv,_,hh,_⟩
  ·injection hv with h1; rw [hA] at h1; cases h1
  ·injection hv with h1
   rw [hA] at h1;injection h1 with h1
   subst h1;rcases hj with hj | ⟨cs,hB⟩
   ·have:=Blk.lt (cs:=cur) (t:=57) hh
    exact absurd hj (Nat.not_le.2 this)
   ·unfold Blk at hB;rw [hB] at hh;injection hh with hh
    injection hh with _ e
    exact absurd e (by decide)
 have hsz:=h.ext.size;refine ⟨(hm.below (h.ext.trans' hX) fun j hj=>?_),by rw [List.length_append,h.len]; rfl,by rw [List.map_append]; exact hO,fun x hx=>?_,?_⟩
 ·obtain ⟨a,hA,rfl⟩:=hj;exact own_base h.own a hA
 ·rcases List.mem_append.1 hx with hx | hx
  ·obtain ⟨h1,h2⟩:=h.row x hx;exact ⟨hm.blk (h1.ext hX) (hne x (.inr ⟨_,h1⟩)),h2⟩
  ·obtain rfl:x=r:=by simpa using hx
   exact ⟨hm.blk hr (hne x (.inl hrw)),Nat.le_trans hsz hrw⟩
 ·rw [List.nodup_append];refine ⟨h.nodup,by simp,fun a ha b hb=>?_⟩
  obtain rfl:b=r:=by simpa using hb
  rintro rfl;have:=(h.row a ha).1.lt
  omega
theorem GMk.grid {w0 w:World} {K N c:Nat} {A:Option Addr} {rs:List Nat} (h:GMk w0 w K A N c rs) (h0:0 < N):∃ gi,A=some ⟨gi,0,none⟩∧GridAt w w0.heap.size gi N K (fun i=>rs.getD i 0) (fun _ _=>false):=by
 rcases h.own.2 with ⟨hv,e⟩ | ⟨g,cap,cur,hv,hg,hh,hn,_,hc,ht⟩
 ·omega
 ·injection hv with h1 _ h3
  have hget:∀ i,(hi:i < N)→rs.getD i 0 ∈ rs:=fun i hi=>by
   have:i < rs.length:=by rw [h.len]; exact hi
   rw [List.getD_eq_getElem?_getD,List.getElem?_eq_getElem this];exact List.getElem_mem this
  refine ⟨g,h1,⟨cur,hh,fun i hi=>?_⟩,fun i hi=>⟨_,(h.row _ (hget i hi)).1,size_madeCells _ _,fun a ha=>?_⟩,fun i j hi hj hij e=>hij ?_,hg,fun i hi=>(h.row _ (hget i hi)).2⟩
  ·have hil:i < rs.length:=by rw [h.len]; exact hi
   have:(cur.toList.take (N * 1))[i]? = some (Qja K (rs.getD i 0)):=by
    rw [ht,List.getElem?_map,List.getElem?_eq_getElem hil,List.getD_eq_getElem?_getD,List.getElem?_eq_getElem hil];rfl
   rw [List.getElem?_take_of_lt (by omega),Array.getElem?_toList] at this
   exact this
  ·rw [← Array.getElem?_toList,toList_madeCells_one,List.getElem?_replicate,if_pos ha]
  ·have hil:i < rs.length:=by rw [h.len]; exact hi
   have hjl:j < rs.length:=by rw [h.len]; exact hj
   rw [List.getD_eq_getElem?_getD,List.getElem?_eq_getElem hil,List.getD_eq_getElem?_getD,List.getElem?_eq_getElem hjl] at e;have hp:=List.pairwise_iff_getElem.1 h.nodup;rcases Nat.lt_trichotomy i j with hij' | hij' | hij'
   ·exact absurd e (hp i j hil hjl hij')
   ·exact hij'
   ·exact absurd e.symm (hp j i hjl hil hij')
theorem Qui:∃ i,Tryz.prog.info? 57=some i∧i.zero=some (.slice none 0 0)∧i.size=1∧i.bytes=24 :=
 info_parts (by kernel_rfl)
theorem Qtp (s:Sch):Rnd s (upd2 (fun _ _=>false) s.rootI (Qbi s)) (upd2 (fun _ _=>false) s.rootI (Qbi s)) false :=
 ⟨Qgv _ _ _,fun i a h=>(by
  rcases Qkh h with ⟨rfl,rfl⟩ | h
  ·exact .root
  ·cases h),Nat.le_refl _,fun h=>by cases h⟩
set_option maxRecDepth 100000 in
theorem Qpt (s:Sch) (us:List Value) (w:World) (h:DPlan w s us) (hg:s.Good) (hz:SchSz s):Calls Tryz.prog 17 #[.agg us.toArray] w (fun e w'=>(∃ A c,e = .returned (.slice A s.nodes.length c)∧ReachM w' A s)∧Ext w w'):=by
 obtain ⟨A1,c1,Aq,cq,Al,c,rfl,hM,hNd⟩:=h.open_;have h512:=Qc7 hg.fine;have hlf:=hg.lat.few;have hR1:=Qg1 hg;have hB1:=Qg2 hg;have hN0:0 < s.nodes.length:=Nat.lt_of_le_of_lt (Nat.zero_le _) hR1;obtain ⟨bn,on,rfl,hbn,hnod⟩:=hNd.form hN0;have HNOD:=hide hnod;have HBOT:=hide (fun w1 (hE:Ext w w1)=>(show Calls Tryz.prog 15 #[.slice Aq s.ws.length cq] w1 (fun e w'=>e = .returned (.int .i64 (Qbi s:Nat))∧w1=w') from by
  have:=Qks Aq cq s.ws.length (leads s.ws.length (prs s.ws s.os)) w1 (MatAt.ext' hM hE) (Qdx _ _) (by rw [leads_length]) (by omega) hg.lat.lat
  have e:LatM.botN s.ws.length (mat (leads s.ws.length (prs s.ws s.os)))=Qbi s:=rfl;rw [e] at this;exact this))
 have HJ:=hide (fun w1 (hE:Ext w w1) (a b:Nat) (ha:a < s.ws.length) (hb:b < s.ws.length)=>(show Calls Tryz.prog 45 #[.slice Aq s.ws.length cq,.int .i64 (a:Int),.int .i64 (b:Int)] w1 (fun e w'=>e = .returned (.int .i64 (jnS s a b:Nat))∧w1=w') from by
  have:=refJoin_any Aq cq s.ws.length (leads s.ws.length (prs s.ws s.os)) a b w1 (MatAt.ext' hM hE) (Qdx _ _) (by rw [leads_length]) (by omega) ha hb
  have e:=(LatM.jn_eq hg.lat.lat ha hb).1;have e':LatM.joinL s.ws.length (mat (leads s.ws.length (prs s.ws s.os))) a b=(jnS s a b:Nat):=e;rw [e'] at this;exact this))
 obtain ⟨HOK,HJL,HSET,HALL,HCN,HR0,HPOST⟩:=Z7 (fun (k:Nat) (hk:k < s.nodes.length)=>(show NodeOk s (nodeAtL s k) by rw [Qam hk]; exact Qbu hg hz hk)) (fun (a l:Nat) (ha:a < s.ws.length) (hl:l < s.ws.length)=>(Qgm hg ha hl:jnS s a l < s.ws.length)) (fun (F0 F:Nat→Nat→Bool) (ch:Bool) (h:Rnd s F0 F ch) i a k hk hb hF i' a' e1 e2 hn=>h.set hg hz (i:=i) (a:=a) (k:=k) hk hb hF (i':=i') (a':=a') e1 e2 hn) (fun (F0 F:Nat→Nat→Bool) (ch:Bool) (h:Rnd s F0 F ch) (hc:CI s F s.nodes.length)=>h.all hg hz hc) (fun F=>Quh s.ws.length F s.nodes.length) (Qtp s) (fun (A:Option Addr) (c:Nat) (w':World) (h1:ReachM w' A s) (h2:Ext w w')=>(show (∃ A' c',Ending.returned (.slice A s.nodes.length c) = .returned (.slice A' s.nodes.length c')∧ReachM w' A' s)∧Ext w w' from ⟨⟨A,c,rfl,h1⟩,h2⟩))
 obtain ⟨N,hN,K,hK⟩:=V2 (s.nodes.length) (s.ws.length);obtain ⟨HNN,HKK⟩:=Z2 hN hK;rw [← hN] at HNOD HOK HALL HCN hR1 hN0 h512 HPOST;rw [← hK] at HBOT HJ HJL HCN hB1 hlf;obtain ⟨RI,hRI,BI,hBI⟩:=V2 (s.rootI) (Qbi s);rw [← hRI] at hR1 HR0;rw [← hBI] at HBOT hB1 HR0;rw [← hN,← hK,← hRI];have hmk:=fun w1=>run_make_row' (P:=Tryz.prog) 57 4 (.bool false) 1 Tryz.underlying57 (by kernel_rfl) rfl .i64 .i64 K (by omega) (by omega) w1
 obtain ⟨POST,hPOST⟩:∃ P:Ending→World→Prop,P=fun e w'=>(∃ A c,e = .returned (.slice A N c)∧ReachM w' A s)∧Ext w w':=⟨_,rfl⟩
 have HPOST2:=hide (fun (A:Option Addr) (c:Nat) (w':World) (h1:ReachM w' A s) (h2:Ext w w')=>(show POST (.returned (.slice A N c)) w' by rw [hPOST]; exact HPOST.out A c w' h1 h2))
 rw [← hPOST];have hNi:=nZ N;have hRI0:=nZ RI;have hRI1:(RI:Int) < (N:Int):=by omega
 have hBI0:=nZ BI;have hBI1:(BI:Int) < (K:Int):=by omega
 clear hPOST HPOST hN hK hRI hBI h hg hz hM hNd hnod;show Calls Tryz.prog 17 #[.agg #[.slice A1 K c1,.slice Aq K cq,.slice (some ⟨bn,on,none⟩) N c,.int .i64 (RI:Int)]] w (fun e w'=>POST e w')
 obtain ⟨w1,g1,hw1,hg1,Hw1,Hg1,hV,hVE⟩:=T0 w 45 #[.slice A1 K c1,.slice Aq K cq,.slice (some ⟨bn,on,none⟩) N c,.int .i64 (RI:Int)];obtain ⟨HE1,HV1⟩:=Z2 hVE hV;clear hw1 hg1 hV hVE;go_enter Tryz.func17,Tryz.ntmps17
 go_upto_region 1 with fail
 rw [← Hw1.out,← Hg1.out];go_wp2_with fail
 go_loopw [3,4] (fun v i wr=>∃ (k:Nat) (A:Option Addr) (ca:Nat) (rs:List Nat),k≤N∧i = .int .i64 (k:Int)∧v = .slice A k ca∧Hid (GMk w1 wr K A k ca rs)) (fun _ i _=>N - (intOf i).toNat)
 case atStart=>exact ⟨0,none,0,[],Nat.zero_le _,rfl,rfl,GMk.nil w1 K⟩
 case round =>
  obtain ⟨k,A,ca,rs,hk,rfl,rfl,HG⟩:=hrel;have hVr:=HV1.out.ext HG.out.ext;obtain ⟨-,s1,s2⟩:=X3 hVr;clear hVr;by_cases hlt:k < N
  ·obtain ⟨w2,hw2,g2,hg2⟩:=V2 (wr.alloc (.cells (madeCells #[.bool false] K) 4)) (wr.heap.size);have hB:Blk w2 g2 4 (madeCells #[.bool false] K):=by rw [hw2,hg2]; exact Blk.new _ _ _
   have hBE:Ext wr w2:=by rw [hw2]; exact (Ext.rfl' wr).alloc nL _
   obtain ⟨Hw2,Hg2⟩:=Z2 hw2 hg2;obtain ⟨w3,g3,hw3,hg3,Hw3,Hg3,hC,hCE⟩:=T0 w2 57 #[.slice (some ⟨g2,0,none⟩) K K];obtain ⟨HB3,HE3⟩:=Z2 (hB.ext hCE) (hBE.trans' hCE);have HR3:=hide (show Reads w3 (g3 + 1) 1 (some ⟨g3,0,none⟩) 1 [.slice (some ⟨g2,0,none⟩) K K] by rw [hw3]; exact reads_at w2 _ _ g3 hg3)
   have hb3:w1.heap.size≤w3.heap.size:=by have:=HG.out.ext.size; have:=HE3.out.size; omega
   have hgle:wr.heap.size≤g2:=by omega
   clear hw2 hg2 hw3 hg3 hB hBE hC hCE;go_upto_region 5 with fail
   refine wp_region_lit ?_;refine wpList_plain rfl fun K0 hK0=>?_
   go_simp;refine hK0 _ _ ?_;refine wpList_plain rfl fun K1 hK1=>?_
   go_simp;refine hK1 _ _ ?_;refine wpList_plain rfl fun K2 hK2=>?_
   go_simp;refine hK2 _ _ ?_;refine wpList_plain rfl fun K3 hK3=>?_
   go_simp;refine hK3 _ _ ?_;refine wpList_plain rfl fun K4 hK4=>?_
   go_simp;refine hK4 _ _ ?_;rw [← Hw2.out,← Hg2.out];refine wpList_plain rfl fun K0 hK0=>?_
   go_simp;refine hK0 _ _ ?_;rw [← Hw3.out,← Hg3.out];obtain ⟨i0,hi,hz0,hs2,hb⟩:=Qui;refine Qcc w3 rfl _ _ 42 rfl w1.heap.size 57 i0 _ 24 Tryz.underlying42 hi hz0 hs2 hb rfl _ k (rs.map (Qja K)) rfl g3 (.slice (some ⟨g2,0,none⟩) K K) _ rfl rfl (by omega) (by decide) (own_ext HG.out.own HE3.out) HR3.out hb3 ?_
   intro A' c' w4 hO4 hg4 _;have HG4:=hide (HG.out.push HE3.out HB3.out hgle hO4 hg4);clear hO4 hg4 hi hz0 hs2 hb s1 s2;go_wp2_with fail
   go_roundw
   case rel=>exact ⟨k + 1,A',c',rs ++ [g2],by omega,by go_num,rfl,HG4.out⟩
   case measure=>simp [intOf]; omega
  ·obtain rfl:N=k:=by omega
   obtain ⟨gi,rfl,hGr⟩:=HG.out.grid hN0;obtain ⟨r,hr⟩:∃ r,r=fun i=>rs.getD i 0:=⟨_,rfl⟩
   rw [← hr] at hGr;have HGr:=hide hGr;have hEr:=hide HG.out.ext;have HVr:=hide (HV1.out.ext HG.out.ext);clear hr hGr HG hmk;have hV1:=HVr.out;obtain ⟨-,s1,-,s3⟩:=X4 hV1;clear hV1;go_upto_region 6 with fail
   rename_i Kz hKz
   have HBx:=hide (fun w1 (hE:Ext wr w1)=>HBOT.out w1 ((HE1.out.trans' hEr).trans' hE))
   refine Qaq [0,1,2,3,4,5,6] [7] [8] [] [9] 9 (by kernel_rfl) (by kernel_rfl) (fun w'=>Ext wr w') (Ext.drew' (Ext.rfl' wr)) ?_
   intro I _ f hf;have r1:∀ n_,(f n_).cell? ⟨g1,1,none⟩=some (.slice Aq K cq):=fun n_=>((hf n_).cell (p:=⟨g1,1,none⟩) HVr.out.lt).trans s1
   have r3:∀ n_,(f n_).cell? ⟨g1,3,none⟩=some (.int .i64 (RI:Int)):=fun n_=>((hf n_).cell (p:=⟨g1,3,none⟩) HVr.out.lt).trans s3
   have r4:∀ n_,(f n_).cell? ⟨gi,RI,none⟩=some (.slice (some ⟨r RI,0,none⟩) K K):=fun n_=>(HGr.out.ext (hf n_)).cell hR1
   obtain ⟨ri,hri⟩:=V1 (r RI);rw [← hri] at r4;have HRI:=hide hri;clear hf s1 s3 hri;simp only [opsAt,List.map_cons,List.map_nil,gA,gH,gS,Option.getD_some];repeat (go_big_quiet_step ((fail)))
   refine wpQuiet_nil ?_;refine seqK_plain rfl ?_;intro K1 hK1;go_simp;refine (HBx.out _ (Ext.drew' (Ext.rfl' wr))).mono ?_;rintro e' w' ⟨rfl,rfl⟩;refine hK1 _ _ (Ext.drew' (Ext.rfl' wr)) ?_;refine seqK_done ?_;repeat (go_big_quiet_step ((fail)))
   refine wpQuiet_nil ?_;refine seqK_done ?_;clear r1 r3 r4;have HGd:=hide (HGr.out.ext (Ext.drew' (Ext.rfl' wr)));have b0:=HGd.out.bit hR1 hB1;have b1:=HGd.out.free hR1 BI;rw [← HRI.out] at b0 b1;have hG2:=HGd.out.set hR1 hB1;rw [← HRI.out] at hG2;have hloR:=HGr.out.lo.2 RI hR1;rw [← HRI.out] at hloR;have HEs:=hide (show Ext w1 ((wr.drew).setCell ⟨ri,BI,none⟩ (.bool true)) from (Ext.drew' hEr).setCell (p:=⟨ri,BI,none⟩) hloR _)
   have HG2:=hide hG2;clear hG2 hloR;go_wp2_with fail
   refine hKz _ ((wr.drew).setCell ⟨ri,BI,none⟩ (.bool true)) ?_;obtain ⟨w5,hw5⟩:=V1 ((wr.drew).setCell ⟨ri,BI,none⟩ (.bool true));rw [← hw5] at HEs HG2 ⊢;clear hw5 b0 b1 HGd HGr hEr HVr HBx;obtain ⟨F1,hF1⟩:=V1 (upd2 (fun _ _=>false) RI BI)
   rw [← hF1] at HR0 HG2;clear hF1;obtain ⟨NK,hNK⟩:=V1 (N * K);rw [← hNK] at HCN;have hcn0:0≤NK:=Nat.zero_le _;clear hNK;go_wp2_with fail
   go_loopg [5] (NK - Qcq K F1 N + 1) (fun gk v wx=>∃ (ch:Bool) (F:Nat→Nat→Bool),v = .bool ch∧Hid (NK - Qcq K F N + (if ch=true then 1 else 0)≤gk)∧Hid (Rnd s F F false)∧Hid (ch=false→CI s F N)∧Hid (GridAt wx w1.heap.size gi N K r F)∧Hid (Ext w1 wx))
   case atStart=>exact ⟨true,F1,rfl,Nat.le_refl _,HR0.out,fun h=>(by cases h),HG2.out,HEs.out⟩
   case round =>
    obtain ⟨ch,F0,rfl,HGK,HRD,HCI,HGX,HEX⟩:=hrel;clear HR0 HG2 HEs;cases ch with
    | false =>
     obtain ⟨HFIN,HEf⟩:=Z2 (ReachM.of HGX.out HNN.out HKK.out (HALL.out F0 F0 false HRD.out (HCI.out rfl))) (HE1.out.trans' HEX.out);clear HGX HEX;go_wp2_with fail
     exact HPOST2.out _ _ _ HFIN.out HEf.out
    | true =>
     clear HCI;go_wp2_with fail
     go_loopw [6,5] (fun i v wx=>∃ (a:Nat) (ch:Bool) (F:Nat→Nat→Bool),a≤N∧i = .int .i64 (a:Int)∧v = .bool ch∧Hid (Rnd s F0 F ch)∧Hid (ch=false→CI s F a)∧Hid (GridAt wx w1.heap.size gi N K r F)∧Hid (Ext w1 wx)) (fun i _ _=>N - (intOf i).toNat)
     case atStart=>exact ⟨0,false,F0,Nat.zero_le _,rfl,rfl,HRD.out,fun _=>CI.nil s F0,HGX.out,HEX.out⟩
     case round =>
      clear HGX HEX;obtain ⟨a,ch,F,ha,rfl,rfl,HRN,HC,HGX,HEX⟩:=hrel;have hVx:=HV1.out.ext HEX.out;obtain ⟨-,-,s2⟩:=X3 hVx;clear hVx;by_cases hlt:a < N
      ·obtain ⟨An,cn,Ae,ce,h7,_,hX⟩:=HNOD.out a hlt;have hokd:=HOK.out a hlt;obtain ⟨d,hd⟩:=V1 (nodeAtL s a);rw [← hd] at h7 hX hokd;have hqd:d.edges.length≤64:=hokd.few;obtain ⟨q',hq'⟩:=V1 (d.edges.length);have HN6:=hide (fun w2 (hE:Ext w1 w2)=>(show w2.cell? ⟨bn,on + a * 7 + 6,none⟩=some (.slice Ae q' ce) from ((HE1.out.trans' hE).cell (p:=⟨bn,on + a * 7 + 6,none⟩) hbn).trans (by rw [hq']; exact h7 6 _ rfl)))
       rw [← hq'] at hqd;obtain ⟨HQ,HD,HDK,HXX⟩:=Z4 hq' hd hokd hX;have a0:=nZ a;have a1:(a:Int) < (N:Int):=by omega
       have hq0:=nZ q';clear h7 hX hokd hd hq';go_wp2_with fail
       clear s2;go_loopw [7,5] (fun i v wx=>∃ (k:Nat) (ch:Bool) (F:Nat→Nat→Bool),k≤q'∧i = .int .i64 (k:Int)∧v = .bool ch∧Hid (Rnd s F0 F ch)∧Hid (ch=false→CI s F a∧CK s F a k)∧Hid (GridAt wx w1.heap.size gi N K r F)∧Hid (Ext w1 wx)) (fun i _ _=>q' - (intOf i).toNat)
       case atStart=>exact ⟨0,ch,F,Nat.zero_le _,rfl,rfl,HRN.out,fun h=>⟨HC.out h,CK.nil s F a⟩,HGX.out,HEX.out⟩
       case round =>
        clear HGX HEX HRN HC;obtain ⟨k,ch,F,hk,rfl,rfl,HRN,HC,HGX,HEX⟩:=hrel;have hVx:=HV1.out.ext HEX.out;obtain ⟨-,-,s2⟩:=X3 hVx;have n6:=HN6.out wr HEX.out;clear hVx;by_cases hlt2:k < q'
        ·have hqd2:k < d.edges.length:=by have:=HQ.out; omega
         obtain ⟨b2,o2,rfl,hb2,hc2⟩:=HXX.out.cell (by omega)
         have h10:=hc2 k hqd2;have hoe:=HDK.out.edge k hqd2;obtain ⟨e,he⟩:=V1 (d.edges[k]);have he2:∀ h,(nodeAtL s a).edges[k]'h=e:=by
          intro h;rw [he];simp only [HD.out]
         have hkl:k < (nodeAtL s a).edges.length:=by rw [← HD.out]; exact hqd2
         obtain ⟨HBARE,HOKF,HST⟩:=Z3 (fun (F:Nat→Nat→Bool) (h:e.bare=true)=>CA.bare (s:=s) (F:=F) hkl (by rw [he2]; exact h) s.ws.length) (fun (F:Nat→Nat→Bool) (b:Nat) (h2:F a b=true→F (goE s (a,b) e).1 (goE s (a,b) e).2=true)=>(show okF s F a k b from fun hh _ hf=>by rw [he2]; exact h2 hf)) (fun (F:Nat→Nat→Bool) (ch:Bool) (h:Rnd s F0 F ch) (b:Nat) (hb:e.bare=false) (hF:F a b=true) (i' a':Nat) (e1:(goE s (a,b) e).1=i') (e2:(goE s (a,b) e).2=a') (hn:F i' a'=false)=>HSET.out F0 F ch h a b k hkl (by rw [he2]; exact hb) hF i' a' (by rw [he2]; exact e1) (by rw [he2]; exact e2) hn)
         rw [← he] at h10 hoe;have HRG:=hide (show wr.rangeAt b2 (o2 + k * 10) [.string e.name,.bool e.bare,.int .i64 e.at_,.int .i64 e.tgt,.int .i64 e.label,.int .i64 e.wide,.int .i64 e.coarse,.int .i64 e.n,.int .i64 e.seen,.int .i64 e.cat] from fun j v hv=>((HE1.out.trans' HEX.out).cell (p:=⟨b2,o2 + k * 10 + j,none⟩) hb2).trans (h10 j v hv))
         have HOE:=hide hoe;have k0:=nZ k;have k1:(k:Int) < (q':Int):=by omega
         clear hc2 h10 hoe he2 he hb2 hqd2 hkl;obtain ⟨w6,g6,hw6,hg6,Hw6,Hg6,hU,hUE⟩:=T0 wr 95 #[.string e.name,.bool e.bare,.int .i64 e.at_,.int .i64 e.tgt,.int .i64 e.label,.int .i64 e.wide,.int .i64 e.coarse,.int .i64 e.n,.int .i64 e.seen,.int .i64 e.cat];obtain ⟨HGX6,HEX6,HU6⟩:=Z3 (HGX.out.ext hUE) (HEX.out.trans' hUE) hU;clear hw6 hg6 hU hUE;go_upto_region 16 with fail
         refine wp_region_lit ?_;refine wpList_plain rfl fun K0 hK0=>?_
         go_simp;refine hK0 _ _ ?_;refine wpList_plain rfl fun K1 hK1=>?_
         go_simp;refine hK1 _ _ ?_;refine wpList_plain rfl fun K2 hK2=>?_
         go_simp;refine hK2 _ _ ?_;refine wpList_plain rfl fun K3 hK3=>?_
         go_simp;refine hK3 _ _ ?_;refine wpList_plain rfl fun K4 hK4=>?_
         go_simp;refine hK4 _ _ ?_;refine wpList_plain rfl fun K5 hK5=>?_
         go_simp;refine hK5 _ _ ?_;refine wpList_plain rfl fun K6 hK6=>?_
         go_simp;refine hK6 _ _ ?_;refine wpList_plain rfl fun K7 hK7=>?_
         go_simp;refine hK7 _ _ ?_;refine wpList_load_mid rfl 95 _ rfl b2 (o2 + k * 10) rfl _ _ HRG.out Tryz.underlying95 rfl Qma ?_;refine wpList_plain rfl fun K0 hK0=>?_
         go_simp;refine hK0 _ _ ?_;refine Qc rfl 95 _ _ rfl _ #[.string e.name,.bool e.bare,.int .i64 e.at_,.int .i64 e.tgt,.int .i64 e.label,.int .i64 e.wide,.int .i64 e.coarse,.int .i64 e.n,.int .i64 e.seen,.int .i64 e.cat] rfl rfl Qma rfl (by simp [Value.oneCell']) ?_
         go_upto_region 17 with fail
         rw [← Hw6.out,← Hg6.out];clear s2 n6;go_wp2_with fail
         obtain ⟨la,hla,hlan⟩:=HOE.out.lab;rw [← HKK.out] at hlan;have HLA:=hide hla;have hl0:=nZ la;have hl1:(la:Int) < (K:Int):=by omega
         clear hla;go_loopw [9,5] (fun i v wx=>∃ (b:Nat) (ch:Bool) (F:Nat→Nat→Bool),b≤K∧i = .int .i64 (b:Int)∧v = .bool ch∧Hid (Rnd s F0 F ch)∧Hid (ch=false→CI s F a∧CK s F a k∧CA s F a k b)∧Hid (GridAt wx w1.heap.size gi N K r F)∧Hid (Blk wx g6 95 #[.string e.name,.bool e.bare,.int .i64 e.at_,.int .i64 e.tgt,.int .i64 e.label,.int .i64 e.wide,.int .i64 e.coarse,.int .i64 e.n,.int .i64 e.seen,.int .i64 e.cat])∧Hid (Ext w1 wx)) (fun i _ _=>K - (intOf i).toNat)
         case atStart=>exact ⟨0,ch,F,Nat.zero_le _,rfl,rfl,HRN.out,fun h=>⟨(HC.out h).1,(HC.out h).2,CA.nil s F a k⟩,HGX6.out,HU6.out,HEX6.out⟩
         case round =>
          clear HGX6 HEX6 HRN HC HGX HEX;obtain ⟨b,ch,F,hb,rfl,rfl,HRN,HC,HGX,HUX,HEX⟩:=hrel;have hVx:=HV1.out.ext HEX.out;obtain ⟨-,s1⟩:=X2 hVx;have hUX:=HUX.out;obtain ⟨-,u1,-,u3,u4⟩:=X5 hUX;clear hVx hUX;by_cases hlt3:b < K
          ·rcases Bool.eq_false_or_eq_true e.bare with heb | heb
           ·skip
            rw [heb] at u1;have HBK:=hide (HBARE.out F heb);have HCN2:=hide (fun h:ch=false=>(show CI s F a∧CK s F a (k + 1) from ⟨(HC.out h).1,(HC.out h).2.1.next HBK.out⟩))
            clear heb;go_wp2_with fail
            go_roundw
            case rel=>exact ⟨k + 1,ch,F,by omega,by go_num,rfl,HRN.out,HCN2.out,HGX.out,HEX.out⟩
            case measure=>simp [intOf]; omega
           ·skip
            rw [heb] at u1;obtain ⟨tg,htg,htn⟩:=HOE.out.to_ heb;rw [← HNN.out] at htn;have HTG:=hide htg;rw [htg] at u3;rw [HLA.out] at u4;have HEB:=hide heb;have b0:=nZ b;have b1:(b:Int) < (K:Int):=by omega
            have t0:=nZ tg;have t1:(tg:Int) < (N:Int):=by omega
            have g1a:=HGX.out.cell hlt;have g2a:=HGX.out.bit hlt hlt3;obtain ⟨ra,hra⟩:=V1 (r a);rw [← hra] at g1a g2a;have hlb:la < s.ws.length:=by rw [← HKK.out]; exact hlan
            obtain ⟨jv,hjv⟩:=V1 (jnS s b la);have hgo1:(goE s (a,b) e).1=tg:=by unfold goE; rw [HTG.out]; rfl
            have hgo2:(goE s (a,b) e).2=jv:=by unfold goE; rw [HLA.out,hjv]; rfl
            obtain ⟨HG1,HG2⟩:=Z2 hgo1 hgo2;have hjK:jv < K:=by rw [hjv]; exact HJL.out b la hlt3 hlan
            have HJx:=hide (fun w2 (hE:Ext w1 w2)=>HJ.out w2 (HE1.out.trans' hE) b la hlt3 hlan)
            rw [← hjv] at HJx;have HFV:=hide (show ∀ v,F a b=v→F a b=v from fun _ h=>h)
            clear heb htg hra hjv hgo1 hgo2 hlb;rcases (Bool.eq_false_or_eq_true (F a b)).symm with hfab | hfab
            ·skip
             rw [hfab] at g2a;have HOKN:=hide (fun h:ch=false=>(show CI s F a∧CK s F a k∧CA s F a k (b + 1) from ⟨(HC.out h).1,(HC.out h).2.1,(HC.out h).2.2.next (HOKF.out F b (fun h2=>by rw [hfab] at h2; cases h2))⟩))
             clear hfab;go_wp2_with fail
             go_roundw
             case rel=>exact ⟨b + 1,ch,F,by omega,by go_num,rfl,HRN.out,HOKN.out,HGX.out,HUX.out,HEX.out⟩
             case measure=>simp [intOf]; omega
            ·skip
             rw [hfab] at g2a;have HFAB:=hide hfab;have g3a:=HGX.out.cell htn;have g4a:=HGX.out.bit htn hjK;have g5a:=HGX.out.free htn jv;obtain ⟨rt,hrt⟩:=V1 (r tg);rw [← hrt] at g3a g4a g5a;have HRT:=hide hrt;have j0:=nZ jv;have j1:(jv:Int) < (K:Int):=by omega
             clear hfab hrt;rcases Bool.eq_false_or_eq_true (F tg jv) with hft | hft
             ·skip
              rw [hft] at g4a;have HOKN:=hide (fun h:ch=false=>(show CI s F a∧CK s F a k∧CA s F a k (b + 1) from ⟨(HC.out h).1,(HC.out h).2.1,(HC.out h).2.2.next (HOKF.out F b (fun _=>by rw [HG1.out,HG2.out]; exact hft))⟩))
              clear hft;go_wp2_with fail
              with_reducible refine (HJx.out wr HEX.out).mono ?_
              rintro e' w' ⟨rfl,rfl⟩;go_wp2_with fail
              go_roundw
              case rel=>exact ⟨b + 1,ch,F,by omega,by go_num,rfl,HRN.out,HOKN.out,HGX.out,HUX.out,HEX.out⟩
              case measure=>simp [intOf]; omega
             ·skip
              rw [hft] at g4a;have HRN2:=hide (HST.out F ch HRN.out b HEB.out HFAB.out tg jv HG1.out HG2.out hft);have hset:=HGX.out.set htn hjK;rw [← HRT.out] at hset;have HGX2:=hide hset;have hlo:=HGX.out.lo.2 tg htn;rw [← HRT.out] at hlo;have hgr:g6≠rt:=by
               obtain ⟨cs,hB,_⟩:=HGX.out.row tg htn;rw [← HRT.out] at hB;intro h;have h1:=HUX.out;rw [h] at h1;unfold Blk at h1 hB;rw [hB] at h1;injection h1 with h1
               injection h1 with _ h1
               exact absurd h1 (by decide)
              obtain ⟨HUX2,HEX2⟩:=Z2 (HUX.out.far (p:=⟨rt,jv,none⟩) hgr (.bool true)) (HEX.out.setCell (p:=⟨rt,jv,none⟩) hlo (.bool true));clear hft hset hgr hlo;go_wp2_with fail
              with_reducible refine (HJx.out wr HEX.out).mono ?_
              rintro e' w' ⟨rfl,rfl⟩;go_wp2_with fail
              go_roundw
              case rel=>exact ⟨b + 1,true,upd2 F tg jv,by omega,by go_num,rfl,HRN2.out,fun h=>(by cases h),HGX2.out,HUX2.out,HEX2.out⟩
              case measure=>simp [intOf]; omega
          ·obtain rfl:K=b:=by omega
           have HCN2:=hide (fun h:ch=false=>(show CI s F a∧CK s F a (k + 1) from ⟨(HC.out h).1,(HC.out h).2.1.next (by rw [← HKK.out]; exact (HC.out h).2.2)⟩))
           clear u3 u4;go_wp2_with fail
           go_roundw
           case rel=>exact ⟨k + 1,ch,F,by omega,by go_num,rfl,HRN.out,HCN2.out,HGX.out,HEX.out⟩
           case measure=>simp [intOf]; omega
        ·obtain rfl:q'=k:=by omega
         have HCN2:=hide (fun h:ch=false=>(show CI s F (a + 1) from (HC.out h).1.next (by have:=(HC.out h).2; rw [HQ.out,HD.out] at this; exact this)))
         go_wp2_with fail
         go_roundw
         case rel=>exact ⟨a + 1,ch,F,by omega,by go_num,rfl,HRN.out,HCN2.out,HGX.out,HEX.out⟩
         case measure=>simp [intOf]; omega
      ·obtain rfl:N=a:=by omega
       have HMS:=hide (show NK - Qcq K F N + (if ch=true then 1 else 0) < gk from by
        have h1:NK - Qcq K F0 N + 1≤gk:=by simpa using HGK.out
        have h2:=HRN.out.le;have h3:=HRN.out.lt;rw [← HKK.out,← HNN.out] at h2 h3;have h4:=HCN.out F;cases ch with
        | true=>have h5:=h3 rfl; rw [if_pos rfl]; omega
        | false=>rw [if_neg (by decide)]; omega)
       have HRF:=hide HRN.out.start;go_wp2_with fail
       go_roundg (NK - Qcq K F N + (if ch=true then 1 else 0))
       case measure=>exact HMS.out
       case rel=>exact ⟨ch,F,rfl,Nat.le_refl _,HRF.out,HC.out,HGX.out,HEX.out⟩
end Go.Proofs.YtanpljalbijfkaaGreat
namespace Go.Proofs.YtanpljalbijfkaaGreat
open Go.RowKit
set_option maxHeartbeats 16000000
open Classical in
theorem Qve {p:Prop} (h:p):decide p=true:=decide_eq_true h
open Classical in
theorem Qvf {p:Prop} (h:¬ p):decide p=false:=decide_eq_false h
open Classical in
noncomputable def rcnt (s:Sch) (i k:Nat):Nat:=((List.range k).filter fun a=>decide (Rch s (i,a))).length
open Classical in
theorem Qrw (s:Sch) (i k:Nat):rcnt s i (k + 1)=rcnt s i k + (if Rch s (i,k) then 1 else 0):=by
 unfold rcnt;rw [List.range_succ,List.filter_append,List.length_append];by_cases h:Rch s (i,k)
 ·simp [h]
 ·simp [h]
theorem Qrx (s:Sch) (i:Nat):(reachL s i).length≤s.ws.length:=by
 unfold reachL;exact Nat.le_trans (List.length_filter_le _ _) (by simp)
theorem Qml (s:Sch) (i:Nat):rcnt s i s.ws.length=(reachL s i).length:=rfl
open Classical in
theorem Quj (s:Sch) (i:Nat) {k:Nat} (hk:k≤s.ws.length):rcnt s i k≤(reachL s i).length:=by
 rw [← Qml];unfold rcnt;have e:s.ws.length=k + (s.ws.length - k):=by omega
 rw [e,List.range_add,List.filter_append,List.length_append];omega
open Classical in
theorem Quk {s:Sch} {i k:Nat} (hk:k < s.ws.length) (h:Rch s (i,k)):(reachL s i)[rcnt s i k]? = some k:=by
 unfold reachL rcnt;have e:s.ws.length=k + (s.ws.length - k):=by omega
 obtain ⟨m,hm⟩:∃ m,s.ws.length - k=m + 1:=⟨s.ws.length - k - 1,by omega⟩
 rw [e,List.range_add,List.filter_append,hm,List.getElem?_append_right nL,Nat.sub_self,List.range_succ_eq_map,List.map_cons,List.filter_cons_of_pos (by simpa using h)]
 rfl
set_option maxRecDepth 100000 in
theorem Qjl (s:Sch) (w:World) (vs:List Value) (hS:SchAt w s vs) (hz:SchSz s):Calls Tryz.prog 5 #[.agg vs.toArray] w (fun e w'=>e = .returned (.bool true)∧Ext w w'):=by
 obtain ⟨HLV,HRN,HGD,HRC,HDR,HK64⟩:=Z6 Qmb Qmi (fun (hf:Qbe s=true)=>(Qca hz hf).2) (fun gp w1 (h:PlanAt w1 gp s) (hf:Qbe s=true)=>Qmj gp s w1 h (Qca hz hf).1 hz) (fun us w1 (h:DPlan w1 s us) (hf:Qbe s=true)=>Qpt s us w1 h (Qca hz hf).1 hz) (fun (hf:Qbe s=true)=>(show s.ws.length≤32∧s.nodes.length≤512 from ⟨(Qca hz hf).1.lat.few,Qc7 (Qca hz hf).1.fine⟩))
 have hfn:=fun w1 (hE:Ext w w1)=>Qns s vs w1 (hS.ext hE) hz
 have hbd:=fun w1 (hE:Ext w w1)=>Qi2 s vs w1 (hS.ext hE) hz
 have hdb:=fun w1 (hE:Ext w w1) (hf:Qbe s=true)=>Qpp s vs w1 (hS.ext hE) hz (Qca hz hf).1 (Qnr (Qpq hf))
 obtain ⟨A1,c1,A2,c2,A3,c3,vr,rfl,hA1,hA2,hA3,hR⟩:=hS;obtain ⟨y0,y1,y2,y3,y4,y5,y6,y7,y8,rfl⟩:∃ y0 y1 y2 y3 y4 y5 y6 y7 y8:Value,vr = [y0,y1,y2,y3,y4,y5,y6,y7,y8]:=by obtain ⟨y0,y1,y2,y3,y4,y5,y6,y7,y8,e⟩:=hR.nine; exact ⟨y0,y1,y2,y3,y4,y5,y6,y7,y8,e⟩
 obtain ⟨nw,hnw,no,hno,n,hn⟩:=V3 (s.ws.length) (s.os.length) (s.n);rw [← hnw,← hno,← hn] at hfn hbd hdb ⊢;have HFN:=hide (show ∀ w1,Ext w w1→Calls Tryz.prog 8 #[.agg #[.slice A1 nw c1,.slice A2 no c2,.slice A3 n c3,y0,y1,y2,y3,y4,y5,y6,y7,y8]] w1 (fun e w'=>e = .returned (.bool (Qbe s))∧Ext w1 w') from hfn)
 have HBD:=hide (show ∀ w1,Ext w w1→Calls Tryz.prog 10 #[.agg #[.slice A1 nw c1,.slice A2 no c2,.slice A3 n c3,y0,y1,y2,y3,y4,y5,y6,y7,y8]] w1 (Qdo s w1) from hbd)
 have HDB:=hide (show ∀ w1,Ext w w1→Qbe s=true→Calls Tryz.prog 12 #[.agg #[.slice A1 nw c1,.slice A2 no c2,.slice A3 n c3,y0,y1,y2,y3,y4,y5,y6,y7,y8]] w1 (fun e w'=>∃ us,e = .returned (.agg us.toArray)∧DPlan w' s us∧Ext w1 w') from hdb)
 show Calls Tryz.prog 5 #[.agg #[.slice A1 nw c1,.slice A2 no c2,.slice A3 n c3,y0,y1,y2,y3,y4,y5,y6,y7,y8]] w (fun e w'=>e = .returned (.bool true)∧Ext w w')
 obtain ⟨FB,hFB⟩:=V1 (Qbe s);rw [← hFB] at HFN HDB HRC HDR HGD HK64;clear hFB hfn hbd hdb hz hA1 hA2 hA3 hR hnw hno hn;unfold Qdo fltV at HBD;obtain ⟨w1,g1,hw1,hg1,Hw1,Hg1,hB,hBE⟩:=T0 w 31 #[.slice A1 nw c1,.slice A2 no c2,.slice A3 n c3,y0,y1,y2,y3,y4,y5,y6,y7,y8];obtain ⟨HE1,HB1⟩:=Z2 hBE hB;obtain ⟨v0,v1,v2,v3,v4,v5,v6,v7,v8,v9,v10,v11⟩:=X12 hB;clear hw1 hg1 hB hBE;go_enter Tryz.func5,Tryz.ntmps5
 go_upto_region 1 with fail
 rw [← Hw1.out,← Hg1.out];go_wp2_with fail
 refine (HFN.out w1 HE1.out).mono ?_;rintro e w3 ⟨rfl,hE3⟩;obtain ⟨HE3,HB3⟩:=Z2 (HE1.out.trans' hE3) (HB1.out.ext hE3);clear hE3 v0 v1 v2 v3 v4 v5 v6 v7 v8 v9 v10 v11;have lives_end:∀ w5,Ext w w5→Calls Tryz.prog 9 #[] w5 (fun e w'=>e = .returned (.bool true)∧Ext w w'):=fun w5 hE=>(HLV.out w5).mono fun e w' ⟨h1,h2⟩=>⟨h1,hE.trans' h2⟩
 have HLE:=hide lives_end;clear lives_end;cases FB with
 | false =>
  go_wp2_with fail
  refine (HLE.out w3 HE3.out).mono ?_;rintro e w4 ⟨rfl,hE4⟩;have HE4:=hide hE4;clear hE4;go_wp2_with fail
  go_ret
  exact ⟨rfl,HE4.out⟩
 | true =>
  have hB3:=HB3.out;obtain ⟨v0,v1,v2,v3,v4,v5,v6,v7,v8,v9,v10,v11⟩:=X12 hB3;clear hB3;go_wp2_with fail
  refine (HBD.out w3 HE3.out).mono ?_;rintro e w4 (⟨hne,_⟩ | ⟨_,gp,rfl,hP4,hE4⟩)
  ·exact absurd (HGD.out (by trivial)) hne
  clear v0 v1 v2 v3 v4 v5 v6 v7 v8 v9 v10 v11;obtain ⟨w5,g5,hw5,hg5,Hw5,Hg5,hF,hFE⟩:=T0 w4 34 #[.int .i64 0,.int .i64 0];obtain ⟨HE5,HP5,HB5⟩:=Z3 ((HE3.out.trans' hE4).trans' hFE) (hP4.ext hFE) ((HB3.out.ext hE4).ext hFE);clear hw5 hg5 hF hFE hE4 hP4;go_upto_region 4 with fail
  rw [← Hw5.out];go_wp2_with fail
  refine (HRC.out gp w5 HP5.out (by trivial)).mono ?_
  rintro e w6 ⟨⟨A6,c6,rfl,hR6⟩,hE6⟩;obtain ⟨HE6,HB6,HR6⟩:=Z3 (HE5.out.trans' hE6) (HB5.out.ext hE6) hR6;have hB6:=HB6.out;obtain ⟨v0,v1,v2,v3,v4,v5,v6,v7,v8,v9,v10,v11⟩:=X12 hB6;clear hB6 hE6 hR6;go_wp2_with fail
  refine (HDB.out w6 HE6.out (by trivial)).mono ?_
  rintro e w7 ⟨us,rfl,hD7,hE7⟩;clear v0 v1 v2 v3 v4 v5 v6 v7 v8 v9 v10 v11;obtain ⟨HD7,HE7,HR7⟩:=Z3 hD7 (HE6.out.trans' hE7) (HR6.out.ext hE7);clear hD7 hE7;go_wp2_with fail
  refine (HDR.out us w7 HD7.out (by trivial)).mono ?_
  rintro e w8 ⟨⟨A8,c8,rfl,hM8⟩,hE8⟩;obtain ⟨HE8,HR8,HM8⟩:=Z3 (HE7.out.trans' hE8) (HR7.out.ext hE8) hM8;clear hE8 hM8;have hk64:=HK64.out (by trivial)
  obtain ⟨HRS,HRA,HRL,HRM,HRX⟩:=Z5 (fun i k hk=>Quj s i (k:=k) hk) (fun i k hk h=>Quk (s:=s) (i:=i) (k:=k) hk h) (fun i=>Qml s i) (fun i=>Qrx s i) (fun i k=>Qrw s i k)
  obtain ⟨K,hK,N,hN⟩:=V2 (s.ws.length) (s.nodes.length);rw [← hK] at HRS HRA HRL HRM hk64;rw [← hN] at hk64 ⊢;obtain ⟨g6,rfl,hg6,hc6⟩:=HR8.out;obtain ⟨g8,rfl,hg8,hc8⟩:=HM8.out;rw [← hN] at hc6 hc8;rw [← hK] at hc8;obtain ⟨hK32,hN512⟩:=hk64;obtain ⟨HC6,HC8⟩:=Z2 hc6 hc8;have hN0:=nZ N;have hK0:=nZ K;clear hK hN hc6 hc8;go_upto_region 6 with fail
  go_wp2_with fail
  refine (HRN.out w8).mono ?_;rintro e w9 ⟨rfl,hE9⟩;obtain ⟨HE9,HE89⟩:=Z2 (HE8.out.trans' hE9) hE9;clear hE9;go_wp2_with fail
  go_loopw [7] (fun i wr=>∃ k:Nat,k≤N∧i = .int .i64 (k:Int)∧w9=wr) (fun i _=>N - (intOf i).toNat)
  case atStart=>exact ⟨0,Nat.zero_le _,rfl,rfl⟩
  case round =>
   obtain ⟨i,hi,rfl,rfl⟩:=hrel;by_cases hlt:i < N
   ·obtain ⟨Ai,ci,h1,h2⟩:=HC6.out i hlt;obtain ⟨bi,hbi,h3,h4⟩:=HC8.out i hlt;have p1:=(HE89.out.cell (p:=⟨g6,i,none⟩) hg6).trans h1;have p2:=(HE89.out.cell (p:=⟨g8,i,none⟩) hg8).trans h3;obtain ⟨HNA,HBI,HRSi⟩:=Z3 (h2.ext HE89.out) (fun a (ha:a < K)=>(HE89.out.cell (p:=⟨bi,a,none⟩) hbi).trans (h4 a ha)) (fun k hk=>HRS.out i k hk)
    obtain ⟨m,hm⟩:=V1 ((reachL s i).length);rw [← hm] at p1 HRSi;have HM:=hide hm;have hm32:m≤32:=by have:=HRM.out i; omega
    have i0:=nZ i;have i1:(i:Int) < (N:Int):=by omega
    clear h1 h2 h3 h4 hm;go_wp2_with fail
    go_loopw [9,8] (fun a t wr=>∃ (k:Nat) (q:Nat),k≤K∧a = .int .i64 (k:Int)∧t = .int .i64 (q:Int)∧Hid (q=rcnt s i k)∧w9=wr) (fun a _ _=>K - (intOf a).toNat)
    case atStart=>exact ⟨0,0,Nat.zero_le _,rfl,rfl,rfl,rfl⟩
    case round =>
     obtain ⟨k,q,hk,rfl,rfl,HQ,rfl⟩:=hrel;by_cases hlt2:k < K
     ·have p3:=HBI.out k hlt2;have j0:=nZ k;have j1:(k:Int) < (K:Int):=by omega
      have hnx:=HRX.out i k;by_cases hr:Rch s (i,k)
      ·rw [Qve hr] at p3;rw [if_pos hr] at hnx;have hat:=HRA.out i k hlt2 hr;rw [← HQ.out] at hat hnx;have hqm:q < m:=by rw [HM.out]; exact (List.getElem?_eq_some_iff.1 hat).1
       have HNX:=hide hnx.symm;obtain ⟨b,o,rfl,hb,hc⟩:=HNA.out.form (by rw [← HM.out]; omega) (by decide)
       have p4:=hc q (.int .i64 (k:Int)) (by unfold natCells; rw [List.getElem?_map,hat]; rfl)
       have q0:=nZ q;have q1:(q:Int) < (m:Int):=by omega
       have q2:¬ (m:Int)≤(q:Int):=by omega
       clear hc hat hnx hr hb;go_wp2_with fail
       go_roundw
       case rel=>exact ⟨k + 1,q + 1,by omega,by go_num,by go_num,HNX.out,by first | rfl | trivial⟩
       case measure=>simp [intOf]; omega
      ·rw [Qvf hr] at p3;rw [if_neg hr,Nat.add_zero,← HQ.out] at hnx;have HNX:=hide hnx.symm;clear hnx hr;go_wp2_with fail
       go_roundw
       case rel=>exact ⟨k + 1,q,by omega,by go_num,rfl,HNX.out,by first | rfl | trivial⟩
       case measure=>simp [intOf]; omega
     ·obtain rfl:K=k:=by omega
      have hqm:q=m:=by rw [HQ.out,HM.out]; exact HRL.out i
      have e:((q:Int) != (m:Int))=false:=by rw [hqm]; simp
      clear hqm;go_wp2_with fail
      go_roundw
      case rel=>exact ⟨i + 1,by omega,by go_num,by first | rfl | trivial⟩
      case measure=>simp [intOf]; omega
   ·obtain rfl:N=i:=by omega
    go_wp2_with fail
    refine (HLE.out _ HE9.out).mono ?_;rintro e w10 ⟨rfl,hE10⟩;have HE10:=hide hE10;clear hE10;go_wp2_with fail
    go_ret
    exact ⟨rfl,HE10.out⟩
end Go.Proofs.YtanpljalbijfkaaGreat
namespace Go.Proofs.YtanpljalbijfkaaGreat
open Go.ChangeShapes Go.WideShapes Go.ChangeAt Go.RowKit Go.Deep
set_option maxHeartbeats 16000000
theorem Tryz.own:ownKnob Tryz.prog.godebug=none:=by kernel_rfl
theorem Tryz.laidOut:laidOutB Tryz.prog=true:=by kernel_rfl
def WOk {H:Type} (t:TypeId) (d:DataW H):Prop:=∀ n ∈ d.weights Tryz.prog t,n≤reachBytes
theorem WOk.part {H:Type} {t:TypeId} {fs:Array Field} {parts:List (DataW H)} (hu:Tryz.prog.underlying t=some (.struct fs)) (h:WOk t (.agg parts)) {j:Nat} {tj:TypeId} {d:DataW H} (ht:(fs.toList.map (·.type))[j]? = some tj) (hd:parts[j]? = some d):WOk tj d:=by
 intro n hn;refine h n ?_;simp only [DataW.weights,hu];exact DataW.weights_mem_each ht hd n hn
theorem weightsAll_mem {H:Type} {e:TypeId} {l:List (DataW H)} {d:DataW H} (hd:d ∈ l) {n:Nat} (hn:n ∈ d.weights Tryz.prog e):n ∈ DataW.weightsAll Tryz.prog e l:=by
 induction l with
 | nil=>cases hd
 | cons x r ih =>
  simp only [DataW.weightsAll,List.mem_append];rcases List.mem_cons.1 hd with rfl | hd
  ·exact .inl hn
  ·exact .inr (ih hd)
theorem WOk.elem {H:Type} {t e:TypeId} {elems spare:List (DataW H)} (hu:Tryz.prog.underlying t=some (.slice e)) (h:WOk t (.slice elems spare)) {d:DataW H} (hd:d ∈ elems):WOk e d:=by
 intro n hn;refine h n ?_;simp only [DataW.weights,hu,List.mem_cons,List.mem_append];exact .inr (.inl (weightsAll_mem hd hn))
theorem WOk.len {H:Type} {t e:TypeId} {elems spare:List (DataW H)} (hu:Tryz.prog.underlying t=some (.slice e)) (h:WOk t (.slice elems spare)):(elems.length + spare.length) * Tryz.prog.bytesOf e≤reachBytes:=by
 refine h _ ?_;simp [DataW.weights,hu]
instance:Inhabited Ty:=⟨.nil⟩
instance:Inhabited PtH:=⟨⟨wd0,false,[],0,0,0,0,[]⟩⟩
section
variable {H:Type} {enc:TypeId × Value→H} {W:World} {base:Nat} {spare:Nat→Bool} {held:Bool}
theorem Qu2 {α:Type} {l:List α} (h:l.length=2):∃ a b,l = [a,b]:=by
 match l,h with
 | [a,b],_=>exact ⟨a,b,rfl⟩
theorem Qob {α:Type} {l:List α} (h:l.length=4):∃ a b c d,l = [a,b,c,d]:=by
 match l,h with
 | [a,b,c,d],_=>exact ⟨a,b,c,d,rfl⟩
theorem Qul {α:Type} {l:List α} (h:l.length=9):∃ a0 a1 a2 a3 a4 a5 a6 a7 a8,l = [a0,a1,a2,a3,a4,a5,a6,a7,a8]:=by
 match l,h with
 | [a0,a1,a2,a3,a4,a5,a6,a7,a8],_=>exact ⟨a0,a1,a2,a3,a4,a5,a6,a7,a8,rfl⟩
theorem Qbv {α:Type} {l:List α} {n m:Nat} (h:l.length=n + m):∃ a b,l=a ++ b∧a.length=n∧b.length=m :=
 ⟨l.take n,l.drop n,(List.take_append_drop n l).symm,by rw [List.length_take]; omega,by rw [List.length_drop]; omega⟩
set_option maxRecDepth 100000 in
theorem Qcb {fuel:Nat} {cs:List Value} {x:DataW H × List MemPlace} (h:DataW.trod enc Tryz.prog W base spare held fuel 27 cs=some x):∃ p:Wd,cs = [.string p.1,.int .i64 p.2]∧p.1.size≤maxLen:=by
 obtain ⟨xs,m,_,_,hl,hxl,hx⟩:=DataW.trod_struct Tryz.underlying27 h;have h2:Tryz.prog.cellsOf 27=2:=by kernel_rfl
 have h1:Tryz.prog.cellsOf 9=1:=by kernel_rfl
 have h3:Tryz.prog.cellsOf 3=1:=by kernel_rfl
 have hl':cs.length=2:=hl.trans h2;clear hl h2;obtain ⟨u,v,rfl⟩:=Qu2 hl';have e0:DataW.trod enc Tryz.prog W base spare held m 9 (List.take (Tryz.prog.cellsOf 9) (List.drop 0 [u,v]))=xs[0]?:=hx 0 _ rfl;have e1:DataW.trod enc Tryz.prog W base spare held m 3 (List.take (Tryz.prog.cellsOf 3) (List.drop 1 [u,v]))=xs[1]?:=hx 1 _ rfl;have hxl':xs.length=2:=hxl;obtain ⟨x0,hx0⟩:∃ x0,xs[0]? = some x0:=⟨_,List.getElem?_eq_getElem (by omega)⟩
 obtain ⟨x1,hx1⟩:∃ x1,xs[1]? = some x1:=⟨_,List.getElem?_eq_getElem (by omega)⟩
 generalize Tryz.prog.cellsOf 9=k at e0 h1
 generalize Tryz.prog.cellsOf 3=k' at e1 h3
 subst h1 h3;obtain ⟨s,ha,_,hw⟩:=DataW.trod_string Tryz.underlying9 (e0.trans hx0);obtain ⟨b,hb,_,_⟩:=DataW.trod_int Tryz.underlying3 (e1.trans hx1);simp at ha hb
 exact ⟨(s,b),by rw [ha,hb],hw⟩
theorem Qmm {n k j:Nat} (_hk:0 < k) (h:j < n * k):j / k < n:=Nat.div_lt_of_lt_mul (by rw [Nat.mul_comm]; exact h)
set_option maxRecDepth 100000 in
theorem Qdq {fuel:Nat} {cs:List Value} {x:DataW H × List MemPlace} (h:DataW.trod enc Tryz.prog W base spare held fuel 22 cs=some x) (hw:WOk 22 x.1) :
  ∃ (a:Option Addr) (c:Nat) (ws:List Wd),cs = [.slice a ws.length c]∧WdsAt W W.heap.size a ws∧Qi ws:=by
 have h2:Tryz.prog.cellsOf 27=2:=by kernel_rfl
 have hby:Tryz.prog.bytesOf 27=24:=by kernel_rfl
 rcases open_slice Tryz.underlying22 h with ⟨hcs,_⟩ | ⟨a,len,cap,m,n,D,Pl,hcs,_,hlc,hm,hmm,hd,hx⟩
 ·exact ⟨none,0,[],hcs,Reads.none_,by simp,by intro i; simp [wNm,wd0,maxLen,ByteArray.size]⟩
 ·have hlm:len≤m:=by rw [hmm]; split <;> omega
  have hlen:len≤5864062014634:=by
   rw [hd] at hw;have:=hw.len Tryz.underlying22
   rw [hby,List.length_map,List.length_range] at this;unfold reachBytes at this;omega
  rw [h2] at hx;have hex:∀ i,i < len→∃ q:Wd,(W.cell? (a.add (i * 2))=some (.string q.1)∧W.cell? (a.add (i * 2 + 1))=some (.int .i64 q.2))∧q.1.size≤maxLen:=by
   intro i hi;obtain ⟨cs,hc,ht⟩:=hx i (by omega)
   obtain ⟨q,rfl,hq⟩:=Qcb ht;obtain ⟨_,_,hat⟩:=World.cells?_some hc;have c0:=hat 0 (by omega)
   have c1:=hat 1 (by omega)
   rw [add_add] at c0 c1;exact ⟨q,⟨by simpa using c0,by simpa using c1⟩,hq⟩
  obtain ⟨f,hf'⟩:=choose_lt (α:=Wd) hex;have hat:∀ i,i < len→wNm ((List.range len).map f) i=(f i).1∧wPl ((List.range len).map f) i=(f i).2:=fun i hi=>by
   simp [wNm,wPl,List.getD_eq_getElem?_getD,List.getElem?_map,List.getElem?_range hi]
  refine ⟨some a,cap,(List.range len).map f,by rw [hcs]; simp,⟨by rw [Qew],fun hn=>⟨a,rfl,?_,fun j u hu=>?_⟩⟩,by simpa using hlen,fun i=>?_⟩
  ·have c0:=(hf' 0 (by simpa using hn)).1.1
   simp only [Nat.zero_mul] at c0;have:=World.block_lt_of_cell? W _ c0
   simpa [Addr.add] using this
  ·have hj:j < len * 2:=by
    have:=(List.getElem?_eq_some_iff.1 hu).1
    rw [Qew] at this;simpa using this
   have hk:=Qmm (by omega) hj
   have hg:=Qeq ((List.range len).map f) (j / 2) (by simpa using hk)
   rw [(hat _ hk).1,(hat _ hk).2] at hg;have hh:=(hf' _ hk).1;rcases Nat.mod_two_eq_zero_or_one j with e | e
   ·have ej:j=j / 2 * 2:=by omega
    rw [ej] at hu ⊢;rw [hg.1] at hu;rw [hh.1,← hu]
   ·have ej:j=j / 2 * 2 + 1:=by omega
    rw [ej] at hu ⊢;rw [hg.2] at hu;rw [hh.2,← hu]
  ·by_cases hi':i < len
   ·rw [(hat i hi').1]; exact (hf' i hi').2
   ·have:wNm ((List.range len).map f) i=⟨#[]⟩:=by
     simp [wNm,wd0,List.getD_eq_getElem?_getD,List.getElem?_eq_none (show (List.range len).length≤i by simpa using hi')]
    rw [this]; simp [maxLen,ByteArray.size]
theorem Qdf {l a b c:List Value} {n k:Nat} (h:l=a ++ (b ++ c)) (hn:a.length=n) (hk:b.length=k):List.take k (List.drop n l)=b:=by
 subst h;subst hn;subst hk;rw [List.drop_left,List.take_left]
set_option maxRecDepth 100000 in
theorem Qnv {fuel:Nat} {cs:List Value} {x:DataW H × List MemPlace} (h:DataW.trod enc Tryz.prog W base spare held fuel 129 cs=some x) (hw:WOk 129 x.1) :
  ∃ (k n a:Int) (A:Option Addr) (c:Nat) (ws:List Wd),cs = [.int .i64 k,.int .i64 n,.int .i64 a,.slice A ws.length c]∧WdsAt W W.heap.size A ws∧Qi ws:=by
 obtain ⟨xs,m,_,hx1,hl,hxl,hx⟩:=DataW.trod_struct Tryz.underlying129 h;have h2:Tryz.prog.cellsOf 129=4:=by kernel_rfl
 have h1:Tryz.prog.cellsOf 3=1:=by kernel_rfl
 have h3:Tryz.prog.cellsOf 22=1:=by kernel_rfl
 have hl':cs.length=4:=hl.trans h2;clear hl h2;obtain ⟨u0,u1,u2,u3,rfl⟩:=Qob hl';have e0:DataW.trod enc Tryz.prog W base spare held m 3 (List.take (Tryz.prog.cellsOf 3) (List.drop 0 [u0,u1,u2,u3]))=xs[0]?:=hx 0 _ rfl;have e1:DataW.trod enc Tryz.prog W base spare held m 3 (List.take (Tryz.prog.cellsOf 3) (List.drop 1 [u0,u1,u2,u3]))=xs[1]?:=hx 1 _ rfl;have e2:DataW.trod enc Tryz.prog W base spare held m 3 (List.take (Tryz.prog.cellsOf 3) (List.drop 2 [u0,u1,u2,u3]))=xs[2]?:=hx 2 _ rfl;have e3:DataW.trod enc Tryz.prog W base spare held m 22 (List.take (Tryz.prog.cellsOf 22) (List.drop 3 [u0,u1,u2,u3]))=xs[3]?:=hx 3 _ rfl;have hxl':xs.length=4:=hxl;obtain ⟨x0,hx0⟩:∃ x0,xs[0]? = some x0:=⟨_,List.getElem?_eq_getElem (by omega)⟩
 obtain ⟨x1,hx1'⟩:∃ x1,xs[1]? = some x1:=⟨_,List.getElem?_eq_getElem (by omega)⟩
 obtain ⟨x2,hx2⟩:∃ x2,xs[2]? = some x2:=⟨_,List.getElem?_eq_getElem (by omega)⟩
 obtain ⟨x3,hx3⟩:∃ x3,xs[3]? = some x3:=⟨_,List.getElem?_eq_getElem (by omega)⟩
 have hw3:WOk 22 x3.1:=by
  rw [hx1] at hw;exact hw.part (j:=3) Tryz.underlying129 rfl (by rw [List.getElem?_map,hx3]; rfl)
 generalize Tryz.prog.cellsOf 3=k at e0 e1 e2 h1
 generalize Tryz.prog.cellsOf 22=k' at e3 h3
 subst h1 h3;obtain ⟨a,ha,_,_⟩:=DataW.trod_int Tryz.underlying3 (e0.trans hx0);obtain ⟨b,hb,_,_⟩:=DataW.trod_int Tryz.underlying3 (e1.trans hx1');obtain ⟨c,hc,_,_⟩:=DataW.trod_int Tryz.underlying3 (e2.trans hx2);obtain ⟨A,cc,ws,hd,k1,k2⟩:=Qdq (e3.trans hx3) hw3;simp at ha hb hc hd
 exact ⟨a,b,c,A,cc,ws,by rw [ha,hb,hc,hd],k1,k2⟩
set_option maxRecDepth 100000 in
theorem Qry {fuel:Nat} {cs:List Value} {x:DataW H × List MemPlace} (h:DataW.trod enc Tryz.prog W base spare held fuel 131 cs=some x) (hw:WOk 131 x.1)
  (hty:∀ m,m < fuel→∀ (cs:List Value) (x:DataW H × List MemPlace),DataW.trod enc Tryz.prog W base spare held m 29 cs=some x→WOk 29 x.1→∃ t:Ty,TyAt W W.heap.size t cs∧Qr t) :
  ∃ (q:PtH) (t:Ty) (Al:Option Addr) (cl:Nat) (Ac:Option Addr) (cc:Nat) (vt:List Value),cs=ptV q Al cl Ac cc ++ vt∧WdsAt W W.heap.size Al q.label∧WdsAt W W.heap.size Ac q.cl∧TyAt W W.heap.size t vt∧q.name.1.size≤maxLen∧Qi q.label∧Qi q.cl∧Qr t:=by
 obtain ⟨xs,m,hm,hx1,hl,hxl,hx⟩:=DataW.trod_struct Tryz.underlying131 h;have h18:Tryz.prog.cellsOf 131=18:=by kernel_rfl
 have h1:Tryz.prog.cellsOf 3=1:=by kernel_rfl
 have hbo:Tryz.prog.cellsOf 4=1:=by kernel_rfl
 have h2:Tryz.prog.cellsOf 27=2:=by kernel_rfl
 have h3:Tryz.prog.cellsOf 22=1:=by kernel_rfl
 have h4:Tryz.prog.cellsOf 129=4:=by kernel_rfl
 have h9:Tryz.prog.cellsOf 29=9:=by kernel_rfl
 have hl':cs.length=2 + 16:=hl.trans h18;clear hl h18;obtain ⟨c0,r0,rfl,l0,m0⟩:=Qbv hl';obtain ⟨c1,r1,rfl,l1,m1⟩:=Qbv (n:=1) (m:=15) m0;obtain ⟨c2,r2,rfl,l2,m2⟩:=Qbv (n:=1) (m:=14) m1;obtain ⟨c3,r3,rfl,l3,m3⟩:=Qbv (n:=1) (m:=13) m2;obtain ⟨c4,c5,rfl,l4,l5⟩:=Qbv (n:=4) (m:=9) m3;obtain ⟨L,hL⟩:=V1 (c0 ++ (c1 ++ (c2 ++ (c3 ++ (c4 ++ c5)))));rw [← hL] at hx ⊢;have e0:DataW.trod enc Tryz.prog W base spare held m 27 (List.take (Tryz.prog.cellsOf 27) (List.drop 0 L))=xs[0]?:=hx 0 _ rfl;have e1:DataW.trod enc Tryz.prog W base spare held m 4 (List.take (Tryz.prog.cellsOf 4) (List.drop 2 L))=xs[1]?:=hx 1 _ rfl;have e2:DataW.trod enc Tryz.prog W base spare held m 22 (List.take (Tryz.prog.cellsOf 22) (List.drop 3 L))=xs[2]?:=hx 2 _ rfl;have e3:DataW.trod enc Tryz.prog W base spare held m 3 (List.take (Tryz.prog.cellsOf 3) (List.drop 4 L))=xs[3]?:=hx 3 _ rfl;have e4:DataW.trod enc Tryz.prog W base spare held m 129 (List.take (Tryz.prog.cellsOf 129) (List.drop 5 L))=xs[4]?:=hx 4 _ rfl;have e5:DataW.trod enc Tryz.prog W base spare held m 29 (List.take (Tryz.prog.cellsOf 29) (List.drop 9 L))=xs[5]?:=hx 5 _ rfl;rw [h2,Qdf (n:=0) (a:=[]) hL rfl l0] at e0;rw [hbo,Qdf (a:=c0) hL l0 l1] at e1;rw [h3,Qdf (a:=c0 ++ c1) (b:=c2) (c:=c3 ++ (c4 ++ c5)) (by rw [hL]; simp) (by rw [List.length_append,l0,l1]) l2] at e2
 rw [h1,Qdf (a:=c0 ++ c1 ++ c2) (b:=c3) (c:=c4 ++ c5) (by rw [hL]; simp) (by rw [List.length_append,List.length_append,l0,l1,l2]) l3] at e3
 rw [h4,Qdf (a:=c0 ++ c1 ++ c2 ++ c3) (b:=c4) (c:=c5) (by rw [hL]; simp) (by rw [List.length_append,List.length_append,List.length_append,l0,l1,l2,l3]) l4] at e4
 rw [h9,Qdf (a:=c0 ++ c1 ++ c2 ++ c3 ++ c4) (b:=c5) (c:=[]) (by rw [hL]; simp) (by rw [List.length_append,List.length_append,List.length_append,List.length_append,l0,l1,l2,l3,l4]) l5] at e5
 have hxl':xs.length=6:=hxl;obtain ⟨x0,hx0⟩:∃ x0,xs[0]? = some x0:=⟨_,List.getElem?_eq_getElem (by omega)⟩
 obtain ⟨x1,hx1'⟩:∃ x1,xs[1]? = some x1:=⟨_,List.getElem?_eq_getElem (by omega)⟩
 obtain ⟨x2,hx2⟩:∃ x2,xs[2]? = some x2:=⟨_,List.getElem?_eq_getElem (by omega)⟩
 obtain ⟨x3,hx3⟩:∃ x3,xs[3]? = some x3:=⟨_,List.getElem?_eq_getElem (by omega)⟩
 obtain ⟨x4,hx4⟩:∃ x4,xs[4]? = some x4:=⟨_,List.getElem?_eq_getElem (by omega)⟩
 obtain ⟨x5,hx5⟩:∃ x5,xs[5]? = some x5:=⟨_,List.getElem?_eq_getElem (by omega)⟩
 rw [hx1] at hw;have hw2:WOk 22 x2.1:=hw.part (j:=2) Tryz.underlying131 rfl (by rw [List.getElem?_map,hx2]; rfl)
 have hw4:WOk 129 x4.1:=hw.part (j:=4) Tryz.underlying131 rfl (by rw [List.getElem?_map,hx4]; rfl)
 have hw5:WOk 29 x5.1:=hw.part (j:=5) Tryz.underlying131 rfl (by rw [List.getElem?_map,hx5]; rfl)
 obtain ⟨nm,rfl,n1⟩:=Qcb (e0.trans hx0);obtain ⟨br,rfl,_⟩:=DataW.trod_bool Tryz.underlying4 (e1.trans hx1');obtain ⟨Al,cl,lb,rfl,g1,g2⟩:=Qdq (e2.trans hx2) hw2;obtain ⟨wi,rfl,_,_⟩:=DataW.trod_int Tryz.underlying3 (e3.trans hx3);obtain ⟨ck,cn,ca,Ac,cc,cw,rfl,g3,g4⟩:=Qnv (e4.trans hx4) hw4;obtain ⟨t,g5,g6⟩:=hty m (by omega) c5 x5 (e5.trans hx5) hw5
 exact ⟨⟨nm,br,lb,wi,ck,cn,ca,cw⟩,t,Al,cl,Ac,cc,c5,by rw [hL]; rfl,g1,g3,g5,n1,g2,g4,g6⟩
set_option maxRecDepth 100000 in
theorem Qoc:∀ (fuel:Nat) (cs:List Value) (x:DataW H × List MemPlace),DataW.trod enc Tryz.prog W base spare held fuel 29 cs=some x→WOk 29 x.1→∃ t:Ty,TyAt W W.heap.size t cs∧Qr t:=by
 intro fuel;induction fuel using Nat.strongRecOn with
 | _ fuel ih =>
  intro cs x h hw;obtain ⟨xs,m,hm,hx1,hl,hxl,hx⟩:=DataW.trod_struct Tryz.underlying29 h;have h9:Tryz.prog.cellsOf 29=9:=by kernel_rfl
  have h1:Tryz.prog.cellsOf 3=1:=by kernel_rfl
  have h2:Tryz.prog.cellsOf 27=2:=by kernel_rfl
  have h3:Tryz.prog.cellsOf 22=1:=by kernel_rfl
  have h4:Tryz.prog.cellsOf 25=1:=by kernel_rfl
  have h18:Tryz.prog.cellsOf 131=18:=by kernel_rfl
  have hl':cs.length=9:=hl.trans h9;clear hl h9;obtain ⟨u0,u1,u2,u3,u4,u5,u6,u7,u8,rfl⟩:=Qul hl';have e0:DataW.trod enc Tryz.prog W base spare held m 3 (List.take (Tryz.prog.cellsOf 3) (List.drop 0 [u0,u1,u2,u3,u4,u5,u6,u7,u8]))=xs[0]?:=hx 0 _ rfl;have e1:DataW.trod enc Tryz.prog W base spare held m 3 (List.take (Tryz.prog.cellsOf 3) (List.drop 1 [u0,u1,u2,u3,u4,u5,u6,u7,u8]))=xs[1]?:=hx 1 _ rfl;have e2:DataW.trod enc Tryz.prog W base spare held m 3 (List.take (Tryz.prog.cellsOf 3) (List.drop 2 [u0,u1,u2,u3,u4,u5,u6,u7,u8]))=xs[2]?:=hx 2 _ rfl;have e3:DataW.trod enc Tryz.prog W base spare held m 3 (List.take (Tryz.prog.cellsOf 3) (List.drop 3 [u0,u1,u2,u3,u4,u5,u6,u7,u8]))=xs[3]?:=hx 3 _ rfl;have e4:DataW.trod enc Tryz.prog W base spare held m 3 (List.take (Tryz.prog.cellsOf 3) (List.drop 4 [u0,u1,u2,u3,u4,u5,u6,u7,u8]))=xs[4]?:=hx 4 _ rfl;have e5:DataW.trod enc Tryz.prog W base spare held m 22 (List.take (Tryz.prog.cellsOf 22) (List.drop 5 [u0,u1,u2,u3,u4,u5,u6,u7,u8]))=xs[5]?:=hx 5 _ rfl;have e6:DataW.trod enc Tryz.prog W base spare held m 25 (List.take (Tryz.prog.cellsOf 25) (List.drop 6 [u0,u1,u2,u3,u4,u5,u6,u7,u8]))=xs[6]?:=hx 6 _ rfl;have e7:DataW.trod enc Tryz.prog W base spare held m 27 (List.take (Tryz.prog.cellsOf 27) (List.drop 7 [u0,u1,u2,u3,u4,u5,u6,u7,u8]))=xs[7]?:=hx 7 _ rfl;have hxl':xs.length=8:=hxl;obtain ⟨x0,hx0⟩:∃ x0,xs[0]? = some x0:=⟨_,List.getElem?_eq_getElem (by omega)⟩
  obtain ⟨x1,hx1'⟩:∃ x1,xs[1]? = some x1:=⟨_,List.getElem?_eq_getElem (by omega)⟩
  obtain ⟨x2,hx2⟩:∃ x2,xs[2]? = some x2:=⟨_,List.getElem?_eq_getElem (by omega)⟩
  obtain ⟨x3,hx3⟩:∃ x3,xs[3]? = some x3:=⟨_,List.getElem?_eq_getElem (by omega)⟩
  obtain ⟨x4,hx4⟩:∃ x4,xs[4]? = some x4:=⟨_,List.getElem?_eq_getElem (by omega)⟩
  obtain ⟨x5,hx5⟩:∃ x5,xs[5]? = some x5:=⟨_,List.getElem?_eq_getElem (by omega)⟩
  obtain ⟨x6,hx6⟩:∃ x6,xs[6]? = some x6:=⟨_,List.getElem?_eq_getElem (by omega)⟩
  obtain ⟨x7,hx7⟩:∃ x7,xs[7]? = some x7:=⟨_,List.getElem?_eq_getElem (by omega)⟩
  rw [hx1] at hw;have hw5:WOk 22 x5.1:=hw.part (j:=5) Tryz.underlying29 rfl (by rw [List.getElem?_map,hx5]; rfl)
  have hw6:WOk 25 x6.1:=hw.part (j:=6) Tryz.underlying29 rfl (by rw [List.getElem?_map,hx6]; rfl)
  generalize Tryz.prog.cellsOf 3=k1 at e0 e1 e2 e3 e4 h1
  generalize Tryz.prog.cellsOf 22=k3 at e5 h3
  generalize Tryz.prog.cellsOf 25=k4 at e6 h4
  generalize Tryz.prog.cellsOf 27=k2 at e7 h2
  subst h1 h3 h4 h2;obtain ⟨kd,a0,_,_⟩:=DataW.trod_int Tryz.underlying3 (e0.trans hx0);obtain ⟨at_,a1,_,_⟩:=DataW.trod_int Tryz.underlying3 (e1.trans hx1');obtain ⟨lo,a2,_,_⟩:=DataW.trod_int Tryz.underlying3 (e2.trans hx2);obtain ⟨hi,a3,_,_⟩:=DataW.trod_int Tryz.underlying3 (e3.trans hx3);obtain ⟨mo,a4,_,_⟩:=DataW.trod_int Tryz.underlying3 (e4.trans hx4);obtain ⟨An,cn,nws,a5,w1,w2⟩:=Qdq (e5.trans hx5) hw5;obtain ⟨nm,a7,w3⟩:=Qcb (e7.trans hx7);have e6':=e6.trans hx6;simp at a0 a1 a2 a3 a4 a5 a7
  simp only [List.take_succ_cons,List.take_zero,List.drop_succ_cons,List.drop_zero] at e6';subst a0 a1 a2 a3 a4 a5;obtain ⟨rfl,rfl⟩:=a7;have key:∃ (Ap:Option Addr) (cp n:Nat) (p:Nat→PtH) (t:Nat→Ty),u6 = .slice Ap n cp∧n≤628292358710 ∧
    (0 < n→∃ b o,Ap=some ⟨b,o,none⟩∧b < W.heap.size∧∀ i,i < n→∃ Al cl Ac cc vt,(∀ j v,(ptV (p i) Al cl Ac cc ++ vt)[j]? = some v→W.cell? ⟨b,o + i * 18 + j,none⟩=some v)∧WdsAt W W.heap.size Al (p i).label∧WdsAt W W.heap.size Ac (p i).cl∧TyAt W W.heap.size (t i) vt) ∧
    ∀ i,i < n→(p i).name.1.size≤maxLen∧Qi (p i).label∧Qi (p i).cl∧Qr (t i):=by
   rcases DataW.trod_slice Tryz.underlying25 e6' with ⟨hcs,_⟩ | ⟨a,len,cap,elems,rest,n,hmn,hcs,hx6',_,hlc,hcm,hel,hall,_,_⟩
   ·refine ⟨none,0,0,fun _=>⟨wd0,false,[],0,0,0,0,[]⟩,fun _=>.nil,by simpa using hcs,by omega,fun h=>absurd h (by omega),fun i hi=>absurd hi (by omega)⟩
   ·have hby:Tryz.prog.bytesOf 131=224:=by kernel_rfl
    have hlen:len≤628292358710:=by
     rw [hx6'] at hw6;have:=hw6.len Tryz.underlying25
     rw [hby,List.length_map,List.length_map,hel] at this;unfold reachBytes at this;omega
    rw [h18] at hall;have hex:∀ i,i < len→∃ qt:PtH × Ty,(∃ Al cl Ac cc vt,(∀ j v,(ptV qt.1 Al cl Ac cc ++ vt)[j]? = some v→W.cell? (a.add (i * 18 + j))=some v)∧WdsAt W W.heap.size Al qt.1.label∧WdsAt W W.heap.size Ac qt.1.cl∧TyAt W W.heap.size qt.2 vt)∧qt.1.name.1.size≤maxLen∧Qi qt.1.label∧Qi qt.1.cl∧Qr qt.2:=by
     intro i hi;obtain ⟨xe,hxe⟩:∃ xe,elems[i]? = some xe:=⟨_,List.getElem?_eq_getElem (by omega)⟩
     have hb:=(hall i hi).trans hxe;obtain ⟨cs',hc,ht⟩:=Option.bind_eq_some_iff.1 hb;have hwe:WOk 131 xe.1:=by
      rw [hx6'] at hw6;exact hw6.elem Tryz.underlying25 (List.mem_map.2 ⟨xe,List.mem_of_getElem? hxe,rfl⟩)
     obtain ⟨q,t,Al,cl,Ac,cc,vt,rfl,g1,g2,g3,g4,g5,g6,g7⟩:=Qry ht hwe (fun m' hm'=>ih m' (by omega))
     obtain ⟨_,hlc',hat⟩:=World.cells?_some hc;refine ⟨(q,t),⟨Al,cl,Ac,cc,vt,fun j v hv=>?_,g1,g2,g3⟩,g4,g5,g6,g7⟩
     have hj:j < 18:=by
      have h9:=(List.getElem?_eq_some_iff.1 hv).1;have hvl:vt.length=9:=by obtain ⟨_,_,_,_,_,_,rfl⟩:=g3.form; rfl
      rw [List.length_append,hvl] at h9;exact h9
     have:=hat j hj
     rw [add_add] at this;rw [this,hv]
    obtain ⟨f,hf⟩:=choose_lt (α:=PtH × Ty) hex;refine ⟨some a,cap,len,fun i=>(f i).1,fun i=>(f i).2,by simpa using hcs,hlen,fun h0=>?_,fun i hi=>(hf i hi).2⟩
    have hcell0:W.cell? (a.add 0)=some (.string (f 0).1.name.1):=by
     obtain ⟨⟨Al,cl,Ac,cc,vt,g1,_⟩,_⟩:=hf 0 h0;exact g1 0 _ rfl
    obtain ⟨b,o,sp⟩:=a;have hsp:sp=none:=by
     rcases sp with _ | sp
     ·rfl
     ·simp [Addr.add,World.cell?] at hcell0
      split at hcell0 <;> simp at hcell0
    subst hsp;have hadd:∀ j,(⟨b,o,none⟩:Addr).add j=⟨b,o + j,none⟩:=fun j=>by
     unfold Addr.add;split
     ·rename_i h; subst h; rfl
     ·rfl
    refine ⟨b,o,rfl,?_,fun i hi=>?_⟩
    ·have:=World.block_lt_of_cell? W _ hcell0
     simpa [Addr.add] using this
    ·obtain ⟨⟨Al,cl,Ac,cc,vt,g1,g2,g3,g4⟩,_⟩:=hf i hi;refine ⟨Al,cl,Ac,cc,vt,fun j v hv=>?_,g2,g3,g4⟩
     have:=g1 j v hv
     rw [hadd] at this;rw [Nat.add_assoc];exact this
  obtain ⟨Ap,cp,n,p,t,rfl,k1,k2,k3⟩:=key;exact ⟨.mk ⟨kd,at_,lo,hi,mo,nws,nm⟩ n p t,⟨An,cn,Ap,cp,rfl,w1,k2⟩,w2,w3,k1,k3⟩
theorem Qu3 {ts:List TypeId} {ds:List (DataW H)} (h:(DataW.weightsEach Tryz.prog ts ds).all (·≤reachBytes)=true) {j:Nat} {t:TypeId} {d:DataW H} (ht:ts[j]? = some t) (hd:ds[j]? = some d):WOk t d:=by
 intro n hn;have:=List.all_eq_true.1 h n (DataW.weights_mem_each ht hd n hn)
 simpa using this
end
instance:Inhabited StP:=⟨⟨0,0,⟨#[]⟩⟩⟩
section
variable {H:Type} {enc:TypeId × Value→H} {W:World} {base:Nat} {spare:Nat→Bool} {held:Bool}
set_option maxRecDepth 100000 in
theorem Qrz {fuel:Nat} {cs:List Value} {x:DataW H × List MemPlace} (h:DataW.trod enc Tryz.prog W base spare held fuel 133 cs=some x):∃ p:Wd × Wd,cs = [.string p.1.1,.int .i64 p.1.2,.string p.2.1,.int .i64 p.2.2]:=by
 obtain ⟨xs,m,_,_,hl,hxl,hx⟩:=DataW.trod_struct Tryz.underlying133 h;have h2:Tryz.prog.cellsOf 133=4:=by kernel_rfl
 have h1:Tryz.prog.cellsOf 27=2:=by kernel_rfl
 have hl':cs.length=4:=hl.trans h2;clear hl h2;obtain ⟨a,b,c,d,rfl⟩:=Qob hl';have e0:DataW.trod enc Tryz.prog W base spare held m 27 (List.take (Tryz.prog.cellsOf 27) (List.drop 0 [a,b,c,d]))=xs[0]?:=hx 0 _ rfl;have e1:DataW.trod enc Tryz.prog W base spare held m 27 (List.take (Tryz.prog.cellsOf 27) (List.drop 2 [a,b,c,d]))=xs[1]?:=hx 1 _ rfl;have hxl':xs.length=2:=hxl;obtain ⟨x0,hx0⟩:∃ x0,xs[0]? = some x0:=⟨_,List.getElem?_eq_getElem (by omega)⟩
 obtain ⟨x1,hx1⟩:∃ x1,xs[1]? = some x1:=⟨_,List.getElem?_eq_getElem (by omega)⟩
 generalize Tryz.prog.cellsOf 27=k at e0 e1 h1
 subst h1;obtain ⟨p,hp,_⟩:=Qcb (e0.trans hx0);obtain ⟨q,hq,_⟩:=Qcb (e1.trans hx1);simp at hp hq
 exact ⟨(p,q),by rw [hp.1,hp.2,hq.1,hq.2]⟩
set_option maxRecDepth 100000 in
theorem Qpu {fuel:Nat} {cs:List Value} {x:DataW H × List MemPlace} (h:DataW.trod enc Tryz.prog W base spare held fuel 23 cs=some x) (hw:WOk 23 x.1) :
  ∃ (a:Option Addr) (c:Nat) (os:List (Wd × Wd)),cs = [.slice a os.length c]∧OdsAt W W.heap.size a os∧os.length≤5864062014634:=by
 have h2:Tryz.prog.cellsOf 133=4:=by kernel_rfl
 have hby:Tryz.prog.bytesOf 133=48:=by kernel_rfl
 rcases open_slice Tryz.underlying23 h with ⟨hcs,_⟩ | ⟨a,len,cap,m,n,D,Pl,hcs,_,hlc,hm,hmm,hd,hx⟩
 ·exact ⟨none,0,[],hcs,Reads.none_,by simp⟩
 ·have hlm:len≤m:=by rw [hmm]; split <;> omega
  have hlen:len≤5864062014634:=by
   rw [hd] at hw;have:=hw.len Tryz.underlying23
   rw [hby,List.length_map,List.length_range] at this;unfold reachBytes at this;omega
  rw [h2] at hx;have hex:∀ i,i < len→∃ q:Wd × Wd,W.cell? (a.add (i * 4))=some (.string q.1.1)∧W.cell? (a.add (i * 4 + 1))=some (.int .i64 q.1.2)∧W.cell? (a.add (i * 4 + 2))=some (.string q.2.1)∧W.cell? (a.add (i * 4 + 3))=some (.int .i64 q.2.2):=by
   intro i hi;obtain ⟨cs,hc,ht⟩:=hx i (by omega)
   obtain ⟨q,rfl⟩:=Qrz ht;obtain ⟨_,_,hat⟩:=World.cells?_some hc;have c0:=hat 0 (by omega)
   have c1:=hat 1 (by omega)
   have c2:=hat 2 (by omega)
   have c3:=hat 3 (by omega)
   rw [add_add] at c0 c1 c2 c3;exact ⟨q,by simpa using c0,by simpa using c1,by simpa using c2,by simpa using c3⟩
  obtain ⟨f,hf'⟩:=choose_lt (α:=Wd × Wd) hex;have hat:∀ i,i < len→lo ((List.range len).map f) i=(f i).1∧hi ((List.range len).map f) i=(f i).2:=fun i hi'=>by
   simp [lo,hi,List.getD_eq_getElem?_getD,List.getElem?_map,List.getElem?_range hi']
  refine ⟨some a,cap,(List.range len).map f,by rw [hcs]; simp,⟨by rw [Qex],fun hn=>⟨a,rfl,?_,fun j u hu=>?_⟩⟩,by simpa using hlen⟩
  ·have c0:=(hf' 0 (by simpa using hn)).1
   simp only [Nat.zero_mul] at c0;have:=World.block_lt_of_cell? W _ c0
   simpa [Addr.add] using this
  ·have hj:j < len * 4:=by
    have:=(List.getElem?_eq_some_iff.1 hu).1
    rw [Qex] at this;simpa using this
   have hk:=Qmm (by omega) hj
   have hg:=Qhd ((List.range len).map f) (j / 4) (by simpa using hk)
   rw [(hat _ hk).1,(hat _ hk).2] at hg;have hh:=hf' _ hk;have e4:j % 4=0∨j % 4=1∨j % 4=2∨j % 4=3:=by omega
   rcases e4 with e | e | e | e
   ·have ej:j=j / 4 * 4:=by omega
    rw [ej] at hu ⊢;rw [hg.1] at hu;rw [hh.1,← hu]
   ·have ej:j=j / 4 * 4 + 1:=by omega
    rw [ej] at hu ⊢;rw [hg.2.1] at hu;rw [hh.2.1,← hu]
   ·have ej:j=j / 4 * 4 + 2:=by omega
    rw [ej] at hu ⊢;rw [hg.2.2.1] at hu;rw [hh.2.2.1,← hu]
   ·have ej:j=j / 4 * 4 + 3:=by omega
    rw [ej] at hu ⊢;rw [hg.2.2.2] at hu;rw [hh.2.2.2,← hu]
set_option maxRecDepth 100000 in
theorem Qpv {fuel:Nat} {cs:List Value} {x:DataW H × List MemPlace} (h:DataW.trod enc Tryz.prog W base spare held fuel 90 cs=some x) (hw:WOk 90 x.1) :
  ∃ (q:Wd) (t:Ty) (vt:List Value),cs = [.string q.1,.int .i64 q.2] ++ vt∧TyAt W W.heap.size t vt∧q.1.size≤maxLen∧Qr t:=by
 obtain ⟨xs,m,_,hx1,hl,hxl,hx⟩:=DataW.trod_struct Tryz.underlying90 h;have h11:Tryz.prog.cellsOf 90=11:=by kernel_rfl
 have h2:Tryz.prog.cellsOf 27=2:=by kernel_rfl
 have h9:Tryz.prog.cellsOf 29=9:=by kernel_rfl
 have hl':cs.length=2 + 9:=hl.trans h11;clear hl h11;obtain ⟨c0,c1,rfl,l0,l1⟩:=Qbv hl';obtain ⟨L,hL⟩:=V1 (c0 ++ c1);rw [← hL] at hx ⊢;have e0:DataW.trod enc Tryz.prog W base spare held m 27 (List.take (Tryz.prog.cellsOf 27) (List.drop 0 L))=xs[0]?:=hx 0 _ rfl;have e1:DataW.trod enc Tryz.prog W base spare held m 29 (List.take (Tryz.prog.cellsOf 29) (List.drop 2 L))=xs[1]?:=hx 1 _ rfl;rw [h2,Qdf (n:=0) (a:=[]) (b:=c0) (c:=c1) (by rw [hL]; rfl) rfl l0] at e0
 rw [h9,Qdf (a:=c0) (b:=c1) (c:=[]) (by rw [hL]; simp) l0 l1] at e1
 have hxl':xs.length=2:=hxl;obtain ⟨x0,hx0⟩:∃ x0,xs[0]? = some x0:=⟨_,List.getElem?_eq_getElem (by omega)⟩
 obtain ⟨x1,hx1'⟩:∃ x1,xs[1]? = some x1:=⟨_,List.getElem?_eq_getElem (by omega)⟩
 rw [hx1] at hw;have hw1:WOk 29 x1.1:=hw.part (j:=1) Tryz.underlying90 rfl (by rw [List.getElem?_map,hx1']; rfl)
 obtain ⟨q,rfl,n1⟩:=Qcb (e0.trans hx0);obtain ⟨t,g1,g2⟩:=Qoc _ _ _ (e1.trans hx1') hw1;exact ⟨q,t,c1,by rw [hL],g1,n1,g2⟩
set_option maxRecDepth 100000 in
theorem Qnw {fuel:Nat} {cs:List Value} {x:DataW H × List MemPlace} (h:DataW.trod enc Tryz.prog W base spare held fuel 24 cs=some x) (hw:WOk 24 x.1) :
  ∃ (A:Option Addr) (c n:Nat) (nm:Nat→Wd) (ty:Nat→Ty),cs = [.slice A n c]∧NamedAt W W.heap.size A n nm ty∧n≤5864062014634∧∀ i,i < n→(nm i).1.size≤maxLen∧Qr (ty i):=by
 have h11:Tryz.prog.cellsOf 90=11:=by kernel_rfl
 have hby:Tryz.prog.bytesOf 90=136:=by kernel_rfl
 rcases DataW.trod_slice Tryz.underlying24 h with ⟨hcs,_⟩ | ⟨a,len,cap,elems,rest,n,hmn,hcs,hx6',_,hlc,hcm,hel,hall,_,_⟩
 ·exact ⟨none,0,0,fun _=>wd0,fun _=>.nil,hcs,fun h=>absurd h (by omega),by omega,fun i hi=>absurd hi (by omega)⟩
 ·have hlen:len≤5864062014634:=by
   rw [hx6'] at hw;have:=hw.len Tryz.underlying24
   rw [hby,List.length_map,List.length_map,hel] at this;unfold reachBytes at this;omega
  rw [h11] at hall;have hex:∀ i,i < len→∃ qt:Wd × Ty,(∃ vt,(∀ j v,([.string qt.1.1,.int .i64 qt.1.2] ++ vt)[j]? = some v→W.cell? (a.add (i * 11 + j))=some v)∧TyAt W W.heap.size qt.2 vt)∧qt.1.1.size≤maxLen∧Qr qt.2:=by
   intro i hi;obtain ⟨xe,hxe⟩:∃ xe,elems[i]? = some xe:=⟨_,List.getElem?_eq_getElem (by omega)⟩
   have hb:=(hall i hi).trans hxe;obtain ⟨cs',hc,ht⟩:=Option.bind_eq_some_iff.1 hb;have hwe:WOk 90 xe.1:=by
    rw [hx6'] at hw;exact hw.elem Tryz.underlying24 (List.mem_map.2 ⟨xe,List.mem_of_getElem? hxe,rfl⟩)
   obtain ⟨q,t,vt,rfl,g1,g2,g3⟩:=Qpv ht hwe;obtain ⟨_,hlc',hat⟩:=World.cells?_some hc;refine ⟨(q,t),⟨vt,fun j v hv=>?_,g1⟩,g2,g3⟩
   have hj:j < 11:=by
    have h9:=(List.getElem?_eq_some_iff.1 hv).1;have hvl:vt.length=9:=by obtain ⟨_,_,_,_,_,_,rfl⟩:=g1.form; rfl
    rw [List.length_append,hvl] at h9;exact h9
   have:=hat j hj
   rw [add_add] at this;rw [this,hv]
  obtain ⟨f,hf⟩:=choose_lt (α:=Wd × Ty) hex;refine ⟨some a,cap,len,fun i=>(f i).1,fun i=>(f i).2,hcs,fun h0=>?_,hlen,fun i hi=>(hf i hi).2⟩
  have hcell0:W.cell? (a.add 0)=some (.string (f 0).1.1):=by
   obtain ⟨⟨vt,g1,_⟩,_⟩:=hf 0 h0;exact g1 0 _ rfl
  obtain ⟨b,o,sp⟩:=a;have hsp:sp=none:=by
   rcases sp with _ | sp
   ·rfl
   ·simp [Addr.add,World.cell?] at hcell0
    split at hcell0 <;> simp at hcell0
  subst hsp;have hadd:∀ j,(⟨b,o,none⟩:Addr).add j=⟨b,o + j,none⟩:=fun j=>by
   unfold Addr.add;split
   ·rename_i h; subst h; rfl
   ·rfl
  refine ⟨b,o,rfl,?_,fun i hi=>?_⟩
  ·have:=World.block_lt_of_cell? W _ hcell0
   simpa [Addr.add] using this
  ·obtain ⟨⟨vt,g1,g2⟩,_⟩:=hf i hi;refine ⟨vt,fun j v hv=>?_,g2⟩
   have:=g1 j v hv
   rw [hadd] at this;rw [Nat.add_assoc];exact this
set_option maxRecDepth 100000 in
theorem Qtq {r:Reach} {b0:Nat} {v:Value} {d:DataW H} {p:List MemPlace} (hv:Value.okWide Tryz.prog W r b0 31 v) (h:DataW.Trod enc Tryz.prog W base spare held 31 v d p) (hw:WOk 31 d):∃ (s:Sch) (vs:List Value),v = .agg vs.toArray∧SchAt W s vs∧SchSz s:=by
 simp only [Value.okWide,Tryz.underlying31] at hv;obtain ⟨cs,rfl,_,_⟩:=hv;obtain ⟨fuel,hf⟩:=h;obtain ⟨xs,m,_,hx1,hl,hxl,hx⟩:=DataW.trod_struct Tryz.underlying31 hf;have h12:Tryz.prog.cellsOf 31=12:=by kernel_rfl
 have h1:Tryz.prog.cellsOf 22=1:=by kernel_rfl
 have h2:Tryz.prog.cellsOf 23=1:=by kernel_rfl
 have h3:Tryz.prog.cellsOf 24=1:=by kernel_rfl
 have h9:Tryz.prog.cellsOf 29=9:=by kernel_rfl
 have e:(Value.agg cs).cells.toList=cs.toList:=by simp [Value.cells]
 rw [e] at hl hx;have hl':cs.toList.length=1 + 11:=hl.trans h12;clear hl h12 e;obtain ⟨c0,r0,hc0,l0,m0⟩:=Qbv hl';obtain ⟨c1,r1,rfl,l1,m1⟩:=Qbv (n:=1) (m:=10) m0;obtain ⟨c2,c3,rfl,l2,l3⟩:=Qbv (n:=1) (m:=9) m1;obtain ⟨L,hL⟩:=V1 (cs.toList);rw [← hL] at hx hc0;have e0:DataW.trod enc Tryz.prog W base spare held m 22 (List.take (Tryz.prog.cellsOf 22) (List.drop 0 L))=xs[0]?:=hx 0 _ rfl;have e1:DataW.trod enc Tryz.prog W base spare held m 23 (List.take (Tryz.prog.cellsOf 23) (List.drop 1 L))=xs[1]?:=hx 1 _ rfl;have e2:DataW.trod enc Tryz.prog W base spare held m 24 (List.take (Tryz.prog.cellsOf 24) (List.drop 2 L))=xs[2]?:=hx 2 _ rfl;have e3:DataW.trod enc Tryz.prog W base spare held m 29 (List.take (Tryz.prog.cellsOf 29) (List.drop 3 L))=xs[3]?:=hx 3 _ rfl;rw [h1,Qdf (n:=0) (a:=[]) (b:=c0) (by rw [hc0]; rfl) rfl l0] at e0
 rw [h2,Qdf (a:=c0) (b:=c1) (by rw [hc0]) l0 l1] at e1
 rw [h3,Qdf (a:=c0 ++ c1) (b:=c2) (c:=c3) (by rw [hc0]; simp) (by rw [List.length_append,l0,l1]) l2] at e2
 rw [h9,Qdf (a:=c0 ++ c1 ++ c2) (b:=c3) (c:=[]) (by rw [hc0]; simp) (by rw [List.length_append,List.length_append,l0,l1,l2]) l3] at e3
 have hxl':xs.length=4:=hxl;obtain ⟨x0,hx0⟩:∃ x0,xs[0]? = some x0:=⟨_,List.getElem?_eq_getElem (by omega)⟩
 obtain ⟨x1,hx1'⟩:∃ x1,xs[1]? = some x1:=⟨_,List.getElem?_eq_getElem (by omega)⟩
 obtain ⟨x2,hx2⟩:∃ x2,xs[2]? = some x2:=⟨_,List.getElem?_eq_getElem (by omega)⟩
 obtain ⟨x3,hx3⟩:∃ x3,xs[3]? = some x3:=⟨_,List.getElem?_eq_getElem (by omega)⟩
 have hx1'':d=DataW.agg (List.map (fun x=>x.fst) xs):=congrArg Prod.fst hx1
 rw [hx1''] at hw;have hw0:WOk 22 x0.1:=hw.part (j:=0) Tryz.underlying31 rfl (by rw [List.getElem?_map,hx0]; rfl)
 have hw1:WOk 23 x1.1:=hw.part (j:=1) Tryz.underlying31 rfl (by rw [List.getElem?_map,hx1']; rfl)
 have hw2:WOk 24 x2.1:=hw.part (j:=2) Tryz.underlying31 rfl (by rw [List.getElem?_map,hx2]; rfl)
 have hw3:WOk 29 x3.1:=hw.part (j:=3) Tryz.underlying31 rfl (by rw [List.getElem?_map,hx3]; rfl)
 obtain ⟨A1,k1,ws,rfl,g1,s1⟩:=Qdq (e0.trans hx0) hw0;obtain ⟨A2,k2,os,rfl,g2,s2⟩:=Qpu (e1.trans hx1') hw1;obtain ⟨A3,k3,n,nm,ty,rfl,g3,s3,s4⟩:=Qnw (e2.trans hx2) hw2;obtain ⟨t,g4,s5⟩:=Qoc _ _ _ (e3.trans hx3) hw3;refine ⟨⟨ws,os,n,nm,ty,t⟩,L,by rw [hL,Array.toArray_toList],⟨A1,k1,A2,k2,A3,k3,c3,by rw [hc0]; rfl,g1,g2,g3,g4⟩,⟨s1,s2,s3,fun i hi=>(s4 i hi).1,fun i hi=>(s4 i hi).2,s5⟩⟩
end
end Go.Proofs.YtanpljalbijfkaaGreat
