/- . -/
import Derived.Test.YtanpljalbijfkaaGreatQ09
import Derived.Test.YtanpljalbijfkaaGreatQ10
namespace Go.Proofs.YtanpljalbijfkaaGreat
open Go.RowKit
set_option maxHeartbeats 16000000
theorem Qjt:∃ i,Tryz.prog.info? 172=some i∧i.zero=some (.agg #[.int .i64 0,.int .i64 0])∧i.size=2∧i.bytes=16 :=
 Qal (a:=2) (b:=16) (v:=.agg #[.int .i64 0,.int .i64 0]) (s:=2) (by kernel_rfl)
theorem Qdy (l m:List (Int × Int)):pairCells (l ++ m)=pairCells l ++ pairCells m:=by simp [pairCells]
theorem Qfs (l:List (Int × Int)):∀ u ∈ pairCells l,u.oneCell'=true:=by
 intro u hu;simp only [pairCells,List.mem_flatMap] at hu;obtain ⟨p,_,hu⟩:=hu;simp at hu
 rcases hu with rfl | rfl <;> rfl
theorem Qe9 (w:World) (t:TypeId) (x y:Int) (g:Nat) (hg:g=w.heap.size):Reads (w.alloc (.cells #[.int .i64 x,.int .i64 y] t)) (g + 1) 2 (some ⟨g,0,none⟩) 1 (pairCells [(x,y)]):=by
 subst hg;refine ⟨rfl,fun _=>⟨_,rfl,by simp,fun j u hu=>?_⟩⟩
 have e:(⟨w.heap.size,0,none⟩:Addr).add j=⟨w.heap.size,j,none⟩:=by unfold Addr.add; split <;> simp_all
 rw [e,World.cell?_alloc_new];simpa [pairCells] using hu
theorem Qil (w:World) {ops:Array Oper} {rest:List Oper} {o:Oper} {a:Act} {Q:Exit→Act→World→Prop} (hgd:o.guard=none) (s x:Operand)
  (ho:o.op = .call { callee:=.builtin .append,args:=#[s,x],argTypes:=#[137,137] })
  (base:Nat) (v:Value) (n:Nat) (l:List (Int × Int)) (hs:a.eval s=v) (B:Nat) (A:Option Addr) (c:Nat) (p:Int × Int) (hx:a.eval x = .slice A 1 c)
  (hown:w.ownsRow base 172 2 v n (pairCells l)) (hr:Reads w B 2 A 1 (pairCells [p])) (hn:n≤1000000) (hbase:base≤w.heap.size)
  (h:∀ A' c' w',w'.ownsRow base 172 2 (.slice A' (n + 1) c') (n + 1) (pairCells (l ++ [p]))→w.grownBy w' v.ownBlock→(Value.ownBlock (.slice A' (n + 1) c')=v.ownBlock∨Value.ownBlock (.slice A' (n + 1) c')=some w.heap.size)→wpList Tryz.prog ops Q rest (a.put o.dst (.slice A' (n + 1) c')) w'):wpList Tryz.prog ops Q (o :: rest) a w:=by
 obtain ⟨i0,hi,hz,hs2,hb⟩:=Qjt;refine Qp w hgd s x 137 ho base 172 i0 _ 2 16 Tryz.underlying137 hi hz hs2 hb rfl (by decide) v n (pairCells l) hs hown B A 1 c (pairCells [p]) hx hr (Qfs _) (by unfold maxLen; omega) (by omega) hbase ?_
 rw [← Qdy];exact h
theorem Qju (l:List ByteArray) (s:ByteArray) :
  (findL l s < 0∧findR l s = .tuple #[.int .i64 0,.bool false])∨∃ k:Nat,findL l s=k∧findR l s = .tuple #[.int .i64 (k:Nat),.bool true]:=by
 unfold findR;by_cases h:findL l s < 0
 ·left; rw [if_pos h]; refine ⟨h,?_⟩; rw [decide_eq_false (by omega)]
 ·right
  obtain ⟨k,hk⟩:=Int.eq_ofNat_of_zero_le (show 0≤findL l s by omega)
  exact ⟨k,hk,by rw [hk,if_neg (by omega),decide_eq_true (by omega)]⟩
theorem Qim {ws:List Wd} {os:List (Wd × Wd)} {k:Nat} :
  (findL (nms ws) (lo os k).1 < 0→Q4 ws os k=some (17,(lo os k).2)) ∧
  (¬ findL (nms ws) (lo os k).1 < 0→findL (nms ws) (hi os k).1 < 0→Q4 ws os k=some (17,(hi os k).2)) ∧
  (¬ findL (nms ws) (lo os k).1 < 0→¬ findL (nms ws) (hi os k).1 < 0→Q4 ws os k=none):=by
 unfold Q4;exact ⟨fun h=>if_pos h,fun h h2=>by rw [if_neg h,if_pos h2],fun h h2=>by rw [if_neg h,if_neg h2]⟩
theorem Qk8 (ws:List Wd) (os:List (Wd × Wd)) (k:Nat) (hk:k < os.length):(prs ws os).take (k + 1)=(prs ws os).take k ++ [(findL (nms ws) (lo os k).1,findL (nms ws) (hi os k).1)]:=by
 rw [List.take_succ_eq_append_getElem (by rw [prs_length]; exact hk),prs_at]
def Qk9 (ws:List Wd) (os:List (Wd × Wd)) (m:Nat) (w:World) (e:Ending) (w':World):Prop :=
 (∃ x,Qf (Q4 ws os) m=some x∧e = .returned (.tuple #[.slice none 0 0,fltV x])∧Ext w w') ∨
 (Qf (Q4 ws os) m=none∧∃ A c,e = .returned (.tuple #[.slice A m c,fltV (0,0)])∧PairsAt w' w'.heap.size A (prs ws os)∧Ext w w')
set_option maxRecDepth 100000 in
theorem Qla (g:Nat) (ws:List Wd) (A:Option Addr) (c m:Nat) (os:List (Wd × Wd)) (w:World) (hT:TabAt w g (nms ws)) (hws:ws.length≤1000) (h:OdsAt w w.heap.size A os) (hm:m=os.length) (hle:m≤1000) :
  Calls Tryz.prog 63 #[.pointer (some ⟨g,0,none⟩),.slice A m c] w (Qk9 ws os m w):=by
 obtain ⟨HN,HW,HT,HF⟩:=Z4 hm h hT (fun (w1:World) (s:ByteArray) (h:Ext w w1)=>Qbh g (nms ws) s w1 (hT.ext h) (by rw [nms_length]; omega))
 clear hm h hT;go_enter Tryz.func63,Tryz.ntmps63
 go_wp2_with fail
 go_loopw [14,6] (fun i o wr=>∃ (k:Nat) (Ao:Option Addr) (co:Nat),k≤m∧i = .int .i64 k∧o = .slice Ao k co∧Ext w wr∧Blk wr w.heap.size 34 #[.int .i64 0,.int .i64 0]∧wr.ownsRow (w.heap.size + 1) 172 2 (.slice Ao k co) k (pairCells ((prs ws os).take k))∧Hid (∀ j,j < k→Q4 ws os j=none)) (fun i _ _=>m - (intOf i).toNat)
 case atStart=>exact ⟨0,none,0,Nat.zero_le _,rfl,rfl,(Ext.rfl' w).alloc nL _,Blk.new _ _ _,World.ownsRow_nil _ _ _ _,fun j hj=>absurd hj (by omega)⟩
 case round =>
  obtain ⟨k,Ao,co,hk,rfl,rfl,hE,hB,hO,HA⟩:=hrel;obtain ⟨HE,HB,HO⟩:=Z3 hE hB hO;have hs:=hB.lt;by_cases hlt:k < m
  ·have hkl:k < os.length:=by rw [← HN.out]; exact hlt
   obtain ⟨b,o,rfl,hbs,hcell⟩:=HW.out.cell (by omega)
   obtain ⟨hp1,hp2,hp3,hp4⟩:=hcell k hkl;obtain ⟨hn1,hn2,hn3⟩:=Qim (ws:=ws) (os:=os) (k:=k);have hst:=Qk8 ws os k hkl;have hf1:=Qju (nms ws) (lo os k).1;have hf2:=Qju (nms ws) (hi os k).1;obtain ⟨x,hx,p,hp,y,hy,q,hq⟩:=V4 ((lo os k).1) ((lo os k).2) ((hi os k).1) ((hi os k).2);rw [← hx] at hp1 hn1 hn2 hn3 hst hf1;rw [← hp] at hp2 hn1;rw [← hy] at hp3 hn2 hn3 hst hf2;rw [← hq] at hp4 hn2;have q1:wr.cell? ⟨b,o + k * 4,none⟩=some (.string x):=(hE.cell (p:=⟨b,o + k * 4,none⟩) hbs).trans hp1;have q2:wr.cell? ⟨b,o + k * 4 + 1,none⟩=some (.int .i64 p):=(hE.cell (p:=⟨b,o + k * 4 + 1,none⟩) hbs).trans hp2;have q3:wr.cell? ⟨b,o + k * 4 + 2,none⟩=some (.string y):=(hE.cell (p:=⟨b,o + k * 4 + 2,none⟩) hbs).trans hp3;have q4:wr.cell? ⟨b,o + k * 4 + 3,none⟩=some (.int .i64 q):=(hE.cell (p:=⟨b,o + k * 4 + 3,none⟩) hbs).trans hp4;obtain ⟨f1,hf1e,f2,hf2e⟩:=V2 (findL (nms ws) x) (findL (nms ws) y);obtain ⟨HF1,HF2⟩:=Z2 (fun w1 h=>HF.out w1 x h) (fun w1 h=>HF.out w1 y h)
   obtain ⟨r1,hr1,r2,hr2⟩:=V2 (findR (nms ws) x) (findR (nms ws) y);rw [← hf1e,← hr1] at hf1;rw [← hf2e,← hr2] at hf2;rw [← hr1] at HF1;rw [← hr2] at HF2;rw [← hf1e] at hn1 hn2 hn3 hst;rw [← hf2e] at hn2 hn3 hst;obtain ⟨H1,H2,H3,HST,HG2⟩:=Z5 hn1 hn2 hn3 hst hf2;clear hst hp1 hp2 hp3 hp4 hcell hE hB hO hx hp hy hq hn1 hn2 hn3 hf1e hf2e hr1 hr2 hf2;rcases hf1 with ⟨h1,rfl⟩ | ⟨k1,rfl,rfl⟩
   ·have HX:=hide (Qk (n:=m) hlt HA.out (H1.out h1));clear H1 H2 H3 HG2;go_wp2_with fail
    refine (HF1.out _ (HE.out.alloc HE.out.size _)).mono ?_;rintro e w4 ⟨rfl,hE4⟩;have HE4:=hide (Ext.trans' (HE.out.alloc HE.out.size _) hE4);have hB4:=(HB.out.alloc (.cells #[.string x,.int .i64 p,.string y,.int .i64 q] 133)).ext hE4;have hV4:=(Blk.new wr 133 #[.string x,.int .i64 p,.string y,.int .i64 q]).ext hE4;have HO4:=hide (own_ext (HO.out.alloc _) hE4);have f0:=hB4.free 0;have f1':=hB4.free 1;obtain ⟨b0,b1⟩:=X2 hB4;obtain ⟨-,v1,v2,v3⟩:=X4 hV4;obtain ⟨HB4,HV4⟩:=Z2 hB4 hV4;have z4:=HE4.out.size;have l4:=hB4.lt;clear hB4 hV4 hE4;go_wp2_with fail
    go_region
    go_wp2_with fail
    exact Ql (f:=(17,p)) (g:=w.heap.size) ((HB4.out.set_ 0 _).set_ 1 _) rfl rfl rfl rfl (.inl ⟨_,HX.out,rfl,(Qw HE4.out _ _).drew'⟩)
   ·have hk1:¬ ((k1:Int) < 0):=by omega
    obtain ⟨HX2,HX3⟩:=Z2 (H2.out hk1) (H3.out hk1);clear H1 H2 H3;go_wp2_with fail
    refine (HF1.out _ (HE.out.alloc HE.out.size _)).mono ?_;rintro e w4 ⟨rfl,hE4⟩;have HE4:=hide (Ext.trans' (HE.out.alloc HE.out.size _) hE4);have hB4:=(HB.out.alloc (.cells #[.string x,.int .i64 p,.string y,.int .i64 q] 133)).ext hE4;have hV4:=(Blk.new wr 133 #[.string x,.int .i64 p,.string y,.int .i64 q]).ext hE4;have HO4:=hide (own_ext (HO.out.alloc _) hE4);have f0:=hB4.free 0;have f1':=hB4.free 1;obtain ⟨b0,b1⟩:=X2 hB4;obtain ⟨-,v1,v2,v3⟩:=X4 hV4;obtain ⟨HB4,HV4⟩:=Z2 hB4 hV4;have z4:=HE4.out.size;have l4:=hB4.lt;clear hB4 hV4 hE4;go_wp2_with fail
    refine (HF2.out _ HE4.out).mono ?_;rintro e w5 ⟨rfl,hE5⟩;have HE5:=hide (HE4.out.trans' hE5);have hB5:=HB4.out.ext hE5;have hV5:=HV4.out.ext hE5;have HO5:=hide (own_ext HO4.out hE5);obtain ⟨c0,c1⟩:=X2 hB5;obtain ⟨-,-,-,u3⟩:=X4 hV5;obtain ⟨g0,g1⟩:=Y2 hB5;have HB5:=hide hB5;have l5:=hB5.lt;clear hB5 hV5 hE5 b0 b1 v1 v2 v3 f0 f1';rcases HG2.out with ⟨h2,rfl⟩ | ⟨k2,rfl,rfl⟩
    ·have HX:=hide (Qk (n:=m) hlt HA.out (HX2.out h2));clear HX2 HX3 HG2;go_wp2_with fail
     go_region
     go_wp2_with fail
     exact Ql (f:=(17,q)) (g:=w.heap.size) ((HB5.out.set_ 0 _).set_ 1 _) rfl rfl rfl rfl (.inl ⟨_,HX.out,rfl,(Qw HE5.out _ _).drew'⟩)
    ·have HA2:=hide (below_step HA.out (HX3.out (by omega)))
     clear HX2 HX3 HG2;go_wp2_with (at_builtin; refine Qil _ rfl _ _ rfl (w.heap.size + 1) _ k ((prs ws os).take k) rfl (w5.heap.size + 1) (some ⟨w5.heap.size,0,none⟩) 1 ((k1:Int),(k2:Int)) rfl (HO5.out.alloc _) (Qe9 _ _ _ _ _ rfl) (by omega) (by simp; omega) ?_)
     intro A3 c3 w6 hown6 hgrow6 _;obtain ⟨HE6,HB6⟩:=Z2 (grown_ext' (w:=w) (wr:=w5) (base:=w.heap.size + 1) HE5.out ((Ext.rfl' w5).alloc nL _) hgrow6 HO5.out (by omega)) (grown_blk (HB5.out.alloc _) hgrow6 HO5.out (.inl (by omega)))
     rw [← HST.out] at hown6;have HO6:=hide hown6;clear hown6 hgrow6;go_wp2_with fail
     go_roundw
     case rel=>exact ⟨k + 1,A3,c3,by omega,by go_num,rfl,HE6.out,HB6.out,HO6.out,HA2.out⟩
     case measure=>simp [intOf]; omega
  ·obtain rfl:k=m:=by omega
   have HX:=hide (firstOf_miss.2 HA.out);have hlen:k=(prs ws os).length:=by rw [prs_length]; exact HN.out
   have hO':=hO;rw [List.take_of_length_le (by omega)] at hO'
   obtain ⟨HO',HL⟩:=Z2 hO' hlen;obtain ⟨b0,b1⟩:=X2 hB;obtain ⟨f0,f1⟩:=Y2 hB;clear hlen hO' hO hB hE;go_wp2_with fail
   have hsa:∀ u v,PairsAt ((wr.setCell ⟨w.heap.size,0,none⟩ u).setCell ⟨w.heap.size,1,none⟩ v) ((wr.setCell ⟨w.heap.size,0,none⟩ u).setCell ⟨w.heap.size,1,none⟩ v).heap.size Ao (prs ws os):=fun u v=>by
    unfold PairsAt;rw [← HL.out];exact Reads.of_own (ownsRow_setCell_below (ownsRow_setCell_below HO'.out (by show w.heap.size < _; omega) u) (by show w.heap.size < _; omega) v)
   exact Ql (f:=(0,0)) (g:=w.heap.size) ((HB.out.set_ 0 _).set_ 1 _) rfl rfl rfl rfl (.inr ⟨HX.out,_,_,rfl,hsa _ _,Qw HE.out _ _⟩)
def LatAt (w:World) (g:Nat) (ws:List Wd) (os:List (Wd × Wd)):Prop :=
 ∃ (A:Option Addr) (c gt gr:Nat) (J M:Nat→Nat→Int),LBlk w g (.slice A ws.length c) (.pointer (some ⟨gt,0,none⟩)) (.pointer (some ⟨gr,0,none⟩)) J M∧StrAt w w.heap.size A (nms ws)∧TabAt w gt (nms ws) ∧
  RelAt w gr (RelM.close (newRows ws.length (prs ws os)))∧∀ x y,x < ws.length→y < ws.length→J x y=LatM.joinL ws.length (leqL ws os) x y∧M x y=LatM.joinL ws.length (fun a b=>leqL ws os b a) x y
theorem LatAt.ext {w w':World} {g:Nat} {ws:List Wd} {os:List (Wd × Wd)} (h:LatAt w g ws os) (hE:Ext w w'):LatAt w' g ws os:=by
 obtain ⟨A,c,gt,gr,J,M,h1,h2,h3,h4,h5⟩:=h;exact ⟨A,c,gt,gr,J,M,h1.ext hE,h2.ext hE,h3.ext hE,h4.ext hE,h5⟩
def Qqb (ws:List Wd) (os:List (Wd × Wd)) (w:World) (e:Ending) (w':World):Prop :=
 ((wrongL ws os).1≠0∧e = .returned (.tuple #[.pointer none,fltV (wrongL ws os)])∧Ext w w') ∨
 (wrongL ws os=(0,0)∧∃ g,e = .returned (.tuple #[.pointer (some ⟨g,0,none⟩),fltV (0,0)])∧LatAt w' g ws os∧Ext w w')
theorem Qa8 (w:World) {g i:Nat} {t:TypeId} {cs:Array Value} {v:Value} (h:Blk w g t cs) (hv:cs[i]? = some v):w.setCell ⟨g,i,none⟩ v=w:=by
 have e:cs.setIfInBounds i v=cs:=by
  apply Array.ext_getElem?
  intro j;rw [Array.getElem?_setIfInBounds];by_cases hj:i=j
  ·subst hj;rw [if_pos rfl,hv];obtain ⟨hlt,_⟩:=Array.getElem?_eq_some_iff.1 hv;rw [if_pos hlt]
  ·rw [if_neg hj]
 have hh:(w.setCell ⟨g,i,none⟩ v).heap=w.heap:=by
  apply Array.ext_getElem?
  intro j;by_cases hj:j=g
  ·subst hj;have h1:=h.set_ i v;rw [e] at h1;exact h1.trans h.symm
  ·exact Below.heap_setCell w ⟨g,i,none⟩ v j hj
 have h3:w.setCell ⟨g,i,none⟩ v = { w with heap:=(w.setCell ⟨g,i,none⟩ v).heap }:=rfl;rw [h3,hh]
def LatCells (cs:Array Value) (u v:Value):Prop:=cs.size=2051∧cs[0]? = some u∧cs[1]? = some v∧cs[2]? = some (.pointer none)∧∀ i,i < 2048→cs[3 + i]? = some (.int .i64 0)
theorem LatCells.blk {cs:Array Value} {u v:Value} (h:LatCells cs u v) {w:World} {g:Nat} (hB:Blk w g 119 cs):LBlk w g u v (.pointer none) (fun _ _=>0) fun _ _=>0:=by
 obtain ⟨h1,h2,h3,h4,h5⟩:=h;refine ⟨cs,hB,h1,h2,h3,h4,fun a b ha hb=>?_,fun a b ha hb=>?_⟩
 ·rw [show 3 + a * 32 + b=3 + (a * 32 + b) by omega]; exact h5 _ (by omega)
 ·rw [show 1027 + a * 32 + b=3 + (1024 + a * 32 + b) by omega]; exact h5 _ (by omega)
theorem LBlk.set2 {w:World} {g:Nat} {c0 c1 c2:Value} {J M:Nat→Nat→Int} (h:LBlk w g c0 c1 c2 J M) (u:Value):LBlk (w.setCell ⟨g,2,none⟩ u) g c0 c1 u J M:=by
 obtain ⟨cs,h1,hs,e0,e1,e2,e3,e4⟩:=h;refine ⟨_,h1.set_ _ _,by simp [hs],?_,?_,?_,fun x y hx hy=>?_,fun x y hx hy=>?_⟩
 ·rw [Array.getElem?_setIfInBounds,if_neg (by omega),e0]
 ·rw [Array.getElem?_setIfInBounds,if_neg (by omega),e1]
 ·rw [Array.getElem?_setIfInBounds,if_pos rfl,if_pos (by omega)]
 ·rw [Array.getElem?_setIfInBounds,if_neg (by omega),e3 x y hx hy]
 ·rw [Array.getElem?_setIfInBounds,if_neg (by omega),e4 x y hx hy]
theorem wpList_build_lat {ops:Array Oper} {rest:List Oper} {o:Oper} {a:Act} {w:World} {Q:Exit→Act→World→Prop} (hg:o.guard=none) (x y:Operand) (ho:o.op = .build 119 #[(0,x),(1,y)]) (u v:Value) (hx:a.eval x=u) (hy:a.eval y=v) (hu:u.cells=#[u]) (hv:v.cells=#[v])
  (h:∀ cs:Array Value,Hid (LatCells cs u v)→wpList Tryz.prog ops Q rest (a.put o.dst (.agg cs)) w):wpList Tryz.prog ops Q (o :: rest) a w:=by
 obtain ⟨cs,hb,hcs⟩:=Qp9 u v hu hv;have e:((#[(0,x),(1,y)]:Array (Nat × Operand)).map fun (i,x)=>(i,a.eval x)).toList = [(0,u),(1,v)]:=by simp [hx,hy]
 refine wpList_build hg _ _ ho (by rw [e,hb]; rfl) ?_
 rw [e,hb];exact h cs hcs
theorem Qou (ws:List Wd) (os:List (Wd × Wd)):(Qb0 ws os=(0,0)∧0 < ws.length∧ws.length≤32∧os.length≤256)∨∃ x y,Qb0 ws os=(x,y)∧x≠0∧wrongL ws os=(x,y):=by
 unfold Qb0 wrongL;by_cases c1:ws.length=0
 ·rw [if_pos c1,if_pos c1]; exact .inr ⟨_,_,rfl,by decide,rfl⟩
 rw [if_neg c1,if_neg c1];by_cases c2:32 < ws.length
 ·rw [if_pos c2,if_pos c2]; exact .inr ⟨_,_,rfl,by decide,rfl⟩
 rw [if_neg c2,if_neg c2];by_cases c3:256 < os.length
 ·rw [if_pos c3,if_pos c3]; exact .inr ⟨_,_,rfl,by decide,rfl⟩
 rw [if_neg c3];exact .inl ⟨rfl,by omega,by omega,by omega⟩
theorem Qov {ws:List Wd} {n:Nat} {x:Int × Int} (h:Qf (Q7 ws) n=some x):x.1≠0:=by
 obtain ⟨i,_,hi⟩:=List.exists_of_findSome?_eq_some h;unfold Q7 at hi;split at hi
 ·cases hi; exact show (9:Int)≠0 by decide
 ·split at hi
  ·cases hi; exact show (10:Int)≠0 by decide
  ·cases hi
theorem Qm0 {ws:List Wd} {os:List (Wd × Wd)} {n:Nat} {x:Int × Int} (h:Qf (Q4 ws os) n=some x):x.1≠0:=by
 obtain ⟨i,_,hi⟩:=List.exists_of_findSome?_eq_some h;unfold Q4 at hi;split at hi
 ·cases hi; exact show (17:Int)≠0 by decide
 ·split at hi
  ·cases hi; exact show (17:Int)≠0 by decide
  ·cases hi
theorem Qjv {ws:List Wd} {os:List (Wd × Wd)} (h1:0 < ws.length) (h2:ws.length≤32) (h3:os.length≤256) :
  (∀ x,Qf (Q7 ws) ws.length=some x→wrongL ws os=x) ∧
  (Qf (Q7 ws) ws.length=none→∀ x,Qf (Q4 ws os) os.length=some x→wrongL ws os=x) ∧
  (Qf (Q7 ws) ws.length=none→Qf (Q4 ws os) os.length=none→wrongL ws os=Qb5 ws os):=by
 unfold wrongL;rw [if_neg (by omega),if_neg (by omega),if_neg (by omega)]
 exact ⟨fun x h=>by rw [h],fun h x h'=>by rw [h]; dsimp only; rw [h'],fun h h'=>by rw [h]; dsimp only; rw [h']⟩
theorem LatAt.view {w:World} {g:Nat} {ws:List Wd} {os:List (Wd × Wd)} (h:LatAt w g ws os) :
  ∃ (n:Nat) (A:Option Addr) (c gt gr:Nat),n=ws.length∧w.cell? ⟨g,0,none⟩=some (.slice A n c)∧w.cell? ⟨g,1,none⟩=some (.pointer (some ⟨gt,0,none⟩))∧w.cell? ⟨g,2,none⟩=some (.pointer (some ⟨gr,0,none⟩)) ∧
   StrAt w w.heap.size A (nms ws)∧TabAt w gt (nms ws)∧RelAt w gr (RelM.close (newRows ws.length (prs ws os)))∧g < w.heap.size ∧
   (∀ a b,n≤32→a < n→b < n→w.cell? ⟨g,3 + a * 32 + b,none⟩=some (.int .i64 (LatM.joinL n (leqL ws os) a b))∧w.cell? ⟨g,1027 + a * 32 + b,none⟩=some (.int .i64 (LatM.joinL n (fun a b=>leqL ws os b a) a b))):=by
 obtain ⟨A,c,gt,gr,J,M,h1,h2,h3,h4,h5⟩:=h;exact ⟨ws.length,A,c,gt,gr,rfl,h1.cell0,h1.cell1,h1.cell2,h2,h3,h4,h1.lt,fun a b hn ha hb=>⟨by rw [h1.cellJ (by omega) (by omega),(h5 a b ha hb).1],by rw [h1.cellM (by omega) (by omega),(h5 a b ha hb).2]⟩⟩
theorem Qin (g:Nat) (ws:List Wd) (os:List (Wd × Wd)) (w:World) (h:LatAt w g ws os):Calls Tryz.prog 49 #[.pointer (some ⟨g,0,none⟩)] w (fun e w'=>e = .returned (.int .i64 (ws.length:Int))∧w=w'):=by
 obtain ⟨n,A,c,gt,gr,hn,c0,_⟩:=h.view;rw [← hn];clear hn;go_enter Tryz.func49,Tryz.ntmps49
 go_wp2_with fail
 go_ret
 exact ⟨rfl,rfl⟩
def Qct (n:Nat) (i:Int):Bool:=decide (0≤i∧i < (n:Int))
theorem Qa4 {n k:Nat} (h:k < n):Qct n (k:Int)=true:=by unfold Qct; simp; omega
theorem Qas {n:Nat} {i:Int} (h:i < 0∨(n:Int)≤i):Qct n i=false:=by unfold Qct; simp; omega
theorem Qbs (n:Nat) (i:Int):(∃ k:Nat,i=k∧k < n)∨i < 0∨(n:Int)≤i:=by
 by_cases h:0≤i∧i < (n:Int)
 ·obtain ⟨k,rfl⟩:=Int.eq_ofNat_of_zero_le h.1;exact .inl ⟨k,rfl,by omega⟩
 ·right; omega
theorem Qbt (g:Nat) (ws:List Wd) (os:List (Wd × Wd)) (w:World) (h:LatAt w g ws os) (i:Int):Calls Tryz.prog 51 #[.pointer (some ⟨g,0,none⟩),.int .i64 i] w (fun e w'=>e = .returned (.bool (Qct ws.length i))∧w=w'):=by
 have HL:=hide (Qin g ws os w h);obtain ⟨n,hn⟩:=V1 (ws.length);rw [← hn] at HL ⊢;clear hn h;by_cases h0:0≤i
 ·by_cases h1:i < (n:Int)
  ·obtain ⟨k,rfl⟩:=Int.eq_ofNat_of_zero_le h0;rw [Qa4 (by omega)]
   go_enter Tryz.func51,Tryz.ntmps51
   go_wp2_with fail
   refine HL.out.mono ?_;rintro e w' ⟨rfl,rfl⟩;go_wp2_with fail
   go_ret
   exact ⟨rfl,rfl⟩
  ·rw [Qas (by omega)]
   go_enter Tryz.func51,Tryz.ntmps51
   go_wp2_with fail
   refine HL.out.mono ?_;rintro e w' ⟨rfl,rfl⟩;go_wp2_with fail
   go_ret
   exact ⟨Qb (by simpa using h1),rfl⟩
 ·rw [Qas (by omega)]
  go_enter Tryz.func51,Tryz.ntmps51
  go_wp2_with fail
  go_ret
  exact ⟨rfl,rfl⟩
theorem Qm1 (g:Nat) (ws:List Wd) (os:List (Wd × Wd)) (w:World) (h:LatAt w g ws os) (hn:ws.length≤1000) (s:ByteArray):Calls Tryz.prog 110 #[.pointer (some ⟨g,0,none⟩),.string s] w (fun e w'=>e = .returned (findR (nms ws) s)∧Ext w w'):=by
 obtain ⟨n,A,c,gt,gr,_,_,c1,_,_,hT,_⟩:=h.view;have HF:=hide (Qbh gt (nms ws) s w hT (by rw [nms_length]; omega))
 obtain ⟨x,b,hx⟩:∃ x b,findR (nms ws) s = .tuple #[.int .i64 x,.bool b]:=⟨_,_,rfl⟩;rw [hx] at HF ⊢;clear h hT hx;go_enter Tryz.func110,Tryz.ntmps110
 go_wp2_with fail
 refine HF.out.mono ?_;rintro e w' ⟨rfl,hE⟩;have HE:=hide hE;clear hE;go_wp2_with fail
 go_ret2
 exact ⟨rfl,HE.out⟩
def Qf5 (ws:List Wd) (os:List (Wd × Wd)) (a b:Int):Bool:=Qct ws.length a && Qct ws.length b && leqL ws os a.toNat b.toNat
theorem Qqc {ws:List Wd} {os:List (Wd × Wd)} (hok:Qah ws.length (prs ws os)=true) (a b:Int):Qad (RelM.close (newRows ws.length (prs ws os))) a b=Qf5 ws os a b:=by
 unfold Qf5;rcases Qbs ws.length a with ⟨i,rfl,hi⟩ | ha
 ·rcases Qbs ws.length b with ⟨j,rfl,hj⟩ | hb
  ·rw [Qbz hok i j hi hj,Qa4 hi,Qa4 hj];rfl
  ·rw [Qa4 hi,Qas hb];unfold Qad;rw [RelM.close_length,Q9];simp
   omega
 ·rw [Qas ha];unfold Qad;rw [RelM.close_length,Q9];simp
  omega
theorem Qow (g:Nat) (ws:List Wd) (os:List (Wd × Wd)) (w:World) (h:LatAt w g ws os) (hok:Qah ws.length (prs ws os)=true) (a b:Int):Calls Tryz.prog 22 #[.pointer (some ⟨g,0,none⟩),.int .i64 a,.int .i64 b] w (fun e w'=>e = .returned (.bool (Qf5 ws os a b))∧w=w'):=by
 obtain ⟨HA,HB⟩:=Z2 (Qbt g ws os w h a) (Qbt g ws os w h b);obtain ⟨n,A,c,gt,gr,hn,_,_,c2,_,_,hR,_⟩:=h.view;have hR':=Qdk gr _ w hR a b;rw [Qqc hok] at hR';have HR:=hide hR';obtain ⟨r,hr,x,hx,y,hy⟩:=V3 (Qf5 ws os a b) (Qct ws.length a) (Qct ws.length b);have hxr:x=false→r=false:=fun e=>by rw [hr]; unfold Qf5; rw [← hx,e]; rfl
 have hyr:y=false→r=false:=fun e=>by rw [hr]; unfold Qf5; rw [← hy,e,Bool.and_false]; rfl
 rw [← hr] at HR ⊢;rw [← hx] at HA;rw [← hy] at HB;obtain ⟨HXR,HYR⟩:=Z2 hxr hyr;clear hn hR hR' hr hx hy hxr hyr h hok;cases x with
 | false =>
  obtain rfl:=HXR.out rfl;go_enter Tryz.func22,Tryz.ntmps22
  go_wp2_with fail
  refine HA.out.mono ?_;rintro e w' ⟨rfl,rfl⟩;go_wp2_with fail
  go_ret
  exact ⟨rfl,rfl⟩
 | true =>
  cases y with
  | false =>
   obtain rfl:=HYR.out rfl;go_enter Tryz.func22,Tryz.ntmps22
   go_wp2_with fail
   refine HA.out.mono ?_;rintro e w' ⟨rfl,rfl⟩;go_wp2_with fail
   refine HB.out.mono ?_;rintro e w' ⟨rfl,rfl⟩;go_wp2_with fail
   go_ret
   exact ⟨rfl,rfl⟩
  | true =>
   go_enter Tryz.func22,Tryz.ntmps22
   go_wp2_with fail
   refine HA.out.mono ?_;rintro e w' ⟨rfl,rfl⟩;go_wp2_with fail
   refine HB.out.mono ?_;rintro e w' ⟨rfl,rfl⟩;go_wp2_with fail
   refine HR.out.mono ?_;rintro e w' ⟨rfl,rfl⟩;go_wp2_with fail
   go_ret
   exact ⟨rfl,rfl⟩
def Qgz (n:Nat) (L:Nat→Nat→Bool) (a b:Int):Int:=if Qct n a && Qct n b then LatM.joinL n L a.toNat b.toNat else -1
theorem Qc3 {n:Nat} {L:Nat→Nat→Bool} {a b:Nat} (ha:a < n) (hb:b < n):Qgz n L a b=LatM.joinL n L a b:=by
 unfold Qgz;rw [Qa4 ha,Qa4 hb,Bool.and_self,if_pos rfl,Int.toNat_natCast,Int.toNat_natCast]
theorem Qeg {n:Nat} {L:Nat→Nat→Bool} {a b:Int} (h:Qct n a=false∨Qct n b=false):Qgz n L a b = -1:=by
 unfold Qgz;rw [if_neg];rcases h with h | h <;> rw [h] <;> simp
def Qeh (L:Nat→Nat→Bool):Nat→Nat→Bool:=fun a b=>L b a
set_option maxRecDepth 100000 in
theorem Qhe (g:Nat) (ws:List Wd) (os:List (Wd × Wd)) (w:World) (h:LatAt w g ws os) (h32:ws.length≤32) (a b:Int):Calls Tryz.prog 46 #[.pointer (some ⟨g,0,none⟩),.int .i64 a,.int .i64 b] w (fun e w'=>e = .returned (.int .i64 (Qgz ws.length (leqL ws os) a b))∧w=w'):=by
 obtain ⟨HA,HB⟩:=Z2 (Qbt g ws os w h a) (Qbt g ws os w h b);obtain ⟨n,A,c,gt,gr,hn,_,_,_,_,_,_,hg,hJ⟩:=h.view;rw [← hn] at HA HB h32 ⊢;clear h hn;rcases Qbs n a with ⟨i,rfl,hi⟩ | ha
 ·rw [Qa4 hi] at HA;rcases Qbs n b with ⟨j,rfl,hj⟩ | hb
  ·rw [Qa4 hj] at HB;rw [Qc3 hi hj];have q1:=(hJ i j h32 hi hj).1;have i0:=nZ i;have i1:(i:Int) < 32:=by omega
   have i2:=nZ j;have i3:(j:Int) < 32:=by omega
   obtain ⟨r,hr⟩:=V1 (LatM.joinL n (leqL ws os) i j);rw [show LatM.joinL n (leqL ws os) i j=r from hr.symm] at q1
   rw [← hr];clear hJ hr;go_enter Tryz.func46,Tryz.ntmps46
   go_wp2_with fail
   refine HA.out.mono ?_;rintro e w' ⟨rfl,rfl⟩;go_wp2_with fail
   refine HB.out.mono ?_;rintro e w' ⟨rfl,rfl⟩;go_wp2_with fail
   go_ret
   exact ⟨rfl,rfl⟩
  ·rw [Qas hb] at HB;rw [Qeg (.inr (Qas hb))];clear hJ hb;go_enter Tryz.func46,Tryz.ntmps46
   go_wp2_with fail
   refine HA.out.mono ?_;rintro e w' ⟨rfl,rfl⟩;go_wp2_with fail
   refine HB.out.mono ?_;rintro e w' ⟨rfl,rfl⟩;go_wp2_with fail
   go_ret
   exact ⟨rfl,rfl⟩
 ·rw [Qas ha] at HA;rw [Qeg (.inl (Qas ha))];clear hJ ha;go_enter Tryz.func46,Tryz.ntmps46
  go_wp2_with fail
  refine HA.out.mono ?_;rintro e w' ⟨rfl,rfl⟩;go_wp2_with fail
  go_ret
  exact ⟨rfl,rfl⟩
set_option maxRecDepth 100000 in
theorem Qm2 (g:Nat) (ws:List Wd) (os:List (Wd × Wd)) (w:World) (h:LatAt w g ws os) (h32:ws.length≤32) (a b:Int):Calls Tryz.prog 50 #[.pointer (some ⟨g,0,none⟩),.int .i64 a,.int .i64 b] w (fun e w'=>e = .returned (.int .i64 (Qgz ws.length (Qeh (leqL ws os)) a b))∧w=w'):=by
 obtain ⟨HA,HB⟩:=Z2 (Qbt g ws os w h a) (Qbt g ws os w h b);obtain ⟨n,A,c,gt,gr,hn,_,_,_,_,_,_,hg,hJ⟩:=h.view;rw [← hn] at HA HB h32 ⊢;clear h hn;rcases Qbs n a with ⟨i,rfl,hi⟩ | ha
 ·rw [Qa4 hi] at HA;rcases Qbs n b with ⟨j,rfl,hj⟩ | hb
  ·rw [Qa4 hj] at HB;rw [Qc3 hi hj];have q1:=(hJ i j h32 hi hj).2;have i0:=nZ i;have i1:(i:Int) < 32:=by omega
   have i2:=nZ j;have i3:(j:Int) < 32:=by omega
   obtain ⟨r,hr⟩:=V1 (LatM.joinL n (Qeh (leqL ws os)) i j);rw [show LatM.joinL n (fun a b=>leqL ws os b a) i j=r from hr.symm] at q1
   rw [← hr];clear hJ hr;go_enter Tryz.func50,Tryz.ntmps50
   go_wp2_with fail
   refine HA.out.mono ?_;rintro e w' ⟨rfl,rfl⟩;go_wp2_with fail
   refine HB.out.mono ?_;rintro e w' ⟨rfl,rfl⟩;go_wp2_with fail
   go_ret
   exact ⟨rfl,rfl⟩
  ·rw [Qas hb] at HB;rw [Qeg (.inr (Qas hb))];clear hJ hb;go_enter Tryz.func50,Tryz.ntmps50
   go_wp2_with fail
   refine HA.out.mono ?_;rintro e w' ⟨rfl,rfl⟩;go_wp2_with fail
   refine HB.out.mono ?_;rintro e w' ⟨rfl,rfl⟩;go_wp2_with fail
   go_ret
   exact ⟨rfl,rfl⟩
 ·rw [Qas ha] at HA;rw [Qeg (.inl (Qas ha))];clear hJ ha;go_enter Tryz.func50,Tryz.ntmps50
  go_wp2_with fail
  refine HA.out.mono ?_;rintro e w' ⟨rfl,rfl⟩;go_wp2_with fail
  go_ret
  exact ⟨rfl,rfl⟩
set_option maxRecDepth 100000 in
theorem Qft (g:Nat) (ws:List Wd) (os:List (Wd × Wd)) (w:World) (h:LatAt w g ws os) (h32:ws.length≤32) (hL:LatM.Lat ws.length (Qeh (leqL ws os))):Calls Tryz.prog 20 #[.pointer (some ⟨g,0,none⟩)] w (fun e w'=>e = .returned (.int .i64 ((LatM.topN ws.length (Qeh (leqL ws os)):Nat):Int))∧w=w'):=by
 obtain ⟨HLN,HJ,HL⟩:=Z3 (Qin g ws os w h) (fun a b=>Qm2 g ws os w h h32 a b) hL
 obtain ⟨n,hn,L,hLe⟩:=V2 (ws.length) ((Qeh (leqL ws os)));have hn0:=hL.some;rw [← hn] at HLN HJ HL h32 hn0 ⊢;rw [← hLe] at HJ HL ⊢;clear hn h hLe hL;have h0:((n:Int) == 0)=false:=by rw [beq_eq_false_iff_ne]; omega
 go_enter Tryz.func20,Tryz.ntmps20
 go_wp2_with fail
 refine HLN.out.mono ?_;rintro e w' ⟨rfl,rfl⟩;go_wp2_with fail
 refine HLN.out.mono ?_;rintro e w' ⟨rfl,rfl⟩;go_wp2_with fail
 go_loopw [10,3] (fun i o wr=>∃ k t:Nat,k≤n∧i = .int .i64 (k:Int)∧o = .int .i64 (t:Int)∧w=wr∧Hid (t=LatM.topTo n L k)) (fun i _ _=>n - (intOf i).toNat)
 case atStart=>exact ⟨0,0,Nat.zero_le _,rfl,rfl,rfl,rfl⟩
 case round =>
  obtain ⟨k,t,hk,rfl,rfl,rfl,HT⟩:=hrel;by_cases hlt:k < n
  ·have hj:=HJ.out (t:Int) (k:Int);have htn:t < n:=by rw [HT.out]; exact (LatM.topTo_facts HL.out k (by omega)).1
   obtain ⟨e1,e2⟩:=LatM.jn_eq HL.out htn hlt;rw [Qc3 htn hlt,e1] at hj;have HJJ:=hide hj;have HT2:=hide (show LatM.jn n L t k=LatM.topTo n L (k + 1) by rw [HT.out]; rfl)
   obtain ⟨u,hu⟩:=V1 (LatM.jn n L t k);rw [← hu] at HJJ HT2;clear hj e1 e2 hu;go_wp2_with fail
   refine HJJ.out.mono ?_;rintro e w' ⟨rfl,rfl⟩;go_wp2_with fail
   go_roundw
   case rel=>exact ⟨k + 1,u,by omega,by go_num,rfl,by trivial,HT2⟩
   case measure=>simp [intOf]; omega
  ·obtain rfl:k=n:=by omega
   go_wp2_with fail
   go_ret
   exact ⟨Qq (by rw [HT.out]; rfl),rfl⟩
theorem wpList_append_Nat (w:World) {ops:Array Oper} {rest:List Oper} {o:Oper} {a:Act} {Q:Exit→Act→World→Prop} (hgd:o.guard=none) (s x:Operand)
  (ho:o.op = .call { callee:=.builtin .append,args:=#[s,x],argTypes:=#[58,58] })
  (base:Nat) (v:Value) (n:Nat) (l:List Nat) (hs:a.eval s=v) (g:Nat) (u:Nat) (c:Nat) (hx:a.eval x = .slice (some ⟨g,0,none⟩) 1 c)
  (hown:w.ownsRow base 3 1 v n (natCells l)) (hr:Reads w (g + 1) 1 (some ⟨g,0,none⟩) 1 [.int .i64 (u:Int)]) (hn:n≤1073741823) (hbase:base≤w.heap.size)
  (h:∀ A' c' w',w'.ownsRow base 3 1 (.slice A' (n + 1) c') (n + 1) (natCells (l ++ [u]))→w.grownBy w' v.ownBlock→(Value.ownBlock (.slice A' (n + 1) c')=v.ownBlock∨Value.ownBlock (.slice A' (n + 1) c')=some w.heap.size)→wpList Tryz.prog ops Q rest (a.put o.dst (.slice A' (n + 1) c')) w'):wpList Tryz.prog ops Q (o :: rest) a w:=by
 obtain ⟨i0,hi,hz,hs2,hb⟩:=info_int;have e:natCells (l ++ [u])=natCells l ++ [.int .i64 (u:Int)]:=by simp [natCells]
 rw [e] at h;exact Qcc w hgd s x 58 ho base 3 i0 _ 8 Tryz.underlying58 hi hz hs2 hb rfl v n (natCells l) hs g (.int .i64 (u:Int)) c hx rfl hn (by decide) hown hr hbase h
end Go.Proofs.YtanpljalbijfkaaGreat
