/- . -/
import Derived.Test.YtanpljalbijfkaaGreatQ07
namespace Go.Proofs.YtanpljalbijfkaaGreat.LatM
structure Po (n:Nat) (M:Nat→Nat→Bool):Prop where
 refl:∀ a,a < n→M a a=true
 trans:∀ a b c,a < n→b < n→c < n→M a b=true→M b c=true→M a c=true
 anti:∀ a b,a < n→b < n→M a b=true→M b a=true→a=b
theorem Po.turn {n:Nat} {M:Nat→Nat→Bool} (h:Po n M):Po n (fun a b=>M b a) :=
 ⟨h.refl,fun a b c ha hb hc h1 h2=>h.trans c b a hc hb ha h2 h1,fun a b ha hb h1 h2=>h.anti a b ha hb h2 h1⟩
def isBest (n:Nat) (I:Nat→Bool) (M:Nat→Nat→Bool) (c:Nat):Bool:=I c && (List.range n).all fun d=>!I d || M c d
theorem isBest_iff {n:Nat} {I:Nat→Bool} {M:Nat→Nat→Bool} {c:Nat} : isBest n I M c=true↔I c=true∧∀ d,d < n→I d=true→M c d=true:=by
 unfold isBest;rw [Bool.and_eq_true,List.all_eq_true];constructor
 ·rintro ⟨h1,h2⟩;exact ⟨h1,fun d hd hi=>by simpa [hi] using h2 d (List.mem_range.2 hd)⟩
 ·rintro ⟨h1,h2⟩;refine ⟨h1,fun d hd=>?_⟩
  cases hi:I d with
  | false=>rfl
  | true=>simp [h2 d (List.mem_range.1 hd) hi]
def bestL (n:Nat) (I:Nat→Bool) (M:Nat→Nat→Bool):Int:=match (List.range n).find? (isBest n I M) with | some c=>(c:Int) | none=>-1
theorem bestL_hit {n:Nat} {I:Nat→Bool} {M:Nat→Nat→Bool} (h:Po n M) {c:Nat} (hc:c < n) (hb:isBest n I M c=true):bestL n I M=c:=by
 unfold bestL;cases hf:(List.range n).find? (isBest n I M) with
 | none =>
  rw [List.find?_eq_none] at hf;exact absurd hb (by simpa using hf c (List.mem_range.2 hc))
 | some d =>
  have hd:=List.find?_some hf;have hdn:=List.mem_range.1 (List.mem_of_find?_eq_some hf);obtain ⟨h1,h2⟩:=isBest_iff.1 hb;obtain ⟨h3,h4⟩:=isBest_iff.1 hd;rw [h.anti d c hdn hc (h4 c hc h1) (h2 d hdn h3)]
theorem bestL_miss {n:Nat} {I:Nat→Bool} {M:Nat→Nat→Bool} (h:∀ c,c < n→isBest n I M c=false):bestL n I M = -1:=by
 unfold bestL;have:(List.range n).find? (isBest n I M)=none:=by
  rw [List.find?_eq_none];intro c hc;simp [h c (List.mem_range.1 hc)]
 rw [this]
theorem bestL_cases (n:Nat) (I:Nat→Bool) (M:Nat→Nat→Bool):bestL n I M = -1∨∃ c,c < n∧bestL n I M=(c:Int)∧isBest n I M c=true:=by
 unfold bestL;cases hf:(List.range n).find? (isBest n I M) with
 | none=>exact .inl rfl
 | some d=>exact .inr ⟨d,List.mem_range.1 (List.mem_of_find?_eq_some hf),rfl,List.find?_some hf⟩
theorem bestL_first {n:Nat} {I:Nat→Bool} {M:Nat→Nat→Bool} {c:Nat} (hc:c < n) (hb:isBest n I M c=true) (h0:∀ j,j < c→isBest n I M j=false):bestL n I M=c:=by
 unfold bestL;have:(List.range n).find? (isBest n I M)=some c:=by
  rw [List.find?_range_eq_some];exact ⟨hb,List.mem_range.2 hc,fun j hj=>by rw [h0 j hj]; rfl⟩
 rw [this]
def pass (I:Nat→Bool) (M:Nat→Nat→Bool):Nat→Int
 | 0=>-1
 | c + 1=>if I c=true∧(pass I M c = -1∨M c (pass I M c).toNat=true) then (c:Int) else pass I M c
theorem pass_in {I:Nat→Bool} {M:Nat→Nat→Bool} (k:Nat):pass I M k = -1∨∃ c:Nat,c < k∧pass I M k=c∧I c=true:=by
 induction k with
 | zero=>exact .inl rfl
 | succ k ih =>
  unfold pass;split
  ·next h=>exact .inr ⟨k,by omega,rfl,h.1⟩
  ·rcases ih with h | ⟨c,hc,h,hi⟩
   ·exact .inl h
   ·exact .inr ⟨c,by omega,h,hi⟩
theorem pass_best {n:Nat} {I:Nat→Bool} {M:Nat→Nat→Bool} (h:Po n M) {m:Nat} (hm:m < n) (hb:isBest n I M m=true) (k:Nat) (hk:k≤n) (hmk:m < k):pass I M k=m:=by
 obtain ⟨h1,h2⟩:=isBest_iff.1 hb;induction k with
 | zero=>omega
 | succ k ih =>
  unfold pass;by_cases e:m=k
  ·subst e;rw [if_pos];refine ⟨h1,?_⟩;rcases pass_in (I:=I) (M:=M) m with h3 | ⟨c,hc,h3,hi⟩
   ·exact .inl h3
   ·right; rw [h3]; exact h2 c (by omega) hi
  ·rw [ih (by omega) (by omega)]
   rw [if_neg];rintro ⟨h3,h4 | h4⟩
   ·omega
   ·rw [Int.toNat_natCast] at h4;exact e (h.anti m k hm (by omega) (h2 k (by omega) h3) h4)
theorem pass_end {n:Nat} {I:Nat→Bool} {M:Nat→Nat→Bool} (h:Po n M) (r:Int) (hr:r=pass I M n) :
  (r = -1→bestL n I M = -1)∧(∀ c:Nat,r=c→c < n∧I c=true)∧((∀ d:Nat,d < n→I d=true→M r.toNat d=true)→bestL n I M=r)∧(∀ d:Nat,d < n→I d=true→M r.toNat d=false→bestL n I M = -1):=by
 have hbest:∀ c,c < n→isBest n I M c=true→r=c:=fun c hc hb=>by rw [hr]; exact pass_best h hc hb n nL hc
 have hin:=pass_in (I:=I) (M:=M) n;rw [← hr] at hin;refine ⟨fun e=>bestL_miss fun c hc=>?_,fun c e=>?_,fun hd=>?_,fun d hd hi hf=>bestL_miss fun c hc=>?_⟩
 ·cases hb:isBest n I M c with
  | false=>rfl
  | true=>have:=hbest c hc hb; omega
 ·rcases hin with h1 | ⟨c',h1,h2,h3⟩
  ·omega
  ·obtain rfl:c=c':=by omega
   exact ⟨h1,h3⟩
 ·rcases hin with h1 | ⟨c,h1,h2,h3⟩
  ·rw [h1];refine bestL_miss fun c hc=>?_
   cases hb:isBest n I M c with
   | false=>rfl
   | true=>have:=hbest c hc hb; omega
  ·rw [h2] at hd ⊢;exact bestL_hit h h1 (isBest_iff.2 ⟨h3,by simpa using hd⟩)
 ·cases hb:isBest n I M c with
  | false=>rfl
  | true =>
   have e:=hbest c hc hb;rw [e,Int.toNat_natCast] at hf;rw [(isBest_iff.1 hb).2 d hd hi] at hf;cases hf
def joinL (n:Nat) (M:Nat→Nat→Bool) (a b:Nat):Int:=bestL n (fun c=>M a c && M b c) M
theorem joinL_comm (n:Nat) (M:Nat→Nat→Bool) (a b:Nat):joinL n M a b=joinL n M b a:=by
 unfold joinL;have:(fun c=>M a c && M b c)=fun c=>M b c && M a c:=funext fun c=>Bool.and_comm ..
 rw [this]
theorem joinL_self {n:Nat} {M:Nat→Nat→Bool} (h:Po n M) {a:Nat} (ha:a < n):joinL n M a a=a :=
 bestL_hit h ha (isBest_iff.2 ⟨by simp [h.refl a ha],fun d _ hi=>by simpa using hi⟩)
theorem joinL_iff {n:Nat} {M:Nat→Nat→Bool} (h:Po n M) {a b j:Nat} (ha:a < n) (hb:b < n) (hj:j < n):joinL n M a b=j↔∀ c,c < n→(M j c=true↔M a c=true∧M b c=true):=by
 constructor
 ·intro e c hc;rcases bestL_cases n (fun c=>M a c && M b c) M with h1 | ⟨j',hj',h1,h2⟩
  ·unfold joinL at e; omega
  ·obtain rfl:j=j':=by unfold joinL at e; omega
   obtain ⟨h3,h4⟩:=isBest_iff.1 h2;rw [Bool.and_eq_true] at h3;constructor
   ·intro h5;exact ⟨h.trans a j c ha hj hc h3.1 h5,h.trans b j c hb hj hc h3.2 h5⟩
   ·intro h5;exact h4 c hc (by simp [h5])
 ·intro h1;have h2:=(h1 j hj).1 (h.refl j hj);refine bestL_hit h hj (isBest_iff.2 ⟨by simp [h2],fun d hd hi=>?_⟩)
  rw [Bool.and_eq_true] at hi;exact (h1 d hd).2 hi
def lacks (n:Nat) (M:Nat→Nat→Bool) (b:Nat):Bool:=(List.range b).any fun a=>decide (joinL n M a b < 0) || decide (joinL n (fun x y=>M y x) a b < 0)
def boundsL (n:Nat) (M:Nat→Nat→Bool):Int:=match (List.range n).find? (lacks n M) with | some b=>(b:Int) | none=>-1
theorem lacks_iff {n:Nat} {M:Nat→Nat→Bool} {b:Nat} : lacks n M b=true↔∃ a,a < b∧(joinL n M a b < 0∨joinL n (fun x y=>M y x) a b < 0):=by
 unfold lacks;simp [List.any_eq_true]
theorem boundsL_hit {n:Nat} {M:Nat→Nat→Bool} {b:Nat} (hb:b < n) (h:lacks n M b=true) (h0:∀ j,j < b→lacks n M j=false):boundsL n M=b:=by
 unfold boundsL;have:(List.range n).find? (lacks n M)=some b:=by
  rw [List.find?_range_eq_some];exact ⟨h,List.mem_range.2 hb,fun j hj=>by rw [h0 j hj]; rfl⟩
 rw [this]
theorem boundsL_miss {n:Nat} {M:Nat→Nat→Bool} (h0:∀ j,j < n→lacks n M j=false):boundsL n M = -1:=by
 unfold boundsL;have:(List.range n).find? (lacks n M)=none:=by
  rw [List.find?_eq_none];intro c hc;simp [h0 c (List.mem_range.1 hc)]
 rw [this]
structure Lat (n:Nat) (M:Nat→Nat→Bool):Prop where
 po:Po n M
 some:0 < n
 join:∀ a b,a < n→b < n→∃ j:Nat,j < n∧joinL n M a b=j
 meet:∀ a b,a < n→b < n→∃ j:Nat,j < n∧joinL n (fun x y=>M y x) a b=j
theorem lat_of {n:Nat} {M:Nat→Nat→Bool} (h:Po n M) (hn:0 < n) (h0:∀ j,j < n→lacks n M j=false):Lat n M:=by
 have key:∀ (N:Nat→Nat→Bool),Po n N→(∀ a b,a < b→b < n→¬ joinL n N a b < 0)→∀ a b,a < n→b < n→∃ j:Nat,j < n∧joinL n N a b=j:=by
  intro N hN hk a b ha hb;have h1:¬ joinL n N a b < 0:=by
   rcases Nat.lt_trichotomy a b with h | h | h
   ·exact hk a b h hb
   ·subst h; rw [joinL_self hN ha]; omega
   ·rw [joinL_comm]; exact hk b a h ha
  rcases bestL_cases n (fun c=>N a c && N b c) N with h2 | ⟨j,hj,h2,_⟩
  ·exact absurd (show joinL n N a b < 0 by unfold joinL; omega) h1
  ·exact ⟨j,hj,h2⟩
 refine ⟨h,hn,key M h fun a b hab hb hl=>?_,key _ h.turn fun a b hab hb hl=>?_⟩
 ·have:=lacks_iff.2 ⟨a,hab,.inl hl⟩
  rw [h0 b hb] at this; cases this
 ·have:=lacks_iff.2 ⟨a,hab,.inr hl⟩
  rw [h0 b hb] at this; cases this
end Go.Proofs.YtanpljalbijfkaaGreat.LatM
namespace Go.Proofs.YtanpljalbijfkaaGreat
open Go.RowKit
set_option maxHeartbeats 16000000
def LBlk (w:World) (g:Nat) (c0 c1 c2:Value) (J M:Nat→Nat→Int):Prop :=
 ∃ cs:Array Value,Blk w g 119 cs∧cs.size=2051∧cs[0]? = some c0∧cs[1]? = some c1∧cs[2]? = some c2 ∧
  (∀ a b,a < 32→b < 32→cs[3 + a * 32 + b]? = some (.int .i64 (J a b)))∧∀ a b,a < 32→b < 32→cs[1027 + a * 32 + b]? = some (.int .i64 (M a b))
def upd (J:Nat→Nat→Int) (a b:Nat) (v:Int):Nat→Nat→Int:=fun x y=>if x=a∧y=b then v else J x y
theorem Qjs {a b x y:Nat} (hb:b < 32) (hy:y < 32) (h:a * 32 + b=x * 32 + y):x=a∧y=b:=by omega
section
variable {w w':World} {g:Nat} {c0 c1 c2:Value} {J M:Nat→Nat→Int}
theorem LBlk.lt (h:LBlk w g c0 c1 c2 J M):g < w.heap.size:=by obtain ⟨cs,h1,_⟩:=h; exact h1.lt
theorem LBlk.free (h:LBlk w g c0 c1 c2 J M) (i:Nat):w.frozen? ⟨g,i,none⟩=false:=by obtain ⟨cs,h1,_⟩:=h; exact h1.free i
theorem LBlk.cell0 (h:LBlk w g c0 c1 c2 J M):w.cell? ⟨g,0,none⟩=some c0:=by obtain ⟨cs,h1,_,h2,_⟩:=h; rw [h1.cell]; exact h2
theorem LBlk.cell1 (h:LBlk w g c0 c1 c2 J M):w.cell? ⟨g,1,none⟩=some c1:=by obtain ⟨cs,h1,_,_,h2,_⟩:=h; rw [h1.cell]; exact h2
theorem LBlk.cell2 (h:LBlk w g c0 c1 c2 J M):w.cell? ⟨g,2,none⟩=some c2:=by obtain ⟨cs,h1,_,_,_,h2,_⟩:=h; rw [h1.cell]; exact h2
theorem LBlk.cellJ (h:LBlk w g c0 c1 c2 J M) {a b:Nat} (ha:a < 32) (hb:b < 32):w.cell? ⟨g,3 + a * 32 + b,none⟩=some (.int .i64 (J a b)):=by obtain ⟨cs,h1,_,_,_,_,h2,_⟩:=h; rw [h1.cell]; exact h2 a b ha hb
theorem LBlk.cellM (h:LBlk w g c0 c1 c2 J M) {a b:Nat} (ha:a < 32) (hb:b < 32):w.cell? ⟨g,1027 + a * 32 + b,none⟩=some (.int .i64 (M a b)):=by obtain ⟨cs,h1,_,_,_,_,_,h2⟩:=h; rw [h1.cell]; exact h2 a b ha hb
theorem LBlk.setJ (h:LBlk w g c0 c1 c2 J M) {a b:Nat} (ha:a < 32) (hb:b < 32) (v:Int):LBlk (w.setCell ⟨g,3 + a * 32 + b,none⟩ (.int .i64 v)) g c0 c1 c2 (upd J a b v) M:=by
 obtain ⟨cs,h1,hs,e0,e1,e2,e3,e4⟩:=h;refine ⟨_,h1.set_ _ _,by simp [hs],?_,?_,?_,fun x y hx hy=>?_,fun x y hx hy=>?_⟩
 ·rw [Array.getElem?_setIfInBounds,if_neg (by omega),e0]
 ·rw [Array.getElem?_setIfInBounds,if_neg (by omega),e1]
 ·rw [Array.getElem?_setIfInBounds,if_neg (by omega),e2]
 ·rw [Array.getElem?_setIfInBounds];unfold upd;by_cases e:x=a∧y=b
  ·rw [if_pos (by rw [e.1,e.2]),if_pos (by omega),if_pos e]
  ·rw [if_neg (fun h=>e (Qjs hb hy (by omega))),if_neg e,e3 x y hx hy]
 ·rw [Array.getElem?_setIfInBounds,if_neg (by omega),e4 x y hx hy]
theorem LBlk.setM (h:LBlk w g c0 c1 c2 J M) {a b:Nat} (ha:a < 32) (hb:b < 32) (v:Int):LBlk (w.setCell ⟨g,1027 + a * 32 + b,none⟩ (.int .i64 v)) g c0 c1 c2 J (upd M a b v):=by
 obtain ⟨cs,h1,hs,e0,e1,e2,e3,e4⟩:=h;refine ⟨_,h1.set_ _ _,by simp [hs],?_,?_,?_,fun x y hx hy=>?_,fun x y hx hy=>?_⟩
 ·rw [Array.getElem?_setIfInBounds,if_neg (by omega),e0]
 ·rw [Array.getElem?_setIfInBounds,if_neg (by omega),e1]
 ·rw [Array.getElem?_setIfInBounds,if_neg (by omega),e2]
 ·rw [Array.getElem?_setIfInBounds,if_neg (by omega),e3 x y hx hy]
 ·rw [Array.getElem?_setIfInBounds];unfold upd;by_cases e:x=a∧y=b
  ·rw [if_pos (by rw [e.1,e.2]),if_pos (by omega),if_pos e]
  ·rw [if_neg (fun h=>e (Qjs hb hy (by omega))),if_neg e,e4 x y hx hy]
theorem LBlk.of_block (h:LBlk w g c0 c1 c2 J M) (hb:w'.heap[g]? = w.heap[g]?):LBlk w' g c0 c1 c2 J M:=by
 obtain ⟨cs,h1,h2⟩:=h;exact ⟨cs,hb.trans h1,h2⟩
theorem LBlk.ext (h:LBlk w g c0 c1 c2 J M) (hE:Ext w w'):LBlk w' g c0 c1 c2 J M:=h.of_block (hE.block g h.lt)
theorem Blk.new_eq (w:World) (t:TypeId) (cs:Array Value) {g:Nat} (h:g=w.heap.size):Blk (w.alloc (.cells cs t)) g t cs:=by subst h; exact Blk.new w t cs
theorem Blk.of_block {t:TypeId} {cs:Array Value} (h:Blk w g t cs) (hb:w'.heap[g]? = w.heap[g]?):Blk w' g t cs:=hb.trans h
theorem RelAt.kept {gr:Nat} {rs:List Nat} {t:TypeId} {cs:Array Value} (hr:RelAt w gr rs) (hB:Blk w g t cs) (n1:t≠160) (n2:t≠157) (hb:∀ k,k < w.heap.size→k≠g→w'.heap[k]? = w.heap[k]?):RelAt w' gr rs:=by
 obtain ⟨A,c,h1,h2,h3,h4⟩:=hr;have ne1:gr≠g:=by
  rintro rfl;unfold Blk at h1 hB;rw [h1] at hB;injection hB with hB
  injection hB with _ hB
  exact n1 hB.symm
 refine ⟨A,c,h1.of_block (hb gr h1.lt ne1),⟨h2.1,?_⟩,h3,h4⟩;rcases h2.2 with h5 | ⟨b,cap,cur,hv,hg,hh,r⟩
 ·exact .inl h5
 ·have ne2:b≠g:=by
   rintro rfl;unfold Blk at hB;rw [hh] at hB;injection hB with hB
   injection hB with _ hB
   exact n2 hB.symm
  exact .inr ⟨b,cap,cur,hv,hg,by rw [hb b (h2.lt b (by rw [hv]; rfl)).2 ne2]; exact hh,r⟩
end
structure BMem (w:World) (g gr:Nat) (rs:List Nat) (c0 c1:Value) (J M:Nat→Nat→Int) (wr:World):Prop where
 grown:w.grownBy wr (some g)
 t:Blk wr w.heap.size 59 #[.pointer (some ⟨g,0,none⟩)]
 d:Blk wr (w.heap.size + 1) 62 #[.func (.func 101) #[] #[.pointer (some ⟨w.heap.size,0,none⟩)]]
 u:Blk wr (w.heap.size + 2) 62 #[.func (.func 102) #[] #[.pointer (some ⟨w.heap.size,0,none⟩)]]
 l:LBlk wr g c0 c1 (.pointer (some ⟨gr,0,none⟩)) J M
 r:RelAt wr gr rs
 lt:g < w.heap.size
section
variable {w wr w':World} {g gr:Nat} {rs:List Nat} {c0 c1:Value} {J M:Nat→Nat→Int}
theorem BMem.keep (h:BMem w g gr rs c0 c1 J M wr) (hg:wr.grownBy w' none):BMem w g gr rs c0 c1 J M w':=by
 have hE:=ext_of_grown hg;exact ⟨h.grown.trans (hg.but _),h.t.ext hE,h.d.ext hE,h.u.ext hE,h.l.ext hE,h.r.ext hE,h.lt⟩
theorem BMem.alloc (h:BMem w g gr rs c0 c1 J M wr) (o:Obj):BMem w g gr rs c0 c1 J M (wr.alloc o):=h.keep (World.grownBy_alloc wr o _)
theorem BMem.drew (h:BMem w g gr rs c0 c1 J M wr):BMem w g gr rs c0 c1 J M wr.drew:=h.keep (Qbl (Ext.rfl' wr).drew' _)
theorem Qij {b:Nat} (wr:World) (p:Addr) (u:Value) (hp:p.block=b):wr.grownBy (wr.setCell p u) (some b):=by
 subst hp;exact ⟨rfl,rfl,rfl,by simp,fun k _ hk=>Below.heap_setCell wr p u k (fun e=>hk (by rw [e]))⟩
theorem BMem.cell (h:BMem w g gr rs c0 c1 J M wr) (i:Nat) (u:Value) {J' M':Nat→Nat→Int} (hL:LBlk (wr.setCell ⟨g,i,none⟩ u) g c0 c1 (.pointer (some ⟨gr,0,none⟩)) J' M'):BMem w g gr rs c0 c1 J' M' (wr.setCell ⟨g,i,none⟩ u):=by
 have hl:=h.lt;refine ⟨h.grown.trans (Qij wr _ u rfl),h.t.far (by show _≠g; omega) _,h.d.far (by show _≠g; omega) _,h.u.far (by show _≠g; omega) _,hL,?_,hl⟩
 obtain ⟨cs,hB,_⟩:=h.l;exact h.r.kept hB (by decide) (by decide) (fun k _ hk=>Below.heap_setCell wr _ u k hk)
theorem BMem.setJ (h:BMem w g gr rs c0 c1 J M wr) {a b:Nat} (ha:a < 32) (hb:b < 32) (v:Int):BMem w g gr rs c0 c1 (upd J a b v) M (wr.setCell ⟨g,3 + a * 32 + b,none⟩ (.int .i64 v)):=h.cell _ _ (h.l.setJ ha hb v)
theorem BMem.setM (h:BMem w g gr rs c0 c1 J M wr) {a b:Nat} (ha:a < 32) (hb:b < 32) (v:Int):BMem w g gr rs c0 c1 J (upd M a b v) (wr.setCell ⟨g,1027 + a * 32 + b,none⟩ (.int .i64 v)):=h.cell _ _ (h.l.setM ha hb v)
def DoneTo (F:Nat→Nat→Int) (J:Nat→Nat→Int) (b a:Nat):Prop:=∀ x y,(x < b∧y < b)∨(y=b∧x < a)∨(x=b∧y < a)→J x y=F x y
theorem DoneTo.step {F J:Nat→Nat→Int} {b a:Nat} (h:DoneTo F J b a) (hc:F a b=F b a):DoneTo F (upd (upd J a b (F a b)) b a (F a b)) b (a + 1)∧DoneTo F (upd (upd J b a (F a b)) a b (F a b)) b (a + 1):=by
 constructor
 all_goals
  intro x y hxy;unfold upd;split
  ·next e=>rw [e.1,e.2]; try exact hc
  ·next e1 =>
   split
   ·next e=>rw [e.1,e.2]; try exact hc
   ·next e2=>exact h x y (by omega)
theorem DoneTo.next {F J:Nat→Nat→Int} {b:Nat} (h:DoneTo F J b (b + 1)):DoneTo F J (b + 1) 0:=fun x y hxy=>h x y (by omega)
end
theorem Qhr (Bt gl gr:Nat) (rs:List Nat) (w:World) (x y:Int) (ht:w.cell? ⟨Bt,0,none⟩=some (.pointer (some ⟨gl,0,none⟩))) (hl:w.cell? ⟨gl,2,none⟩=some (.pointer (some ⟨gr,0,none⟩))) (hr:RelAt w gr rs) :
  Calls Tryz.prog 101 #[.int .i64 x,.int .i64 y,.pointer (some ⟨Bt,0,none⟩)] w (fun e w'=>e = .returned (.bool (Qad rs x y))∧w=w'):=by
 have HH:=hide (Qdk gr rs w hr x y);obtain ⟨r,hr2⟩:=V1 (Qad rs x y);rw [← hr2] at HH ⊢;clear hr hr2;go_enter Tryz.func101,Tryz.ntmps101
 go_wp2_with fail
 refine HH.out.mono ?_;rintro e w' ⟨rfl,rfl⟩;go_wp2_with fail
 go_ret
 exact ⟨rfl,rfl⟩
theorem Qk6 (Bt gl gr:Nat) (rs:List Nat) (w:World) (x y:Int) (ht:w.cell? ⟨Bt,0,none⟩=some (.pointer (some ⟨gl,0,none⟩))) (hl:w.cell? ⟨gl,2,none⟩=some (.pointer (some ⟨gr,0,none⟩))) (hr:RelAt w gr rs) :
  Calls Tryz.prog 102 #[.int .i64 x,.int .i64 y,.pointer (some ⟨Bt,0,none⟩)] w (fun e w'=>e = .returned (.bool (Qad rs y x))∧w=w'):=by
 have HH:=hide (Qdk gr rs w hr y x);obtain ⟨r,hr2⟩:=V1 (Qad rs y x);rw [← hr2] at HH ⊢;clear hr hr2;go_enter Tryz.func102,Tryz.ntmps102
 go_wp2_with fail
 refine HH.out.mono ?_;rintro e w' ⟨rfl,rfl⟩;go_wp2_with fail
 go_ret
 exact ⟨rfl,rfl⟩
theorem Qoo (Bd Ba Bb Bt gl gr:Nat) (rs:List Nat) (w:World) (a b c:Int) (hd:w.cell? ⟨Bd,0,none⟩=some (.func (.func 101) #[] #[.pointer (some ⟨Bt,0,none⟩)])) (ha:w.cell? ⟨Ba,0,none⟩=some (.int .i64 a)) (hb:w.cell? ⟨Bb,0,none⟩=some (.int .i64 b))
  (ht:w.cell? ⟨Bt,0,none⟩=some (.pointer (some ⟨gl,0,none⟩))) (hl:w.cell? ⟨gl,2,none⟩=some (.pointer (some ⟨gr,0,none⟩))) (hr:RelAt w gr rs) :
  Calls Tryz.prog 104 #[.int .i64 c,.pointer (some ⟨Bd,0,none⟩),.pointer (some ⟨Ba,0,none⟩),.pointer (some ⟨Bb,0,none⟩)] w (fun e w'=>e = .returned (.bool (Qad rs a c && Qad rs b c))∧w=w'):=by
 obtain ⟨H1,H2⟩:=Z2 (Qhr Bt gl gr rs w a c ht hl hr) (Qhr Bt gl gr rs w b c ht hl hr);obtain ⟨r1,hr1,r2,hr2⟩:=V2 (Qad rs a c) (Qad rs b c);rw [← hr1] at H1 ⊢;rw [← hr2] at H2 ⊢;clear hr hr1 hr2 ht hl;cases r1 with
 | false =>
  go_enter Tryz.func104,Tryz.ntmps104
  go_wp2_with fail
  refine H1.out.mono ?_;rintro e w' ⟨rfl,rfl⟩;go_wp2_with fail
  go_ret
  exact ⟨rfl,rfl⟩
 | true =>
  go_enter Tryz.func104,Tryz.ntmps104
  go_wp2_with fail
  refine H1.out.mono ?_;rintro e w' ⟨rfl,rfl⟩;go_wp2_with fail
  refine H2.out.mono ?_;rintro e w' ⟨rfl,rfl⟩;go_wp2_with fail
  go_ret
  exact ⟨rfl,rfl⟩
theorem Qsf (Bd Ba Bb Bt gl gr:Nat) (rs:List Nat) (w:World) (a b c:Int) (hd:w.cell? ⟨Bd,0,none⟩=some (.func (.func 102) #[] #[.pointer (some ⟨Bt,0,none⟩)])) (ha:w.cell? ⟨Ba,0,none⟩=some (.int .i64 a)) (hb:w.cell? ⟨Bb,0,none⟩=some (.int .i64 b))
  (ht:w.cell? ⟨Bt,0,none⟩=some (.pointer (some ⟨gl,0,none⟩))) (hl:w.cell? ⟨gl,2,none⟩=some (.pointer (some ⟨gr,0,none⟩))) (hr:RelAt w gr rs) :
  Calls Tryz.prog 105 #[.int .i64 c,.pointer (some ⟨Bd,0,none⟩),.pointer (some ⟨Ba,0,none⟩),.pointer (some ⟨Bb,0,none⟩)] w (fun e w'=>e = .returned (.bool (Qad rs c a && Qad rs c b))∧w=w'):=by
 obtain ⟨H1,H2⟩:=Z2 (Qk6 Bt gl gr rs w a c ht hl hr) (Qk6 Bt gl gr rs w b c ht hl hr);obtain ⟨r1,hr1,r2,hr2⟩:=V2 (Qad rs c a) (Qad rs c b);rw [← hr1] at H1 ⊢;rw [← hr2] at H2 ⊢;clear hr hr1 hr2 ht hl;cases r1 with
 | false =>
  go_enter Tryz.func105,Tryz.ntmps105
  go_wp2_with fail
  refine H1.out.mono ?_;rintro e w' ⟨rfl,rfl⟩;go_wp2_with fail
  go_ret
  exact ⟨rfl,rfl⟩
 | true =>
  go_enter Tryz.func105,Tryz.ntmps105
  go_wp2_with fail
  refine H1.out.mono ?_;rintro e w' ⟨rfl,rfl⟩;go_wp2_with fail
  refine H2.out.mono ?_;rintro e w' ⟨rfl,rfl⟩;go_wp2_with fail
  go_ret
  exact ⟨rfl,rfl⟩
set_option maxRecDepth 100000 in
theorem Qk7 (g n cn:Nat) (An:Option Addr) (p1 p2 p3 p4:Value) (I:Nat→Bool) (M:Nat→Nat→Bool) (w:World) (hc:w.cell? ⟨g,0,none⟩=some (.slice An n cn)) (hn:n≤1000) (hM:LatM.Po n M)
  (hin:∀ c:Nat,c < n→Calls Tryz.prog 104 #[.int .i64 (c:Int),p1,p2,p3] w (fun e w'=>e = .returned (.bool (I c))∧w=w'))
  (hbe:∀ a b:Nat,a < n→b < n→Calls Tryz.prog 101 #[.int .i64 (a:Int),.int .i64 (b:Int),p4] w (fun e w'=>e = .returned (.bool (M a b))∧w=w')) :
  Calls Tryz.prog 103 #[.pointer (some ⟨g,0,none⟩),.func (.func 104) #[] #[p1,p2,p3],.func (.func 101) #[] #[p4]] w (fun e w'=>e = .returned (.int .i64 (LatM.bestL n I M))∧w=w'):=by
 obtain ⟨HIN,HBE,HM⟩:=Z3 hin hbe hM;clear hin hbe hM;go_enter Tryz.func103,Tryz.ntmps103
 go_wp2_with fail
 go_loopw [15,7] (fun i o wr=>∃ (k:Nat) (r:Int),k≤n∧i = .int .i64 k∧o = .int .i64 r∧w=wr∧Hid (r=LatM.pass I M k)) (fun i _ _=>n - (intOf i).toNat)
 case atStart=>exact ⟨0,-1,Nat.zero_le _,rfl,rfl,rfl,rfl⟩
 case round =>
  obtain ⟨k,r,hk,rfl,rfl,rfl,HR⟩:=hrel;by_cases hlt:k < n
  ·have hI:=HIN.out k hlt;obtain ⟨v,hv⟩:=V1 (I k);rw [← hv] at hI;obtain ⟨HI,HV⟩:=Z2 hI hv;clear hI hv;cases v with
   | false =>
    have HP:=hide (show r=LatM.pass I M (k + 1) by rw [LatM.pass,if_neg (by rw [← HV.out]; simp)]; exact HR.out)
    go_wp2_with fail
    refine HI.out.mono ?_;rintro e w' ⟨rfl,rfl⟩;go_wp2_with fail
    go_roundw
    case rel=>exact ⟨k + 1,r,by omega,by go_num,rfl,by trivial,HP⟩
    case measure=>simp [intOf]; omega
   | true =>
    rcases LatM.pass_in (I:=I) (M:=M) k with h1 | ⟨c,hc',h1,_⟩
    ·obtain rfl:r = -1:=HR.out.trans h1;have HP:=hide (show (k:Int)=LatM.pass I M (k + 1) by rw [LatM.pass,if_pos ⟨HV.out.symm,.inl h1⟩])
     clear h1 HR;go_wp2_with fail
     refine HI.out.mono ?_;rintro e w' ⟨rfl,rfl⟩;go_wp2_with fail
     go_roundw
     case rel=>exact ⟨k + 1,k,by omega,by go_num,rfl,by trivial,HP⟩
     case measure=>simp [intOf]; omega
    ·obtain rfl:r=(c:Int):=HR.out.trans h1;have hB:=HBE.out k c hlt (by omega)
     obtain ⟨u,hu⟩:=V1 (M k c);rw [← hu] at hB;obtain ⟨HB,HU,HC⟩:=Z3 hB hu h1;clear hB hu h1;cases u with
     | true =>
      have HP:=hide (show (k:Int)=LatM.pass I M (k + 1) by rw [LatM.pass,if_pos ⟨HV.out.symm,.inr (by rw [HC.out,Int.toNat_natCast]; exact HU.out.symm)⟩])
      go_wp2_with fail
      refine HI.out.mono ?_;rintro e w' ⟨rfl,rfl⟩;go_wp2_with fail
      refine HB.out.mono ?_;rintro e w' ⟨rfl,rfl⟩;go_wp2_with fail
      go_roundw
      case rel=>exact ⟨k + 1,k,by omega,by go_num,rfl,by trivial,HP⟩
      case measure=>simp [intOf]; omega
     | false =>
      have HP:=hide (show (c:Int)=LatM.pass I M (k + 1) by rw [LatM.pass,if_neg (by rw [HC.out,Int.toNat_natCast,← HU.out]; simp)]; exact HC.out.symm)
      go_wp2_with fail
      refine HI.out.mono ?_;rintro e w' ⟨rfl,rfl⟩;go_wp2_with fail
      refine HB.out.mono ?_;rintro e w' ⟨rfl,rfl⟩;go_wp2_with fail
      go_roundw
      case rel=>exact ⟨k + 1,c,by omega,by go_num,rfl,by trivial,HP⟩
      case measure=>simp [intOf]; omega
  ·obtain rfl:k=n:=by omega
   have HPE:=hide (LatM.pass_end HM.out r HR.out);have hcs:=LatM.pass_in (I:=I) (M:=M) k;rw [← HR.out] at hcs;clear HR;rcases hcs with h1 | ⟨c,_,h1,_⟩
   ·subst h1;have HQ:=hide (HPE.out.1 rfl);clear HPE;go_wp2_with fail
    go_loopw [38] (fun i wr=>∃ d:Nat,d≤k∧i = .int .i64 d∧w=wr) (fun i _=>k - (intOf i).toNat)
    case atStart=>exact ⟨0,Nat.zero_le _,rfl,rfl⟩
    case round =>
     obtain ⟨d,hd,rfl,rfl⟩:=hrel;by_cases hdl:d < k
     ·go_wp2_with fail
      go_roundw
      case rel=>exact ⟨d + 1,by omega,by go_num,by trivial⟩
      case measure=>simp [intOf]; omega
     ·obtain rfl:d=k:=by omega
      go_wp2_with fail
      go_ret
      exact ⟨Qq HQ.out.symm,rfl⟩
   ·subst h1;obtain ⟨hcn,_⟩:=HPE.out.2.1 c rfl;have h3:=HPE.out.2.2.1;have h4:=HPE.out.2.2.2;rw [Int.toNat_natCast] at h3 h4;obtain ⟨HC3,HC4,HBC⟩:=Z3 h3 h4 (fun d hd=>HBE.out c d hcn hd)
    clear HPE h3 h4 HBE;go_wp2_with fail
    go_loopw [38] (fun i wr=>∃ d:Nat,d≤k∧i = .int .i64 d∧w=wr∧Hid (∀ x,x < d→I x=true→M c x=true)) (fun i _=>k - (intOf i).toNat)
    case atStart=>exact ⟨0,Nat.zero_le _,rfl,rfl,fun x hx=>absurd hx (by omega)⟩
    case round =>
     obtain ⟨d,hd,rfl,rfl,HD⟩:=hrel;by_cases hdl:d < k
     ·have hI:=HIN.out d hdl;obtain ⟨v,hv⟩:=V1 (I d);rw [← hv] at hI;obtain ⟨HI,HV⟩:=Z2 hI hv;clear hI hv;cases v with
      | false =>
       have HD2:=hide (below_step (P:=fun x=>I x=true→M c x=true) HD.out (by rw [← HV.out]; intro h; cases h))
       clear HD;go_wp2_with fail
       refine HI.out.mono ?_;rintro e w' ⟨rfl,rfl⟩;go_wp2_with fail
       go_roundw
       case rel=>exact ⟨d + 1,by omega,by go_num,by trivial,HD2⟩
       case measure=>simp [intOf]; omega
      | true =>
       have hB:=HBC.out d hdl;obtain ⟨u,hu⟩:=V1 (M c d);rw [← hu] at hB;obtain ⟨HB,HU⟩:=Z2 hB hu;clear hB hu;cases u with
       | true =>
        have HD2:=hide (below_step (P:=fun x=>I x=true→M c x=true) HD.out (fun _=>HU.out.symm))
        clear HD;go_wp2_with fail
        refine HI.out.mono ?_;rintro e w' ⟨rfl,rfl⟩;go_wp2_with fail
        refine HB.out.mono ?_;rintro e w' ⟨rfl,rfl⟩;go_wp2_with fail
        go_roundw
        case rel=>exact ⟨d + 1,by omega,by go_num,by trivial,HD2⟩
        case measure=>simp [intOf]; omega
       | false =>
        have HQ:=hide (HC4.out d hdl HV.out.symm HU.out.symm);clear HD;go_wp2_with fail
        refine HI.out.mono ?_;rintro e w' ⟨rfl,rfl⟩;go_wp2_with fail
        refine HB.out.mono ?_;rintro e w' ⟨rfl,rfl⟩;go_wp2_with fail
        go_ret
        exact ⟨Qq HQ.out.symm,rfl⟩
     ·obtain rfl:d=k:=by omega
      have HQ:=hide (HC3.out HD.out);clear HD;go_wp2_with fail
      go_ret
      exact ⟨Qq HQ.out.symm,rfl⟩
end Go.Proofs.YtanpljalbijfkaaGreat
