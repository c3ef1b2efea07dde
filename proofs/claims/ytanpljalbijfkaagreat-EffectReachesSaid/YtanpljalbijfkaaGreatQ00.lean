/- . -/
import Derived.WalkKit
import Derived.WalkSpells
import Derived.WalkLawsBesides
import Derived.Deep.AppendLies
import Derived.Deep.Draws
import Derived.Maps.AppendAt
import Derived.RegionTactic
import Derived.Deep.QuietTactic
import Derived.BigQuiet
import Derived.StillTailTactics
import Derived.Deep.DeepCutAuto
import Derived.ScopeJumps
import Derived.Test.YtanpljalbijfkaaGreatRows
import Derived.Lib.Strings
import Derived.StillTail
namespace Go.Proofs.YtanpljalbijfkaaGreat
open Go.RowKit
set_option maxHeartbeats 16000000
theorem gA {α:Type _} {l:List α} {i:Nat} : l.toArray[i]? = l[i]?:=List.getElem?_toArray
theorem gH {α:Type _} {a:α} {l:List α} : (a :: l)[0]? = some a:=List.getElem?_cons_zero
theorem gS {α:Type _} {a:α} {l:List α} {i:Nat} : (a :: l)[i + 1]? = l[i]?:=List.getElem?_cons_succ
theorem gB {α:Type _} {l:List α} {i:Nat} (h:i < l.toArray.size):l.toArray[i]=l[i]'(by simpa using h):=List.getElem_toArray h
theorem gC {α:Type _} {a:α} {l:List α} {i:Nat} (h:i + 1 < (a :: l).length):(a :: l)[i + 1]=l[i]'(by simpa using h):=List.getElem_cons_succ ..
theorem gD {α:Type _} {a:α} {l:List α} (h:0 < (a :: l).length):(a :: l)[0]=a:=List.getElem_cons_zero ..
theorem gE {α:Type _} {l:List α} {i:Nat} {a:α} : l.toArray.setIfInBounds i a=(l.set i a).toArray:=List.setIfInBounds_toArray ..
theorem gF {α:Type _} {x a:α} {l:List α} : (x :: l).set 0 a=a :: l:=List.set_cons_zero ..
theorem gG {α:Type _} {x a:α} {l:List α} {i:Nat} : (x :: l).set (i + 1) a=x :: l.set i a:=List.set_cons_succ ..
theorem nL {n:Nat} : n≤n:=Nat.le_refl n
theorem V1 {α:Sort _} (a:α):∃ x,x=a:=⟨a,rfl⟩
theorem V2 {α0:Sort _} {α1:Sort _} (a0:α0) (a1:α1):∃ x0,x0=a0∧∃ x1,x1=a1:=⟨_,rfl,_,rfl⟩
theorem V3 {α0:Sort _} {α1:Sort _} {α2:Sort _} (a0:α0) (a1:α1) (a2:α2):∃ x0,x0=a0∧∃ x1,x1=a1∧∃ x2,x2=a2:=⟨_,rfl,_,rfl,_,rfl⟩
theorem V4 {α0:Sort _} {α1:Sort _} {α2:Sort _} {α3:Sort _} (a0:α0) (a1:α1) (a2:α2) (a3:α3):∃ x0,x0=a0∧∃ x1,x1=a1∧∃ x2,x2=a2∧∃ x3,x3=a3:=⟨_,rfl,_,rfl,_,rfl,_,rfl⟩
theorem V5 {α0:Sort _} {α1:Sort _} {α2:Sort _} {α3:Sort _} {α4:Sort _} (a0:α0) (a1:α1) (a2:α2) (a3:α3) (a4:α4):∃ x0,x0=a0∧∃ x1,x1=a1∧∃ x2,x2=a2∧∃ x3,x3=a3∧∃ x4,x4=a4:=⟨_,rfl,_,rfl,_,rfl,_,rfl,_,rfl⟩
theorem V6 {α0:Sort _} {α1:Sort _} {α2:Sort _} {α3:Sort _} {α4:Sort _} {α5:Sort _} (a0:α0) (a1:α1) (a2:α2) (a3:α3) (a4:α4) (a5:α5):∃ x0,x0=a0∧∃ x1,x1=a1∧∃ x2,x2=a2∧∃ x3,x3=a3∧∃ x4,x4=a4∧∃ x5,x5=a5:=⟨_,rfl,_,rfl,_,rfl,_,rfl,_,rfl,_,rfl⟩

theorem Qdh {P:Program} {f:FuncId} {args:Array Value} {w:World} {n:Nat} {v:Value}
  (h:Calls P f args (w.drewN n) fun e w'=>e = .returned v∧w.drewN n=w'):Calls P f args (w.drewN n) fun e w''=>e = .returned v∧∃ m,w''=w.drewN m :=
 h.mono fun _ _ ⟨he,hm⟩=>⟨he,n,hm.symm⟩
theorem hide {p:Prop} (h:p):Hid p:=h
theorem Qb {a b:Bool} (h:a=b):Ending.returned (.bool a) = .returned (.bool b):=by rw [h]
theorem Qq {k:IntKind} {a b:Int} (h:a=b):Ending.returned (.int k a) = .returned (.int k b):=by rw [h]
theorem Qnx (r m:Nat) (hr:r < 18446744073709551616):(bits .and .u64 ((r:Int) / 2 ^ m) 1 == 1)=r.testBit m:=by
 have e:((r:Int) / 2 ^ m)=((r / 2 ^ m:Nat):Int):=by simp
 have hq:r / 2 ^ m≤r:=Nat.div_le_self _ _;rw [e,and_one_u64 _ (Int.natCast_nonneg _) (by omega),Nat.testBit_eq_decide_div_mod_eq,Bool.eq_iff_iff]
 simp only [beq_iff_eq,decide_eq_true_eq];omega
theorem Qkt (x k:Nat) (hx:x < 18446744073709551616) (hk:k < 64):bits .or .u64 (x:Int) (IntKind.u64.wrap (2 ^ k))=((x ||| 1 <<< k:Nat):Int):=by
 have h2:2 ^ k < 18446744073709551616:=Nat.lt_of_lt_of_le (Nat.pow_lt_pow_right (by omega) hk) (by decide)
 have e:IntKind.u64.wrap (2 ^ k)=((2 ^ k:Nat):Int):=by
  rw [show ((2:Int) ^ k)=((2 ^ k:Nat):Int) by simp]
  generalize 2 ^ k=m at h2 ⊢
  exact IntWalk.u64_in _ (by omega)
 rw [e,u64_or_nat x (2 ^ k) hx h2,Nat.one_shiftLeft]
abbrev Ext (w w':World):Prop:=Below w.heap.size w w'
theorem Ext.rfl' (w:World):Ext w w:=Below.refl _ _
theorem Ext.trans' {a b c:World} (h:Ext a b) (k:Ext b c):Ext a c:=h.trans (k.mono h.size)
theorem Ext.drew' {a b:World} (h:Ext a b):Ext a b.drew:=h.drew
theorem below_drewN {B:Nat} {a w:World} (h:Below B a w) (n:Nat):Below B a (w.drewN n):=⟨h.os,h.tape,h.output,h.size,h.block⟩
def Blk (w:World) (g:Nat) (t:TypeId) (cs:Array Value):Prop:=w.heap[g]? = some (.cells cs t (0,0))
section
variable {w w':World} {g:Nat} {t:TypeId} {cs:Array Value}
theorem Blk.lt (h:Blk w g t cs):g < w.heap.size:=by
 rcases Nat.lt_or_ge g w.heap.size with hlt | hge
 ·exact hlt
 ·unfold Blk at h; rw [Array.getElem?_eq_none hge] at h; cases h
theorem Blk.cell (h:Blk w g t cs) (i:Nat):w.cell? ⟨g,i,none⟩=cs[i]?:=cell_of_row w g i cs t (0,0) h
theorem Blk.free (h:Blk w g t cs) (i:Nat):w.frozen? ⟨g,i,none⟩=false:=by
 unfold Blk at h;simp [World.frozen?,h]
theorem Blk.new (w:World) (t:TypeId) (cs:Array Value):Blk (w.alloc (.cells cs t)) w.heap.size t cs:=heap_alloc_new w _
theorem Blk.drewN (h:Blk w g t cs) (n:Nat):Blk (w.drewN n) g t cs:=h
theorem Blk.alloc (h:Blk w g t cs) (o:Obj):Blk (w.alloc o) g t cs:=(Below.heap_alloc w o g h.lt).trans h
theorem Blk.set_ (h:Blk w g t cs) (i:Nat) (u:Value):Blk (w.setCell ⟨g,i,none⟩ u) g t (cs.setIfInBounds i u):=by
 unfold Blk at h ⊢;simp [World.setCell,Array.getElem?_modify,h]
theorem Blk.far (h:Blk w g t cs) {p:Addr} (hp:g≠p.block) (u:Value):Blk (w.setCell p u) g t cs:=(Below.heap_setCell w p u g hp).trans h
theorem Blk.below {B:Nat} (h:Blk w g t cs) (hb:Below B w w') (hg:g < B):Blk w' g t cs:=(hb.block g hg).trans h
theorem Blk.ext (h:Blk w g t cs) (hb:Ext w w'):Blk w' g t cs:=h.below hb h.lt
theorem Blk.grown {row:Option Nat} (h:Blk w g t cs) (hb:w.grownBy w' row) (hg:some g≠row):Blk w' g t cs:=(hb.block g h.lt hg).trans h
end
theorem Qbk (a:Addr) (n:Nat):(a.add n).block=a.block:=by unfold Addr.add; split <;> rfl
def Reads (w:World) (B size:Nat) (A:Option Addr) (n:Nat) (xs:List Value):Prop :=
 xs.length=n * size∧(0 < n→∃ ad,A=some ad∧ad.block < B∧∀ j u,xs[j]? = some u→w.cell? (ad.add j)=some u)
section
variable {w w':World} {B B' size n:Nat} {A:Option Addr} {xs:List Value}
theorem Reads.none_:Reads w B size A 0 []:=⟨by simp,fun h=>absurd h (by omega)⟩
theorem Reads.keep (h:Reads w B size A n xs) (hk:∀ p:Addr,p.block < B→w'.cell? p=w.cell? p):Reads w' B size A n xs :=
 ⟨h.1,fun hn=>by
  obtain ⟨ad,e,hb,hc⟩:=h.2 hn;exact ⟨ad,e,hb,fun j u hu=>(hk _ (by rw [Qbk]; exact hb)).trans (hc j u hu)⟩⟩
theorem Reads.more (h:Reads w B size A n xs) (hB:B≤B'):Reads w B' size A n xs :=
 ⟨h.1,fun hn=>by
  obtain ⟨ad,e,hb,hc⟩:=h.2 hn;exact ⟨ad,e,by omega,hc⟩⟩
theorem Reads.drew (h:Reads w B size A n xs):Reads w.drew B size A n xs:=h
theorem Reads.of_own {base:Nat} {e:TypeId} {c:Nat} (h:w.ownsRow base e size (.slice A n c) n xs):Reads w w.heap.size size A n xs:=by
 refine ⟨h.1,fun hn=>?_⟩
 obtain ⟨g,cap,hv,_,hlt⟩:=h.form hn;have hA:A=some ⟨g,0,none⟩:=by injection hv
 subst hA;exact ⟨_,rfl,hlt,h.cells (g:=g) rfl⟩
end
section
variable {P:Program} (w:World)
theorem Qg4 (base:Nat) (t ty e:TypeId) (i:TypeInfo) (size:Nat) (ht:P.underlying t=some (.slice e)) (hi:P.info? e=some i)
  (v:Value) (n:Nat) (xs:List Value) (hown:w.ownsRow base e size v n xs) (c:Nat):(Builtin.append_ #[t,t] ty #[v,.slice none 0 c]).run P w = .ok v w:=by
 rcases hown.2 with ⟨rfl,rfl⟩ | ⟨g,cap,cur,rfl,_,_,hnc,_⟩
 ·simp [Builtin.append_,run_underlying ht,sizeOf,typeInfo,hi,Builtin.lenOf,Builtin.firstCells]
 ·simp [Builtin.append_,run_underlying ht,sizeOf,typeInfo,hi,Builtin.lenOf,Builtin.firstCells,hnc,storeCells]
theorem Qjb (base:Nat) (t ty e:TypeId) (i:TypeInfo) (z:Value) (size bytes:Nat) (ht:P.underlying t=some (.slice e)) (hi:P.info? e=some i) (hz:i.zero=some z)
  (hsize:i.size=size) (hby:i.bytes=bytes) (hzs:z.cells.size=size) (hsz:0 < size)
  (v:Value) (n:Nat) (xs:List Value) (hown:w.ownsRow base e size v n xs)
  (B:Nat) (A:Option Addr) (m c:Nat) (news:List Value) (hr:Reads w B size A m news) (h1:∀ u ∈ news,u.oneCell'=true)
  (h63:n + m≤maxLen) (hbytes:(n + m) * bytes≤140737488355328) (hbase:base≤w.heap.size) :
  ∃ v' w',(Builtin.append_ #[t,t] ty #[v,.slice A m c]).run P w = .ok v' w'∧w'.ownsRow base e size v' (n + m) (xs ++ news)∧w.grownBy w' v.ownBlock ∧
   (v'.ownBlock=v.ownBlock∨v'.ownBlock=some w.heap.size):=by
 rcases A with _ | ad
 ·have hm:m=0:=by
   rcases Nat.eq_zero_or_pos m with h0 | h0
   ·exact h0
   ·obtain ⟨ad,h,_⟩:=hr.2 h0;cases h
  subst hm;have hn:news = []:=List.eq_nil_of_length_eq_zero (by simpa using hr.1)
  subst hn;exact ⟨v,w,Qg4 w base t ty e i size ht hi v n xs hown c,by simpa using hown,World.grownBy.refl w _,.inl rfl⟩
 ·have hcells:∀ j u,news[j]? = some u→w.cell? (ad.add j)=some u:=by
   intro j u hu;rcases Nat.eq_zero_or_pos m with h0 | h0
   ·subst h0;have hn:news = []:=List.eq_nil_of_length_eq_zero (by simpa using hr.1)
    subst hn;simp at hu
   ·obtain ⟨ad',h,_,hc⟩:=hr.2 h0;injection h with h
    subst h;exact hc j u hu
  obtain ⟨v',w',hrun,h2,h3,_,h5⟩:=run_append_own_at (P:=P) w base t ty e i z size bytes ht hi hz hsize hby hzs hsz v n xs hown ad m c news hr.1 hcells h1 h63 hbytes hbase;exact ⟨v',w',hrun,h2,h3,h5⟩
theorem Qar {o:Oper} {a:Act} {K:Act→World→Prop} {Q:Exit→Act→World→Prop} (s x:Operand) (t:TypeId)
  (ho:o.op = .call { callee:=.builtin .append,args:=#[s,x],argTypes:=#[t,t] })
  (base:Nat) (e:TypeId) (i:TypeInfo) (z:Value) (size bytes:Nat) (ht:P.underlying t=some (.slice e)) (hi:P.info? e=some i) (hz:i.zero=some z)
  (hsize:i.size=size) (hby:i.bytes=bytes) (hzs:z.cells.size=size) (hsz:0 < size)
  (v:Value) (n:Nat) (xs:List Value) (hs:a.eval s=v) (hown:w.ownsRow base e size v n xs)
  (B:Nat) (A:Option Addr) (m c:Nat) (news:List Value) (hx:a.eval x = .slice A m c) (hr:Reads w B size A m news) (h1:∀ u ∈ news,u.oneCell'=true)
  (h63:n + m≤maxLen) (hbytes:(n + m) * bytes≤140737488355328) (hbase:base≤w.heap.size)
  (h:∀ v' w',w'.ownsRow base e size v' (n + m) (xs ++ news)→w.grownBy w' v.ownBlock→(v'.ownBlock=v.ownBlock∨v'.ownBlock=some w.heap.size)→K (a.put o.dst v') w'):o.wp P a w K Q:=by
 obtain ⟨v',w',hrun,h2,h3,h4⟩:=Qjb (P:=P) w base t o.type e i z size bytes ht hi hz hsize hby hzs hsz v n xs hown B A m c news hr h1 h63 hbytes hbase;unfold Oper.wp execOp;simp only [ho,resolve,invoke,builtin,Sem.run_bind,Sem.run_pure,Result.andThen_ok,List.map_toArray,List.map_cons,List.map_nil,hs,hx,hrun];exact h v' w' h2 h3 h4
theorem Qg5 {ops:Array Oper} {rest:List Oper} {o:Oper} {a:Act} {Q:Exit→Act→World→Prop} (hgd:o.guard=none) (s x:Operand) (t:TypeId)
  (ho:o.op = .call { callee:=.builtin .append,args:=#[s,x],argTypes:=#[t,t] })
  (base:Nat) (e:TypeId) (i:TypeInfo) (z:Value) (size bytes:Nat) (ht:P.underlying t=some (.slice e)) (hi:P.info? e=some i) (hz:i.zero=some z)
  (hsize:i.size=size) (hby:i.bytes=bytes) (hzs:z.cells.size=size) (hsz:0 < size)
  (v:Value) (n:Nat) (xs:List Value) (hs:a.eval s=v) (hown:w.ownsRow base e size v n xs)
  (B:Nat) (A:Option Addr) (m c:Nat) (news:List Value) (hx:a.eval x = .slice A m c) (hr:Reads w B size A m news) (h1:∀ u ∈ news,u.oneCell'=true)
  (h63:n + m≤maxLen) (hbytes:(n + m) * bytes≤140737488355328) (hbase:base≤w.heap.size)
  (h:∀ v' w',w'.ownsRow base e size v' (n + m) (xs ++ news)→w.grownBy w' v.ownBlock→(v'.ownBlock=v.ownBlock∨v'.ownBlock=some w.heap.size)→wpList P ops Q rest (a.put o.dst v') w'):wpList P ops Q (o :: rest) a w :=
 wpList_plain hgd fun _ hK=>Qar w s x t ho base e i z size bytes ht hi hz hsize hby hzs hsz v n xs hs hown B A m c news hx hr h1 h63 hbytes hbase fun v' w' h2 h3 h4=>hK _ _ (h v' w' h2 h3 h4)
theorem Qec {ops:Array Oper} {o:Oper} {a:Act} {K:Act→World→Prop} {Q:Exit→Act→World→Prop} {E:Prop} (hgd:o.guard=none) (s x:Operand) (t:TypeId)
  (ho:o.op = .call { callee:=.builtin .append,args:=#[s,x],argTypes:=#[t,t] })
  (base:Nat) (e:TypeId) (i:TypeInfo) (z:Value) (size bytes:Nat) (ht:P.underlying t=some (.slice e)) (hi:P.info? e=some i) (hz:i.zero=some z)
  (hsize:i.size=size) (hby:i.bytes=bytes) (hzs:z.cells.size=size) (hsz:0 < size)
  (v:Value) (n:Nat) (xs:List Value) (hs:a.eval s=v) (hown:w.ownsRow base e size v n xs)
  (B:Nat) (A:Option Addr) (m c:Nat) (news:List Value) (hx:a.eval x = .slice A m c) (hr:Reads w B size A m news) (h1:∀ u ∈ news,u.oneCell'=true)
  (h63:n + m≤maxLen) (hbytes:(n + m) * bytes≤140737488355328) (hbase:base≤w.heap.size)
  (h:∀ v' w',w'.ownsRow base e size v' (n + m) (xs ++ news)→w.grownBy w' v.ownBlock→(v'.ownBlock=v.ownBlock∨v'.ownBlock=some w.heap.size)→K (a.put o.dst v') w') :
  if Region.wanted o (yielded ops a.tmps)=true then Oper.wp P o a w K Q else E:=by
 have hw:Region.wanted o (yielded ops a.tmps)=true:=by simp [Region.wanted,hgd]
 rw [if_pos hw];exact Qar w s x t ho base e i z size bytes ht hi hz hsize hby hzs hsz v n xs hs hown B A m c news hx hr h1 h63 hbytes hbase h
end
theorem Qp {P:Program} (w:World) {ops:Array Oper} {rest:List Oper} {o:Oper} {a:Act} {Q:Exit→Act→World→Prop} (hgd:o.guard=none) (s x:Operand) (t:TypeId)
  (ho:o.op = .call { callee:=.builtin .append,args:=#[s,x],argTypes:=#[t,t] })
  (base:Nat) (e:TypeId) (i:TypeInfo) (z:Value) (size bytes:Nat) (ht:P.underlying t=some (.slice e)) (hi:P.info? e=some i) (hz:i.zero=some z)
  (hsize:i.size=size) (hby:i.bytes=bytes) (hzs:z.cells.size=size) (hsz:0 < size)
  (v:Value) (n:Nat) (xs:List Value) (hs:a.eval s=v) (hown:w.ownsRow base e size v n xs)
  (B:Nat) (A:Option Addr) (m c:Nat) (news:List Value) (hx:a.eval x = .slice A m c) (hr:Reads w B size A m news) (h1:∀ u ∈ news,u.oneCell'=true)
  (h63:n + m≤maxLen) (hbytes:(n + m) * bytes≤140737488355328) (hbase:base≤w.heap.size)
  (h:∀ A' c' w',w'.ownsRow base e size (.slice A' (n + m) c') (n + m) (xs ++ news)→w.grownBy w' v.ownBlock→(Value.ownBlock (.slice A' (n + m) c')=v.ownBlock∨Value.ownBlock (.slice A' (n + m) c')=some w.heap.size)→wpList P ops Q rest (a.put o.dst (.slice A' (n + m) c')) w'):wpList P ops Q (o :: rest) a w :=
 Qg5 w hgd s x t ho base e i z size bytes ht hi hz hsize hby hzs hsz v n xs hs hown B A m c news hx hr h1 h63 hbytes hbase (fun v' w' h2 h3 h4=>by
  have hv:∃ A' c',v' = .slice A' (n + m) c':=by
   rcases h2.2 with ⟨e,h0⟩ | ⟨g,cap,cur,e,_⟩
   ·exact ⟨none,0,by rw [e,h0]⟩
   ·exact ⟨_,_,e⟩
  obtain ⟨A',c',hv⟩:=hv;rw [hv] at h2 h4 ⊢;exact h A' c' w' h2 h3 h4)
theorem reads_new (w:World) (t:TypeId) (v:Value):Reads (w.alloc (.cells #[v] t)) (w.heap.size + 1) 1 (some ⟨w.heap.size,0,none⟩) 1 [v] :=
 ⟨rfl,fun _=>⟨_,rfl,Nat.lt_succ_self _,fun j u hu=>by
  match j,hu with
  | 0,hu=>simp at hu; subst hu; simp [Addr.add]⟩⟩
theorem reads_at (w:World) (t:TypeId) (v:Value) (g:Nat) (h:g=w.heap.size):Reads (w.alloc (.cells #[v] t)) (g + 1) 1 (some ⟨g,0,none⟩) 1 [v]:=by
 subst h; exact reads_new w t v
theorem Reads.form {w:World} {B size n:Nat} {A:Option Addr} {xs:List Value} (h:Reads w B size A n xs) (hn:0 < n) (hs:0 < size) :
  ∃ b o,A=some ⟨b,o,none⟩∧b < B∧∀ j u,xs[j]? = some u→w.cell? ⟨b,o + j,none⟩=some u:=by
 obtain ⟨ad,rfl,hb,hc⟩:=h.2 hn;have hl:0 < xs.length:=by rw [h.1]; exact Nat.mul_pos hn hs
 have h0:=hc 0 _ (List.getElem?_eq_getElem hl);obtain ⟨b,o,sp⟩:=ad;have hsp:sp=none:=by
  rcases sp with _ | sp
  ·rfl
  ·simp [Addr.add,World.cell?] at h0
   split at h0 <;> simp at h0
 subst hsp;refine ⟨b,o,rfl,hb,fun j u hu=>?_⟩
 have:=hc j u hu
 unfold Addr.add at this;split at this
 ·rename_i h; subst h; exact this
 ·exact this
theorem Qcc {P:Program} (w:World) {ops:Array Oper} {rest:List Oper} {o:Oper} {a:Act} {Q:Exit→Act→World→Prop} (hgd:o.guard=none) (s x:Operand) (t:TypeId)
  (ho:o.op = .call { callee:=.builtin .append,args:=#[s,x],argTypes:=#[t,t] })
  (base:Nat) (e:TypeId) (i:TypeInfo) (z:Value) (bytes:Nat) (ht:P.underlying t=some (.slice e)) (hi:P.info? e=some i) (hz:i.zero=some z)
  (hsize:i.size=1) (hby:i.bytes=bytes) (hzs:z.cells.size=1)
  (v:Value) (n:Nat) (xs:List Value) (hs:a.eval s=v) (g:Nat) (u:Value) (c:Nat) (hx:a.eval x = .slice (some ⟨g,0,none⟩) 1 c)
  (h1:u.oneCell'=true) (hn:n≤1073741823) (hb:bytes≤4096)
  (hown:w.ownsRow base e 1 v n xs) (hr:Reads w (g + 1) 1 (some ⟨g,0,none⟩) 1 [u]) (hbase:base≤w.heap.size)
  (h:∀ A' c' w',w'.ownsRow base e 1 (.slice A' (n + 1) c') (n + 1) (xs ++ [u])→w.grownBy w' v.ownBlock→(Value.ownBlock (.slice A' (n + 1) c')=v.ownBlock∨Value.ownBlock (.slice A' (n + 1) c')=some w.heap.size)→wpList P ops Q rest (a.put o.dst (.slice A' (n + 1) c')) w'):wpList P ops Q (o :: rest) a w :=
 Qp w hgd s x t ho base e i z 1 bytes ht hi hz hsize hby hzs (by decide) v n xs hs hown (g + 1) _ 1 c [u] hx hr (fun y hy=>by rw [List.mem_singleton.1 hy]; exact h1)
  (by unfold maxLen; omega) (Nat.le_trans (Nat.mul_le_mul (show n + 1≤1073741824 by omega) hb) (by decide)) hbase h
theorem ext_of_grown {w w':World} (h:w.grownBy w' none):Ext w w':=⟨h.os,h.tape,h.output,h.size,fun k hk=>h.block k hk (by simp)⟩
theorem Qbl {w w':World} (h:Ext w w') (row:Option Nat):w.grownBy w' row:=⟨h.os,h.tape,h.output,h.size,fun k hk _=>h.block k hk⟩
theorem own_ext {w w':World} {base:Nat} {e:TypeId} {size:Nat} {v:Value} {n:Nat} {xs:List Value} (h:w.ownsRow base e size v n xs) (hb:Ext w w'):w'.ownsRow base e size v n xs:=by
 rcases hv:v.ownBlock with _ | g
 ·exact h.kept (Qbl hb none) (.inl hv)
 ·exact h.kept (Qbl hb none) (.inr (by rw [hv]; simp))
theorem Qjm {w w':World} {base B:Nat} {e:TypeId} {size:Nat} {v:Value} {n:Nat} {xs:List Value} (h:w.ownsRow base e size v n xs) (hb:Below B w w') (hB:∀ g,v.ownBlock=some g→g < B):w'.ownsRow base e size v n xs:=by
 refine ⟨h.1,?_⟩;rcases h.2 with h2 | ⟨g,cap,cur,hv,hg,hh,r⟩
 ·exact .inl h2
 ·exact .inr ⟨g,cap,cur,hv,hg,by rw [hb.block g (hB g (by rw [hv]; rfl))]; exact hh,r⟩
theorem own_far {w:World} {base:Nat} {e:TypeId} {size:Nat} {v:Value} {n:Nat} {xs:List Value} (h:w.ownsRow base e size v n xs) {p:Addr} (hp:v.ownBlock≠some p.block) (u:Value):(w.setCell p u).ownsRow base e size v n xs:=by
 refine ⟨h.1,?_⟩;rcases h.2 with h2 | ⟨g,cap,cur,hv,hg,hh,r⟩
 ·exact .inl h2
 ·exact .inr ⟨g,cap,cur,hv,hg,by rw [Below.heap_setCell w p u g (by rintro rfl; exact hp (by rw [hv]; rfl))]; exact hh,r⟩
theorem Qh6 {w:World} {base base':Nat} {e e':TypeId} {size size':Nat} {v v':Value} {n n':Nat} {xs xs':List Value} (h:w.ownsRow base e size v n xs) (h':w.ownsRow base' e' size' v' n' xs') (hne:e≠e') :
  v.ownBlock=none∨v.ownBlock≠v'.ownBlock:=by
 rcases h.2 with ⟨rfl,_⟩ | ⟨g,cap,cur,rfl,_,hh,_⟩
 ·exact .inl rfl
 ·right
  rcases h'.2 with ⟨rfl,_⟩ | ⟨g',cap',cur',rfl,_,hh',_⟩
  ·simp [Value.ownBlock]
  ·simp only [Value.ownBlock,ne_eq,Option.some.injEq];rintro rfl;rw [hh] at hh';injection hh' with hh'
   injection hh' with _ ht
   exact hne ht
theorem Qds {w:World} {base base':Nat} {e:TypeId} {size:Nat} {v:Value} {n:Nat} {xs:List Value} (h:w.ownsRow base e size v n xs) (hb:base'≤base):w.ownsRow base' e size v n xs:=by
 refine ⟨h.1,?_⟩;rcases h.2 with h2 | ⟨g,cap,cur,hv,hg,r⟩
 ·exact .inl h2
 ·exact .inr ⟨g,cap,cur,hv,by omega,r⟩
theorem Qbf {P:Program} {id:Nat} {Q:Exit→Act→World→Prop} {a:Act} {w:World} {l:List Oper} (hm:P.follows .mixedOrders=true) (hB:Region.lexB .any l.toArray=true) (W:World) (hW:Ext W w)
  (h:∀ (I:Type) [Nonempty I] (f:I→World),(∀ n,Ext W (f n))→(∀ w',Ext W w'→∃ n,w'=f n)→wpQuiet P l.toArray (fun w'=>∃ n,w'=f n) (fun a'=>∀ w',(∃ n,w'=f n)→Q .normal a' w') l a) :
  (Code.region id l.toArray true).wp P Q a w :=
 wp_region_quiet (C:=fun w'=>∃ n:{w':World // Ext W w'},w'=n.1) hm hB ⟨⟨_,hW.drew'⟩,rfl⟩
  (by haveI:Nonempty {w':World // Ext W w'}:=⟨⟨_,hW⟩⟩; simpa using h {w':World // Ext W w'} Subtype.val (fun n=>n.2) (fun w' hw'=>⟨⟨w',hw'⟩,rfl⟩))
theorem Qcr {I:Type} {f:I→World} {W:World} (hf:∀ n,Ext W (f n)) (hc:∀ w',Ext W w'→∃ n,w'=f n) {P:Program} {g:FuncId} {args:Array Value} {v:Value} {n:I}
  (h:Calls P g args (f n) fun e w'=>e = .returned v∧Ext (f n) w'):Calls P g args (f n) fun e w''=>e = .returned v∧∃ m,w''=f m :=
 h.mono fun _ w' ⟨he,hE⟩=>⟨he,hc w' ((hf n).trans' hE)⟩
theorem Z2 {p0 p1:Prop} (h0:p0) (h1:p1):Hid p0∧Hid p1:=⟨h0,h1⟩
theorem Z3 {p0 p1 p2:Prop} (h0:p0) (h1:p1) (h2:p2):Hid p0∧Hid p1∧Hid p2:=⟨h0,h1,h2⟩
theorem Z4 {p0 p1 p2 p3:Prop} (h0:p0) (h1:p1) (h2:p2) (h3:p3):Hid p0∧Hid p1∧Hid p2∧Hid p3:=⟨h0,h1,h2,h3⟩
theorem Z5 {p0 p1 p2 p3 p4:Prop} (h0:p0) (h1:p1) (h2:p2) (h3:p3) (h4:p4):Hid p0∧Hid p1∧Hid p2∧Hid p3∧Hid p4:=⟨h0,h1,h2,h3,h4⟩
theorem Z6 {p0 p1 p2 p3 p4 p5:Prop} (h0:p0) (h1:p1) (h2:p2) (h3:p3) (h4:p4) (h5:p5):Hid p0∧Hid p1∧Hid p2∧Hid p3∧Hid p4∧Hid p5:=⟨h0,h1,h2,h3,h4,h5⟩
theorem Z7 {p0 p1 p2 p3 p4 p5 p6:Prop} (h0:p0) (h1:p1) (h2:p2) (h3:p3) (h4:p4) (h5:p5) (h6:p6):Hid p0∧Hid p1∧Hid p2∧Hid p3∧Hid p4∧Hid p5∧Hid p6:=⟨h0,h1,h2,h3,h4,h5,h6⟩
theorem Z8 {p0 p1 p2 p3 p4 p5 p6 p7:Prop} (h0:p0) (h1:p1) (h2:p2) (h3:p3) (h4:p4) (h5:p5) (h6:p6) (h7:p7):Hid p0∧Hid p1∧Hid p2∧Hid p3∧Hid p4∧Hid p5∧Hid p6∧Hid p7:=⟨h0,h1,h2,h3,h4,h5,h6,h7⟩
theorem nZ (k:Nat):(0:Int)≤(k:Int):=Int.natCast_nonneg k
theorem bN {w w':World} {t:TypeId} {cs:Array Value} (h:w'=w.alloc (.cells cs t)):Blk w' w.heap.size t cs:=by rw [h]; exact Blk.new _ _ _
theorem T0 (w:World) (t:TypeId) (cs:Array Value):∃ w' g,w'=w.alloc (.cells cs t)∧g=w.heap.size∧Hid (w'=w.alloc (.cells cs t))∧Hid (g=w.heap.size)∧Blk w' g t cs∧Ext w w' :=
 ⟨_,_,rfl,rfl,rfl,rfl,Blk.new _ _ _,(Ext.rfl' w).alloc (Nat.le_refl _) _⟩
section
variable {w:World} {g:Nat} {t:TypeId} {a0 a1 a2 a3 a4 a5 a6 a7 a8 a9 a10 a11 a12 a13 a14 a15 a16 a17:Value} {r:List Value}
theorem X1 (h:Blk w g t (a0 :: r).toArray):w.cell? ⟨g,0,none⟩=some a0:=h.cell 0
theorem X2 (h:Blk w g t (a0 :: a1 :: r).toArray):w.cell? ⟨g,0,none⟩=some a0∧w.cell? ⟨g,1,none⟩=some a1:=⟨h.cell 0,h.cell 1⟩
theorem X3 (h:Blk w g t (a0 :: a1 :: a2 :: r).toArray):w.cell? ⟨g,0,none⟩=some a0∧w.cell? ⟨g,1,none⟩=some a1∧w.cell? ⟨g,2,none⟩=some a2:=⟨h.cell 0,h.cell 1,h.cell 2⟩
theorem X4 (h:Blk w g t (a0 :: a1 :: a2 :: a3 :: r).toArray):w.cell? ⟨g,0,none⟩=some a0∧w.cell? ⟨g,1,none⟩=some a1∧w.cell? ⟨g,2,none⟩=some a2∧w.cell? ⟨g,3,none⟩=some a3:=⟨h.cell 0,h.cell 1,h.cell 2,h.cell 3⟩
theorem X5 (h:Blk w g t (a0 :: a1 :: a2 :: a3 :: a4 :: r).toArray):w.cell? ⟨g,0,none⟩=some a0∧w.cell? ⟨g,1,none⟩=some a1∧w.cell? ⟨g,2,none⟩=some a2∧w.cell? ⟨g,3,none⟩=some a3∧w.cell? ⟨g,4,none⟩=some a4:=⟨h.cell 0,h.cell 1,h.cell 2,h.cell 3,h.cell 4⟩
theorem X6 (h:Blk w g t (a0 :: a1 :: a2 :: a3 :: a4 :: a5 :: r).toArray):w.cell? ⟨g,0,none⟩=some a0∧w.cell? ⟨g,1,none⟩=some a1∧w.cell? ⟨g,2,none⟩=some a2∧w.cell? ⟨g,3,none⟩=some a3∧w.cell? ⟨g,4,none⟩=some a4∧w.cell? ⟨g,5,none⟩=some a5:=⟨h.cell 0,h.cell 1,h.cell 2,h.cell 3,h.cell 4,h.cell 5⟩
theorem X7 (h:Blk w g t (a0 :: a1 :: a2 :: a3 :: a4 :: a5 :: a6 :: r).toArray):w.cell? ⟨g,0,none⟩=some a0∧w.cell? ⟨g,1,none⟩=some a1∧w.cell? ⟨g,2,none⟩=some a2∧w.cell? ⟨g,3,none⟩=some a3∧w.cell? ⟨g,4,none⟩=some a4∧w.cell? ⟨g,5,none⟩=some a5∧w.cell? ⟨g,6,none⟩=some a6:=⟨h.cell 0,h.cell 1,h.cell 2,h.cell 3,h.cell 4,h.cell 5,h.cell 6⟩
theorem X8 (h:Blk w g t (a0 :: a1 :: a2 :: a3 :: a4 :: a5 :: a6 :: a7 :: r).toArray):w.cell? ⟨g,0,none⟩=some a0∧w.cell? ⟨g,1,none⟩=some a1∧w.cell? ⟨g,2,none⟩=some a2∧w.cell? ⟨g,3,none⟩=some a3∧w.cell? ⟨g,4,none⟩=some a4∧w.cell? ⟨g,5,none⟩=some a5∧w.cell? ⟨g,6,none⟩=some a6∧w.cell? ⟨g,7,none⟩=some a7:=⟨h.cell 0,h.cell 1,h.cell 2,h.cell 3,h.cell 4,h.cell 5,h.cell 6,h.cell 7⟩
theorem X9 (h:Blk w g t (a0 :: a1 :: a2 :: a3 :: a4 :: a5 :: a6 :: a7 :: a8 :: r).toArray):w.cell? ⟨g,0,none⟩=some a0∧w.cell? ⟨g,1,none⟩=some a1∧w.cell? ⟨g,2,none⟩=some a2∧w.cell? ⟨g,3,none⟩=some a3∧w.cell? ⟨g,4,none⟩=some a4∧w.cell? ⟨g,5,none⟩=some a5∧w.cell? ⟨g,6,none⟩=some a6∧w.cell? ⟨g,7,none⟩=some a7∧w.cell? ⟨g,8,none⟩=some a8:=⟨h.cell 0,h.cell 1,h.cell 2,h.cell 3,h.cell 4,h.cell 5,h.cell 6,h.cell 7,h.cell 8⟩
theorem X10 (h:Blk w g t (a0 :: a1 :: a2 :: a3 :: a4 :: a5 :: a6 :: a7 :: a8 :: a9 :: r).toArray):w.cell? ⟨g,0,none⟩=some a0∧w.cell? ⟨g,1,none⟩=some a1∧w.cell? ⟨g,2,none⟩=some a2∧w.cell? ⟨g,3,none⟩=some a3∧w.cell? ⟨g,4,none⟩=some a4∧w.cell? ⟨g,5,none⟩=some a5∧w.cell? ⟨g,6,none⟩=some a6∧w.cell? ⟨g,7,none⟩=some a7∧w.cell? ⟨g,8,none⟩=some a8∧w.cell? ⟨g,9,none⟩=some a9:=⟨h.cell 0,h.cell 1,h.cell 2,h.cell 3,h.cell 4,h.cell 5,h.cell 6,h.cell 7,h.cell 8,h.cell 9⟩
theorem X11 (h:Blk w g t (a0 :: a1 :: a2 :: a3 :: a4 :: a5 :: a6 :: a7 :: a8 :: a9 :: a10 :: r).toArray):w.cell? ⟨g,0,none⟩=some a0∧w.cell? ⟨g,1,none⟩=some a1∧w.cell? ⟨g,2,none⟩=some a2∧w.cell? ⟨g,3,none⟩=some a3∧w.cell? ⟨g,4,none⟩=some a4∧w.cell? ⟨g,5,none⟩=some a5∧w.cell? ⟨g,6,none⟩=some a6∧w.cell? ⟨g,7,none⟩=some a7∧w.cell? ⟨g,8,none⟩=some a8∧w.cell? ⟨g,9,none⟩=some a9∧w.cell? ⟨g,10,none⟩=some a10:=⟨h.cell 0,h.cell 1,h.cell 2,h.cell 3,h.cell 4,h.cell 5,h.cell 6,h.cell 7,h.cell 8,h.cell 9,h.cell 10⟩
theorem X12 (h:Blk w g t (a0 :: a1 :: a2 :: a3 :: a4 :: a5 :: a6 :: a7 :: a8 :: a9 :: a10 :: a11 :: r).toArray):w.cell? ⟨g,0,none⟩=some a0∧w.cell? ⟨g,1,none⟩=some a1∧w.cell? ⟨g,2,none⟩=some a2∧w.cell? ⟨g,3,none⟩=some a3∧w.cell? ⟨g,4,none⟩=some a4∧w.cell? ⟨g,5,none⟩=some a5∧w.cell? ⟨g,6,none⟩=some a6∧w.cell? ⟨g,7,none⟩=some a7∧w.cell? ⟨g,8,none⟩=some a8∧w.cell? ⟨g,9,none⟩=some a9∧w.cell? ⟨g,10,none⟩=some a10∧w.cell? ⟨g,11,none⟩=some a11:=⟨h.cell 0,h.cell 1,h.cell 2,h.cell 3,h.cell 4,h.cell 5,h.cell 6,h.cell 7,h.cell 8,h.cell 9,h.cell 10,h.cell 11⟩
theorem X18 (h:Blk w g t (a0 :: a1 :: a2 :: a3 :: a4 :: a5 :: a6 :: a7 :: a8 :: a9 :: a10 :: a11 :: a12 :: a13 :: a14 :: a15 :: a16 :: a17 :: r).toArray):w.cell? ⟨g,0,none⟩=some a0∧w.cell? ⟨g,1,none⟩=some a1∧w.cell? ⟨g,2,none⟩=some a2∧w.cell? ⟨g,3,none⟩=some a3∧w.cell? ⟨g,4,none⟩=some a4∧w.cell? ⟨g,5,none⟩=some a5∧w.cell? ⟨g,6,none⟩=some a6∧w.cell? ⟨g,7,none⟩=some a7∧w.cell? ⟨g,8,none⟩=some a8∧w.cell? ⟨g,9,none⟩=some a9∧w.cell? ⟨g,10,none⟩=some a10∧w.cell? ⟨g,11,none⟩=some a11∧w.cell? ⟨g,12,none⟩=some a12∧w.cell? ⟨g,13,none⟩=some a13∧w.cell? ⟨g,14,none⟩=some a14∧w.cell? ⟨g,15,none⟩=some a15∧w.cell? ⟨g,16,none⟩=some a16∧w.cell? ⟨g,17,none⟩=some a17:=⟨h.cell 0,h.cell 1,h.cell 2,h.cell 3,h.cell 4,h.cell 5,h.cell 6,h.cell 7,h.cell 8,h.cell 9,h.cell 10,h.cell 11,h.cell 12,h.cell 13,h.cell 14,h.cell 15,h.cell 16,h.cell 17⟩
theorem Y2 {cs:Array Value} (h:Blk w g t cs):w.frozen? ⟨g,0,none⟩=false∧w.frozen? ⟨g,1,none⟩=false:=⟨h.free 0,h.free 1⟩
theorem Y3 {cs:Array Value} (h:Blk w g t cs):w.frozen? ⟨g,0,none⟩=false∧w.frozen? ⟨g,1,none⟩=false∧w.frozen? ⟨g,2,none⟩=false:=⟨h.free 0,h.free 1,h.free 2⟩
end

def Qy (c:UInt8):Bool:=decide (97≤c.toNat∧c.toNat≤122)
def Qs (c:UInt8):Bool:=Qy c || decide (48≤c.toNat∧c.toNat≤57) || decide (c.toNat=95)
theorem Qpw {c:UInt8} (h:Qy c=true):Qs c=true:=by simp [Qs,h]
def Qb3:List UInt8→Nat
 | []=>0
 | c :: l=>if Qy c then ((c :: l).takeWhile Qs).length else 0
theorem Qod (l:List UInt8):Qb3 l≤l.length:=by
 cases l with
 | nil=>simp [Qb3]
 | cons c l =>
  rw [Qb3];by_cases h:Qy c=true
  ·rw [if_pos h]; exact (List.takeWhile_prefix Qs).length_le
  ·rw [if_neg h]; exact Nat.zero_le _
theorem tw_step {l:List UInt8} {j:Nat} {c:UInt8} (h:j≤(l.takeWhile Qs).length) (hc:l[j]? = some c) (hs:Qs c=true):j + 1≤(l.takeWhile Qs).length:=by
 induction l generalizing j with
 | nil=>simp at hc
 | cons d l ih =>
  rw [List.takeWhile_cons] at h ⊢;by_cases hd:Qs d=true
  ·rw [if_pos hd] at h ⊢;cases j with
   | zero=>simp
   | succ j =>
    have:=ih (j:=j) (by simpa using h) (by simpa using hc)
    simpa using this
  ·rw [if_neg hd] at h;have:j=0:=by simpa using h
   subst this;simp at hc
   subst hc;exact absurd hs hd
theorem Qh7 {l:List UInt8} {j:Nat} (h:j≤(l.takeWhile Qs).length) (he:l.length≤j∨∃ c,l[j]? = some c∧Qs c=false):(l.takeWhile Qs).length=j:=by
 induction l generalizing j with
 | nil=>simp at h ⊢; omega
 | cons d l ih =>
  rw [List.takeWhile_cons] at h ⊢;by_cases hd:Qs d=true
  ·rw [if_pos hd] at h ⊢;cases j with
   | zero =>
    rcases he with he | ⟨c,hc,hs⟩
    ·simp at he
    ·simp at hc; subst hc; rw [hs] at hd; cases hd
   | succ j =>
    have:=ih (j:=j) (by simpa using h) (by
     rcases he with he | ⟨c,hc,hs⟩
     ·left; simpa using he
     ·right; exact ⟨c,by simpa using hc,hs⟩)
    simpa using this
  ·rw [if_neg hd] at h ⊢;have:j=0:=by simpa using h
   subst this;rfl
theorem Qev {l:List UInt8} {c:UInt8} (h:l[0]? = some c) (hc:Qy c=true):Qb3 l=(l.takeWhile Qs).length:=by
 cases l with
 | nil=>simp at h
 | cons d l=>simp at h; subst h; rw [Qb3,if_pos hc]
theorem Qfy {l:List UInt8} {c:UInt8} (h:l[0]? = some c) (hc:Qy c=false):Qb3 l=0:=by
 cases l with
 | nil=>simp at h
 | cons d l=>simp at h; subst h; rw [Qb3,if_neg (by rw [hc]; exact Bool.false_ne_true)]
def nameAt (s:ByteArray) (i:Nat):Nat:=Qb3 (s.data.toList.drop i)
theorem Qjn (s:ByteArray) (i:Nat) (h:i≤s.size):i + nameAt s i≤s.size:=by
 have:=Qod (s.data.toList.drop i)
 have e:s.data.toList.length=s.size:=by rw [Array.length_toList]; rfl
 rw [List.length_drop,e] at this;unfold nameAt;omega
theorem Qjc (s:ByteArray) (i j:Nat) (h:i + j < s.size):(s.data.toList.drop i)[j]? = some s[i + j]:=by
 rw [List.getElem?_drop];have h':i + j < s.data.toList.length:=by rw [Array.length_toList]; exact h
 rw [List.getElem?_eq_getElem h'];rfl
def Qj (s:ByteArray):Bool:=decide (0 < s.size∧nameAt s 0=s.size∧s.size≤32)
theorem Qh8 (c:UInt8) (w:World):Calls Tryz.prog 125 #[.int .u8 c.toNat] w (fun e w'=>e = .returned (.bool (Qy c))∧w=w'):=by
 unfold Qy;by_cases h1:(97:Int)≤(c.toNat:Int) <;> by_cases h2:(c.toNat:Int)≤122
 all_goals
  go_enter Tryz.func125,Tryz.ntmps125
  go_wp2_with fail
  go_ret
  exact ⟨Qb (by simp; omega),rfl⟩
theorem Qr0 (c:UInt8) (w:World):Calls Tryz.prog 126 #[.int .u8 c.toNat] w (fun e w'=>e = .returned (.bool (Qs c))∧w=w'):=by
 obtain ⟨b,hb⟩:=V1 (Qy c);have HC:=hide (Qh8 c w);rw [← hb] at HC;have hs:Qs c=(b || decide (48≤c.toNat∧c.toNat≤57) || decide (c.toNat=95)):=by rw [hb]; rfl
 rw [hs];clear hs hb;cases b with
 | true =>
  go_enter Tryz.func126,Tryz.ntmps126
  go_wp2_with (go_at_call 125; with_reducible refine HC.out.mono ?_; rintro e w' ⟨rfl,rfl⟩)
  go_ret
  exact ⟨rfl,rfl⟩
 | false =>
  have key:∀ z:Bool,decide (c.toNat=95)=z→Calls Tryz.prog 126 #[.int .u8 c.toNat] w (fun e w'=>e = .returned (.bool (false || decide (48≤c.toNat∧c.toNat≤57) || z))∧w=w'):=by
   intro z hz;have h4:((c.toNat:Int) == 95)=z:=by rw [← hz,Bool.eq_iff_iff]; simp; omega
   clear hz;generalize hm:(c.toNat:Int)=m at HC h4
   rw [← hm] at HC h4 ⊢;by_cases h1:(48:Int)≤(c.toNat:Int) <;> by_cases h2:(c.toNat:Int)≤57 <;> cases z
   all_goals
    clear hm;go_enter Tryz.func126,Tryz.ntmps126
    go_wp2_with (go_at_call 125; with_reducible refine HC.out.mono ?_; rintro e w' ⟨rfl,rfl⟩)
    all_goals
     go_ret
     exact ⟨Qb (by first | (simp; done) | (simp; omega) | (rw [Bool.eq_iff_iff]; simp; omega)),rfl⟩
  exact key _ rfl
theorem Qku (s:ByteArray) (i:Nat):s.extract i i=⟨#[]⟩:=by
 have:(s.extract i i).data=#[]:=by simp
 cases h:s.extract i i
 rw [h] at this;exact congrArg _ this
def Qcs (s:ByteArray) (i:Nat) (w:World) (e:Ending) (w':World):Prop:=e = .returned (.tuple #[.string (s.extract i (i + nameAt s i)),.int .i64 ((i + nameAt s i:Nat):Int)])∧w=w'
set_option maxRecDepth 100000 in
theorem Qr1 (s:ByteArray) (i:Int) (w:World) (_hs:s.size≤maxLen) (h:i < 0∨(s.size:Int)≤i) :
  Calls Tryz.prog 106 #[.string s,.int .i64 i] w (fun e w'=>e = .returned (.tuple #[.string ⟨#[]⟩,.int .i64 0])∧w=w'):=by
 unfold maxLen at _hs;by_cases h0:i < 0
 ·go_enter Tryz.func106,Tryz.ntmps106
  go_wp2_with fail
  go_ret2
  exact ⟨rfl,rfl⟩
 ·have h1:(s.size:Int)≤i:=by omega
  clear h;go_enter Tryz.func106,Tryz.ntmps106
  go_wp2_with fail
  go_ret2
  exact ⟨rfl,rfl⟩
set_option maxRecDepth 100000 in
theorem Qtv (s:ByteArray) (i:Nat) (w:World) (hs:s.size≤maxLen) (h:i < s.size) :
  Calls Tryz.prog 106 #[.string s,.int .i64 i] w (Qcs s i w):=by
 unfold maxLen at hs;have HL:=hide (Qh8 s[i] w);have hb:=Qjc s i 0 (by omega)
 have hlen:(s.data.toList.drop i).length=s.size - i:=by rw [List.length_drop,Array.length_toList]; rfl
 cases hl:Qy s[i] with
 | false =>
  have hn:nameAt s i=0:=Qfy hb hl;rw [hl] at HL;have HN:=hide hn;clear hb hl hn hlen;go_enter Tryz.func106,Tryz.ntmps106
  go_wp2_with (go_at_call 125; with_reducible refine HL.out.mono ?_; rintro e w' ⟨rfl,rfl⟩)
  go_ret2
  unfold Qcs;rw [HN.out];refine ⟨?_,rfl⟩;show Ending.returned (.tuple #[.string ⟨#[]⟩,.int .i64 (i:Int)])=_
  rw [Nat.add_zero,Qku]
 | true =>
  have hn:nameAt s i=((s.data.toList.drop i).takeWhile Qs).length:=Qev hb hl;have hge:0≤((s.data.toList.drop i).takeWhile Qs).length:=Nat.zero_le _;rw [hl] at HL;obtain ⟨HN,HLEN⟩:=Z2 hn hlen;clear hb hl hn hlen hge;go_enter Tryz.func106,Tryz.ntmps106
  go_wp2_with (go_at_call 125; with_reducible refine HL.out.mono ?_; rintro e w' ⟨rfl,rfl⟩)
  go_loop [5] (fun e=>∃ j:Nat,i + j≤s.size∧e = .int .i64 ((i + j:Nat):Int)∧j≤((s.data.toList.drop i).takeWhile Qs).length) (fun e=>s.size - (intOf e).toNat)
  case atStart=>exact ⟨0,by omega,rfl,Nat.zero_le _⟩
  case round =>
   obtain ⟨j,hj,rfl,hjt⟩:=hrel;have HJ:=hide hjt;clear hjt;obtain ⟨k,hk⟩:=V1 (i + j);rw [← hk] at hj ⊢;have HK:=hide hk;have hik:i≤k:=by omega
   clear hk;by_cases hlt:k < s.size
   ·have HS:=hide (Qr0 s[k] w);have hbk:(s.data.toList.drop i)[j]? = some s[k]:=by
     have:=Qjc s i j (by rw [← HK.out]; exact hlt)
     rw [this];congr 1
     have hk2:=HK.out;subst hk2;rfl
    have HBK:=hide hbk;clear hbk;cases hz:Qs s[k] with
    | true =>
     rw [hz] at HS;have HZ:=hide hz;clear hz;go_wp2_with (go_at_call 126; with_reducible refine HS.out.mono ?_; rintro e w' ⟨rfl,rfl⟩)
     go_round
     case rel=>exact ⟨j + 1,by have:=HK.out; omega,by rw [show i + (j + 1)=k + 1 by have:=HK.out; omega]; go_num,tw_step HJ.out HBK.out HZ.out⟩
     case measure=>simp [intOf]; omega
    | false =>
     rw [hz] at HS;have he:=Qh7 HJ.out (.inr ⟨_,HBK.out,hz⟩);have HE:=hide (HN.out.trans he);clear hz he;go_wp2_with (go_at_call 126; with_reducible refine HS.out.mono ?_; rintro e w' ⟨rfl,rfl⟩)
     go_ret2
     unfold Qcs;rw [HE.out,← HK.out];exact ⟨rfl,rfl⟩
   ·obtain rfl:k=s.size:=by omega
    have he:=Qh7 HJ.out (.inl (by rw [HLEN.out]; have:=HK.out; omega))
    have HE:=hide (HN.out.trans he);clear he;go_wp2_with fail
    go_ret2
    unfold Qcs;rw [HE.out,← HK.out];exact ⟨rfl,rfl⟩
theorem Qny (s:ByteArray):s.toList = []↔s.size=0:=by
 rw [Lib.toList_data];constructor
 ·intro h;have:=congrArg List.length h
  rw [Array.length_toList] at this;exact this
 ·intro h;exact List.eq_nil_of_length_eq_zero (by rw [Array.length_toList]; exact h)
theorem Qum {s:ByteArray} (h:0 < s.size):s.toList.isEmpty=false:=by
 cases hx:s.toList.isEmpty with
 | false=>rfl
 | true=>rw [List.isEmpty_iff,Qny] at hx; omega
theorem str_ne' {s:ByteArray} (h:0 < s.size):¬ s.toList = []:=fun hx=>by rw [Qny] at hx; omega
theorem Qpx {s:ByteArray} (h:s.size=0):s=⟨#[]⟩:=by
 cases s with
 | mk d=>congr 1; exact Array.eq_empty_of_size_eq_zero h
set_option maxRecDepth 100000 in
theorem right_any (s:ByteArray) (w:World) (hs:s.size≤maxLen) :
  Calls Tryz.prog 68 #[.string s] w (fun e w'=>e = .returned (.bool (Qj s))∧w=w'):=by
 by_cases h0:0 < s.size
 ·have HT:=hide (show Calls Tryz.prog 106 #[.string s,.int .i64 0] w (Qcs s 0 w) from Qtv s 0 w hs h0)
  have hle:=Qjn s 0 (by omega)
  unfold maxLen at hs;obtain ⟨n,hn⟩:=V1 (nameAt s 0);unfold Qcs at HT;rw [Nat.zero_add,← hn] at HT;rw [Nat.zero_add,← hn] at hle;have HN:=hide hn;clear hn;have hb:Qj s=(decide (n=s.size) && decide (n≤32)):=by
   rw [Bool.eq_iff_iff];simp [Qj,← HN.out]
   omega
  rw [hb];clear hb;have e1:=Qum h0;have e2:=str_ne' h0;go_enter Tryz.func68,Tryz.ntmps68
  go_wp2_with (go_at_call 106; with_reducible refine HT.out.mono ?_; rintro e w' ⟨rfl,rfl⟩)
  all_goals
   go_ret
   exact ⟨Qb (by rw [Bool.eq_iff_iff]; simp; omega),rfl⟩
 ·obtain rfl:=Qpx (s:=s) (by omega)
  have HT:=hide (Qr1 ⟨#[]⟩ 0 w hs (.inr (by decide)))
  have hb:Qj ⟨#[]⟩=false:=by decide
  rw [hb];clear hb h0;go_enter Tryz.func68,Tryz.ntmps68
  go_wp2_with (go_at_call 106; with_reducible refine HT.out.mono ?_; rintro e w' ⟨rfl,rfl⟩)
  go_ret
  exact ⟨rfl,rfl⟩
set_option maxRecDepth 100000 in
theorem Qpy (s:ByteArray) (i:Nat) (w:World) (hs:s.size≤maxLen) (h:i≤s.size) :
  Calls Tryz.prog 115 #[.string s,.int .i64 i] w (fun e w'=>e = .returned (.int .i64 (nameAt s i))∧w=w'):=by
 unfold maxLen at hs;have hlen:(s.data.toList.drop i).length=s.size - i:=by rw [List.length_drop,Array.length_toList]; rfl
 have HLEN:=hide hlen;clear hlen;go_enter Tryz.func115,Tryz.ntmps115
 go_wp2_with fail
 go_loop [5,6] (fun n e=>∃ j:Nat,i + j≤s.size∧n = .int .i64 (j:Int)∧e = .int .i64 ((i + j:Nat):Int)∧j≤((s.data.toList.drop i).takeWhile Qs).length∧(0 < j→nameAt s i=((s.data.toList.drop i).takeWhile Qs).length)) (fun _ e=>s.size - (intOf e).toNat)
 case atStart=>exact ⟨0,by omega,rfl,rfl,Nat.zero_le _,fun h=>absurd h (by omega)⟩
 case round =>
  obtain ⟨j,hj,rfl,rfl,hjt,hnm⟩:=hrel;obtain ⟨HJ,HNM⟩:=Z2 hjt hnm;clear hjt hnm;obtain ⟨k,hk⟩:=V1 (i + j);rw [← hk] at hj ⊢;have HK:=hide hk;have hik:i≤k:=by omega
  have hjk:j≤k:=by omega
  clear hk;by_cases hlt:k < s.size
  ·have hbk:(s.data.toList.drop i)[j]? = some s[k]:=by
    have:=Qjc s i j (by rw [← HK.out]; exact hlt)
    rw [this];congr 1
    have hk2:=HK.out;subst hk2;rfl
   have HBK:=hide hbk;clear hbk;obtain ⟨c,hc⟩:=V1 (s[k]);rw [← hc] at HBK;have HC:=hide hc;have yes:Qs c=true→(0 < j∨Qy c=true)→(∀ m:Nat,m=k + 1→∃ j',i + j'≤s.size∧(Value.int .i64 ((j + 1:Nat):Int)) = .int .i64 (j':Int)∧(Value.int .i64 (m:Int)) = .int .i64 ((i + j':Nat):Int)∧j'≤((s.data.toList.drop i).takeWhile Qs).length∧(0 < j'→nameAt s i=((s.data.toList.drop i).takeWhile Qs).length)):=by
    intro h1 h2 m hm;refine ⟨j + 1,by have:=HK.out; omega,rfl,by rw [hm,show i + (j + 1)=k + 1 by have:=HK.out; omega],tw_step HJ.out HBK.out h1,fun _=>?_⟩
    rcases Nat.eq_zero_or_pos j with e | e
    ·subst e;rcases h2 with h2 | h2
     ·omega
     ·exact Qev HBK.out h2
    ·exact HNM.out e
   have no:(Qs c=false∨(j=0∧Qy c=false))→(j:Int)=(nameAt s i:Int):=by
    intro h1;rcases Nat.eq_zero_or_pos j with e | e
    ·subst e;have hl:Qy c=false:=by
      rcases h1 with h1 | ⟨_,h1⟩
      ·cases hx:Qy c with
       | false=>rfl
       | true=>rw [Qpw hx] at h1; cases h1
      ·exact h1
     have:=Qfy HBK.out hl
     unfold nameAt;rw [this]
    ·rcases h1 with h1 | ⟨h1,_⟩
     ·have:=Qh7 HJ.out (.inr ⟨_,HBK.out,h1⟩)
      rw [HNM.out e,this]
     ·omega
   obtain ⟨YES,NO⟩:=Z2 yes no;clear yes no;have hsk:s[k].toNat=c.toNat:=by rw [hc]
   have HSK:=hide hsk;clear hc hsk;have hne:(k:Int) + 1=((k + 1:Nat):Int):=by omega
   obtain ⟨x,hx⟩:∃ x:Int,x=(c.toNat:Int):=⟨_,rfl⟩;have hx':x=(s[k].toNat:Int):=by rw [hx,HSK.out]
   have HX:=hide hx;have SG:Qs c=decide ((97≤x∧x≤122)∨(48≤x∧x≤57)∨x=95):=by
    rw [HX.out,Bool.eq_iff_iff];simp [Qs,Qy]
    omega
   have LT:Qy c=decide (97≤x∧x≤122):=by
    rw [HX.out,Bool.eq_iff_iff];simp [Qy]
    omega
   obtain ⟨HSG,HLT,HX'⟩:=Z3 SG LT hx';clear SG LT hx hx' hne;by_cases a1:(97:Int)≤(s[k].toNat:Int)
   ·by_cases a2:(s[k].toNat:Int)≤122
    ·go_wp2_with fail
     go_round
     case rel =>
      have hs:Qs c=true:=by rw [HSG.out,HX'.out,decide_eq_true_eq]; omega
      have hl:Qy c=true:=by rw [HLT.out,HX'.out,decide_eq_true_eq]; omega
      obtain ⟨j',q1,q2,q3,q4⟩:=YES.out hs (.inr hl) (k + 1) rfl;exact ⟨j',q1,by rw [← q2]; go_num,by rw [← q3]; go_num,q4⟩
     case measure=>simp [intOf]; omega
    ·have hs:Qs c=false:=by rw [HSG.out,HX'.out,decide_eq_false_iff_not]; omega
     have hres:=NO.out (.inl hs);have HRES:=hide hres;clear hs hres;have z95:((s[k].toNat:Int) == 95)=false:=by simp; omega
     have z95':((s[k].toNat:Int) != 95)=true:=by simp; omega
     have z57:(57:Int) < (s[k].toNat:Int):=by omega
     have z48:(48:Int)≤(s[k].toNat:Int):=by omega
     cases hj0:((j:Int) == 0) with
     | true =>
      go_wp2_with fail
      go_ret
      exact ⟨Qq HRES.out,rfl⟩
     | false =>
      go_wp2_with fail
      go_ret
      exact ⟨Qq HRES.out,rfl⟩
   ·cases hj0:((j:Int) == 0) with
    | true =>
     have hl:Qy c=false:=by rw [HLT.out,HX'.out,decide_eq_false_iff_not]; omega
     have hres:=NO.out (.inr ⟨by have:(j:Int)=0:=(by simpa using hj0); omega,hl⟩)
     have HRES:=hide hres;clear hl hres;go_wp2_with fail
     go_ret
     exact ⟨Qq HRES.out,rfl⟩
    | false =>
     have hjp:0 < j:=by
      rcases Nat.eq_zero_or_pos j with e | e
      ·subst e; simp at hj0
      ·exact e
     have HJP:=hide hjp;clear hjp;cases z95:((s[k].toNat:Int) == 95) with
     | true =>
      have hs:Qs c=true:=by
       have:(s[k].toNat:Int)=95:=by simpa using z95
       rw [HSG.out,HX'.out,decide_eq_true_eq]; omega
      have z95':((s[k].toNat:Int) != 95)=false:=by simpa using z95
      have hY:=YES.out hs (.inl HJP.out) (k + 1) rfl;have HY:=hide hY;clear hs hY;go_wp2_with fail
      go_round
      case rel =>
       obtain ⟨j',q1,q2,q3,q4⟩:=HY.out;exact ⟨j',q1,by rw [← q2]; go_num,by rw [← q3]; go_num,q4⟩
      case measure=>simp [intOf]; omega
     | false =>
      have z95':((s[k].toNat:Int) != 95)=true:=by simpa using z95
      have hn95:¬ (s[k].toNat:Int)=95:=by simpa using z95
      have HN95:=hide hn95;clear hn95;by_cases a3:(48:Int)≤(s[k].toNat:Int)
      ·by_cases a4:(s[k].toNat:Int)≤57
       ·have hs:Qs c=true:=by rw [HSG.out,HX'.out,decide_eq_true_eq]; omega
        have hY:=YES.out hs (.inl HJP.out) (k + 1) rfl;have HY:=hide hY;clear hs hY;go_wp2_with fail
        go_round
        case rel =>
         obtain ⟨j',q1,q2,q3,q4⟩:=HY.out;exact ⟨j',q1,by rw [← q2]; go_num,by rw [← q3]; go_num,q4⟩
        case measure=>simp [intOf]; omega
       ·have hs:Qs c=false:=by have:=HN95.out; rw [HSG.out,HX'.out,decide_eq_false_iff_not]; omega
        have hres:=NO.out (.inl hs);have HRES:=hide hres;clear hs hres;go_wp2_with fail
        go_ret
        exact ⟨Qq HRES.out,rfl⟩
      ·have hs:Qs c=false:=by have:=HN95.out; rw [HSG.out,HX'.out,decide_eq_false_iff_not]; omega
       have hres:=NO.out (.inl hs);have HRES:=hide hres;clear hs hres;go_wp2_with fail
       go_ret
       exact ⟨Qq HRES.out,rfl⟩
  ·obtain rfl:k=s.size:=by omega
   have he:=Qh7 HJ.out (.inl (by rw [HLEN.out]; have:=HK.out; omega))
   have HE:=hide he;clear he;go_wp2_with fail
   go_ret
   refine ⟨Qq ?_,rfl⟩;rcases Nat.eq_zero_or_pos j with e | e
   ·subst e;have:i=s.size:=by have:=HK.out; omega
    subst this;unfold nameAt;rw [List.drop_of_length_le (by rw [Array.length_toList]; exact Nat.le_refl _)]
    rfl
   ·rw [HNM.out e,HE.out]
end Go.Proofs.YtanpljalbijfkaaGreat
