/- . -/
import Derived.Test.YtanpljalbijfkaaGreatQ00
namespace Go.Proofs.YtanpljalbijfkaaGreat
open Go.RowKit
set_option maxHeartbeats 16000000
set_option maxRecDepth 100000 in
theorem refRight_any (s:ByteArray) (w:World) (hs:s.size≤maxLen) :
  Calls Tryz.prog 86 #[.string s] w (fun e w'=>e = .returned (.bool (Qj s))∧w=w'):=by
 have HS:=hide (show Calls Tryz.prog 115 #[.string s,.int .i64 0] w _ from Qpy s 0 w hs (Nat.zero_le _))
 have hle:=Qjn s 0 (by omega)
 unfold maxLen at hs;obtain ⟨n,hn⟩:=V1 (nameAt s 0);rw [← hn] at HS;rw [Nat.zero_add,← hn] at hle;have hb:Qj s=(decide (0 < s.size) && decide (s.size < 33) && decide (n=s.size)):=by
  rw [Bool.eq_iff_iff];simp [Qj,← hn]
  omega
 rw [hb];clear hb hn;by_cases h0:0 < s.size
 ·by_cases h1:s.size < 33
  ·go_enter Tryz.func86,Tryz.ntmps86
   go_wp2_with (go_at_call 115; with_reducible refine HS.out.mono ?_; rintro e w' ⟨rfl,rfl⟩)
   all_goals
    go_ret
    exact ⟨Qb (by rw [Bool.eq_iff_iff]; simp; omega),rfl⟩
  ·go_enter Tryz.func86,Tryz.ntmps86
   go_wp2_with fail
   all_goals
    go_ret
    exact ⟨Qb (by first | (simp; done) | (simp; omega)),rfl⟩
 ·go_enter Tryz.func86,Tryz.ntmps86
  go_wp2_with fail
  all_goals
   go_ret
   exact ⟨Qb (by first | (simp; done) | (simp; omega)),rfl⟩
def Qg (l:List ByteArray):List Value:=l.map Value.string
theorem Qbj (l m:List ByteArray):Qg (l ++ m)=Qg l ++ Qg m:=by simp [Qg]
def StrAt (w:World) (B:Nat) (A:Option Addr) (l:List ByteArray):Prop:=Reads w B 1 A l.length (Qg l)
theorem StrAt.cell {w:World} {B:Nat} {A:Option Addr} {l:List ByteArray} (h:StrAt w B A l) (hn:0 < l.length) :
  ∃ b o,A=some ⟨b,o,none⟩∧b < B∧∀ k (hk:k < l.length),w.cell? ⟨b,o + k,none⟩=some (.string l[k]):=by
 obtain ⟨b,o,e,hb,hc⟩:=h.form hn (Nat.lt_succ_self 0);exact ⟨b,o,e,hb,fun k hk=>hc _ _ (by simp [Qg,hk])⟩
theorem StrAt.ext {w w':World} {A:Option Addr} {l:List ByteArray} (h:StrAt w w.heap.size A l) (hE:Ext w w'):StrAt w' w'.heap.size A l :=
 (Reads.keep h fun _p hp=>hE.cell hp).more hE.size
def findL (l:List ByteArray) (s:ByteArray):Int:=match l.findIdx? (fun x=>decide (x=s)) with | some i=>i | none=>-1
theorem Q8 (a b:ByteArray):(a.toList == b.toList)=decide (a=b):=by
 rw [Bool.eq_iff_iff,beq_iff_eq,decide_eq_true_eq,Lib.toList_data,Lib.toList_data];constructor
 ·intro h;cases a; cases b
  congr 1
  exact Array.toList_inj.1 h
 ·intro h; rw [h]
theorem Qeo {l:List ByteArray} {s:ByteArray} {k:Nat} (hk:k < l.length) (h:∀ j (hj:j < l.length),j < k→l[j]≠s) (he:l[k]=s):l.findIdx? (fun x=>decide (x=s))=some k:=by
 rw [List.findIdx?_eq_some_iff_getElem];exact ⟨hk,by simpa using he,fun j hj=>by simpa using h j (by omega) hj⟩
theorem findIdx_miss {l:List ByteArray} {s:ByteArray} (h:∀ j (hj:j < l.length),l[j]≠s):l.findIdx? (fun x=>decide (x=s))=none:=by
 rw [List.findIdx?_eq_none_iff];intro x hx;obtain ⟨j,hj,rfl⟩:=List.getElem_of_mem hx;simpa using h j hj
def twiceP (l:List ByteArray) (i:Nat):Bool:=decide (findL l (l.getD i ⟨#[]⟩) < (i:Int))
def twiceL (l:List ByteArray):Int:=match (List.range l.length).find? (twiceP l) with | some i=>(i:Int) | none=>-1
theorem Qpz {l:List ByteArray} {k:Nat} (hk:k < l.length) (h:∀ j,j < k→twiceP l j=false) (he:twiceP l k=true):twiceL l=k:=by
 have:(List.range l.length).find? (twiceP l)=some k:=by
  rw [List.find?_range_eq_some];exact ⟨he,by simpa using hk,fun j hj=>by rw [h j hj]; rfl⟩
 unfold twiceL;rw [this]
theorem twice_miss {l:List ByteArray} (h:∀ j,j < l.length→twiceP l j=false):twiceL l = -1:=by
 have:(List.range l.length).find? (twiceP l)=none:=by
  rw [List.find?_eq_none];intro x hx;rw [h x (List.mem_range.1 hx)];exact Bool.false_ne_true
 unfold twiceL;rw [this]
theorem Qep (l:List ByteArray) (s:ByteArray) : -1≤findL l s∧findL l s < l.length∨findL l s = -1:=by
 unfold findL;cases h:l.findIdx? (fun x=>decide (x=s)) with
 | none=>right; rfl
 | some i =>
  left
  rw [List.findIdx?_eq_some_iff_getElem] at h;obtain ⟨hi,_⟩:=h;constructor
  ·show (-1:Int)≤(i:Int); omega
  ·show (i:Int) < _; omega
abbrev Wd:=ByteArray × Int
def wd0:Wd:=(⟨#[]⟩,0)
def nms (ws:List Wd):List ByteArray:=ws.map (·.1)
theorem nms_length (ws:List Wd):(nms ws).length=ws.length:=by simp [nms]
def wNm (ws:List Wd) (i:Nat):ByteArray:=(ws.getD i wd0).1
def wPl (ws:List Wd) (i:Nat):Int:=(ws.getD i wd0).2
theorem nms_at {ws:List Wd} {i:Nat} (h:i < (nms ws).length):(nms ws)[i]=wNm ws i:=by
 have h':i < ws.length:=by simpa [nms] using h
 simp [nms,wNm,List.getD_eq_getElem?_getD,List.getElem?_eq_getElem h']
def Qf (f:Nat→Option (Int × Int)) (n:Nat):Option (Int × Int):=(List.range n).findSome? f
theorem Qk {f:Nat→Option (Int × Int)} {n k:Nat} {x:Int × Int} (hk:k < n) (h0:∀ j,j < k→f j=none) (h:f k=some x):Qf f n=some x:=by
 unfold Qf;have e:List.range n=List.range k ++ (List.range (n - k)).map (k + ·):=by
  rw [← List.range_add]; congr 1; omega
 rw [e,List.findSome?_append,List.findSome?_eq_none_iff.2 (fun j hj=>h0 j (List.mem_range.1 hj))]
 obtain ⟨d,hd⟩:∃ d,n - k=d + 1:=⟨n - k - 1,by omega⟩
 rw [hd,List.range_succ_eq_map];simp [h]
theorem firstOf_miss {f:Nat→Option (Int × Int)} {n:Nat} : Qf f n=none↔∀ j,j < n→f j=none:=by
 unfold Qf;rw [List.findSome?_eq_none_iff];exact ⟨fun h j hj=>h j (List.mem_range.2 hj),fun h j hj=>h j (List.mem_range.1 hj)⟩
def wdCells (ws:List Wd):List Value:=ws.flatMap fun p=>[.string p.1,.int .i64 p.2]
theorem Qew (ws:List Wd):(wdCells ws).length=ws.length * 2:=by
 induction ws with
 | nil=>rfl
 | cons p ps ih=>simp only [wdCells,List.flatMap_cons,List.length_append] at ih ⊢; rw [ih]; simp; omega
theorem Qeq (ws:List Wd) (k:Nat) (hk:k < ws.length):(wdCells ws)[k * 2]? = some (.string (wNm ws k))∧(wdCells ws)[k * 2 + 1]? = some (.int .i64 (wPl ws k)):=by
 induction ws generalizing k with
 | nil=>simp at hk
 | cons p ps ih =>
  cases k with
  | zero=>exact ⟨rfl,rfl⟩
  | succ k =>
   have:=ih k (by simpa using hk)
   simp only [wdCells,List.flatMap_cons] at this ⊢;rw [show (k + 1) * 2=k * 2 + 1 + 1 by omega]
   simpa [wNm,wPl] using this
def WdsAt (w:World) (B:Nat) (A:Option Addr) (ws:List Wd):Prop:=Reads w B 2 A ws.length (wdCells ws)
theorem WdsAt.cell {w:World} {B:Nat} {A:Option Addr} {ws:List Wd} (h:WdsAt w B A ws) (hn:0 < ws.length) :
  ∃ b o,A=some ⟨b,o,none⟩∧b < B∧∀ k,k < ws.length→w.cell? ⟨b,o + k * 2,none⟩=some (.string (wNm ws k))∧w.cell? ⟨b,o + k * 2 + 1,none⟩=some (.int .i64 (wPl ws k)):=by
 obtain ⟨b,o,e,hb,hc⟩:=h.form hn (by omega)
 exact ⟨b,o,e,hb,fun k hk=>⟨hc _ _ (Qeq ws k hk).1,hc _ _ (Qeq ws k hk).2⟩⟩
theorem WdsAt.ext {w w':World} {A:Option Addr} {ws:List Wd} (h:WdsAt w w.heap.size A ws) (hE:Ext w w'):WdsAt w' w'.heap.size A ws :=
 (Reads.keep h fun _p hp=>hE.cell hp).more hE.size
def fltV (f:Int × Int):Value:=.agg #[.int .i64 f.1,.int .i64 f.2]
structure TyH where
 kind:Int
 at_:Int
 lo:Int
 hi:Int
 most:Int
 names:List Wd
 name:Wd
structure PtH where
 name:Wd
 bare:Bool
 label:List Wd
 wide:Int
 ck:Int
 cn:Int
 cat:Int
 cl:List Wd
inductive Ty
 | nil
 | mk (h:TyH) (n:Nat) (p:Nat→PtH) (t:Nat→Ty)
def tyV (h:TyH) (An:Option Addr) (cn:Nat) (Ap:Option Addr) (n cp:Nat):List Value:=[.int .i64 h.kind,.int .i64 h.at_,.int .i64 h.lo,.int .i64 h.hi,.int .i64 h.most,.slice An h.names.length cn,.slice Ap n cp,.string h.name.1,.int .i64 h.name.2]
def ptV (q:PtH) (Al:Option Addr) (cl:Nat) (Ac:Option Addr) (cc:Nat):List Value:=[.string q.name.1,.int .i64 q.name.2,.bool q.bare,.slice Al q.label.length cl,.int .i64 q.wide,.int .i64 q.ck,.int .i64 q.cn,.int .i64 q.cat,.slice Ac q.cl.length cc]
def TyAt (w:World) (B:Nat):Ty→List Value→Prop
 | .nil,_=>False
 | .mk h n p t,vs=>∃ An cn Ap cp,vs=tyV h An cn Ap n cp∧WdsAt w B An h.names∧(0 < n→∃ b o,Ap=some ⟨b,o,none⟩∧b < B∧∀ i,i < n→∃ Al cl Ac cc vt,(∀ j v,(ptV (p i) Al cl Ac cc ++ vt)[j]? = some v→w.cell? ⟨b,o + i * 18 + j,none⟩=some v)∧WdsAt w B Al (p i).label∧WdsAt w B Ac (p i).cl∧TyAt w B (t i) vt)
def Qi (l:List Wd):Prop:=l.length≤5864062014634∧∀ k,(wNm l k).size≤maxLen
def Qr:Ty→Prop
 | .nil=>False
 | .mk h n p t=>Qi h.names∧h.name.1.size≤maxLen∧n≤628292358710∧∀ i,i < n→(p i).name.1.size≤maxLen∧Qi (p i).label∧Qi (p i).cl∧Qr (t i)
theorem TyAt.ext {t:Ty} : ∀ {w w':World} {vs:List Value},TyAt w w.heap.size t vs→Ext w w'→TyAt w' w'.heap.size t vs:=by
 induction t with
 | nil=>intro w w' vs h _; exact h.elim
 | mk h n p t ih =>
  rintro w w' vs ⟨An,cn,Ap,cp,rfl,h1,h2⟩ hE;refine ⟨An,cn,Ap,cp,rfl,h1.ext hE,fun hn=>?_⟩
  obtain ⟨b,o,e,hb,hc⟩:=h2 hn;refine ⟨b,o,e,Nat.lt_of_lt_of_le hb hE.size,fun i hi=>?_⟩
  obtain ⟨Al,cl,Ac,cc,vt,q1,q2,q3,q4⟩:=hc i hi;exact ⟨Al,cl,Ac,cc,vt,fun j v hv=>(hE.cell (p:=⟨b,o + i * 18 + j,none⟩) hb).trans (q1 j v hv),q2.ext hE,q3.ext hE,ih i q4 hE⟩
theorem TyAt.form {t:Ty} {w:World} {B:Nat} {vs:List Value} (h:TyAt w B t vs):∃ (h':TyH) (n':Nat) (An:Option Addr) (cn:Nat) (Ap:Option Addr) (cp:Nat),vs=tyV h' An cn Ap n' cp:=by
 cases t with
 | nil=>exact h.elim
 | mk h' n' p' t' =>
  obtain ⟨An,cn,Ap,cp,e,_⟩:=h;exact ⟨h',n',An,cn,Ap,cp,e⟩
def Qdi (b:Nat→Bool) (f:Nat→Int):Nat→Int
 | 0=>1
 | k + 1=>if b k=true then Qdi b f k else IntKind.i64.wrap (Qdi b f k + f k)
def Q6:Ty→Int
 | .nil=>0
 | .mk _ n p t=>Qdi (fun i=>(p i).bare) (fun i=>Q6 (t i)) n
def Qh9 (b:Nat→Bool) (f:Nat→Int):Nat→Int
 | 0=>0
 | k + 1=>if b k=true then Qh9 b f k else if Qh9 b f k < f k then f k else Qh9 b f k
def Qba:Ty→Int
 | .nil=>0
 | .mk _ n p t=>IntKind.i64.wrap (Qh9 (fun i=>(p i).bare) (fun i=>Qba (t i)) n + 1)
def Qx (a b:List Wd):Bool:=decide (nms a=nms b)
def Qgw (a b:TyH):Bool:=decide (a.kind=b.kind) && decide (a.lo=b.lo) && decide (a.hi=b.hi) && decide (a.most=b.most) && decide (a.name.1=b.name.1) && Qx a.names b.names
def Q5 (p q:PtH):Bool:=decide (p.bare=q.bare) && decide (p.wide=q.wide) && Qx p.label q.label && decide (p.ck=q.ck) && decide (p.cn=q.cn) && Qx p.cl q.cl
def Q3 (p q:PtH):Bool:=decide (p.name.1=q.name.1) && Q5 p q
def Qu:Ty→Ty→Bool
 | .nil,.nil=>true
 | .nil,.mk _ _ _ _=>false
 | .mk _ _ _ _,.nil=>false
 | .mk h n p t,.mk h' n' p' t'=>Qgw h h' && decide (n=n') && (List.range n).all fun i=>Q3 (p i) (p' i) && Qu (t i) (t' i)
theorem Qho (h:TyH) (n:Nat) (p:Nat→PtH) (t:Nat→Ty) (h':TyH) (n':Nat) (p':Nat→PtH) (t':Nat→Ty):Qu (.mk h n p t) (.mk h' n' p' t')=(Qgw h h' && decide (n=n') && (List.range n).all fun i=>Q3 (p i) (p' i) && Qu (t i) (t' i)):=rfl
theorem Qg7 (p:PtH):Q5 p p=true:=by simp [Q5,Qx]
theorem sameT_self (t:Ty):Qu t t=true:=by
 induction t with
 | nil=>rfl
 | mk h n p t ih =>
  rw [Qho];simp [Qgw,Qx,Q3,Qg7,ih]
def Qb2 (k lo hi mo:Int) (z n:Nat) (e:Bool):Bool:=((lo == 0) && (hi == 0) || (k == 2)) && ((mo == 0) || (k == 3) || (k == 5)) && ((n == 0) || (decide (5≤k) && decide (k≤8))) && ((z == 0) || (k == 4)) && (e || (k == 9))
def Qcd (h:TyH) (n:Nat):Bool:=Qb2 h.kind h.lo h.hi h.most h.names.length n (decide (h.name.1=⟨#[]⟩))
set_option maxRecDepth 100000 in
theorem Qu4 (a lo hi mo y:Int) (An:Option Addr) (z cn:Nat) (Ap:Option Addr) (n cp:Nat) (s:ByteArray) (w:World):Calls Tryz.prog 128 #[.agg #[.int .i64 2,.int .i64 a,.int .i64 lo,.int .i64 hi,.int .i64 mo,.slice An z cn,.slice Ap n cp,.string s,.int .i64 y]] w (fun e w'=>e = .returned (.bool (Qb2 2 lo hi mo z n (decide (s=⟨#[]⟩))))∧Ext w w'):=by
 obtain ⟨w1,hw1,g,hg⟩:=V2 (w.alloc (.cells #[.int .i64 2,.int .i64 a,.int .i64 lo,.int .i64 hi,.int .i64 mo,.slice An z cn,.slice Ap n cp,.string s,.int .i64 y] 29)) (w.heap.size);have hB:Blk w1 g 29 #[.int .i64 2,.int .i64 a,.int .i64 lo,.int .i64 hi,.int .i64 mo,.slice An z cn,.slice Ap n cp,.string s,.int .i64 y]:=by rw [hw1,hg]; exact Blk.new _ _ _
 have HE:=hide (show Ext w w1 by rw [hw1]; exact (Ext.rfl' w).alloc nL _)
 obtain ⟨b0,-,b2,b3,b4,b5,b6,b7⟩:=X8 hB;obtain ⟨B0,hB0,B1,hB1,B2,hB2,B3,hB3,B4,hB4,B5,hB5⟩:=V6 ((lo == 0)) ((hi == 0)) ((mo == 0)) (((n:Int) == 0)) (((z:Int) == 0)) (s.toList.isEmpty);obtain ⟨R,hR⟩:=V1 (Qb2 2 lo hi mo z n (decide (s=⟨#[]⟩)));have hx:=hR;unfold Qb2 at hx;have hn:(n == 0)=B3:=by rw [hB3,Bool.eq_iff_iff]; simp
 have hz:(z == 0)=B4:=by rw [hB4,Bool.eq_iff_iff]; simp
 rw [← Q8,show (s.toList == (⟨#[]⟩:ByteArray).toList)=s.toList.isEmpty by simp,← hB0,← hB1,← hB2,hn,hz,← hB5] at hx
 rw [← hR];have e0:=hB0.symm;have e1:=hB1.symm;have e2:=hB2.symm;have e3:=hB3.symm;have e4:=hB4.symm;have e5:=hB5.symm;rw [show (decide ((5:Int)≤2) && decide ((2:Int)≤8))=false by decide] at hx
 obtain ⟨HX,HW,HG⟩:=Z3 hx hw1 hg;clear hw1 hg hB hR hx hn hz hB0 hB1 hB2 hB3 hB4 hB5;go_enter Tryz.func128,Tryz.ntmps128
 go_upto_region 1 with fail
 rw [← HW.out,← HG.out];go_cut [3] (fun v wx=>v = .bool (B0 && B1)∧wx=w1)
 case first =>
  cases B0 with
  | false =>
   go_wp2_with fail
   go_meet
   exact ⟨rfl,rfl⟩
  | true =>
   go_wp2_with fail
   go_meet
   exact ⟨rfl,rfl⟩
 case rest =>
  obtain ⟨rfl,rfl⟩:=hcut;obtain ⟨NU,hNU⟩:=V1 ((B0 && B1));rw [← hNU] at HX ⊢;clear hNU;go_upto_region 9 with fail
  go_cut [5] (fun v wx=>v = .bool (B3 || false)∧wx=wc)
  case first =>
   cases B3 with
   | true =>
    go_wp2_with fail
    go_meet
    exact ⟨rfl,rfl⟩
   | false =>
    go_wp2_with fail
    go_meet
    exact ⟨rfl,rfl⟩
  case rest =>
   obtain ⟨rfl,hww⟩:=hcut;rw [hww];obtain ⟨PA,hPA⟩:=V1 ((B3 || false));rw [← hPA] at HX ⊢;clear hPA hww;cases B2 with
   | false =>
    go_wp2_with fail
    go_ret
    exact ⟨Qb (by rw [HX.out]; first | rfl | (cases NU <;> rfl) | (cases B2 <;> rfl) | (cases NU <;> cases B2 <;> rfl)),HE.out⟩
   | true =>
    cases PA with
    | false =>
     go_wp2_with fail
     go_ret
     exact ⟨Qb (by rw [HX.out]; first | rfl | (cases NU <;> rfl) | (cases B2 <;> rfl) | (cases NU <;> cases B2 <;> rfl)),HE.out⟩
    | true =>
     cases B4 with
     | true =>
      cases B5 with
      | true =>
       have e5':s.toList = []:=by simpa using e5
       go_wp2_with fail
       go_ret
       exact ⟨Qb (by rw [HX.out]; first | rfl | (cases NU <;> rfl) | (cases B2 <;> rfl) | (cases NU <;> cases B2 <;> rfl)),HE.out⟩
      | false =>
       have e5':¬ s.toList = []:=by simpa using e5
       go_wp2_with fail
       go_ret
       exact ⟨Qb (by rw [HX.out]; first | rfl | (cases NU <;> rfl) | (cases B2 <;> rfl) | (cases NU <;> cases B2 <;> rfl)),HE.out⟩
     | false =>
      go_wp2_with fail
      go_ret
      exact ⟨Qb (by rw [HX.out]; first | rfl | (cases NU <;> rfl) | (cases B2 <;> rfl) | (cases NU <;> cases B2 <;> rfl)),HE.out⟩
set_option maxRecDepth 100000 in
theorem Qu5 (a lo hi mo y:Int) (An:Option Addr) (z cn:Nat) (Ap:Option Addr) (n cp:Nat) (s:ByteArray) (w:World):Calls Tryz.prog 128 #[.agg #[.int .i64 3,.int .i64 a,.int .i64 lo,.int .i64 hi,.int .i64 mo,.slice An z cn,.slice Ap n cp,.string s,.int .i64 y]] w (fun e w'=>e = .returned (.bool (Qb2 3 lo hi mo z n (decide (s=⟨#[]⟩))))∧Ext w w'):=by
 obtain ⟨w1,hw1,g,hg⟩:=V2 (w.alloc (.cells #[.int .i64 3,.int .i64 a,.int .i64 lo,.int .i64 hi,.int .i64 mo,.slice An z cn,.slice Ap n cp,.string s,.int .i64 y] 29)) (w.heap.size);have hB:Blk w1 g 29 #[.int .i64 3,.int .i64 a,.int .i64 lo,.int .i64 hi,.int .i64 mo,.slice An z cn,.slice Ap n cp,.string s,.int .i64 y]:=by rw [hw1,hg]; exact Blk.new _ _ _
 have HE:=hide (show Ext w w1 by rw [hw1]; exact (Ext.rfl' w).alloc nL _)
 obtain ⟨b0,-,b2,b3,b4,b5,b6,b7⟩:=X8 hB;obtain ⟨B0,hB0,B1,hB1,B2,hB2,B3,hB3,B4,hB4,B5,hB5⟩:=V6 ((lo == 0)) ((hi == 0)) ((mo == 0)) (((n:Int) == 0)) (((z:Int) == 0)) (s.toList.isEmpty);obtain ⟨R,hR⟩:=V1 (Qb2 3 lo hi mo z n (decide (s=⟨#[]⟩)));have hx:=hR;unfold Qb2 at hx;have hn:(n == 0)=B3:=by rw [hB3,Bool.eq_iff_iff]; simp
 have hz:(z == 0)=B4:=by rw [hB4,Bool.eq_iff_iff]; simp
 rw [← Q8,show (s.toList == (⟨#[]⟩:ByteArray).toList)=s.toList.isEmpty by simp,← hB0,← hB1,← hB2,hn,hz,← hB5] at hx
 rw [← hR];have e0:=hB0.symm;have e1:=hB1.symm;have e2:=hB2.symm;have e3:=hB3.symm;have e4:=hB4.symm;have e5:=hB5.symm;rw [show (decide ((5:Int)≤3) && decide ((3:Int)≤8))=false by decide] at hx
 obtain ⟨HX,HW,HG⟩:=Z3 hx hw1 hg;clear hw1 hg hB hR hx hn hz hB0 hB1 hB2 hB3 hB4 hB5;go_enter Tryz.func128,Tryz.ntmps128
 go_upto_region 1 with fail
 rw [← HW.out,← HG.out];go_cut [3] (fun v wx=>v = .bool (B0 && B1)∧wx=w1)
 case first =>
  cases B0 with
  | false =>
   go_wp2_with fail
   go_meet
   exact ⟨rfl,rfl⟩
  | true =>
   go_wp2_with fail
   go_meet
   exact ⟨rfl,rfl⟩
 case rest =>
  obtain ⟨rfl,rfl⟩:=hcut;obtain ⟨NU,hNU⟩:=V1 ((B0 && B1));rw [← hNU] at HX ⊢;clear hNU;go_upto_region 9 with fail
  go_cut [5] (fun v wx=>v = .bool (B3 || false)∧wx=wc)
  case first =>
   cases B3 with
   | true =>
    go_wp2_with fail
    go_meet
    exact ⟨rfl,rfl⟩
   | false =>
    go_wp2_with fail
    go_meet
    exact ⟨rfl,rfl⟩
  case rest =>
   obtain ⟨rfl,hww⟩:=hcut;rw [hww];obtain ⟨PA,hPA⟩:=V1 ((B3 || false));rw [← hPA] at HX ⊢;clear hPA hww;cases NU with
   | false =>
    go_wp2_with fail
    go_ret
    exact ⟨Qb (by rw [HX.out]; first | rfl | (cases NU <;> rfl) | (cases B2 <;> rfl) | (cases NU <;> cases B2 <;> rfl)),HE.out⟩
   | true =>
    cases PA with
    | false =>
     go_wp2_with fail
     go_ret
     exact ⟨Qb (by rw [HX.out]; first | rfl | (cases NU <;> rfl) | (cases B2 <;> rfl) | (cases NU <;> cases B2 <;> rfl)),HE.out⟩
    | true =>
     cases B4 with
     | true =>
      cases B5 with
      | true =>
       have e5':s.toList = []:=by simpa using e5
       go_wp2_with fail
       go_ret
       exact ⟨Qb (by rw [HX.out]; first | rfl | (cases NU <;> rfl) | (cases B2 <;> rfl) | (cases NU <;> cases B2 <;> rfl)),HE.out⟩
      | false =>
       have e5':¬ s.toList = []:=by simpa using e5
       go_wp2_with fail
       go_ret
       exact ⟨Qb (by rw [HX.out]; first | rfl | (cases NU <;> rfl) | (cases B2 <;> rfl) | (cases NU <;> cases B2 <;> rfl)),HE.out⟩
     | false =>
      go_wp2_with fail
      go_ret
      exact ⟨Qb (by rw [HX.out]; first | rfl | (cases NU <;> rfl) | (cases B2 <;> rfl) | (cases NU <;> cases B2 <;> rfl)),HE.out⟩
set_option maxRecDepth 100000 in
theorem Qu6 (a lo hi mo y:Int) (An:Option Addr) (z cn:Nat) (Ap:Option Addr) (n cp:Nat) (s:ByteArray) (w:World):Calls Tryz.prog 128 #[.agg #[.int .i64 5,.int .i64 a,.int .i64 lo,.int .i64 hi,.int .i64 mo,.slice An z cn,.slice Ap n cp,.string s,.int .i64 y]] w (fun e w'=>e = .returned (.bool (Qb2 5 lo hi mo z n (decide (s=⟨#[]⟩))))∧Ext w w'):=by
 obtain ⟨w1,hw1,g,hg⟩:=V2 (w.alloc (.cells #[.int .i64 5,.int .i64 a,.int .i64 lo,.int .i64 hi,.int .i64 mo,.slice An z cn,.slice Ap n cp,.string s,.int .i64 y] 29)) (w.heap.size);have hB:Blk w1 g 29 #[.int .i64 5,.int .i64 a,.int .i64 lo,.int .i64 hi,.int .i64 mo,.slice An z cn,.slice Ap n cp,.string s,.int .i64 y]:=by rw [hw1,hg]; exact Blk.new _ _ _
 have HE:=hide (show Ext w w1 by rw [hw1]; exact (Ext.rfl' w).alloc nL _)
 obtain ⟨b0,-,b2,b3,b4,b5,b6,b7⟩:=X8 hB;obtain ⟨B0,hB0,B1,hB1,B2,hB2,B3,hB3,B4,hB4,B5,hB5⟩:=V6 ((lo == 0)) ((hi == 0)) ((mo == 0)) (((n:Int) == 0)) (((z:Int) == 0)) (s.toList.isEmpty);obtain ⟨R,hR⟩:=V1 (Qb2 5 lo hi mo z n (decide (s=⟨#[]⟩)));have hx:=hR;unfold Qb2 at hx;have hn:(n == 0)=B3:=by rw [hB3,Bool.eq_iff_iff]; simp
 have hz:(z == 0)=B4:=by rw [hB4,Bool.eq_iff_iff]; simp
 rw [← Q8,show (s.toList == (⟨#[]⟩:ByteArray).toList)=s.toList.isEmpty by simp,← hB0,← hB1,← hB2,hn,hz,← hB5] at hx
 rw [← hR];have e0:=hB0.symm;have e1:=hB1.symm;have e2:=hB2.symm;have e3:=hB3.symm;have e4:=hB4.symm;have e5:=hB5.symm;rw [show (decide ((5:Int)≤5) && decide ((5:Int)≤8))=true by decide] at hx
 obtain ⟨HX,HW,HG⟩:=Z3 hx hw1 hg;clear hw1 hg hB hR hx hn hz hB0 hB1 hB2 hB3 hB4 hB5;go_enter Tryz.func128,Tryz.ntmps128
 go_upto_region 1 with fail
 rw [← HW.out,← HG.out];go_cut [3] (fun v wx=>v = .bool (B0 && B1)∧wx=w1)
 case first =>
  cases B0 with
  | false =>
   go_wp2_with fail
   go_meet
   exact ⟨rfl,rfl⟩
  | true =>
   go_wp2_with fail
   go_meet
   exact ⟨rfl,rfl⟩
 case rest =>
  obtain ⟨rfl,rfl⟩:=hcut;obtain ⟨NU,hNU⟩:=V1 ((B0 && B1));rw [← hNU] at HX ⊢;clear hNU;go_upto_region 9 with fail
  go_cut [5] (fun v wx=>v = .bool (B3 || true)∧wx=wc)
  case first =>
   cases B3 with
   | true =>
    go_wp2_with fail
    go_meet
    exact ⟨rfl,rfl⟩
   | false =>
    go_wp2_with fail
    go_meet
    exact ⟨rfl,rfl⟩
  case rest =>
   obtain ⟨rfl,hww⟩:=hcut;rw [hww];obtain ⟨PA,hPA⟩:=V1 ((B3 || true));rw [← hPA] at HX ⊢;clear hPA hww;cases NU with
   | false =>
    go_wp2_with fail
    go_ret
    exact ⟨Qb (by rw [HX.out]; first | rfl | (cases NU <;> rfl) | (cases B2 <;> rfl) | (cases NU <;> cases B2 <;> rfl)),HE.out⟩
   | true =>
    cases PA with
    | false =>
     go_wp2_with fail
     go_ret
     exact ⟨Qb (by rw [HX.out]; first | rfl | (cases NU <;> rfl) | (cases B2 <;> rfl) | (cases NU <;> cases B2 <;> rfl)),HE.out⟩
    | true =>
     cases B4 with
     | true =>
      cases B5 with
      | true =>
       have e5':s.toList = []:=by simpa using e5
       go_wp2_with fail
       go_ret
       exact ⟨Qb (by rw [HX.out]; first | rfl | (cases NU <;> rfl) | (cases B2 <;> rfl) | (cases NU <;> cases B2 <;> rfl)),HE.out⟩
      | false =>
       have e5':¬ s.toList = []:=by simpa using e5
       go_wp2_with fail
       go_ret
       exact ⟨Qb (by rw [HX.out]; first | rfl | (cases NU <;> rfl) | (cases B2 <;> rfl) | (cases NU <;> cases B2 <;> rfl)),HE.out⟩
     | false =>
      go_wp2_with fail
      go_ret
      exact ⟨Qb (by rw [HX.out]; first | rfl | (cases NU <;> rfl) | (cases B2 <;> rfl) | (cases NU <;> cases B2 <;> rfl)),HE.out⟩
set_option maxRecDepth 100000 in
theorem Qu7 (k a lo hi mo y:Int) (An:Option Addr) (z cn:Nat) (Ap:Option Addr) (n cp:Nat) (s:ByteArray) (k2:(k == 2)=false) (k3:(k == 3)=false) (k5:(k == 5)=false) (w:World):Calls Tryz.prog 128 #[.agg #[.int .i64 k,.int .i64 a,.int .i64 lo,.int .i64 hi,.int .i64 mo,.slice An z cn,.slice Ap n cp,.string s,.int .i64 y]] w (fun e w'=>e = .returned (.bool (Qb2 k lo hi mo z n (decide (s=⟨#[]⟩))))∧Ext w w'):=by
 obtain ⟨w1,hw1,g,hg⟩:=V2 (w.alloc (.cells #[.int .i64 k,.int .i64 a,.int .i64 lo,.int .i64 hi,.int .i64 mo,.slice An z cn,.slice Ap n cp,.string s,.int .i64 y] 29)) (w.heap.size);have hB:Blk w1 g 29 #[.int .i64 k,.int .i64 a,.int .i64 lo,.int .i64 hi,.int .i64 mo,.slice An z cn,.slice Ap n cp,.string s,.int .i64 y]:=by rw [hw1,hg]; exact Blk.new _ _ _
 have HE:=hide (show Ext w w1 by rw [hw1]; exact (Ext.rfl' w).alloc nL _)
 obtain ⟨b0,-,b2,b3,b4,b5,b6,b7⟩:=X8 hB;obtain ⟨B0,hB0,B1,hB1,B2,hB2,B3,hB3,B4,hB4,B5,hB5⟩:=V6 ((lo == 0)) ((hi == 0)) ((mo == 0)) (((n:Int) == 0)) (((z:Int) == 0)) (s.toList.isEmpty);obtain ⟨R,hR⟩:=V1 (Qb2 k lo hi mo z n (decide (s=⟨#[]⟩)));have hx:=hR;unfold Qb2 at hx;have hn:(n == 0)=B3:=by rw [hB3,Bool.eq_iff_iff]; simp
 have hz:(z == 0)=B4:=by rw [hB4,Bool.eq_iff_iff]; simp
 rw [← Q8,show (s.toList == (⟨#[]⟩:ByteArray).toList)=s.toList.isEmpty by simp,← hB0,← hB1,← hB2,hn,hz,← hB5] at hx
 rw [← hR];have e0:=hB0.symm;have e1:=hB1.symm;have e2:=hB2.symm;have e3:=hB3.symm;have e4:=hB4.symm;have e5:=hB5.symm;rw [k2,k3,k5] at hx;obtain ⟨K4,hK4,K9,hK9,G5,hG5,L8,hL8⟩:=V4 ((k == 4)) ((k == 9)) (decide (5≤k)) (decide (k≤8));rw [← hK4,← hK9,← hG5,← hL8] at hx;have e6:=hK4.symm;have e7:=hK9.symm;have e8:=hG5.symm;have e9:=hL8.symm;obtain ⟨HX,HW,HG⟩:=Z3 hx hw1 hg;clear hw1 hg hB hR hx hn hz hB0 hB1 hB2 hB3 hB4 hB5 hK4 hK9 hG5 hL8;go_enter Tryz.func128,Tryz.ntmps128
 go_upto_region 1 with fail
 rw [← HW.out,← HG.out];go_cut [3] (fun v wx=>v = .bool (B0 && B1)∧wx=w1)
 case first =>
  cases B0 with
  | false =>
   go_wp2_with fail
   go_meet
   exact ⟨rfl,rfl⟩
  | true =>
   go_wp2_with fail
   go_meet
   exact ⟨rfl,rfl⟩
 case rest =>
  obtain ⟨rfl,rfl⟩:=hcut;obtain ⟨NU,hNU⟩:=V1 ((B0 && B1));rw [← hNU] at HX ⊢;clear hNU;go_upto_region 9 with fail
  go_cut [5] (fun v wx=>v = .bool (B3 || (G5 && L8))∧wx=wc)
  case first =>
   cases B3 with
   | true =>
    go_wp2_with fail
    go_meet
    exact ⟨rfl,rfl⟩
   | false =>
    cases G5 with
    | false =>
     go_wp2_with fail
     go_meet
     exact ⟨rfl,rfl⟩
    | true =>
     go_wp2_with fail
     go_meet
     exact ⟨rfl,rfl⟩
  case rest =>
   obtain ⟨rfl,hww⟩:=hcut;rw [hww];obtain ⟨PA,hPA⟩:=V1 ((B3 || (G5 && L8)));rw [← hPA] at HX ⊢;clear hPA hww;cases NU with
   | false =>
    go_wp2_with fail
    go_ret
    exact ⟨Qb (by rw [HX.out]; first | rfl | (cases NU <;> rfl) | (cases B2 <;> rfl) | (cases NU <;> cases B2 <;> rfl)),HE.out⟩
   | true =>
    cases B2 with
    | false =>
     go_wp2_with fail
     go_ret
     exact ⟨Qb (by rw [HX.out]; first | rfl | (cases NU <;> rfl) | (cases B2 <;> rfl) | (cases NU <;> cases B2 <;> rfl)),HE.out⟩
    | true =>
     cases PA with
     | false =>
      go_wp2_with fail
      go_ret
      exact ⟨Qb (by rw [HX.out]; first | rfl | (cases NU <;> rfl) | (cases B2 <;> rfl) | (cases NU <;> cases B2 <;> rfl)),HE.out⟩
     | true =>
      cases B4 with
      | true =>
       cases B5 with
       | true =>
        have e5':s.toList = []:=by simpa using e5
        go_wp2_with fail
        go_ret
        exact ⟨Qb (by rw [HX.out]; first | rfl | (cases NU <;> rfl) | (cases B2 <;> rfl) | (cases NU <;> cases B2 <;> rfl)),HE.out⟩
       | false =>
        have e5':¬ s.toList = []:=by simpa using e5
        cases K9 with
        | false =>
         go_wp2_with fail
         go_ret
         exact ⟨Qb (by rw [HX.out]; first | rfl | (cases NU <;> rfl) | (cases B2 <;> rfl) | (cases NU <;> cases B2 <;> rfl)),HE.out⟩
        | true =>
         go_wp2_with fail
         go_ret
         exact ⟨Qb (by rw [HX.out]; first | rfl | (cases NU <;> rfl) | (cases B2 <;> rfl) | (cases NU <;> cases B2 <;> rfl)),HE.out⟩
      | false =>
       cases K4 with
       | false =>
        go_wp2_with fail
        go_ret
        exact ⟨Qb (by rw [HX.out]; first | rfl | (cases NU <;> rfl) | (cases B2 <;> rfl) | (cases NU <;> cases B2 <;> rfl)),HE.out⟩
       | true =>
        cases B5 with
        | true =>
         have e5':s.toList = []:=by simpa using e5
         go_wp2_with fail
         go_ret
         exact ⟨Qb (by rw [HX.out]; first | rfl | (cases NU <;> rfl) | (cases B2 <;> rfl) | (cases NU <;> cases B2 <;> rfl)),HE.out⟩
        | false =>
         have e5':¬ s.toList = []:=by simpa using e5
         cases K9 with
         | false =>
          go_wp2_with fail
          go_ret
          exact ⟨Qb (by rw [HX.out]; first | rfl | (cases NU <;> rfl) | (cases B2 <;> rfl) | (cases NU <;> cases B2 <;> rfl)),HE.out⟩
         | true =>
          go_wp2_with fail
          go_ret
          exact ⟨Qb (by rw [HX.out]; first | rfl | (cases NU <;> rfl) | (cases B2 <;> rfl) | (cases NU <;> cases B2 <;> rfl)),HE.out⟩
end Go.Proofs.YtanpljalbijfkaaGreat
