/- Texts of this claim, packed: walks and laws that its row stands on. Each states its own conditions. -/
import Derived.Deep.AppendSrc
import Derived.Deep.MidRow
import Derived.Deep.Upon
import Derived.Laws.BytesString
import Derived.MapKept
import Derived.WalkKit
namespace Go.Proofs.YtcpfhonmdbhdbaaGreatDoor.Am
open Go
abbrev DrLe (a b : Nat) : Prop := a ≤ b
theorem DrLe.of_le {a b : Nat} (h : a ≤ b) : DrLe a b := h
theorem DrLe.trans {a b c : Nat} (h : DrLe a b) (h' : DrLe b c) : DrLe a c := Nat.le_trans h h'
def GlB (_ : Nat) : Prop := False
def Glob (_ : World) : Prop := True
theorem Glob.lt {w : World} (_ : Glob w) {b : Nat} (hb : GlB b) : b < w.heap.size := hb.elim
theorem Glob.mono {w w' : World} (_ : Glob w) (_ : ∀ b, GlB b → w'.heap[b]? = w.heap[b]?) : Glob w' := trivial
end Go.Proofs.YtcpfhonmdbhdbaaGreatDoor.Am
namespace Go.Proofs.YtcpfhonmdbhdbaaGreatDoor.Am
open Go
set_option linter.unusedVariables false
inductive T where
  | int (k : IntKind) (n : Int)
  | bool (b : Bool)
  | str (s : ByteArray)
  | list (o : Bool) (sz : Nat) (rows : List (List T))
  | fn (f : FuncId) (cap : List T)
  | nilp
  | nilfn
  | gone
  | mp (ks : List ByteArray) (rows : List (List T))
  | pp (x : T)
instance : Inhabited T := ⟨.nilp⟩
inductive AV where
  | t (x : T)
  | own (x : T)
  | ls (x : T) (org : Option (Nat × Nat × Nat))
  | nils (sz : Nat)
  | agg (cs : List AV)
  | tup (vs : List AV)
  | refw (k : Nat)
  | ref (k off len : Nat)
  | ptr (k i j : Nat)
  | rop (l : Bool) (row : List T) (j : Nat)
  | fn (f : FuncId) (cap : List AV)
  | skip
  | undef
instance : Inhabited AV := ⟨.undef⟩
inductive Blk where
  | box (cs : List AV)
  | rows (sz : Nat) (rs : List (List T))
instance : Inhabited Blk := ⟨.box []⟩
abbrev Hp := List (Nat × Blk)
structure St where
  tm : List AV
  hp : Hp
inductive TK where
  | struct | slice | int (k : IntKind) | bool | str | ptr | map | other
structure Ty where
  size : Nat
  k : TK
  zero : List AV
  fs : List (Nat × Nat)
  elem : Nat
  esz : Nat
  ebytes : Nat
  eq : Bool
structure Env where
  ty : Nat → Option Ty
  opn : FuncId → Bool
instance : CoeFun Env (fun _ => Nat → Option Ty) := ⟨Env.ty⟩
def Ty.agg (y : Ty) : Bool := match y.k with | .struct => true | _ => false
def Ty.isStr (y : Ty) : Bool := match y.k with | .str => true | _ => false
def Ty.isSlice (y : Ty) : Bool := match y.k with | .slice => true | _ => false
def Ty.isMap (y : Ty) : Bool := match y.k with | .map => true | _ => false
def Ty.isBool (y : Ty) : Bool := match y.k with | .bool => true | _ => false
def Ty.isPtr (y : Ty) : Bool := match y.k with | .ptr => true | _ => false
def gt : List AV → Nat → AV
  | [], _ => .undef
  | a :: _, 0 => a
  | _ :: l, n + 1 => gt l n
def pt : List AV → Nat → AV → List AV
  | [], _, _ => []
  | _ :: l, 0, v => v :: l
  | a :: l, n + 1, v => a :: pt l n v
def hget : Hp → Nat → Option Blk
  | [], _ => none
  | (k, b) :: h, n => if k = n then some b else hget h n
def hput : Hp → Nat → Blk → Hp
  | [], n, c => [(n, c)]
  | (k, b) :: h, n, c => if k = n then (k, c) :: h else if n < k then (n, c) :: (k, b) :: h else (k, b) :: hput h n c
def hdel : Hp → Nat → Hp
  | [], _ => []
  | (k, b) :: h, n => if k = n then hdel h n else (k, b) :: hdel h n
def St.put (s : St) (d : Option Tmp) (v : AV) : St :=
  match d with
  | some i => ⟨pt s.tm i v, s.hp⟩
  | none => s
def ofV : Value → AV
  | .int k n => .t (.int k n)
  | .bool b => .t (.bool b)
  | .string s => .t (.str s)
  | .pointer none => .t .nilp
  | .slice none 0 0 => .nils 0
  | .nilFunc => .t .nilfn
  | _ => .undef
def St.ev (s : St) : Operand → AV
  | .tmp i => gt s.tm i
  | .const v => ofV v
  | .global _ => .undef
  | .func f => .fn f []
def St.evs (s : St) : List Operand → List AV
  | [] => []
  | x :: l => s.ev x :: s.evs l
def AV.stb : AV → Bool
  | .undef => false
  | .skip => false
  | .tup _ => false
  | .agg _ => false
  | .own _ => false
  | _ => true
def stbs : List AV → Bool
  | [] => true
  | x :: l => x.stb && stbs l
def AV.cells : AV → List AV
  | .agg cs => if stbs cs then cs else []
  | v => if v.stb then [v] else []
def rdT (l : Bool) (org : Option (Nat × Nat × Nat)) : T → AV
  | .list o sz rows => if l then .ls (.list o sz rows) org else .t (.list o sz rows)
  | .fn f cap => if l then .undef else .t (.fn f cap)
  | .mp ks rows => if l then .undef else .t (.mp ks rows)
  | .pp x => if l then .undef else .t (.pp x)
  | x => .t x
def rdC (org : Option (Nat × Nat × Nat)) : T → AV
  | .list false sz rows => .t (.list false sz rows)
  | .list true sz rows => .ls (.list true sz rows) org
  | .fn _ _ => .undef
  | .int k n => .t (.int k n)
  | .bool b => .t (.bool b)
  | .str s => .t (.str s)
  | .nilp => .t .nilp
  | .nilfn => .t .nilfn
  | .gone => .t .gone
  | .mp _ _ => .undef
  | .pp _ => .undef
def rdRow (k i : Nat) : Nat → List T → List AV
  | _, [] => []
  | j, x :: r => rdC (some (k, i, j)) x :: rdRow k i (j + 1) r
def rdRop (l : Bool) : List T → List AV
  | [] => []
  | x :: r => rdT l none x :: rdRop l r
def cut {α : Type} : Nat → Nat → List α → Option (List α)
  | 0, 0, _ => some []
  | 0, n + 1, x :: l => (cut 0 n l).map (x :: ·)
  | j + 1, n, _ :: l => cut j n l
  | _, _, _ => none
def repl {α : Type} : Nat → List α → List α → List α
  | _, [], cs => cs
  | 0, v :: vs, _ :: cs => v :: repl 0 vs cs
  | j + 1, v :: vs, c :: cs => c :: repl j (v :: vs) cs
  | _, _ :: _, [] => []
def mkAV (agg : Bool) (cs : List AV) : Option AV :=
  if agg then some (.agg cs) else match cs with
    | [.agg _] => none
    | [c] => some c
    | _ => none
def loadAV (y : Ty) (s : St) (a : AV) : Option AV :=
  match a with
  | .ptr k i j => match hget s.hp k with
    | some (.box cs) => (cut j y.size cs).bind (mkAV y.agg)
    | some (.rows sz rs) => if i < rs.length ∧ j + y.size ≤ sz then (cut j y.size (rdRow k i 0 (rs.getD i []))).bind (mkAV y.agg) else none
    | none => none
  | .rop l row j => (cut j y.size (rdRop l row)).bind (mkAV y.agg)
  | _ => none
def AV.kill (k : Nat) : AV → AV
  | .refw m => if m = k then .undef else .refw m
  | .ref m o n => if m = k then .undef else .ref m o n
  | .ptr m i j => if m = k then .undef else .ptr m i j
  | .ls x (some (m, i, j)) => .ls x (if m = k then none else some (m, i, j))
  | .agg cs => .agg (kills k cs)
  | .tup cs => .tup (kills k cs)
  | .fn f cs => .fn f (kills k cs)
  | v => v
where kills (k : Nat) : List AV → List AV
  | [] => []
  | v :: l => v.kill k :: kills k l
def hkill (k : Nat) : Hp → Hp
  | [] => []
  | (m, .box cs) :: h => (m, .box (AV.kill.kills k cs)) :: hkill k h
  | (m, .rows sz rs) :: h => (m, .rows sz rs) :: hkill k h
def St.kill (s : St) (k : Nat) : St := ⟨AV.kill.kills k s.tm, hkill k s.hp⟩
def St.drop (s : St) (k : Nat) : St := ⟨AV.kill.kills k s.tm, hdel (hkill k s.hp) k⟩
def St.drops (s : St) : List Nat → St
  | [] => s
  | k :: l => (s.drops l).drop k
def AV.unorg (k : Nat) : AV → AV
  | .ls x (some (m, i, j)) => .ls x (if m = k then none else some (m, i, j))
  | .agg cs => .agg (unorgs k cs)
  | .tup cs => .tup (unorgs k cs)
  | .fn f cs => .fn f (unorgs k cs)
  | v => v
where unorgs (k : Nat) : List AV → List AV
  | [] => []
  | v :: l => v.unorg k :: unorgs k l
def hunorg (k : Nat) : Hp → Hp
  | [] => []
  | (m, .box cs) :: h => (m, .box (AV.unorg.unorgs k cs)) :: hunorg k h
  | (m, .rows sz rs) :: h => (m, .rows sz rs) :: hunorg k h
def AV.lsk : AV → AV
  | .ls _ _ => .undef
  | .rop true _ _ => .undef
  | .agg cs => .agg (lsks cs)
  | .tup cs => .tup (lsks cs)
  | .fn f cs => .fn f (lsks cs)
  | v => v
where lsks : List AV → List AV
  | [] => []
  | v :: l => v.lsk :: lsks l
def hlsk : Hp → Hp
  | [] => []
  | (m, .box cs) :: h => (m, .box (AV.lsk.lsks cs)) :: hlsk h
  | (m, .rows sz rs) :: h => (m, .rows sz rs) :: hlsk h
def gtT : List T → Nat → T
  | [], _ => .gone
  | x :: _, 0 => x
  | _ :: l, n + 1 => gtT l n
def ptT : List T → Nat → T → List T
  | [], _, _ => []
  | _ :: l, 0, v => v :: l
  | a :: l, n + 1, v => a :: ptT l n v
def focus (s : St) (m k i j : Nat) : Option St :=
  match hget s.hp k with
  | some (.rows sz rs) => match gtT (rs.getD i []) j with
    | .list true sz' rs' => if i < rs.length ∧ k ≠ m ∧ hget s.hp m = none ∧ m < 9000 then
        some ⟨AV.lsk.lsks s.tm, hput (hput (hlsk s.hp) k (.rows sz (rs.set i (ptT (rs.getD i []) j .gone)))) m (.rows sz' rs')⟩
      else none
    | _ => none
  | _ => none
def T.shared : T → T
  | .list _ sz rows => .list false sz rows
  | x => x
def AV.frz (k sz : Nat) (rs : List (List T)) : AV → AV
  | .refw m => if m = k then .t (.list false sz rs) else .refw m
  | .ref m off n => if m = k then .t (.list false sz ((rs.drop off).take n)) else .ref m off n
  | .ptr m i j => if m = k then .rop false (rs.getD i []) j else .ptr m i j
  | .ls x (some (m, i, j)) => if m = k then .t (gtT (rs.getD i []) j).shared else .ls x (some (m, i, j))
  | .agg cs => .agg (frzs k sz rs cs)
  | .tup cs => .tup (frzs k sz rs cs)
  | .fn f cs => .fn f (frzs k sz rs cs)
  | v => v
where frzs (k sz : Nat) (rs : List (List T)) : List AV → List AV
  | [] => []
  | v :: l => v.frz k sz rs :: frzs k sz rs l
def hfrz (k sz : Nat) (rs : List (List T)) : Hp → Hp
  | [] => []
  | (m, .box cs) :: h => (m, .box (AV.frz.frzs k sz rs cs)) :: hfrz k sz rs h
  | (m, .rows n r) :: h => (m, .rows n r) :: hfrz k sz rs h
def noPins : Hp → Bool
  | [] => true
  | p :: h => decide (p.1 < 9000) && noPins h
def St.freeze (s : St) (k : Nat) : Option St :=
  match hget s.hp k with
  | some (.rows sz rs) => if noPins s.hp = true then some ⟨AV.frz.frzs k sz rs s.tm, hdel (hfrz k sz rs s.hp) k⟩ else none
  | _ => none
abbrev pin : Nat := 9000
def closeCells (h : Hp) : List AV → Option (List T × List Nat)
  | [] => some ([], [])
  | .t x :: l => (closeCells h l).map fun r => (x.shared :: r.1, r.2)
  | .nils sz :: l => (closeCells h l).map fun r => (T.list true sz [] :: r.1, r.2)
  | .refw k :: l => match hget h k with
    | some (.rows sz rs) => (closeCells h l).bind fun r => if k ∈ r.2 ∨ pin ≤ k then none else some (T.list true sz rs :: r.1, k :: r.2)
    | _ => none
  | _ :: _ => none
def toT (h : Hp) : AV → Option T
  | .t x => some x
  | .ls x _ => some x
  | .nils sz => some (.list false sz [])
  | .refw k => match hget h k with
    | some (.rows sz rs) => some (.list false sz rs)
    | _ => none
  | .ref k off len => match hget h k with
    | some (.rows sz rs) => some (.list false sz ((rs.drop off).take len))
    | _ => none
  | _ => none
def St.len (s : St) : AV → Option Int
  | .t (.str b) => some b.size
  | .t (.list _ _ rows) => some rows.length
  | .ls (.list _ _ rows) _ => some rows.length
  | .nils _ => some 0
  | .refw k => match hget s.hp k with
    | some (.rows _ rs) => some rs.length
    | _ => none
  | .ref _ _ len => some len
  | _ => none
def lenAV (y : Ty) (s : St) (x : AV) : Option AV :=
  match x with
  | .t (.str b) => if y.isStr then some (.t (.int .i64 b.size)) else none
  | x => if y.isSlice then (s.len x).map fun n => .t (.int .i64 n) else none
def bnd (s : St) (x : Option Operand) (z : Int) : Option Int :=
  match x with
  | none => some z
  | some o => match s.ev o with
    | .t (.int _ n) => some n
    | _ => none
def sliceAV (y : Ty) (s : St) (x : AV) (lo hi : Int) : Option AV :=
  match x with
  | .t (.str b) => if y.isStr = true ∧ 0 ≤ lo ∧ lo ≤ hi ∧ hi ≤ b.size then some (.t (.str (b.extract lo.toNat hi.toNat))) else none
  | .t (.list o sz rows) => if y.isSlice = true ∧ sz = y.esz ∧ 0 ≤ lo ∧ lo ≤ hi ∧ hi ≤ rows.length then some (.t (.list false sz ((rows.drop lo.toNat).take (hi.toNat - lo.toNat)))) else none
  | .ls (.list o sz rows) _ => if y.isSlice = true ∧ sz = y.esz ∧ 0 ≤ lo ∧ lo ≤ hi ∧ hi ≤ rows.length then some (.ls (.list false sz ((rows.drop lo.toNat).take (hi.toNat - lo.toNat))) none) else none
  | .refw k => match hget s.hp k with
    | some (.rows sz rs) => if y.isSlice = true ∧ sz = y.esz ∧ 0 ≤ lo ∧ lo ≤ hi ∧ hi ≤ rs.length then some (.ref k lo.toNat (hi.toNat - lo.toNat)) else none
    | _ => none
  | .ref k off len => match hget s.hp k with
    | some (.rows sz rs) => if y.isSlice = true ∧ sz = y.esz ∧ 0 ≤ lo ∧ lo ≤ hi ∧ hi ≤ len then some (.ref k (off + lo.toNat) (hi.toNat - lo.toNat)) else none
    | _ => none
  | .nils sz => if y.isSlice = true ∧ lo = 0 ∧ hi = 0 then some (.nils sz) else none
  | _ => none
def indexAV (s : St) (esz : Nat) (x : AV) (i : Int) : Option AV :=
  match x with
  | .t (.list o sz rows) => if 0 ≤ i ∧ i < rows.length ∧ sz = esz then some (.rop false (rows.getD i.toNat []) 0) else none
  | .ls (.list o sz rows) _ => if 0 ≤ i ∧ i < rows.length ∧ sz = esz then some (.rop true (rows.getD i.toNat []) 0) else none
  | .refw k => match hget s.hp k with
    | some (.rows sz rs) => if 0 ≤ i ∧ i < rs.length ∧ sz = esz then some (.ptr k i.toNat 0) else none
    | _ => none
  | .ref k off len => match hget s.hp k with
    | some (.rows sz rs) => if 0 ≤ i ∧ i < len ∧ sz = esz then some (.ptr k (off + i.toNat) 0) else none
    | _ => none
  | _ => none
def bytesLt (a b : ByteArray) : Bool := Op.bytesLess a.toList b.toList
def bytesEq (a b : ByteArray) : Bool := a.toList == b.toList
def scalEq : T → T → Option Bool
  | .int k a, .int k' b => if k = k' then some (a == b) else none
  | .bool a, .bool b => some (a == b)
  | .str a, .str b => some (bytesEq a b)
  | _, _ => none
def cellsEq : List AV → List AV → Option Bool
  | [], [] => some true
  | .t x :: l, .t y :: m => (scalEq x y).bind fun a => (cellsEq l m).map fun b => (a && b)
  | _, _ => none
def binInt (op : BinOp) (k : IntKind) (a b : Int) : Option AV :=
  match op with
  | .add => some (.t (.int k (k.wrap (a + b))))
  | .sub => some (.t (.int k (k.wrap (a - b))))
  | .mul => some (.t (.int k (k.wrap (a * b))))
  | .quo => if b = 0 then none else some (.t (.int k (k.wrap (a.tdiv b))))
  | .rem => if b = 0 then none else some (.t (.int k (a.tmod b)))
  | .eql => some (.t (.bool (a == b)))
  | .neq => some (.t (.bool (a != b)))
  | .lss => some (.t (.bool (decide (a < b))))
  | .leq => some (.t (.bool (decide (a ≤ b))))
  | .gtr => some (.t (.bool (decide (a > b))))
  | .geq => some (.t (.bool (decide (a ≥ b))))
  | .and => some (.t (.int k (k.wrap (BitVec.ofInt k.bits a &&& BitVec.ofInt k.bits b).toNat)))
  | .or => some (.t (.int k (k.wrap (BitVec.ofInt k.bits a ||| BitVec.ofInt k.bits b).toNat)))
  | .xor => some (.t (.int k (k.wrap (BitVec.ofInt k.bits a ^^^ BitVec.ofInt k.bits b).toNat)))
  | _ => none
def strMax : Int := 1099511627776
def binStr (op : BinOp) (a b : ByteArray) : Option AV :=
  match op with
  | .add => if (a.size : Int) + b.size ≤ strMax then some (.t (.str (a ++ b))) else none
  | .eql => some (.t (.bool (bytesEq a b)))
  | .neq => some (.t (.bool !(bytesEq a b)))
  | .lss => some (.t (.bool (bytesLt a b)))
  | .leq => some (.t (.bool (bytesLt a b || bytesEq a b)))
  | .gtr => some (.t (.bool !(bytesLt a b || bytesEq a b)))
  | .geq => some (.t (.bool !(bytesLt a b)))
  | _ => none
def eqAV (op : BinOp) (r : Bool) : Option AV :=
  match op with
  | .eql => some (.t (.bool r))
  | .neq => some (.t (.bool !r))
  | _ => none
def binAV (y : Option Ty) (op : BinOp) (x z : AV) : Option AV :=
  match x, z with
  | .t (.int k a), .t (.int k' b) => if k = k' then binInt op k a b else none
  | .t (.str a), .t (.str b) => binStr op a b
  | .t (.bool a), .t (.bool b) => y.bind fun y => if y.isBool then eqAV op (a == b) else none
  | .agg a, .agg b => y.bind fun y => if y.eq = true ∧ a.length = y.size then (cellsEq y.zero a).bind fun _ => (cellsEq a b).bind (eqAV op) else none
  | .ptr _ _ _, .t .nilp => y.bind fun y => if y.isPtr then eqAV op false else none
  | .rop _ _ _, .t .nilp => y.bind fun y => if y.isPtr then eqAV op false else none
  | .t .nilp, .t .nilp => y.bind fun y => if y.isPtr then eqAV op true else none
  | _, _ => none
def unAV (op : UnOp) (x : AV) : Option AV :=
  match op, x with
  | .not, .t (.bool b) => some (.t (.bool !b))
  | .neg, .t (.int k n) => some (.t (.int k (k.wrap (0 - n))))
  | _, _ => none
def pickAV (c : Bool) (a b : AV) : AV :=
  match a, b with
  | .t (.bool p), .t (.bool q) => .t (.bool (bif c then p else q))
  | _, _ => bif c then a else b
def bytesR : List (List T) → Option (List UInt8)
  | [] => some []
  | [.int .u8 n] :: l => (bytesR l).map (UInt8.ofNat n.toNat :: ·)
  | _ :: _ => none
def convAV (bs : Bool) (y : Ty) (h : Hp) (x : AV) : Option AV :=
  match y.k, x with
  | .int k, .t (.int _ n) => some (.t (.int k (k.wrap n)))
  | .str, .t (.str b) => some (.t (.str b))
  | .str, .refw k => match hget h k with
    | some (.rows 1 rs) => if bs = true then (bytesR rs).map fun l => .t (.str ⟨l.toArray⟩) else none
    | _ => none
  | _, _ => none
def Ty.isBytes (Γ : Env) (y : Ty) : Bool := match y.k with
  | .slice => match Γ y.elem with
    | some e => match e.k with
      | .int .u8 => true
      | _ => false
    | none => false
  | _ => false
def fldAddr (Γ : Env) (y : Ty) (f : Nat) (x : AV) : Option AV :=
  y.fs[f]?.bind fun p => (Γ p.2).bind fun u => if 0 < u.size then
    match x with
    | .ptr k i j => some (.ptr k i (j + p.1))
    | .rop l r j => some (.rop l r (j + p.1))
    | _ => none
  else none
def nilAV : AV → Option AV
  | .ptr k i j => some (.ptr k i j)
  | .rop l r j => some (.rop l r j)
  | _ => none
def byteAt (b : ByteArray) (n : Int) : Int := ((b.data.getD n.toNat 0).toNat : Nat)
def idxAV (x i : AV) : Option AV :=
  match x, i with
  | .t (.str b), .t (.int _ n) => if 0 ≤ n ∧ n < b.size then some (.t (.int .u8 (byteAt b n))) else none
  | _, _ => none
def mnmx (f : Int → Int → Bool) : List AV → Option AV
  | [.t (.int k a), .t (.int _ b)] => some (.t (.int k (if f a b then b else a)))
  | _ => none
def fillAV (Γ : Env) (fs : List (Nat × Nat)) : List AV → List (Nat × AV) → Option (List AV)
  | cs, [] => some cs
  | cs, (i, x) :: l => fs[i]?.bind fun p => (Γ p.2).bind fun u => if x.cells.length = u.size ∧ 0 < u.size ∧ p.1 + u.size ≤ cs.length then fillAV Γ fs (repl p.1 x.cells cs) l else none
def St.parts (s : St) : List (Nat × Operand) → List (Nat × AV)
  | [] => []
  | (i, x) :: l => (i, s.ev x) :: s.parts l
def asB : AV → Option Bool
  | .t (.bool b) => some b
  | _ => none
def asI : AV → Option Int
  | .t (.int _ n) => some n
  | _ => none
def one : List AV → Option AV
  | [x] => some x
  | _ => none
def nth : AV → Nat → Option AV
  | .tup vs, i => vs[i]?
  | _, _ => none
def ppAV : T → AV
  | .pp x => .rop false [x] 0
  | x => .t x
def fnAV : T → AV
  | .fn f cap => .fn f (cap.map ppAV)
  | x => .t x
def findR (key : ByteArray) : List ByteArray → List (List T) → Option (List T)
  | k :: ks, r :: rows => if key = k then some r else findR key ks rows
  | _, _ => none
def lookV (e : Ty) (ok : Bool) (r : Option (List T)) : AV :=
  match r with
  | some r => if ok then .tup [.agg (r.map fnAV), .t (.bool true)] else .agg (r.map fnAV)
  | none => if ok then .tup [.undef, .t (.bool false)] else .undef
def lookAV (y e : Ty) (ok : Bool) : AV → AV → Option AV
  | .t (.mp ks rows), .t (.str key) => if y.isMap = true ∧ e.agg = true then some (lookV e ok (findR key ks rows)) else none
  | _, _ => none
def fldV (Γ : Env) (y : Ty) (f : Nat) : AV → Option AV
  | .agg cs => y.fs[f]?.bind fun p => (Γ p.2).bind fun u => (cut p.1 u.size cs).bind (mkAV u.agg)
  | _ => none
def valOf (Γ : Env) (s : St) : Op → Option AV
  | .move x => some (s.ev x)
  | .assign x => some (s.ev x)
  | .pick c a b => (asB (s.ev c)).map fun c => pickAV c (s.ev a) (s.ev b)
  | .load t a => (Γ t).bind fun y => loadAV y s (s.ev a)
  | .nilCheck x => nilAV (s.ev x)
  | .binOp op t x y _ => binAV (Γ t) op (s.ev x) (s.ev y)
  | .unOp op _ x => unAV op (s.ev x)
  | .convert t d x => (Γ t).bind fun u => (Γ d).bind fun y => convAV (u.isBytes Γ) y s.hp (s.ev x)
  | .fieldAddr t x f => (Γ t).bind fun y => fldAddr Γ y f (s.ev x)
  | .indexAddr t x i => (Γ t).bind fun y => if y.isSlice then (asI (s.ev i)).bind (indexAV s y.esz (s.ev x)) else none
  | .index t x i => (Γ t).bind fun y => if y.isStr then idxAV (s.ev x) (s.ev i) else none
  | .slice t x lo hi none => (Γ t).bind fun y => (s.len (s.ev x)).bind fun n => (bnd s lo 0).bind fun l => (bnd s hi n).bind fun h => sliceAV y s (s.ev x) l h
  | .extract x i => nth (s.ev x) i
  | .field t x f => (Γ t).bind fun y => fldV Γ y f (s.ev x)
  | .lookup t x i ok => (Γ t).bind fun y => (Γ y.elem).bind fun e => lookAV y e ok (s.ev x) (s.ev i)
  | .makeFunc (.func f) ⟨[]⟩ cap => some (.fn f (s.evs cap.toList))
  | .build t parts => (Γ t).bind fun y => if y.agg then (fillAV Γ y.fs y.zero (s.parts parts.toList)).map .agg else none
  | .call ⟨.builtin .len, args, tys⟩ => tys[0]?.bind fun t => (Γ t).bind fun y => (one (s.evs args.toList)).bind fun x => lenAV y s x
  | .call ⟨.builtin .min, args, _⟩ => mnmx (fun a b => decide (b < a)) (s.evs args.toList)
  | .call ⟨.builtin .max, args, _⟩ => mnmx (fun a b => decide (b > a)) (s.evs args.toList)
  | _ => none
def closeRows (h : Hp) (esz : Nat) : List AV → Option (List (List T) × List Nat)
  | [] => some ([], [])
  | v :: l => if v.cells.length = esz ∧ 0 < esz then
      (closeCells h v.cells).bind fun r => (closeRows h esz l).bind fun q => if q.2.any (r.2.contains ·) then none else some (r.1 :: q.1, r.2 ++ q.2)
    else none
def inOrder (i : Nat) : List (Nat × Operand) → Option (List Operand)
  | [] => some []
  | (j, x) :: l => if j = i then (inOrder (i + 1) l).map (x :: ·) else none
def zeroT : List AV → Option (List T)
  | [] => some []
  | .t x :: l => (zeroT l).map (x.shared :: ·)
  | .nils sz :: l => (zeroT l).map (T.list true sz [] :: ·)
  | _ :: _ => none
def byteRows (b : ByteArray) : List (List T) := b.data.toList.map fun c => [T.int .u8 c.toNat]
def sharedRows (rows : List (List T)) : List (List T) := rows.map (List.map T.shared)
def St.rfz (s : St) (k : Nat) : Option St :=
  match hget s.hp k with
  | some (.rows sz rs) => if noPins s.hp = true then some ⟨s.tm, hput s.hp k (.rows sz (sharedRows rs))⟩ else none
  | _ => none
def addRows (u : Ty) (esz : Nat) (s : St) : AV → Option (List (List T) × List Nat)
  | .t (.str b) => if u.isStr = true ∧ esz = 1 then some (byteRows b, []) else none
  | .t (.list _ sz rows) => if u.isSlice = true ∧ sz = esz then some (sharedRows rows, []) else none
  | .nils _ => if u.isSlice = true then some ([], []) else none
  | .refw k => match hget s.hp k with
    | some (.rows sz rs) => if u.isSlice = true ∧ sz = esz ∧ k < pin then some (rs, [k]) else none
    | _ => none
  | _ => none
def roomy (n bytes : Nat) : Prop := n * bytes ≤ 1099511627776
instance (n b : Nat) : Decidable (roomy n b) := inferInstanceAs (Decidable (_ ≤ _))
def lay (s : St) (i k : Nat) (v : AV) (b : Blk) : Option St :=
  match hget s.hp k with
  | none => if k < pin then some ⟨pt s.tm i v, hput s.hp k b⟩ else none
  | some _ => none
def appendTo (y : Ty) (s : St) (i k : Nat) (rows : List (List T)) : Option St :=
  match hget s.hp k with
  | some (.rows sz rs) => if k < pin ∧ sz = y.esz ∧ roomy (rs.length + rows.length) y.ebytes then
      some ⟨pt (s.kill k).tm i (.refw k), hput (s.kill k).hp k (.rows sz (rs ++ rows))⟩
    else none
  | _ => none
def appendC (y u : Ty) (s : St) (i : Nat) (x z : AV) : Option St :=
  if y.isSlice = true ∧ 0 < y.ebytes then (addRows u y.esz s z).bind fun r =>
    match x with
    | .nils _ => if 0 < r.1.length ∧ 8 * i ∉ r.2 ∧ roomy r.1.length y.ebytes then lay (s.drops r.2) i (8 * i) (.refw (8 * i)) (.rows y.esz r.1) else none
    | .refw k => if k ∉ r.2 then appendTo y (s.drops r.2) i k r.1 else none
    | .ls (.list _ _ _) (some (k, p, q)) => if 8 * i ∉ r.2 ∧ k ∉ r.2 then (focus (s.drops r.2) (8 * i) k p q).bind fun s1 => appendTo y s1 i (8 * i) r.1 else none
    | _ => none
  else none
def appendOp (y u : Ty) (s : St) (i : Nat) (x z : AV) : Option St :=
  match z with
  | .ref k off n => match hget s.hp k with
    | some (.rows sz rs) => (s.freeze k).bind fun s1 => appendC y u s1 i (x.frz k sz rs) (.t (.list false sz ((rs.drop off).take n)))
    | _ => none
  | z => appendC y u s i x z
def retag1 (m : Nat) (x y : AV) : AV → AV
  | .refw n => if n = m then x else y
  | _ => y
def retag (m : Nat) (x : AV) : List AV → List AV → List AV
  | a :: l, y :: l' => retag1 m x y a :: retag m x l l'
  | [], l' => l'
  | _ :: _, [] => []
def retags (h : Hp) (v : AV) (tm tm' : List AV) : List AV :=
  match v with
  | .refw m => match hget h m with
    | some (.rows sz rs) => retag m (.ls (.list true sz rs) none) tm tm'
    | _ => tm'
  | _ => tm'
def storeOp (y : Ty) (s : St) (a v : AV) : Option St :=
  if v.cells.length = y.size ∧ 0 < y.size then
    match a with
    | .ptr k i j => match hget s.hp k with
      | some (.box cs) => if j + y.size ≤ cs.length then some ⟨s.tm, hput s.hp k (.box (repl j v.cells cs))⟩ else none
      | some (.rows sz rs) => if i < rs.length ∧ j + y.size ≤ sz then
          (closeCells s.hp v.cells).bind fun r => if k ∈ r.2 then none else
            some ⟨retags s.hp v s.tm (AV.unorg.unorgs k (s.drops r.2).tm), hput (hunorg k (s.drops r.2).hp) k (.rows sz (rs.set i (repl j r.1 (rs.getD i []))))⟩
        else none
      | none => none
    | _ => none
  else none
def makeOp (Γ : Env) (y : Ty) (s : St) (i : Nat) (l c : AV) : Option St :=
  match l, c with
  | .t (.int .i64 n), .t (.int .i64 m) => (Γ y.elem).bind fun e => (zeroT e.zero).bind fun z =>
      if 0 ≤ n ∧ m = n ∧ y.isSlice = true ∧ 0 < y.ebytes ∧ z.length = y.esz ∧ roomy n.toNat y.ebytes then lay s i (8 * i) (.refw (8 * i)) (.rows y.esz (List.replicate n.toNat z)) else none
  | _, _ => none
def stepOp (Γ : Env) (s : St) (d : Option Tmp) : Op → Option St
  | .alloc e => d.bind fun i => (Γ e).bind fun y => lay s i (8 * i) (.ptr (8 * i) 0 0) (.box y.zero)
  | .box e x => d.bind fun i => (Γ e).bind fun y => if (s.ev x).cells.length = y.size ∧ 0 < y.size then lay s i (8 * i) (.ptr (8 * i) 0 0) (.box (s.ev x).cells) else none
  | .buildSlice t n parts => d.bind fun i => (Γ t).bind fun y => (inOrder 0 parts.toList).bind fun xs =>
      if xs.length = n ∧ n * y.esz ≤ 16777216 ∧ y.isSlice = true then (closeRows s.hp y.esz (s.evs xs)).bind fun r => if 8 * i ∈ r.2 then none else lay (s.drops r.2) i (8 * i) (.refw (8 * i)) (.rows y.esz r.1) else none
  | .makeSlice t l c => d.bind fun i => (Γ t).bind fun y => makeOp Γ y s i (s.ev l) (s.ev c)
  | .store t a x => (Γ t).bind fun y => (storeOp y s (s.ev a) (s.ev x)).map fun s' => s'.put d .skip
  | .call ⟨.builtin .append, args, tys⟩ => d.bind fun i => tys[0]?.bind fun t => (Γ t).bind fun y => match s.evs args.toList with
    | [x, z] => tys[1]?.bind fun t2 => (Γ t2).bind fun u => if tys.size = 2 then appendOp y u s i x z else none
    | _ => none
  | op => (valOf Γ s op).map fun v => s.put d v
def Sm {α : Type} (o : Option α) (K : α → Prop) : Prop := ∃ x, o = some x ∧ K x
section
variable {α β : Type}
theorem Sm_some (x : α) (K : α → Prop) : Sm (some x) K = K x := by simp [Sm]
theorem Sm_none (K : α → Prop) : Sm none K = False := by simp [Sm]
def Mk (K : β → Prop) (f : α → β) (x : α) : Prop := K (f x)
theorem Mk_eq (K : β → Prop) (f : α → β) (x : α) : Mk K f x = K (f x) := rfl
def Bk (f : α → Option β) (K : β → Prop) (x : α) : Prop := Sm (f x) K
theorem Bk_eq (f : α → Option β) (K : β → Prop) (x : α) : Bk f K x = Sm (f x) K := rfl
theorem Sm_map (o : Option α) (f : α → β) (K : β → Prop) : Sm (o.map f) K = Sm o (Mk K f) := by cases o <;> simp [Sm, Mk]
theorem Sm_bind (o : Option α) (f : α → Option β) (K : β → Prop) : Sm (o.bind f) K = Sm o (Bk f K) := by cases o <;> simp [Sm, Bk]
theorem Sm_ite (c : Prop) [Decidable c] (o : Option α) (K : α → Prop) : Sm (if c then o else none) K = (c ∧ Sm o K) := by by_cases h : c <;> simp [Sm, h]
theorem Sm_nite (c : Prop) [Decidable c] (o : Option α) (K : α → Prop) : Sm (if c then none else o) K = (¬ c ∧ Sm o K) := by by_cases h : c <;> simp [Sm, h]
end
def BrA (b : Bool) (X Y : St → Prop) (s1 s2 : St) : Prop := (b = true → X s1) ∧ (b = false → Y s2)
theorem BrA_true (X Y : St → Prop) (s1 s2 : St) : BrA true X Y s1 s2 = X s1 := by simp [BrA]
theorem BrA_false (X Y : St → Prop) (s1 s2 : St) : BrA false X Y s1 s2 = Y s2 := by simp [BrA]
theorem BrA_not (b : Bool) (X Y : St → Prop) (s1 s2 : St) : BrA (!b) X Y s1 s2 = BrA b Y X s2 s1 := by cases b <;> simp [BrA]
theorem BrA_i {b : Bool} {X Y : St → Prop} {s1 s2 : St} (h1 : b = true → X s1) (h2 : b = false → Y s2) : BrA b X Y s1 s2 := ⟨h1, h2⟩
def dstAt : List Oper → Nat → Nat
  | [], _ => 0
  | o :: _, 0 => o.dst.getD 0
  | _ :: l, n + 1 => dstAt l n
def guardW (v : AV) (s : St) (j : Nat) (want : Bool) (X Y : St → Prop) : Prop :=
  match v with
  | .t (.bool b) => match want with
    | true => BrA b X Y ⟨pt s.tm j (.t (.bool true)), s.hp⟩ ⟨pt s.tm j (.t (.bool false)), s.hp⟩
    | false => BrA b Y X ⟨pt s.tm j (.t (.bool true)), s.hp⟩ ⟨pt s.tm j (.t (.bool false)), s.hp⟩
  | .skip => Y s
  | _ => False
def condW (v : AV) (X Y : St → Prop) (s : St) : Prop :=
  match v with
  | .t (.bool b) => BrA b X Y s s
  | _ => False
def Pk (X : St → Prop) (s : St) (d : Option Tmp) (v : AV) : Prop := X (s.put d v)
theorem Pk_eq (X : St → Prop) (s : St) (d : Option Tmp) (v : AV) : Pk X s d v = X (s.put d v) := rfl
def Uk (X : St → Prop) (d : Option Tmp) (s : St) : Prop := X (s.put d .skip)
theorem Uk_eq (X : St → Prop) (d : Option Tmp) (s : St) : Uk X d s = X (s.put d .skip) := rfl
def Ks (X : St → Prop) (K : Exit → St → Prop) : Exit → St → Prop
  | .normal, s => X s
  | e, s => K e s
def Kb (id : Nat) (K : Exit → St → Prop) : Exit → St → Prop
  | .exit i, s => if i = id then K .normal s else K (.exit i) s
  | e, s => K e s
section
variable (X : St → Prop) (K : Exit → St → Prop) (s : St) (i id : Nat)
theorem Ks_normal : Ks X K .normal s = X s := rfl
theorem Ks_exit : Ks X K (.exit i) s = K (.exit i) s := rfl
theorem Ks_ret : Ks X K .ret s = K .ret s := rfl
theorem Kb_normal : Kb id K .normal s = K .normal s := rfl
theorem Kb_exit : Kb id K (.exit i) s = if i = id then K .normal s else K (.exit i) s := rfl
theorem Kb_ret : Kb id K .ret s = K .ret s := rfl
end
end Go.Proofs.YtcpfhonmdbhdbaaGreatDoor.Am
namespace Go.Proofs.YtcpfhonmdbhdbaaGreatDoor.Am
open Go
set_option linter.unusedVariables false
abbrev Dm := Nat → Prop
theorem cell_same {w w' : World} {b : Nat} (h : w'.heap[b]? = w.heap[b]?) (o : Nat) (sp : Option Nat) : w'.cell? ⟨b, o, sp⟩ = w.cell? ⟨b, o, sp⟩ := by
  simp [World.cell?, h]
theorem heap_lt {w : World} {b : Nat} {o : Obj} (h : w.heap[b]? = some o) : b < w.heap.size := by
  rw [Array.getElem?_eq_some_iff] at h; exact h.1
theorem shape_same {w w' : World} {b : Nat} (h : w'.heap[b]? = w.heap[b]?) : w'.shape? b = w.shape? b := by simp [World.shape?, h]
inductive Rd (w : World) (D : Dm) : T → Value → Prop
  | int (k n) : Rd w D (.int k n) (.int k n)
  | bool (b) : Rd w D (.bool b) (.bool b)
  | str (s) : Rd w D (.str s) (.string s)
  | nilp : Rd w D .nilp (.pointer none)
  | nilfn : Rd w D .nilfn .nilFunc
  | gone (v : Value) : v.oneCell' = true → Rd w D .gone v
  | pp (x : T) (b off : Nat) (u : Value) : D b → w.cell? ⟨b, off, none⟩ = some u → Rd w D x u → Rd w D (.pp x) (.pointer (some ⟨b, off, none⟩))
  | mp (ks : List ByteArray) (rows : List (List T)) (b : Nat) (es : Array MapEntry) (clk : Nat) (u : Nat → List Value) : D b → w.heap[b]? = some (.map es clk) → es.size = ks.length → rows.length = ks.length →
      (∀ (i : Nat) (k : ByteArray), ks[i]? = some k → es[i]?.map (·.key) = some (.string k)) →
      (∀ (i : Nat) (r : List T), rows[i]? = some r → r.length = (u i).length ∧ es[i]?.map (·.val) = some (.agg (u i).toArray)) →
      (∀ (i : Nat) (r : List T) (j : Nat) (x : T) (v : Value), rows[i]? = some r → r[j]? = some x → (u i)[j]? = some v → Rd w D x v) → Rd w D (.mp ks rows) (.map (some b))
  | fn (f) (cap : List T) (vs : List Value) : cap.length = vs.length → (∀ (i : Nat) (x : T) (v : Value), cap[i]? = some x → vs[i]? = some v → Rd w D x v) → Rd w D (.fn f cap) (.func (.func f) #[] vs.toArray)
  | nil (o sz a c) : Rd w D (.list o sz []) (.slice a 0 c)
  | list (o sz rows b off cap) (u : Nat → Nat → Value) : rows.length ≤ cap → D b → (∀ (i : Nat) (r : List T), rows[i]? = some r → r.length = sz) →
      (∀ (i : Nat) (r : List T) (j : Nat) (x : T), rows[i]? = some r → r[j]? = some x → w.cell? ⟨b, off + (i * sz + j), none⟩ = some (u i j)) →
      (∀ (i : Nat) (r : List T) (j : Nat) (x : T), rows[i]? = some r → r[j]? = some x → Rd w D x (u i j)) → Rd w D (.list o sz rows) (.slice (some ⟨b, off, none⟩) rows.length cap)
theorem Rd.mono {w w' : World} {D D' : Dm} {x : T} {v : Value} (h : Rd w D x v) (hw : ∀ b, D b → w'.heap[b]? = w.heap[b]?) (hD : ∀ b, D b → D' b) : Rd w' D' x v := by
  induction h with
  | int | bool | str | nilp | nilfn | nil => constructor
  | gone v hv => exact .gone v hv
  | pp x b off u hb hc _ ih => exact .pp x b off u (hD b hb) (by rw [cell_same (hw b hb)]; exact hc) ih
  | mp ks rows b es clk u hb hh h1 h2 h3 h4 _ ih => exact .mp ks rows b es clk u (hD b hb) (by rw [hw b hb]; exact hh) h1 h2 h3 h4 fun i r j x v a1 a2 a3 => ih i r j x v a1 a2 a3
  | fn f cap vs hl _ ih => exact .fn f cap vs hl fun i x v hx hv => ih i x v hx hv
  | list o sz rows b off cap u hc hb hr hu _ ih =>
    exact .list o sz rows b off cap u hc (hD b hb) hr (fun i r j x h1 h2 => by rw [cell_same (hw b hb)]; exact hu i r j x h1 h2) (fun i r j x h1 h2 => ih i r j x h1 h2)
theorem Rd.flag {w : World} {D : Dm} {o : Bool} {sz : Nat} {rows : List (List T)} {v : Value} (o' : Bool) (h : Rd w D (.list o sz rows) v) : Rd w D (.list o' sz rows) v := by
  cases h with
  | nil => exact .nil ..
  | list _ _ _ b off cap u h1 h2 h3 h4 h5 => exact .list o' sz rows b off cap u h1 h2 h3 h4 h5
theorem Rd.shared {w : World} {D : Dm} {x : T} {v : Value} (h : Rd w D x v) : Rd w D x.shared v := by
  cases x <;> first | exact h | exact h.flag _
def T.flat : T → Prop
  | .list true _ _ => False
  | _ => True
theorem T.shared_flat (x : T) : x.shared.flat := by cases x <;> simp [T.shared, T.flat]
def frOk (fr : Nat × Nat) (n : Nat) : Prop := fr.1 < fr.2 → n ≤ fr.1
inductive Own (w : World) (D : Dm) : Dm → T → Value → Prop
  | rd (S x v) : x.flat → Rd w D x v → Own w D S x v
  | nil (S sz a) : Own w D S (.list true sz []) (.slice a 0 0)
  | list (S sz rows b cap cells e fr) (u : Nat → Nat → Value) (c : Nat → Nat × Nat) : S b → w.heap[b]? = some (.cells cells e fr) → frOk fr cells.size → rows.length ≤ cap → cap * sz ≤ cells.size →
      (∀ (i : Nat) (r : List T), rows[i]? = some r → r.length = sz) →
      (∀ (i : Nat) (r : List T) (j : Nat) (x : T), rows[i]? = some r → r[j]? = some x → cells[i * sz + j]? = some (u i j)) →
      (∀ (i : Nat) (r : List T) (j : Nat) (x : T), rows[i]? = some r → r[j]? = some x → Own w D (fun b' => S b' ∧ b' ≠ b ∧ c b' = (i, j)) x (u i j)) →
      Own w D S (.list true sz rows) (.slice (some ⟨b, 0, none⟩) rows.length cap)
theorem Own.mono {w w' : World} {D D' S : Dm} {x : T} {v : Value} (h : Own w D S x v) :
    ∀ {S' : Dm}, (∀ b, D b → w'.heap[b]? = w.heap[b]?) → (∀ b, D b → D' b) → (∀ b, S b → w'.heap[b]? = w.heap[b]?) → (∀ b, S b → S' b) → Own w' D' S' x v := by
  induction h with
  | rd S x v hf h => intro S' h1 h2 h3 h4; exact .rd _ _ _ hf (h.mono h1 h2)
  | nil S sz a => intro S' h1 h2 h3 h4; exact .nil _ _ _
  | list S sz rows b cap cells e fr u c hb hh hf hc hcs hr hu _ ih =>
    intro S' h1 h2 h3 h4
    exact .list S' sz rows b cap cells e fr u c (h4 b hb) (by rw [h3 b hb]; exact hh) hf hc hcs hr hu
      (fun i r j x hi hj => ih i r j x hi hj h1 h2 (fun b' hb' => h3 b' hb'.1) (fun b' hb' => ⟨h4 b' hb'.1, hb'.2⟩))
theorem Own.rd' {w : World} {D S E : Dm} {x : T} {v : Value} (h : Own w D S x v) : (∀ b, D b → E b) → (∀ b, S b → E b) → Rd w E x v := by
  induction h with
  | rd S x v hf h => intro h1 h2; exact h.mono (fun _ _ => rfl) h1
  | nil S sz a => intro h1 h2; exact .nil ..
  | list S sz rows b cap cells e fr u c hb hh hf hc hcs hr hu _ ih =>
    intro h1 h2
    refine .list true sz rows b 0 cap u hc (h2 b hb) hr (fun i r j x hi hj => ?_) (fun i r j x hi hj => ih i r j x hi hj h1 (fun b' hb' => h2 b' hb'.1))
    simp [World.cell?, hh, hu i r j x hi hj]
structure Cx where
  ρ : Nat → Option Nat
  w : World
  Dp : Dm
  Dl : Dm
  hp : Hp
def RefW (c : Cx) (k sz : Nat) (rs : List (List T)) (v : Value) : Prop :=
  (∃ b cap e n, c.ρ k = some b ∧ v = .slice (some ⟨b, 0, none⟩) rs.length cap ∧ rs.length ≤ cap ∧ c.w.shape? b = some (e, n) ∧ cap * sz ≤ n) ∨ (rs = [] ∧ ∃ a, v = .slice a 0 0)
def Tie (c : Cx) : Option (Nat × Nat × Nat) → Value → Prop
  | none, _ => True
  | some (k, i, j), v => ∃ b sz rs, c.ρ k = some b ∧ hget c.hp k = some (.rows sz rs) ∧ i < rs.length ∧ j < sz ∧ c.w.cell? ⟨b, i * sz + j, none⟩ = some v
def AVr (c : Cx) : AV → Value → Prop
  | .t x, v => Rd c.w c.Dp x v
  | .own _, _ => False
  | .ls x o, v => Rd c.w c.Dl x v ∧ Tie c o v
  | .nils _, v => v = .slice none 0 0
  | .agg cs, v => ∃ vs : List Value, v = .agg vs.toArray ∧ AVrs c cs vs
  | .tup cs, v => ∃ vs : List Value, v = .tuple vs.toArray ∧ AVrs c cs vs
  | .refw k, v => ∃ sz rs, hget c.hp k = some (.rows sz rs) ∧ RefW c k sz rs v
  | .ref k off len, v => ∃ sz rs, hget c.hp k = some (.rows sz rs) ∧ off + len ≤ rs.length ∧
      ((∃ b cap, c.ρ k = some b ∧ v = .slice (some ⟨b, off * sz, none⟩) len cap ∧ len ≤ cap) ∨ (len = 0 ∧ ∃ a c, v = .slice a 0 c))
  | .ptr k i j, v => ∃ b, c.ρ k = some b ∧ match hget c.hp k with
    | some (.box _) => v = .pointer (some ⟨b, j, none⟩) ∧ i = 0
    | some (.rows sz _) => v = .pointer (some ⟨b, i * sz + j, none⟩)
    | none => False
  | .rop l row j, v => ∃ b off, v = .pointer (some ⟨b, off + j, none⟩) ∧ (if l then c.Dl b else c.Dp b) ∧
      ∀ q x, row[q]? = some x → ∃ u, c.w.cell? ⟨b, off + q, none⟩ = some u ∧ Rd c.w (if l then c.Dl else c.Dp) x u
  | .fn f cap, v => ∃ vs : List Value, v = .func (.func f) #[] vs.toArray ∧ AVrs c cap vs
  | .skip, v => v = Go.undef
  | .undef, _ => True
where AVrs (c : Cx) : List AV → List Value → Prop
  | [], [] => True
  | x :: xs, v :: vs => AVr c x v ∧ AVrs c xs vs
  | _, _ => False
def Blk.sim : Blk → Blk → Prop
  | .box cs, .box cs' => True
  | .rows sz rs, .rows sz' rs' => sz = sz' ∧ rs.length = rs'.length
  | _, _ => False
structure Cx.le (c c' : Cx) (ok : Nat → Prop) : Prop where
  ρ : ∀ k, ok k → hget c.hp k ≠ none → c'.ρ k = c.ρ k
  hp : ∀ k b, ok k → hget c.hp k = some b → ∃ b', hget c'.hp k = some b' ∧ b.sim b'
  dp : ∀ b, c.Dp b → c'.Dp b ∧ c'.w.heap[b]? = c.w.heap[b]?
  dl : ∀ b, c.Dl b → c'.Dl b ∧ c'.w.heap[b]? = c.w.heap[b]?
  sh : ∀ k b, ok k → c.ρ k = some b → c'.w.shape? b = c.w.shape? b
  tie : ∀ k b, ok k → c.ρ k = some b → (∃ sz rs, hget c.hp k = some (.rows sz rs)) → c'.w.heap[b]? = c.w.heap[b]?
structure Cx.leu (c c' : Cx) (m : Nat) : Prop where
  ρ : ∀ k, hget c.hp k ≠ none → c'.ρ k = c.ρ k
  hp : ∀ k b, hget c.hp k = some b → ∃ b', hget c'.hp k = some b' ∧ b.sim b'
  dp : ∀ b, c.Dp b → c'.Dp b ∧ c'.w.heap[b]? = c.w.heap[b]?
  dl : ∀ b, c.Dl b → c'.Dl b ∧ c'.w.heap[b]? = c.w.heap[b]?
  sh : ∀ k b, c.ρ k = some b → c'.w.shape? b = c.w.shape? b
  tie : ∀ k b, k ≠ m → c.ρ k = some b → (∃ sz rs, hget c.hp k = some (.rows sz rs)) → c'.w.heap[b]? = c.w.heap[b]?
theorem Tie.mono {c c' : Cx} {ok : Nat → Prop} (h : c.le c' ok) {o : Option (Nat × Nat × Nat)} {v : Value} (ho : ∀ k i j, o = some (k, i, j) → ok k) (ht : Tie c o v) : Tie c' o v := by
  match o, ho, ht with
  | none, _, _ => trivial
  | some (k, i, j), ho, ⟨b, sz, rs, h1, h2, h3, h4, h5⟩ =>
    have hk := ho k i j rfl
    obtain ⟨b', g1, g2⟩ := h.hp k _ hk h2
    cases b' with
    | box => exact g2.elim
    | rows sz' rs' =>
      obtain ⟨rfl, hl⟩ := g2
      exact ⟨b, sz, rs', by rw [h.ρ k hk (by simp [h2])]; exact h1, g1, by omega, h4, by rw [cell_same (h.tie k b hk h1 ⟨_, _, h2⟩)]; exact h5⟩
theorem Tie.unorg {c c' : Cx} {m : Nat} (h : c.leu c' m) {k i j : Nat} {v : Value} (hm : k ≠ m) (ht : Tie c (some (k, i, j)) v) : Tie c' (some (k, i, j)) v := by
  obtain ⟨b, sz, rs, h1, h2, h3, h4, h5⟩ := ht
  obtain ⟨b', g1, g2⟩ := h.hp k _ h2
  cases b' with
  | box => exact g2.elim
  | rows sz' rs' =>
    obtain ⟨rfl, hl⟩ := g2
    exact ⟨b, sz, rs', by rw [h.ρ k (by simp [h2])]; exact h1, g1, by omega, h4, by rw [cell_same (h.tie k b hm h1 ⟨_, _, h2⟩)]; exact h5⟩
theorem RefW.mono {c c' : Cx} {k sz : Nat} {rs rs' : List (List T)} {v : Value} (h : RefW c k sz rs v) (hρ : c'.ρ k = c.ρ k) (hl : rs.length = rs'.length) (hs : ∀ b, c.ρ k = some b → c'.w.shape? b = c.w.shape? b) : RefW c' k sz rs' v := by
  rcases h with ⟨b, cap, e, n, h1, h2, h3, h4, h5⟩ | ⟨h1, a, h2⟩
  · exact .inl ⟨b, cap, e, n, by rw [hρ]; exact h1, by rw [← hl]; exact h2, by omega, by rw [hs b h1]; exact h4, h5⟩
  · subst h1
    exact .inr ⟨List.eq_nil_of_length_eq_zero hl.symm, a, h2⟩
mutual
theorem AVr.mono {c c' : Cx} (h : c.le c' fun _ => True) : ∀ (x : AV) (v : Value), AVr c x v → AVr c' x v
  | .t x, v, hx => Rd.mono hx (fun b hb => (h.dp b hb).2) (fun b hb => (h.dp b hb).1)
  | .own _, _, hx => hx
  | .ls x o, v, hx => ⟨Rd.mono hx.1 (fun b hb => (h.dl b hb).2) (fun b hb => (h.dl b hb).1), hx.2.mono h (fun _ _ _ _ => trivial)⟩
  | .nils _, _, hx => hx
  | .agg cs, v, ⟨vs, e, hx⟩ => ⟨vs, e, AVrs.mono h cs vs hx⟩
  | .tup cs, v, ⟨vs, e, hx⟩ => ⟨vs, e, AVrs.mono h cs vs hx⟩
  | .refw k, v, ⟨sz, rs, h1, h2⟩ => by
    obtain ⟨b', h3, h4⟩ := h.hp k _ trivial h1
    cases b' with
    | box => exact h4.elim
    | rows sz' rs' => obtain ⟨rfl, hl⟩ := h4; exact ⟨sz, rs', h3, h2.mono (h.ρ k trivial (by simp [h1])) hl (fun b hb => h.sh k b trivial hb)⟩
  | .ref k off len, v, ⟨sz, rs, h1, h0, h2⟩ => by
    obtain ⟨b', h3, h4⟩ := h.hp k _ trivial h1
    cases b' with
    | box => exact h4.elim
    | rows sz' rs' => obtain ⟨rfl, hl⟩ := h4; exact ⟨sz, rs', h3, by omega, by rw [h.ρ k trivial (by simp [h1])]; exact h2⟩
  | .ptr k i j, v, ⟨b, h1, h2⟩ => by
    cases hk : hget c.hp k with
    | none => simp [hk] at h2
    | some blk =>
      obtain ⟨b', h3, h4⟩ := h.hp k _ trivial hk
      refine ⟨b, by rw [h.ρ k trivial (by simp [hk])]; exact h1, ?_⟩
      rw [h3]
      cases blk <;> cases b' <;> simp [Blk.sim] at h4 <;> simp [hk] at h2 ⊢
      · exact h2
      · rw [← h4.1]; exact h2
  | .rop l row j, v, ⟨b, off, h1, h2, h3⟩ => by
    cases l <;> simp only [Bool.false_eq_true, if_false, if_true] at h2 h3
    · refine ⟨b, off, h1, by simpa using (h.dp b h2).1, fun q x hq => ?_⟩
      obtain ⟨u, h4, h5⟩ := h3 q x hq
      exact ⟨u, by rw [cell_same (h.dp b h2).2]; exact h4, by simpa using h5.mono (fun b hb => (h.dp b hb).2) (fun b hb => (h.dp b hb).1)⟩
    · refine ⟨b, off, h1, by simpa using (h.dl b h2).1, fun q x hq => ?_⟩
      obtain ⟨u, h4, h5⟩ := h3 q x hq
      exact ⟨u, by rw [cell_same (h.dl b h2).2]; exact h4, by simpa using h5.mono (fun b hb => (h.dl b hb).2) (fun b hb => (h.dl b hb).1)⟩
  | .fn f cap, v, ⟨vs, e, hx⟩ => ⟨vs, e, AVrs.mono h cap vs hx⟩
  | .skip, _, hx => hx
  | .undef, _, _ => trivial
theorem AVrs.mono {c c' : Cx} (h : c.le c' fun _ => True) : ∀ (xs : List AV) (vs : List Value), AVr.AVrs c xs vs → AVr.AVrs c' xs vs
  | [], [], _ => trivial
  | x :: xs, v :: vs, hx => ⟨AVr.mono h x v hx.1, AVrs.mono h xs vs hx.2⟩
  | [], _ :: _, hx => hx
  | _ :: _, [], hx => hx
end
mutual
theorem AVr.kill {c c' : Cx} (k : Nat) (h : c.le c' fun m => m ≠ k) : ∀ (x : AV) (v : Value), AVr c x v → AVr c' (x.kill k) v
  | .t x, v, hx => Rd.mono hx (fun b hb => (h.dp b hb).2) (fun b hb => (h.dp b hb).1)
  | .own _, _, hx => hx
  | .ls x none, v, hx => ⟨Rd.mono hx.1 (fun b hb => (h.dl b hb).2) (fun b hb => (h.dl b hb).1), trivial⟩
  | .ls x (some (m, i, j)), v, hx => by
    refine ⟨Rd.mono hx.1 (fun b hb => (h.dl b hb).2) (fun b hb => (h.dl b hb).1), ?_⟩
    show Tie c' (if m = k then none else some (m, i, j)) v
    split
    · trivial
    · rename_i hm
      exact hx.2.mono h (fun k' i' j' e => by cases e; exact hm)
  | .nils _, _, hx => hx
  | .agg cs, v, ⟨vs, e, hx⟩ => ⟨vs, e, AVrs.kill k h cs vs hx⟩
  | .tup cs, v, ⟨vs, e, hx⟩ => ⟨vs, e, AVrs.kill k h cs vs hx⟩
  | .refw m, v, ⟨sz, rs, h1, h2⟩ => by
    unfold AV.kill
    split
    · trivial
    · rename_i hm
      obtain ⟨b', h3, h4⟩ := h.hp m _ hm h1
      cases b' with
      | box => exact h4.elim
      | rows sz' rs' => obtain ⟨rfl, hl⟩ := h4; exact ⟨sz, rs', h3, h2.mono (h.ρ m hm (by simp [h1])) hl (fun b hb => h.sh m b hm hb)⟩
  | .ref m off len, v, ⟨sz, rs, h1, h0, h2⟩ => by
    unfold AV.kill
    split
    · trivial
    · rename_i hm
      obtain ⟨b', h3, h4⟩ := h.hp m _ hm h1
      cases b' with
      | box => exact h4.elim
      | rows sz' rs' => obtain ⟨rfl, hl⟩ := h4; exact ⟨sz, rs', h3, by omega, by rw [h.ρ m hm (by simp [h1])]; exact h2⟩
  | .ptr m i j, v, ⟨b, h1, h2⟩ => by
    unfold AV.kill
    split
    · trivial
    · rename_i hm
      cases hk : hget c.hp m with
      | none => simp [hk] at h2
      | some blk =>
        obtain ⟨b', h3, h4⟩ := h.hp m _ hm hk
        refine ⟨b, by rw [h.ρ m hm (by simp [hk])]; exact h1, ?_⟩
        rw [h3]
        cases blk <;> cases b' <;> simp [Blk.sim] at h4 <;> simp [hk] at h2 ⊢
        · exact h2
        · rw [← h4.1]; exact h2
  | .rop l row j, v, ⟨b, off, h1, h2, h3⟩ => by
    unfold AV.kill
    cases l <;> simp only [Bool.false_eq_true, if_false, if_true] at h2 h3
    · refine ⟨b, off, h1, by simpa using (h.dp b h2).1, fun q x hq => ?_⟩
      obtain ⟨u, h4, h5⟩ := h3 q x hq
      exact ⟨u, by rw [cell_same (h.dp b h2).2]; exact h4, by simpa using h5.mono (fun b hb => (h.dp b hb).2) (fun b hb => (h.dp b hb).1)⟩
    · refine ⟨b, off, h1, by simpa using (h.dl b h2).1, fun q x hq => ?_⟩
      obtain ⟨u, h4, h5⟩ := h3 q x hq
      exact ⟨u, by rw [cell_same (h.dl b h2).2]; exact h4, by simpa using h5.mono (fun b hb => (h.dl b hb).2) (fun b hb => (h.dl b hb).1)⟩
  | .fn f cap, v, ⟨vs, e, hx⟩ => ⟨vs, e, AVrs.kill k h cap vs hx⟩
  | .skip, _, hx => hx
  | .undef, _, _ => trivial
theorem AVrs.kill {c c' : Cx} (k : Nat) (h : c.le c' fun m => m ≠ k) : ∀ (xs : List AV) (vs : List Value), AVr.AVrs c xs vs → AVr.AVrs c' (AV.kill.kills k xs) vs
  | [], [], _ => trivial
  | x :: xs, v :: vs, hx => ⟨AVr.kill k h x v hx.1, AVrs.kill k h xs vs hx.2⟩
  | [], _ :: _, hx => hx
  | _ :: _, [], hx => hx
end
mutual
theorem AVr.unorg {c c' : Cx} (k : Nat) (h : c.leu c' k) : ∀ (x : AV) (v : Value), AVr c x v → AVr c' (x.unorg k) v
  | .t x, v, hx => Rd.mono hx (fun b hb => (h.dp b hb).2) (fun b hb => (h.dp b hb).1)
  | .own _, _, hx => hx
  | .ls x none, v, hx => ⟨Rd.mono hx.1 (fun b hb => (h.dl b hb).2) (fun b hb => (h.dl b hb).1), trivial⟩
  | .ls x (some (m, i, j)), v, hx => by
    refine ⟨Rd.mono hx.1 (fun b hb => (h.dl b hb).2) (fun b hb => (h.dl b hb).1), ?_⟩
    show Tie c' (if m = k then none else some (m, i, j)) v
    split
    · trivial
    · rename_i hm
      exact hx.2.unorg h hm
  | .nils _, _, hx => hx
  | .agg cs, v, ⟨vs, e, hx⟩ => ⟨vs, e, AVrs.unorg k h cs vs hx⟩
  | .tup cs, v, ⟨vs, e, hx⟩ => ⟨vs, e, AVrs.unorg k h cs vs hx⟩
  | .refw m, v, ⟨sz, rs, h1, h2⟩ => by
    obtain ⟨b', h3, h4⟩ := h.hp m _ h1
    cases b' with
    | box => exact h4.elim
    | rows sz' rs' => obtain ⟨rfl, hl⟩ := h4; exact ⟨sz, rs', h3, h2.mono (h.ρ m (by simp [h1])) hl (fun b hb => h.sh m b hb)⟩
  | .ref m off len, v, ⟨sz, rs, h1, h0, h2⟩ => by
    obtain ⟨b', h3, h4⟩ := h.hp m _ h1
    cases b' with
    | box => exact h4.elim
    | rows sz' rs' => obtain ⟨rfl, hl⟩ := h4; exact ⟨sz, rs', h3, by omega, by rw [h.ρ m (by simp [h1])]; exact h2⟩
  | .ptr m i j, v, ⟨b, h1, h2⟩ => by
    cases hk : hget c.hp m with
    | none => simp [hk] at h2
    | some blk =>
      obtain ⟨b', h3, h4⟩ := h.hp m _ hk
      refine ⟨b, by rw [h.ρ m (by simp [hk])]; exact h1, ?_⟩
      rw [h3]
      cases blk <;> cases b' <;> simp [Blk.sim] at h4 <;> simp [hk] at h2 ⊢
      · exact h2
      · rw [← h4.1]; exact h2
  | .rop l row j, v, ⟨b, off, h1, h2, h3⟩ => by
    cases l <;> simp only [Bool.false_eq_true, if_false, if_true] at h2 h3
    · refine ⟨b, off, h1, by simpa using (h.dp b h2).1, fun q x hq => ?_⟩
      obtain ⟨u, h4, h5⟩ := h3 q x hq
      exact ⟨u, by rw [cell_same (h.dp b h2).2]; exact h4, by simpa using h5.mono (fun b hb => (h.dp b hb).2) (fun b hb => (h.dp b hb).1)⟩
    · refine ⟨b, off, h1, by simpa using (h.dl b h2).1, fun q x hq => ?_⟩
      obtain ⟨u, h4, h5⟩ := h3 q x hq
      exact ⟨u, by rw [cell_same (h.dl b h2).2]; exact h4, by simpa using h5.mono (fun b hb => (h.dl b hb).2) (fun b hb => (h.dl b hb).1)⟩
  | .fn f cap, v, ⟨vs, e, hx⟩ => ⟨vs, e, AVrs.unorg k h cap vs hx⟩
  | .skip, _, hx => hx
  | .undef, _, _ => trivial
theorem AVrs.unorg {c c' : Cx} (k : Nat) (h : c.leu c' k) : ∀ (xs : List AV) (vs : List Value), AVr.AVrs c xs vs → AVr.AVrs c' (AV.unorg.unorgs k xs) vs
  | [], [], _ => trivial
  | x :: xs, v :: vs, hx => ⟨AVr.unorg k h x v hx.1, AVrs.unorg k h xs vs hx.2⟩
  | [], _ :: _, hx => hx
  | _ :: _, [], hx => hx
end
end Go.Proofs.YtcpfhonmdbhdbaaGreatDoor.Am
namespace Go.Proofs.YtcpfhonmdbhdbaaGreatDoor.Am
open Go
set_option linter.unusedVariables false
structure Base where
  w : World
  D : Dm
  X : Dm
  L : Nat → Option Nat
structure Keep (B : Base) (w : World) : Prop where
  os : w.os = B.w.os
  tape : w.tape = B.w.tape
  output : w.output = B.w.output
  drawn : DrLe B.w.drawn w.drawn
  size : B.w.heap.size ≤ w.heap.size
  block : ∀ b, b < B.w.heap.size → ¬ B.X b → w.heap[b]? = B.w.heap[b]?
  xl : ∀ b, B.X b → ∃ k, B.L k ≠ none
  lp : ∀ k b, B.L k = some b → pin ≤ k ∧ b < B.w.heap.size
  sh : ∀ k b, B.L k = some b → w.shape? b = B.w.shape? b
  gl : Glob B.w ∧ ∀ b, GlB b → ¬ B.X b
theorem Keep.glob {B : Base} {w : World} (h : Keep B w) : Glob w := h.gl.1.mono fun b hb => h.block b (h.gl.1.lt hb) (h.gl.2 b hb)
abbrev Col := Nat → Option (Nat × Nat × Nat)
abbrev limKey : Nat := 9999998
theorem ne_lim {k : Nat} (h : k < pin) : k ≠ limKey := by
  have h1 : k < 9000 := h
  intro e
  have h2 : k = 9999998 := e
  omega
def cx (B : Base) (ρ : Nat → Option Nat) (col : Col) (w : World) (hp : Hp) : Cx where
  ρ := ρ
  w := w
  Dp := fun b => b < w.heap.size ∧ (B.D b ∨ B.w.heap.size ≤ b) ∧ col b = none ∧ ∀ k, ρ k ≠ some b
  Dl := fun b => b < w.heap.size ∧ (∀ k, ρ k ≠ some b) ∧ ∀ i j, col b ≠ some (limKey, i, j)
  hp := hp
def RowsR (c : Cx) (col : Col) (k sz : Nat) (rs : List (List T)) : Prop :=
  (∀ (i : Nat) (r : List T), rs[i]? = some r → r.length = sz) ∧
  ((∃ b cells e fr, ∃ u : Nat → Nat → Value, c.ρ k = some b ∧ c.w.heap[b]? = some (.cells cells e fr) ∧ frOk fr cells.size ∧ rs.length * sz ≤ cells.size ∧
      (∀ (i : Nat) (r : List T) (j : Nat) (x : T), rs[i]? = some r → r[j]? = some x → cells[i * sz + j]? = some (u i j)) ∧
      (∀ (i : Nat) (r : List T) (j : Nat) (x : T), rs[i]? = some r → r[j]? = some x → Own c.w c.Dp (fun b' => col b' = some (k, i, j)) x (u i j))) ∨
    (rs = [] ∧ c.ρ k = none))
def BoxR (c : Cx) (k : Nat) (cs : List AV) : Prop :=
  ∃ b, ∃ vs : List Value, ∃ e fr, c.ρ k = some b ∧ c.w.heap[b]? = some (.cells vs.toArray e fr) ∧ frOk fr vs.length ∧ AVr.AVrs c cs vs
def BlkR (c : Cx) (col : Col) (k : Nat) : Blk → Prop
  | .box cs => BoxR c k cs
  | .rows sz rs => RowsR c col k sz rs
structure SimR (B : Base) (ρ : Nat → Option Nat) (col : Col) (s : St) (a : Act) (w : World) : Prop where
  defers : a.defers = []
  len : s.tm.length = a.tmps.size
  keep : Keep B w
  tm : ∀ i, AVr (cx B ρ col w s.hp) (gt s.tm i) (a.tmps.getD i Go.undef)
  hp : ∀ k b, hget s.hp k = some b → BlkR (cx B ρ col w s.hp) col k b
  dom : ∀ k, hget s.hp k = none → ρ k = none
  inj : ∀ k k' b, ρ k = some b → ρ k' = some b → k = k'
  sep : ∀ k b, ρ k = some b → col b = none
  lab : ∀ k b, ρ k = some b → b < w.heap.size ∧ (B.X b ∨ B.w.heap.size ≤ b)
  colb : ∀ b p, col b = some p → b < w.heap.size ∧ (B.X b ∨ B.w.heap.size ≤ b)
  pins : ∀ k, pin ≤ k → ρ k = B.L k
  nolim : hget s.hp limKey = none
def Sim (B : Base) (s : St) (a : Act) (w : World) : Prop := ∃ ρ col, SimR B ρ col s a w
structure TyOk (P : Program) (t : Nat) (y : Ty) : Prop where
  info : ∃ i, P.info? t = some i ∧ i.size = y.size ∧ ∃ z, i.zero = some z ∧ ∀ c : Cx, AVr.AVrs c y.zero z.cells.toList
  kind : match y.k with
    | .struct => ∃ fs : Array Field, P.underlying t = some (.struct fs) ∧ (y.fs = fs.toList.map fun f => (f.offset, f.type)) ∧ ∀ f ∈ fs.toList, ∃ i, P.info? f.type = some i
    | .slice => P.underlying t = some (.slice y.elem) ∧ ∃ e, P.info? y.elem = some e ∧ e.size = y.esz ∧ e.bytes = y.ebytes ∧ ∃ z, e.zero = some z ∧ z.cells.size = y.esz
    | .int k => P.underlying t = some (.int k)
    | .bool => P.underlying t = some .bool
    | .str => P.underlying t = some .string
    | .ptr => ∃ e, P.underlying t = some (.pointer e)
    | .map => ∃ k, P.underlying t = some (.map k y.elem) ∧ P.underlying k = some .string
    | .other => ∃ d, P.underlying t = some d ∧ (∀ fs, d ≠ .struct fs) ∧ (∀ n e, d ≠ .array n e)
  nfs : (∀ h : y.k = .struct, True) ∧ (y.k ≠ .struct → y.fs = [])
  nesz : y.k ≠ .slice → y.esz = 0
  pos : y.k = .slice → 0 < y.esz
  eq : y.eq = true → ∀ (xs ys : List Value) (c : Cx) (as_ bs : List AV) (q r : Bool) (op : BinOp) (v : AV) (o1 o2 : Operand), AVr.AVrs c as_ xs → AVr.AVrs c bs ys → as_.length = y.size → cellsEq y.zero as_ = some q → cellsEq as_ bs = some r → eqAV op r = some v →
    ∃ u, (∀ w : World, (do eqGuard op t o1 o2 (.agg xs.toArray) (.agg ys.toArray); binOp op t (.agg xs.toArray) (.agg ys.toArray)).run P w = .ok u w) ∧ AVr c v u
def TysOk (P : Program) (Γ : Env) : Prop := ∀ t y, Γ t = some y → TyOk P t y
theorem gt_pt (l : List AV) (i j : Nat) (v : AV) : gt (pt l i v) j = if j = i ∧ i < l.length then v else gt l j := by
  induction l generalizing i j with
  | nil => simp [pt, gt]
  | cons a l ih =>
    cases i with
    | zero => cases j <;> simp [pt, gt]
    | succ i => cases j with
      | zero => simp [pt, gt]
      | succ j => simp [pt, gt, ih]
theorem pt_length (l : List AV) (i : Nat) (v : AV) : (pt l i v).length = l.length := by
  induction l generalizing i with
  | nil => rfl
  | cons a l ih => cases i <;> simp [pt, ih]
theorem hget_hput (h : Hp) (k m : Nat) (b : Blk) : hget (hput h k b) m = if k = m then some b else hget h m := by
  induction h with
  | nil => simp [hput, hget]
  | cons p h ih =>
    obtain ⟨n, c⟩ := p
    unfold hput
    split
    · subst_vars; simp only [hget]; split <;> rfl
    · split
      · simp only [hget]
      · simp only [hget, ih]; split
        · rename_i h1 _ h2; subst h2; rw [if_neg (fun e => h1 e.symm)]
        · rfl
theorem hget_hdel (h : Hp) (k m : Nat) : hget (hdel h k) m = if k = m then none else hget h m := by
  induction h with
  | nil => simp [hdel, hget]
  | cons p h ih =>
    obtain ⟨n, c⟩ := p
    unfold hdel
    split
    · subst_vars; simp only [hget, ih]; split <;> simp_all
    · simp only [hget, ih]; split
      · rename_i h1 h2; subst h2; rw [if_neg (fun e => h1 e.symm)]
      · rfl
def Blk.kill (k : Nat) : Blk → Blk
  | .box cs => .box (AV.kill.kills k cs)
  | .rows sz rs => .rows sz rs
theorem hget_hkill (h : Hp) (k m : Nat) : hget (hkill k h) m = (hget h m).map (Blk.kill k) := by
  induction h with
  | nil => rfl
  | cons p h ih =>
    obtain ⟨n, c⟩ := p
    cases c <;> simp only [hkill, hget, ih] <;> split <;> simp [Blk.kill]
theorem gt_kills (k : Nat) (l : List AV) (i : Nat) : gt (AV.kill.kills k l) i = (gt l i).kill k := by
  induction l generalizing i with
  | nil => simp [AV.kill.kills, gt, AV.kill]
  | cons a l ih => cases i <;> simp [AV.kill.kills, gt, ih]
theorem kills_length (k : Nat) (l : List AV) : (AV.kill.kills k l).length = l.length := by
  induction l with
  | nil => rfl
  | cons a l ih => simp [AV.kill.kills, ih]
theorem AVrs_length {c : Cx} : ∀ {xs : List AV} {vs : List Value}, AVr.AVrs c xs vs → xs.length = vs.length
  | [], [], _ => rfl
  | x :: xs, v :: vs, h => by simp [AVrs_length h.2]
  | [], _ :: _, h => h.elim
  | _ :: _, [], h => h.elim
theorem AVrs_get {c : Cx} : ∀ {xs : List AV} {vs : List Value} (h : AVr.AVrs c xs vs) {i : Nat} {x : AV}, xs[i]? = some x → ∃ v, vs[i]? = some v ∧ AVr c x v
  | x :: xs, v :: vs, h, 0, y, hy => ⟨v, rfl, by simp at hy; subst hy; exact h.1⟩
  | x :: xs, v :: vs, h, i + 1, y, hy => by simpa using AVrs_get h.2 (i := i) (x := y) (by simpa using hy)
  | [], [], _, _, _, hy => by simp at hy
  | [], _ :: _, h, _, _, _ => h.elim
  | _ :: _, [], h, _, _, _ => h.elim
theorem AVrs_append {c : Cx} : ∀ {xs : List AV} {vs : List Value} {ys : List AV} {us : List Value}, AVr.AVrs c xs vs → AVr.AVrs c ys us → AVr.AVrs c (xs ++ ys) (vs ++ us)
  | [], [], _, _, _, h => h
  | x :: xs, v :: vs, _, _, h, h' => ⟨h.1, AVrs_append h.2 h'⟩
  | [], _ :: _, _, _, h, _ => h.elim
  | _ :: _, [], _, _, h, _ => h.elim
theorem SimR.put {B : Base} {ρ : Nat → Option Nat} {col : Col} {s : St} {a : Act} {w : World} (h : SimR B ρ col s a w) {x : AV} {v : Value} (hx : AVr (cx B ρ col w s.hp) x v) (d : Option Tmp) : SimR B ρ col (s.put d x) (a.put d v) w := by
  cases d with
  | none => exact h
  | some d =>
    refine ⟨h.defers, by simp [St.put, Act.put, pt_length, h.len], h.keep, fun i => ?_, h.hp, h.dom, h.inj, h.sep, h.lab, h.colb, h.pins, h.nolim⟩
    simp only [St.put, Act.put, gt_pt]
    by_cases hi : i = d ∧ d < s.tm.length
    · obtain ⟨rfl, hl⟩ := hi
      have hl' : i < a.tmps.size := h.len ▸ hl
      simp [hl, hl', Array.getD_eq_getD_getElem?]
      exact hx
    · rw [if_neg hi]
      have : (a.tmps.setIfInBounds d v).getD i Go.undef = a.tmps.getD i Go.undef := by
        simp only [Array.getD_eq_getD_getElem?, Array.getElem?_setIfInBounds]
        split
        · rename_i hd
          subst hd
          split
          · rename_i hlt; exact absurd ⟨rfl, h.len ▸ hlt⟩ hi
          · rename_i hlt; simp at hlt; simp [Array.getElem?_eq_none hlt]
        · rfl
      rw [this]
      exact h.tm i
theorem ofV_r (c : Cx) : ∀ v : Value, AVr c (ofV v) v := by
  intro v
  cases v with
  | bool b => exact .bool b
  | int k n => exact .int k n
  | string s => exact .str s
  | pointer a => cases a with
    | none => exact .nilp
    | some a => trivial
  | slice a n m =>
    cases a with
    | some a => simp only [ofV]; trivial
    | none =>
      cases n with
      | zero => cases m with
        | zero => simp only [ofV]; rfl
        | succ m => simp only [ofV]; trivial
      | succ n => simp only [ofV]; trivial
  | nilFunc => exact .nilfn
  | _ => trivial
theorem SimR.ev {B : Base} {ρ : Nat → Option Nat} {col : Col} {s : St} {a : Act} {w : World} (h : SimR B ρ col s a w) (x : Operand) : AVr (cx B ρ col w s.hp) (s.ev x) (a.eval x) := by
  cases x with
  | tmp i => exact h.tm i
  | const v => exact ofV_r _ v
  | global g => trivial
  | func f => exact ⟨[], rfl, trivial⟩
theorem SimR.evs {B : Base} {ρ : Nat → Option Nat} {col : Col} {s : St} {a : Act} {w : World} (h : SimR B ρ col s a w) : ∀ l : List Operand, AVr.AVrs (cx B ρ col w s.hp) (s.evs l) (l.map a.eval)
  | [] => trivial
  | x :: l => ⟨h.ev x, SimR.evs h l⟩
end Go.Proofs.YtcpfhonmdbhdbaaGreatDoor.Am
namespace Go.Proofs.YtcpfhonmdbhdbaaGreatDoor.Am
open Go
set_option linter.unusedVariables false
theorem Rd.one {w : World} {D : Dm} {x : T} {v : Value} (h : Rd w D x v) : v.oneCell' = true := by cases h <;> first | rfl | assumption
theorem Own.one {w : World} {D S : Dm} {x : T} {v : Value} (h : Own w D S x v) : v.oneCell' = true := by
  cases h with
  | rd _ _ _ _ h => exact h.one
  | nil => rfl
  | list => rfl
section
variable {P : Program} {Γ : Env} {B : Base} {ρ : Nat → Option Nat} {col : Col} {s : St} {a : Act} {w : World}
theorem cut_range {cs : List AV} {c : Cx} {vs : List Value} (h : AVr.AVrs c cs vs) : ∀ {j n : Nat} {r : List AV}, cut j n cs = some r → r.length = n ∧ AVr.AVrs c r ((vs.drop j).take n) ∧ j + n ≤ vs.length := by
  induction cs generalizing vs with
  | nil =>
    intro j n r hr
    cases vs with
    | cons => exact h.elim
    | nil =>
      cases j with
      | zero => cases n with
        | zero => simp [cut] at hr; subst hr; exact ⟨rfl, trivial, Nat.le_refl _⟩
        | succ n => simp [cut] at hr
      | succ j => cases n <;> simp [cut] at hr
  | cons x cs ih =>
    intro j n r hr
    cases vs with
    | nil => exact h.elim
    | cons v vs =>
      cases j with
      | zero => cases n with
        | zero => simp [cut] at hr; subst hr; exact ⟨rfl, trivial, Nat.zero_le _⟩
        | succ n =>
          simp only [cut, Option.map_eq_some_iff] at hr
          obtain ⟨q, hq, rfl⟩ := hr
          obtain ⟨h1, h2, h3⟩ := ih h.2 hq
          exact ⟨by simp [h1], ⟨h.1, by simpa using h2⟩, by simp at h3 ⊢; omega⟩
      | succ j =>
        have hr' : cut j n cs = some r := by cases n <;> simpa [cut] using hr
        obtain ⟨h1, h2, h3⟩ := ih h.2 hr'
        exact ⟨h1, by simpa using h2, by simp; omega⟩
theorem load_cells {t : Nat} {y : Ty} (hy : TyOk P t y) {c : Cx} {b o : Nat} {cs : List AV} {vs : List Value} (h : AVr.AVrs c cs vs) (hc : w.rangeAt b o vs) (hn : cs.length = y.size) {r : AV} (hr : mkAV y.agg cs = some r) :
    ∃ u, (∀ w' : World, w'.heap[b]? = w.heap[b]? → (Instr.loadAt t (.pointer (some ⟨b, o, none⟩))).run P w' = .ok u w') ∧ AVr c r u := by
  have hc' : ∀ w' : World, w'.heap[b]? = w.heap[b]? → w'.rangeAt b o vs := fun w' hw q z hq => (cell_same hw _ _).trans (hc q z hq)
  obtain ⟨i, hi, hs, _⟩ := hy.info
  have hl := AVrs_length h
  cases hk : y.k with
  | struct =>
    have hkind := hy.kind
    rw [hk] at hkind
    obtain ⟨fs, hu, _⟩ := hkind
    simp [mkAV, Ty.agg, hk] at hr
    subst hr
    exact ⟨_, fun w' hw => run_loadAt_mid w' b o t vs _ (hc' w' hw) hu rfl (by simp [hi, hs]; omega), vs, rfl, h⟩
  | _ =>
    all_goals
      have hkind := hy.kind
      rw [hk] at hkind
      simp [mkAV, Ty.agg, hk] at hr
      obtain ⟨x, hcs, hx⟩ : ∃ x, cs = [x] ∧ r = x := by
        cases cs with
        | nil => simp at hr
        | cons x cs => cases cs with
          | nil => cases x <;> simp at hr <;> exact ⟨_, rfl, hr.symm⟩
          | cons x' cs => cases x <;> simp at hr
      subst hcs hx
      cases vs with
      | nil => exact h.elim
      | cons v vs =>
        cases vs with
        | cons => exact h.2.elim
        | nil =>
          refine ⟨v, fun w' hw => ?_, h.1⟩
          have h0 : w'.cell? ⟨b, o, none⟩ = some v := by simpa using hc' w' hw 0 v rfl
          have hagg : (isAgg t).run P w' = .ok false w' := by
            unfold isAgg
            first
              | (rw [Sem.run_bind, run_underlying hkind.1 w']; rfl)
              | (rw [Sem.run_bind, run_underlying hkind w']; rfl)
              | (obtain ⟨d, hd⟩ := hkind; rw [Sem.run_bind, run_underlying hd w']; rfl)
              | (obtain ⟨k, hd, _⟩ := hkind; rw [Sem.run_bind, run_underlying hd w']; rfl)
              | (obtain ⟨d, hd, h1, h2⟩ := hkind
                 rw [Sem.run_bind, run_underlying hd w']
                 cases d <;> first | rfl | exact absurd rfl (h1 _) | exact absurd rfl (h2 _ _))
          simp [Instr.loadAt, Instr.sureAddr, loadVar, Sem.run_bind, hagg, h0]
theorem rd_scal {x : T} {w w' : World} {D D' : Dm} {v : Value} (hl : ∀ o sz r, x ≠ .list o sz r) (hf : ∀ f c, x ≠ .fn f c) (hm : ∀ k r, x ≠ .mp k r) (hp : ∀ y, x ≠ .pp y) (h : Rd w D x v) : Rd w' D' x v := by
  cases h with
  | int => constructor
  | bool => constructor
  | str => constructor
  | nilp => constructor
  | nilfn => constructor
  | gone v hv => exact .gone v hv
  | fn => exact absurd rfl (hf _ _)
  | mp => exact absurd rfl (hm _ _)
  | pp => exact absurd rfl (hp _)
  | nil => exact absurd rfl (hl _ _ _)
  | list => exact absurd rfl (hl _ _ _)
theorem rdT_r {x : T} {c : Cx} {v : Value} (l : Bool) (org : Option (Nat × Nat × Nat)) (h : Rd c.w (if l then c.Dl else c.Dp) x v) (ht : Tie c org v) : AVr c (rdT l org x) v := by
  cases l
  · cases x <;> exact h
  · simp only [if_true] at h
    cases x with
    | list o sz rows => exact ⟨h, ht⟩
    | fn f cap => trivial
    | mp ks rows => trivial
    | pp x => trivial
    | _ => exact rd_scal (by simp) (by simp) (by simp) (by simp) h
theorem rdRop_r {c : Cx} {row : List T} {l : Bool} {vs : List Value} (hl : row.length = vs.length) (h : ∀ (q : Nat) (x : T) (v : Value), row[q]? = some x → vs[q]? = some v → Rd c.w (if l then c.Dl else c.Dp) x v) : AVr.AVrs c (rdRop l row) vs := by
  induction row generalizing vs with
  | nil => cases vs <;> first | trivial | simp at hl
  | cons x row ih =>
    cases vs with
    | nil => simp at hl
    | cons v vs => exact ⟨rdT_r l none (h 0 x v rfl rfl) trivial, ih (by simpa using hl) (fun q x v h1 h2 => h (q + 1) x v (by simpa using h1) (by simpa using h2))⟩
theorem rdC_r {x : T} {c : Cx} {v : Value} (org : Option (Nat × Nat × Nat)) (h : Rd c.w c.Dl x v) (hf : x.flat → Rd c.w c.Dp x v) (ht : Tie c org v) : AVr c (rdC org x) v := by
  cases x with
  | list o sz rows => cases o <;> first | exact hf trivial | exact ⟨h, ht⟩
  | fn f cap => trivial
  | mp ks rows => trivial
  | pp x => trivial
  | _ => exact rd_scal (by simp) (by simp) (by simp) (by simp) h
theorem Own.flat {w : World} {D S : Dm} {x : T} {v : Value} (h : Own w D S x v) (hf : x.flat) : Rd w D x v := by
  cases h with
  | rd _ _ _ _ h => exact h
  | nil => exact hf.elim
  | list => exact hf.elim
theorem rdRow_r {c : Cx} {k i : Nat} {row : List T} {vs : List Value} (hl : row.length = vs.length) (h : ∀ (q : Nat) (x : T) (v : Value), row[q]? = some x → vs[q]? = some v → Rd c.w c.Dl x v) (hf : ∀ (q : Nat) (x : T) (v : Value), row[q]? = some x → vs[q]? = some v → x.flat → Rd c.w c.Dp x v) : ∀ j, (∀ (q : Nat) (v : Value), vs[q]? = some v → Tie c (some (k, i, j + q)) v) → AVr.AVrs c (rdRow k i j row) vs := by
  induction row generalizing vs with
  | nil => intro j _; cases vs <;> first | trivial | simp at hl
  | cons x row ih =>
    intro j ht
    cases vs with
    | nil => simp at hl
    | cons v vs => exact ⟨rdC_r _ (by simpa using h 0 x v rfl rfl) (hf 0 x v rfl rfl) (ht 0 v rfl), ih (by simpa using hl) (fun q x v h1 h2 => h (q + 1) x v (by simpa using h1) (by simpa using h2)) (fun q x v h1 h2 => hf (q + 1) x v (by simpa using h1) (by simpa using h2)) _ (fun q v hq => by
        have := ht (q + 1) v (by simpa using hq)
        rwa [show j + (q + 1) = j + 1 + q by omega] at this)⟩
theorem row_vals {w : World} {b o : Nat} {row : List T} {D : Dm} (h : ∀ q x, row[q]? = some x → ∃ u, w.cell? ⟨b, o + q, none⟩ = some u ∧ Rd w D x u) :
    ∃ vs : List Value, row.length = vs.length ∧ w.rangeAt b o vs ∧ ∀ (q : Nat) (x : T) (v : Value), row[q]? = some x → vs[q]? = some v → Rd w D x v := by
  induction row generalizing o with
  | nil => exact ⟨[], rfl, fun j v hj => by simp at hj, fun q x v hq => by simp at hq⟩
  | cons x row ih =>
    obtain ⟨u, h1, h2⟩ := h 0 x rfl
    obtain ⟨vs, h3, h4, h5⟩ := ih (o := o + 1) (fun q y hq => by
      obtain ⟨u, e1, e2⟩ := h (q + 1) y (by simpa using hq)
      exact ⟨u, by rw [show o + 1 + q = o + (q + 1) by omega]; exact e1, e2⟩)
    refine ⟨u :: vs, by simp [h3], fun j v hj => ?_, fun q y v hq hv => ?_⟩
    · cases j with
      | zero => simp at hj; subst hj; simpa using h1
      | succ j => rw [show o + (j + 1) = o + 1 + j by omega]; exact h4 j v (by simpa using hj)
    · cases q with
      | zero => simp at hq hv; subst hq hv; exact h2
      | succ q => exact h5 q y v (by simpa using hq) (by simpa using hv)
theorem load_ok (h : SimR B ρ col s a w) {t : Nat} {y : Ty} (hy : TyOk P t y) {x v : AV} {u : Value} (hx : AVr (cx B ρ col w s.hp) x u) (hv : loadAV y s x = some v) :
    ∃ r, (∀ w' : World, (∀ b, b < w.heap.size → w'.heap[b]? = w.heap[b]?) → (Instr.loadAt t u).run P w' = .ok r w') ∧ AVr (cx B ρ col w s.hp) v r := by
  have lc : ∀ {b o : Nat} {cs : List AV} {vs : List Value} {r : AV}, b < w.heap.size → AVr.AVrs (cx B ρ col w s.hp) cs vs → w.rangeAt b o vs → cs.length = y.size → mkAV y.agg cs = some r →
      ∃ u, (∀ w' : World, (∀ b, b < w.heap.size → w'.heap[b]? = w.heap[b]?) → (Instr.loadAt t (.pointer (some ⟨b, o, none⟩))).run P w' = .ok u w') ∧ AVr (cx B ρ col w s.hp) r u := by
    intro b o cs vs r hlt h1 h2 h3 h4
    obtain ⟨u, g1, g2⟩ := load_cells hy h1 h2 h3 h4
    exact ⟨u, fun w' hw => g1 w' (hw b hlt), g2⟩
  unfold loadAV at hv
  split at hv
  · rename_i k i j
    obtain ⟨b, hb, hm⟩ := hx
    change (match hget s.hp k with | some (.box _) => _ | some (.rows sz _) => _ | none => _) at hm
    cases hk : hget s.hp k with
    | none => simp [hk] at hv
    | some blk =>
      have hblk := h.hp k blk hk
      cases blk with
      | box cs =>
        simp only [hk, Option.bind_eq_some_iff] at hv hm
        obtain ⟨r, hr, hmk⟩ := hv
        obtain ⟨rfl, rfl⟩ := hm
        obtain ⟨b', vs, e, fr, hb', hh, hf, hvs⟩ := hblk
        obtain rfl : b' = b := by rw [hb] at hb'; exact (Option.some.inj hb').symm
        obtain ⟨h1, h2, h3⟩ := cut_range hvs hr
        have hh' : w.heap[b']? = some (.cells vs.toArray e fr) := hh
        refine lc (heap_lt hh') h2 (fun q z hq => ?_) h1 hmk
        have : vs[j + q]? = some z := by
          rw [List.getElem?_take] at hq
          split at hq
          · simpa [List.getElem?_drop] using hq
          · simp at hq
        show World.cell? w _ = _
        have hh' : w.heap[b']? = some (.cells vs.toArray e fr) := hh
        simp [World.cell?, hh', this]
      | rows sz rs =>
        simp only [hk] at hv hm
        split at hv
        · rename_i hc
          simp only [Option.bind_eq_some_iff] at hv
          obtain ⟨r, hr, hmk⟩ := hv
          subst hm
          obtain ⟨hrow, hrest⟩ := hblk
          rcases hrest with ⟨b', cells, e, fr, uu, hb', hh, hf, hsz, hu, how⟩ | ⟨rfl, hn⟩
          · obtain rfl : b' = b := by
              have hb'' : ρ k = some b' := hb'
              have hb3 : ρ k = some b := hb
              rw [hb3] at hb''; exact (Option.some.inj hb'').symm
            have hi : rs[i]? = some (rs.getD i []) := by simp [List.getD_eq_getElem?_getD, List.getElem?_eq_getElem hc.1]
            have hlen := hrow i _ hi
            have hh' : w.heap[b']? = some (.cells cells e fr) := hh
            obtain ⟨vs, e1, e2, e3⟩ := row_vals (w := w) (b := b') (o := i * sz) (row := rs.getD i []) (D := (cx B ρ col w s.hp).Dl) (fun q x hq => by
              refine ⟨uu i q, by simp [World.cell?, hh', hu i _ q x hi hq], (how i _ q x hi hq).rd' (fun b'' hb'' => ⟨hb''.1, hb''.2.2.2, fun i j e => by rw [show col b'' = none from hb''.2.2.1] at e; cases e⟩) (fun b'' hb'' => ⟨(h.colb b'' _ hb'').1, fun k' hk' => ?_, fun i j e => ?_⟩)⟩
              · have := h.sep k' b'' hk'
                rw [this] at hb''; cases hb''
              · rw [hb''] at e; cases e; rw [h.nolim] at hk; cases hk)
            have hvs : AVr.AVrs (cx B ρ col w s.hp) (rdRow k i 0 (rs.getD i [])) vs := rdRow_r e1 e3 (fun q x v hq hv hxf => by
              have g1 := e2 q v hv
              have g2 : w.cell? ⟨b', i * sz + q, none⟩ = some (uu i q) := by simp [World.cell?, hh', hu i _ q x hi hq]
              rw [g2] at g1; cases g1
              exact (how i _ q x hi hq).flat hxf) 0 (fun q v hq => ⟨b', sz, rs, hb, hk, hc.1, by
              have := (List.getElem?_eq_some_iff.1 hq).1; omega, by
              have := e2 q v hq
              show w.cell? _ = _
              rw [Nat.zero_add]; exact this⟩)
            obtain ⟨h1, h2, h3⟩ := cut_range hvs hr
            refine lc (heap_lt hh') h2 (fun q z hq => ?_) h1 hmk
            have : vs[j + q]? = some z := by
              rw [List.getElem?_take] at hq
              split at hq
              · simpa [List.getElem?_drop] using hq
              · simp at hq
            rw [Nat.add_assoc]
            exact e2 (j + q) z this
          · exact absurd hc.1 (by simp)
        · simp at hv
  · rename_i l row j
    simp only [Option.bind_eq_some_iff] at hv
    obtain ⟨r, hr, hmk⟩ := hv
    obtain ⟨b, off, rfl, hb, hq⟩ := hx
    obtain ⟨vs, e1, e2, e3⟩ := row_vals hq
    have hvs : AVr.AVrs (cx B ρ col w s.hp) (rdRop l row) vs := rdRop_r e1 e3
    obtain ⟨h1, h2, h3⟩ := cut_range hvs hr
    refine lc (by cases l <;> exact hb.1) h2 (fun q z hq => ?_) h1 hmk
    have : vs[j + q]? = some z := by
      rw [List.getElem?_take] at hq
      split at hq
      · simpa [List.getElem?_drop] using hq
      · simp at hq
    rw [Nat.add_assoc]
    exact e2 (j + q) z this
  · simp at hv
end
end Go.Proofs.YtcpfhonmdbhdbaaGreatDoor.Am
namespace Go.Proofs.YtcpfhonmdbhdbaaGreatDoor.Am
open Go
set_option linter.unusedVariables false
theorem TyOk.und {P : Program} {t : Nat} {y : Ty} (hy : TyOk P t y) : ∃ d, P.underlying t = some d := by
  have h := hy.kind
  cases hk : y.k <;> rw [hk] at h
  · exact ⟨_, h.choose_spec.1⟩
  · exact ⟨_, h.1⟩
  · exact ⟨_, h⟩
  · exact ⟨_, h⟩
  · exact ⟨_, h⟩
  · exact ⟨_, h.choose_spec⟩
  · exact ⟨_, h.choose_spec.1⟩
  · exact ⟨_, h.choose_spec.1⟩
theorem TyOk.str {P : Program} {t : Nat} {y : Ty} (hy : TyOk P t y) (h : y.isStr = true) : P.underlying t = some .string := by
  have hk := hy.kind
  cases hk' : y.k <;> simp [Ty.isStr, hk'] at h
  simpa [hk'] using hk
theorem TyOk.boo {P : Program} {t : Nat} {y : Ty} (hy : TyOk P t y) (h : y.isBool = true) : P.underlying t = some .bool := by
  have hk := hy.kind
  cases hk' : y.k <;> simp [Ty.isBool, hk'] at h
  simpa [hk'] using hk
theorem TyOk.ptr {P : Program} {t : Nat} {y : Ty} (hy : TyOk P t y) (h : y.isPtr = true) : ∃ e, P.underlying t = some (.pointer e) := by
  have hk := hy.kind
  cases hk' : y.k <;> simp [Ty.isPtr, hk'] at h
  simpa [hk'] using hk
theorem TyOk.slice {P : Program} {t : Nat} {y : Ty} (hy : TyOk P t y) (h : y.isSlice = true) : P.underlying t = some (.slice y.elem) ∧ ∃ e, P.info? y.elem = some e ∧ e.size = y.esz ∧ e.bytes = y.ebytes ∧ ∃ z, e.zero = some z ∧ z.cells.size = y.esz := by
  have hk := hy.kind
  cases hk' : y.k <;> simp [Ty.isSlice, hk'] at h
  simpa [hk'] using hk
theorem TyOk.st {P : Program} {t : Nat} {y : Ty} (hy : TyOk P t y) (h : y.agg = true) : ∃ fs : Array Field, P.underlying t = some (.struct fs) ∧ (y.fs = fs.toList.map fun f => (f.offset, f.type)) ∧ ∀ f ∈ fs.toList, ∃ i, P.info? f.type = some i := by
  have hk := hy.kind
  cases hk' : y.k <;> simp [Ty.agg, hk'] at h
  simpa [hk'] using hk
theorem TyOk.sizeOf {P : Program} {t : Nat} {y : Ty} (hy : TyOk P t y) (w : World) : (sizeOf t).run P w = .ok y.size w := by
  obtain ⟨i, hi, hs, _⟩ := hy.info
  simp [Go.sizeOf, typeInfo, hi, hs]
section
variable {P : Program} {Γ : Env} {B : Base} {ρ : Nat → Option Nat} {col : Col} {s : St} {a : Act} {w : World} {c : Cx}
theorem binInt_ok {op : BinOp} {t : Nat} {o1 o2 : Operand} {k : IntKind} {m n : Int} {v : AV} (h : binInt op k m n = some v) :
    ∃ u, (∀ w' : World, (do eqGuard op t o1 o2 (.int k m) (.int k n); binOp op t (.int k m) (.int k n)).run P w' = .ok u w') ∧ AVr c v u := by
  cases op
  case quo =>
    simp only [binInt] at h
    split at h
    · cases h
    · rename_i h0; cases h; exact ⟨_, fun w => by simp [eqGuard, binOp, Op.intDiv, h0], .int _ _⟩
  case rem =>
    simp only [binInt] at h
    split at h
    · cases h
    · rename_i h0; cases h; exact ⟨_, fun w => by simp [eqGuard, binOp, Op.intDiv, h0], .int _ _⟩
  case add => cases h; exact ⟨_, fun w => by simp [eqGuard, binOp, Op.intArith], .int _ _⟩
  case sub => cases h; exact ⟨_, fun w => by simp [eqGuard, binOp, Op.intArith], .int _ _⟩
  case mul => cases h; exact ⟨_, fun w => by simp [eqGuard, binOp, Op.intArith], .int _ _⟩
  case eql => cases h; exact ⟨_, fun w => by simp [eqGuard, binOp, Op.intCmp], .bool _⟩
  case neq => cases h; exact ⟨_, fun w => by simp [eqGuard, binOp, Op.intCmp], .bool _⟩
  case lss => cases h; exact ⟨_, fun w => by simp [eqGuard, binOp, Op.intCmp], .bool _⟩
  case leq => cases h; exact ⟨_, fun w => by simp [eqGuard, binOp, Op.intCmp], .bool _⟩
  case gtr => cases h; exact ⟨_, fun w => by simp [eqGuard, binOp, Op.intCmp], .bool _⟩
  case geq => cases h; exact ⟨_, fun w => by simp [eqGuard, binOp, Op.intCmp], .bool _⟩
  case and => cases h; exact ⟨.int k _, fun w => by simp [eqGuard, binOp, Op.intBits], .int _ _⟩
  case or => cases h; exact ⟨.int k _, fun w => by simp [eqGuard, binOp, Op.intBits], .int _ _⟩
  case xor => cases h; exact ⟨.int k _, fun w => by simp [eqGuard, binOp, Op.intBits], .int _ _⟩
  all_goals (simp [binInt] at h)
theorem binStr_ok {op : BinOp} {t : Nat} {o1 o2 : Operand} {m n : ByteArray} {v : AV} (h : binStr op m n = some v) :
    ∃ u, (∀ w' : World, (do eqGuard op t o1 o2 (.string m) (.string n); binOp op t (.string m) (.string n)).run P w' = .ok u w') ∧ AVr c v u := by
  cases op
  case add =>
    simp only [binStr] at h
    split at h
    · rename_i h0
      cases h
      have h1 : (m.size : Int) + n.size ≤ 9223372036854775807 := by unfold strMax at h0; omega
      exact ⟨_, fun w => by simp [eqGuard, binOp, Op.stringOp, h1], .str _⟩
    · cases h
  case eql => cases h; exact ⟨_, fun w => by simp [eqGuard, binOp, Op.stringOp]; rfl, .bool _⟩
  case neq => cases h; exact ⟨_, fun w => by simp [eqGuard, binOp, Op.stringOp]; rfl, .bool _⟩
  case lss => cases h; exact ⟨_, fun w => by simp [eqGuard, binOp, Op.stringOp]; rfl, .bool _⟩
  case leq => cases h; exact ⟨_, fun w => by simp [eqGuard, binOp, Op.stringOp]; rfl, .bool _⟩
  case gtr => cases h; exact ⟨_, fun w => by simp [eqGuard, binOp, Op.stringOp]; rfl, .bool _⟩
  case geq => cases h; exact ⟨_, fun w => by simp [eqGuard, binOp, Op.stringOp]; rfl, .bool _⟩
  all_goals (simp [binStr] at h)
theorem run_eq_bool {t : Nat} (hu : P.underlying t = some .bool) (x y : Bool) : (Op.equal t (.bool x) (.bool y)).run P w = .ok (x == y) w := by
  have key : ∀ d, (Op.equalIn (d + 1) t (.bool x) (.bool y)).run P w = .ok (x == y) w := by
    intro d
    simp only [Op.equalIn, Sem.run_bind, run_underlying hu, Result.andThen_ok, Sem.run_pure]
  exact key 9999
theorem run_eq_nil {t e : Nat} (hu : P.underlying t = some (.pointer e)) (b : Option Addr) : (Op.equal t (.pointer none) (.pointer b)).run P w = .ok b.isNone w := by
  have key : ∀ d, (Op.equalIn (d + 1) t (.pointer none) (.pointer b)).run P w = .ok b.isNone w := by
    intro d
    simp only [Op.equalIn, Sem.run_bind, run_underlying hu, Result.andThen_ok, Sem.run_pure]
  exact key 9999
theorem run_eq_nil' {t e : Nat} (hu : P.underlying t = some (.pointer e)) (b : Addr) : (Op.equal t (.pointer (some b)) (.pointer none)).run P w = .ok false w := by
  have key : ∀ d, (Op.equalIn (d + 1) t (.pointer (some b)) (.pointer none)).run P w = .ok false w := by
    intro d
    simp only [Op.equalIn, Sem.run_bind, run_underlying hu, Result.andThen_ok, Sem.run_pure]
  exact key 9999
theorem binAV_ok (hΓ : TysOk P Γ) {op : BinOp} {t : Nat} {o1 o2 : Operand} {x z v : AV} {p q : Value} (hx : AVr c x p) (hz : AVr c z q) (h : binAV (Γ t) op x z = some v) :
    ∃ u, (∀ w' : World, (do eqGuard op t o1 o2 p q; binOp op t p q).run P w' = .ok u w') ∧ AVr c v u := by
  unfold binAV at h
  split at h
  · cases hx; cases hz
    split at h
    · rename_i hk; subst hk; exact binInt_ok h
    · cases h
  · cases hx; cases hz; exact binStr_ok h
  · rename_i m n
    cases hx; cases hz
    simp only [Option.bind_eq_some_iff] at h
    obtain ⟨y, hy, h⟩ := h
    split at h
    · rename_i hb
      have hu := (hΓ t y hy).boo hb
      cases op
      case eql => cases h; exact ⟨_, fun w => by simp [eqGuard, binOp, run_eq_bool hu], .bool _⟩
      case neq => cases h; exact ⟨_, fun w => by simp [eqGuard, binOp, run_eq_bool hu], .bool _⟩
      all_goals (simp [eqAV] at h)
    · cases h
  · rename_i as_ bs
    obtain ⟨xs, rfl, hxs⟩ := hx
    obtain ⟨ys, rfl, hys⟩ := hz
    simp only [Option.bind_eq_some_iff] at h
    obtain ⟨y, hy, h⟩ := h
    split at h
    · rename_i hc
      simp only [Option.bind_eq_some_iff] at h
      obtain ⟨q, hq, r, hr, hv⟩ := h
      exact (hΓ t y hy).eq hc.1 xs ys c as_ bs q r op v o1 o2 hxs hys hc.2 hq hr hv
    · cases h
  · obtain ⟨b, hb, hm⟩ := hx
    cases hz
    simp only [Option.bind_eq_some_iff] at h
    obtain ⟨y, hy, h⟩ := h
    split at h
    · rename_i hp
      obtain ⟨e, hu⟩ := (hΓ t y hy).ptr hp
      obtain ⟨ad, rfl⟩ : ∃ ad, p = .pointer (some ad) := by
        revert hm; split <;> intro hm
        · exact ⟨_, hm.1⟩
        · exact ⟨_, hm⟩
        · exact hm.elim
      cases op
      case eql => cases h; exact ⟨_, fun w => by simp [eqGuard, binOp, run_eq_nil' hu], .bool _⟩
      case neq => cases h; exact ⟨_, fun w => by simp [eqGuard, binOp, run_eq_nil' hu], .bool _⟩
      all_goals (simp [eqAV] at h)
    · cases h
  · obtain ⟨b, off, rfl, _⟩ := hx
    cases hz
    simp only [Option.bind_eq_some_iff] at h
    obtain ⟨y, hy, h⟩ := h
    split at h
    · rename_i hp
      obtain ⟨e, hu⟩ := (hΓ t y hy).ptr hp
      cases op
      case eql => cases h; exact ⟨_, fun w => by simp [eqGuard, binOp, run_eq_nil' hu], .bool _⟩
      case neq => cases h; exact ⟨_, fun w => by simp [eqGuard, binOp, run_eq_nil' hu], .bool _⟩
      all_goals (simp [eqAV] at h)
    · cases h
  · cases hx; cases hz
    simp only [Option.bind_eq_some_iff] at h
    obtain ⟨y, hy, h⟩ := h
    split at h
    · rename_i hp
      obtain ⟨e, hu⟩ := (hΓ t y hy).ptr hp
      cases op
      case eql => cases h; exact ⟨_, fun w => by simp [eqGuard, binOp, run_eq_nil hu], .bool _⟩
      case neq => cases h; exact ⟨_, fun w => by simp [eqGuard, binOp, run_eq_nil hu], .bool _⟩
      all_goals (simp [eqAV] at h)
    · cases h
  · cases h
theorem unAV_ok {op : UnOp} {x v : AV} {p : Value} (hx : AVr c x p) (h : unAV op x = some v) : ∃ u, (∀ w' : World, (Op.unary op p).run P w' = .ok u w') ∧ AVr c v u := by
  unfold unAV at h
  split at h
  · cases hx; cases h; exact ⟨_, fun _ => rfl, .bool _⟩
  · cases hx; cases h; exact ⟨_, fun _ => rfl, .int _ _⟩
  · cases h
theorem pickAV_ok {b : Bool} {x z : AV} {p q : Value} (hx : b = true → AVr c x p) (hz : b = false → AVr c z q) : AVr c (pickAV b x z) (if b then p else q) := by
  unfold pickAV
  split
  · cases b
    · have := hz rfl; cases this; exact .bool _
    · have := hx rfl; cases this; exact .bool _
  · cases b
    · exact hz rfl
    · exact hx rfl
theorem mem_len {x : T} {D : Dm} {v : Value} {o : Bool} {sz : Nat} {rows : List (List T)} (h : Rd w D (.list o sz rows) v) : ∃ ad cap, v = .slice ad rows.length cap := by
  cases h with
  | nil => exact ⟨_, _, rfl⟩
  | list => exact ⟨_, _, rfl⟩
theorem len_ok {x : AV} {p : Value} {n : Int} (hx : AVr (cx B ρ col w s.hp) x p) (h : s.len x = some n) : (∃ b, x = .t (.str b)) ∨ ∃ ad m cap, p = .slice ad m cap ∧ n = m := by
  unfold St.len at h
  split at h
  · exact .inl ⟨_, rfl⟩
  · obtain ⟨ad, cap, rfl⟩ := mem_len (x := .nilp) hx; cases h; exact .inr ⟨_, _, _, rfl, rfl⟩
  · obtain ⟨ad, cap, rfl⟩ := mem_len (x := .nilp) hx.1; cases h; exact .inr ⟨_, _, _, rfl, rfl⟩
  · cases h; cases hx; exact .inr ⟨_, _, _, rfl, rfl⟩
  · obtain ⟨sz, rs, h1, h2⟩ := hx
    have h1' : hget s.hp _ = _ := h1
    rw [h1'] at h
    cases h
    rcases h2 with ⟨b, cap, e, m, _, rfl, _⟩ | ⟨rfl, ad, rfl⟩
    · exact .inr ⟨_, _, _, rfl, rfl⟩
    · exact .inr ⟨_, _, _, rfl, rfl⟩
  · obtain ⟨sz, rs, h1, h0, h2⟩ := hx
    cases h
    rcases h2 with ⟨b, cap, _, rfl, _⟩ | ⟨rfl, ad, c, rfl⟩
    · exact .inr ⟨_, _, _, rfl, rfl⟩
    · exact .inr ⟨_, _, _, rfl, rfl⟩
  · cases h
theorem lenAV_ok {t : Nat} {y : Ty} (hy : TyOk P t y) {ty : TypeId} {x v : AV} {p : Value} {tys : Array TypeId} (ht : tys[0]? = some t) (hx : AVr (cx B ρ col w s.hp) x p) (h : lenAV y s x = some v) :
    ∃ u, (∀ w' : World, (Builtin.len_ tys ty #[p]).run P w' = .ok u w') ∧ AVr (cx B ρ col w s.hp) v u := by
  unfold lenAV at h
  split at h
  · cases hx
    split at h
    · rename_i hs
      have hu := hy.str hs
      cases h
      exact ⟨_, fun w => by simp [Builtin.len_, ht, run_underlying hu]; rfl, .int _ _⟩
    · cases h
  · rename_i hne
    split at h
    · rename_i hs
      have hu := (hy.slice hs).1
      simp only [Option.map_eq_some_iff] at h
      obtain ⟨n, hn, rfl⟩ := h
      rcases len_ok hx hn with ⟨b, rfl⟩ | ⟨ad, m, cap, rfl, rfl⟩
      · exact absurd rfl (hne b)
      · exact ⟨_, by simp [Builtin.len_, ht, run_underlying hu]; rfl, .int _ _⟩
    · cases h
end
end Go.Proofs.YtcpfhonmdbhdbaaGreatDoor.Am
namespace Go.Proofs.YtcpfhonmdbhdbaaGreatDoor.Am
open Go
set_option linter.unusedVariables false
section
variable {P : Program} {Γ : Env} {B : Base} {ρ : Nat → Option Nat} {col : Col} {s : St} {a : Act} {w : World}
theorem bnd_ok (h : SimR B ρ col s a w) {x : Option Operand} {z n : Int} (hb : bnd s x z = some n) : (x = none ∧ n = z) ∨ ∃ o k, x = some o ∧ a.eval o = .int k n := by
  unfold bnd at hb
  split at hb
  · exact .inl ⟨rfl, by cases hb; rfl⟩
  · rename_i o
    split at hb
    · rename_i k m he
      cases hb
      have := h.ev o
      rw [he] at this
      generalize hv : a.eval o = v at this
      cases this
      exact .inr ⟨o, k, rfl, hv⟩
    · cases hb
theorem bounds_ok {isSlice : Bool} {len cap : Nat} {lo hi : Option Value} {l h : Int} (hl : (lo = none ∧ l = 0) ∨ ∃ k, lo = some (.int k l)) (hh : (hi = none ∧ h = len) ∨ ∃ k, hi = some (.int k h))
    (h0 : 0 ≤ l) (h1 : l ≤ h) (h2 : h ≤ len) (h3 : len ≤ cap) : (Instr.sliceBounds isSlice len cap lo hi none).run P w = .ok (l.toNat, h.toNat, cap) w := by
  have c1 : 0 ≤ h ∧ h ≤ (cap : Int) := ⟨by omega, by omega⟩
  have c2 : 0 ≤ l ∧ l ≤ max h 0 := ⟨by omega, by omega⟩
  rcases hl with ⟨rfl, rfl⟩ | ⟨k, rfl⟩ <;> rcases hh with ⟨rfl, rfl⟩ | ⟨k', rfl⟩
  · simp [Instr.sliceBounds]
  · simp [Instr.sliceBounds, Instr.sliceBound, asIntOf, c1]
  · have c3 : 0 ≤ l ∧ l ≤ (len : Int) := ⟨h0, by omega⟩
    simp [Instr.sliceBounds, Instr.sliceBound, asIntOf, c3]
  · simp [Instr.sliceBounds, Instr.sliceBound, asIntOf, c1, c2]
theorem Rd.sub {D : Dm} {o : Bool} {sz : Nat} {rows : List (List T)} {b off n cap : Nat} (h : Rd w D (.list o sz rows) (.slice (some ⟨b, off, none⟩) n cap)) {l m : Nat} (hl : l + m ≤ rows.length) (cap' : Nat) (hc : m ≤ cap') :
    Rd w D (.list false sz ((rows.drop l).take m)) (.slice (some ⟨b, off + l * sz, none⟩) m cap') := by
  have hlen : ((rows.drop l).take m).length = m := by simp; omega
  generalize hv : Value.slice (some ⟨b, off, none⟩) n cap = v at h
  cases h with
  | nil =>
    have : m = 0 := by simpa using hlen.symm
    subst this
    have : ((([] : List (List T)).drop l).take 0) = [] := by simp
    rw [this]; exact .nil ..
  | list _ _ _ b' off' cap'' u h1 h2 h3 h4 h5 =>
    cases hv
    have key : ∀ i r, ((rows.drop l).take m)[i]? = some r → rows[l + i]? = some r := by
      intro i r hi
      rw [List.getElem?_take] at hi
      split at hi
      · simpa [List.getElem?_drop] using hi
      · cases hi
    have := Rd.list (w := w) (D := D) false sz ((rows.drop l).take m) b (off + l * sz) cap' (fun i j => u (l + i) j) (by omega) h2 (fun i r hi => h3 _ _ (key i r hi))
      (fun i r j x hi hj => by
        rw [show off + l * sz + (i * sz + j) = off + ((l + i) * sz + j) by rw [Nat.add_mul]; omega]
        exact h4 _ r j x (key i r hi) hj)
      (fun i r j x hi hj => h5 _ r j x (key i r hi) hj)
    rwa [hlen] at this
theorem run_slice_slice {t e : Nat} {i : TypeInfo} (hu : P.underlying t = some (.slice e)) (hi : P.info? e = some i) {ad : Option Addr} {len cap : Nat} {lo hi' : Option Value} {l h : Int}
    (hl : (lo = none ∧ l = 0) ∨ ∃ k, lo = some (.int k l)) (hh : (hi' = none ∧ h = len) ∨ ∃ k, hi' = some (.int k h)) (h0 : 0 ≤ l) (h1 : l ≤ h) (h2 : h ≤ len) (h3 : len ≤ cap) :
    (Instr.sliceAt t (.slice ad len cap) lo hi' none).run P w = .ok (.slice (if cap = l.toNat then ad else ad.map (·.add (l.toNat * i.size))) (h.toNat - l.toNat) (cap - l.toNat)) w := by
  simp [Instr.sliceAt, Instr.slice, run_underlying hu, bounds_ok hl hh h0 h1 h2 h3, Go.sizeOf, typeInfo, hi]
theorem run_slice_str {t : Nat} (hu : P.underlying t = some .string) {b : ByteArray} {lo hi' : Option Value} {l h : Int}
    (hl : (lo = none ∧ l = 0) ∨ ∃ k, lo = some (.int k l)) (hh : (hi' = none ∧ h = b.size) ∨ ∃ k, hi' = some (.int k h)) (h0 : 0 ≤ l) (h1 : l ≤ h) (h2 : h ≤ b.size) :
    (Instr.sliceAt t (.string b) lo hi' none).run P w = .ok (.string (b.extract l.toNat h.toNat)) w := by
  simp [Instr.sliceAt, Instr.slice, run_underlying hu, bounds_ok hl hh h0 h1 h2 (Nat.le_refl _)]
theorem Rd.cases_slice {D : Dm} {o : Bool} {sz : Nat} {rows : List (List T)} {v : Value} (h : Rd w D (.list o sz rows) v) :
    (rows = [] ∧ ∃ ad cap, v = .slice ad 0 cap) ∨ ∃ b off cap, v = .slice (some ⟨b, off, none⟩) rows.length cap ∧ rows.length ≤ cap ∧ D b := by
  cases h with
  | nil _ _ a c => exact .inl ⟨rfl, a, c, rfl⟩
  | list _ _ _ b off cap u h1 h2 => exact .inr ⟨b, off, cap, rfl, h1, h2⟩
theorem Rd.slice_ok {D : Dm} {t : Nat} {y : Ty} (hy : TyOk P t y) (hs : y.isSlice = true) {o : Bool} {rows : List (List T)} {v : Value} (hx : Rd w D (.list o y.esz rows) v) {lo hi : Option Value} {l h : Int}
    (hl : (lo = none ∧ l = 0) ∨ ∃ k, lo = some (.int k l)) (hh : (hi = none ∧ h = rows.length) ∨ ∃ k, hi = some (.int k h)) (h0 : 0 ≤ l) (h1 : l ≤ h) (h2 : h ≤ rows.length) :
    ∃ u, (∀ w' : World, (Instr.sliceAt t v lo hi none).run P w' = .ok u w') ∧ Rd w D (.list false y.esz ((rows.drop l.toNat).take (h.toNat - l.toNat))) u := by
  obtain ⟨hu, i, hi', hsz, _⟩ := hy.slice hs
  rcases hx.cases_slice with ⟨rfl, ad, cap, rfl⟩ | ⟨b, off, cap, rfl, hc, hb⟩
  · refine ⟨_, fun _ => run_slice_slice hu hi' hl (by simpa using hh) h0 h1 (by simpa using h2) (Nat.zero_le _), ?_⟩
    have e1 : h.toNat = 0 := by simp at h2; omega
    have e2 : l.toNat = 0 := by omega
    simp only [e1, e2, List.drop_nil, List.take_nil, Nat.sub_self]
    exact .nil ..
  · refine ⟨_, fun _ => run_slice_slice hu hi' hl hh h0 h1 h2 hc, ?_⟩
    by_cases hcl : cap = l.toNat
    · have e1 : h.toNat - l.toNat = 0 := by omega
      rw [if_pos hcl, e1]
      simp only [List.take_zero]
      exact .nil ..
    · rw [if_neg hcl]
      simp only [Option.map_some, Addr.add_mid, hsz]
      exact hx.sub (by omega) _ (by omega)
theorem sliceAV_ok (h : SimR B ρ col s a w) {t : Nat} {y : Ty} (hy : TyOk P t y) {x v : AV} {p : Value} (hx : AVr (cx B ρ col w s.hp) x p) {lo hi : Option Value} {n l m : Int} (hn : s.len x = some n)
    (hl : (lo = none ∧ l = 0) ∨ ∃ k, lo = some (.int k l)) (hh : (hi = none ∧ m = n) ∨ ∃ k, hi = some (.int k m)) (hv : sliceAV y s x l m = some v) :
    ∃ u, (∀ w' : World, (Instr.sliceAt t p lo hi none).run P w' = .ok u w') ∧ AVr (cx B ρ col w s.hp) v u := by
  unfold sliceAV at hv
  split at hv
  · split at hv
    · rename_i hc
      cases hv; cases hx; simp only [St.len, Option.some.injEq] at hn; subst hn
      exact ⟨_, fun _ => run_slice_str (hy.str hc.1) hl hh hc.2.1 hc.2.2.1 hc.2.2.2, .str _⟩
    · cases hv
  · split at hv
    · rename_i hc
      obtain ⟨c1, rfl, c2, c3, c4⟩ := hc
      cases hv; simp only [St.len, Option.some.injEq] at hn; subst hn
      exact Rd.slice_ok hy c1 hx hl hh c2 c3 c4
    · cases hv
  · split at hv
    · rename_i hc
      obtain ⟨c1, rfl, c2, c3, c4⟩ := hc
      cases hv; simp only [St.len, Option.some.injEq] at hn; subst hn
      obtain ⟨u, e1, e2⟩ := Rd.slice_ok hy c1 hx.1 hl hh c2 c3 c4
      exact ⟨u, e1, e2, trivial⟩
    · cases hv
  · rename_i k
    cases hk : hget s.hp k with
    | none => simp [hk] at hv
    | some blk =>
      cases blk with
      | box => simp [hk] at hv
      | rows sz rs =>
        simp only [hk] at hv
        simp only [St.len, hk, Option.some.injEq] at hn
        split at hv
        · rename_i hc
          obtain ⟨c1, rfl, c2, c3, c4⟩ := hc
          subst hn
          cases hv
          obtain ⟨hu, i, hi', hsz, _⟩ := hy.slice c1
          obtain ⟨sz', rs', hk', hr⟩ := hx
          have hk'' : hget s.hp k = some (.rows sz' rs') := hk'
          rw [hk] at hk''
          cases hk''
          rcases hr with ⟨b, cap, e, q, hb, rfl, hcap, _⟩ | ⟨rfl, ad, rfl⟩
          · refine ⟨_, fun _ => run_slice_slice hu hi' hl hh c2 c3 c4 hcap, y.esz, rs, hk', by omega, ?_⟩
            by_cases hcl : cap = l.toNat
            · rw [if_pos hcl]; exact .inr ⟨by omega, _, _, by rw [show m.toNat - l.toNat = 0 by omega]⟩
            · rw [if_neg hcl]
              simp only [Option.map_some, Addr.add_mid, hsz, Nat.zero_add]
              exact .inl ⟨b, _, hb, rfl, by omega⟩
          · have e1 : m.toNat = 0 := by simp at c4; omega
            have e2 : l.toNat = 0 := by omega
            refine ⟨_, fun _ => run_slice_slice hu hi' hl (by simpa using hh) c2 c3 (by simpa using c4) (Nat.zero_le _), y.esz, [], hk', by simp [e1, e2], .inr ⟨by omega, ?_⟩⟩
            simp only [e1, e2, Nat.sub_self]
            exact ⟨_, _, rfl⟩
        · cases hv
  · rename_i k off len
    cases hk : hget s.hp k with
    | none => simp [hk] at hv
    | some blk =>
      cases blk with
      | box => simp [hk] at hv
      | rows sz rs =>
        simp only [hk] at hv
        simp only [St.len, Option.some.injEq] at hn
        split at hv
        · rename_i hc
          obtain ⟨c1, rfl, c2, c3, c4⟩ := hc
          subst hn
          cases hv
          obtain ⟨hu, i, hi', hsz, _⟩ := hy.slice c1
          obtain ⟨sz', rs', hk', hoff, hr⟩ := hx
          have hk'' : hget s.hp k = some (.rows sz' rs') := hk'
          rw [hk] at hk''
          cases hk''
          rcases hr with ⟨b, cap, hb, rfl, hcap⟩ | ⟨rfl, ad, c, rfl⟩
          · refine ⟨_, fun _ => run_slice_slice hu hi' hl hh c2 c3 c4 hcap, y.esz, rs, hk', by omega, ?_⟩
            by_cases hcl : cap = l.toNat
            · rw [if_pos hcl]; exact .inr ⟨by omega, _, _, by rw [show m.toNat - l.toNat = 0 by omega]⟩
            · rw [if_neg hcl]
              simp only [Option.map_some, Addr.add_mid, hsz]
              exact .inl ⟨b, _, hb, by rw [Nat.add_mul], by omega⟩
          · have e1 : m.toNat = 0 := by simp at c4; omega
            have e2 : l.toNat = 0 := by omega
            refine ⟨_, fun _ => run_slice_slice hu hi' hl (by simpa using hh) c2 c3 (by simpa using c4) (Nat.zero_le _), y.esz, rs, hk', by omega, .inr ⟨by omega, ?_⟩⟩
            simp only [e1, e2, Nat.sub_self]
            exact ⟨_, _, rfl⟩
        · cases hv
  · split at hv
    · rename_i sz hc
      obtain ⟨c1, rfl, rfl⟩ := hc
      cases hv; cases hx
      obtain ⟨hu, i, hi', hsz, _⟩ := hy.slice c1
      simp only [St.len, Option.some.injEq] at hn
      subst hn
      refine ⟨_, fun _ => run_slice_slice hu hi' hl (by simpa using hh) (Int.le_refl _) (Int.le_refl _) (by simp) (Nat.le_refl _), ?_⟩
      simp [AVr]
    · cases hv
  · cases hv
theorem run_indexAt {t e : Nat} {i : TypeInfo} (hu : P.underlying t = some (.slice e)) (hi : P.info? e = some i) {b off len cap : Nat} {k : IntKind} {n : Int} (h0 : 0 ≤ n) (h1 : n < len) :
    (Instr.indexAt t (.slice (some ⟨b, off, none⟩) len cap) (.int k n)).run P w = .ok (.pointer (some ⟨b, off + n.toNat * i.size, none⟩)) w := by
  simp [Instr.indexAt, asIntOf, run_underlying hu, h0, h1, Go.sizeOf, typeInfo, hi, Addr.add_mid]
theorem Rd.rop {D : Dm} {o : Bool} {sz : Nat} {rows : List (List T)} {b off n cap i : Nat} (h : Rd w D (.list o sz rows) (.slice (some ⟨b, off, none⟩) n cap)) (hi : i < rows.length) :
    D b ∧ ∀ q x, (rows.getD i [])[q]? = some x → ∃ u, w.cell? ⟨b, off + i * sz + q, none⟩ = some u ∧ Rd w D x u := by
  generalize hv : Value.slice (some ⟨b, off, none⟩) n cap = v at h
  cases h with
  | nil => simp at hi
  | list _ _ _ b' off' cap'' u h1 h2 h3 h4 h5 =>
    cases hv
    refine ⟨h2, fun q x hq => ⟨u i q, ?_, ?_⟩⟩
    · rw [Nat.add_assoc]
      exact h4 i (rows.getD i []) q x (by simp [List.getD_eq_getElem?_getD, List.getElem?_eq_getElem hi]) hq
    · exact h5 i (rows.getD i []) q x (by simp [List.getD_eq_getElem?_getD, List.getElem?_eq_getElem hi]) hq
theorem indexAV_ok (h : SimR B ρ col s a w) {t : Nat} {y : Ty} (hy : TyOk P t y) (hs : y.isSlice = true) {x v : AV} {p : Value} (hx : AVr (cx B ρ col w s.hp) x p) {k : IntKind} {n : Int} (hv : indexAV s y.esz x n = some v) :
    ∃ u, (∀ w' : World, (Instr.indexAt t p (.int k n)).run P w' = .ok u w') ∧ AVr (cx B ρ col w s.hp) v u := by
  obtain ⟨hu, i, hi', hsz, _⟩ := hy.slice hs
  unfold indexAV at hv
  split at hv
  · split at hv
    · rename_i hc
      obtain ⟨c1, c2, rfl⟩ := hc
      cases hv
      rcases Rd.cases_slice hx with ⟨rfl, _⟩ | ⟨b, off, cap, rfl, hcap, hb⟩
      · simp at c2; omega
      · refine ⟨_, fun _ => run_indexAt hu hi' c1 c2, b, off + n.toNat * y.esz, by simp [hsz], ?_⟩
        have := Rd.rop hx (i := n.toNat) (by omega)
        exact ⟨by simpa using this.1, this.2⟩
    · cases hv
  · split at hv
    · rename_i hc
      obtain ⟨c1, c2, rfl⟩ := hc
      cases hv
      rcases Rd.cases_slice hx.1 with ⟨rfl, _⟩ | ⟨b, off, cap, rfl, hcap, hb⟩
      · simp at c2; omega
      · refine ⟨_, fun _ => run_indexAt hu hi' c1 c2, b, off + n.toNat * y.esz, by simp [hsz], ?_⟩
        have := Rd.rop hx.1 (i := n.toNat) (by omega)
        exact ⟨by simpa using this.1, this.2⟩
    · cases hv
  · rename_i k'
    cases hk : hget s.hp k' with
    | none => simp [hk] at hv
    | some blk =>
      cases blk with
      | box => simp [hk] at hv
      | rows sz rs =>
        simp only [hk] at hv
        split at hv
        · rename_i hc
          obtain ⟨c1, c2, rfl⟩ := hc
          cases hv
          obtain ⟨sz', rs', hk', hr⟩ := hx
          have hk'' : hget s.hp k' = some (.rows sz' rs') := hk'
          rw [hk] at hk''
          cases hk''
          rcases hr with ⟨b, cap, e, q, hb, rfl, hcap, _⟩ | ⟨rfl, ad, rfl⟩
          · refine ⟨_, fun _ => run_indexAt hu hi' c1 c2, b, hb, ?_⟩
            show (match hget s.hp k' with | some (.box _) => _ | some (.rows sz _) => _ | none => _)
            simp [hk, hsz]
          · simp at c2; omega
        · cases hv
  · rename_i k' off len
    cases hk : hget s.hp k' with
    | none => simp [hk] at hv
    | some blk =>
      cases blk with
      | box => simp [hk] at hv
      | rows sz rs =>
        simp only [hk] at hv
        split at hv
        · rename_i hc
          obtain ⟨c1, c2, rfl⟩ := hc
          cases hv
          obtain ⟨sz', rs', hk', hoff, hr⟩ := hx
          have hk'' : hget s.hp k' = some (.rows sz' rs') := hk'
          rw [hk] at hk''
          cases hk''
          rcases hr with ⟨b, cap, hb, rfl, hcap⟩ | ⟨rfl, ad, c, rfl⟩
          · refine ⟨_, fun _ => run_indexAt hu hi' c1 c2, b, hb, ?_⟩
            show (match hget s.hp k' with | some (.box _) => _ | some (.rows sz _) => _ | none => _)
            simp [hk, hsz, Nat.add_mul]
          · omega
        · cases hv
  · cases hv
theorem byteAt_get {b : ByteArray} {n : Int} (h0 : 0 ≤ n) (h1 : n < b.size) : ∃ c : UInt8, b[n.toNat]? = some c ∧ ((c.toNat : Nat) : Int) = byteAt b n := by
  have hlt : n.toNat < b.size := by omega
  refine ⟨b[n.toNat], by simp [hlt], ?_⟩
  unfold byteAt
  have : n.toNat < b.data.size := hlt
  simp [Array.getD_eq_getD_getElem?, Array.getElem?_eq_getElem this]
  rfl
theorem idxAV_ok {c : Cx} {t : Nat} {y : Ty} (hy : TyOk P t y) (hs : y.isStr = true) {x i v : AV} {p q : Value} (hx : AVr c x p) (hi : AVr c i q) (hv : idxAV x i = some v) : ∃ u, (∀ w' : World, (Instr.index t p q).run P w' = .ok u w') ∧ AVr c v u := by
  unfold idxAV at hv
  split at hv
  · split at hv
    · rename_i hc
      cases hv; cases hx; cases hi
      obtain ⟨ch, e1, e2⟩ := byteAt_get hc.1 hc.2
      refine ⟨_, fun w => by simp [Instr.index, asIntOf, run_underlying (hy.str hs), hc.1, e1]; rfl, ?_⟩
      rw [← e2]
      exact .int _ _
    · cases hv
  · cases hv
end
end Go.Proofs.YtcpfhonmdbhdbaaGreatDoor.Am
namespace Go.Proofs.YtcpfhonmdbhdbaaGreatDoor.Am
open Go
set_option linter.unusedVariables false
theorem stb_one {c : Cx} {x : AV} {u : Value} (h : AVr c x u) (hs : x.stb = true) : u.oneCell' = true := by
  cases x <;> simp [AV.stb] at hs
  · exact Rd.one h
  · exact Rd.one h.1
  · cases h; rfl
  · obtain ⟨sz, rs, _, h⟩ := h
    rcases h with ⟨b, cap, e, n, _, rfl, _⟩ | ⟨_, a, rfl⟩ <;> rfl
  · obtain ⟨sz, rs, _, _, h⟩ := h
    rcases h with ⟨b, cap, _, rfl, _⟩ | ⟨_, a, c, rfl⟩ <;> rfl
  · obtain ⟨b, _, h⟩ := h
    revert h; split <;> intro h
    · rw [h.1]; rfl
    · rw [h]; rfl
    · exact h.elim
  · obtain ⟨b, off, rfl, _⟩ := h; rfl
  · obtain ⟨vs, rfl, _⟩ := h; rfl
theorem one_cells {u : Value} (h : u.oneCell' = true) : u.cells = #[u] := by cases u <;> simp [Value.oneCell'] at h <;> rfl
theorem AVrs_one {c : Cx} : ∀ {xs : List AV} {us : List Value}, AVr.AVrs c xs us → stbs xs = true → ∀ u ∈ us, u.oneCell' = true
  | [], [], _, _, u, hu => by simp at hu
  | x :: xs, v :: vs, h, hs, u, hu => by
    simp [stbs] at hs
    rcases List.mem_cons.1 hu with rfl | hu
    · exact stb_one h.1 hs.1
    · exact AVrs_one h.2 hs.2 u hu
  | [], _ :: _, h, _, _, _ => h.elim
  | _ :: _, [], h, _, _, _ => h.elim
theorem cells_ok {c : Cx} {x : AV} {u : Value} (h : AVr c x u) (hn : 0 < x.cells.length) : AVr.AVrs c x.cells u.cells.toList ∧ (∀ v ∈ u.cells.toList, v.oneCell' = true) ∧ stbs x.cells = true := by
  cases hx : x with
  | agg cs =>
    subst hx
    obtain ⟨vs, rfl, h⟩ := h
    simp only [AV.cells] at hn ⊢
    split at hn
    · rename_i hs
      rw [if_pos hs]
      exact ⟨by simpa [Value.cells] using h, by simpa [Value.cells] using AVrs_one h hs, hs⟩
    · simp at hn
  | _ =>
    all_goals
      have hs : x.stb = true := by
        subst hx
        simp only [AV.cells] at hn
        split at hn
        · assumption
        · simp at hn
      have e := one_cells (stb_one h hs)
      have e2 : x.cells = [x] := by subst hx; simp only [AV.cells]; rw [if_pos hs]
      rw [← hx, e2, e]
      exact ⟨⟨h, trivial⟩, fun v hv => by simp at hv; subst hv; exact stb_one h hs, by simp [stbs, hs]⟩
theorem AVrs_repl {c : Cx} {xs : List AV} {us : List Value} (hx : AVr.AVrs c xs us) : ∀ {o : Nat} {cs : List AV} {vs : List Value}, AVr.AVrs c cs vs → AVr.AVrs c (repl o xs cs) (repl o us vs) := by
  intro o cs vs
  induction cs generalizing o xs us vs with
  | nil =>
    intro h
    cases vs with
    | cons => exact h.elim
    | nil =>
      cases xs <;> cases us <;> first | exact hx.elim | skip
      · cases o <;> simp [repl] <;> trivial
      · cases o <;> simp [repl] <;> trivial
  | cons y cs ih =>
    intro h
    cases vs with
    | nil => exact h.elim
    | cons v vs =>
      cases xs <;> cases us <;> first | exact hx.elim | skip
      · cases o <;> simpa [repl] using h
      · cases o with
        | zero => simp only [repl]; exact ⟨hx.1, ih hx.2 h.2⟩
        | succ o => simp only [repl]; exact ⟨h.1, ih (xs := _ :: _) (us := _ :: _) hx h.2⟩
theorem repl_length {α : Type} (xs : List α) : ∀ (o : Nat) (cs : List α), (repl o xs cs).length = cs.length := by
  intro o cs
  induction cs generalizing o xs with
  | nil => cases xs <;> cases o <;> simp [repl]
  | cons c cs ih => cases xs <;> cases o <;> simp [repl, ih]
theorem repl_get {α : Type} : ∀ (cs : List α) (xs : List α) (o i : Nat), o + xs.length ≤ cs.length → (repl o xs cs)[i]? = if o ≤ i ∧ i < o + xs.length then xs[i - o]? else cs[i]? := by
  intro cs
  induction cs with
  | nil =>
    intro xs o i h
    have : xs = [] := by cases xs; rfl; simp at h
    subst this
    have : ¬ (o ≤ i ∧ i < o + ([] : List α).length) := by simp only [List.length_nil]; omega
    rw [if_neg this]
    cases o <;> rfl
  | cons c cs ih =>
    intro xs o i h
    cases xs with
    | nil =>
      have : ¬ (o ≤ i ∧ i < o + ([] : List α).length) := by simp only [List.length_nil]; omega
      rw [if_neg this]; cases o <;> rfl
    | cons x xs =>
      cases o with
      | zero =>
        simp only [repl]
        cases i with
        | zero => simp
        | succ i =>
          simp only [List.getElem?_cons_succ]
          rw [ih xs 0 i (by simp at h ⊢; omega)]
          by_cases hi : i < xs.length <;> simp [hi]
      | succ o =>
        simp only [repl]
        cases i with
        | zero => simp
        | succ i =>
          simp only [List.getElem?_cons_succ]
          rw [ih (x :: xs) o i (by simp at h ⊢; omega)]
          by_cases hi : o ≤ i ∧ i < o + (x :: xs).length
          · rw [if_pos hi, if_pos (by simp at hi ⊢; omega)]; congr 1; omega
          · rw [if_neg hi, if_neg (by simp at hi ⊢; omega)]
theorem fold_repl {α : Type} (off : Nat) : ∀ (l : List α) (k : Nat) (cs : Array α), off + k + l.length ≤ cs.size →
    ((l.zipIdx k).foldl (fun cs (p : α × Nat) => cs.setIfInBounds (off + p.2) p.1) cs).toList = repl (off + k) l cs.toList := by
  intro l
  induction l with
  | nil => intro k cs h; cases h' : off + k <;> cases hc : cs.toList <;> simp [repl, hc]
  | cons x l ih =>
    intro k cs h
    simp only [List.zipIdx_cons, List.foldl_cons]
    simp only [List.length_cons] at h
    rw [ih (k + 1) _ (by simp; omega)]
    apply List.ext_getElem?
    intro i
    rw [repl_get _ _ _ _ (by simp; omega), repl_get _ _ _ _ (by simp; omega)]
    simp only [Array.toList_setIfInBounds, List.getElem?_set, Array.length_toList, List.length_cons]
    by_cases h1 : i = off + k
    · subst h1
      rw [if_neg (by omega), if_pos (by omega), if_pos (by omega)]
      simp
    · by_cases h2 : off + (k + 1) ≤ i ∧ i < off + (k + 1) + l.length
      · rw [if_pos h2, if_pos (by omega)]
        rw [show i - (off + k) = (i - (off + (k + 1))) + 1 by omega]
        simp
      · rw [if_neg h2, if_neg (by omega), if_neg (by omega)]
section
variable {P : Program} {Γ : Env} {B : Base} {ρ : Nat → Option Nat} {col : Col} {s : St} {a : Act} {w : World} {c : Cx}
theorem run_places {fs : List Field} (h : ∀ f ∈ fs, ∃ i, P.info? f.type = some i) :
    (fs.mapM fun f => (do pure (f.offset, ← Go.sizeOf f.type) : Sem (Nat × Nat))).run P w = .ok (fs.map fun f => (f.offset, P.cellsOf f.type)) w := by
  induction fs with
  | nil => simp
  | cons f fs ih =>
    obtain ⟨i, hi⟩ := h f (by simp)
    have h1 : (Go.sizeOf f.type).run P w = .ok (P.cellsOf f.type) w := by simp [Go.sizeOf, typeInfo, hi, Program.cellsOf]
    simp only [List.mapM_cons, Sem.run_bind, h1, Result.andThen_ok, Sem.run_pure, ih (fun f hf => h f (by simp [hf])), List.map_cons]
theorem fillAV_ok (hΓ : TysOk P Γ) {fs : List Field} : ∀ {l : List (Nat × AV)} {m : List (Nat × Value)} {cs r : List AV} {vs : List Value},
    (∀ i : Nat, (l[i]?).map (·.1) = (m[i]?).map (·.1)) → (∀ (i : Nat) x v, l[i]? = some x → m[i]? = some v → AVr c x.2 v.2) → l.length = m.length →
    AVr.AVrs c cs vs → fillAV Γ (fs.map fun f => (f.offset, f.type)) cs l = some r →
    ∃ us : Array Value, Instr.fill (fun i => (fs.map fun f => (f.offset, P.cellsOf f.type))[i]?) vs.toArray m = some us ∧ AVr.AVrs c r us.toList := by
  intro l
  induction l with
  | nil =>
    intro m cs r vs _ _ hl hc h
    cases m with
    | cons => simp at hl
    | nil => simp [fillAV] at h; subst h; exact ⟨vs.toArray, rfl, by simpa using hc⟩
  | cons p l ih =>
    intro m cs r vs h1 h2 hl hc h
    cases m with
    | nil => simp at hl
    | cons q m =>
      obtain ⟨i, x⟩ := p
      obtain ⟨i', v⟩ := q
      have hi : i = i' := by simpa using h1 0
      subst hi
      have hx : AVr c x v := h2 0 _ _ rfl rfl
      simp only [fillAV, List.getElem?_map, Option.bind_eq_some_iff] at h
      obtain ⟨pr, hpr, u, hu, h⟩ := h
      obtain ⟨f, hf, rfl⟩ : ∃ f, fs[i]? = some f ∧ pr = (f.offset, f.type) := by
        cases hfi : fs[i]? with
        | none => simp [hfi] at hpr
        | some f => simp [hfi] at hpr; exact ⟨f, rfl, hpr.symm⟩
      split at h
      · rename_i hcond
        obtain ⟨c1, c2, c3⟩ := hcond
        obtain ⟨hcells, hone, _⟩ := cells_ok hx (by omega)
        have hlen := AVrs_length hcells
        have hlc := AVrs_length hc
        obtain ⟨inf, hinf, hs, _⟩ := (hΓ _ _ hu).info
        have hco : P.cellsOf f.type = u.size := by simp [Program.cellsOf, hinf, hs]
        have hsz : v.cells.size = u.size := by simp at hlen; omega
        have hfold : (v.cells.zipIdx.foldl (fun cs (c, j) => cs.setIfInBounds (f.offset + j) c) vs.toArray).toList = repl f.offset v.cells.toList vs := by
          rw [← Array.foldl_toList]
          have := fold_repl f.offset v.cells.toList 0 vs.toArray (by simp; omega)
          simpa using this
        have hrel : AVr.AVrs c (repl f.offset x.cells cs) (v.cells.zipIdx.foldl (fun cs (c, j) => cs.setIfInBounds (f.offset + j) c) vs.toArray).toList := by
          rw [hfold]; exact AVrs_repl hcells hc
        obtain ⟨us, e1, e2⟩ := ih (m := m) (vs := (v.cells.zipIdx.foldl (fun cs (c, j) => cs.setIfInBounds (f.offset + j) c) vs.toArray).toList)
          (fun k => by simpa using h1 (k + 1)) (fun k y z hy hz => h2 (k + 1) y z (by simpa using hy) (by simpa using hz)) (by simpa using hl) hrel h
        refine ⟨us, ?_, e2⟩
        simp only [Instr.fill, List.getElem?_map, hf, Option.map_some]
        rw [if_neg (by rw [hco]; simp; omega)]
        simpa using e1
      · cases h
theorem parts_ok (h : SimR B ρ col s a w) : ∀ l : List (Nat × Operand), (∀ i : Nat, ((s.parts l)[i]?).map (·.1) = ((l.map fun p => (p.1, a.eval p.2))[i]?).map (·.1)) ∧
    (∀ (i : Nat) x v, (s.parts l)[i]? = some x → (l.map fun p => (p.1, a.eval p.2))[i]? = some v → AVr (cx B ρ col w s.hp) x.2 v.2) ∧ (s.parts l).length = (l.map fun p => (p.1, a.eval p.2)).length := by
  intro l
  induction l with
  | nil => exact ⟨fun i => by simp [St.parts], fun i x v hx => by simp [St.parts] at hx, rfl⟩
  | cons p l ih =>
    obtain ⟨i, x⟩ := p
    refine ⟨fun k => ?_, fun k y v hy hv => ?_, by simp [St.parts, ih.2.2]⟩
    · cases k with
      | zero => simp [St.parts]
      | succ k => simpa [St.parts] using ih.1 k
    · cases k with
      | zero => simp [St.parts] at hy hv; subst hy hv; exact h.ev x
      | succ k => exact ih.2.1 k y v (by simpa [St.parts] using hy) (by simpa using hv)
theorem build_ok (hΓ : TysOk P Γ) (h : SimR B ρ col s a w) {t : Nat} {y : Ty} (hy : TyOk P t y) (hs : y.agg = true) {parts : Array (Nat × Operand)} {r : List AV} (hr : fillAV Γ y.fs y.zero (s.parts parts.toList) = some r) :
    ∃ u, (∀ w' : World, (Instr.build t (parts.map fun (i, x) => (i, a.eval x))).run P w' = .ok u w') ∧ AVr (cx B ρ col w s.hp) (.agg r) u := by
  obtain ⟨fs, hu, hfs, hin⟩ := hy.st hs
  obtain ⟨i, hi, hsz, z, hz, hzc⟩ := hy.info
  obtain ⟨p1, p2, p3⟩ := parts_ok h parts.toList
  rw [hfs] at hr
  obtain ⟨us, e1, e2⟩ := fillAV_ok hΓ p1 p2 p3 (hzc (cx B ρ col w s.hp)) hr
  have hz' : ∀ w : World, (zeroValue t).run P w = .ok z w := fun w => by simp [zeroValue, typeInfo, hi, hz]
  have hpl : ∀ w : World, (fs.mapM fun f => (do pure (f.offset, ← Go.sizeOf f.type) : Sem (Nat × Nat))).run P w = .ok (fs.toList.map fun f => (f.offset, P.cellsOf f.type)).toArray w := by
    intro w
    obtain ⟨l, rfl⟩ : ∃ l : List Field, fs = l.toArray := ⟨fs.toList, by simp⟩
    simp only [List.mapM_toArray, Sem.run_map, run_places hin, Result.andThen_ok]
  refine ⟨.agg us, fun w => ?_, us.toList, rfl, e2⟩
  have e1' : Instr.fill (fun x => (fs.toList.map fun f => (f.offset, P.cellsOf f.type)).toArray[x]?) z.cells (parts.map fun (i, x) => (i, a.eval x)).toList = some us := by
    simpa using e1
  simp only [Instr.build, Sem.run_bind, hz', Result.andThen_ok, run_underlying hu, hpl, e1', Sem.run_pure]
end
end Go.Proofs.YtcpfhonmdbhdbaaGreatDoor.Am
namespace Go.Proofs.YtcpfhonmdbhdbaaGreatDoor.Am
open Go
set_option linter.unusedVariables false
theorem strBeq (a b : ByteArray) : (a == b) = decide (a = b) := by
  obtain ⟨x⟩ := a
  obtain ⟨y⟩ := b
  have h : ((⟨x⟩ : ByteArray) == ⟨y⟩) = (x == y) := rfl
  rw [h]
  by_cases e : x = y
  · subst e; simp
  · simp [e]
theorem find_ok (key : ByteArray) : ∀ (l : List MapEntry) (ks : List ByteArray) (rows : List (List T)) (i : Nat), l.length = ks.length → rows.length = ks.length → (∀ (j : Nat) (k : ByteArray), ks[j]? = some k → l[j]?.map (·.key) = some (.string k)) →
    (∃ j r e, rows[j]? = some r ∧ l[j]? = some e ∧ findR key ks rows = some r ∧ Instr.findNow .string (.string key) l i = some (some (i + j, e.val))) ∨ (findR key ks rows = none ∧ Instr.findNow .string (.string key) l i = some none)
  | [], [], [], i, _, _, _ => .inr ⟨rfl, rfl⟩
  | [], _ :: _, _, _, h, _, _ => by simp at h
  | _ :: _, [], _, _, h, _, _ => by simp at h
  | _, _ :: _, [], _, _, h, _ => by simp at h
  | _, [], _ :: _, _, _, h, _ => by simp at h
  | e :: l, k :: ks, r :: rows, i, h1, h2, h3 => by
    have hk : e.key = .string k := by simpa using h3 0 k rfl
    have hs : Instr.sameNow .string (.string key) e.key = some (decide (key = k)) := by
      rw [hk]; show some (key == k) = _; rw [strBeq]
    by_cases hkk : key = k
    · refine .inl ⟨0, r, e, rfl, rfl, by simp [findR, hkk], ?_⟩
      subst hkk
      rw [Instr.findNow, hs]
      simp
    · have ih := find_ok key l ks rows (i + 1) (by simpa using h1) (by simpa using h2) fun j k' hj => by simpa using h3 (j + 1) k' (by simpa using hj)
      rcases ih with ⟨j, r', e', a1, a2, a3, a4⟩ | ⟨a1, a2⟩
      · refine .inl ⟨j + 1, r', e', by simpa using a1, by simpa using a2, by simpa [findR, hkk] using a3, ?_⟩
        simp only [Instr.findNow, hs, hkk, decide_false]
        rw [a4]
        simp only [Option.some.injEq, Prod.mk.injEq, and_true]; omega
      · refine .inr ⟨by simpa [findR, hkk] using a1, ?_⟩
        simp only [Instr.findNow, hs, hkk, decide_false]
        exact a2
theorem TyOk.map {P : Program} {t : Nat} {y : Ty} (hy : TyOk P t y) (h : y.isMap = true) : ∃ k, P.underlying t = some (.map k y.elem) ∧ P.underlying k = some .string := by
  have hk := hy.kind
  cases hkk : y.k <;> simp [Ty.isMap, hkk] at h
  rw [hkk] at hk
  exact hk
theorem ppAV_ok {c : Cx} {x : T} {v : Value} (h : Rd c.w c.Dp x v) : AVr c (ppAV x) v := by
  cases x <;> try exact h
  cases h with
  | pp x b off u hb hc hr =>
    refine ⟨b, off, by simp, hb, fun q y hq => ?_⟩
    cases q with
    | zero => simp at hq; subst hq; exact ⟨u, hc, hr⟩
    | succ q => simp at hq
theorem ppAVs_ok {c : Cx} : ∀ {xs : List T} {vs : List Value}, xs.length = vs.length → (∀ (i : Nat) (x : T) (v : Value), xs[i]? = some x → vs[i]? = some v → Rd c.w c.Dp x v) → AVr.AVrs c (xs.map ppAV) vs
  | [], [], _, _ => trivial
  | [], _ :: _, h, _ => by simp at h
  | _ :: _, [], h, _ => by simp at h
  | x :: xs, v :: vs, h, hr => ⟨ppAV_ok (hr 0 x v rfl rfl), ppAVs_ok (by simpa using h) fun i y u h1 h2 => hr (i + 1) y u (by simpa using h1) (by simpa using h2)⟩
theorem fnAV_ok {c : Cx} {x : T} {v : Value} (h : Rd c.w c.Dp x v) : AVr c (fnAV x) v := by
  cases x <;> try exact h
  cases h with
  | fn f cap vs hl hr => exact ⟨vs, rfl, ppAVs_ok hl hr⟩
theorem fnAVs_ok {c : Cx} : ∀ {xs : List T} {vs : List Value}, xs.length = vs.length → (∀ (i : Nat) (x : T) (v : Value), xs[i]? = some x → vs[i]? = some v → Rd c.w c.Dp x v) → AVr.AVrs c (xs.map fnAV) vs
  | [], [], _, _ => trivial
  | [], _ :: _, h, _ => by simp at h
  | _ :: _, [], h, _ => by simp at h
  | x :: xs, v :: vs, h, hr => ⟨fnAV_ok (hr 0 x v rfl rfl), fnAVs_ok (by simpa using h) fun i y u h1 h2 => hr (i + 1) y u (by simpa using h1) (by simpa using h2)⟩
theorem lookAV_ok {P : Program} {c : Cx} {t : Nat} {y e : Ty} (hy : TyOk P t y) (he : TyOk P y.elem e) {ok : Bool} {x i v : AV} {p q : Value} (hx : AVr c x p) (hi : AVr c i q) (hv : lookAV y e ok x i = some v) :
    ∃ u, (∀ w' : World, (∀ b, b < c.w.heap.size → w'.heap[b]? = c.w.heap[b]?) → (Instr.lookup t p q ok).run P w' = .ok u w') ∧ AVr c v u := by
  unfold lookAV at hv
  split at hv
  · rename_i ks rows key
    split at hv
    · rename_i hm
      cases hv
      cases hi
      cases hx with
      | mp _ _ b es clk u hb hh h1 h2 h3 h4 h5 =>
        obtain ⟨kt, hu, huk⟩ := hy.map hm.1
        obtain ⟨inf, hinf, hsz, z, hz, hzc⟩ := he.info
        have hz' : ∀ w : World, (zeroValue y.elem).run P w = .ok z w := fun w => by simp [zeroValue, typeInfo, hinf, hz]
        have hlt := heap_lt hh
        have hrun : ∀ w' : World, (∀ b, b < c.w.heap.size → w'.heap[b]? = c.w.heap[b]?) → ∀ a, Instr.findNow .string (.string key) es.toList 0 = some a → (Instr.lookup t (.map (some b)) (.string key) ok).run P w' = match a with
            | some (_, v) => .ok (if ok = true then .tuple #[v, .bool true] else v) w'
            | none => .ok (if ok = true then .tuple #[z, .bool false] else z) w' := by
          intro w' hw a ha
          have hb' : w'.heap[b]? = some (.map es clk) := by rw [hw b hlt]; exact hh
          have hck : (Instr.checkKey es.isEmpty 10000 kt (.string key)).run P w' = .ok () w' := MapKept.run_checkKey huk (by first | exact trivial | exact ⟨_, rfl⟩ | (simp [MapKept.IsKey])) es.isEmpty 9999
          cases a with
          | none => simp [Instr.lookup, run_underlying hu, MapKept.run_getObj_map hb', hck, MapKept.run_findKey huk ha, Result.andThen, hz']
          | some a => simp [Instr.lookup, run_underlying hu, MapKept.run_getObj_map hb', hck, MapKept.run_findKey huk ha, Result.andThen]
        rcases find_ok key es.toList ks rows 0 (by simpa using h1) h2 (fun j k hj => by simpa using h3 j k hj) with ⟨j, r, en, a1, a2, a3, a4⟩ | ⟨a1, a2⟩
        · obtain ⟨b1, b2⟩ := h4 j r a1
          have hen : en.val = .agg (u j).toArray := by
            have : es[j]? = some en := by simpa using a2
            rw [this] at b2; simpa using b2
          have hr := fnAVs_ok (c := c) (xs := r) (vs := u j) b1 fun i x v g1 g2 => h5 j r i x v a1 g1 g2
          refine ⟨if ok = true then .tuple #[en.val, .bool true] else en.val, fun w' hw => by rw [hrun w' hw _ a4], ?_⟩
          rw [a3, hen]
          simp only [lookV]
          cases ok
          · exact ⟨_, rfl, hr⟩
          · exact ⟨[.agg (u j).toArray, .bool true], rfl, ⟨_, rfl, hr⟩, .bool _, trivial⟩
        · refine ⟨if ok = true then .tuple #[z, .bool false] else z, fun w' hw => by rw [hrun w' hw _ a2], ?_⟩
          rw [a1]
          simp only [lookV]
          cases ok
          · trivial
          · exact ⟨[z, .bool false], rfl, trivial, .bool _, trivial⟩
    · cases hv
  · cases hv
theorem pt_one {P : Program} {t : TypeId} {d : TypeDesc} (hu : P.underlying t = some d) (hd : (match d with | .struct _ | .array _ _ => true | _ => false) = false) (pre post : List Value) (v : Value) (w : World) :
    (part t (pre ++ ([v] ++ post)).toArray pre.length).run P w = .ok v w := by
  cases d <;> simp at hd <;> simp [part, isAgg, run_underlying hu]
theorem pt_agg {P : Program} {t : TypeId} {fs : Array Field} {y : Ty} (hy : TyOk P t y) (hu : P.underlying t = some (.struct fs)) (pre xs post : List Value) (hl : xs.length = y.size) (w : World) :
    (part t (pre ++ (xs ++ post)).toArray pre.length).run P w = .ok (.agg xs.toArray) w := by
  obtain ⟨i, hi, hs, _⟩ := hy.info
  have hc : P.cellsOf t = xs.length := by simp [Program.cellsOf, hi, hs, hl]
  simp only [part, isAgg, Sem.run_bind, run_underlying hu, Result.andThen_ok, Sem.run_pure, if_true, run_sizeOf w hi]
  congr 2
  apply Array.ext'
  simp [hc]
theorem part_cells {P : Program} {t : Nat} {y : Ty} (hy : TyOk P t y) {c : Cx} {cs : List AV} {vs : List Value} (h : AVr.AVrs c cs vs) (hn : cs.length = y.size) {r : AV} (hr : mkAV y.agg cs = some r) (pre post : List Value) :
    ∃ u, (∀ w' : World, (part t (pre ++ (vs ++ post)).toArray pre.length).run P w' = .ok u w') ∧ AVr c r u := by
  have hl := AVrs_length h
  cases hk : y.k with
  | struct =>
    have hkind := hy.kind
    rw [hk] at hkind
    obtain ⟨fs, hu, _⟩ := hkind
    simp [mkAV, Ty.agg, hk] at hr
    subst hr
    exact ⟨_, fun w' => pt_agg hy hu pre vs post (by omega) w', vs, rfl, h⟩
  | _ =>
    all_goals
      have hkind := hy.kind
      rw [hk] at hkind
      simp [mkAV, Ty.agg, hk] at hr
      obtain ⟨x, hcs, hx⟩ : ∃ x, cs = [x] ∧ r = x := by
        cases cs with
        | nil => simp at hr
        | cons x cs => cases cs with
          | nil => cases x <;> simp at hr <;> exact ⟨_, rfl, hr.symm⟩
          | cons x' cs => cases x <;> simp at hr
      subst hcs hx
      cases vs with
      | nil => exact h.elim
      | cons v vs =>
        cases vs with
        | cons => exact h.2.elim
        | nil =>
          refine ⟨v, fun w' => ?_, h.1⟩
          first
            | exact pt_one hkind.1 rfl pre post v w'
            | exact pt_one hkind rfl pre post v w'
            | (obtain ⟨d, hd⟩ := hkind; exact pt_one hd rfl pre post v w')
            | (obtain ⟨k, hd, _⟩ := hkind; exact pt_one hd rfl pre post v w')
            | (obtain ⟨d, hd, h1, h2⟩ := hkind
               refine pt_one hd ?_ pre post v w'
               cases d <;> first | rfl | exact absurd rfl (h1 _) | exact absurd rfl (h2 _ _))
theorem fldV_ok {P : Program} {Γ : Env} (hΓ : TysOk P Γ) {c : Cx} {t : Nat} {y : Ty} (hy : TyOk P t y) {f : Nat} {x v : AV} {p : Value} (hx : AVr c x p) (hv : fldV Γ y f x = some v) :
    ∃ u, (∀ w' : World, (Instr.field t p f).run P w' = .ok u w') ∧ AVr c v u := by
  unfold fldV at hv
  split at hv
  · rename_i cs
    obtain ⟨vs, rfl, hvs⟩ := hx
    simp only [Option.bind_eq_some_iff] at hv
    obtain ⟨pr, hp, u, hu, r, hr, hv⟩ := hv
    have hks : y.k = .struct := Classical.byContradiction fun hn => by
      rw [hy.nfs.2 hn] at hp; simp at hp
    have hkind := hy.kind
    rw [hks] at hkind
    obtain ⟨fs, hus, hfs, _⟩ := hkind
    rw [hfs, List.getElem?_map, Option.map_eq_some_iff] at hp
    obtain ⟨fd, hfd, rfl⟩ := hp
    have hfd' : fs[f]? = some fd := by simpa using hfd
    obtain ⟨h1, h2, h3⟩ := cut_range hvs hr
    obtain ⟨z, hz, hzr⟩ := part_cells (hΓ _ _ hu) h2 h1 hv (vs.take fd.offset) (vs.drop (fd.offset + u.size))
    have hsp : vs = vs.take fd.offset ++ ((vs.drop fd.offset).take u.size ++ vs.drop (fd.offset + u.size)) := by
      rw [← List.drop_drop, List.take_append_drop, List.take_append_drop]
    have hlen : (vs.take fd.offset).length = fd.offset := by rw [List.length_take]; simp only at h3; omega
    rw [hlen, ← hsp] at hz
    refine ⟨z, fun w' => ?_, hzr⟩
    simp only [Instr.field, Sem.run_bind, run_underlying hus, Result.andThen_ok, hfd', asAgg, Sem.run_pure, hz]
  · cases hv
end Go.Proofs.YtcpfhonmdbhdbaaGreatDoor.Am
namespace Go.Proofs.YtcpfhonmdbhdbaaGreatDoor.Am
open Go
set_option linter.unusedVariables false
def isLoad : Op → Bool
  | .load .. => true
  | .convert .. => true
  | .lookup .. => true
  | _ => false
section
variable {P : Program} {Γ : Env} {B : Base} {ρ : Nat → Option Nat} {col : Col} {s : St} {a : Act} {w : World} {c : Cx}
theorem fldAddr_ok (hΓ : TysOk P Γ) {t : Nat} {y : Ty} (hy : TyOk P t y) {f : Nat} {x v : AV} {p : Value} (hx : AVr c x p) (h : fldAddr Γ y f x = some v) :
    ∃ u, (∀ w' : World, (Instr.fieldAt t p f).run P w' = .ok u w') ∧ AVr c v u := by
  simp only [fldAddr, Option.bind_eq_some_iff] at h
  obtain ⟨pr, hpr, u, hu, h⟩ := h
  have hs : y.agg = true := by
    cases hk : y.k <;> first | (simp [Ty.agg, hk]; done) | skip
    all_goals
      have := hy.nfs.2 (by rw [hk]; simp)
      rw [this] at hpr; simp at hpr
  obtain ⟨fs, hun, hfs, hin⟩ := hy.st hs
  rw [hfs] at hpr
  obtain ⟨fl, hfl, rfl⟩ : ∃ fl, fs[f]? = some fl ∧ pr = (fl.offset, fl.type) := by
    cases hfi : fs[f]? with
    | none => simp [hfi] at hpr
    | some fl => simp [hfi] at hpr; exact ⟨fl, rfl, hpr.symm⟩
  split at h
  · rename_i hpos
    have hsz := (hΓ _ _ hu).sizeOf
    have hne : ¬ u.size = 0 := by omega
    have hrun : ∀ b o (w : World), (Instr.fieldAt t (.pointer (some ⟨b, o, none⟩)) f).run P w = .ok (.pointer (some ⟨b, o + fl.offset, none⟩)) w := by
      intro b o w
      simp [Instr.fieldAt, run_underlying hun, hfl, Instr.sureAddr, fieldPlace, hsz, hne, Addr.add_mid]
    split at h
    · cases h
      obtain ⟨b, hb, hm⟩ := hx
      revert hm
      cases hk : hget c.hp _ with
      | none => intro hm; exact hm.elim
      | some blk =>
        cases blk with
        | box cs =>
          intro hm
          obtain ⟨rfl, rfl⟩ := hm
          exact ⟨_, hrun _ _, b, hb, by rw [hk]; exact ⟨rfl, rfl⟩⟩
        | rows sz rs =>
          intro hm
          have hm' := hm
          subst hm'
          exact ⟨_, hrun _ _, b, hb, by rw [hk]; simp [Nat.add_assoc]⟩
    · cases h
      obtain ⟨b, off, rfl, h1, h2⟩ := hx
      exact ⟨_, hrun _ _, b, off, by rw [Nat.add_assoc], h1, h2⟩
    · cases h
  · cases h
theorem evs_one (h : SimR B ρ col s a w) {l : List Operand} {x : AV} (he : one (s.evs l) = some x) : ∃ o, l = [o] ∧ s.ev o = x := by
  cases l with
  | nil => simp [St.evs, one] at he
  | cons o l =>
    cases l with
    | nil => simp [St.evs, one] at he; exact ⟨o, rfl, he⟩
    | cons o' l => simp [St.evs, one] at he
theorem mnmx_ok (h : SimR B ρ col s a w) {f : Int → Int → Bool} {l : List Operand} {v : AV} (he : mnmx f (s.evs l) = some v) : ∃ o1 o2 k k' m n, l = [o1, o2] ∧ a.eval o1 = .int k m ∧ a.eval o2 = .int k' n ∧ v = .t (.int k (if f m n then n else m)) := by
  unfold mnmx at he
  split at he
  · rename_i k m k' n hl
    cases he
    match l, hl with
    | [o1, o2], hl =>
      simp only [St.evs, List.cons.injEq, and_true] at hl
      have h1 := h.ev o1
      have h2 := h.ev o2
      rw [hl.1] at h1; rw [hl.2] at h2
      generalize e1 : a.eval o1 = u1 at h1
      generalize e2 : a.eval o2 = u2 at h2
      cases h1; cases h2
      exact ⟨o1, o2, k, k', m, n, rfl, e1, e2, rfl⟩
    | [], hl => simp [St.evs] at hl
    | [_], hl => simp [St.evs] at hl
    | _ :: _ :: _ :: _, hl => simp [St.evs] at hl
  · cases he
theorem nilAV_ok {x v : AV} {p : Value} (hx : AVr c x p) (h : nilAV x = some v) : (∃ ad, p = .pointer (some ad)) ∧ v = x := by
  unfold nilAV at h
  split at h
  · cases h
    obtain ⟨b, hb, hm⟩ := hx
    revert hm
    split <;> intro hm
    · exact ⟨⟨_, hm.1⟩, rfl⟩
    · exact ⟨⟨_, hm⟩, rfl⟩
    · exact hm.elim
  · cases h
    obtain ⟨b, off, rfl, _⟩ := hx
    exact ⟨⟨_, rfl⟩, rfl⟩
  · cases h
theorem bytesR_ints : ∀ {rs : List (List T)} {l : List UInt8}, bytesR rs = some l → ∃ ns : List Int, rs = ns.map (fun n => [T.int .u8 n]) ∧ l = ns.map fun n => UInt8.ofNat n.toNat := by
  intro rs
  induction rs with
  | nil => intro l h; simp [bytesR] at h; exact ⟨[], rfl, h.symm ▸ rfl⟩
  | cons r rs ih =>
    intro l h
    unfold bytesR at h
    split at h
    · rename_i heq; cases heq
    · rename_i n l' heq
      cases heq
      simp only [Option.map_eq_some_iff] at h
      obtain ⟨l1, h1, rfl⟩ := h
      obtain ⟨ns, rfl, rfl⟩ := ih h1
      exact ⟨n :: ns, rfl, rfl⟩
    · cases h
theorem foldl_bytes : ∀ (ns : List Int) (s : ByteArray), ns.foldl (fun r n => r.push (UInt8.ofNat n.toNat)) s = ⟨s.data ++ (ns.map fun n => UInt8.ofNat n.toNat).toArray⟩
  | [], s => by simp
  | n :: ns, s => by
    rw [List.foldl_cons, foldl_bytes ns]
    congr 1
    apply Array.ext'
    simp [ByteArray.push]
theorem bytes_ok (h : SimR B ρ col s a w) {k : Nat} {rs : List (List T)} {l : List UInt8} (hk : hget s.hp k = some (.rows 1 rs)) (hl : bytesR rs = some l) {u : Value} (hu : AVr (cx B ρ col w s.hp) (.refw k) u) :
    (∃ ad n c, u = .slice ad n c) ∧ ∀ w' : World, (∀ b, b < w.heap.size → w'.heap[b]? = w.heap[b]?) → (Conv.bytesToString u).run P w' = .ok (.string ⟨l.toArray⟩) w' := by
  obtain ⟨ns, rfl, rfl⟩ := bytesR_ints hl
  obtain ⟨sz', rs', hk', hr⟩ := hu
  have hk'' : hget s.hp k = some (.rows sz' rs') := hk'
  rw [hk] at hk''; cases hk''
  obtain ⟨hrow, hrest⟩ := h.hp k _ hk
  have hnil : ∀ ad w' , ns = [] → (Conv.bytesToString (.slice ad 0 0)).run P w' = .ok (.string ⟨(ns.map fun n => UInt8.ofNat n.toNat).toArray⟩) w' := by
    intro ad w' e
    subst e
    cases ad with
    | none => rfl
    | some ad =>
      have := run_bytesToString (P := P) w' ad 0 0 [] (run_loadCells_list w' ad [] (fun j v hj => by simp at hj))
      exact this
  rcases hr with ⟨b, cap, e, n, hb, rfl, hcap, hsh, hn⟩ | ⟨h1, ad, rfl⟩
  · refine ⟨⟨_, _, _, rfl⟩, fun w' hw' => ?_⟩
    rcases hrest with ⟨b', cells, e', fr, uu, hb', hh, hf, hsz, hu', how⟩ | ⟨h1, hn'⟩
    · have hbb : b' = b := by
        have e1 : ρ k = some b' := hb'
        have e2 : ρ k = some b := hb
        rw [e2] at e1; exact (Option.some.inj e1).symm
      subst hbb
      have hh' : w.heap[b']? = some (.cells cells e' fr) := hh
      have := run_bytesToString (P := P) w' ⟨b', 0, none⟩ ns.length cap ns (by
        have := run_loadCells_list (P := P) w' ⟨b', 0, none⟩ (ns.map (Value.int .u8)) (fun j v hj => by
          rw [List.getElem?_map, Option.map_eq_some_iff] at hj
          obtain ⟨n, hn, rfl⟩ := hj
          have hr : (ns.map fun n => [T.int .u8 n])[j]? = some [T.int .u8 n] := by simp [hn]
          have h1 := hu' j _ 0 _ hr rfl
          have h2 := how j _ 0 _ hr rfl
          have h3 : uu j 0 = .int .u8 n := by
            generalize uu j 0 = x at h2
            generalize hT : T.int .u8 n = t at h2
            cases h2 with
            | rd _ _ _ _ h2 => subst hT; cases h2; rfl
            | nil => cases hT
            | list => cases hT
          rw [h3] at h1
          rw [Addr.add_mid, Nat.zero_add, cell_same (hw' b' (heap_lt hh'))]
          simp only [Nat.mul_one, Nat.add_zero] at h1
          simp [World.cell?, hh', h1])
        simpa using this)
      simp only [List.length_map]
      rw [this, foldl_bytes]
      have he : ByteArray.empty.data = #[] := rfl
      rw [he, Array.empty_append]
    · have : ρ k = none := hn'
      have e2 : ρ k = some b := hb
      rw [this] at e2; cases e2
  · exact ⟨⟨_, _, _, rfl⟩, fun w' _ => hnil ad w' (by simpa using h1)⟩
theorem val_ok (hΓ : TysOk P Γ) (h : SimR B ρ col s a w) {o : Oper} {v : AV} (hv : valOf Γ s o.op = some v) :
    ∃ u, (∀ w' : World, (isLoad o.op = true → ∀ b, b < w.heap.size → w'.heap[b]? = w.heap[b]?) → (execOp a.eval o).run P w' = .ok (.value u) w') ∧ AVr (cx B ρ col w s.hp) v u := by
  obtain ⟨dst, op, ty, pos, after, guard⟩ := o
  simp only at hv
  unfold valOf at hv
  split at hv
  ·
    cases hv; exact ⟨_, fun w' hw' => by simp [execOp], h.ev _⟩
  · cases hv; exact ⟨_, fun w' hw' => by simp [execOp], h.ev _⟩
  ·
    rename_i cnd x z
    simp only [Option.map_eq_some_iff] at hv
    obtain ⟨b, hb, rfl⟩ := hv
    have hc := h.ev cnd
    revert hb
    unfold asB
    split
    · rename_i b' he
      intro hb; cases hb
      rw [he] at hc
      generalize hu : a.eval cnd = u at hc
      cases hc
      refine ⟨if b then a.eval x else a.eval z, fun w' hw' => ?_, pickAV_ok (fun _ => h.ev x) (fun _ => h.ev z)⟩
      simp [execOp, hu, asBool]
    · intro hb; cases hb
  ·
    simp only [Option.bind_eq_some_iff] at hv
    obtain ⟨y, hy, hv⟩ := hv
    obtain ⟨u, h1, h2⟩ := load_ok h (hΓ _ _ hy) (h.ev _) hv
    exact ⟨u, fun w' hw' => by simp [execOp, h1 w' (hw' rfl)], h2⟩
  ·
    rename_i x
    obtain ⟨⟨ad, e⟩, rfl⟩ := nilAV_ok (h.ev x) hv
    refine ⟨.pointer (some ad), fun w' hw' => by simp [execOp, e], ?_⟩
    have := h.ev x
    rwa [e] at this
  ·
    rename_i op t x z yt
    obtain ⟨u, h1, h2⟩ := binAV_ok (P := P) (o1 := x) (o2 := z) hΓ (h.ev x) (h.ev z) hv
    refine ⟨u, fun w' hw' => ?_, h2⟩
    have : (execOp a.eval ⟨dst, .binOp op t x z yt, ty, pos, after, guard⟩) = (do pure (.value (← (do eqGuard op t x z (a.eval x) (a.eval z); binOp op t (a.eval x) (a.eval z))))) := rfl
    rw [this, Sem.run_bind, h1]
    rfl
  ·
    obtain ⟨u, h1, h2⟩ := unAV_ok (P := P) (h.ev _) hv
    exact ⟨u, fun w' hw' => by simp [execOp, h1], h2⟩
  ·
    rename_i t d x
    simp only [Option.bind_eq_some_iff] at hv
    obtain ⟨y0, hy0, y, hy, hv⟩ := hv
    obtain ⟨d0, hu0⟩ := (hΓ _ _ hy0).und
    have hkind := (hΓ _ _ hy).kind
    unfold convAV at hv
    split at hv
    · rename_i k k' n hk hx
      cases hv
      have hx' := h.ev x
      rw [hx] at hx'
      generalize e : a.eval x = u at hx'
      cases hx'
      rw [hk] at hkind
      refine ⟨_, fun w' hw' => ?_, .int _ _⟩
      simp [execOp, convert, run_underlying hu0, run_underlying hkind, e, Conv.intToInt]
    · rename_i b hk hx
      cases hv
      have hx' := h.ev x
      rw [hx] at hx'
      generalize e : a.eval x = u at hx'
      cases hx'
      rw [hk] at hkind
      refine ⟨_, fun w' hw' => ?_, .str _⟩
      cases d0 <;> simp [execOp, convert, run_underlying hu0, run_underlying hkind, e]
    · rename_i k hk hx
      have hx' := h.ev x
      rw [hx] at hx'
      rw [hk] at hkind
      split at hv
      · rename_i rs hg
        split at hv
        · rename_i hb
          simp only [Option.map_eq_some_iff] at hv
          obtain ⟨l, hl, rfl⟩ := hv
          obtain ⟨hus, hue⟩ : P.underlying t = some (.slice y0.elem) ∧ P.underlying y0.elem = some (.int .u8) := by
            unfold Ty.isBytes at hb
            split at hb
            · rename_i hy0k
              have h1 := (hΓ _ _ hy0).kind
              rw [hy0k] at h1
              refine ⟨h1.1, ?_⟩
              split at hb
              · rename_i e he
                have h2 := (hΓ _ _ he).kind
                split at hb
                · rename_i hek; rw [hek] at h2; exact h2
                · cases hb
              · cases hb
            · cases hb
          obtain ⟨⟨ad, n, c, e⟩, hrun⟩ := bytes_ok (P := P) h hg hl hx'
          refine ⟨_, fun w' hw' => ?_, .str _⟩
          have hr := hrun w' (hw' rfl)
          rw [e] at hr
          simp only [execOp, e, Sem.run_bind, run_convert_bytes_string (P := P) w' t d y0.elem ad n c hus hue hkind, hr, Result.andThen_ok, Sem.run_pure]
        · cases hv
      · cases hv
    · cases hv
  ·
    simp only [Option.bind_eq_some_iff] at hv
    obtain ⟨y, hy, hv⟩ := hv
    obtain ⟨u, h1, h2⟩ := fldAddr_ok hΓ (hΓ _ _ hy) (h.ev _) hv
    exact ⟨u, fun w' hw' => by simp [execOp, h1], h2⟩
  ·
    rename_i t x i
    simp only [Option.bind_eq_some_iff] at hv
    obtain ⟨y, hy, hv⟩ := hv
    split at hv
    · rename_i hs
      simp only [Option.bind_eq_some_iff] at hv
      obtain ⟨n, hn, hv⟩ := hv
      have hi := h.ev i
      revert hn
      unfold asI
      split
      · rename_i k n' he
        intro hn; cases hn
        rw [he] at hi
        generalize e : a.eval i = ui at hi
        cases hi
        obtain ⟨u, h1, h2⟩ := indexAV_ok (k := k) h (hΓ _ _ hy) hs (h.ev x) hv
        exact ⟨u, fun w' hw' => by simp [execOp, e, h1], h2⟩
      · intro hn; cases hn
    · cases hv
  ·
    simp only [Option.bind_eq_some_iff] at hv
    obtain ⟨y, hy, hv⟩ := hv
    split at hv
    · rename_i hs
      obtain ⟨u, h1, h2⟩ := idxAV_ok (hΓ _ _ hy) hs (h.ev _) (h.ev _) hv
      exact ⟨u, fun w' hw' => by simp [execOp, h1], h2⟩
    · cases hv
  ·
    rename_i t x lo hi
    simp only [Option.bind_eq_some_iff] at hv
    obtain ⟨y, hy, n, hn, l, hl, m, hm, hv⟩ := hv
    obtain ⟨u, h1, h2⟩ := sliceAV_ok (lo := lo.map a.eval) (hi := hi.map a.eval) h (hΓ _ _ hy) (h.ev x) hn
      (by rcases bnd_ok h hl with ⟨rfl, rfl⟩ | ⟨o, k, rfl, e⟩
          · exact .inl ⟨rfl, rfl⟩
          · exact .inr ⟨k, by simp [e]⟩)
      (by rcases bnd_ok h hm with ⟨rfl, rfl⟩ | ⟨o, k, rfl, e⟩
          · exact .inl ⟨rfl, rfl⟩
          · exact .inr ⟨k, by simp [e]⟩) hv
    exact ⟨u, fun w' hw' => by simp [execOp, h1], h2⟩
  ·
    rename_i x i
    have hx := h.ev x
    revert hv
    unfold nth
    split
    · rename_i vs i' he
      intro hv
      rw [he] at hx
      obtain ⟨us, e, hus⟩ := hx
      obtain ⟨u, hu, hr⟩ := AVrs_get hus hv
      exact ⟨u, fun w' hw' => by simp [execOp, e, Instr.extract, hu], hr⟩
    · intro hv; cases hv
  ·
    rename_i t x f
    simp only [Option.bind_eq_some_iff] at hv
    obtain ⟨y, hy, hv⟩ := hv
    obtain ⟨u, h1, h2⟩ := fldV_ok hΓ (hΓ _ _ hy) (h.ev x) hv
    exact ⟨u, fun w' hw' => by simp [execOp, h1], h2⟩
  ·
    rename_i t x i ok
    simp only [Option.bind_eq_some_iff] at hv
    obtain ⟨y, hy, e, he, hv⟩ := hv
    obtain ⟨u, h1, h2⟩ := lookAV_ok (P := P) (hΓ _ _ hy) (hΓ _ _ he) (h.ev x) (h.ev i) hv
    exact ⟨u, fun w' hw' => by simp [execOp, h1 w' (hw' rfl)], h2⟩
  ·
    rename_i f cap
    cases hv
    refine ⟨.func (.func f) #[] (cap.map a.eval), fun w' hw' => by simp [execOp, Instr.makeFunc], cap.toList.map a.eval, ?_, h.evs cap.toList⟩
    congr 1
    apply Array.ext'
    simp
  ·
    rename_i t parts
    simp only [Option.bind_eq_some_iff] at hv
    obtain ⟨y, hy, hv⟩ := hv
    split at hv
    · rename_i hs
      simp only [Option.map_eq_some_iff] at hv
      obtain ⟨r, hr, rfl⟩ := hv
      obtain ⟨u, h1, h2⟩ := build_ok hΓ h (hΓ _ _ hy) hs hr
      exact ⟨u, fun w' hw' => by simp only [execOp, Sem.run_bind, h1, Result.andThen_ok, Sem.run_pure], h2⟩
    · cases hv
  ·
    rename_i args tys
    simp only [Option.bind_eq_some_iff] at hv
    obtain ⟨t, ht, y, hy, x, hx, hv⟩ := hv
    obtain ⟨o, ho, rfl⟩ := evs_one h hx
    obtain ⟨u, h1, h2⟩ := lenAV_ok (ty := ty) (hΓ _ _ hy) ht (h.ev o) hv
    have hargs : args = #[o] := by apply Array.ext'; simpa using ho
    subst hargs
    exact ⟨u, fun w' hw' => by simp [execOp, resolve, invoke, builtin, h1], h2⟩
  · rename_i args tys
    obtain ⟨o1, o2, k, k', m, n, ho, e1, e2, rfl⟩ := mnmx_ok h hv
    have hargs : args = #[o1, o2] := by apply Array.ext'; simpa using ho
    subst hargs
    refine ⟨.int k (if n < m then n else m), fun w' hw' => by simp [execOp, resolve, invoke, builtin, Builtin.min_, Builtin.min2, e1, e2], ?_⟩
    simp only [decide_eq_true_eq]
    exact .int _ _
  · rename_i args tys
    obtain ⟨o1, o2, k, k', m, n, ho, e1, e2, rfl⟩ := mnmx_ok h hv
    have hargs : args = #[o1, o2] := by apply Array.ext'; simpa using ho
    subst hargs
    refine ⟨.int k (if n > m then n else m), fun w' hw' => by simp [execOp, resolve, invoke, builtin, Builtin.max_, Builtin.max2, e1, e2], ?_⟩
    simp only [decide_eq_true_eq]
    exact .int _ _
  · cases hv
end
end Go.Proofs.YtcpfhonmdbhdbaaGreatDoor.Am
namespace Go.Proofs.YtcpfhonmdbhdbaaGreatDoor.Am
open Go
set_option linter.unusedVariables false
abbrev Clr := Nat × Nat × Nat
section
variable {P : Program} {Γ : Env} {B : Base} {ρ ρ' : Nat → Option Nat} {col col' : Col} {s : St} {a : Act} {w w' : World}
theorem RowsR.mono {c c' : Cx} {k sz : Nat} {rs : List (List T)} (h : RowsR c col k sz rs) (hρ : c'.ρ k = c.ρ k) (hb : ∀ b, c.ρ k = some b → c'.w.heap[b]? = c.w.heap[b]?)
    (hD : ∀ b, c.Dp b → c'.Dp b ∧ c'.w.heap[b]? = c.w.heap[b]?) (hc : ∀ b i j, col b = some (k, i, j) → col' b = some (k, i, j) ∧ c'.w.heap[b]? = c.w.heap[b]?) : RowsR c' col' k sz rs := by
  obtain ⟨h1, h2⟩ := h
  refine ⟨h1, ?_⟩
  rcases h2 with ⟨b, cells, e, fr, u, e1, e2, e3, e4, e5, e6⟩ | ⟨e1, e2⟩
  · exact .inl ⟨b, cells, e, fr, u, by rw [hρ]; exact e1, by rw [hb b e1]; exact e2, e3, e4, e5, fun i r j x hi hj => (e6 i r j x hi hj).mono (fun b hb => (hD b hb).2) (fun b hb => (hD b hb).1) (fun b hb => (hc b i j hb).2) (fun b hb => (hc b i j hb).1)⟩
  · exact .inr ⟨e1, by rw [hρ]; exact e2⟩
theorem BlkR.mono {c c' : Cx} {k : Nat} {b : Blk} (h : BlkR c col k b) (hl : c.le c' fun _ => True) (hρ : c'.ρ k = c.ρ k) (hb : ∀ b, c.ρ k = some b → c'.w.heap[b]? = c.w.heap[b]?)
    (hc : ∀ b i j, col b = some (k, i, j) → col' b = some (k, i, j) ∧ c'.w.heap[b]? = c.w.heap[b]?) : BlkR c' col' k b := by
  cases b with
  | box cs =>
    obtain ⟨b, vs, e, fr, e1, e2, e3, e4⟩ := h
    exact ⟨b, vs, e, fr, by rw [hρ]; exact e1, by rw [hb b e1]; exact e2, e3, AVrs.mono hl cs vs e4⟩
  | rows sz rs => exact RowsR.mono h hρ hb hl.dp hc
theorem BlkR.kill {c c' : Cx} {m k : Nat} {b : Blk} (h : BlkR c col k b) (hl : c.le c' fun n => n ≠ m) (hρ : c'.ρ k = c.ρ k) (hb : ∀ b, c.ρ k = some b → c'.w.heap[b]? = c.w.heap[b]?)
    (hc : ∀ b i j, col b = some (k, i, j) → col' b = some (k, i, j) ∧ c'.w.heap[b]? = c.w.heap[b]?) : BlkR c' col' k (b.kill m) := by
  cases b with
  | box cs =>
    obtain ⟨b, vs, e, fr, e1, e2, e3, e4⟩ := h
    exact ⟨b, vs, e, fr, by rw [hρ]; exact e1, by rw [hb b e1]; exact e2, e3, AVrs.kill m hl cs vs e4⟩
  | rows sz rs => exact RowsR.mono h hρ hb hl.dp hc
def recol (ρ : Nat → Option Nat) (col : Col) (k : Nat) (tb : Option Clr) (rc : Nat → Nat → Clr) : Col := fun b =>
  if ρ k = some b then tb else match col b with
    | some (m, i, j) => if m = k then some (rc i j) else some (m, i, j)
    | none => none
def unlab (ρ : Nat → Option Nat) (k : Nat) : Nat → Option Nat := fun m => if m = k then none else ρ m
theorem blk_sim_kill (k : Nat) (b : Blk) : b.sim (b.kill k) := by cases b <;> simp [Blk.sim, Blk.kill]
theorem blk_sim_refl (b : Blk) : b.sim b := by cases b <;> simp [Blk.sim]
theorem hget_drop (s : St) (k m : Nat) : hget (s.drop k).hp m = if k = m then none else (hget s.hp m).map (Blk.kill k) := by
  simp [St.drop, hget_hdel, hget_hkill]
theorem hget_kill (s : St) (k m : Nat) : hget (s.kill k).hp m = (hget s.hp m).map (Blk.kill k) := by
  simp [St.kill, hget_hkill]
theorem SimR.drop (h : SimR B ρ col s a w) (k : Nat) (hp : k < pin) (tb : Option Clr) (rc : Nat → Nat → Clr) (htb : ∀ i j, tb ≠ some (limKey, i, j)) (hrc : ∀ i j, (rc i j).1 ≠ limKey) :
    SimR B (unlab ρ k) (recol ρ col k tb rc) (s.drop k) a w ∧ (cx B ρ col w s.hp).le (cx B (unlab ρ k) (recol ρ col k tb rc) w (s.drop k).hp) fun m => m ≠ k := by
  have hcol : ∀ b, (∀ k, ρ k ≠ some b) → col b = none → recol ρ col k tb rc b = none := by
    intro b h1 h2; simp [recol, h1 k, h2]
  have hle : (cx B ρ col w s.hp).le (cx B (unlab ρ k) (recol ρ col k tb rc) w (s.drop k).hp) fun m => m ≠ k := by
    refine ⟨fun m hm _ => by simp [cx, unlab, hm], fun m b hm hb => ⟨b.kill k, ?_, blk_sim_kill k b⟩, fun b hb => ⟨⟨hb.1, hb.2.1, hcol b hb.2.2.2 hb.2.2.1, fun m => ?_⟩, rfl⟩, fun b hb => ⟨⟨hb.1, fun m => ?_, fun i j e => ?_⟩, rfl⟩, fun m b hm hb => rfl, fun _ _ _ _ _ => rfl⟩
    · have hb' : hget s.hp m = some b := hb
      show hget (s.drop k).hp m = _
      rw [hget_drop, if_neg (Ne.symm hm), hb']
      rfl
    · simp only [unlab]; split
      · simp
      · exact hb.2.2.2 m
    · simp only [unlab]; split
      · simp
      · exact hb.2.1 m
    · simp only [recol] at e
      split at e
      · exact htb i j e
      · split at e
        · rename_i m i' j' hc
          split at e
          · cases e' : rc i' j'; rw [e'] at e; cases e; exact hrc i' j' (by rw [e'])
          · exact hb.2.2 _ _ (hc.trans e)
        · cases e
  refine ⟨⟨h.defers, by simp [St.drop, kills_length, h.len], h.keep, fun i => ?_, fun m b hb => ?_, fun m hm => ?_, fun m m' b h1 h2 => ?_, fun m b hb => ?_, fun m b hb => ?_, fun b p hb => ?_, fun m hm => ?_, ?_⟩, hle⟩
  · simp only [St.drop, gt_kills]
    exact AVr.kill k hle _ _ (h.tm i)
  · rw [hget_drop] at hb
    split at hb
    · cases hb
    · rename_i hm
      simp only [Option.map_eq_some_iff] at hb
      obtain ⟨b0, hb0, rfl⟩ := hb
      have hm' : m ≠ k := fun e => hm e.symm
      refine (h.hp m b0 hb0).kill hle (by simp [cx, unlab, hm']) (fun _ _ => rfl) (fun b i j hc => ⟨?_, rfl⟩)
      have hk : ρ k ≠ some b := fun e => by rw [h.sep k b e] at hc; cases hc
      simp [recol, hk, hc, hm']
  · rw [hget_drop] at hm
    simp only [unlab]
    split at hm
    · rename_i e; subst e; simp
    · simp only [Option.map_eq_none_iff] at hm
      split
      · rfl
      · exact h.dom m hm
  · simp only [unlab] at h1 h2
    split at h1
    · cases h1
    · split at h2
      · cases h2
      · exact h.inj m m' b h1 h2
  · simp only [unlab] at hb
    split at hb
    · cases hb
    · rename_i hm
      have hk : ρ k ≠ some b := fun e => hm (h.inj m k b hb e)
      simp [recol, hk, h.sep m b hb]
  · simp only [unlab] at hb
    split at hb
    · cases hb
    · exact h.lab m b hb
  · simp only [recol] at hb
    split at hb
    · rename_i e; exact h.lab k b e
    · split at hb
      · rename_i m i j hc; exact h.colb b _ hc
      · cases hb
  · have : m ≠ k := by omega
    simp only [unlab, if_neg this]
    exact h.pins m hm
  · rw [hget_drop, h.nolim]; split <;> rfl
theorem SimR.give (h : SimR B ρ col s a w) {k sz : Nat} {rs : List (List T)} (hk : hget s.hp k = some (.rows sz rs)) (hp : k < pin) {u : Value} (hu : AVr (cx B ρ col w s.hp) (.refw k) u) (c : Clr) (hc : c.1 ≠ k) (hcl : c.1 ≠ limKey) :
    Own w (cx B (unlab ρ k) (recol ρ col k (some c) fun _ _ => c) w (s.drop k).hp).Dp (fun b => recol ρ col k (some c) (fun _ _ => c) b = some c) (.list true sz rs) u := by
  obtain ⟨sz', rs', hk', hr⟩ := hu
  have hk'' : hget s.hp k = some (.rows sz' rs') := hk'
  rw [hk] at hk''
  cases hk''
  rcases hr with ⟨b, cap, e, n, hb, rfl, hcap, hsh, hn⟩ | ⟨rfl, ad, rfl⟩
  · obtain ⟨hrow, hrest⟩ := h.hp k _ hk
    have hle := (h.drop k hp (some c) (fun _ _ => c) (fun i j e => hcl (by cases e; rfl)) (fun _ _ => hcl)).2
    rcases hrest with ⟨b', cells, e', fr, uu, hb', hh, hf, hsz, hu, how⟩ | ⟨rfl, hn'⟩
    · have hbb : b' = b := by
        have e1 : ρ k = some b' := hb'
        have e2 : ρ k = some b := hb
        rw [e1] at e2; exact Option.some.inj e2
      subst hbb
      have hh' : w.heap[b']? = some (.cells cells e' fr) := hh
      have hn2 : n = cells.size := by
        have : w.shape? b' = some (e, n) := hsh
        simp [World.shape?, hh'] at this
        exact this.2.symm
      have hρ : ρ k = some b' := hb
      refine .list _ sz rs b' cap cells e' fr uu (fun b => match col b with | some (_, i, j) => (i, j) | none => (0, 0)) (by simp [recol, hρ]) hh' hf hcap (by omega) hrow hu (fun i r j x hi hj => ?_)
      refine (how i r j x hi hj).mono (fun _ _ => rfl) (fun b hb => (hle.dp b hb).1) (fun _ _ => rfl) (fun b hb => ?_)
      have hkb : ρ k ≠ some b := fun e => by rw [h.sep k b e] at hb; cases hb
      refine ⟨by simp [recol, hkb, hb], fun e => hkb (by rw [e]; exact hρ), by simp [hb]⟩
    · have : ρ k = some b := hb
      rw [show ρ k = none from hn'] at this; cases this
  · exact .nil _ _ _
theorem SimR.close (tgt : Nat → Clr) : ∀ {xs : List AV} {us : List Value} {ts : List T} {ks : List Nat} (j0 : Nat), SimR B ρ col s a w → AVr.AVrs (cx B ρ col w s.hp) xs us → closeCells s.hp xs = some (ts, ks) → (∀ j, (tgt j).1 ∉ ks) → (∀ j, (tgt j).1 ≠ limKey) →
    ∃ ρ' col', SimR B ρ' col' (s.drops ks) a w ∧ ((cx B ρ col w s.hp).le (cx B ρ' col' w (s.drops ks).hp) fun m => m ∉ ks) ∧ ts.length = us.length ∧
      (∀ m, m ∉ ks → ρ' m = ρ m) ∧ (∀ m ∈ ks, ρ' m = none) ∧
      (∀ b m i j, m ∉ ks → col b = some (m, i, j) → col' b = some (m, i, j)) ∧
      (∀ (j : Nat) (t : T) (u : Value), ts[j]? = some t → us[j]? = some u → Own w (cx B ρ' col' w (s.drops ks).hp).Dp (fun b => col' b = some (tgt (j0 + j))) t u) := by
  intro xs
  induction xs with
  | nil =>
    intro us ts ks j0 h hx hc ht htl
    simp [closeCells] at hc
    obtain ⟨rfl, rfl⟩ := hc
    cases us with
    | cons => exact hx.elim
    | nil => exact ⟨ρ, col, h, ⟨fun _ _ _ => rfl, fun m b _ hb => ⟨b, hb, blk_sim_refl b⟩, fun b hb => ⟨hb, rfl⟩, fun b hb => ⟨hb, rfl⟩, fun _ _ _ _ => rfl, fun _ _ _ _ _ => rfl⟩, rfl, fun _ _ => rfl, fun m hm => (by cases hm), fun _ _ _ _ _ h => h, fun j t u hj => by simp at hj⟩
  | cons x xs ih =>
    intro us ts ks j0 h hx hc ht htl
    cases us with
    | nil => exact hx.elim
    | cons u us =>
      unfold closeCells at hc
      split at hc
      · rename_i heq; cases heq
      ·
        rename_i y l heq
        cases heq
        simp only [Option.map_eq_some_iff] at hc
        obtain ⟨⟨ts', ks'⟩, hr, hc⟩ := hc
        cases hc
        obtain ⟨ρ', col', h1, h2, h3, h4, h5, h6, h7⟩ := ih (j0 + 1) h hx.2 hr ht htl
        refine ⟨ρ', col', h1, h2, by simp [h3], h4, h5, h6, fun j t u' hj hu => ?_⟩
        cases j with
        | zero =>
          simp at hj hu
          subst hj hu
          refine .rd _ _ _ (T.shared_flat y) ?_
          exact (Rd.shared (x := y) hx.1).mono (fun b hb => rfl) (fun b hb => (h2.dp b hb).1)
        | succ j => rw [show j0 + (j + 1) = j0 + 1 + j by omega]; exact h7 j t u' (by simpa using hj) (by simpa using hu)
      · rename_i sz l heq
        cases heq
        simp only [Option.map_eq_some_iff] at hc
        obtain ⟨⟨ts', ks'⟩, hr, hc⟩ := hc
        cases hc
        obtain ⟨ρ', col', h1, h2, h3, h4, h5, h6, h7⟩ := ih (j0 + 1) h hx.2 hr ht htl
        refine ⟨ρ', col', h1, h2, by simp [h3], h4, h5, h6, fun j t u' hj hu => ?_⟩
        cases j with
        | zero =>
          simp at hj hu
          subst hj hu
          have : u = .slice none 0 0 := hx.1
          subst this
          exact .nil _ _ _
        | succ j => rw [show j0 + (j + 1) = j0 + 1 + j by omega]; exact h7 j t u' (by simpa using hj) (by simpa using hu)
      · rename_i k l heq
        cases heq
        split at hc
        · rename_i sz rs hk
          simp only [Option.bind_eq_some_iff] at hc
          obtain ⟨⟨ts', ks'⟩, hr, hc⟩ := hc
          split at hc
          · cases hc
          · rename_i hnk'
            cases hc
            simp only [not_or] at hnk'
            obtain ⟨hnk, hkp⟩ := hnk'
            have hkp : k < pin := by omega
            obtain ⟨ρ', col', h1, h2, h3, h4, h5, h6, h7⟩ := ih (j0 + 1) h hx.2 hr (fun j hj => ht j (by simp [hj])) htl
            have hk1 : hget (s.drops ks').hp k = some (.rows sz rs) := by
              obtain ⟨b', e1, e2⟩ := h2.hp k _ hnk hk
              have hb : ∀ (ks : List Nat) (s : St), k ∉ ks → hget s.hp k = some (.rows sz rs) → hget (s.drops ks).hp k = some (.rows sz rs) := by
                intro ks
                induction ks with
                | nil => intro s _ h; exact h
                | cons m ks ih =>
                  intro s hn hg
                  simp only [List.mem_cons, not_or] at hn
                  show hget ((s.drops ks).drop m).hp k = _
                  rw [hget_drop, if_neg (Ne.symm hn.1), ih s hn.2 hg]
                  rfl
              exact hb ks' s hnk hk
            have hu1 : AVr (cx B ρ' col' w (s.drops ks').hp) (.refw k) u := by
              obtain ⟨sz', rs', e1, e2⟩ := hx.1
              have e1' : hget s.hp k = some (.rows sz' rs') := e1
              rw [hk] at e1'; cases e1'
              exact ⟨sz, rs, hk1, e2.mono (h4 k hnk) rfl (fun b hb => rfl)⟩
            obtain ⟨g1, g2⟩ := h1.drop k hkp (some (tgt j0)) (fun _ _ => tgt j0) (fun i j e => htl j0 (by rw [Option.some.inj e])) (fun _ _ => htl j0)
            have htk : (tgt j0).1 ≠ k := fun e => ht j0 (by simp [e])
            refine ⟨_, _, g1, ?_, by simp [h3], fun m hm => ?_, fun m hm => ?_, fun b m i j hm hb => ?_, fun j t u' hj hu => ?_⟩
            · refine ⟨fun m hm hn => ?_, fun m b hm hb => ?_, fun b hb => ?_, fun b hb => ?_, fun m b hm hb => rfl, fun _ _ _ _ _ => rfl⟩
              · simp only [List.mem_cons, not_or] at hm
                simp only [cx, unlab, if_neg hm.1]
                exact h4 m hm.2
              · simp only [List.mem_cons, not_or] at hm
                obtain ⟨b', e1, e2⟩ := h2.hp m b hm.2 hb
                obtain ⟨b'', e3, e4⟩ := g2.hp m b' hm.1 e1
                refine ⟨b'', e3, ?_⟩
                cases b <;> cases b' <;> cases b'' <;> simp [Blk.sim] at e2 e4 ⊢
                exact ⟨e2.1.trans e4.1, e2.2.trans e4.2⟩
              · exact ⟨(g2.dp b (h2.dp b hb).1).1, rfl⟩
              · exact ⟨(g2.dl b (h2.dl b hb).1).1, rfl⟩
            · simp only [List.mem_cons, not_or] at hm
              simp only [unlab, if_neg hm.1]
              exact h4 m hm.2
            · simp only [unlab]
              split
              · rfl
              · rename_i hmk
                rcases List.mem_cons.1 hm with e | e
                · exact absurd e hmk
                · exact h5 m e
            · simp only [List.mem_cons, not_or] at hm
              have e := h6 b m i j hm.2 hb
              have hkb : ρ' k ≠ some b := fun e' => by rw [h1.sep k b e'] at e; cases e
              simp [recol, hkb, e, hm.1]
            · cases j with
              | zero =>
                simp at hj hu
                subst hj hu
                have := h1.give hk1 hkp hu1 (tgt j0) htk (htl j0)
                exact this.mono (fun _ _ => rfl) (fun _ h => h) (fun _ _ => rfl) (fun _ h => h)
              | succ j =>
                have := h7 j t u' (by simpa using hj) (by simpa using hu)
                rw [show j0 + 1 + j = j0 + (j + 1) by omega] at this
                refine this.mono (fun _ _ => rfl) (fun b hb => (g2.dp b hb).1) (fun _ _ => rfl) (fun b hb => ?_)
                have hkb : ρ' k ≠ some b := fun e' => by rw [h1.sep k b e'] at hb; cases hb
                have hne : (tgt (j0 + (j + 1))).1 ≠ k := fun e => ht (j0 + (j + 1)) (by simp [e])
                generalize tgt (j0 + (j + 1)) = c at hb hne ⊢
                obtain ⟨m, i', j'⟩ := c
                simp [recol, hkb, hb]
                intro e
                exact absurd e hne
        · cases hc
      · cases hc
end
end Go.Proofs.YtcpfhonmdbhdbaaGreatDoor.Am
namespace Go.Proofs.YtcpfhonmdbhdbaaGreatDoor.Am
open Go
set_option linter.unusedVariables false
def Blk.unorg (k : Nat) : Blk → Blk
  | .box cs => .box (AV.unorg.unorgs k cs)
  | .rows sz rs => .rows sz rs
theorem hget_hunorg (h : Hp) (k m : Nat) : hget (hunorg k h) m = (hget h m).map (Blk.unorg k) := by
  induction h with
  | nil => rfl
  | cons p h ih =>
    obtain ⟨n, b⟩ := p
    cases b <;> simp only [hunorg, hget] <;> split <;> first | rfl | exact ih
theorem gt_unorgs (k : Nat) (l : List AV) (i : Nat) : gt (AV.unorg.unorgs k l) i = (gt l i).unorg k := by
  induction l generalizing i with
  | nil => simp [AV.unorg.unorgs, gt, AV.unorg]
  | cons a l ih => cases i <;> simp [AV.unorg.unorgs, gt, ih]
theorem unorgs_length (k : Nat) (l : List AV) : (AV.unorg.unorgs k l).length = l.length := by
  induction l with
  | nil => rfl
  | cons a l ih => simp [AV.unorg.unorgs, ih]
theorem blk_sim_unorg (k : Nat) (b : Blk) : b.sim (b.unorg k) := by cases b <;> simp [Blk.sim, Blk.unorg]
def Blk.lsk : Blk → Blk
  | .box cs => .box (AV.lsk.lsks cs)
  | .rows sz rs => .rows sz rs
theorem hget_hlsk (h : Hp) (m : Nat) : hget (hlsk h) m = (hget h m).map Blk.lsk := by
  induction h with
  | nil => rfl
  | cons p h ih =>
    obtain ⟨n, b⟩ := p
    cases b <;> simp only [hlsk, hget] <;> split <;> first | rfl | exact ih
theorem gt_lsks (l : List AV) (i : Nat) : gt (AV.lsk.lsks l) i = (gt l i).lsk := by
  induction l generalizing i with
  | nil => simp [AV.lsk.lsks, gt, AV.lsk]
  | cons a l ih => cases i <;> simp [AV.lsk.lsks, gt, ih]
theorem lsks_length (l : List AV) : (AV.lsk.lsks l).length = l.length := by
  induction l with
  | nil => rfl
  | cons a l ih => simp [AV.lsk.lsks, ih]
theorem blk_sim_lsk (b : Blk) : b.sim b.lsk := by cases b <;> simp [Blk.sim, Blk.lsk]
def Blk.frz (k sz : Nat) (rs : List (List T)) : Blk → Blk
  | .box cs => .box (AV.frz.frzs k sz rs cs)
  | .rows sz rs => .rows sz rs
theorem hget_hfrz (h : Hp) (k sz : Nat) (rs : List (List T)) (m : Nat) : hget (hfrz k sz rs h) m = (hget h m).map (Blk.frz k sz rs) := by
  induction h with
  | nil => rfl
  | cons p h ih =>
    obtain ⟨n, b⟩ := p
    cases b <;> simp only [hfrz, hget] <;> split <;> first | rfl | exact ih
theorem gt_frzs (k sz : Nat) (rs : List (List T)) (l : List AV) (i : Nat) : gt (AV.frz.frzs k sz rs l) i = (gt l i).frz k sz rs := by
  induction l generalizing i with
  | nil => simp [AV.frz.frzs, gt, AV.frz]
  | cons a l ih => cases i <;> simp [AV.frz.frzs, gt, ih]
theorem frzs_length (k sz : Nat) (rs : List (List T)) (l : List AV) : (AV.frz.frzs k sz rs l).length = l.length := by
  induction l with
  | nil => rfl
  | cons a l ih => simp [AV.frz.frzs, ih]
theorem blk_sim_frz (k sz : Nat) (rs : List (List T)) (b : Blk) : b.sim (b.frz k sz rs) := by cases b <;> simp [Blk.sim, Blk.frz]
structure Cx.lel (c c' : Cx) : Prop where
  ρ : ∀ k, hget c.hp k ≠ none → c'.ρ k = c.ρ k
  hp : ∀ k b, hget c.hp k = some b → ∃ b', hget c'.hp k = some b' ∧ b.sim b'
  dp : ∀ b, c.Dp b → c'.Dp b ∧ c'.w.heap[b]? = c.w.heap[b]?
  sh : ∀ k b, c.ρ k = some b → c'.w.shape? b = c.w.shape? b
mutual
theorem AVr.lsk {c c' : Cx} (h : c.lel c') : ∀ (x : AV) (v : Value), AVr c x v → AVr c' x.lsk v
  | .t x, v, hx => Rd.mono hx (fun b hb => (h.dp b hb).2) (fun b hb => (h.dp b hb).1)
  | .own _, _, hx => hx
  | .ls x _, v, hx => trivial
  | .nils _, _, hx => hx
  | .agg cs, v, ⟨vs, e, hx⟩ => ⟨vs, e, AVrs.lsk h cs vs hx⟩
  | .tup cs, v, ⟨vs, e, hx⟩ => ⟨vs, e, AVrs.lsk h cs vs hx⟩
  | .refw m, v, ⟨sz, rs, h1, h2⟩ => by
    obtain ⟨b', h3, h4⟩ := h.hp m _ h1
    cases b' with
    | box => exact h4.elim
    | rows sz' rs' => obtain ⟨rfl, hl⟩ := h4; exact ⟨sz, rs', h3, h2.mono (h.ρ m (by simp [h1])) hl (fun b hb => h.sh m b hb)⟩
  | .ref m off len, v, ⟨sz, rs, h1, h0, h2⟩ => by
    obtain ⟨b', h3, h4⟩ := h.hp m _ h1
    cases b' with
    | box => exact h4.elim
    | rows sz' rs' => obtain ⟨rfl, hl⟩ := h4; exact ⟨sz, rs', h3, by omega, by rw [h.ρ m (by simp [h1])]; exact h2⟩
  | .ptr m i j, v, ⟨b, h1, h2⟩ => by
    cases hk : hget c.hp m with
    | none => simp [hk] at h2
    | some blk =>
      obtain ⟨b', h3, h4⟩ := h.hp m _ hk
      refine ⟨b, by rw [h.ρ m (by simp [hk])]; exact h1, ?_⟩
      rw [h3]
      cases blk <;> cases b' <;> simp [Blk.sim] at h4 <;> simp [hk] at h2 ⊢
      · exact h2
      · rw [← h4.1]; exact h2
  | .rop false row j, v, ⟨b, off, h1, h2, h3⟩ => by
    simp only [Bool.false_eq_true, if_false] at h2 h3
    refine ⟨b, off, h1, by simpa using (h.dp b h2).1, fun q x hq => ?_⟩
    obtain ⟨u, h4, h5⟩ := h3 q x hq
    exact ⟨u, by rw [cell_same (h.dp b h2).2]; exact h4, by simpa using h5.mono (fun b hb => (h.dp b hb).2) (fun b hb => (h.dp b hb).1)⟩
  | .rop true row j, v, hx => trivial
  | .fn f cap, v, ⟨vs, e, hx⟩ => ⟨vs, e, AVrs.lsk h cap vs hx⟩
  | .skip, _, hx => hx
  | .undef, _, _ => trivial
theorem AVrs.lsk {c c' : Cx} (h : c.lel c') : ∀ (xs : List AV) (vs : List Value), AVr.AVrs c xs vs → AVr.AVrs c' (AV.lsk.lsks xs) vs
  | [], [], _ => trivial
  | x :: xs, v :: vs, hx => ⟨AVr.lsk h x v hx.1, AVrs.lsk h xs vs hx.2⟩
  | [], _ :: _, hx => hx
  | _ :: _, [], hx => hx
end
def setlab0 (ρ : Nat → Option Nat) (k g : Nat) : Nat → Option Nat := fun m => if m = k then some g else ρ m
theorem gtT_get : ∀ {l : List T} {j : Nat}, j < l.length → l[j]? = some (gtT l j)
  | x :: l, 0, _ => rfl
  | x :: l, j + 1, h => by simpa [gtT] using gtT_get (l := l) (j := j) (by simpa using h)
  | [], _, h => by simp at h
theorem ptT_length : ∀ (l : List T) (j : Nat) (v : T), (ptT l j v).length = l.length
  | [], _, _ => rfl
  | _ :: l, 0, v => rfl
  | a :: l, n + 1, v => by simp [ptT, ptT_length l n v]
theorem ptT_get : ∀ (l : List T) (j : Nat) (v : T) (q : Nat), (ptT l j v)[q]? = if q = j ∧ j < l.length then some v else l[q]?
  | [], j, v, q => by simp [ptT]
  | a :: l, 0, v, q => by cases q <;> simp [ptT]
  | a :: l, n + 1, v, q => by
    cases q with
    | zero => simp [ptT]
    | succ q => simp [ptT, ptT_get l n v q]
def FrzR (c c' : Cx) (k sz : Nat) (rs : List (List T)) : Prop :=
  (∃ b, c.ρ k = some b ∧ (c'.Dp b ∧ c'.w.heap[b]? = c.w.heap[b]?) ∧ ∀ cap, rs.length ≤ cap → Rd c'.w c'.Dp (.list false sz rs) (.slice (some ⟨b, 0, none⟩) rs.length cap)) ∨ (rs = [] ∧ c.ρ k = none)
theorem frz_row {c' : Cx} {b sz : Nat} {rs : List (List T)} (h : ∀ cap, rs.length ≤ cap → Rd c'.w c'.Dp (.list false sz rs) (.slice (some ⟨b, 0, none⟩) rs.length cap)) {i : Nat} (hi : i < rs.length) :
    (rs.getD i []).length = sz ∧ ∀ (q : Nat) (x : T), (rs.getD i [])[q]? = some x → ∃ u, c'.w.cell? ⟨b, i * sz + q, none⟩ = some u ∧ Rd c'.w c'.Dp x u := by
  have h0 := h rs.length (Nat.le_refl _)
  generalize hv : Value.slice (some ⟨b, 0, none⟩) rs.length rs.length = v at h0
  cases h0 with
  | nil => simp at hi
  | list _ _ _ b' off' cap' u h1 h2 h3 h4 h5 =>
    cases hv
    have hr : rs[i]? = some (rs.getD i []) := by simp [List.getD_eq_getElem?_getD, List.getElem?_eq_getElem hi]
    refine ⟨h3 i _ hr, fun q x hq => ⟨u i q, ?_, h5 i _ q x hr hq⟩⟩
    have := h4 i _ q x hr hq
    rwa [Nat.zero_add] at this
theorem RefW.frz {c c' : Cx} {k sz : Nat} {rs : List (List T)} {v : Value} (hR : FrzR c c' k sz rs) (h : RefW c k sz rs v) : Rd c'.w c'.Dp (.list false sz rs) v := by
  rcases h with ⟨b, cap, e, n, h1, rfl, h3, _⟩ | ⟨rfl, a, rfl⟩
  · rcases hR with ⟨b', g1, _, g2⟩ | ⟨_, g2⟩
    · rw [h1] at g1; cases g1; exact g2 cap h3
    · rw [h1] at g2; cases g2
  · exact .nil ..
mutual
theorem AVr.frz {c c' : Cx} {k sz : Nat} {rs : List (List T)} (hk : hget c.hp k = some (.rows sz rs)) (hR : FrzR c c' k sz rs) (h : c.le c' fun m => m ≠ k) : ∀ (x : AV) (v : Value), AVr c x v → AVr c' (x.frz k sz rs) v
  | .t x, v, hx => Rd.mono hx (fun b hb => (h.dp b hb).2) (fun b hb => (h.dp b hb).1)
  | .own _, _, hx => hx
  | .ls x none, v, hx => ⟨Rd.mono hx.1 (fun b hb => (h.dl b hb).2) (fun b hb => (h.dl b hb).1), trivial⟩
  | .ls x (some (m, i, j)), v, hx => by
    by_cases hm : m = k
    · subst hm
      show AVr c' (if m = m then .t (gtT (rs.getD i []) j).shared else .ls x (some (m, i, j))) v
      rw [if_pos rfl]
      obtain ⟨b, sz', rs', h1, h2, h3, h4, h5⟩ := hx.2
      rw [hk] at h2; cases h2
      rcases hR with ⟨b', g1, g2, g3⟩ | ⟨g1, g2⟩
      · rw [h1] at g1; cases g1
        obtain ⟨e1, e2⟩ := frz_row g3 h3
        obtain ⟨u, e3, e4⟩ := e2 j _ (gtT_get (by omega))
        rw [cell_same g2.2, h5] at e3; cases e3
        exact e4.shared
      · rw [h1] at g2; cases g2
    · show AVr c' (if m = k then .t (gtT (rs.getD i []) j).shared else .ls x (some (m, i, j))) v
      rw [if_neg hm]
      exact ⟨Rd.mono hx.1 (fun b hb => (h.dl b hb).2) (fun b hb => (h.dl b hb).1), hx.2.mono h (fun k' i' j' e => by cases e; exact hm)⟩
  | .nils _, _, hx => hx
  | .agg cs, v, ⟨vs, e, hx⟩ => ⟨vs, e, AVrs.frz hk hR h cs vs hx⟩
  | .tup cs, v, ⟨vs, e, hx⟩ => ⟨vs, e, AVrs.frz hk hR h cs vs hx⟩
  | .refw m, v, ⟨sz', rs', h1, h2⟩ => by
    unfold AV.frz
    split
    · rename_i e
      subst e
      rw [hk] at h1; cases h1
      exact h2.frz hR
    · rename_i hm
      obtain ⟨b', h3, h4⟩ := h.hp m _ hm h1
      cases b' with
      | box => exact h4.elim
      | rows sz'' rs'' => obtain ⟨rfl, hl⟩ := h4; exact ⟨sz', rs'', h3, h2.mono (h.ρ m hm (by simp [h1])) hl (fun b hb => h.sh m b hm hb)⟩
  | .ref m off len, v, ⟨sz', rs', h1, h0, h2⟩ => by
    unfold AV.frz
    split
    · rename_i e
      subst e
      rw [hk] at h1; cases h1
      rcases h2 with ⟨b, cap, g1, rfl, g2⟩ | ⟨rfl, a, cp, rfl⟩
      · rcases hR with ⟨b', f1, _, f2⟩ | ⟨_, f2⟩
        · rw [g1] at f1; cases f1
          have := Rd.sub (f2 rs.length (Nat.le_refl _)) h0 cap g2
          rw [Nat.zero_add] at this
          exact this
        · rw [g1] at f2; cases f2
      · simp only [List.take_zero]; exact .nil ..
    · rename_i hm
      obtain ⟨b', h3, h4⟩ := h.hp m _ hm h1
      cases b' with
      | box => exact h4.elim
      | rows sz'' rs'' => obtain ⟨rfl, hl⟩ := h4; exact ⟨sz', rs'', h3, by omega, by rw [h.ρ m hm (by simp [h1])]; exact h2⟩
  | .ptr m i j, v, ⟨b, h1, h2⟩ => by
    unfold AV.frz
    split
    · rename_i e
      subst e
      simp only [hk] at h2
      subst h2
      rcases hR with ⟨b', f1, f0, f2⟩ | ⟨_, f2⟩
      · rw [h1] at f1; cases f1
        refine ⟨b, i * sz, rfl, by simpa using f0.1, fun q x hq => ?_⟩
        by_cases hi : i < rs.length
        · obtain ⟨e1, e2⟩ := frz_row f2 hi
          simpa using e2 q x hq
        · have hn : rs[i]? = none := List.getElem?_eq_none (Nat.le_of_not_lt hi)
          rw [List.getD_eq_getElem?_getD, hn] at hq
          simp at hq
      · rw [h1] at f2; cases f2
    · rename_i hm
      cases hk : hget c.hp m with
      | none => simp [hk] at h2
      | some blk =>
        obtain ⟨b', h3, h4⟩ := h.hp m _ hm hk
        refine ⟨b, by rw [h.ρ m hm (by simp [hk])]; exact h1, ?_⟩
        rw [h3]
        cases blk <;> cases b' <;> simp [Blk.sim] at h4 <;> simp [hk] at h2 ⊢
        · exact h2
        · rw [← h4.1]; exact h2
  | .rop l row j, v, ⟨b, off, h1, h2, h3⟩ => by
    unfold AV.frz
    cases l <;> simp only [Bool.false_eq_true, if_false, if_true] at h2 h3
    · refine ⟨b, off, h1, by simpa using (h.dp b h2).1, fun q x hq => ?_⟩
      obtain ⟨u, h4, h5⟩ := h3 q x hq
      exact ⟨u, by rw [cell_same (h.dp b h2).2]; exact h4, by simpa using h5.mono (fun b hb => (h.dp b hb).2) (fun b hb => (h.dp b hb).1)⟩
    · refine ⟨b, off, h1, by simpa using (h.dl b h2).1, fun q x hq => ?_⟩
      obtain ⟨u, h4, h5⟩ := h3 q x hq
      exact ⟨u, by rw [cell_same (h.dl b h2).2]; exact h4, by simpa using h5.mono (fun b hb => (h.dl b hb).2) (fun b hb => (h.dl b hb).1)⟩
  | .fn f cap, v, ⟨vs, e, hx⟩ => ⟨vs, e, AVrs.frz hk hR h cap vs hx⟩
  | .skip, _, hx => hx
  | .undef, _, _ => trivial
theorem AVrs.frz {c c' : Cx} {k sz : Nat} {rs : List (List T)} (hk : hget c.hp k = some (.rows sz rs)) (hR : FrzR c c' k sz rs) (h : c.le c' fun m => m ≠ k) : ∀ (xs : List AV) (vs : List Value), AVr.AVrs c xs vs → AVr.AVrs c' (AV.frz.frzs k sz rs xs) vs
  | [], [], _ => trivial
  | x :: xs, v :: vs, hx => ⟨AVr.frz hk hR h x v hx.1, AVrs.frz hk hR h xs vs hx.2⟩
  | [], _ :: _, hx => hx
  | _ :: _, [], hx => hx
end
section
variable {P : Program} {Γ : Env} {B : Base} {ρ ρ' : Nat → Option Nat} {col col' : Col} {s s' : St} {a : Act} {w w' : World}
def recolN (ρ : Nat → Option Nat) (col : Col) (k : Nat) : Col := fun b => match col b with
  | some (m, i, j) => if m = k then none else some (m, i, j)
  | none => none
theorem BlkR.frz {c c' : Cx} {m k sz : Nat} {rs : List (List T)} {b : Blk} (h : BlkR c col k b) (hk : hget c.hp m = some (.rows sz rs)) (hR : FrzR c c' m sz rs) (hl : c.le c' fun n => n ≠ m) (hρ : c'.ρ k = c.ρ k) (hb : ∀ b, c.ρ k = some b → c'.w.heap[b]? = c.w.heap[b]?)
    (hc : ∀ b i j, col b = some (k, i, j) → col' b = some (k, i, j) ∧ c'.w.heap[b]? = c.w.heap[b]?) : BlkR c' col' k (b.frz m sz rs) := by
  cases b with
  | box cs =>
    obtain ⟨b, vs, e, fr, e1, e2, e3, e4⟩ := h
    exact ⟨b, vs, e, fr, by rw [hρ]; exact e1, by rw [hb b e1]; exact e2, e3, AVrs.frz hk hR hl cs vs e4⟩
  | rows sz rs => exact RowsR.mono h hρ hb hl.dp hc
theorem noPins_get : ∀ {h : Hp}, noPins h = true → ∀ k, pin ≤ k → hget h k = none
  | [], _, k, _ => rfl
  | (m, b) :: h, hn, k, hk => by
    simp only [noPins, Bool.and_eq_true, decide_eq_true_eq] at hn
    have : (9000 : Nat) ≤ k := hk
    simp only [hget]
    rw [if_neg (by omega)]
    exact noPins_get hn.2 k hk
theorem SimR.noX (h : SimR B ρ col s a w) (hn : noPins s.hp = true) (b : Nat) : ¬ B.X b := by
  intro hx
  obtain ⟨k, hk⟩ := h.keep.xl b hx
  obtain ⟨g, hg⟩ := Option.ne_none_iff_exists'.1 hk
  have hp := (h.keep.lp k g hg).1
  have := h.dom k (noPins_get hn k hp)
  rw [h.pins k hp, hg] at this
  cases this
theorem freeze_some {k : Nat} (h : s.freeze k = some s') : ∃ sz rs, hget s.hp k = some (.rows sz rs) ∧ noPins s.hp = true ∧ k < pin ∧ s' = ⟨AV.frz.frzs k sz rs s.tm, hdel (hfrz k sz rs s.hp) k⟩ := by
  unfold St.freeze at h
  split at h
  · rename_i sz rs hk
    split at h
    · rename_i hp; cases h; exact ⟨sz, rs, hk, hp, Nat.lt_of_not_le fun hl => (by rw [noPins_get hp k hl] at hk; cases hk), rfl⟩
    · cases h
  · cases h
theorem SimR.freeze (h : SimR B ρ col s a w) {k sz : Nat} {rs : List (List T)} (hk : hget s.hp k = some (.rows sz rs)) (hn : noPins s.hp = true) (hp : k < pin) :
    SimR B (unlab ρ k) (recolN ρ col k) ⟨AV.frz.frzs k sz rs s.tm, hdel (hfrz k sz rs s.hp) k⟩ a w ∧ FrzR (cx B ρ col w s.hp) (cx B (unlab ρ k) (recolN ρ col k) w (hdel (hfrz k sz rs s.hp) k)) k sz rs ∧
      ((cx B ρ col w s.hp).le (cx B (unlab ρ k) (recolN ρ col k) w (hdel (hfrz k sz rs s.hp) k)) fun m => m ≠ k) := by
  have hgd : ∀ m, hget (hdel (hfrz k sz rs s.hp) k) m = if k = m then none else (hget s.hp m).map (Blk.frz k sz rs) := by
    intro m; rw [hget_hdel, hget_hfrz]
  have hcol : ∀ b, col b = none → recolN ρ col k b = none := by
    intro b h2; simp [recolN, h2]
  have hle : (cx B ρ col w s.hp).le (cx B (unlab ρ k) (recolN ρ col k) w (hdel (hfrz k sz rs s.hp) k)) fun m => m ≠ k := by
    refine ⟨fun m hm _ => by simp [cx, unlab, hm], fun m b hm hb => ⟨b.frz k sz rs, ?_, blk_sim_frz k sz rs b⟩, fun b hb => ⟨⟨hb.1, hb.2.1, hcol b hb.2.2.1, fun m => ?_⟩, rfl⟩, fun b hb => ⟨⟨hb.1, fun m => ?_, fun i j e => ?_⟩, rfl⟩, fun m b hm hb => rfl, fun _ _ _ _ _ => rfl⟩
    · have hb' : hget s.hp m = some b := hb
      show hget (hdel (hfrz k sz rs s.hp) k) m = _
      rw [hgd, if_neg (Ne.symm hm), hb']
      rfl
    · simp only [unlab]; split
      · simp
      · exact hb.2.2.2 m
    · simp only [unlab]; split
      · simp
      · exact hb.2.1 m
    · simp only [recolN] at e
      split at e
      · rename_i m i' j' hc
        split at e
        · cases e
        · exact hb.2.2 _ _ (hc.trans e)
      · cases e
  have hfr : FrzR (cx B ρ col w s.hp) (cx B (unlab ρ k) (recolN ρ col k) w (hdel (hfrz k sz rs s.hp) k)) k sz rs := by
    obtain ⟨hrow, hrest⟩ := h.hp k _ hk
    rcases hrest with ⟨b, cells, e, fr, uu, hb, hh, hf, hsz, hu, how⟩ | ⟨h1, h2⟩
    · have hb' : ρ k = some b := hb
      have hlb := h.lab k b hb'
      have hDb : (cx B (unlab ρ k) (recolN ρ col k) w (hdel (hfrz k sz rs s.hp) k)).Dp b := by
        refine ⟨hlb.1, ?_, hcol b (h.sep k b hb'), fun m => ?_⟩
        · exact .inr (hlb.2.resolve_left (h.noX hn b))
        · simp only [unlab]; split
          · simp
          · rename_i hm; exact fun e => hm (h.inj m k b e hb')
      have hh' : w.heap[b]? = some (.cells cells e fr) := hh
      refine .inl ⟨b, hb, ⟨hDb, rfl⟩, fun cap hcap => ?_⟩
      have := Rd.list (w := w) (D := (cx B (unlab ρ k) (recolN ρ col k) w (hdel (hfrz k sz rs s.hp) k)).Dp) false sz rs b 0 cap uu hcap hDb hrow
        (fun i r j x hi hj => by simp [World.cell?, hh', hu i r j x hi hj])
        (fun i r j x hi hj => (how i r j x hi hj).rd' (fun b hb => (hle.dp b hb).1) (fun b' hb' => by
          have hcb := h.colb b' _ hb'
          refine ⟨hcb.1, ?_, by simp [recolN, hb'], fun m => ?_⟩
          · exact .inr (hcb.2.resolve_left (h.noX hn b'))
          · simp only [unlab]; split
            · simp
            · exact fun e => by rw [h.sep m b' e] at hb'; cases hb'))
      exact this
    · exact .inr ⟨h1, h2⟩
  refine ⟨⟨h.defers, by simp [frzs_length, h.len], h.keep, fun i => ?_, fun m b hb => ?_, fun m hm => ?_, fun m m' b h1 h2 => ?_, fun m b hb => ?_, fun m b hb => ?_, fun b p hb => ?_, fun m hm => ?_, ?_⟩, hfr, hle⟩
  · simp only [gt_frzs]
    exact AVr.frz hk hfr hle _ _ (h.tm i)
  · have hb1 : hget (hdel (hfrz k sz rs s.hp) k) m = some b := hb
    rw [hgd] at hb1
    split at hb1
    · cases hb1
    · rename_i hm
      simp only [Option.map_eq_some_iff] at hb1
      obtain ⟨b0, hb0, rfl⟩ := hb1
      have hm' : m ≠ k := fun e => hm e.symm
      refine (h.hp m b0 hb0).frz hk hfr hle (by simp [cx, unlab, hm']) (fun _ _ => rfl) (fun b i j hc => ⟨?_, rfl⟩)
      simp [recolN, hc, hm']
  · have hm1 : hget (hdel (hfrz k sz rs s.hp) k) m = none := hm
    rw [hgd] at hm1
    simp only [unlab]
    split at hm1
    · rename_i e; subst e; simp
    · simp only [Option.map_eq_none_iff] at hm1
      split
      · rfl
      · exact h.dom m hm1
  · simp only [unlab] at h1 h2
    split at h1
    · cases h1
    · split at h2
      · cases h2
      · exact h.inj m m' b h1 h2
  · simp only [unlab] at hb
    split at hb
    · cases hb
    · exact hcol b (h.sep m b hb)
  · simp only [unlab] at hb
    split at hb
    · cases hb
    · exact h.lab m b hb
  · simp only [recolN] at hb
    split at hb
    · rename_i m i j hc; exact h.colb b _ hc
    · cases hb
  · have : m ≠ k := by omega
    simp only [unlab, if_neg this]
    exact h.pins m hm
  · rw [hgd, h.nolim]; split <;> rfl
theorem rfz_some {k : Nat} (h : s.rfz k = some s') : ∃ sz rs, hget s.hp k = some (.rows sz rs) ∧ noPins s.hp = true ∧ k < pin ∧ s' = ⟨s.tm, hput s.hp k (.rows sz (sharedRows rs))⟩ := by
  unfold St.rfz at h
  split at h
  · rename_i sz rs hk
    split at h
    · rename_i hp; cases h; exact ⟨sz, rs, hk, hp, Nat.lt_of_not_le fun hl => (by rw [noPins_get hp k hl] at hk; cases hk), rfl⟩
    · cases h
  · cases h
theorem sharedRows_get {rs : List (List T)} {i : Nat} {r : List T} (h : (sharedRows rs)[i]? = some r) : ∃ r0, rs[i]? = some r0 ∧ r = r0.map T.shared := by
  simp only [sharedRows, List.getElem?_map, Option.map_eq_some_iff] at h
  obtain ⟨r0, h1, rfl⟩ := h
  exact ⟨r0, h1, rfl⟩
theorem map_shared_get {r : List T} {j : Nat} {x : T} (h : (r.map T.shared)[j]? = some x) : ∃ x0, r[j]? = some x0 ∧ x = x0.shared := by
  simp only [List.getElem?_map, Option.map_eq_some_iff] at h
  obtain ⟨x0, h1, rfl⟩ := h
  exact ⟨x0, h1, rfl⟩
theorem SimR.rfz (h : SimR B ρ col s a w) {k sz : Nat} {rs : List (List T)} (hk : hget s.hp k = some (.rows sz rs)) (hn : noPins s.hp = true) (hp : k < pin) :
    SimR B ρ (recolN ρ col k) ⟨s.tm, hput s.hp k (.rows sz (sharedRows rs))⟩ a w ∧
      ((cx B ρ col w s.hp).le (cx B ρ (recolN ρ col k) w (hput s.hp k (.rows sz (sharedRows rs)))) fun _ => True) := by
  have hcol : ∀ b, col b = none → recolN ρ col k b = none := by
    intro b h2; simp [recolN, h2]
  have hle : (cx B ρ col w s.hp).le (cx B ρ (recolN ρ col k) w (hput s.hp k (.rows sz (sharedRows rs)))) fun _ => True := by
    refine ⟨fun m _ _ => rfl, fun m b _ hb => ?_, fun b hb => ⟨⟨hb.1, hb.2.1, hcol b hb.2.2.1, hb.2.2.2⟩, rfl⟩, fun b hb => ⟨⟨hb.1, hb.2.1, fun i j e => ?_⟩, rfl⟩, fun m b _ hb => rfl, fun _ _ _ _ _ => rfl⟩
    · have hb' : hget s.hp m = some b := hb
      show ∃ b', hget (hput s.hp k (.rows sz (sharedRows rs))) m = some b' ∧ _
      rw [hget_hput]
      split
      · rename_i e; subst e
        rw [hk] at hb'; cases hb'
        exact ⟨_, rfl, rfl, by simp [sharedRows]⟩
      · exact ⟨b, hb', blk_sim_refl b⟩
    · simp only [recolN] at e
      split at e
      · rename_i m i' j' hc
        split at e
        · cases e
        · exact hb.2.2 _ _ (hc.trans e)
      · cases e
  refine ⟨⟨h.defers, h.len, h.keep, fun i => AVr.mono hle _ _ (h.tm i), fun m b hb => ?_, fun m hm => ?_, h.inj, fun m b hb => hcol b (h.sep m b hb), h.lab, fun b p hb => ?_, h.pins, ?_⟩, hle⟩
  · have hb1 : hget (hput s.hp k (.rows sz (sharedRows rs))) m = some b := hb
    rw [hget_hput] at hb1
    split at hb1
    · rename_i e; subst e
      cases hb1
      obtain ⟨hrow, hrest⟩ := h.hp k _ hk
      refine ⟨fun i r hi => ?_, ?_⟩
      · obtain ⟨r0, h1, rfl⟩ := sharedRows_get hi
        simp [hrow i r0 h1]
      · rcases hrest with ⟨b, cells, e, fr, uu, hb, hh, hf, hsz, hu, how⟩ | ⟨h1, h2⟩
        · refine .inl ⟨b, cells, e, fr, uu, hb, hh, hf, by simpa [sharedRows] using hsz, fun i r j x hi hj => ?_, fun i r j x hi hj => ?_⟩
          · obtain ⟨r0, h1, rfl⟩ := sharedRows_get hi
            obtain ⟨x0, h2, rfl⟩ := map_shared_get hj
            exact hu i r0 j x0 h1 h2
          · obtain ⟨r0, h1, rfl⟩ := sharedRows_get hi
            obtain ⟨x0, h2, rfl⟩ := map_shared_get hj
            refine .rd _ _ _ (T.shared_flat x0) (Rd.shared ((how i r0 j x0 h1 h2).rd' (fun b hb => (hle.dp b hb).1) (fun b' hb' => ?_)))
            have hcb := h.colb b' _ hb'
            exact ⟨hcb.1, .inr (hcb.2.resolve_left (h.noX hn b')), by simp [recolN, hb'], fun m e => by rw [h.sep m b' e] at hb'; cases hb'⟩
        · exact .inr ⟨by rw [h1]; rfl, h2⟩
    · rename_i hm
      refine (h.hp m b hb1).mono hle rfl (fun _ _ => rfl) (fun b i j hc => ⟨?_, rfl⟩)
      simp [recolN, hc, Ne.symm hm]
  · have hm1 : hget (hput s.hp k (.rows sz (sharedRows rs))) m = none := hm
    rw [hget_hput] at hm1
    split at hm1
    · cases hm1
    · exact h.dom m hm1
  · simp only [recolN] at hb
    split at hb
    · rename_i m i j hc; exact h.colb b _ hc
    · cases hb
  · show hget (hput s.hp k _) limKey = none
    rw [hget_hput, if_neg (ne_lim hp)]
    exact h.nolim
end
end Go.Proofs.YtcpfhonmdbhdbaaGreatDoor.Am
namespace Go.Proofs.YtcpfhonmdbhdbaaGreatDoor.Am
open Go
set_option linter.unusedVariables false
section
variable {P : Program} {Γ : Env} {B : Base} {ρ ρ' : Nat → Option Nat} {col col' : Col} {s s' : St} {a : Act} {w w' : World}
theorem focus_some {m k i j : Nat} (h : focus s m k i j = some s') : ∃ sz rs sz' rs', hget s.hp k = some (.rows sz rs) ∧ gtT (rs.getD i []) j = .list true sz' rs' ∧ i < rs.length ∧ k ≠ m ∧ hget s.hp m = none ∧ m < pin ∧
    s' = ⟨AV.lsk.lsks s.tm, hput (hput (hlsk s.hp) k (.rows sz (rs.set i (ptT (rs.getD i []) j .gone)))) m (.rows sz' rs')⟩ := by
  unfold Am.focus at h
  split at h
  · rename_i sz rs hk
    split at h
    · rename_i sz' rs' hg
      split at h
      · rename_i hc; cases h; exact ⟨sz, rs, sz', rs', hk, hg, hc.1, hc.2.1, hc.2.2.1, hc.2.2.2, rfl⟩
      · cases h
    · cases h
  · cases h
theorem BlkR.lsk {c c' : Cx} {k : Nat} {b : Blk} (h : BlkR c col k b) (hl : c.lel c') (hρ : c'.ρ k = c.ρ k) (hb : ∀ b, c.ρ k = some b → c'.w.heap[b]? = c.w.heap[b]?)
    (hc : ∀ b i j, col b = some (k, i, j) → col' b = some (k, i, j) ∧ c'.w.heap[b]? = c.w.heap[b]?) : BlkR c' col' k b.lsk := by
  cases b with
  | box cs =>
    obtain ⟨b, vs, e, fr, e1, e2, e3, e4⟩ := h
    exact ⟨b, vs, e, fr, by rw [hρ]; exact e1, by rw [hb b e1]; exact e2, e3, AVrs.lsk hl cs vs e4⟩
  | rows sz rs => exact RowsR.mono h hρ hb hl.dp hc
theorem SimR.focus (h : SimR B ρ col s a w) {m k i j : Nat} (hf : Am.focus s m k i j = some s') {v : Value} (ht : Tie (cx B ρ col w s.hp) (some (k, i, j)) v) :
    ∃ ρ' col', SimR B ρ' col' s' a w ∧ AVr (cx B ρ' col' w s'.hp) (.refw m) v ∧ (cx B ρ col w s.hp).lel (cx B ρ' col' w s'.hp) ∧ (∀ b p, col b = some p → p ≠ (k, i, j) → col' b = some p) ∧ (∀ n, n ≠ m → ρ' n = ρ n) := by
  obtain ⟨sz, rs, sz', rs', hk, hgt, hi, hkm, hm, hp, rfl⟩ := focus_some hf
  obtain ⟨b0, sz0, rs0, t1, t2, t3, t4, t5⟩ := ht
  have t2' : hget s.hp k = some (.rows sz0 rs0) := t2
  rw [hk] at t2'; cases t2'
  obtain ⟨hrow, hrest⟩ := h.hp k _ hk
  have hri : rs[i]? = some (rs.getD i []) := by simp [List.getD_eq_getElem?_getD, List.getElem?_eq_getElem hi]
  have hrl := hrow i _ hri
  have hcell : (rs.getD i [])[j]? = some (.list true sz' rs') := by rw [gtT_get (by omega), hgt]
  rcases hrest with ⟨b, cells, e, fr, uu, hb, hh, hfr, hsz, hu, how⟩ | ⟨_, hn⟩
  rotate_left
  · have : ρ k = some b0 := t1
    rw [show ρ k = none from hn] at this; cases this
  have hb' : ρ k = some b := hb
  have hbb : b0 = b := by
    have : ρ k = some b0 := t1
    rw [hb'] at this; exact (Option.some.inj this).symm
  subst hbb
  have hh' : w.heap[b0]? = some (.cells cells e fr) := hh
  have hv : v = uu i j := by
    have h1 := hu i _ j _ hri hcell
    have h2 : w.cell? ⟨b0, i * sz + j, none⟩ = some v := t5
    simp [World.cell?, hh', h1] at h2
    exact h2.symm
  have hO := how i _ j _ hri hcell
  rw [← hv] at hO
  have hgp : ∀ n, hget (hput (hput (hlsk s.hp) k (.rows sz (rs.set i (ptT (rs.getD i []) j .gone)))) m (.rows sz' rs')) n = if m = n then some (.rows sz' rs') else if k = n then some (.rows sz (rs.set i (ptT (rs.getD i []) j .gone))) else (hget s.hp n).map Blk.lsk := by
    intro n; rw [hget_hput, hget_hput, hget_hlsk]
  have hhp : ∀ n blk, hget s.hp n = some blk → ∃ b', hget (hput (hput (hlsk s.hp) k (.rows sz (rs.set i (ptT (rs.getD i []) j .gone)))) m (.rows sz' rs')) n = some b' ∧ blk.sim b' := by
    intro n blk hb
    have h1 : m ≠ n := fun e => by rw [e, hb] at hm; cases hm
    rw [hgp, if_neg h1]
    by_cases h2 : k = n
    · subst h2; rw [hk] at hb; cases hb
      exact ⟨_, by rw [if_pos rfl], by simp [Blk.sim]⟩
    · rw [if_neg h2, hb]; exact ⟨_, rfl, blk_sim_lsk _⟩
  have hone : (uu i j).oneCell' = true := by rw [← hv]; exact hO.one
  have fin : ∀ (ρ' : Nat → Option Nat) (col' : Col), (∀ n, n ≠ m → ρ' n = ρ n) → (∀ b p, col b = some p → p ≠ (k, i, j) → col' b = some p) → (∀ b, col b = none → (∀ n, ρ n ≠ some b) → col' b = none ∧ ∀ n, ρ' n ≠ some b) →
      (∀ n, pin ≤ n → ρ' n = B.L n) → (∀ n n' b, ρ' n = some b → ρ' n' = some b → n = n') → (∀ n b, ρ' n = some b → col' b = none) → (∀ n b, ρ' n = some b → b < w.heap.size ∧ (B.X b ∨ B.w.heap.size ≤ b)) →
      (∀ b p, col' b = some p → b < w.heap.size ∧ (B.X b ∨ B.w.heap.size ≤ b)) →
      ((∀ b, (cx B ρ col w s.hp).Dp b → (cx B ρ' col' w (hput (hput (hlsk s.hp) k (.rows sz (rs.set i (ptT (rs.getD i []) j .gone)))) m (.rows sz' rs'))).Dp b) → RowsR (cx B ρ' col' w (hput (hput (hlsk s.hp) k (.rows sz (rs.set i (ptT (rs.getD i []) j .gone)))) m (.rows sz' rs'))) col' m sz' rs') →
      RefW (cx B ρ' col' w (hput (hput (hlsk s.hp) k (.rows sz (rs.set i (ptT (rs.getD i []) j .gone)))) m (.rows sz' rs'))) m sz' rs' v →
      ∃ ρ' col', SimR B ρ' col' ⟨AV.lsk.lsks s.tm, hput (hput (hlsk s.hp) k (.rows sz (rs.set i (ptT (rs.getD i []) j .gone)))) m (.rows sz' rs')⟩ a w ∧ AVr (cx B ρ' col' w (hput (hput (hlsk s.hp) k (.rows sz (rs.set i (ptT (rs.getD i []) j .gone)))) m (.rows sz' rs'))) (.refw m) v ∧ (cx B ρ col w s.hp).lel (cx B ρ' col' w (hput (hput (hlsk s.hp) k (.rows sz (rs.set i (ptT (rs.getD i []) j .gone)))) m (.rows sz' rs'))) ∧ (∀ b p, col b = some p → p ≠ (k, i, j) → col' b = some p) ∧ (∀ n, n ≠ m → ρ' n = ρ n) := by
    intro ρ' col' f1 f2 f3 f4 f5 f6 f7 f8 f9 f10
    have hDp : ∀ b, (cx B ρ col w s.hp).Dp b → (cx B ρ' col' w (hput (hput (hlsk s.hp) k (.rows sz (rs.set i (ptT (rs.getD i []) j .gone)))) m (.rows sz' rs'))).Dp b := fun b hb => ⟨hb.1, hb.2.1, (f3 b hb.2.2.1 hb.2.2.2).1, (f3 b hb.2.2.1 hb.2.2.2).2⟩
    have hle : (cx B ρ col w s.hp).lel (cx B ρ' col' w (hput (hput (hlsk s.hp) k (.rows sz (rs.set i (ptT (rs.getD i []) j .gone)))) m (.rows sz' rs'))) := by
      refine ⟨fun n hn => f1 n (fun e => hn (by rw [e]; exact hm)), hhp, fun b hb => ⟨hDp b hb, rfl⟩, fun _ _ _ => rfl⟩
    refine ⟨ρ', col', ⟨h.defers, by simp [lsks_length, h.len], h.keep, fun n => ?_, fun n blk hb => ?_, fun n hn => ?_, f5, f6, f7, f8, f4, ?_⟩, ⟨sz', rs', by show hget (hput _ _ _) m = _; rw [hgp, if_pos rfl], f10⟩, hle, f2, f1⟩
    · simp only [gt_lsks]; exact AVr.lsk hle _ _ (h.tm n)
    · have hb1 := hb
      simp only at hb1
      rw [hgp] at hb1
      split at hb1
      · rename_i e; subst e; cases hb1
        exact f9 hDp
      · rename_i hmn
        split at hb1
        · rename_i e; subst e; cases hb1
          refine ⟨fun i' r hr => ?_, .inl ⟨b0, cells, e, fr, uu, by show ρ' k = some b0; rw [f1 k hkm]; exact hb', hh, hfr, by rw [List.length_set]; exact hsz, fun i' r j' x hr hx => ?_, fun i' r j' x hr hx => ?_⟩⟩
          · rw [List.getElem?_set] at hr
            split at hr
            · rename_i e'; subst e'; cases hr; rw [ptT_length]; exact hrl
            · exact hrow i' r hr
          · rw [List.getElem?_set] at hr
            split at hr
            · rename_i e'; subst e'; cases hr
              have hlt := (List.getElem?_eq_some_iff.1 hx).1
              rw [ptT_length] at hlt
              exact hu i _ j' _ hri (List.getElem?_eq_getElem hlt)
            · exact hu i' r j' x hr hx
          · have hoth : ∀ (r : List T) (x : T), rs[i']? = some r → r[j']? = some x → (i', j') ≠ (i, j) → Own w (cx B ρ' col' w (hput (hput (hlsk s.hp) k (.rows sz (rs.set i (ptT (rs.getD i []) j .gone)))) m (.rows sz' rs'))).Dp (fun b => col' b = some (k, i', j')) x (uu i' j') := by
              intro r x hr hx hne
              refine (how i' r j' x hr hx).mono (fun _ _ => rfl) hDp (fun _ _ => rfl) (fun b hb => f2 b _ hb (fun e => hne ?_))
              cases e; rfl
            rw [List.getElem?_set] at hr
            split at hr
            · rename_i e'; subst e'; cases hr
              rw [ptT_get] at hx
              split at hx
              · rename_i hc
                obtain ⟨rfl, _⟩ := hc
                cases hx
                exact .rd _ _ _ trivial (.gone _ hone)
              · rename_i hc
                exact hoth _ x hri hx (fun e => hc ⟨by cases e; rfl, by omega⟩)
            · rename_i hne
              exact hoth r x hr hx (fun e => hne (by cases e; rfl))
        · rename_i hkn
          simp only [Option.map_eq_some_iff] at hb1
          obtain ⟨bl, hbl, rfl⟩ := hb1
          refine (h.hp n bl hbl).lsk hle (f1 n (fun e => hmn e.symm)) (fun _ _ => rfl) (fun b i' j' hc => ⟨f2 b _ hc (fun e => hkn ?_), rfl⟩)
          cases e; rfl
    · have hn1 := hn
      simp only at hn1
      rw [hgp] at hn1
      split at hn1
      · cases hn1
      · rename_i hmn
        split at hn1
        · cases hn1
        · simp only [Option.map_eq_none_iff] at hn1
          rw [f1 n (fun e => hmn e.symm)]; exact h.dom n hn1
    · show hget (hput (hput (hlsk s.hp) k _) m _) limKey = none
      rw [hgp, if_neg (ne_lim hp), if_neg (fun e => by rw [e, h.nolim] at hk; cases hk), h.nolim]; rfl
  generalize hS : (fun b => col b = some (k, i, j)) = S at hO
  generalize hx : T.list true sz' rs' = x at hO
  cases hO with
  | rd _ x v hf => subst hx; exact hf.elim
  | nil _ sz'' ad =>
    cases hx
    refine fin ρ col (fun _ _ => rfl) (fun _ _ h _ => h) (fun b h1 h2 => ⟨h1, h2⟩) h.pins h.inj h.sep h.lab h.colb (fun _ => ⟨fun i r hi => by simp at hi, .inr ⟨rfl, h.dom m hm⟩⟩) (.inr ⟨rfl, ad, rfl⟩)
  | list _ sz'' rs'' b cap cells' e' fr' u c hbS hhb hfb hc hcs hr huu ho =>
    cases hx
    subst hS
    have hlb := h.colb b _ hbS
    have hnl : ∀ n, ρ n ≠ some b := fun n e => by rw [h.sep n b e] at hbS; cases hbS
    refine fin (setlab0 ρ m b) (fun b' => if b' = b then none else if col b' = some (k, i, j) then some (m, c b') else col b') (fun n hn => by simp [setlab0, hn]) (fun b' p h1 h2 => ?_) (fun b' h1 h2 => ⟨?_, fun n e => ?_⟩) (fun n hn => ?_) (fun n n' b' h1 h2 => ?_) (fun n b' h1 => ?_) (fun n b' h1 => ?_) (fun b' p h1 => ?_) (fun hDp => ⟨hr, .inl ⟨b, cells', e', fr', u, by simp [cx, setlab0], hhb, hfb, Nat.le_trans (Nat.mul_le_mul_right _ hc) hcs, huu, fun i' r j' x hi hj => ?_⟩⟩) (.inl ⟨b, cap, e', cells'.size, by simp [cx, setlab0], rfl, hc, ?_, hcs⟩)
    · have : b' ≠ b := fun e => by subst e; rw [hbS] at h1; cases h1; exact h2 rfl
      simp only [if_neg this, h1]
      rw [if_neg (fun e => h2 (Option.some.inj e))]
    · simp only [h1]; split <;> simp
    · simp only [setlab0] at e
      split at e
      · cases e; rw [h1] at hbS; cases hbS
      · exact h2 n e
    · rw [← h.pins n hn]; simp only [setlab0]; rw [if_neg (by omega)]
    · simp only [setlab0] at h1 h2
      split at h1
      · split at h2
        · rename_i e1 e2; exact e1.trans e2.symm
        · cases h1; exact absurd h2 (hnl n')
      · split at h2
        · cases h2; exact absurd h1 (hnl n)
        · exact h.inj n n' b' h1 h2
    · simp only [setlab0] at h1
      split at h1
      · cases h1; simp
      · have hne : b' ≠ b := fun e => hnl n (by rw [h1, e])
        simp only [if_neg hne, h.sep n b' h1]; simp
    · simp only [setlab0] at h1
      split at h1
      · cases h1; exact hlb
      · exact h.lab n b' h1
    · split at h1
      · cases h1
      · split at h1
        · rename_i h2; exact h.colb b' _ h2
        · exact h.colb b' p h1
    · refine (ho i' r j' x hi hj).mono (fun _ _ => rfl) hDp (fun _ _ => rfl) (fun b' hb' => ?_)
      obtain ⟨g1, g2, g3⟩ := hb'
      simp only [if_neg g2, if_pos g1, g3]
    · have hh2 : w.heap[b]? = some (.cells cells' e' fr') := hhb
      show w.shape? b = _
      simp [World.shape?, hh2]
end
end Go.Proofs.YtcpfhonmdbhdbaaGreatDoor.Am
namespace Go.Proofs.YtcpfhonmdbhdbaaGreatDoor.Am
open Go
set_option linter.unusedVariables false
structure WStep (w w' : World) (g : Option Nat) : Prop where
  os : w'.os = w.os
  tape : w'.tape = w.tape
  output : w'.output = w.output
  drawn : DrLe w.drawn w'.drawn
  size : w.heap.size ≤ w'.heap.size
  block : ∀ b, b < w.heap.size → some b ≠ g → w'.heap[b]? = w.heap[b]?
section
variable {P : Program} {Γ : Env} {B : Base} {ρ ρ' : Nat → Option Nat} {col col' : Col} {s : St} {a : Act} {w w' : World}
theorem Keep.step (h : Keep B w) {g : Option Nat} (hs : WStep w w' g) (hg : ∀ b, g = some b → B.X b ∨ B.w.heap.size ≤ b) (hsh : ∀ k b, B.L k = some b → some b = g → w'.shape? b = w.shape? b) : Keep B w' :=
  ⟨hs.os.trans h.os, hs.tape.trans h.tape, hs.output.trans h.output, DrLe.trans h.drawn hs.drawn, Nat.le_trans h.size hs.size, fun b hb hx => by
    rw [hs.block b (Nat.lt_of_lt_of_le hb h.size) (fun e => by
      rcases hg b e.symm with h1 | h1
      · exact hx h1
      · omega)]
    exact h.block b hb hx, h.xl, h.lp, fun k b hb => by
      rw [← h.sh k b hb]
      by_cases e : some b = g
      · exact hsh k b hb e
      · exact shape_same (hs.block b (Nat.lt_of_lt_of_le (h.lp k b hb).2 h.size) e), h.gl⟩
theorem own_blocks (h : SimR B ρ col s a w) {g : Option Nat} (hs : WStep w w' g) (hg : ∀ b, g = some b → ∃ k, ρ k = some b) :
    (∀ b, (cx B ρ col w s.hp).Dp b → w'.heap[b]? = w.heap[b]?) ∧ (∀ b, (cx B ρ col w s.hp).Dl b → w'.heap[b]? = w.heap[b]?) ∧ (∀ b p, col b = some p → w'.heap[b]? = w.heap[b]?) := by
  refine ⟨fun b hb => hs.block b hb.1 (fun e => ?_), fun b hb => hs.block b hb.1 (fun e => ?_), fun b p hb => hs.block b (h.colb b p hb).1 (fun e => ?_)⟩
  · obtain ⟨k, hk⟩ := hg b e.symm; exact hb.2.2.2 k hk
  · obtain ⟨k, hk⟩ := hg b e.symm; exact hb.2.1 k hk
  · obtain ⟨k, hk⟩ := hg b e.symm; rw [h.sep k b hk] at hb; cases hb
theorem SimR.world (h : SimR B ρ col s a w) (hs : WStep w w' none) : SimR B ρ col s a w' := by
  obtain ⟨o1, o2, o3⟩ := own_blocks h hs (fun b e => by cases e)
  have hle : (cx B ρ col w s.hp).le (cx B ρ col w' s.hp) fun _ => True := by
    refine ⟨fun _ _ _ => rfl, fun m b _ hb => ⟨b, hb, blk_sim_refl b⟩, fun b hb => ⟨⟨Nat.lt_of_lt_of_le hb.1 hs.size, hb.2⟩, o1 b hb⟩, fun b hb => ⟨⟨Nat.lt_of_lt_of_le hb.1 hs.size, hb.2⟩, o2 b hb⟩, fun m b _ hb => ?_, fun m b _ hb _ => ?_⟩
    · exact shape_same (hs.block b (h.lab m b hb).1 (by simp))
    · exact hs.block b (h.lab m b hb).1 (by simp)
  exact ⟨h.defers, h.len, h.keep.step hs (fun b e => by cases e) (fun k b _ e => by cases e), fun i => AVr.mono hle _ _ (h.tm i),
    fun k b hb => (h.hp k b hb).mono hle rfl (fun b hb => hs.block b (h.lab k b hb).1 (by simp)) (fun b i j hc => ⟨hc, o3 b _ hc⟩), h.dom, h.inj, h.sep,
    fun k b hb => ⟨Nat.lt_of_lt_of_le (h.lab k b hb).1 hs.size, (h.lab k b hb).2⟩, fun b p hb => ⟨Nat.lt_of_lt_of_le (h.colb b p hb).1 hs.size, (h.colb b p hb).2⟩, h.pins, h.nolim⟩
def setlab (ρ : Nat → Option Nat) (k g : Nat) : Nat → Option Nat := fun m => if m = k then some g else ρ m
theorem SimR.lay (h : SimR B ρ col s a w) {k : Nat} (hk : hget s.hp k = none) (hp : k < pin) (hs : WStep w w' none) (hsz : w.heap.size < w'.heap.size) {blk : Blk} {i : Nat} {v : AV} {u : Value}
    (hb : (cx B ρ col w s.hp).le (cx B (setlab ρ k w.heap.size) col w' (hput s.hp k blk)) (fun _ => True) → BlkR (cx B (setlab ρ k w.heap.size) col w' (hput s.hp k blk)) col k blk)
    (hv : AVr (cx B (setlab ρ k w.heap.size) col w' (hput s.hp k blk)) v u) : SimR B (setlab ρ k w.heap.size) col ⟨pt s.tm i v, hput s.hp k blk⟩ (a.put (some i) u) w' := by
  obtain ⟨o1, o2, o3⟩ := own_blocks h hs (fun b e => by cases e)
  have hnew : ∀ b, b < w.heap.size → ∀ m, ρ m ≠ some b → setlab ρ k w.heap.size m ≠ some b := by
    intro b hb m hm
    unfold setlab
    split
    · intro e; cases e; omega
    · exact hm
  have hle : (cx B ρ col w s.hp).le (cx B (setlab ρ k w.heap.size) col w' (hput s.hp k blk)) fun _ => True := by
    refine ⟨fun m _ hm => ?_, fun m b _ hb => ⟨b, ?_, blk_sim_refl b⟩, fun b hb => ⟨⟨Nat.lt_of_lt_of_le hb.1 hs.size, hb.2.1, hb.2.2.1, fun m => hnew b hb.1 m (hb.2.2.2 m)⟩, o1 b hb⟩,
      fun b hb => ⟨⟨Nat.lt_of_lt_of_le hb.1 hs.size, fun m => hnew b hb.1 m (hb.2.1 m), hb.2.2⟩, o2 b hb⟩, fun m b _ hb => shape_same (hs.block b (h.lab m b hb).1 (by simp)), fun m b _ hb _ => hs.block b (h.lab m b hb).1 (by simp)⟩
    · have : m ≠ k := fun e => hm (by rw [e]; exact hk)
      simp [cx, setlab, this]
    · have hb' : hget s.hp m = some b := hb
      have : k ≠ m := fun e => by rw [e, hb'] at hk; cases hk
      show hget (hput s.hp k blk) m = some b
      rw [hget_hput, if_neg this]; exact hb'
  have hbase : SimR B (setlab ρ k w.heap.size) col ⟨s.tm, hput s.hp k blk⟩ a w' := by
    refine ⟨h.defers, h.len, h.keep.step hs (fun b e => by cases e) (fun k b _ e => by cases e), fun i => AVr.mono hle _ _ (h.tm i), fun m b hm => ?_, fun m hm => ?_, fun m m' b h1 h2 => ?_, fun m b h1 => ?_, fun m b h1 => ?_, fun b p hb => ⟨Nat.lt_of_lt_of_le (h.colb b p hb).1 hs.size, (h.colb b p hb).2⟩, fun m hm => by rw [← h.pins m hm]; simp only [setlab]; rw [if_neg (by omega)], by rw [hget_hput, h.nolim, if_neg (ne_lim hp)]⟩
    · have hm' : hget (hput s.hp k blk) m = some b := hm
      rw [hget_hput] at hm'
      split at hm'
      · rename_i e; subst e; cases hm'; exact hb hle
      · rename_i e
        refine (h.hp m b hm').mono hle ?_ (fun b hb => hs.block b (h.lab m b hb).1 (by simp)) (fun b i j hc => ⟨hc, o3 b _ hc⟩)
        simp [cx, setlab, Ne.symm e]
    · have hm' : hget (hput s.hp k blk) m = none := hm
      rw [hget_hput] at hm'
      split at hm'
      · cases hm'
      · rename_i e; simp only [setlab, if_neg (Ne.symm e)]; exact h.dom m hm'
    · unfold setlab at h1 h2
      split at h1
      · split at h2
        · rename_i e1 e2; exact e1.trans e2.symm
        · cases h1; have := (h.lab m' _ h2).1; omega
      · split at h2
        · cases h2; have := (h.lab m _ h1).1; omega
        · exact h.inj m m' b h1 h2
    · unfold setlab at h1
      split at h1
      · cases h1
        cases hc : col w.heap.size with
        | none => rfl
        | some p => have := (h.colb _ p hc).1; omega
      · exact h.sep m b h1
    · unfold setlab at h1
      split at h1
      · cases h1; exact ⟨hsz, .inr h.keep.size⟩
      · exact ⟨Nat.lt_of_lt_of_le (h.lab m b h1).1 hs.size, (h.lab m b h1).2⟩
  exact hbase.put (d := some i) hv
theorem SimR.upd (h : SimR B ρ col s a w) {k g : Nat} (hg : ρ k = some g) {cs : List AV} {blk' : Blk} (hk : hget s.hp k = some (.box cs)) (hsim : (Blk.box cs).sim blk') (hs : WStep w w' (some g)) (hsz : w'.heap.size = w.heap.size) (hsh : w'.shape? g = w.shape? g)
    (hb : (cx B ρ col w s.hp).le (cx B ρ col w' (hput s.hp k blk')) (fun _ => True) → BlkR (cx B ρ col w' (hput s.hp k blk')) col k blk') : SimR B ρ col ⟨s.tm, hput s.hp k blk'⟩ a w' := by
  obtain ⟨o1, o2, o3⟩ := own_blocks h hs (fun b e => by cases e; exact ⟨k, hg⟩)
  have hle : (cx B ρ col w s.hp).le (cx B ρ col w' (hput s.hp k blk')) fun _ => True := by
    refine ⟨fun _ _ _ => rfl, fun m b _ hb => ?_, fun b hb => ⟨⟨hsz ▸ hb.1, hb.2⟩, o1 b hb⟩, fun b hb => ⟨⟨hsz ▸ hb.1, hb.2⟩, o2 b hb⟩, fun m b _ hb => ?_, fun m b _ hb hr => hs.block b (h.lab m b hb).1 (fun e => ?_)⟩
    · have hb' : hget s.hp m = some b := hb
      show ∃ b', hget (hput s.hp k blk') m = some b' ∧ _
      rw [hget_hput]
      split
      · rename_i e; subst e; rw [hk] at hb'; cases hb'; exact ⟨_, rfl, hsim⟩
      · exact ⟨b, hb', blk_sim_refl b⟩
    · by_cases e : b = g
      · subst e; exact hsh
      · exact shape_same (hs.block b (h.lab m b hb).1 (fun e' => e (Option.some.inj e')))
    · cases e
      have := h.inj m k _ hb hg
      subst this
      obtain ⟨sz, rs, hr⟩ := hr
      have hr' : hget s.hp m = some (.rows sz rs) := hr
      rw [hk] at hr'; cases hr'
  refine ⟨h.defers, h.len, h.keep.step hs (fun b e => by cases e; exact (h.lab k g hg).2) (fun m b _ e => by cases e; exact hsh), fun i => AVr.mono hle _ _ (h.tm i), fun m b hm => ?_, fun m hm => ?_, h.inj, h.sep, fun m b hb => ⟨hsz ▸ (h.lab m b hb).1, (h.lab m b hb).2⟩, fun b p hb => ⟨hsz ▸ (h.colb b p hb).1, (h.colb b p hb).2⟩, h.pins, by rw [hget_hput, h.nolim, if_neg (fun e => by rw [e, h.nolim] at hk; cases hk)]⟩
  · have hm' : hget (hput s.hp k blk') m = some b := hm
    rw [hget_hput] at hm'
    split at hm'
    · rename_i e; subst e; cases hm'; exact hb hle
    · rename_i e
      exact (h.hp m b hm').mono hle rfl (fun b' hb' => hs.block b' (h.lab m b' hb').1 (fun e' => e (h.inj k m b' (by rw [hg, Option.some.inj e']) hb')))
        (fun b i j hc => ⟨hc, o3 b _ hc⟩)
  · have hm' : hget (hput s.hp k blk') m = none := hm
    rw [hget_hput] at hm'
    split at hm'
    · cases hm'
    · exact h.dom m hm'
theorem BlkR.unorg {c c' : Cx} {k m : Nat} {b : Blk} (h : BlkR c col k b) (hl : c.leu c' m) (hρ : c'.ρ k = c.ρ k) (hb : ∀ b, c.ρ k = some b → c'.w.heap[b]? = c.w.heap[b]?)
    (hc : ∀ b i j, col b = some (k, i, j) → col' b = some (k, i, j) ∧ c'.w.heap[b]? = c.w.heap[b]?) : BlkR c' col' k (b.unorg m) := by
  cases b with
  | box cs =>
    obtain ⟨b, vs, e, fr, e1, e2, e3, e4⟩ := h
    exact ⟨b, vs, e, fr, by rw [hρ]; exact e1, by rw [hb b e1]; exact e2, e3, AVrs.unorg m hl cs vs e4⟩
  | rows sz rs => exact RowsR.mono h hρ hb hl.dp hc
theorem SimR.updR (h : SimR B ρ col s a w) {k g : Nat} (hg : ρ k = some g) {blk blk' : Blk} (hk : hget s.hp k = some blk) (hsim : blk.sim blk') (hs : WStep w w' (some g)) (hsz : w'.heap.size = w.heap.size) (hsh : w'.shape? g = w.shape? g)
    (hb : (∀ b, (cx B ρ col w s.hp).Dp b → (cx B ρ col w' (hput (hunorg k s.hp) k blk')).Dp b) → BlkR (cx B ρ col w' (hput (hunorg k s.hp) k blk')) col k blk') : SimR B ρ col ⟨AV.unorg.unorgs k s.tm, hput (hunorg k s.hp) k blk'⟩ a w' := by
  obtain ⟨o1, o2, o3⟩ := own_blocks h hs (fun b e => by cases e; exact ⟨k, hg⟩)
  have hgp : ∀ m, hget (hput (hunorg k s.hp) k blk') m = if k = m then some blk' else (hget s.hp m).map (Blk.unorg k) := by
    intro m; rw [hget_hput, hget_hunorg]
  have hle : (cx B ρ col w s.hp).leu (cx B ρ col w' (hput (hunorg k s.hp) k blk')) k := by
    refine ⟨fun _ _ => rfl, fun m b hb => ?_, fun b hb => ⟨⟨hsz ▸ hb.1, hb.2⟩, o1 b hb⟩, fun b hb => ⟨⟨hsz ▸ hb.1, hb.2⟩, o2 b hb⟩, fun m b hb => ?_, fun m b hm hb _ => hs.block b (h.lab m b hb).1 (fun e => hm (h.inj m k b hb (by rw [hg]; exact e.symm)))⟩
    · have hb' : hget s.hp m = some b := hb
      show ∃ b', hget (hput (hunorg k s.hp) k blk') m = some b' ∧ _
      rw [hgp]
      split
      · rename_i e; subst e; rw [hk] at hb'; cases hb'; exact ⟨_, rfl, hsim⟩
      · rw [hb']; exact ⟨_, rfl, blk_sim_unorg k b⟩
    · by_cases e : b = g
      · subst e; exact hsh
      · exact shape_same (hs.block b (h.lab m b hb).1 (fun e' => e (Option.some.inj e')))
  refine ⟨h.defers, by simp [unorgs_length, h.len], h.keep.step hs (fun b e => by cases e; exact (h.lab k g hg).2) (fun m b _ e => by cases e; exact hsh), fun i => ?_, fun m b hm => ?_, fun m hm => ?_, h.inj, h.sep, fun m b hb => ⟨hsz ▸ (h.lab m b hb).1, (h.lab m b hb).2⟩, fun b p hb => ⟨hsz ▸ (h.colb b p hb).1, (h.colb b p hb).2⟩, h.pins, by
    show hget (hput (hunorg k s.hp) k blk') limKey = none
    rw [hgp, h.nolim, if_neg (fun e => by rw [e, h.nolim] at hk; cases hk)]; rfl⟩
  · simp only [gt_unorgs]; exact AVr.unorg k hle _ _ (h.tm i)
  · have hm' : hget (hput (hunorg k s.hp) k blk') m = some b := hm
    rw [hgp] at hm'
    split at hm'
    · rename_i e; subst e; cases hm'; exact hb (fun b hb => (hle.dp b hb).1)
    · rename_i e
      simp only [Option.map_eq_some_iff] at hm'
      obtain ⟨b0, hb0, rfl⟩ := hm'
      exact (h.hp m b0 hb0).unorg hle rfl (fun b' hb' => hs.block b' (h.lab m b' hb').1 (fun e' => e (h.inj k m b' (by rw [hg, Option.some.inj e']) hb')))
        (fun b i j hc => ⟨hc, o3 b _ hc⟩)
  · have hm' : hget (hput (hunorg k s.hp) k blk') m = none := hm
    rw [hgp] at hm'
    split at hm'
    · cases hm'
    · simp only [Option.map_eq_none_iff] at hm'; exact h.dom m hm'
theorem SimR.renew (h : SimR B ρ col s a w) {k g : Nat} {blk blk' : Blk} (hk : hget s.hp k = some blk) (hp : k < pin) (hs : WStep w w' (ρ k)) (hg : ρ k = some g ∨ (w.heap.size ≤ g ∧ g < w'.heap.size))
    (hb : (cx B ρ col w s.hp).le (cx B (setlab ρ k g) col w' (hput (s.kill k).hp k blk')) (fun m => m ≠ k) → BlkR (cx B (setlab ρ k g) col w' (hput (s.kill k).hp k blk')) col k blk') :
    SimR B (setlab ρ k g) col ⟨(s.kill k).tm, hput (s.kill k).hp k blk'⟩ a w' := by
  obtain ⟨o1, o2, o3⟩ := own_blocks h hs (fun b e => ⟨k, e⟩)
  have hnew : ∀ b, b < w.heap.size → (∀ m, ρ m ≠ some b) → ∀ m, setlab ρ k g m ≠ some b := by
    intro b hb hm m
    unfold setlab
    split
    · intro e; cases e
      rcases hg with hg | hg
      · exact hm k hg
      · omega
    · exact hm m
  have hle : (cx B ρ col w s.hp).le (cx B (setlab ρ k g) col w' (hput (s.kill k).hp k blk')) fun m => m ≠ k := by
    refine ⟨fun m hm _ => by simp [cx, setlab, hm], fun m b hm hb => ⟨b.kill k, ?_, blk_sim_kill k b⟩, fun b hb => ⟨⟨Nat.lt_of_lt_of_le hb.1 hs.size, hb.2.1, hb.2.2.1, hnew b hb.1 hb.2.2.2⟩, o1 b hb⟩,
      fun b hb => ⟨⟨Nat.lt_of_lt_of_le hb.1 hs.size, hnew b hb.1 hb.2.1, hb.2.2⟩, o2 b hb⟩, fun m b hm hb => shape_same (hs.block b (h.lab m b hb).1 (fun e => hm (h.inj m k b hb e.symm))), fun m b hm hb _ => hs.block b (h.lab m b hb).1 (fun e => hm (h.inj m k b hb e.symm))⟩
    have hb' : hget s.hp m = some b := hb
    show hget (hput (s.kill k).hp k blk') m = _
    rw [hget_hput, if_neg (Ne.symm hm), hget_kill, hb']
    rfl
  refine ⟨h.defers, by simp [St.kill, kills_length, h.len], h.keep.step hs (fun b e => (h.lab k b e).2) (fun m b hm e => by have h1 := (h.keep.lp m b hm).1; have h2 := h.inj m k b ((h.pins m h1).trans hm) e.symm; omega), fun i => ?_, fun m b hm => ?_, fun m hm => ?_, fun m m' b h1 h2 => ?_, fun m b h1 => ?_, fun m b h1 => ?_, fun b p hb => ⟨Nat.lt_of_lt_of_le (h.colb b p hb).1 hs.size, (h.colb b p hb).2⟩, fun m hm => by rw [← h.pins m hm]; simp only [setlab]; rw [if_neg (by omega)], by rw [hget_hput, hget_kill, h.nolim, if_neg (ne_lim hp)]; rfl⟩
  · simp only [St.kill, gt_kills]
    exact AVr.kill k hle _ _ (h.tm i)
  · have hm' : hget (hput (s.kill k).hp k blk') m = some b := hm
    rw [hget_hput] at hm'
    split at hm'
    · rename_i e; subst e; cases hm'; exact hb hle
    · rename_i e
      rw [hget_kill] at hm'
      simp only [Option.map_eq_some_iff] at hm'
      obtain ⟨b0, hb0, rfl⟩ := hm'
      refine (h.hp m b0 hb0).kill hle (by simp [cx, setlab, Ne.symm e]) (fun b' hb' => hs.block b' (h.lab m b' hb').1 (fun e' => e (h.inj k m b' e'.symm hb'))) (fun b i j hc => ⟨hc, o3 b _ hc⟩)
  · have hm' : hget (hput (s.kill k).hp k blk') m = none := hm
    rw [hget_hput] at hm'
    split at hm'
    · cases hm'
    · rename_i e
      rw [hget_kill] at hm'
      simp only [Option.map_eq_none_iff] at hm'
      simp only [setlab, if_neg (Ne.symm e)]; exact h.dom m hm'
  · unfold setlab at h1 h2
    split at h1
    · split at h2
      · rename_i e1 e2; exact e1.trans e2.symm
      · rename_i e1 e2
        cases h1
        rcases hg with hg | hg
        · exact absurd (h.inj m' k _ h2 hg) e2
        · have := (h.lab m' _ h2).1; omega
    · split at h2
      · rename_i e1 e2
        cases h2
        rcases hg with hg | hg
        · exact absurd (h.inj m k _ h1 hg) e1
        · have := (h.lab m _ h1).1; omega
      · exact h.inj m m' b h1 h2
  · unfold setlab at h1
    split at h1
    · cases h1
      rcases hg with hg | hg
      · exact h.sep k _ hg
      · cases hc : col g with
        | none => rfl
        | some p => have := (h.colb _ p hc).1; omega
    · exact h.sep m b h1
  · unfold setlab at h1
    split at h1
    · cases h1
      rcases hg with hg | hg
      · exact ⟨Nat.lt_of_lt_of_le (h.lab k _ hg).1 hs.size, (h.lab k _ hg).2⟩
      · exact ⟨hg.2, .inr (Nat.le_trans h.keep.size hg.1)⟩
    · exact ⟨Nat.lt_of_lt_of_le (h.lab m b h1).1 hs.size, (h.lab m b h1).2⟩
end
theorem wstep_alloc (w : World) (o : Obj) : WStep w (w.alloc o) none :=
  ⟨rfl, rfl, rfl, DrLe.of_le (Nat.le_refl _), by simp, fun b hb _ => by
    simp only [World.alloc]
    rw [Array.getElem?_push_lt hb]
    exact (Array.getElem?_eq_getElem hb).symm⟩
theorem wstep_drew_alloc (w : World) (o : Obj) : WStep w (w.drew.alloc o) none :=
  let h := wstep_alloc w.drew o
  ⟨h.os, h.tape, h.output, DrLe.trans (DrLe.of_le (Nat.le_succ _)) h.drawn, h.size, h.block⟩
theorem alloc_new (w : World) (o : Obj) : (w.alloc o).heap[w.heap.size]? = some o := by
  show (w.heap.push o)[w.heap.size]? = some o
  simp
theorem repl_nil {α : Type} (o : Nat) (l : List α) : repl o [] l = l := by cases l <;> cases o <;> rfl
theorem setCells_row {g : Nat} {e : TypeId} {fr : Nat × Nat} : ∀ (vs : List Value) (o : Nat) (w : World) (cur : Array Value), w.heap[g]? = some (.cells cur e fr) → o + vs.length ≤ cur.size →
    (w.setCells g o vs).heap[g]? = some (.cells (repl o vs cur.toList).toArray e fr) ∧ WStep w (w.setCells g o vs) (some g) ∧ (w.setCells g o vs).heap.size = w.heap.size
  | [], o, w, cur, h, _ => by
    refine ⟨?_, ⟨rfl, rfl, rfl, DrLe.of_le (Nat.le_refl _), Nat.le_refl _, fun _ _ _ => rfl⟩, rfl⟩
    rw [repl_nil]
    simpa [World.setCells] using h
  | v :: vs, o, w, cur, h, hl => by
    simp only [List.length_cons] at hl
    have hlt := heap_lt h
    have h1 : (w.setCell ⟨g, o, none⟩ v).heap[g]? = some (.cells (cur.setIfInBounds o v) e fr) := by
      simp [World.setCell, Array.getElem?_modify, h]
    obtain ⟨e1, e2, e3⟩ := setCells_row vs (o + 1) (w.setCell ⟨g, o, none⟩ v) (cur.setIfInBounds o v) h1 (by simp; omega)
    refine ⟨?_, ⟨e2.os, e2.tape, e2.output, e2.drawn, by simpa [World.setCells] using e2.size, fun b hb hn => ?_⟩, by simpa [World.setCells] using e3⟩
    · rw [World.setCells, e1]
      congr 3
      apply List.ext_getElem?
      intro i
      rw [repl_get _ _ _ _ (by simp; omega), repl_get _ _ _ _ (by simp; omega)]
      simp only [Array.toList_setIfInBounds, List.getElem?_set, Array.length_toList, List.length_cons]
      by_cases h1 : i = o
      · subst h1
        rw [if_neg (by omega), if_pos (by omega), if_pos (by omega)]
        simp
      · by_cases h2 : o + 1 ≤ i ∧ i < o + 1 + vs.length
        · rw [if_pos h2, if_pos (by omega), show i - o = (i - (o + 1)) + 1 by omega]; simp
        · rw [if_neg h2, if_neg (by omega), if_neg (by omega)]
    · rw [World.setCells, e2.block b (by simpa using hb) hn]
      have : g ≠ b := fun e => hn (by rw [e])
      simp [World.setCell, Array.getElem?_modify, this]
end Go.Proofs.YtcpfhonmdbhdbaaGreatDoor.Am
namespace Go.Proofs.YtcpfhonmdbhdbaaGreatDoor.Am
open Go
set_option linter.unusedVariables false
section
variable {P : Program} {Γ : Env} {B : Base} {ρ ρ' : Nat → Option Nat} {col col' : Col} {s s' : St} {a : Act} {w w' : World}
def soft (Γ : Env) : Op → Bool
  | .store .. => false
  | .call ⟨.builtin .append, _, _⟩ => false
  | .call ⟨.value (.func f), _, _⟩ => !Γ.opn f
  | .call ⟨.value _, _, _⟩ => false
  | _ => true
def Done (P : Program) (Γ : Env) (B : Base) (s' : St) (a : Act) (w : World) (o : Oper) : Prop :=
  ∃ n w', (execOp a.eval o).run P w = .ok n w' ∧ (soft Γ o.op = true → WStep w w' none) ∧ ((∃ u, n = .value u ∧ Sim B s' (a.put o.dst u) w') ∨ (n = .skip ∧ Sim B s' (a.put o.dst Go.undef) w'))
theorem WStep.same (w : World) : WStep w w none := ⟨rfl, rfl, rfl, DrLe.of_le (Nat.le_refl _), Nat.le_refl _, fun _ _ _ => rfl⟩
theorem WStep.trans {w1 w2 w3 : World} (h : WStep w1 w2 none) (h' : WStep w2 w3 none) : WStep w1 w3 none :=
  ⟨h'.os.trans h.os, h'.tape.trans h.tape, h'.output.trans h.output, DrLe.trans h.drawn h'.drawn, Nat.le_trans h.size h'.size, fun b hb _ => (h'.block b (Nat.lt_of_lt_of_le hb h.size) (by simp)).trans (h.block b hb (by simp))⟩
theorem frOk0 (n : Nat) : frOk (0, 0) n := fun h => absurd h (Nat.lt_irrefl 0)
theorem lay_some {i k : Nat} {v : AV} {b : Blk} (h : lay s i k v b = some s') : hget s.hp k = none ∧ s' = ⟨pt s.tm i v, hput s.hp k b⟩ ∧ k < pin := by
  unfold lay at h
  split at h
  · rename_i e
    split at h
    · rename_i hp; cases h; exact ⟨e, rfl, hp⟩
    · cases h
  · cases h
theorem box_ok (h : SimR B ρ col s a w) {i : Nat} {cs : List AV} {vs : List Value} {e : Nat} (hv : AVr.AVrs (cx B ρ col w s.hp) cs vs ∨ ∀ c : Cx, AVr.AVrs c cs vs) (hl : lay s i (8 * i) (.ptr (8 * i) 0 0) (.box cs) = some s') :
    Sim B s' (a.put (some i) (.pointer (some ⟨w.heap.size, 0, none⟩))) (w.alloc (.cells vs.toArray e)) := by
  obtain ⟨hk, rfl, hp⟩ := lay_some hl
  refine ⟨_, _, h.lay hk hp (wstep_alloc w _) (by simp) (fun hle => ?_) ?_⟩
  · refine ⟨w.heap.size, vs, e, (0, 0), by simp [cx, setlab], alloc_new w _, frOk0 _, ?_⟩
    rcases hv with hv | hv
    · exact AVrs.mono hle _ _ hv
    · exact hv _
  · refine ⟨w.heap.size, by simp [cx, setlab], ?_⟩
    simp [cx, hget_hput]
theorem alloc_ok (hΓ : TysOk P Γ) (h : SimR B ρ col s a w) {o : Oper} {e : Nat} (ho : o.op = .alloc e) (hs : stepOp Γ s o.dst (.alloc e) = some s') : Done P Γ B s' a w o := by
  simp only [stepOp, Option.bind_eq_some_iff] at hs
  obtain ⟨i, hi, y, hy, hl⟩ := hs
  obtain ⟨inf, hinf, hsz, z, hz, hzc⟩ := (hΓ _ _ hy).info
  refine ⟨_, _, ?_, fun _ => wstep_alloc w _, .inl ⟨_, rfl, by rw [hi]; exact box_ok h (vs := z.cells.toList) (e := e) (.inr hzc) hl⟩⟩
  simp [execOp, ho, Instr.alloc, zeroValue, typeInfo, hinf, hz, newVar, newRow]
theorem boxOp_ok (hΓ : TysOk P Γ) (h : SimR B ρ col s a w) {o : Oper} {e : Nat} {x : Operand} (ho : o.op = .box e x) (hs : stepOp Γ s o.dst (.box e x) = some s') : Done P Γ B s' a w o := by
  simp only [stepOp, Option.bind_eq_some_iff] at hs
  obtain ⟨i, hi, y, hy, hl⟩ := hs
  split at hl
  · rename_i hc
    obtain ⟨h1, h2, h3⟩ := cells_ok (h.ev x) (by omega)
    refine ⟨_, _, ?_, fun _ => wstep_alloc w _, .inl ⟨_, rfl, by rw [hi]; exact box_ok h (vs := (a.eval x).cells.toList) (e := e) (.inl h1) hl⟩⟩
    simp [execOp, ho, Instr.box, newVar, newRow]
  · cases hl
theorem store_box {k g j : Nat} {cs : List AV} {us : List Value} {xs : List AV} (h : SimR B ρ col s a w) (hk : hget s.hp k = some (.box cs)) (hg : ρ k = some g) (hx : AVr.AVrs (cx B ρ col w s.hp) xs us) (hj : j + xs.length ≤ cs.length) :
    SimR B ρ col ⟨s.tm, hput s.hp k (.box (repl j xs cs))⟩ a (w.setCells g j us) ∧ w.there g j us.length := by
  obtain ⟨b, vs, e, fr, hb, hh, hf, hvs⟩ := h.hp k _ hk
  have hb' : ρ k = some b := hb
  rw [hg] at hb'; cases hb'
  have hh' : w.heap[g]? = some (.cells vs.toArray e fr) := hh
  have hl := AVrs_length hvs
  have hlx := AVrs_length hx
  obtain ⟨e1, e2, e3⟩ := setCells_row us j w vs.toArray hh' (by simp; omega)
  refine ⟨h.upd hg hk trivial e2 e3 (by simp [World.shape?, e1, hh', repl_length]) (fun hle => ⟨g, repl j us vs, e, fr, hg, by simpa [cx] using e1, by rw [repl_length]; exact hf, AVrs_repl (AVrs.mono hle _ _ hx) (AVrs.mono hle _ _ hvs)⟩), fun q hq => ⟨?_, ?_⟩⟩
  · have : j + q < vs.length := by omega
    simp [World.cell?, hh', this]
  · have : j + q < vs.length := by omega
    have : ¬ (fr.1 ≤ j + q ∧ j + q < fr.2) := fun hc => by have := hf (by omega); omega
    obtain ⟨lo, hi⟩ := fr
    simp only [World.frozen?, hh']
    simpa using this
theorem mul_add_lt {i n sz j : Nat} (hi : i < n) (hj : j < sz) : i * sz + j < n * sz := by
  calc i * sz + j < i * sz + sz := by omega
    _ = (i + 1) * sz := by rw [Nat.add_mul]; omega
    _ ≤ n * sz := Nat.mul_le_mul_right sz hi
theorem store_rows {k g i j sz : Nat} {rs : List (List T)} {ts : List T} {us : List Value} (h : SimR B ρ col s a w) (hk : hget s.hp k = some (.rows sz rs)) (hg : ρ k = some g) (hi : i < rs.length) (hl : ts.length = us.length) (hj : j + ts.length ≤ sz)
    (ho : ∀ (q : Nat) (t : T) (u : Value), ts[q]? = some t → us[q]? = some u → Own w (cx B ρ col w s.hp).Dp (fun b => col b = some (k, i, j + q)) t u) :
    SimR B ρ col ⟨AV.unorg.unorgs k s.tm, hput (hunorg k s.hp) k (.rows sz (rs.set i (repl j ts (rs.getD i []))))⟩ a (w.setCells g (i * sz + j) us) ∧ w.there g (i * sz + j) us.length ∧ WStep w (w.setCells g (i * sz + j) us) (some g) := by
  obtain ⟨hrow, hrest⟩ := h.hp k _ hk
  have hri : rs[i]? = some (rs.getD i []) := by simp [List.getD_eq_getElem?_getD, List.getElem?_eq_getElem hi]
  have hrl := hrow i _ hri
  rcases hrest with ⟨b, cells, e, fr, u, hb, hh, hf, hsz, hu, how⟩ | ⟨rfl, _⟩
  · have hb' : ρ k = some b := hb
    rw [hg] at hb'; cases hb'
    have hh' : w.heap[g]? = some (.cells cells e fr) := hh
    have hin : ∀ q, q < us.length → i * sz + j + q < cells.size := fun q hq => by
      have := mul_add_lt hi (show j + q < sz by omega); omega
    have htot : i * sz + j + us.length ≤ cells.size := by
      have : i * sz + sz ≤ rs.length * sz := by
        calc i * sz + sz = (i + 1) * sz := by rw [Nat.add_mul]; omega
          _ ≤ rs.length * sz := Nat.mul_le_mul_right sz hi
      omega
    obtain ⟨e1, e2, e3⟩ := setCells_row us (i * sz + j) w cells hh' htot
    refine ⟨h.updR hg hk ⟨rfl, by simp⟩ e2 e3 (by simp [World.shape?, e1, hh', repl_length]) (fun hle => ?_), fun q hq => ⟨?_, ?_⟩, e2⟩
    · obtain ⟨o1, o2, o3⟩ := own_blocks h e2 (fun b e => by cases e; exact ⟨k, hg⟩)
      refine ⟨fun i' r hr => ?_, .inl ⟨g, _, e, fr, fun i' j' => if i' = i ∧ j ≤ j' ∧ j' < j + us.length then us.getD (j' - j) Go.undef else u i' j', hg, e1, by simpa [repl_length] using hf, by simpa [repl_length] using hsz, fun i' r j' x hr hx => ?_, fun i' r j' x hr hx => ?_⟩⟩
      · rw [List.getElem?_set] at hr
        split at hr
        · cases hr; rw [repl_length]; exact hrl
        · exact hrow i' r hr
      · show (repl (i * sz + j) us cells.toList).toArray[i' * sz + j']? = _
        have hjl : j' < sz := by
          rw [List.getElem?_set] at hr
          split at hr
          · cases hr
            have := (List.getElem?_eq_some_iff.1 hx).1
            rw [repl_length] at this; omega
          · have := (List.getElem?_eq_some_iff.1 hx).1
            have := hrow i' r hr; omega
        simp only [List.getElem?_toArray]
        rw [repl_get _ _ _ _ (by simpa using htot)]
        by_cases hc : i' = i ∧ j ≤ j' ∧ j' < j + us.length
        · obtain ⟨rfl, c1, c2⟩ := hc
          rw [if_pos (by omega), if_pos ⟨rfl, c1, c2⟩, show i' * sz + j' - (i' * sz + j) = j' - j by omega]
          rw [List.getElem?_eq_getElem (by omega)]
          simp [List.getD_eq_getElem?_getD, List.getElem?_eq_getElem (show j' - j < us.length by omega)]
        · rw [if_neg hc]
          have hnot : ¬ (i * sz + j ≤ i' * sz + j' ∧ i' * sz + j' < i * sz + j + us.length) := by
            intro hb
            by_cases hii : i' = i
            · subst hii; exact hc ⟨rfl, by omega, by omega⟩
            · rcases Nat.lt_or_gt_of_ne hii with h1 | h1
              · have := mul_add_lt h1 hjl; omega
              · have : i * sz + (j + us.length) ≤ i' * sz := by
                  calc i * sz + (j + us.length) ≤ i * sz + sz := by omega
                    _ = (i + 1) * sz := by rw [Nat.add_mul]; omega
                    _ ≤ i' * sz := Nat.mul_le_mul_right sz h1
                omega
          rw [if_neg hnot]
          rw [List.getElem?_set] at hr
          split at hr
          · rename_i e'
            subst e'
            cases hr
            rw [repl_get _ _ _ _ (by omega)] at hx
            split at hx
            · rename_i hcc; exact absurd ⟨rfl, hcc.1, by omega⟩ hc
            · simpa using hu i _ j' x hri hx
          · simpa using hu i' r j' x hr hx
      · have hown : ∀ S x v, Own w (cx B ρ col w s.hp).Dp S x v → (∀ b, S b → ∃ p, col b = some p) → Own (w.setCells g (i * sz + j) us) (cx B ρ col (w.setCells g (i * sz + j) us) (hput (hunorg k s.hp) k (.rows sz (rs.set i (repl j ts (rs.getD i [])))))).Dp S x v :=
          fun S x v hS hp => hS.mono o1 hle (fun b hb => by obtain ⟨p, hp⟩ := hp b hb; exact o3 b p hp) (fun _ h => h)
        dsimp only
        rw [List.getElem?_set] at hr
        split at hr
        · rename_i e'
          subst e'
          cases hr
          rw [repl_get _ _ _ _ (by omega)] at hx
          split at hx
          · rename_i hcc
            rw [if_pos ⟨rfl, hcc.1, by omega⟩]
            have hlt : j' - j < us.length := by have := hcc.2; omega
            have := ho (j' - j) x (us.getD (j' - j) Go.undef) hx (by simp [List.getD_eq_getElem?_getD, List.getElem?_eq_getElem hlt])
            rw [show j + (j' - j) = j' by have := hcc.1; omega] at this
            exact hown _ _ _ this (fun b hb => ⟨_, hb⟩)
          · rename_i hcc
            rw [if_neg (fun h' => hcc ⟨h'.2.1, by have := h'.2.2; omega⟩)]
            exact hown _ _ _ (how i _ j' x hri hx) (fun b hb => ⟨_, hb⟩)
        · rename_i e'
          rw [if_neg (fun h' => e' h'.1.symm)]
          exact hown _ _ _ (how i' r j' x hr hx) (fun b hb => ⟨_, hb⟩)
    · have := hin q hq
      simp [World.cell?, hh', this]
    · have h1 := hin q hq
      have : ¬ (fr.1 ≤ i * sz + j + q ∧ i * sz + j + q < fr.2) := fun hc => by have := hf (by omega); omega
      obtain ⟨lo, hi⟩ := fr
      simp only [World.frozen?, hh']
      simpa using this
  · simp at hi
theorem run_store_cells {t : Nat} {y : Ty} (hy : TyOk P t y) {g o : Nat} {v : Value} (hsz : v.cells.size = y.size) (h1 : ∀ u ∈ v.cells.toList, u.oneCell' = true) (ht : w.there g o v.cells.size) :
    (Instr.storeAt t (.pointer (some ⟨g, o, none⟩)) v).run P w = .ok () (w.setCells g o v.cells.toList) := by
  have := run_storeCells_cells (P := P) g o v.cells.toList 0 w (fun j hj => by simpa using (ht j (by simpa using hj)).1) (fun j hj => by simpa using (ht j (by simpa using hj)).2) h1
  simp only [Nat.add_zero] at this
  simp [Instr.storeAt, Instr.sureAddr, storeVar, hy.sizeOf, hsz, this]
theorem SimR.retm {tm' : List AV} (h : SimR B ρ col s a w) (hl : tm'.length = s.tm.length) (ht : ∀ i, gt tm' i = gt s.tm i ∨ AVr (cx B ρ col w s.hp) (gt tm' i) (a.tmps.getD i Go.undef)) : SimR B ρ col ⟨tm', s.hp⟩ a w :=
  ⟨h.defers, hl.trans h.len, h.keep, fun i => by rcases ht i with e | e
                                                 · show AVr _ (gt tm' i) _
                                                   rw [e]; exact h.tm i
                                                 · exact e, h.hp, h.dom, h.inj, h.sep, h.lab, h.colb, h.pins, h.nolim⟩
theorem retag_length (m : Nat) (x : AV) : ∀ l l' : List AV, (retag m x l l').length = l'.length
  | [], l' => by simp [retag]
  | _ :: _, [] => by simp [retag]
  | a :: l, y :: l' => by simp [retag, retag_length m x l l']
theorem gt_retag (m : Nat) (x : AV) : ∀ (l l' : List AV) (i : Nat), gt (retag m x l l') i = gt l' i ∨ (gt l i = .refw m ∧ gt (retag m x l l') i = x)
  | [], l', i => .inl (by simp [retag])
  | _ :: _, [], i => .inl (by simp [retag])
  | a :: l, y :: l', 0 => by
    simp only [retag, gt]
    unfold retag1
    split
    · rename_i n
      by_cases hn : n = m
      · subst hn; right; simp
      · left; simp [hn]
    · left; rfl
  | a :: l, y :: l', i + 1 => by simpa only [retag, gt] using gt_retag m x l l' i
theorem RefW.rd {c : Cx} {m sz : Nat} {rs : List (List T)} {v v' : Value} {w : World} {D : Dm} (h : RefW c m sz rs v) (h' : RefW c m sz rs v') (hr : Rd w D (.list true sz rs) v) : Rd w D (.list true sz rs) v' := by
  rcases h' with ⟨b, cap, e, n, h1, rfl, h3, _⟩ | ⟨rfl, a, rfl⟩
  · cases rs with
    | nil => exact .nil ..
    | cons r rs =>
      rcases h with ⟨b', cap', e', n', h1', rfl, h3', _⟩ | ⟨h0, _⟩
      · obtain rfl : b = b' := by rw [h1] at h1'; exact Option.some.inj h1'
        have hl : (r :: rs).length = (r :: rs).length := rfl
        generalize hv : Value.slice (some ⟨b, 0, none⟩) (r :: rs).length cap' = v at hr
        generalize hx : T.list true sz (r :: rs) = x at hr
        cases hr <;> cases hx
        obtain ⟨e1, e2, e3⟩ := Value.slice.inj hv
        obtain ⟨rfl, rfl, _⟩ := Addr.mk.inj (Option.some.inj e1)
        exact .list true sz (r :: rs) b 0 cap _ h3 (by assumption) (by assumption) (by assumption) (by assumption)
      · cases h0
  · exact .nil ..
theorem storeOp_ok (hΓ : TysOk P Γ) (h : SimR B ρ col s a w) {o : Oper} {t : Nat} {x z : Operand} (ho : o.op = .store t x z) (hs : stepOp Γ s o.dst (.store t x z) = some s') : Done P Γ B s' a w o := by
  simp only [stepOp, Option.bind_eq_some_iff, Option.map_eq_some_iff] at hs
  obtain ⟨y, hy, s1, hs1, rfl⟩ := hs
  unfold storeOp at hs1
  split at hs1
  · rename_i hc
    obtain ⟨h1, h2, h3⟩ := cells_ok (h.ev z) (by omega)
    have hlen := AVrs_length h1
    have hsz : (a.eval z).cells.size = y.size := by simp at hlen; omega
    have hx := h.ev x
    split at hs1
    · rename_i k i j he
      rw [he] at hx
      obtain ⟨g, hg, hm⟩ := hx
      have hg' : ρ k = some g := hg
      cases hk : hget s.hp k with
      | none => simp [hk] at hs1
      | some blk =>
        have hm' : (match hget s.hp k with | some (.box _) => a.eval x = .pointer (some ⟨g, j, none⟩) ∧ i = 0 | some (.rows sz _) => a.eval x = .pointer (some ⟨g, i * sz + j, none⟩) | none => False) := hm
        cases blk with
        | box cs =>
          simp only [hk] at hs1 hm'
          split at hs1
          · rename_i hcl
            cases hs1
            have hjl : j + (s.ev z).cells.length ≤ cs.length := by have := hc.1; omega
            obtain ⟨g1, g2⟩ := store_box h hk hg' h1 hjl
            refine ⟨_, _, ?_, fun h => (by simp [ho, soft] at h), .inr ⟨rfl, _, _, g1.put (x := .skip) rfl o.dst⟩⟩
            simp [execOp, ho, hm'.1, run_store_cells (hΓ _ _ hy) hsz h2 (by simpa using g2)]
          · cases hs1
        | rows sz rs =>
          simp only [hk] at hs1 hm'
          split at hs1
          · rename_i hcl
            simp only [Option.bind_eq_some_iff] at hs1
            obtain ⟨⟨ts, ks⟩, hcl', hs1⟩ := hs1
            split at hs1
            · cases hs1
            · rename_i hnk
              cases hs1
              simp only at hnk
              obtain ⟨ρ1, col1, g1, g2, g3, g4, g5, g6, g7⟩ := h.close (fun q => (k, i, j + q)) 0 h1 hcl' (fun q => hnk) (fun q e => by simp only at e; rw [e, h.nolim] at hk; cases hk)
              have hk1 : hget (s.drops ks).hp k = some (.rows sz rs) := by
                obtain ⟨b', e1, e2⟩ := g2.hp k _ hnk hk
                have hb : ∀ (ks : List Nat) (s : St), k ∉ ks → hget s.hp k = some (.rows sz rs) → hget (s.drops ks).hp k = some (.rows sz rs) := by
                  intro ks
                  induction ks with
                  | nil => intro s _ h; exact h
                  | cons m ks ih =>
                    intro s hn hg
                    simp only [List.mem_cons, not_or] at hn
                    show hget ((s.drops ks).drop m).hp k = _
                    rw [hget_drop, if_neg (Ne.symm hn.1), ih s hn.2 hg]
                    rfl
                exact hb ks s hnk hk
              simp only [Array.length_toList] at g3
              have hjl : j + ts.length ≤ sz := by have := hc.1; omega
              obtain ⟨f1, f2, f5⟩ := store_rows g1 hk1 (by rw [g4 k hnk]; exact hg') hcl.1 (ts := ts) (us := (a.eval z).cells.toList) (by simpa using g3) hjl (fun q t u ht hu => by simpa using g7 q t u ht hu)
              have f3 : SimR B ρ1 col1 ⟨retags s.hp (s.ev z) s.tm (AV.unorg.unorgs k (s.drops ks).tm), hput (hunorg k (s.drops ks).hp) k (.rows sz (rs.set i (repl j ts (rs.getD i []))))⟩ a (w.setCells g (i * sz + j) (a.eval z).cells.toList) := by
                unfold retags
                split
                · rename_i m hzm
                  split
                  · rename_i sz' rs' hkm
                    refine f1.retm (retag_length _ _ _ _) fun q => ?_
                    rcases gt_retag m (.ls (.list true sz' rs') none) s.tm (AV.unorg.unorgs k (s.drops ks).tm) q with e | ⟨e1, e2⟩
                    · exact .inl e
                    · right
                      simp only [e2]
                      have hz := h.ev z
                      have hq := h.tm q
                      rw [hzm] at hz
                      rw [e1] at hq
                      obtain ⟨sz1, rs1, k1, k2⟩ := hz
                      obtain ⟨sz2, rs2, k3, k4⟩ := hq
                      have k1' : hget s.hp m = some (.rows sz1 rs1) := k1
                      have k3' : hget s.hp m = some (.rows sz2 rs2) := k3
                      rw [hkm] at k1' k3'
                      cases k1'
                      cases k3'
                      refine ⟨k2.rd k4 ?_, trivial⟩
                      have hts : ts = [T.list true sz' rs'] := by
                        rw [hzm] at hcl'
                        simp only [AV.cells, AV.stb, if_true, closeCells, hkm, Option.bind_some, List.not_mem_nil, false_or] at hcl'
                        split at hcl'
                        · cases hcl'
                        · cases hcl'; rfl
                      have hvc : (a.eval z).cells.toList = [a.eval z] := by
                        rcases k2 with ⟨b, cap, e, n, _, hv, _⟩ | ⟨_, a', hv⟩ <;> rw [hv] <;> rfl
                      have ho7 := g7 0 (T.list true sz' rs') (a.eval z) (by rw [hts]; rfl) (by first | (rw [hvc]; rfl) | (simp [hvc]))
                      have hb1 := g1.lab
                      have hsep := g1.sep
                      have hcolb := g1.colb
                      have hgk : ρ1 k = some g := by rw [g4 k hnk]; exact hg'
                      refine (ho7.rd' (E := fun b => b < w.heap.size ∧ (∀ k, ρ1 k ≠ some b) ∧ ∀ i j, col1 b ≠ some (limKey, i, j)) ?_ ?_).mono (fun b hb => ?_) (fun b hb => ⟨Nat.lt_of_lt_of_le hb.1 f5.size, hb.2⟩)
                      · intro b hb
                        exact ⟨hb.1, hb.2.2.2, fun i' j' e => by rw [hb.2.2.1] at e; cases e⟩
                      · intro b hb
                        refine ⟨(hcolb b _ hb).1, fun k' e => ?_, fun i' j' e => ?_⟩
                        · have := hsep k' b e; rw [hb] at this; cases this
                        · rw [hb] at e
                          have e2 : k = limKey := (Prod.mk.inj (Option.some.inj e)).1
                          rw [e2, h.nolim] at hk; cases hk
                      · have hbg : b ≠ g := fun e => hb.2.1 k (by rw [e]; exact hgk)
                        exact f5.block b hb.1 (fun e => hbg (Option.some.inj e))
                  · exact f1
                · exact f1
              refine ⟨_, _, ?_, fun h => (by simp [ho, soft] at h), .inr ⟨rfl, _, _, f3.put (x := .skip) rfl o.dst⟩⟩
              simp [execOp, ho, hm', run_store_cells (hΓ _ _ hy) hsz h2 (by simpa using f2)]
          · cases hs1
    · cases hs1
  · cases hs1
end
end Go.Proofs.YtcpfhonmdbhdbaaGreatDoor.Am
namespace Go.Proofs.YtcpfhonmdbhdbaaGreatDoor.Am
open Go
set_option linter.unusedVariables false
section
variable {P : Program} {Γ : Env} {B : Base} {ρ ρ' : Nat → Option Nat} {col col' : Col} {s s' : St} {a : Act} {w w' : World}
theorem hget_drops {k sz : Nat} {rs : List (List T)} : ∀ (ks : List Nat) (s : St), k ∉ ks → hget s.hp k = some (.rows sz rs) → hget (s.drops ks).hp k = some (.rows sz rs)
  | [], s, _, h => h
  | m :: ks, s, hn, hg => by
    simp only [List.mem_cons, not_or] at hn
    show hget ((s.drops ks).drop m).hp k = _
    rw [hget_drop, if_neg (Ne.symm hn.1), hget_drops ks s hn.2 hg]
    rfl
theorem drops_append (s : St) : ∀ (l m : List Nat), s.drops (l ++ m) = (s.drops m).drops l
  | [], m => rfl
  | k :: l, m => by
    show (s.drops (l ++ m)).drop k = ((s.drops m).drops l).drop k
    rw [drops_append s l m]
theorem close_move {c c' : Cx} {bad : List Nat} (hle : c.le c' fun m => m ∉ bad) : ∀ {xs : List AV} {us : List Value} {ts : List T} {ks : List Nat}, closeCells c.hp xs = some (ts, ks) → AVr.AVrs c xs us → (∀ k ∈ ks, k ∉ bad) →
    (∀ k sz rs, k ∉ bad → hget c.hp k = some (.rows sz rs) → hget c'.hp k = some (.rows sz rs)) → closeCells c'.hp xs = some (ts, ks) ∧ AVr.AVrs c' xs us := by
  intro xs
  induction xs with
  | nil =>
    intro us ts ks h hx _ _
    cases us with
    | nil => exact ⟨h, trivial⟩
    | cons => exact hx.elim
  | cons x xs ih =>
    intro us ts ks h hx hk hr
    cases us with
    | nil => exact hx.elim
    | cons u us =>
      unfold closeCells at h
      split at h
      · rename_i heq; cases heq
      · rename_i y l heq
        cases heq
        simp only [Option.map_eq_some_iff] at h
        obtain ⟨⟨ts', ks'⟩, h1, h2⟩ := h
        cases h2
        obtain ⟨e1, e2⟩ := ih h1 hx.2 hk hr
        exact ⟨by simp [closeCells, e1], Rd.mono (x := y) hx.1 (fun b hb => (hle.dp b hb).2) (fun b hb => (hle.dp b hb).1), e2⟩
      · rename_i sz l heq
        cases heq
        simp only [Option.map_eq_some_iff] at h
        obtain ⟨⟨ts', ks'⟩, h1, h2⟩ := h
        cases h2
        obtain ⟨e1, e2⟩ := ih h1 hx.2 hk hr
        exact ⟨by simp [closeCells, e1], hx.1, e2⟩
      · rename_i k l heq
        cases heq
        split at h
        · rename_i sz rs hg
          simp only [Option.bind_eq_some_iff] at h
          obtain ⟨⟨ts', ks'⟩, h1, h2⟩ := h
          split at h2
          · cases h2
          · rename_i hn0
            have hn := (not_or.1 hn0).1
            cases h2
            obtain ⟨e1, e2⟩ := ih h1 hx.2 (fun k hk' => hk k (by simp [hk'])) hr
            have hkb : k ∉ bad := hk k (by simp)
            have hg' := hr k sz rs hkb hg
            refine ⟨by simp only [closeCells, hg', e1, Option.bind_some]; rw [if_neg hn0], ?_, e2⟩
            obtain ⟨sz', rs', e3, e4⟩ := hx.1
            rw [hg] at e3; cases e3
            exact ⟨sz, rs, hg', e4.mono (hle.ρ k hkb (by simp [hg])) rfl (fun b hb => hle.sh k b hkb hb)⟩
        · cases h
      · cases h
theorem SimR.closeRows (L sz : Nat) : ∀ {xs : List AV} {us : List Value} {ts : List (List T)} {ks : List Nat} (i0 : Nat), SimR B ρ col s a w → AVr.AVrs (cx B ρ col w s.hp) xs us → closeRows s.hp sz xs = some (ts, ks) → L ∉ ks → L ≠ limKey →
    ∃ ρ' col', SimR B ρ' col' (s.drops ks) a w ∧ ((cx B ρ col w s.hp).le (cx B ρ' col' w (s.drops ks).hp) fun m => m ∉ ks) ∧ ts.length = us.length ∧
      (∀ m, m ∉ ks → ρ' m = ρ m) ∧ (∀ b m i j, m ∉ ks → col b = some (m, i, j) → col' b = some (m, i, j)) ∧
      (∀ (i : Nat) (r : List T), ts[i]? = some r → r.length = sz) ∧ (∀ u ∈ us, u.cells.size = sz ∧ ∀ v ∈ u.cells.toList, v.oneCell' = true) ∧
      (∀ (i : Nat) (r : List T) (u : Value) (j : Nat) (t : T) (v : Value), ts[i]? = some r → us[i]? = some u → r[j]? = some t → u.cells[j]? = some v → Own w (cx B ρ' col' w (s.drops ks).hp).Dp (fun b => col' b = some (L, i0 + i, j)) t v) := by
  intro xs
  induction xs with
  | nil =>
    intro us ts ks i0 h hx hc _ _
    simp [Am.closeRows] at hc
    obtain ⟨rfl, rfl⟩ := hc
    cases us with
    | cons => exact hx.elim
    | nil => exact ⟨ρ, col, h, ⟨fun _ _ _ => rfl, fun m b _ hb => ⟨b, hb, blk_sim_refl b⟩, fun b hb => ⟨hb, rfl⟩, fun b hb => ⟨hb, rfl⟩, fun _ _ _ _ => rfl, fun _ _ _ _ _ => rfl⟩, rfl, fun _ _ => rfl, fun _ _ _ _ _ h => h, fun i r hi => by simp at hi, fun u hu => by simp at hu, fun i r u j t v hi => by simp at hi⟩
  | cons x xs ih =>
    intro us ts ks i0 h hx hc hL hLl
    cases us with
    | nil => exact hx.elim
    | cons u us =>
      unfold Am.closeRows at hc
      split at hc
      · rename_i hcl
        simp only [Option.bind_eq_some_iff] at hc
        obtain ⟨⟨r1, k1⟩, hc1, ⟨q, k2⟩, hc2, hc⟩ := hc
        split at hc
        · cases hc
        · rename_i hdis
          cases hc
          simp only [List.mem_append, not_or] at hL
          have hdis' : ∀ k ∈ k1, k ∉ k2 := by
            intro k hk1 hk2
            exact hdis (List.any_eq_true.2 ⟨k, hk2, by simpa using hk1⟩)
          obtain ⟨hcells, hone, _⟩ := cells_ok hx.1 (by omega)
          have hlen := AVrs_length hcells
          obtain ⟨ρ1, col1, f1, f2, f3, f4, f5, f6, f7, f8⟩ := ih (i0 + 1) h hx.2 hc2 hL.2 hLl
          obtain ⟨m1, m2⟩ := close_move f2 (us := u.cells.toList) hc1 hcells hdis' (fun k sz rs hk hg => hget_drops k2 s hk hg)
          obtain ⟨ρ2, col2, g1, g2, g3, g4, g5, g6, g7⟩ := f1.close (fun j => (L, i0, j)) 0 m2 m1 (fun _ => hL.1) (fun _ => hLl)
          have hle12 : (cx B ρ col w s.hp).le (cx B ρ2 col2 w ((s.drops k2).drops k1).hp) fun m => m ∉ k1 ++ k2 := by
            refine ⟨fun m hm hn => ?_, fun m b hm hb => ?_, fun b hb => ⟨(g2.dp b (f2.dp b hb).1).1, rfl⟩, fun b hb => ⟨(g2.dl b (f2.dl b hb).1).1, rfl⟩, fun _ _ _ _ => rfl, fun _ _ _ _ _ => rfl⟩
            · simp only [List.mem_append, not_or] at hm
              exact (g4 m hm.1).trans (f4 m hm.2)
            · simp only [List.mem_append, not_or] at hm
              obtain ⟨b', e1, e2⟩ := f2.hp m b hm.2 hb
              obtain ⟨b'', e3, e4⟩ := g2.hp m b' hm.1 e1
              refine ⟨b'', e3, ?_⟩
              cases b <;> cases b' <;> cases b'' <;> simp [Blk.sim] at e2 e4 ⊢
              exact ⟨e2.1.trans e4.1, e2.2.trans e4.2⟩
          refine ⟨ρ2, col2, by rw [drops_append]; exact g1, by rw [drops_append]; exact hle12, by simp [f3], fun m hm => ?_, fun b m i j hm hb => ?_, fun i r hi => ?_, fun v hv => ?_, fun i r v j t z hi hv hj hz => ?_⟩
          · simp only [List.mem_append, not_or] at hm
            exact (g4 m hm.1).trans (f4 m hm.2)
          · simp only [List.mem_append, not_or] at hm
            exact g6 b m i j hm.1 (f5 b m i j hm.2 hb)
          · cases i with
            | zero => simp at hi; subst hi; simp at g3 hlen; omega
            | succ i => exact f6 i r (by simpa using hi)
          · rcases List.mem_cons.1 hv with rfl | hv
            · exact ⟨by simp at hlen; omega, hone⟩
            · exact f7 v hv
          · rw [drops_append]
            cases i with
            | zero =>
              simp at hi hv
              subst hi hv
              have := g7 j t z hj (by simpa using hz)
              simpa using this
            | succ i =>
              have := f8 i r v j t z (by simpa using hi) (by simpa using hv) hj hz
              rw [show i0 + 1 + i = i0 + (i + 1) by omega] at this
              exact this.mono (fun _ _ => rfl) (fun b hb => (g2.dp b hb).1) (fun _ _ => rfl) (fun b hb => g6 b L _ _ hL.1 hb)
      · cases hc
theorem fill_ok {size : Nat} {ev : Operand → Value} : ∀ (parts : List (Nat × Operand)) (xs : List Operand) (i0 : Nat) (cells : Array Value), inOrder i0 parts = some xs → (∀ x ∈ xs, (ev x).cells.size = size) → (i0 + xs.length) * size ≤ cells.size →
    ∃ out, Instr.fill (fun i => some (i * size, size)) cells (parts.map fun p => (p.1, ev p.2)) = some out ∧ out.size = cells.size ∧ (∀ p, p < i0 * size → out[p]? = cells[p]?) ∧
      ∀ (q : Nat) (x : Operand) (j : Nat), xs[q]? = some x → j < size → out[(i0 + q) * size + j]? = (ev x).cells[j]? := by
  intro parts
  induction parts with
  | nil =>
    intro xs i0 cells h _ _
    simp [inOrder] at h; subst h
    exact ⟨cells, rfl, rfl, fun _ _ => rfl, fun q x j hx => by simp at hx⟩
  | cons p parts ih =>
    obtain ⟨i, x⟩ := p
    intro xs i0 cells h hsz hl
    unfold inOrder at h
    split at h
    · rename_i e; subst e
      simp only [Option.map_eq_some_iff] at h
      obtain ⟨xs', h1, rfl⟩ := h
      simp only [List.length_cons] at hl
      have hx := hsz x (by simp)
      have hmul : (i + (xs'.length + 1)) * size = i * size + size + xs'.length * size := by simp [Nat.add_mul]; omega
      rw [hmul] at hl
      have hfold : ((ev x).cells.zipIdx.foldl (fun cs (c, j) => cs.setIfInBounds (i * size + j) c) cells).toList = repl (i * size) (ev x).cells.toList cells.toList := by
        rw [← Array.foldl_toList]
        have := fold_repl (i * size) (ev x).cells.toList 0 cells (by simp; omega)
        simpa using this
      generalize hc : (ev x).cells.zipIdx.foldl (fun cs (c, j) => cs.setIfInBounds (i * size + j) c) cells = cells1 at hfold
      have hs1 : cells1.size = cells.size := by rw [← Array.length_toList, hfold, repl_length]; simp
      obtain ⟨out, o1, o2, o3, o4⟩ := ih xs' (i + 1) cells1 h1 (fun y hy => hsz y (by simp [hy])) (by rw [hs1, Nat.add_mul, Nat.add_mul]; omega)
      have hget : ∀ p, cells1[p]? = (repl (i * size) (ev x).cells.toList cells.toList)[p]? := fun p => by rw [← hfold, Array.getElem?_toList]
      refine ⟨out, ?_, by omega, fun p hp => ?_, fun q y j hy hj => ?_⟩
      · simp only [List.map_cons, Instr.fill]
        rw [if_neg (by simp; omega)]
        rw [hc]; exact o1
      · rw [o3 p (by rw [Nat.add_mul]; omega), hget, repl_get _ _ _ _ (by simp; omega), if_neg (by omega)]; simp
      · cases q with
        | zero =>
          simp at hy; subst hy
          rw [Nat.add_zero, o3 _ (by rw [Nat.add_mul]; omega), hget, repl_get _ _ _ _ (by simp; omega), if_pos (by simp; omega)]
          simp
        | succ q =>
          rw [show i + (q + 1) = i + 1 + q by omega]
          exact o4 q y j (by simpa using hy) hj
    · cases h
theorem SimR.layRows (h : SimR B ρ col s a w) {k sz i e : Nat} {rs : List (List T)} {cells : Array Value} {cap : Nat} (hs : WStep w w' none) (hsz : w.heap.size < w'.heap.size) (hnew : w'.heap[w.heap.size]? = some (.cells cells e (0, 0))) (hk : hget s.hp k = none) (hp : k < pin)
    (hrow : ∀ (i : Nat) (r : List T), rs[i]? = some r → r.length = sz) (hcap : rs.length ≤ cap) (hcs : cap * sz ≤ cells.size)
    (hcell : ∀ (i : Nat) (r : List T) (j : Nat) (t : T), rs[i]? = some r → r[j]? = some t → ∃ v, cells[i * sz + j]? = some v ∧ Own w (cx B ρ col w s.hp).Dp (fun b => col b = some (k, i, j)) t v) :
    Sim B ⟨pt s.tm i (.refw k), hput s.hp k (.rows sz rs)⟩ (a.put (some i) (.slice (some ⟨w.heap.size, 0, none⟩) rs.length cap)) w' := by
  obtain ⟨o1, o2, o3⟩ := own_blocks h hs (fun b e => by cases e)
  refine ⟨_, _, h.lay hk hp hs hsz (fun hle => ⟨hrow, .inl ⟨w.heap.size, cells, e, (0, 0), fun i j => cells.getD (i * sz + j) Go.undef, by simp [cx, setlab], hnew, frOk0 _, ?_, fun i r j t hi hj => ?_, fun i r j t hi hj => ?_⟩⟩) ?_⟩
  · exact Nat.le_trans (Nat.mul_le_mul_right sz hcap) hcs
  · obtain ⟨v, h1, h2⟩ := hcell i r j t hi hj
    simp [Array.getD_eq_getD_getElem?, h1]
  · obtain ⟨v, h1, h2⟩ := hcell i r j t hi hj
    have : cells.getD (i * sz + j) Go.undef = v := by simp [Array.getD_eq_getD_getElem?, h1]
    dsimp only
    rw [this]
    exact h2.mono o1 (fun b hb => (hle.dp b hb).1) (fun b hb => o3 b _ hb) (fun _ h => h)
  · refine ⟨sz, rs, by simp [cx, hget_hput], .inl ⟨w.heap.size, cap, e, cells.size, by simp [cx, setlab], rfl, hcap, ?_, hcs⟩⟩
    have hnew' : (cx B (setlab ρ k w.heap.size) col w' (hput s.hp k (.rows sz rs))).w.heap[w.heap.size]? = some (.cells cells e (0, 0)) := hnew
    simp [World.shape?, hnew']
theorem buildSlice_ok (hΓ : TysOk P Γ) (h : SimR B ρ col s a w) {o : Oper} {t n : Nat} {parts : Array (Nat × Operand)} (ho : o.op = .buildSlice t n parts) (hs : stepOp Γ s o.dst (.buildSlice t n parts) = some s') : Done P Γ B s' a w o := by
  simp only [stepOp, Option.bind_eq_some_iff] at hs
  obtain ⟨i, hi, y, hy, xs, hxs, hs⟩ := hs
  split at hs
  · rename_i hc
    simp only [Option.bind_eq_some_iff] at hs
    obtain ⟨⟨ts, ks⟩, hcl, hs⟩ := hs
    split at hs
    · cases hs
    · rename_i hL
      obtain ⟨hlk, rfl, hlp⟩ := lay_some hs
      obtain ⟨hu, e, he, hes, heb, z, hz, hzs⟩ := (hΓ _ _ hy).slice hc.2.2
      have hpos : 0 < y.esz := by
        have := (hΓ _ _ hy).pos
        cases hk : y.k <;> simp [Ty.isSlice, hk] at hc
        exact this hk
      obtain ⟨ρ1, col1, f1, f2, f3, f4, f5, f6, f7, f8⟩ := h.closeRows (8 * i) y.esz 0 (h.evs xs) hcl hL (ne_lim hlp)
      have hlen : ts.length = n := by rw [f3]; simp [hc.1]
      have hzeros : ((Array.range (n * y.esz)).map (fun q => z.cells[q % z.cells.size]!)).size = n * y.esz := by simp
      obtain ⟨out, o1, o2, o3, o4⟩ := fill_ok (size := y.esz) (ev := a.eval) parts.toList xs 0 ((Array.range (n * y.esz)).map (fun q => z.cells[q % z.cells.size]!)) hxs
        (fun x hx => (f7 (a.eval x) (List.mem_map.2 ⟨x, hx, rfl⟩)).1) (by rw [hzeros, Nat.zero_add, hc.1]; exact Nat.le_refl _)
      have hrun : (Instr.buildSlice t n (parts.map fun (i, x) => (i, a.eval x))).run P w = .ok (.slice (some ⟨w.heap.size, 0, none⟩) n n) (w.alloc (.cells out y.elem)) := by
        have hbig : ¬ (n * y.esz > 2 ^ 24) := by have := hc.2.1; omega
        by_cases h0 : n * y.esz = 0
        · have o1' : Instr.fill (fun i => some (i * y.esz, y.esz)) #[] (parts.map fun p => (p.1, a.eval p.2)).toList = some out := by rw [h0, Array.range_zero', Array.map_empty] at o1; simpa using o1
          simp only [Instr.buildSlice, Sem.run_bind, run_underlying hu, Result.andThen_ok, Go.sizeOf, typeInfo, run_program, he, Sem.run_pure, hes, Sem.run_ite, h0, if_true, Array.range_zero', Array.map_empty, o1', newRow, run_newObj]
          rfl
        · have o1' : Instr.fill (fun i => some (i * y.esz, y.esz)) ((Array.range (n * y.esz)).map (fun q => z.cells[q % z.cells.size]!)) (parts.map fun p => (p.1, a.eval p.2)).toList = some out := by simpa using o1
          simp only [Instr.buildSlice, Sem.run_bind, run_underlying hu, Result.andThen_ok, Go.sizeOf, typeInfo, run_program, he, Sem.run_pure, hes, Sem.run_ite, hbig, if_false, h0, zeroValue, hz, o1', newRow, run_newObj]
          rfl
      refine ⟨_, _, by simp only [execOp, ho, Sem.run_bind, hrun, Result.andThen_ok, Sem.run_pure]; rfl, fun _ => wstep_alloc w _, .inl ⟨_, rfl, ?_⟩⟩
      rw [hi, ← hlen]
      refine f1.layRows (wstep_alloc w _) (by simp) (alloc_new w _) hlk hlp f6 (Nat.le_refl _) (by rw [hlen, o2, hzeros]; exact Nat.le_refl _) (fun q r j tt hq hj => ?_)
      have hql : q < ts.length := (List.getElem?_eq_some_iff.1 hq).1
      have hxl : xs.length = ts.length := by rw [hlen]; exact hc.1
      have hxq : xs[q]? = some xs[q] := List.getElem?_eq_getElem (by omega)
      have hjl : j < y.esz := by have := (List.getElem?_eq_some_iff.1 hj).1; rw [f6 q r hq] at this; exact this
      have hv := (f7 (a.eval xs[q]) (List.mem_map.2 ⟨xs[q], List.getElem_mem _, rfl⟩)).1
      obtain ⟨vj, hcj⟩ : ∃ v, (a.eval xs[q]).cells[j]? = some v := ⟨_, Array.getElem?_eq_getElem (show j < (a.eval xs[q]).cells.size by omega)⟩
      refine ⟨vj, ?_, ?_⟩
      · have := o4 q xs[q] j hxq hjl
        rw [Nat.zero_add] at this
        rw [this]; exact hcj
      · have := f8 q r (a.eval xs[q]) j tt _ hq (by simp [hxq]) hj hcj
        rw [Nat.zero_add] at this
        exact this
  · cases hs
theorem zeroT_ok {c : Cx} {D S : Dm} {w : World} : ∀ {l : List AV} {ts : List T} {vs : List Value}, (∀ c : Cx, AVr.AVrs c l vs) → zeroT l = some ts → ts.length = vs.length ∧ ∀ (j : Nat) (t : T) (v : Value), ts[j]? = some t → vs[j]? = some v → Own w D S t v := by
  intro l
  induction l with
  | nil =>
    intro ts vs h ht
    simp [zeroT] at ht; subst ht
    cases vs with
    | nil => exact ⟨rfl, fun j t v hj => by simp at hj⟩
    | cons => exact (h c).elim
  | cons x l ih =>
    intro ts vs h ht
    cases vs with
    | nil => exact (h c).elim
    | cons v vs =>
      unfold zeroT at ht
      split at ht
      · rename_i heq; cases heq
      · rename_i y l' heq
        cases heq
        simp only [Option.map_eq_some_iff] at ht
        obtain ⟨ts', h1, rfl⟩ := ht
        obtain ⟨e1, e2⟩ := ih (fun c => (h c).2) h1
        refine ⟨by simp [e1], fun j t u hj hu => ?_⟩
        cases j with
        | zero =>
          simp at hj hu
          subst hj hu
          exact .rd _ _ _ (T.shared_flat y) (Rd.shared (x := y) (h ⟨fun _ => none, w, D, D, []⟩).1)
        | succ j => exact e2 j t u (by simpa using hj) (by simpa using hu)
      · rename_i sz l' heq
        cases heq
        simp only [Option.map_eq_some_iff] at ht
        obtain ⟨ts', h1, rfl⟩ := ht
        obtain ⟨e1, e2⟩ := ih (fun c => (h c).2) h1
        refine ⟨by simp [e1], fun j t u hj hu => ?_⟩
        cases j with
        | zero =>
          simp at hj hu
          subst hj hu
          have : v = .slice none 0 0 := (h ⟨fun _ => none, w, D, D, []⟩).1
          subst this
          exact .nil _ _ _
        | succ j => exact e2 j t u (by simpa using hj) (by simpa using hu)
      · cases ht
theorem makeSlice_ok (hΓ : TysOk P Γ) (h : SimR B ρ col s a w) {o : Oper} {t : Nat} {l c : Operand} (ho : o.op = .makeSlice t l c) (hs : stepOp Γ s o.dst (.makeSlice t l c) = some s') : Done P Γ B s' a w o := by
  simp only [stepOp, Option.bind_eq_some_iff] at hs
  obtain ⟨i, hi, y, hy, hs⟩ := hs
  unfold makeOp at hs
  split at hs
  · rename_i n m e1 e2
    simp only [Option.bind_eq_some_iff] at hs
    obtain ⟨ye, hye, zs, hzs, hs⟩ := hs
    split at hs
    · rename_i hc
      obtain ⟨c1, rfl, c3, c4, c5, c6⟩ := hc
      obtain ⟨hlk, rfl, hlp⟩ := lay_some hs
      obtain ⟨hu, e, he, hes, heb, z, hz, hzsz⟩ := (hΓ _ _ hy).slice c3
      obtain ⟨inf, hinf, hsz, z', hz', hzc⟩ := (hΓ _ _ hye).info
      rw [he] at hinf; cases hinf
      rw [hz] at hz'; cases hz'
      have hv1 := h.ev l
      have hv2 := h.ev c
      rw [e1] at hv1; rw [e2] at hv2
      generalize el : a.eval l = ul at hv1
      generalize ec : a.eval c = uc at hv2
      cases hv1; cases hv2
      have hnb : m.toNat * y.ebytes ≤ 1099511627776 := c6
      have hmle : m.toNat ≤ 1099511627776 := Nat.le_trans (Nat.le_mul_of_pos_right _ c4) hnb
      have hfit : (e.bytes : Int) * m ≤ 281474976710656 := by
        have h1 : ((m.toNat * y.ebytes : Nat) : Int) ≤ 1099511627776 := by omega
        rw [Int.natCast_mul, Int.toNat_of_nonneg c1, Int.mul_comm, ← heb] at h1
        omega
      have hrun := run_make (P := P) w t y.elem e z hu he hz .i64 .i64 m m c1 (Int.le_refl _) hfit (by omega)
      rw [hes] at hrun
      refine ⟨_, _, by simp only [execOp, ho, el, ec, Sem.run_bind, hrun, Result.andThen_ok, Sem.run_pure]; rfl, fun _ => wstep_alloc w _, .inl ⟨_, rfl, ?_⟩⟩
      rw [hi]
      have hzl : zs.length = y.esz := c5
      have hmade : (madeCells z.cells (m.toNat * y.esz)).size = m.toNat * y.esz := by simp [madeCells]
      have := h.layRows (sz := y.esz) (rs := List.replicate m.toNat zs) (i := i) (cap := m.toNat) (wstep_alloc w (.cells (madeCells z.cells (m.toNat * y.esz)) y.elem)) (by simp) (alloc_new w _) hlk hlp
        (fun q r hq => by
          rw [List.getElem?_replicate] at hq
          split at hq
          · cases hq; exact hzl
          · cases hq) (by simp) (by rw [hmade]; exact Nat.le_refl _)
        (fun q r j tt hq hj => by
          rw [List.getElem?_replicate] at hq
          split at hq
          · rename_i hqm
            cases hq
            have hjl : j < y.esz := by have := (List.getElem?_eq_some_iff.1 hj).1; omega
            obtain ⟨z1, z2⟩ := zeroT_ok (c := ⟨fun _ => none, w, fun _ => True, fun _ => True, []⟩) (w := w) (D := (cx B ρ col w s.hp).Dp) (S := fun b => col b = some (8 * i, q, j)) hzc hzs
            have hmod : (q * y.esz + j) % z.cells.size = j := by rw [hzsz, Nat.mul_comm, Nat.mul_add_mod, Nat.mod_eq_of_lt hjl]
            have hjz : j < z.cells.size := by rw [hzsz]; exact hjl
            refine ⟨z.cells[j], ?_, z2 j tt _ hj (by simp [hjz])⟩
            have hlt := mul_add_lt hqm hjl
            simp only [madeCells, Array.getElem?_map]
            rw [Array.getElem?_eq_getElem (by simpa using hlt)]
            simp [hmod, hjz]
          · cases hq)
      simpa using this
    · cases hs
  · cases hs
end
end Go.Proofs.YtcpfhonmdbhdbaaGreatDoor.Am
namespace Go.Proofs.YtcpfhonmdbhdbaaGreatDoor.Am
open Go
set_option linter.unusedVariables false
section
variable {P : Program} {Γ : Env} {B : Base} {ρ ρ' : Nat → Option Nat} {col col' : Col} {s s' : St} {a : Act} {w w' : World}
theorem WStep.weaken {g : Option Nat} (h : WStep w w' none) : WStep w w' g := ⟨h.os, h.tape, h.output, h.drawn, h.size, fun b hb _ => h.block b hb (by simp)⟩
theorem SimR.refl_le (B : Base) (ρ : Nat → Option Nat) (col : Col) (w : World) (hp : Hp) (ok : Nat → Prop) : (cx B ρ col w hp).le (cx B ρ col w hp) ok :=
  ⟨fun _ _ _ => rfl, fun m b _ hb => ⟨b, hb, blk_sim_refl b⟩, fun b hb => ⟨hb, rfl⟩, fun b hb => ⟨hb, rfl⟩, fun _ _ _ _ => rfl, fun _ _ _ _ _ => rfl⟩
theorem Rd.flatten {D : Dm} {o : Bool} {sz : Nat} {rows : List (List T)} {v : Value} (hpos : 0 < sz) (h : Rd w D (.list o sz rows) v) :
    ∃ ad cap, ∃ news : List Value, v = .slice ad rows.length cap ∧ (rows = [] ∨ ∃ b off, ad = some ⟨b, off, none⟩ ∧ D b ∧ ∀ q u, news[q]? = some u → w.cell? ⟨b, off + q, none⟩ = some u) ∧ news.length = rows.length * sz ∧
      (∀ (i : Nat) (r : List T), rows[i]? = some r → r.length = sz) ∧
      (∀ (i : Nat) (r : List T) (j : Nat) (t : T), rows[i]? = some r → r[j]? = some t → ∃ u, news[i * sz + j]? = some u ∧ Rd w D t u) ∧ ∀ u ∈ news, u.oneCell' = true := by
  cases h with
  | nil _ _ ad c => exact ⟨ad, c, [], rfl, .inl rfl, by simp, fun i r hi => by simp at hi, fun i r j t hi => by simp at hi, fun u hu => by simp at hu⟩
  | list _ _ _ b off cap u h1 h2 h3 h4 h5 =>
    have hdm : ∀ q, q < rows.length * sz → q / sz < rows.length ∧ q % sz < sz ∧ q = q / sz * sz + q % sz := by
      intro q hq
      refine ⟨Nat.div_lt_of_lt_mul (by rwa [Nat.mul_comm]), Nat.mod_lt _ hpos, ?_⟩
      rw [Nat.mul_comm]; exact (Nat.div_add_mod q sz).symm
    have hcellq : ∀ q, q < rows.length * sz → ∃ r t, rows[q / sz]? = some r ∧ r[q % sz]? = some t := by
      intro q hq
      obtain ⟨e1, e2, e3⟩ := hdm q hq
      have hr := List.getElem?_eq_getElem e1
      have hl := h3 _ _ hr
      exact ⟨_, _, hr, List.getElem?_eq_getElem (by omega)⟩
    refine ⟨_, cap, (List.range (rows.length * sz)).map fun q => u (q / sz) (q % sz), rfl, .inr ⟨b, off, rfl, h2, fun q v hq => ?_⟩, by simp, h3, fun i r j t hi hj => ?_, fun v hv => ?_⟩
    · rw [List.getElem?_map] at hq
      simp only [Option.map_eq_some_iff] at hq
      obtain ⟨q', hq', rfl⟩ := hq
      obtain ⟨hlt, hq''⟩ := List.getElem?_eq_some_iff.1 hq'
      simp at hlt hq''
      subst hq''
      obtain ⟨r, t, e1, e2⟩ := hcellq q hlt
      have := h4 _ r _ t e1 e2
      rwa [← (hdm q hlt).2.2] at this
    · have hil := (List.getElem?_eq_some_iff.1 hi).1
      have hjl : j < sz := by have := (List.getElem?_eq_some_iff.1 hj).1; rw [h3 i r hi] at this; exact this
      have hlt := mul_add_lt hil hjl
      have hd : (i * sz + j) / sz = i := by rw [Nat.mul_comm, Nat.mul_add_div hpos, Nat.div_eq_of_lt hjl]; omega
      have hm : (i * sz + j) % sz = j := by rw [Nat.mul_comm, Nat.mul_add_mod, Nat.mod_eq_of_lt hjl]
      refine ⟨u i j, ?_, h5 i r j t hi hj⟩
      rw [List.getElem?_map, List.getElem?_eq_getElem (by simpa using hlt)]
      simp [hd, hm]
    · simp only [List.mem_map, List.mem_range] at hv
      obtain ⟨q, hq, rfl⟩ := hv
      obtain ⟨r, t, e1, e2⟩ := hcellq q hq
      exact Rd.one (h5 _ r _ t e1 e2)
theorem src_slice {t : Nat} {y : Ty} (hy : TyOk P t y) (hs : y.isSlice = true) {esz n : Nat} {ad : Option Addr} {cap : Nat} {news : List Value} (hn : news.length = n * esz) (hc : n = 0 ∨ ∃ b off, ad = some ⟨b, off, none⟩ ∧ ∀ q u, news[q]? = some u → w.cell? ⟨b, off + q, none⟩ = some u)
    (h1 : ∀ u ∈ news, u.oneCell' = true) : Src P esz t (.slice ad n cap) n news w := by
  have hk := (hy.slice hs).1
  rcases hc with rfl | ⟨b, off, rfl, hc⟩
  · have : news = [] := by cases news; rfl; simp at hn
    subst this
    cases ad with
    | none => exact Src.ofNil w hk cap
    | some ad => exact Src.ofSlice w hk ad 0 cap [] (by simp) (fun j u hj => by simp at hj) (fun u hu => by simp at hu)
  · exact Src.ofSlice w hk ⟨b, off, none⟩ n cap news hn (fun j u hj => by rw [Addr.add_mid]; exact hc j u hj) h1
theorem addRows_ok (h : SimR B ρ col s a w) {t : Nat} {y : Ty} (hy : TyOk P t y) {esz : Nat} (hpos : 0 < esz) {x : AV} {u : Value} (hx : AVr (cx B ρ col w s.hp) x u) {rows : List (List T)} {ks : List Nat} (hr : addRows y esz s x = some (rows, ks)) (L i0 : Nat) (hL : L ∉ ks) (hLl : L ≠ limKey) :
    ∃ ρ1 col1, ∃ news : List Value, SimR B ρ1 col1 (s.drops ks) a w ∧ ((cx B ρ col w s.hp).le (cx B ρ1 col1 w (s.drops ks).hp) fun m => m ∉ ks) ∧ (∀ m, m ∉ ks → ρ1 m = ρ m) ∧
      Src P esz t u rows.length news w ∧ (∀ (i : Nat) (r : List T), rows[i]? = some r → r.length = esz) ∧
      (∀ (i : Nat) (r : List T) (j : Nat) (tt : T), rows[i]? = some r → r[j]? = some tt → ∃ v, news[i * esz + j]? = some v ∧ Own w (cx B ρ1 col1 w (s.drops ks).hp).Dp (fun b => col1 b = some (L, i0 + i, j)) tt v) := by
  unfold addRows at hr
  split at hr
  ·
    split at hr
    · rename_i b hc
      cases hr
      obtain ⟨c1, rfl⟩ := hc
      cases hx
      have hlen : (byteRows b).length = b.size := by simp [byteRows]
      refine ⟨ρ, col, byteCells b, h, SimR.refl_le _ _ _ _ _ _, fun _ _ => rfl, by rw [hlen]; exact Src.ofString w (hy.str c1) b, fun i r hi => ?_, fun i r j tt hi hj => ?_⟩
      · simp only [byteRows, List.getElem?_map, Option.map_eq_some_iff] at hi
        obtain ⟨c, _, rfl⟩ := hi; rfl
      · simp only [byteRows, List.getElem?_map, Option.map_eq_some_iff] at hi
        obtain ⟨c, hc, rfl⟩ := hi
        cases j with
        | zero =>
          simp at hj; subst hj
          exact ⟨.int .u8 c.toNat, by simp [byteCells, hc], .rd _ _ _ trivial (.int _ _)⟩
        | succ j => simp at hj
    · cases hr
  · split at hr
    · rename_i o sz rws hc
      cases hr
      obtain ⟨c1, rfl⟩ := hc
      obtain ⟨ad, cap, news, rfl, h1, h2, h3, h4, h5⟩ := Rd.flatten hpos hx
      refine ⟨ρ, col, news, h, SimR.refl_le _ _ _ _ _ _, fun _ _ => rfl, ?_, fun i r hi => ?_, fun i r j tt hi hj => ?_⟩
      · rw [show (sharedRows rws).length = rws.length by simp [sharedRows]]
        refine src_slice hy c1 h2 ?_ h5
        rcases h1 with rfl | ⟨b, off, e1, _, e2⟩
        · exact .inl rfl
        · exact .inr ⟨b, off, e1, e2⟩
      · simp only [sharedRows, List.getElem?_map, Option.map_eq_some_iff] at hi
        obtain ⟨r', hr', rfl⟩ := hi
        simpa using h3 i r' hr'
      · simp only [sharedRows, List.getElem?_map, Option.map_eq_some_iff] at hi
        obtain ⟨r', hr', rfl⟩ := hi
        rw [List.getElem?_map] at hj
        simp only [Option.map_eq_some_iff] at hj
        obtain ⟨t', ht', rfl⟩ := hj
        obtain ⟨v, e1, e2⟩ := h4 i r' j t' hr' ht'
        exact ⟨v, e1, .rd _ _ _ (T.shared_flat t') e2.shared⟩
    · cases hr
  · split at hr
    · rename_i c1
      cases hr
      cases hx
      exact ⟨ρ, col, [], h, SimR.refl_le _ _ _ _ _ _, fun _ _ => rfl, src_slice hy c1 (by simp) (.inl rfl) (fun u hu => by simp at hu), fun i r hi => by simp at hi, fun i r j tt hi => by simp at hi⟩
    · cases hr
  · rename_i k
    split at hr
    · rename_i sz rs hk
      split at hr
      · rename_i hc
        obtain ⟨rfl, rfl⟩ : rs = rows ∧ [k] = ks := by simpa using hr
        obtain ⟨c1, rfl, hkp⟩ := hc
        simp only [List.mem_singleton] at hL
        obtain ⟨g1, g2⟩ := h.drop k hkp none (fun i j => (L, i0 + i, j)) (fun i j e => by cases e) (fun i j => hLl)
        obtain ⟨sz', rs', hk', hrw⟩ := hx
        have hk'' : hget s.hp k = some (.rows sz' rs') := hk'
        have hboth : sz = sz' ∧ rs = rs' := by rw [hk] at hk''; cases hk''; exact ⟨rfl, rfl⟩
        obtain ⟨e1, e2⟩ := hboth
        subst e1 e2
        obtain ⟨hrow, hrest⟩ := h.hp k _ hk
        have hleN : (cx B ρ col w s.hp).le (cx B (unlab ρ k) (recol ρ col k none fun i j => (L, i0 + i, j)) w (s.drop k).hp) fun m => m ∉ [k] :=
          ⟨fun m hm => g2.ρ m (by simpa using hm), fun m b hm => g2.hp m b (by simpa using hm), g2.dp, g2.dl, fun m b hm => g2.sh m b (by simpa using hm), fun m b hm => g2.tie m b (by simpa using hm)⟩
        have hρN : ∀ m, m ∉ [k] → unlab ρ k m = ρ m := fun m hm => by simp at hm; simp [unlab, hm]
        rcases hrest with ⟨b, cells, e, fr, uu, hb, hh, hf, hsz, hu, how⟩ | ⟨rfl, hn⟩
        · have hh' : w.heap[b]? = some (.cells cells e fr) := hh
          have hρ : ρ k = some b := hb
          have hcell : ∀ q, q < rs.length * sz → w.cell? ⟨b, q, none⟩ = some (cells.getD q Go.undef) := by
            intro q hq
            have : q < cells.size := by omega
            simp [World.cell?, hh', this, Array.getD_eq_getD_getElem?]
          have hown : ∀ (i : Nat) (r : List T) (j : Nat) (tt : T), rs[i]? = some r → r[j]? = some tt → Own w (cx B (unlab ρ k) (recol ρ col k none fun i j => (L, i0 + i, j)) w (s.drop k).hp).Dp (fun b => recol ρ col k none (fun i j => (L, i0 + i, j)) b = some (L, i0 + i, j)) tt (uu i j) := by
            intro i r j tt hi hj
            refine (how i r j tt hi hj).mono (fun _ _ => rfl) (fun b hb => (g2.dp b hb).1) (fun _ _ => rfl) (fun b hb => ?_)
            have hkb : ρ k ≠ some b := fun e => by rw [h.sep k b e] at hb; cases hb
            simp [recol, hkb, hb]
          have hone : ∀ q, q < rs.length * sz → (cells.getD q Go.undef).oneCell' = true := by
            intro q hq
            have e1 : q / sz < rs.length := Nat.div_lt_of_lt_mul (by rwa [Nat.mul_comm])
            have e2 : q % sz < sz := Nat.mod_lt _ hpos
            have e3 : q / sz * sz + q % sz = q := by rw [Nat.mul_comm]; exact Nat.div_add_mod q sz
            have hr := List.getElem?_eq_getElem e1
            have hl := hrow _ _ hr
            have ht : rs[q / sz][q % sz]? = some (rs[q / sz][q % sz]'(by omega)) := List.getElem?_eq_getElem (by omega)
            have := hu _ _ _ _ hr ht
            rw [e3] at this
            have e4 : cells.getD q Go.undef = uu (q / sz) (q % sz) := by simp [Array.getD_eq_getD_getElem?, this]
            rw [e4]; exact (how _ _ _ _ hr ht).one
          have hval : u = .slice (some ⟨b, 0, none⟩) rs.length (match u with | .slice _ _ c => c | _ => 0) ∨ (rs = [] ∧ ∃ ad, u = .slice ad 0 0) := by
            rcases hrw with ⟨b', cap, e', n, hb', rfl, _⟩ | ⟨h1, h2⟩
            · have hb'' : ρ k = some b' := hb'
              rw [hρ] at hb''; cases hb''
              exact .inl rfl
            · exact .inr ⟨h1, h2⟩
          refine ⟨_, _, (List.range (rs.length * sz)).map fun q => cells.getD q Go.undef, g1, hleN, hρN, ?_, hrow, fun i r j tt hi hj => ⟨uu i j, ?_, hown i r j tt hi hj⟩⟩
          · rcases hval with e | ⟨e, ad, e'⟩
            · rw [e]
              refine src_slice hy c1 (by simp) (.inr ⟨b, 0, rfl, fun q v hq => ?_⟩) (fun v hv => ?_)
              · rw [List.getElem?_map] at hq
                simp only [Option.map_eq_some_iff] at hq
                obtain ⟨q', hq', rfl⟩ := hq
                obtain ⟨hlt, hq''⟩ := List.getElem?_eq_some_iff.1 hq'
                simp at hlt hq''
                subst hq''
                rw [Nat.zero_add]; exact hcell q hlt
              · simp only [List.mem_map, List.mem_range] at hv
                obtain ⟨q, hq, rfl⟩ := hv
                exact hone q hq
            · subst e e'
              exact src_slice hy c1 (by simp) (.inl rfl) (fun v hv => by simp at hv)
          · have hil := (List.getElem?_eq_some_iff.1 hi).1
            have hjl : j < sz := by have := (List.getElem?_eq_some_iff.1 hj).1; rw [hrow i r hi] at this; exact this
            have hlt := mul_add_lt hil hjl
            rw [List.getElem?_map, List.getElem?_eq_getElem (by simpa using hlt)]
            simp [Array.getD_eq_getD_getElem?, hu i r j tt hi hj]
        · obtain ⟨ad, rfl⟩ : ∃ ad, u = .slice ad 0 0 := by
            rcases hrw with ⟨b', cap, e', n, hb', _⟩ | ⟨_, h2⟩
            · have : ρ k = some b' := hb'
              rw [show ρ k = none from hn] at this; cases this
            · exact h2
          exact ⟨_, _, [], g1, hleN, hρN, src_slice hy c1 (by simp) (.inl rfl) (fun v hv => by simp at hv), hrow, fun i r j tt hi => by simp at hi⟩
      · cases hr
    · cases hr
  · cases hr
end
end Go.Proofs.YtcpfhonmdbhdbaaGreatDoor.Am
