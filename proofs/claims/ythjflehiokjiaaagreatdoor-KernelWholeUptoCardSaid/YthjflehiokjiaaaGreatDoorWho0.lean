/- KernelWhole: the first commit can be, and names no object that it does not make: for every number. Part 1. -/
import Derived.WalkKit
import Derived.Lib.FrozenHead
import Derived.Lib.ConvBytes
import Derived.Laws.AppendOwn
import Derived.Laws.MakeOwn
import Derived.Laws.BytesArg
import Derived.Great.BuildSlice
import Derived.Lib.UnsafeStr
namespace Go.SL
inductive D where
 | bool (b : Bool) | int (k : IntKind) (n : Int) | str (s : ByteArray)
 | nilP | cptr (cs : List D)
 | sl (nil : Bool) (sz : Nat) (xs : List D)
 | fn (f : Fn) (first cap : List D) | nilF
 | iface (t : TypeId) (x : D) | nilI
 | agg (xs : List D) | tup (xs : List D)
inductive V where
 | d (x : D) | dead
 | ptr (i off : Nat)
 | vs (i n off len : Nat)
 | vptr (i n k off : Nat)
 | fn (f : Fn) (first cap : List V)
 | iface (t : TypeId) (x : V)
 | agg (xs : List V) | tup (xs : List V)
abbrev Sealed := Nat → Nat → Option Value
mutual
def DR (S : Sealed) : D → Value → Prop
 | .bool b, v => v = .bool b
 | .int k n, v => v = .int k n
 | .str s, v => v = .string s
 | .nilP, v => v = .pointer none
 | .cptr cs, v => ∃ b o, v = .pointer (some ⟨b, o, none⟩) ∧ DC S cs b o
 | .sl nl sz xs, v => (nl = true ∧ xs = [] ∧ v = .slice none 0 0) ∨
   (nl = false ∧ ∃ b o cap, v = .slice (some ⟨b, o, none⟩) xs.length cap ∧ xs.length ≤ cap ∧ DX S sz xs b o)
 | .fn f a c, v => ∃ a' c', v = .func f ⟨a'⟩ ⟨c'⟩ ∧ DL S a a' ∧ DL S c c'
 | .nilF, v => v = .nilFunc
 | .iface t x, v => ∃ y, v = .iface t y ∧ DR S x y
 | .nilI, v => v = .nilIface
 | .agg xs, v => ∃ ys, v = .agg ⟨ys⟩ ∧ DL S xs ys ∧ ∀ y ∈ ys, y.oneCell' = true
 | .tup xs, v => ∃ ys, v = .tuple ⟨ys⟩ ∧ DL S xs ys
def DL (S : Sealed) : List D → List Value → Prop
 | [], ys => ys = []
 | x :: xs, ys => ∃ y r, ys = y :: r ∧ DR S x y ∧ DL S xs r
def DC (S : Sealed) : List D → Nat → Nat → Prop
 | [], _, _ => True
 | x :: xs, b, o => (∃ y, S b o = some y ∧ y.oneCell' = true ∧ DR S x y) ∧ DC S xs b (o + 1)
def DX (S : Sealed) (sz : Nat) : List D → Nat → Nat → Prop
 | [], _, _ => True
 | .agg cs :: xs, b, o => (cs.length = sz ∧ DC S cs b o) ∧ DX S sz xs b (o + sz)
 | x :: xs, b, o => (sz = 1 ∧ ∃ y, S b o = some y ∧ y.oneCell' = true ∧ DR S x y) ∧ DX S sz xs b (o + sz)
end
def Sealed.le (S S' : Sealed) : Prop := ∀ b o v, S b o = some v → S' b o = some v
mutual
theorem DR.mono {S S' : Sealed} (h : S.le S') : ∀ (x : D) (v : Value), DR S x v → DR S' x v
 | .bool _, _, r | .int _ _, _, r | .str _, _, r | .nilP, _, r | .nilF, _, r | .nilI, _, r => by simpa only [DR] using r
 | .cptr cs, v, r => by
  simp only [DR] at r ⊢
  obtain ⟨b, o, e, r⟩ := r
  exact ⟨b, o, e, DC.mono h cs b o r⟩
 | .sl nl sz xs, v, r => by
  simp only [DR] at r ⊢
  rcases r with r | ⟨e, b, o, c, e', hl, r⟩
  ·exact .inl r
  ·exact .inr ⟨e, b, o, c, e', hl, DX.mono h sz xs b o r⟩
 | .fn f a c, v, r => by
  simp only [DR] at r ⊢
  obtain ⟨a', c', e, r1, r2⟩ := r
  exact ⟨a', c', e, DL.mono h a a' r1, DL.mono h c c' r2⟩
 | .iface t x, v, r => by
  simp only [DR] at r ⊢
  obtain ⟨y, e, r⟩ := r
  exact ⟨y, e, DR.mono h x y r⟩
 | .agg xs, v, r => by
  simp only [DR] at r ⊢
  obtain ⟨ys, e, r, ho⟩ := r
  exact ⟨ys, e, DL.mono h xs ys r, ho⟩
 | .tup xs, v, r => by
  simp only [DR] at r ⊢
  obtain ⟨ys, e, r⟩ := r
  exact ⟨ys, e, DL.mono h xs ys r⟩
theorem DL.mono {S S' : Sealed} (h : S.le S') : ∀ (xs : List D) (ys : List Value), DL S xs ys → DL S' xs ys
 | [], _, r => by simpa only [DL] using r
 | x :: xs, ys, r => by
  simp only [DL] at r ⊢
  obtain ⟨y, t, e, r1, r2⟩ := r
  exact ⟨y, t, e, DR.mono h x y r1, DL.mono h xs t r2⟩
theorem DC.mono {S S' : Sealed} (h : S.le S') : ∀ (xs : List D) (b o : Nat), DC S xs b o → DC S' xs b o
 | [], _, _, _ => by simp only [DC]
 | x :: xs, b, o, r => by
  simp only [DC] at r ⊢
  obtain ⟨⟨y, e, ho, r1⟩, r2⟩ := r
  exact ⟨⟨y, h _ _ _ e, ho, DR.mono h x y r1⟩, DC.mono h xs b (o + 1) r2⟩
theorem DX.mono {S S' : Sealed} (h : S.le S') (sz : Nat) : ∀ (xs : List D) (b o : Nat), DX S sz xs b o → DX S' sz xs b o
 | [], _, _, _ => by simp only [DX]
 | .agg cs :: xs, b, o, r => by
  simp only [DX] at r ⊢
  exact ⟨⟨r.1.1, DC.mono h cs b o r.1.2⟩, DX.mono h sz xs b (o + sz) r.2⟩
 | .bool x :: xs, b, o, r => by
  simp only [DX] at r ⊢
  obtain ⟨⟨e, y, e1, ho, r1⟩, r2⟩ := r
  exact ⟨⟨e, y, h _ _ _ e1, ho, DR.mono h (.bool x) y r1⟩, DX.mono h sz xs b (o + sz) r2⟩
 | .int k x :: xs, b, o, r => by
  simp only [DX] at r ⊢
  obtain ⟨⟨e, y, e1, ho, r1⟩, r2⟩ := r
  exact ⟨⟨e, y, h _ _ _ e1, ho, DR.mono h (.int k x) y r1⟩, DX.mono h sz xs b (o + sz) r2⟩
 | .str x :: xs, b, o, r => by
  simp only [DX] at r ⊢
  obtain ⟨⟨e, y, e1, ho, r1⟩, r2⟩ := r
  exact ⟨⟨e, y, h _ _ _ e1, ho, DR.mono h (.str x) y r1⟩, DX.mono h sz xs b (o + sz) r2⟩
 | .nilP :: xs, b, o, r => by
  simp only [DX] at r ⊢
  obtain ⟨⟨e, y, e1, ho, r1⟩, r2⟩ := r
  exact ⟨⟨e, y, h _ _ _ e1, ho, DR.mono h .nilP y r1⟩, DX.mono h sz xs b (o + sz) r2⟩
 | .nilF :: xs, b, o, r => by
  simp only [DX] at r ⊢
  obtain ⟨⟨e, y, e1, ho, r1⟩, r2⟩ := r
  exact ⟨⟨e, y, h _ _ _ e1, ho, DR.mono h .nilF y r1⟩, DX.mono h sz xs b (o + sz) r2⟩
 | .nilI :: xs, b, o, r => by
  simp only [DX] at r ⊢
  obtain ⟨⟨e, y, e1, ho, r1⟩, r2⟩ := r
  exact ⟨⟨e, y, h _ _ _ e1, ho, DR.mono h .nilI y r1⟩, DX.mono h sz xs b (o + sz) r2⟩
 | .cptr x :: xs, b, o, r => by
  simp only [DX] at r ⊢
  obtain ⟨⟨e, y, e1, ho, r1⟩, r2⟩ := r
  exact ⟨⟨e, y, h _ _ _ e1, ho, DR.mono h (.cptr x) y r1⟩, DX.mono h sz xs b (o + sz) r2⟩
 | .sl n z x :: xs, b, o, r => by
  simp only [DX] at r ⊢
  obtain ⟨⟨e, y, e1, ho, r1⟩, r2⟩ := r
  exact ⟨⟨e, y, h _ _ _ e1, ho, DR.mono h (.sl n z x) y r1⟩, DX.mono h sz xs b (o + sz) r2⟩
 | .fn f a c :: xs, b, o, r => by
  simp only [DX] at r ⊢
  obtain ⟨⟨e, y, e1, ho, r1⟩, r2⟩ := r
  exact ⟨⟨e, y, h _ _ _ e1, ho, DR.mono h (.fn f a c) y r1⟩, DX.mono h sz xs b (o + sz) r2⟩
 | .iface t x :: xs, b, o, r => by
  simp only [DX] at r ⊢
  obtain ⟨⟨e, y, e1, ho, r1⟩, r2⟩ := r
  exact ⟨⟨e, y, h _ _ _ e1, ho, DR.mono h (.iface t x) y r1⟩, DX.mono h sz xs b (o + sz) r2⟩
 | .tup x :: xs, b, o, r => by
  simp only [DX] at r ⊢
  obtain ⟨⟨e, y, e1, ho, r1⟩, r2⟩ := r
  exact ⟨⟨e, y, h _ _ _ e1, ho, DR.mono h (.tup x) y r1⟩, DX.mono h sz xs b (o + sz) r2⟩
end
end Go.SL
namespace Go.SL
structure Vec where
 nil : Bool
 sz : Nat
 fz : Nat
 xs : List V
 e : TypeId
inductive Own where
 | free | box (i : Nat) | vec (i : Nat) | rest
def mxB : Nat := 1
def nK0 : ByteArray := ⟨#[]⟩
def nK1 : ByteArray := ⟨#[79, 98, 106, 101, 99, 116]⟩
def nK2 : ByteArray := ⟨#[67, 108, 97, 115, 115]⟩
def nK3 : ByteArray := ⟨#[85, 110, 100, 101, 102, 105, 110, 101, 100, 79, 98, 106, 101, 99, 116]⟩
def nK4 : ByteArray := ⟨#[70, 97, 108, 115, 101]⟩
def nK5 : ByteArray := ⟨#[84, 114, 117, 101]⟩
def nK6 : ByteArray := ⟨#[73, 110, 116, 101, 103, 101, 114]⟩
def nK7 : ByteArray := ⟨#[67, 111, 109, 112, 108, 101, 120]⟩
def nK8 : ByteArray := ⟨#[83, 116, 114, 105, 110, 103]⟩
def nK9 : ByteArray := ⟨#[83, 121, 109, 98, 111, 108]⟩
def nK10 : ByteArray := ⟨#[65, 114, 114, 97, 121]⟩
def nK11 : ByteArray := ⟨#[66, 108, 111, 99, 107]⟩
def nK12 : ByteArray := ⟨#[68, 105, 99, 116, 105, 111, 110, 97, 114, 121]⟩
def nK13 : ByteArray := ⟨#[82, 99, 67, 111, 117, 110, 116, 101, 114]⟩
def nK14 : ByteArray := ⟨#[82, 99, 66, 97, 103]⟩
def gcells : List (Nat × List D) := [(0, [.str nK0, .str nK1, .str nK2, .str nK3, .str nK4, .str nK5, .str nK6, .str nK7, .str nK8, .str nK9, .str nK10, .str nK11, .str nK12, .str nK13, .str nK14])]
structure K where
 S : Sealed
 nb : Nat
 bl : Nat → Nat
 nv : Nat
 vn : Nat → Option Nat
 vb : Nat → Option (Nat × Nat × Nat)
 who : Nat → Own
 rest : Nat → Option Obj
 os : Os
 out : Array (Nat × ByteArray)
 tape : Nat → Question → Nat
 mx : ∃ m e fz, rest mxB = some (.cells #[.int .i64 m] e fz)
 kp : Nat → Bool
 kr : ∀ b, kp b = true → ∃ o, rest b = some o
 gs : ∀ p ∈ gcells, DC S p.2 p.1 0
structure Le (κ κ' : K) : Prop where
 S : κ.S.le κ'.S
 nb : κ.nb ≤ κ'.nb
 bl : ∀ i, i < κ.nb → κ'.bl i = κ.bl i
 nv : κ.nv ≤ κ'.nv
 vn : ∀ i, i < κ.nv → ∀ m', κ'.vn i = some m' → ∃ m, κ.vn i = some m ∧ m ≤ m' ∧ (m = m' → κ'.vb i = κ.vb i)
 rest : κ'.rest = κ.rest
 os : κ'.os = κ.os
 out : κ'.out = κ.out
 tape : (κ'.tape, κ'.kp) = (κ.tape, κ.kp)
theorem Le.refl (κ : K) : Le κ κ := ⟨fun _ _ _ h => h, Nat.le_refl _, fun _ _ => rfl, Nat.le_refl _, fun _ _ m h => ⟨m, h, Nat.le_refl _, fun _ => rfl⟩, rfl, rfl, rfl, rfl⟩
theorem Le.trans {a b c : K} (h : Le a b) (g : Le b c) : Le a c where
 S := fun x o v e => g.S _ _ _ (h.S _ _ _ e)
 nb := Nat.le_trans h.nb g.nb
 bl := fun i hi => (g.bl i (Nat.lt_of_lt_of_le hi h.nb)).trans (h.bl i hi)
 nv := Nat.le_trans h.nv g.nv
 vn := fun i hi m'' e => by
  obtain ⟨m', e1, l1, k1⟩ := g.vn i (Nat.lt_of_lt_of_le hi h.nv) m'' e
  obtain ⟨m, e2, l2, k2⟩ := h.vn i hi m' e1
  exact ⟨m, e2, Nat.le_trans l2 l1, fun h3 => by
   have h4 : m' = m'' := by omega
   have h5 : m = m' := by omega
   exact (k1 h4).trans (k2 h5)⟩
 rest := g.rest.trans h.rest
 os := g.os.trans h.os
 out := g.out.trans h.out
 tape := g.tape.trans h.tape
inductive Bx where
 | cells (cs : List V) (e : TypeId)
 | iter (s : ByteArray) (pos : Nat)
 | raw (R : K → Obj → Prop)
 | gone
structure H where
 bx : List Bx
 vc : List (Option Vec)
inductive Opd where | tmp (t : Nat) | cst (x : D)
inductive AO where
 | move (x : Opd)
 | asg (x : Opd)
 | pick (c a b : Opd)
 | alloc (z : List D) (e : TypeId)
 | box (e : TypeId) (x : Opd)
 | build (z : List D) (ps : List (Nat × Nat × Opd))
 | bslice (e : TypeId) (agg : Bool) (sz len : Nat) (z : List D) (ps : List (Nat × Nat × Opd))
 | load (agg : Bool) (sz : Nat) (x : Opd)
 | store (sz : Nat) (x y : Opd)
 | nilc (x : Opd)
 | faddr (off : Nat) (x : Opd)
 | iaddr (sz : Nat) (x i : Opd)
 | paddr (n sz : Nat) (x i : Opd)
 | index (x i : Opd)
 | field (agg : Bool) (off sz : Nat) (x : Opd)
 | extract (x : Opd) (i : Nat)
 | ibin (op : BinOp) (x y : Opd)
 | icmp (op : BinOp) (x y : Opd)
 | sbin (op : BinOp) (x y : Opd)
 | bbin (neg : Bool) (x y : Opd)
 | shift (op : BinOp) (x y : Opd)
 | eqnil (k : Nat) (neg : Bool) (x : Opd)
 | not (x : Opd)
 | neg (x : Opd)
 | conv (k : IntKind) (x : Opd)
 | same (x : Opd)
 | mkfn (f : Fn) (first cap : List Opd)
 | mkif (t : TypeId) (x : Opd)
 | tass (t : TypeId) (z : D) (x : Opd)
 | sslice (x : Opd) (lo hi : Option Opd)
 | lslice (sz : Nat) (x : Opd) (lo hi : Option Opd)
 | aslice (n : Nat) (x : Opd)
 | len (str : Bool) (x : Opd)
 | append (e : TypeId) (sz bytes : Nat) (z : List D) (x y : Opd)
 | range (x : Opd)
 | next (x : Opd)
 | mx (mn : Bool) (x y : Opd)
 | peq (ng : Bool) (x y : Opd)
 | b2s (x : Opd)
 | s2b (x : Opd)
 | mks (e : TypeId) (bytes : Nat) (z : D) (n : Opd)
 | p2u (x : Opd)
 | u2p (es : List (Nat × Nat)) (x : Opd)
 | usd (x : Opd)
 | ustr (e : TypeId) (x n : Opd)
 | aeq (ng : Bool) (x y : Opd)
def toD : Nat → Value → Option D
 | _, .bool b => some (.bool b)
 | _, .int k n => some (.int k n)
 | _, .string s => some (.str s)
 | _, .pointer none => some .nilP
 | _, .slice none 0 0 => some (.sl true 0 [])
 | _, .nilFunc => some .nilF
 | _, .nilIface => some .nilI
 | n + 1, .agg cs => match go n cs.toList with
  | some l => some (.agg l)
  | none => none
 | _, _ => none
where go (n : Nat) : List Value → Option (List D)
  | [] => some []
  | v :: r => match v with
    | .agg _ | .tuple _ => none
    | v => match toD n v, go n r with
      | some x, some l => some (x :: l)
      | _, _ => none
abbrev Env := List (Nat × V)
abbrev skp : V := .d (.tup [])
def get : List (Nat × V) → Nat → V
 | [], _ => .dead
 | (k, v) :: r, t => match Nat.beq k t with
  | true => v
  | false => get r t
def del : List (Nat × V) → Nat → List (Nat × V)
 | [], _ => []
 | (k, v) :: r, t => match Nat.beq k t with
  | true => del r t
  | false => (k, v) :: del r t
def dels (env : Env) : List Nat → Env
 | [] => env
 | t :: r => dels (del env t) r
def put (env : Env) : Option Nat → V → Env
 | some t, v => (t, v) :: del env t
 | none, _ => env
def ev (env : Env) : Opd → V
 | .tmp t => get env t
 | .cst x => .d x
def closeL : List V → Option (List D)
 | [] => some []
 | .d x :: r => match closeL r with
  | some l => some (x :: l)
  | none => none
 | _ :: _ => none
def flatD : D → Bool
 | .agg _ => false
 | _ => true
def mkAgg (l : List V) : V := match closeL l with
 | some ds => .d (.agg ds)
 | none => .agg l
def V.cells : V → List V
 | .agg xs => xs
 | .d (.agg xs) => xs.map .d
 | v => [v]
def D.cells : D → List D
 | .agg xs => xs
 | v => [v]
def V.one : V → Bool
 | .agg _ | .tup _ | .d (.agg _) | .d (.tup _) | .dead => false
 | _ => true
def ones : List V → Bool
 | [] => true
 | v :: r => v.one && ones r
def putR (cs : List V) (off : Nat) (new : List V) : Option (List V) :=
 if (Nat.ble (off + new.length) cs.length) then some (cs.take off ++ new ++ cs.drop (off + new.length)) else none
def getR (agg : Bool) (cs : List V) (off sz : Nat) : Option V :=
 match agg with
 | true => if Nat.ble (off + sz) cs.length then some (mkAgg ((cs.drop off).take sz)) else none
 | false => cs[off]?
def fillR (f : Opd → V) (cs : List V) : List (Nat × Nat × Opd) → Option (List V)
 | [] => some cs
 | (off, sz, x) :: r => match Nat.beq (f x).cells.length sz && ones (f x).cells, putR cs off (f x).cells with
  | true, some cs' => fillR f cs' r
  | _, _ => none
def groups (agg : Bool) (sz : Nat) : Nat → List V → List V
 | 0, _ => []
 | n + 1, cs => (match agg with | false => cs.headD .dead | true => mkAgg (cs.take sz)) :: groups agg sz n (cs.drop sz)
def inI (a : Int) : Bool := decide (-9223372036854775808 ≤ a) && decide (a ≤ 9223372036854775807)
def inR (i : Int) (n : Nat) : Bool := decide (0 ≤ i) && decide (i < (n : Int))
def iop (op : BinOp) (k : IntKind) (a b : Int) : Option (Int × Bool) :=
 match op with
 | .add => match k with | .i64 => some (a + b, inI (a + b)) | k => some (k.wrap (a + b), true)
 | .sub => match k with | .i64 => some (a - b, inI (a - b)) | k => some (k.wrap (a - b), true)
 | .mul => match k with | .i64 => some (a * b, inI (a * b)) | k => some (k.wrap (a * b), true)
 | .quo => match k with | .i64 => some (a.tdiv b, !decide (b = 0) && inI (a.tdiv b)) | k => some (k.wrap (a.tdiv b), !decide (b = 0))
 | .rem => some (a.tmod b, !decide (b = 0))
 | .and => some (k.wrap (BitVec.ofInt k.bits a &&& BitVec.ofInt k.bits b).toNat, true)
 | .or => some (k.wrap (BitVec.ofInt k.bits a ||| BitVec.ofInt k.bits b).toNat, true)
 | .xor => some (k.wrap (BitVec.ofInt k.bits a ^^^ BitVec.ofInt k.bits b).toNat, true)
 | .andNot => some (k.wrap (BitVec.ofInt k.bits a &&& ~~~(BitVec.ofInt k.bits b)).toNat, true)
 | _ => none
def icmp (op : BinOp) (a b : Int) : Option Bool :=
 match op with
 | .eql => some (decide (a = b))
 | .neq => some (!decide (a = b))
 | .lss => some (decide (a < b))
 | .leq => some (decide (a ≤ b))
 | .gtr => some (decide (b < a))
 | .geq => some (decide (b ≤ a))
 | _ => none
def sbyte (s : ByteArray) (i : Int) : Int := ((s.data.toList.getD i.toNat 0).toNat : Int)
def lget (xs : List D) (i : Int) : Option D := if 0 ≤ i then xs[i.toNat]? else none
def sbnd (f : Opd → V) (dflt : Int) : Option Opd → Option Int
 | none => some dflt
 | some x => match f x with
  | .d (.int _ n) => some n
  | _ => none
def intsV : List V → Option (List Int)
 | [] => some []
 | .d (.int k n) :: r => match decide (k = .u8), intsV r with
  | true, some l => some (n :: l)
  | _, _ => none
 | _ => none
def bytesI (ns : List Int) : ByteArray := ⟨(ns.map fun n => UInt8.ofNat n.toNat).toArray⟩
def elems (h : H) : V → Option (List V)
 | .d (.sl _ _ xs) => some (xs.map .d)
 | .d (.str s) => some (s.data.toList.map fun b => .d (.int .u8 (b.toNat : Int)))
 | .vs i n off len => match h.vc[i]? with
  | some (some v) => match Nat.beq v.xs.length n && Nat.ble (off + len) n with
   | true => some ((v.xs.drop off).take len)
   | false => none
  | _ => none
 | _ => none
def vsz (h : H) : V → Option Nat
 | .d (.sl nl sz _) => match nl with | true => none | false => some sz
 | .d (.str _) => some 1
 | .vs i _ _ _ => match h.vc[i]? with
  | some (some v) => some v.sz
  | _ => none
 | _ => none
def szOk (a : Option Nat) (sz : Nat) : Bool := match a with
 | none => true
 | some n => Nat.beq n sz
def cur (h : H) (i n : Nat) : Bool := match h.vc[i]? with
 | some (some v) => Nat.beq v.xs.length n
 | _ => false
def hasT : List (Nat × Nat) → Nat → Nat → Bool
 | [], _, _ => false
 | (a, k) :: r, e, n => (Nat.beq a e && Nat.beq k n) || hasT r e n
def byteL : List Int → Bool
 | [] => true
 | n :: r => decide (0 ≤ n) && decide (n < 256) && byteL r
abbrev R := Option (V × H × Bool)
def val (h : H) (v : V) : R := some (v, h, true)
def xload (h : H) (agg : Bool) (sz : Nat) : V → Option V
 | .ptr i off => match h.bx[i]? with
  | some (.cells cs _) => getR agg cs off sz
  | _ => none
 | .vptr i n k off => match h.vc[i]? with
  | some (some v) => match Nat.beq v.xs.length n, v.xs[k]? with
   | true, some x => getR agg x.cells off sz
   | _, _ => none
  | _ => none
 | .d (.cptr cs) => getR agg (cs.map .d) 0 sz
 | _ => none
def putV (sz : Nat) (x : V) (off : Nat) (y : V) : Option V := match Nat.beq off 0 && Nat.beq y.cells.length sz with
 | true => some y
 | false => match putR x.cells off y.cells with
  | some cs => some (mkAgg cs)
  | none => none
def xstore (h : H) (sz : Nat) (x y : V) : Option H :=
 match Nat.beq y.cells.length sz && ones y.cells with
 | false => none
 | true => match x with
  | .ptr i off => match h.bx[i]? with
   | some (.cells cs e) => match putR cs off y.cells with
    | some cs' => some { h with bx := h.bx.set i (.cells cs' e) }
    | none => none
   | _ => none
  | .vptr i n k off => match h.vc[i]? with
   | some (some v) => match Nat.beq v.xs.length n && Nat.ble v.fz (k * v.sz), v.xs[k]? with
    | true, some x => match putV v.sz x off y with
     | some z => some { h with vc := h.vc.set i (some { v with xs := v.xs.set k z }) }
     | none => none
    | _, _ => none
   | _ => none
  | _ => none
def xappend (h : H) (e : TypeId) (sz bytes : Nat) (x y : V) : R :=
 match elems h y, szOk (vsz h y) sz && Nat.blt 0 sz with
 | some ys, true => match x with
  | .d (.sl nl _ []) => match nl with
   | true => some (.vs h.vc.length ys.length 0 ys.length, { h with vc := h.vc ++ [some ⟨ys.isEmpty, sz, 0, ys, e⟩] }, decide (ys.length * bytes ≤ 140737488355328))
   | false => none
  | .vs i n off len => match h.vc[i]? with
   | some (some v) => match Nat.beq v.xs.length n && Nat.beq off 0 && Nat.beq len n && Nat.beq v.sz sz && Nat.ble v.fz (n * sz) && Nat.beq v.e e with
    | true => some (.vs i (n + ys.length) 0 (n + ys.length), { h with vc := h.vc.set i (some { v with nil := v.nil && ys.isEmpty, xs := v.xs ++ ys }) }, decide ((n + ys.length) * bytes ≤ 140737488355328))
    | false => match Nat.beq v.xs.length n && Nat.beq off 0 && Nat.ble (len + ys.length) n && Nat.beq v.sz sz && Nat.ble v.fz (len * sz) && Nat.beq v.e e && !v.nil with
     | true => some (.vs i n 0 (len + ys.length), { h with vc := h.vc.set i (some { v with xs := v.xs.take len ++ ys ++ v.xs.drop (len + ys.length) }) }, true)
     | false => none
   | _ => none
  | _ => none
 | _, _ => none
def xop (h : H) (f : Opd → V) : AO → R
 | .move x => val h (f x)
 | .asg x => val h (f x)
 | .pick c a b => match f c with
  | .d (.bool c) => match c with
   | true => val h (f a)
   | false => val h (f b)
  | _ => none
 | .alloc z e => some (.ptr h.bx.length 0, { h with bx := h.bx ++ [.cells (z.map .d) e] }, true)
 | .box e x => match ones (f x).cells with
  | true => some (.ptr h.bx.length 0, { h with bx := h.bx ++ [.cells (f x).cells e] }, true)
  | false => none
 | .build z ps => match fillR f (z.map .d) ps with
  | some cs => val h (mkAgg cs)
  | none => none
 | .bslice e agg sz len z ps => match fillR f ((List.replicate len (z.map .d)).flatten) ps with
  | some cs => some (.vs h.vc.length len 0 len, { h with vc := h.vc ++ [some ⟨false, sz, 0, groups agg sz len cs, e⟩] }, true)
  | none => none
 | .load agg sz x => match xload h agg sz (f x) with
  | some v => val h v
  | none => none
 | .store sz x y => match xstore h sz (f x) (f y) with
  | some h' => some (.dead, h', true)
  | none => none
 | .nilc x => match f x with
  | .ptr i off => val h (.ptr i off)
  | .vptr i n k off => match cur h i n with
   | true => val h (.vptr i n k off)
   | false => none
  | .d (.cptr cs) => val h (.d (.cptr cs))
  | .fn g a c => match g with
   | .func _ => val h (.fn g a c)
   | _ => none
  | .d (.fn g a c) => match g with
   | .func _ => val h (.d (.fn g a c))
   | _ => none
  | _ => none
 | .faddr o x => match f x with
  | .ptr i off => val h (.ptr i (off + o))
  | .vptr i n k off => match cur h i n with
   | true => val h (.vptr i n k (off + o))
   | false => none
  | .d (.cptr cs) => val h (.d (.cptr (cs.drop o)))
  | _ => none
 | .iaddr sz x i => match f x, f i with
  | .d (.sl nl sz' xs), .d (.int _ i) => match nl with
   | false => match Nat.beq sz sz', lget xs i with
    | true, some y => val h (.d (.cptr y.cells))
    | _, _ => none
   | true => none
  | .vs v n off len, .d (.int _ i) => match h.vc[v]? with
   | some (some w) => match Nat.beq w.xs.length n && Nat.beq w.sz sz with
    | true => some (.vptr v n (off + i.toNat) 0, h, inR i len && decide (off + len ≤ n))
    | false => none
   | _ => none
  | _, _ => none
 | .paddr n sz x i => match f x, f i with
  | .d (.cptr cs), .d (.int _ i) => match Nat.beq cs.length (n * sz) with
   | true => some (.d (.cptr (cs.drop (i.toNat * sz))), h, inR i n)
   | false => none
  | _, _ => none
 | .index x i => match f x, f i with
  | .d (.str s), .d (.int _ i) => some (.d (.int .u8 (sbyte s i)), h, inR i s.size)
  | _, _ => none
 | .field agg off sz x => match f x with
  | .agg cs => match getR agg cs off sz with
   | some v => val h v
   | none => none
  | .d (.agg cs) => match getR agg (cs.map .d) off sz with
   | some v => val h v
   | none => none
  | _ => none
 | .extract x i => match f x with
  | .tup vs => match vs[i]? with
   | some v => val h v
   | none => none
  | .d (.tup vs) => match vs[i]? with
   | some v => val h (.d v)
   | none => none
  | _ => none
 | .ibin op x y => match f x, f y with
  | .d (.int k a), .d (.int k' b) => match decide (k = k') with
   | true => match iop op k a b with
    | some (r, o) => some (.d (.int k r), h, o)
    | none => none
   | false => none
  | _, _ => none
 | .icmp op x y => match f x, f y with
  | .d (.int k a), .d (.int k' b) => match decide (k = k') with
   | true => match SL.icmp op a b with
    | some r => val h (.d (.bool r))
    | none => none
   | false => none
  | _, _ => none
 | .sbin op x y => match f x, f y with
  | .d (.str s), .d (.str t) => match op with
   | .add => some (.d (.str (s ++ t)), h, decide (s.size + t.size ≤ 9223372036854775807))
   | .eql => val h (.d (.bool (decide (s = t))))
   | .neq => val h (.d (.bool (!decide (s = t))))
   | _ => none
  | _, _ => none
 | .bbin ng x y => match f x, f y with
  | .d (.bool a), .d (.bool b) => val h (.d (.bool (ng ^^ (a == b))))
  | _, _ => none
 | .shift op x y => match f x, f y with
  | .d (.int k a), .d (.int _ b) => match op with
   | .shl => some (.d (.int k (k.wrap (a * 2 ^ (min b.toNat k.bits)))), h, decide (0 ≤ b))
   | .shr => some (.d (.int k (a.fdiv (2 ^ (min b.toNat k.bits)))), h, decide (0 ≤ b))
   | _ => none
  | _, _ => none
 | .eqnil k ng x => match k, f x with
  | 0, .d .nilP => val h (.d (.bool (!ng)))
  | 0, .d (.cptr _) => val h (.d (.bool ng))
  | 0, .ptr _ _ => val h (.d (.bool ng))
  | 0, .vptr i n _ _ => match cur h i n with
   | true => val h (.d (.bool ng))
   | false => none
  | 1, .d (.sl nl _ _) => val h (.d (.bool (nl ^^ ng)))
  | 1, .vs i n _ _ => match h.vc[i]? with
   | some (some v) => match Nat.beq v.xs.length n with
    | true => val h (.d (.bool (v.nil ^^ ng)))
    | false => none
   | _ => none
  | 2, .d .nilF => val h (.d (.bool (!ng)))
  | 2, .d (.fn _ _ _) => val h (.d (.bool ng))
  | 2, .fn _ _ _ => val h (.d (.bool ng))
  | 3, .d .nilI => val h (.d (.bool (!ng)))
  | 3, .d (.iface _ _) => val h (.d (.bool ng))
  | 3, .iface _ _ => val h (.d (.bool ng))
  | _, _ => none
 | .not x => match f x with
  | .d (.bool b) => val h (.d (.bool (!b)))
  | _ => none
 | .neg x => match f x with
  | .d (.int .i64 n) => some (.d (.int .i64 (-n)), h, inI (-n))
  | _ => none
 | .conv k x => match f x with
  | .d (.int _ n) => match k with
   | .i64 => some (.d (.int .i64 n), h, inI n)
   | k => val h (.d (.int k (k.wrap n)))
  | _ => none
 | .same x => match f x with
  | .d (.str s) => val h (.d (.str s))
  | _ => none
 | .mkfn g a c => match closeL (a.map f), closeL (c.map f) with
  | some a', some c' => val h (.d (.fn g a' c'))
  | _, _ => val h (.fn g (a.map f) (c.map f))
 | .mkif t x => match f x with
  | .d x => val h (.d (.iface t x))
  | .dead => none
  | v => val h (.iface t v)
 | .tass t z x => match f x with
  | .d .nilI => val h (.d (.tup [z, .bool false]))
  | .d (.iface t' x) => match Nat.beq t' t with
   | true => val h (.d (.tup [x, .bool true]))
   | false => val h (.d (.tup [z, .bool false]))
  | _ => none
 | .sslice x lo hi => match f x with
  | .d (.str s) => match sbnd f 0 lo, sbnd f s.size hi with
   | some l, some u => some (.d (.str (s.extract l.toNat u.toNat)), h, decide (0 ≤ l) && decide (l ≤ u) && decide (u ≤ s.size))
   | _, _ => none
  | _ => none
 | .lslice sz x lo hi => match f x with
  | .d (.sl nl sz' xs) => match nl with
   | false => match Nat.beq sz sz', sbnd f 0 lo, sbnd f xs.length hi with
    | true, some l, some u => some (.d (.sl false sz ((xs.take u.toNat).drop l.toNat)), h, decide (0 ≤ l) && decide (l ≤ u) && decide (u ≤ xs.length))
    | _, _, _ => none
   | true => match sbnd f 0 lo, sbnd f 0 hi with
    | some l, some u => some (.d (.sl true sz' []), h, decide (l = 0) && decide (u = 0) && decide (xs = []))
    | _, _ => none
  | .vs i n off len => match h.vc[i]? with
   | some (some v) => match Nat.beq v.xs.length n && Nat.beq v.sz sz && !v.nil, sbnd f 0 lo, sbnd f len hi with
    | true, some l, some u => match decide (l = u) && decide (0 < l) with
     | true => some (.d (.sl false sz []), h, decide (u ≤ len) && decide (off + len ≤ n))
     | false => some (.vs i n (off + l.toNat) (u.toNat - l.toNat), h, decide (0 ≤ l) && decide (l ≤ u) && decide (u ≤ len) && decide (off + len ≤ n) && (decide (l = 0) || decide (l < u)))
    | _, _, _ => none
   | _ => none
  | _ => none
 | .aslice n x => match f x with
  | .ptr i off => match h.bx[i]?, Nat.beq off 0 with
   | some (.cells cs _), true => match closeL cs, Nat.beq cs.length n && Nat.blt 0 n with
    | some ds, true => match ds.all flatD with
     | true => some (.d (.sl false 1 ds), { h with bx := h.bx.set i .gone }, true)
     | false => none
    | _, _ => none
   | _, _ => none
  | .d (.cptr cs) => match Nat.beq cs.length n && Nat.blt 0 n, cs.all flatD with
   | true, true => val h (.d (.sl false 1 cs))
   | _, _ => none
  | _ => none
 | .len str x => match str, f x with
  | false, .d (.sl _ _ xs) => val h (.d (.int .i64 xs.length))
  | true, .d (.str s) => val h (.d (.int .i64 s.size))
  | false, .vs i n _ len => match cur h i n with
   | true => val h (.d (.int .i64 len))
   | false => none
  | _, _ => none
 | .append e sz bytes _ x y => xappend h e sz bytes (f x) (f y)
 | .range x => match f x with
  | .d (.str s) => some (.ptr h.bx.length 0, { h with bx := h.bx ++ [.iter s 0] }, true)
  | _ => none
 | .next x => match f x with
  | .ptr i off => match h.bx[i]?, Nat.beq off 0 with
   | some (.iter s pos), true => match decide (pos < s.size) with
    | true => some (.d (.tup [.bool true, .int .i64 pos, .int .i32 (Utf8.decode s pos).1]), { h with bx := h.bx.set i (.iter s (pos + (Utf8.decode s pos).2)) }, true)
    | false => val h (.d (.tup [.bool false]))
   | _, _ => none
  | _ => none
 | .mx mn x y => match f x, f y with
  | .d (.int k a), .d (.int k' b) => match decide (k = k') with
   | true => val h (.d (.int k (match mn with | true => if b < a then b else a | false => if a < b then b else a)))
   | false => none
  | _, _ => none
 | .aeq ng x y => match f x, f y with
  | .d (.agg [.int k1 a1, .int k2 a2, .int k3 a3]), .d (.agg [.int l1 b1, .int l2 b2, .int l3 b3]) => match decide (k1 = l1) && (decide (k2 = l2) && decide (k3 = l3)) with
   | true => val h (.d (.bool (ng ^^ (decide (a1 = b1) && (decide (a2 = b2) && decide (a3 = b3))))))
   | false => none
  | _, _ => none
 | .peq ng x y => match f x, f y with
  | .ptr i a, .ptr j b => match Nat.beq i j with
   | true => val h (.d (.bool (ng ^^ Nat.beq a b)))
   | false => none
  | _, _ => none
 | .b2s x => match f x with
  | .d (.str _) => none
  | v => match elems h v with
   | some ys => match intsV ys with
    | some ns => match szOk (vsz h v) 1 with
     | true => val h (.d (.str (bytesI ns)))
     | false => none
    | none => none
   | none => none
 | .s2b x => match f x with
  | .d (.str s) => val h (.d (.sl false 1 (s.data.toList.map fun b => .int .u8 (b.toNat : Int))))
  | _ => none
 | .mks e bytes z n => match f n with
  | .d (.int _ n) => some (.vs h.vc.length n.toNat 0 n.toNat, { h with vc := h.vc ++ [some ⟨false, 1, 0, List.replicate n.toNat (.d z), e⟩] }, decide (0 ≤ n) && decide (n * bytes ≤ 140737488355328) && inI n)
  | _ => none
 | .p2u x => match f x with
  | .ptr i off => match h.bx[i]? with
   | some (.cells cs _) => match Nat.blt off cs.length with
    | true => val h (.ptr i off)
    | false => none
   | _ => none
  | .d .nilP => val h (.d .nilP)
  | _ => none
 | .u2p es x => match f x with
  | .ptr i off => match h.bx[i]? with
   | some (.cells cs e) => match Nat.beq off 0 && hasT es e cs.length with
    | true => val h (.ptr i off)
    | false => none
   | _ => none
  | .d .nilP => val h (.d .nilP)
  | _ => none
 | .usd x => match f x with
  | .vs i n off len => match h.vc[i]? with
   | some (some v) => match Nat.beq v.xs.length n && Nat.beq off 0 with
    | true => match v.nil with
     | true => val h (.d .nilP)
     | false => some (.vptr i n 0 0, h, decide (0 < len) && decide (len ≤ n))
    | false => none
   | _ => none
  | .d (.sl nl _ _) => match nl with
   | true => val h (.d .nilP)
   | false => none
  | _ => none
 | .ustr e x n => match f x, f n with
  | .vptr i m k o, .d (.int .i64 len) => match h.vc[i]? with
   | some (some v) => match Nat.beq v.xs.length m && Nat.beq k 0 && Nat.beq o 0 && Nat.beq v.sz 1 && Nat.beq v.e e && !v.nil with
    | true => match intsV (v.xs.take len.toNat) with
     | some ns => some (.d (.str (bytesI ns)), { h with vc := h.vc.set i (some { v with fz := max v.fz len.toNat }) }, decide (0 < len) && decide (len ≤ m) && byteL ns && inI len)
     | none => none
    | false => none
   | _ => none
  | .d .nilP, .d (.int .i64 len) => some (.d (.str ⟨#[]⟩), h, decide (len = 0))
  | _, _ => none
end Go.SL
namespace Go.SL
def link (κ : K) (i off len : Nat) (v : Value) : Prop :=
 match κ.vb i with
 | none => v = .slice none 0 0 ∧ off = 0 ∧ len = 0
 | some (b, cap, sz) => off + len ≤ cap ∧ v = .slice (some ⟨b, off * sz, none⟩) len (cap - off)
def plink (κ : K) (i k off : Nat) (v : Value) : Prop :=
 match κ.vb i with
 | none => False
 | some (b, _, sz) => v = .pointer (some ⟨b, k * sz + off, none⟩)
mutual
def VR (κ : K) : V → Value → Prop
 | .d x, v => DR κ.S x v
 | .dead, _ => True
 | .ptr i off, v => i < κ.nb ∧ v = .pointer (some ⟨κ.bl i, off, none⟩)
 | .vs i n off len, v => i < κ.nv ∧ v.oneCell' = true ∧ ∀ m, κ.vn i = some m → n ≤ m ∧ (n = m → link κ i off len v)
 | .vptr i n k off, v => i < κ.nv ∧ v.oneCell' = true ∧ ∀ m, κ.vn i = some m → n ≤ m ∧ (n = m → plink κ i k off v)
 | .fn f a c, v => ∃ a' c', v = .func f ⟨a'⟩ ⟨c'⟩ ∧ VL κ a a' ∧ VL κ c c'
 | .iface t x, v => ∃ y, v = .iface t y ∧ VR κ x y
 | .agg xs, v => ∃ ys, v = .agg ⟨ys⟩ ∧ VL κ xs ys ∧ ∀ y ∈ ys, y.oneCell' = true
 | .tup xs, v => ∃ ys, v = .tuple ⟨ys⟩ ∧ VL κ xs ys
def VL (κ : K) : List V → List Value → Prop
 | [], ys => ys = []
 | x :: xs, ys => ∃ y r, ys = y :: r ∧ VR κ x y ∧ VL κ xs r
end
mutual
theorem VR.mono {κ κ' : K} (h : Le κ κ') : ∀ (x : V) (v : Value), VR κ x v → VR κ' x v
 | .d x, v, r => by
  simp only [VR] at r ⊢
  exact DR.mono h.S x v r
 | .dead, _, _ => by simp only [VR]
 | .ptr i off, v, r => by
  simp only [VR] at r ⊢
  exact ⟨Nat.lt_of_lt_of_le r.1 h.nb, by rw [h.bl i r.1]; exact r.2⟩
 | .vs i n off len, v, r => by
  simp only [VR] at r ⊢
  refine ⟨Nat.lt_of_lt_of_le r.1 h.nv, r.2.1, fun m' e => ?_⟩
  obtain ⟨m, e2, l, k⟩ := h.vn i r.1 m' e
  obtain ⟨l1, k1⟩ := r.2.2 m e2
  refine ⟨Nat.le_trans l1 l, fun e3 => ?_⟩
  have e4 : m = m' := by omega
  have := k1 (by omega)
  unfold link at this ⊢
  rw [k e4]; exact this
 | .vptr i n j off, v, r => by
  simp only [VR] at r ⊢
  refine ⟨Nat.lt_of_lt_of_le r.1 h.nv, r.2.1, fun m' e => ?_⟩
  obtain ⟨m, e2, l, k⟩ := h.vn i r.1 m' e
  obtain ⟨l1, k1⟩ := r.2.2 m e2
  refine ⟨Nat.le_trans l1 l, fun e3 => ?_⟩
  have e4 : m = m' := by omega
  have := k1 (by omega)
  unfold plink at this ⊢
  rw [k e4]; exact this
 | .fn f a c, v, r => by
  simp only [VR] at r ⊢
  obtain ⟨a', c', e, r1, r2⟩ := r
  exact ⟨a', c', e, VL.mono h a a' r1, VL.mono h c c' r2⟩
 | .iface t x, v, r => by
  simp only [VR] at r ⊢
  obtain ⟨y, e, r⟩ := r
  exact ⟨y, e, VR.mono h x y r⟩
 | .agg xs, v, r => by
  simp only [VR] at r ⊢
  obtain ⟨ys, e, r, ho⟩ := r
  exact ⟨ys, e, VL.mono h xs ys r, ho⟩
 | .tup xs, v, r => by
  simp only [VR] at r ⊢
  obtain ⟨ys, e, r⟩ := r
  exact ⟨ys, e, VL.mono h xs ys r⟩
theorem VL.mono {κ κ' : K} (h : Le κ κ') : ∀ (xs : List V) (ys : List Value), VL κ xs ys → VL κ' xs ys
 | [], _, r => by simpa only [VL] using r
 | x :: xs, ys, r => by
  simp only [VL] at r ⊢
  obtain ⟨y, t, e, r1, r2⟩ := r
  exact ⟨y, t, e, VR.mono h x y r1, VL.mono h xs t r2⟩
end
def VC (κ : K) (xs : List V) (ys : List Value) : Prop := VL κ xs ys ∧ ∀ y ∈ ys, y.oneCell' = true
def VX (κ : K) (sz : Nat) : List V → List Value → Prop
 | [], ys => ys = []
 | x :: xs, ys => ∃ c r, ys = c ++ r ∧ c.length = sz ∧ VC κ x.cells c ∧ VX κ sz xs r
theorem VC.mono {κ κ' : K} (h : Le κ κ') {xs : List V} {ys : List Value} (r : VC κ xs ys) : VC κ' xs ys := ⟨VL.mono h _ _ r.1, r.2⟩
theorem VX.mono {κ κ' : K} (h : Le κ κ') {sz : Nat} : ∀ {xs : List V} {ys : List Value}, VX κ sz xs ys → VX κ' sz xs ys
 | [], _, r => r
 | x :: xs, ys, r => by
  obtain ⟨c, t, e, l, r1, r2⟩ := r
  exact ⟨c, t, e, l, r1.mono h, VX.mono h r2⟩
def BxR (κ : K) (w : World) (i : Nat) : Bx → Prop
 | .cells cs e => κ.who (κ.bl i) = .box i ∧ ∃ vs, w.heap[κ.bl i]? = some (.cells ⟨vs⟩ e (0, 0)) ∧ VC κ cs vs
 | .iter s pos => κ.who (κ.bl i) = .box i ∧ w.heap[κ.bl i]? = some (.stringIter s pos)
 | .raw R => κ.who (κ.bl i) = .box i ∧ ∃ o, w.heap[κ.bl i]? = some o ∧ ∀ κ', Le κ κ' → κ'.bl i = κ.bl i → R κ' o
 | .gone => True
def VcR (κ : K) (w : World) (i : Nat) : Option Vec → Prop
 | none => κ.vn i = none
 | some v => κ.vn i = some v.xs.length ∧ 0 < v.sz ∧ ((v.nil = true ∧ v.xs = [] ∧ κ.vb i = none) ∨
   (v.nil = false ∧ ∃ b cap vs sp fz, κ.vb i = some (b, cap, v.sz) ∧ κ.who b = .vec i ∧ w.heap[b]? = some (.cells ⟨vs ++ sp⟩ v.e fz) ∧
    vs.length + sp.length = cap * v.sz ∧ VX κ v.sz v.xs vs ∧ fz.2 ≤ v.fz ∧ (∀ y ∈ sp, y.oneCell' = true)))
structure Rel (κ : K) (h : H) (w : World) : Prop where
 S : ∀ b o v, κ.S b o = some v → w.cell? ⟨b, o, none⟩ = some v
 SO : ∀ b o v, κ.S b o = some v → κ.who b = .free ∨ κ.kp b = true
 nb : κ.nb = h.bx.length
 nv : κ.nv = h.vc.length
 bx : ∀ i x, h.bx[i]? = some x → BxR κ w i x
 vc : ∀ i x, h.vc[i]? = some x → VcR κ w i x
 rest : ∀ b o, κ.rest b = some o → κ.who b = .rest ∧ w.heap[b]? = some o
 os : w.os = κ.os
 out : w.output = κ.out
 tape : w.tape = κ.tape
theorem Rel.own {κ : K} {h : H} {w : World} (r : Rel κ h w) {b o : Nat} {v : Value} (e : κ.S b o = some v) : κ.who b = .free ∨ κ.who b = .rest := by
 rcases r.SO b o v e with q | q
 ·exact .inl q
 ·obtain ⟨ob, h1⟩ := κ.kr b q
  exact .inr (r.rest b ob h1).1
theorem VX.length {κ : K} {sz : Nat} : ∀ {xs : List V} {ys : List Value}, VX κ sz xs ys → ys.length = xs.length * sz
 | [], _, r => by simp only [VX] at r; simp [r]
 | x :: xs, ys, r => by
  obtain ⟨c, t, e, l, _, r2⟩ := r
  have := VX.length r2
  simp [e, l, this, Nat.add_mul]; omega
theorem VL.length {κ : K} : ∀ {xs : List V} {ys : List Value}, VL κ xs ys → ys.length = xs.length
 | [], _, r => by simp only [VL] at r; simp [r]
 | x :: xs, ys, r => by
  simp only [VL] at r
  obtain ⟨y, t, e, _, r2⟩ := r
  simp [e, VL.length r2]
theorem VL.get {κ : K} : ∀ {xs : List V} {ys : List Value} (_ : VL κ xs ys) (i : Nat) (x : V), xs[i]? = some x → ∃ y, ys[i]? = some y ∧ VR κ x y
 | [], _, _, i, x, e => by simp at e
 | z :: xs, ys, r, i, x, e => by
  simp only [VL] at r
  obtain ⟨y, t, e1, r1, r2⟩ := r
  subst e1
  cases i with
  | zero => simp at e; subst e; exact ⟨y, by simp, r1⟩
  | succ i => simp at e; obtain ⟨y', h1, h2⟩ := VL.get r2 i x e; exact ⟨y', by simpa using h1, h2⟩
theorem VL.take {κ : K} : ∀ {xs : List V} {ys : List Value} (n : Nat), VL κ xs ys → VL κ (xs.take n) (ys.take n)
 | [], _, n, r => by simp only [VL] at r; subst r; simp [VL]
 | z :: xs, ys, n, r => by
  simp only [VL] at r
  obtain ⟨y, t, e1, r1, r2⟩ := r
  subst e1
  cases n with
  | zero => simp [VL]
  | succ n => simp only [List.take_succ_cons, VL]; exact ⟨y, _, rfl, r1, VL.take n r2⟩
theorem VL.drop {κ : K} : ∀ {xs : List V} {ys : List Value} (n : Nat), VL κ xs ys → VL κ (xs.drop n) (ys.drop n)
 | [], _, n, r => by simp only [VL] at r; subst r; simp [VL]
 | z :: xs, ys, n, r => by
  have r' := r
  simp only [VL] at r
  obtain ⟨y, t, e1, r1, r2⟩ := r
  subst e1
  cases n with
  | zero => exact r'
  | succ n => simpa using VL.drop n r2
theorem VL.append {κ : K} : ∀ {xs : List V} {ys : List Value} {xs' : List V} {ys' : List Value}, VL κ xs ys → VL κ xs' ys' → VL κ (xs ++ xs') (ys ++ ys')
 | [], _, _, _, r, r' => by simp only [VL] at r; subst r; simpa using r'
 | z :: xs, ys, xs', ys', r, r' => by
  simp only [VL] at r
  obtain ⟨y, t, e1, r1, r2⟩ := r
  subst e1
  simp only [List.cons_append, VL]
  exact ⟨y, _, rfl, r1, VL.append r2 r'⟩
theorem VC.take {κ : K} {xs : List V} {ys : List Value} (n : Nat) (r : VC κ xs ys) : VC κ (xs.take n) (ys.take n) := ⟨VL.take n r.1, fun y hy => r.2 y (List.mem_of_mem_take hy)⟩
theorem VC.drop {κ : K} {xs : List V} {ys : List Value} (n : Nat) (r : VC κ xs ys) : VC κ (xs.drop n) (ys.drop n) := ⟨VL.drop n r.1, fun y hy => r.2 y (List.mem_of_mem_drop hy)⟩
theorem VC.append {κ : K} {xs : List V} {ys : List Value} {xs' : List V} {ys' : List Value} (r : VC κ xs ys) (r' : VC κ xs' ys') : VC κ (xs ++ xs') (ys ++ ys') :=
 ⟨VL.append r.1 r'.1, fun y hy => by rcases List.mem_append.1 hy with h | h; exact r.2 y h; exact r'.2 y h⟩
theorem VL.ofD {κ : K} : ∀ {xs : List D} {ys : List Value}, DL κ.S xs ys → VL κ (xs.map .d) ys
 | [], _, r => by simpa [DL, VL] using r
 | x :: xs, ys, r => by
  simp only [DL] at r
  obtain ⟨y, t, e, r1, r2⟩ := r
  simp only [List.map_cons, VL]
  exact ⟨y, t, e, by simpa only [VR] using r1, VL.ofD r2⟩
theorem DL.ofV {κ : K} : ∀ {xs : List V} {ds : List D} {ys : List Value}, closeL xs = some ds → VL κ xs ys → DL κ.S ds ys
 | [], ds, _, e, r => by simp only [closeL, Option.some.injEq] at e; subst e; simpa [DL, VL] using r
 | .d x :: xs, ds, ys, e, r => by
  simp only [closeL] at e
  split at e
  ·rename_i l hl
   simp only [Option.some.injEq] at e
   subst e
   simp only [VL, VR] at r
   obtain ⟨y, t, e, r1, r2⟩ := r
   simp only [DL]
   exact ⟨y, t, e, r1, DL.ofV hl r2⟩
  ·simp at e
 | .dead :: _, _, _, e, _ | .ptr _ _ :: _, _, _, e, _ | .vs _ _ _ _ :: _, _, _, e, _ | .vptr _ _ _ _ :: _, _, _, e, _
 | .fn _ _ _ :: _, _, _, e, _ | .iface _ _ :: _, _, _, e, _ | .agg _ :: _, _, _, e, _ | .tup _ :: _, _, _, e, _ => by simp [closeL] at e
theorem VR.mkAgg {κ : K} {xs : List V} {ys : List Value} (r : VC κ xs ys) : VR κ (mkAgg xs) (.agg ⟨ys⟩) := by
 unfold SL.mkAgg
 split
 ·rename_i ds h
  simp only [VR, DR]
  exact ⟨ys, rfl, DL.ofV h r.1, r.2⟩
 ·simp only [VR]
  exact ⟨ys, rfl, r.1, r.2⟩
theorem VR.cells {κ : K} {x : V} {v : Value} (r : VR κ x v) (ho : ones x.cells = true) : VC κ x.cells v.cells.toList := by
 cases x with
 | d x =>
  cases x with
  | agg xs =>
   simp only [VR, DR] at r
   obtain ⟨ys, e, r1, r2⟩ := r
   subst e
   exact ⟨VL.ofD r1, r2⟩
  | tup xs => simp [V.cells, ones, V.one] at ho
  | sl nl sz xs =>
   have r' := r
   simp only [VR, DR] at r
   rcases r with ⟨_, _, e⟩ | ⟨_, _, _, _, e, _⟩ <;> subst e <;> exact ⟨by simp only [V.cells, Value.cells, VL]; exact ⟨_, _, rfl, r', rfl⟩, by simp [Value.cells, Value.oneCell']⟩
  | _ =>
   have r' := r
   simp only [VR, DR] at r
   first
    | (subst r; exact ⟨by simp only [V.cells, Value.cells, VL]; exact ⟨_, _, rfl, r', rfl⟩, by simp [Value.cells, Value.oneCell']⟩)
    | (obtain ⟨_, _, e, _⟩ := r; subst e; exact ⟨by simp only [V.cells, Value.cells, VL]; exact ⟨_, _, rfl, r', rfl⟩, by simp [Value.cells, Value.oneCell']⟩)
    | (obtain ⟨_, e, _⟩ := r; subst e; exact ⟨by simp only [V.cells, Value.cells, VL]; exact ⟨_, _, rfl, r', rfl⟩, by simp [Value.cells, Value.oneCell']⟩)
 | dead => simp [V.cells, ones, V.one] at ho
 | tup xs => simp [V.cells, ones, V.one] at ho
 | agg xs =>
  simp only [VR] at r
  obtain ⟨ys, e, r1, r2⟩ := r
  subst e
  exact ⟨r1, r2⟩
 | ptr i off =>
  have r' := r
  simp only [VR] at r
  obtain ⟨_, e⟩ := r
  subst e; exact ⟨by simp only [V.cells, Value.cells, VL]; exact ⟨_, _, rfl, r', rfl⟩, by simp [Value.cells, Value.oneCell']⟩
 | fn f a c =>
  have r' := r
  simp only [VR] at r
  obtain ⟨_, _, e, _⟩ := r
  subst e; exact ⟨by simp only [V.cells, Value.cells, VL]; exact ⟨_, _, rfl, r', rfl⟩, by simp [Value.cells, Value.oneCell']⟩
 | iface t x =>
  have r' := r
  simp only [VR] at r
  obtain ⟨_, e, _⟩ := r
  subst e; exact ⟨by simp only [V.cells, Value.cells, VL]; exact ⟨_, _, rfl, r', rfl⟩, by simp [Value.cells, Value.oneCell']⟩
 | vs i n off len =>
  have h1 : v.oneCell' = true := by simp only [VR] at r; exact r.2.1
  have hc : v.cells = #[v] := by cases v <;> simp_all [Value.oneCell', Value.cells]
  rw [hc]; exact ⟨by simp only [V.cells, VL]; exact ⟨_, _, rfl, r, rfl⟩, by simpa using h1⟩
 | vptr i n k off =>
  have h1 : v.oneCell' = true := by simp only [VR] at r; exact r.2.1
  have hc : v.cells = #[v] := by cases v <;> simp_all [Value.oneCell', Value.cells]
  rw [hc]; exact ⟨by simp only [V.cells, VL]; exact ⟨_, _, rfl, r, rfl⟩, by simpa using h1⟩
end Go.SL
namespace Go.SL
theorem Rel.drawn {κ : K} {h : H} {w : World} (r : Rel κ h w) (n : Nat) : Rel κ h { w with drawn := n } where
 S := r.S
 SO := r.SO
 nb := r.nb
 nv := r.nv
 bx := fun i x e => by have := r.bx i x e; cases x <;> exact this
 vc := fun i x e => by have := r.vc i x e; cases x <;> exact this
 rest := r.rest
 os := r.os
 out := r.out
 tape := r.tape
theorem cell_lt {w : World} {b o : Nat} {v : Value} (h : w.cell? ⟨b, o, none⟩ = some v) : b < w.heap.size := by
 unfold World.cell? at h
 split at h
 ·rename_i c e f hb
  exact (Array.getElem?_eq_some_iff.1 hb).1
 ·simp at h
theorem heap_lt {w : World} {b : Nat} {o : Obj} (h : w.heap[b]? = some o) : b < w.heap.size := (Array.getElem?_eq_some_iff.1 h).1
theorem push_old {w : World} {b : Nat} {o x : Obj} (h : w.heap[b]? = some x) : (w.heap.push o)[b]? = some x := by
 have := heap_lt h
 rw [Array.getElem?_push]; simp [Nat.ne_of_lt this, h]
theorem push_new (w : World) (o : Obj) : (w.alloc o).heap[w.heap.size]? = some o := Array.getElem?_push_size
theorem cell_push {w : World} {a : Addr} {o : Obj} {v : Value} (h : w.cell? a = some v) : (w.alloc o).cell? a = some v := by
 unfold World.cell? at h ⊢
 split at h
 ·rename_i c e f hb
  rw [show (w.alloc o).heap[a.block]? = some (.cells c e f) from push_old hb]; exact h
 ·simp at h
theorem BxR.of {κ κ' : K} {w w' : World} {i : Nat} {x : Bx} (r : BxR κ w i x) (hle : Le κ κ') (hbl : κ'.bl i = κ.bl i)
  (hw : ∀ o, x ≠ .gone → w.heap[κ.bl i]? = some o → w'.heap[κ.bl i]? = some o ∧ κ'.who (κ.bl i) = κ.who (κ.bl i)) : BxR κ' w' i x := by
 cases x with
 | cells cs e =>
  obtain ⟨h1, vs, h2, h3⟩ := r
  obtain ⟨h4, h5⟩ := hw _ (by simp) h2
  exact ⟨by rw [hbl, h5, h1], vs, by rw [hbl]; exact h4, h3.mono hle⟩
 | iter s p =>
  obtain ⟨h1, h2⟩ := r
  obtain ⟨h4, h5⟩ := hw _ (by simp) h2
  exact ⟨by rw [hbl, h5, h1], by rw [hbl]; exact h4⟩
 | raw R =>
  obtain ⟨h1, o, h2, h3⟩ := r
  obtain ⟨h4, h5⟩ := hw _ (by simp) h2
  exact ⟨by rw [hbl, h5, h1], o, by rw [hbl]; exact h4, fun κ2 l2 e2 => h3 κ2 (hle.trans l2) (e2.trans hbl)⟩
 | gone => exact r
theorem VcR.of {κ κ' : K} {w w' : World} {i : Nat} {x : Option Vec} (r : VcR κ w i x) (hle : Le κ κ') (hvn : κ'.vn i = κ.vn i) (hvb : κ'.vb i = κ.vb i)
  (hw : ∀ o b c z, κ.vb i = some (b, c, z) → κ.who b = .vec i → w.heap[b]? = some o → w'.heap[b]? = some o ∧ κ'.who b = κ.who b) : VcR κ' w' i x := by
 cases x with
 | none => exact hvn.trans r
 | some v =>
  obtain ⟨h1, h2, h3⟩ := r
  refine ⟨hvn.trans h1, h2, ?_⟩
  rcases h3 with ⟨a, b, c⟩ | ⟨a, b, cap, vs, sp, fz, e1, e2, e3, e4, e5, e6⟩
  ·exact .inl ⟨a, b, hvb.trans c⟩
  ·obtain ⟨h4, h5⟩ := hw _ b cap v.sz e1 e2 e3
   exact .inr ⟨a, b, cap, vs, sp, fz, hvb.trans e1, h5.trans e2, h4, e4, e5.mono hle, e6⟩
theorem Rel.push {κ : K} {h : H} {w : World} (r : Rel κ h w) (ob : Obj) (ow : Own) :
  Rel { κ with who := fun b => if b = w.heap.size then ow else κ.who b } h (w.alloc ob) ∧ Le κ { κ with who := fun b => if b = w.heap.size then ow else κ.who b } := by
 have hle : Le κ { κ with who := fun b => if b = w.heap.size then ow else κ.who b } :=
  ⟨fun _ _ _ h => h, Nat.le_refl _, fun _ _ => rfl, Nat.le_refl _, fun _ _ m h => ⟨m, h, Nat.le_refl _, fun _ => rfl⟩, rfl, rfl, rfl, rfl⟩
 have hold : ∀ b o, w.heap[b]? = some o → (w.alloc ob).heap[b]? = some o ∧ (if b = w.heap.size then ow else κ.who b) = κ.who b := fun b o hb =>
  ⟨push_old hb, by simp [Nat.ne_of_lt (heap_lt hb)]⟩
 refine ⟨⟨fun b o v e => cell_push (r.S b o v e), fun b o v e => ?_, r.nb, r.nv, fun i x e => ?_, fun i x e => ?_, fun b o e => ?_, r.os, r.out, r.tape⟩, hle⟩
 ·have := cell_lt (r.S b o v e)
  simp only [Nat.ne_of_lt this, if_false]; exact r.SO b o v e
 ·exact (r.bx i x e).of hle rfl fun o _ hb => hold _ _ hb
 ·exact (r.vc i x e).of hle rfl rfl fun o b c z _ _ hb => hold _ _ hb
 ·have h1 := r.rest b o e
  have h2 := hold b o h1.2
  exact ⟨h2.2.trans h1.1, h2.1⟩
theorem Rel.newBox {κ : K} {h : H} {w : World} (r : Rel κ h w) (x : Bx) (ob : Obj)
  (hx : (∃ cs e vs, x = .cells cs e ∧ ob = .cells ⟨vs⟩ e ∧ VC κ cs vs) ∨ (∃ s p, x = .iter s p ∧ ob = .stringIter s p) ∨ (∃ R, x = .raw R ∧ ∀ κ', Le κ κ' → κ'.bl h.bx.length = w.heap.size → R κ' ob)) :
  ∃ κ', Rel κ' { h with bx := h.bx ++ [x] } (w.alloc ob) ∧ Le κ κ' ∧ VR κ' (.ptr h.bx.length 0) (.pointer (some ⟨w.heap.size, 0, none⟩)) := by
 obtain ⟨r1, l1⟩ := r.push ob (.box κ.nb)
 let κ1 : K := { κ with who := fun b => if b = w.heap.size then .box κ.nb else κ.who b }
 let κ' : K := { κ1 with nb := κ.nb + 1, bl := fun i => if i = κ.nb then w.heap.size else κ.bl i }
 have hle : Le κ1 κ' := ⟨fun _ _ _ h => h, Nat.le_succ _, fun i hi => by simp only [κ']; rw [if_neg (Nat.ne_of_lt hi)], Nat.le_refl _, fun _ _ m h => ⟨m, h, Nat.le_refl _, fun _ => rfl⟩, rfl, rfl, rfl, rfl⟩
 have hnb := r.nb
 refine ⟨κ', ⟨r1.S, r1.SO, ?_, r1.nv, fun i y e => ?_, fun i y e => ?_, r1.rest, r1.os, r1.out, r1.tape⟩, l1.trans hle, ?_⟩
 ·simp [κ', hnb]
 ·rcases Nat.lt_or_ge i h.bx.length with hi | hi
  ·rw [List.getElem?_append_left hi] at e
   refine (r1.bx i y e).of hle ?_ fun o _ hb => ⟨hb, rfl⟩
   simp only [κ']; rw [if_neg (by omega)]
  ·have hi' : i = h.bx.length := by
    rcases Nat.lt_or_ge h.bx.length i with h2 | h2
    ·rw [List.getElem?_eq_none (by simp; omega)] at e; simp at e
    ·omega
   subst hi'
   simp at e
   subst e
   have hb : κ'.bl h.bx.length = w.heap.size := by simp [κ', ← hnb]
   have hw : κ'.who w.heap.size = .box h.bx.length := by simp [κ', κ1, ← hnb]
   have hh : (w.alloc ob).heap[w.heap.size]? = some ob := push_new w ob
   rcases hx with ⟨cs, e, vs, e1, e2, e3⟩ | ⟨s, p, e1, e2⟩ | ⟨R, e1, e2⟩
   ·subst e1 e2
    exact ⟨by rw [hb, hw], vs, by rw [hb, hh], e3.mono (l1.trans hle)⟩
   ·subst e1 e2
    exact ⟨by rw [hb, hw], by rw [hb, hh]⟩
   ·subst e1
    exact ⟨by rw [hb, hw], ob, by rw [hb, hh], fun κ2 l2 hb2 => e2 κ2 ((l1.trans hle).trans l2) (by rw [hb2, hb])⟩
 ·exact (r1.vc i y e).of hle rfl rfl fun o b c z _ _ hb => ⟨hb, rfl⟩
 ·simp [VR, κ', ← hnb]
theorem Rel.newVec {κ : K} {h : H} {w : World} (r : Rel κ h w) (v : Vec) (cap : Nat) (vs sp : List Value) (hn : v.nil = false) (hz : 0 < v.sz)
  (hl : vs.length + sp.length = cap * v.sz) (hx : VX κ v.sz v.xs vs) (ho : ∀ y ∈ sp, y.oneCell' = true) :
  ∃ κ', Rel κ' { h with vc := h.vc ++ [some v] } (w.alloc (.cells ⟨vs ++ sp⟩ v.e)) ∧ Le κ κ' ∧
   VR κ' (.vs h.vc.length v.xs.length 0 v.xs.length) (.slice (some ⟨w.heap.size, 0, none⟩) v.xs.length cap) := by
 obtain ⟨r1, l1⟩ := r.push (.cells ⟨vs ++ sp⟩ v.e) (.vec κ.nv)
 let κ1 : K := { κ with who := fun b => if b = w.heap.size then .vec κ.nv else κ.who b }
 let κ' : K := { κ1 with nv := κ.nv + 1, vn := fun i => if i = κ.nv then some v.xs.length else κ.vn i, vb := fun i => if i = κ.nv then some (w.heap.size, cap, v.sz) else κ.vb i }
 have hle : Le κ1 κ' := ⟨fun _ _ _ h => h, Nat.le_refl _, fun _ _ => rfl, Nat.le_succ _, fun i hi m e => by
  have hne : ¬ i = κ.nv := Nat.ne_of_lt hi
  exact ⟨m, (if_neg hne).symm.trans e, Nat.le_refl _, fun _ => if_neg hne⟩, rfl, rfl, rfl, rfl⟩
 have hnv := r.nv
 have hlen := hx.length
 have hcap : v.xs.length ≤ cap := by
  rcases Nat.lt_or_ge cap v.xs.length with h1 | h1
  ·have := Nat.mul_lt_mul_of_pos_right h1 hz; omega
  ·exact h1
 refine ⟨κ', ⟨r1.S, r1.SO, r1.nb, ?_, fun i y e => ?_, fun i y e => ?_, r1.rest, r1.os, r1.out, r1.tape⟩, l1.trans hle, ?_⟩
 ·simp [κ', hnv]
 ·exact (r1.bx i y e).of hle rfl fun o _ hb => ⟨hb, rfl⟩
 ·rcases Nat.lt_or_ge i h.vc.length with hi | hi
  ·rw [List.getElem?_append_left hi] at e
   refine (r1.vc i y e).of hle ?_ ?_ fun o b c z _ _ hb => ⟨hb, rfl⟩
   ·simp only [κ']; rw [if_neg (by omega)]
   ·simp only [κ']; rw [if_neg (by omega)]
  ·have hi' : i = h.vc.length := by
    rcases Nat.lt_or_ge h.vc.length i with h2 | h2
    ·rw [List.getElem?_eq_none (by simp; omega)] at e; simp at e
    ·omega
   subst hi'
   simp at e
   subst e
   have hh : (w.alloc (.cells ⟨vs ++ sp⟩ v.e)).heap[w.heap.size]? = some (.cells ⟨vs ++ sp⟩ v.e) := push_new w _
   refine ⟨by simp [κ', hnv], hz, .inr ⟨hn, w.heap.size, cap, vs, sp, (0, 0), by simp [κ', hnv], by simp [κ', κ1, hnv], hh, hl, hx.mono (l1.trans hle), by simp, ho⟩⟩
 ·have hb : κ'.vb h.vc.length = some (w.heap.size, cap, v.sz) := by simp [κ', hnv]
  simp only [VR, link, hb]
  refine ⟨by simp [κ', hnv], by simp [Value.oneCell'], fun m e => ?_⟩
  simp [κ', hnv] at e
  subst e
  exact ⟨Nat.le_refl _, fun _ => ⟨by omega, by simp⟩⟩
theorem Rel.nilVec {κ : K} {h : H} {w : World} (r : Rel κ h w) (v : Vec) (hn : v.nil = true) (hx : v.xs = []) (hz : 0 < v.sz) :
  ∃ κ', Rel κ' { h with vc := h.vc ++ [some v] } w ∧ Le κ κ' ∧ VR κ' (.vs h.vc.length 0 0 0) (.slice none 0 0) := by
 let κ' : K := { κ with nv := κ.nv + 1, vn := fun i => if i = κ.nv then some 0 else κ.vn i, vb := fun i => if i = κ.nv then none else κ.vb i }
 have hle : Le κ κ' := ⟨fun _ _ _ h => h, Nat.le_refl _, fun _ _ => rfl, Nat.le_succ _, fun i hi m e => by
  have hne : ¬ i = κ.nv := Nat.ne_of_lt hi
  exact ⟨m, (if_neg hne).symm.trans e, Nat.le_refl _, fun _ => if_neg hne⟩, rfl, rfl, rfl, rfl⟩
 have hnv := r.nv
 refine ⟨κ', ⟨r.S, r.SO, r.nb, by simp [κ', hnv], fun i y e => (r.bx i y e).of hle rfl fun o _ hb => ⟨hb, rfl⟩, fun i y e => ?_, r.rest, r.os, r.out, r.tape⟩, hle, ?_⟩
 ·rcases Nat.lt_or_ge i h.vc.length with hi | hi
  ·rw [List.getElem?_append_left hi] at e
   refine (r.vc i y e).of hle ?_ ?_ fun o b c z _ _ hb => ⟨hb, rfl⟩
   ·simp only [κ']; rw [if_neg (by omega)]
   ·simp only [κ']; rw [if_neg (by omega)]
  ·have hi' : i = h.vc.length := by
    rcases Nat.lt_or_ge h.vc.length i with h2 | h2
    ·rw [List.getElem?_eq_none (by simp; omega)] at e; simp at e
    ·omega
   subst hi'
   simp at e
   subst e
   exact ⟨by simp [κ', hnv, hx], hz, .inl ⟨hn, hx, by simp [κ', hnv]⟩⟩
 ·simp only [VR, link]
  refine ⟨by simp [κ', hnv], by simp [Value.oneCell'], fun m e => ?_⟩
  simp [κ', hnv] at e
  subst e
  simp [κ', hnv]
theorem Rel.setBox {κ : K} {h : H} {w w' : World} (r : Rel κ h w) {i : Nat} {old x : Bx} (ho : h.bx[i]? = some old) (hg : old ≠ .gone)
  (hh : ∀ b, b ≠ κ.bl i → w'.heap[b]? = w.heap[b]?) (hos : w'.os = w.os) (hout : w'.output = w.output) (ht : w'.tape = w.tape)
  (hx : BxR κ w' i x) : Rel κ { h with bx := h.bx.set i x } w' := by
 have hown : κ.who (κ.bl i) = .box i := by
  have := r.bx i old ho
  cases old with
  | cells => exact this.1
  | iter => exact this.1
  | raw => exact this.1
  | gone => exact absurd rfl hg
 have hne : ∀ b, κ.who b ≠ .box i → b ≠ κ.bl i := fun b hb e => hb (e ▸ hown)
 refine ⟨fun b o v e => ?_, r.SO, by simpa using r.nb, r.nv, fun j y e => ?_, fun j y e => ?_, fun b o e => ?_, hos.trans r.os, hout.trans r.out, ht.trans r.tape⟩
 ·have h1 := r.S b o v e
  have h2 : b ≠ κ.bl i := hne b (by rcases r.own e with q | q <;> rw [q] <;> simp)
  unfold World.cell? at h1 ⊢
  rw [hh b h2]; exact h1
 ·by_cases hj : j = i
  ·subst hj
   rw [List.getElem?_set_self (List.getElem?_eq_some_iff.1 ho).1] at e
   simp at e; subst e; exact hx
  ·rw [List.getElem?_set_ne (Ne.symm hj)] at e
   refine (r.bx j y e).of (Le.refl κ) rfl fun o hy hb => ⟨?_, rfl⟩
   rw [hh _ (hne _ ?_)]
   ·exact hb
   ·have := r.bx j y e
    cases y with
    | cells => rw [this.1]; simp [hj]
    | iter => rw [this.1]; simp [hj]
    | raw => rw [this.1]; simp [hj]
    | gone => exact absurd rfl hy
 ·refine (r.vc j y e).of (Le.refl κ) rfl rfl fun o b c z _ hb1 hb => ⟨?_, rfl⟩
  rw [hh _ (hne _ (by rw [hb1]; simp))]; exact hb
 ·have h1 := r.rest b o e
  exact ⟨h1.1, by rw [hh b (hne b (by rw [h1.1]; simp))]; exact h1.2⟩
end Go.SL
namespace Go.SL
theorem Rel.newSeal {κ : K} {h : H} {w : World} (r : Rel κ h w) (c : Array Value) (e : TypeId) (fz : Nat × Nat) :
  ∃ κ', Rel κ' h (w.alloc (.cells c e fz)) ∧ Le κ κ' ∧ ∀ o v, c[o]? = some v → κ'.S w.heap.size o = some v := by
 obtain ⟨r1, l1⟩ := r.push (.cells c e fz) .free
 let κ1 : K := { κ with who := fun b => if b = w.heap.size then .free else κ.who b }
 have hS : κ.S.le fun b o => if b = w.heap.size then c[o]? else κ.S b o := fun b o v hs => by
  have hlt := cell_lt (r.S b o v hs)
  show (if b = w.heap.size then c[o]? else κ.S b o) = some v
  rw [if_neg (Nat.ne_of_lt hlt)]; exact hs
 let κ' : K := { κ1 with S := fun b o => if b = w.heap.size then c[o]? else κ.S b o, gs := fun p hp => DC.mono hS _ _ _ (κ.gs p hp) }
 have hle : Le κ1 κ' := ⟨hS, Nat.le_refl _, fun _ _ => rfl, Nat.le_refl _, fun _ _ m h => ⟨m, h, Nat.le_refl _, fun _ => rfl⟩, rfl, rfl, rfl, rfl⟩
 refine ⟨κ', ⟨fun b o v hs => ?_, fun b o v hs => ?_, r1.nb, r1.nv, fun i x hx => (r1.bx i x hx).of hle rfl fun o _ hb => ⟨hb, rfl⟩,
  fun i x hx => (r1.vc i x hx).of hle rfl rfl fun o b c z _ _ hb => ⟨hb, rfl⟩, r1.rest, r1.os, r1.out, r1.tape⟩, l1.trans hle, fun o v hv => ?_⟩
 ·have hs' : (if b = w.heap.size then c[o]? else κ.S b o) = some v := hs
  by_cases hb : b = w.heap.size
  ·subst hb
   rw [if_pos rfl] at hs'
   have := push_new w (.cells c e fz)
   unfold World.cell?
   simp only [this]
   simpa using hs'
  ·rw [if_neg hb] at hs'
   exact cell_push (r.S b o v hs')
 ·have hs' : (if b = w.heap.size then c[o]? else κ.S b o) = some v := hs
  show (if b = w.heap.size then Own.free else κ.who b) = .free ∨ κ.kp b = true
  by_cases hb : b = w.heap.size
  ·exact .inl (if_pos hb)
  ·rw [if_neg hb] at hs' ⊢
   exact r.SO b o v hs'
 ·show (if w.heap.size = w.heap.size then c[o]? else κ.S w.heap.size o) = some v
  rw [if_pos rfl]; exact hv
theorem DX.bytes {S : Sealed} {b : Nat} : ∀ (l : List UInt8) (o : Nat), (∀ j x, l[j]? = some x → S b (o + j) = some (.int .u8 (x.toNat : Int))) → DX S 1 (l.map fun x => D.int .u8 (x.toNat : Int)) b o
 | [], o, _ => by simp [DX]
 | x :: l, o, h => by
  simp only [List.map_cons, DX]
  refine ⟨⟨trivial, .int .u8 x.toNat, by simpa using h 0 x rfl, by simp [Value.oneCell'], by simp [DR]⟩, DX.bytes l (o + 1) fun j y hj => ?_⟩
  have := h (j + 1) y (by simpa using hj)
  rw [← this]; congr 1; omega
theorem bytesWorld_eq (w : World) (e : TypeId) (s : ByteArray) : Lib.bytesWorld w e s = w.drew.alloc (.cells (Lib.bytesCells w e s) e ((Lib.bytesCells w e s).size, (Lib.bytesCells w e s).size + 1)) := by
 have hh : (Lib.bytesWorld w e s).heap = (w.drew.alloc (.cells (Lib.bytesCells w e s) e ((Lib.bytesCells w e s).size, (Lib.bytesCells w e s).size + 1))).heap := by
  apply Array.ext_getElem?
  intro j
  rcases Nat.lt_trichotomy j w.heap.size with hj | hj | hj
  ·rw [Lib.bytesWorld_at_old w e s j hj]
   simp [World.alloc, World.drew, -World.alloc_eq, -World.drew_eq, Array.getElem?_push, Nat.ne_of_lt hj]
  ·subst hj
   rw [Lib.bytesWorld_at_new]
   simp [World.alloc, World.drew, -World.alloc_eq, -World.drew_eq]
  ·have h1 : (Lib.bytesWorld w e s).heap[j]? = none := Array.getElem?_eq_none (by rw [Lib.bytesWorld_size]; omega)
   rw [h1]
   symm
   apply Array.getElem?_eq_none
   simp [World.alloc, World.drew, -World.alloc_eq, -World.drew_eq]; omega
 have : ∀ (a b : World), a.heap = b.heap → { a with heap := #[] } = { b with heap := #[] } → a = b := by
  intro a b h1 h2
  cases a; cases b
  simp_all
 exact this _ _ hh rfl
end Go.SL
namespace Go.SL
theorem Rel.vecOwn {κ : K} {h : H} {w : World} (r : Rel κ h w) {i : Nat} {old : Vec} (ho : h.vc[i]? = some (some old)) : κ.vn i = some old.xs.length := (r.vc i _ ho).1
theorem Rel.vecIn {κ : K} {h : H} {w w' : World} (r : Rel κ h w) {i : Nat} {old v : Vec} (ho : h.vc[i]? = some (some old)) {b cap : Nat}
  (hvb : κ.vb i = some (b, cap, v.sz)) (hwho : κ.who b = .vec i)
  (hh : ∀ c, c ≠ b → w'.heap[c]? = w.heap[c]?) (hos : w'.os = w.os) (hout : w'.output = w.output) (ht : w'.tape = w.tape)
  (hn : v.nil = false) (hz : 0 < v.sz) (hlen : old.xs.length ≤ v.xs.length) {vs sp : List Value} {fz : Nat × Nat}
  (hb : w'.heap[b]? = some (.cells ⟨vs ++ sp⟩ v.e fz)) (hl : vs.length + sp.length = cap * v.sz) (hx : VX κ v.sz v.xs vs) (hfz : fz.2 ≤ v.fz)
  (hsp : ∀ y ∈ sp, y.oneCell' = true) :
  ∃ κ', Rel κ' { h with vc := h.vc.set i (some v) } w' ∧ Le κ κ' ∧ VR κ' (.vs i v.xs.length 0 v.xs.length) (.slice (some ⟨b, 0, none⟩) v.xs.length cap) := by
 have hvn := r.vecOwn ho
 have hi : i < h.vc.length := (List.getElem?_eq_some_iff.1 ho).1
 have hnv := r.nv
 let κ' : K := { κ with vn := fun j => if j = i then some v.xs.length else κ.vn j }
 have hle : Le κ κ' := ⟨fun _ _ _ h => h, Nat.le_refl _, fun _ _ => rfl, Nat.le_refl _, fun j _ m e => by
  by_cases hj : j = i
  ·subst hj
   have e' : some v.xs.length = some m := (if_pos rfl).symm.trans e
   simp at e'; subst e'
   exact ⟨_, hvn, hlen, fun _ => rfl⟩
  ·exact ⟨m, (if_neg hj).symm.trans e, Nat.le_refl _, fun _ => rfl⟩, rfl, rfl, rfl, rfl⟩
 have hne : ∀ c, κ.who c ≠ .vec i → c ≠ b := fun c hc e => hc (e ▸ hwho)
 have hlen' := hx.length
 have hcap : v.xs.length ≤ cap := by
  rcases Nat.lt_or_ge cap v.xs.length with h1 | h1
  ·have := Nat.mul_lt_mul_of_pos_right h1 hz; omega
  ·exact h1
 refine ⟨κ', ⟨fun c o y e => ?_, r.SO, r.nb, by simpa using r.nv, fun j y e => ?_, fun j y e => ?_, fun c o e => ?_, hos.trans r.os, hout.trans r.out, ht.trans r.tape⟩, hle, ?_⟩
 ·have h1 := r.S c o y e
  have h2 : c ≠ b := hne c (by rcases r.own e with q | q <;> rw [q] <;> simp)
  unfold World.cell? at h1 ⊢
  rw [hh c h2]; exact h1
 ·refine (r.bx j y e).of hle rfl fun o hy hc => ⟨?_, rfl⟩
  rw [hh _ (hne _ ?_)]
  ·exact hc
  ·have := r.bx j y e
   cases y with
   | cells => rw [this.1]; simp
   | iter => rw [this.1]; simp
   | raw => rw [this.1]; simp
   | gone => exact absurd rfl hy
 ·by_cases hj : j = i
  ·subst hj
   rw [List.getElem?_set_self hi] at e
   simp at e; subst e
   exact ⟨if_pos rfl, hz, .inr ⟨hn, b, cap, vs, sp, fz, hvb, hwho, hb, hl, hx.mono hle, hfz, hsp⟩⟩
  ·rw [List.getElem?_set_ne (Ne.symm hj)] at e
   refine (r.vc j y e).of hle (if_neg hj) rfl fun o c k z h1 h2 h3 => ⟨?_, rfl⟩
   rw [hh _ (hne _ (by rw [h2]; simp [hj]))]; exact h3
 ·have h1 := r.rest c o e
  exact ⟨h1.1, by rw [hh c (hne c (by rw [h1.1]; simp))]; exact h1.2⟩
 ·have hb' : κ'.vb i = some (b, cap, v.sz) := hvb
  simp only [VR, link, hb']
  refine ⟨by simp only [κ']; omega, by simp [Value.oneCell'], fun m e => ?_⟩
  have e' : some v.xs.length = some m := (if_pos rfl).symm.trans e
  simp at e'; subst e'
  exact ⟨Nat.le_refl _, fun _ => ⟨by omega, by simp⟩⟩
theorem Rel.vecMove {κ : K} {h : H} {w : World} (r : Rel κ h w) {i : Nat} {old v : Vec} (ho : h.vc[i]? = some (some old)) (cap : Nat) (vs sp : List Value)
  (hn : v.nil = false) (hz : 0 < v.sz) (hlen : old.xs.length < v.xs.length) (hl : vs.length + sp.length = cap * v.sz) (hx : VX κ v.sz v.xs vs)
  (hsp : ∀ y ∈ sp, y.oneCell' = true) :
  ∃ κ', Rel κ' { h with vc := h.vc.set i (some v) } (w.alloc (.cells ⟨vs ++ sp⟩ v.e)) ∧ Le κ κ' ∧
   VR κ' (.vs i v.xs.length 0 v.xs.length) (.slice (some ⟨w.heap.size, 0, none⟩) v.xs.length cap) := by
 obtain ⟨r1, l1⟩ := r.push (.cells ⟨vs ++ sp⟩ v.e) (.vec i)
 have hvn := r.vecOwn ho
 have hi : i < h.vc.length := (List.getElem?_eq_some_iff.1 ho).1
 have hnv := r.nv
 let κ1 : K := { κ with who := fun b => if b = w.heap.size then .vec i else κ.who b }
 let κ' : K := { κ1 with vn := fun j => if j = i then some v.xs.length else κ.vn j, vb := fun j => if j = i then some (w.heap.size, cap, v.sz) else κ.vb j }
 have hle : Le κ1 κ' := ⟨fun _ _ _ h => h, Nat.le_refl _, fun _ _ => rfl, Nat.le_refl _, fun j _ m e => by
  by_cases hj : j = i
  ·subst hj
   have e' : some v.xs.length = some m := (if_pos rfl).symm.trans e
   simp at e'; subst e'
   exact ⟨_, hvn, by omega, fun h5 => by omega⟩
  ·exact ⟨m, (if_neg hj).symm.trans e, Nat.le_refl _, fun _ => if_neg hj⟩, rfl, rfl, rfl, rfl⟩
 have hlen' := hx.length
 have hcap : v.xs.length ≤ cap := by
  rcases Nat.lt_or_ge cap v.xs.length with h1 | h1
  ·have := Nat.mul_lt_mul_of_pos_right h1 hz; omega
  ·exact h1
 refine ⟨κ', ⟨r1.S, r1.SO, r1.nb, by simpa using r1.nv, fun j y e => ?_, fun j y e => ?_, r1.rest, r1.os, r1.out, r1.tape⟩, l1.trans hle, ?_⟩
 ·exact (r1.bx j y e).of hle rfl fun o _ hb => ⟨hb, rfl⟩
 ·by_cases hj : j = i
  ·subst hj
   rw [List.getElem?_set_self hi] at e
   simp at e; subst e
   exact ⟨if_pos rfl, hz, .inr ⟨hn, w.heap.size, cap, vs, sp, (0, 0), if_pos rfl, if_pos rfl, push_new w _, hl, hx.mono (l1.trans hle), by simp, hsp⟩⟩
  ·rw [List.getElem?_set_ne (Ne.symm hj)] at e
   exact (r1.vc j y e).of hle (if_neg hj) (if_neg hj) fun o c k z h1 h2 h3 => ⟨h3, rfl⟩
 ·have hb' : κ'.vb i = some (w.heap.size, cap, v.sz) := if_pos rfl
  simp only [VR, link, hb']
  refine ⟨by simp only [κ', κ1]; omega, by simp [Value.oneCell'], fun m e => ?_⟩
  have e' : some v.xs.length = some m := (if_pos rfl).symm.trans e
  simp at e'; subst e'
  exact ⟨Nat.le_refl _, fun _ => ⟨by omega, by simp⟩⟩
theorem VX.append {κ : K} {sz : Nat} : ∀ {xs xs' : List V} {ys ys' : List Value}, VX κ sz xs ys → VX κ sz xs' ys' → VX κ sz (xs ++ xs') (ys ++ ys')
 | [], _, _, _, r, r' => by simp only [VX] at r; subst r; simpa using r'
 | x :: xs, xs', ys, ys', r, r' => by
  obtain ⟨c, t, e, l, r1, r2⟩ := r
  subst e
  exact ⟨c, t ++ ys', by simp, l, r1, VX.append r2 r'⟩
theorem VX.split {κ : K} {sz : Nat} : ∀ {xs : List V} {ys : List Value} (k : Nat) (x : V), VX κ sz xs ys → xs[k]? = some x →
  ∃ a c b, ys = a ++ c ++ b ∧ a.length = k * sz ∧ c.length = sz ∧ VC κ x.cells c ∧
   ∀ (y : V) (d : List Value), d.length = sz → VC κ y.cells d → VX κ sz (xs.set k y) (a ++ d ++ b)
 | [], _, k, x, _, e => by simp at e
 | z :: xs, ys, 0, x, r, e => by
  obtain ⟨c, t, e1, l, r1, r2⟩ := r
  simp at e; subst e
  exact ⟨[], c, t, by simpa using e1, by simp, l, r1, fun y d hd hy => by simp only [List.set_cons_zero]; exact ⟨d, t, by simp, hd, hy, r2⟩⟩
 | z :: xs, ys, k + 1, x, r, e => by
  obtain ⟨c, t, e1, l, r1, r2⟩ := r
  simp at e
  obtain ⟨a, c', b, h1, h2, h3, h4, h5⟩ := VX.split k x r2 e
  refine ⟨c ++ a, c', b, by simp [e1, h1], by simp [l, h2, Nat.add_mul]; omega, h3, h4, fun y d hd hy => ?_⟩
  simp only [List.set_cons_succ]
  exact ⟨c, a ++ d ++ b, by simp, l, r1, h5 y d hd hy⟩
theorem VX.drop {κ : K} {sz : Nat} : ∀ {xs : List V} {ys : List Value} (k : Nat), VX κ sz xs ys → VX κ sz (xs.drop k) (ys.drop (k * sz))
 | [], _, k, r => by simp only [VX] at r; subst r; simp [VX]
 | z :: xs, ys, 0, r => by simpa using r
 | z :: xs, ys, k + 1, r => by
  obtain ⟨c, t, e1, l, r1, r2⟩ := r
  have := VX.drop k r2
  rw [e1, show (k + 1) * sz = c.length + k * sz by rw [l]; simp [Nat.add_mul]; omega, ← List.drop_drop]
  simpa using this
theorem VX.take {κ : K} {sz : Nat} : ∀ {xs : List V} {ys : List Value} (k : Nat), VX κ sz xs ys → VX κ sz (xs.take k) (ys.take (k * sz))
 | [], _, k, r => by simp only [VX] at r; subst r; simp [VX]
 | z :: xs, ys, 0, r => by simp [VX]
 | z :: xs, ys, k + 1, r => by
  obtain ⟨c, t, e1, l, r1, r2⟩ := r
  have := VX.take k r2
  refine ⟨c, t.take (k * sz), ?_, l, r1, this⟩
  rw [e1, List.take_append]
  have hk : (k + 1) * sz = c.length + k * sz := by rw [l]; simp [Nat.add_mul]; omega
  rw [hk, List.take_of_length_le (by omega)]; simp
end Go.SL
namespace Go.SL
variable {P : Program}
theorem run_sizeOf {t : TypeId} {n : Nat} (h : (P.info? t).map (·.size) = some n) (w : World) : (sizeOf t).run P w = .ok n w := by
 cases hi : P.info? t with
 | none => simp [hi] at h
 | some i => simp [hi] at h; simp [sizeOf, typeInfo, hi, h]
def aggOf (P : Program) (t : TypeId) : Option Bool :=
 match P.underlying t with
 | some (.struct _) => some true
 | some (.array _ _) => some true
 | some _ => some false
 | none => none
theorem run_isAgg {t : TypeId} {b : Bool} (h : aggOf P t = some b) (w : World) : (isAgg t).run P w = .ok b w := by
 unfold aggOf at h
 cases hu : P.underlying t with
 | none => simp [hu] at h
 | some d => cases d <;> simp [hu] at h <;> subst h <;> simp [isAgg, run_underlying hu]
def At (w : World) (b o : Nat) (ys : List Value) : Prop := ∀ (j : Nat) y, ys[j]? = some y → w.cell? ⟨b, o + j, none⟩ = some y
theorem at_row {w : World} {b : Nat} {pre vs post : List Value} {e : TypeId} {fz : Nat × Nat} (hb : w.heap[b]? = some (.cells ⟨pre ++ vs ++ post⟩ e fz)) : At w b pre.length vs := by
 intro j y hj
 have hlt := (List.getElem?_eq_some_iff.1 hj).1
 simp only [World.cell?, hb]
 simp
 rw [List.getElem?_append_right (by omega)]
 simp only [Nat.add_sub_cancel_left]
 rw [List.getElem?_append_left hlt]; exact hj
theorem At.drop {w : World} {b o : Nat} {ys : List Value} (h : At w b o ys) (k : Nat) : At w b (o + k) (ys.drop k) := by
 intro j y hj
 rw [List.getElem?_drop] at hj
 have := h _ _ hj
 rwa [← Nat.add_assoc] at this
theorem At.take {w : World} {b o : Nat} {ys : List Value} (h : At w b o ys) (k : Nat) : At w b o (ys.take k) := by
 intro j y hj
 rw [List.getElem?_take] at hj
 split at hj
 ·exact h _ _ hj
 ·simp at hj
theorem addr_add (b o n : Nat) : (⟨b, o, none⟩ : Addr).add n = ⟨b, o + n, none⟩ := by unfold Addr.add; split <;> simp_all
theorem run_cells_at {w : World} {b o : Nat} {ys : List Value} (h : At w b o ys) : (loadCells ⟨b, o, none⟩ ys.length).run P w = .ok ⟨ys⟩ w :=
 run_loadCells_list w ⟨b, o, none⟩ ys fun j v hj => by rw [addr_add]; exact h j v hj
theorem load_at {κ : K} {w : World} {b o : Nat} {cs : List V} {ys : List Value} {agg : Bool} {off sz : Nat} {v : V} {t : TypeId}
  (ht : aggOf P t = some agg) (hs : (P.info? t).map (·.size) = some sz) (hr : VC κ cs ys) (ha : At w b o ys) (hg : getR agg cs off sz = some v) :
  ∃ x, (loadVar t ⟨b, o + off, none⟩).run P w = .ok x w ∧ VR κ v x := by
 unfold getR at hg
 cases agg with
 | true =>
  simp only at hg
  split at hg
  ·rename_i hle
   simp only [Option.some.injEq] at hg
   subst hg
   have hle' : off + sz ≤ cs.length := Nat.le_of_ble_eq_true hle
   have hlen := VL.length hr.1
   have hl : ((ys.drop off).take sz).length = sz := by simp; omega
   refine ⟨.agg ⟨(ys.drop off).take sz⟩, ?_, VR.mkAgg ((hr.drop off).take sz)⟩
   have := run_cells_at (P := P) ((ha.drop off).take sz)
   rw [hl] at this
   simp [loadVar, run_isAgg ht, run_sizeOf hs, this]
  ·simp at hg
 | false =>
  simp only at hg
  obtain ⟨y, h1, h2⟩ := VL.get hr.1 off v hg
  exact ⟨y, by simp [loadVar, run_isAgg ht, ha off y h1], h2⟩
theorem DC.at {κ : K} {h : H} {w : World} (r : Rel κ h w) : ∀ {cs : List D} {b o : Nat}, DC κ.S cs b o → ∃ ys, VC κ (cs.map .d) ys ∧ At w b o ys ∧ ys.length = cs.length
 | [], b, o, _ => ⟨[], ⟨by simp [VL], by simp⟩, by intro j y hj; simp at hj, rfl⟩
 | x :: cs, b, o, hd => by
  simp only [DC] at hd
  obtain ⟨⟨y, e, h1, h2⟩, h3⟩ := hd
  obtain ⟨ys, g1, g2, g3⟩ := DC.at r h3
  refine ⟨y :: ys, ⟨by simp only [List.map_cons, VL]; exact ⟨y, ys, rfl, by simpa only [VR] using h2, g1.1⟩, ?_⟩, ?_, by simp [g3]⟩
  ·intro z hz
   rcases List.mem_cons.1 hz with hz | hz
   ·subst hz; exact h1
   ·exact g1.2 z hz
  ·intro j z hj
   cases j with
   | zero => simp at hj; subst hj; exact r.S b o y e
   | succ j =>
    simp at hj
    have := g2 j z hj
    rwa [Nat.add_assoc, Nat.add_comm 1 j] at this
theorem xload_sound {κ : K} {h : H} {w : World} (r : Rel κ h w) {agg : Bool} {sz : Nat} {x v : V} {a : Value} {t : TypeId}
  (ht : aggOf P t = some agg) (hs : (P.info? t).map (·.size) = some sz) (hx : VR κ x a) (hl : xload h agg sz x = some v) :
  ∃ y, (Instr.loadAt t a).run P w = .ok y w ∧ VR κ v y := by
 unfold xload at hl
 split at hl
 ·rename_i i off
  simp only [VR] at hx
  obtain ⟨_, e⟩ := hx
  subst e
  split at hl
  ·rename_i cs e hb
   obtain ⟨_, vs, h2, h3⟩ := r.bx i _ hb
   have ha : At w (κ.bl i) 0 vs := by have := at_row (pre := []) (vs := vs) (post := []) (by simpa using h2); simpa using this
   obtain ⟨y, g1, g2⟩ := load_at ht hs h3 ha hl
   refine ⟨y, ?_, g2⟩
   rw [Nat.zero_add] at g1
   simp [Instr.loadAt, Instr.sureAddr, g1]
  ·simp at hl
 ·rename_i i n k off
  split at hl
  ·rename_i vc hv
   split at hl
   ·rename_i x hn hk
    have hn' := Nat.eq_of_beq_eq_true hn
    obtain ⟨h1, h2, h3⟩ := r.vc i _ hv
    simp only [VR] at hx
    obtain ⟨_, _, hx⟩ := hx
    obtain ⟨_, hx⟩ := hx _ h1
    have hx := hx hn'.symm
    rcases h3 with ⟨_, e, _⟩ | ⟨_, b, cap, vs, sp, fz, e1, e2, e3, e4, e5, _⟩
    ·simp [e] at hk
    ·obtain ⟨p, c, q, s1, s2, s3, s4, _⟩ := e5.split k x hk
     simp only [plink, e1] at hx
     subst hx
     have ha : At w b p.length c := at_row (pre := p) (vs := c) (post := q ++ sp) (e := vc.e) (fz := fz) (by rw [e3, s1]; simp)
     obtain ⟨y, g1, g2⟩ := load_at ht hs s4 ha hl
     refine ⟨y, ?_, g2⟩
     rw [s2] at g1
     simp [Instr.loadAt, Instr.sureAddr, g1]
   ·simp at hl
  ·simp at hl
 ·rename_i cs
  simp only [VR, DR] at hx
  obtain ⟨b, o, e, hd⟩ := hx
  subst e
  obtain ⟨ys, g1, g2, _⟩ := hd.at r
  obtain ⟨y, g3, g4⟩ := load_at ht hs g1 g2 hl
  refine ⟨y, ?_, g4⟩
  simp at g3
  simp [Instr.loadAt, Instr.sureAddr, g3]
 ·simp at hl
theorem store_at {w : World} {b : Nat} {cur : List Value} {e : TypeId} {fz : Nat × Nat} (hb : w.heap[b]? = some (.cells ⟨cur⟩ e fz)) {o : Nat} {v : Value} {t : TypeId}
  (hs : (P.info? t).map (·.size) = some v.cells.size) (hf : fz.2 ≤ o) (hl : o + v.cells.size ≤ cur.length) (h1 : ∀ y ∈ v.cells.toList, y.oneCell' = true) :
  (storeVar t ⟨b, o, none⟩ v).run P w = .ok () (w.setRow b ⟨cur.take o ++ v.cells.toList ++ cur.drop (o + v.cells.size)⟩) := by
 have := run_storeCells_atF P b o e fz v.cells.toList 0 ⟨cur⟩ w hb (by simpa using hf) (by simpa using hl) h1
 simp at this
 simp [storeVar, run_sizeOf hs, this]
theorem VL.set {κ : K} {xs new : List V} {ys nys : List Value} (r : VC κ xs ys) (r' : VC κ new nys) (off : Nat) (_hl : off + new.length ≤ xs.length) :
  VC κ (xs.take off ++ new ++ xs.drop (off + new.length)) (ys.take off ++ nys ++ ys.drop (off + nys.length)) := by
 have := VL.length r'.1
 rw [this]
 exact ((r.take off).append r').append (r.drop (off + new.length))
theorem mkAgg_cells : ∀ (l : List V), (mkAgg l).cells = l := by
 have hc : ∀ (l : List V) (ds : List D), closeL l = some ds → ds.map .d = l := by
  intro l
  induction l with
  | nil => intro ds e; simp [closeL] at e; subst e; rfl
  | cons x r ih =>
   intro ds e
   unfold closeL at e
   split at e
   ·rename_i h; simp at h
   ·rename_i h
    simp only [List.cons.injEq] at h
    obtain ⟨h1, h2⟩ := h
    subst h1 h2
    split at e
    ·rename_i l' hl
     simp only [Option.some.injEq] at e
     subst e
     simp [ih _ hl]
    ·simp at e
   ·simp at e
 intro l
 unfold mkAgg
 split
 ·rename_i ds e
  exact hc l ds e
 ·rfl
theorem putV_cells {κ : K} {sz off : Nat} {x y z : V} {c vs : List Value} (h : putV sz x off y = some z) (hc : c.length = sz) (hx : VC κ x.cells c) (hy : VC κ y.cells vs) :
  off + vs.length ≤ sz ∧ VC κ z.cells (c.take off ++ vs ++ c.drop (off + vs.length)) := by
 have hl := VL.length hy.1
 have hxl := VL.length hx.1
 unfold putV at h
 split at h
 ·rename_i hq
  simp only [Bool.and_eq_true] at hq
  have q1 := Nat.eq_of_beq_eq_true hq.1
  have q2 := Nat.eq_of_beq_eq_true hq.2
  simp only [Option.some.injEq] at h
  subst h q1
  refine ⟨by omega, ?_⟩
  rw [List.take_zero, List.drop_of_length_le (by omega)]
  simpa using hy
 ·split at h
  ·rename_i cs' hp
   simp only [Option.some.injEq] at h
   subst h
   unfold putR at hp
   split at hp
   ·rename_i hle
    have hle := Nat.le_of_ble_eq_true hle
    simp only [Option.some.injEq] at hp
    subst hp
    rw [mkAgg_cells]
    exact ⟨by omega, VL.set hx hy off hle⟩
   ·simp at hp
  ·simp at h
theorem xstore_sound {κ : K} {h h' : H} {w : World} (r : Rel κ h w) {sz : Nat} {x y : V} {a v : Value} {t : TypeId}
  (hs : (P.info? t).map (·.size) = some sz) (hx : VR κ x a) (hy : VR κ y v) (hst : xstore h sz x y = some h') :
  ∃ w' κ', (Instr.storeAt t a v).run P w = .ok () w' ∧ Rel κ' h' w' ∧ Le κ κ' := by
 unfold xstore at hst
 split at hst
 ·simp at hst
 ·rename_i hc
  simp only [Bool.and_eq_true] at hc
  obtain ⟨hc1, hc2⟩ := hc
  have hc1 := Nat.eq_of_beq_eq_true hc1
  have hvc := hy.cells hc2
  have hvl : v.cells.size = sz := by have := VL.length hvc.1; simp at this; omega
  split at hst
  ·rename_i i off
   simp only [VR] at hx
   obtain ⟨_, e⟩ := hx
   subst e
   split at hst
   ·rename_i cs e hb
    split at hst
    ·rename_i cs' hp
     simp only [Option.some.injEq] at hst
     subst hst
     obtain ⟨hw, vs, h2, h3⟩ := r.bx i _ hb
     unfold putR at hp
     split at hp
     ·rename_i hle
      simp only [Option.some.injEq] at hp
      have hle' := Nat.le_of_ble_eq_true hle
      have hlen := VL.length h3.1
      have hrun := store_at (P := P) (t := t) (v := v) h2 (o := off) (by rw [hvl]; exact hs) (by simp) (by omega) (by simpa using hvc.2)
      refine ⟨w.setRow (κ.bl i) ⟨vs.take off ++ v.cells.toList ++ vs.drop (off + v.cells.size)⟩, κ, ?_, r.setBox hb (by simp) (fun b hb => setRow_other w _ _ _ hb) rfl rfl rfl (x := .cells cs' e) ?_, Le.refl κ⟩
      ·simp [Instr.storeAt, Instr.sureAddr, hrun]
      ·refine ⟨hw, _, setRow_heap w _ _ _ _ _ h2, ?_⟩
       subst hp
       have := VL.set h3 hvc off (by simpa using hle')
       simpa using this
     ·simp at hp
    ·simp at hst
   ·simp at hst
  ·rename_i i n k off
   split at hst
   ·rename_i vc hv
    split at hst
    ·rename_i x hcond hk
     split at hst
     ·rename_i z hz
      simp only [Option.some.injEq] at hst
      subst hst
      simp only [Bool.and_eq_true] at hcond
      obtain ⟨q1, q2⟩ := hcond
      have q1 := Nat.eq_of_beq_eq_true q1
      have q2 := Nat.le_of_ble_eq_true q2
      obtain ⟨h1, h2, h3⟩ := r.vc i _ hv
      simp only [VR] at hx
      obtain ⟨_, _, hx⟩ := hx
      obtain ⟨_, hx⟩ := hx _ h1
      have hx := hx q1.symm
      rcases h3 with ⟨_, e, _⟩ | ⟨hnil, b, cap, vs, sp, fz, e1, e2, e3, e4, e5, e6, e7⟩
      ·simp [e] at hk
      ·obtain ⟨p, c, q, s1, s2, s3, s4, s5⟩ := e5.split k x hk
       simp only [plink, e1] at hx
       subst hx
       obtain ⟨t1, t2⟩ := putV_cells hz s3 s4 hvc
       have hrun := store_at (P := P) (t := t) (v := v) e3 (o := k * vc.sz + off) (by rw [hvl]; exact hs) (by omega) (by rw [s1]; simp; simp at t1; omega) (by simpa using hvc.2)
       have hnew := s5 z (c.take off ++ v.cells.toList ++ c.drop (off + v.cells.size)) (by simp at t1 ⊢; omega) (by simpa using t2)
       have hnl := hnew.length
       have hrow : (vs ++ sp).take (k * vc.sz + off) ++ v.cells.toList ++ (vs ++ sp).drop (k * vc.sz + off + v.cells.size) = (p ++ (c.take off ++ v.cells.toList ++ c.drop (off + v.cells.size)) ++ q) ++ sp := by
        have t3 : off + v.cells.size ≤ c.length := by simp at t1; omega
        rw [s1, ← s2]
        rw [show p ++ c ++ q ++ sp = p ++ (c ++ (q ++ sp)) by simp, List.take_length_add_append, Nat.add_assoc, List.drop_length_add_append]
        rw [List.take_append_of_le_length (by omega), List.drop_append_of_le_length (by omega)]
        simp
       rw [hrow] at hrun
       have hl' := e5.length
       obtain ⟨κ', g1, g2, _⟩ := r.vecIn hv (v := { vc with xs := vc.xs.set k z }) e1 e2 (fun c hc => setRow_other w b c _ hc) rfl rfl rfl hnil h2 (by simp)
        (setRow_heap w b _ _ _ _ e3) (by simp only [List.length_set] at hnl ⊢; omega) hnew e6 e7
       refine ⟨_, κ', ?_, g1, g2⟩
       simp [Instr.storeAt, Instr.sureAddr] at hrun ⊢
       exact hrun
     ·simp at hst
    ·simp at hst
   ·simp at hst
  ·simp at hst
end Go.SL
namespace Go.SL
variable {P : Program}
theorem toD_flat (S : Sealed) (n : Nat) (v : Value) (d : D) (hv : ∀ cs, v ≠ .agg cs) (h : toD n v = some d) : DR S d v := by
 cases v with
 | agg cs => exact absurd rfl (hv cs)
 | pointer a => cases a <;> cases n <;> simp [toD] at h <;> subst h <;> simp [DR]
 | slice a l c => cases a <;> cases n <;> cases l <;> cases c <;> simp [toD] at h <;> subst h <;> simp [DR]
 | _ => cases n <;> simp [toD] at h <;> subst h <;> simp [DR]
theorem toD_sound (S : Sealed) : ∀ (n : Nat) (v : Value) (d : D), toD n v = some d → DR S d v := by
 intro n
 induction n with
 | zero =>
  intro v d h
  cases v with
  | agg cs => simp [toD] at h
  | _ => exact toD_flat S 0 _ d (by simp) h
 | succ n ih =>
  have hgo : ∀ (l : List Value) (ds : List D), toD.go n l = some ds → DL S ds l ∧ ∀ y ∈ l, y.oneCell' = true := by
   intro l
   induction l with
   | nil => intro ds h; simp [toD.go] at h; subst h; simp [DL]
   | cons v r ihl =>
    intro ds h
    unfold toD.go at h
    split at h
    ·simp at h
    ·simp at h
    ·rename_i hna hnt
     split at h
     ·rename_i x l hx hl
      simp only [Option.some.injEq] at h
      subst h
      obtain ⟨g1, g2⟩ := ihl l hl
      refine ⟨by simp only [DL]; exact ⟨v, r, rfl, ih v x hx, g1⟩, ?_⟩
      intro y hy
      rcases List.mem_cons.1 hy with hy | hy
      ·subst hy; cases y <;> simp_all [Value.oneCell']
      ·exact g2 y hy
     ·simp at h
  intro v d h
  cases v with
  | agg cs =>
   simp only [toD] at h
   split at h
   ·rename_i l hl
    simp only [Option.some.injEq] at h
    subst h
    obtain ⟨g1, g2⟩ := hgo _ _ hl
    simp only [DR]
    exact ⟨cs.toList, by simp, g1, g2⟩
   ·simp at h
  | _ => exact toD_flat S (n + 1) _ d (by simp) h
theorem toDgo_sound (S : Sealed) (n : Nat) : ∀ (l : List Value) (ds : List D), toD.go n l = some ds → DL S ds l ∧ ∀ y ∈ l, y.oneCell' = true := by
 intro l
 induction l with
 | nil => intro ds h; simp [toD.go] at h; subst h; simp [DL]
 | cons v r ihl =>
  intro ds h
  unfold toD.go at h
  split at h
  ·simp at h
  ·simp at h
  ·rename_i hna hnt
   split at h
   ·rename_i x l hx hl
    simp only [Option.some.injEq] at h
    subst h
    obtain ⟨g1, g2⟩ := ihl l hl
    refine ⟨by simp only [DL]; exact ⟨v, r, rfl, toD_sound S n v x hx, g1⟩, ?_⟩
    intro y hy
    rcases List.mem_cons.1 hy with hy | hy
    ·subst hy; cases y <;> simp_all [Value.oneCell']
    ·exact g2 y hy
   ·simp at h
def zeroOf (P : Program) (t : TypeId) : Option (List D) :=
 match P.info? t with
 | some i => match i.zero with
  | some z => match Nat.beq z.cells.size i.size with
   | true => toD.go 8 z.cells.toList
   | false => none
  | none => none
 | none => none
theorem zeroOf_sound {t : TypeId} {z : List D} (h : zeroOf P t = some z) (S : Sealed) : ∃ i v, P.info? t = some i ∧ i.zero = some v ∧ v.cells.size = i.size ∧
  DL S z v.cells.toList ∧ ∀ y ∈ v.cells.toList, y.oneCell' = true := by
 unfold zeroOf at h
 split at h
 ·rename_i i hi
  split at h
  ·rename_i v hv
   split at h
   ·rename_i hb
    obtain ⟨g1, g2⟩ := toDgo_sound S 8 _ _ h
    exact ⟨i, v, hi, hv, Nat.eq_of_beq_eq_true hb, g1, g2⟩
   ·simp at h
  ·simp at h
 ·simp at h
theorem zeroCells_one {z : Array Value} (h : ∀ y ∈ z.toList, y.oneCell' = true) (n : Nat) : ∀ y ∈ (Builtin.zeroCells z n).toList, y.oneCell' = true := by
 intro y hy
 unfold Builtin.zeroCells at hy
 simp at hy
 obtain ⟨a, ha, e⟩ := hy
 subst e
 have hz : 0 < z.size := by
  rcases Nat.eq_zero_or_pos z.size with h0 | h0
  ·rw [h0] at ha; omega
  ·exact h0
 have hlt := Nat.mod_lt a hz
 rw [getElem!_pos z _ hlt]
 exact h _ (by simp)
theorem zeroCells_size {z : Array Value} (n : Nat) : (Builtin.zeroCells z n).size = n * z.size := by simp [Builtin.zeroCells]
theorem DX.at {κ : K} {h : H} {w : World} (r : Rel κ h w) {sz : Nat} : ∀ {xs : List D} {b o : Nat}, DX κ.S sz xs b o →
  ∃ ys, VX κ sz (xs.map .d) ys ∧ At w b o ys ∧ ys.length = xs.length * sz ∧ ∀ y ∈ ys, y.oneCell' = true
 | [], b, o, _ => ⟨[], by simp [VX], by intro j y hj; simp at hj, by simp, by simp⟩
 | x :: xs, b, o, hd => by
  have key : (∃ c, VC κ (V.d x).cells c ∧ At w b o c ∧ c.length = sz) ∧ DX κ.S sz xs b (o + sz) := by
   cases x with
   | agg cs =>
    simp only [DX] at hd
    obtain ⟨⟨h1, h2⟩, h3⟩ := hd
    obtain ⟨ys, g1, g2, g3⟩ := h2.at r
    exact ⟨⟨ys, g1, g2, by omega⟩, h3⟩
   | _ =>
    simp only [DX] at hd
    obtain ⟨⟨h1, y, e, ho, h2⟩, h3⟩ := hd
    refine ⟨⟨[y], ⟨by simp only [V.cells, VL, VR]; exact ⟨y, [], rfl, h2, rfl⟩, by simpa using ho⟩, ?_, by simp [h1]⟩, h3⟩
    intro j z hj
    cases j with
    | zero => simp at hj; subst hj; exact r.S b o y e
    | succ j => simp at hj
  obtain ⟨⟨c, k1, k2, k3⟩, k4⟩ := key
  obtain ⟨ys, g1, g2, g3, g4⟩ := DX.at r k4
  refine ⟨c ++ ys, ?_, ?_, by simp [k3, g3, Nat.add_mul]; omega, fun y hy => ?_⟩
  ·simp only [List.map_cons, VX]
   exact ⟨c, ys, rfl, k3, k1, g1⟩
  ·intro j y hj
   rcases Nat.lt_or_ge j c.length with hlt | hge
   ·rw [List.getElem?_append_left hlt] at hj; exact k2 j y hj
   ·rw [List.getElem?_append_right hge] at hj
    have := g2 _ y hj
    rwa [show o + sz + (j - c.length) = o + j by omega] at this
  ·rcases List.mem_append.1 hy with hy | hy
   ·exact k1.2 y hy
   ·exact g4 y hy
theorem VX.bytes {κ : K} : ∀ (l : List UInt8), VX κ 1 (l.map fun b => V.d (.int .u8 (b.toNat : Int))) (l.map fun b => Value.int .u8 (b.toNat : Int))
 | [] => by simp [VX]
 | b :: l => by
  simp only [List.map_cons, VX]
  exact ⟨[.int .u8 b.toNat], _, rfl, rfl, ⟨by simp [V.cells, VL, VR, DR], by simp [Value.oneCell']⟩, VX.bytes l⟩
theorem VX.one {κ : K} {sz : Nat} : ∀ {xs : List V} {ys : List Value}, VX κ sz xs ys → ∀ y ∈ ys, y.oneCell' = true
 | [], _, r, y, hy => by simp only [VX] at r; subst r; simp at hy
 | x :: xs, ys, r, y, hy => by
  obtain ⟨c, t, e, l, r1, r2⟩ := r
  subst e
  rcases List.mem_append.1 hy with hy | hy
  ·exact r1.2 y hy
  ·exact VX.one r2 y hy
theorem elems_sound {κ : K} {h : H} {w : World} (r : Rel κ h w) {x : V} {v : Value} {ys : List V} {sz : Nat} (hx : VR κ x v) (he : elems h x = some ys)
  (hz : szOk (vsz h x) sz = true) : ∃ new, (Builtin.lenOf v).run P w = .ok ys.length w ∧
   (∀ k, (Builtin.firstCells sz ys.length v).run P { w with drawn := k } = .ok ⟨new⟩ { w with drawn := k }) ∧ VX κ sz ys new := by
 unfold elems at he
 split at he
 ·rename_i nl sz' xs
  simp only [Option.some.injEq] at he
  subst he
  simp only [VR, DR] at hx
  rcases hx with ⟨e1, e2, e3⟩ | ⟨e1, b, o, cap, e3, _, hd⟩
  ·subst e2 e3
   exact ⟨[], by simp [Builtin.lenOf], fun k => by simp [Builtin.firstCells], by simp [VX]⟩
  ·subst e1 e3
   simp only [vsz, szOk] at hz
   have hz := Nat.eq_of_beq_eq_true hz
   subst hz
   obtain ⟨new, g1, g2, g3, _⟩ := hd.at r
   have := fun k => run_cells_at (P := P) (w := { w with drawn := k }) (b := b) (o := o) (ys := new) g2
   rw [g3] at this
   exact ⟨new, by simp [Builtin.lenOf], fun k => by simp [Builtin.firstCells, this], g1⟩
 ·rename_i s
  simp only [Option.some.injEq] at he
  subst he
  simp only [VR, DR] at hx
  subst hx
  simp only [vsz, szOk] at hz
  have hz := Nat.eq_of_beq_eq_true hz
  subst hz
  refine ⟨s.data.toList.map fun b => Value.int .u8 (b.toNat : Int), by simp [Builtin.lenOf], ?_, VX.bytes _⟩
  have hs : (s.data.toList.map fun b => (V.d (.int .u8 (b.toNat : Int)))).length = s.size := by simp
  rw [hs]
  have hex : s.extract 0 s.size = s := by
   apply ByteArray.ext
   simp
  intro k
  simp [Builtin.firstCells, hex]
  apply Array.ext'
  simp
 ·rename_i i n off len
  split at he
  ·rename_i vc hv
   split at he
   ·rename_i hn
    simp only [Option.some.injEq] at he
    subst he
    simp only [Bool.and_eq_true] at hn
    have hn' := Nat.eq_of_beq_eq_true hn.1
    have hol := Nat.le_of_ble_eq_true hn.2
    obtain ⟨h1, h2, h3⟩ := r.vc i _ hv
    simp only [VR] at hx
    obtain ⟨_, _, hx⟩ := hx
    obtain ⟨_, hx⟩ := hx _ h1
    have hx := hx hn'.symm
    simp only [vsz, hv, szOk] at hz
    have hz := Nat.eq_of_beq_eq_true hz
    subst hz
    rcases h3 with ⟨_, e, e2⟩ | ⟨_, b, cap, vs, sp, fz, e1, e2, e3, e4, e5, _⟩
    ·simp only [link, e2] at hx
     obtain ⟨g1, g2, g3⟩ := hx
     subst g1 g2 g3
     exact ⟨[], by simp [Builtin.lenOf], fun k => by simp [Builtin.firstCells], by simp [VX]⟩
    ·simp only [link, e1] at hx
     obtain ⟨g1, g2⟩ := hx
     subst g2
     have hlen := e5.length
     have hvx := (e5.drop off).take len
     have hat : At w b 0 vs := by have := at_row (pre := []) (vs := vs) (post := sp) (by simpa using e3); simpa using this
     have hat2 := (hat.drop (off * vc.sz)).take (len * vc.sz)
     have hl1 : ((vc.xs.drop off).take len).length = len := by simp; omega
     have hl2 := hvx.length
     rw [hl1] at hl2
     have hrun := fun k => run_cells_at (P := P) (w := { w with drawn := k }) (b := b) (o := 0 + off * vc.sz) (ys := (vs.drop (off * vc.sz)).take (len * vc.sz)) hat2
     rw [hl2] at hrun
     rw [Nat.zero_add] at hrun
     refine ⟨(vs.drop (off * vc.sz)).take (len * vc.sz), by rw [hl1]; simp [Builtin.lenOf], ?_, hvx⟩
     intro k
     rw [hl1]
     simp [Builtin.firstCells, hrun]
   ·simp at he
  ·simp at he
 ·simp at he
def notInt (P : Program) (t : TypeId) : Bool :=
 match P.underlying t with
 | some (.slice _) => true
 | some .string => true
 | _ => false
theorem notInt_cases {t : TypeId} (h : notInt P t = true) : (∃ e, P.underlying t = some (.slice e)) ∨ P.underlying t = some .string := by
 unfold notInt at h
 split at h
 ·rename_i e he; exact .inl ⟨e, he⟩
 ·rename_i he; exact .inr he
 ·simp at h
theorem append_room {w : World} {t tx ty e : TypeId} {i : TypeInfo} (ht : P.underlying t = some (.slice e)) (hk : notInt P tx = true) (hi : P.info? e = some i)
  {base : Option Addr} {sLen sCap : Nat} {x : Value} {n : Nat} {new : List Value} (hlen : (Builtin.lenOf x).run P w = .ok n w)
  (hcells : (Builtin.firstCells i.size n x).run P w = .ok ⟨new⟩ w) (hroom : sLen + n ≤ sCap) :
  (Builtin.append_ #[t, tx] ty #[.slice base sLen sCap, x]).run P w = match base with
   | none => .ok (.slice none (sLen + n) sCap) w
   | some a => ((storeCells (a.add (sLen * i.size)) new).run P w).andThen fun _ w' => .ok (.slice (some a) (sLen + n) sCap) w' := by
 rcases notInt_cases hk with ⟨e', hu⟩ | hu <;> cases base <;>
  simp [Builtin.append_, run_underlying ht, run_underlying hu, sizeOf, typeInfo, hi, hlen, hroom, hcells]
theorem append_grow {w : World} {t tx ty e : TypeId} {i : TypeInfo} {z : Value} (ht : P.underlying t = some (.slice e)) (hk : notInt P tx = true) (hi : P.info? e = some i) (hz : i.zero = some z)
  {base : Option Addr} {sLen sCap : Nat} {x : Value} {n : Nat} {new old : List Value} (hlen : (Builtin.lenOf x).run P w = .ok n w)
  (hcells : ∀ k, (Builtin.firstCells i.size n x).run P { w with drawn := k } = .ok ⟨new⟩ { w with drawn := k })
  (hold : ∀ k, (Builtin.firstCells i.size sLen (.slice base sLen sCap)).run P { w with drawn := k } = .ok ⟨old⟩ { w with drawn := k })
  (hg : sCap < sLen + n) (hb : (sLen + n) * i.bytes ≤ 140737488355328) (hb0 : 0 < i.bytes) :
  ∃ cap k, sLen + n ≤ cap ∧ (Builtin.append_ #[t, tx] ty #[.slice base sLen sCap, x]).run P w =
   .ok (.slice (some ⟨w.heap.size, 0, none⟩) (sLen + n) cap) (({ w with drawn := k } : World).alloc (.cells ⟨(old ++ new) ++ (Builtin.zeroCells z.cells (cap - (sLen + n))).toList⟩ e)) := by
 have hn : ¬ (sLen + n ≤ sCap) := by omega
 have hle : sLen + n ≤ (sLen + n) * i.bytes := Nat.le_mul_of_pos_right _ hb0
 have h63 : ¬ (9223372036854775807 < ((sLen : Int) + (n : Int))) := by omega
 have hcap := growslice_fits hg hb
 have h48 : ¬ (281474976710656 < Builtin.nextslicecap (sLen + n) sCap * i.bytes) := by omega
 have hq : (Question.appendCap (sLen + n) sCap e).forced = false := rfl
 have hc0 : sLen + n ≤ (Question.appendCap (sLen + n) sCap e).cut (w.tape w.drawn (Question.appendCap (sLen + n) sCap e)) := by simp [Question.cut]
 have hold' : (Builtin.firstCells i.size sLen (.slice base sLen sCap)).run P w.drew = .ok ⟨old⟩ w.drew := hold _
 have hcells' : (Builtin.firstCells i.size n x).run P w.drew = .ok ⟨new⟩ w.drew := hcells _
 refine ⟨_, w.drawn + 1, hc0, ?_⟩
 generalize hcc : (Question.appendCap (sLen + n) sCap e).cut (w.tape w.drawn (Question.appendCap (sLen + n) sCap e)) = cap
 rcases notInt_cases hk with ⟨e', hu⟩ | hu <;>
  simp [Builtin.append_, run_underlying ht, run_underlying hu, sizeOf, typeInfo, hi, hlen, hn, h63, h48, hq, hold', hcells', zeroValue, hz, newRow, hcc]
 all_goals
  congr 2
  apply Array.ext'
  simp
theorem xappend_sound {κ : K} {h h' : H} {w : World} (r : Rel κ h w) {t tx ty e : TypeId} {i : TypeInfo} {z : Value} (ht : P.underlying t = some (.slice e)) (hk : notInt P tx = true)
  (hi : P.info? e = some i) (hz : i.zero = some z) (hzs : z.cells.size = i.size) (hz1 : ∀ y ∈ z.cells.toList, y.oneCell' = true) (hb0 : 0 < i.bytes)
  {x y v : V} {a b : Value} {ob : Bool} (hx : VR κ x a) (hy : VR κ y b) (ha : xappend h e i.size i.bytes x y = some (v, h', ob)) (hob : ob = true) :
  ∃ c w' κ', (Builtin.append_ #[t, tx] ty #[a, b]).run P w = .ok c w' ∧ Rel κ' h' w' ∧ Le κ κ' ∧ VR κ' v c := by
 unfold xappend at ha
 split at ha
 case h_2 => simp at ha
 rename_i ys hel hsz
 simp only [Bool.and_eq_true] at hsz
 obtain ⟨hsz, hpos⟩ := hsz
 have hpos : 0 < i.size := by simpa [Nat.blt_eq] using hpos
 obtain ⟨new, n1, n2, n3⟩ := elems_sound (P := P) r hy hel hsz
 split at ha
 ·rename_i nl sz'
  split at ha
  case h_2 => simp at ha
  simp only [Option.some.injEq, Prod.mk.injEq] at ha
  obtain ⟨e1, e2, e3⟩ := ha
  subst e1 e2 e3
  simp only [VR, DR] at hx
  rcases hx with ⟨_, _, e4⟩ | ⟨e4, _⟩
  case inr => simp at e4
  subst e4
  simp only [decide_eq_true_eq] at hob
  by_cases hy0 : ys.length = 0
  ·have hys : ys = [] := List.length_eq_zero_iff.1 hy0
   subst hys
   obtain ⟨κ', g1, g2, g3⟩ := r.nilVec ⟨true, i.size, 0, [], e⟩ rfl rfl hpos
   refine ⟨_, w, κ', append_room ht hk hi n1 (n2 w.drawn) (by simp), g1, g2, g3⟩
  ·obtain ⟨cap, k, c1, c2⟩ := append_grow (P := P) (w := w) (ty := ty) (base := none) (sLen := 0) (sCap := 0) (old := []) ht hk hi hz n1 n2 (by intro k; simp [Builtin.firstCells]) (by omega) (by simpa using hob) hb0
   have hzc : (Builtin.zeroCells z.cells (cap - (0 + ys.length))).toList.length = (cap - (0 + ys.length)) * z.cells.size := by rw [Array.length_toList]; exact zeroCells_size _
   have hnl := n3.length
   obtain ⟨κ', g1, g2, g3⟩ := (r.drawn k).newVec ⟨ys.isEmpty, i.size, 0, ys, e⟩ cap new (Builtin.zeroCells z.cells (cap - (0 + ys.length))).toList
    (by cases ys <;> simp_all) hpos (by show new.length + (Builtin.zeroCells z.cells (cap - (0 + ys.length))).toList.length = cap * i.size; rw [hzc, hzs, hnl, ← Nat.add_mul]; congr 1; omega) (n3.mono (Le.refl κ)) (zeroCells_one hz1 _)
   refine ⟨_, _, κ', c2, ?_, g2, ?_⟩
   ·simpa using g1
   ·simpa using g3
 ·rename_i j n off len
  split at ha
  case h_2 => simp at ha
  rename_i vc hv
  split at ha
  case h_2 =>
   split at ha
   case h_2 => simp at ha
   rename_i hcond
   simp only [Bool.and_eq_true, Bool.not_eq_true'] at hcond
   obtain ⟨⟨⟨⟨⟨⟨q1, q2⟩, q3⟩, q4⟩, q5⟩, q6⟩, q7⟩ := hcond
   have q1 := Nat.eq_of_beq_eq_true q1
   have q2 := Nat.eq_of_beq_eq_true q2
   have q3 := Nat.le_of_ble_eq_true q3
   have q4 := Nat.eq_of_beq_eq_true q4
   have q5 := Nat.le_of_ble_eq_true q5
   have q6 := Nat.eq_of_beq_eq_true q6
   simp only [Option.some.injEq, Prod.mk.injEq] at ha
   obtain ⟨e1, e2, e3⟩ := ha
   subst e1 e2 q2
   obtain ⟨h1, h2, h3⟩ := r.vc j _ hv
   simp only [VR] at hx
   obtain ⟨hx0, _, hx1⟩ := hx
   obtain ⟨_, hx2⟩ := hx1 _ h1
   have hx3 := hx2 q1.symm
   clear hx1 hx2
   subst q1 q6
   rcases h3 with ⟨hnil, _⟩ | ⟨hnil, c, cap, vs, sp, fz, e1, e2, e3, e4, e5, e6, e7⟩
   ·rw [hnil] at q7; simp at q7
   simp only [link, e1] at hx3
   obtain ⟨hcap, g1⟩ := hx3
   subst g1
   have hvl := e5.length
   have hone := n3.one
   have n3 : VX κ vc.sz ys new := by rw [q4]; exact n3
   have hnl := n3.length
   have q5 : vc.fz ≤ len * vc.sz := by rw [q4]; exact q5
   have hcl : vc.xs.length ≤ cap := by
    rcases Nat.lt_or_ge cap vc.xs.length with h5 | h5
    ·have := Nat.mul_lt_mul_of_pos_right h5 h2; omega
    ·exact h5
   have hm1 : (len + ys.length) * vc.sz ≤ vc.xs.length * vc.sz := Nat.mul_le_mul_right _ q3
   rw [Nat.add_mul] at hm1
   have hst := run_storeCells_atF P c (len * vc.sz) vc.e fz new 0 ⟨vs ++ sp⟩ w e3 (by omega) (by
    show len * vc.sz + 0 + new.length ≤ (vs ++ sp).length
    rw [List.length_append, hvl, hnl]; omega) hone
   have hrow : (vs ++ sp).take (len * vc.sz + 0) ++ new ++ (vs ++ sp).drop (len * vc.sz + 0 + new.length) = (vs.take (len * vc.sz) ++ new ++ vs.drop ((len + ys.length) * vc.sz)) ++ sp := by
    rw [Nat.add_zero, List.take_append_of_le_length (by omega), List.drop_append_of_le_length (by omega), hnl, ← Nat.add_mul]
    simp
   simp only [hrow] at hst
   have hlen : (vc.xs.take len ++ ys ++ vc.xs.drop (len + ys.length)).length = vc.xs.length := by simp; omega
   obtain ⟨κ', k1, k2, k3⟩ := r.vecIn hv (v := { vc with xs := vc.xs.take len ++ ys ++ vc.xs.drop (len + ys.length) }) e1 e2
    (fun d hd => setRow_other w c d ⟨(vs.take (len * vc.sz) ++ new ++ vs.drop ((len + ys.length) * vc.sz)) ++ sp⟩ hd) rfl rfl rfl hnil h2 (by simp only [hlen]; exact Nat.le_refl _)
    (setRow_heap w c _ _ _ _ e3) (by
     have h9 : (len + ys.length) * vc.sz = len * vc.sz + ys.length * vc.sz := Nat.add_mul ..
     show (vs.take (len * vc.sz) ++ new ++ vs.drop ((len + ys.length) * vc.sz)).length + sp.length = cap * vc.sz
     simp only [List.length_append, List.length_take, List.length_drop]
     omega)
    (((e5.take len).append n3).append (e5.drop (len + ys.length))) e6 e7
   refine ⟨.slice (some ⟨c, 0, none⟩) (len + ys.length) cap, _, κ', ?_, k1, k2, ?_⟩
   ·rw [append_room ht hk hi n1 (n2 w.drawn) (by omega)]
    simp only [Nat.zero_mul, addr_add, Nat.zero_add]
    rw [← q4, hst]
    rfl
   ·simp only [VR]
    refine ⟨Nat.lt_of_lt_of_le hx0 k2.nv, by simp [Value.oneCell'], fun m hm => ?_⟩
    obtain ⟨m0, f1, f2, f3⟩ := k2.vn j hx0 m hm
    rw [h1] at f1
    simp only [Option.some.injEq] at f1
    subst f1
    refine ⟨f2, fun f4 => ?_⟩
    have f5 := f3 f4
    simp only [link, f5, e1]
    exact ⟨by omega, by simp⟩
  rename_i hcond
  simp only [Bool.and_eq_true] at hcond
  obtain ⟨⟨⟨⟨⟨q1, q2⟩, q3⟩, q4⟩, q5⟩, q6⟩ := hcond
  have q1 := Nat.eq_of_beq_eq_true q1
  have q2 := Nat.eq_of_beq_eq_true q2
  have q3 := Nat.eq_of_beq_eq_true q3
  have q4 := Nat.eq_of_beq_eq_true q4
  have q5 := Nat.le_of_ble_eq_true q5
  have q6 := Nat.eq_of_beq_eq_true q6
  simp only [Option.some.injEq, Prod.mk.injEq] at ha
  obtain ⟨e1, e2, e3⟩ := ha
  subst e1 e2 e3 q2 q3
  simp only [decide_eq_true_eq] at hob
  obtain ⟨h1, h2, h3⟩ := r.vc j _ hv
  simp only [VR] at hx
  obtain ⟨_, _, hx⟩ := hx
  obtain ⟨_, hx⟩ := hx _ h1
  have hx := hx q1.symm
  subst q1 q6
  rcases h3 with ⟨hnil, e, e2⟩ | ⟨hnil, c, cap, vs, sp, fz, e1, e2, e3, e4, e5, e6, e7⟩
  ·simp only [link, e2] at hx
   obtain ⟨g1, _, _⟩ := hx
   subst g1
   by_cases hy0 : ys.length = 0
   ·have hys : ys = [] := List.length_eq_zero_iff.1 hy0
    subst hys
    refine ⟨_, w, κ, append_room ht hk hi n1 (n2 w.drawn) (by simp), ?_, Le.refl κ, ?_⟩
    ·have : h.vc.set j (some { nil := vc.nil && ([] : List V).isEmpty, sz := vc.sz, fz := vc.fz, xs := vc.xs ++ [], e := vc.e }) = h.vc := by
      have h5 : vc = { nil := vc.nil && ([] : List V).isEmpty, sz := vc.sz, fz := vc.fz, xs := vc.xs ++ [], e := vc.e } := by cases vc; simp
      rw [← h5]
      exact List.ext_getElem? fun k => by
       by_cases hk : k = j
       ·subst hk; rw [List.getElem?_set_self (List.getElem?_eq_some_iff.1 hv).1, hv]
       ·rw [List.getElem?_set_ne (Ne.symm hk)]
     rw [this]; exact r
    ·simp only [VR, link, e2, e]
     refine ⟨by rw [r.nv]; exact (List.getElem?_eq_some_iff.1 hv).1, by simp [Value.oneCell'], fun m hm => ?_⟩
     rw [h1, e] at hm
     simp at hm
     subst hm
     simp
   ·obtain ⟨cap, k, c1, c2⟩ := append_grow (P := P) (w := w) (ty := ty) (base := none) (sLen := 0) (sCap := 0) (old := []) ht hk hi hz n1 n2 (by intro k; simp [Builtin.firstCells]) (by omega) (by rw [e] at hob; simpa using hob) hb0
    have hzc : (Builtin.zeroCells z.cells (cap - (0 + ys.length))).toList.length = (cap - (0 + ys.length)) * z.cells.size := by rw [Array.length_toList]; exact zeroCells_size _
    have hnl := n3.length
    obtain ⟨κ', g1, g2, g3⟩ := (r.drawn k).vecMove hv (v := { nil := vc.nil && ys.isEmpty, sz := vc.sz, fz := vc.fz, xs := vc.xs ++ ys, e := vc.e }) cap new (Builtin.zeroCells z.cells (cap - (0 + ys.length))).toList
     (by cases ys <;> simp_all) h2 (by simp; omega) (by show new.length + (Builtin.zeroCells z.cells (cap - (0 + ys.length))).toList.length = cap * vc.sz; rw [hzc, hzs, hnl, q4, ← Nat.add_mul]; congr 1; omega)
     (by rw [e, List.nil_append, q4]; exact n3) (zeroCells_one hz1 _)
    refine ⟨_, _, κ', c2, ?_, g2, ?_⟩
    ·simpa using g1
    ·simpa [e] using g3
  ·simp only [link, e1] at hx
   obtain ⟨hcap, g1⟩ := hx
   subst g1
   have hvl := e5.length
   have hone := n3.one
   have n3 : VX κ vc.sz ys new := by rw [q4]; exact n3
   have hnl := n3.length
   have q5 : vc.fz ≤ vc.xs.length * vc.sz := by rw [q4]; exact q5
   have hzs : z.cells.size = vc.sz := by rw [q4]; exact hzs
   by_cases hroom : vc.xs.length + ys.length ≤ cap
   ·have hst := run_storeCells_atF P c (vc.xs.length * vc.sz) vc.e fz new 0 ⟨vs ++ sp⟩ w e3 (by omega) (by
     show vc.xs.length * vc.sz + 0 + new.length ≤ (vs ++ sp).length
     rw [List.length_append, e4, hnl, Nat.add_zero, ← Nat.add_mul]; exact Nat.mul_le_mul_right _ hroom) hone
    have hrow : (vs ++ sp).take (vc.xs.length * vc.sz + 0) ++ new ++ (vs ++ sp).drop (vc.xs.length * vc.sz + 0 + new.length) = (vs ++ new) ++ sp.drop new.length := by
     rw [Nat.add_zero, ← hvl, List.take_left, ← List.drop_drop, List.drop_left]
    simp only [hrow] at hst
    obtain ⟨κ', k1, k2, k3⟩ := r.vecIn hv (v := { nil := vc.nil && ys.isEmpty, sz := vc.sz, fz := vc.fz, xs := vc.xs ++ ys, e := vc.e }) e1 e2
     (fun d hd => setRow_other w c d ⟨(vs ++ new) ++ sp.drop new.length⟩ hd) rfl rfl rfl (by simp [hnil]) h2 (by simp)
     (setRow_heap w c _ _ _ _ e3) (by
      have hle : new.length ≤ sp.length := by
       have : (vc.xs.length + ys.length) * vc.sz ≤ cap * vc.sz := Nat.mul_le_mul_right _ hroom
       rw [Nat.add_mul, ← e4, hvl] at this
       omega
      simp; omega)
     (e5.append n3) e6 (fun y hy => e7 y (List.mem_of_mem_drop hy))
    refine ⟨_, _, κ', ?_, k1, k2, by simpa using k3⟩
    rw [append_room ht hk hi n1 (n2 w.drawn) (by simpa using hroom)]
    simp only [Nat.zero_mul, addr_add, Nat.zero_add]
    rw [← q4, hst]
    simp
   ·obtain ⟨cap', k, c1, c2⟩ := append_grow (P := P) (w := w) (ty := ty) (base := some ⟨c, 0 * vc.sz, none⟩) (sLen := vc.xs.length) (sCap := cap - 0) (old := vs) ht hk hi hz n1 n2 (by
      intro k
      have hat : At { w with drawn := k } c 0 vs := by
       have := at_row (w := { w with drawn := k }) (b := c) (pre := []) (vs := vs) (post := sp) (e := vc.e) (fz := fz) (by simpa using e3)
       simpa using this
      have := run_cells_at (P := P) hat
      rw [hvl, q4] at this
      simp [Builtin.firstCells, this]) (by omega) (by simpa using hob) hb0
    have hzc : (Builtin.zeroCells z.cells (cap' - (vc.xs.length + ys.length))).toList.length = (cap' - (vc.xs.length + ys.length)) * z.cells.size := by rw [Array.length_toList]; exact zeroCells_size _
    obtain ⟨κ', g1, g2, g3⟩ := (r.drawn k).vecMove hv (v := { nil := vc.nil && ys.isEmpty, sz := vc.sz, fz := vc.fz, xs := vc.xs ++ ys, e := vc.e }) cap' (vs ++ new) (Builtin.zeroCells z.cells (cap' - (vc.xs.length + ys.length))).toList
     (by simp [hnil]) h2 (by simp; omega) (by
      show (vs ++ new).length + (Builtin.zeroCells z.cells (cap' - (vc.xs.length + ys.length))).toList.length = cap' * vc.sz
      rw [List.length_append, hzc, hzs, hnl, hvl, ← Nat.add_mul, ← Nat.add_mul]; congr 1; omega)
     (e5.append n3) (zeroCells_one hz1 _)
    refine ⟨_, _, κ', c2, ?_, g2, ?_⟩
    ·simpa using g1
    ·simpa using g3
 ·simp at ha
end Go.SL
namespace Go.SL
variable {P : Program}
def gcell : List (Nat × List D) → Nat → Option (List D)
 | [], _ => none
 | (k, c) :: r, g => match Nat.beq k g with
  | true => some c
  | false => gcell r g
theorem gcell_mem : ∀ {l : List (Nat × List D)} {g : Nat} {c : List D}, gcell l g = some c → (g, c) ∈ l
 | (k, x) :: r, g, c, h => by
  simp only [gcell] at h
  split at h
  ·rename_i e
   simp only [Option.some.injEq] at h
   rw [← Nat.eq_of_beq_eq_true e, h]; simp
  ·exact List.mem_cons_of_mem _ (gcell_mem h)
def opd : Operand → Option Opd
 | .tmp t => some (.tmp t)
 | .const v => match toD 8 v with
  | some d => some (.cst d)
  | none => none
 | .func f => some (.cst (.fn (.func f) [] []))
 | .global g => match gcell gcells g with
  | some c => some (.cst (.cptr c))
  | none => none
def opdO : Option Operand → Option (Option Opd)
 | none => some none
 | some x => match opd x with
  | some y => some (some y)
  | none => none
def opds : List Operand → Option (List Opd)
 | [] => some []
 | x :: r => match opd x, opds r with
  | some y, some l => some (y :: l)
  | _, _ => none
def szOf (P : Program) (t : TypeId) : Option Nat := (P.info? t).map (·.size)
def placeOf (P : Program) (fs : Array Field) (i : Nat) : Option (Nat × Nat) :=
 match fs[i]? with
 | some f => match szOf P f.type with
  | some n => some (f.offset, n)
  | none => none
 | none => none
def partsOf (place : Nat → Option (Nat × Nat)) : List (Nat × Operand) → Option (List (Nat × Nat × Opd))
 | [] => some []
 | (i, x) :: r => match place i, opd x, partsOf place r with
  | some (o, n), some y, some l => some ((o, n, y) :: l)
  | _, _, _ => none
def allSz (P : Program) : List Field → Bool
 | [] => true
 | f :: r => (szOf P f.type).isSome && allSz P r
def isNil : Nat → Operand → Bool
 | 0, .const (.pointer none) => true
 | 1, .const (.slice none 0 0) => true
 | 2, .const .nilFunc => true
 | 3, .const .nilIface => true
 | _, _ => false
def copNil (k : Nat) (op : BinOp) (x' : Opd) (y : Operand) : Option AO :=
 match isNil k y with
 | true => match op with
  | .eql => some (.eqnil k false x')
  | .neq => some (.eqnil k true x')
  | _ => none
 | false => none
def intT (P : Program) (t : TypeId) : Bool := match P.underlying t with
 | some (.int _) => true
 | _ => false
def int3 (P : Program) (t : TypeId) (fs : Array Field) : Bool := match fs.toList with
 | [a, b, c] => intT P a.type && (intT P b.type && (intT P c.type && (Nat.beq a.offset 0 && (Nat.beq b.offset 1 && (Nat.beq c.offset 2 && (!decide (a.name = "_") && (!decide (b.name = "_") && (!decide (c.name = "_") && (!P.stoodInHeld t && !P.eqGuardType P.depth t)))))))))
 | _ => false
def copBin (P : Program) (op : BinOp) (t : TypeId) (x y : Operand) : Option AO :=
 match opd x, opd y with
 | some x', some y' => match P.underlying t with
  | some (.int _) => match op with
   | .shl | .shr => some (.shift op x' y')
   | .add | .sub | .mul | .quo | .rem | .and | .or | .xor | .andNot => some (.ibin op x' y')
   | _ => some (.icmp op x' y')
  | some .string => match op with
   | .add | .eql | .neq => some (.sbin op x' y')
   | _ => none
  | some .bool => match op with
   | .eql => some (.bbin false x' y')
   | .neq => some (.bbin true x' y')
   | _ => none
  | some (.pointer e) => match isNil 0 y with
   | true => copNil 0 op x' y
   | false => match szOf P e, op with
    | some (_ + 1), .eql => some (.peq false x' y')
    | some (_ + 1), .neq => some (.peq true x' y')
    | _, _ => none
  | some (.struct fs) => match int3 P t fs with
   | true => match op with
    | .eql => some (.aeq false x' y')
    | .neq => some (.aeq true x' y')
    | _ => none
   | false => none
  | some (.slice _) => copNil 1 op x' y
  | some (.func _ _ _) => copNil 2 op x' y
  | some (.interface _) => copNil 3 op x' y
  | _ => none
 | _, _ => none
def zeroVal (P : Program) (t : TypeId) : Option D :=
 match P.info? t with
 | some i => match i.zero with
  | some z => toD 8 z
  | none => none
 | none => none
def isIface : TypeDesc → Bool
 | .interface _ => true
 | _ => false
def sameOp : Operand → Operand → Bool
 | .tmp a, .tmp b => Nat.beq a b
 | .const (.int .i64 a), .const (.int .i64 b) => decide (a = b)
 | _, _ => false
def D.one : D → Bool
 | .agg _ | .tup _ => false
 | _ => true
def seenAs (P : Program) (u : TypeId) : List (Nat × Nat) := (List.range P.types.size).filterMap fun e =>
 match Nat.blt 0 (P.cellsOf e) && liesAt P P.depth e 1 0 u 1 with
 | true => some (e, P.cellsOf e)
 | false => none
def cop (P : Program) : Op → Option AO
 | .move x => match opd x with
  | some x => some (.move x)
  | none => none
 | .assign x => match opd x with
  | some x => some (.asg x)
  | none => none
 | .pick c a b => match opd c, opd a, opd b with
  | some c, some a, some b => some (.pick c a b)
  | _, _, _ => none
 | .alloc e => match zeroOf P e with
  | some z => some (.alloc z e)
  | none => none
 | .box e x => match opd x with
  | some x => some (.box e x)
  | none => none
 | .build t ps => match zeroOf P t, P.underlying t with
  | some z, some (.struct fs) => match allSz P fs.toList, partsOf (placeOf P fs) ps.toList with
   | true, some l => some (.build z l)
   | _, _ => none
  | some z, some (.array _ e) => match szOf P e with
   | some n => match partsOf (fun i => some (i * n, n)) ps.toList with
    | some l => some (.build z l)
    | none => none
   | none => none
  | _, _ => none
 | .buildSlice t len ps => match P.underlying t with
  | some (.slice e) => match zeroOf P e, szOf P e, aggOf P e with
   | some z, some sz, some agg => match Nat.ble (len * sz) 16777216 && Nat.blt 0 sz && (agg || Nat.beq sz 1), partsOf (fun i => some (i * sz, sz)) ps.toList with
    | true, some l => some (.bslice e agg sz len z l)
    | _, _ => none
   | _, _, _ => none
  | _ => none
 | .load t x => match aggOf P t, szOf P t, opd x with
  | some a, some n, some x => some (.load a n x)
  | _, _, _ => none
 | .store t x y => match szOf P t, opd x, opd y with
  | some n, some x, some y => some (.store n x y)
  | _, _, _ => none
 | .nilCheck x => match opd x with
  | some x => some (.nilc x)
  | none => none
 | .fieldAddr s x i => match P.underlying s, opd x with
  | some (.struct fs), some x => match placeOf P fs i with
   | some (o, n) => match Nat.beq n 0 with
    | true => none
    | false => some (.faddr o x)
   | none => none
  | _, _ => none
 | .indexAddr t x i => match P.underlying t, opd x, opd i with
  | some (.slice e), some x, some i => match szOf P e with
   | some n => some (.iaddr n x i)
   | none => none
  | some (.array k e), some x, some i => match szOf P e with
   | some n => some (.paddr k n x i)
   | none => none
  | _, _, _ => none
 | .index t x i => match P.underlying t, opd x, opd i with
  | some .string, some x, some i => some (.index x i)
  | _, _, _ => none
 | .field t x i => match P.underlying t, opd x with
  | some (.struct fs), some x => match fs[i]? with
   | some f => match aggOf P f.type, szOf P f.type with
    | some a, some n => some (.field a f.offset n x)
    | _, _ => none
   | none => none
  | _, _ => none
 | .extract x i => match opd x with
  | some x => some (.extract x i)
  | none => none
 | .binOp op t x y _ => copBin P op t x y
 | .unOp op _ x => match opd x with
  | some x => match op with
   | .not => some (.not x)
   | .neg => some (.neg x)
   | _ => none
  | none => none
 | .convert s d x => match P.underlying s, P.underlying d, opd x with
  | some (.int _), some (.int k), some x => some (.conv k x)
  | some .string, some .string, some x => some (.same x)
  | some (.slice e), some .string, some x => match P.underlying e with
   | some (.int .u8) => some (.b2s x)
   | _ => none
  | some .string, some (.slice e), some x => match P.underlying e with
   | some (.int .u8) => some (.s2b x)
   | _ => none
  | some (.pointer e), some .unsafePointer, some x => match szOf P e with
   | some (_ + 1) => some (.p2u x)
   | _ => none
  | some .unsafePointer, some (.pointer u), some x => match szOf P u with
   | some _ => some (.u2p (seenAs P u) x)
   | none => none
  | _, _, _ => none
 | .makeSlice t n m => match P.underlying t, opd n, opd m with
  | some (.slice e), some n', some _ => match sameOp n m, zeroOf P e, P.info? e with
   | true, some [z], some i => match Nat.beq i.size 1, D.one z with
    | true, true => some (.mks e i.bytes z n')
    | _, _ => none
   | _, _, _ => none
  | _, _, _ => none
 | .makeInterface t x => match P.underlying t, opd x with
  | some (.interface _), _ => none
  | some _, some x => some (.mkif t x)
  | _, _ => none
 | .makeFunc g a c => match opds a.toList, opds c.toList with
  | some a, some c => some (.mkfn g a c)
  | _, _ => none
 | .typeAssert x _ t ok => match ok, P.underlying t, zeroVal P t, opd x with
  | true, some d, some z, some x => match isIface d with
   | true => none
   | false => some (.tass t z x)
  | _, _, _, _ => none
 | .slice t x lo hi mx => match P.underlying t, opd x, opdO lo, opdO hi, mx with
  | some .string, some x, some lo, some hi, none => some (.sslice x lo hi)
  | some (.slice e), some x, some lo, some hi, none => match szOf P e with
   | some n => some (.lslice n x lo hi)
   | none => none
  | some (.array n e), some x, some none, some none, none => match szOf P e with
   | some 1 => some (.aslice n x)
   | _ => none
  | _, _, _, _, _ => none
 | .range t x => match P.underlying t, opd x with
  | some .string, some x => some (.range x)
  | _, _ => none
 | .next x s => match s, opd x with
  | true, some x => some (.next x)
  | _, _ => none
 | .call c => match c.callee with
  | .builtin .len => match c.args.toList, c.argTypes.toList with
   | [x], [t] => match opd x, P.underlying t with
    | some x, some .string => some (.len true x)
    | some x, some (.slice _) => some (.len false x)
    | _, _ => none
   | _, _ => none
  | .builtin .max => match c.args.toList with
   | [x, y] => match opd x, opd y with
    | some x, some y => some (.mx false x y)
    | _, _ => none
   | _ => none
  | .builtin .min => match c.args.toList with
   | [x, y] => match opd x, opd y with
    | some x, some y => some (.mx true x y)
    | _, _ => none
   | _ => none
  | .builtin .unsafeSliceData => match c.args.toList with
   | [x] => match opd x with
    | some x => some (.usd x)
    | none => none
   | _ => none
  | .builtin .unsafeString => match c.args.toList, c.argTypes.toList with
   | [x, n], [pt, _] => match opd x, opd n, P.underlying pt with
    | some x, some n, some (.pointer e) => match Nat.beq (P.cellsOf e) 1 with
     | true => some (.ustr e x n)
     | false => none
    | _, _, _ => none
   | _, _ => none
  | .builtin .append => match c.args.toList, c.argTypes.toList with
   | [x, y], [t, u] => match opd x, opd y, P.underlying t, notInt P u with
    | some x, some y, some (.slice e), true => match zeroOf P e, P.info? e with
     | some z, some i => match Nat.blt 0 i.bytes with
      | true => some (.append e i.size i.bytes z x y)
      | false => none
     | _, _ => none
    | _, _, _, _ => none
   | _, _ => none
  | _ => none
 | _ => none
def Told (_P : Program) (κ : K) (_w : World) (r : Result Next) (v : V) (h' : H) : Prop :=
 ∃ w' κ', Rel κ' h' w' ∧ Le κ κ' ∧ ((∃ y, r = .ok (.value y) w' ∧ VR κ' v y) ∨ (r = .ok .skip w' ∧ v = .dead))
theorem Told.same {κ : K} {h : H} {w : World} {v : V} {y : Value} {r : Result Next} (hr : Rel κ h w) (e : r = .ok (.value y) w) (hv : VR κ v y) : Told P κ w r v h :=
 ⟨w, κ, hr, Le.refl κ, .inl ⟨y, e, hv⟩⟩
theorem cur_vptr {κ : K} {h : H} {w : World} (r : Rel κ h w) {i n k off : Nat} {v : Value} (hc : cur h i n = true) (hv : VR κ (.vptr i n k off) v) :
  ∃ b c sz, κ.vb i = some (b, c, sz) ∧ v = .pointer (some ⟨b, k * sz + off, none⟩) ∧ i < κ.nv ∧ κ.vn i = some n := by
 unfold cur at hc
 split at hc
 ·rename_i vc hvc
  have hn := Nat.eq_of_beq_eq_true hc
  obtain ⟨h1, _⟩ := r.vc i _ hvc
  simp only [VR] at hv
  obtain ⟨hi, _, hv⟩ := hv
  have h2 := (hv _ h1).2 hn.symm
  unfold plink at h2
  split at h2
  ·exact h2.elim
  ·rename_i b c sz hb
   exact ⟨b, c, sz, hb, h2, hi, by rw [h1, hn]⟩
 ·simp at hc
theorem DC.drop {S : Sealed} : ∀ {cs : List D} {b o : Nat} (k : Nat), DC S cs b o → DC S (cs.drop k) b (o + k)
 | [], b, o, k, _ => by simp [DC]
 | x :: cs, b, o, 0, r => by simpa using r
 | x :: cs, b, o, k + 1, r => by
  simp only [DC] at r
  have := DC.drop k r.2
  simpa [Nat.add_assoc, Nat.add_comm 1 k] using this
theorem DX.get {S : Sealed} {sz : Nat} : ∀ {xs : List D} {b o : Nat} (k : Nat) (x : D), DX S sz xs b o → xs[k]? = some x → DC S x.cells b (o + k * sz)
 | [], _, _, k, x, _, e => by simp at e
 | z :: xs, b, o, k, x, r, e => by
  have key : DC S z.cells b o ∧ DX S sz xs b (o + sz) := by
   cases z with
   | agg cs => simp only [DX] at r; exact ⟨r.1.2, r.2⟩
   | _ =>
    simp only [DX] at r
    obtain ⟨⟨_, y, e1, e2, e3⟩, r2⟩ := r
    exact ⟨by simp only [D.cells, DC]; exact ⟨⟨y, e1, e2, e3⟩, trivial⟩, r2⟩
  cases k with
  | zero => simp at e; subst e; simpa using key.1
  | succ k =>
   simp at e
   have := DX.get k x key.2 e
   rwa [show o + sz + k * sz = o + (k + 1) * sz by simp [Nat.add_mul]; omega] at this
theorem DX.take {S : Sealed} {sz : Nat} : ∀ {xs : List D} {b o : Nat} (k : Nat), DX S sz xs b o → DX S sz (xs.take k) b o
 | [], _, _, k, _ => by simp [DX]
 | z :: xs, b, o, 0, _ => by simp [DX]
 | z :: xs, b, o, k + 1, r => by
  rw [List.take_succ_cons]
  cases z <;> (simp only [DX] at r ⊢; exact ⟨r.1, DX.take k r.2⟩)
theorem DX.drop {S : Sealed} {sz : Nat} : ∀ {xs : List D} {b o : Nat} (k : Nat), DX S sz xs b o → DX S sz (xs.drop k) b (o + k * sz)
 | [], _, _, k, _ => by simp [DX]
 | z :: xs, b, o, 0, r => by simpa using r
 | z :: xs, b, o, k + 1, r => by
  have key : DX S sz xs b (o + sz) := by cases z <;> (simp only [DX] at r; exact r.2)
  have := DX.drop k key
  rw [List.drop_succ_cons]
  rwa [show o + sz + k * sz = o + (k + 1) * sz by simp [Nat.add_mul]; omega] at this
theorem run_place {fs : Array Field} {i off n : Nat} (hp : placeOf P fs i = some (off, n)) : ∃ fl, fs[i]? = some fl ∧ fl.offset = off ∧ szOf P fl.type = some n := by
 unfold placeOf at hp
 split at hp
 ·rename_i fl hf
  split at hp
  ·rename_i m hm
   simp only [Option.some.injEq, Prod.mk.injEq] at hp
   obtain ⟨e1, e2⟩ := hp
   subst e1 e2
   exact ⟨fl, hf, rfl, hm⟩
  ·simp at hp
 ·simp at hp
section
variable {κ : K} {h : H} {w : World} (hr : Rel κ h w) {ρ : Operand → Value} {f : Opd → V} (hρ : ∀ x x', opd x = some x' → VR κ (f x') (ρ x)) (o : Oper)
include hr hρ
theorem t_move (x : Operand) {ao : AO} {v : V} {h' : H} {ob : Bool} (ho : o.op = .move x ∨ o.op = .assign x) (hc : cop P o.op = some ao) (hx : xop h f ao = some (v, h', ob)) :
  Told P κ w ((execOp ρ o).run P w) v h' := by
 rcases ho with ho | ho <;>
 ·rw [ho] at hc
  simp only [cop] at hc
  split at hc
  ·rename_i x' e
   simp only [Option.some.injEq] at hc
   subst hc
   simp only [xop, val, Option.some.injEq, Prod.mk.injEq] at hx
   obtain ⟨e1, e2, _⟩ := hx
   subst e1 e2
   exact .same hr (y := ρ x) (by simp [execOp, ho]) (hρ _ _ e)
  ·simp at hc
theorem t_pick (c a b : Operand) {ao : AO} {v : V} {h' : H} {ob : Bool} (ho : o.op = .pick c a b) (hc : cop P o.op = some ao) (hx : xop h f ao = some (v, h', ob)) :
  Told P κ w ((execOp ρ o).run P w) v h' := by
 rw [ho] at hc
 simp only [cop] at hc
 split at hc
 ·rename_i c' a' b' e1 e2 e3
  simp only [Option.some.injEq] at hc
  subst hc
  simp only [xop] at hx
  split at hx
  ·rename_i t ht
   have h1 := hρ _ _ e1
   rw [ht] at h1
   simp only [VR, DR] at h1
   split at hx <;> simp only [val, Option.some.injEq, Prod.mk.injEq] at hx <;> obtain ⟨e4, e5, _⟩ := hx <;> subst e4 e5
   ·exact .same hr (y := ρ a) (by simp [execOp, ho, h1, asBool]) (hρ _ _ e2)
   ·exact .same hr (y := ρ b) (by simp [execOp, ho, h1, asBool]) (hρ _ _ e3)
  ·simp at hx
 ·simp at hc
omit hρ in
theorem t_alloc (e : TypeId) {ao : AO} {v : V} {h' : H} {ob : Bool} (ho : o.op = .alloc e) (hc : cop P o.op = some ao) (hx : xop h f ao = some (v, h', ob)) :
  Told P κ w ((execOp ρ o).run P w) v h' := by
 rw [ho] at hc
 simp only [cop] at hc
 split at hc
 ·rename_i z hz
  simp only [Option.some.injEq] at hc
  subst hc
  simp only [xop, Option.some.injEq, Prod.mk.injEq] at hx
  obtain ⟨e1, e2, _⟩ := hx
  subst e1 e2
  obtain ⟨i, zv, h1, h2, h3, h4, h5⟩ := zeroOf_sound hz κ.S
  obtain ⟨κ', g1, g2, g3⟩ := hr.newBox (.cells (z.map .d) e) (.cells ⟨zv.cells.toList⟩ e) (.inl ⟨_, _, _, rfl, rfl, VL.ofD h4, h5⟩)
  refine ⟨_, κ', g1, g2, .inl ⟨_, ?_, g3⟩⟩
  simp [execOp, ho, Instr.alloc, zeroValue, typeInfo, h1, h2, newVar, newRow]
 ·simp at hc
theorem t_box (e : TypeId) (x : Operand) {ao : AO} {v : V} {h' : H} {ob : Bool} (ho : o.op = .box e x) (hc : cop P o.op = some ao) (hx : xop h f ao = some (v, h', ob)) :
  Told P κ w ((execOp ρ o).run P w) v h' := by
 rw [ho] at hc
 simp only [cop] at hc
 split at hc
 ·rename_i x' e'
  simp only [Option.some.injEq] at hc
  subst hc
  simp only [xop] at hx
  split at hx
  ·rename_i hone
   simp only [Option.some.injEq, Prod.mk.injEq] at hx
   obtain ⟨e1, e2, _⟩ := hx
   subst e1 e2
   obtain ⟨κ', g1, g2, g3⟩ := hr.newBox (.cells (f x').cells e) (.cells ⟨(ρ x).cells.toList⟩ e) (.inl ⟨_, _, _, rfl, rfl, (hρ _ _ e').cells hone⟩)
   refine ⟨_, κ', g1, g2, .inl ⟨_, ?_, g3⟩⟩
   simp [execOp, ho, Instr.box, newVar, newRow]
  ·simp at hx
 ·simp at hc
theorem t_load (t : TypeId) (x : Operand) {ao : AO} {v : V} {h' : H} {ob : Bool} (ho : o.op = .load t x) (hc : cop P o.op = some ao) (hx : xop h f ao = some (v, h', ob)) :
  Told P κ w ((execOp ρ o).run P w) v h' := by
 rw [ho] at hc
 simp only [cop] at hc
 split at hc
 ·rename_i a n x' e1 e2 e3
  simp only [Option.some.injEq] at hc
  subst hc
  simp only [xop] at hx
  split at hx
  ·rename_i u hu
   simp only [val, Option.some.injEq, Prod.mk.injEq] at hx
   obtain ⟨e4, e5, _⟩ := hx
   subst e4 e5
   obtain ⟨y, g1, g2⟩ := xload_sound (P := P) hr e1 e2 (hρ _ _ e3) hu
   exact .same hr (y := y) (by simp [execOp, ho, g1]) g2
  ·simp at hx
 ·simp at hc
theorem t_store (t : TypeId) (x y : Operand) {ao : AO} {v : V} {h' : H} {ob : Bool} (ho : o.op = .store t x y) (hc : cop P o.op = some ao) (hx : xop h f ao = some (v, h', ob)) :
  Told P κ w ((execOp ρ o).run P w) v h' := by
 rw [ho] at hc
 simp only [cop] at hc
 split at hc
 ·rename_i n x' y' e1 e2 e3
  simp only [Option.some.injEq] at hc
  subst hc
  simp only [xop] at hx
  split at hx
  ·rename_i u hu
   simp only [Option.some.injEq, Prod.mk.injEq] at hx
   obtain ⟨e4, e5, _⟩ := hx
   subst e4 e5
   obtain ⟨w', κ', g1, g2, g3⟩ := xstore_sound (P := P) hr e1 (hρ _ _ e2) (hρ _ _ e3) hu
   exact ⟨w', κ', g2, g3, .inr ⟨by simp [execOp, ho, g1], rfl⟩⟩
  ·simp at hx
 ·simp at hc
theorem t_nilc (x : Operand) {ao : AO} {v : V} {h' : H} {ob : Bool} (ho : o.op = .nilCheck x) (hc : cop P o.op = some ao) (hx : xop h f ao = some (v, h', ob)) :
  Told P κ w ((execOp ρ o).run P w) v h' := by
 rw [ho] at hc
 simp only [cop] at hc
 split at hc
 ·rename_i x' e1
  simp only [Option.some.injEq] at hc
  subst hc
  have h1 := hρ _ _ e1
  simp only [xop] at hx
  split at hx
  ·rename_i i off e
   simp only [val, Option.some.injEq, Prod.mk.injEq] at hx
   obtain ⟨e4, e5, _⟩ := hx
   subst e4 e5
   rw [e] at h1
   have h2 := h1
   simp only [VR] at h2
   exact .same hr (y := ρ x) (by simp [execOp, ho, h2.2]) h1
  ·rename_i i n k off e
   split at hx
   ·rename_i hcur
    simp only [val, Option.some.injEq, Prod.mk.injEq] at hx
    obtain ⟨e4, e5, _⟩ := hx
    subst e4 e5
    rw [e] at h1
    obtain ⟨b, c, sz, _, h3, _⟩ := cur_vptr hr hcur h1
    exact .same hr (y := ρ x) (by simp [execOp, ho, h3]) h1
   ·simp at hx
  ·rename_i cs e
   simp only [val, Option.some.injEq, Prod.mk.injEq] at hx
   obtain ⟨e4, e5, _⟩ := hx
   subst e4 e5
   rw [e] at h1
   have h2 := h1
   simp only [VR, DR] at h2
   obtain ⟨b, q, h3, _⟩ := h2
   exact .same hr (y := ρ x) (by simp [execOp, ho, h3]) h1
  ·rename_i g a c e
   split at hx
   ·rename_i k
    simp only [val, Option.some.injEq, Prod.mk.injEq] at hx
    obtain ⟨e4, e5, _⟩ := hx
    subst e4 e5
    rw [e] at h1
    have h2 := h1
    simp only [VR] at h2
    obtain ⟨a', c', h3, _⟩ := h2
    exact .same hr (y := ρ x) (by simp [execOp, ho, h3]) h1
   ·simp at hx
  ·rename_i g a c e
   split at hx
   ·rename_i k
    simp only [val, Option.some.injEq, Prod.mk.injEq] at hx
    obtain ⟨e4, e5, _⟩ := hx
    subst e4 e5
    rw [e] at h1
    have h2 := h1
    simp only [VR, DR] at h2
    obtain ⟨a', c', h3, _⟩ := h2
    exact .same hr (y := ρ x) (by simp [execOp, ho, h3]) h1
   ·simp at hx
  ·simp at hx
 ·simp at hc
theorem t_faddr (s : TypeId) (x : Operand) (i : Nat) {ao : AO} {v : V} {h' : H} {ob : Bool} (ho : o.op = .fieldAddr s x i) (hc : cop P o.op = some ao) (hx : xop h f ao = some (v, h', ob)) :
  Told P κ w ((execOp ρ o).run P w) v h' := by
 rw [ho] at hc
 simp only [cop] at hc
 split at hc
 case h_2 => simp at hc
 rename_i fs x' e1 e2
 split at hc
 case h_2 => simp at hc
 rename_i off n hp
 split at hc
 case h_1 => simp at hc
 rename_i hn
 simp only [Option.some.injEq] at hc
 subst hc
 have h1 := hρ _ _ e2
 obtain ⟨fl, f1, f2, f3⟩ := run_place hp
 have hne : n ≠ 0 := fun e => by subst e; simp at hn
 have hrun : ∀ b q, ρ x = .pointer (some ⟨b, q, none⟩) → (execOp ρ o).run P w = .ok (.value (.pointer (some ⟨b, q + off, none⟩))) w := fun b q e => by
  have := run_sizeOf (P := P) f3 w
  simp [execOp, ho, Instr.fieldAt, run_underlying e1, f1, e, Instr.sureAddr, fieldPlace, this, hne, addr_add, f2]
 simp only [xop] at hx
 split at hx
 ·rename_i k q e
  simp only [val, Option.some.injEq, Prod.mk.injEq] at hx
  obtain ⟨e4, e5, _⟩ := hx
  subst e4 e5
  rw [e] at h1
  simp only [VR] at h1
  exact .same hr (hrun _ _ h1.2) (by simp only [VR]; exact ⟨h1.1, trivial⟩)
 ·rename_i k n' j q e
  split at hx
  case h_2 => simp at hx
  rename_i hcur
  simp only [val, Option.some.injEq, Prod.mk.injEq] at hx
  obtain ⟨e4, e5, _⟩ := hx
  subst e4 e5
  rw [e] at h1
  obtain ⟨b, c, sz, g1, g2, g3, g4⟩ := cur_vptr hr hcur h1
  refine .same hr (hrun _ _ g2) ?_
  simp only [VR]
  refine ⟨g3, by simp [Value.oneCell'], fun m hm => ?_⟩
  rw [g4] at hm
  simp only [Option.some.injEq] at hm
  subst hm
  exact ⟨Nat.le_refl _, fun _ => by simp only [plink, g1, Nat.add_assoc]⟩
 ·rename_i cs e
  simp only [val, Option.some.injEq, Prod.mk.injEq] at hx
  obtain ⟨e4, e5, _⟩ := hx
  subst e4 e5
  rw [e] at h1
  simp only [VR, DR] at h1
  obtain ⟨b, q, g1, g2⟩ := h1
  exact .same hr (hrun _ _ g1) (by simp only [VR, DR]; exact ⟨b, q + off, rfl, g2.drop off⟩)
 ·simp at hx
theorem t_iaddr (t : TypeId) (x i : Operand) {ao : AO} {v : V} {h' : H} {ob : Bool} (ho : o.op = .indexAddr t x i) (hc : cop P o.op = some ao) (hx : xop h f ao = some (v, h', ob)) (hob : ob = true) :
  Told P κ w ((execOp ρ o).run P w) v h' := by
 rw [ho] at hc
 simp only [cop] at hc
 split at hc
 case h_3 => simp at hc
 case h_2 =>
  rename_i n el x' i' e1 e2 e3
  split at hc
  case h_2 => simp at hc
  rename_i sz hsz
  simp only [Option.some.injEq] at hc
  subst hc
  have h1 := hρ _ _ e2
  have h2 := hρ _ _ e3
  simp only [xop] at hx
  split at hx
  case h_2 => simp at hx
  rename_i cs k j ex ei
  rw [ex] at h1
  rw [ei] at h2
  simp only [VR, DR] at h1 h2
  obtain ⟨b, q, h3, hd⟩ := h1
  split at hx
  case h_2 => simp at hx
  simp only [Option.some.injEq, Prod.mk.injEq] at hx
  obtain ⟨e4, e5, e6⟩ := hx
  subst e4 e5 e6
  simp only [inR, Bool.and_eq_true, decide_eq_true_eq] at hob
  have hs := run_sizeOf (P := P) hsz w
  exact .same hr (y := .pointer (some ⟨b, q + j.toNat * sz, none⟩)) (by simp [execOp, ho, Instr.indexAt, Instr.sureAddr, h3, h2, asIntOf, run_underlying e1, hob.1, hob.2, hs, addr_add]) (by simp only [VR, DR]; exact ⟨b, _, rfl, hd.drop _⟩)
 rename_i el x' i' e1 e2 e3
 split at hc
 case h_2 => simp at hc
 rename_i sz hsz
 simp only [Option.some.injEq] at hc
 subst hc
 have h1 := hρ _ _ e2
 have h2 := hρ _ _ e3
 have hrun : ∀ b q len cap (k : IntKind) (j : Int), ρ x = .slice (some ⟨b, q, none⟩) len cap → ρ i = .int k j → 0 ≤ j → j < len →
   (execOp ρ o).run P w = .ok (.value (.pointer (some ⟨b, q + j.toNat * sz, none⟩))) w := fun b q len cap k j ex ei h0 hl => by
  have := run_sizeOf (P := P) hsz w
  simp [execOp, ho, Instr.indexAt, ex, ei, asIntOf, run_underlying e1, h0, hl, this, addr_add]
 simp only [xop] at hx
 split at hx
 ·rename_i nl sz' xs k j ex ei
  rw [ex] at h1
  rw [ei] at h2
  simp only [VR, DR] at h1 h2
  split at hx
  case h_2 => simp at hx
  rcases h1 with ⟨h1, _⟩ | ⟨_, b, q, cap, h3, _, hd⟩
  ·simp at h1
  split at hx
  case h_2 => simp at hx
  rename_i y hs hg
  have hs := Nat.eq_of_beq_eq_true hs
  subst hs
  simp only [val, Option.some.injEq, Prod.mk.injEq] at hx
  obtain ⟨e4, e5, _⟩ := hx
  subst e4 e5
  unfold lget at hg
  split at hg
  case isFalse => simp at hg
  rename_i h0
  have hl := (List.getElem?_eq_some_iff.1 hg).1
  exact .same hr (hrun _ _ _ _ _ _ h3 h2 h0 (by omega)) (by simp only [VR, DR]; exact ⟨b, _, rfl, hd.get _ y hg⟩)
 ·rename_i vi n off len k j ex ei
  rw [ex] at h1
  rw [ei] at h2
  split at hx
  case h_2 => simp at hx
  rename_i vc hvc
  split at hx
  case h_2 => simp at hx
  rename_i hcond
  simp only [Bool.and_eq_true] at hcond
  have q1 := Nat.eq_of_beq_eq_true hcond.1
  have q2 := Nat.eq_of_beq_eq_true hcond.2
  simp only [Option.some.injEq, Prod.mk.injEq] at hx
  obtain ⟨e4, e5, e6⟩ := hx
  subst e4 e5 e6
  simp only [inR, Bool.and_eq_true, decide_eq_true_eq] at hob
  obtain ⟨⟨h0, hlt⟩, hol⟩ := hob
  simp only [VR, DR] at h1 h2
  obtain ⟨hi, _, h1⟩ := h1
  obtain ⟨g1, g2, g3⟩ := hr.vc vi _ hvc
  have h3 := (h1 _ g1).2 q1.symm
  rcases g3 with ⟨_, gx, g4⟩ | ⟨_, b, cap, vs, sp, fz, g4, _⟩
  ·rw [gx] at q1; simp at q1; omega
  ·simp only [link, g4] at h3
   have := hrun _ _ _ _ _ _ h3.2 h2 h0 hlt
   refine .same hr this ?_
   simp only [VR]
   refine ⟨hi, by simp [Value.oneCell'], fun m hm => ?_⟩
   rw [g1] at hm
   simp only [Option.some.injEq] at hm
   subst hm
   exact ⟨by omega, fun _ => by simp only [plink, g4, Nat.add_zero, q2, Nat.add_mul]⟩
 ·simp at hx
end
end Go.SL
namespace Go.SL
variable {P : Program}
theorem VR.getR {κ : K} {agg : Bool} {cs : List V} {ys : List Value} {off sz : Nat} {v : V} {t : TypeId} {w : World} (ht : aggOf P t = some agg) (hs : szOf P t = some sz)
  (hr : VC κ cs ys) (hg : getR agg cs off sz = some v) : ∃ y, (part t ⟨ys⟩ off).run P w = .ok y w ∧ VR κ v y := by
 unfold SL.getR at hg
 cases agg with
 | true =>
  simp only at hg
  split at hg
  ·simp only [Option.some.injEq] at hg
   subst hg
   refine ⟨.agg ⟨(ys.drop off).take sz⟩, ?_, VR.mkAgg ((hr.drop off).take sz)⟩
   simp [part, run_isAgg ht, run_sizeOf hs]
  ·simp at hg
 | false =>
  simp only at hg
  obtain ⟨y, h1, h2⟩ := VL.get hr.1 off v hg
  exact ⟨y, by simp [part, run_isAgg ht, h1], h2⟩
theorem iop_sound {op : BinOp} {k : IntKind} {a b r : Int} {ob : Bool} (hi : iop op k a b = some (r, ob)) (hob : ob = true) (w : World) (t : TypeId) :
  (binOp op t (.int k a) (.int k b)).run P w = .ok (.int k r) w := by
 have wrap : ∀ x : Int, inI x = true → IntKind.i64.wrap x = x := fun x hx => by
  simp only [inI, Bool.and_eq_true, decide_eq_true_eq] at hx
  exact IntWalk.i64_in x hx
 cases op <;> simp only [iop] at hi <;> try (simp at hi; done)
 all_goals first
  | (split at hi <;> simp only [Option.some.injEq, Prod.mk.injEq] at hi <;> obtain ⟨e1, e2⟩ := hi <;> subst e1 e2 <;>
    first
    | (simp [binOp, Op.intArith, wrap _ hob]; done)
    | (simp [binOp, Op.intArith]; done)
    | (simp only [Bool.and_eq_true, Bool.not_eq_true', decide_eq_false_iff_not] at hob; simp [binOp, Op.intDiv, hob.1, wrap _ hob.2]; done)
    | (simp only [Bool.not_eq_true', decide_eq_false_iff_not] at hob; simp [binOp, Op.intDiv, hob]; done))
  | (simp only [Option.some.injEq, Prod.mk.injEq] at hi; obtain ⟨e1, e2⟩ := hi; subst e1 e2; simp only [Bool.not_eq_true', decide_eq_false_iff_not] at hob; simp [binOp, Op.intDiv, hob]; done)
  | (simp only [Option.some.injEq, Prod.mk.injEq] at hi; obtain ⟨e1, e2⟩ := hi; subst e1 e2; simp [binOp, Op.intBits]; done)
theorem icmp_sound {op : BinOp} {k : IntKind} {a b : Int} {r : Bool} (hi : icmp op a b = some r) (w : World) (t : TypeId) :
  (binOp op t (.int k a) (.int k b)).run P w = .ok (.bool r) w := by
 cases op <;> simp only [SL.icmp] at hi <;> try (simp at hi; done)
 all_goals
  simp only [Option.some.injEq] at hi
  subst hi
  simp [binOp, Op.intCmp]
  try rfl
section
variable {κ : K} {h : H} {w : World} (hr : Rel κ h w) {ρ : Operand → Value} {f : Opd → V} (hρ : ∀ x x', opd x = some x' → VR κ (f x') (ρ x)) (o : Oper)
include hr hρ
theorem t_index (t : TypeId) (x i : Operand) {ao : AO} {v : V} {h' : H} {ob : Bool} (ho : o.op = .index t x i) (hc : cop P o.op = some ao) (hx : xop h f ao = some (v, h', ob)) (hob : ob = true) :
  Told P κ w ((execOp ρ o).run P w) v h' := by
 rw [ho] at hc
 simp only [cop] at hc
 split at hc
 case h_2 => simp at hc
 rename_i x' i' e1 e2 e3
 simp only [Option.some.injEq] at hc
 subst hc
 have h1 := hρ _ _ e2
 have h2 := hρ _ _ e3
 simp only [xop] at hx
 split at hx
 case h_2 => simp at hx
 rename_i s k j ex ei
 simp only [Option.some.injEq, Prod.mk.injEq] at hx
 obtain ⟨e4, e5, e6⟩ := hx
 subst e4 e5 e6
 rw [ex] at h1
 rw [ei] at h2
 simp only [VR, DR] at h1 h2
 simp only [inR, Bool.and_eq_true, decide_eq_true_eq] at hob
 obtain ⟨h0, hl⟩ := hob
 have hlt : j.toNat < s.size := by omega
 have hlt' : j.toNat < s.data.toList.length := by simpa using hlt
 refine .same hr (y := .int .u8 (sbyte s j)) ?_ (by simp [VR, DR])
 have hb : s[j.toNat]? = some s[j.toNat] := getElem?_pos s _ hlt
 simp [execOp, ho, Instr.index, h1, h2, asIntOf, run_underlying e1, h0, hb, sbyte, List.getD, List.getElem?_eq_getElem hlt']
 rfl
theorem t_field (t : TypeId) (x : Operand) (i : Nat) {ao : AO} {v : V} {h' : H} {ob : Bool} (ho : o.op = .field t x i) (hc : cop P o.op = some ao) (hx : xop h f ao = some (v, h', ob)) :
  Told P κ w ((execOp ρ o).run P w) v h' := by
 rw [ho] at hc
 simp only [cop] at hc
 split at hc
 case h_2 => simp at hc
 rename_i fs x' e1 e2
 split at hc
 case h_2 => simp at hc
 rename_i fl hf
 split at hc
 case h_2 => simp at hc
 rename_i a n ha hn
 simp only [Option.some.injEq] at hc
 subst hc
 have h1 := hρ _ _ e2
 simp only [xop] at hx
 split at hx
 ·rename_i cs ex
  split at hx
  case h_2 => simp at hx
  rename_i u hu
  simp only [val, Option.some.injEq, Prod.mk.injEq] at hx
  obtain ⟨e4, e5, e6⟩ := hx
  subst e4 e5 e6
  rw [ex] at h1
  simp only [VR] at h1
  obtain ⟨ys, g1, g2, g3⟩ := h1
  obtain ⟨y, g4, g5⟩ := VR.getR (w := w) ha hn ⟨g2, g3⟩ hu
  exact .same hr (y := y) (by simp [execOp, ho, Instr.field, run_underlying e1, hf, g1, asAgg, g4]) g5
 ·rename_i cs ex
  split at hx
  case h_2 => simp at hx
  rename_i u hu
  simp only [val, Option.some.injEq, Prod.mk.injEq] at hx
  obtain ⟨e4, e5, e6⟩ := hx
  subst e4 e5 e6
  rw [ex] at h1
  simp only [VR, DR] at h1
  obtain ⟨ys, g1, g2, g3⟩ := h1
  obtain ⟨y, g4, g5⟩ := VR.getR (w := w) ha hn ⟨VL.ofD g2, g3⟩ hu
  exact .same hr (y := y) (by simp [execOp, ho, Instr.field, run_underlying e1, hf, g1, asAgg, g4]) g5
 ·simp at hx
theorem t_extract (x : Operand) (i : Nat) {ao : AO} {v : V} {h' : H} {ob : Bool} (ho : o.op = .extract x i) (hc : cop P o.op = some ao) (hx : xop h f ao = some (v, h', ob)) :
  Told P κ w ((execOp ρ o).run P w) v h' := by
 rw [ho] at hc
 simp only [cop] at hc
 split at hc
 case h_2 => simp at hc
 rename_i x' e1
 simp only [Option.some.injEq] at hc
 subst hc
 have h1 := hρ _ _ e1
 simp only [xop] at hx
 split at hx
 ·rename_i vs ex
  split at hx
  case h_2 => simp at hx
  rename_i u hu
  simp only [val, Option.some.injEq, Prod.mk.injEq] at hx
  obtain ⟨e4, e5, e6⟩ := hx
  subst e4 e5 e6
  rw [ex] at h1
  simp only [VR] at h1
  obtain ⟨ys, g1, g2⟩ := h1
  obtain ⟨y, g4, g5⟩ := VL.get g2 _ _ hu
  exact .same hr (y := y) (by simp [execOp, ho, Instr.extract, g1, g4]) g5
 ·rename_i vs ex
  split at hx
  case h_2 => simp at hx
  rename_i u hu
  simp only [val, Option.some.injEq, Prod.mk.injEq] at hx
  obtain ⟨e4, e5, e6⟩ := hx
  subst e4 e5 e6
  rw [ex] at h1
  simp only [VR, DR] at h1
  obtain ⟨ys, g1, g2⟩ := h1
  obtain ⟨y, g4, g5⟩ := VL.get (VL.ofD g2) i (.d u) (by simp [hu])
  exact .same hr (y := y) (by simp [execOp, ho, Instr.extract, g1, g4]) g5
 ·simp at hx
theorem t_not (t : TypeId) (x : Operand) (op : UnOp) {ao : AO} {v : V} {h' : H} {ob : Bool} (ho : o.op = .unOp op t x) (hc : cop P o.op = some ao) (hx : xop h f ao = some (v, h', ob)) (hob : ob = true) :
  Told P κ w ((execOp ρ o).run P w) v h' := by
 rw [ho] at hc
 simp only [cop] at hc
 split at hc
 case h_2 => simp at hc
 rename_i x' e1
 have h1 := hρ _ _ e1
 split at hc
 ·simp only [Option.some.injEq] at hc
  subst hc
  simp only [xop] at hx
  split at hx
  case h_2 => simp at hx
  rename_i b ex
  simp only [val, Option.some.injEq, Prod.mk.injEq] at hx
  obtain ⟨e4, e5, e6⟩ := hx
  subst e4 e5 e6
  rw [ex] at h1
  simp only [VR, DR] at h1
  exact .same hr (y := .bool (!b)) (by simp [execOp, ho, h1, Op.unary]) (by simp [VR, DR])
 ·simp only [Option.some.injEq] at hc
  subst hc
  simp only [xop] at hx
  split at hx
  case h_2 => simp at hx
  rename_i n ex
  simp only [Option.some.injEq, Prod.mk.injEq] at hx
  obtain ⟨e4, e5, e6⟩ := hx
  subst e4 e5 e6
  rw [ex] at h1
  simp only [VR, DR] at h1
  simp only [inI, Bool.and_eq_true, decide_eq_true_eq] at hob
  exact .same hr (y := .int .i64 (-n)) (by simp [execOp, ho, h1, Op.unary, Op.intArith, IntWalk.i64_in _ hob]) (by simp [VR, DR])
 ·simp at hc
omit hr hρ in
theorem intsV_sound {κ : K} : ∀ {ys : List V} {ns : List Int} {new : List Value}, intsV ys = some ns → VX κ 1 ys new → new = ns.map (Value.int .u8)
 | [], ns, new, h, hx => by
  simp only [intsV, Option.some.injEq] at h
  subst h
  simp only [VX] at hx
  simpa using hx
 | y :: ys, ns, new, h, hx => by
  unfold intsV at h
  split at h
  ·simp at *
  ·rename_i k n r e
   simp only [List.cons.injEq] at e
   obtain ⟨e1, e2⟩ := e
   subst e1 e2
   split at h
   case h_2 => simp at h
   rename_i l hk hl
   simp only [Option.some.injEq] at h
   subst h
   obtain ⟨c, t, e3, e4, e5, e6⟩ := hx
   have := intsV_sound hl e6
   subst this
   have hk : k = .u8 := by simpa using hk
   subst hk
   obtain ⟨e5, _⟩ := e5
   simp only [V.cells, VL, VR, DR] at e5
   obtain ⟨y, t2, e7, e8, e9⟩ := e5
   subst e7 e8 e9
   rw [e3]; simp
  ·simp at h
omit hr hρ in
theorem b2s_run {κ : K} {h : H} {w : World} (hr : Rel κ h w) {vx : V} {x : Value} {ys : List V} {ns : List Int} (h1 : VR κ vx x) (hns : ∀ s, vx = .d (.str s) → False) (hel : elems h vx = some ys) (hi : intsV ys = some ns) (hsz : szOk (vsz h vx) 1 = true) :
  ∃ _y : Unit, (∃ a l c, x = .slice a l c) ∧ (Conv.bytesToString x).run P w = .ok (.string (bytesI ns)) w := by
 obtain ⟨new, g1, g2, g3⟩ := elems_sound (P := P) hr h1 hel hsz
 have hnew := intsV_sound hi g3
 have hl : ys.length = ns.length := by
  have := g3.length
  rw [hnew] at this
  simpa using this.symm
 have g2 := g2 w.drawn
 refine ⟨(), ?_⟩
 have hsl : ∃ a l c, x = .slice a l c := by
  cases x with
  | slice a l c => exact ⟨a, l, c, rfl⟩
  | string s =>
   exfalso
   unfold elems at hel
   split at hel
   ·simp only [VR, DR] at h1
    rcases h1 with ⟨_, _, h1⟩ | ⟨_, b, q, c, h1, _⟩ <;> simp at h1
   ·rename_i s'
    exact hns _ rfl
   ·rename_i i n off len
    simp only [VR] at h1
    obtain ⟨_, _, h1⟩ := h1
    split at hel
    ·rename_i vc hv
     split at hel
     ·rename_i hn
      simp only [Bool.and_eq_true] at hn
      obtain ⟨z1, z2, z3⟩ := hr.vc i _ hv
      obtain ⟨_, h1⟩ := h1 _ z1
      have h1 := h1 (Nat.eq_of_beq_eq_true hn.1).symm
      unfold link at h1
      split at h1
      ·simp at h1
      ·simp at h1
     ·simp at hel
    ·simp at hel
   ·simp at hel
  | _ => simp [Builtin.lenOf, stuck] at g1
 refine ⟨hsl, ?_⟩
 obtain ⟨a, l, c, hx⟩ := hsl
 subst hx
 cases a with
 | none =>
  simp [Builtin.firstCells] at g2
  have : ns = [] := by
   have : new = [] := by simpa using g2.symm
   rw [this] at hnew
   simpa using hnew.symm
  subst this
  simp [Conv.bytesToString, bytesI]
  rfl
 | some a =>
  have hlen : l = ns.length := by
   simp [Builtin.lenOf] at g1
   omega
  subst hlen
  have hload : (loadCells a ns.length).run P w = .ok (ns.map (Value.int .u8)).toArray w := by
   simp only [Builtin.firstCells, Nat.mul_one, hl, hnew] at g2
   exact g2
  rw [run_bytesToString w a ns.length c ns hload, foldl_push_bytes]
  simp [bytesI]
omit hr hρ in
theorem p2u_run {κ : K} {h : H} {w : World} (hr : Rel κ h w) {i off : Nat} {cs : List V} {e : TypeId} (hb : h.bx[i]? = some (.cells cs e)) (ho : off < cs.length) {s d t : TypeId} {n : Nat}
  (h1 : P.underlying s = some (.pointer t)) (h2 : P.underlying d = some .unsafePointer) (hs : szOf P t = some (n + 1)) :
  (convert s d (.pointer (some ⟨κ.bl i, off, none⟩))).run P w = .ok (.pointer (some ⟨κ.bl i, off, none⟩)) w := by
 obtain ⟨_, vs, g1, g2⟩ := hr.bx i _ hb
 have hl := g2.1.length
 have hsh : w.shape? (κ.bl i) = some (e, vs.length) := by simp [World.shape?, g1]
 have hnot : ¬ vs.length ≤ off := by omega
 simp [convert, run_underlying h1, run_underlying h2, Conv.unsafePointer, Conv.seenAt, viewAt, hsh, cellsIn, run_sizeOf hs, hnot]
omit hr hρ in
theorem hasT_sound : ∀ {es : List (Nat × Nat)} {e n : Nat}, hasT es e n = true → (e, n) ∈ es
 | [], _, _, h => by simp [hasT] at h
 | (a, k) :: r, e, n, h => by
  simp only [hasT, Bool.or_eq_true, Bool.and_eq_true] at h
  rcases h with h | h
  ·rw [Nat.eq_of_beq_eq_true h.1, Nat.eq_of_beq_eq_true h.2]; simp
  ·exact List.mem_cons_of_mem _ (hasT_sound h)
omit hr hρ in
theorem u2p_run {κ : K} {h : H} {w : World} (hr : Rel κ h w) {i : Nat} {cs : List V} {e u : TypeId} (hb : h.bx[i]? = some (.cells cs e)) (ht : hasT (seenAs P u) e cs.length = true) {s d : TypeId}
  (h1 : P.underlying s = some .unsafePointer) (h2 : P.underlying d = some (.pointer u)) {n : Nat} (hs : szOf P u = some n) :
  (convert s d (.pointer (some ⟨κ.bl i, 0, none⟩))).run P w = .ok (.pointer (some ⟨κ.bl i, 0, none⟩)) w := by
 obtain ⟨_, vs, g1, g2⟩ := hr.bx i _ hb
 have hl := g2.1.length
 have hsh : w.shape? (κ.bl i) = some (e, vs.length) := by simp [World.shape?, g1]
 have hm := hasT_sound ht
 simp only [seenAs, List.mem_filterMap] at hm
 obtain ⟨a, _, hm⟩ := hm
 split at hm
 case h_2 => simp at hm
 rename_i hc
 simp only [Option.some.injEq, Prod.mk.injEq] at hm
 obtain ⟨e1, e2⟩ := hm
 subst e1
 simp only [Bool.and_eq_true] at hc
 have hpos : 0 < P.cellsOf a := Nat.le_of_ble_eq_true hc.1
 have hdiv : vs.length / P.cellsOf a = 1 := by rw [hl, ← e2]; exact Nat.div_self hpos
 have hv : (variablesAt ⟨κ.bl i, 0, none⟩ u 1).run P w = .ok true w := by
  simp [variablesAt, hsh, hdiv, hc.2]
 simp [convert, run_underlying h1, run_underlying h2, Conv.unsafePointer, Conv.seenAt, viewAt, hsh, hv, run_sizeOf hs]
theorem t_conv (s d : TypeId) (x : Operand) {ao : AO} {v : V} {h' : H} {ob : Bool} (ho : o.op = .convert s d x) (hc : cop P o.op = some ao) (hx : xop h f ao = some (v, h', ob)) (hob : ob = true) :
  Told P κ w ((execOp ρ o).run P w) v h' := by
 rw [ho] at hc
 simp only [cop] at hc
 split at hc
 ·rename_i ks k x' e1 e2 e3
  have h1 := hρ _ _ e3
  simp only [Option.some.injEq] at hc
  subst hc
  simp only [xop] at hx
  split at hx
  case h_2 => simp at hx
  rename_i kk n ex
  rw [ex] at h1
  simp only [VR, DR] at h1
  split at hx
  ·simp only [Option.some.injEq, Prod.mk.injEq] at hx
   obtain ⟨e4, e5, e6⟩ := hx
   subst e4 e5 e6
   simp only [inI, Bool.and_eq_true, decide_eq_true_eq] at hob
   exact .same hr (y := .int .i64 n) (by simp [execOp, ho, h1, convert, run_underlying e1, run_underlying e2, Conv.intToInt, IntWalk.i64_in _ hob]) (by simp [VR, DR])
  ·simp only [val, Option.some.injEq, Prod.mk.injEq] at hx
   obtain ⟨e4, e5, e6⟩ := hx
   subst e4 e5 e6
   exact .same hr (y := .int k (k.wrap n)) (by simp [execOp, ho, h1, convert, run_underlying e1, run_underlying e2, Conv.intToInt]) (by simp [VR, DR])
 ·rename_i x' e1 e2 e3
  have h1 := hρ _ _ e3
  simp only [Option.some.injEq] at hc
  subst hc
  simp only [xop] at hx
  split at hx
  case h_2 => simp at hx
  rename_i s' ex
  rw [ex] at h1
  simp only [VR, DR] at h1
  simp only [val, Option.some.injEq, Prod.mk.injEq] at hx
  obtain ⟨e4, e5, e6⟩ := hx
  subst e4 e5 e6
  exact .same hr (y := .string s') (by simp [execOp, ho, h1, convert, run_underlying e1, run_underlying e2]) (by simp [VR, DR])
 ·rename_i e x' e1 e2 e3
  have h1 := hρ _ _ e3
  split at hc
  case h_2 => simp at hc
  rename_i he
  simp only [Option.some.injEq] at hc
  subst hc
  simp only [xop] at hx
  generalize f x' = vx at hx h1
  split at hx
  ·simp at hx
  ·rename_i hns
   split at hx
   case h_2 => simp at hx
   rename_i ys hel
   split at hx
   case h_2 => simp at hx
   rename_i ns hns2
   split at hx
   case h_2 => simp at hx
   rename_i hsz
   simp only [val, Option.some.injEq, Prod.mk.injEq] at hx
   obtain ⟨e4, e5, e6⟩ := hx
   subst e4 e5 e6
   obtain ⟨y, hy1, hy2⟩ := b2s_run (P := P) hr h1 hns hel hns2 hsz
   have : (convert s d (ρ x)).run P w = .ok (.string (bytesI ns)) w := by
    rcases hy1 with ⟨a, l, c, hv⟩
    rw [hv] at hy2 ⊢
    rw [run_convert_bytes_string w s d e a l c e1 he e2]
    exact hy2
   exact .same hr (y := .string (bytesI ns)) (by simp [execOp, ho, this]) (by simp [VR, DR])
 ·rename_i e x' e1 e2 e3
  have h1 := hρ _ _ e3
  split at hc
  case h_2 => simp at hc
  rename_i he
  simp only [Option.some.injEq] at hc
  subst hc
  simp only [xop] at hx
  split at hx
  case h_2 => simp at hx
  rename_i s' ex
  rw [ex] at h1
  simp only [VR, DR] at h1
  simp only [val, Option.some.injEq, Prod.mk.injEq] at hx
  obtain ⟨e4, e5, e6⟩ := hx
  subst e4 e5 e6
  have hrun := Lib.run_convert_string_bytes (P := P) w s d e s' e1 e2 he
  rw [bytesWorld_eq] at hrun
  have hr2 : Rel κ h w.drew := ⟨hr.S, hr.SO, hr.nb, hr.nv, hr.bx, hr.vc, hr.rest, hr.os, hr.out, hr.tape⟩
  obtain ⟨κ', k1, k2, k3⟩ := hr2.newSeal (Lib.bytesCells w e s') e ((Lib.bytesCells w e s').size, (Lib.bytesCells w e s').size + 1)
  refine ⟨_, κ', k1, k2, .inl ⟨.slice (some ⟨w.heap.size, 0, none⟩) s'.size (grownCap w s'.size 0 e), by simp [execOp, ho, h1, hrun], ?_⟩⟩
  simp only [VR, DR]
  refine .inr ⟨trivial, w.heap.size, 0, grownCap w s'.size 0 e, by simp, by simpa using grownCap_ge w s'.size 0 e, DX.bytes _ 0 fun j x hj => ?_⟩
  refine k3 _ _ ?_
  unfold Lib.bytesCells
  rw [Array.getElem?_append_left (by
   have := (List.getElem?_eq_some_iff.1 hj).1
   simpa using this)]
  simp only [Array.getElem?_map, Nat.zero_add]
  rw [← Array.getElem?_toList, hj]
  rfl
 ·rename_i e x' e1 e2 e3
  have h1 := hρ _ _ e3
  split at hc
  case h_2 => simp at hc
  rename_i n hs
  simp only [Option.some.injEq] at hc
  subst hc
  simp only [xop] at hx
  split at hx
  ·rename_i i off ex
   rw [ex] at h1
   simp only [VR] at h1
   split at hx
   case h_2 => simp at hx
   rename_i cs et hb
   split at hx
   case h_2 => simp at hx
   rename_i hlt
   simp only [val, Option.some.injEq, Prod.mk.injEq] at hx
   obtain ⟨e4, e5, e6⟩ := hx
   subst e4 e5 e6
   refine .same hr (y := .pointer (some ⟨κ.bl i, off, none⟩)) ?_ (by simp only [VR]; exact ⟨h1.1, trivial⟩)
   have := p2u_run (P := P) hr hb (Nat.le_of_ble_eq_true hlt) e1 e2 hs
   simp [execOp, ho, h1.2, this]
  ·rename_i ex
   rw [ex] at h1
   simp only [VR, DR] at h1
   simp only [val, Option.some.injEq, Prod.mk.injEq] at hx
   obtain ⟨e4, e5, e6⟩ := hx
   subst e4 e5 e6
   exact .same hr (y := .pointer none) (by simp [execOp, ho, h1, convert, run_underlying e1, run_underlying e2, Conv.unsafePointer]) (by simp [VR, DR])
  ·simp at hx
 ·rename_i u x' e1 e2 e3
  have h1 := hρ _ _ e3
  split at hc
  case h_2 => simp at hc
  rename_i n hs
  simp only [Option.some.injEq] at hc
  subst hc
  simp only [xop] at hx
  split at hx
  ·rename_i i off ex
   rw [ex] at h1
   simp only [VR] at h1
   split at hx
   case h_2 => simp at hx
   rename_i cs et hb
   split at hx
   case h_2 => simp at hx
   rename_i hlt
   simp only [Bool.and_eq_true] at hlt
   have ho0 := Nat.eq_of_beq_eq_true hlt.1
   subst ho0
   simp only [val, Option.some.injEq, Prod.mk.injEq] at hx
   obtain ⟨e4, e5, e6⟩ := hx
   subst e4 e5 e6
   refine .same hr (y := .pointer (some ⟨κ.bl i, 0, none⟩)) ?_ (by simp only [VR]; exact ⟨h1.1, trivial⟩)
   have := u2p_run (P := P) hr hb hlt.2 e1 e2 hs
   simp [execOp, ho, h1.2, this]
  ·rename_i ex
   rw [ex] at h1
   simp only [VR, DR] at h1
   simp only [val, Option.some.injEq, Prod.mk.injEq] at hx
   obtain ⟨e4, e5, e6⟩ := hx
   subst e4 e5 e6
   exact .same hr (y := .pointer none) (by simp [execOp, ho, h1, convert, run_underlying e1, run_underlying e2, Conv.unsafePointer]) (by simp [VR, DR])
  ·simp at hx
 ·simp at hc
omit hr hρ in
theorem guard_ok (op : BinOp) (t : TypeId) (x y : Operand) (a b : Value) (ha : ∀ xs, a ≠ .agg xs) (hb : a ≠ .nilIface) : (eqGuard op t x y a b).run P w = .ok () w := by
 unfold eqGuard
 cases op <;> simp
 all_goals
  split
  ·exact absurd rfl hb
  ·rename_i xs ys; exact absurd rfl (ha xs)
  ·rfl
omit hr hρ in
theorem eqIn_bool (w : World) {t : TypeId} (hu : P.underlying t = some .bool) (d : Nat) (a b : Bool) : (Op.equalIn (d + 1) t (.bool a) (.bool b)).run P w = .ok (a == b) w := by
 simp [Op.equalIn, run_underlying hu]
omit hr hρ in
theorem eq_bool (w : World) {t : TypeId} (hu : P.underlying t = some .bool) (a b : Bool) : (Op.equal t (.bool a) (.bool b)).run P w = .ok (a == b) w :=
 eqIn_bool w hu 9999 a b
omit hr hρ in
theorem eqIn_ptr (w : World) {t e : TypeId} (hu : P.underlying t = some (.pointer e)) (d : Nat) (a : Option Addr) : (Op.equalIn (d + 1) t (.pointer a) (.pointer none)).run P w = .ok a.isNone w := by
 cases a <;> simp [Op.equalIn, run_underlying hu]
omit hr hρ in
theorem eqIn_pp (w : World) {t e : TypeId} {n : Nat} (hu : P.underlying t = some (.pointer e)) (hs : szOf P e = some (n + 1)) (d b x y : Nat) :
  (Op.equalIn (d + 1) t (.pointer (some ⟨b, x, none⟩)) (.pointer (some ⟨b, y, none⟩))).run P w = .ok (Nat.beq x y) w := by
 have hq : ((⟨b, x, none⟩ : Addr) == ⟨b, y, none⟩) = Nat.beq x y := by
  by_cases h : x = y
  ·subst h; rw [Nat.beq_refl]; simp
  ·cases hb : Nat.beq x y with
   | false => simp
   | true => exact absurd (Nat.eq_of_beq_eq_true hb) h
 simp [Op.equalIn, run_underlying hu, run_sizeOf hs w, sameAddr, hq]
omit hr hρ in
theorem eqIn_slice (w : World) {t e : TypeId} (hu : P.underlying t = some (.slice e)) (d : Nat) (a : Option Addr) (l c : Nat) : (Op.equalIn (d + 1) t (.slice a l c) (.slice none 0 0)).run P w = .ok a.isNone w := by
 cases a <;> simp [Op.equalIn, run_underlying hu]
omit hr hρ in
theorem eqIn_nilF (w : World) {t : TypeId} {a b c} (hu : P.underlying t = some (.func a b c)) (d : Nat) : (Op.equalIn (d + 1) t .nilFunc .nilFunc).run P w = .ok true w := by
 simp [Op.equalIn, run_underlying hu]
omit hr hρ in
theorem eqIn_fn (w : World) {t : TypeId} {a b c} (hu : P.underlying t = some (.func a b c)) (d : Nat) (g x y) : (Op.equalIn (d + 1) t (.func g x y) .nilFunc).run P w = .ok false w := by
 simp [Op.equalIn, run_underlying hu]
omit hr hρ in
theorem eqIn_nilI (w : World) {t : TypeId} {e} (hu : P.underlying t = some (.interface e)) (d : Nat) : (Op.equalIn (d + 1) t .nilIface .nilIface).run P w = .ok true w := by
 simp [Op.equalIn, run_underlying hu]
omit hr hρ in
theorem eqIn_if (w : World) {t : TypeId} {e} (hu : P.underlying t = some (.interface e)) (d : Nat) (g x) : (Op.equalIn (d + 1) t (.iface g x) .nilIface).run P w = .ok false w := by
 simp [Op.equalIn, run_underlying hu]
omit hr hρ in
theorem run_nil {t yt : TypeId} {op : BinOp} {x y : Operand} {a b : Value} {c ng : Bool} (ho : o.op = .binOp op t x y yt) (hop : (op = .eql ∧ ng = false) ∨ (op = .neq ∧ ng = true))
  (hg : (eqGuard op t x y a b).run P w = .ok () w) (hb : (∃ p q, a = .pointer p ∧ b = .pointer q) ∨ (∃ l m n i j k, a = .slice l m n ∧ b = .slice i j k) ∨ b = .nilFunc ∨ b = .nilIface)
  (ha : b = .nilFunc ∨ b = .nilIface → (∃ g i j, a = .func g i j) ∨ a = .nilFunc ∨ a = .nilIface ∨ ∃ g i, a = .iface g i)
  (he : (Op.equal t a b).run P w = .ok c w) (hx : ρ x = a) (hy : ρ y = b) : (execOp ρ o).run P w = .ok (.value (.bool (c ^^ ng))) w := by
 have key : (binOp op t a b).run P w = .ok (.bool (c ^^ ng)) w := by
  rcases hop with ⟨h1, h2⟩ | ⟨h1, h2⟩ <;> subst h1 h2 <;> rcases hb with ⟨p, q, h3, h4⟩ | ⟨_, _, _, _, _, _, h3, h4⟩ | h4 | h4
  all_goals first
   | (subst h3 h4; simp [binOp, he]; done)
   | (rcases ha (by simp [h4]) with ⟨_, _, _, h5⟩ | h5 | h5 | ⟨_, _, h5⟩ <;> subst h4 h5 <;> simp [binOp, he]; done)
 simp [execOp, ho, hx, hy, hg, key]
omit hr hρ in
theorem isNil0 {y : Operand} (h : isNil 0 y = true) : y = .const (.pointer none) := by unfold isNil at h; split at h <;> simp_all
omit hr hρ in
theorem isNil1 {y : Operand} (h : isNil 1 y = true) : y = .const (.slice none 0 0) := by unfold isNil at h; split at h <;> simp_all
omit hr hρ in
theorem isNil2 {y : Operand} (h : isNil 2 y = true) : y = .const .nilFunc := by unfold isNil at h; split at h <;> simp_all
omit hr hρ in
theorem isNil3 {y : Operand} (h : isNil 3 y = true) : y = .const .nilIface := by unfold isNil at h; split at h <;> simp_all
theorem t_nil (hcst : ∀ d, f (.cst d) = .d d) (k : Nat) (op : BinOp) (t yt : TypeId) (x : Operand) (x' : Opd) (y : Operand) {ao : AO} {v : V} {h' : H} {ob : Bool} (ho : o.op = .binOp op t x y yt)
  (hk : (k = 0 ∧ ∃ e, P.underlying t = some (.pointer e)) ∨ (k = 1 ∧ ∃ e, P.underlying t = some (.slice e)) ∨ (k = 2 ∧ ∃ a b c, P.underlying t = some (.func a b c)) ∨ (k = 3 ∧ ∃ e, P.underlying t = some (.interface e)))
  (e1 : opd x = some x') (hc : copNil k op x' y = some ao) (hx : xop h f ao = some (v, h', ob)) : Told P κ w ((execOp ρ o).run P w) v h' := by
 unfold copNil at hc
 split at hc
 case h_2 => simp at hc
 rename_i hn
 have h1 := hρ _ _ e1
 have key : ∃ ng, ((op = .eql ∧ ng = false) ∨ (op = .neq ∧ ng = true)) ∧ ao = .eqnil k ng x' := by
  split at hc <;> simp only [Option.some.injEq, reduceCtorEq] at hc
  ·exact ⟨false, .inl ⟨rfl, rfl⟩, hc.symm⟩
  ·exact ⟨true, .inr ⟨rfl, rfl⟩, hc.symm⟩
 obtain ⟨ng, hop, hao⟩ := key
 subst hao
 have hguard := fun a b ha hb => guard_ok (P := P) (w := w) op t x y a b ha hb
 have fin : ∀ {a b : Value} {c : Bool}, ρ x = a → ρ y = b → (Op.equal t a b).run P w = .ok c w → (eqGuard op t x y a b).run P w = .ok () w →
   ((∃ p q, a = .pointer p ∧ b = .pointer q) ∨ (∃ l m n i j k, a = .slice l m n ∧ b = .slice i j k) ∨ b = .nilFunc ∨ b = .nilIface) →
   (b = .nilFunc ∨ b = .nilIface → (∃ g i j, a = .func g i j) ∨ a = .nilFunc ∨ a = .nilIface ∨ ∃ g i, a = .iface g i) →
   (v = .d (.bool (c ^^ ng)) ∧ h' = h) → Told P κ w ((execOp ρ o).run P w) v h' := by
  intro a b c hxa hyb he hg hb ha hv
  obtain ⟨hv1, hv2⟩ := hv
  subst hv1 hv2
  exact .same hr (run_nil o ho hop hg hb ha he hxa hyb) (by simp [VR, DR])
 have hconst : ∀ d, (∃ u, y = .const u ∧ toD 8 u = some d) → DR κ.S d (ρ y) := fun d ⟨u, hu1, hu2⟩ => by
  have := hρ y (.cst d) (by simp [opd, hu1, hu2])
  rw [hcst] at this
  simpa only [VR] using this
 simp only [xop] at hx
 generalize f x' = vx at hx h1
 rcases hk with ⟨hk, e, hu⟩ | ⟨hk, e, hu⟩ | ⟨hk, q1, q2, q3, hu⟩ | ⟨hk, e, hu⟩ <;> subst hk
 ·have hy : ρ y = .pointer none := by
   have := hconst .nilP ⟨_, isNil0 hn, rfl⟩
   simpa only [DR] using this
  have go : ∀ p, ρ x = .pointer p → v = .d (.bool (p.isNone ^^ ng)) → h' = h → Told P κ w ((execOp ρ o).run P w) v h' := fun p hp hv hh =>
   fin hp hy (eqIn_ptr w hu 9999 p) (hguard _ _ (by simp) (by simp)) (.inl ⟨_, _, rfl, rfl⟩) (by simp) ⟨hv, hh⟩
  cases vx with
  | d dx =>
   cases dx <;> simp [val] at hx
   ·simp only [VR, DR] at h1
    exact go none h1 (by simp [← hx.1]) hx.2.1.symm
   ·simp only [VR, DR] at h1
    obtain ⟨b, q, h2, _⟩ := h1
    exact go _ h2 (by simp [← hx.1]) hx.2.1.symm
  | ptr i off =>
   simp [val] at hx
   simp only [VR] at h1
   exact go _ h1.2 (by simp [← hx.1]) hx.2.1.symm
  | vptr i n q off =>
   simp only at hx
   split at hx
   case h_2 => simp at hx
   rename_i hcur
   simp [val] at hx
   obtain ⟨b, c, sz, _, h2, _⟩ := cur_vptr hr hcur h1
   exact go _ h2 (by simp [← hx.1]) hx.2.1.symm
  | _ => simp at hx
 ·have hy : ρ y = .slice none 0 0 := by
   have := hconst (.sl true 0 []) ⟨_, isNil1 hn, rfl⟩
   simpa [DR] using this
  have go : ∀ p l c, ρ x = .slice p l c → v = .d (.bool (p.isNone ^^ ng)) → h' = h → Told P κ w ((execOp ρ o).run P w) v h' := fun p l c hp hv hh =>
   fin hp hy (eqIn_slice w hu 9999 p l c) (hguard _ _ (by simp) (by simp)) (.inr (.inl ⟨_, _, _, _, _, _, rfl, rfl⟩)) (by simp) ⟨hv, hh⟩
  cases vx with
  | d dx =>
   cases dx <;> simp [val] at hx
   simp only [VR, DR] at h1
   rcases h1 with ⟨h2, _, h3⟩ | ⟨h2, b, q, c, h3, _⟩
   ·exact go _ _ _ h3 (by simp [← hx.1, h2]) hx.2.1.symm
   ·exact go _ _ _ h3 (by simp [← hx.1, h2]) hx.2.1.symm
  | vs i n off len =>
   simp only at hx
   split at hx
   case h_2 => simp at hx
   rename_i vc hvc
   split at hx
   case h_2 => simp at hx
   rename_i hnn
   simp [val] at hx
   have hnn := Nat.eq_of_beq_eq_true hnn
   obtain ⟨g1, g2, g3⟩ := hr.vc i _ hvc
   simp only [VR] at h1
   have h3 := (h1.2.2 _ g1).2 hnn.symm
   rcases g3 with ⟨h4, _, g4⟩ | ⟨h4, b, cap, vs, sp, fz, g4, _⟩
   ·simp only [link, g4] at h3
    exact go _ _ _ h3.1 (by simp [← hx.1, h4]) hx.2.1.symm
   ·simp only [link, g4] at h3
    exact go _ _ _ h3.2 (by simp [← hx.1, h4]) hx.2.1.symm
  | _ => simp at hx
 ·have hy : ρ y = .nilFunc := by
   have := hconst .nilF ⟨_, isNil2 hn, rfl⟩
   simpa only [DR] using this
  cases vx with
  | d dx =>
   cases dx <;> simp [val] at hx
   ·simp only [VR, DR] at h1
    obtain ⟨a', c', h2, _⟩ := h1
    exact fin h2 hy (eqIn_fn w hu 9999 _ _ _) (hguard _ _ (by simp) (by simp)) (.inr (.inr (.inl rfl))) (fun _ => .inl ⟨_, _, _, rfl⟩) ⟨by simp [← hx.1], hx.2.1.symm⟩
   ·simp only [VR, DR] at h1
    exact fin h1 hy (eqIn_nilF w hu 9999) (hguard _ _ (by simp) (by simp)) (.inr (.inr (.inl rfl))) (fun _ => .inr (.inl rfl)) ⟨by simp [← hx.1], hx.2.1.symm⟩
  | fn g a c =>
   simp [val] at hx
   simp only [VR] at h1
   obtain ⟨a', c', h2, _⟩ := h1
   exact fin h2 hy (eqIn_fn w hu 9999 _ _ _) (hguard _ _ (by simp) (by simp)) (.inr (.inr (.inl rfl))) (fun _ => .inl ⟨_, _, _, rfl⟩) ⟨by simp [← hx.1], hx.2.1.symm⟩
  | _ => simp at hx
 ·have hy : ρ y = .nilIface := by
   have := hconst .nilI ⟨_, isNil3 hn, rfl⟩
   simpa only [DR] using this
  cases vx with
  | d dx =>
   cases dx <;> simp [val] at hx
   ·simp only [VR, DR] at h1
    obtain ⟨z, h2, _⟩ := h1
    exact fin h2 hy (eqIn_if w hu 9999 _ _) (hguard _ _ (by simp) (by simp)) (.inr (.inr (.inr rfl))) (fun _ => .inr (.inr (.inr ⟨_, _, rfl⟩))) ⟨by simp [← hx.1], hx.2.1.symm⟩
   ·simp only [VR, DR] at h1
    have hg : (eqGuard op t x y .nilIface .nilIface).run P w = .ok () w := by
     rw [isNil3 hn]
     unfold eqGuard
     rcases hop with ⟨h2, _⟩ | ⟨h2, _⟩ <;> subst h2 <;> simp
    exact fin h1 hy (eqIn_nilI w hu 9999) hg (.inr (.inr (.inr rfl))) (fun _ => .inr (.inr (.inl rfl))) ⟨by simp [← hx.1], hx.2.1.symm⟩
  | iface g i =>
   simp [val] at hx
   simp only [VR] at h1
   obtain ⟨z, h2, _⟩ := h1
   exact fin h2 hy (eqIn_if w hu 9999 _ _) (hguard _ _ (by simp) (by simp)) (.inr (.inr (.inr rfl))) (fun _ => .inr (.inr (.inr ⟨_, _, rfl⟩))) ⟨by simp [← hx.1], hx.2.1.symm⟩
  | _ => simp at hx
omit hr hρ in
theorem eqIn_int (w : World) {t : TypeId} (hu : intT P t = true) (d : Nat) (k : IntKind) (a b : Int) : (Op.equalIn (d + 1) t (.int k a) (.int k b)).run P w = .ok (a == b) w := by
 unfold intT at hu
 split at hu
 ·rename_i k' hu'
  simp [Op.equalIn, run_underlying hu']
 ·simp at hu
omit hr hρ in
theorem part_int (w : World) {t : TypeId} (hu : intT P t = true) {cs : List Value} {i : Nat} {v : Value} (h : cs[i]? = some v) : (part t ⟨cs⟩ i).run P w = .ok v w := by
 have ha : aggOf P t = some false := by
  unfold intT at hu
  unfold aggOf
  split at hu
  ·rename_i k' hu'
   rw [hu']
  ·simp at hu
 simp [part, run_isAgg ha, h]
omit hr hρ in
theorem eq_int3 (w : World) {t : TypeId} {fs : Array Field} (hu : P.underlying t = some (.struct fs)) (hi : int3 P t fs = true) (k1 k2 k3 : IntKind) (a1 a2 a3 b1 b2 b3 : Int) :
  (Op.equal t (.agg ⟨[.int k1 a1, .int k2 a2, .int k3 a3]⟩) (.agg ⟨[.int k1 b1, .int k2 b2, .int k3 b3]⟩)).run P w = .ok (decide (a1 = b1) && (decide (a2 = b2) && decide (a3 = b3))) w := by
 unfold int3 at hi
 split at hi
 ·rename_i f0 f1 f2 he
  obtain ⟨fl⟩ := fs
  simp only at he
  subst he
  simp only [Bool.and_eq_true, Bool.not_eq_true', decide_eq_false_iff_not] at hi
  obtain ⟨i0, i1, i2, o0, o1, o2, n0, n1, n2, hs, _⟩ := hi
  have o0 := Nat.eq_of_beq_eq_true o0
  have o1 := Nat.eq_of_beq_eq_true o1
  have o2 := Nat.eq_of_beq_eq_true o2
  have p : ∀ {t : TypeId} {cs : List Value} {i : Nat} {v : Value}, intT P t = true → cs[i]? = some v → (part t ⟨cs⟩ i).run P w = .ok v w := fun h1 h2 => part_int w h1 h2
  show (Op.equalIn (9999 + 1) t _ _).run P w = _
  rw [Op.equalIn]
  simp [run_underlying hu, hs, n0, n1, n2, o0, o1, o2, p i0, p i1, p i2, eqIn_int w i0 9998, eqIn_int w i1 9998, eqIn_int w i2 9998]
  by_cases c0 : a1 = b1 <;> by_cases c1 : a2 = b2 <;> by_cases c2 : a3 = b3 <;> simp [c0, c1, c2]
 ·simp at hi
theorem t_bin (hcst : ∀ d, f (.cst d) = .d d) (op : BinOp) (t yt : TypeId) (x y : Operand) {ao : AO} {v : V} {h' : H} {ob : Bool} (ho : o.op = .binOp op t x y yt) (hc : cop P o.op = some ao) (hx : xop h f ao = some (v, h', ob)) (hob : ob = true) :
  Told P κ w ((execOp ρ o).run P w) v h' := by
 rw [ho] at hc
 simp only [cop, copBin] at hc
 split at hc
 case h_2 => simp at hc
 rename_i x' y' e1 e2
 have h1 := hρ _ _ e1
 have h2 := hρ _ _ e2
 have guard := fun a b ha hb => guard_ok (P := P) (w := w) op t x y a b ha hb
 split at hc
 ·
  have ints : ∀ {ao'}, some ao' = some ao → (ao' = .shift op x' y' ∨ ao' = .ibin op x' y' ∨ ao' = .icmp op x' y') → (ao' = .shift op x' y' → op = .shl ∨ op = .shr) → Told P κ w ((execOp ρ o).run P w) v h' := by
   intro ao' he hk hsh
   simp only [Option.some.injEq] at he
   subst he
   rcases hk with hk | hk | hk
   ·subst hk
    simp only [xop] at hx
    split at hx
    case h_2 => simp at hx
    rename_i k a k' b ex ey
    rw [ex] at h1
    rw [ey] at h2
    simp only [VR, DR] at h1 h2
    rcases hsh rfl with hop | hop <;> subst hop <;> simp only [Option.some.injEq, Prod.mk.injEq] at hx <;> obtain ⟨e4, e5, e6⟩ := hx <;> subst e4 e5 e6 <;>
     simp only [decide_eq_true_eq] at hob <;> have hb : ¬ b < 0 := by omega
    ·exact .same hr (y := .int k (k.wrap (a * 2 ^ (min b.toNat k.bits)))) (by simp [execOp, ho, h1, h2, guard, binOp, Op.shift, hb]) (by simp [VR, DR])
    ·exact .same hr (y := .int k (a.fdiv (2 ^ (min b.toNat k.bits)))) (by simp [execOp, ho, h1, h2, guard, binOp, Op.shift, hb]) (by simp [VR, DR])
   ·subst hk
    simp only [xop] at hx
    split at hx
    case h_2 => simp at hx
    rename_i k a k' b ex ey
    rw [ex] at h1
    rw [ey] at h2
    simp only [VR, DR] at h1 h2
    split at hx
    case h_2 => simp at hx
    rename_i hkk
    simp only [decide_eq_true_eq] at hkk
    subst hkk
    split at hx
    case h_2 => simp at hx
    rename_i r ob' hi
    simp only [Option.some.injEq, Prod.mk.injEq] at hx
    obtain ⟨e4, e5, e6⟩ := hx
    subst e4 e5 e6
    have := iop_sound (P := P) hi hob w t
    exact .same hr (y := .int k r) (by simp [execOp, ho, h1, h2, guard, this]) (by simp [VR, DR])
   ·subst hk
    simp only [xop] at hx
    split at hx
    case h_2 => simp at hx
    rename_i k a k' b ex ey
    rw [ex] at h1
    rw [ey] at h2
    simp only [VR, DR] at h1 h2
    split at hx
    case h_2 => simp at hx
    rename_i hkk
    simp only [decide_eq_true_eq] at hkk
    subst hkk
    split at hx
    case h_2 => simp at hx
    rename_i r hi
    simp only [val, Option.some.injEq, Prod.mk.injEq] at hx
    obtain ⟨e4, e5, e6⟩ := hx
    subst e4 e5 e6
    have := icmp_sound (P := P) (k := k) hi w t
    exact .same hr (y := .bool r) (by simp [execOp, ho, h1, h2, guard, this]) (by simp [VR, DR])
  cases op <;> simp only at hc <;> first
   | exact ints hc (.inl rfl) (fun _ => .inl rfl)
   | exact ints hc (.inl rfl) (fun _ => .inr rfl)
   | exact ints hc (.inr (.inl rfl)) (by simp)
   | exact ints hc (.inr (.inr rfl)) (by simp)
 ·
  have key : ao = .sbin op x' y' := by cases op <;> simp at hc <;> exact hc.symm
  subst key
  simp only [xop] at hx
  split at hx
  case h_2 => simp at hx
  rename_i s s2 ex ey
  rw [ex] at h1
  rw [ey] at h2
  simp only [VR, DR] at h1 h2
  have heq : (s.toList == s2.toList) = decide (s = s2) := by
   rw [ByteArray.toList_eq, ByteArray.toList_eq, Bool.eq_iff_iff]
   simp only [beq_iff_eq, decide_eq_true_eq]
   exact ⟨fun e => by cases s; cases s2; simp_all [Array.toList_inj], fun e => by rw [e]⟩
  split at hx
  ·simp only [Option.some.injEq, Prod.mk.injEq] at hx
   obtain ⟨e4, e5, e6⟩ := hx
   subst e4 e5 e6
   simp only [decide_eq_true_eq] at hob
   have hb : ¬ (9223372036854775807 < ((s.size : Int) + (s2.size : Int))) := by omega
   have hm : IntKind.i64.max = 9223372036854775807 := rfl
   exact .same hr (y := .string (s ++ s2)) (by simp [execOp, ho, h1, h2, guard, binOp, Op.stringOp, hm, hb]) (by simp [VR, DR])
  ·simp only [val, Option.some.injEq, Prod.mk.injEq] at hx
   obtain ⟨e4, e5, e6⟩ := hx
   subst e4 e5 e6
   exact .same hr (y := .bool (decide (s = s2))) (by simp [execOp, ho, h1, h2, guard, binOp, Op.stringOp, heq]) (by simp [VR, DR])
  ·simp only [val, Option.some.injEq, Prod.mk.injEq] at hx
   obtain ⟨e4, e5, e6⟩ := hx
   subst e4 e5 e6
   exact .same hr (y := .bool (!decide (s = s2))) (by simp [execOp, ho, h1, h2, guard, binOp, Op.stringOp, heq]) (by simp [VR, DR])
  ·simp at hx
 ·
  rename_i hu
  have key : ∀ ng, ao = .bbin ng x' y' → ((ng = false ∧ op = .eql) ∨ (ng = true ∧ op = .neq)) → Told P κ w ((execOp ρ o).run P w) v h' := by
   intro ng hk hop
   subst hk
   simp only [xop] at hx
   split at hx
   case h_2 => simp at hx
   rename_i a b ex ey
   rw [ex] at h1
   rw [ey] at h2
   simp only [VR, DR] at h1 h2
   simp only [val, Option.some.injEq, Prod.mk.injEq] at hx
   obtain ⟨e4, e5, e6⟩ := hx
   subst e4 e5 e6
   have hq := eq_bool (P := P) w hu a b
   rcases hop with ⟨e1, e2⟩ | ⟨e1, e2⟩ <;> subst e1 e2
   ·exact .same hr (y := .bool (a == b)) (by simp [execOp, ho, h1, h2, guard, binOp, hq]) (by simp [VR, DR])
   ·exact .same hr (y := .bool (!(a == b))) (by simp [execOp, ho, h1, h2, guard, binOp, hq]) (by simp [VR, DR])
  split at hc
  ·simp only [Option.some.injEq] at hc; exact key false hc.symm (.inl ⟨rfl, rfl⟩)
  ·simp only [Option.some.injEq] at hc; exact key true hc.symm (.inr ⟨rfl, rfl⟩)
  ·simp at hc
 ·rename_i e hu
  split at hc
  ·exact t_nil hr hρ o hcst 0 op t yt x x' y ho (.inl ⟨rfl, _, hu⟩) e1 hc hx
  ·have key : ∀ ng n, szOf P e = some (n + 1) → ao = .peq ng x' y' → ((op = .eql ∧ ng = false) ∨ (op = .neq ∧ ng = true)) → Told P κ w ((execOp ρ o).run P w) v h' := by
    intro ng n hs hk hop
    subst hk
    simp only [xop] at hx
    split at hx
    case h_2 => simp at hx
    rename_i i a j b ex ey
    split at hx
    case h_2 => simp at hx
    rename_i hij
    have hij := Nat.eq_of_beq_eq_true hij
    subst hij
    rw [ex] at h1
    rw [ey] at h2
    simp only [VR] at h1 h2
    simp only [val, Option.some.injEq, Prod.mk.injEq] at hx
    obtain ⟨e4, e5, e6⟩ := hx
    subst e4 e5 e6
    refine .same hr (run_nil o ho hop (guard_ok (P := P) (w := w) op t x y _ _ (by simp) (by simp)) (.inl ⟨_, _, rfl, rfl⟩) (by simp) (eqIn_pp w hu hs 9999 _ a b) h1.2 h2.2) ?_
    simp [VR, DR, Bool.xor_comm]
   split at hc
   ·rename_i n hs
    simp only [Option.some.injEq] at hc; exact key false n hs hc.symm (.inl ⟨rfl, rfl⟩)
   ·rename_i n hs
    simp only [Option.some.injEq] at hc; exact key true n hs hc.symm (.inr ⟨rfl, rfl⟩)
   ·simp at hc
 ·rename_i fs hu
  split at hc
  case h_2 => simp at hc
  rename_i hi
  have key : ∀ ng, ao = .aeq ng x' y' → ((ng = false ∧ op = .eql) ∨ (ng = true ∧ op = .neq)) → Told P κ w ((execOp ρ o).run P w) v h' := by
   intro ng hk hop
   subst hk
   simp only [xop] at hx
   split at hx
   case h_2 => simp at hx
   rename_i k1 a1 k2 a2 k3 a3 l1 b1 l2 b2 l3 b3 ex ey
   split at hx
   case h_2 => simp at hx
   rename_i hk
   simp only [Bool.and_eq_true, decide_eq_true_eq] at hk
   obtain ⟨q1, q2, q3⟩ := hk
   subst q1 q2 q3
   rw [ex] at h1
   rw [ey] at h2
   have dl : ∀ {p q r : D} {z : List Value}, DL κ.S [p, q, r] z → ∃ u v t, z = [u, v, t] ∧ DR κ.S p u ∧ DR κ.S q v ∧ DR κ.S r t := fun h => by
    simp only [DL] at h
    obtain ⟨u, z1, e1, g1, v, z2, e2, g2, t, z3, e3, g3, e4⟩ := h
    subst e1 e2 e3 e4
    exact ⟨u, v, t, rfl, g1, g2, g3⟩
   simp only [VR, DR] at h1 h2
   obtain ⟨y1, g1, g2, _⟩ := h1
   obtain ⟨y2, g3, g4, _⟩ := h2
   obtain ⟨u1, u2, u3, r0, r1, r2, r3⟩ := dl g2
   obtain ⟨v1, v2, v3, s0, s1, s2, s3⟩ := dl g4
   simp only [DR] at r1 r2 r3 s1 s2 s3
   subst r0 s0 r1 r2 r3 s1 s2 s3
   simp only [val, Option.some.injEq, Prod.mk.injEq] at hx
   obtain ⟨e4, e5, e6⟩ := hx
   subst e4 e5 e6
   have hq := eq_int3 (P := P) w hu hi k1 k2 k3 a1 a2 a3 b1 b2 b3
   have hg : (eqGuard op t x y (.agg ⟨[.int k1 a1, .int k2 a2, .int k3 a3]⟩) (.agg ⟨[.int k1 b1, .int k2 b2, .int k3 b3]⟩)).run P w = .ok () w := by
    have ht : P.eqGuardType P.depth t = false := by
     unfold int3 at hi
     split at hi
     ·simp only [Bool.and_eq_true, Bool.not_eq_true'] at hi
      exact hi.2.2.2.2.2.2.2.2.2.2
     ·simp at hi
    unfold eqGuard
    rcases hop with ⟨_, e2⟩ | ⟨_, e2⟩ <;> subst e2 <;> simp [ht]
   rcases hop with ⟨e1, e2⟩ | ⟨e1, e2⟩ <;> subst e1 e2
   ·exact .same hr (y := .bool (decide (a1 = b1) && (decide (a2 = b2) && decide (a3 = b3)))) (by simp [execOp, ho, g1, g3, hg, binOp, hq]) (by simp [VR, DR])
   ·exact .same hr (y := .bool (!(decide (a1 = b1) && (decide (a2 = b2) && decide (a3 = b3))))) (by simp [execOp, ho, g1, g3, hg, binOp, hq]) (by simp [VR, DR])
  split at hc
  ·simp only [Option.some.injEq] at hc; exact key false hc.symm (.inl ⟨rfl, rfl⟩)
  ·simp only [Option.some.injEq] at hc; exact key true hc.symm (.inr ⟨rfl, rfl⟩)
  ·simp at hc
 ·rename_i hu
  exact t_nil hr hρ o hcst 1 op t yt x x' y ho (.inr (.inl ⟨rfl, _, hu⟩)) e1 hc hx
 ·rename_i hu
  exact t_nil hr hρ o hcst 2 op t yt x x' y ho (.inr (.inr (.inl ⟨rfl, _, _, _, hu⟩))) e1 hc hx
 ·rename_i hu
  exact t_nil hr hρ o hcst 3 op t yt x x' y ho (.inr (.inr (.inr ⟨rfl, _, hu⟩))) e1 hc hx
 ·simp at hc
end
end Go.SL
namespace Go.SL
variable {P : Program}
theorem setR_append (a old b new : List Value) (h : new.length = old.length) :
  (new.zipIdx.foldl (fun cs (c, j) => cs.setIfInBounds (a.length + j) c) (⟨a ++ old ++ b⟩ : Array Value)) = ⟨a ++ new ++ b⟩ := by
 suffices hs : ∀ (new pre old : List Value), new.length = old.length →
   ((new.zipIdx pre.length).foldl (fun cs (c, j) => cs.setIfInBounds (a.length + j) c) (⟨a ++ pre ++ old ++ b⟩ : Array Value)) = ⟨a ++ pre ++ new ++ b⟩ by
  have := hs new [] old h
  simpa using this
 intro new
 induction new with
 | nil => intro pre old h; simp at h; have := List.length_eq_zero_iff.1 h.symm; subst this; simp
 | cons x r ih =>
  intro pre old h
  cases old with
  | nil => simp at h
  | cons y old =>
   simp at h
   have e : ((⟨a ++ pre ++ (y :: old) ++ b⟩ : Array Value).setIfInBounds (a.length + pre.length) x) = ⟨a ++ (pre ++ [x]) ++ old ++ b⟩ := by
    apply Array.ext'
    simp
   have := ih (pre ++ [x]) old h
   simp only [List.zipIdx_cons, List.foldl_cons]
   rw [e]
   simpa using this
theorem zipIdx_foldl_array (new : Array Value) (g : Array Value → Value → Nat → Array Value) (init : Array Value) :
  new.zipIdx.foldl (fun cs x => g cs x.1 x.2) init = new.toList.zipIdx.foldl (fun cs x => g cs x.1 x.2) init := by
 rw [← Array.foldl_toList]; simp
theorem fillR_sound {κ : K} {place : Nat → Option (Nat × Nat)} {f : Opd → V} {ρ : Operand → Value} (hρ : ∀ x x', opd x = some x' → VR κ (f x') (ρ x)) :
  ∀ (ps : List (Nat × Operand)) (l : List (Nat × Nat × Opd)) (cs out : List V) (ys : List Value),
   partsOf place ps = some l → VC κ cs ys → fillR f cs l = some out →
   ∃ zs, Instr.fill place ⟨ys⟩ (ps.map fun (i, x) => (i, ρ x)) = some ⟨zs⟩ ∧ VC κ out zs ∧ out.length = cs.length
 | [], l, cs, out, ys, hp, hv, hf => by
  simp only [partsOf, Option.some.injEq] at hp
  subst hp
  simp only [fillR, Option.some.injEq] at hf
  subst hf
  exact ⟨ys, by simp [Instr.fill], hv, rfl⟩
 | (i, x) :: ps, l, cs, out, ys, hp, hv, hf => by
  simp only [partsOf] at hp
  split at hp
  case h_2 => simp at hp
  rename_i off sz y l' e1 e2 e3
  simp only [Option.some.injEq] at hp
  subst hp
  simp only [fillR] at hf
  split at hf
  case h_2 => simp at hf
  rename_i cs' hsz hput
  simp only [Bool.and_eq_true] at hsz
  obtain ⟨hsz, hone⟩ := hsz
  have hsz := Nat.eq_of_beq_eq_true hsz
  have hvc := (hρ x y e2).cells hone
  have hvl := VL.length hvc.1
  simp at hvl
  unfold putR at hput
  split at hput
  case isFalse => simp at hput
  rename_i hle
  have hle := Nat.le_of_ble_eq_true hle
  simp only [Option.some.injEq] at hput
  have hlen := VL.length hv.1
  have hnew : VC κ cs' (ys.take off ++ (ρ x).cells.toList ++ ys.drop (off + (ρ x).cells.size)) := by
   subst hput
   rw [hvl]
   exact ((hv.take off).append hvc).append (hv.drop _)
  obtain ⟨zs, g1, g2, g3⟩ := fillR_sound hρ ps l' cs' out _ e3 hnew hf
  refine ⟨zs, ?_, g2, by rw [g3, ← hput]; simp; omega⟩
  simp only [List.map_cons, Instr.fill, e1]
  have c1 : ¬ ((ρ x).cells.size ≠ sz || decide (off + (ρ x).cells.size > (⟨ys⟩ : Array Value).size)) = true := by
   simp; omega
  rw [if_neg c1]
  have e : ((ρ x).cells.zipIdx.foldl (fun cs (c, j) => cs.setIfInBounds (off + j) c) (⟨ys⟩ : Array Value)) = ⟨ys.take off ++ (ρ x).cells.toList ++ ys.drop (off + (ρ x).cells.size)⟩ := by
   have hz := zipIdx_foldl_array (ρ x).cells (fun cs c j => cs.setIfInBounds (off + j) c) ⟨ys⟩
   have h5 := setR_append (ys.take off) ((ys.drop off).take (ρ x).cells.size) (ys.drop (off + (ρ x).cells.size)) (ρ x).cells.toList (by simp; omega)
   have h6 : ys.take off ++ (ys.drop off).take (ρ x).cells.size ++ ys.drop (off + (ρ x).cells.size) = ys := by
    rw [List.append_assoc, ← List.drop_drop, List.take_append_drop, List.take_append_drop]
   rw [h6] at h5
   have h7 : (ys.take off).length = off := by simp; omega
   rw [h7] at h5
   exact hz.trans h5
  rw [e]
  exact g1
theorem run_places (w : World) : ∀ (fs : List Field), allSz P fs = true →
  (fs.mapM fun fl => (do pure (fl.offset, ← sizeOf fl.type) : Sem (Nat × Nat))).run P w = .ok (fs.map fun fl => (fl.offset, (szOf P fl.type).getD 0)) w
 | [], _ => by simp
 | fl :: fs, h => by
  simp only [allSz, Bool.and_eq_true] at h
  obtain ⟨h1, h2⟩ := h
  cases hs : szOf P fl.type with
  | none => simp [hs] at h1
  | some n =>
   have := run_sizeOf (P := P) hs w
   have ih := run_places w fs h2
   simp only [bind_pure_comp] at ih ⊢
   simp [List.mapM_cons, this, ih, hs]
theorem rep_mod (a : Array Value) (s : Nat) (hs : a.size = s) (h0 : 0 < s) : ∀ n, (List.range (n * s)).map (fun x => a[x % a.size]!) = (List.replicate n a.toList).flatten
 | 0 => by simp
 | n + 1 => by
  rw [Nat.add_mul, Nat.one_mul, Nat.add_comm, List.range_add, List.map_append, List.replicate_succ, List.flatten_cons, ← rep_mod a s hs h0 n]
  congr 1
  ·apply List.ext_getElem?
   intro k
   simp only [List.getElem?_map]
   by_cases hk : k < s
   ·rw [List.getElem?_range hk]
    simp only [Option.map_some]
    rw [hs, Nat.mod_eq_of_lt hk, getElem!_pos a k (by omega)]
    simp [hs, hk]
   ·rw [List.getElem?_eq_none (by simp; omega), List.getElem?_eq_none (by simp; omega)]; rfl
  ·rw [List.map_map]
   apply List.map_congr_left
   intro k _
   simp only [Function.comp]
   rw [hs, Nat.add_mod_left]
section
variable {κ : K} {h : H} {w : World} (hr : Rel κ h w) {ρ : Operand → Value} {f : Opd → V} (hρ : ∀ x x', opd x = some x' → VR κ (f x') (ρ x)) (o : Oper)
include hr hρ
theorem t_build (t : TypeId) (ps : Array (Nat × Operand)) {ao : AO} {v : V} {h' : H} {ob : Bool} (ho : o.op = .build t ps) (hc : cop P o.op = some ao) (hx : xop h f ao = some (v, h', ob)) :
  Told P κ w ((execOp ρ o).run P w) v h' := by
 rw [ho] at hc
 simp only [cop] at hc
 split at hc
 ·rename_i z fs hz hu
  split at hc
  case h_2 => simp at hc
  rename_i l hall hp
  simp only [Option.some.injEq] at hc
  subst hc
  simp only [xop] at hx
  split at hx
  case h_2 => simp at hx
  rename_i cs hf
  simp only [val, Option.some.injEq, Prod.mk.injEq] at hx
  obtain ⟨e1, e2, _⟩ := hx
  subst e1 e2
  obtain ⟨i, zv, h1, h2, h3, h4, h5⟩ := zeroOf_sound hz κ.S
  have hpl : ∀ (ps : List (Nat × Operand)) (l : List (Nat × Nat × Opd)), partsOf (placeOf P fs) ps = some l →
    partsOf ((fs.map fun fl => (fl.offset, (szOf P fl.type).getD 0))[·]?) ps = some l := by
   intro ps
   induction ps with
   | nil => intro l h; simpa [partsOf] using h
   | cons p ps ih =>
    intro l h
    obtain ⟨i, x⟩ := p
    simp only [partsOf] at h ⊢
    split at h
    case h_2 => simp at h
    rename_i off n y l' g1 g2 g3
    obtain ⟨fl, k1, k2, k3⟩ := run_place g1
    have : (fs.map fun fl => (fl.offset, (szOf P fl.type).getD 0))[i]? = some (off, n) := by simp [k1, k2, k3]
    rw [this, g2, ih _ g3]
    exact h
  obtain ⟨zs, g1, g2, _⟩ := fillR_sound hρ ps.toList l (z.map .d) cs zv.cells.toList (hpl _ _ hp) ⟨VL.ofD h4, h5⟩ hf
  refine .same hr (y := .agg ⟨zs⟩) ?_ (VR.mkAgg g2)
  have hrun := run_places (P := P) w fs.toList hall
  have hm : (fs.mapM fun fl => (do pure (fl.offset, ← sizeOf fl.type) : Sem (Nat × Nat))).run P w = .ok (fs.map fun fl => (fl.offset, (szOf P fl.type).getD 0)) w := by
   rw [Array.mapM_eq_mapM_toList]
   simp only [bind_pure_comp] at hrun ⊢
   simp [hrun]
   apply Array.ext'
   simp
  have g1' : Instr.fill (fun x => Option.map (fun fl => (fl.offset, (szOf P fl.type).getD 0)) fs[x]?) zv.cells (ps.toList.map fun x => (x.fst, ρ x.snd)) = some ⟨zs⟩ := by simpa using g1
  simp only [bind_pure_comp] at hm
  simp [execOp, ho, Instr.build, zeroValue, typeInfo, h1, h2, run_underlying hu, hm, g1']
 ·rename_i z _ e hz hu
  split at hc
  case h_2 => simp at hc
  rename_i n hsz
  split at hc
  case h_2 => simp at hc
  rename_i l hp
  simp only [Option.some.injEq] at hc
  subst hc
  simp only [xop] at hx
  split at hx
  case h_2 => simp at hx
  rename_i cs hf
  simp only [val, Option.some.injEq, Prod.mk.injEq] at hx
  obtain ⟨e1, e2, _⟩ := hx
  subst e1 e2
  obtain ⟨i, zv, h1, h2, h3, h4, h5⟩ := zeroOf_sound hz κ.S
  obtain ⟨zs, g1, g2, _⟩ := fillR_sound hρ ps.toList l (z.map .d) cs zv.cells.toList hp ⟨VL.ofD h4, h5⟩ hf
  refine .same hr (y := .agg ⟨zs⟩) ?_ (VR.mkAgg g2)
  have hss := run_sizeOf (P := P) hsz w
  have g1' : Instr.fill (fun i => some (i * n, n)) zv.cells (ps.toList.map fun x => (x.fst, ρ x.snd)) = some ⟨zs⟩ := by simpa using g1
  simp [execOp, ho, Instr.build, zeroValue, typeInfo, h1, h2, run_underlying hu, hss, g1']
 ·simp at hc
omit hr hρ in
theorem groups_sound {sz : Nat} {agg : Bool} (hz : agg = true ∨ sz = 1) : ∀ (n : Nat) (cs : List V) (ys : List Value), VC κ cs ys → cs.length = n * sz → VX κ sz (groups agg sz n cs) ys
 | 0, cs, ys, hv, hl => by
  have h1 : cs = [] := List.length_eq_zero_iff.1 (by simpa using hl)
  subst h1
  have := VL.length hv.1
  simp [groups, VX]
  exact List.length_eq_zero_iff.1 (by simpa using this)
 | n + 1, cs, ys, hv, hl => by
  have hlen := VL.length hv.1
  have h1 : sz ≤ cs.length := by rw [hl, Nat.add_mul]; omega
  have ih := groups_sound hz n (cs.drop sz) (ys.drop sz) (hv.drop sz) (by simp [hl, Nat.add_mul])
  simp only [groups, VX]
  refine ⟨ys.take sz, ys.drop sz, (List.take_append_drop ..).symm, by simp; omega, ?_, ih⟩
  cases agg with
  | true =>
   simp only
   have : (mkAgg (cs.take sz)).cells = cs.take sz := by
    unfold mkAgg
    split
    ·rename_i ds hd
     simp only [V.cells]
     have : ∀ (xs : List V) (ds : List D), closeL xs = some ds → ds.map V.d = xs := by
      intro xs
      induction xs with
      | nil => intro ds h; simp [closeL] at h; subst h; rfl
      | cons x xs ih =>
       intro ds h
       cases x <;> simp [closeL] at h
       split at h
       ·rename_i l hl
        simp at h
        subst h
        simp [ih _ hl]
       ·simp at h
     exact this _ _ hd
    ·rfl
   rw [this]
   exact hv.take sz
  | false =>
   simp only
   rcases hz with hz | hz
   ·simp at hz
   ·subst hz
    cases cs with
    | nil => simp at h1
    | cons c cs =>
     have h2 := hv.take 1
     simp only [List.headD_cons]
     simp at h2
     have h3 : c.cells = [c] := by
      have h4 := h2.1
      simp only [VL] at h4
      obtain ⟨y, r, e, h5, _⟩ := h4
      have h6 := h2.2 y (by rw [e]; simp)
      cases c with
      | agg xs => simp only [VR] at h5; obtain ⟨zs, e2, _⟩ := h5; subst e2; simp [Value.oneCell'] at h6
      | d x =>
       cases x with
       | agg xs => simp only [VR, DR] at h5; obtain ⟨zs, e2, _⟩ := h5; subst e2; simp [Value.oneCell'] at h6
       | _ => rfl
      | _ => rfl
     rw [h3]
     simpa using h2
theorem t_bslice (t : TypeId) (len : Nat) (ps : Array (Nat × Operand)) {ao : AO} {v : V} {h' : H} {ob : Bool} (ho : o.op = .buildSlice t len ps) (hc : cop P o.op = some ao) (hx : xop h f ao = some (v, h', ob)) :
  Told P κ w ((execOp ρ o).run P w) v h' := by
 rw [ho] at hc
 simp only [cop] at hc
 split at hc
 case h_2 => simp at hc
 rename_i e hu
 split at hc
 case h_2 => simp at hc
 rename_i z sz agg hz hsz hagg
 split at hc
 case h_2 => simp at hc
 rename_i l hcond hp
 simp only [Option.some.injEq] at hc
 subst hc
 simp only [Bool.and_eq_true, Bool.or_eq_true] at hcond
 obtain ⟨⟨c1, c2⟩, c3⟩ := hcond
 have c1 := Nat.le_of_ble_eq_true c1
 have c2 : 0 < sz := by simpa [Nat.blt_eq] using c2
 have c3 : agg = true ∨ sz = 1 := c3.imp id Nat.eq_of_beq_eq_true
 simp only [xop] at hx
 split at hx
 case h_2 => simp at hx
 rename_i cs hf
 simp only [Option.some.injEq, Prod.mk.injEq] at hx
 obtain ⟨e1, e2, _⟩ := hx
 subst e1 e2
 obtain ⟨i, zv, h1, h2, h3, h4, h5⟩ := zeroOf_sound hz κ.S
 have hi : i.size = sz := by simp only [szOf, h1, Option.map_some, Option.some.injEq] at hsz; exact hsz
 have hzl : z.length = sz := by have := VL.length (VL.ofD (κ := κ) h4); simp at this; omega
 have hrep : ∀ n, VC κ ((List.replicate n (z.map V.d)).flatten) ((List.replicate n zv.cells.toList).flatten) := by
  intro n
  induction n with
  | zero => exact ⟨by simp [VL], by simp⟩
  | succ n ih => simp only [List.replicate_succ, List.flatten_cons]; exact VC.append ⟨VL.ofD h4, h5⟩ ih
 have hzero : (Array.range (len * sz)).map (fun x => zv.cells[x % zv.cells.size]!) = ⟨(List.replicate len zv.cells.toList).flatten⟩ := by
  have := rep_mod zv.cells sz (by omega) c2 len
  apply Array.ext'
  simpa using this
 obtain ⟨zs, g1, g2, g3⟩ := fillR_sound hρ ps.toList l _ cs _ hp (hrep len) hf
 have hcl : cs.length = len * sz := by rw [g3]; simp [hzl]
 have hgl : (groups agg sz len cs).length = len := by
  have : ∀ n cs, (groups agg sz n cs).length = n := by intro n; induction n with | zero => intro cs; rfl | succ n ih => intro cs; simp [groups, ih]
  exact this len cs
 obtain ⟨κ', k1, k2, k3⟩ := hr.newVec ⟨false, sz, 0, groups agg sz len cs, e⟩ len zs [] rfl c2 (by have := VL.length g2.1; simp; omega) (groups_sound c3 len cs zs g2 hcl) (by simp)
 refine ⟨_, κ', k1, k2, .inl ⟨_, ?_, by simpa [hgl] using k3⟩⟩
 have hs : (sizeOf e).run P w = .ok sz w := run_sizeOf hsz w
 have c4 : ¬ (16777216 < len * sz) := by omega
 have g1' : Instr.fill (fun i => some (i * sz, sz)) ⟨(List.replicate len zv.cells.toList).flatten⟩ (ps.toList.map fun x => (x.fst, ρ x.snd)) = some ⟨zs⟩ := by simpa using g1
 by_cases hl0 : len * sz = 0
 ·have hlen0 : len = 0 := by
   rcases Nat.mul_eq_zero.1 hl0 with h | h
   ·exact h
   ·omega
  subst hlen0
  simp at g1'
  have hz0 : Array.map (fun _ => (default : Value)) (Array.range 0) = ⟨[]⟩ := by simp
  simp [execOp, ho, Instr.buildSlice, run_underlying hu, hs, hz0, g1', newRow]
 ·subst hi
  have hrun := run_buildSlice (P := P) w t e len (ps.map fun x => (x.fst, ρ x.snd)) ⟨zs⟩ i zv hu h1 h2 (by omega) hl0 (by rw [hzero]; simpa using g1')
  simp [execOp, ho, hrun]
end
end Go.SL
namespace Go.SL
variable {P : Program}
theorem opds_sound {κ : K} {f : Opd → V} {ρ : Operand → Value} (hρ : ∀ x x', opd x = some x' → VR κ (f x') (ρ x)) : ∀ {l : List Operand} {l' : List Opd}, opds l = some l' → VL κ (l'.map f) (l.map ρ)
 | [], l', h => by simp [opds] at h; subst h; simp [VL]
 | x :: r, l', h => by
  simp only [opds] at h
  split at h
  ·rename_i y m e1 e2
   simp only [Option.some.injEq] at h
   subst h
   simp only [List.map_cons, VL]
   exact ⟨_, _, rfl, hρ _ _ e1, opds_sound hρ e2⟩
  ·simp at h
section
variable {κ : K} {h : H} {w : World} (hr : Rel κ h w) {ρ : Operand → Value} {f : Opd → V} (hρ : ∀ x x', opd x = some x' → VR κ (f x') (ρ x)) (o : Oper)
include hr hρ
theorem t_mkfn (g : Fn) (a c : Array Operand) {ao : AO} {v : V} {h' : H} {ob : Bool} (ho : o.op = .makeFunc g a c) (hc : cop P o.op = some ao) (hx : xop h f ao = some (v, h', ob)) :
  Told P κ w ((execOp ρ o).run P w) v h' := by
 rw [ho] at hc
 simp only [cop] at hc
 split at hc
 case h_2 => simp at hc
 rename_i a' c' e1 e2
 simp only [Option.some.injEq] at hc
 subst hc
 have h1 := opds_sound hρ e1
 have h2 := opds_sound hρ e2
 have hrun : (execOp ρ o).run P w = .ok (.value (.func g ⟨a.toList.map ρ⟩ ⟨c.toList.map ρ⟩)) w := by
  simp [execOp, ho, Instr.makeFunc]
  constructor <;> (apply Array.ext'; simp)
 simp only [xop] at hx
 split at hx <;> simp only [val, Option.some.injEq, Prod.mk.injEq] at hx <;> obtain ⟨e4, e5, _⟩ := hx <;> subst e4 e5
 ·rename_i a2 c2 g1 g2 _
  exact .same hr hrun (by simp only [VR, DR]; exact ⟨_, _, rfl, DL.ofV g1 h1, DL.ofV g2 h2⟩)
 ·exact .same hr hrun (by simp only [VR]; exact ⟨_, _, rfl, h1, h2⟩)
theorem t_mkif (t : TypeId) (x : Operand) {ao : AO} {v : V} {h' : H} {ob : Bool} (ho : o.op = .makeInterface t x) (hc : cop P o.op = some ao) (hx : xop h f ao = some (v, h', ob)) :
  Told P κ w ((execOp ρ o).run P w) v h' := by
 rw [ho] at hc
 simp only [cop] at hc
 split at hc
 ·simp at hc
 ·rename_i d x' hni e1 e2
  simp only [Option.some.injEq] at hc
  subst hc
  have h1 := hρ _ _ e2
  have hrun : (execOp ρ o).run P w = .ok (.value (.iface t (ρ x))) w := by
   cases d <;> first | (simp [execOp, ho, Instr.makeInterface, run_underlying e1]; done) | (rename_i ms; exact (hni ms rfl).elim)
  simp only [xop] at hx
  generalize f x' = vx at hx h1
  cases vx <;> simp [val] at hx <;> obtain ⟨e4, e5, _⟩ := hx <;> subst e4 e5
  ·refine .same hr hrun ?_
   simp only [VR] at h1
   simp only [VR, DR]
   exact ⟨_, rfl, h1⟩
  all_goals
   refine .same hr hrun ?_
   simp only [VR]
   exact ⟨_, rfl, h1⟩
 ·simp at hc
theorem t_len (c : Call) {ao : AO} {v : V} {h' : H} {ob : Bool} (ho : o.op = .call c) (hl : c.callee = .builtin .len) (hc : cop P o.op = some ao) (hx : xop h f ao = some (v, h', ob)) :
  Told P κ w ((execOp ρ o).run P w) v h' := by
 obtain ⟨ce, args, at_⟩ := c
 simp only at hl
 subst hl
 rw [ho] at hc
 simp only [cop] at hc
 split at hc
 case h_2 => simp at hc
 rename_i x t ea et
 have ea' : args = #[x] := by apply Array.ext'; simpa using ea
 have et' : at_ = #[t] := by apply Array.ext'; simpa using et
 subst ea' et'
 split at hc
 ·rename_i x' e1 e2
  simp only [Option.some.injEq] at hc
  subst hc
  have h1 := hρ _ _ e1
  simp only [xop] at hx
  generalize f x' = vx at hx h1
  cases vx with
  | d dx =>
   cases dx <;> simp [val] at hx
   obtain ⟨e4, e5, _⟩ := hx
   subst e4 e5
   rename_i s _
   simp only [VR, DR] at h1
   exact .same hr (y := .int .i64 s.size) (by simp [execOp, ho, resolve, invoke, builtin, Builtin.len_, run_underlying e2, h1, goInt]) (by simp [VR, DR])
  | _ => simp at hx
 ·rename_i x' e e1 e2
  simp only [Option.some.injEq] at hc
  subst hc
  have h1 := hρ _ _ e1
  simp only [xop] at hx
  generalize f x' = vx at hx h1
  cases vx with
  | d dx =>
   cases dx <;> simp [val] at hx
   obtain ⟨e4, e5, _⟩ := hx
   subst e4 e5
   rename_i nl sz xs _
   simp only [VR, DR] at h1
   rcases h1 with ⟨_, h2, h3⟩ | ⟨_, b, q, c, h3, _⟩
   ·subst h2
    exact .same hr (y := .int .i64 0) (by simp [execOp, ho, resolve, invoke, builtin, Builtin.len_, run_underlying e2, h3, goInt]) (by simp [VR, DR])
   ·exact .same hr (y := .int .i64 xs.length) (by simp [execOp, ho, resolve, invoke, builtin, Builtin.len_, run_underlying e2, h3, goInt]) (by simp [VR, DR])
  | vs i n off len =>
   simp only at hx
   split at hx
   case h_2 => simp at hx
   rename_i hcur
   simp [val] at hx
   obtain ⟨e4, e5, _⟩ := hx
   subst e4 e5
   unfold cur at hcur
   split at hcur
   case h_2 => simp at hcur
   rename_i vc hvc
   have hn := Nat.eq_of_beq_eq_true hcur
   obtain ⟨g1, g2, g3⟩ := hr.vc i _ hvc
   simp only [VR] at h1
   have h3 := (h1.2.2 _ g1).2 hn.symm
   have : ∃ a c, ρ x = .slice a len c := by
    unfold link at h3
    split at h3
    ·exact ⟨none, 0, by rw [h3.1, h3.2.2]⟩
    ·exact ⟨_, _, h3.2⟩
   obtain ⟨a, c, h4⟩ := this
   exact .same hr (y := .int .i64 len) (by simp [execOp, ho, resolve, invoke, builtin, Builtin.len_, run_underlying e2, h4, goInt]) (by simp [VR, DR])
  | _ => simp at hx
 ·simp at hc
theorem t_mks (t : TypeId) (n m : Operand) {ao : AO} {v : V} {h' : H} {ob : Bool} (ho : o.op = .makeSlice t n m) (hc : cop P o.op = some ao) (hx : xop h f ao = some (v, h', ob)) (hob : ob = true) :
  Told P κ w ((execOp ρ o).run P w) v h' := by
 rw [ho] at hc
 simp only [cop] at hc
 split at hc
 case h_2 => simp at hc
 rename_i e n' m' hu e1 e2
 split at hc
 case h_2 => simp at hc
 rename_i z i hso hz hi
 split at hc
 case h_2 => simp at hc
 rename_i hsz hone
 have hsz := Nat.eq_of_beq_eq_true hsz
 simp only [Option.some.injEq] at hc
 subst hc
 have h1 := hρ _ _ e1
 simp only [xop] at hx
 split at hx
 case h_2 => simp at hx
 rename_i k c ex
 rw [ex] at h1
 simp only [VR, DR] at h1
 simp only [Option.some.injEq, Prod.mk.injEq] at hx
 obtain ⟨e4, e5, e6⟩ := hx
 subst e4 e5 e6
 simp only [inI, Bool.and_eq_true, decide_eq_true_eq] at hob
 obtain ⟨⟨b1, b2⟩, b3, b4⟩ := hob
 have h2 : ∃ k2, ρ m = .int k2 c := by
  unfold sameOp at hso
  split at hso
  ·have := Nat.eq_of_beq_eq_true hso
   subst this
   exact ⟨_, h1⟩
  ·rename_i a b
   have hab : a = b := by simpa using hso
   subst hab
   exact ⟨_, h1⟩
  ·simp at hso
 obtain ⟨k2, h2⟩ := h2
 obtain ⟨i', zv, g1, g2, g3, g4, g5⟩ := zeroOf_sound hz κ.S
 rw [hi] at g1
 simp only [Option.some.injEq] at g1
 subst g1
 have hb48 : (i.bytes : Int) * c ≤ 281474976710656 := by rw [Int.mul_comm]; omega
 have hrun := run_make (P := P) w t e i zv hu hi g2 k k2 c c b1 (Int.le_refl _) hb48 b4
 have hzl : zv.cells.toList = [zv.cells.toList.headD undef] ∧ DR κ.S z (zv.cells.toList.headD undef) := by
  simp only [DL] at g4
  obtain ⟨y, l, q1, q2, q3⟩ := g4
  subst q3
  rw [q1]
  exact ⟨rfl, q2⟩
 generalize zv.cells.toList.headD undef = zc at hzl
 obtain ⟨z1, z2⟩ := hzl
 have hcell : zv.cells = #[zc] := by apply Array.ext'; simpa using z1
 have hmade : madeCells zv.cells (c.toNat * i.size) = ⟨List.replicate c.toNat zc ++ []⟩ := by
  rw [hsz, Nat.mul_one, hcell]
  apply Array.ext'
  simp only [madeCells, Array.toList_map, Array.toList_range, List.append_nil]
  apply List.ext_getElem
  ·simp
  ·intro j h1 h2
   simp [Nat.mod_one]
 have hoc : zc.oneCell' = true := g5 zc (by rw [z1]; simp)
 have hvx : ∀ n, VX κ 1 (List.replicate n (V.d z)) (List.replicate n zc) := by
  intro n
  induction n with
  | zero => simp [VX]
  | succ n ih =>
   simp only [List.replicate_succ, VX]
   refine ⟨[zc], _, rfl, rfl, ⟨?_, by simpa using hoc⟩, ih⟩
   have : (V.d z).cells = [V.d z] := by cases z <;> simp_all [V.cells, D.one]
   rw [this]
   simp [VL, VR, z2]
 obtain ⟨κ', k1, k2', k3⟩ := hr.newVec ⟨false, 1, 0, List.replicate c.toNat (.d z), e⟩ c.toNat (List.replicate c.toNat zc) [] rfl (by simp) (by simp) (hvx _) (by simp)
 refine ⟨_, κ', k1, k2', .inl ⟨_, ?_, by simpa using k3⟩⟩
 rw [hmade] at hrun
 simp [execOp, ho, h1, h2, hrun]
theorem t_mx (c : Call) (mn : Bool) {ao : AO} {v : V} {h' : H} {ob : Bool} (ho : o.op = .call c) (hl : c.callee = .builtin (match mn with | true => .min | false => .max)) (hc : cop P o.op = some ao) (hx : xop h f ao = some (v, h', ob)) :
  Told P κ w ((execOp ρ o).run P w) v h' := by
 obtain ⟨ce, args, at_⟩ := c
 simp only at hl
 subst hl
 rw [ho] at hc
 cases mn <;> simp only [cop] at hc <;> split at hc
 case h_2 => simp at hc
 case h_2 => simp at hc
 all_goals
  rename_i x y ea
  have ea' : args = #[x, y] := by apply Array.ext'; simpa using ea
  subst ea'
  split at hc
  case h_2 => simp at hc
  rename_i x' y' e1 e2
  simp only [Option.some.injEq] at hc
  subst hc
  have h1 := hρ _ _ e1
  have h2 := hρ _ _ e2
  simp only [xop] at hx
  split at hx
  case h_2 => simp at hx
  rename_i k a k' b ex ey
  rw [ex] at h1
  rw [ey] at h2
  simp only [VR, DR] at h1 h2
  split at hx
  case h_2 => simp at hx
  rename_i hkk
  have hkk : k = k' := by simpa using hkk
  subst hkk
  simp only [val, Option.some.injEq, Prod.mk.injEq] at hx
  obtain ⟨e4, e5, e6⟩ := hx
  subst e4 e5 e6
 ·exact .same hr (y := .int k (if a < b then b else a)) (by simp [execOp, ho, resolve, invoke, builtin, Builtin.max_, Builtin.max2, h1, h2]) (by simp [VR, DR])
 ·exact .same hr (y := .int k (if b < a then b else a)) (by simp [execOp, ho, resolve, invoke, builtin, Builtin.min_, Builtin.min2, h1, h2]) (by simp [VR, DR])
theorem t_append (c : Call) {ao : AO} {v : V} {h' : H} {ob : Bool} (ho : o.op = .call c) (hl : c.callee = .builtin .append) (hc : cop P o.op = some ao) (hx : xop h f ao = some (v, h', ob)) (hob : ob = true) :
  Told P κ w ((execOp ρ o).run P w) v h' := by
 obtain ⟨ce, args, at_⟩ := c
 simp only at hl
 subst hl
 rw [ho] at hc
 simp only [cop] at hc
 split at hc
 case h_2 => simp at hc
 rename_i x y t u ea et
 have ea' : args = #[x, y] := by apply Array.ext'; simpa using ea
 have et' : at_ = #[t, u] := by apply Array.ext'; simpa using et
 subst ea' et'
 split at hc
 case h_2 => simp at hc
 rename_i x' y' e e1 e2 e3 e4
 split at hc
 case h_2 => simp at hc
 rename_i z i hz hi
 split at hc
 case h_2 => simp at hc
 rename_i hb
 simp only [Option.some.injEq] at hc
 subst hc
 obtain ⟨i', zv, k1, k2, k3, k4, k5⟩ := zeroOf_sound hz κ.S
 have hii : i' = i := by rw [hi] at k1; simpa using k1.symm
 subst hii
 simp only [xop] at hx
 obtain ⟨c', w', κ', g1, g2, g3, g4⟩ := xappend_sound (P := P) (t := t) (tx := u) (ty := o.type) hr e3 e4 hi k2 k3 k5 (by simpa [Nat.blt_eq] using hb) (hρ _ _ e1) (hρ _ _ e2) hx hob
 exact ⟨w', κ', g2, g3, .inl ⟨c', by simp [execOp, ho, resolve, invoke, builtin, g1], g4⟩⟩
theorem t_range (t : TypeId) (x : Operand) {ao : AO} {v : V} {h' : H} {ob : Bool} (ho : o.op = .range t x) (hc : cop P o.op = some ao) (hx : xop h f ao = some (v, h', ob)) :
  Told P κ w ((execOp ρ o).run P w) v h' := by
 rw [ho] at hc
 simp only [cop] at hc
 split at hc
 case h_2 => simp at hc
 rename_i x' e1 e2
 simp only [Option.some.injEq] at hc
 subst hc
 have h1 := hρ _ _ e2
 simp only [xop] at hx
 split at hx
 case h_2 => simp at hx
 rename_i s ex
 simp only [Option.some.injEq, Prod.mk.injEq] at hx
 obtain ⟨e4, e5, _⟩ := hx
 subst e4 e5
 rw [ex] at h1
 simp only [VR, DR] at h1
 obtain ⟨κ', g1, g2, g3⟩ := hr.newBox (.iter s 0) (.stringIter s 0) (.inr (.inl ⟨_, _, rfl, rfl⟩))
 exact ⟨_, κ', g1, g2, .inl ⟨_, by simp [execOp, ho, Instr.range, run_underlying e1, h1], g3⟩⟩
theorem t_next (x : Operand) (s : Bool) {ao : AO} {v : V} {h' : H} {ob : Bool} (ho : o.op = .next x s) (hc : cop P o.op = some ao) (hx : xop h f ao = some (v, h', ob)) :
  Told P κ w ((execOp ρ o).run P w) v h' := by
 rw [ho] at hc
 simp only [cop] at hc
 split at hc
 case h_2 => simp at hc
 rename_i x' e2
 simp only [Option.some.injEq] at hc
 subst hc
 have h1 := hρ _ _ e2
 simp only [xop] at hx
 split at hx
 case h_2 => simp at hx
 rename_i i off ex
 rw [ex] at h1
 simp only [VR] at h1
 split at hx
 case h_2 => simp at hx
 rename_i s pos hb hoff
 have hoff := Nat.eq_of_beq_eq_true hoff
 subst hoff
 obtain ⟨hw, hh⟩ := hr.bx i _ hb
 split at hx
 ·rename_i hp
  simp only [decide_eq_true_eq] at hp
  simp only [Option.some.injEq, Prod.mk.injEq] at hx
  obtain ⟨e4, e5, _⟩ := hx
  subst e4 e5
  refine ⟨{ w with heap := w.heap.setIfInBounds (κ.bl i) (.stringIter s (pos + (Utf8.decode s pos).2)) }, κ, hr.setBox hb (by simp) ?_ rfl rfl rfl (x := .iter s (pos + (Utf8.decode s pos).2)) ?_, Le.refl κ, .inl ⟨.tuple ⟨[.bool true, .int .i64 pos, .int .i32 (Utf8.decode s pos).1]⟩, ?_, ?_⟩⟩
  ·intro b hne
   simp [Ne.symm hne]
  ·refine ⟨hw, ?_⟩
   have := heap_lt hh
   simp [this]
  ·simp [execOp, ho, Instr.next, h1.2, getObj, setObj, Sem.run, hh, hp, goInt]
  ·simp only [VR, DR, DL]
   exact ⟨_, rfl, _, _, rfl, rfl, _, _, rfl, rfl, _, _, rfl, rfl, rfl⟩
 ·rename_i hp
  simp only [decide_eq_false_iff_not] at hp
  simp only [val, Option.some.injEq, Prod.mk.injEq] at hx
  obtain ⟨e4, e5, _⟩ := hx
  subst e4 e5
  refine .same hr (y := .tuple ⟨[.bool false]⟩) ?_ (by simp only [VR, DR, DL]; exact ⟨_, rfl, _, _, rfl, rfl, rfl⟩)
  simp [execOp, ho, Instr.next, h1.2, getObj, Sem.run, hh, hp]
theorem t_tass (x : Operand) (xt t : TypeId) (ok : Bool) {ao : AO} {v : V} {h' : H} {ob : Bool} (ho : o.op = .typeAssert x xt t ok) (hc : cop P o.op = some ao) (hx : xop h f ao = some (v, h', ob)) :
  Told P κ w ((execOp ρ o).run P w) v h' := by
 rw [ho] at hc
 simp only [cop] at hc
 split at hc
 case h_2 => simp at hc
 rename_i d z x' e1 e2 e3
 split at hc
 case h_1 => simp at hc
 rename_i hni
 simp only [Option.some.injEq] at hc
 subst hc
 have h1 := hρ _ _ e3
 obtain ⟨zv, hz1, hz2⟩ : ∃ zv, (zeroValue t).run P w = .ok zv w ∧ DR κ.S z zv := by
  unfold zeroVal at e2
  split at e2
  case h_2 => simp at e2
  rename_i i hi
  split at e2
  case h_2 => simp at e2
  rename_i zv hzv
  exact ⟨zv, by simp [zeroValue, typeInfo, hi, hzv], toD_sound _ _ _ _ e2⟩
 have hnil : ρ x = .nilIface → (execOp ρ o).run P w = .ok (.value (.tuple ⟨[zv, .bool false]⟩)) w := fun e => by
  cases d <;> first | (simp [isIface] at hni; done) | simp [execOp, ho, Instr.typeAssert, run_underlying e1, e, hz1]
 have hif : ∀ t' y, ρ x = .iface t' y → (execOp ρ o).run P w = .ok (.value (if t' = t then .tuple ⟨[y, .bool true]⟩ else .tuple ⟨[zv, .bool false]⟩)) w := fun t' y e => by
  by_cases ht : t' = t <;> cases d <;> first | (simp [isIface] at hni; done) | simp [execOp, ho, Instr.typeAssert, run_underlying e1, e, hz1, ht]
 simp only [xop] at hx
 split at hx
 ·rename_i ex
  rw [ex] at h1
  simp only [VR, DR] at h1
  simp only [val, Option.some.injEq, Prod.mk.injEq] at hx
  obtain ⟨e4, e5, _⟩ := hx
  subst e4 e5
  exact .same hr (hnil h1) (by simp only [VR, DR, DL]; exact ⟨_, rfl, _, _, rfl, hz2, _, _, rfl, rfl, rfl⟩)
 ·rename_i t' y ex
  rw [ex] at h1
  simp only [VR, DR] at h1
  obtain ⟨yv, h2, h3⟩ := h1
  have := hif _ _ h2
  split at hx
  ·rename_i hb
   have hb := Nat.eq_of_beq_eq_true hb
   subst hb
   simp only [val, Option.some.injEq, Prod.mk.injEq] at hx
   obtain ⟨e4, e5, _⟩ := hx
   subst e4 e5
   rw [if_pos rfl] at this
   exact .same hr this (by simp only [VR, DR, DL]; exact ⟨_, rfl, _, _, rfl, h3, _, _, rfl, rfl, rfl⟩)
  ·rename_i hb
   have hb : t' ≠ t := fun e => by subst e; simp at hb
   simp only [val, Option.some.injEq, Prod.mk.injEq] at hx
   obtain ⟨e4, e5, _⟩ := hx
   subst e4 e5
   rw [if_neg hb] at this
   exact .same hr this (by simp only [VR, DR, DL]; exact ⟨_, rfl, _, _, rfl, hz2, _, _, rfl, rfl, rfl⟩)
 ·simp at hx
omit hr hρ in
theorem run_bound {x : Value} {k : IntKind} {i : Int} (hx : x = .int k i) (h0 : 0 ≤ i) {y : Nat} (hl : i ≤ y) (c : BoundsCode) : (Instr.sliceBound x y c).run P w = .ok i.toNat w := by
 subst hx; simp [Instr.sliceBound, asIntOf, h0, hl]
omit hr in
theorem sbnd_sound {dflt : Int} {x : Option Operand} {x' : Option Opd} {l : Int} (hx : opdO x = some x') (hs : sbnd f dflt x' = some l) :
  (x = none ∧ l = dflt) ∨ ∃ y k, x = some y ∧ ρ y = .int k l := by
 cases x with
 | none => simp only [opdO, Option.some.injEq] at hx; subst hx; simp only [sbnd, Option.some.injEq] at hs; exact .inl ⟨rfl, hs.symm⟩
 | some y =>
  simp only [opdO] at hx
  split at hx
  case h_2 => simp at hx
  rename_i y' e
  simp only [Option.some.injEq] at hx
  subst hx
  simp only [sbnd] at hs
  split at hs
  case h_2 => simp at hs
  rename_i k n ey
  simp only [Option.some.injEq] at hs
  subst hs
  have := hρ _ _ e
  rw [ey] at this
  simp only [VR, DR] at this
  exact .inr ⟨y, k, rfl, this⟩
omit hr in
theorem bounds_sound {lo hi : Option Operand} {lo' hi' : Option Opd} (e1 : opdO lo = some lo') (e2 : opdO hi = some hi') {len cap : Nat} {l u : Int} (isS : Bool)
  (s1 : sbnd f 0 lo' = some l) (s2 : sbnd f len hi' = some u) (h0 : 0 ≤ l) (h1 : l ≤ u) (h2 : u ≤ cap) :
  (Instr.sliceBounds isS len cap (lo.map ρ) (hi.map ρ) none).run P w = .ok (l.toNat, u.toNat, cap) w := by
 rcases sbnd_sound hρ e1 s1 with ⟨a1, a2⟩ | ⟨y, k, a1, a2⟩ <;> rcases sbnd_sound hρ e2 s2 with ⟨b1, b2⟩ | ⟨z, k', b1, b2⟩ <;> subst a1 b1
 ·subst a2 b2; simp [Instr.sliceBounds]
 ·subst a2; simp [Instr.sliceBounds, run_bound b2 (by omega) h2]
 ·subst b2; simp [Instr.sliceBounds, run_bound a2 h0 h1]
 ·have : l ≤ (u.toNat : Int) := by omega
  simp [Instr.sliceBounds, run_bound a2 h0 this, run_bound b2 (by omega) h2]
omit hr hρ in
theorem DX.ofDC {S : Sealed} {b : Nat} : ∀ {ds : List D} {o : Nat}, DC S ds b o → ds.all flatD = true → DX S 1 ds b o
 | [], _, _, _ => by simp [DX]
 | d :: ds, o, h, hf => by
  simp only [DC] at h
  simp only [List.all_cons, Bool.and_eq_true] at hf
  have hr := DX.ofDC h.2 hf.2
  cases d <;> simp only [DX] <;> first | exact ⟨⟨trivial, h.1⟩, hr⟩ | (simp [flatD] at hf)
omit hr hρ in
theorem DX.flat {S : Sealed} {b : Nat} : ∀ {ds : List D} {ys : List Value} {o : Nat}, DL S ds ys → (∀ y ∈ ys, y.oneCell' = true) → ds.all flatD = true → (∀ (j : Nat) y, ys[j]? = some y → S b (o + j) = some y) → DX S 1 ds b o
 | [], _, _, _, _, _, _ => by simp [DX]
 | d :: ds, ys, o, h, h1, h2, h3 => by
  simp only [DL] at h
  obtain ⟨y, r, e, g1, g2⟩ := h
  subst e
  simp only [List.all_cons, Bool.and_eq_true] at h2
  have hr : DX S 1 ds b (o + 1) := DX.flat g2 (fun y hy => h1 y (List.mem_cons_of_mem _ hy)) h2.2 fun j y hj => by
   have := h3 (j + 1) y (by simpa using hj)
   rwa [show o + (j + 1) = o + 1 + j by omega] at this
  have hy := h3 0 y (by simp)
  have hf : ∀ cs, d ≠ .agg cs := fun cs e => by rw [e] at h2; simp [flatD] at h2
  cases d <;> simp only [DX] <;> first
   | exact absurd rfl (hf _)
   | exact ⟨⟨trivial, y, by simpa using hy, h1 y (by simp), g1⟩, hr⟩
omit hr hρ in
theorem Rel.sealBox {κ : K} {h : H} {w : World} (r : Rel κ h w) {i : Nat} {cs : List V} {e : TypeId} (hb : h.bx[i]? = some (.cells cs e)) :
  ∃ κ' vs, Rel κ' { h with bx := h.bx.set i .gone } w ∧ Le κ κ' ∧ VC κ' cs vs ∧ ∀ o v, vs[o]? = some v → κ'.S (κ.bl i) o = some v := by
 obtain ⟨g1, vs, g2, g3⟩ := r.bx i _ hb
 have hne : ∀ b, κ.who b ≠ .box i → b ≠ κ.bl i := fun b hb e => hb (e ▸ g1)
 have hS : κ.S.le fun b o => if b = κ.bl i then vs[o]? else κ.S b o := fun b o v hs => by
  have hb' : b ≠ κ.bl i := hne b (by rcases r.own hs with q | q <;> rw [q] <;> simp)
  show (if b = κ.bl i then vs[o]? else κ.S b o) = some v
  rw [if_neg hb']; exact hs
 let κ' : K := { κ with S := fun b o => if b = κ.bl i then vs[o]? else κ.S b o, who := fun b => if b = κ.bl i then .free else κ.who b, gs := fun p hp => DC.mono hS _ _ _ (κ.gs p hp) }
 have hle : Le κ κ' := ⟨hS, Nat.le_refl _, fun _ _ => rfl, Nat.le_refl _, fun _ _ m h => ⟨m, h, Nat.le_refl _, fun _ => rfl⟩, rfl, rfl, rfl, rfl⟩
 have hwho : ∀ b, b ≠ κ.bl i → κ'.who b = κ.who b := fun b hb => if_neg hb
 refine ⟨κ', vs, ⟨fun b o v hs => ?_, fun b o v hs => ?_, by simpa using r.nb, r.nv, fun j x hx => ?_, fun j x hx => ?_, fun b o hs => ?_, r.os, r.out, r.tape⟩, hle, g3.mono hle, fun o v hv => ?_⟩
 ·have hs' : (if b = κ.bl i then vs[o]? else κ.S b o) = some v := hs
  by_cases hbb : b = κ.bl i
  ·subst hbb
   rw [if_pos rfl] at hs'
   have := at_row (w := w) (pre := []) (vs := vs) (post := []) (by simpa using g2)
   simpa using this o v hs'
  ·rw [if_neg hbb] at hs'
   exact r.S b o v hs'
 ·have hs' : (if b = κ.bl i then vs[o]? else κ.S b o) = some v := hs
  show (if b = κ.bl i then Own.free else κ.who b) = .free ∨ κ.kp b = true
  by_cases hbb : b = κ.bl i
  ·exact .inl (if_pos hbb)
  ·rw [if_neg hbb] at hs' ⊢
   exact r.SO b o v hs'
 ·by_cases hj : j = i
  ·subst hj
   rw [List.getElem?_set_self (List.getElem?_eq_some_iff.1 hb).1] at hx
   simp at hx; subst hx; trivial
  ·simp only at hx
   rw [List.getElem?_set_ne (Ne.symm hj)] at hx
   refine (r.bx j x hx).of hle rfl fun o hg ho => ⟨ho, hwho _ (hne _ ?_)⟩
   have := r.bx j x hx
   cases x with
   | cells => rw [this.1]; simp [hj]
   | iter => rw [this.1]; simp [hj]
   | raw => rw [this.1]; simp [hj]
   | gone => exact absurd rfl hg
 ·exact (r.vc j x hx).of hle rfl rfl fun o b c z _ hw ho => ⟨ho, hwho _ (hne _ (by rw [hw]; simp))⟩
 ·have := r.rest b o hs
  exact ⟨by rw [hwho _ (hne _ (by rw [this.1]; simp))]; exact this.1, this.2⟩
 ·show (if κ.bl i = κ.bl i then vs[o]? else κ.S (κ.bl i) o) = some v
  rw [if_pos rfl]; exact hv
theorem t_slice (x : Operand) (t : TypeId) (lo hi mx : Option Operand) {ao : AO} {v : V} {h' : H} {ob : Bool} (ho : o.op = .slice t x lo hi mx) (hc : cop P o.op = some ao) (hx : xop h f ao = some (v, h', ob)) (hob : ob = true) :
  Told P κ w ((execOp ρ o).run P w) v h' := by
 rw [ho] at hc
 simp only [cop] at hc
 split at hc
 ·rename_i x' lo' hi' u1 u2 u3 u4
  simp only [Option.some.injEq] at hc
  subst hc
  have h1 := hρ _ _ u2
  simp only [xop] at hx
  split at hx
  case h_2 => simp at hx
  rename_i s ex
  rw [ex] at h1
  simp only [VR, DR] at h1
  split at hx
  case h_2 => simp at hx
  rename_i l u s1 s2
  simp only [Option.some.injEq, Prod.mk.injEq] at hx
  obtain ⟨e4, e5, e6⟩ := hx
  subst e4 e5 e6
  simp only [Bool.and_eq_true, decide_eq_true_eq] at hob
  have hb := bounds_sound (P := P) (w := w) hρ u3 u4 (cap := s.size) false s1 s2 hob.1.1 hob.1.2 (by omega)
  exact .same hr (y := .string (s.extract l.toNat u.toNat)) (by simp [execOp, ho, Instr.sliceAt, Instr.slice, run_underlying u1, h1, hb]) (by simp [VR, DR])
 ·rename_i e x' lo' hi' u1 u2 u3 u4
  split at hc
  case h_2 => simp at hc
  rename_i sz hsz
  simp only [Option.some.injEq] at hc
  subst hc
  have h1 := hρ _ _ u2
  have hss := run_sizeOf (P := P) hsz w
  have hrun : ∀ a len cap l u, ρ x = .slice a len cap → sbnd f 0 lo' = some l → sbnd f len hi' = some u → 0 ≤ l → l ≤ u → u ≤ cap →
    (execOp ρ o).run P w = .ok (.value (.slice (if cap = l.toNat then a else a.map (·.add (l.toNat * sz))) (u.toNat - l.toNat) (cap - l.toNat))) w := by
   intro a len cap l u hxa s1 s2 h0 h1 h2
   have hb := bounds_sound (P := P) (w := w) hρ u3 u4 (len := len) (cap := cap) true s1 s2 h0 h1 h2
   simp [execOp, ho, Instr.sliceAt, Instr.slice, run_underlying u1, hxa, hb, hss]
  simp only [xop] at hx
  split at hx
  ·rename_i nl sz' xs ex
   rw [ex] at h1
   simp only [VR, DR] at h1
   split at hx
   ·rcases h1 with ⟨h1, _⟩ | ⟨_, b, q, cap, h3, hcap, hd⟩
    ·simp at h1
    split at hx
    case h_2 => simp at hx
    rename_i l u q1 s1 s2
    have q1 := Nat.eq_of_beq_eq_true q1
    subst q1
    simp only [Option.some.injEq, Prod.mk.injEq] at hx
    obtain ⟨e4, e5, e6⟩ := hx
    subst e4 e5 e6
    simp only [Bool.and_eq_true, decide_eq_true_eq] at hob
    obtain ⟨⟨h0, hlu⟩, hu⟩ := hob
    refine .same hr (hrun _ _ _ l u h3 s1 s2 h0 hlu (by omega)) ?_
    have hlen : ((xs.take u.toNat).drop l.toNat).length = u.toNat - l.toNat := by simp; omega
    simp only [VR, DR]
    refine .inr ⟨trivial, ?_⟩
    by_cases hcl : cap = l.toNat
    ·rw [if_pos hcl]
     have : u.toNat - l.toNat = 0 := by omega
     have hnil : (xs.take u.toNat).drop l.toNat = [] := List.length_eq_zero_iff.1 (by omega)
     exact ⟨b, q, cap - l.toNat, by rw [hlen], by rw [hlen]; omega, by rw [hnil]; simp [DX]⟩
    ·rw [if_neg hcl]
     exact ⟨b, q + l.toNat * sz, cap - l.toNat, by rw [hlen]; simp [addr_add], by rw [hlen]; omega, (hd.take u.toNat).drop l.toNat⟩
   ·rcases h1 with ⟨_, h2, h3⟩ | ⟨h1, _⟩
    case inr => simp at h1
    subst h2
    split at hx
    case h_2 => simp at hx
    rename_i l u s1 s2
    simp only [Option.some.injEq, Prod.mk.injEq] at hx
    obtain ⟨e4, e5, e6⟩ := hx
    subst e4 e5 e6
    simp only [Bool.and_eq_true, decide_eq_true_eq] at hob
    obtain ⟨⟨h0, hu⟩, _⟩ := hob
    subst h0 hu
    have := hrun _ _ _ 0 0 h3 s1 (by simpa using s2) (by omega) (by omega) (by omega)
    exact .same hr (y := .slice none 0 0) (by simpa using this) (by simp [VR, DR])
  ·rename_i i n off len ex
   rw [ex] at h1
   split at hx
   case h_2 => simp at hx
   rename_i vc hvc
   split at hx
   case h_2 => simp at hx
   rename_i l u hcond s1 s2
   simp only [Bool.and_eq_true] at hcond
   obtain ⟨⟨q1, q2⟩, q3⟩ := hcond
   have q1 := Nat.eq_of_beq_eq_true q1
   have q2 := Nat.eq_of_beq_eq_true q2
   split at hx
   ·rename_i hlu
    simp only [Bool.and_eq_true, decide_eq_true_eq] at hlu
    obtain ⟨hlu, hl0⟩ := hlu
    simp only [Option.some.injEq, Prod.mk.injEq] at hx
    obtain ⟨e4, e5, e6⟩ := hx
    subst e4 e5 e6
    simp only [Bool.and_eq_true, decide_eq_true_eq] at hob
    obtain ⟨hu, hol⟩ := hob
    obtain ⟨g1, g2, g3⟩ := hr.vc i _ hvc
    simp only [VR] at h1
    obtain ⟨hi', _, h1⟩ := h1
    have h3 := (h1 _ g1).2 q1.symm
    rcases g3 with ⟨h4, _⟩ | ⟨h4, b, cap, vs, sp, fz, g4, _⟩
    ·simp [h4] at q3
    ·simp only [link, g4] at h3
     obtain ⟨h5, h6⟩ := h3
     have hrr := hrun _ _ _ l u h6 s1 s2 (by omega) (by omega) (by omega)
     refine .same hr hrr ?_
     simp only [VR, DR]
     have hz : u.toNat - l.toNat = 0 := by omega
     refine .inr ⟨trivial, ?_⟩
     rw [hz]
     by_cases hcl : cap - off = l.toNat
     ·rw [if_pos hcl]
      exact ⟨_, _, _, rfl, by simp, by simp [DX]⟩
     ·rw [if_neg hcl]
      simp only [Option.map_some, addr_add]
      exact ⟨_, _, _, rfl, by simp, by simp [DX]⟩
   simp only [Option.some.injEq, Prod.mk.injEq] at hx
   obtain ⟨e4, e5, e6⟩ := hx
   subst e4 e5 e6
   simp only [Bool.and_eq_true, Bool.or_eq_true, decide_eq_true_eq] at hob
   obtain ⟨⟨⟨⟨h0, hlu⟩, hu⟩, hol⟩, hor⟩ := hob
   obtain ⟨g1, g2, g3⟩ := hr.vc i _ hvc
   simp only [VR] at h1
   obtain ⟨hi', _, h1⟩ := h1
   have h3 := (h1 _ g1).2 q1.symm
   rcases g3 with ⟨h4, _⟩ | ⟨h4, b, cap, vs, sp, fz, g4, _⟩
   ·simp [h4] at q3
   ·simp only [link, g4] at h3
    obtain ⟨h5, h6⟩ := h3
    have hrr := hrun _ _ _ l u h6 s1 s2 h0 hlu (by omega)
    refine .same hr hrr ?_
    simp only [VR]
    refine ⟨hi', by simp [Value.oneCell'], fun m hm => ?_⟩
    rw [g1] at hm
    simp only [Option.some.injEq] at hm
    subst hm
    refine ⟨by omega, fun _ => ?_⟩
    simp only [link, g4]
    refine ⟨by omega, ?_⟩
    by_cases hcl : cap - off = l.toNat
    ·have hl0 : l = 0 := by rcases hor with h | h <;> omega
     subst hl0
     simp [Addr.add]
    ·rw [if_neg hcl]
     simp only [Option.map_some, addr_add, q2, Nat.add_mul]
     congr 1
     omega
  ·simp at hx
 ·rename_i n e x' u1 u2 u3 u4
  split at hc
  case h_2 => simp at hc
  rename_i hsz
  simp only [Option.some.injEq] at hc
  subst hc
  have h1 := hρ _ _ u2
  have hss := run_sizeOf (P := P) hsz w
  have ho1 : ∀ {z : Option Operand}, opdO z = some none → z = none := fun {z} h => by
   cases z with
   | none => rfl
   | some z => simp only [opdO] at h; split at h <;> simp at h
  have elo := ho1 u3
  have ehi := ho1 u4
  subst elo ehi
  simp only [xop] at hx
  split at hx
  case h_3 => simp at hx
  case h_2 =>
   rename_i cs ex
   rw [ex] at h1
   simp only [VR, DR] at h1
   obtain ⟨b, q, h3, hd⟩ := h1
   split at hx
   case h_2 => simp at hx
   rename_i hn hfl
   simp only [val, Option.some.injEq, Prod.mk.injEq] at hx
   obtain ⟨e4, e5, e6⟩ := hx
   subst e4 e5 e6
   simp only [Bool.and_eq_true] at hn
   have hn1 := Nat.eq_of_beq_eq_true hn.1
   have hn2 : 0 < n := by have := hn.2; rw [Nat.blt_eq] at this; exact this
   refine .same hr (y := .slice (some ⟨b, q, none⟩) n n) ?_ ?_
   ·simp [execOp, ho, Instr.sliceAt, run_underlying u1, h3, Instr.sureAddr, Instr.sliceBounds, hss, Addr.add]
   ·simp only [VR, DR]
    exact .inr ⟨trivial, b, q, n, by rw [hn1], by omega, DX.ofDC hd hfl⟩
  rename_i i off ex
  rw [ex] at h1
  simp only [VR] at h1
  split at hx
  case h_2 => simp at hx
  rename_i cs ty hb hoff
  have hoff := Nat.eq_of_beq_eq_true hoff
  subst hoff
  split at hx
  case h_2 => simp at hx
  rename_i ds hcl hn
  simp only [Bool.and_eq_true] at hn
  have hn1 := Nat.eq_of_beq_eq_true hn.1
  have hn2 : 0 < n := by have := hn.2; rw [Nat.blt_eq] at this; exact this
  split at hx
  case h_2 => simp at hx
  rename_i hfl
  simp only [Option.some.injEq, Prod.mk.injEq] at hx
  obtain ⟨e4, e5, e6⟩ := hx
  subst e4 e5
  obtain ⟨κ', vs, r1, l1, hv, hS⟩ := hr.sealBox hb
  have hdl := DL.ofV hcl hv.1
  have hlen : vs.length = n := by rw [VL.length hv.1, hn1]
  have hdlen : ds.length = n := by
   have : ∀ {ds : List D} {ys : List Value}, DL κ'.S ds ys → ds.length = ys.length := by
    intro ds
    induction ds with
    | nil => intro ys h; simp only [DL] at h; subst h; rfl
    | cons d ds ih => intro ys h; simp only [DL] at h; obtain ⟨y, t, e, _, h2⟩ := h; subst e; simp [ih h2]
   rw [this hdl, hlen]
  refine ⟨w, κ', r1, l1, .inl ⟨.slice (some ⟨κ.bl i, 0, none⟩) n n, ?_, ?_⟩⟩
  ·have hnz : ¬ n = 0 := by omega
   simp [execOp, ho, Instr.sliceAt, run_underlying u1, h1.2, Instr.sureAddr, Instr.sliceBounds, hss, Addr.add]
  ·simp only [VR, DR]
   exact .inr ⟨trivial, κ.bl i, 0, n, by rw [hdlen], by rw [hdlen]; exact Nat.le_refl _, DX.flat hdl hv.2 hfl fun j y hj => by rw [Nat.zero_add]; exact hS j y hj⟩
 ·simp at hc
omit hr hρ in
theorem usd_none (ts : Array TypeId) (ty : TypeId) : (Builtin.unsafeSliceData_ ts ty #[.slice none 0 0]).run P w = .ok (.pointer none) w := rfl
omit hr hρ in
theorem usd_some (ts : Array TypeId) (ty : TypeId) (a : Addr) (n c : Nat) (hc : c ≠ 0) : (Builtin.unsafeSliceData_ ts ty #[.slice (some a) n c]).run P w = .ok (.pointer (some a)) w := by
 have hdef : Builtin.unsafeSliceData_ ts ty #[.slice (some a) n c] =
   (do
    if c ≠ 0 then pure (.pointer (some a))
    else if (← viewAt a.block).isSome then pure (.pointer (some a))
    else pure (.pointer (some ⟨← newObj (.view a (← elemOf ty)), 0, none⟩))) := rfl
 rw [hdef, if_pos hc]
 rfl
theorem t_usd (c : Call) {ao : AO} {v : V} {h' : H} {ob : Bool} (ho : o.op = .call c) (hl : c.callee = .builtin .unsafeSliceData) (hc : cop P o.op = some ao) (hx : xop h f ao = some (v, h', ob)) (hob : ob = true) :
  Told P κ w ((execOp ρ o).run P w) v h' := by
 obtain ⟨ce, args, at_⟩ := c
 simp only at hl
 subst hl
 rw [ho] at hc
 simp only [cop] at hc
 split at hc
 case h_2 => simp at hc
 rename_i x ea
 have ea' : args = #[x] := by apply Array.ext'; simpa using ea
 subst ea'
 split at hc
 case h_2 => simp at hc
 rename_i x' e1
 simp only [Option.some.injEq] at hc
 subst hc
 have h1 := hρ _ _ e1
 simp only [xop] at hx
 split at hx
 ·rename_i i n off len ex
  rw [ex] at h1
  split at hx
  case h_2 => simp at hx
  rename_i vc hvc
  split at hx
  case h_2 => simp at hx
  rename_i hq
  simp only [Bool.and_eq_true] at hq
  obtain ⟨q1, q2⟩ := hq
  have q1 := Nat.eq_of_beq_eq_true q1
  have q2 := Nat.eq_of_beq_eq_true q2
  subst q2
  obtain ⟨g1, g2, g3⟩ := hr.vc i _ hvc
  simp only [VR] at h1
  obtain ⟨hi', _, h1⟩ := h1
  have h3 := (h1 _ g1).2 q1.symm
  rcases g3 with ⟨h4, _, h5⟩ | ⟨h4, b, cap, vs, sp, fz, g4, g5, g6, g7, g8, _⟩
  ·rw [h4] at hx
   simp only [val, Option.some.injEq, Prod.mk.injEq] at hx
   obtain ⟨e4, e5, e6⟩ := hx
   subst e4 e5 e6
   simp only [link, h5] at h3
   exact .same hr (y := .pointer none) (by simp [execOp, ho, resolve, invoke, builtin, usd_none, h3.1]) (by simp [VR, DR])
  ·rw [h4] at hx
   simp only [Option.some.injEq, Prod.mk.injEq] at hx
   obtain ⟨e4, e5, e6⟩ := hx
   subst e4 e5 e6
   simp only [Bool.and_eq_true, decide_eq_true_eq] at hob
   simp only [link, g4] at h3
   obtain ⟨h6, h7⟩ := h3
   have hcap : cap ≠ 0 := by
    have := g8.length
    intro h0
    have h9 : vs.length + sp.length = 0 := by rw [g7, h0, Nat.zero_mul]
    have h10 : 0 < vc.xs.length * vc.sz := Nat.mul_pos (by omega) g2
    omega
   refine .same hr (y := .pointer (some ⟨b, 0, none⟩)) (by simp [execOp, ho, resolve, invoke, builtin, usd_some _ _ _ _ _ hcap, h7]) ?_
   simp only [VR]
   refine ⟨hi', by simp [Value.oneCell'], fun m hm => ?_⟩
   rw [g1] at hm
   simp only [Option.some.injEq] at hm
   subst hm
   exact ⟨by omega, fun _ => by simp [plink, g4]⟩
 ·rename_i nl sz xs ex
  rw [ex] at h1
  split at hx
  case h_2 => simp at hx
  simp only [val, Option.some.injEq, Prod.mk.injEq] at hx
  obtain ⟨e4, e5, e6⟩ := hx
  subst e4 e5 e6
  simp only [VR, DR] at h1
  rcases h1 with ⟨_, _, h1⟩ | ⟨h1, _⟩
  ·exact .same hr (y := .pointer none) (by simp [execOp, ho, resolve, invoke, builtin, usd_none, h1]) (by simp [VR, DR])
  ·simp at h1
 ·simp at hx
omit hr hρ in
theorem byteL_get : ∀ {ns : List Int} (_ : byteL ns = true) (j : Nat) (n : Int), ns[j]? = some n → 0 ≤ n ∧ n < 256
 | [], _, j, n, e => by simp at e
 | a :: r, h, j, n, e => by
  simp only [byteL, Bool.and_eq_true, decide_eq_true_eq] at h
  cases j with
  | zero => simp at e; subst e; exact h.1
  | succ j => exact byteL_get h.2 j n (by simpa using e)
theorem t_ustr (c : Call) {ao : AO} {v : V} {h' : H} {ob : Bool} (ho : o.op = .call c) (hl : c.callee = .builtin .unsafeString) (hc : cop P o.op = some ao) (hx : xop h f ao = some (v, h', ob)) (hob : ob = true) :
  Told P κ w ((execOp ρ o).run P w) v h' := by
 obtain ⟨ce, args, at_⟩ := c
 simp only at hl
 subst hl
 rw [ho] at hc
 simp only [cop] at hc
 split at hc
 case h_2 => simp at hc
 rename_i x y pt it ea et
 have ea' : args = #[x, y] := by apply Array.ext'; simpa using ea
 have et' : at_ = #[pt, it] := by apply Array.ext'; simpa using et
 subst ea' et'
 split at hc
 case h_2 => simp at hc
 rename_i x' n' e e1 e2 e3
 split at hc
 case h_2 => simp at hc
 rename_i hce
 have hce := Nat.eq_of_beq_eq_true hce
 simp only [Option.some.injEq] at hc
 subst hc
 have h1 := hρ _ _ e1
 have h2 := hρ _ _ e2
 simp only [xop] at hx
 split at hx
 ·rename_i i m k off len ex en
  rw [ex] at h1
  rw [en] at h2
  simp only [VR, DR] at h2
  split at hx
  case h_2 => simp at hx
  rename_i vc hvc
  split at hx
  case h_2 => simp at hx
  rename_i hq
  simp only [Bool.and_eq_true] at hq
  obtain ⟨⟨⟨⟨⟨q1, q2⟩, q3⟩, q4⟩, q5⟩, q6⟩ := hq
  have q1 := Nat.eq_of_beq_eq_true q1
  have q2 := Nat.eq_of_beq_eq_true q2
  have q3 := Nat.eq_of_beq_eq_true q3
  have q4 := Nat.eq_of_beq_eq_true q4
  have q5 := Nat.eq_of_beq_eq_true q5
  subst q2 q3
  split at hx
  case h_2 => simp at hx
  rename_i ns hns
  simp only [Option.some.injEq, Prod.mk.injEq] at hx
  obtain ⟨e4, e5, e6⟩ := hx
  subst e4 e5 e6
  simp only [Bool.and_eq_true, decide_eq_true_eq, inI] at hob
  obtain ⟨⟨⟨o1, o2⟩, o3⟩, o4, o5⟩ := hob
  obtain ⟨g1, g2, g3⟩ := hr.vc i _ hvc
  simp only [VR] at h1
  obtain ⟨hi', _, h1⟩ := h1
  have h3 := (h1 _ g1).2 q1.symm
  rcases g3 with ⟨h4, _, h5⟩ | ⟨h4, b, cap, vs, sp, fz, g4, g5, g6, g7, g8, g9, g10⟩
  ·simp [h4] at q6
  simp only [plink, g4] at h3
  simp only [Nat.zero_mul, Nat.add_zero] at h3
  have hcells := intsV_sound hns (q4 ▸ g8.take len.toNat)
  rw [q4] at g7 g8
  simp only [Nat.mul_one] at hcells g7
  have hvl := g8.length
  simp only [Nat.mul_one] at hvl
  have hnl : ns.length = len.toNat := by
   have := congrArg List.length hcells
   simp at this
   omega
  obtain ⟨l, hl⟩ : ∃ l : List UInt8, l = ns.map fun n => UInt8.ofNat n.toNat := ⟨_, rfl⟩
  have hll : l.length = len.toNat := by rw [hl]; simpa using hnl
  have hlen : (l.length : Int) = len := by omega
  have hrun := Lib.run_unsafeString_row (P := P) (w := w) (ty := o.type) pt it e e3 hce b (vs.length + sp.length) (by simp [World.shape?, g6, q5]) l
   (by intro h0; rw [h0] at hll; simp at hll; omega) (by omega) (by omega) (fun j x hj => by
    rw [hl, List.getElem?_map] at hj
    cases hnj : ns[j]? with
    | none => rw [hnj] at hj; simp at hj
    | some n =>
     rw [hnj] at hj
     simp only [Option.map_some, Option.some.injEq] at hj
     obtain ⟨b1, b2⟩ := byteL_get o3 j n hnj
     have hvj : vs[j]? = some (.int .u8 n) := by
      have hj' : j < len.toNat := by have := (List.getElem?_eq_some_iff.1 hnj).1; omega
      have : (vs.take len.toNat)[j]? = some (.int .u8 n) := by rw [hcells]; simp [hnj]
      rwa [List.getElem?_take_of_lt hj'] at this
     have hxn : (x.toNat : Int) = n := by
      rw [← hj]
      simp
      omega
     have hjl : j < vs.length := (List.getElem?_eq_some_iff.1 hvj).1
     have hadd : (⟨b, 0, none⟩ : Addr).add j = ⟨b, j, none⟩ := by
      unfold Addr.add
      by_cases h0 : j = 0
      ·subst h0; simp
      ·simp [h0]
     rw [hadd, hxn, ← hvj]
     simp [World.cell?, g6, List.getElem?_append_left hjl])
  have hne : ¬ l.length = 0 := by omega
  have hw : (w.freeze ⟨b, 0, none⟩ l.length).heap[b]? = some (.cells ⟨vs ++ sp⟩ vc.e (if fz.1 == fz.2 then (0, 0 + l.length) else (min fz.1 0, max fz.2 (0 + l.length)))) := by
   unfold World.freeze
   rw [if_neg hne]
   simp [Array.getElem?_modify, g6]
  have hrun' : (execOp ρ o).run P w = .ok (.value (.string ⟨l.toArray⟩)) (w.freeze ⟨b, 0, none⟩ l.length) := by
   rw [hlen] at hrun
   simp [execOp, ho, resolve, invoke, builtin, h3, h2, hrun]
  obtain ⟨κ', k1, k2, _⟩ := hr.vecIn (w' := w.freeze ⟨b, 0, none⟩ l.length) hvc (v := { vc with fz := max vc.fz len.toNat }) (b := b) (cap := cap) (by rw [g4]) g5
   (fun c hc => by unfold World.freeze; rw [if_neg hne]; simp [Array.getElem?_modify, Ne.symm hc]) (by unfold World.freeze; rw [if_neg hne]) (by unfold World.freeze; rw [if_neg hne]) (by unfold World.freeze; rw [if_neg hne])
   h4 g2 (Nat.le_refl _) (vs := vs) (sp := sp) (fz := if fz.1 == fz.2 then (0, 0 + l.length) else (min fz.1 0, max fz.2 (0 + l.length))) (by simpa using hw) (by simp only [q4]; omega) (by simp only [q4]; exact g8) (by
    show (if fz.1 == fz.2 then ((0, 0 + l.length) : Nat × Nat) else (min fz.1 0, max fz.2 (0 + l.length))).2 ≤ max vc.fz len.toNat
    split
    ·show 0 + l.length ≤ _; omega
    ·show max fz.2 (0 + l.length) ≤ _; omega) g10
  refine ⟨_, κ', k1, k2, .inl ⟨_, hrun', ?_⟩⟩
  simp only [VR, DR, bytesI, hl]
 ·rename_i len ex en
  rw [ex] at h1
  rw [en] at h2
  simp only [VR, DR] at h1 h2
  simp only [Option.some.injEq, Prod.mk.injEq] at hx
  obtain ⟨e4, e5, e6⟩ := hx
  subst e4 e5 e6
  simp only [decide_eq_true_eq] at hob
  subst hob
  refine .same hr (y := .string ⟨#[]⟩) ?_ (by simp [VR, DR])
  have := Lib.run_unsafeString_none (P := P) (w := w) pt it o.type none
  simp [execOp, ho, resolve, invoke, builtin, h1, h2, this]
  rfl
 ·simp at hx
theorem xop_sound (hcst : ∀ d, f (.cst d) = .d d) {ao : AO} {v : V} {h' : H} {ob : Bool} (hc : cop P o.op = some ao) (hx : xop h f ao = some (v, h', ob)) (hob : ob = true) :
  Told P κ w ((execOp ρ o).run P w) v h' := by
 cases ho : o.op with
 | move x => exact t_move hr hρ o x (.inl ho) hc hx
 | assign x => exact t_move hr hρ o x (.inr ho) hc hx
 | pick c a b => exact t_pick hr hρ o c a b ho hc hx
 | alloc e => exact t_alloc hr o e ho hc hx
 | box e x => exact t_box hr hρ o e x ho hc hx
 | build t ps => exact t_build hr hρ o t ps ho hc hx
 | buildSlice t l ps => exact t_bslice hr hρ o t l ps ho hc hx
 | load t x => exact t_load hr hρ o t x ho hc hx
 | store t x y => exact t_store hr hρ o t x y ho hc hx
 | nilCheck x => exact t_nilc hr hρ o x ho hc hx
 | fieldAddr s x i => exact t_faddr hr hρ o s x i ho hc hx
 | indexAddr t x i => exact t_iaddr hr hρ o t x i ho hc hx hob
 | index t x i => exact t_index hr hρ o t x i ho hc hx hob
 | field t x i => exact t_field hr hρ o t x i ho hc hx
 | extract x i => exact t_extract hr hρ o x i ho hc hx
 | binOp op t x y yt => exact t_bin hr hρ o hcst op t yt x y ho hc hx hob
 | unOp op t x => exact t_not hr hρ o t x op ho hc hx hob
 | convert s d x => exact t_conv hr hρ o s d x ho hc hx hob
 | makeInterface t x => exact t_mkif hr hρ o t x ho hc hx
 | makeSlice t n m => exact t_mks hr hρ o t n m ho hc hx hob
 | makeFunc g a c => exact t_mkfn hr hρ o g a c ho hc hx
 | typeAssert x xt t ok => exact t_tass hr hρ o x xt t ok ho hc hx
 | slice t x lo hi mx => exact t_slice hr hρ o x t lo hi mx ho hc hx hob
 | range t x => exact t_range hr hρ o t x ho hc hx
 | next x s => exact t_next hr hρ o x s ho hc hx
 | call c =>
  cases hce : c.callee with
  | builtin b =>
   cases b with
   | len => exact t_len hr hρ o c ho hce hc hx
   | append => exact t_append hr hρ o c ho hce hc hx hob
   | max => exact t_mx hr hρ o c false ho hce hc hx
   | min => exact t_mx hr hρ o c true ho hce hc hx
   | unsafeSliceData => exact t_usd hr hρ o c ho hce hc hx hob
   | unsafeString => exact t_ustr hr hρ o c ho hce hc hx hob
   | _ => rw [ho] at hc; simp only [cop, hce] at hc; simp at hc
  | value g => rw [ho] at hc; simp only [cop, hce] at hc; simp at hc
  | invoke g m => rw [ho] at hc; simp only [cop, hce] at hc; simp at hc
 | _ => rw [ho] at hc; simp [cop] at hc
end
end Go.SL
namespace Go.SL
inductive AOp where
 | o (a : AO)
 | call (f : Opd) (args : List Opd)
 | panic (x : Opd)
 | defer (f : Opd) (args : List Opd)
structure AI where
 ix : Nat
 dst : Option Nat
 op : AOp
 guard : Option (Nat × Bool)
 kill : List Nat
inductive AC where
 | skip
 | reg (l : List AI)
 | regD (ords : List (List AI))
 | regT (t : Nat → List AI) (i : Nat)
 | seq (a b : AC)
 | cond (c : Opd) (a b : AC)
 | block (id : Nat) (b : AC)
 | loop (b : AC)
 | exit (id : Nat)
 | scope (b : AC)
 | label (l : Nat)
 | goto (l : Nat)
 | rangeF (f : Opd) (ps : List Nat) (a b : AC)
 | ret
 | no
inductive AItem where
 | code (c : AC)
 | blk (id : Nat)
 | lp (b : AC)
 | scp (b : AC)
 | reg (l : List AI)
 | regD (done : List AI) (l : List AI)
 | begin
def copA (P : Program) : Op → Option AOp
 | .call c => match c.callee with
  | .value g => match opd g, opds c.args.toList with
   | some g, some l => some (.call g l)
   | _, _ => none
  | _ => match cop P (.call c) with
   | some a => some (.o a)
   | none => none
 | .panic x => match opd x with
  | some x => some (.panic x)
  | none => none
 | .defer c => match c.callee with
  | .value g => match opd g, opds c.args.toList with
   | some g, some l => some (.defer g l)
   | _, _ => none
  | _ => none
 | o => match cop P o with
  | some a => some (.o a)
  | none => none
def cAI (P : Program) (N : Nat) (ops : Array Oper) (ix : Nat) (kill : List Nat) : Option AI :=
 match ops[ix]? with
 | none => none
 | some o =>
  match copA P o.op, (match o.dst with | none => true | some d => Nat.blt d N) with
  | some a, true => match o.guard with
   | none => some ⟨ix, o.dst, a, none, kill⟩
   | some (j, want) => match (ops[j]?).bind (·.dst) with
    | some t => match Nat.blt t N with
     | true => some ⟨ix, o.dst, a, some (t, want), kill⟩
     | false => none
    | none => none
  | _, _ => none
def cAIs (P : Program) (N : Nat) (ops : Array Oper) : List (Nat × List Nat) → Option (List AI)
 | [] => some []
 | (ix, kill) :: r => match cAI P N ops ix kill, cAIs P N ops r with
  | some a, some l => some (a :: l)
  | _, _ => none
def cOrds (P : Program) (N : Nat) (ops : Array Oper) : List (List (Nat × List Nat)) → Option (List (List AI))
 | [] => some []
 | o :: r => match cAIs P N ops o, cOrds P N ops r with
  | some a, some l => some (a :: l)
  | _, _ => none
abbrev Ann := Nat → List (List (Nat × List Nat))
def comp (P : Program) (N : Nat) (ann : Ann) (chk : Array Oper → List (List AI) → Bool) : Code → Option AC
 | .skip => some .skip
 | .region id ops draw => match draw with
  | false => match ann id with
   | [ord] => match decide (ord.map (·.1) = List.range ops.size), cAIs P N ops ord with
    | true, some l => some (.reg l)
    | _, _ => none
   | _ => none
  | true => match cOrds P N ops (ann id) with
   | some ls => match chk ops ls with
    | true => some (.regD ls)
    | false => none
   | none => none
 | .seq a b => match comp P N ann chk a, comp P N ann chk b with
  | some a, some b => some (.seq a b)
  | _, _ => none
 | .cond c a b => match opd c, comp P N ann chk a, comp P N ann chk b with
  | some c, some a, some b => some (.cond c a b)
  | _, _, _ => none
 | .block id b => match comp P N ann chk b with
  | some b => some (.block id b)
  | none => none
 | .loop b => match comp P N ann chk b with
  | some b => some (.loop b)
  | none => none
 | .exit id => some (.exit id)
 | .scope b => match comp P N ann chk b with
  | some b => some (.scope b)
  | none => none
 | .label l => some (.label l)
 | .goto l => some (.goto l)
 | .ret => some .ret
 | .refuse _ => some .no
 | .rangeFunc f ps a b => match opd f, comp P N ann chk a, comp P N ann chk b, ps.toList.all fun t => Nat.blt t N with
  | some f, some a, some b, true => some (.rangeF f ps.toList a b)
  | _, _, _, _ => none
def aexit (id : Nat) : List AItem → Option (List AItem)
 | .blk id' :: k => match Nat.beq id' id with
  | true => some k
  | false => aexit id k
 | _ :: k => aexit id k
 | [] => none
def alabel : AC → Nat → Option AC
 | .seq a b, l => match alabel a l with
  | some rest => some (.seq rest b)
  | none => alabel b l
 | .label l', l => match Nat.beq l' l with
  | true => some .skip
  | false => none
 | _, _ => none
def agoto (l : Nat) : List AItem → Option (List AItem)
 | .scp b :: k => match alabel b l with
  | some rest => some (.code rest :: .scp b :: k)
  | none => agoto l k
 | _ :: k => agoto l k
 | [] => none
section
variable (P : Program) (N : Nat) (chk : Array Oper → List (List AI) → Bool)
def RG (ops : Array Oper) : List Nat → List AI → Prop
 | [], l => l = []
 | i :: r, l => ∃ kill a t, cAI P N ops i kill = some a ∧ l = a :: t ∧ RG ops r t
def CI : Item → AItem → Prop
 | .code c, .code a => ∃ ann, comp P N ann chk c = some a
 | .inBlock id, .blk id' => id = id'
 | .inLoop c, .lp a => ∃ ann, comp P N ann chk c = some a
 | .inScope c, .scp a => ∃ ann, comp P N ann chk c = some a
 | .inRegion ops l, .reg al => RG P N ops l al
 | .beginRound, .begin => True
 | _, _ => False
def CS : List Item → List AItem → Prop
 | [], ks => ks = []
 | x :: k, ks => ∃ y t, ks = y :: t ∧ CI P N chk x y ∧ CS k t
def ER (κ : K) (env : Env) (tmps : Array Value) : Prop := N ≤ tmps.size ∧ ∀ t, VR κ (get env t) (tmps.getD t undef)
inductive Out where
 | ret (v : V)
 | pan (v : V)
def OutR (κ : K) : Out → Ending → Prop
 | .ret v, e => ∃ x, e = .returned x ∧ VR κ v x
 | .pan v, e => ∃ x, e = .panicked [{ v := x, recovered := false }] ∧ VR κ v x
inductive DV where
 | no
 | one (g : V) (ags : List V)
 | col (r : Nat) (d : DV)
def DV.plain : DV → Bool
 | .no => true
 | .one _ _ => false
 | .col _ d => d.plain
def DV.nocol : DV → Bool
 | .col _ _ => false
 | _ => true
def DV.base : DV → DV
 | .col _ d => d.base
 | d => d
theorem DV.base_eq {d : DV} (h : d.nocol = true) : d.base = d := by cases d <;> first | rfl | simp [DV.nocol] at h
structure FD where
 fn : FuncId
 kind : CallKind
 dv : DV
 keep : Env
 rnd : Option Nat
@[reducible] def FD.of (f : FuncId) : FD := ⟨f, .normal, .no, [], none⟩
instance : Coe FuncId FD := ⟨FD.of⟩
instance (n : Nat) : OfNat FD n := ⟨FD.of n⟩
def FD.pln (f : FD) : Bool := f.dv.plain && f.dv.nocol && f.rnd.isNone
def DefR (κ : K) : DV → List Deferred → Prop
 | .no, ds => ds = []
 | .col r d, ds => ∃ ds', ds = { target := .collected r, args := #[] } :: ds' ∧ DefR κ d ds'
 | .one v ags, ds => ∃ d gv argv, ds = [d] ∧ Deferred.ofValue gv argv = pure d ∧ VR κ v gv ∧ VL κ ags argv.toList
def KeepR (κ : K) (keep : Env) (tmps : Array Value) : Prop := ∀ p ∈ keep, VR κ p.2 (tmps.getD p.1 undef)
def jmpV : Option Code → Value
 | none => .bool true
 | some (.exit id) => .int .i64 id
 | _ => .bool false
def LeftBy : Option Code → List Item → Prop
 | none, k => k = []
 | some .ret, k => ∃ k', k = .code .ret :: k'
 | some (.exit id), k => ∃ k', k = .code (.exit id) :: k' ∧ exitTo id k' = none
 | _, _ => False
def FD.leave (f : FD) (κ : K) (fr : Frame) (w : World) : Ending → Prop
 | .returned v => match f.rnd with
  | none => fr.mode = .returning ∧ DefR κ f.dv.base fr.defers ∧ fr.kind = f.kind ∧ ∃ fn, P.funcs[fr.fn]? = some fn ∧ (match f.dv.plain with
   | true => (results fn fr.tmps).run P w = .ok v w
   | false => KeepR κ f.keep fr.tmps)
  | some l => fr.mode = .run ∧ fr.defers = [] ∧ fr.roundOf = some l ∧ fr.kind = f.kind ∧ ∃ j, v = jmpV j ∧ LeftBy j fr.todo
 | .panicked chain => fr.mode = .panicking chain ∧ (f.dv.nocol = true → DefR κ f.dv fr.defers) ∧ (∃ fn, P.funcs[fr.fn]? = some fn) ∧ fr.kind = f.kind ∧ KeepR κ f.keep fr.tmps
 | .outgrown => True
def subE (e : Env) : Env → Prop
 | [] => True
 | (t, v) :: r => get e t = v ∧ subE e r
def Ends (f : FD) (m : Machine) (cs : List Frame) (κ : K) (Q : Out → H → Prop) : Prop :=
 ∃ e w' fr κ' h' out, Q out h' ∧ Le κ κ' ∧ Rel κ' h' w' ∧ OutR κ' out e ∧ Comes P m (lone fr cs w') e ∧ fr.fn = f.fn ∧ f.leave P κ' fr w' e
def baseOf (f : FD) : Frame := { (default : Frame) with fn := f.fn, kind := f.kind, roundOf := f.rnd }
def AT (f : FD) (ks : List AItem) (env : Env) (h : H) (Q : Out → H → Prop) : Prop :=
 ∀ (κ : K) (w : World) (a : Act) (k : List Item) (cs : List Frame), CS P N chk k ks → Rel κ h w → ER N κ env a.tmps → DefR κ f.dv a.defers →
  Ends P f (lone ((baseOf f).atR a k) cs w) cs κ Q
end
section
variable {P : Program} {N : Nat} {chk : Array Oper → List (List AI) → Bool}
theorem DefR.mono {κ κ' : K} (l : Le κ κ') : ∀ {dv : DV} {ds : List Deferred}, DefR κ dv ds → DefR κ' dv ds
 | .no, _, h => h
 | .col _ _, _, ⟨ds', e, h⟩ => ⟨ds', e, DefR.mono l h⟩
 | .one _ _, _, ⟨d, gv, argv, e, e2, h1, h2⟩ => ⟨d, gv, argv, e, e2, h1.mono l, h2.mono l⟩
theorem DefR.put {κ κ' : K} (l : Le κ κ') {dv : DV} {a : Act} (h : DefR κ dv a.defers) (d : Option Nat) (x : Value) : DefR κ' dv (a.put d x).defers := by
 have : (a.put d x).defers = a.defers := by cases d <;> rfl
 rw [this]; exact h.mono l
theorem KeepR.of {κ : K} {env : Env} {tmps : Array Value} (h : ER N κ env tmps) : ∀ {keep : Env}, subE env keep → KeepR κ keep tmps
 | [], _ => fun p hp => by simp at hp
 | (t, v) :: r, hk => fun p hp => by
  rcases List.mem_cons.1 hp with e | hp
  ·subst e
   have := h.2 t
   rw [hk.1] at this
   exact this
  ·exact KeepR.of h hk.2 p hp
theorem KeepR.mono {κ κ' : K} (l : Le κ κ') {keep : Env} {tmps : Array Value} (h : KeepR κ keep tmps) : KeepR κ' keep tmps := fun p hp => (h p hp).mono l
theorem Ends.of_steps {f : FD} {m m' : Machine} {cs : List Frame} {κ : K} {Q : Out → H → Prop} (s : Steps P m m') (h : Ends P f m' cs κ Q) : Ends P f m cs κ Q := by
 obtain ⟨e, w', fr, κ', h', out, h1, h2, h3, h4, h5, h6⟩ := h
 exact ⟨e, w', fr, κ', h', out, h1, h2, h3, h4, h5.of_steps s, h6⟩
theorem Ends.le {f : FD} {m : Machine} {cs : List Frame} {κ κ1 : K} {Q : Out → H → Prop} (l : Le κ κ1) (h : Ends P f m cs κ1 Q) : Ends P f m cs κ Q := by
 obtain ⟨e, w', fr, κ', h', out, h1, h2, h3⟩ := h
 exact ⟨e, w', fr, κ', h', out, h1, l.trans h2, h3⟩
theorem AT.mono {f : FD} {ks : List AItem} {env : Env} {h : H} {Q Q' : Out → H → Prop} (hq : ∀ o h, Q o h → Q' o h) (hh : AT P N chk f ks env h Q) : AT P N chk f ks env h Q' := by
 intro κ w a k cs h1 h2 h3 h4
 obtain ⟨e, w', fr, κ', h', out, g1, g2⟩ := hh κ w a k cs h1 h2 h3 h4
 exact ⟨e, w', fr, κ', h', out, hq _ _ g1, g2⟩
theorem beq_ne {a b : Nat} (h : a ≠ b) : Nat.beq a b = false := by
 cases hb : Nat.beq a b with
 | false => rfl
 | true => exact absurd (Nat.eq_of_beq_eq_true hb) h
theorem get_del : ∀ (env : Env) (t k : Nat), get (del env t) k = if k = t then .dead else get env k
 | [], t, k => by simp [get, del]
 | (j, v) :: r, t, k => by
  have ih := get_del r t k
  simp only [del]
  by_cases hj : j = t
  ·subst hj
   rw [Nat.beq_refl]
   simp only [ih, get]
   by_cases hk : k = j
   ·simp [hk]
   ·have : Nat.beq j k = false := beq_ne fun h => hk h.symm
    simp [hk, this]
  ·have : Nat.beq j t = false := beq_ne hj
   rw [this]
   simp only [get, ih]
   by_cases hk : k = t
   ·subst hk; simp [this]
   ·simp [hk]
theorem get_dels : ∀ (l : List Nat) (env : Env) (k : Nat), get (dels env l) k = .dead ∨ get (dels env l) k = get env k
 | [], env, k => .inr rfl
 | t :: r, env, k => by
  simp only [dels]
  rcases get_dels r (del env t) k with h | h
  ·exact .inl h
  ·rw [h, get_del]; split
   ·exact .inl rfl
   ·exact .inr rfl
theorem ER.dels {κ : K} {env : Env} {tmps : Array Value} (h : ER N κ env tmps) (l : List Nat) : ER N κ (dels env l) tmps := by
 refine ⟨h.1, fun t => ?_⟩
 rcases get_dels l env t with e | e
 ·rw [e]; simp [VR]
 ·rw [e]; exact h.2 t
theorem ER.mono {κ κ' : K} (l : Le κ κ') {env : Env} {tmps : Array Value} (h : ER N κ env tmps) : ER N κ' env tmps := ⟨h.1, fun t => (h.2 t).mono l⟩
theorem ER.put {κ : K} {env : Env} {tmps : Array Value} (h : ER N κ env tmps) {d : Nat} (hd : d < N) {x : V} {v : Value} (hx : VR κ x v) :
  ER N κ (put env (some d) x) (tmps.setIfInBounds d v) := by
 refine ⟨by simpa using h.1, fun t => ?_⟩
 have hlt : d < tmps.size := Nat.lt_of_lt_of_le hd h.1
 simp only [SL.put, get]
 by_cases ht : d = t
 ·subst ht
  rw [Nat.beq_refl]
  simp [Array.getD, hlt]
  exact hx
 ·have : Nat.beq d t = false := beq_ne ht
  rw [this]
  simp only [get_del, if_neg (Ne.symm ht)]
  have := h.2 t
  simp only [Array.getD_eq_getD_getElem?, Array.getElem?_setIfInBounds_ne ht] at this ⊢
  exact this
theorem ER.putO {κ : K} {env : Env} {a : Act} (h : ER N κ env a.tmps) {d : Option Nat} (hd : ∀ k, d = some k → k < N) {x : V} {v : Value} (hx : VR κ x v) :
  ER N κ (SL.put env d x) (a.put d v).tmps := by
 cases d with
 | none => exact h
 | some d => exact h.put (hd d rfl) hx
theorem ev_sound {κ : K} {env : Env} {a : Act} (h : ER N κ env a.tmps) : ∀ x x', opd x = some x' → VR κ (ev env x') (a.eval x) := by
 intro x x' e
 cases x with
 | tmp t => simp only [opd, Option.some.injEq] at e; subst e; exact h.2 t
 | const v =>
  simp only [opd] at e
  split at e
  ·rename_i d hd
   simp only [Option.some.injEq] at e
   subst e
   simp only [ev, VR, Act.eval]
   exact toD_sound _ _ _ _ hd
  ·simp at e
 | global g =>
  simp only [opd] at e
  split at e
  ·rename_i c hc
   simp only [Option.some.injEq] at e
   subst e
   simp only [ev, VR, DR, Act.eval]
   exact ⟨g, 0, rfl, κ.gs _ (gcell_mem hc)⟩
  ·simp at e
 | func g =>
  simp only [opd, Option.some.injEq] at e
  subst e
  simp only [ev, VR, DR, Act.eval]
  exact ⟨[], [], rfl, rfl, rfl⟩
end
end Go.SL
namespace Go.SL
def step1 (go : Bool) : List AItem → Env → H → Option (List AItem × Env × H × Bool)
 | .code .skip :: k, env, h => some (k, env, h, true)
 | .code (.label _) :: k, env, h => some (k, env, h, true)
 | .blk _ :: k, env, h => some (k, env, h, true)
 | .scp _ :: k, env, h => some (k, env, h, true)
 | .code (.seq a b) :: k, env, h => some (.code a :: .code b :: k, env, h, true)
 | .code (.cond c a b) :: k, env, h => match ev env c with
  | .d (.bool t) => match t with
   | true => some (.code a :: k, env, h, true)
   | false => some (.code b :: k, env, h, true)
  | _ => none
 | .code (.block id b) :: k, env, h => some (.code b :: .blk id :: k, env, h, true)
 | .code (.scope b) :: k, env, h => some (.code b :: .scp b :: k, env, h, true)
 | .code (.exit id) :: k, env, h => match aexit id k with
  | some k' => some (k', env, h, true)
  | none => none
 | .code (.goto l) :: k, env, h => match go with
  | true => match agoto l k with
   | some k' => some (k', env, h, true)
   | none => none
  | false => none
 | .code (.loop b) :: k, env, h => match go with
  | true => some (.code b :: .lp b :: k, env, h, true)
  | false => none
 | .lp b :: k, env, h => match go with
  | true => some (.code b :: .lp b :: k, env, h, true)
  | false => none
 | .code (.reg l) :: k, env, h => some (.reg l :: k, env, h, true)
 | .reg [] :: k, env, h => some (k, env, h, true)
 | .reg (i :: r) :: k, env, h => match i.guard with
  | none => match i.op with
   | .o a => match xop h (ev env) a with
    | some (v, h', ob) => some (.reg r :: k, put (dels env i.kill) i.dst v, h', ob)
    | none => none
   | _ => none
  | some (t, want) => match get env t with
   | .d (.bool b) => match b == want with
    | true => match i.op with
     | .o a => match xop h (ev env) a with
      | some (v, h', ob) => some (.reg r :: k, put (dels env i.kill) i.dst v, h', ob)
      | none => none
     | _ => none
    | false => some (.reg r :: k, put (dels env i.kill) i.dst skp, h, true)
   | .d (.tup []) => some (.reg r :: k, put (dels env i.kill) i.dst skp, h, true)
   | _ => none
 | _, _, _ => none
section
variable {P : Program} {N : Nat} {chk : Array Oper → List (List AI) → Bool}
theorem CS.exit {id : Nat} : ∀ {k : List Item} {ks ks' : List AItem}, CS P N chk k ks → aexit id ks = some ks' → ∃ k', exitTo id k = some k' ∧ CS P N chk k' ks'
  | [], ks, ks', h, e => by simp only [CS] at h; subst h; simp [aexit] at e
  | x :: k, ks, ks', h, e => by
    obtain ⟨y, t, e1, h1, h2⟩ := h
    subst e1
    cases x <;> cases y <;> simp only [CI] at h1 <;> simp only [aexit] at e <;> simp only [exitTo]
    all_goals first
      | exact CS.exit h2 e
      | (subst h1
         rename_i id'
         split at e
         · rename_i hb
           have := Nat.eq_of_beq_eq_true hb
           subst this
           simp only [Option.some.injEq] at e
           subst e
           exact ⟨k, by simp, h2⟩
         · rename_i hb
           have hne : ¬ id' = id := fun e' => by subst e'; simp at hb
           obtain ⟨k', g1, g2⟩ := CS.exit h2 e
           exact ⟨k', by simp [hne, g1], g2⟩)
theorem comp_label {ann : Ann} : ∀ {c : Code} {a : AC} {l : Nat}, comp P N ann chk c = some a →
  (alabel a l = none → findLabel c l = none) ∧ ∀ r, alabel a l = some r → ∃ rest, findLabel c l = some rest ∧ comp P N ann chk rest = some r := by
 intro c
 induction c with
 | seq x y ihx ihy =>
  intro a l h
  simp only [comp] at h
  split at h
  case h_2 => simp at h
  rename_i a' b' h1 h2
  simp only [Option.some.injEq] at h
  subst h
  obtain ⟨x1, x2⟩ := ihx (l := l) h1
  obtain ⟨y1, y2⟩ := ihy (l := l) h2
  simp only [alabel, findLabel]
  cases hx : alabel a' l with
  | none =>
   simp only [x1 hx]
   exact ⟨y1, y2⟩
  | some rest =>
   simp only
   obtain ⟨rest', g1, g2⟩ := x2 rest hx
   refine ⟨by simp, fun r e => ?_⟩
   simp only [Option.some.injEq] at e
   subst e
   exact ⟨.seq rest' y, by simp [g1], by simp [comp, g2, h2]⟩
 | label l' =>
  intro a l h
  simp only [comp, Option.some.injEq] at h
  subst h
  simp only [alabel, findLabel]
  by_cases hl : l' = l
  ·subst hl
   rw [Nat.beq_refl]
   simp only [beq_self_eq_true, if_true]
   exact ⟨by simp, fun r e => ⟨.skip, rfl, by simp only [Option.some.injEq] at e; subst e; simp [comp]⟩⟩
  ·rw [beq_ne hl]
   simp [hl]
 | _ =>
  intro a l h
  simp only [comp] at h
  all_goals
   first
    | (simp only [Option.some.injEq] at h; subst h; exact ⟨fun _ => rfl, fun r e => by simp [alabel] at e⟩)
    | (simp at h; done)
    | ((repeat' split at h) <;> first
      | (simp at h; done)
      | (simp only [Option.some.injEq] at h; subst h; exact ⟨fun _ => rfl, fun r e => by simp [alabel] at e⟩))
theorem CS.goto {l : Nat} : ∀ {k : List Item} {ks ks' : List AItem}, CS P N chk k ks → agoto l ks = some ks' → ∃ k', gotoIn l k = some k' ∧ CS P N chk k' ks'
  | [], ks, ks', h, e => by simp only [CS] at h; subst h; simp [agoto] at e
  | x :: k, ks, ks', h, e => by
    obtain ⟨y, t, e1, h1, h2⟩ := h
    subst e1
    cases x <;> cases y <;> simp only [CI] at h1 <;> simp only [agoto] at e <;> simp only [gotoIn]
    all_goals first
      | exact CS.goto h2 e
      | (obtain ⟨ann, hc⟩ := h1
         rename_i c b
         obtain ⟨q1, q2⟩ := comp_label (l := l) hc
         cases hb : alabel b l with
         | none =>
           rw [hb] at e
           rw [q1 hb]
           exact CS.goto h2 e
         | some r =>
           rw [hb] at e
           simp only [Option.some.injEq] at e
           subst e
           obtain ⟨rest, g1, g2⟩ := q2 r hb
           rw [g1]
           exact ⟨_, rfl, .code r, _, rfl, ⟨ann, g2⟩, .scp b, t, rfl, ⟨ann, hc⟩, h2⟩)
theorem cAI_inv {ops : Array Oper} {i : Nat} {kill : List Nat} {ai : AI} (h : cAI P N ops i kill = some ai) : ∃ o, ops[i]? = some o ∧ ai.ix = i ∧ ai.dst = o.dst ∧ ai.kill = kill ∧ copA P o.op = some ai.op ∧
  (∀ d, o.dst = some d → d < N) ∧ ((o.guard = none ∧ ai.guard = none) ∨ ∃ j want t, o.guard = some (j, want) ∧ ai.guard = some (t, want) ∧ (ops[j]?).bind (·.dst) = some t ∧ t < N) := by
 unfold cAI at h
 split at h
 ·simp at h
 ·rename_i o ho
  split at h
  case h_2 => simp at h
  rename_i a hop hd
  have hd' : ∀ d, o.dst = some d → d < N := fun d e => by rw [e] at hd; simpa [Nat.blt_eq] using hd
  split at h
  ·rename_i hg
   simp only [Option.some.injEq] at h
   subst h
   exact ⟨o, ho, rfl, rfl, rfl, hop, hd', .inl ⟨hg, rfl⟩⟩
  ·rename_i j want hg
   split at h
   case h_2 => simp at h
   rename_i t ht
   split at h
   case h_2 => simp at h
   rename_i hb
   simp only [Option.some.injEq] at h
   subst h
   exact ⟨o, ho, rfl, rfl, rfl, hop, hd', .inr ⟨j, want, t, hg, rfl, ht, by simpa [Nat.blt_eq] using hb⟩⟩
theorem stepG_opn {b : Frame} {a : Act} {k : List Item} {cs : List Frame} {w : World} {ops : Array Oper} {i : Nat} {rest : List Nat} {o : Oper} (ho : ops[i]? = some o) (hw : Region.wanted o (yielded ops a.tmps) = true) (hnd : ∀ c, o.op ≠ .defer c) :
  stepG P true { frame := b.atR a (.inRegion ops (i :: rest) :: k), callers := cs, status := .running, dying := none } w =
   stepG.apply P true (b.atR a (.inRegion ops (i :: rest) :: k)) cs none (execOp a.eval o) w := by
 rw [stepGR_op ho hw, Oper.semAt_eq _ _ _ hnd]
theorem step_op_value {b : Frame} {a : Act} {k : List Item} {cs : List Frame} {w w' : World} {ops : Array Oper} {i : Nat} {rest : List Nat} {o : Oper} {r : Result Next} {v : Value}
  (ho : ops[i]? = some o) (hw : Region.wanted o (yielded ops a.tmps) = true) (hnd : ∀ c, o.op ≠ .defer c) (hr : (execOp a.eval o).run P w = r) (hv : r = .ok (.value v) w' ∨ (r = .ok .skip w' ∧ v = undef)) :
  step P (lone (b.atR a (.inRegion ops (i :: rest) :: k)) cs w) = .next (lone (b.atR (a.put o.dst v) (.inRegion ops rest :: k)) cs w') := by
 have hg := stepG_opn (P := P) (b := b) (k := k) (cs := cs) (w := w) (rest := rest) ho hw hnd
 have hfin : ∀ v, (b.atR a (.inRegion ops (i :: rest) :: k)).finish v = b.atR (a.put o.dst v) (.inRegion ops rest :: k) := by
  intro v; rw [Frame.finish_atR, ho]; rfl
 rcases hv with hv | ⟨hv, e⟩
 ·subst hv
  exact step_lone_go (by rw [hg, ← hfin]; simp [stepG.apply, hr])
 ·subst hv e
  exact step_lone_go (by rw [hg, ← hfin]; simp [stepG.apply, hr])
theorem wanted_of {κ : K} {env : Env} {a : Act} {ops : Array Oper} {o : Oper} (he : ER N κ env a.tmps) {j t : Nat} {want b : Bool}
  (hg : o.guard = some (j, want)) (ht : (ops[j]?).bind (·.dst) = some t) (hN : t < N) (hv : get env t = .d (.bool b)) : Region.wanted o (yielded ops a.tmps) = (b == want) := by
 have h1 := he.2 t
 rw [hv] at h1
 simp only [VR, DR] at h1
 have hlt : t < a.tmps.size := Nat.lt_of_lt_of_le hN he.1
 have h2 : a.tmps[t]? = some (.bool b) := by
  simp only [Array.getD_eq_getD_getElem?] at h1
  rw [Array.getElem?_eq_getElem hlt] at h1 ⊢
  simpa using h1
 simp [Region.wanted, hg, yielded, ht, h2]
theorem wanted_skp {κ : K} {env : Env} {a : Act} {ops : Array Oper} {o : Oper} (he : ER N κ env a.tmps) {j t : Nat} {want : Bool}
  (hg : o.guard = some (j, want)) (ht : (ops[j]?).bind (·.dst) = some t) (hN : t < N) (hv : get env t = skp) : Region.wanted o (yielded ops a.tmps) = false := by
 have h1 := he.2 t
 rw [hv] at h1
 simp only [VR, DR] at h1
 have hlt : t < a.tmps.size := Nat.lt_of_lt_of_le hN he.1
 obtain ⟨ys, e, _⟩ := h1
 have h2 : a.tmps[t]? = some (.tuple ⟨ys⟩) := by
  simp only [Array.getD_eq_getD_getElem?] at e
  rw [Array.getElem?_eq_getElem hlt] at e ⊢
  simpa using e
 simp [Region.wanted, hg, yielded, ht, h2]
theorem skp_undef {κ : K} : VR κ skp undef := by simp only [VR, DR]; exact ⟨[], rfl, by simp [DL]⟩
theorem copA_o {op : Op} {a0 : AO} (h : copA P op = some (.o a0)) : cop P op = some a0 := by
  cases op <;> simp only [copA] at h
  all_goals first
    | (split at h <;> simp only [Option.some.injEq, AOp.o.injEq, reduceCtorEq] at h; subst h; assumption)
    | (split at h <;> simp at h; done)
    | (split at h
       · split at h <;> simp at h
       · split at h <;> simp only [Option.some.injEq, AOp.o.injEq, reduceCtorEq] at h; subst h; assumption)
    | ((repeat' split at h) <;> simp at h; done)
theorem cop_nd {op : Op} {a0 : AO} (h : cop P op = some a0) : ∀ c, op ≠ .defer c := fun c e => by subst e; simp [cop] at h
theorem AT.step {f : FD} {go ob : Bool} {ks ks' : List AItem} {env env' : Env} {h h' : H} {Q : Out → H → Prop} (hs : step1 go ks env h = some (ks', env', h', ob)) (hob : ob = true)
  (hk : AT P N chk f ks' env' h' Q) : AT P N chk f ks env h Q := by
 intro κ w a k cs hcs hr he hd
 cases ks with
 | nil => simp [step1] at hs
 | cons top ks =>
  cases k with
  | nil => simp [CS] at hcs
  | cons x k =>
   obtain ⟨y, t, e1, h1, h2⟩ := hcs
   simp only [List.cons.injEq] at e1
   obtain ⟨e1, e2⟩ := e1
   subst e1 e2
   cases x with
   | inBlock id =>
    cases top <;> simp only [CI] at h1
    simp only [step1, Option.some.injEq, Prod.mk.injEq] at hs
    obtain ⟨g1, g2, g3, _⟩ := hs
    subst g1 g2 g3
    exact Ends.of_steps (.one stepR_inBlock) (hk κ w a k cs h2 hr he hd)
   | inScope c =>
    cases top <;> simp only [CI] at h1
    simp only [step1, Option.some.injEq, Prod.mk.injEq] at hs
    obtain ⟨g1, g2, g3, _⟩ := hs
    subst g1 g2 g3
    refine Ends.of_steps (.one ?_) (hk κ w a k cs h2 hr he hd)
    exact step_lone_go (by simp [stepG, stepG.exec, Frame.atR])
   | inLoop c =>
    cases top <;> simp only [CI] at h1
    simp only [step1] at hs
    split at hs
    case h_2 => simp at hs
    simp only [Option.some.injEq, Prod.mk.injEq] at hs
    obtain ⟨g1, g2, g3, _⟩ := hs
    subst g1 g2 g3
    exact Ends.of_steps (.one stepR_inLoop) (hk κ w a _ cs ⟨_, _, rfl, h1, _, _, rfl, h1, h2⟩ hr he hd)
   | inRegion ops l =>
    cases top <;> simp only [CI] at h1
    rename_i al
    cases l with
    | nil =>
     simp only [RG] at h1
     subst h1
     simp only [step1, Option.some.injEq, Prod.mk.injEq] at hs
     obtain ⟨g1, g2, g3, _⟩ := hs
     subst g1 g2 g3
     exact Ends.of_steps (.one stepR_region_end) (hk κ w a k cs h2 hr he hd)
    | cons i rest =>
     obtain ⟨kill, ai, tl, c1, c2, c3⟩ := h1
     subst c2
     obtain ⟨o, o1, o2, o3, o4, o5, o6, o7⟩ := cAI_inv c1
     have hop : ∀ a0, ai.op = .o a0 → cop P o.op = some a0 := by
      intro a0 e
      exact copA_o (by rw [o5, e])
     have run : ∀ {a0 : AO} {v : V} {h0 : H} {ob : Bool}, ai.op = .o a0 → xop h (ev env) a0 = some (v, h0, ob) → ob = true → Region.wanted o (yielded ops a.tmps) = true →
       AT P N chk f (.reg tl :: ks) (put (dels env ai.kill) ai.dst v) h0 Q → Ends P f (lone ((baseOf f).atR a (.inRegion ops (i :: rest) :: k)) cs w) cs κ Q := by
      intro a0 v h0 ob e hx hob hw hk
      obtain ⟨w', κ', r1, r2, r3⟩ := xop_sound hr (ev_sound he) o (fun d => rfl) (hop a0 e) hx hob
      have hst : ∀ y, ((execOp a.eval o).run P w = .ok (.value y) w' ∨ ((execOp a.eval o).run P w = .ok .skip w' ∧ y = undef)) → VR κ' v y → Ends P f (lone ((baseOf f).atR a (.inRegion ops (i :: rest) :: k)) cs w) cs κ Q := by
       intro y hy hv
       refine Ends.of_steps (.one (step_op_value o1 hw (cop_nd (hop a0 e)) rfl hy)) (Ends.le r2 (hk κ' w' _ _ cs ⟨_, _, rfl, c3, h2⟩ r1 ?_ ?_))
       ·rw [o3]
        exact ((he.mono r2).dels ai.kill).putO o6 hv
       ·exact hd.put r2 _ _
      rcases r3 with ⟨y, r3, r4⟩ | ⟨r3, r4⟩
      ·exact hst y (.inl r3) r4
      ·exact hst undef (.inr ⟨r3, rfl⟩) (by rw [r4]; simp [VR])
     simp only [step1] at hs
     split at hs
     ·rename_i hg
      split at hs
      case h_2 => simp at hs
      rename_i a0 e
      split at hs
      case h_2 => simp at hs
      rename_i v h0 ob' hx
      simp only [Option.some.injEq, Prod.mk.injEq] at hs
      obtain ⟨g1, g2, g3, g4⟩ := hs
      subst g1 g2 g3 g4
      refine run e hx hob ?_ hk
      rcases o7 with ⟨o7, _⟩ | ⟨j, want, t, _, o7, _⟩
      ·simp [Region.wanted, o7]
      ·rw [hg] at o7; simp at o7
     ·rename_i t want hg
      split at hs
      case h_3 => simp at hs
      case h_2 =>
       rename_i hv
       have hwant : Region.wanted o (yielded ops a.tmps) = false := by
        rcases o7 with ⟨_, o7⟩ | ⟨j, want', t', o7, o8, o9, o10⟩
        ·rw [hg] at o7; simp at o7
        ·rw [hg] at o8
         simp only [Option.some.injEq, Prod.mk.injEq] at o8
         obtain ⟨e1, e2⟩ := o8
         subst e1 e2
         exact wanted_skp he o7 o9 o10 hv
       simp only [Option.some.injEq, Prod.mk.injEq] at hs
       obtain ⟨g1, g2, g3, g4⟩ := hs
       subst g1 g2 g3
       have hst := stepR_op_skip (P := P) (b := baseOf f) (a := a) (k := k) (cs := cs) (w := w) (ops := ops) (i := i) (rest := rest) (by simp [o1, hwant])
       simp only [o1, Option.bind_some] at hst
       refine Ends.of_steps (.one hst) (hk κ w _ _ cs ⟨_, _, rfl, c3, h2⟩ hr ?_ ?_)
       ·rw [o3]
        exact (he.dels ai.kill).putO o6 skp_undef
       ·exact hd.put (Le.refl κ) _ _
      rename_i bv hv
      have hwant : Region.wanted o (yielded ops a.tmps) = (bv == want) := by
       rcases o7 with ⟨_, o7⟩ | ⟨j, want', t', o7, o8, o9, o10⟩
       ·rw [hg] at o7; simp at o7
       ·rw [hg] at o8
        simp only [Option.some.injEq, Prod.mk.injEq] at o8
        obtain ⟨e1, e2⟩ := o8
        subst e1 e2
        exact wanted_of he o7 o9 o10 hv
      split at hs
      ·rename_i hbw
       split at hs
       case h_2 => simp at hs
       rename_i a0 e
       split at hs
       case h_2 => simp at hs
       rename_i v h0 ob' hx
       simp only [Option.some.injEq, Prod.mk.injEq] at hs
       obtain ⟨g1, g2, g3, g4⟩ := hs
       subst g1 g2 g3 g4
       exact run e hx hob (by rw [hwant]; exact hbw) hk
      ·rename_i hbw
       simp only [Option.some.injEq, Prod.mk.injEq] at hs
       obtain ⟨g1, g2, g3, g4⟩ := hs
       subst g1 g2 g3
       have hst := stepR_op_skip (P := P) (b := baseOf f) (a := a) (k := k) (cs := cs) (w := w) (ops := ops) (i := i) (rest := rest) (by simp [o1, hwant, hbw])
       simp only [o1, Option.bind_some] at hst
       refine Ends.of_steps (.one hst) (hk κ w _ _ cs ⟨_, _, rfl, c3, h2⟩ hr ?_ ?_)
       ·rw [o3]
        exact (he.dels ai.kill).putO o6 skp_undef
       ·exact hd.put (Le.refl κ) _ _
   | code c =>
    cases top <;> simp only [CI] at h1
    rename_i ac
    obtain ⟨ann, hc⟩ := h1
    cases c with
    | skip =>
     simp only [comp, Option.some.injEq] at hc
     subst hc
     simp only [step1, Option.some.injEq, Prod.mk.injEq] at hs
     obtain ⟨g1, g2, g3, _⟩ := hs
     subst g1 g2 g3
     exact Ends.of_steps (.one stepR_skip) (hk κ w a k cs h2 hr he hd)
    | label l =>
     simp only [comp, Option.some.injEq] at hc
     subst hc
     simp only [step1, Option.some.injEq, Prod.mk.injEq] at hs
     obtain ⟨g1, g2, g3, _⟩ := hs
     subst g1 g2 g3
     exact Ends.of_steps (.one stepR_label) (hk κ w a k cs h2 hr he hd)
    | seq c1 c2 =>
     simp only [comp] at hc
     split at hc
     case h_2 => simp at hc
     rename_i a1 a2 q1 q2
     simp only [Option.some.injEq] at hc
     subst hc
     simp only [step1, Option.some.injEq, Prod.mk.injEq] at hs
     obtain ⟨g1, g2, g3, _⟩ := hs
     subst g1 g2 g3
     exact Ends.of_steps (.one stepR_seq) (hk κ w a _ cs ⟨_, _, rfl, ⟨ann, q1⟩, _, _, rfl, ⟨ann, q2⟩, h2⟩ hr he hd)
    | cond x c1 c2 =>
     simp only [comp] at hc
     split at hc
     case h_2 => simp at hc
     rename_i x' a1 a2 q0 q1 q2
     simp only [Option.some.injEq] at hc
     subst hc
     simp only [step1] at hs
     split at hs
     case h_2 => simp at hs
     rename_i t ht
     have hv := ev_sound he _ _ q0
     rw [ht] at hv
     simp only [VR, DR] at hv
     split at hs <;> simp only [Option.some.injEq, Prod.mk.injEq] at hs <;> obtain ⟨g1, g2, g3, _⟩ := hs <;> subst g1 g2 g3
     ·exact Ends.of_steps (.one (stepR_cond hv)) (hk κ w a _ cs ⟨_, _, rfl, ⟨ann, q1⟩, h2⟩ hr he hd)
     ·exact Ends.of_steps (.one (stepR_cond hv)) (hk κ w a _ cs ⟨_, _, rfl, ⟨ann, q2⟩, h2⟩ hr he hd)
    | block id c1 =>
     simp only [comp] at hc
     split at hc
     case h_2 => simp at hc
     rename_i a1 q1
     simp only [Option.some.injEq] at hc
     subst hc
     simp only [step1, Option.some.injEq, Prod.mk.injEq] at hs
     obtain ⟨g1, g2, g3, _⟩ := hs
     subst g1 g2 g3
     exact Ends.of_steps (.one stepR_block) (hk κ w a _ cs ⟨_, _, rfl, ⟨ann, q1⟩, _, _, rfl, rfl, h2⟩ hr he hd)
    | scope c1 =>
     simp only [comp] at hc
     split at hc
     case h_2 => simp at hc
     rename_i a1 q1
     simp only [Option.some.injEq] at hc
     subst hc
     simp only [step1, Option.some.injEq, Prod.mk.injEq] at hs
     obtain ⟨g1, g2, g3, _⟩ := hs
     subst g1 g2 g3
     refine Ends.of_steps (.one ?_) (hk κ w a (.code c1 :: .inScope c1 :: k) cs ⟨_, _, rfl, ⟨ann, q1⟩, _, _, rfl, ⟨ann, q1⟩, h2⟩ hr he hd)
     exact step_lone_go (by simp [stepG, stepG.exec, Frame.atR])
    | loop c1 =>
     simp only [comp] at hc
     split at hc
     case h_2 => simp at hc
     rename_i a1 q1
     simp only [Option.some.injEq] at hc
     subst hc
     simp only [step1] at hs
     split at hs
     case h_2 => simp at hs
     simp only [Option.some.injEq, Prod.mk.injEq] at hs
     obtain ⟨g1, g2, g3, _⟩ := hs
     subst g1 g2 g3
     exact Ends.of_steps (.one stepR_loop) (hk κ w a _ cs ⟨_, _, rfl, ⟨ann, q1⟩, _, _, rfl, ⟨ann, q1⟩, h2⟩ hr he hd)
    | exit id =>
     simp only [comp, Option.some.injEq] at hc
     subst hc
     simp only [step1] at hs
     split at hs
     case h_2 => simp at hs
     rename_i k' hx
     simp only [Option.some.injEq, Prod.mk.injEq] at hs
     obtain ⟨g1, g2, g3, _⟩ := hs
     subst g1 g2 g3
     obtain ⟨k'', q1, q2⟩ := CS.exit h2 hx
     exact Ends.of_steps (.one (stepR_exit q1)) (hk κ w a _ cs q2 hr he hd)
    | goto l =>
     simp only [comp, Option.some.injEq] at hc
     subst hc
     simp only [step1] at hs
     split at hs
     case h_2 => simp at hs
     split at hs
     case h_2 => simp at hs
     rename_i k' hx
     simp only [Option.some.injEq, Prod.mk.injEq] at hs
     obtain ⟨g1, g2, g3, _⟩ := hs
     subst g1 g2 g3
     obtain ⟨k'', q1, q2⟩ := CS.goto h2 hx
     exact Ends.of_steps (.one (stepR_goto q1)) (hk κ w a _ cs q2 hr he hd)
    | ret =>
     simp only [comp, Option.some.injEq] at hc
     subst hc
     simp [step1] at hs
    | region id ops draw =>
     simp only [comp] at hc
     split at hc
     ·split at hc
      case h_2 => simp at hc
      rename_i ord hann
      split at hc
      case h_2 => simp at hc
      rename_i l hl1 hl2
      simp only [Option.some.injEq] at hc
      subst hc
      simp only [step1, Option.some.injEq, Prod.mk.injEq] at hs
      obtain ⟨g1, g2, g3, _⟩ := hs
      subst g1 g2 g3
      simp only [decide_eq_true_eq] at hl1
      have hrg : ∀ (ord : List (Nat × List Nat)) (l : List AI), cAIs P N ops ord = some l → RG P N ops (ord.map (·.1)) l := by
       intro ord
       induction ord with
       | nil => intro l h; simp only [cAIs, Option.some.injEq] at h; subst h; simp [RG]
       | cons p ord ih =>
        intro l h
        obtain ⟨i, kl⟩ := p
        simp only [cAIs] at h
        split at h
        case h_2 => simp at h
        rename_i a1 l1 z1 z2
        simp only [Option.some.injEq] at h
        subst h
        exact ⟨kl, a1, l1, z1, rfl, ih l1 z2⟩
      have := hrg ord l hl2
      rw [hl1] at this
      exact Ends.of_steps (.one stepR_region) (hk κ w a _ cs ⟨_, _, rfl, this, h2⟩ hr he hd)
     ·split at hc
      case h_2 => simp at hc
      split at hc
      case h_2 => simp at hc
      simp only [Option.some.injEq] at hc
      subst hc
      simp [step1] at hs
    | rangeFunc =>
     simp only [comp] at hc
     split at hc
     case h_2 => simp at hc
     simp only [Option.some.injEq] at hc
     subst hc
     simp [step1] at hs
    | refuse =>
     simp only [comp, Option.some.injEq] at hc
     subst hc
     simp [step1] at hs
   | beginRound =>
    cases top <;> simp only [CI] at h1
    simp [step1] at hs
   | _ => cases top <;> simp only [CI] at h1
end
end Go.SL
namespace Go.SL
def idx : List Nat → Nat → Option Nat
 | [], _ => none
 | j :: r, i => match Nat.beq j i with
  | true => some 0
  | false => match idx r i with
   | some k => some (k + 1)
   | none => none
theorem idx_some : ∀ {l : List Nat} {i j : Nat}, idx l i = some j → l[j]? = some i
 | [], i, j, h => by simp [idx] at h
 | x :: r, i, j, h => by
  simp only [idx] at h
  split at h
  ·rename_i hb
   simp only [Option.some.injEq] at h
   subst h
   simp [Nat.eq_of_beq_eq_true hb]
  ·split at h
   ·rename_i k hk
    simp only [Option.some.injEq] at h
    subst h
    simpa using idx_some hk
   ·simp at h
theorem idx_none : ∀ {l : List Nat} {i : Nat}, idx l i = none → i ∉ l
 | [], i, _ => by simp
 | x :: r, i, h => by
  simp only [idx] at h
  split at h
  ·simp at h
  ·rename_i hb
   split at h
   ·simp at h
   ·rename_i hn
    have := idx_none hn
    simp only [List.mem_cons, not_or]
    refine ⟨fun e => ?_, this⟩
    subst e
    simp at hb
theorem idx_of : ∀ {l : List Nat} (_ : l.Nodup) {i j : Nat}, l[j]? = some i → idx l i = some j
 | [], _, i, j, h => by simp at h
 | x :: r, hn, i, j, h => by
  simp only [List.nodup_cons] at hn
  cases j with
  | zero => simp at h; subst h; simp [idx]
  | succ j =>
   simp at h
   have hne : x ≠ i := fun e => hn.1 (e ▸ List.mem_of_getElem? h)
   simp only [idx, beq_ne hne, idx_of hn.2 h]
mutual
def rn (rb rv : List Nat) : V → V
 | .d x => .d x
 | .dead => .dead
 | .ptr i off => match rb[i]? with
  | some j => .ptr j off
  | none => .dead
 | .vs i n off len => match rv[i]? with
  | some j => .vs j n off len
  | none => .dead
 | .vptr i n k off => match rv[i]? with
  | some j => .vptr j n k off
  | none => .dead
 | .fn f a c => .fn f (rns rb rv a) (rns rb rv c)
 | .iface t x => .iface t (rn rb rv x)
 | .agg xs => .agg (rns rb rv xs)
 | .tup xs => .tup (rns rb rv xs)
def rns (rb rv : List Nat) : List V → List V
 | [] => []
 | x :: xs => rn rb rv x :: rns rb rv xs
end
mutual
def isin (nb nv : Nat) : V → Bool
 | .d _ | .dead => true
 | .ptr i _ => Nat.blt i nb
 | .vs i _ _ _ | .vptr i _ _ _ => Nat.blt i nv
 | .fn _ a c => insc nb nv a && insc nb nv c
 | .iface _ x => isin nb nv x
 | .agg xs | .tup xs => insc nb nv xs
def insc (nb nv : Nat) : List V → Bool
 | [] => true
 | x :: xs => isin nb nv x && insc nb nv xs
end
def rnB (rb rv : List Nat) : Bx → Bx
 | .cells cs e => .cells (rns rb rv cs) e
 | .iter s p => .iter s p
 | .raw _ => .gone
 | .gone => .gone
def rnV (rb rv : List Nat) : Option Vec → Option Vec
 | some v => some { v with xs := rns rb rv v.xs }
 | none => none
def inscB (nb nv : Nat) : Bx → Bool
 | .cells cs _ => insc nb nv cs
 | .raw _ => false
 | _ => true
def inscV (nb nv : Nat) : Option Vec → Bool
 | some v => insc nb nv v.xs
 | none => true
structure Dn (κ κc : K) (rb rv : List Nat) : Prop where
 S : κc.S = κ.S
 nb : κc.nb = rb.length
 nv : κc.nv = rv.length
 bl : ∀ j i, rb[j]? = some i → κc.bl j = κ.bl i ∧ i < κ.nb
 vn : ∀ j i, rv[j]? = some i → κc.vn j = κ.vn i ∧ κc.vb j = κ.vb i ∧ i < κ.nv
mutual
theorem VR.down {κ κc : K} {rb rv : List Nat} (d : Dn κ κc rb rv) : ∀ (x : V) (v : Value), isin rb.length rv.length x = true → VR κ (rn rb rv x) v → VR κc x v
 | .d x, v, _, r => by simp only [rn, VR] at r ⊢; rw [d.S]; exact r
 | .dead, _, _, _ => by simp only [VR]
 | .ptr i off, v, s, r => by
  simp only [isin, Nat.blt_eq] at s
  have hi : rb[i]? = some rb[i] := List.getElem?_eq_getElem s
  simp only [rn, hi, VR] at r ⊢
  exact ⟨by rw [d.nb]; exact s, by rw [(d.bl _ _ hi).1]; exact r.2⟩
 | .vs i n off len, v, s, r => by
  simp only [isin, Nat.blt_eq] at s
  have hi : rv[i]? = some rv[i] := List.getElem?_eq_getElem s
  obtain ⟨h1, h2, h3⟩ := d.vn _ _ hi
  simp only [rn, hi, VR] at r ⊢
  refine ⟨by rw [d.nv]; exact s, r.2.1, fun m e => ?_⟩
  have := r.2.2 m (by rw [← h1]; exact e)
  exact ⟨this.1, fun q => by have := this.2 q; unfold link at this ⊢; rw [h2]; exact this⟩
 | .vptr i n k off, v, s, r => by
  simp only [isin, Nat.blt_eq] at s
  have hi : rv[i]? = some rv[i] := List.getElem?_eq_getElem s
  obtain ⟨h1, h2, h3⟩ := d.vn _ _ hi
  simp only [rn, hi, VR] at r ⊢
  refine ⟨by rw [d.nv]; exact s, r.2.1, fun m e => ?_⟩
  have := r.2.2 m (by rw [← h1]; exact e)
  exact ⟨this.1, fun q => by have := this.2 q; unfold plink at this ⊢; rw [h2]; exact this⟩
 | .fn f a c, v, s, r => by
  simp only [isin, Bool.and_eq_true] at s
  simp only [rn, VR] at r ⊢
  obtain ⟨a', c', e, r1, r2⟩ := r
  exact ⟨a', c', e, VL.down d a a' s.1 r1, VL.down d c c' s.2 r2⟩
 | .iface t x, v, s, r => by
  simp only [isin] at s
  simp only [rn, VR] at r ⊢
  obtain ⟨y, e, r⟩ := r
  exact ⟨y, e, VR.down d x y s r⟩
 | .agg xs, v, s, r => by
  simp only [isin] at s
  simp only [rn, VR] at r ⊢
  obtain ⟨ys, e, r, ho⟩ := r
  exact ⟨ys, e, VL.down d xs ys s r, ho⟩
 | .tup xs, v, s, r => by
  simp only [isin] at s
  simp only [rn, VR] at r ⊢
  obtain ⟨ys, e, r⟩ := r
  exact ⟨ys, e, VL.down d xs ys s r⟩
theorem VL.down {κ κc : K} {rb rv : List Nat} (d : Dn κ κc rb rv) : ∀ (xs : List V) (ys : List Value), insc rb.length rv.length xs = true → VL κ (rns rb rv xs) ys → VL κc xs ys
 | [], _, _, r => by simpa only [rns, VL] using r
 | x :: xs, ys, s, r => by
  simp only [insc, Bool.and_eq_true] at s
  simp only [rns, VL] at r ⊢
  obtain ⟨y, t, e, r1, r2⟩ := r
  exact ⟨y, t, e, VR.down d x y s.1 r1, VL.down d xs t s.2 r2⟩
end
structure Up (κc κ' : K) (rb rv : List Nat) : Prop where
 S : κ'.S = κc.S
 bl : ∀ j i, rb[j]? = some i → j < κc.nb → κ'.bl i = κc.bl j ∧ i < κ'.nb
 vn : ∀ j i, rv[j]? = some i → j < κc.nv → κ'.vn i = κc.vn j ∧ κ'.vb i = κc.vb j ∧ i < κ'.nv
mutual
theorem VR.up {κc κ' : K} {rb rv : List Nat} (d : Up κc κ' rb rv) : ∀ (x : V) (v : Value), VR κc x v → VR κ' (rn rb rv x) v
 | .d x, v, r => by simp only [rn, VR] at r ⊢; rw [d.S]; exact r
 | .dead, _, _ => by simp only [rn, VR]
 | .ptr j off, v, r => by
  simp only [VR] at r
  simp only [rn]
  cases hi : rb[j]? with
  | none => simp only [VR]
  | some i =>
   obtain ⟨h1, h2⟩ := d.bl j i hi r.1
   simp only [VR]
   exact ⟨h2, by rw [h1]; exact r.2⟩
 | .vs j n off len, v, r => by
  simp only [VR] at r
  simp only [rn]
  cases hi : rv[j]? with
  | none => simp only [VR]
  | some i =>
   obtain ⟨h1, h2, h3⟩ := d.vn j i hi r.1
   simp only [VR]
   refine ⟨h3, r.2.1, fun m e => ?_⟩
   have := r.2.2 m (by rw [← h1]; exact e)
   exact ⟨this.1, fun q => by have := this.2 q; unfold link at this ⊢; rw [h2]; exact this⟩
 | .vptr j n k off, v, r => by
  simp only [VR] at r
  simp only [rn]
  cases hi : rv[j]? with
  | none => simp only [VR]
  | some i =>
   obtain ⟨h1, h2, h3⟩ := d.vn j i hi r.1
   simp only [VR]
   refine ⟨h3, r.2.1, fun m e => ?_⟩
   have := r.2.2 m (by rw [← h1]; exact e)
   exact ⟨this.1, fun q => by have := this.2 q; unfold plink at this ⊢; rw [h2]; exact this⟩
 | .fn f a c, v, r => by
  simp only [rn, VR] at r ⊢
  obtain ⟨a', c', e, r1, r2⟩ := r
  exact ⟨a', c', e, VL.up d a a' r1, VL.up d c c' r2⟩
 | .iface t x, v, r => by
  simp only [rn, VR] at r ⊢
  obtain ⟨y, e, r⟩ := r
  exact ⟨y, e, VR.up d x y r⟩
 | .agg xs, v, r => by
  simp only [rn, VR] at r ⊢
  obtain ⟨ys, e, r, ho⟩ := r
  exact ⟨ys, e, VL.up d xs ys r, ho⟩
 | .tup xs, v, r => by
  simp only [rn, VR] at r ⊢
  obtain ⟨ys, e, r⟩ := r
  exact ⟨ys, e, VL.up d xs ys r⟩
theorem VL.up {κc κ' : K} {rb rv : List Nat} (d : Up κc κ' rb rv) : ∀ (xs : List V) (ys : List Value), VL κc xs ys → VL κ' (rns rb rv xs) ys
 | [], _, r => by simpa only [rns, VL] using r
 | x :: xs, ys, r => by
  simp only [rns, VL] at r ⊢
  obtain ⟨y, t, e, r1, r2⟩ := r
  exact ⟨y, t, e, VR.up d x y r1, VL.up d xs t r2⟩
end
theorem rns_length {rb rv : List Nat} : ∀ xs : List V, (rns rb rv xs).length = xs.length
 | [] => rfl
 | x :: xs => by simp [rns, rns_length xs]
theorem rn_cells {rb rv : List Nat} (x : V) : (rn rb rv x).cells = rns rb rv x.cells := by
 cases x with
 | d x =>
  cases x with
  | agg xs =>
   simp only [rn, V.cells]
   induction xs with
   | nil => rfl
   | cons y ys ih => simp [rns, rn, ← ih]
  | _ => rfl
 | ptr i off => simp only [rn]; split <;> rename_i h <;> simp [V.cells, rns, rn, h]
 | vs i n off len => simp only [rn]; split <;> rename_i h <;> simp [V.cells, rns, rn, h]
 | vptr i n k off => simp only [rn]; split <;> rename_i h <;> simp [V.cells, rns, rn, h]
 | _ => rfl
theorem insc_cells {nb nv : Nat} {x : V} (h : isin nb nv x = true) : insc nb nv x.cells = true := by
 cases x with
 | d x =>
  cases x with
  | agg xs =>
   simp only [V.cells]
   induction xs with
   | nil => rfl
   | cons y ys ih => simp only [List.map_cons, insc, isin, Bool.true_and]; exact ih rfl
  | _ => rfl
 | agg xs => simpa [V.cells, isin] using h
 | _ => simpa [V.cells, insc] using h
theorem VX.down {κ κc : K} {rb rv : List Nat} (d : Dn κ κc rb rv) {sz : Nat} : ∀ (xs : List V) (ys : List Value), insc rb.length rv.length xs = true → VX κ sz (rns rb rv xs) ys → VX κc sz xs ys
 | [], _, _, r => by simpa only [rns, VX] using r
 | x :: xs, ys, s, r => by
  simp only [insc, Bool.and_eq_true] at s
  simp only [rns, VX] at r ⊢
  obtain ⟨c, t, e, l, r1, r2⟩ := r
  rw [rn_cells] at r1
  exact ⟨c, t, e, l, ⟨VL.down d _ _ (insc_cells s.1) r1.1, r1.2⟩, VX.down d xs t s.2 r2⟩
theorem VX.up {κc κ' : K} {rb rv : List Nat} (d : Up κc κ' rb rv) {sz : Nat} : ∀ (xs : List V) (ys : List Value), VX κc sz xs ys → VX κ' sz (rns rb rv xs) ys
 | [], _, r => by simpa only [rns, VX] using r
 | x :: xs, ys, r => by
  simp only [rns, VX] at r ⊢
  obtain ⟨c, t, e, l, r1, r2⟩ := r
  refine ⟨c, t, e, l, ?_, VX.up d xs t r2⟩
  rw [rn_cells]
  exact ⟨VL.up d _ _ r1.1, r1.2⟩
end Go.SL
