/- KernelWhole: the first commit can be, and names no object that it does not make: for every number. Part 3. -/
import Derived.Test.YthjflehiokjiaaaGreatDoorWho1
import Derived.Test.YthjflehiokjiaaaGreatDoorChecked
import Derived.KernelRfl
import Derived.Laws.Externs
import Derived.Lib.Bytealg
namespace Go.SL
def bits : List Nat → Nat
 | [] => 0
 | t :: r => Nat.lor (Nat.shiftLeft 1 t) (bits r)
def hasB (m t : Nat) : Bool := Nat.beq (Nat.land (Nat.shiftRight m t) 1) 1
def tmpsL : List Operand → List Nat
 | [] => []
 | .tmp t :: r => t :: tmpsL r
 | _ :: r => tmpsL r
def gTmp (ops : Array Oper) : Option (Nat × Bool) → List Nat
 | some (j, _) => match (ops[j]?).bind (·.dst) with
  | some t => [t]
  | none => []
 | none => []
def usesA (ops : Array Oper) (o : Oper) : List Nat := tmpsL o.op.operands.toList ++ gTmp ops o.guard
def usesR (ops : Array Oper) : List Oper → Nat
 | [] => 0
 | o :: r => Nat.lor (bits (usesA ops o)) (usesR ops r)
def site (s : Nat × Nat) (m : Nat) : Nat × Nat := (Nat.lor s.1 m, Nat.lor s.2 (Nat.land s.1 m))
def multi : Code → Nat × Nat → Nat × Nat
 | .region _ ops _, s => site s (usesR ops ops.toList)
 | .seq a b, s => multi b (multi a s)
 | .cond c a b, s => multi b (multi a (site s (bits (tmpsL [c]))))
 | .block _ b, s => multi b s
 | .loop b, s => multi b s
 | .scope b, s => multi b s
 | .rangeFunc f ps a b, s => multi b (multi a (site (site s (bits (tmpsL [f]))) (bits ps.toList)))
 | _, s => s
def resT : List ResultVar → List Nat
 | [] => []
 | .tmp t :: r => t :: resT r
 | .cell t _ :: r => t :: resT r
def killsR (ops : Array Oper) (mu : Nat) : List Oper → Nat → Nat → List (Nat × List Nat) × Nat
 | [], _, _ => ([], 0)
 | o :: r, i, d =>
  let u := usesA ops o
  let x := killsR ops mu r (i + 1) (match o.dst with | some t => Nat.lor d (Nat.shiftLeft 1 t) | none => d)
  ((i, u.filter fun t => hasB d t && !hasB mu t && !hasB x.2 t) :: x.1, Nat.lor (bits u) x.2)
def oD (n : Nat) (ex : List (Nat × List Nat)) : List (Nat × List Nat) := (List.range n).map fun i => (i, lk ex i)
where lk : List (Nat × List Nat) → Nat → List Nat
  | [], _ => []
  | (j, l) :: r, i => match Nat.beq j i with
    | true => l
    | false => lk r i
def regsC : Code → List (Nat × Array Oper × Bool)
 | .region i ops d => [(i, ops, d)]
 | .seq a b => regsC a ++ regsC b
 | .cond _ a b => regsC a ++ regsC b
 | .block _ b => regsC b
 | .loop b => regsC b
 | .scope b => regsC b
 | .rangeFunc _ _ a b => regsC a ++ regsC b
 | _ => []
def lkA : List (Nat × List (List (Nat × List Nat))) → Ann
 | [], _ => []
 | (i, l) :: r, id => match Nat.beq i id with
  | true => l
  | false => lkA r id
def annOf (fn : Func) (D : List (Nat × List (List (Nat × List Nat)))) (c : Code) : List (Nat × List (List (Nat × List Nat))) :=
 let mu := Nat.lor (bits (resT fn.results.toList)) (multi c (0, 0)).2
 (regsC c).map fun x => (x.1, match x.2.2 with
  | true => lkA D x.1
  | false => [(killsR x.2.1 mu x.2.1.toList 0 0).1])
def compA (P : Program) (fn : Func) (A : List (Nat × List (List (Nat × List Nat)))) (c : Code) : Option AC := comp P fn.ntmps (lkA A) chkD c
def tblA : AC → List (List AI)
 | .reg l => [l]
 | .seq a b => tblA a ++ tblA b
 | .cond _ a b => tblA a ++ tblA b
 | .block _ b => tblA b
 | .loop b => tblA b
 | .scope b => tblA b
 | .rangeF _ _ a b => tblA a ++ tblA b
 | _ => []
def numA (t : Nat → List AI) : AC → Nat → AC × Nat
 | .reg _, n => (.regT t n, n + 1)
 | .seq a b, n => ((AC.seq (numA t a n).1 (numA t b (numA t a n).2).1), (numA t b (numA t a n).2).2)
 | .cond c a b, n => ((AC.cond c (numA t a n).1 (numA t b (numA t a n).2).1), (numA t b (numA t a n).2).2)
 | .block i b, n => (.block i (numA t b n).1, (numA t b n).2)
 | .loop b, n => (.loop (numA t b n).1, (numA t b n).2)
 | .scope b, n => (.scope (numA t b n).1, (numA t b n).2)
 | .rangeF f ps a b, n => ((AC.rangeF f ps (numA t a n).1 (numA t b (numA t a n).2).1), (numA t b (numA t a n).2).2)
 | c, n => (c, n)
def rawA : AC → Bool
 | .regT _ _ => false
 | .seq a b => rawA a && rawA b
 | .cond _ a b => rawA a && rawA b
 | .block _ b => rawA b
 | .loop b => rawA b
 | .scope b => rawA b
 | .rangeF _ _ a b => rawA a && rawA b
 | _ => true
theorem num_inst (t : Nat → List AI) : ∀ (c : AC) (n : Nat), rawA c = true → (∀ (k : Nat) (l : List AI), (tblA c)[k]? = some l → t (n + k) = l) → inst (numA t c n).1 = c ∧ (numA t c n).2 = n + (tblA c).length
 | .skip, n, _, _ | .regD _, n, _, _ | .exit _, n, _, _ | .label _, n, _, _ | .goto _, n, _, _ | .ret, n, _, _ | .no, n, _, _ => ⟨rfl, rfl⟩
 | .reg l, n, _, h => ⟨by simp only [numA, inst]; rw [← h 0 l rfl]; rfl, rfl⟩
 | .regT _ _, n, h, _ => by simp [rawA] at h
 | .block i b, n, h, g => by have := num_inst t b n h g; exact ⟨by simp only [numA, inst, this.1], this.2⟩
 | .loop b, n, h, g => by have := num_inst t b n h g; exact ⟨by simp only [numA, inst, this.1], this.2⟩
 | .scope b, n, h, g => by have := num_inst t b n h g; exact ⟨by simp only [numA, inst, this.1], this.2⟩
 | .seq a b, n, h, g => by
  simp only [rawA, Bool.and_eq_true] at h
  have h1 := num_inst t a n h.1 fun k l e => g k l (by simp only [tblA]; rw [List.getElem?_append_left (List.getElem?_eq_some_iff.1 e).1]; exact e)
  have h2 := num_inst t b (numA t a n).2 h.2 fun k l e => by rw [h1.2, Nat.add_assoc]; exact g _ l (by simp only [tblA]; rw [List.getElem?_append_right (by omega)]; simpa using e)
  exact ⟨by simp only [numA, inst, h1.1, h2.1], by simp only [numA, tblA, List.length_append]; rw [h2.2, h1.2, Nat.add_assoc]⟩
 | .cond _ a b, n, h, g => by
  simp only [rawA, Bool.and_eq_true] at h
  have h1 := num_inst t a n h.1 fun k l e => g k l (by simp only [tblA]; rw [List.getElem?_append_left (List.getElem?_eq_some_iff.1 e).1]; exact e)
  have h2 := num_inst t b (numA t a n).2 h.2 fun k l e => by rw [h1.2, Nat.add_assoc]; exact g _ l (by simp only [tblA]; rw [List.getElem?_append_right (by omega)]; simpa using e)
  exact ⟨by simp only [numA, inst, h1.1, h2.1], by simp only [numA, tblA, List.length_append]; rw [h2.2, h1.2, Nat.add_assoc]⟩
 | .rangeF _ _ a b, n, h, g => by
  simp only [rawA, Bool.and_eq_true] at h
  have h1 := num_inst t a n h.1 fun k l e => g k l (by simp only [tblA]; rw [List.getElem?_append_left (List.getElem?_eq_some_iff.1 e).1]; exact e)
  have h2 := num_inst t b (numA t a n).2 h.2 fun k l e => by rw [h1.2, Nat.add_assoc]; exact g _ l (by simp only [tblA]; rw [List.getElem?_append_right (by omega)]; simpa using e)
  exact ⟨by simp only [numA, inst, h1.1, h2.1], by simp only [numA, tblA, List.length_append]; rw [h2.2, h1.2, Nat.add_assoc]⟩
def TabE (t : Nat → List AI) : Nat → List (List AI) → Prop
 | _, [] => True
 | n, l :: r => t n = l ∧ TabE t (n + 1) r
theorem TabE.of (L : List (List AI)) : ∀ (n : Nat) (M : List (List AI)), (∀ k, M[k]? = L[n + k]?) → TabE (fun k => L.getD k []) n M
 | n, [], _ => trivial
 | n, l :: r, h => ⟨by have := h 0; simp at this; simp [List.getD, ← this], TabE.of L (n + 1) r fun k => by have := h (k + 1); rw [show n + 1 + k = n + (k + 1) by omega, ← this]; rfl⟩
def compB (P : Program) (N : Nat) (ann : Ann) : Code → Option AC
 | .skip => some .skip
 | .region id ops draw => match draw with
  | false => match cAIs P N ops ((ann id).headD []) with
   | some l => some (.reg l)
   | none => none
  | true => match cOrds P N ops (ann id) with
   | some ls => some (.regD ls)
   | none => none
 | .seq a b => match compB P N ann a, compB P N ann b with
  | some a, some b => some (.seq a b)
  | _, _ => none
 | .cond c a b => match opd c, compB P N ann a, compB P N ann b with
  | some c, some a, some b => some (.cond c a b)
  | _, _, _ => none
 | .block id b => match compB P N ann b with
  | some b => some (.block id b)
  | none => none
 | .loop b => match compB P N ann b with
  | some b => some (.loop b)
  | none => none
 | .exit id => some (.exit id)
 | .scope b => match compB P N ann b with
  | some b => some (.scope b)
  | none => none
 | .label l => some (.label l)
 | .goto l => some (.goto l)
 | .ret => some .ret
 | .refuse _ => some .no
 | .rangeFunc f ps a b => match opd f, compB P N ann a, compB P N ann b with
  | some f, some a, some b => some (.rangeF f ps.toList a b)
  | _, _, _ => none
theorem comp_B {P : Program} {N : Nat} {ann : Ann} {chk : Array Oper → List (List AI) → Bool} : ∀ {c : Code} {a : AC}, comp P N ann chk c = some a → compB P N ann c = some a := by
 intro c
 induction c <;> intro ac h <;> simp only [comp, compB] at h ⊢ <;> (repeat' (split at h)) <;> simp_all
section
variable {P : Program} {Q : Out → H → Prop}
theorem AF.go {f : FuncId} {fn : Func} {args : List V} {h : H} (hf : P.funcs[f]? = some fn) (D : List (Nat × List (List (Nat × List Nat)))) {ac : AC} {L : List (List AI)} {c : (Nat → List AI) → AC} {p : (Nat → List AI) → Prop}
  (k : ∀ (t : Nat → List AI), p t → ∀ Q' : Out → H → Prop, (∀ o h, Q o h → Q' o h) → ATT P fn.ntmps (.of f) Q' (SL.goes 60 [.code (c t)] (env0 0 args) h true))
  (hb : fn.body.isSome = true := by kernel_rfl)
  {A : List (Nat × List (List (Nat × List Nat)))} (_ha : annOf fn D (fn.body.getD .skip) = A := by conv => lhs; reduce; try dsimp)
  (hs : (compA P fn A (fn.body.getD .skip)).isSome = true := by kernel_rfl)
  (hc : compB P fn.ntmps (lkA A) (fn.body.getD .skip) = some ac := by conv => lhs; reduce; try dsimp)
  (hL : tblA ac = L := by conv => lhs; reduce; try dsimp)
  (hp : ∀ t, TabE t 0 L = p t := by intro t; conv => lhs; dsimp only [TabE])
  (hn : ∀ t, (numA t ac 0).1 = c t := by intro t; conv => lhs; reduce; try dsimp)
  (hr : rawA ac = true := by kernel_rfl) (hcal : callable P f = true := by kernel_rfl) : AF P f args h Q := by
 have ht : TabE (fun k => L.getD k []) 0 L := TabE.of L 0 L fun k => by rw [Nat.zero_add]
 obtain ⟨b, hb⟩ := Option.isSome_iff_exists.1 hb
 have hi := (num_inst (fun k => L.getD k []) ac 0 hr (by rw [hL]; intro k l e; simp [List.getD, e])).1
 obtain ⟨a0, h0⟩ := Option.isSome_iff_exists.1 hs
 rw [hb] at hc h0
 have e0 := comp_B h0
 rw [Option.getD_some] at hc
 rw [Option.getD_some, hc] at e0
 simp only [Option.some.injEq] at e0
 subst e0
 exact AF.start' 60 hf hb rfl hcal (by rw [hi]; exact h0) fun Q' hQ => by rw [hn]; exact k _ (by rw [← hp]; exact ht) Q' hQ
theorem ATT.fin2 {N : Nat} {f : FD} {Q Q' : Out → H → Prop} (hQ : ∀ o h, Q o h → Q' o h) {fn : Func} (hf : P.funcs[f.fn]? = some fn) {rs : List ARes} {k : List AItem} {env : Env} {h : H} {ob : Bool}
  (hq : ob = true ∧ match aress h env rs with | some vs => Q (.ret (outV vs)) h | none => False) (h1 : cRess P fn.results.toList = some rs := by conv => lhs; reduce; try dsimp) (hdv : f.pln = true := by rfl) : ATT P N f Q' (.code .ret :: k, env, h, ob) :=
 ATT.fin' hQ hf h1 hq hdv
theorem ATT.fin02 {N : Nat} {f : FD} {Q Q' : Out → H → Prop} (hQ : ∀ o h, Q o h → Q' o h) {fn : Func} (hf : P.funcs[f.fn]? = some fn) {rs : List ARes} {env : Env} {h : H} {ob : Bool}
  (hq : ob = true ∧ match aress h env rs with | some vs => Q (.ret (outV vs)) h | none => False) (h1 : cRess P fn.results.toList = some rs := by conv => lhs; reduce; try dsimp) (hdv : f.pln = true := by rfl) : ATT P N f Q' ([], env, h, ob) :=
 ATT.fin0' hQ hf h1 hq hdv
theorem ATT.finz2 {N : Nat} {f : FD} {Q Q' : Out → H → Prop} (hQ : ∀ o h, Q o h → Q' o h) {fn : Func} (hf : P.funcs[f.fn]? = some fn) {rs : List ARes} {ks : List AItem} {env : Env} {h : H} {ob : Bool}
  (hq : ob = true ∧ match aress h env rs with | some vs => Q (.ret (fzV h (outV vs))) (fzH h) | none => False) (h1 : cRess P fn.results.toList = some rs := by conv => lhs; reduce; try dsimp) (hks : ks = [] ∨ ∃ k, ks = .code .ret :: k := by first | exact .inl rfl | exact .inr ⟨_, rfl⟩) (hdv : f.pln = true := by rfl) : ATT P N f Q' (ks, env, h, ob) :=
 ATT.finz hQ hf h1 hks hq hdv
end
end Go.SL
namespace Go.SL
def sK0 : ByteArray := ⟨#[105, 115, 78, 105, 108, 32, 94, 102, 97, 108, 115, 101]⟩
def sK1 : ByteArray := ⟨#[121, 111, 117, 114, 115, 101, 108, 102, 32, 94, 115, 101, 108, 102]⟩
def sK2 : ByteArray := ⟨#[61, 32, 120, 32, 94, 115, 101, 108, 102, 32, 61, 61, 32, 120]⟩
def sK3 : ByteArray := ⟨#[126, 61, 32, 120, 32, 94, 40, 115, 101, 108, 102, 32, 61, 32, 120, 41, 32, 110, 111, 116]⟩
def sK4 : ByteArray := ⟨#[105, 102, 78, 105, 108, 58, 32, 98, 32, 94, 115, 101, 108, 102]⟩
def sK5 : ByteArray := ⟨#[105, 115, 78, 105, 108, 32, 94, 116, 114, 117, 101]⟩
def sK6 : ByteArray := ⟨#[105, 102, 78, 105, 108, 58, 32, 98, 32, 94, 98, 32, 118, 97, 108, 117, 101]⟩
def sK7 : ByteArray := ⟨#[110, 111, 116, 32, 94, 116, 114, 117, 101]⟩
def sK8 : ByteArray := ⟨#[97, 110, 100, 58, 32, 98, 32, 94, 102, 97, 108, 115, 101]⟩
def sK9 : ByteArray := ⟨#[111, 114, 58, 32, 98, 32, 94, 98, 32, 118, 97, 108, 117, 101]⟩
def sK10 : ByteArray := ⟨#[105, 102, 84, 114, 117, 101, 58, 32, 97, 32, 94, 110, 105, 108]⟩
def sK11 : ByteArray := ⟨#[105, 102, 70, 97, 108, 115, 101, 58, 32, 98, 32, 94, 98, 32, 118, 97, 108, 117, 101]⟩
def sK12 : ByteArray := ⟨#[105, 102, 84, 114, 117, 101, 58, 32, 97, 32, 105, 102, 70, 97, 108, 115, 101, 58, 32, 98, 32, 94, 98, 32, 118, 97, 108, 117, 101]⟩
def sK13 : ByteArray := ⟨#[110, 111, 116, 32, 94, 102, 97, 108, 115, 101]⟩
def sK14 : ByteArray := ⟨#[97, 110, 100, 58, 32, 98, 32, 94, 98, 32, 118, 97, 108, 117, 101]⟩
def sK15 : ByteArray := ⟨#[111, 114, 58, 32, 98, 32, 94, 116, 114, 117, 101]⟩
def sK16 : ByteArray := ⟨#[105, 102, 84, 114, 117, 101, 58, 32, 97, 32, 94, 97, 32, 118, 97, 108, 117, 101]⟩
def sK17 : ByteArray := ⟨#[105, 102, 70, 97, 108, 115, 101, 58, 32, 98, 32, 94, 110, 105, 108]⟩
def sK18 : ByteArray := ⟨#[105, 102, 84, 114, 117, 101, 58, 32, 97, 32, 105, 102, 70, 97, 108, 115, 101, 58, 32, 98, 32, 94, 97, 32, 118, 97, 108, 117, 101]⟩
def sK19 : ByteArray := ⟨#[110, 101, 103, 97, 116, 101, 100, 32, 94, 48, 32, 45, 32, 115, 101, 108, 102]⟩
def sK20 : ByteArray := ⟨#[62, 32, 120, 32, 94, 120, 32, 60, 32, 115, 101, 108, 102]⟩
def sK21 : ByteArray := ⟨#[60, 61, 32, 120, 32, 94, 40, 120, 32, 60, 32, 115, 101, 108, 102, 41, 32, 110, 111, 116]⟩
def sK22 : ByteArray := ⟨#[62, 61, 32, 120, 32, 94, 40, 115, 101, 108, 102, 32, 60, 32, 120, 41, 32, 110, 111, 116]⟩
def sK23 : ByteArray := ⟨#[97, 98, 115, 32, 94, 115, 101, 108, 102, 32, 60, 32, 48, 32, 105, 102, 84, 114, 117, 101, 58, 32, 91, 48, 32, 45, 32, 115, 101, 108, 102, 93, 32, 105, 102, 70, 97, 108, 115, 101, 58, 32, 91, 115, 101, 108, 102, 93]⟩
def sK24 : ByteArray := ⟨#[109, 97, 120, 58, 32, 120, 32, 94, 115, 101, 108, 102, 32, 60, 32, 120, 32, 105, 102, 84, 114, 117, 101, 58, 32, 91, 120, 93, 32, 105, 102, 70, 97, 108, 115, 101, 58, 32, 91, 115, 101, 108, 102, 93]⟩
def sK25 : ByteArray := ⟨#[116, 105, 109, 101, 115, 82, 101, 112, 101, 97, 116, 58, 32, 98, 32, 124, 32, 105, 32, 124, 32, 105, 32, 58, 61, 32, 48, 46, 32, 91, 105, 32, 60, 32, 115, 101, 108, 102, 93, 32, 119, 104, 105, 108, 101, 84, 114, 117, 101, 58, 32, 91, 98, 32, 118, 97, 108, 117, 101, 46, 32, 105, 32, 58, 61, 32, 105, 32, 43, 32, 49, 93]⟩
def sK26 : ByteArray := ⟨#[116, 111, 58, 32, 110, 32, 100, 111, 58, 32, 98, 32, 124, 32, 105, 32, 124, 32, 105, 32, 58, 61, 32, 115, 101, 108, 102, 46, 32, 91, 105, 32, 60, 61, 32, 110, 93, 32, 119, 104, 105, 108, 101, 84, 114, 117, 101, 58, 32, 91, 98, 32, 118, 97, 108, 117, 101, 58, 32, 105, 46, 32, 105, 32, 58, 61, 32, 105, 32, 43, 32, 49, 93]⟩
def sK27 : ByteArray := ⟨#[102, 97, 99, 116, 111, 114, 105, 97, 108, 32, 94, 115, 101, 108, 102, 32, 60, 32, 50, 32, 105, 102, 84, 114, 117, 101, 58, 32, 91, 49, 93, 32, 105, 102, 70, 97, 108, 115, 101, 58, 32, 91, 115, 101, 108, 102, 32, 42, 32, 40, 115, 101, 108, 102, 32, 45, 32, 49, 41, 32, 102, 97, 99, 116, 111, 114, 105, 97, 108, 93]⟩
def sK28 : ByteArray := ⟨#[100, 111, 58, 32, 98, 32, 49, 32, 116, 111, 58, 32, 115, 101, 108, 102, 32, 115, 105, 122, 101, 32, 100, 111, 58, 32, 91, 58, 105, 32, 124, 32, 98, 32, 118, 97, 108, 117, 101, 58, 32, 40, 115, 101, 108, 102, 32, 97, 116, 58, 32, 105, 41, 93]⟩
def sK29 : ByteArray := ⟨#[105, 110, 106, 101, 99, 116, 58, 32, 120, 32, 105, 110, 116, 111, 58, 32, 98, 32, 124, 32, 114, 32, 124, 32, 114, 32, 58, 61, 32, 120, 46, 32, 115, 101, 108, 102, 32, 100, 111, 58, 32, 91, 58, 101, 32, 124, 32, 114, 32, 58, 61, 32, 98, 32, 118, 97, 108, 117, 101, 58, 32, 114, 32, 118, 97, 108, 117, 101, 58, 32, 101, 93, 46, 32, 94, 114]⟩
def sK30 : ByteArray := ⟨#[99, 111, 108, 108, 101, 99, 116, 58, 32, 98, 32, 124, 32, 114, 32, 124, 32, 114, 32, 58, 61, 32, 65, 114, 114, 97, 121, 32, 110, 101, 119, 58, 32, 115, 101, 108, 102, 32, 115, 105, 122, 101, 46, 32, 49, 32, 116, 111, 58, 32, 115, 101, 108, 102, 32, 115, 105, 122, 101, 32, 100, 111, 58, 32, 91, 58, 105, 32, 124, 32, 114, 32, 97, 116, 58, 32, 105, 32, 112, 117, 116, 58, 32, 40, 98, 32, 118, 97, 108, 117, 101, 58, 32, 40, 115, 101, 108, 102, 32, 97, 116, 58, 32, 105, 41, 41, 93, 46, 32, 94, 114]⟩
def sK31 : ByteArray := ⟨#[97, 116, 58, 32, 107, 32, 105, 102, 65, 98, 115, 101, 110, 116, 58, 32, 98, 32, 94, 40, 115, 101, 108, 102, 32, 105, 110, 99, 108, 117, 100, 101, 115, 75, 101, 121, 58, 32, 107, 41, 32, 105, 102, 84, 114, 117, 101, 58, 32, 91, 115, 101, 108, 102, 32, 97, 116, 58, 32, 107, 93, 32, 105, 102, 70, 97, 108, 115, 101, 58, 32, 91, 98, 32, 118, 97, 108, 117, 101, 93]⟩
end Go.SL
set_option maxRecDepth 100000
namespace Go.SL
open Go.Proofs
@[simp] abbrev Xt (n : Nat) : Opd := .tmp n
@[simp] abbrev Xi (n : Int) : Opd := .cst (.int .i64 n)
@[simp] abbrev Xm (i d s : Nat) (k : List Nat) : AI := ⟨i, some d, .o (.move (.tmp s)), none, k⟩
@[simp] abbrev Xa (i d s : Nat) (k : List Nat) : AI := ⟨i, some d, .o (.asg (.tmp s)), none, k⟩
@[simp] abbrev Xf (i d n s : Nat) (k : List Nat) : AI := ⟨i, some d, .o (.faddr n (.tmp s)), none, k⟩
@[simp] abbrev Xl (i d n s : Nat) (k : List Nat) : AI := ⟨i, some d, .o (.load false n (.tmp s)), none, k⟩
@[simp] abbrev Xg (i d n s : Nat) (k : List Nat) : AI := ⟨i, some d, .o (.load true n (.tmp s)), none, k⟩
@[simp] abbrev Xs (i n a b : Nat) (k : List Nat) : AI := ⟨i, none, .o (.store n (.tmp a) (.tmp b)), none, k⟩
@[simp] abbrev Xn (i d s : Nat) (k : List Nat) : AI := ⟨i, some d, .o (.nilc (.tmp s)), none, k⟩
@[simp] abbrev Xe (i d s n : Nat) (k : List Nat) : AI := ⟨i, some d, .o (.extract (.tmp s) n), none, k⟩
@[simp] abbrev Xc (i d f a : Nat) (k : List Nat) : AI := ⟨i, some d, .call (.cst (.fn (.func f) [] [])) [.tmp a], none, k⟩
@[simp] abbrev Xd (i d f a b : Nat) (k : List Nat) : AI := ⟨i, some d, .call (.cst (.fn (.func f) [] [])) [.tmp a, .tmp b], none, k⟩
@[simp] abbrev Xo (i d : Nat) (o : AO) (k : List Nat) : AI := ⟨i, some d, .o o, none, k⟩
@[simp] abbrev Xu (i d : Nat) (o : AO) (g : Nat) (k : List Nat) : AI := ⟨i, some d, .o o, some (g, true), k⟩
@[simp] abbrev Xv (i d : Nat) (o : AO) (g : Nat) (k : List Nat) : AI := ⟨i, some d, .o o, some (g, false), k⟩
@[simp] abbrev Xh (i d : Nat) (o : BinOp) (a b : Nat) (k : List Nat) : AI := ⟨i, some d, .o (.icmp o (.tmp a) (.tmp b)), none, k⟩
@[simp] abbrev Xj (i d : Nat) (o : BinOp) (a : Nat) (n : Int) (k : List Nat) : AI := ⟨i, some d, .o (.icmp o (.tmp a) (.cst (.int .i64 n))), none, k⟩
@[simp] abbrev Xb (i d : Nat) (o : BinOp) (a : Nat) (n : Int) (k : List Nat) : AI := ⟨i, some d, .o (.ibin o (.tmp a) (.cst (.int .i64 n))), none, k⟩
@[simp] abbrev Xq : Opd := .cst (.bool false)
@[simp] abbrev Xp : Opd := .cst (.bool true)
@[simp] abbrev Xw : D := .sl true 0 []
@[simp] abbrev Xx : List D := [.int .i64 0, .str ⟨#[]⟩, .int .i64 0]
@[simp] abbrev Xz : List D := [.int .i64 0, .str ⟨#[]⟩, .int .i64 0, .int .i64 0, .sl true 0 [], .sl true 0 []]
noncomputable abbrev Ko (n : Nat) (a : Ann) (f : Func) : Option AC := comp Tryz.prog n a chkD (f.body.getD .skip)
noncomputable abbrev Kc (n : Nat) : Bool := callable Tryz.prog n
noncomputable abbrev Kr (f : Func) : Option (List ARes) := cRess Tryz.prog f.results.toList
def Xan (f : Nat → List AI) (n : Nat) : List (List (Nat × List Nat)) := [(f n).map fun a => (a.ix, a.kill)]
def c14t : Nat → List AI
 | 0 => [Xo 0 2 (.asg (.cst Xw)) []]
 | 1 => [Xm 0 3 0 [2, 0]]
 | 2 => [Xj 0 5 .eql 3 1 [], Xa 1 4 5 [5]]
 | 3 => [Xo 0 6 (.bslice 9 false 1 5 [(.str nK0)] [(0, 1, (.cst (.str sK0))), (1, 1, (.cst (.str sK1))), (2, 1, (.cst (.str sK2))), (3, 1, (.cst (.str sK3))), (4, 1, (.cst (.str sK4)))]) [4, 3], Xa 1 2 6 [6]]
 | 4 => [Xj 0 8 .eql 3 3 [4], Xa 1 7 8 [8]]
 | 5 => [Xo 0 9 (.bslice 9 false 1 2 [(.str nK0)] [(0, 1, (.cst (.str sK5))), (1, 1, (.cst (.str sK6)))]) [7, 3], Xa 1 2 9 [9]]
 | 6 => [Xj 0 11 .eql 3 4 [7], Xa 1 10 11 [11]]
 | 7 => [Xo 0 12 (.bslice 9 false 1 6 [(.str nK0)] [(0, 1, (.cst (.str sK7))), (1, 1, (.cst (.str sK8))), (2, 1, (.cst (.str sK9))), (3, 1, (.cst (.str sK10))), (4, 1, (.cst (.str sK11))), (5, 1, (.cst (.str sK12)))]) [10, 3], Xa 1 2 12 [12]]
 | 8 => [Xj 0 14 .eql 3 5 [10], Xa 1 13 14 [14]]
 | 9 => [Xo 0 15 (.bslice 9 false 1 6 [(.str nK0)] [(0, 1, (.cst (.str sK13))), (1, 1, (.cst (.str sK14))), (2, 1, (.cst (.str sK15))), (3, 1, (.cst (.str sK16))), (4, 1, (.cst (.str sK17))), (5, 1, (.cst (.str sK18)))]) [13, 3], Xa 1 2 15 [15]]
 | 10 => [Xj 0 17 .eql 3 6 [13], Xa 1 16 17 [17]]
 | 11 => [Xo 0 18 (.bslice 9 false 1 9 [(.str nK0)] [(0, 1, (.cst (.str sK19))), (1, 1, (.cst (.str sK20))), (2, 1, (.cst (.str sK21))), (3, 1, (.cst (.str sK22))), (4, 1, (.cst (.str sK23))), (5, 1, (.cst (.str sK24))), (6, 1, (.cst (.str sK25))), (7, 1, (.cst (.str sK26))), (8, 1, (.cst (.str sK27)))]) [16, 3], Xa 1 2 18 [18]]
 | 12 => [Xj 0 20 .eql 3 10 [16], Xa 1 19 20 [20]]
 | 13 => [Xo 0 21 (.bslice 9 false 1 3 [(.str nK0)] [(0, 1, (.cst (.str sK28))), (1, 1, (.cst (.str sK29))), (2, 1, (.cst (.str sK30)))]) [19, 3], Xa 1 2 21 [21]]
 | 14 => [Xj 0 23 .eql 3 12 [19, 3], Xa 1 22 23 [23]]
 | 15 => [Xo 0 24 (.bslice 9 false 1 1 [(.str nK0)] [(0, 1, (.cst (.str sK31)))]) [22], Xa 1 2 24 [24]]
 | 16 => [Xo 0 2 (.asg (.cst Xw)) [22]]
 | _ => []
def c14c : AC := (.seq (.regT c14t 0) (.seq (.seq (.regT c14t 1) (.block 0 (.seq (.regT c14t 2) (.cond (.tmp 4) (.seq (.regT c14t 3) .ret) (.seq (.regT c14t 4) (.cond (.tmp 7) (.seq (.regT c14t 5) .ret) (.seq (.regT c14t 6) (.cond (.tmp 10) (.seq (.regT c14t 7) .ret) (.seq (.regT c14t 8) (.cond (.tmp 13) (.seq (.regT c14t 9) .ret) (.seq (.regT c14t 10) (.cond (.tmp 16) (.seq (.regT c14t 11) .ret) (.seq (.regT c14t 12) (.cond (.tmp 19) (.seq (.regT c14t 13) .ret) (.seq (.regT c14t 14) (.cond (.tmp 22) (.seq (.regT c14t 15) .ret) .skip)))))))))))))))) (.seq (.regT c14t 16) .ret)))
def c14a : Ann := Xan c14t
theorem c14ok : Ko 25 c14a Tryz.f14 = some (inst c14c) := by kernel_rfl
theorem c14call : Kc 14 = true := by kernel_rfl
theorem c14res : Kr Tryz.f14 = some [.tmp 2] := by kernel_rfl
def c18t : Nat → List AI
 | 0 => [Xo 0 2 (.asg (.cst (.str nK0))) []]
 | 1 => [Xm 0 3 0 [2], Xc 1 4 37 3 [3], Xo 2 5 (.not (Xt 4)) [4]]
 | 2 => [Xo 0 2 (.asg (.cst (.str nK0))) [5, 0]]
 | 3 => [Xm 0 6 0 [0, 5, 2], Xo 1 7 (.paddr 15 1 (.cst (.cptr [(.str nK0), (.str nK1), (.str nK2), (.str nK3), (.str nK4), (.str nK5), (.str nK6), (.str nK7), (.str nK8), (.str nK9), (.str nK10), (.str nK11), (.str nK12), (.str nK13), (.str nK14)])) (Xt 6)) [6], Xl 2 8 1 7 [7], Xa 3 2 8 [8]]
 | _ => []
def c18c : AC := (.seq (.regT c18t 0) (.seq (.seq (.regT c18t 1) (.cond (.tmp 5) (.seq (.regT c18t 2) .ret) .skip)) (.seq (.regT c18t 3) .ret)))
def c18a : Ann := Xan c18t
theorem c18ok : Ko 9 c18a Tryz.f18 = some (inst c18c) := by kernel_rfl
theorem c18call : Kc 18 = true := by kernel_rfl
theorem c18res : Kr Tryz.f18 = some [.tmp 2] := by kernel_rfl
def c20t : Nat → List AI
 | 0 => [Xo 0 2 (.asg (Xi 0)) []]
 | 1 => [Xm 0 3 0 [2], Xo 1 4 (.sbin .eql (Xt 3) (.cst (.str nK0))) [3]]
 | 2 => [Xo 0 2 (.asg (Xi 0)) [4, 0]]
 | 3 => [Xo 0 5 (.aslice 15 (.cst (.cptr [(.str nK0), (.str nK1), (.str nK2), (.str nK3), (.str nK4), (.str nK5), (.str nK6), (.str nK7), (.str nK8), (.str nK9), (.str nK10), (.str nK11), (.str nK12), (.str nK13), (.str nK14)]))) [4, 2], Xm 1 6 0 [0], Xd 2 7 38 5 6 [6, 5], Xo 3 8 (.mx false (Xi 0) (Xt 7)) [7], Xa 4 2 8 [8]]
 | _ => []
def c20c : AC := (.seq (.regT c20t 0) (.seq (.seq (.regT c20t 1) (.cond (.tmp 4) (.seq (.regT c20t 2) .ret) .skip)) (.seq (.regT c20t 3) .ret)))
def c20a : Ann := Xan c20t
theorem c20ok : Ko 9 c20a Tryz.f20 = some (inst c20c) := by kernel_rfl
theorem c20call : Kc 20 = true := by kernel_rfl
theorem c20res : Kr Tryz.f20 = some [.tmp 2] := by kernel_rfl
end Go.SL
set_option maxRecDepth 100000
namespace Go.SL
open Go.Proofs
def c45t : Nat → List AI
 | 0 => [Xo 0 4 (.alloc Xz 75) [], Xo 1 5 (.alloc [(.int .i64 0)] 3) [], Xo 2 6 (.alloc [(.int .i64 0)] 26) []]
 | 1 => [Xm 0 10 0 [0], Xc 1 11 64 10 [10], Xm 2 9 11 [11], Xe 3 12 9 0 [], Xe 4 13 9 1 [], Xe 5 14 9 2 [9], Xa 6 7 12 [12], Xs 7 1 5 13 [13], Xs 8 1 6 14 [14]]
 | 2 => [Xl 0 15 1 6 [], Xj 1 16 .neq 15 0 [15]]
 | 3 => [Xo 0 17 (.build Xz []) [], Xl 1 18 1 5 [], Xl 2 19 1 6 [], Xs 3 6 4 17 [1, 2], Xs 4 1 5 18 [2], Xs 5 1 6 19 []]
 | 4 => [Xo 0 20 (.mkfn (.func 65) [] [(Xt 4), (Xt 5), (Xt 6)]) [16], ⟨1, none, .defer (Xt 20) [], none, [20]⟩]
 | 5 => [Xm 0 21 7 [7], Xo 1 22 (.build [Xw, (.int .i64 0)] [(0, 1, (Xt 21))]) [21], Xo 2 23 (.box 131 (Xt 22)) [22], Xa 3 8 23 [23]]
 | 6 => [Xo 0 24 (.build Xz [(0, 1, (Xi 12))]) [], Xs 1 6 4 24 [24]]
 | 7 => [Xm 0 25 1 [1], Xm 1 26 8 [], ⟨2, (some 27), .call (Xt 25) [(Xt 26), (Xt 4)], none, [26, 25]⟩]
 | 8 => [Xm 0 28 8 [27, 8], ⟨1, (some 29), .call (.cst (.fn (.func 66) [] [])) [(Xt 28), (Xt 4), (Xi 0)], none, [28]⟩]
 | 9 => [Xg 0 30 6 4 [29], Xs 1 6 4 30 [30], ⟨2, none, .o (.store 1 (Xt 5) (Xi 0)), none, []⟩, ⟨3, none, .o (.store 1 (Xt 6) (Xi 0)), none, []⟩]
 | _ => []
def c45c : AC := (.seq (.regT c45t 0) (.seq (.regT c45t 1) (.seq (.seq (.regT c45t 2) (.cond (.tmp 16) (.seq (.regD [c45t 3]) .ret) .skip)) (.seq (.regT c45t 4) (.seq (.regT c45t 5) (.seq (.regT c45t 6) (.seq (.regT c45t 7) (.seq (.regT c45t 8) (.seq (.regT c45t 9) .ret)))))))))
def c45a : Ann := Xan c45t
theorem c45ok : Ko 31 c45a Tryz.f45 = some (inst c45c) := by kernel_rfl
theorem c45call : Kc 45 = true := by kernel_rfl
theorem c45res : Kr Tryz.f45 = some [.cell 4 true 6, .cell 5 false 1, .cell 6 false 1] := by kernel_rfl
def c47t : Nat → List AI
 | 0 => [Xo 0 2 (.box 75 (Xt 0)) [0], Xo 1 4 (.alloc [Xw] 94) [], Xo 2 5 (.alloc [(.int .i64 0)] 3) [], Xo 3 6 (.alloc [(.int .i64 0)] 26) []]
 | 1 => [Xo 0 8 (.mkfn (.func 71) [] [(Xt 4), (Xt 5), (Xt 6)]) [], ⟨1, none, .defer (Xt 8) [], none, [8]⟩]
 | 2 => [Xm 0 9 1 [1], Xo 1 10 (.build [Xw, Xw] [(0, 1, (Xt 9))]) [9], Xo 2 11 (.box 143 (Xt 10)) [10], Xa 3 7 11 [11]]
 | 3 => [Xm 0 12 7 [], Xg 1 13 6 2 [2], ⟨2, (some 14), .call (.cst (.fn (.func 72) [] [])) [(Xt 12), (Xt 13), (.cst .nilP)], none, [13, 12]⟩]
 | 4 => [Xm 0 15 7 [14, 7], Xn 1 16 15 [15], Xf 2 17 1 16 [16], Xl 3 18 1 17 [17], Xs 4 1 4 18 [18], ⟨5, none, .o (.store 1 (Xt 5) (Xi 0)), none, []⟩, ⟨6, none, .o (.store 1 (Xt 6) (Xi 0)), none, []⟩]
 | _ => []
def c47c : AC := (.seq (.regT c47t 0) (.seq (.regT c47t 1) (.seq (.regT c47t 2) (.seq (.regT c47t 3) (.seq (.regT c47t 4) .ret)))))
def c47a : Ann := Xan c47t
theorem c47ok : Ko 19 c47a Tryz.f47 = some (inst c47c) := by kernel_rfl
theorem c47call : Kc 47 = true := by kernel_rfl
theorem c47res : Kr Tryz.f47 = some [.cell 4 false 1, .cell 5 false 1, .cell 6 false 1] := by kernel_rfl
end Go.SL
set_option maxRecDepth 100000
namespace Go.SL
open Go.Proofs
def c65t : Nat → List AI
 | 0 => [Xo 0 8 (.eqnil 3 false (Xt 6)) []]
 | 1 => [Xa 0 3 6 [8, 0, 1, 2, 6]]
 | 2 => [Xo 0 9 (.tass 129 (.agg [(.int .i64 0), (.int .i64 0)]) (Xt 6)) [8], Xe 1 10 9 1 [], Xe 2 11 9 0 [9]]
 | 3 => [Xo 0 4 (.alloc [(.int .i64 0), (.int .i64 0)] 129) [10, 6], Xs 1 2 4 11 [11]]
 | 4 => [Xo 0 12 (.build Xz []) [], Xf 1 13 0 4 [], Xl 2 14 1 13 [], Xf 3 15 1 4 [], Xl 4 16 1 15 [], Xs 5 6 0 12 [1, 2, 3, 4], Xs 6 1 1 14 [3, 4], Xs 7 1 2 16 []]
 | 5 => [Xa 0 5 6 [11, 10, 0, 1, 2, 6]]
 | 6 => [Xm 0 7 5 [5], ⟨1, none, .panic (Xt 7), none, [7]⟩]
 | _ => []
def c65c : AC := (.block 0 (.seq (.regT c65t 0) (.cond (.tmp 8) (.regT c65t 1) (.seq (.regT c65t 2) (.cond (.tmp 10) (.seq (.regT c65t 3) (.regD [c65t 4])) (.seq (.regT c65t 5) (.regT c65t 6)))))))
def c65a : Ann := fun id => match id with
 | 3 => Xan c65t 0
 | 4 => Xan c65t 1
 | 5 => Xan c65t 2
 | 6 => Xan c65t 3
 | 7 => Xan c65t 4
 | 1 => Xan c65t 5
 | 2 => Xan c65t 6
 | n => Xan c65t n
theorem c65ok : comp Tryz.prog 17 c65a chkD (match Tryz.f65.body with | some (.seq _ r) => r | _ => .skip) = some (inst c65c) := by kernel_rfl
theorem c65call : Kc 65 = true := by kernel_rfl
theorem c65res : Kr Tryz.f65 = some [] := by kernel_rfl
def c71t : Nat → List AI
 | 0 => [Xo 0 8 (.eqnil 3 false (Xt 6)) []]
 | 1 => [Xa 0 3 6 [8, 0, 1, 2, 6]]
 | 2 => [Xo 0 9 (.tass 140 (.agg [(.int .i64 0)]) (Xt 6)) [8], Xe 1 10 9 1 [], Xe 2 11 9 0 [9]]
 | 3 => [Xo 0 4 (.alloc [(.int .i64 0)] 140) [10, 6], Xs 1 1 4 11 [11]]
 | 4 => [Xf 0 12 0 4 [], Xl 1 13 1 12 [], ⟨2, none, .o (.store 1 (Xt 0) (.cst Xw)), none, [0, 1]⟩, Xs 3 1 1 13 [], ⟨4, none, .o (.store 1 (Xt 2) (Xi 21)), none, []⟩]
 | 5 => [Xa 0 5 6 [11, 10, 0, 1, 2, 6]]
 | 6 => [Xm 0 7 5 [5], ⟨1, none, .panic (Xt 7), none, [7]⟩]
 | _ => []
def c71c : AC := (.block 0 (.seq (.regT c71t 0) (.cond (.tmp 8) (.regT c71t 1) (.seq (.regT c71t 2) (.cond (.tmp 10) (.seq (.regT c71t 3) (.regD [c71t 4])) (.seq (.regT c71t 5) (.regT c71t 6)))))))
def c71a : Ann := fun id => match id with
 | 3 => Xan c71t 0
 | 4 => Xan c71t 1
 | 5 => Xan c71t 2
 | 6 => Xan c71t 3
 | 7 => Xan c71t 4
 | 1 => Xan c71t 5
 | 2 => Xan c71t 6
 | n => Xan c71t n
theorem c71ok : comp Tryz.prog 14 c71a chkD (match Tryz.f71.body with | some (.seq _ r) => r | _ => .skip) = some (inst c71c) := by kernel_rfl
theorem c71call : Kc 71 = true := by kernel_rfl
theorem c71res : Kr Tryz.f71 = some [] := by kernel_rfl
def c72t : Nat → List AI
 | 0 => [Xo 0 4 (.box 75 (Xt 1)) [1]]
 | 1 => [Xg 0 13 6 4 [4], Xm 1 14 2 [2], Xo 2 15 (.build [(.int .i64 0), (.str ⟨#[]⟩), (.int .i64 0), (.int .i64 0), Xw, Xw, .nilP] [(0, 6, (Xt 13)), (6, 1, (Xt 14))]) [14, 13], Xo 3 16 (.box 187 (Xt 15)) [15], Xa 4 6 16 [16]]
 | 2 => [Xm 0 17 6 [], Xn 1 18 17 [17], Xf 2 19 0 18 [18], Xf 3 20 4 19 [19], Xl 4 21 1 20 [20], Xo 5 22 (.len false (Xt 21)) [], Xo 6 23 (.move (Xi 0)) []]
 | 3 => [Xh 0 24 .lss 23 22 []]
 | 4 => [Xm 0 25 23 [24], Xo 1 26 (.iaddr 1 (Xt 21) (Xt 23)) [], Xl 2 27 1 26 [26], Xa 3 7 25 [25], Xa 4 8 27 [27]]
 | 5 => [Xm 0 29 8 [], Xc 1 30 99 29 [29], Xm 2 28 30 [30], Xe 3 31 28 0 [], Xe 4 32 28 1 [28], Xo 5 9 (.alloc [(.int .i64 0), (.str ⟨#[]⟩), (.int .i64 0), (.int .i64 0), (.int .i64 0), (.bool false)] 189) [], Xs 6 6 9 31 [9, 31], Xa 7 10 32 [32]]
 | 6 => [Xm 0 33 10 [10], Xm 1 34 33 [33], Xv 2 35 (.move (Xt 6)) 34 [], Xv 3 36 (.nilc (Xt 35)) 34 [], Xv 4 37 (.faddr 0 (Xt 36)) 34 [], Xv 5 38 (.faddr 4 (Xt 37)) 34 [], Xv 6 39 (.load false 1 (Xt 38)) 34 [], Xv 7 40 (.move (Xt 7)) 34 [7], Xv 8 41 (.lslice 1 (Xt 39) none (some (Xt 40))) 34 [], Xv 9 42 (.move (Xt 8)) 34 [8], ⟨10, (some 43), .call (.cst (.fn (.func 100) [] [])) [(Xt 41), (Xt 42)], (some (34, false)), []⟩, Xo 11 44 (.pick (Xt 34) Xp (Xt 43)) [34]]
 | 7 => [Xm 0 45 6 [44], Xn 1 46 45 [45], Xf 2 47 0 46 [46], Xf 3 48 2 47 [47], Xl 4 49 1 48 [48], Xo 5 50 (.build [(.int .i64 0)] [(0, 1, (Xt 49))]) [49], Xo 6 51 (.mkif 140 (Xt 50)) [50], ⟨7, none, .panic (Xt 51), none, [51]⟩]
 | 8 => [Xb 0 52 .add 23 1 [44, 23], Xm 1 23 52 [52]]
 | 10 => [Xm 0 53 6 [23, 35, 36, 37, 38, 39, 40, 41, 42, 43, 22, 21], Xn 1 54 53 [53], Xf 2 55 0 54 [54], Xf 3 56 5 55 [55], Xl 4 57 1 56 [56], Xo 5 58 (.len false (Xt 57)) [], Xo 6 59 (.move (Xi 0)) []]
 | 11 => [Xh 0 60 .lss 59 58 []]
 | 12 => [Xo 0 61 (.iaddr 6 (Xt 57) (Xt 59)) [60], Xg 1 62 6 61 [61], Xo 2 12 (.alloc Xz 75) [], Xs 3 6 12 62 [62]]
 | 13 => [Xm 0 63 0 [], Xg 1 64 6 12 [12], Xm 2 65 6 [], ⟨3, (some 66), .call (.cst (.fn (.func 101) [] [])) [(Xt 63), (Xt 64), (Xt 65), Xq], none, [65, 64, 63]⟩]
 | 14 => [Xb 0 67 .add 59 1 [66, 59], Xm 1 59 67 [67]]
 | _ => []
def c72l9 : AC := (.seq (.regT c72t 3) (.seq (.cond (.tmp 24) .skip (.exit 0)) (.seq (.block 1 (.seq (.regT c72t 4) (.seq (.regT c72t 5) (.seq (.regT c72t 6) (.cond (.tmp 44) (.regT c72t 7) .skip))))) (.regT c72t 8))))
def c72l15 : AC := (.seq (.regT c72t 11) (.seq (.cond (.tmp 60) .skip (.exit 2)) (.seq (.block 3 (.seq (.regT c72t 12) (.regT c72t 13))) (.regT c72t 14))))
def c72c : AC := (.seq (.regT c72t 0) (.seq (.regT c72t 1) (.seq (.seq (.regT c72t 2) (.block 0 (.loop c72l9))) (.seq (.regT c72t 10) (.block 2 (.loop c72l15))))))
def c72a : Ann := fun id => match id with
 | 9 => Xan c72t 10
 | 10 => Xan c72t 3
 | 11 => Xan c72t 12
 | 12 => Xan c72t 13
 | 13 => Xan c72t 14
 | n => Xan c72t n
theorem c72ok : Ko 68 c72a Tryz.f72 = some (inst c72c) := by kernel_rfl
theorem c72call : Kc 72 = true := by kernel_rfl
theorem c72res : Kr Tryz.f72 = some [] := by kernel_rfl
end Go.SL
set_option maxRecDepth 100000
namespace Go.SL
open Go.Proofs
def c92t : Nat → List AI
 | 0 => [Xm 0 4 0 [], Xm 1 5 1 [], Xd 2 6 124 4 5 [5, 4]]
 | 1 => [Xm 0 7 0 [6], Xn 1 8 7 [], Xf 2 9 1 8 [8], Xl 3 10 1 9 [9], Xb 4 11 .add 10 1 [10], Xn 5 12 7 [7], Xf 6 13 1 12 [12], Xs 7 1 13 11 [13, 11]]
 | _ => []
def c92l2 : AC := (.seq (.seq (.regT c92t 0) (.cond (.tmp 6) .skip (.exit 0))) (.block 1 (.regT c92t 1)))
def c92c : AC := (.block 0 (.loop c92l2))
def c92a : Ann := Xan c92t
theorem c92ok : Ko 14 c92a Tryz.f92 = some (inst c92c) := by kernel_rfl
theorem c92call : Kc 92 = true := by kernel_rfl
theorem c92res : Kr Tryz.f92 = some [] := by kernel_rfl
def c94t : Nat → List AI
 | 0 => [Xo 0 4 (.asg (Xi 0)) []]
 | 1 => [Xm 0 7 1 [4, 1], Xo 1 8 (.range (Xt 7)) [7]]
 | 2 => [Xo 0 9 (.next (Xt 8)) [4, 16, 5], Xe 1 10 9 0 []]
 | 3 => [Xe 0 11 9 1 [10], Xe 1 12 9 2 [9], Xa 2 5 11 [11], Xa 3 6 12 [12]]
 | 4 => [Xm 0 13 6 [6], Xo 1 14 (.conv .u8 (Xt 13)) [13], Xm 2 15 0 [], Xh 3 16 .eql 14 15 [15, 14]]
 | 5 => [Xm 0 17 5 [16, 5, 8, 0], Xa 1 4 17 [17]]
 | 7 => [Xo 0 4 (.asg (.cst (.int .i64 (-1)))) [0, 8, 5, 16]]
 | _ => []
def c94l6 : AC := (.seq (.regT c94t 2) (.seq (.cond (.tmp 10) .skip (.exit 0)) (.block 1 (.seq (.regT c94t 3) (.seq (.regT c94t 4) (.cond (.tmp 16) (.seq (.regT c94t 5) .ret) .skip))))))
def c94c : AC := (.seq (.regT c94t 0) (.seq (.seq (.regT c94t 1) (.block 0 (.loop c94l6))) (.seq (.regT c94t 7) .ret)))
def c94a : Ann := fun id => match id with
 | 6 => Xan c94t 7
 | n => Xan c94t n
theorem c94ok : Ko 18 c94a Tryz.f94 = some (inst c94c) := by kernel_rfl
theorem c94call : Kc 94 = true := by kernel_rfl
theorem c94res : Kr Tryz.f94 = some [.tmp 4] := by kernel_rfl
def c95t : Nat → List AI
 | 0 => [Xo 0 4 (.asg (Xi 0)) []]
 | 1 => [Xm 0 5 0 [4, 0], Xm 1 6 1 [1], Xd 2 7 125 5 6 [6, 5], Xa 3 4 7 [7]]
 | _ => []
def c95c : AC := (.seq (.regT c95t 0) (.seq (.regT c95t 1) .ret))
def c95a : Ann := Xan c95t
theorem c95ok : Ko 8 c95a Tryz.f95 = some (inst c95c) := by kernel_rfl
theorem c95call : Kc 95 = true := by kernel_rfl
theorem c95res : Kr Tryz.f95 = some [.tmp 4] := by kernel_rfl
end Go.SL
set_option maxRecDepth 100000
namespace Go.SL
open Go.Proofs
def c124t : Nat → List AI
 | 0 => [Xo 0 4 (.asg Xq) []]
 | 1 => [Xm 0 5 0 [], Xn 1 6 5 [], Xf 2 7 1 6 [], Xl 3 8 1 7 [], Xm 4 9 0 [], Xn 5 10 9 [], Xf 6 11 0 10 [], Xl 7 12 1 11 [], Xo 8 13 (.len true (Xt 12)) [], Xh 9 14 .lss 8 13 [], Xm 10 15 14 [], Xu 11 16 (.move (Xt 1)) 15 [], Xu 12 17 (.move (Xt 0)) 15 [], Xu 13 18 (.nilc (Xt 17)) 15 [], Xu 14 19 (.faddr 0 (Xt 18)) 15 [], Xu 15 20 (.load false 1 (Xt 19)) 15 [], Xu 16 21 (.move (Xt 0)) 15 [], Xu 17 22 (.nilc (Xt 21)) 15 [], Xu 18 23 (.faddr 1 (Xt 22)) 15 [], Xu 19 24 (.load false 1 (Xt 23)) 15 [], Xu 20 25 (.index (Xt 20) (Xt 24)) 15 [], ⟨21, (some 26), .call (Xt 16) [(Xt 25)], (some (15, true)), []⟩, Xo 22 27 (.pick (Xt 15) (Xt 26) Xq) [], Xa 23 4 27 []]
 | _ => []
def c124c : AC := (.seq (.regT c124t 0) (.seq (.regD [c124t 1]) .ret))
def c124a : Ann := Xan c124t
theorem c124ok : Ko 28 c124a Tryz.f124 = some (inst c124c) := by kernel_rfl
theorem c124call : Kc 124 = true := by kernel_rfl
theorem c124res : Kr Tryz.f124 = some [.tmp 4] := by kernel_rfl
def c125t : Nat → List AI
 | 0 => [Xo 0 4 (.asg (Xi 0)) []]
 | 1 => [Xm 0 5 0 [4, 0], Xm 1 6 1 [1], Xd 2 7 159 5 6 [6, 5], Xa 3 4 7 [7]]
 | _ => []
def c125c : AC := (.seq (.regT c125t 0) (.seq (.regT c125t 1) .ret))
def c125a : Ann := Xan c125t
theorem c125ok : Ko 8 c125a Tryz.f125 = some (inst c125c) := by kernel_rfl
theorem c125call : Kc 125 = true := by kernel_rfl
theorem c125res : Kr Tryz.f125 = some [.tmp 4] := by kernel_rfl
def c126t : Nat → List AI
 | 0 => [Xo 0 2 (.asg Xq) []]
 | 1 => [Xm 0 3 0 [2], Xo 1 4 (.ibin .or (Xt 3) (.cst (.int .u8 32))) [3], Xo 2 5 (.icmp .geq (Xt 4) (.cst (.int .u8 97))) [4], Xm 3 6 5 [5], Xu 4 7 (.move (Xt 0)) 6 [0], Xu 5 8 (.ibin .or (Xt 7) (.cst (.int .u8 32))) 6 [7], Xu 6 9 (.icmp .leq (Xt 8) (.cst (.int .u8 122))) 6 [8], Xo 7 10 (.pick (Xt 6) (Xt 9) Xq) [9, 6], Xa 8 2 10 [10]]
 | _ => []
def c126c : AC := (.seq (.regT c126t 0) (.seq (.regT c126t 1) .ret))
def c126a : Ann := Xan c126t
theorem c126ok : Ko 11 c126a Tryz.f126 = some (inst c126c) := by kernel_rfl
theorem c126call : Kc 126 = true := by kernel_rfl
theorem c126res : Kr Tryz.f126 = some [.tmp 2] := by kernel_rfl
def c127t : Nat → List AI
 | 0 => [Xo 0 2 (.asg Xq) []]
 | 1 => [Xm 0 3 0 [2], ⟨1, (some 4), .call (.cst (.fn (.func 124) [] [])) [(Xt 3), (.cst (.fn (.func 126) [] []))], none, [3]⟩, Xo 2 5 (.not (Xt 4)) [4]]
 | 2 => [Xo 0 2 (.asg Xq) [5, 0]]
 | 3 => [Xm 0 6 0 [0, 5, 2], ⟨1, (some 7), .call (.cst (.fn (.func 92) [] [])) [(Xt 6), (.cst (.fn (.func 160) [] []))], none, [6]⟩]
 | 4 => [Xo 0 2 (.asg Xp) [7]]
 | _ => []
def c127c : AC := (.seq (.regT c127t 0) (.seq (.seq (.regT c127t 1) (.cond (.tmp 5) (.seq (.regT c127t 2) .ret) .skip)) (.seq (.regT c127t 3) (.seq (.regT c127t 4) .ret))))
def c127a : Ann := Xan c127t
theorem c127ok : Ko 8 c127a Tryz.f127 = some (inst c127c) := by kernel_rfl
theorem c127call : Kc 127 = true := by kernel_rfl
theorem c127res : Kr Tryz.f127 = some [.tmp 2] := by kernel_rfl
def c128t : Nat → List AI
 | 0 => [Xo 0 2 (.asg Xq) []]
 | 1 => [Xm 0 3 0 [2], ⟨1, (some 4), .call (.cst (.fn (.func 132) [] [])) [(Xt 3), (Xi 0)], none, [3]⟩, Xo 2 5 (.icmp .eql (Xt 4) (.cst (.int .u8 58))) [4], Xm 3 6 5 [5], Xu 4 7 (.move (Xt 0)) 6 [0], ⟨5, (some 8), .call (.cst (.fn (.func 132) [] [])) [(Xt 7), (Xi 1)], (some (6, true)), [7]⟩, Xu 6 9 (.icmp .neq (Xt 8) (.cst (.int .u8 61))) 6 [8], Xo 7 10 (.pick (Xt 6) (Xt 9) Xq) [9, 6], Xa 8 2 10 [10]]
 | _ => []
def c128c : AC := (.seq (.regT c128t 0) (.seq (.regT c128t 1) .ret))
def c128a : Ann := Xan c128t
theorem c128ok : Ko 11 c128a Tryz.f128 = some (inst c128c) := by kernel_rfl
theorem c128call : Kc 128 = true := by kernel_rfl
theorem c128res : Kr Tryz.f128 = some [.tmp 2] := by kernel_rfl
def c129t : Nat → List AI
 | 0 => [Xo 0 2 (.asg Xq) []]
 | 1 => [Xm 0 3 0 [2], Xo 1 4 (.icmp .geq (Xt 3) (.cst (.int .u8 48))) [3], Xm 2 5 4 [4], Xu 3 6 (.move (Xt 0)) 5 [0], Xu 4 7 (.icmp .leq (Xt 6) (.cst (.int .u8 57))) 5 [6], Xo 5 8 (.pick (Xt 5) (Xt 7) Xq) [7, 5], Xa 6 2 8 [8]]
 | _ => []
def c129c : AC := (.seq (.regT c129t 0) (.seq (.regT c129t 1) .ret))
def c129a : Ann := Xan c129t
theorem c129ok : Ko 9 c129a Tryz.f129 = some (inst c129c) := by kernel_rfl
theorem c129call : Kc 129 = true := by kernel_rfl
theorem c129res : Kr Tryz.f129 = some [.tmp 2] := by kernel_rfl
def c132t : Nat → List AI
 | 0 => [Xo 0 4 (.asg (.cst (.int .u8 0))) []]
 | 1 => [Xm 0 5 0 [], Xn 1 6 5 [], Xf 2 7 1 6 [], Xl 3 8 1 7 [], Xm 4 9 1 [], Xo 5 10 (.ibin .add (Xt 8) (Xt 9)) [], Xm 6 11 0 [], Xn 7 12 11 [], Xf 8 13 0 12 [], Xl 9 14 1 13 [], Xo 10 15 (.len true (Xt 14)) [], Xh 11 16 .lss 10 15 []]
 | 2 => [Xm 0 17 0 [], Xn 1 18 17 [], Xf 2 19 0 18 [], Xl 3 20 1 19 [], Xm 4 21 0 [], Xn 5 22 21 [], Xf 6 23 1 22 [], Xl 7 24 1 23 [], Xm 8 25 1 [], Xo 9 26 (.ibin .add (Xt 24) (Xt 25)) [], Xo 10 27 (.index (Xt 20) (Xt 26)) [], Xa 11 4 27 []]
 | 3 => [Xo 0 4 (.asg (.cst (.int .u8 0))) [1, 0, 16]]
 | _ => []
def c132c : AC := (.seq (.regT c132t 0) (.seq (.seq (.regD [c132t 1]) (.cond (.tmp 16) (.seq (.regD [c132t 2]) .ret) .skip)) (.seq (.regT c132t 3) .ret)))
def c132a : Ann := Xan c132t
theorem c132ok : Ko 28 c132a Tryz.f132 = some (inst c132c) := by kernel_rfl
theorem c132call : Kc 132 = true := by kernel_rfl
theorem c132res : Kr Tryz.f132 = some [.tmp 4] := by kernel_rfl
def c134t : Nat → List AI
 | 0 => [Xo 0 2 (.asg Xq) []]
 | 1 => [Xm 0 4 0 [2], Xn 1 5 4 [4], Xf 2 6 1 5 [5], Xl 3 7 1 6 [6], Xa 4 3 7 [7]]
 | 2 => [Xm 0 8 0 [], Xn 1 9 8 [8], Xf 2 10 1 9 [9], Xl 3 11 1 10 [10], Xm 4 12 3 [], Xb 5 13 .add 12 2 [12], Xh 6 14 .lss 11 13 [13, 11], Xm 7 15 14 [14], Xu 8 16 (.move (Xt 0)) 15 [], ⟨9, (some 17), .call (.cst (.fn (.func 124) [] [])) [(Xt 16), (.cst (.fn (.func 170) [] []))], (some (15, true)), []⟩, Xo 10 18 (.pick (Xt 15) (Xt 17) Xq) [15]]
 | 3 => [Xm 0 19 0 [18], Xn 1 20 19 [], Xf 2 21 1 20 [20], Xl 3 22 1 21 [21], Xb 4 23 .add 22 1 [22], Xn 5 24 19 [19], Xf 6 25 1 24 [24], Xs 7 1 25 23 [25, 23]]
 | 5 => [Xm 0 26 0 [16, 17, 0], Xn 1 27 26 [26], Xf 2 28 1 27 [27], Xl 3 29 1 28 [28], Xm 4 30 3 [3], Xh 5 31 .gtr 29 30 [30, 29], Xa 6 2 31 [31]]
 | _ => []
def c134l4 : AC := (.seq (.seq (.regT c134t 2) (.cond (.tmp 18) .skip (.exit 0))) (.block 1 (.regT c134t 3)))
def c134c : AC := (.seq (.regT c134t 0) (.seq (.regT c134t 1) (.seq (.block 0 (.loop c134l4)) (.seq (.regT c134t 5) .ret))))
def c134a : Ann := fun id => match id with
 | 4 => Xan c134t 5
 | n => Xan c134t n
theorem c134ok : Ko 32 c134a Tryz.f134 = some (inst c134c) := by kernel_rfl
theorem c134call : Kc 134 = true := by kernel_rfl
theorem c134res : Kr Tryz.f134 = some [.tmp 2] := by kernel_rfl
end Go.SL
set_option maxRecDepth 100000
namespace Go.SL
open Go.Proofs
def c138t : Nat → List AI
 | 0 => [Xo 0 2 (.asg (.cst (.str ⟨#[]⟩))) []]
 | 1 => [Xm 0 3 0 [], Xn 1 4 3 [], Xf 2 5 1 4 [], Xl 3 6 1 5 [], Xo 4 7 (.usd (Xt 6)) [], Xm 5 8 0 [], Xn 6 9 8 [], Xf 7 10 1 9 [], Xl 8 11 1 10 [], Xo 9 12 (.len false (Xt 11)) [], Xo 10 13 (.ustr 5 (Xt 7) (Xt 12)) [], Xa 11 2 13 []]
 | _ => []
def c138c : AC := (.seq (.regT c138t 0) (.seq (.regD [c138t 1]) .ret))
def c138a : Ann := Xan c138t
theorem c138ok : Ko 14 c138a Tryz.f138 = some (inst c138c) := by kernel_rfl
theorem c138call : Kc 138 = true := by kernel_rfl
theorem c138res : Kr Tryz.f138 = some [.tmp 2] := by kernel_rfl
def c160t : Nat → List AI
 | 0 => [Xo 0 2 (.asg Xq) []]
 | 1 => [Xm 0 3 0 [2], Xc 1 4 126 3 [3], Xm 2 5 4 [4], Xv 3 6 (.move (Xt 0)) 5 [], ⟨4, (some 7), .call (.cst (.fn (.func 129) [] [])) [(Xt 6)], (some (5, false)), [6]⟩, Xo 5 8 (.pick (Xt 5) Xp (Xt 7)) [7, 5], Xm 6 9 8 [8], Xv 7 10 (.move (Xt 0)) 9 [0], Xv 8 11 (.icmp .eql (Xt 10) (.cst (.int .u8 95))) 9 [10], Xo 9 12 (.pick (Xt 9) Xp (Xt 11)) [11, 9], Xa 10 2 12 [12]]
 | _ => []
def c160c : AC := (.seq (.regT c160t 0) (.seq (.regT c160t 1) .ret))
def c160a : Ann := Xan c160t
theorem c160ok : Ko 13 c160a Tryz.f160 = some (inst c160c) := by kernel_rfl
theorem c160call : Kc 160 = true := by kernel_rfl
theorem c160res : Kr Tryz.f160 = some [.tmp 2] := by kernel_rfl
end Go.SL
set_option maxRecDepth 100000
namespace Go.SL
open Go.Proofs
def c168t : Nat → List AI
 | 0 => [Xo 0 2 (.asg (Xi 0)) []]
 | 1 => [Xm 0 3 0 [2, 0], Xn 1 4 3 [3], Xf 2 5 1 4 [4], Xl 3 6 1 5 [5], Xo 4 7 (.len false (Xt 6)) [6], Xa 5 2 7 [7]]
 | _ => []
def c168c : AC := (.seq (.regT c168t 0) (.seq (.regT c168t 1) .ret))
def c168a : Ann := Xan c168t
theorem c168ok : Ko 8 c168a Tryz.f168 = some (inst c168c) := by kernel_rfl
theorem c168call : Kc 168 = true := by kernel_rfl
theorem c168res : Kr Tryz.f168 = some [.tmp 2] := by kernel_rfl
def c169t : Nat → List AI
 | 0 => [Xo 0 4 (.asg (.cst .nilI)) []]
 | 1 => [Xm 0 5 0 [4], Xc 1 6 196 5 [5]]
 | 2 => [Xm 0 7 0 [6], Xm 1 8 0 [0], Xn 2 9 8 [8], Xf 3 10 1 9 [9], Xl 4 11 1 10 [10], Xm 5 12 1 [1], Xo 6 13 (.bslice 5 false 1 1 [(.int .u8 0)] [(0, 1, (Xt 12))]) [12], Xo 7 14 (.append 5 1 1 [(.int .u8 0)] (Xt 11) (Xt 13)) [13, 11], Xn 8 15 7 [7], Xf 9 16 1 15 [15], Xs 10 1 16 14 [16, 14]]
 | 3 => [Xo 0 4 (.asg (.cst .nilI)) []]
 | _ => []
def c169c : AC := (.seq (.regT c169t 0) (.seq (.regT c169t 1) (.seq (.regT c169t 2) (.seq (.regT c169t 3) .ret))))
def c169a : Ann := Xan c169t
theorem c169ok : Ko 17 c169a Tryz.f169 = some (inst c169c) := by kernel_rfl
theorem c169call : Kc 169 = true := by kernel_rfl
theorem c169res : Kr Tryz.f169 = some [.tmp 4] := by kernel_rfl
def c170t : Nat → List AI
 | 0 => [Xo 0 2 (.asg Xq) []]
 | 1 => [Xm 0 3 0 [2, 0], ⟨1, (some 4), .call (.cst (.fn (.func 94) [] [])) [(Xt 3), (.cst (.str ⟨#[43, 45, 42, 47, 92, 60, 62, 61, 126, 44, 64, 37, 38, 63]⟩))], none, [3]⟩, Xj 2 5 .geq 4 0 [4], Xa 3 2 5 [5]]
 | _ => []
def c170c : AC := (.seq (.regT c170t 0) (.seq (.regT c170t 1) .ret))
def c170a : Ann := Xan c170t
theorem c170ok : Ko 6 c170a Tryz.f170 = some (inst c170c) := by kernel_rfl
theorem c170call : Kc 170 = true := by kernel_rfl
theorem c170res : Kr Tryz.f170 = some [.tmp 2] := by kernel_rfl
def c174t : Nat → List AI
 | 0 => [Xo 0 4 (.asg (Xi 0)) [], Xo 1 5 (.asg (.cst .nilI)) [4]]
 | 1 => [Xm 0 6 0 [5], Xc 1 7 196 6 [6]]
 | 2 => [Xm 0 8 0 [7], Xm 1 9 0 [0], Xn 2 10 9 [9], Xf 3 11 1 10 [10], Xl 4 12 1 11 [11], Xm 5 13 1 [], Xo 6 14 (.append 5 1 1 [(.int .u8 0)] (Xt 12) (Xt 13)) [13, 12], Xn 7 15 8 [8], Xf 8 16 1 15 [15], Xs 9 1 16 14 [16, 14]]
 | 3 => [Xm 0 17 1 [1], Xo 1 18 (.len true (Xt 17)) [17], Xa 2 4 18 [18], Xo 3 5 (.asg (.cst .nilI)) []]
 | _ => []
def c174c : AC := (.seq (.regT c174t 0) (.seq (.regT c174t 1) (.seq (.regT c174t 2) (.seq (.regT c174t 3) .ret))))
def c174a : Ann := Xan c174t
theorem c174ok : Ko 19 c174a Tryz.f174 = some (inst c174c) := by kernel_rfl
theorem c174call : Kc 174 = true := by kernel_rfl
theorem c174res : Kr Tryz.f174 = some [.tmp 4, .tmp 5] := by kernel_rfl
def c196t : Nat → List AI
 | 0 => [Xm 0 2 0 [], Xn 1 3 2 [2], Xf 2 4 0 3 [3], Xl 3 5 1 4 [4], Xo 4 6 (.eqnil 0 false (Xt 5)) [5]]
 | 1 => [Xm 0 7 0 [6], Xm 1 8 0 [0], Xo 2 9 (.p2u (Xt 8)) [8], Xc 3 10 215 9 [9], Xo 4 11 (.u2p [(234, 2), (235, 2), (236, 2), (237, 2)] (Xt 10)) [10], Xn 5 12 7 [7], Xf 6 13 0 12 [12], Xs 7 1 13 11 [13, 11]]
 | 2 => [Xm 0 14 0 [6], Xn 1 15 14 [14], Xf 2 16 0 15 [15], Xl 3 17 1 16 [16], Xm 4 18 0 [0], Xo 5 19 (.peq true (Xt 17) (Xt 18)) [18, 17]]
 | _ => []
def c196c : AC := (.seq (.regT c196t 0) (.cond (.tmp 6) (.regT c196t 1) (.seq (.regT c196t 2) (.cond (.tmp 19) .no .skip))))
def c196a : Ann := Xan c196t
theorem c196ok : Ko 20 c196a Tryz.f196 = some (inst c196c) := by kernel_rfl
theorem c196call : Kc 196 = true := by kernel_rfl
theorem c196res : Kr Tryz.f196 = some [] := by kernel_rfl
end Go.SL
set_option maxRecDepth 100000
namespace Go.SL
open Go.Proofs
def c214t : Nat → List AI
 | 0 => [Xo 0 2 (.asg (.cst Xw)) []]
 | 1 => [Xo 0 3 (.alloc [Xw] 37) [2]]
 | 2 => [Xm 0 7 0 [0], Xc 1 8 166 7 [7], Xc 2 9 224 8 [8]]
 | 3 => [Xa 0 5 11 [11, 10, 9]]
 | 4 => [Xm 0 12 5 [], Xo 1 13 (.shift .shr (Xt 12) (.cst (.int .u64 24))) [12], Xo 2 14 (.conv .u8 (Xt 13)) [13], Xm 3 15 5 [], Xo 4 16 (.shift .shr (Xt 15) (.cst (.int .u64 16))) [15], Xo 5 17 (.conv .u8 (Xt 16)) [16], Xm 6 18 5 [], Xo 7 19 (.shift .shr (Xt 18) (.cst (.int .u64 8))) [18], Xo 8 20 (.conv .u8 (Xt 19)) [19], Xm 9 21 5 [5], Xo 10 22 (.conv .u8 (Xt 21)) [21], Xo 11 23 (.build [(.int .u8 0), (.int .u8 0), (.int .u8 0), (.int .u8 0)] [(0, 1, (Xt 14)), (1, 1, (Xt 17)), (2, 1, (Xt 20)), (3, 1, (Xt 22))]) [22, 20, 17, 14], Xo 12 6 (.alloc [(.int .u8 0), (.int .u8 0), (.int .u8 0), (.int .u8 0)] 298) [], Xs 13 4 6 23 [23]]
 | 5 => [Xl 0 24 1 3 [], Xo 1 25 (.aslice 4 (Xt 6)) [0], Xo 2 26 (.append 5 1 1 [(.int .u8 0)] (Xt 24) (Xt 25)) [], Xs 3 1 3 26 []]
 | 7 => [Xl 0 27 1 3 [9], Xo 1 28 (.len false (Xt 27)) [27], Xj 2 29 .gtr 28 0 [28], Xm 3 30 29 [29], Xu 4 31 (.load false 1 (Xt 3)) 30 [], Xu 5 32 (.iaddr 1 (Xt 31) (Xi 0)) 30 [], Xu 6 33 (.load false 1 (Xt 32)) 30 [], Xu 7 34 (.icmp .eql (Xt 33) (.cst (.int .u8 0))) 30 [], Xo 8 35 (.pick (Xt 30) (Xt 34) Xq) [30]]
 | 8 => [Xl 0 36 1 3 [35], Xo 1 37 (.lslice 1 (Xt 36) (some (Xi 1)) none) [36], Xs 2 1 3 37 [37]]
 | 10 => [Xl 0 38 1 3 [31, 32, 33, 34, 3], Xc 1 39 225 38 [38], Xa 2 2 39 [39]]
 | _ => []
def c214r6a : AC := (.regT c214t 3)
def c214r6b : AC := (.block 1 (.seq (.regT c214t 4) (.regD [c214t 5])))
def c214l9 : AC := (.seq (.seq (.regT c214t 7) (.cond (.tmp 35) .skip (.exit 2))) (.block 3 (.regT c214t 8)))
def c214c : AC := (.seq (.regT c214t 0) (.seq (.regT c214t 1) (.seq (.seq (.regT c214t 2) (.block 0 (.rangeF (.tmp 9) [10, 11] c214r6a c214r6b))) (.seq (.block 2 (.loop c214l9)) (.seq (.regT c214t 10) .ret)))))
def c214a : Ann := fun id => match id with
 | 6 => Xan c214t 7
 | 7 => Xan c214t 8
 | 8 => Xan c214t 10
 | n => Xan c214t n
theorem c214ok : Ko 40 c214a Tryz.f214 = some (inst c214c) := by kernel_rfl
theorem c214call : Kc 214 = true := by kernel_rfl
theorem c214res : Kr Tryz.f214 = some [.tmp 2] := by kernel_rfl
def c224t : Nat → List AI
 | 0 => [Xo 0 1 (.box 257 (Xt 0)) [0], Xo 1 2 (.asg (.cst .nilF)) []]
 | 1 => [Xo 0 3 (.mkfn (.func 234) [] [(Xt 1)]) [2, 1], Xa 1 2 3 [3]]
 | _ => []
def c224c : AC := (.seq (.regT c224t 0) (.seq (.regT c224t 1) .ret))
def c224a : Ann := Xan c224t
theorem c224ok : Ko 4 c224a Tryz.f224 = some (inst c224c) := by kernel_rfl
theorem c224call : Kc 224 = true := by kernel_rfl
theorem c224res : Kr Tryz.f224 = some [.tmp 2] := by kernel_rfl
def c225t : Nat → List AI
 | 0 => [Xo 0 2 (.asg (.cst Xw)) []]
 | 1 => [Xm 0 3 0 [2], Xo 1 4 (.eqnil 1 false (Xt 3)) [3]]
 | 2 => [Xo 0 2 (.asg (.cst Xw)) [4, 0]]
 | 3 => [Xo 0 5 (.bslice 5 false 1 0 [(.int .u8 0)] []) [4, 2], Xm 1 6 0 [0], Xo 2 7 (.append 5 1 1 [(.int .u8 0)] (Xt 5) (Xt 6)) [6, 5], Xa 3 2 7 [7]]
 | _ => []
def c225c : AC := (.seq (.regT c225t 0) (.seq (.seq (.regT c225t 1) (.cond (.tmp 4) (.seq (.regT c225t 2) .ret) .skip)) (.seq (.regT c225t 3) .ret)))
def c225a : Ann := Xan c225t
theorem c225ok : Ko 8 c225a Tryz.f225 = some (inst c225c) := by kernel_rfl
theorem c225call : Kc 225 = true := by kernel_rfl
theorem c225res : Kr Tryz.f225 = some [.tmp 2] := by kernel_rfl
def c234t : Nat → List AI
 | 0 => [Xl 0 4 1 1 [], Xo 1 5 (.len false (Xt 4)) [4], Xb 2 6 .sub 5 1 [5], Xa 3 3 6 [6]]
 | 1 => [Xm 0 7 3 [], Xj 1 8 .geq 7 0 [7]]
 | 2 => [Xm 0 11 0 [8], Xm 1 12 3 [], Xl 2 13 1 1 [], Xm 3 14 3 [], Xo 4 15 (.iaddr 1 (Xt 13) (Xt 14)) [14, 13], Xl 5 16 1 15 [15], ⟨6, (some 17), .call (Xt 11) [(Xt 12), (Xt 16)], none, [16, 12, 11]⟩, Xo 7 18 (.not (Xt 17)) [17]]
 | 3 => [Xm 0 9 3 [18, 3], Xb 1 10 .sub 9 1 [9], Xa 2 3 10 [10]]
 | _ => []
def c234l4 : AC := (.seq (.seq (.regT c234t 1) (.cond (.tmp 8) .skip (.exit 0))) (.seq (.block 1 (.seq (.regT c234t 2) (.cond (.tmp 18) .ret .skip))) (.regT c234t 3)))
def c234c : AC := (.seq (.regT c234t 0) (.block 0 (.loop c234l4)))
def c234a : Ann := fun id => match id with
 | 3 => Xan c234t 2
 | 2 => Xan c234t 3
 | n => Xan c234t n
theorem c234ok : Ko 19 c234a Tryz.f234 = some (inst c234c) := by kernel_rfl
theorem c234call : Kc 234 = true := by kernel_rfl
theorem c234res : Kr Tryz.f234 = some [] := by kernel_rfl
end Go.SL
namespace Go.SL
open Go.Proofs
set_option maxRecDepth 10000
def letterS (c : Int) : Bool := decide (97 ≤ c) && decide (c ≤ 122) || decide (65 ≤ c) && decide (c ≤ 90)
def digitS (c : Int) : Bool := decide (48 ≤ c) && decide (c ≤ 57)
theorem byte_cases (p : Int → Prop) [DecidablePred p] (h : ∀ n : Fin 256, p (n.val : Int)) (c : Int) (h0 : 0 ≤ c) (h1 : c < 256) : p c := by
 have := h ⟨c.toNat, by omega⟩
 simpa [Int.toNat_of_nonneg h0] using this
theorem letter_or (c : Int) (h0 : 0 ≤ c) (h1 : c < 256) : (decide (97 ≤ orK .u8 c 32) && decide (orK .u8 c 32 ≤ 122)) = letterS c :=
 byte_cases (fun c => (decide (97 ≤ orK .u8 c 32) && decide (orK .u8 c 32 ≤ 122)) = letterS c) (by decide) c h0 h1
theorem f126_ok (c : Int) (h0 : 0 ≤ c) (h1 : c < 256) : DF Tryz.prog 126 [.int .u8 c] (.bool (letterS c)) := by
 have hl := letter_or c h0 h1
 refine AF.start 60 Tryz.func126 rfl rfl c126call c126ok ?_
 simp [c126c, c126t]
 refine ATT.cC (fun h => ?_) (fun h => ?_)
 ·simp [h]
  refine ATT.fin Tryz.func126 c126res ?_
  simp [h] at hl ⊢
  exact hl
 ·simp [h]
  refine ATT.fin Tryz.func126 c126res ?_
  simp [h] at hl ⊢
  exact hl
theorem f129_ok (c : Int) : DF Tryz.prog 129 [.int .u8 c] (.bool (digitS c)) := by
 refine AF.start 60 Tryz.func129 rfl rfl c129call c129ok ?_
 simp [c129c, c129t]
 refine ATT.cC (fun h => ?_) (fun h => ?_)
 ·simp [h]
  refine ATT.fin Tryz.func129 c129res ?_
  simp [digitS, h]
 ·simp [h]
  refine ATT.fin Tryz.func129 c129res ?_
  simp [digitS, h]
def identS (c : Int) : Bool := letterS c || digitS c || decide (c = 95)
theorem f160_ok (c : Int) (h0 : 0 ≤ c) (h1 : c < 256) : DF Tryz.prog 160 [.int .u8 c] (.bool (identS c)) := by
 refine AF.start 60 Tryz.func160 rfl rfl c160call c160ok ?_
 simp [c160c, c160t]
 refine ATT.callD Tryz.func160 60 (f126_ok c h0 h1) trivial (by simp) rfl ?_
 simp
 cases hl : letterS c with
 | true =>
  simp
  refine ATT.fin Tryz.func160 c160res ?_
  simp [identS, hl]
 | false =>
  simp
  refine ATT.callD Tryz.func160 60 (f129_ok c) (by simp) (by simp) rfl ?_
  simp
  cases hd : digitS c with
  | true =>
   simp
   refine ATT.fin Tryz.func160 c160res ?_
   simp [identS, hl, hd]
  | false =>
   simp
   refine ATT.fin Tryz.func160 c160res ?_
   simp [identS, hl, hd]
theorem sbyte_bd (s : ByteArray) (i : Int) : 0 ≤ sbyte s i ∧ sbyte s i < 256 := by
 unfold sbyte
 have := (s.data.toList.getD i.toNat 0).toNat_lt
 omega
abbrev RD (s : ByteArray) (i : Nat) : List Bx := [.cells [.d (.str s), .d (.int .i64 i)] 175]
def FnB (g : FuncId) (p : Int → Bool) : Prop := ∀ c, 0 ≤ c → c < 256 → DF Tryz.prog g [.int .u8 c] (.bool (p c))
theorem f124_ok {g : FuncId} {p : Int → Bool} (hp : FnB g p) (s : ByteArray) (i : Nat) :
  MF Tryz.prog 124 [.ptr 0 0, .d (.fn (.func g) [] [])] (RD s i) (.d (.bool (decide (i < s.size) && p (sbyte s i)))) (RD s i) := by
 refine AF.start 60 Tryz.func124 rfl rfl c124call c124ok ?_
 simp [c124c, c124t, RD]
 refine ATT.cE (fun h => ?_) (fun h => ?_)
 ·simp [h]
  refine ATT.callRD Tryz.func124 60 (hp (sbyte s i) (sbyte_bd s i).1 (sbyte_bd s i).2) (by simp) (by simp) (by simp [inR, h]) ?_
  simp
  refine ATT.fin Tryz.func124 c124res ?_
  simp
 ·simp [h]
  refine ATT.fin Tryz.func124 c124res ?_
  simp
def skipS (p : Int → Bool) (s : ByteArray) (i : Nat) : Nat := if h : i < s.size then (if p (sbyte s i) then skipS p s (i + 1) else i) else i
termination_by s.size - i
theorem skipS_no {p : Int → Bool} {s : ByteArray} {i : Nat} (h : (decide (i < s.size) && p (sbyte s i)) = false) : skipS p s i = i := by
 unfold skipS
 split
 ·rename_i h1
  simp [h1] at h
  simp [h]
 ·rfl
theorem skipS_yes {p : Int → Bool} {s : ByteArray} {i : Nat} (h : (decide (i < s.size) && p (sbyte s i)) = true) : skipS p s i = skipS p s (i + 1) := by
 simp at h
 rw [skipS]
 simp [h]
theorem f92_ok {g : FuncId} {p : Int → Bool} (hp : FnB g p) (s : ByteArray) (hs : s.size ≤ 1073741824) (i : Nat) :
  MF Tryz.prog 92 [.ptr 0 0, .d (.fn (.func g) [] [])] (RD s i) (.d (.tup [])) (RD s (skipS p s i)) := by
 refine AF.start 60 Tryz.func92 rfl rfl c92call c92ok ?_
 simp [c92c, RD]
 refine ATT.loop' [(0, V.ptr 0 0), (1, V.d (D.fn (Fn.func g) [] []))] rfl (by simp) ?_
 suffices H : ∀ m i, s.size - i = m → LP Tryz.prog 14 (.of 92) (fun o h => o = Out.ret (V.d (D.tup [])) ∧ ∃ r w, h = ⟨Bx.cells [V.d (D.str s), V.d (D.int IntKind.i64 (skipS p s i))] 175 :: r, w⟩) c92l2 [AItem.blk 0] [(0, V.ptr 0 0), (1, V.d (D.fn (Fn.func g) [] []))] ⟨RD s i, []⟩ from H _ i rfl
 intro m
 induction m with
 | zero =>
  intro i hi
  refine LP.of 60 c92l2.eq_1 ?_
  simp [c92t, RD]
  refine ATT.callM Tryz.func92 60 [0] (f124_ok hp s i) rfl trivial (by simp) (by simp [RD]) (by simp) rfl ?_
  have h0 : ¬ i < s.size := by omega
  simp [RD, h0]
  refine ATT.fin0 Tryz.func92 c92res ?_
  simp [skipS_no (p := p) (s := s) (i := i) (by simp [h0])]
 | succ m ih =>
  intro i hi
  refine LP.of 60 c92l2.eq_1 ?_
  simp [c92t, RD]
  refine ATT.callM Tryz.func92 60 [0] (f124_ok hp s i) rfl trivial (by simp) (by simp [RD]) (by simp) rfl ?_
  simp [RD]
  cases hb : (decide (i < s.size) && p (sbyte s i)) with
  | false =>
   simp
   refine ATT.fin0 Tryz.func92 c92res ?_
   simp [skipS_no hb]
  | true =>
   simp [c92t]
   refine ATT.again' [(0, V.ptr 0 0), (1, V.d (D.fn (Fn.func g) [] []))] ?_ (by simp) ?_
   ·simp [inI]; omega
   ·rw [skipS_yes hb]
    exact ih (i + 1) (by omega)
def atS (s : ByteArray) (i : Nat) : Int := if i < s.size then sbyte s i else 0
theorem f132_ok (s : ByteArray) (_hs : s.size ≤ 1073741824) (i n : Nat) (hi : i ≤ 1073741830) (hn : n ≤ 2) :
  MF Tryz.prog 132 [.ptr 0 0, .d (.int .i64 n)] (RD s i) (.d (.int .u8 (atS s (i + n)))) (RD s i) := by
 have hI : inI ((i : Int) + n) = true := inI_of (by omega) (by omega)
 refine AF.start 60 Tryz.func132 rfl rfl c132call c132ok ?_
 simp [c132c, c132t, RD, hI]
 refine ATT.cD (fun h => ?_) (fun h => ?_)
 ·have h' : i + n < s.size := by omega
  have hR : inR ((i : Int) + n) s.size = true := inR_of (by omega) (by omega)
  simp [h, hI, hR]
  refine ATT.fin Tryz.func132 c132res ?_
  simp [atS, h']
 ·have h' : ¬ i + n < s.size := by omega
  simp [h, c132t]
  refine ATT.fin Tryz.func132 c132res ?_
  simp [atS, h']
def colonS (s : ByteArray) (i : Nat) : Bool := decide (atS s i = 58) && !decide (atS s (i + 1) = 61)
theorem f128_ok (s : ByteArray) (hs : s.size ≤ 1073741824) (i : Nat) (hi : i ≤ 1073741824) : MF Tryz.prog 128 [.ptr 0 0] (RD s i) (.d (.bool (colonS s i))) (RD s i) := by
 refine AF.start 60 Tryz.func128 rfl rfl c128call c128ok ?_
 simp [c128c, c128t]
 refine ATT.callM Tryz.func128 60 [0] (f132_ok s hs i 0 (by omega) (by omega)) rfl trivial (by simp) (by simp [RD]) (by simp) rfl ?_
 simp [RD]
 refine ATT.cC (fun h => ?_) (fun h => ?_)
 ·simp [h]
  refine ATT.callM Tryz.func128 60 [0] (f132_ok s hs i 1 (by omega) (by omega)) rfl (by simp) (by simp) (by simp [RD]) (by simp) rfl ?_
  simp [RD]
  refine ATT.fin Tryz.func128 c128res ?_
  simp [colonS, h]
 ·simp [h]
  refine ATT.fin Tryz.func128 c128res ?_
  simp [colonS, h]
def nameS (s : ByteArray) (i : Nat) : Nat := if (decide (i < s.size) && letterS (sbyte s i)) then skipS identS s i else i
theorem letterB : FnB 126 letterS := fun c h0 h1 => f126_ok c h0 h1
theorem identB : FnB 160 identS := fun c h0 h1 => f160_ok c h0 h1
theorem digitB : FnB 129 digitS := fun c _ _ => f129_ok c
theorem f127_ok (s : ByteArray) (hs : s.size ≤ 1073741824) (i : Nat) : MF Tryz.prog 127 [.ptr 0 0] (RD s i) (.d (.bool (decide (i < s.size) && letterS (sbyte s i)))) (RD s (nameS s i)) := by
 have hM := f124_ok letterB s i
 have hn : nameS s i = if (decide (i < s.size) && letterS (sbyte s i)) then skipS identS s i else i := rfl
 generalize (decide (i < s.size) && letterS (sbyte s i)) = b at hM hn ⊢
 refine AF.start 60 Tryz.func127 rfl rfl c127call c127ok ?_
 simp [c127c, c127t]
 refine ATT.callM Tryz.func127 60 [0] hM rfl trivial (by simp) (by simp [RD]) (by simp) rfl ?_
 simp [RD]
 cases b with
 | false =>
  simp [c127t]
  refine ATT.fin Tryz.func127 c127res ?_
  simp [hn]
 | true =>
  simp [c127t]
  refine ATT.callM Tryz.func127 60 [0] (f92_ok identB s hs i) rfl trivial (by simp) (by simp [RD]) (by simp) rfl ?_
  simp [RD, c127t]
  refine ATT.fin Tryz.func127 c127res ?_
  simp [hn]
def Ascii (s : ByteArray) : Prop := ∀ i, i < s.size → sbyte s i < 128
theorem get_sbyte (s : ByteArray) (i : Nat) (h : i < s.size) : ((s.get! i).toNat : Int) = sbyte s i := by
 unfold sbyte
 have h' : i < s.data.size := h
 simp [ByteArray.get!, getElem!_def, Array.getElem?_eq_getElem h', List.getD]
theorem decode_of (s : ByteArray) (i : Nat) (h : i < s.size) (ha : sbyte s i < 128) : Utf8.decode s i = ((sbyte s i).toNat, 1) := by
 have hg := get_sbyte s i h
 have : (s.get! i).toNat < 128 := by omega
 unfold Utf8.decode
 simp only [Nat.add_zero]
 rw [if_pos (by simpa using this)]
 congr 1
 omega
def placeS (c : Int) (s : ByteArray) (i : Nat) : Int := if h : i < s.size then (if sbyte s i = c then i else placeS c s (i + 1)) else -1
termination_by s.size - i
theorem f94_ok (c : Int) (s : ByteArray) (ha : Ascii s) : DF Tryz.prog 94 [.int .u8 c, .str s] (.int .i64 (placeS c s 0)) := by
 refine AF.start 60 Tryz.func94 rfl rfl c94call c94ok ?_
 simp [c94c, c94t]
 refine ATT.loop' [(8, V.ptr 0 0), (0, V.d (D.int IntKind.u8 c))] rfl (by simp) ?_
 generalize hr : placeS c s 0 = r
 suffices H : ∀ m i, s.size - i = m → placeS c s i = r → LP Tryz.prog 18 (.of 94) (fun o x => o = Out.ret (V.d (D.int IntKind.i64 r))) c94l6 [AItem.blk 0, AItem.code ((AC.regT c94t 7).seq AC.ret)]
   [(8, V.ptr 0 0), (0, V.d (D.int IntKind.u8 c))] { bx := [Bx.iter s i], vc := [] } from H _ 0 rfl hr
 clear hr
 intro m
 induction m with
 | zero =>
  intro i hm hr
  refine LP.of 60 c94l6.eq_1 ?_
  have h0 : ¬ i < s.size := by omega
  simp [c94t, h0]
  refine ATT.fin Tryz.func94 c94res ?_
  rw [placeS] at hr
  simp [h0] at hr
  simp [hr]
 | succ m ih =>
  intro i hm hr
  refine LP.of 60 c94l6.eq_1 ?_
  have h0 : i < s.size := by omega
  have hd := decode_of s i h0 (ha i h0)
  have hb := sbyte_bd s i
  have hw : IntKind.u8.wrap (sbyte s i) = sbyte s i := by
   simp [IntKind.wrap, IntKind.bits, IntKind.signed]
   omega
  have ht : (((sbyte s i).toNat : Nat) : Int) = sbyte s i := by omega
  simp [c94t, h0, hd, ht, hw]
  rw [placeS] at hr
  simp only [h0, dite_true] at hr
  refine ATT.cD (fun h => ?_) (fun h => ?_)
  ·simp [c94t, h]
   refine ATT.fin Tryz.func94 c94res ?_
   rw [if_pos h] at hr
   simp [hr]
  ·simp [h]
   rw [if_neg h] at hr
   exact ATT.again' _ rfl (by simp) (ih (i + 1) (by omega) hr)
end Go.SL
namespace Go.SL
open Go.Proofs
set_option maxRecDepth 10000
theorem f166_ok (l : List Nat) (nl : Bool) (sz : Nat) (h1 : nl = true → l = []) (h2 : nl = false → sz = 1) (hu : U32 l) (hb : l.length ≤ 1000000) : DE Tryz.prog 166 [.sl nl sz (wD l)] (Wd (wv l) l.length) := by
 refine AF.go Tryz.func166 [] fun tb TB Q hQ => ?_
 simp [TB]
 generalize hN : wv l = N at hQ
 refine ATT.loopG 60 rfl (fun (k : List Nat) => k.length) (fun (k : List Nat) => (nl = true → k = []) ∧ U32 k ∧ wv k = N ∧ k.length ≤ l.length) (fun (k : List Nat) => [(0, .d (.sl nl sz (wD k)))]) (fun (k : List Nat) => []) (fun (k : List Nat) => []) (l) (by (try dsimp only); exact ⟨h1, hu, hN, Nat.le_refl _⟩) (by simp <;> omega) (by simp) (by simp) ?_
 intro k u w hI ih
 try simp only at hI ih
 obtain ⟨i1, i2, i3, i4⟩ := hI
 rcases List.eq_nil_or_concat k with e | ⟨q, x, e⟩
 ·subst e
  simp [TB]
  refine ATT.fin2 hQ Tryz.func166 ?_
  exact ⟨by simp, _, rfl, nl, sz, [], rfl, fun _ => rfl, h2, Can.nil, i3, by simp⟩
 ·have e : k = q ++ [x] := by simpa using e
  subst e
  have hnl : nl = false := by cases nl <;> simp at i1 ⊢
  subst hnl
  have hsz := h2 rfl
  subst hsz
  have hget := wD_getE (l := q ++ [x]) (i := q.length) (x := x) (by simp)
  have htk : (wD (q ++ [x])).take q.length = wD q := by rw [wD_app]; simp
  have hl1 : q.length + 1 ≤ 1000000 := by simp at i4; omega
  have hR : inI ((q.length : Int)) = true := inI_of (by omega) (by omega)
  have hp : (0 : Int) < (q.length : Int) + 1 := by omega
  by_cases hx : x = 0
  ·subst hx
   simp [TB, hget, htk, hR, hp, lget]
   refine ih (q) (by first | ((try dsimp only); omega) | (simp <;> omega)) (by (try dsimp only); exact ⟨by simp, i2.left, by rw [← i3, wv_app]; simp [wv], by simp at i4; omega⟩) _ _ _ (by simp <;> omega) (by simp <;> omega) (by simp <;> omega)
  ·have hx' : ¬ (x : Int) = 0 := by omega
   simp [TB, hget, hR, hp, lget, hx]
   refine ATT.fin2 hQ Tryz.func166 ?_
   exact ⟨by simp, _, rfl, false, 1, q ++ [x], rfl, by simp, fun _ => rfl, ⟨i2, fun q' e => hx (by have := congrArg List.getLast? e; simpa using this)⟩, i3, by simpa using i4⟩
theorem f164_ok (m n : Nat) (ka kb : Nat) (va vb : D) (ha : Wd m ka va) (hb : Wd n kb vb) (hk : ka ≤ 100000 ∧ kb ≤ 100000) : DE Tryz.prog 164 [va, vb] (Wd (m + n) (max ka kb + 1)) := by
 obtain ⟨nla, sza, la, ea, a1, a2, a3, a4, a5⟩ := ha.words
 obtain ⟨nlb, szb, lb, eb, b1, b2, b3, b4, b5⟩ := hb.words
 subst ea eb
 by_cases hlt : la.length < lb.length
 ·have hlt' : (la.length : Int) < lb.length := by omega
  have hR0 : inI ((lb.length : Int) + 1) = true := inI_of (by omega) (by omega)
  have hR1 : (0 : Int) ≤ (lb.length : Int) + 1 := by omega
  have hR2 : ((lb.length : Int) + 1) * 4 ≤ 140737488355328 := by omega
  have hR3 : ((lb.length : Int) + 1).toNat = lb.length + 1 := by omega
  refine AF.go Tryz.func164 [] fun tb TB Q hQ => ?_
  simp [TB, hR0, hR1, hR2, hR3, VW_zero, hlt']
  refine ATT.loopG 60 rfl (fun ((o, r, c) : List Nat × Nat × Nat) => r) (fun ((o, r, c) : List Nat × Nat × Nat) => U32 o ∧ c ≤ 1 ∧ o.length + r = lb.length ∧ wv o + 4294967296 ^ o.length * c = wv (lb.take o.length) + wv (la.take o.length)) (fun ((o, r, c) : List Nat × Nat × Nat) => [(0, .d (.sl nlb szb (wD lb))), (1, .d (.sl nla sza (wD la))), (5, .vs 0 (o.length + (r + 1)) 0 (o.length + (r + 1))), (6, .d (.int .u64 c)), (20, .d (.int .i64 (o.length + r : Nat))), (21, .d (.int .i64 o.length))]) (fun ((o, r, c) : List Nat × Nat × Nat) => []) (fun ((o, r, c) : List Nat × Nat × Nat) => [some ⟨false, 1, 0, VW o (r + 1), 111⟩]) (([], lb.length, 0)) (by (try dsimp only); exact ⟨U32.nil, by simp, by simp, by simp [wv]⟩) (by simp <;> omega) (by simp) (by simp) ?_
  intro ⟨o, r, c⟩ u w hI ih
  try simp only at hI ih
  obtain ⟨i1, i2, i3, i4⟩ := hI
  cases r with
  | zero =>
   have hlo : ¬ (o.length : Int) < o.length := by omega
   have hci : (c : Int) < 4294967296 := by omega
   have hW3 : IntKind.u32.wrap (c : Int) = (c : Int) := by rw [wrap32i]; omega
   have hRo : inR (o.length : Int) (o.length + (0 + 1)) = true := inR_of (by omega) (by omega)
   have hRp : inR (o.length : Int) (o.length + 1) = true := inR_of (by omega) (by omega)
   have hset := VW_set o 0 c
   have hok := f166_ok (o ++ [c]) false 1 (by simp) (fun _ => rfl) (i1.app (by intro z hz; simp at hz; omega)) (by simp; omega)
   have hval : wv (o ++ [c]) = m + n := by
    have e1 : lb.take o.length = lb := List.take_of_length_le (by omega)
    have e2 : la.take o.length = la := List.take_of_length_le (by omega)
    rw [wv_app]
    simp only [wv, Nat.mul_zero, Nat.add_zero]
    rw [i4, e1, e2]; omega
   have i3' : o.length = lb.length := by omega
   have i3i : (lb.length : Int) = o.length := by omega
   have htk : List.take (o.length + 1) ((wD (o ++ [c])).map V.d) = (wD (o ++ [c])).map V.d := List.take_of_length_le (by simp)
   simp [TB, hlo, hW3, hRo, hset, VW_done, i3i]
   refine ATT.fz (by simp) ?_
   simp [htk]
   refine ATT.callE Tryz.func164 60 hok ?_ ?_ ?_ fun v hv => ?_
   iterate 3 · simp
   simp
   refine ATT.fin2 hQ Tryz.func164 ?_
   rw [hval] at hv
   exact ⟨by simp, _, rfl, hv.mono (by simp; omega)⟩
  | succ r =>
   have hlo : o.length < lb.length := by omega
   obtain ⟨x, hx⟩ : ∃ x, lb[o.length]? = some x := ⟨_, List.getElem?_eq_getElem hlo⟩
   have hx32 := b3 x (List.mem_of_getElem? hx)
   have hna : nlb = false := by cases nlb with | false => rfl | true => (have := b1 rfl; subst this; simp at hlo)
   subst hna
   have hsa := b2 rfl
   subst hsa
   have hlt1 : (o.length : Int) < (o.length : Int) + ((r : Int) + 1) := by omega
   by_cases hbl : o.length < la.length
   ·obtain ⟨y, hy⟩ : ∃ y, la[o.length]? = some y := ⟨_, List.getElem?_eq_getElem hbl⟩
    have hy32 := a3 y (List.mem_of_getElem? hy)
    have hnb : nla = false := by cases nla with | false => rfl | true => (have := a1 rfl; subst this; simp at hbl)
    subst hnb
    have hsb := a2 rfl
    subst hsb
    have hgy := wD_getE hy
    have hgy2 := wD_get hy
    have hWy : IntKind.u64.wrap (y : Int) = y := wrap64i (by omega) (by omega)
    have htk := wv_take hy
    have hL := (List.getElem?_eq_some_iff.1 hx).1
    have hW1 : IntKind.u64.wrap ((c : Int) + (x : Int)) = (c : Int) + (x : Int) := wrap64i (by omega) (by omega)
    have hW2 : IntKind.u64.wrap ((c : Int) + (x : Int) + (y : Int)) = (c : Int) + (x : Int) + (y : Int) := wrap64i (by omega) (by omega)
    have hW3 : IntKind.u32.wrap ((c : Int) + (x : Int) + (y : Int)) = ((c : Int) + (x : Int) + (y : Int)) % 4294967296 := wrap32i
    have hW4 : ((c : Int) + (x : Int) + (y : Int)).fdiv 4294967296 = ((c : Int) + (x : Int) + (y : Int)) / 4294967296 := Int.fdiv_eq_ediv_of_nonneg _ (by decide)
    have hI1 : inI ((o.length : Int) + 1) = true := inI_of (by omega) (by omega)
    have hRo : inR (o.length : Int) (o.length + (r + 1 + 1)) = true := inR_of (by omega) (by omega)
    have hset : (VW o (r + 1 + 1)).set o.length (.d (.int .u32 (((c : Int) + (x : Int) + (y : Int)) % 4294967296))) = VW (o ++ [(c + x + y) % 4294967296]) (r + 1) := by have := VW_set o (r + 1) ((c + x + y) % 4294967296); simpa using this
    have hgx := wD_getE hx
    have hgx2 := wD_get hx
    have hWx : IntKind.u64.wrap (x : Int) = x := wrap64i (by omega) (by omega)
    simp [TB, hW1, hW2, hW3, hW4, hI1, hRo, hset, hgx2, hWx, IntKind.bits, hgy, hWy, hbl, hlt1]
    refine ih (o ++ [(c + x + y) % 4294967296], r, (c + x + y) / 4294967296) (by first | ((try dsimp only); omega) | (simp [hW1, hW2, hW3, hW4, hI1, hRo, hset, hgx, hgx2, hWx, IntKind.bits, hgy, hgy2, hWy, hbl, hlt1] <;> omega)) (by (try dsimp only); exact ⟨i1.app (by intro z hz; simp at hz; omega), by omega, by simp; omega, by simp only [List.length_append, List.length_singleton]; rw [wv_take hx, htk, wv_app, Nat.pow_succ]; simp only [wv]; have := Nat.div_add_mod (c + x + y) 4294967296; exact plus_step i4 this⟩) _ _ _ (by simp <;> omega) (by simp <;> omega) (by simp <;> omega)
   ·have htk : wv (la.take (o.length + 1)) = wv (la.take o.length) + 4294967296 ^ o.length * 0 := by rw [List.take_of_length_le (by omega), List.take_of_length_le (by omega)]; simp
    have hL := (List.getElem?_eq_some_iff.1 hx).1
    have hW1 : IntKind.u64.wrap ((c : Int) + (x : Int)) = (c : Int) + (x : Int) := wrap64i (by omega) (by omega)
    have hW2 : IntKind.u64.wrap ((c : Int) + (x : Int) + (0 : Int)) = (c : Int) + (x : Int) + (0 : Int) := wrap64i (by omega) (by omega)
    have hW3 : IntKind.u32.wrap ((c : Int) + (x : Int)) = ((c : Int) + (x : Int)) % 4294967296 := wrap32i
    have hW4 : ((c : Int) + (x : Int)).fdiv 4294967296 = ((c : Int) + (x : Int)) / 4294967296 := Int.fdiv_eq_ediv_of_nonneg _ (by decide)
    have hI1 : inI ((o.length : Int) + 1) = true := inI_of (by omega) (by omega)
    have hRo : inR (o.length : Int) (o.length + (r + 1 + 1)) = true := inR_of (by omega) (by omega)
    have hset : (VW o (r + 1 + 1)).set o.length (.d (.int .u32 (((c : Int) + (x : Int)) % 4294967296))) = VW (o ++ [(c + x + 0) % 4294967296]) (r + 1) := by have := VW_set o (r + 1) ((c + x + 0) % 4294967296); simpa using this
    have hgx := wD_getE hx
    have hgx2 := wD_get hx
    have hWx : IntKind.u64.wrap (x : Int) = x := wrap64i (by omega) (by omega)
    simp [TB, hW1, hW3, hW4, hI1, hRo, hset, hgx2, hWx, IntKind.bits, hbl, hlt1]
    refine ih (o ++ [(c + x + 0) % 4294967296], r, (c + x + 0) / 4294967296) (by first | ((try dsimp only); omega) | (simp [hW1, hW2, hW3, hW4, hI1, hRo, hset, hgx, hgx2, hWx, IntKind.bits, hbl, hlt1] <;> omega)) (by (try dsimp only); exact ⟨i1.app (by intro z hz; simp at hz; omega), by omega, by simp; omega, by simp only [List.length_append, List.length_singleton]; rw [wv_take hx, htk, wv_app, Nat.pow_succ]; simp only [wv]; have := Nat.div_add_mod (c + x + 0) 4294967296; exact plus_step i4 this⟩) _ _ _ (by simp <;> omega) (by simp <;> omega) (by simp <;> omega)
 ·have hlt' : ¬ (la.length : Int) < lb.length := by omega
  have hR0 : inI ((la.length : Int) + 1) = true := inI_of (by omega) (by omega)
  have hR1 : (0 : Int) ≤ (la.length : Int) + 1 := by omega
  have hR2 : ((la.length : Int) + 1) * 4 ≤ 140737488355328 := by omega
  have hR3 : ((la.length : Int) + 1).toNat = la.length + 1 := by omega
  refine AF.go Tryz.func164 [] fun tb TB Q hQ => ?_
  simp [TB, hR0, hR1, hR2, hR3, VW_zero, hlt']
  refine ATT.loopG 60 rfl (fun ((o, r, c) : List Nat × Nat × Nat) => r) (fun ((o, r, c) : List Nat × Nat × Nat) => U32 o ∧ c ≤ 1 ∧ o.length + r = la.length ∧ wv o + 4294967296 ^ o.length * c = wv (la.take o.length) + wv (lb.take o.length)) (fun ((o, r, c) : List Nat × Nat × Nat) => [(0, .d (.sl nla sza (wD la))), (1, .d (.sl nlb szb (wD lb))), (5, .vs 0 (o.length + (r + 1)) 0 (o.length + (r + 1))), (6, .d (.int .u64 c)), (20, .d (.int .i64 (o.length + r : Nat))), (21, .d (.int .i64 o.length))]) (fun ((o, r, c) : List Nat × Nat × Nat) => []) (fun ((o, r, c) : List Nat × Nat × Nat) => [some ⟨false, 1, 0, VW o (r + 1), 111⟩]) (([], la.length, 0)) (by (try dsimp only); exact ⟨U32.nil, by simp, by simp, by simp [wv]⟩) (by simp <;> omega) (by simp) (by simp) ?_
  intro ⟨o, r, c⟩ u w hI ih
  try simp only at hI ih
  obtain ⟨i1, i2, i3, i4⟩ := hI
  cases r with
  | zero =>
   have hlo : ¬ (o.length : Int) < o.length := by omega
   have hci : (c : Int) < 4294967296 := by omega
   have hW3 : IntKind.u32.wrap (c : Int) = (c : Int) := by rw [wrap32i]; omega
   have hRo : inR (o.length : Int) (o.length + (0 + 1)) = true := inR_of (by omega) (by omega)
   have hRp : inR (o.length : Int) (o.length + 1) = true := inR_of (by omega) (by omega)
   have hset := VW_set o 0 c
   have hok := f166_ok (o ++ [c]) false 1 (by simp) (fun _ => rfl) (i1.app (by intro z hz; simp at hz; omega)) (by simp; omega)
   have hval : wv (o ++ [c]) = m + n := by
    have e1 : la.take o.length = la := List.take_of_length_le (by omega)
    have e2 : lb.take o.length = lb := List.take_of_length_le (by omega)
    rw [wv_app]
    simp only [wv, Nat.mul_zero, Nat.add_zero]
    rw [i4, e1, e2]; omega
   have i3' : o.length = la.length := by omega
   have i3i : (la.length : Int) = o.length := by omega
   have htk : List.take (o.length + 1) ((wD (o ++ [c])).map V.d) = (wD (o ++ [c])).map V.d := List.take_of_length_le (by simp)
   simp [TB, hlo, hW3, hRo, hset, VW_done, i3i]
   refine ATT.fz (by simp) ?_
   simp [htk]
   refine ATT.callE Tryz.func164 60 hok ?_ ?_ ?_ fun v hv => ?_
   iterate 3 · simp
   simp
   refine ATT.fin2 hQ Tryz.func164 ?_
   rw [hval] at hv
   exact ⟨by simp, _, rfl, hv.mono (by simp; omega)⟩
  | succ r =>
   have hlo : o.length < la.length := by omega
   obtain ⟨x, hx⟩ : ∃ x, la[o.length]? = some x := ⟨_, List.getElem?_eq_getElem hlo⟩
   have hx32 := a3 x (List.mem_of_getElem? hx)
   have hna : nla = false := by cases nla with | false => rfl | true => (have := a1 rfl; subst this; simp at hlo)
   subst hna
   have hsa := a2 rfl
   subst hsa
   have hlt1 : (o.length : Int) < (o.length : Int) + ((r : Int) + 1) := by omega
   by_cases hbl : o.length < lb.length
   ·obtain ⟨y, hy⟩ : ∃ y, lb[o.length]? = some y := ⟨_, List.getElem?_eq_getElem hbl⟩
    have hy32 := b3 y (List.mem_of_getElem? hy)
    have hnb : nlb = false := by cases nlb with | false => rfl | true => (have := b1 rfl; subst this; simp at hbl)
    subst hnb
    have hsb := b2 rfl
    subst hsb
    have hgy := wD_getE hy
    have hgy2 := wD_get hy
    have hWy : IntKind.u64.wrap (y : Int) = y := wrap64i (by omega) (by omega)
    have htk := wv_take hy
    have hL := (List.getElem?_eq_some_iff.1 hx).1
    have hW1 : IntKind.u64.wrap ((c : Int) + (x : Int)) = (c : Int) + (x : Int) := wrap64i (by omega) (by omega)
    have hW2 : IntKind.u64.wrap ((c : Int) + (x : Int) + (y : Int)) = (c : Int) + (x : Int) + (y : Int) := wrap64i (by omega) (by omega)
    have hW3 : IntKind.u32.wrap ((c : Int) + (x : Int) + (y : Int)) = ((c : Int) + (x : Int) + (y : Int)) % 4294967296 := wrap32i
    have hW4 : ((c : Int) + (x : Int) + (y : Int)).fdiv 4294967296 = ((c : Int) + (x : Int) + (y : Int)) / 4294967296 := Int.fdiv_eq_ediv_of_nonneg _ (by decide)
    have hI1 : inI ((o.length : Int) + 1) = true := inI_of (by omega) (by omega)
    have hRo : inR (o.length : Int) (o.length + (r + 1 + 1)) = true := inR_of (by omega) (by omega)
    have hset : (VW o (r + 1 + 1)).set o.length (.d (.int .u32 (((c : Int) + (x : Int) + (y : Int)) % 4294967296))) = VW (o ++ [(c + x + y) % 4294967296]) (r + 1) := by have := VW_set o (r + 1) ((c + x + y) % 4294967296); simpa using this
    have hgx := wD_getE hx
    have hgx2 := wD_get hx
    have hWx : IntKind.u64.wrap (x : Int) = x := wrap64i (by omega) (by omega)
    simp [TB, hW1, hW2, hW3, hW4, hI1, hRo, hset, hgx2, hWx, IntKind.bits, hgy, hWy, hbl, hlt1]
    refine ih (o ++ [(c + x + y) % 4294967296], r, (c + x + y) / 4294967296) (by first | ((try dsimp only); omega) | (simp [hW1, hW2, hW3, hW4, hI1, hRo, hset, hgx, hgx2, hWx, IntKind.bits, hgy, hgy2, hWy, hbl, hlt1] <;> omega)) (by (try dsimp only); exact ⟨i1.app (by intro z hz; simp at hz; omega), by omega, by simp; omega, by simp only [List.length_append, List.length_singleton]; rw [wv_take hx, htk, wv_app, Nat.pow_succ]; simp only [wv]; have := Nat.div_add_mod (c + x + y) 4294967296; exact plus_step i4 this⟩) _ _ _ (by simp <;> omega) (by simp <;> omega) (by simp <;> omega)
   ·have htk : wv (lb.take (o.length + 1)) = wv (lb.take o.length) + 4294967296 ^ o.length * 0 := by rw [List.take_of_length_le (by omega), List.take_of_length_le (by omega)]; simp
    have hL := (List.getElem?_eq_some_iff.1 hx).1
    have hW1 : IntKind.u64.wrap ((c : Int) + (x : Int)) = (c : Int) + (x : Int) := wrap64i (by omega) (by omega)
    have hW2 : IntKind.u64.wrap ((c : Int) + (x : Int) + (0 : Int)) = (c : Int) + (x : Int) + (0 : Int) := wrap64i (by omega) (by omega)
    have hW3 : IntKind.u32.wrap ((c : Int) + (x : Int)) = ((c : Int) + (x : Int)) % 4294967296 := wrap32i
    have hW4 : ((c : Int) + (x : Int)).fdiv 4294967296 = ((c : Int) + (x : Int)) / 4294967296 := Int.fdiv_eq_ediv_of_nonneg _ (by decide)
    have hI1 : inI ((o.length : Int) + 1) = true := inI_of (by omega) (by omega)
    have hRo : inR (o.length : Int) (o.length + (r + 1 + 1)) = true := inR_of (by omega) (by omega)
    have hset : (VW o (r + 1 + 1)).set o.length (.d (.int .u32 (((c : Int) + (x : Int)) % 4294967296))) = VW (o ++ [(c + x + 0) % 4294967296]) (r + 1) := by have := VW_set o (r + 1) ((c + x + 0) % 4294967296); simpa using this
    have hgx := wD_getE hx
    have hgx2 := wD_get hx
    have hWx : IntKind.u64.wrap (x : Int) = x := wrap64i (by omega) (by omega)
    simp [TB, hW1, hW3, hW4, hI1, hRo, hset, hgx2, hWx, IntKind.bits, hbl, hlt1]
    refine ih (o ++ [(c + x + 0) % 4294967296], r, (c + x + 0) / 4294967296) (by first | ((try dsimp only); omega) | (simp [hW1, hW2, hW3, hW4, hI1, hRo, hset, hgx, hgx2, hWx, IntKind.bits, hbl, hlt1] <;> omega)) (by (try dsimp only); exact ⟨i1.app (by intro z hz; simp at hz; omega), by omega, by simp; omega, by simp only [List.length_append, List.length_singleton]; rw [wv_take hx, htk, wv_app, Nat.pow_succ]; simp only [wv]; have := Nat.div_add_mod (c + x + 0) 4294967296; exact plus_step i4 this⟩) _ _ _ (by simp <;> omega) (by simp <;> omega) (by simp <;> omega)
set_option maxHeartbeats 1000000 in
theorem f165_ok (m n : Nat) (ka kb : Nat) (va vb : D) (ha : Wd m ka va) (hb : Wd n kb vb) (hk : ka ≤ 100000 ∧ kb ≤ 100000) : DE Tryz.prog 165 [va, vb] (Wd (m * n) (ka + kb)) := by
 obtain ⟨nla, sza, la, ea, a1, a2, a3, a4, a5⟩ := ha.words
 obtain ⟨nlb, szb, lb, eb, b1, b2, b3, b4, b5⟩ := hb.words
 subst ea eb
 have hR0 : inI ((la.length : Int) + (lb.length : Int)) = true := inI_of (by omega) (by omega)
 have hR1 : (0 : Int) ≤ (la.length : Int) + (lb.length : Int) := by omega
 have hR2 : ((la.length : Int) + (lb.length : Int)) * 4 ≤ 140737488355328 := by omega
 have hR3 : ((la.length : Int) + (lb.length : Int)).toNat = la.length + lb.length := by omega
 refine AF.go Tryz.func165 [] fun tb TB Q hQ => ?_
 simp [TB, hR0, hR1, hR2, hR3, wD_rep]
 refine ATT.loopG 60 rfl (fun ((i, o) : Nat × List Nat) => la.length - i) (fun ((i, o) : Nat × List Nat) => i ≤ la.length ∧ o.length = la.length + lb.length ∧ U32 o ∧ wv o = wv (la.take i) * wv lb ∧ (∀ k, i + lb.length ≤ k → k < o.length → o[k]? = some 0)) (fun ((i, o) : Nat × List Nat) => [(1, .d (.sl nlb szb (wD lb))), (5, .vs 0 (la.length + lb.length) 0 (la.length + lb.length)), (17, .d (.sl nla sza (wD la))), (18, .d (.int .i64 la.length)), (19, .d (.int .i64 i))]) (fun ((i, o) : Nat × List Nat) => []) (fun ((i, o) : Nat × List Nat) => [some ⟨false, 1, 0, (wD o).map V.d, 111⟩]) ((0, List.replicate (la.length + lb.length) 0)) (by (try dsimp only); exact ⟨Nat.zero_le _, by simp, by intro z hz; simp at hz; omega, by simp [wv_rep, wv], by intro k _ hk; rw [List.getElem?_replicate, if_pos (by simpa using hk)]⟩) (by simp <;> omega) (by simp) (by simp) ?_
 intro ⟨i, o⟩ u w hI ih
 try simp only at hI ih
 obtain ⟨i1, i2, i3, i4, i5⟩ := hI
 have ihO := ih
 by_cases hil : i < la.length
 ·obtain ⟨x, hx⟩ : ∃ x, la[i]? = some x := ⟨_, List.getElem?_eq_getElem hil⟩
  have hx32 := a3.get hx
  have hna : nla = false := by cases nla with | false => rfl | true => (have := a1 rfl; subst this; simp at hil)
  subst hna
  have hsa := a2 rfl
  subst hsa
  have hgx := wD_get hx
  have hgx2 := wD_getE hx
  have hili : (i : Int) < la.length := by omega
  simp [TB, hgx, hili]
  generalize hN : wv (la.take i) * wv lb = N0 at i4
  refine ATT.loopG 60 rfl (fun ((j, c, p) : Nat × Nat × List Nat) => lb.length - j) (fun ((j, c, p) : Nat × Nat × List Nat) => j ≤ lb.length ∧ c < 4294967296 ∧ p.length = la.length + lb.length ∧ U32 p ∧ wv p + 4294967296 ^ i * 4294967296 ^ j * c = N0 + 4294967296 ^ i * x * wv (lb.take j) ∧ (∀ k, i + lb.length ≤ k → k < p.length → p[k]? = some 0)) (fun ((j, c, p) : Nat × Nat × List Nat) => [(1, .d (.sl nlb szb (wD lb))), (5, .vs 0 (la.length + lb.length) 0 (la.length + lb.length)), (6, .d (.int .i64 i)), (7, .d (.int .u32 x)), (8, .d (.int .u64 c)), (17, .d (.sl false 1 (wD la))), (18, .d (.int .i64 la.length)), (19, .d (.int .i64 i)), (24, .d (.sl nlb szb (wD lb))), (25, .d (.int .i64 lb.length)), (26, .d (.int .i64 j))]) (fun ((j, c, p) : Nat × Nat × List Nat) => []) (fun ((j, c, p) : Nat × Nat × List Nat) => [some ⟨false, 1, 0, (wD p).map V.d, 111⟩]) ((0, 0, o)) (by (try dsimp only); exact ⟨Nat.zero_le _, by decide, i2, i3, by simp [wv]; exact i4, i5⟩) (by simp <;> omega) (by simp) (by simp) ?_
  intro ⟨j, c, p⟩ u w hI ih
  try simp only at hI ih
  obtain ⟨j1, j2, j3, j4, j5, j6⟩ := hI
  by_cases hjl : j < lb.length
  ·obtain ⟨y, hy⟩ : ∃ y, lb[j]? = some y := ⟨_, List.getElem?_eq_getElem hjl⟩
   obtain ⟨z, hz⟩ : ∃ z, p[i + j]? = some z := ⟨_, List.getElem?_eq_getElem (by omega)⟩
   have hy32 := b3.get hy
   have hz32 := j4.get hz
   have hnb : nlb = false := by cases nlb with | false => rfl | true => (have := b1 rfl; subst this; simp at hjl)
   subst hnb
   have hsb := b2 rfl
   subst hsb
   have hgy := wD_get hy
   have hgy2 := wD_getE hy
   have hgz := wD_get hz
   have hgz2 := wD_getE hz
   have hjli : (j : Int) < lb.length := by omega
   have hp := Nat.mul_le_mul (show x ≤ 4294967295 by omega) (show y ≤ 4294967295 by omega)
   have hpi : (x : Int) * (y : Int) = ((x * y : Nat) : Int) := by simp
   generalize hP : x * y = P at hp hpi
   have hW1 : IntKind.u64.wrap (P : Int) = (P : Int) := wrap64i (by omega) (by omega)
   have hW2 : IntKind.u64.wrap ((P : Int) + (z : Int)) = (P : Int) + (z : Int) := wrap64i (by omega) (by omega)
   have hW3 : IntKind.u64.wrap ((c : Int) + ((P : Int) + (z : Int))) = (c : Int) + ((P : Int) + (z : Int)) := wrap64i (by omega) (by omega)
   have hW4 : IntKind.u32.wrap ((c : Int) + ((P : Int) + (z : Int))) = ((c : Int) + ((P : Int) + (z : Int))) % 4294967296 := wrap32i
   have hW5 : ((c : Int) + ((P : Int) + (z : Int))).fdiv 4294967296 = ((c : Int) + ((P : Int) + (z : Int))) / 4294967296 := Int.fdiv_eq_ediv_of_nonneg _ (by decide)
   have hWx : IntKind.u64.wrap (x : Int) = x := wrap64i (by omega) (by omega)
   have hWy : IntKind.u64.wrap (y : Int) = y := wrap64i (by omega) (by omega)
   have hWz : IntKind.u64.wrap (z : Int) = z := wrap64i (by omega) (by omega)
   have hIij : inI ((i : Int) + (j : Int)) = true := inI_of (by omega) (by omega)
   have hIj : inI ((j : Int) + 1) = true := inI_of (by omega) (by omega)
   have hij : ((i : Int) + (j : Int)).toNat = i + j := by omega
   have hRij : inR ((i : Int) + (j : Int)) (la.length + lb.length) = true := inR_of (by omega) (by omega)
   have hset : ((wD p).map V.d).set (i + j) (.d (.int .u32 (((c : Int) + ((P : Int) + (z : Int))) % 4294967296))) = (wD (p.set (i + j) ((c + (P + z)) % 4294967296))).map V.d := by have := wD_set p (i + j) ((c + (P + z)) % 4294967296); simpa using this
   simp [TB, hgy, hgz, hjli, hpi, hW1, hW2, hW3, hW4, hW5, hWx, hWy, hWz, hIij, hIj, hij, hRij, hset, j3, IntKind.bits]
   have hd : 4294967296 * ((c + (P + z)) / 4294967296) + (c + (P + z)) % 4294967296 = c + (x * y + z) := by rw [hP]; exact Nat.div_add_mod _ _
   have h2 := wv_set ((c + (P + z)) % 4294967296) hz
   rw [Nat.pow_add] at h2
   refine ih (j + 1, (c + (P + z)) / 4294967296, p.set (i + j) ((c + (P + z)) % 4294967296)) (by first | ((try dsimp only); omega) | (simp [hgy, hgy2, hgz, hgz2, hjli, hpi, hW1, hW2, hW3, hW4, hW5, hWx, hWy, hWz, hIij, hIj, hij, hRij, hset, j3, IntKind.bits] <;> omega)) (by (try dsimp only); exact ⟨by omega, by omega, by simp; exact j3, j4.set (by omega), by rw [wv_take hy, Nat.pow_succ]; exact times_step j5 h2 hd, by intro k h1 h2; rw [List.getElem?_set_ne (by omega)]; exact j6 k h1 (by simpa using h2)⟩) _ _ _ (by simp <;> omega) (by simp <;> omega) (by simp <;> omega)
  ·have hje : j = lb.length := by omega
   subst hje
   have hz : p[i + lb.length]? = some 0 := j6 _ (Nat.le_refl _) (by omega)
   have hW : IntKind.u32.wrap (c : Int) = (c : Int) := by rw [wrap32i]; omega
   have hIij : inI ((i : Int) + (lb.length : Int)) = true := inI_of (by omega) (by omega)
   have hIi : inI ((i : Int) + 1) = true := inI_of (by omega) (by omega)
   have hij : ((i : Int) + (lb.length : Int)).toNat = i + lb.length := by omega
   have hRij : inR ((i : Int) + (lb.length : Int)) (la.length + lb.length) = true := inR_of (by omega) (by omega)
   have hset := wD_set p (i + lb.length) c
   have hlt : i + lb.length < la.length + lb.length := by omega
   have h2 := wv_set c hz
   rw [Nat.pow_add, Nat.mul_zero, Nat.add_zero] at h2
   rw [List.take_length] at j5
   simp [TB, hW, hIij, hIi, hij, hRij, hset, j3, hlt]
   refine ihO (i + 1, p.set (i + lb.length) c) (by first | ((try dsimp only); omega) | (simp [hW, hIij, hIi, hij, hRij, hset, j3, hlt] <;> omega)) (by (try dsimp only); exact ⟨by omega, by simp; exact j3, j4.set j2, by rw [wv_take hx, Nat.add_mul, hN, h2, j5], by intro k h1 h2; rw [List.getElem?_set_ne (by omega)]; exact j6 k (by omega) (by simpa using h2)⟩) _ _ _ (by simp <;> omega) (by simp <;> omega) (by simp <;> omega)
 ·have hie : i = la.length := by omega
  subst hie
  have hok := f166_ok o false 1 (by simp) (fun _ => rfl) i3 (by omega)
  rw [List.take_length, a4, b4] at i4
  have htk : List.take (la.length + lb.length) ((wD o).map V.d) = (wD o).map V.d := List.take_of_length_le (by simp; omega)
  simp [TB]
  refine ATT.fz (by simp) ?_
  simp [i2, htk]
  refine ATT.callE Tryz.func165 60 hok ?_ ?_ ?_ fun v hv => ?_
  iterate 3 · simp
  simp
  refine ATT.fin2 hQ Tryz.func165 ?_
  rw [i4] at hv
  exact ⟨by simp, _, rfl, hv.mono (by omega)⟩
end Go.SL
namespace Go.SL
open Go.Proofs
set_option maxRecDepth 10000
theorem f225_ok (nl : Bool) (sz : Nat) (xs : List D) (h1 : nl = true → xs = []) (h2 : nl = false → sz = 1) (hb : xs.length ≤ 1000000000) : DE Tryz.prog 225 [.sl nl sz xs] fun v => ∃ sz', v = .sl nl sz' xs ∧ (nl = false → sz' = 1) := by
 cases nl with
 | true =>
  have e := h1 rfl
  subst e
  refine AF.start' 60 Tryz.func225 rfl rfl c225call c225ok fun Q hQ => ?_
  simp [c225c, c225t]
  refine ATT.fin' hQ Tryz.func225 c225res ?_
  exact ⟨by simp, _, rfl, 0, rfl, by simp⟩
 | false =>
  have e := h2 rfl
  subst e
  have hl : xs.length ≤ 140737488355328 := by omega
  refine AF.start' 60 Tryz.func225 rfl rfl c225call c225ok fun Q hQ => ?_
  simp [c225c, c225t, hl]
  refine ATT.finz hQ Tryz.func225 c225res (by first | exact .inl rfl | exact .inr ⟨_, rfl⟩) ?_
  simp
  all_goals (first | omega | exact ⟨_, rfl⟩ | skip)
theorem f224_ok (nl : Bool) (sz : Nat) (xs : List D) : VF Tryz.prog 224 [.d (.sl nl sz xs)] [] [] (.fn (.func 234) [] [.ptr 0 0]) [.cells [.d (.sl nl sz xs)] 257] [] := by
 refine AF.start' 60 Tryz.func224 rfl rfl c224call c224ok fun Q hQ => ?_
 simp [c224c, c224t]
 refine ATT.fin' hQ Tryz.func224 c224res ?_
 simp
 all_goals (first | omega | exact ⟨_, rfl⟩ | skip)
set_option maxHeartbeats 1000000 in
theorem f214_ok (m k : Nat) (va : D) (ha : Wd m k va) (hk : k ≤ 100000) : DE Tryz.prog 214 [va] (Bd m (4 * k)) := by
 obtain ⟨nla, sza, la, ea, a1, a2, a3, a4, a5⟩ := ha.words
 subst ea
 have hT := f166_ok la nla sza a1 a2 a3 (by omega)
 rw [a4] at hT
 refine AF.start' 60 Tryz.func214 rfl rfl c214call c214ok fun Q hQ => ?_
 simp [c214c, c214t]
 refine ATT.callE Tryz.func214 60 hT ?_ ?_ ?_ fun v hv => ?_
 iterate 3 · simp
 obtain ⟨nl, sz, l, e, l1, l2, l3, l4, l5⟩ := hv
 subst e
 simp
 refine ATT.callV Tryz.func214 60 [] [] (f224_ok nl sz (wD l)) ?_ ?_ ?_ ?_ ?_ ?_ ?_ ?_
 iterate 7 · simp
 simp
 refine ATT.nilB 0 0 1 5 rfl rfl (by decide) (by simp) ?_
 simp
 have hI0 : inI ((l.length : Int) - 1) = true := inI_of (by omega) (by omega)
 refine ATT.rangeF (gid := 234) (all := fun y => [.d (.fn (.yield y) [] []), .ptr 1 0]) 60 (fun y => by simp) c234call Tryz.func234 rfl rfl c234ok (by simp) (fun y r => ?_)
 simp [c234c, c234t, hI0]
 refine ATT.loopG 60 c234l4.eq_1 (fun ((i, o) : Nat × List Nat) => i) (fun ((i, o) : Nat × List Nat) => i ≤ l.length ∧ o = wb (l.drop i)) (fun ((i, o) : Nat × List Nat) => [(3, .d (.int .i64 ((i : Int) - 1))), (0, .d (.fn (.yield y) [] [])), (1, .ptr 1 0)]) (fun ((i, o) : Nat × List Nat) => [.cells [.vs 0 o.length 0 o.length] 37, .cells [.d (.sl nl sz (wD l))] 257, .raw (DfR 2 r), .raw (LpR Tryz.prog ⟨214, 40, [(9, .fn (.func 234) [] [.ptr 1 0]), (3, .ptr 0 0)], [10, 11], c214r6a, c214r6b, r⟩ 3 y .ready none)]) (fun ((i, o) : Nat × List Nat) => [some ⟨o.isEmpty, 1, 0, (bD o).map V.d, 5⟩]) ((l.length, [])) (by (try dsimp only); exact ⟨Nat.le_refl _, by rw [List.drop_length]; rfl⟩) (by simp <;> omega) (by simp) (by simp) ?_
 intro ⟨i, o⟩ u w hI ih
 try simp only at hI ih
 obtain ⟨i1, i2⟩ := hI
 cases i with
 | zero =>
  simp [c234t]
  refine ATT.fin0' (fun _ _ h => h) Tryz.func234 c234res ⟨by simp, ?_⟩
  simp
  refine ⟨⟨_, rfl⟩, none, rfl, by simp, ?_⟩
  simp
  rw [List.drop_zero] at i2
  have hm : bv o = m := by rw [i2, wb_bv l3.1, l4]
  have hpos : o ≠ [] → 0 < m := fun h => by
   rw [← l4]; exact Can.pos (fun e => h (by rw [i2, e]; rfl)) l3
  have hu8 : U8 o := by rw [i2]; exact wb_u8 l
  have hol : o.length ≤ 4 * k := by rw [i2, wb_len]; omega
  refine ATT.loopG 60 c214l9.eq_1 (fun ((a, b) : List Nat × List Nat) => b.length) (fun ((a, b) : List Nat × List Nat) => o = a ++ b ∧ bv b = m) (fun ((a, b) : List Nat × List Nat) => [(3, .ptr 0 0)]) (fun ((a, b) : List Nat × List Nat) => [.cells [.vs 0 (a.length + b.length) a.length b.length] 37, .cells [.d (.sl nl sz (wD l))] 257, .raw (DfR 2 r)]) (fun ((a, b) : List Nat × List Nat) => [some ⟨o.isEmpty, 1, 0, (bD o).map V.d, 5⟩]) (([], o)) (by (try dsimp only); exact ⟨rfl, hm⟩) (by simp <;> omega) (by simp) (by simp) ?_
  intro ⟨a, b⟩ u w hI ih
  try simp only at hI ih
  obtain ⟨k1, k2⟩ := hI
  cases b with
  | nil =>
   have hoa : o.length = a.length := by rw [k1]; simp
   simp [c214t, hoa]
   refine ATT.fz (by simp) ?_
   simp [hoa]
   have ho0 : o = [] := Classical.byContradiction fun h => by have := hpos h; rw [← k2] at this; simp [bv, bvA] at this
   have hoe : o.isEmpty = true := by rw [ho0]; rfl
   have hC := f225_ok true 1 [] (fun _ => rfl) (by simp) (by simp)
   refine ATT.callE Tryz.func214 60 hC (by simp) (by simp [hoe]) (by simp) fun v hv => ?_
   obtain ⟨sz', e, hsz'⟩ := hv
   subst e
   simp
   refine ATT.retC (Q' := fun o h => (∃ v, o = .ret v) ∧ ∃ v, o = .ret (.d v) ∧ Bd m (4 * k) v) (fun o h hh => ⟨hh.1, hQ o h hh.2⟩) Tryz.func214 c214res 2 rfl rfl (by simp) (by simp) (by simp; rfl) ?_
   simp
   exact ⟨true, sz', [], rfl, fun _ => rfl, by simp, by simp [U8], by simp, k2, by simp⟩
  | cons x b =>
   have hne : o ≠ [] := by rw [k1]; simp
   have hie : o.isEmpty = false := by cases o <;> simp at hne ⊢
   have hgx : (bD o)[a.length]? = some (.int .u8 x) := bD_get (by rw [k1]; simp)
   have hgx2 := bD_getE (l := o) (i := a.length) (x := x) (by rw [k1]; simp)
   have hol2 : o.length = a.length + (b.length + 1) := by rw [k1]; simp
   have hr0 : inR 0 (b.length + 1) = true := inR_of (by omega) (by omega)
   by_cases hx : x = 0
   ·subst hx
    have hb : b ≠ [] := fun e => by have := hpos hne; rw [← k2, e] at this; simp [bv, bvA] at this
    have hbl : (1 : Int) < (b.length : Int) + 1 := by have := List.length_pos_iff.mpr hb; omega
    have hb1 : (1 : Int) ≤ (b.length : Int) + 1 := by omega
    have hbn : ¬ (1 : Int) = (b.length : Int) + 1 := by omega
    have hbt : ((b.length : Int) + 1).toNat - 1 = b.length := by omega
    simp [c214t, hie, hgx2, hol2, hr0, hbl, hb1, hbn]
    refine ih (a ++ [0], b) (by first | ((try dsimp only); omega) | (simp <;> omega)) (by (try dsimp only); exact ⟨by rw [k1]; simp, k2⟩) _ _ _ (by simp <;> omega) (by simp <;> omega) (by simp [hie] <;> omega)
   ·have hx' : ¬ (x : Int) = 0 := by omega
    have hdt : List.take (b.length + 1) (List.drop a.length ((bD o).map V.d)) = (bD (x :: b)).map V.d := by
     rw [k1, bD_app, List.map_append, List.drop_left' (by simp), List.take_of_length_le (by simp)]
    simp [c214t, hie, hgx2, hol2, hr0, hx]
    refine ATT.fz (by simp) ?_
    simp [hol2, hdt]
    have hC := f225_ok false 1 (bD (x :: b)) (by simp) (fun _ => rfl) (by rw [hol2] at hol; simp; omega)
    refine ATT.callE Tryz.func214 60 hC ?_ ?_ ?_ fun v hv => ?_
    iterate 3 · simp
    obtain ⟨sz', e, hsz'⟩ := hv
    subst e
    simp
    refine ATT.retC (Q' := fun o h => (∃ v, o = .ret v) ∧ ∃ v, o = .ret (.d v) ∧ Bd m (4 * k) v) (fun o h hh => ⟨hh.1, hQ o h hh.2⟩) Tryz.func214 c214res 2 rfl rfl (by simp) (by simp) (by simp; rfl) ?_
    simp
    exact ⟨false, sz', x :: b, rfl, by simp, hsz', fun z hz => hu8 z (by rw [k1]; simp at hz ⊢; exact .inr hz), fun q e => hx (by simpa using (List.cons.inj e).1), k2, by rw [hol2] at hol; simp; omega⟩
 | succ i =>
  obtain ⟨x, hx⟩ : ∃ x, l[i]? = some x := ⟨_, List.getElem?_eq_getElem (by omega)⟩
  have hx32 := l3.1.get hx
  have hnl : nl = false := by cases nl with | false => rfl | true => (have := l1 rfl; subst this; simp at i1)
  subst hnl
  have hsz := l2 rfl
  subst hsz
  have hgx := wD_get hx
  have hgx2 := wD_getE hx
  have hi0 : (0 : Int) ≤ i := by omega
  have hII : inI ((i : Int) - 1) = true := inI_of (by omega) (by omega)
  simp [c234t, hgx, hi0]
  refine ATT.yield (l := y) 60 3 c214r6a.eq_1 (by simp) (by simp) (by rfl) rfl (by simp) ?_
  have hlim : o.length ≤ 140737488355324 := by rw [i2, wb_len]; simp; omega
  have e1 : IntKind.u8.wrap ((x : Int).fdiv 16777216) = (x : Int) / 16777216 % 256 := wrap8s x 16777216
  have e2 : IntKind.u8.wrap ((x : Int).fdiv 65536) = (x : Int) / 65536 % 256 := wrap8s x 65536
  have e3 : IntKind.u8.wrap ((x : Int).fdiv 256) = (x : Int) / 256 % 256 := wrap8s x 256
  simp [c214t]
  refine ATT.begin (l := y) 60 c214r6b.eq_1 (i := 3) rfl (by simp) ?_
  simp [c214t, hlim, e1, e2, e3, wrap8x, IntKind.bits]
  refine ATT.endR (by simp) rfl rfl ⟨none, rfl, rfl, by simp, ?_⟩
  simp [c234t]
  have hbd : bD (o ++ b4 x) = bD o ++ [.int .u8 ((x : Int) / 16777216 % 256), .int .u8 ((x : Int) / 65536 % 256), .int .u8 ((x : Int) / 256 % 256), .int .u8 ((x : Int) % 256)] := by simp [bD, b4]
  have hbl : (b4 x).length = 4 := rfl
  have hbe : (b4 x).isEmpty = false := rfl
  have hbn : ¬ b4 x = [] := by simp [b4]
  refine ih (i, o ++ b4 x) (by first | ((try dsimp only); omega) | (simp [hbd, hbl, hbe, hbn, hII] <;> omega)) (by (try dsimp only); exact ⟨by omega, by rw [wb_drop hx, i2]⟩) _ _ _ (by simp [hII] <;> omega) (by simp <;> omega) (by simp [hbd, hbl, hbn] <;> omega)
end Go.SL
namespace Go.SL
open Go.Proofs
set_option maxRecDepth 10000
def signsT : ByteArray := ⟨#[43, 45, 42, 47, 92, 60, 62, 61, 126, 44, 64, 37, 38, 63]⟩
theorem place_bd (c : Int) (s : ByteArray) : ∀ m i, s.size - i = m → placeS c s i = -1 ∨ (i ≤ placeS c s i ∧ placeS c s i < s.size) := by
 intro m
 induction m with
 | zero => intro i h; rw [placeS]; simp [show ¬ i < s.size by omega]
 | succ m ih =>
  intro i h
  rw [placeS]
  have h0 : i < s.size := by omega
  simp only [h0, dite_true]
  split
  ·right; omega
  ·rcases ih (i + 1) (by omega) with h | h
   ·exact .inl h
   ·right; omega
def signS (c : Int) : Bool := decide (0 ≤ placeS c signsT 0)
theorem f170_ok (c : Int) : DF Tryz.prog 170 [.int .u8 c] (.bool (signS c)) := by
 refine AF.start 60 Tryz.func170 rfl rfl c170call c170ok ?_
 simp [c170c, c170t]
 refine ATT.callD Tryz.func170 60 (f94_ok c signsT (by unfold Ascii; decide)) trivial (by simp [signsT]) rfl ?_
 simp
 refine ATT.fin Tryz.func170 c170res ?_
 simp [signS]
theorem signB : FnB 170 signS := fun c _ _ => f170_ok c
def signsS (s : ByteArray) (i : Nat) : Nat :=
 if (decide (i < s.size) && signS (sbyte s i)) then (if (decide (i + 1 < s.size) && signS (sbyte s (i + 1 : Nat))) then i + 2 else i + 1) else i
theorem f134_ok (s : ByteArray) (_hs : s.size ≤ 1073741824) (i : Nat) (hi : i ≤ 1073741824) : MF Tryz.prog 134 [.ptr 0 0] (RD s i) (.d (.bool (decide (i < signsS s i)))) (RD s (signsS s i)) := by
 have hM := f124_ok signB s i
 have hM2 := f124_ok signB s (i + 1)
 have hn : signsS s i = if (decide (i < s.size) && signS (sbyte s i)) then (if (decide (i + 1 < s.size) && signS (sbyte s (i + 1 : Nat))) then i + 2 else i + 1) else i := rfl
 generalize (decide (i < s.size) && signS (sbyte s i)) = b at hM hn
 generalize (decide (i + 1 < s.size) && signS (sbyte s (i + 1 : Nat))) = b2 at hM2 hn
 have hI1 : inI ((i : Int) + 1) = true := inI_of (by omega) (by omega)
 have hI2 : inI ((i : Int) + 2) = true := inI_of (by omega) (by omega)
 have hI3 : inI ((i : Int) + 1 + 1) = true := inI_of (by omega) (by omega)
 have hlt1 : (i : Int) < i + 2 := by omega
 have hlt2 : (i : Int) + 1 < i + 2 := by omega
 have hlt0 : ¬ (i : Int) + 1 + 1 < i + 2 := by omega
 refine AF.start 60 Tryz.func134 rfl rfl c134call c134ok ?_
 simp [c134c, c134t, RD]
 refine ATT.loop 60 rfl ?_
 simp [c134l4, c134t, hI2, hlt1]
 refine ATT.callM Tryz.func134 60 [0] hM rfl (by simp) (by simp) (by simp [RD]) (by simp) (by simp) ?_
 simp [RD]
 cases b with
 | false =>
  simp [c134t]
  refine ATT.fin Tryz.func134 c134res ?_
  simp [hn]
 | true =>
  simp [c134t]
  refine ATT.again 60 (by simp [hI1]) ?_
  simp [c134t, hI2, hlt2]
  refine ATT.callM Tryz.func134 60 [0] hM2 rfl (by simp) (by simp) (by simp [RD]) (by simp) (by simp) ?_
  simp [RD]
  cases b2 with
  | false =>
   simp [c134t]
   refine ATT.fin Tryz.func134 c134res ?_
   simp [hn]
   omega
  | true =>
   simp [c134t]
   refine ATT.again 60 (by simp [hI3]) ?_
   simp [c134t, hI2, hlt0]
   refine ATT.fin Tryz.func134 c134res ?_
   simp [hn]
   omega
end Go.SL
namespace Go.SL
open Go.Proofs
set_option maxRecDepth 100000
theorem XF.of {P : Program} {fid : FuncId} {fn : Func} {e : Array Value → Sem Value} (hf : P.funcs[fid]? = some fn) (hname : (fn.name == "runtime.NumGoroutine") = false)
  (hb : fn.body.isNone = true) (hn : Extern.findNext fn = none) (he : Extern.find fn = some e) {args : List V} {v : V}
  (h : ∀ (κ : K) (w : World) (argv : List Value), VL κ args argv → ∃ y, (e ⟨argv⟩).run P w = .ok y w ∧ VR κ v y) : XF P fid args v := by
 intro κ w argv ha
 obtain ⟨y, h1, h2⟩ := h κ w argv ha
 exact ⟨y, by rw [run_callFunc_extern hf hname hb hn he, h1]; rfl, h2⟩
theorem f159_ok (s : ByteArray) (c : Int) : XF Tryz.prog 159 [.d (.str s), .d (.int .u8 c)] (.d (.int .i64 (firstIdx s c.toNat.toUInt8))) := by
 refine XF.of Tryz.func159 (by kernel_rfl) (by kernel_rfl) (by kernel_rfl) (e := Extern.BytealgIndexByte.indexByte) (by kernel_rfl) ?_
 intro κ w argv ha
 simp only [VL, VR, DR] at ha
 obtain ⟨y, t, e1, e2, y2, t2, e3, e4, e5⟩ := ha
 subst e1 e2 e3 e4 e5
 exact ⟨_, run_indexByte_string s c w, by simp [VR, DR]⟩
theorem f125_ok (s : ByteArray) (c : Int) : DF Tryz.prog 125 [.str s, .int .u8 c] (.int .i64 (firstIdx s c.toNat.toUInt8)) := by
 refine AF.start 60 Tryz.func125 rfl rfl c125call c125ok ?_
 simp [c125c, c125t]
 refine ATT.callX 60 (f159_ok s c) trivial (by simp) rfl ?_
 simp
 refine ATT.fin Tryz.func125 c125res ?_
 simp
theorem f95_ok (s : ByteArray) (c : Int) : DF Tryz.prog 95 [.str s, .int .u8 c] (.int .i64 (firstIdx s c.toNat.toUInt8)) := by
 refine AF.start 60 Tryz.func95 rfl rfl c95call c95ok ?_
 simp [c95c, c95t]
 refine ATT.callD Tryz.func95 60 (f125_ok s c) trivial (by simp) rfl ?_
 simp
 refine ATT.fin Tryz.func95 c95res ?_
 simp
theorem f215_ok (x : V) : XF Tryz.prog 215 [x] x := by
 refine XF.of Tryz.func215 (by kernel_rfl) (by kernel_rfl) (by kernel_rfl) (e := Extern.AbiNoEscape.same) (by kernel_rfl) ?_
 intro κ w argv ha
 simp only [VL] at ha
 obtain ⟨y, t, e1, e2, e3⟩ := ha
 subst e1 e3
 exact ⟨y, rfl, e2⟩
end Go.SL
namespace Go.SL
open Go.Proofs
set_option maxRecDepth 10000
def bldL : List (Nat × Nat) := [(234, 2), (235, 2), (236, 2), (237, 2)]
theorem f196_ok (T : TypeId) (hT : hasT bldL T 2 = true) (b : Bool) (l : List UInt8) (z : Nat) :
  VF Tryz.prog 196 [.ptr 0 0] [BB 0 0 T b l] [BV 5 z l] (.d (.tup [])) [BB 0 0 T true l] [BV 5 z l] := by
 simp only [bldL] at hT
 cases b with
 | false =>
  refine AF.start' 60 Tryz.func196 rfl rfl c196call c196ok fun Q hQ => ?_
  simp [c196c, c196t]
  refine ATT.callX 60 (f215_ok (.ptr 0 0)) ?_ ?_ ?_ ?_
  iterate 3 · simp
  simp [hT]
  refine ATT.fin0' hQ Tryz.func196 c196res ?_
  simp
  all_goals (first | omega | exact ⟨_, rfl⟩ | skip)
 | true =>
  refine AF.start' 60 Tryz.func196 rfl rfl c196call c196ok fun Q hQ => ?_
  simp [c196c, c196t]
  refine ATT.fin0' hQ Tryz.func196 c196res ?_
  simp
  all_goals (first | omega | exact ⟨_, rfl⟩ | skip)
theorem f169_ok (T : TypeId) (hT : hasT bldL T 2 = true) (b : Bool) (l : List UInt8) (hl : l.length ≤ 1099511627776) (x : UInt8) :
  VF Tryz.prog 169 [.ptr 0 0, .d (.int .u8 (x.toNat : Int))] [BB 0 0 T b l] [BV 5 0 l] (.d .nilI) [BB 0 0 T true (l ++ [x])] [BV 5 0 (l ++ [x])] := by
 refine AF.start' 60 Tryz.func169 rfl rfl c169call c169ok fun Q hQ => ?_
 simp [c169c, c169t]
 refine ATT.callV Tryz.func169 60 [0] [0] (f196_ok T hT b l 0) ?_ ?_ ?_ ?_ ?_ ?_ ?_ ?_
 iterate 7 · simp
 simp [c169t]
 refine ATT.fin' hQ Tryz.func169 c169res ?_
 simp [(by omega : l.length ≤ 140737488355327)]
 all_goals (first | omega | exact ⟨_, rfl⟩ | skip)
theorem f174_ok (T : TypeId) (hT : hasT bldL T 2 = true) (b : Bool) (l : List UInt8) (s : ByteArray) (hl : l.length + s.size ≤ 1099511627776) :
  VF Tryz.prog 174 [.ptr 0 0, .d (.str s)] [BB 0 0 T b l] [BV 5 0 l] (.d (.tup [.int .i64 s.size, .nilI])) [BB 0 0 T true (l ++ s.data.toList)] [BV 5 0 (l ++ s.data.toList)] := by
 refine AF.start' 60 Tryz.func174 rfl rfl c174call c174ok fun Q hQ => ?_
 simp [c174c, c174t]
 refine ATT.callV Tryz.func174 60 [0] [0] (f196_ok T hT b l 0) ?_ ?_ ?_ ?_ ?_ ?_ ?_ ?_
 iterate 7 · simp
 simp [c174t]
 refine ATT.fin' hQ Tryz.func174 c174res ?_
 simp [(by omega : l.length + s.size ≤ 140737488355328)]
 all_goals (first | omega | exact ⟨_, rfl⟩ | skip)
theorem f168_ok (T : TypeId) (b : Bool) (l : List UInt8) (z : Nat) :
  VF Tryz.prog 168 [.ptr 0 0] [BB 0 0 T b l] [BV 5 z l] (.d (.int .i64 l.length)) [BB 0 0 T b l] [BV 5 z l] := by
 cases b with
 | false =>
  refine AF.start' 60 Tryz.func168 rfl rfl c168call c168ok fun Q hQ => ?_
  simp [c168c, c168t]
  refine ATT.fin' hQ Tryz.func168 c168res ?_
  simp
  all_goals (first | omega | exact ⟨_, rfl⟩ | skip)
 | true =>
  refine AF.start' 60 Tryz.func168 rfl rfl c168call c168ok fun Q hQ => ?_
  simp [c168c, c168t]
  refine ATT.fin' hQ Tryz.func168 c168res ?_
  simp
  all_goals (first | omega | exact ⟨_, rfl⟩ | skip)
theorem f138_ok (T : TypeId) (b : Bool) (l : List UInt8) (hl : l.length ≤ 1099511627776) :
  VF Tryz.prog 138 [.ptr 0 0] [BB 0 0 T b l] [BV 5 0 l] (.d (.str ⟨l.toArray⟩)) [BB 0 0 T b l] [BV 5 l.length l] := by
 cases l with
 | nil =>
  refine AF.start' 60 Tryz.func138 rfl rfl c138call c138ok fun Q hQ => ?_
  simp [c138c, c138t]
  refine ATT.fin' hQ Tryz.func138 c138res ?_
  simp
  all_goals (first | omega | exact ⟨_, rfl⟩ | skip)
 | cons x l =>
  have hI : inI ((l.length : Int) + 1) = true := inI_of (by omega) (by simp at hl; omega)
  have hb := byteL_bs (x :: l)
  have hs := bytesI_bs (x :: l)
  simp only [List.map_cons] at hb hs
  refine AF.start' 60 Tryz.func138 rfl rfl c138call c138ok fun Q hQ => ?_
  simp [c138c, c138t, hI, hb, hs]
  refine ATT.fin' hQ Tryz.func138 c138res ?_
  simp
  all_goals (first | omega | exact ⟨_, rfl⟩ | skip)
end Go.SL
namespace Go.SL
open Go.Proofs
set_option maxRecDepth 10000
def byteS (s : ByteArray) (i : Nat) : UInt8 := s.data.toList.getD i 0
theorem sbyte_byte (s : ByteArray) (i : Nat) : sbyte s i = ((byteS s i).toNat : Int) := by
 simp [sbyte, byteS]
def quoS (s : ByteArray) (i : Nat) (acc : List UInt8) : Option (List UInt8) × Nat :=
 if h : i < s.size then (if sbyte s i = 39 then (if atS s (i + 1) = 39 then quoS s (i + 2) (acc ++ [39]) else (some acc, i + 1)) else quoS s (i + 1) (acc ++ [byteS s i])) else (none, i)
termination_by s.size - i
def quotedS (s : ByteArray) (i : Nat) : Option (List UInt8) × Nat := if atS s i = 39 then quoS s (i + 1) [] else (none, i)
def quT : Option (List UInt8) → ByteArray
 | some l => ⟨l.toArray⟩
 | none => ⟨#[]⟩
def quB : Option (List UInt8) → Bool
 | some l => decide (l.length ≤ 1024)
 | none => false
abbrev quotV (q : Option (List UInt8) × Nat) : V := .d (.tup [.str (quT q.1), .bool (quB q.1)])
theorem quoS_end {s : ByteArray} {i : Nat} {acc : List UInt8} (h : ¬ i < s.size) : quoS s i acc = (none, i) := by
 rw [quoS]; simp [h]
theorem quoS_two {s : ByteArray} {i : Nat} {acc : List UInt8} (h : i < s.size) (h1 : sbyte s i = 39) (h2 : atS s (i + 1) = 39) : quoS s i acc = quoS s (i + 2) (acc ++ [39]) := by
 rw [quoS]; simp [h, h1, h2]
theorem quoS_one {s : ByteArray} {i : Nat} {acc : List UInt8} (h : i < s.size) (h1 : sbyte s i = 39) (h2 : ¬ atS s (i + 1) = 39) : quoS s i acc = (some acc, i + 1) := by
 rw [quoS]; simp [h, h1, h2]
theorem quoS_more {s : ByteArray} {i : Nat} {acc : List UInt8} (h : i < s.size) (h1 : ¬ sbyte s i = 39) : quoS s i acc = quoS s (i + 1) (acc ++ [byteS s i]) := by
 rw [quoS]; simp [h, h1]
theorem f131_ok (s : ByteArray) (hs : s.size ≤ 1073741824) (i : Nat) (hi : i ≤ 1073741824) : MF Tryz.prog 131 [.ptr 0 0] (RD s i) (quotV (quotedS s i)) (RD s (quotedS s i).2) := by
 have hI : inI ((i : Int) + 1) = true := inI_of (by omega) (by omega)
 refine AF.go Tryz.func131 [(4, [oD 10 []]), (6, [oD 10 []]), (11, [oD 10 []])] fun tb TB Q hQ => ?_
 simp [TB]
 refine ATT.callM Tryz.func131 60 [0] (f132_ok s hs i 0 (by omega) (by omega)) rfl ?_ ?_ ?_ ?_ ?_ ?_
 iterate 5 · simp
 simp
 first | with_reducible refine ATT.cC (fun h => ?_) (fun h => ?_) | with_reducible refine ATT.cE (fun h => ?_) (fun h => ?_) | with_reducible refine ATT.cD (fun h => ?_) (fun h => ?_) | with_reducible refine ATT.cCn (fun h => ?_) (fun h => ?_) | with_reducible refine ATT.cEn (fun h => ?_) (fun h => ?_) | with_reducible refine ATT.cDn (fun h => ?_) (fun h => ?_)
 ·simp [TB, h]
  have hq : quotedS s i = quoS s (i + 1) [] := by simp [quotedS, h]
  rw [hq] at hQ
  generalize hr : quoS s (i + 1) [] = r at hQ
  refine ATT.nilB 1 1 1 5 rfl rfl (by decide) (by simp) ?_
  simp
  refine ATT.loopG 60 rfl (fun ((j, acc, b) : Nat × List UInt8 × Bool) => s.size - j) (fun ((j, acc, b) : Nat × List UInt8 × Bool) => quoS s j acc = r ∧ acc.length ≤ j) (fun ((j, acc, b) : Nat × List UInt8 × Bool) => [(4, V.ptr 1 0), (0, V.ptr 0 0)]) (fun ((j, acc, b) : Nat × List UInt8 × Bool) => [.cells [.d (.str s), .d (.int .i64 j)] 175, BB 1 0 235 b acc]) (fun ((j, acc, b) : Nat × List UInt8 × Bool) => [BV 5 0 acc]) ((i + 1, [], false)) (by (try dsimp only); exact ⟨hr, by simp⟩) (by simp [hI] <;> omega) (by simp) (by simp [bsV]) ?_
  intro ⟨j, acc, b⟩ u w hI ih
  try simp only at hI ih
  obtain ⟨hj, hl⟩ := hI
  have hT : hasT bldL 235 2 = true := by decide
  have hI1 : j < s.size → inI ((j : Int) + 1) = true := fun h => inI_of (by omega) (by omega)
  have hI2 : j < s.size → inI ((j : Int) + 1 + 1) = true := fun h => inI_of (by omega) (by omega)
  simp
  first | with_reducible refine ATT.cC (fun h1 => ?_) (fun h1 => ?_) | with_reducible refine ATT.cE (fun h1 => ?_) (fun h1 => ?_) | with_reducible refine ATT.cD (fun h1 => ?_) (fun h1 => ?_) | with_reducible refine ATT.cCn (fun h1 => ?_) (fun h1 => ?_) | with_reducible refine ATT.cEn (fun h1 => ?_) (fun h1 => ?_) | with_reducible refine ATT.cDn (fun h1 => ?_) (fun h1 => ?_)
  ·have hR : inR (j : Int) s.size = true := inR_of (by omega) (by omega)
   simp [hR]
   first | with_reducible refine ATT.cC (fun h2 => ?_) (fun h2 => ?_) | with_reducible refine ATT.cE (fun h2 => ?_) (fun h2 => ?_) | with_reducible refine ATT.cD (fun h2 => ?_) (fun h2 => ?_) | with_reducible refine ATT.cCn (fun h2 => ?_) (fun h2 => ?_) | with_reducible refine ATT.cEn (fun h2 => ?_) (fun h2 => ?_) | with_reducible refine ATT.cDn (fun h2 => ?_) (fun h2 => ?_)
   ·simp [TB]
    refine ATT.callM Tryz.func131 60 [0] (f132_ok s hs j 1 (by omega) (by omega)) rfl ?_ ?_ ?_ ?_ ?_ ?_
    iterate 5 · simp
    simp
    first | with_reducible refine ATT.cC (fun h3 => ?_) (fun h3 => ?_) | with_reducible refine ATT.cE (fun h3 => ?_) (fun h3 => ?_) | with_reducible refine ATT.cD (fun h3 => ?_) (fun h3 => ?_) | with_reducible refine ATT.cCn (fun h3 => ?_) (fun h3 => ?_) | with_reducible refine ATT.cEn (fun h3 => ?_) (fun h3 => ?_) | with_reducible refine ATT.cDn (fun h3 => ?_) (fun h3 => ?_)
    ·have h4 : j + 1 < s.size := by unfold atS at h3; split at h3 <;> first | assumption | simp at h3
     have h5 : sbyte s ((j : Int) + 1) = 39 := by unfold atS at h3; rw [if_pos h4] at h3; simpa using h3
     have hR1 : inR ((j : Int) + 1) s.size = true := inR_of (by omega) (by omega)
     simp [TB, hI1 h1, hR1, h5]
     refine ATT.callRV Tryz.func131 60 [1] [0] (f169_ok 235 hT b acc (by omega) 39) ?_ ?_ ?_ ?_ ?_ ?_ ?_ ?_
     iterate 7 · simp
     simp [TB, hI2 h1]
     refine ih (j + 2, acc ++ [39], true) (by first | ((try dsimp only); omega) | (simp [hR, hI1 h1, hI2 h1] <;> omega)) (by (try dsimp only); exact ⟨by rw [← hj]; exact (quoS_two h1 h2 h3).symm, by simp; omega⟩) _ _ _ (by simp <;> omega) (by simp <;> omega) (by simp [bsV] <;> omega)
    ·simp [TB, hI1 h1]
     refine ATT.callV Tryz.func131 60 [1] [0] (f138_ok 235 b acc (by omega)) ?_ ?_ ?_ ?_ ?_ ?_ ?_ ?_
     iterate 7 · simp
     simp
     refine ATT.callV Tryz.func131 60 [1] [0] (f168_ok 235 b acc acc.length) ?_ ?_ ?_ ?_ ?_ ?_ ?_ ?_
     iterate 7 · simp
     simp
     refine ATT.fin2 hQ Tryz.func131 ?_
     simp [← hj, quoS_one h1 h2 h3, quT, quB]
     all_goals (first | omega | exact ⟨_, rfl⟩ | skip)
   ·skip
    simp [hR, sbyte_byte]
    refine ATT.callRV Tryz.func131 60 [1] [0] (f169_ok 235 hT b acc (by omega) (byteS s j)) ?_ ?_ ?_ ?_ ?_ ?_ ?_ ?_
    iterate 7 · simp
    simp [TB, hI1 h1]
    refine ih (j + 1, acc ++ [byteS s j], true) (by first | ((try dsimp only); omega) | (simp [hR, hI1 h1, hI2 h1, sbyte_byte] <;> omega)) (by (try dsimp only); exact ⟨by rw [← hj]; exact (quoS_more h1 h2).symm, by simp; omega⟩) _ _ _ (by simp <;> omega) (by simp <;> omega) (by simp [bsV] <;> omega)
  ·simp [h1]
   refine ATT.pass 60 (by simp <;> omega) ?_
   simp [TB]
   refine ATT.fin2 hQ Tryz.func131 ?_
   simp [← hj, quoS_end h1, quT, quB]
   all_goals (first | omega | exact ⟨_, rfl⟩ | skip)
 ·simp [h]
  refine ATT.jump 60 (by simp) rfl ?_
  simp [TB]
  refine ATT.fin2 hQ Tryz.func131 ?_
  simp [quotedS, h, quT, quB]
  all_goals (first | omega | exact ⟨_, rfl⟩ | skip)
end Go.SL
namespace Go.SL
open Go.Proofs
set_option maxRecDepth 10000
theorem skipS_le (p : Int → Bool) (s : ByteArray) : ∀ m i, s.size - i = m → i ≤ skipS p s i ∧ (i ≤ s.size → skipS p s i ≤ s.size) := by
 intro m
 induction m with
 | zero => intro i h; rw [skipS_no (by simp; omega)]; exact ⟨Nat.le_refl _, id⟩
 | succ m ih =>
  intro i h
  cases hb : (decide (i < s.size) && p (sbyte s i)) with
  | false => rw [skipS_no hb]; exact ⟨Nat.le_refl _, id⟩
  | true =>
   rw [skipS_yes hb]
   have := ih (i + 1) (by omega)
   exact ⟨by omega, fun h' => this.2 (by omega)⟩
theorem nameS_le (s : ByteArray) (i : Nat) : i ≤ nameS s i ∧ (i ≤ s.size → nameS s i ≤ s.size) := by
 unfold nameS
 split
 ·exact skipS_le _ s _ i rfl
 ·exact ⟨Nat.le_refl _, id⟩
theorem nameS_gt (s : ByteArray) (i : Nat) : i < nameS s i ↔ (decide (i < s.size) && letterS (sbyte s i)) = true := by
 unfold nameS
 split
 ·rename_i h
  simp only [h, iff_true]
  simp at h
  rw [skipS_yes (by simp [h, identS])]
  have := (skipS_le identS s _ (i + 1) rfl).1
  omega
 ·rename_i h
  simp [h]
theorem colon_lt {s : ByteArray} {i : Nat} (h : colonS s i = true) : i < s.size := by
 simp only [colonS, Bool.and_eq_true, decide_eq_true_eq] at h
 have h := h.1
 unfold atS at h
 split at h
 ·assumption
 ·simp at h
def symK (s : ByteArray) (k : Nat) : Nat := if h : colonS s k = true then symK s (nameS s (k + 1)) else k
termination_by s.size - k
decreasing_by have := colon_lt h; have := (nameS_le s (k + 1)).1; omega
theorem symK_yes {s : ByteArray} {k : Nat} (h : colonS s k = true) : symK s k = symK s (nameS s (k + 1)) := by rw [symK]; simp [h]
theorem symK_no {s : ByteArray} {k : Nat} (h : colonS s k = false) : symK s k = k := by rw [symK]; simp [h]
theorem symK_le (s : ByteArray) : ∀ m k, s.size - k = m → k ≤ symK s k ∧ (k ≤ s.size → symK s k ≤ s.size) := by
 intro m
 induction m using Nat.strongRecOn with
 | ind m ih =>
  intro k hm
  cases h : colonS s k with
  | false => rw [symK_no h]; exact ⟨Nat.le_refl _, id⟩
  | true =>
   rw [symK_yes h]
   have h1 := colon_lt h
   have h2 := nameS_le s (k + 1)
   have := ih (s.size - nameS s (k + 1)) (by omega) _ rfl
   exact ⟨by omega, fun _ => this.2 (h2.2 (by omega))⟩
theorem signsS_le (s : ByteArray) (i : Nat) : i ≤ signsS s i ∧ (i ≤ s.size → signsS s i ≤ s.size) := by
 unfold signsS
 split
 ·rename_i h
  simp at h
  split
  ·rename_i h2
   simp at h2
   exact ⟨by omega, fun _ => by omega⟩
  ·exact ⟨by omega, fun _ => by omega⟩
 ·exact ⟨Nat.le_refl _, id⟩
def symE (s : ByteArray) (i : Nat) : Nat := if i < nameS s i then symK s (nameS s i) else signsS s i
def subT (s : ByteArray) (i j : Nat) : ByteArray := s.extract i j
def symT (s : ByteArray) (i : Nat) : ByteArray := if i < symE s i then subT s i (symE s i) else quT (quotedS s i).1
def symB (s : ByteArray) (i : Nat) : Bool := if i < symE s i then decide (symE s i - i ≤ 1024) else quB (quotedS s i).1
def symN (s : ByteArray) (i : Nat) : Nat := if i < symE s i then symE s i else (quotedS s i).2
theorem f133_ok (s : ByteArray) (hs : s.size ≤ 1073741823) (i : Nat) (hi : i ≤ s.size) : MF Tryz.prog 133 [.ptr 0 0] (RD s i) (.d (.tup [.str (symT s i), .bool (symB s i)])) (RD s (symN s i)) := by
 have hg := nameS_gt s i
 have hM := f127_ok s (by omega) i
 have hle := nameS_le s i
 refine AF.go Tryz.func133 [(8, [oD 19 [(17, [10, 11, 12, 13, 14, 15, 16])]])] fun tb TB Q hQ => ?_
 simp [TB]
 generalize (decide (i < s.size) && letterS (sbyte s i)) = b at hM hg
 refine ATT.callM Tryz.func133 60 [0] (hM) rfl ?_ ?_ ?_ ?_ ?_ ?_
 iterate 5 · simp
 simp
 cases b with
 | true =>
  have hlt : i < nameS s i := hg.2 rfl
  have hE : symE s i = symK s (nameS s i) := by simp [symE, hlt]
  have hEb := symK_le s _ (nameS s i) rfl
  simp only [symT, symB, symN] at hQ
  rw [if_pos (by rw [hE]; omega), if_pos (by rw [hE]; omega), if_pos (by rw [hE]; omega)] at hQ
  generalize symE s i = e at hE hQ
  refine ATT.loopG 60 rfl (fun (k : Nat) => s.size - k) (fun (k : Nat) => symK s k = e ∧ i < k ∧ k ≤ e ∧ k ≤ s.size) (fun (k : Nat) => [(4, V.d (.int .i64 i)), (0, V.ptr 0 0)]) (fun (k : Nat) => [.cells [.d (.str s), .d (.int .i64 k)] 175]) (fun (k : Nat) => []) (nameS s i) (by (try dsimp only); exact ⟨hE.symm, hlt, by omega, by omega⟩) (by simp <;> omega) (by simp) (by simp) ?_
  intro k u w hI ih
  try simp only at hI ih
  simp [TB]
  refine ATT.callM Tryz.func133 60 [0] (f128_ok s (by omega) k (by omega)) rfl ?_ ?_ ?_ ?_ ?_ ?_
  iterate 5 · simp
  simp
  cases hc : colonS s k with
  | true =>
   have hk := colon_lt hc
   have h1 := nameS_le s (k + 1)
   have h2 := symK_yes hc
   have h3 := symK_le s _ (nameS s (k + 1)) rfl
   have hI1 : inI ((k : Int) + 1) = true := inI_of (by omega) (by omega)
   have hN := f127_ok s (by omega) (k + 1)
   simp only [Int.natCast_add, Int.natCast_one] at hN
   simp [TB, hI1]
   refine ATT.callM Tryz.func133 60 [0] (hN) rfl ?_ ?_ ?_ ?_ ?_ ?_
   iterate 5 · simp
   simp
   have he : symK s (nameS s (k + 1)) = e := by rw [← h2]; exact hI.1
   refine ih (nameS s (k + 1)) (by first | ((try dsimp only); omega) | (simp <;> omega)) (by (try dsimp only); exact ⟨he, by omega, by omega, by omega⟩) _ _ _ (by simp <;> omega) (by simp <;> omega) (by simp <;> omega)
  | false =>
   have h2 := symK_no hc
   have he : e = k := by rw [← hI.1]; exact h2
   have hI1 : inI ((k : Int) - i) = true := inI_of (by omega) (by omega)
   simp [hI1]
   refine ATT.fin2 hQ Tryz.func133 ?_
   simp [he, subT]
   all_goals (first | omega | exact ⟨_, rfl⟩ | skip)
 | false =>
  have hlt : ¬ i < nameS s i := fun h => by simpa using hg.1 h
  have hn : nameS s i = i := by omega
  have hE : symE s i = signsS s i := by simp [symE, hlt]
  have hb := signsS_le s i
  have hSg := f134_ok s (by omega) i (by omega)
  simp [TB, hn]
  refine ATT.callM Tryz.func133 60 [0] (hSg) rfl ?_ ?_ ?_ ?_ ?_ ?_
  iterate 5 · simp
  simp
  by_cases h1 : i < signsS s i
  ·simp only [symT, symB, symN] at hQ
   rw [if_pos (by rw [hE]; exact h1), if_pos (by rw [hE]; exact h1), if_pos (by rw [hE]; exact h1)] at hQ
   have hI1 : inI ((signsS s i : Int) - i) = true := inI_of (by omega) (by omega)
   simp [h1, hI1]
   refine ATT.fin2 hQ Tryz.func133 ?_
   simp [hE, subT]
   all_goals (first | omega | exact ⟨_, rfl⟩ | skip)
  ·simp only [symT, symB, symN] at hQ
   rw [if_neg (by rw [hE]; exact h1), if_neg (by rw [hE]; exact h1), if_neg (by rw [hE]; exact h1)] at hQ
   have hs0 : signsS s i = i := by omega
   simp [TB, hs0]
   refine ATT.callM Tryz.func133 60 [0] (f131_ok s (by omega) i (by omega)) rfl ?_ ?_ ?_ ?_ ?_ ?_
   iterate 5 · simp
   simp
   refine ATT.fin2 hQ Tryz.func133 ?_
   simp
   all_goals (first | omega | exact ⟨_, rfl⟩ | skip)
end Go.SL
namespace Go.SL
structure Tk where
 k : Int
 t : ByteArray
 a : Nat
 deriving DecidableEq
inductive Nd where
 | mk (k : Int) (t : ByteArray) (a : Nat) (n : Nat) (names : List ByteArray) (kids : List Nd)
namespace Nd
def k : Nd → Int | .mk k _ _ _ _ _ => k
def t : Nd → ByteArray | .mk _ t _ _ _ _ => t
def a : Nd → Nat | .mk _ _ a _ _ _ => a
def n : Nd → Nat | .mk _ _ _ n _ _ => n
def names : Nd → List ByteArray | .mk _ _ _ _ l _ => l
def kids : Nd → List Nd | .mk _ _ _ _ _ l => l
end Nd
inductive Res (α : Type) where
 | ok (x : α) (r : List Tk)
 | no (a : Nat) (why : Int)
 | out
def Res.andThen {α β : Type} : Res α → (α → List Tk → Res β) → Res β
 | .ok x r, f => f x r
 | .no a w, _ => .no a w
 | .out, _ => .out
def kd : List Tk → Int
 | [] => 0
 | t :: _ => t.k
def pl : List Tk → Nat
 | [] => 0
 | t :: _ => t.a
def tx : List Tk → ByteArray
 | [] => ⟨#[]⟩
 | t :: _ => t.t
def eSyn : Int := 20
def eSize : Int := 3
def trueT : ByteArray := ⟨#[116, 114, 117, 101]⟩
def falseT : ByteArray := ⟨#[102, 97, 108, 115, 101]⟩
def nilT : ByteArray := ⟨#[110, 105, 108]⟩
def sentS (x m : Nd) : Nd := .mk 7 m.t m.a 0 [] (x :: m.kids)
def namesS : List Tk → List ByteArray × List Tk
 | [] => ([], [])
 | t :: r => if t.k = 1 then (t.t :: (namesS r).1, (namesS r).2) else ([], t :: r)
def argsS : Nat → List Tk → Res (List ByteArray)
 | 0, _ => .out
 | n + 1, l => if kd l = 16 then (if kd l.tail = 1 then (argsS n l.tail.tail).andThen fun x r => .ok (tx l.tail :: x) r else .no (pl l.tail) eSyn) else .ok [] l
def tempsS (l : List Tk) : Res (List ByteArray) :=
 if kd l = 12 then (if kd (namesS l.tail).2 = 12 then .ok (namesS l.tail).1 (namesS l.tail).2.tail else .no (pl (namesS l.tail).2) eSyn) else .ok [] l
mutual
def exprS : Nat → Nat → List Tk → Res Nd
 | 0, _, _ => .out
 | n + 1, d, l =>
  if kd l = 1 ∧ kd l.tail = 7 then
   (if d = 40 then .no (pl l.tail) eSize else (exprS n (d + 1) l.tail.tail).andThen fun x r => .ok (.mk 6 (tx l) (pl l) 0 [] [x]) r)
  else cascS n d l
def cascS : Nat → Nat → List Tk → Res Nd
 | 0, _, _ => .out
 | n + 1, d, l => (keyedS n d l).andThen fun x r =>
  if kd r = 15 then
   (if x.1.k = 7 ∧ x.2 = true then
    (semisS n d [] r).andThen fun ms r' => .ok (.mk 8 ⟨#[]⟩ x.1.a 0 [] (x.1.kids.take 1 ++ .mk 9 x.1.t x.1.a 0 [] (x.1.kids.drop 1) :: ms)) r'
   else .no (pl r) eSyn)
  else .ok x.1 r
def semisS : Nat → Nat → List Nd → List Tk → Res (List Nd)
 | 0, _, _, _ => .out
 | n + 1, d, acc, l => if kd l = 15 then (msgS n d l.tail).andThen fun m r => semisS n d (acc ++ [m]) r else .ok acc l
def msgS : Nat → Nat → List Tk → Res Nd
 | 0, _, _ => .out
 | n + 1, d, l =>
  if kd l = 1 then .ok (.mk 9 (tx l) (pl l) 0 [] []) l.tail
  else if kd l = 3 then (unaryS n d l.tail).andThen fun x r => .ok (.mk 9 (tx l) (pl l) 0 [] [x.1]) r
  else if kd l = 2 then (keysS n d ⟨#[]⟩ [] l).andThen fun x r => .ok (.mk 9 x.1 (pl l) 0 [] x.2) r
  else .no (pl l) eSyn
def keysS : Nat → Nat → ByteArray → List Nd → List Tk → Res (ByteArray × List Nd)
 | 0, _, _, _, _ => .out
 | n + 1, d, s, acc, l => if kd l = 2 then (binaryS n d l.tail).andThen fun x r => keysS n d (s ++ tx l) (acc ++ [x.1]) r else .ok (s, acc) l
def keyedS : Nat → Nat → List Tk → Res (Nd × Bool)
 | 0, _, _ => .out
 | n + 1, d, l => (binaryS n d l).andThen fun x r => if kd r = 2 then (msgS n d r).andThen fun m r' => .ok (sentS x.1 m, true) r' else .ok x r
def binaryS : Nat → Nat → List Tk → Res (Nd × Bool)
 | 0, _, _ => .out
 | n + 1, d, l => (unaryS n d l).andThen fun x r => chainS n d 3 x r
def unaryS : Nat → Nat → List Tk → Res (Nd × Bool)
 | 0, _, _ => .out
 | n + 1, d, l => (primS n d l).andThen fun x r => chainS n d 1 x r
def chainS : Nat → Nat → Int → Nd × Bool → List Tk → Res (Nd × Bool)
 | 0, _, _, _, _ => .out
 | n + 1, d, c, x, l => if kd l = c then (msgS n d l).andThen fun m r => chainS n d c (sentS x.1 m, true) r else .ok x l
def primS : Nat → Nat → List Tk → Res (Nd × Bool)
 | 0, _, _ => .out
 | n + 1, d, l =>
  if kd l = 1 then .ok (.mk 5 (tx l) (pl l) 0 [] [], true) l.tail
  else if kd l = 4 then .ok (.mk 1 (tx l) (pl l) 0 [] [], true) l.tail
  else if kd l = 5 then .ok (.mk 2 (tx l) (pl l) 0 [] [], true) l.tail
  else if kd l = 6 then .ok (.mk 3 (tx l) (pl l) 0 [] [], true) l.tail
  else if kd l = 17 then (listS n d l).andThen fun x r => .ok (x, true) r
  else if kd l = 10 then (blockS n d l).andThen fun x r => .ok (x, true) r
  else if kd l = 8 then
   (if d = 40 then .no (pl l) eSize else (exprS n (d + 1) l.tail).andThen fun x r => if kd r = 9 then .ok (x, false) r.tail else .no (pl r) eSyn)
  else .no (pl l) eSyn
def listS : Nat → Nat → List Tk → Res Nd
 | 0, _, _ => .out
 | n + 1, d, l => if d = 40 then .no (pl l) eSize else (elemsS n (d + 1) [] l.tail).andThen fun x r => .ok (.mk 4 ⟨#[]⟩ (pl l) 0 [] x) r.tail
def elemsS : Nat → Nat → List Nd → List Tk → Res (List Nd)
 | 0, _, _, _ => .out
 | n + 1, d, acc, l => if kd l = 9 then .ok acc l else (elemS n d l).andThen fun x r => elemsS n d (acc ++ [x]) r
def elemS : Nat → Nat → List Tk → Res Nd
 | 0, _, _ => .out
 | n + 1, d, l =>
  if kd l = 17 ∨ kd l = 8 then listS n d l
  else if kd l = 4 then .ok (.mk 1 (tx l) (pl l) 0 [] []) l.tail
  else if kd l = 5 then .ok (.mk 2 (tx l) (pl l) 0 [] []) l.tail
  else if kd l = 1 then .ok (.mk (if tx l = trueT ∨ tx l = falseT ∨ tx l = nilT then 13 else 3) (tx l) (pl l) 0 [] []) l.tail
  else if kd l = 6 ∨ kd l = 2 ∨ kd l = 3 then .ok (.mk 3 (tx l) (pl l) 0 [] []) l.tail
  else .no (pl l) eSyn
def blockS : Nat → Nat → List Tk → Res Nd
 | 0, _, _ => .out
 | n + 1, d, l =>
  if d = 40 then .no (pl l) eSize else
  (argsS n l.tail).andThen fun ags r =>
   if ags.length ≠ 0 ∧ kd r ≠ 11 then
    (if kd r = 12 then (bodyS n (d + 1) 11 r.tail).andThen fun x r' => .ok (.mk 10 ⟨#[]⟩ (pl l) ags.length (ags ++ x.1) x.2) r'.tail else .no (pl r) eSyn)
   else (bodyS n (d + 1) 11 r).andThen fun x r' => .ok (.mk 10 ⟨#[]⟩ (pl l) ags.length (ags ++ x.1) x.2) r'.tail
def bodyS : Nat → Nat → Int → List Tk → Res (List ByteArray × List Nd)
 | 0, _, _, _ => .out
 | n + 1, d, e, l => (tempsS l).andThen fun ts r => (stmtsS n d e [] r).andThen fun ks r' => .ok (ts, ks) r'
def stmtsS : Nat → Nat → Int → List Nd → List Tk → Res (List Nd)
 | 0, _, _, _, _ => .out
 | n + 1, d, e, acc, l =>
  if kd l = e then .ok acc l else
  (stmtS n d l).andThen fun x r =>
   if kd r = 14 ∧ x.2 = false then stmtsS n d e (acc ++ [x.1]) r.tail
   else if kd r = 14 then (if kd r.tail = e then .ok (acc ++ [x.1]) r.tail else .no (pl r.tail) eSyn)
   else if kd r = e then .ok (acc ++ [x.1]) r else .no (pl r) eSyn
def stmtS : Nat → Nat → List Tk → Res (Nd × Bool)
 | 0, _, _ => .out
 | n + 1, d, l => if kd l = 13 then (exprS n d l.tail).andThen fun x r => .ok (.mk 11 ⟨#[]⟩ (pl l) 0 [] [x], true) r else (exprS n d l).andThen fun x r => .ok (x, false) r
end
def patKeysS : Nat → ByteArray → List ByteArray → List Tk → Res (ByteArray × List ByteArray)
 | 0, _, _, _ => .out
 | n + 1, s, acc, l => if kd l = 2 then (if kd l.tail = 1 then patKeysS n (s ++ tx l) (acc ++ [tx l.tail]) l.tail.tail else .no (pl l.tail) eSyn) else .ok (s, acc) l
def patS (n : Nat) (l : List Tk) : Res (ByteArray × List ByteArray) :=
 if kd l = 1 then .ok (tx l, []) l.tail
 else if kd l = 3 then (if kd l.tail = 1 then .ok (tx l, [tx l.tail]) l.tail.tail else .no (pl l.tail) eSyn)
 else if kd l = 2 then patKeysS n ⟨#[]⟩ [] l
 else .no (pl l) eSyn
end Go.SL
namespace Go.SL
open Go.Proofs
set_option maxRecDepth 10000
def singlesT : ByteArray := ⟨#[40, 41, 91, 93, 124, 94, 46, 59]⟩
def wordS (num : ByteArray → Bool) (s : ByteArray) (i : Nat) : Option (Int × ByteArray × Nat) :=
 if letterS (sbyte s i) then (if colonS s (nameS s i) then some (2, subT s i (nameS s i + 1), nameS s i + 1) else some (1, subT s i (nameS s i), nameS s i))
 else if digitS (sbyte s i) then (if num (subT s i (skipS digitS s i)) then some (4, subT s i (skipS digitS s i), skipS digitS s i) else none)
 else if sbyte s i = 39 then (if quB (quotedS s i).1 then some (5, quT (quotedS s i).1, (quotedS s i).2) else none)
 else if sbyte s i = 35 then (if atS s (i + 1) = 40 then some (17, subT s i (i + 2), i + 2) else if symB s (i + 1) then some (6, symT s (i + 1), symN s (i + 1)) else none)
 else if sbyte s i = 58 then (if atS s (i + 1) = 61 then some (7, subT s i (i + 2), i + 2) else some (16, subT s i (i + 1), i + 1))
 else if signS (sbyte s i) then some (3, subT s i (signsS s i), signsS s i)
 else if 0 ≤ placeS (sbyte s i) singlesT 0 then some (8 + placeS (sbyte s i) singlesT 0, subT s i (i + 1), i + 1)
 else none
def tokD (k : Int) (t : ByteArray) (a : Nat) : D := .agg [.int .i64 k, .str t, .int .i64 a]
def digs (t : ByteArray) : Prop := 0 < t.size ∧ ∀ i : Nat, i < t.size → digitS (sbyte t i) = true
def NumP (f : FuncId) (num : ByteArray → Bool) : Prop := ∀ t, digs t → t.size ≤ 1073741824 → DE Tryz.prog f [.str t] fun v => ∃ b nl sz xs e, v = .tup [.agg [.bool b, .sl nl sz xs], .int .i64 e] ∧ (e = 0 ↔ num t = true)
theorem subT_size {s : ByteArray} {i j : Nat} (h : i ≤ j) (hj : j ≤ s.size) : (subT s i j).size = j - i := by
 simp [subT]; omega
theorem sbyte_sub {s : ByteArray} {i j k : Nat} (h : i + k < j) (hj : j ≤ s.size) : sbyte (subT s i j) k = sbyte s (i + k : Nat) := by
 have hj' : j ≤ s.data.size := hj
 simp only [sbyte, subT, ByteArray.data_extract, Int.toNat_natCast]
 congr 2
 simp only [List.getD_eq_getElem?_getD, Array.getElem?_toList]
 rw [Array.getElem?_extract]
 simp
 rw [if_pos (by omega)]
theorem skipS_all {p : Int → Bool} {s : ByteArray} : ∀ m i, s.size - i = m → ∀ j : Nat, i ≤ j → j < skipS p s i → p (sbyte s j) = true := by
 intro m
 induction m with
 | zero => intro i hm j h1 h2; rw [skipS_no (by simp; omega)] at h2; omega
 | succ m ih =>
  intro i hm j h1 h2
  cases hb : (decide (i < s.size) && p (sbyte s i)) with
  | false => rw [skipS_no hb] at h2; omega
  | true =>
   rw [skipS_yes hb] at h2
   by_cases hj : j = i
   ·subst hj; simp at hb; exact hb.2
   ·exact ih (i + 1) (by omega) j (by omega) h2
theorem digs_sub {s : ByteArray} {i : Nat} (hi : i < s.size) (hd : digitS (sbyte s i) = true) : digs (subT s i (skipS digitS s i)) := by
 have h1 := skipS_le digitS s _ i rfl
 have h2 : i < skipS digitS s i := by
  rw [skipS_yes (by simp [hi, hd])]
  have := (skipS_le digitS s _ (i + 1) rfl).1
  omega
 refine ⟨by rw [subT_size h1.1 (h1.2 (by omega))]; omega, fun k hk => ?_⟩
 rw [subT_size h1.1 (h1.2 (by omega))] at hk
 rw [sbyte_sub (by omega) (h1.2 (by omega))]
 exact skipS_all _ i rfl _ (by omega) (by omega)
def placeL (c : Int) : List UInt8 → Nat → Int
 | [], _ => -1
 | x :: r, i => if (x.toNat : Int) = c then i else placeL c r (i + 1)
theorem placeS_L (c : Int) (s : ByteArray) : ∀ m i, s.size - i = m → placeS c s i = placeL c (s.data.toList.drop i) i := by
 intro m
 induction m with
 | zero =>
  intro i h
  rw [placeS]
  have : s.data.toList.drop i = [] := List.drop_eq_nil_of_le (by simp; have : s.size = s.data.size := rfl; omega)
  rw [this]
  simp [show ¬ i < s.size by omega, placeL]
 | succ m ih =>
  intro i h
  have hi : i < s.data.toList.length := by simp; have : s.size = s.data.size := rfl; omega
  rw [placeS, List.drop_eq_getElem_cons hi, placeL, ← ih (i + 1) (by omega)]
  have h1 : i < s.size := by omega
  simp only [h1, dite_true]
  have h2 : sbyte s i = ((s.data.toList[i]).toNat : Int) := by simp [sbyte, List.getD_eq_getElem?_getD, h1]
  rw [h2]
theorem atS_lt {s : ByteArray} {i : Nat} (h : atS s i ≠ 0) : i < s.size := by
 unfold atS at h
 split at h
 ·assumption
 ·exact absurd rfl h
theorem signsS_gt (s : ByteArray) (i : Nat) : i < signsS s i ↔ (decide (i < s.size) && signS (sbyte s i)) = true := by
 unfold signsS
 split
 ·rename_i h
  simp only [h, iff_true]
  split <;> omega
 ·rename_i h
  simp [h]
theorem singlesA : Ascii singlesT := by unfold Ascii; decide
def WordQ (num : ByteArray → Bool) (s : ByteArray) (i : Nat) (o : Out) (h : H) : Prop :=
 ∃ k' t' a' j r w, o = .ret (.d (.tup [tokD k' t' a', .bool (wordS num s i).isSome])) ∧ h = ⟨RD s j ++ r, w⟩ ∧ ∀ k t e, wordS num s i = some (k, t, e) → k' = k ∧ t' = t ∧ a' = i ∧ j = e
section
variable {num : ByteArray → Bool} (s : ByteArray) (hs : s.size ≤ 1073741820) (i : Nat) (hi : i < s.size)
include hs hi
theorem f96_letter (hl : letterS (sbyte s i) = true) : AF Tryz.prog 96 [.ptr 0 0] ⟨RD s i, []⟩ (WordQ num s i) := by
 have hR : inR (i : Int) s.size = true := inR_of (by omega) (by omega)
 have hNm := f127_ok s (by omega) i
 have hNl := nameS_le s i
 have hI3 : inI ((nameS s i : Int) + 1) = true := inI_of (by omega) (by omega)
 rw [hl] at hNm
 refine AF.go Tryz.func96 [(3, [oD 10 []]), (16, [oD 18 [(15, [0, 1, 2, 3, 4, 5, 6, 7, 8, 9, 10, 12, 13, 14]), (16, [14])], [(0, []), (1, []), (2, []), (3, []), (4, []), (5, []), (6, []), (7, []), (8, []), (9, []), (10, []), (15, [0, 1, 2, 3, 4, 5, 6, 7, 8, 9, 10]), (11, []), (12, []), (13, []), (14, []), (16, [14]), (17, [])]]), (38, [oD 13 []])] fun tb TB Q hQ => ?_
 simp [TB, hR]
 refine ATT.callD Tryz.func96 60 (f126_ok (sbyte s i) (sbyte_bd s i).1 (sbyte_bd s i).2) ?_ ?_ ?_ ?_
 iterate 3 · simp
 simp [TB, hl]
 refine ATT.callM Tryz.func96 60 [0] (hNm) rfl ?_ ?_ ?_ ?_ ?_ ?_
 iterate 5 · simp
 simp [TB]
 refine ATT.callM Tryz.func96 60 [0] (f128_ok s (by omega) (nameS s i) (by omega)) rfl ?_ ?_ ?_ ?_ ?_ ?_
 iterate 5 · simp
 simp
 cases hc : colonS s (nameS s i) with
 | true =>
  have := colon_lt hc
  simp [TB, hI3]
  refine ATT.fin2 hQ Tryz.func96 ?_
  simp [hl, WordQ, wordS, hc, tokD, subT]
  all_goals (first | omega | exact ⟨_, rfl⟩ | exact ⟨⟨_, rfl⟩, _, rfl⟩ | exact ⟨_, _, _, ⟨rfl, rfl, rfl⟩, _, rfl, rfl, rfl, rfl, rfl⟩ | exact ⟨_, _, _, ⟨rfl, rfl, rfl⟩, _, by omega, rfl, rfl, rfl, rfl⟩ | exact ⟨by omega, _, _, _, ⟨rfl, rfl, rfl⟩, _, by omega, rfl, rfl, rfl, rfl⟩ | skip)
 | false =>
  simp [TB]
  refine ATT.fin2 hQ Tryz.func96 ?_
  simp [hl, WordQ, wordS, hc, tokD, subT]
  all_goals (first | omega | exact ⟨_, rfl⟩ | exact ⟨⟨_, rfl⟩, _, rfl⟩ | exact ⟨_, _, _, ⟨rfl, rfl, rfl⟩, _, rfl, rfl, rfl, rfl, rfl⟩ | exact ⟨_, _, _, ⟨rfl, rfl, rfl⟩, _, by omega, rfl, rfl, rfl, rfl⟩ | exact ⟨by omega, _, _, _, ⟨rfl, rfl, rfl⟩, _, by omega, rfl, rfl, rfl, rfl⟩ | skip)
theorem f96_digit (hW : NumP 130 num) (hl : letterS (sbyte s i) = false) (hd : digitS (sbyte s i) = true) : AF Tryz.prog 96 [.ptr 0 0] ⟨RD s i, []⟩ (WordQ num s i) := by
 have hR : inR (i : Int) s.size = true := inR_of (by omega) (by omega)
 have hkl := skipS_le digitS s _ i rfl
 have hdg := digs_sub hi hd
 have hsz := subT_size (s := s) hkl.1 (hkl.2 (by omega))
 have hk1 := hkl.1
 have hk2 := hkl.2 (by omega)
 refine AF.go Tryz.func96 [(3, [oD 10 []]), (16, [oD 18 [(15, [0, 1, 2, 3, 4, 5, 6, 7, 8, 9, 10, 12, 13, 14]), (16, [14])], [(0, []), (1, []), (2, []), (3, []), (4, []), (5, []), (6, []), (7, []), (8, []), (9, []), (10, []), (15, [0, 1, 2, 3, 4, 5, 6, 7, 8, 9, 10]), (11, []), (12, []), (13, []), (14, []), (16, [14]), (17, [])]]), (38, [oD 13 []])] fun tb TB Q hQ => ?_
 simp [TB, hR]
 refine ATT.callD Tryz.func96 60 (f126_ok (sbyte s i) (sbyte_bd s i).1 (sbyte_bd s i).2) ?_ ?_ ?_ ?_
 iterate 3 · simp
 simp [TB, hl]
 refine ATT.callD Tryz.func96 60 (f129_ok (sbyte s i)) ?_ ?_ ?_ ?_
 iterate 3 · simp
 simp [TB, hd]
 refine ATT.callM Tryz.func96 60 [0] (f92_ok digitB s (by omega) i) rfl ?_ ?_ ?_ ?_ ?_ ?_
 iterate 5 · simp
 simp
 refine ATT.ords 60 (by simp <;> omega) fun o ho => ?_
 simp only [List.mem_cons, List.mem_nil_iff, or_false] at ho
 rcases ho with ho | ho <;> subst ho
 simp [hk1, hk2]
 ·refine ATT.callRE Tryz.func96 60 (hW _ hdg (by omega)) ?_ ?_ ?_ fun _ hE => ?_
  iterate 3 · simp [subT]
  obtain ⟨b, nl, sz, xs, e, rfl, he⟩ := hE
  simp [TB, hk1, hk2]
  cases hn : num (subT s i (skipS digitS s i)) <;> rw [hn] at he <;> simp only [subT] at hn
  ·refine ATT.fin2 hQ Tryz.func96 ?_
   simp [hl, hd, subT, WordQ, wordS, hn, tokD, he]
   all_goals (first | omega | exact ⟨_, rfl⟩ | exact ⟨⟨_, rfl⟩, _, rfl⟩ | exact ⟨_, _, _, ⟨rfl, rfl, rfl⟩, _, rfl, rfl, rfl, rfl, rfl⟩ | exact ⟨_, _, _, ⟨rfl, rfl, rfl⟩, _, by omega, rfl, rfl, rfl, rfl⟩ | exact ⟨by omega, _, _, _, ⟨rfl, rfl, rfl⟩, _, by omega, rfl, rfl, rfl, rfl⟩ | skip)
  ·refine ATT.fin2 hQ Tryz.func96 ?_
   simp [hl, hd, subT, WordQ, wordS, hn, tokD, he]
   all_goals (first | omega | exact ⟨_, rfl⟩ | exact ⟨⟨_, rfl⟩, _, rfl⟩ | exact ⟨_, _, _, ⟨rfl, rfl, rfl⟩, _, rfl, rfl, rfl, rfl, rfl⟩ | exact ⟨_, _, _, ⟨rfl, rfl, rfl⟩, _, by omega, rfl, rfl, rfl, rfl⟩ | exact ⟨by omega, _, _, _, ⟨rfl, rfl, rfl⟩, _, by omega, rfl, rfl, rfl, rfl⟩ | skip)
 ·refine ATT.callRE Tryz.func96 60 (hW _ hdg (by omega)) ?_ ?_ ?_ fun _ hE => ?_
  iterate 3 · simp [subT, hk1, hk2]
  obtain ⟨b, nl, sz, xs, e, rfl, he⟩ := hE
  simp [TB, hk1, hk2]
  cases hn : num (subT s i (skipS digitS s i)) <;> rw [hn] at he <;> simp only [subT] at hn
  ·refine ATT.fin2 hQ Tryz.func96 ?_
   simp [hl, hd, subT, WordQ, wordS, hn, tokD, he]
   all_goals (first | omega | exact ⟨_, rfl⟩ | exact ⟨⟨_, rfl⟩, _, rfl⟩ | exact ⟨_, _, _, ⟨rfl, rfl, rfl⟩, _, rfl, rfl, rfl, rfl, rfl⟩ | exact ⟨_, _, _, ⟨rfl, rfl, rfl⟩, _, by omega, rfl, rfl, rfl, rfl⟩ | exact ⟨by omega, _, _, _, ⟨rfl, rfl, rfl⟩, _, by omega, rfl, rfl, rfl, rfl⟩ | skip)
  ·refine ATT.fin2 hQ Tryz.func96 ?_
   simp [hl, hd, subT, WordQ, wordS, hn, tokD, he]
   all_goals (first | omega | exact ⟨_, rfl⟩ | exact ⟨⟨_, rfl⟩, _, rfl⟩ | exact ⟨_, _, _, ⟨rfl, rfl, rfl⟩, _, rfl, rfl, rfl, rfl, rfl⟩ | exact ⟨_, _, _, ⟨rfl, rfl, rfl⟩, _, by omega, rfl, rfl, rfl, rfl⟩ | exact ⟨by omega, _, _, _, ⟨rfl, rfl, rfl⟩, _, by omega, rfl, rfl, rfl, rfl⟩ | skip)
theorem f96_quote (h39 : sbyte s i = 39) : AF Tryz.prog 96 [.ptr 0 0] ⟨RD s i, []⟩ (WordQ num s i) := by
 have hR : inR (i : Int) s.size = true := inR_of (by omega) (by omega)
 have hl : letterS (sbyte s i) = false := by rw [h39]; decide
 have hd : digitS (sbyte s i) = false := by rw [h39]; decide
 have n35 : ¬ sbyte s i = 35 := by rw [h39]; decide
 have n58 : ¬ sbyte s i = 58 := by rw [h39]; decide
 refine AF.go Tryz.func96 [(3, [oD 10 []]), (16, [oD 18 [(15, [0, 1, 2, 3, 4, 5, 6, 7, 8, 9, 10, 12, 13, 14]), (16, [14])], [(0, []), (1, []), (2, []), (3, []), (4, []), (5, []), (6, []), (7, []), (8, []), (9, []), (10, []), (15, [0, 1, 2, 3, 4, 5, 6, 7, 8, 9, 10]), (11, []), (12, []), (13, []), (14, []), (16, [14]), (17, [])]]), (38, [oD 13 []])] fun tb TB Q hQ => ?_
 simp [TB, hR]
 refine ATT.callD Tryz.func96 60 (f126_ok (sbyte s i) (sbyte_bd s i).1 (sbyte_bd s i).2) ?_ ?_ ?_ ?_
 iterate 3 · simp
 simp [TB, hl]
 refine ATT.callD Tryz.func96 60 (f129_ok (sbyte s i)) ?_ ?_ ?_ ?_
 iterate 3 · simp
 simp [TB, eq_true h39, hd]
 refine ATT.callM Tryz.func96 60 [0] (f131_ok s (by omega) i (by omega)) rfl ?_ ?_ ?_ ?_ ?_ ?_
 iterate 5 · simp
 simp [TB]
 cases hq : quB (quotedS s i).1 with
 | true => refine ATT.fin2 hQ Tryz.func96 ?_
           simp [eq_true h39, hl, hd, WordQ, wordS, tokD, hq]
           all_goals (first | omega | exact ⟨_, rfl⟩ | exact ⟨⟨_, rfl⟩, _, rfl⟩ | exact ⟨_, _, _, ⟨rfl, rfl, rfl⟩, _, rfl, rfl, rfl, rfl, rfl⟩ | exact ⟨_, _, _, ⟨rfl, rfl, rfl⟩, _, by omega, rfl, rfl, rfl, rfl⟩ | exact ⟨by omega, _, _, _, ⟨rfl, rfl, rfl⟩, _, by omega, rfl, rfl, rfl, rfl⟩ | skip)
 | false => refine ATT.fin2 hQ Tryz.func96 ?_
            simp [eq_true h39, hl, hd, WordQ, wordS, tokD, hq]
            all_goals (first | omega | exact ⟨_, rfl⟩ | exact ⟨⟨_, rfl⟩, _, rfl⟩ | exact ⟨_, _, _, ⟨rfl, rfl, rfl⟩, _, rfl, rfl, rfl, rfl, rfl⟩ | exact ⟨_, _, _, ⟨rfl, rfl, rfl⟩, _, by omega, rfl, rfl, rfl, rfl⟩ | exact ⟨by omega, _, _, _, ⟨rfl, rfl, rfl⟩, _, by omega, rfl, rfl, rfl, rfl⟩ | skip)
theorem f96_hash (h35 : sbyte s i = 35) : AF Tryz.prog 96 [.ptr 0 0] ⟨RD s i, []⟩ (WordQ num s i) := by
 have hR : inR (i : Int) s.size = true := inR_of (by omega) (by omega)
 have hI1 : inI ((i : Int) + 1) = true := inI_of (by omega) (by omega)
 have hI2 : inI ((i : Int) + 2) = true := inI_of (by omega) (by omega)
 have hl : letterS (sbyte s i) = false := by rw [h35]; decide
 have hd : digitS (sbyte s i) = false := by rw [h35]; decide
 have n39 : ¬ sbyte s i = 39 := by rw [h35]; decide
 have n58 : ¬ sbyte s i = 58 := by rw [h35]; decide
 refine AF.go Tryz.func96 [(3, [oD 10 []]), (16, [oD 18 [(15, [0, 1, 2, 3, 4, 5, 6, 7, 8, 9, 10, 12, 13, 14]), (16, [14])], [(0, []), (1, []), (2, []), (3, []), (4, []), (5, []), (6, []), (7, []), (8, []), (9, []), (10, []), (15, [0, 1, 2, 3, 4, 5, 6, 7, 8, 9, 10]), (11, []), (12, []), (13, []), (14, []), (16, [14]), (17, [])]]), (38, [oD 13 []])] fun tb TB Q hQ => ?_
 simp [TB, hR]
 refine ATT.callD Tryz.func96 60 (f126_ok (sbyte s i) (sbyte_bd s i).1 (sbyte_bd s i).2) ?_ ?_ ?_ ?_
 iterate 3 · simp
 simp [TB, hl]
 refine ATT.callD Tryz.func96 60 (f129_ok (sbyte s i)) ?_ ?_ ?_ ?_
 iterate 3 · simp
 simp [TB, eq_true h35, hd, n39]
 refine ATT.callM Tryz.func96 60 [0] (f132_ok s (by omega) i 1 (by omega) (by omega)) rfl ?_ ?_ ?_ ?_ ?_ ?_
 iterate 5 · simp
 simp
 first | with_reducible refine ATT.cC (fun h40 => ?_) (fun h40 => ?_) | with_reducible refine ATT.cE (fun h40 => ?_) (fun h40 => ?_) | with_reducible refine ATT.cD (fun h40 => ?_) (fun h40 => ?_) | with_reducible refine ATT.cCn (fun h40 => ?_) (fun h40 => ?_) | with_reducible refine ATT.cEn (fun h40 => ?_) (fun h40 => ?_) | with_reducible refine ATT.cDn (fun h40 => ?_) (fun h40 => ?_)
 ·have hlt := atS_lt (s := s) (i := i + 1) (by rw [h40]; decide)
  have ht2 : ((i : Int) + 2).toNat = i + 2 := by omega
  have hb2 : (i : Int) ≤ i + 2 ∧ (i : Int) + 2 ≤ s.size := by omega
  simp [TB, hI2, h40]
  refine ATT.fin2 hQ Tryz.func96 ?_
  simp [eq_true h35, hl, hd, n39, WordQ, wordS, h40, tokD, subT, ht2, hb2]
  all_goals (first | omega | exact ⟨_, rfl⟩ | exact ⟨⟨_, rfl⟩, _, rfl⟩ | exact ⟨_, _, _, ⟨rfl, rfl, rfl⟩, _, rfl, rfl, rfl, rfl, rfl⟩ | exact ⟨_, _, _, ⟨rfl, rfl, rfl⟩, _, by omega, rfl, rfl, rfl, rfl⟩ | exact ⟨by omega, _, _, _, ⟨rfl, rfl, rfl⟩, _, by omega, rfl, rfl, rfl, rfl⟩ | skip)
 ·simp [TB, eq_true h35, hI1, h40]
  refine ATT.callM Tryz.func96 60 [0] (f133_ok s (by omega) (i + 1) (by omega)) rfl ?_ ?_ ?_ ?_ ?_ ?_
  iterate 5 · simp
  simp [TB]
  cases hq : symB s (i + 1) with
  | true => refine ATT.fin2 hQ Tryz.func96 ?_
            simp [eq_true h35, hl, hd, n39, WordQ, wordS, h40, tokD, hq]
            all_goals (first | omega | exact ⟨_, rfl⟩ | exact ⟨⟨_, rfl⟩, _, rfl⟩ | exact ⟨_, _, _, ⟨rfl, rfl, rfl⟩, _, rfl, rfl, rfl, rfl, rfl⟩ | exact ⟨_, _, _, ⟨rfl, rfl, rfl⟩, _, by omega, rfl, rfl, rfl, rfl⟩ | exact ⟨by omega, _, _, _, ⟨rfl, rfl, rfl⟩, _, by omega, rfl, rfl, rfl, rfl⟩ | skip)
  | false => refine ATT.fin2 hQ Tryz.func96 ?_
             simp [eq_true h35, hl, hd, n39, WordQ, wordS, h40, tokD, hq]
             all_goals (first | omega | exact ⟨_, rfl⟩ | exact ⟨⟨_, rfl⟩, _, rfl⟩ | exact ⟨_, _, _, ⟨rfl, rfl, rfl⟩, _, rfl, rfl, rfl, rfl, rfl⟩ | exact ⟨_, _, _, ⟨rfl, rfl, rfl⟩, _, by omega, rfl, rfl, rfl, rfl⟩ | exact ⟨by omega, _, _, _, ⟨rfl, rfl, rfl⟩, _, by omega, rfl, rfl, rfl, rfl⟩ | skip)
theorem f96_colon (h58 : sbyte s i = 58) : AF Tryz.prog 96 [.ptr 0 0] ⟨RD s i, []⟩ (WordQ num s i) := by
 have hR : inR (i : Int) s.size = true := inR_of (by omega) (by omega)
 have hI1 : inI ((i : Int) + 1) = true := inI_of (by omega) (by omega)
 have hI2 : inI ((i : Int) + 2) = true := inI_of (by omega) (by omega)
 have hl : letterS (sbyte s i) = false := by rw [h58]; decide
 have hd : digitS (sbyte s i) = false := by rw [h58]; decide
 have n39 : ¬ sbyte s i = 39 := by rw [h58]; decide
 have n35 : ¬ sbyte s i = 35 := by rw [h58]; decide
 refine AF.go Tryz.func96 [(3, [oD 10 []]), (16, [oD 18 [(15, [0, 1, 2, 3, 4, 5, 6, 7, 8, 9, 10, 12, 13, 14]), (16, [14])], [(0, []), (1, []), (2, []), (3, []), (4, []), (5, []), (6, []), (7, []), (8, []), (9, []), (10, []), (15, [0, 1, 2, 3, 4, 5, 6, 7, 8, 9, 10]), (11, []), (12, []), (13, []), (14, []), (16, [14]), (17, [])]]), (38, [oD 13 []])] fun tb TB Q hQ => ?_
 simp [TB, hR]
 refine ATT.callD Tryz.func96 60 (f126_ok (sbyte s i) (sbyte_bd s i).1 (sbyte_bd s i).2) ?_ ?_ ?_ ?_
 iterate 3 · simp
 simp [TB, hl]
 refine ATT.callD Tryz.func96 60 (f129_ok (sbyte s i)) ?_ ?_ ?_ ?_
 iterate 3 · simp
 simp [TB, eq_true h58, hd, n39, n35]
 refine ATT.callM Tryz.func96 60 [0] (f132_ok s (by omega) i 1 (by omega) (by omega)) rfl ?_ ?_ ?_ ?_ ?_ ?_
 iterate 5 · simp
 simp
 first | with_reducible refine ATT.cC (fun h61 => ?_) (fun h61 => ?_) | with_reducible refine ATT.cE (fun h61 => ?_) (fun h61 => ?_) | with_reducible refine ATT.cD (fun h61 => ?_) (fun h61 => ?_) | with_reducible refine ATT.cCn (fun h61 => ?_) (fun h61 => ?_) | with_reducible refine ATT.cEn (fun h61 => ?_) (fun h61 => ?_) | with_reducible refine ATT.cDn (fun h61 => ?_) (fun h61 => ?_)
 ·have hlt := atS_lt (s := s) (i := i + 1) (by rw [h61]; decide)
  have ht2 : ((i : Int) + 2).toNat = i + 2 := by omega
  have hb2 : (i : Int) ≤ i + 2 ∧ (i : Int) + 2 ≤ s.size := by omega
  simp [TB, hI2, h61]
  refine ATT.fin2 hQ Tryz.func96 ?_
  simp [eq_true h58, hl, hd, n39, n35, WordQ, wordS, h61, tokD, subT, ht2, hb2]
  all_goals (first | omega | exact ⟨_, rfl⟩ | exact ⟨⟨_, rfl⟩, _, rfl⟩ | exact ⟨_, _, _, ⟨rfl, rfl, rfl⟩, _, rfl, rfl, rfl, rfl, rfl⟩ | exact ⟨_, _, _, ⟨rfl, rfl, rfl⟩, _, by omega, rfl, rfl, rfl, rfl⟩ | exact ⟨by omega, _, _, _, ⟨rfl, rfl, rfl⟩, _, by omega, rfl, rfl, rfl, rfl⟩ | skip)
 ·simp [TB, eq_true h58, hI1, h61]
  refine ATT.fin2 hQ Tryz.func96 ?_
  simp [eq_true h58, hl, hd, n39, n35, WordQ, wordS, h61, tokD, subT]
  all_goals (first | omega | exact ⟨_, rfl⟩ | exact ⟨⟨_, rfl⟩, _, rfl⟩ | exact ⟨_, _, _, ⟨rfl, rfl, rfl⟩, _, rfl, rfl, rfl, rfl, rfl⟩ | exact ⟨_, _, _, ⟨rfl, rfl, rfl⟩, _, by omega, rfl, rfl, rfl, rfl⟩ | exact ⟨by omega, _, _, _, ⟨rfl, rfl, rfl⟩, _, by omega, rfl, rfl, rfl, rfl⟩ | skip)
theorem f96_sign (hl : letterS (sbyte s i) = false) (hd : digitS (sbyte s i) = false) (h39 : ¬ sbyte s i = 39) (h35 : ¬ sbyte s i = 35) (h58 : ¬ sbyte s i = 58) (hsg : signS (sbyte s i) = true) : AF Tryz.prog 96 [.ptr 0 0] ⟨RD s i, []⟩ (WordQ num s i) := by
 have hR : inR (i : Int) s.size = true := inR_of (by omega) (by omega)
 have hlt : i < signsS s i := (signsS_gt s i).2 (by simp [hi, hsg])
 have hsl := signsS_le s i
 refine AF.go Tryz.func96 [(3, [oD 10 []]), (16, [oD 18 [(15, [0, 1, 2, 3, 4, 5, 6, 7, 8, 9, 10, 12, 13, 14]), (16, [14])], [(0, []), (1, []), (2, []), (3, []), (4, []), (5, []), (6, []), (7, []), (8, []), (9, []), (10, []), (15, [0, 1, 2, 3, 4, 5, 6, 7, 8, 9, 10]), (11, []), (12, []), (13, []), (14, []), (16, [14]), (17, [])]]), (38, [oD 13 []])] fun tb TB Q hQ => ?_
 simp [TB, hR]
 refine ATT.callD Tryz.func96 60 (f126_ok (sbyte s i) (sbyte_bd s i).1 (sbyte_bd s i).2) ?_ ?_ ?_ ?_
 iterate 3 · simp
 simp [TB, hl]
 refine ATT.callD Tryz.func96 60 (f129_ok (sbyte s i)) ?_ ?_ ?_ ?_
 iterate 3 · simp
 simp [TB, hd, h39, h35, h58]
 refine ATT.callM Tryz.func96 60 [0] (f134_ok s (by omega) i (by omega)) rfl ?_ ?_ ?_ ?_ ?_ ?_
 iterate 5 · simp
 simp [TB, hlt]
 refine ATT.fin2 hQ Tryz.func96 ?_
 simp [hl, hd, h39, h35, h58, WordQ, wordS, hsg, tokD, subT]
 all_goals (first | omega | exact ⟨_, rfl⟩ | exact ⟨⟨_, rfl⟩, _, rfl⟩ | exact ⟨_, _, _, ⟨rfl, rfl, rfl⟩, _, rfl, rfl, rfl, rfl, rfl⟩ | exact ⟨_, _, _, ⟨rfl, rfl, rfl⟩, _, by omega, rfl, rfl, rfl, rfl⟩ | exact ⟨by omega, _, _, _, ⟨rfl, rfl, rfl⟩, _, by omega, rfl, rfl, rfl, rfl⟩ | skip)
theorem f96_single (hl : letterS (sbyte s i) = false) (hd : digitS (sbyte s i) = false) (h39 : ¬ sbyte s i = 39) (h35 : ¬ sbyte s i = 35) (h58 : ¬ sbyte s i = 58) (hsg : signS (sbyte s i) = false) : AF Tryz.prog 96 [.ptr 0 0] ⟨RD s i, []⟩ (WordQ num s i) := by
 have hR : inR (i : Int) s.size = true := inR_of (by omega) (by omega)
 have hI1 : inI ((i : Int) + 1) = true := inI_of (by omega) (by omega)
 have hlt : ¬ i < signsS s i := fun h => by
  have := (signsS_gt s i).1 h
  simp [hsg] at this
 have hs0 : signsS s i = i := by have := (signsS_le s i).1; omega
 have hp := place_bd (sbyte s i) singlesT _ 0 rfl
 have hps : singlesT.size = 8 := by decide
 have hI3 : inI (8 + placeS (sbyte s i) singlesT 0) = true := inI_of (by omega) (by omega)
 have hP := f94_ok (sbyte s i) singlesT singlesA
 have hb1 : (i : Int) ≤ i + 1 ∧ (i : Int) + 1 ≤ s.size := by omega
 have ht1 : ((i : Int) + 1).toNat = i + 1 := by omega
 have hsT : (⟨#[40, 41, 91, 93, 124, 94, 46, 59]⟩ : ByteArray) = singlesT := rfl
 refine AF.go Tryz.func96 [(3, [oD 10 []]), (16, [oD 18 [(15, [0, 1, 2, 3, 4, 5, 6, 7, 8, 9, 10, 12, 13, 14]), (16, [14])], [(0, []), (1, []), (2, []), (3, []), (4, []), (5, []), (6, []), (7, []), (8, []), (9, []), (10, []), (15, [0, 1, 2, 3, 4, 5, 6, 7, 8, 9, 10]), (11, []), (12, []), (13, []), (14, []), (16, [14]), (17, [])]]), (38, [oD 13 []])] fun tb TB Q hQ => ?_
 simp [TB, hR]
 refine ATT.callD Tryz.func96 60 (f126_ok (sbyte s i) (sbyte_bd s i).1 (sbyte_bd s i).2) ?_ ?_ ?_ ?_
 iterate 3 · simp
 simp [TB, hl]
 refine ATT.callD Tryz.func96 60 (f129_ok (sbyte s i)) ?_ ?_ ?_ ?_
 iterate 3 · simp
 simp [TB, hd, h39, h35, h58]
 refine ATT.callM Tryz.func96 60 [0] (f134_ok s (by omega) i (by omega)) rfl ?_ ?_ ?_ ?_ ?_ ?_
 iterate 5 · simp
 simp [TB, hs0, hsT]
 refine ATT.callD Tryz.func96 60 (hP) ?_ ?_ ?_ ?_
 iterate 3 · simp
 simp [TB, hI1, hI3, hb1, ht1]
 by_cases h0 : 0 ≤ placeS (sbyte s i) singlesT 0
 ·have h8 : (8 : Int) ≤ 8 + placeS (sbyte s i) singlesT 0 := by omega
  refine ATT.fin2 hQ Tryz.func96 ?_
  simp [hl, hd, h39, h35, h58, WordQ, wordS, hsg, tokD, subT, h0, h8]
  all_goals (first | omega | exact ⟨_, rfl⟩ | exact ⟨⟨_, rfl⟩, _, rfl⟩ | exact ⟨_, _, _, ⟨rfl, rfl, rfl⟩, _, rfl, rfl, rfl, rfl, rfl⟩ | exact ⟨_, _, _, ⟨rfl, rfl, rfl⟩, _, by omega, rfl, rfl, rfl, rfl⟩ | exact ⟨by omega, _, _, _, ⟨rfl, rfl, rfl⟩, _, by omega, rfl, rfl, rfl, rfl⟩ | skip)
 ·have h8 : ¬ (8 : Int) ≤ 8 + placeS (sbyte s i) singlesT 0 := by omega
  refine ATT.fin2 hQ Tryz.func96 ?_
  simp [hl, hd, h39, h35, h58, WordQ, wordS, hsg, tokD, h0, h8]
  all_goals (first | omega | exact ⟨_, rfl⟩ | exact ⟨⟨_, rfl⟩, _, rfl⟩ | exact ⟨_, _, _, ⟨rfl, rfl, rfl⟩, _, rfl, rfl, rfl, rfl, rfl⟩ | exact ⟨_, _, _, ⟨rfl, rfl, rfl⟩, _, by omega, rfl, rfl, rfl, rfl⟩ | exact ⟨by omega, _, _, _, ⟨rfl, rfl, rfl⟩, _, by omega, rfl, rfl, rfl, rfl⟩ | skip)
theorem f96_ok (hW : NumP 130 num) : AF Tryz.prog 96 [.ptr 0 0] ⟨RD s i, []⟩ (WordQ num s i) := by
 cases hl : letterS (sbyte s i) with
 | true => exact f96_letter s hs i hi hl
 | false =>
  cases hd : digitS (sbyte s i) with
  | true => exact f96_digit s hs i hi hW hl hd
  | false =>
   by_cases h39 : sbyte s i = 39
   ·exact f96_quote s hs i hi h39
   by_cases h35 : sbyte s i = 35
   ·exact f96_hash s hs i hi h35
   by_cases h58 : sbyte s i = 58
   ·exact f96_colon s hs i hi h58
   cases hsg : signS (sbyte s i) with
   | true => exact f96_sign s hs i hi hl hd h39 h35 h58 hsg
   | false => exact f96_single s hs i hi hl hd h39 h35 h58 hsg
end
end Go.SL
namespace Go.SL
open Go.Proofs
set_option maxRecDepth 10000
theorem f213_no (s : ByteArray) (h0 : 0 < s.size) (h : sbyte s 0 ≠ 45) : DF Tryz.prog 213 [.str s, .str ⟨#[45]⟩] (.bool false) := by
 have hsz : (1 : Int) ≤ s.size := by omega
 have hne : ¬ s.extract 0 1 = ⟨#[45]⟩ := fun e => h (by
  have h1 : (s.extract 0 1).data = #[45] := by rw [e]
  have h2 : s.data.size = s.size := rfl
  simp only [ByteArray.data_extract] at h1
  have h3 : s.data[0]? = some 45 := by
   have := congrArg (·[0]?) h1
   simp only [Array.getElem?_extract] at this
   rw [if_pos (by omega)] at this
   simpa using this
  simp [sbyte, List.getD_eq_getElem?_getD, h3])
 have hl1 : (⟨#[45]⟩ : ByteArray).size = 1 := rfl
 refine AF.go Tryz.func213 [] fun tb TB Q hQ => ?_
 simp [TB, hsz, hne, hl1]
 refine ATT.fin2 hQ Tryz.func213 ?_
 simp
 all_goals (first | omega | exact ⟨_, rfl⟩ | skip)
theorem f193_no (s : ByteArray) (h0 : 0 < s.size) (h : sbyte s 0 ≠ 45) : DF Tryz.prog 193 [.str s, .str ⟨#[45]⟩] (.tup [.str s, .bool false]) := by
 refine AF.go Tryz.func193 [] fun tb TB Q hQ => ?_
 simp [TB]
 refine ATT.callD Tryz.func193 60 (f213_no s h0 h) ?_ ?_ ?_ ?_
 iterate 3 · simp
 simp [TB]
 refine ATT.fin2 hQ Tryz.func193 ?_
 simp
 all_goals (first | omega | exact ⟨_, rfl⟩ | skip)
theorem f161_no (s : ByteArray) (h0 : 0 < s.size) (h : sbyte s 0 ≠ 45) : DF Tryz.prog 161 [.str s, .str ⟨#[45]⟩] (.tup [.str s, .bool false]) := by
 refine AF.go Tryz.func161 [] fun tb TB Q hQ => ?_
 simp [TB]
 refine ATT.callD Tryz.func161 60 (f193_no s h0 h) ?_ ?_ ?_ ?_
 iterate 3 · simp
 simp
 refine ATT.fin2 hQ Tryz.func161 ?_
 simp
 all_goals (first | omega | exact ⟨_, rfl⟩ | skip)
theorem f162_ok (c : Int) (h : digitS c = true) : DF Tryz.prog 162 [.int .i32 c] (.bool false) := by
 simp only [digitS, Bool.and_eq_true, decide_eq_true_eq] at h
 have h1 : ¬ c < 48 := by omega
 have h2 : ¬ (57 < c) := by omega
 refine AF.go Tryz.func162 [] fun tb TB Q hQ => ?_
 simp [TB, h1, h2]
 refine ATT.fin2 hQ Tryz.func162 ?_
 simp
 all_goals (first | omega | exact ⟨_, rfl⟩ | skip)
theorem f194_digs (s : ByteArray) (hd : digs s) : DF Tryz.prog 194 [.str s, .fn (.func 162) [] [], .bool true] (.int .i64 (-1)) := by
 refine AF.go Tryz.func194 [] fun tb TB Q hQ => ?_
 simp [TB]
 refine ATT.loopG 60 rfl (fun (i : Nat) => s.size - i) (fun (i : Nat) => i ≤ s.size) (fun (i : Nat) => [(10, .ptr 0 0), (1, .d (.fn (.func 162) [] [])), (2, .d (.bool true))]) (fun (i : Nat) => [.iter s i]) (fun (i : Nat) => []) (0) (by (try dsimp only); exact Nat.zero_le _) (by simp <;> omega) (by simp) (by simp) ?_
 intro i u w hI ih
 try simp only at hI ih
 by_cases hi : i < s.size
 ·have hc := hd.2 i hi
  have hc' := hc
  simp only [digitS, Bool.and_eq_true, decide_eq_true_eq] at hc'
  have hdec := decode_of s i hi (by omega)
  have ht : (((sbyte s i).toNat : Nat) : Int) = sbyte s i := by omega
  simp [TB, hi, hdec, ht]
  refine ATT.callD Tryz.func194 60 (f162_ok _ hc) ?_ ?_ ?_ ?_
  iterate 3 · simp
  simp
  refine ih (i + 1) (by first | ((try dsimp only); omega) | (simp [hi, hdec, ht] <;> omega)) (by (try dsimp only); exact hi) _ _ _ (by simp <;> omega) (by simp <;> omega) (by simp <;> omega)
 ·skip
  simp [TB, hi]
  refine ATT.fin2 hQ Tryz.func194 ?_
  simp
  all_goals (first | omega | exact ⟨_, rfl⟩ | skip)
theorem f163_digs (s : ByteArray) (hd : digs s) : DF Tryz.prog 163 [.str s, .fn (.func 162) [] []] (.int .i64 (-1)) := by
 refine AF.go Tryz.func163 [] fun tb TB Q hQ => ?_
 simp [TB]
 refine ATT.callD Tryz.func163 60 (f194_digs s hd) ?_ ?_ ?_ ?_
 iterate 3 · simp
 simp
 refine ATT.fin2 hQ Tryz.func163 ?_
 simp
 all_goals (first | omega | exact ⟨_, rfl⟩ | skip)
theorem f195_ok (neg : Bool) (n k : Nat) (v : D) (hv : Wd n k v) (hk : k ≤ 100000) : DE Tryz.prog 195 [.bool neg, v] (IntR neg n) := by
 have hB := f214_ok n k v hv hk
 obtain ⟨nl, sz, l, e, _⟩ := hv
 subst e
 refine AF.go Tryz.func195 [] fun tb TB Q hQ => ?_
 simp [TB]
 refine ATT.callE Tryz.func195 60 hB ?_ ?_ ?_ fun v hv => ?_
 iterate 3 · simp
 have hv' := hv
 obtain ⟨nl, sz, l, e, h1, h2, h3, h4, h5, h6⟩ := hv'
 subst e
 have hl : decide ((0 : Int) < l.length) = decide (0 < n) := by
  have := bv_nil h3 h4
  rw [h5] at this
  have h7 : l.length = 0 ↔ l = [] := List.length_eq_zero_iff
  by_cases hn : n = 0
  ·simp [hn, this.mpr hn]
  ·have : ¬ l.length = 0 := fun e => hn (this.mp (h7.mp e))
   simp; omega
 cases neg with
 | true =>
  simp [TB]
  refine ATT.fin2 hQ Tryz.func195 ?_
  have hlen : 0 < l.length ↔ 0 < n := by simpa using hl
  exact ⟨by simp, _, rfl, _, _, by simp [hlen], hv⟩
 | false =>
  simp [TB]
  refine ATT.fin2 hQ Tryz.func195 ?_
  exact ⟨by simp, _, rfl, _, _, by simp, hv⟩
theorem f167_ok (neg : Bool) (n k : Nat) (v : D) (hv : Wd n k v) (hk : k ≤ 100000) : DE Tryz.prog 167 [.bool neg, v] fun r => if n < 256 ^ 128 then ∃ u, r = .tup [u, .int .i64 0] ∧ IntR neg n u else r = .tup [.agg [.bool false, .sl true 0 []], .int .i64 24] := by
 have hM := f195_ok neg n k v hv hk
 refine AF.go Tryz.func167 [] fun tb TB Q hQ => ?_
 simp [TB]
 refine ATT.callE Tryz.func167 60 hM ?_ ?_ ?_ fun v hv => ?_
 iterate 3 · simp
 have hv' := hv
 obtain ⟨k', u, e, nl, sz, l, e2, h1, h2, h3, h4, h5, h6⟩ := hv'
 subst e e2
 have hf := bv_fits h3 h4 128
 rw [h5] at hf
 simp [TB]
 by_cases hn : n < 256 ^ 128
 ·simp only [if_pos hn] at hQ
  have hl : ¬ (128 : Int) < l.length := by have := hf.mpr hn; omega
  simp [TB, hl]
  refine ATT.fin2 hQ Tryz.func167 ?_
  exact ⟨by simp, _, rfl, _, rfl, hv⟩
 ·simp only [if_neg hn] at hQ
  have hl : (128 : Int) < l.length := by
   have : ¬ l.length ≤ 128 := fun h => hn (hf.mp h)
   omega
  simp [TB, hl]
  refine ATT.fin2 hQ Tryz.func167 ?_
  exact ⟨by simp, _, rfl, rfl⟩
def dval (s : ByteArray) : Nat → Nat
 | 0 => 0
 | i + 1 => dval s i * 10 + (sbyte s i - 48).toNat
def zeroI : D := .agg [.bool false, .sl true 0 []]
def ReadQ (s : ByteArray) (v : D) : Prop :=
 if sbyte s 0 = 48 ∧ 1 < s.size then v = .tup [zeroI, .int .i64 11] else if 400 < s.size then v = .tup [zeroI, .int .i64 24] else
 if dval s s.size < 256 ^ 128 then ∃ u, v = .tup [u, .int .i64 0] ∧ IntR false (dval s s.size) u else v = .tup [zeroI, .int .i64 24]
theorem bytes_get (s : ByteArray) (i : Nat) (h : i < s.size) : (s.data.toList.map fun x => D.int .u8 ((x.toNat : Nat) : Int))[i]? = some (.int .u8 (sbyte s i)) := by
 have h' : i < s.data.size := h
 rw [List.getElem?_map, Array.getElem?_toList, Array.getElem?_eq_getElem h']
 have h2 : s.data[i]? = some s.data[i] := Array.getElem?_eq_getElem h'
 simp [sbyte, List.getD_eq_getElem?_getD, h2]
set_option maxHeartbeats 1000000 in
theorem f130_ok (s : ByteArray) (hd : digs s) (hs : s.size ≤ 1073741824) : DE Tryz.prog 130 [.str s] (ReadQ s) := by
 have hc0 := hd.2 0 hd.1
 simp only [digitS, Bool.and_eq_true, decide_eq_true_eq, Int.ofNat_zero] at hc0
 have hse : ¬ s = ⟨#[]⟩ := fun e => by have := hd.1; rw [e] at this; exact absurd this (by decide)
 have hr0 : inR 0 s.size = true := inR_of (by omega) (by have := hd.1; omega)
 have hcut := f161_no s hd.1 (by simp; omega)
 refine AF.go Tryz.func130 [] fun tb TB Q hQ => ?_
 simp [TB]
 refine ATT.callD Tryz.func130 60 (hcut) ?_ ?_ ?_ ?_
 iterate 3 · simp
 simp [TB, hse]
 refine ATT.callD Tryz.func130 60 (f163_digs s hd) ?_ ?_ ?_ ?_
 iterate 3 · simp
 simp [hr0]
 unfold ReadQ at hQ
 by_cases h0 : sbyte s 0 = 48 ∧ 1 < s.size
 ·simp only [if_pos h0] at hQ
  have h1 : (1 : Int) < s.size := by omega
  have h48 := h0.1
  simp [TB, eq_true h48, h1]
  refine ATT.fin2 hQ Tryz.func130 ?_
  exact ⟨by simp, _, rfl, rfl⟩
 simp only [if_neg h0] at hQ
 have hgo : ∀ {P : Prop}, ((sbyte s 0 = 48 → ¬ (1 : Int) < s.size → P) ∧ (¬ sbyte s 0 = 48 → P)) → P := fun h => by
  by_cases h48 : sbyte s 0 = 48
  ·exact h.1 h48 (by omega)
  ·exact h.2 h48
 refine hgo ⟨fun h48 h1 => ?_, fun h48 => ?_⟩
 ·by_cases h4 : 400 < s.size
  ·simp only [if_pos h4] at hQ
   have h4' : (400 : Int) < s.size := by omega
   simp [TB, eq_true h48, h1, h4']
   refine ATT.fin2 hQ Tryz.func130 ?_
   exact ⟨by simp, _, rfl, rfl⟩
  simp only [if_neg h4] at hQ
  have h4' : ¬ (400 : Int) < s.size := by omega
  simp [TB, eq_true h48, h1, h4']
  refine ATT.loopG 60 rfl (fun ((i, v) : Nat × D) => s.size - i) (fun ((i, v) : Nat × D) => i ≤ s.size ∧ Wd (dval s i) (2 * i) v) (fun ((i, v) : Nat × D) => [(2, .ptr 0 0), (5, .d (.bool false)), (7, .d v), (39, .d (.sl false 1 (s.data.toList.map fun b => .int .u8 (b.toNat : Int)))), (40, .d (.int .i64 s.size)), (41, .d (.int .i64 i))]) (fun ((i, v) : Nat × D) => [.cells [.d (.bool false), .d (.sl true 0 [])] 225]) (fun ((i, v) : Nat × D) => []) ((0, .sl true 0 [])) (by (try dsimp only); exact ⟨Nat.zero_le _, true, 0, [], rfl, fun _ => rfl, by simp, Can.nil, rfl, by simp⟩) (by simp <;> omega) (by simp) (by simp) ?_
  intro ⟨i, v⟩ u w hI ih
  try simp only at hI ih
  obtain ⟨i1, i2⟩ := hI
  by_cases hi : i < s.size
  ·have hi' : (i : Int) < s.size := by omega
   have hg := bytes_get s i hi
   have hc := hd.2 i hi
   simp only [digitS, Bool.and_eq_true, decide_eq_true_eq] at hc
   obtain ⟨c, hcc⟩ : ∃ c : Nat, sbyte s i = ((48 + c : Nat) : Int) := ⟨(sbyte s i - 48).toNat, by omega⟩
   have hc9 : c ≤ 9 := by omega
   have hcn : (sbyte s i - 48).toNat = c := by omega
   have hw1 : IntKind.u8.wrap (sbyte s i - 48) = (c : Int) := by rw [hcc, show ((48 + c : Nat) : Int) - 48 = (c : Int) by omega, wrap8x]; omega
   have hw2 : IntKind.u32.wrap (c : Int) = (c : Int) := by rw [wrap32i]; omega
   have hII : inI ((i : Int) + 1) = true := inI_of (by omega) (by omega)
   have hten : Wd 10 1 (.sl false 1 [.int .u32 10]) := ⟨false, 1, [10], rfl, by simp, fun _ => rfl, ⟨by intro x hx; simp at hx; omega, fun q e => by have := congrArg List.getLast? e; simp at this⟩, rfl, by simp⟩
   have hti := f165_ok (dval s i) 10 (2 * i) 1 v _ i2 hten (by omega)
   have htr := f166_ok [c] false 1 (by simp) (fun _ => rfl) (by intro x hx; simp at hx; omega) (by simp)
   simp [TB, hi', hg]
   refine ATT.fz (by simp) ?_
   simp
   refine ATT.callE Tryz.func130 60 hti ?_ ?_ ?_ fun v1 hv1 => ?_
   iterate 3 · simp
   simp [hw1, hw2]
   refine ATT.fz (by simp) ?_
   simp
   refine ATT.callE Tryz.func130 60 htr (by simp) (by simp [wD]) (by simp) fun v2 hv2 => ?_
   have hpl := f164_ok (dval s i * 10) (wv [c]) (2 * i + 1) 1 v1 v2 hv1 hv2 (by omega)
   refine ATT.callE Tryz.func130 60 hpl ?_ ?_ ?_ fun v3 hv3 => ?_
   iterate 3 · simp
   simp [TB, hII]
   refine ih (i + 1, v3) (by first | ((try dsimp only); omega) | (simp [hi', hg, hw1, hw2, hII] <;> omega)) (by (try dsimp only); exact ⟨hi, (show dval s (i + 1) = dval s i * 10 + wv [c] by simp [dval, hcn, wv]) ▸ hv3.mono (by omega)⟩) _ _ _ (by simp <;> omega) (by simp <;> omega) (by simp <;> omega)
  ·have hie : i = s.size := by omega
   subst hie
   have hF := f167_ok false _ _ v i2 (by omega)
   have hi' : ¬ (s.size : Int) < s.size := by omega
   simp [TB, hi']
   refine ATT.callE Tryz.func130 60 hF ?_ ?_ ?_ fun r hr => ?_
   iterate 3 · simp
   by_cases hn : dval s s.size < 256 ^ 128
   ·simp only [if_pos hn] at hQ hr
    obtain ⟨u, e, hu⟩ := hr
    subst e
    obtain ⟨k', u', e, hu'⟩ := hu
    have hu := hu'
    subst e
    obtain ⟨nl, sz, l, e, _⟩ := hu'
    subst e
    simp
    refine ATT.fin2 hQ Tryz.func130 ?_
    exact ⟨by simp, _, rfl, _, rfl, _, _, by simp, hu⟩
   ·simp only [if_neg hn] at hQ hr
    subst hr
    simp
    refine ATT.fin2 hQ Tryz.func130 ?_
    exact ⟨by simp, _, rfl, rfl⟩
 ·by_cases h4 : 400 < s.size
  ·simp only [if_pos h4] at hQ
   have h4' : (400 : Int) < s.size := by omega
   simp [TB, h48, h4']
   refine ATT.fin2 hQ Tryz.func130 ?_
   exact ⟨by simp, _, rfl, rfl⟩
  simp only [if_neg h4] at hQ
  have h4' : ¬ (400 : Int) < s.size := by omega
  simp [TB, h48, h4']
  refine ATT.loopG 60 rfl (fun ((i, v) : Nat × D) => s.size - i) (fun ((i, v) : Nat × D) => i ≤ s.size ∧ Wd (dval s i) (2 * i) v) (fun ((i, v) : Nat × D) => [(2, .ptr 0 0), (5, .d (.bool false)), (7, .d v), (39, .d (.sl false 1 (s.data.toList.map fun b => .int .u8 (b.toNat : Int)))), (40, .d (.int .i64 s.size)), (41, .d (.int .i64 i))]) (fun ((i, v) : Nat × D) => [.cells [.d (.bool false), .d (.sl true 0 [])] 225]) (fun ((i, v) : Nat × D) => []) ((0, .sl true 0 [])) (by (try dsimp only); exact ⟨Nat.zero_le _, true, 0, [], rfl, fun _ => rfl, by simp, Can.nil, rfl, by simp⟩) (by simp <;> omega) (by simp) (by simp) ?_
  intro ⟨i, v⟩ u w hI ih
  try simp only at hI ih
  obtain ⟨i1, i2⟩ := hI
  by_cases hi : i < s.size
  ·have hi' : (i : Int) < s.size := by omega
   have hg := bytes_get s i hi
   have hc := hd.2 i hi
   simp only [digitS, Bool.and_eq_true, decide_eq_true_eq] at hc
   obtain ⟨c, hcc⟩ : ∃ c : Nat, sbyte s i = ((48 + c : Nat) : Int) := ⟨(sbyte s i - 48).toNat, by omega⟩
   have hc9 : c ≤ 9 := by omega
   have hcn : (sbyte s i - 48).toNat = c := by omega
   have hw1 : IntKind.u8.wrap (sbyte s i - 48) = (c : Int) := by rw [hcc, show ((48 + c : Nat) : Int) - 48 = (c : Int) by omega, wrap8x]; omega
   have hw2 : IntKind.u32.wrap (c : Int) = (c : Int) := by rw [wrap32i]; omega
   have hII : inI ((i : Int) + 1) = true := inI_of (by omega) (by omega)
   have hten : Wd 10 1 (.sl false 1 [.int .u32 10]) := ⟨false, 1, [10], rfl, by simp, fun _ => rfl, ⟨by intro x hx; simp at hx; omega, fun q e => by have := congrArg List.getLast? e; simp at this⟩, rfl, by simp⟩
   have hti := f165_ok (dval s i) 10 (2 * i) 1 v _ i2 hten (by omega)
   have htr := f166_ok [c] false 1 (by simp) (fun _ => rfl) (by intro x hx; simp at hx; omega) (by simp)
   simp [TB, hi', hg]
   refine ATT.fz (by simp) ?_
   simp
   refine ATT.callE Tryz.func130 60 hti ?_ ?_ ?_ fun v1 hv1 => ?_
   iterate 3 · simp
   simp [hw1, hw2]
   refine ATT.fz (by simp) ?_
   simp
   refine ATT.callE Tryz.func130 60 htr (by simp) (by simp [wD]) (by simp) fun v2 hv2 => ?_
   have hpl := f164_ok (dval s i * 10) (wv [c]) (2 * i + 1) 1 v1 v2 hv1 hv2 (by omega)
   refine ATT.callE Tryz.func130 60 hpl ?_ ?_ ?_ fun v3 hv3 => ?_
   iterate 3 · simp
   simp [TB, hII]
   refine ih (i + 1, v3) (by first | ((try dsimp only); omega) | (simp [hi', hg, hw1, hw2, hII] <;> omega)) (by (try dsimp only); exact ⟨hi, (show dval s (i + 1) = dval s i * 10 + wv [c] by simp [dval, hcn, wv]) ▸ hv3.mono (by omega)⟩) _ _ _ (by simp <;> omega) (by simp <;> omega) (by simp <;> omega)
  ·have hie : i = s.size := by omega
   subst hie
   have hF := f167_ok false _ _ v i2 (by omega)
   have hi' : ¬ (s.size : Int) < s.size := by omega
   simp [TB, hi']
   refine ATT.callE Tryz.func130 60 hF ?_ ?_ ?_ fun r hr => ?_
   iterate 3 · simp
   by_cases hn : dval s s.size < 256 ^ 128
   ·simp only [if_pos hn] at hQ hr
    obtain ⟨u, e, hu⟩ := hr
    subst e
    obtain ⟨k', u', e, hu'⟩ := hu
    have hu := hu'
    subst e
    obtain ⟨nl, sz, l, e, _⟩ := hu'
    subst e
    simp
    refine ATT.fin2 hQ Tryz.func130 ?_
    exact ⟨by simp, _, rfl, _, rfl, _, _, by simp, hu⟩
   ·simp only [if_neg hn] at hQ hr
    subst hr
    simp
    refine ATT.fin2 hQ Tryz.func130 ?_
    exact ⟨by simp, _, rfl, rfl⟩
end Go.SL
namespace Go.SL
open Go.Proofs
set_option maxRecDepth 10000
def WordR (num : ByteArray → Bool) (s : ByteArray) (i : Nat) (v : D) : Prop :=
 ∃ k t a, v = .tup [tokD k t a, .int .i64 (match wordS num s i with | some (_, _, e) => (e : Int) | none => -1)] ∧ ∀ k' t' e, wordS num s i = some (k', t', e) → k = k' ∧ t = t' ∧ a = i
theorem WordR.some {num : ByteArray → Bool} {s : ByteArray} {i : Nat} {k : Int} {t : ByteArray} {e : Nat} (h : wordS num s i = some (k, t, e)) : WordR num s i (.tup [tokD k t i, .int .i64 e]) :=
 ⟨k, t, i, by rw [h], fun k' t' e' h' => by rw [h] at h'; simp at h'; exact ⟨h'.1, h'.2.1, rfl⟩⟩
theorem WordR.none {num : ByteArray → Bool} {s : ByteArray} {i : Nat} (h : wordS num s i = none) (k : Int) (t : ByteArray) (a : Nat) : WordR num s i (.tup [tokD k t a, .int .i64 (-1)]) :=
 ⟨k, t, a, by rw [h], fun k' t' e' h' => by rw [h] at h'; simp at h'⟩
section
variable {num : ByteArray → Bool} (s : ByteArray) (hs : s.size ≤ 1073741820) (i : Nat) (hi : i < s.size)
include hs hi
end
end Go.SL
namespace Go.SL
open Go.Proofs
set_option maxRecDepth 10000
def blankS (c : Int) : Bool := decide (c = 32) || decide (c = 9) || decide (c = 10) || decide (c = 13)
def blanksT : ByteArray := ⟨#[32, 9, 10, 13]⟩
theorem blanks_place (c : Int) (h0 : 0 ≤ c) (h1 : c < 256) : decide (0 ≤ placeS c blanksT 0) = blankS c := by
 rw [placeS_L _ _ _ 0 rfl]
 exact byte_cases (fun c => decide (0 ≤ placeL c (blanksT.data.toList.drop 0) 0) = blankS c) (by decide) c h0 h1
theorem blanksA : Ascii blanksT := by unfold Ascii; decide
theorem f93_ok (c : Int) (h0 : 0 ≤ c) (h1 : c < 256) : DF Tryz.prog 93 [.int .u8 c] (.bool (blankS c)) := by
 have hb := blanks_place c h0 h1
 have hP := f94_ok c blanksT blanksA
 have hsT : (⟨#[32, 9, 10, 13]⟩ : ByteArray) = blanksT := rfl
 refine AF.go Tryz.func93 [] fun tb TB Q hQ => ?_
 simp [TB, hsT]
 refine ATT.callD Tryz.func93 60 (hP) ?_ ?_ ?_ ?_
 iterate 3 · simp
 simp
 refine ATT.fin2 hQ Tryz.func93 ?_
 simp [← hb]
 all_goals (first | omega | exact ⟨_, rfl⟩ | skip)
theorem blankB : FnB 93 blankS := fun c h0 h1 => f93_ok c h0 h1
def tkD (t : Tk) : D := tokD t.k t.t t.a
def tkV (l : List Tk) : List V := l.map fun t => .d (tkD t)
abbrev TV (T : TypeId) (l : List Tk) : Option Vec := some ⟨l.isEmpty, 3, 0, tkV l, T⟩
@[simp] theorem tkV_nil : tkV [] = [] := rfl
@[simp] theorem tkV_push (l : List Tk) (k : Int) (t : ByteArray) (a : Nat) : tkV l ++ [.d (.agg [.int .i64 k, .str t, .int .i64 (a : Int)])] = tkV (l ++ [⟨k, t, a⟩]) := by simp [tkV, tkD, tokD]
@[simp] theorem tkV_length (l : List Tk) : (tkV l).length = l.length := by simp [tkV]
@[simp] theorem tkV_isEmpty (l : List Tk) : (tkV l).isEmpty = l.isEmpty := by cases l <;> simp [tkV]
@[simp] theorem tkV_take (n : Nat) (l : List Tk) : (tkV l).take n = tkV (l.take n) := by simp [tkV]
@[simp] theorem tkV_drop (n : Nat) (l : List Tk) : (tkV l).drop n = tkV (l.drop n) := by simp [tkV]
theorem tkV_ds (l : List Tk) : tkV l = (l.map tkD).map .d := by simp [tkV]
@[simp] theorem tkV_map (h : H) (n : Nat) (l : List Tk) : mapD (toDv h n) (tkV l) = some (l.map tkD) := by rw [tkV_ds, mapD_d]
@[simp] theorem rns_tkV (rb rv : List Nat) (l : List Tk) : rns rb rv (tkV l) = tkV l := by rw [tkV_ds, rns_data]
@[simp] theorem insc_tkV (n m : Nat) (l : List Tk) : insc n m (tkV l) = true := by rw [tkV_ds, insc_data]
@[simp] theorem take_snoc {α β : Type} (f : α → β) (l : List α) (x : β) : (l.map f ++ [x]).take (l.length + 1) = l.map f ++ [x] := List.take_of_length_le (by simp)
def notQ (c : Int) : Bool := !decide (c = 34)
def lexS (num : ByteArray → Bool) (s : ByteArray) (i : Nat) : List Tk ⊕ Nat :=
 if _h : skipS blankS s i < s.size then
  (if sbyte s (skipS blankS s i) = 34 then (if h2 : skipS notQ s (skipS blankS s i + 1) < s.size then lexS num s (skipS notQ s (skipS blankS s i + 1) + 1) else .inr (skipS blankS s i))
  else match wordS num s (skipS blankS s i) with
   | some (k, t, e) => if _h3 : skipS blankS s i < e then (match lexS num s e with
    | .inl l => .inl (⟨k, t, skipS blankS s i⟩ :: l)
    | .inr a => .inr a) else .inr (skipS blankS s i)
   | none => .inr (skipS blankS s i))
 else .inl [⟨0, ⟨#[]⟩, s.size⟩]
termination_by s.size - i
decreasing_by
  · have h1 := (skipS_le blankS s _ i rfl).1
    have h2 := (skipS_le notQ s _ (skipS blankS s i + 1) rfl).1
    omega
  · have h1 := (skipS_le blankS s _ i rfl).1
    omega
theorem lexS_eq (num : ByteArray → Bool) (s : ByteArray) (i : Nat) : lexS num s i = if skipS blankS s i < s.size then
  (if sbyte s (skipS blankS s i) = 34 then (if skipS notQ s (skipS blankS s i + 1) < s.size then lexS num s (skipS notQ s (skipS blankS s i + 1) + 1) else .inr (skipS blankS s i))
  else match wordS num s (skipS blankS s i) with
   | some (k, t, e) => if skipS blankS s i < e then (match lexS num s e with
    | .inl l => .inl (⟨k, t, skipS blankS s i⟩ :: l)
    | .inr a => .inr a) else .inr (skipS blankS s i)
   | none => .inr (skipS blankS s i))
 else .inl [⟨0, ⟨#[]⟩, s.size⟩] := by
 rw [lexS]
 simp only [dite_eq_ite]
theorem index_q (s : ByteArray) : ∀ m j, s.size - j = m → j ≤ s.size → Lib.indexByte (s.data.toList.drop j) 34 = if skipS notQ s j < s.size then ((skipS notQ s j - j : Nat) : Int) else -1 := by
 intro m
 induction m with
 | zero =>
  intro j hm hj
  have h0 : s.data.toList.drop j = [] := List.drop_eq_nil_of_le (by simp; have : s.size = s.data.size := rfl; omega)
  rw [h0, skipS_no (by simp; omega)]
  simp [Lib.indexByte, show ¬ j < s.size by omega]
 | succ m ih =>
  intro j hm hj
  have hjl : j < s.data.toList.length := by simp; have : s.size = s.data.size := rfl; omega
  have hb : sbyte s j = ((s.data.toList[j]).toNat : Int) := by
   have h1 : j < s.size := by omega
   simp [sbyte, List.getD_eq_getElem?_getD, h1]
  rw [List.drop_eq_getElem_cons hjl, Lib.indexByte]
  by_cases hq : s.data.toList[j] = 34
  ·have hn : notQ (sbyte s j) = false := by rw [hb, hq]; decide
   rw [skipS_no (by simp [hn])]
   simp [hq, show j < s.size by omega]
  ·have hn : notQ (sbyte s j) = true := by
    simp only [notQ, Bool.not_eq_true', decide_eq_false_iff_not, hb]
    intro h
    exact hq (UInt8.toNat_inj.1 (by rw [show (34 : UInt8).toNat = 34 from rfl]; omega))
   have hq' : (s.data.toList[j] == (34 : UInt8)) = false := by simpa using hq
   rw [skipS_yes (by simp [hn]; omega), ih (j + 1) (by omega) (by omega), hq']
   have h3 := skipS_le notQ s _ (j + 1) rfl
   by_cases hf : skipS notQ s (j + 1) < s.size
   ·simp only [hf, if_true, Bool.false_eq_true, if_false]
    have : ((((skipS notQ s (j + 1) - (j + 1) : Nat) : Int)) == -1) = false := by
     rw [beq_eq_false_iff_ne]; omega
    rw [this]
    simp only [Bool.false_eq_true, if_false]
    omega
   ·simp [hf]
theorem firstIdx_q (s : ByteArray) (j : Nat) (hj : j ≤ s.size) : firstIdx (s.extract j s.size) 34 = if skipS notQ s j < s.size then ((skipS notQ s j - j : Nat) : Int) else -1 := by
 rw [Lib.firstIdx_eq, ← index_q s _ j rfl hj]
 congr 1
 have : s.size = s.data.toList.length := by simp
 rw [ByteArray.data_extract, Array.toList_extract, this]
 simp [List.extract_eq_take_drop]
 rw [List.take_of_length_le (by simp)]
theorem quoS_le (s : ByteArray) : ∀ m i acc, s.size - i = m → ∀ l, (quoS s i acc).1 = some l → i < (quoS s i acc).2 ∧ (quoS s i acc).2 ≤ s.size := by
 intro m
 induction m using Nat.strongRecOn with
 | ind m ih =>
  intro i acc hm l h
  by_cases h1 : i < s.size
  ·by_cases h2 : sbyte s i = 39
   ·by_cases h3 : atS s (i + 1) = 39
    ·have hlt := atS_lt (s := s) (i := i + 1) (by rw [h3]; decide)
     rw [quoS_two h1 h2 h3] at h ⊢
     have := ih (s.size - (i + 2)) (by omega) (i + 2) _ rfl l h
     omega
    ·rw [quoS_one h1 h2 h3]
     exact ⟨by simp, by simp; omega⟩
   ·rw [quoS_more h1 h2] at h ⊢
    have := ih (s.size - (i + 1)) (by omega) (i + 1) _ rfl l h
    omega
  ·rw [quoS_end h1] at h
   simp at h
theorem quotedS_le {s : ByteArray} {i : Nat} (h : quB (quotedS s i).1 = true) : i < (quotedS s i).2 ∧ (quotedS s i).2 ≤ s.size := by
 unfold quotedS at h ⊢
 split at h
 ·rename_i h39
  rw [if_pos h39]
  cases hq : (quoS s (i + 1) []).1 with
  | none => rw [hq] at h; simp [quB] at h
  | some l =>
   have := quoS_le s _ (i + 1) [] rfl l hq
   omega
 ·simp [quB] at h
theorem symN_le {s : ByteArray} {i : Nat} (hi : i ≤ s.size) (h : symB s i = true) : i < symN s i ∧ symN s i ≤ s.size := by
 unfold symB at h
 unfold symN
 split at h
 ·rename_i hl
  rw [if_pos hl]
  refine ⟨hl, ?_⟩
  unfold symE
  have h1 := nameS_le s i
  have h2 := symK_le s _ (nameS s i) rfl
  have h3 := signsS_le s i
  split <;> omega
 ·rename_i hl
  rw [if_neg hl]
  exact quotedS_le h
theorem wordS_lt {num : ByteArray → Bool} {s : ByteArray} {i : Nat} (hi : i < s.size) {k : Int} {t : ByteArray} {e : Nat} (h : wordS num s i = some (k, t, e)) : i < e ∧ e ≤ s.size := by
 unfold wordS at h
 split at h
 ·rename_i hl
  have h1 := nameS_le s i
  have h2 : i < nameS s i := (nameS_gt s i).2 (by simp [hi, hl])
  split at h
  ·rename_i hc
   have := colon_lt hc
   simp at h; omega
  ·simp at h; omega
 ·split at h
  ·rename_i hd
   split at h
   ·have := digs_sub hi hd
    have h1 := skipS_le digitS s _ i rfl
    have h2 := subT_size (s := s) h1.1 (h1.2 (by omega))
    have := this.1
    simp at h; omega
   ·simp at h
  ·split at h
   ·split at h
    ·rename_i hq
     have := quotedS_le hq
     simp at h; omega
    ·simp at h
   ·split at h
    ·split at h
     ·rename_i h40
      have := atS_lt (s := s) (i := i + 1) (by rw [h40]; decide)
      simp at h; omega
     ·split at h
      ·rename_i hq
       have := symN_le (by omega) hq
       simp at h; omega
      ·simp at h
    ·split at h
     ·split at h
      ·rename_i h61
       have := atS_lt (s := s) (i := i + 1) (by rw [h61]; decide)
       simp at h; omega
      ·simp at h; omega
     ·split at h
      ·rename_i hsg
       have h1 := (signsS_gt s i).2 (by simp [hi, hsg])
       have h2 := signsS_le s i
       simp at h; omega
      ·split at h
       ·simp at h; omega
       ·simp at h
def joinL (l : List Tk) : List Tk ⊕ Nat → List Tk ⊕ Nat
 | .inl l' => .inl (l ++ l')
 | .inr a => .inr a
def readD (num : ByteArray → Bool) (s : ByteArray) : D :=
 if 4096 < s.size then .tup [.sl true 0 [], .int .i64 0, .int .i64 3] else
 match lexS num s 0 with
 | .inl l => .tup [.sl false 3 (l.map tkD), .int .i64 0, .int .i64 0]
 | .inr a => .tup [.sl true 0 [], .int .i64 a, .int .i64 20]
theorem f64_ok {num : ByteArray → Bool} (hW : NumP 130 num) (s : ByteArray) (hs : s.size ≤ 1073741820) : DF Tryz.prog 64 [.str s] (readD num s) := by
 refine AF.go Tryz.func64 [] fun tb TB Q hQ => ?_
 simp [TB]
 first | with_reducible refine ATT.cC (fun hz => ?_) (fun hz => ?_) | with_reducible refine ATT.cE (fun hz => ?_) (fun hz => ?_) | with_reducible refine ATT.cD (fun hz => ?_) (fun hz => ?_) | with_reducible refine ATT.cCn (fun hz => ?_) (fun hz => ?_) | with_reducible refine ATT.cEn (fun hz => ?_) (fun hz => ?_) | with_reducible refine ATT.cDn (fun hz => ?_) (fun hz => ?_)
 ·simp [TB, hz]
  refine ATT.fin2 hQ Tryz.func64 ?_
  simp [readD]
  all_goals (first | omega | exact ⟨_, rfl⟩ | skip)
 ·have hz' : ¬ 4096 < s.size := by omega
  simp only [readD, hz', if_false] at hQ
  simp [TB, hz]
  refine ATT.nilE 6 3 135 rfl (by decide) (by simp) ?_
  simp
  generalize hr : lexS num s 0 = r at hQ
  refine ATT.labelG 60 rfl rfl (fun ((i, l) : Nat × List Tk) => s.size - i) (fun ((i, l) : Nat × List Tk) => joinL l (lexS num s i) = r ∧ i ≤ s.size ∧ l.length ≤ i) (fun ((i, l) : Nat × List Tk) => [(0, V.d (.str s)), (5, .ptr 0 0), (6, .vs 0 l.length 0 l.length)]) (fun ((i, l) : Nat × List Tk) => [.cells [.d (.str s), .d (.int .i64 i)] 175]) (fun ((i, l) : Nat × List Tk) => [TV 135 l]) ((0, [])) (by (try dsimp only); exact ⟨by rw [hr]; simp [joinL]; cases r <;> rfl, by omega, by simp⟩) (by simp <;> omega) (by simp) (by simp) ?_
  intro ⟨i, l⟩ u w hI ih
  try simp only at hI ih
  obtain ⟨hj, hi, hl⟩ := hI
  have hk := skipS_le blankS s _ i rfl
  have hk1 := hk.1
  have hk2 := hk.2 hi
  simp [SL.flat]
  simp [TB]
  refine ATT.callM Tryz.func64 60 [0] (f92_ok blankB s (by omega) i) rfl ?_ ?_ ?_ ?_ ?_ ?_
  iterate 5 · simp
  simp [TB]
  rw [lexS] at hj
  generalize skipS blankS s i = k at *
  first | with_reducible refine ATT.cC (fun he => ?_) (fun he => ?_) | with_reducible refine ATT.cE (fun he => ?_) (fun he => ?_) | with_reducible refine ATT.cD (fun he => ?_) (fun he => ?_) | with_reducible refine ATT.cCn (fun he => ?_) (fun he => ?_) | with_reducible refine ATT.cEn (fun he => ?_) (fun he => ?_) | with_reducible refine ATT.cDn (fun he => ?_) (fun he => ?_)
  ·have he' : ¬ k < s.size := by omega
   simp only [he', dite_false] at hj
   have hks : k = s.size := by omega
   subst hks
   have hmap : (l.length + 1) * 32 ≤ 140737488355328 := by omega
   simp [TB]
   refine ATT.finz2 hQ Tryz.func64 ?_
   simp [← hj, joinL, tkD, tokD, hmap]
   all_goals (first | omega | exact ⟨_, rfl⟩ | skip)
  ·have he' : k < s.size := by omega
   have hR : inR (k : Int) s.size = true := inR_of (by omega) (by omega)
   simp only [he', dite_true] at hj
   simp [TB, he, hR]
   first | with_reducible refine ATT.cC (fun hq => ?_) (fun hq => ?_) | with_reducible refine ATT.cE (fun hq => ?_) (fun hq => ?_) | with_reducible refine ATT.cD (fun hq => ?_) (fun hq => ?_) | with_reducible refine ATT.cCn (fun hq => ?_) (fun hq => ?_) | with_reducible refine ATT.cEn (fun hq => ?_) (fun hq => ?_) | with_reducible refine ATT.cDn (fun hq => ?_) (fun hq => ?_)
   ·simp only [eq_true hq, if_true] at hj
    have hI1 : inI ((k : Int) + 1) = true := inI_of (by omega) (by omega)
    have ht1 : ((k : Int) + 1).toNat = k + 1 := by omega
    have hb1 : (0 : Int) ≤ k + 1 ∧ (k : Int) + 1 ≤ s.size := by omega
    have hx := firstIdx_q s (k + 1) (by omega)
    have hQl := skipS_le notQ s _ (k + 1) rfl
    have h34 : ((34 : Int).toNat.toUInt8) = 34 := by decide
    simp [TB, hI1, ht1, hb1, hq]
    refine ATT.callD Tryz.func64 60 (f95_ok (s.extract (k + 1) s.size) 34) ?_ ?_ ?_ ?_
    iterate 3 · simp
    simp [TB]
    by_cases hfound : skipS notQ s (k + 1) < s.size
    ·rw [if_pos hfound] at hx
     simp only [hfound, dite_true] at hj
     have hI2 : inI (((skipS notQ s (k + 1) - (k + 1) : Nat) : Int) + 2) = true := inI_of (by omega) (by omega)
     have hI3 : inI ((k : Int) + (((skipS notQ s (k + 1) - (k + 1) : Nat) : Int) + 2)) = true := inI_of (by omega) (by omega)
     have hk3 : (k : Int) + (((skipS notQ s (k + 1) - (k + 1) : Nat) : Int) + 2) = ((skipS notQ s (k + 1) + 1 : Nat) : Int) := by omega
     have hn : ¬ (((skipS notQ s (k + 1) - (k + 1) : Nat) : Int)) < 0 := by omega
     simp [TB, hx, hI2, hI3, hn]
     refine ih (skipS notQ s (k + 1) + 1, l) (by first | ((try dsimp only); omega) | (simp [hx, hI2, hI3, hn] <;> omega)) (by (try dsimp only); exact ⟨hj, by omega, by omega⟩) _ _ _ _ rfl (by simp <;> omega) (by simp <;> omega) (by simp <;> omega)
    ·rw [if_neg hfound] at hx
     simp only [hfound, dite_false, joinL] at hj
     simp [hx]
     refine ATT.jump 60 (by simp) rfl ?_
     simp [TB]
     refine ATT.fin2 hQ Tryz.func64 ?_
     simp [← hj]
     all_goals (first | omega | exact ⟨_, rfl⟩ | skip)
   ·simp only [eq_false hq, if_false] at hj
    simp [TB, hq]
    refine ATT.callA Tryz.func64 60 [0] [] 0 0 (f96_ok (num := num) s (by omega) k he' hW) ?_ ?_ ?_ ?_ ?_ fun out hC hE => ?_
    iterate 5 · simp
    obtain ⟨k', t', a', j, r', w', e1, e2, hw⟩ := hE
    subst e1 e2
    cases hwd : wordS num s k with
    | none =>
     rw [hwd] at hj
     simp only [joinL] at hj
     simp [tokD, TB]
     refine ATT.pass 60 (by simp <;> omega) ?_
     simp [TB]
     refine ATT.fin2 hQ Tryz.func64 ?_
     simp [← hj]
     all_goals (first | omega | exact ⟨_, rfl⟩ | skip)
    | some p =>
     obtain ⟨kk, tt, e⟩ := p
     obtain ⟨e1, e2, e3, e4⟩ := hw _ _ _ hwd
     subst e1 e2 e3 e4
     have hlt := wordS_lt he' hwd
     rw [hwd] at hj
     simp only [hlt.1, dite_true] at hj
     have hmap : (l.length + 1) * 32 ≤ 140737488355328 := by omega
     have hj2 : joinL (l ++ [⟨k', t', a'⟩]) (lexS num s j) = r := by
      rw [← hj]
      cases lexS num s j <;> simp [joinL]
     simp [tokD, TB, hmap]
     refine ih (j, l ++ [⟨k', t', a'⟩]) (by first | ((try dsimp only); omega) | (simp <;> omega)) (by (try dsimp only); exact ⟨hj2, by omega, by simp; omega⟩) _ _ _ _ rfl (by simp <;> omega) (by simp <;> omega) (by simp <;> omega)
end Go.SL
namespace Go.SL
open Go.Proofs
set_option maxRecDepth 10000
abbrev PB (l : List Tk) (d : Nat) : Bx := .cells [.d (.sl false 3 (l.map tkD)), .d (.int .i64 d)] 131
def stopV (a : Nat) (w : Int) : V := .d (.iface 129 (.agg [.int .i64 a, .int .i64 w]))
theorem f70_ok (t : Tk) (l : List Tk) (d : Nat) : MF Tryz.prog 70 [.ptr 0 0] [PB (t :: l) d] (.d (.int .i64 t.k)) [PB (t :: l) d] := by
 refine AF.go Tryz.func70 [] fun tb TB Q hQ => ?_
 simp [TB, tkD, tokD]
 refine ATT.fin2 hQ Tryz.func70 ?_
 simp
 all_goals (first | omega | exact ⟨_, rfl⟩ | skip)
theorem f69_ok (t : Tk) (l : List Tk) (d : Nat) : MF Tryz.prog 69 [.ptr 0 0] [PB (t :: l) d] (.d (tkD t)) [PB (if t.k = 0 then t :: l else l) d] := by
 refine AF.go Tryz.func69 [] fun tb TB Q hQ => ?_
 simp [TB, tkD, tokD]
 first | with_reducible refine ATT.cC (fun h => ?_) (fun h => ?_) | with_reducible refine ATT.cE (fun h => ?_) (fun h => ?_) | with_reducible refine ATT.cD (fun h => ?_) (fun h => ?_) | with_reducible refine ATT.cCn (fun h => ?_) (fun h => ?_) | with_reducible refine ATT.cEn (fun h => ?_) (fun h => ?_) | with_reducible refine ATT.cDn (fun h => ?_) (fun h => ?_)
 ·simp [TB, h]
  refine ATT.fin2 hQ Tryz.func69 ?_
  simp [tkD, tokD, h]
  all_goals (first | omega | exact ⟨_, rfl⟩ | skip)
 ·simp [TB, tkD, tokD, h]
  refine ATT.fin2 hQ Tryz.func69 ?_
  simp [tkD, tokD, h, (by omega : (1 : Int) ≤ (l.length : Int) + 1)]
  all_goals (first | omega | exact ⟨_, rfl⟩ | skip)
theorem f98_ok (t : Tk) (l : List Tk) (d : Nat) (w : Int) : AF Tryz.prog 98 [.ptr 0 0, .d (.int .i64 w)] ⟨[PB (t :: l) d], []⟩ fun o h => o = .pan (stopV t.a w) ∧ 1 ≤ h.bx.length := by
 refine AF.go Tryz.func98 [] fun tb TB Q hQ => ?_
 simp [TB, tkD, tokD]
 refine ATT.pan hQ Tryz.func98 (by simp; exact ⟨rfl, rfl⟩) ?_ ?_ ?_
 iterate 2 · simp
 try simp [stopV]
theorem f68_ok (t : Tk) (l : List Tk) (d : Nat) (k : Int) (hk : t.k = k) (h0 : k ≠ 0) : MF Tryz.prog 68 [.ptr 0 0, .d (.int .i64 k)] [PB (t :: l) d] (.d (tkD t)) [PB l d] := by
 have hT := f69_ok t l d
 have h0' : ¬ t.k = 0 := by rw [hk]; exact h0
 rw [if_neg h0'] at hT
 refine AF.go Tryz.func68 [] fun tb TB Q hQ => ?_
 simp [TB]
 refine ATT.callM Tryz.func68 60 [0] (f70_ok t l d) rfl ?_ ?_ ?_ ?_ ?_ ?_
 iterate 5 · simp
 simp [TB, eq_true hk]
 refine ATT.callM Tryz.func68 60 [0] (hT) rfl ?_ ?_ ?_ ?_ ?_ ?_
 iterate 5 · simp
 simp [tkD, tokD]
 refine ATT.fin2 hQ Tryz.func68 ?_
 simp [tkD, tokD]
 all_goals (first | omega | exact ⟨_, rfl⟩ | skip)
theorem f68_no (t : Tk) (l : List Tk) (d : Nat) (k : Int) (hk : ¬ t.k = k) : AF Tryz.prog 68 [.ptr 0 0, .d (.int .i64 k)] ⟨[PB (t :: l) d], []⟩ fun o h => o = .pan (stopV t.a 20) ∧ 1 ≤ h.bx.length := by
 refine AF.go Tryz.func68 [] fun tb TB Q hQ => ?_
 simp [TB]
 refine ATT.callM Tryz.func68 60 [0] (f70_ok t l d) rfl ?_ ?_ ?_ ?_ ?_ ?_
 iterate 5 · simp
 simp [TB, hk]
 refine ATT.callA Tryz.func68 60 [0] [] 0 0 (f98_ok t l d 20) ?_ ?_ ?_ ?_ ?_ fun out hC hE => ?_
 iterate 5 · simp
 obtain ⟨e1, e2⟩ := hE
 subst e1
 exact ⟨by simpa using e2, hQ _ _ ⟨by simp [stopV], by simp⟩⟩
abbrev PP : Bx := .cells [.ptr 0 0] 93
theorem f171_no (t : Tk) (l : List Tk) (nd : List D) (T : TypeId) (g : FuncId) (caps : List V) : AF Tryz.prog 171 [.ptr 0 0, .fn (.func g) [] caps] ⟨[PB (t :: l) 40, PP, .cells (nd.map .d) T], []⟩ fun o h => o = .pan (stopV t.a 3) ∧ 3 ≤ h.bx.length := by
 refine AF.go Tryz.func171 [] fun tb TB Q hQ => ?_
 simp [TB]
 refine ATT.callA Tryz.func171 60 [0] [] 0 0 (f98_ok t l 40 3) ?_ ?_ ?_ ?_ ?_ fun out hC hE => ?_
 iterate 5 · simp
 obtain ⟨e1, e2⟩ := hE
 subst e1
 exact ⟨by simpa using e2, hQ _ _ ⟨by simp [stopV], by simp⟩⟩
theorem f171_ok (t : Tk) (ht : ¬ t.k = 0) (l : List Tk) (nd : List D) (T : TypeId) (d : Nat) (hd : d < 40) (g : FuncId) (caps : List V) (hc1 : rns [0, 1, 2] [] caps = caps) (hc2 : insc 3 0 caps = true) (Φ : List Tk → List D → Prop) (Ψ : Nat → Int → Prop)
  (hW : AF Tryz.prog g caps ⟨[PB l (d + 1), PP, .cells (nd.map .d) T], []⟩ fun o h => (∃ l' nd' b c, o = .ret (.d (.tup [])) ∧ h = ⟨PB l' (d + 1) :: PP :: .cells (nd'.map .d) T :: b, c⟩ ∧ Φ l' nd') ∨ (∃ a w, o = .pan (stopV a w) ∧ 3 ≤ h.bx.length ∧ Ψ a w)) :
  AF Tryz.prog 171 [.ptr 0 0, .fn (.func g) [] caps] ⟨[PB (t :: l) d, PP, .cells (nd.map .d) T], []⟩ fun o h => (∃ l' nd' b c, o = .ret (.d (.tup [])) ∧ h = ⟨PB l' d :: PP :: .cells (nd'.map .d) T :: b, c⟩ ∧ Φ l' nd') ∨ (∃ a w, o = .pan (stopV a w) ∧ 3 ≤ h.bx.length ∧ Ψ a w) := by
 have hT := f69_ok t l (d + 1)
 rw [if_neg ht] at hT
 have hd' : ¬ (d : Int) = 40 := by omega
 have hI : inI ((d : Int) + 1) = true := inI_of (by omega) (by omega)
 have hI2 : inI (d : Int) = true := inI_of (by omega) (by omega)
 refine AF.go Tryz.func171 [] fun tb TB Q hQ => ?_
 simp [TB, hd', hI]
 refine ATT.callM Tryz.func171 60 [0] (hT) rfl ?_ ?_ ?_ ?_ ?_ ?_
 iterate 5 · simp
 simp [TB]
 refine ATT.callA Tryz.func171 60 [0, 1, 2] [] 0 0 (hW) ?_ ?_ ?_ ?_ ?_ fun out hC hE => ?_
 iterate 5 · simp [hc1, hc2]
 rcases hE with ⟨l', nd', b, c, e1, e2, hφ⟩ | ⟨a, w, e1, e2, hψ⟩
 ·subst e1 e2
  refine ⟨by simp, ?_⟩
  have hI3 : inI ((d : Int) + 1 - 1) = true := inI_of (by omega) (by omega)
  have hd1 : (d : Int) + 1 - 1 = d := by omega
  simp [TB, hI2, hd1]
  refine ATT.fin02 hQ Tryz.func171 ?_
  exact ⟨by simp, .inl ⟨l', nd', _, _, rfl, rfl, hφ⟩⟩
 ·subst e1
  exact ⟨by simpa using e2, hQ _ _ (.inr ⟨a, w, by simp [stopV], by simp, hψ⟩)⟩
end Go.SL
namespace Go.SL
def WF (l : List Tk) : Prop := (∃ i t, l = i ++ [t] ∧ t.k = 0) ∧ (∀ t ∈ l, t.t.size ≤ 1048576) ∧ l.length ≤ 5000
theorem WF.tail {l : List Tk} (h : WF l) (hk : kd l ≠ 0) : WF l.tail ∧ l.tail.length < l.length := by
 obtain ⟨⟨i, t, e, ht⟩, h2, h3⟩ := h
 cases i with
 | nil => subst e; simp [kd, ht] at hk
 | cons x i =>
  subst e
  exact ⟨⟨⟨i, t, rfl, ht⟩, fun y hy => h2 y (by simp at hy ⊢; exact .inr hy), by simp at h3 ⊢; omega⟩, by simp⟩
theorem WF.cons {l : List Tk} (h : WF l) : ∃ t r, l = t :: r := by
 obtain ⟨⟨i, t, e, ht⟩, _⟩ := h
 cases i with
 | nil => exact ⟨t, [], by simpa using e⟩
 | cons x i => exact ⟨x, i ++ [t], by simpa using e⟩
theorem andThen_ok {α β : Type} {x : Res α} {f : α → List Tk → Res β} {b : β} {r : List Tk} (h : x.andThen f = .ok b r) : ∃ a r', x = .ok a r' ∧ f a r' = .ok b r := by
 cases x with
 | ok a r' => exact ⟨a, r', rfl, h⟩
 | no a w => simp [Res.andThen] at h
 | out => simp [Res.andThen] at h
def Short (l r : List Tk) : Prop := WF r ∧ r.length < l.length
def ShortE (l r : List Tk) : Prop := WF r ∧ r.length ≤ l.length
theorem Short.trans {a b c : List Tk} (h : Short a b) (g : ShortE b c) : Short a c := ⟨g.1, by have := h.2; have := g.2; omega⟩
theorem Short.e {a b : List Tk} (h : Short a b) : ShortE a b := ⟨h.1, by have := h.2; omega⟩
theorem ShortE.trans {a b c : List Tk} (h : ShortE a b) (g : ShortE b c) : ShortE a c := ⟨g.1, by have := h.2; have := g.2; omega⟩
theorem ShortE.short {a b c : List Tk} (h : ShortE a b) (g : Short b c) : Short a c := ⟨g.1, by have := h.2; have := g.2; omega⟩
theorem WF.short {l : List Tk} (h : WF l) {k : Int} (hk : kd l = k) (h0 : k ≠ 0) : Short l l.tail := h.tail (by rw [hk]; exact h0)
theorem namesS_short : ∀ {l : List Tk}, WF l → ShortE l (namesS l).2
 | [], h => absurd h.cons (by simp)
 | t :: r, h => by
  simp only [namesS]
  split
  ·rename_i hk
   have h1 := h.short (k := 1) hk (by decide)
   exact h1.e.trans (namesS_short h1.1)
  ·exact ⟨h, Nat.le_refl _⟩
theorem argsS_short : ∀ {n : Nat} {l : List Tk} {x r}, WF l → argsS n l = .ok x r → ShortE l r
 | 0, l, x, r, h, e => by simp [argsS] at e
 | n + 1, l, x, r, h, e => by
  simp only [argsS] at e
  split at e
  ·rename_i hk
   have h1 := h.short hk (by decide)
   split at e
   ·rename_i hk2
    have h2 := h1.1.short hk2 (by decide)
    obtain ⟨a, r', e1, e2⟩ := andThen_ok e
    simp at e2
    obtain ⟨_, e2⟩ := e2
    subst e2
    exact h1.e.trans (h2.e.trans (argsS_short h2.1 e1))
   ·simp at e
  ·simp at e
   obtain ⟨_, e⟩ := e
   subst e
   exact ⟨h, Nat.le_refl _⟩
theorem tempsS_short {l : List Tk} {x r} (h : WF l) (e : tempsS l = .ok x r) : ShortE l r := by
 unfold tempsS at e
 split at e
 ·rename_i hk
  have h1 := h.short hk (by decide)
  split at e
  ·rename_i hk2
   have h2 := namesS_short h1.1
   have h3 := h2.1.short hk2 (by decide)
   simp at e
   rw [← e.2]
   exact h1.e.trans (h2.trans h3.e)
  ·simp at e
 ·simp at e
  rw [← e.2]
  exact ⟨h, Nat.le_refl _⟩
structure Pres (n : Nat) : Prop where
 expr : ∀ {d l x r}, WF l → exprS n d l = .ok x r → Short l r
 casc : ∀ {d l x r}, WF l → cascS n d l = .ok x r → Short l r
 semis : ∀ {d a l x r}, WF l → semisS n d a l = .ok x r → ShortE l r
 msg : ∀ {d l x r}, WF l → msgS n d l = .ok x r → Short l r
 keys : ∀ {d s a l x r}, WF l → keysS n d s a l = .ok x r → ShortE l r ∧ (kd l = 2 → r.length < l.length)
 keyed : ∀ {d l x r}, WF l → keyedS n d l = .ok x r → Short l r
 binary : ∀ {d l x r}, WF l → binaryS n d l = .ok x r → Short l r
 unary : ∀ {d l x r}, WF l → unaryS n d l = .ok x r → Short l r
 chain : ∀ {d c y l x r}, WF l → chainS n d c y l = .ok x r → ShortE l r
 prim : ∀ {d l x r}, WF l → primS n d l = .ok x r → Short l r
 list : ∀ {d l x r}, WF l → (kd l = 17 ∨ kd l = 8) → listS n d l = .ok x r → Short l r
 elems : ∀ {d a l x r}, WF l → elemsS n d a l = .ok x r → ShortE l r ∧ kd r = 9
 elem : ∀ {d l x r}, WF l → elemS n d l = .ok x r → Short l r
 block : ∀ {d l x r}, WF l → kd l = 10 → blockS n d l = .ok x r → Short l r
 body : ∀ {d e l x r}, WF l → bodyS n d e l = .ok x r → ShortE l r ∧ kd r = e
 stmts : ∀ {d e a l x r}, WF l → stmtsS n d e a l = .ok x r → ShortE l r ∧ kd r = e
 stmt : ∀ {d l x r}, WF l → stmtS n d l = .ok x r → Short l r
theorem pres : ∀ n, Pres n
 | 0 => by constructor <;> intros <;> simp_all [exprS, cascS, semisS, msgS, keysS, keyedS, binaryS, unaryS, chainS, primS, listS, elemsS, elemS, blockS, bodyS, stmtsS, stmtS]
 | n + 1 => by
  have ih := pres n
  constructor
  case expr =>
   intro d l x r h e
   simp only [exprS] at e
   split at e
   ·rename_i hk
    have h1 := h.short hk.1 (by decide)
    have h2 := h1.1.short hk.2 (by decide)
    split at e
    ·simp at e
    ·obtain ⟨a, r', e1, e2⟩ := andThen_ok e
     simp at e2
     rw [← e2.2]
     exact h1.trans (h2.trans (ih.expr h2.1 e1).e).e
   ·exact ih.casc h e
  case casc =>
   intro d l x r h e
   simp only [cascS] at e
   obtain ⟨a, r', e1, e2⟩ := andThen_ok e
   have h1 := ih.keyed h e1
   split at e2
   ·split at e2
    ·obtain ⟨b, r2, e3, e4⟩ := andThen_ok e2
     simp at e4
     rw [← e4.2]
     exact h1.trans (ih.semis h1.1 e3)
    ·simp at e2
   ·simp at e2
    rw [← e2.2]; exact h1
  case semis =>
   intro d a l x r h e
   simp only [semisS] at e
   split at e
   ·rename_i hk
    have h1 := h.short hk (by decide)
    obtain ⟨b, r2, e3, e4⟩ := andThen_ok e
    have h2 := ih.msg h1.1 e3
    exact h1.e.trans (h2.e.trans (ih.semis h2.1 e4))
   ·simp at e
    rw [← e.2]; exact ⟨h, Nat.le_refl _⟩
  case msg =>
   intro d l x r h e
   simp only [msgS] at e
   split at e
   ·rename_i hk
    have h1 := h.short hk (by decide)
    simp at e
    rw [← e.2]; exact h1
   ·split at e
    ·rename_i hk
     have h1 := h.short hk (by decide)
     obtain ⟨b, r2, e3, e4⟩ := andThen_ok e
     simp at e4
     rw [← e4.2]
     exact h1.trans (ih.unary h1.1 e3).e
    ·split at e
     ·rename_i hk
      obtain ⟨b, r2, e3, e4⟩ := andThen_ok e
      simp at e4
      rw [← e4.2]
      have := ih.keys h e3
      exact ⟨this.1.1, this.2 hk⟩
     ·simp at e
  case keys =>
   intro d s a l x r h e
   simp only [keysS] at e
   split at e
   ·rename_i hk
    have h1 := h.short hk (by decide)
    obtain ⟨b, r2, e3, e4⟩ := andThen_ok e
    have h2 := ih.binary h1.1 e3
    have h3 := (ih.keys h2.1 e4).1
    have h4 := h1.trans (h2.trans h3).e
    exact ⟨h4.e, fun _ => h4.2⟩
   ·rename_i hk
    simp at e
    rw [← e.2]; exact ⟨⟨h, Nat.le_refl _⟩, fun h => absurd h hk⟩
  case keyed =>
   intro d l x r h e
   simp only [keyedS] at e
   obtain ⟨b, r2, e3, e4⟩ := andThen_ok e
   have h1 := ih.binary h e3
   split at e4
   ·obtain ⟨c, r3, e5, e6⟩ := andThen_ok e4
    simp at e6
    rw [← e6.2]
    exact h1.trans (ih.msg h1.1 e5).e
   ·simp at e4
    rw [← e4.2]; exact h1
  case binary =>
   intro d l x r h e
   simp only [binaryS] at e
   obtain ⟨b, r2, e3, e4⟩ := andThen_ok e
   have h1 := ih.unary h e3
   exact h1.trans (ih.chain h1.1 e4)
  case unary =>
   intro d l x r h e
   simp only [unaryS] at e
   obtain ⟨b, r2, e3, e4⟩ := andThen_ok e
   have h1 := ih.prim h e3
   exact h1.trans (ih.chain h1.1 e4)
  case chain =>
   intro d c y l x r h e
   simp only [chainS] at e
   split at e
   ·obtain ⟨b, r2, e3, e4⟩ := andThen_ok e
    have h1 := ih.msg h e3
    exact h1.e.trans (ih.chain h1.1 e4)
   ·simp at e
    rw [← e.2]; exact ⟨h, Nat.le_refl _⟩
  case prim =>
   intro d l x r h e
   have t : ∀ {k : Int} {y : Nd × Bool}, kd l = k → k ≠ 0 → Res.ok y l.tail = Res.ok x r → Short l r := fun hk h0 e => by
    simp at e
    rw [← e.2]; exact h.short hk h0
   simp only [primS] at e
   split at e
   ·rename_i hk; exact t hk (by decide) e
   split at e
   ·rename_i hk; exact t hk (by decide) e
   split at e
   ·rename_i hk; exact t hk (by decide) e
   split at e
   ·rename_i hk; exact t hk (by decide) e
   split at e
   ·rename_i hk
    obtain ⟨b, r2, e3, e4⟩ := andThen_ok e
    simp at e4
    rw [← e4.2]
    exact ih.list h (.inl hk) e3
   split at e
   ·rename_i hk
    obtain ⟨b, r2, e3, e4⟩ := andThen_ok e
    simp at e4
    rw [← e4.2]
    exact ih.block h hk e3
   split at e
   ·rename_i hk
    have h1 := h.short hk (by decide)
    split at e
    ·simp at e
    ·obtain ⟨b, r2, e3, e4⟩ := andThen_ok e
     have h2 := ih.expr h1.1 e3
     split at e4
     ·rename_i hk2
      simp at e4
      rw [← e4.2]
      exact h1.trans (h2.trans (h2.1.short hk2 (by decide)).e).e
     ·simp at e4
   ·simp at e
  case list =>
   intro d l x r h hk e
   have h1 : Short l l.tail := by rcases hk with hk | hk <;> exact h.short hk (by decide)
   simp only [listS] at e
   split at e
   ·simp at e
   ·obtain ⟨b, r2, e3, e4⟩ := andThen_ok e
    simp at e4
    rw [← e4.2]
    have h2 := ih.elems h1.1 e3
    exact h1.trans (h2.1.trans (h2.1.1.short h2.2 (by decide)).e)
  case elems =>
   intro d a l x r h e
   simp only [elemsS] at e
   split at e
   ·rename_i hk
    simp at e
    rw [← e.2]; exact ⟨⟨h, Nat.le_refl _⟩, hk⟩
   ·obtain ⟨b, r2, e3, e4⟩ := andThen_ok e
    have h1 := ih.elem h e3
    have h2 := ih.elems h1.1 e4
    exact ⟨h1.e.trans h2.1, h2.2⟩
  case elem =>
   intro d l x r h e
   have t : ∀ {k : Int} {y : Nd}, kd l = k → k ≠ 0 → Res.ok y l.tail = Res.ok x r → Short l r := fun hk h0 e => by
    simp at e
    rw [← e.2]; exact h.short hk h0
   simp only [elemS] at e
   split at e
   ·rename_i hk; exact ih.list h hk e
   split at e
   ·rename_i hk; exact t hk (by decide) e
   split at e
   ·rename_i hk; exact t hk (by decide) e
   split at e
   ·rename_i hk; exact t hk (by decide) e
   split at e
   ·rename_i hk
    rcases hk with hk | hk | hk <;> exact t hk (by decide) e
   ·simp at e
  case block =>
   intro d l x r h hk e
   have h1 := h.short hk (by decide)
   have t : ∀ {d l0 r0 ags}, Short l l0 → ((bodyS n d 11 l0).andThen fun x r' => .ok (Nd.mk 10 ⟨#[]⟩ (pl l) (List.length ags) (ags ++ x.1) x.2) r'.tail) = Res.ok x r0 → Short l r0 := fun h2 e => by
    obtain ⟨b, r2, e3, e4⟩ := andThen_ok e
    simp at e4
    rw [← e4.2]
    have h3 := ih.body h2.1 e3
    exact h2.trans (h3.1.trans (h3.1.1.short h3.2 (by decide)).e)
   simp only [blockS] at e
   split at e
   ·simp at e
   ·obtain ⟨b, r2, e3, e4⟩ := andThen_ok e
    have h2 := argsS_short h1.1 e3
    split at e4
    ·split at e4
     ·rename_i hk2
      exact t (h1.trans (h2.trans (h2.1.short hk2 (by decide)).e)) e4
     ·simp at e4
    ·exact t (h1.trans h2) e4
  case body =>
   intro d e0 l x r h e
   simp only [bodyS] at e
   obtain ⟨b, r2, e3, e4⟩ := andThen_ok e
   obtain ⟨c, r3, e5, e6⟩ := andThen_ok e4
   simp at e6
   rw [← e6.2]
   have h1 := tempsS_short h e3
   have h2 := ih.stmts h1.1 e5
   exact ⟨h1.trans h2.1, h2.2⟩
  case stmts =>
   intro d e0 a l x r h e
   simp only [stmtsS] at e
   split at e
   ·rename_i hk
    simp at e
    rw [← e.2]; exact ⟨⟨h, Nat.le_refl _⟩, hk⟩
   ·obtain ⟨b, r2, e3, e4⟩ := andThen_ok e
    have h1 := ih.stmt h e3
    split at e4
    ·rename_i hk
     have h2 := h1.1.short hk.1 (by decide)
     have h3 := ih.stmts h2.1 e4
     exact ⟨h1.e.trans (h2.e.trans h3.1), h3.2⟩
    ·split at e4
     ·rename_i hk
      have h2 := h1.1.short hk (by decide)
      split at e4
      ·rename_i hk2
       simp at e4
       rw [← e4.2]; exact ⟨h1.e.trans h2.e, hk2⟩
      ·simp at e4
     ·split at e4
      ·rename_i hk2
       simp at e4
       rw [← e4.2]; exact ⟨h1.e, hk2⟩
      ·simp at e4
  case stmt =>
   intro d l x r h e
   simp only [stmtS] at e
   split at e
   ·rename_i hk
    have h1 := h.short hk (by decide)
    obtain ⟨b, r2, e3, e4⟩ := andThen_ok e
    simp at e4
    rw [← e4.2]
    exact h1.trans (ih.expr h1.1 e3).e
   ·obtain ⟨b, r2, e3, e4⟩ := andThen_ok e
    simp at e4
    rw [← e4.2]
    exact ih.expr h e3
theorem keys_len : ∀ {n d : Nat} {s : ByteArray} {a : List Nd} {l : List Tk} {x r}, WF l → keysS n d s a l = .ok x r → x.2.length + r.length ≤ a.length + l.length
 | 0, d, s, a, l, x, r, h, e => by simp [keysS] at e
 | n + 1, d, s, a, l, x, r, h, e => by
  simp only [keysS] at e
  split at e
  ·rename_i hk
   have h1 := h.short hk (by decide)
   obtain ⟨b, r2, e3, e4⟩ := andThen_ok e
   have h2 := (pres n).binary h1.1 e3
   have h3 := keys_len h2.1 e4
   have := h1.2; have := h2.2
   simp at h3
   omega
  ·simp at e
   rw [← e.1, ← e.2]; simp
theorem msg_len {n d : Nat} {l : List Tk} {x r} (h : WF l) (e : msgS n d l = .ok x r) : x.kids.length ≤ 5000 := by
 cases n with
 | zero => simp [msgS] at e
 | succ n =>
  simp only [msgS] at e
  split at e
  ·simp at e; rw [← e.1]; simp [Nd.kids]
  ·split at e
   ·obtain ⟨b, r2, e3, e4⟩ := andThen_ok e
    simp at e4; rw [← e4.1]; simp [Nd.kids]
   ·split at e
    ·obtain ⟨b, r2, e3, e4⟩ := andThen_ok e
     simp at e4
     rw [← e4.1]
     have := keys_len h e3
     have := h.2.2
     simp [Nd.kids] at *
     omega
    ·simp at e
end Go.SL
namespace Go.SL
theorem andThen_in {α β : Type} {x : Res α} {f : α → List Tk → Res β} (h : x ≠ .out) (hf : ∀ a r, x = .ok a r → f a r ≠ .out) : x.andThen f ≠ .out := by
 cases x with
 | ok a r => exact hf a r rfl
 | no a w => simp [Res.andThen]
 | out => exact absurd rfl h
theorem argsS_in : ∀ {n : Nat} {l : List Tk}, WF l → l.length ≤ n → argsS n l ≠ .out
 | 0, l, h, hn => by obtain ⟨t, r, e⟩ := h.cons; subst e; simp at hn
 | n + 1, l, h, hn => by
  simp only [argsS]
  split
  ·rename_i hk
   have h1 := h.short hk (by decide)
   split
   ·rename_i hk2
    have h2 := h1.1.short hk2 (by decide)
    exact andThen_in (argsS_in h2.1 (by have := h1.2; have := h2.2; omega)) fun _ _ _ => by simp
   ·simp
  ·simp
theorem tempsS_in (l : List Tk) : tempsS l ≠ .out := by
 unfold tempsS
 split
 ·split <;> simp
 ·simp
structure Enough (n : Nat) : Prop where
 expr : ∀ {d l}, WF l → 20 * l.length + 7 ≤ n → exprS n d l ≠ .out
 casc : ∀ {d l}, WF l → 20 * l.length + 6 ≤ n → cascS n d l ≠ .out
 semis : ∀ {d a l}, WF l → 20 * l.length + 1 ≤ n → semisS n d a l ≠ .out
 msg : ∀ {d l}, WF l → 20 * l.length + 2 ≤ n → msgS n d l ≠ .out
 keys : ∀ {d s a l}, WF l → 20 * l.length + 1 ≤ n → keysS n d s a l ≠ .out
 keyed : ∀ {d l}, WF l → 20 * l.length + 5 ≤ n → keyedS n d l ≠ .out
 binary : ∀ {d l}, WF l → 20 * l.length + 4 ≤ n → binaryS n d l ≠ .out
 unary : ∀ {d l}, WF l → 20 * l.length + 3 ≤ n → unaryS n d l ≠ .out
 chain : ∀ {d c y l}, WF l → 20 * l.length + 3 ≤ n → chainS n d c y l ≠ .out
 prim : ∀ {d l}, WF l → 20 * l.length + 2 ≤ n → primS n d l ≠ .out
 list : ∀ {d l}, WF l → (kd l = 17 ∨ kd l = 8) → 20 * l.length + 1 ≤ n → listS n d l ≠ .out
 elems : ∀ {d a l}, WF l → 20 * l.length + 3 ≤ n → elemsS n d a l ≠ .out
 elem : ∀ {d l}, WF l → 20 * l.length + 2 ≤ n → elemS n d l ≠ .out
 block : ∀ {d l}, WF l → kd l = 10 → 20 * l.length + 1 ≤ n → blockS n d l ≠ .out
 body : ∀ {d e l}, WF l → 20 * l.length + 10 ≤ n → bodyS n d e l ≠ .out
 stmts : ∀ {d e a l}, WF l → 20 * l.length + 9 ≤ n → stmtsS n d e a l ≠ .out
 stmt : ∀ {d l}, WF l → 20 * l.length + 8 ≤ n → stmtS n d l ≠ .out
theorem enough : ∀ n, Enough n
 | 0 => by constructor <;> intros <;> omega
 | n + 1 => by
  have ih := enough n
  have pr := pres n
  constructor
  case expr =>
   intro d l h hn
   simp only [exprS]
   split
   ·rename_i hk
    have h1 := h.short hk.1 (by decide)
    have h2 := h1.1.short hk.2 (by decide)
    have := h1.2; have := h2.2
    split
    ·simp
    ·exact andThen_in (ih.expr h2.1 (by omega)) fun _ _ _ => by simp
   ·exact ih.casc h (by omega)
  case casc =>
   intro d l h hn
   simp only [cascS]
   refine andThen_in (ih.keyed h (by omega)) fun a r e => ?_
   have h1 := pr.keyed h e
   have := h1.2
   split
   ·split
    ·exact andThen_in (ih.semis h1.1 (by omega)) fun _ _ _ => by simp
    ·simp
   ·simp
  case semis =>
   intro d a l h hn
   simp only [semisS]
   split
   ·rename_i hk
    have h1 := h.short hk (by decide)
    have := h1.2
    refine andThen_in (ih.msg h1.1 (by omega)) fun a r e => ?_
    have h2 := pr.msg h1.1 e
    have := h2.2
    exact ih.semis h2.1 (by omega)
   ·simp
  case msg =>
   intro d l h hn
   simp only [msgS]
   split
   ·simp
   ·split
    ·rename_i hk
     have h1 := h.short hk (by decide)
     have := h1.2
     exact andThen_in (ih.unary h1.1 (by omega)) fun _ _ _ => by simp
    ·split
     ·exact andThen_in (ih.keys h (by omega)) fun _ _ _ => by simp
     ·simp
  case keys =>
   intro d s a l h hn
   simp only [keysS]
   split
   ·rename_i hk
    have h1 := h.short hk (by decide)
    have := h1.2
    refine andThen_in (ih.binary h1.1 (by omega)) fun a r e => ?_
    have h2 := pr.binary h1.1 e
    have := h2.2
    exact ih.keys h2.1 (by omega)
   ·simp
  case keyed =>
   intro d l h hn
   simp only [keyedS]
   refine andThen_in (ih.binary h (by omega)) fun a r e => ?_
   have h1 := pr.binary h e
   have := h1.2
   split
   ·exact andThen_in (ih.msg h1.1 (by omega)) fun _ _ _ => by simp
   ·simp
  case binary =>
   intro d l h hn
   simp only [binaryS]
   refine andThen_in (ih.unary h (by omega)) fun a r e => ?_
   have h1 := pr.unary h e
   have := h1.2
   exact ih.chain h1.1 (by omega)
  case unary =>
   intro d l h hn
   simp only [unaryS]
   refine andThen_in (ih.prim h (by omega)) fun a r e => ?_
   have h1 := pr.prim h e
   have := h1.2
   exact ih.chain h1.1 (by omega)
  case chain =>
   intro d c y l h hn
   simp only [chainS]
   split
   ·refine andThen_in (ih.msg h (by omega)) fun a r e => ?_
    have h1 := pr.msg h e
    have := h1.2
    exact ih.chain h1.1 (by omega)
   ·simp
  case prim =>
   intro d l h hn
   simp only [primS]
   split; · simp
   split; · simp
   split; · simp
   split; · simp
   split
   ·rename_i hk; exact andThen_in (ih.list h (.inl hk) (by omega)) fun _ _ _ => by simp
   split
   ·rename_i hk; exact andThen_in (ih.block h hk (by omega)) fun _ _ _ => by simp
   split
   ·rename_i hk
    have h1 := h.short hk (by decide)
    have := h1.2
    split
    ·simp
    ·refine andThen_in (ih.expr h1.1 (by omega)) fun _ _ _ => ?_
     split <;> simp
   ·simp
  case list =>
   intro d l h hk hn
   have h1 : Short l l.tail := by rcases hk with hk | hk <;> exact h.short hk (by decide)
   have := h1.2
   simp only [listS]
   split
   ·simp
   ·exact andThen_in (ih.elems h1.1 (by omega)) fun _ _ _ => by simp
  case elems =>
   intro d a l h hn
   simp only [elemsS]
   split
   ·simp
   ·refine andThen_in (ih.elem h (by omega)) fun a r e => ?_
    have h1 := pr.elem h e
    have := h1.2
    exact ih.elems h1.1 (by omega)
  case elem =>
   intro d l h hn
   simp only [elemS]
   split
   ·rename_i hk; exact ih.list h hk (by omega)
   split; · simp
   split; · simp
   split; · simp
   split; · simp
   ·simp
  case block =>
   intro d l h hk hn
   have h1 := h.short hk (by decide)
   have := h1.2
   simp only [blockS]
   split
   ·simp
   ·refine andThen_in (argsS_in h1.1 (by omega)) fun a r e => ?_
    have h2 := argsS_short h1.1 e
    have := h2.2
    split
    ·split
     ·rename_i hk2
      have h3 := h2.1.short hk2 (by decide)
      have := h3.2
      exact andThen_in (ih.body h3.1 (by omega)) fun _ _ _ => by simp
     ·simp
    ·exact andThen_in (ih.body h2.1 (by omega)) fun _ _ _ => by simp
  case body =>
   intro d e0 l h hn
   simp only [bodyS]
   refine andThen_in (tempsS_in l) fun a r e => ?_
   have h1 := tempsS_short h e
   have := h1.2
   exact andThen_in (ih.stmts h1.1 (by omega)) fun _ _ _ => by simp
  case stmts =>
   intro d e0 a l h hn
   simp only [stmtsS]
   split
   ·simp
   ·refine andThen_in (ih.stmt h (by omega)) fun a r e => ?_
    have h1 := pr.stmt h e
    have := h1.2
    split
    ·rename_i hk
     have h2 := h1.1.short hk.1 (by decide)
     have := h2.2
     exact ih.stmts h2.1 (by omega)
    ·split
     ·split <;> simp
     ·split <;> simp
  case stmt =>
   intro d l h hn
   simp only [stmtS]
   split
   ·rename_i hk
    have h1 := h.short hk (by decide)
    have := h1.2
    exact andThen_in (ih.expr h1.1 (by omega)) fun _ _ _ => by simp
   ·exact andThen_in (ih.expr h (by omega)) fun _ _ _ => by simp
end Go.SL
namespace Go.SL
open Go.Proofs
set_option maxRecDepth 10000
mutual
def NdR : Nd → D → Prop
 | .mk k t a n names kids, v => ∃ nl1 z1 nl2 z2 ds, v = .agg [.int .i64 k, .str t, .int .i64 a, .int .i64 n, .sl nl1 z1 (names.map .str), .sl nl2 z2 ds] ∧
   (nl1 = true → names = []) ∧ (nl1 = false → z1 = 1) ∧ (nl2 = true → kids = []) ∧ (nl2 = false → z2 = 6) ∧ NdRL kids ds
def NdRL : List Nd → List D → Prop
 | [], ds => ds = []
 | x :: r, ds => ∃ d l, ds = d :: l ∧ NdR x d ∧ NdRL r l
end
theorem NdR.shape {x : Nd} {v : D} (h : NdR x v) : ∃ nl1 z1 nl2 z2 ds, v = .agg [.int .i64 x.k, .str x.t, .int .i64 x.a, .int .i64 x.n, .sl nl1 z1 (x.names.map .str), .sl nl2 z2 ds] ∧
   (nl1 = true → x.names = []) ∧ (nl1 = false → z1 = 1) ∧ (nl2 = true → x.kids = []) ∧ (nl2 = false → z2 = 6) ∧ NdRL x.kids ds := by
 cases x with
 | mk k t a n names kids => simp only [NdR] at h; exact h
theorem NdR.of {x : Nd} {nl1 nl2 : Bool} {z1 z2 : Nat} {ds : List D} (h1 : nl1 = true → x.names = []) (h2 : nl1 = false → z1 = 1) (h3 : nl2 = true → x.kids = []) (h4 : nl2 = false → z2 = 6) (h5 : NdRL x.kids ds) :
  NdR x (.agg [.int .i64 x.k, .str x.t, .int .i64 x.a, .int .i64 x.n, .sl nl1 z1 (x.names.map .str), .sl nl2 z2 ds]) := by
 cases x with
 | mk k t a n names kids => simp only [NdR]; exact ⟨nl1, z1, nl2, z2, ds, rfl, h1, h2, h3, h4, h5⟩
theorem NdR.mk {k : Int} {t : ByteArray} {a n : Nat} {names : List ByteArray} {kids : List Nd} {nl1 nl2 : Bool} {z1 z2 : Nat} {ds : List D} (h1 : nl1 = true → names = []) (h2 : nl1 = false → z1 = 1) (h3 : nl2 = true → kids = []) (h4 : nl2 = false → z2 = 6) (h5 : NdRL kids ds) :
  NdR (.mk k t a n names kids) (.agg [.int .i64 k, .str t, .int .i64 a, .int .i64 n, .sl nl1 z1 (names.map .str), .sl nl2 z2 ds]) := by
 simp only [NdR]; exact ⟨nl1, z1, nl2, z2, ds, rfl, h1, h2, h3, h4, h5⟩
theorem NdR.leaf (k : Int) (t : ByteArray) (a n : Nat) : NdR (.mk k t a n [] []) (.agg [.int .i64 k, .str t, .int .i64 a, .int .i64 n, .sl true 0 [], .sl true 0 []]) :=
 NdR.mk (fun _ => rfl) (by simp) (fun _ => rfl) (by simp) (by simp [NdRL])
theorem NdR.kids {k : Int} {t : ByteArray} {a n : Nat} {kids : List Nd} {ds : List D} (h : NdRL kids ds) : NdR (.mk k t a n [] kids) (.agg [.int .i64 k, .str t, .int .i64 a, .int .i64 n, .sl true 0 [], .sl false 6 ds]) :=
 NdR.mk (fun _ => rfl) (by simp) (by simp) (fun _ => rfl) h
theorem NdRL.one {x : Nd} {v : D} (h : NdR x v) : NdRL [x] [v] := by simp only [NdRL]; exact ⟨v, [], rfl, h, rfl⟩
def NdB (x : Nd × Bool) (v : D) : Prop := ∃ u, v = .tup [u, .bool x.2] ∧ NdR x.1 u
def PR {α : Type} (Φ : α → D → Prop) (d : Nat) (r : Res α) (o : Out) (h : H) : Prop := match r with
 | .ok x l => ∃ v b c, o = .ret (.d v) ∧ h = ⟨PB l d :: b, c⟩ ∧ Φ x v
 | .no a w => o = .pan (stopV a w) ∧ 1 ≤ h.bx.length
 | .out => True
section
variable {N : Nat} {f : FD} {Q : Out → H → Prop}
theorem ATT.callP {α : Type} {Φ : α → D → Prop} {fn : Func} (hf : Tryz.prog.funcs[f.fn]? = some fn) {ix : Nat} {dst : Option Nat} {g : Opd} {args : List Opd} {kill : List Nat} {r : List AI} {k : List AItem} {env : Env} {h : H} {ob : Bool} {fid : FuncId} {l : List Tk} {d : Nat} {res : Res α} {argsC : List V}
  (n j : Nat) (hAF : AF Tryz.prog fid argsC ⟨[PB l d], []⟩ (PR Φ d res)) (hr : res ≠ .out) (hc : calls (ev env g) (args.map (ev env)) = some (fid, rns [j] [] argsC)) (hsc : insc 1 0 argsC = true) (hj : h.bx[j]? = some (PB l d)) (ho : ob = true)
  (hno : ∀ a w, res = .no a w → ∀ h' : H, h'.bx.length = h.bx.length → Q (.pan (stopV a w)) h')
  (hk : ∀ x l' v, res = .ok x l' → Φ x v → ATT Tryz.prog N f Q (goes n (.reg r :: k) (put (dels env kill) dst (.d v)) ⟨h.bx.set j (PB l' d), h.vc⟩ true)) (hkp : subE env f.keep := by exact True.intro) : ATT Tryz.prog N f Q (.reg (⟨ix, dst, .call g args, none, kill⟩ :: r) :: k, env, h, ob) := by
 refine ATT.callA hf n [j] [] 0 0 hAF trivial hc (by simp [hj]) hsc ho (fun out hC hE => ?_) hkp
 cases hres : res with
 | ok x l' =>
  rw [hres] at hE
  obtain ⟨v, b, c, e1, e2, hφ⟩ := hE
  subst e1 e2
  refine ⟨by simp, ?_⟩
  have := hk x l' v hres hφ
  simpa using this
 | no a w =>
  rw [hres] at hE
  obtain ⟨e1, e2⟩ := hE
  subst e1
  exact ⟨by simpa using e2, by simpa [stopV] using hno a w hres _ (by simp)⟩
 | out => exact absurd hres hr
theorem ATT.callRP {α : Type} {Φ : α → D → Prop} {fn : Func} (hf : Tryz.prog.funcs[f.fn]? = some fn) {ix : Nat} {dst : Option Nat} {g : Opd} {args : List Opd} {kill : List Nat} {d' r : List AI} {k : List AItem} {env : Env} {h : H} {ob : Bool} {fid : FuncId} {l : List Tk} {d : Nat} {res : Res α} {argsC : List V}
  (n j : Nat) (hAF : AF Tryz.prog fid argsC ⟨[PB l d], []⟩ (PR Φ d res)) (hr : res ≠ .out) (hc : calls (ev env g) (args.map (ev env)) = some (fid, rns [j] [] argsC)) (hsc : insc 1 0 argsC = true) (hj : h.bx[j]? = some (PB l d)) (ho : ob = true)
  (hno : ∀ a w, res = .no a w → ∀ h' : H, h'.bx.length = h.bx.length → Q (.pan (stopV a w)) h')
  (hk : ∀ x l' v, res = .ok x l' → Φ x v → ATT Tryz.prog N f Q (goes n (.regD (⟨ix, dst, .call g args, none, kill⟩ :: d') r :: k) (put env dst (.d v)) ⟨h.bx.set j (PB l' d), h.vc⟩
   (rcB ⟨h.bx.set j (PB l' d), h.vc⟩ (put env dst (.d v)) kill d'))) (hk0 : f.keep = [] := by rfl) : ATT Tryz.prog N f Q (.regD d' (⟨ix, dst, .call g args, none, kill⟩ :: r) :: k, env, h, ob) := by
 refine ATT.callRA hf n [j] [] 0 0 hAF trivial hc (by simp [hj]) hsc ho (fun out hC hE => ?_) hk0
 cases hres : res with
 | ok x l' =>
  rw [hres] at hE
  obtain ⟨v, b, c, e1, e2, hφ⟩ := hE
  subst e1 e2
  refine ⟨by simp, ?_⟩
  have := hk x l' v hres hφ
  simpa using this
 | no a w =>
  rw [hres] at hE
  obtain ⟨e1, e2⟩ := hE
  subst e1
  exact ⟨by simpa using e2, by simpa [stopV] using hno a w hres _ (by simp)⟩
 | out => exact absurd hres hr
end
def ExprC (n : Nat) : Prop := ∀ d l, d ≤ 40 → WF l → exprS n d l ≠ .out → AF Tryz.prog 135 [.ptr 0 0] ⟨[PB l d], []⟩ (PR NdR d (exprS n d l))
def CascC (n : Nat) : Prop := ∀ d l, d ≤ 40 → WF l → cascS n d l ≠ .out → AF Tryz.prog 173 [.ptr 0 0] ⟨[PB l d], []⟩ (PR NdR d (cascS n d l))
def MsgC (n : Nat) : Prop := ∀ d l, d ≤ 40 → WF l → msgS n d l ≠ .out → AF Tryz.prog 198 [.ptr 0 0] ⟨[PB l d], []⟩ (PR NdR d (msgS n d l))
def KeyedC (n : Nat) : Prop := ∀ d l, d ≤ 40 → WF l → keyedS n d l ≠ .out → AF Tryz.prog 197 [.ptr 0 0] ⟨[PB l d], []⟩ (PR NdB d (keyedS n d l))
def BinaryC (n : Nat) : Prop := ∀ d l, d ≤ 40 → WF l → binaryS n d l ≠ .out → AF Tryz.prog 217 [.ptr 0 0] ⟨[PB l d], []⟩ (PR NdB d (binaryS n d l))
def UnaryC (n : Nat) : Prop := ∀ d l, d ≤ 40 → WF l → unaryS n d l ≠ .out → AF Tryz.prog 218 [.ptr 0 0] ⟨[PB l d], []⟩ (PR NdB d (unaryS n d l))
def PrimC (n : Nat) : Prop := ∀ d l, d ≤ 40 → WF l → primS n d l ≠ .out → AF Tryz.prog 227 [.ptr 0 0] ⟨[PB l d], []⟩ (PR NdB d (primS n d l))
def ListC (n : Nat) : Prop := ∀ d l, d ≤ 40 → WF l → (kd l = 17 ∨ kd l = 8) → listS n d l ≠ .out → AF Tryz.prog 235 [.ptr 0 0] ⟨[PB l d], []⟩ (PR NdR d (listS n d l))
def ElemC (n : Nat) : Prop := ∀ d l, d ≤ 40 → WF l → elemS n d l ≠ .out → AF Tryz.prog 244 [.ptr 0 0] ⟨[PB l d], []⟩ (PR NdR d (elemS n d l))
def BlockC (n : Nat) : Prop := ∀ d l, d ≤ 40 → WF l → kd l = 10 → blockS n d l ≠ .out → AF Tryz.prog 236 [.ptr 0 0] ⟨[PB l d], []⟩ (PR NdR d (blockS n d l))
def StmtC (n : Nat) : Prop := ∀ d l, d ≤ 40 → WF l → stmtS n d l ≠ .out → AF Tryz.prog 97 [.ptr 0 0] ⟨[PB l d], []⟩ (PR NdB d (stmtS n d l))
theorem kd_cons (t : Tk) (l : List Tk) : kd (t :: l) = t.k := rfl
theorem pl_cons (t : Tk) (l : List Tk) : pl (t :: l) = t.a := rfl
theorem tx_cons (t : Tk) (l : List Tk) : tx (t :: l) = t.t := rfl
theorem WF.two {t : Tk} {l : List Tk} (h : WF (t :: l)) (hk : t.k ≠ 0) : ∃ t2 l2, l = t2 :: l2 ∧ WF (t2 :: l2) := by
 have h1 := (h.tail hk).1
 obtain ⟨t2, l2, e⟩ := h1.cons
 exact ⟨t2, l2, e, by rw [← e]; exact h1⟩
theorem f172_ok {n : Nat} (ih : ExprC n) (d : Nat) (l : List Tk) (hd : d ≤ 40) (hl : WF l) (hin : exprS n d l ≠ .out) (a0 a1 a2 a3 a4 a5 : D) (_h0 : (V.d a0).one = true) :
  AF Tryz.prog 172 [.ptr 1 0, .ptr 2 0] ⟨[PB l d, PP, .cells [.d a0, .d a1, .d a2, .d a3, .d a4, .d a5] 75], []⟩ fun o h =>
   (∃ l' nd' b c, o = .ret (.d (.tup [])) ∧ h = ⟨PB l' d :: PP :: .cells (nd'.map .d) 75 :: b, c⟩ ∧ ∃ x v, exprS n d l = .ok x l' ∧ nd' = [a0, a1, a2, a3, a4, .sl false 6 [v]] ∧ NdR x v) ∨ (∃ a w, o = .pan (stopV a w) ∧ 3 ≤ h.bx.length ∧ exprS n d l = .no a w) := by
 refine AF.go Tryz.func172 [] fun tb TB Q hQ => ?_
 simp [TB]
 refine ATT.callP Tryz.func172 60 0 (ih d l hd hl hin) hin (by simp) (by simp) rfl rfl (fun a w e h' hh => hQ _ _ (.inr ⟨a, w, rfl, by simp at hh; omega, e⟩)) fun x l' v e hφ => ?_
 obtain ⟨nl1, z1, nl2, z2, ds, hv, _⟩ := hφ.shape
 have hv' := hv
 subst hv'
 simp
 refine ATT.fz0 ?_
 simp
 refine ATT.fin02 hQ Tryz.func172 ?_
 exact ⟨by simp, .inl ⟨l', _, _, _, rfl, rfl, x, _, e, rfl, hφ⟩⟩
theorem f135_ok (n : Nat) (ihE : ExprC n) (ihC : CascC n) : ExprC (n + 1) := by
 intro d l hd hl hin
 obtain ⟨t, r, e⟩ := hl.cons
 subst e
 simp only [exprS] at hin ⊢
 refine AF.go Tryz.func135 [] fun tb TB Q hQ => ?_
 simp [TB]
 refine ATT.callM Tryz.func135 60 [0] (f70_ok t r d) rfl ?_ ?_ ?_ ?_ ?_ ?_
 iterate 5 · simp
 simp
 by_cases h1 : t.k = 1
 ·obtain ⟨t2, l2, e, hl2⟩ := hl.two (by rw [h1]; decide)
  subst e
  by_cases h7 : t2.k = 7
  ·rw [if_pos ⟨h1, h7⟩] at hQ hin
   have hT := f69_ok t (t2 :: l2) d
   rw [if_neg (by rw [h1]; decide)] at hT
   simp [TB, eq_true h1, eq_true h7, tkD, tokD]
   refine ATT.callM Tryz.func135 60 [0] (hT) rfl ?_ ?_ ?_ ?_ ?_ ?_
   iterate 5 · simp [tkD, tokD]
   simp [TB, tkD, tokD]
   by_cases h40 : d = 40
   ·subst h40
    simp only [if_true] at hQ
    refine ATT.callA Tryz.func135 60 [0, 1, 4] [] 0 0 (f171_no t2 l2 [.int .i64 6, .str t.t, .int .i64 t.a, .int .i64 0, .sl true 0 [], .sl true 0 []] 75 172 [.ptr 1 0, .ptr 2 0]) ?_ ?_ ?_ ?_ ?_ fun out hC hE => ?_
    iterate 5 · simp [tkD, tokD]
    obtain ⟨e1, e2⟩ := hE
    subst e1
    exact ⟨by simpa using e2, hQ _ _ ⟨by simp [stopV, pl, eSize], by simp⟩⟩
   ·rw [if_neg h40] at hQ hin
    obtain ⟨t3, l3, e, hl3⟩ := hl2.two (by rw [h7]; decide)
    subst e
    have hin' : exprS n (d + 1) (t3 :: l3) ≠ .out := fun e => hin (by simp [e, Res.andThen])
    have hcl := f172_ok ihE (d + 1) (t3 :: l3) (by omega) hl3 hin' (.int .i64 6) (.str t.t) (.int .i64 t.a) (.int .i64 0) (.sl true 0 []) (.sl true 0 []) rfl
    have hW := f171_ok t2 (by rw [h7]; decide) (t3 :: l3) [.int .i64 6, .str t.t, .int .i64 t.a, .int .i64 0, .sl true 0 [], .sl true 0 []] 75 d (by omega) 172 [.ptr 1 0, .ptr 2 0] rfl rfl
     (fun l' nd' => ∃ x v, exprS n (d + 1) (t3 :: l3) = .ok x l' ∧ nd' = [.int .i64 6, .str t.t, .int .i64 t.a, .int .i64 0, .sl true 0 [], .sl false 6 [v]] ∧ NdR x v) (fun a w => exprS n (d + 1) (t3 :: l3) = .no a w) hcl
    refine ATT.callA Tryz.func135 60 [0, 1, 4] [] 0 0 (hW) ?_ ?_ ?_ ?_ ?_ fun out hC hE => ?_
    iterate 5 · simp [tkD, tokD]
    rcases hE with ⟨l', nd', b, c, e1, e2, x, v, hx, hnd, hxv⟩ | ⟨a, w, e1, e2, hx⟩
    ·subst e1 e2 hnd
     refine ⟨by simp, ?_⟩
     simp [TB]
     simp only [List.tail_cons, hx, Res.andThen] at hQ
     refine ATT.fin2 hQ Tryz.func135 ?_
     exact ⟨by simp, _, _, _, rfl, rfl, NdR.kids (.one hxv)⟩
    ·subst e1
     simp only [List.tail_cons, hx, Res.andThen] at hQ
     exact ⟨by simpa using e2, hQ _ _ ⟨by simp [stopV], by simp⟩⟩
  ·rw [if_neg (fun h => h7 h.2)] at hQ hin
   simp [TB, eq_true h1, tkD, tokD, h7]
   refine ATT.callP Tryz.func135 60 0 (ihC d _ hd hl hin) (hin) (by simp) (by simp) rfl (by simp) (fun a w e h1 hh => hQ _ _ (by rw [e]; exact ⟨rfl, by rw [hh]; simp⟩)) fun x l' v hx hφ => ?_
   rw [hx] at hQ hin
   try simp only [Res.andThen] at hQ hin
   obtain ⟨nl1_v, z1_v, nl2_v, z2_v, ds_v, hv_v, ha_v, hb_v, hc_v, hd_v, he_v⟩ := hφ.shape
   have hw_v := hv_v
   subst hw_v
   simp
   refine ATT.fin2 hQ Tryz.func135 ?_
   exact ⟨by simp, _, _, _, rfl, rfl, hφ⟩
 ·rw [if_neg (fun h => h1 h.1)] at hQ hin
  simp [TB, h1]
  refine ATT.callP Tryz.func135 60 0 (ihC d _ hd hl hin) (hin) (by simp) (by simp) rfl (by simp) (fun a w e h1 hh => hQ _ _ (by rw [e]; exact ⟨rfl, by rw [hh]; simp⟩)) fun x l' v hx hφ => ?_
  rw [hx] at hQ hin
  try simp only [Res.andThen] at hQ hin
  obtain ⟨nl1_v, z1_v, nl2_v, z2_v, ds_v, hv_v, ha_v, hb_v, hc_v, hd_v, he_v⟩ := hφ.shape
  have hw_v := hv_v
  subst hw_v
  simp
  refine ATT.fin2 hQ Tryz.func135 ?_
  exact ⟨by simp, _, _, _, rfl, rfl, hφ⟩
theorem f97_ok (n : Nat) (ihE : ExprC n) : StmtC (n + 1) := by
 intro d l hd hl hin
 obtain ⟨t, r, e⟩ := hl.cons
 subst e
 simp only [stmtS, kd_cons, pl_cons, List.tail_cons] at hin ⊢
 refine AF.go Tryz.func97 [] fun tb TB Q hQ => ?_
 simp [TB]
 refine ATT.callM Tryz.func97 60 [0] (f70_ok t r d) rfl ?_ ?_ ?_ ?_ ?_ ?_
 iterate 5 · simp
 simp
 by_cases h1 : t.k = 13
 ·obtain ⟨t2, l2, e, hl2⟩ := hl.two (by rw [h1]; decide)
  subst e
  have hT := f69_ok t (t2 :: l2) d
  rw [if_neg (by rw [h1]; decide)] at hT
  simp only [eq_true h1, if_true] at hQ hin
  simp [TB, eq_true h1]
  refine ATT.callM Tryz.func97 60 [0] (hT) rfl ?_ ?_ ?_ ?_ ?_ ?_
  iterate 5 · simp
  simp [TB, tkD, tokD]
  have hin' : exprS n d (t2 :: l2) ≠ .out := fun e => hin (by simp [e, Res.andThen])
  refine ATT.callP Tryz.func97 60 0 (ihE d _ hd hl2 hin') (hin') (by simp) (by simp) rfl (by simp) (fun a w e h1 hh => hQ _ _ (by rw [e]; exact ⟨rfl, by rw [hh]; simp⟩)) fun x l' v hx hφ => ?_
  rw [hx] at hQ hin
  try simp only [Res.andThen] at hQ hin
  obtain ⟨nl1_v, z1_v, nl2_v, z2_v, ds_v, hv_v, ha_v, hb_v, hc_v, hd_v, he_v⟩ := hφ.shape
  have hw_v := hv_v
  subst hw_v
  simp [TB]
  refine ATT.finz2 hQ Tryz.func97 ?_
  simp
  all_goals (first | omega | exact ⟨_, rfl⟩ | skip)
  exact ⟨_, _, _, rfl, rfl, _, rfl, NdR.kids (.one hφ)⟩
 ·simp only [eq_false h1, if_false] at hQ hin
  simp [TB, h1]
  have hin' : exprS n d (t :: r) ≠ .out := fun e => hin (by simp [e, Res.andThen])
  refine ATT.callP Tryz.func97 60 0 (ihE d _ hd hl hin') (hin') (by simp) (by simp) rfl (by simp) (fun a w e h1 hh => hQ _ _ (by rw [e]; exact ⟨rfl, by rw [hh]; simp⟩)) fun x l' v hx hφ => ?_
  rw [hx] at hQ hin
  try simp only [Res.andThen] at hQ hin
  obtain ⟨nl1_v, z1_v, nl2_v, z2_v, ds_v, hv_v, ha_v, hb_v, hc_v, hd_v, he_v⟩ := hφ.shape
  have hw_v := hv_v
  subst hw_v
  simp
  refine ATT.fin2 hQ Tryz.func97 ?_
  exact ⟨by simp, _, _, _, rfl, rfl, _, rfl, hφ⟩
theorem NdRL.append : ∀ {a b : List Nd} {x y : List D}, NdRL a x → NdRL b y → NdRL (a ++ b) (x ++ y)
 | [], b, x, y, h, h2 => by simp only [NdRL] at h; subst h; exact h2
 | a :: r, b, x, y, h, h2 => by
  simp only [NdRL] at h
  obtain ⟨d, l, e, h3, h4⟩ := h
  subst e
  simp only [List.cons_append, NdRL]
  exact ⟨d, l ++ y, rfl, h3, h4.append h2⟩
theorem NdRL.length : ∀ {a : List Nd} {x : List D}, NdRL a x → x.length = a.length
 | [], x, h => by simp only [NdRL] at h; subst h; rfl
 | a :: r, x, h => by
  simp only [NdRL] at h
  obtain ⟨d, l, e, h3, h4⟩ := h
  subst e
  simp [h4.length]
abbrev NV (T : TypeId) (ds : List D) : Option Vec := some ⟨ds.isEmpty, 6, 0, ds.map .d, T⟩
set_option maxHeartbeats 1000000 in
theorem f198_ok (n : Nat) (ihB : ∀ m, m ≤ n → BinaryC m) (ihU : UnaryC n) : MsgC (n + 1) := by
 intro d l hd hl hin
 obtain ⟨t, r, e⟩ := hl.cons
 subst e
 simp only [msgS, kd_cons, pl_cons, tx_cons, List.tail_cons] at hin ⊢
 by_cases h1 : t.k = 1
 ·have hT := f69_ok t r d
  rw [if_neg (by rw [h1]; decide)] at hT
  simp only [eq_true h1, if_true] at hin ⊢
  refine AF.go Tryz.func198 [(13, [oD 8 [(3, [0, 1])]])] fun tb TB Q hQ => ?_
  simp [TB, eq_true h1, tkD, tokD]
  refine ATT.callM Tryz.func198 60 [0] (hT) rfl ?_ ?_ ?_ ?_ ?_ ?_
  iterate 5 · simp [tkD, tokD]
  simp [TB, tkD, tokD]
  refine ATT.fin2 hQ Tryz.func198 ?_
  exact ⟨by simp, _, _, _, rfl, rfl, NdR.leaf _ _ _ 0⟩
 by_cases h3 : t.k = 3
 ·obtain ⟨t2, l2, e, hl2⟩ := hl.two (by rw [h3]; decide)
  subst e
  have hT := f69_ok t (t2 :: l2) d
  rw [if_neg (by rw [h3]; decide)] at hT
  simp only [eq_false h1, eq_true h3, if_true, if_false] at hin ⊢
  have hin' : unaryS n d (t2 :: l2) ≠ .out := fun e => hin (by simp [e, Res.andThen])
  refine AF.go Tryz.func198 [(13, [oD 8 [(3, [0, 1])]])] fun tb TB Q hQ => ?_
  simp [TB, h1, eq_true h3, tkD, tokD]
  refine ATT.callM Tryz.func198 60 [0] (hT) rfl ?_ ?_ ?_ ?_ ?_ ?_
  iterate 5 · simp [tkD, tokD]
  simp [TB, tkD, tokD]
  refine ATT.callP Tryz.func198 60 0 (ihU d _ hd hl2 hin') (hin') (by simp) (by simp) rfl (by simp) (fun a w e h1 hh => hQ _ _ (by rw [e]; exact ⟨rfl, by rw [hh]; simp⟩)) fun x l' v hx hφ => ?_
  rw [hx] at hQ hin
  try simp only [Res.andThen] at hQ hin
  obtain ⟨u, e, hφ⟩ := hφ
  subst e
  obtain ⟨nl1_u, z1_u, nl2_u, z2_u, ds_u, hv_u, ha_u, hb_u, hc_u, hd_u, he_u⟩ := hφ.shape
  have hw_u := hv_u
  subst hw_u
  simp [TB]
  refine ATT.finz2 hQ Tryz.func198 ?_
  simp
  all_goals (first | omega | exact ⟨_, rfl⟩ | skip)
  exact ⟨_, _, _, rfl, rfl, NdR.kids (.one hφ)⟩
 by_cases h2 : t.k = 2
 ·simp only [eq_false h1, eq_false h3, eq_true h2, if_true, if_false] at hin ⊢
  refine AF.go Tryz.func198 [(13, [oD 8 [(3, [0, 1])]])] fun tb TB Q hQ => ?_
  simp [TB, h1, h3, eq_true h2, tkD, tokD]
  refine ATT.nilB 3 5 6 75 rfl rfl (by decide) (by simp) ?_
  simp
  have hin' : keysS n d ⟨#[]⟩ [] (t :: r) ≠ .out := fun e => hin (by simp [e, Res.andThen])
  generalize hR : keysS n d ⟨#[]⟩ [] (t :: r) = R at hQ hin hin'
  have hlen := hl.2.2
  refine ATT.loopG 60 rfl (fun ((m, s, acc, ds, l) : Nat × ByteArray × List Nd × List D × List Tk) => m) (fun ((m, s, acc, ds, l) : Nat × ByteArray × List Nd × List D × List Tk) => keysS m d s acc l = R ∧ NdRL acc ds ∧ WF l ∧ ds.length + l.length ≤ 5000 ∧ s.size + 1048576 * l.length ≤ 5242880000 ∧ m ≤ n) (fun ((m, s, acc, ds, l) : Nat × ByteArray × List Nd × List D × List Tk) => [(0, .ptr 0 0), (2, .ptr 1 0), (4, .ptr 3 0)]) (fun ((m, s, acc, ds, l) : Nat × ByteArray × List Nd × List D × List Tk) => [PB l d, .cells [.d (.int .i64 0), .d (.str ⟨#[]⟩), .d (.int .i64 0), .d (.int .i64 0), .d (.sl true 0 []), .d (.sl true 0 [])] 75, .cells [.d (.int .i64 t.k), .d (.str t.t), .d (.int .i64 t.a)] 135, .cells [.d (.int .i64 9), .d (.str s), .d (.int .i64 t.a), .d (.int .i64 0), .d (.sl true 0 []), .vs 0 ds.length 0 ds.length] 75]) (fun ((m, s, acc, ds, l) : Nat × ByteArray × List Nd × List D × List Tk) => [NV 75 ds]) ((n, ⟨#[]⟩, [], [], t :: r)) (by (try dsimp only); exact ⟨hR, by simp [NdRL], hl, by simpa using hlen, by have h0 : (⟨#[]⟩ : ByteArray).size = 0 := rfl; simp only [List.length_cons] at hlen; simp only [h0, List.length_cons]; omega, Nat.le_refl _⟩) (by simp <;> omega) (by simp) (by simp) ?_
  intro ⟨m, s, acc, ds, l⟩ u w hI ih
  try simp only at hI ih
  obtain ⟨hRk, hds, hwf, hnum, hsz, hmn⟩ := hI
  obtain ⟨t1, l1, e⟩ := hwf.cons
  subst e
  cases m with
  | zero => exact absurd hRk.symm (by simpa [keysS] using hin')
  | succ m =>
   simp only [keysS, kd_cons, tx_cons, List.tail_cons] at hRk
   simp [TB]
   refine ATT.callM Tryz.func198 60 [0] (f70_ok t1 l1 d) rfl ?_ ?_ ?_ ?_ ?_ ?_
   iterate 5 · simp [tkD, tokD]
   simp [tkD, tokD]
   by_cases h1k : t1.k = 2
   ·obtain ⟨t2, l2, e, hl2⟩ := hwf.two (by rw [h1k]; decide)
    subst e
    have hT := f69_ok t1 (t2 :: l2) d
    rw [if_neg (by rw [h1k]; decide)] at hT
    simp only [eq_true h1k, if_true] at hRk
    have htz := hwf.2.1 t1 (by simp)
    simp only [List.length_cons] at hsz hnum
    have hcat : s.size + t1.t.size ≤ 9223372036854775807 := by omega
    simp [eq_true h1k, tkD, tokD]
    refine ATT.callRM Tryz.func198 60 [0] (hT) rfl ?_ ?_ ?_ ?_ ?_ ?_
    iterate 5 · simp [tkD, tokD]
    simp [TB, tkD, tokD, hcat]
    have hin2 : binaryS m d (t2 :: l2) ≠ .out := fun e => hin' (by rw [← hRk, e]; rfl)
    refine ATT.callP Tryz.func198 60 0 (ihB m (by omega) d _ hd hl2 hin2) hin2 (by simp) (by simp) rfl (by simp) (fun a w e h1 hh => hQ _ _ (by rw [← hRk, e]; exact ⟨rfl, by rw [hh]; simp⟩)) fun x l' v hx hφ => ?_
    rw [hx] at hRk
    simp only [Res.andThen] at hRk
    obtain ⟨u0, e, hφ⟩ := hφ
    subst e
    obtain ⟨nl1_u0, z1_u0, nl2_u0, z2_u0, ds_u0, hv_u0, ha_u0, hb_u0, hc_u0, hd_u0, he_u0⟩ := hφ.shape
    have hw_u0 := hv_u0
    subst hw_u0
    have hsh := (pres m).binary hl2 hx
    have h2l := hsh.2
    simp only [List.length_cons] at h2l
    have hmul : (ds.length + 1) * 88 ≤ 140737488355328 := by omega
    simp [TB, hmul]
    refine ih (m, s ++ t1.t, acc ++ [x.1], ds ++ [_], l') (by first | ((try dsimp only); omega) | (simp [eq_true h1k, tkD, tokD, hcat] <;> omega)) (by (try dsimp only); exact ⟨hRk, hds.append (.one hφ), hsh.1, by simp; omega, by simp; omega, by omega⟩) _ _ _ (by simp <;> omega) (by simp <;> omega) (by simp <;> omega)
   ·simp only [eq_false h1k, if_false] at hRk
    subst hRk
    simp [TB, h1k]
    cases ds with
    | nil =>
     have : acc = [] := by cases acc <;> simp [NdRL] at hds ⊢
     subst this
     refine ATT.finz2 hQ Tryz.func198 ?_
     simp
     all_goals (first | omega | exact ⟨_, rfl⟩ | skip)
     exact ⟨_, _, _, rfl, rfl, NdR.mk (fun _ => rfl) (by simp) (fun _ => rfl) (by simp) (by simp [NdRL])⟩
    | cons d0 ds =>
     refine ATT.finz2 hQ Tryz.func198 ?_
     simp
     all_goals (first | omega | exact ⟨_, rfl⟩ | skip)
     exact ⟨_, _, _, rfl, rfl, NdR.kids hds⟩
 ·simp only [eq_false h1, eq_false h3, eq_false h2, if_false] at hin ⊢
  refine AF.go Tryz.func198 [(13, [oD 8 [(3, [0, 1])]])] fun tb TB Q hQ => ?_
  simp [TB, h1, h3, h2, tkD, tokD]
  refine ATT.callA Tryz.func198 60 [0] [] 0 0 (f98_ok t r d 20) ?_ ?_ ?_ ?_ ?_ fun out hC hE => ?_
  iterate 5 · simp [tkD, tokD]
  obtain ⟨e1, e2⟩ := hE
  subst e1
  exact ⟨by simpa using e2, hQ _ _ ⟨by simp [stopV, eSyn], by simp⟩⟩
theorem f226_ok {n : Nat} (ihM : MsgC n) (d : Nat) (l : List Tk) (hd : d ≤ 40) (hl : WF l) (hin : msgS n d l ≠ .out) (x : Nd) (u : D) (hu : NdR x u) :
  AF Tryz.prog 226 [.ptr 0 0, .d u] ⟨[PB l d], []⟩ (PR NdR d ((msgS n d l).andThen fun m r => .ok (sentS x m) r)) := by
 obtain ⟨nl1_u, z1_u, nl2_u, z2_u, ds_u, hv_u, ha_u, hb_u, hc_u, hd_u, he_u⟩ := hu.shape
 have hw_u := hv_u
 subst hw_u
 refine AF.go Tryz.func226 [(2, [[(0, []), (1, []), (2, []), (3, []), (4, []), (6, []), (7, []), (5, [0, 1, 2, 3, 6, 7]), (8, [0, 1, 2, 3]), (9, []), (10, [])]])] fun tb TB Q hQ => ?_
 simp [TB]
 refine ATT.callP Tryz.func226 60 0 (ihM d _ hd hl hin) (hin) (by simp) (by simp) rfl (by simp) (fun a w e h1 hh => hQ _ _ (by rw [e]; exact ⟨rfl, by rw [hh]; simp⟩)) fun m l' v hx hφ => ?_
 rw [hx] at hQ hin
 try simp only [Res.andThen] at hQ hin
 have hlen := msg_len hl hx
 obtain ⟨nl1_v, z1_v, nl2_v, z2_v, ds_v, hv_v, ha_v, hb_v, hc_v, hd_v, he_v⟩ := hφ.shape
 have hw_v := hv_v
 subst hw_v
 have hdl := he_v.length
 have hmul : (1 + m.kids.length) * 88 ≤ 140737488355328 := by omega
 rw [← hdl] at hmul
 cases nl2_v with
 | true =>
  have hk := hc_v rfl
  rw [hk] at he_v
  simp only [NdRL] at he_v
  subst he_v
  simp
  refine ATT.finz2 hQ Tryz.func226 ?_
  simp
  all_goals (first | omega | exact ⟨_, rfl⟩ | skip)
  exact ⟨_, _, _, rfl, rfl, by simp only [sentS, hk]; exact NdR.kids (.one hu)⟩
 | false =>
  have hz := hd_v rfl
  subst hz
  simp [hmul]
  refine ATT.finz2 hQ Tryz.func226 ?_
  simp
  all_goals (first | omega | exact ⟨_, rfl⟩ | skip)
  exact ⟨_, _, _, rfl, rfl, by simp only [sentS]; exact NdR.kids (NdRL.append (.one hu) he_v)⟩
theorem f216_ok {n : Nat} (ihM : ∀ m, m ≤ n → MsgC m) (g : FuncId) (c : Int) (d : Nat) (l : List Tk) (hd : d ≤ 40) (res0 : Res (Nd × Bool)) (hread : AF Tryz.prog g [.ptr 0 0] ⟨[PB l d], []⟩ (PR NdB d res0)) (hwf0 : ∀ x r, res0 = .ok x r → WF r)
  (hin : (res0.andThen fun x r => chainS n d c x r) ≠ .out) :
  AF Tryz.prog 216 [.ptr 0 0, .d (.int .i64 c), .d (.bool false), .fn (.func g) [.ptr 0 0] []] ⟨[PB l d], []⟩ (PR NdB d (res0.andThen fun x r => chainS n d c x r)) := by
 have hin0 : res0 ≠ .out := fun e => hin (by rw [e]; rfl)
 refine AF.go Tryz.func216 [] fun tb TB Q hQ => ?_
 simp [TB]
 refine ATT.callP Tryz.func216 60 0 (hread) (hin0) (by simp) (by simp) rfl (by simp) (fun a w e h1 hh => hQ _ _ (by rw [e]; exact ⟨rfl, by rw [hh]; simp⟩)) fun x l' v hx hφ => ?_
 rw [hx] at hQ hin
 try simp only [Res.andThen] at hQ hin
 have hwf := hwf0 x l' hx
 obtain ⟨u, e, hu⟩ := hφ
 subst e
 obtain ⟨nl1_u, z1_u, nl2_u, z2_u, ds_u, hv_u, ha_u, hb_u, hc_u, hd_u, he_u⟩ := hu.shape
 have hw_u := hv_u
 subst hw_u
 simp
 generalize hR : chainS n d c x l' = R at hQ hin
 refine ATT.loopG 60 rfl (fun ((m, x, nl1, z1, nl2, z2, ds, l) : Nat × (Nd × Bool) × Bool × Nat × Bool × Nat × List D × List Tk) => m) (fun ((m, x, nl1, z1, nl2, z2, ds, l) : Nat × (Nd × Bool) × Bool × Nat × Bool × Nat × List D × List Tk) => chainS m d c x l = R ∧ WF l ∧ m ≤ n ∧ NdR x.1 (.agg [.int .i64 x.1.k, .str x.1.t, .int .i64 x.1.a, .int .i64 x.1.n, .sl nl1 z1 (x.1.names.map .str), .sl nl2 z2 ds])) (fun ((m, x, nl1, z1, nl2, z2, ds, l) : Nat × (Nd × Bool) × Bool × Nat × Bool × Nat × List D × List Tk) => [(0, .ptr 0 0), (1, .d (.int .i64 c)), (2, .d (.bool false)), (10, .ptr 2 0), (11, .d (.bool x.2)), (8, .ptr 1 0)]) (fun ((m, x, nl1, z1, nl2, z2, ds, l) : Nat × (Nd × Bool) × Bool × Nat × Bool × Nat × List D × List Tk) => [PB l d, .cells [.d (.int .i64 0), .d (.str ⟨#[]⟩), .d (.int .i64 0), .d (.int .i64 0), .d (.sl true 0 []), .d (.sl true 0 [])] 75, .cells [.d (.int .i64 x.1.k), .d (.str x.1.t), .d (.int .i64 x.1.a), .d (.int .i64 x.1.n), .d (.sl nl1 z1 (x.1.names.map .str)), .d (.sl nl2 z2 ds)] 75]) (fun ((m, x, nl1, z1, nl2, z2, ds, l) : Nat × (Nd × Bool) × Bool × Nat × Bool × Nat × List D × List Tk) => []) ((n, x, nl1_u, z1_u, nl2_u, z2_u, ds_u, l')) (by (try dsimp only); exact ⟨hR, hwf, Nat.le_refl _, hu⟩) (by simp <;> omega) (by simp) (by simp) ?_
 intro ⟨m, x, nl1, z1, nl2, z2, ds, l⟩ u w hI ih
 try simp only at hI ih
 obtain ⟨hRk, hwf, hmn, hu⟩ := hI
 obtain ⟨t1, l1, e⟩ := hwf.cons
 subst e
 cases m with
 | zero => exact absurd hRk.symm (by simpa [chainS] using hin)
 | succ m =>
  simp only [chainS, kd_cons] at hRk
  simp [TB]
  refine ATT.callM Tryz.func216 60 [0] (f70_ok t1 l1 d) rfl ?_ ?_ ?_ ?_ ?_ ?_
  iterate 5 · simp
  simp
  by_cases h1 : t1.k = c
  ·simp only [eq_true h1, if_true] at hRk
   have hin2 : msgS m d (t1 :: l1) ≠ .out := fun e => hin (by rw [← hRk, e]; rfl)
   simp [TB, eq_true h1]
   have hin3 : ((msgS m d (t1 :: l1)).andThen fun m r => Res.ok (sentS x.1 m) r) ≠ .out := andThen_in hin2 (fun _ _ _ => by simp)
   refine ATT.callP Tryz.func216 60 0 (f226_ok (ihM m (by omega)) d _ hd hwf hin2 x.1 _ hu) hin3 (by simp) (by simp) rfl (by simp) (fun a w e h1 hh => hQ _ _ (by
    cases hm : msgS m d (t1 :: l1) with
    | ok y r => rw [hm] at e; simp [Res.andThen] at e
    | no a' w' => rw [hm] at e; simp only [Res.andThen, Res.no.injEq] at e; rw [← hRk, hm]; exact ⟨by rw [e.1, e.2], by rw [hh]; simp⟩
    | out => exact absurd hm hin2)) fun y l' v hy hφ => ?_
   obtain ⟨y', r', e1, e2⟩ := andThen_ok hy
   simp only [Res.ok.injEq] at e2
   obtain ⟨e2, e3⟩ := e2
   subst e2 e3
   rw [e1] at hRk
   simp only [Res.andThen] at hRk
   have hsh := (pres m).msg hwf e1
   obtain ⟨nl1_v, z1_v, nl2_v, z2_v, ds_v, hv_v, ha_v, hb_v, hc_v, hd_v, he_v⟩ := hφ.shape
   have hw_v := hv_v
   subst hw_v
   simp [TB]
   refine ih (m, (sentS x.1 y', true), nl1_v, z1_v, nl2_v, z2_v, ds_v, r') (by first | ((try dsimp only); omega) | (simp <;> omega)) (by (try dsimp only); exact ⟨hRk, hsh.1, by omega, hφ⟩) _ _ _ (by simp <;> omega) (by simp <;> omega) (by simp <;> omega)
  ·simp only [eq_false h1, if_false] at hRk
   subst hRk
   simp [TB, h1]
   refine ATT.fin2 hQ Tryz.func216 ?_
   exact ⟨by simp, _, _, _, rfl, rfl, _, rfl, hu⟩
theorem f218_ok (n : Nat) (ihM : ∀ m, m ≤ n → MsgC m) (ihP : PrimC n) : UnaryC (n + 1) := by
 intro d l hd hl hin
 simp only [unaryS] at hin ⊢
 have hC := f216_ok ihM 227 1 d l hd _ (ihP d l hd hl (fun e => hin (by rw [e]; rfl))) (fun x r e => ((pres n).prim hl e).1) hin
 refine AF.go Tryz.func218 [] fun tb TB Q hQ => ?_
 simp [TB]
 refine ATT.callP Tryz.func218 60 0 (hC) (hin) (by simp) (by simp) rfl (by simp) (fun a w e h1 hh => hQ _ _ (by rw [e]; exact ⟨rfl, by rw [hh]; simp⟩)) fun x l' v hx hφ => ?_
 rw [hx] at hQ hin
 try simp only [Res.andThen] at hQ hin
 obtain ⟨u, e, hu⟩ := hφ
 subst e
 obtain ⟨nl1_u, z1_u, nl2_u, z2_u, ds_u, hv_u, ha_u, hb_u, hc_u, hd_u, he_u⟩ := hu.shape
 have hw_u := hv_u
 subst hw_u
 simp
 refine ATT.fin2 hQ Tryz.func218 ?_
 exact ⟨by simp, _, _, _, rfl, rfl, _, rfl, hu⟩
theorem f217_ok (n : Nat) (ihM : ∀ m, m ≤ n → MsgC m) (ihU : UnaryC n) : BinaryC (n + 1) := by
 intro d l hd hl hin
 simp only [binaryS] at hin ⊢
 have hC := f216_ok ihM 218 3 d l hd _ (ihU d l hd hl (fun e => hin (by rw [e]; rfl))) (fun x r e => ((pres n).unary hl e).1) hin
 refine AF.go Tryz.func217 [] fun tb TB Q hQ => ?_
 simp [TB]
 refine ATT.callP Tryz.func217 60 0 (hC) (hin) (by simp) (by simp) rfl (by simp) (fun a w e h1 hh => hQ _ _ (by rw [e]; exact ⟨rfl, by rw [hh]; simp⟩)) fun x l' v hx hφ => ?_
 rw [hx] at hQ hin
 try simp only [Res.andThen] at hQ hin
 obtain ⟨u, e, hu⟩ := hφ
 subst e
 obtain ⟨nl1_u, z1_u, nl2_u, z2_u, ds_u, hv_u, ha_u, hb_u, hc_u, hd_u, he_u⟩ := hu.shape
 have hw_u := hv_u
 subst hw_u
 simp
 refine ATT.fin2 hQ Tryz.func217 ?_
 exact ⟨by simp, _, _, _, rfl, rfl, _, rfl, hu⟩
end Go.SL
namespace Go.SL
open Go.Proofs
set_option maxRecDepth 10000
theorem f216_once {n : Nat} (ihM : MsgC n) (g : FuncId) (d : Nat) (l : List Tk) (hd : d ≤ 40) (res0 : Res (Nd × Bool)) (hread : AF Tryz.prog g [.ptr 0 0] ⟨[PB l d], []⟩ (PR NdB d res0)) (hwf0 : ∀ x r, res0 = .ok x r → WF r)
  (hin : (res0.andThen fun x r => if kd r = 2 then (msgS n d r).andThen fun m r' => Res.ok (sentS x.1 m, true) r' else Res.ok x r) ≠ .out) :
  AF Tryz.prog 216 [.ptr 0 0, .d (.int .i64 2), .d (.bool true), .fn (.func g) [.ptr 0 0] []] ⟨[PB l d], []⟩ (PR NdB d (res0.andThen fun x r => if kd r = 2 then (msgS n d r).andThen fun m r' => Res.ok (sentS x.1 m, true) r' else Res.ok x r)) := by
 have hin0 : res0 ≠ .out := fun e => hin (by rw [e]; rfl)
 refine AF.go Tryz.func216 [] fun tb TB Q hQ => ?_
 simp [TB]
 refine ATT.callP Tryz.func216 60 0 (hread) (hin0) (by simp) (by simp) rfl (by simp) (fun a w e h1 hh => hQ _ _ (by rw [e]; exact ⟨rfl, by rw [hh]; simp⟩)) fun x l' v hx hφ => ?_
 rw [hx] at hQ hin
 try simp only [Res.andThen] at hQ hin
 have hwf := hwf0 x l' hx
 obtain ⟨u, e, hu⟩ := hφ
 subst e
 obtain ⟨nl1_u, z1_u, nl2_u, z2_u, ds_u, hv_u, ha_u, hb_u, hc_u, hd_u, he_u⟩ := hu.shape
 have hw_u := hv_u
 subst hw_u
 obtain ⟨t1, l1, e⟩ := hwf.cons
 subst e
 simp
 refine ATT.loop 60 rfl ?_
 simp [TB]
 refine ATT.callM Tryz.func216 60 [0] (f70_ok t1 l1 d) rfl ?_ ?_ ?_ ?_ ?_ ?_
 iterate 5 · simp
 simp
 by_cases h1 : t1.k = 2
 ·simp only [kd_cons, eq_true h1, if_true] at hQ hin
  have hin2 : msgS n d (t1 :: l1) ≠ .out := fun e => hin (by simp [e])
  simp [TB, eq_true h1]
  have hin3 : ((msgS n d (t1 :: l1)).andThen fun m r => Res.ok (sentS x.1 m) r) ≠ .out := andThen_in hin2 (fun _ _ _ => by simp)
  refine ATT.callP Tryz.func216 60 0 (f226_ok ihM d _ hd hwf hin2 x.1 _ hu) hin3 (by simp) (by simp) rfl (by simp) (fun a w e h1 hh => hQ _ _ (by
   cases hm : msgS n d (t1 :: l1) with
   | ok y r => rw [hm] at e; simp [Res.andThen] at e
   | no a' w' => rw [hm] at e; simp only [Res.andThen, Res.no.injEq] at e; exact ⟨by rw [e.1, e.2], by rw [hh]; simp⟩
   | out => exact absurd hm hin2)) fun y l' v hy hφ => ?_
  obtain ⟨y', r', e1, e2⟩ := andThen_ok hy
  simp only [Res.ok.injEq] at e2
  obtain ⟨e2, e3⟩ := e2
  subst e2 e3
  rw [e1] at hQ
  simp only at hQ
  obtain ⟨nl1_v, z1_v, nl2_v, z2_v, ds_v, hv_v, ha_v, hb_v, hc_v, hd_v, he_v⟩ := hφ.shape
  have hw_v := hv_v
  subst hw_v
  simp [TB]
  refine ATT.fin2 hQ Tryz.func216 ?_
  exact ⟨by simp, _, _, _, rfl, rfl, _, rfl, hφ⟩
 ·simp only [kd_cons, eq_false h1, if_false] at hQ hin
  simp [TB, h1]
  refine ATT.fin2 hQ Tryz.func216 ?_
  exact ⟨by simp, _, _, _, rfl, rfl, _, rfl, hu⟩
theorem f197_ok (n : Nat) (ihM : MsgC n) (ihB : BinaryC n) : KeyedC (n + 1) := by
 intro d l hd hl hin
 simp only [keyedS] at hin ⊢
 have hC := f216_once ihM 217 d l hd _ (ihB d l hd hl (fun e => hin (by rw [e]; rfl))) (fun x r e => ((pres n).binary hl e).1) hin
 refine AF.go Tryz.func197 [] fun tb TB Q hQ => ?_
 simp [TB]
 refine ATT.callP Tryz.func197 60 0 (hC) (hin) (by simp) (by simp) rfl (by simp) (fun a w e h1 hh => hQ _ _ (by rw [e]; exact ⟨rfl, by rw [hh]; simp⟩)) fun x l' v hx hφ => ?_
 rw [hx] at hQ hin
 try simp only [Res.andThen] at hQ hin
 obtain ⟨u, e, hu⟩ := hφ
 subst e
 obtain ⟨nl1_u, z1_u, nl2_u, z2_u, ds_u, hv_u, ha_u, hb_u, hc_u, hd_u, he_u⟩ := hu.shape
 have hw_u := hv_u
 subst hw_u
 simp
 refine ATT.fin2 hQ Tryz.func197 ?_
 exact ⟨by simp, _, _, _, rfl, rfl, _, rfl, hu⟩
theorem f244_ok (n : Nat) (ihL : ListC n) : ElemC (n + 1) := by
 intro d l hd hl hin
 obtain ⟨t, r, e⟩ := hl.cons
 subst e
 simp only [elemS, kd_cons, pl_cons, tx_cons, List.tail_cons] at hin ⊢
 by_cases h17 : t.k = 17
 ·simp only [eq_true h17, true_or, if_true] at hin ⊢
  refine AF.go Tryz.func244 [] fun tb TB Q hQ => ?_
  simp [TB, eq_true h17, tkD, tokD]
  refine ATT.callP Tryz.func244 60 0 (ihL d _ hd hl (.inl h17) hin) (hin) (by simp) (by simp) rfl (by simp) (fun a w e h1 hh => hQ _ _ (by rw [e]; exact ⟨rfl, by rw [hh]; simp⟩)) fun x l' v hx hφ => ?_
  rw [hx] at hQ hin
  try simp only [Res.andThen] at hQ hin
  obtain ⟨nl1_v, z1_v, nl2_v, z2_v, ds_v, hv_v, ha_v, hb_v, hc_v, hd_v, he_v⟩ := hφ.shape
  have hw_v := hv_v
  subst hw_v
  simp
  refine ATT.fin2 hQ Tryz.func244 ?_
  exact ⟨by simp, _, _, _, rfl, rfl, hφ⟩
 by_cases h8 : t.k = 8
 ·simp only [eq_true h8, or_true, if_true] at hin ⊢
  refine AF.go Tryz.func244 [] fun tb TB Q hQ => ?_
  simp [TB, h17, eq_true h8, tkD, tokD]
  refine ATT.callP Tryz.func244 60 0 (ihL d _ hd hl (.inr h8) hin) (hin) (by simp) (by simp) rfl (by simp) (fun a w e h1 hh => hQ _ _ (by rw [e]; exact ⟨rfl, by rw [hh]; simp⟩)) fun x l' v hx hφ => ?_
  rw [hx] at hQ hin
  try simp only [Res.andThen] at hQ hin
  obtain ⟨nl1_v, z1_v, nl2_v, z2_v, ds_v, hv_v, ha_v, hb_v, hc_v, hd_v, he_v⟩ := hφ.shape
  have hw_v := hv_v
  subst hw_v
  simp
  refine ATT.fin2 hQ Tryz.func244 ?_
  exact ⟨by simp, _, _, _, rfl, rfl, hφ⟩
 simp only [eq_false h17, eq_false h8, or_self, if_false] at hin ⊢
 by_cases h4 : t.k = 4
 ·have hT := f69_ok t r d
  rw [if_neg (by rw [h4]; decide)] at hT
  simp only [eq_true h4, if_true] at hin ⊢
  refine AF.go Tryz.func244 [] fun tb TB Q hQ => ?_
  simp [TB, h17, h8, eq_true h4, tkD, tokD]
  refine ATT.callM Tryz.func244 60 [0] (hT) rfl ?_ ?_ ?_ ?_ ?_ ?_
  iterate 5 · simp [tkD, tokD]
  simp [TB, tkD, tokD]
  refine ATT.fin2 hQ Tryz.func244 ?_
  exact ⟨by simp, _, _, _, rfl, rfl, NdR.leaf _ _ _ 0⟩
 by_cases h5 : t.k = 5
 ·have hT := f69_ok t r d
  rw [if_neg (by rw [h5]; decide)] at hT
  simp only [eq_false h4, eq_true h5, if_true, if_false] at hin ⊢
  refine AF.go Tryz.func244 [] fun tb TB Q hQ => ?_
  simp [TB, h17, h8, h4, eq_true h5, tkD, tokD]
  refine ATT.callM Tryz.func244 60 [0] (hT) rfl ?_ ?_ ?_ ?_ ?_ ?_
  iterate 5 · simp [tkD, tokD]
  simp [TB, tkD, tokD]
  refine ATT.fin2 hQ Tryz.func244 ?_
  exact ⟨by simp, _, _, _, rfl, rfl, NdR.leaf _ _ _ 0⟩
 by_cases h1 : t.k = 1
 ·have hT := f69_ok t r d
  rw [if_neg (by rw [h1]; decide)] at hT
  simp only [eq_false h4, eq_false h5, eq_true h1, if_true, if_false] at hin ⊢
  refine AF.go Tryz.func244 [] fun tb TB Q hQ => ?_
  simp [TB, h17, h8, h4, h5, eq_true h1, tkD, tokD]
  by_cases ht : t.t = trueT
  ·have ht2 : t.t = ⟨#[116, 114, 117, 101]⟩ := ht
   simp only [eq_true ht, true_or, if_true] at hQ
   simp [TB, eq_true ht2]
   refine ATT.callM Tryz.func244 60 [0] (hT) rfl ?_ ?_ ?_ ?_ ?_ ?_
   iterate 5 · simp [tkD, tokD]
   simp [TB, tkD, tokD]
   refine ATT.fin2 hQ Tryz.func244 ?_
   exact ⟨by simp, _, _, _, rfl, rfl, NdR.leaf _ _ _ 0⟩
  have ht2 : ¬ t.t = ⟨#[116, 114, 117, 101]⟩ := ht
  by_cases hf : t.t = falseT
  ·have hf2 : t.t = ⟨#[102, 97, 108, 115, 101]⟩ := hf
   simp only [eq_false ht, eq_true hf, true_or, or_true, if_true] at hQ
   simp [TB, ht2, eq_true hf2]
   refine ATT.callM Tryz.func244 60 [0] (hT) rfl ?_ ?_ ?_ ?_ ?_ ?_
   iterate 5 · simp [tkD, tokD]
   simp [TB, tkD, tokD]
   refine ATT.fin2 hQ Tryz.func244 ?_
   exact ⟨by simp, _, _, _, rfl, rfl, NdR.leaf _ _ _ 0⟩
  have hf2 : ¬ t.t = ⟨#[102, 97, 108, 115, 101]⟩ := hf
  by_cases hn : t.t = nilT
  ·have hn2 : t.t = ⟨#[110, 105, 108]⟩ := hn
   simp only [eq_false ht, eq_false hf, eq_true hn, or_true, if_true] at hQ
   simp [TB, ht2, hf2, eq_true hn2]
   refine ATT.callM Tryz.func244 60 [0] (hT) rfl ?_ ?_ ?_ ?_ ?_ ?_
   iterate 5 · simp [tkD, tokD]
   simp [TB, tkD, tokD]
   refine ATT.fin2 hQ Tryz.func244 ?_
   exact ⟨by simp, _, _, _, rfl, rfl, NdR.leaf _ _ _ 0⟩
  ·have hn2 : ¬ t.t = ⟨#[110, 105, 108]⟩ := hn
   simp only [eq_false ht, eq_false hf, eq_false hn, or_false, if_false] at hQ
   simp [TB, ht2, hf2, hn2]
   refine ATT.callM Tryz.func244 60 [0] (hT) rfl ?_ ?_ ?_ ?_ ?_ ?_
   iterate 5 · simp [tkD, tokD]
   simp [TB, tkD, tokD]
   refine ATT.fin2 hQ Tryz.func244 ?_
   exact ⟨by simp, _, _, _, rfl, rfl, NdR.leaf _ _ _ 0⟩
 by_cases h6 : t.k = 6
 ·have hT := f69_ok t r d
  rw [if_neg (by rw [h6]; decide)] at hT
  simp only [eq_false h4, eq_false h5, eq_false h1, eq_true h6, true_or, if_true, if_false] at hin ⊢
  refine AF.go Tryz.func244 [] fun tb TB Q hQ => ?_
  simp [TB, h17, h8, h4, h5, h1, eq_true h6, tkD, tokD]
  refine ATT.callM Tryz.func244 60 [0] (hT) rfl ?_ ?_ ?_ ?_ ?_ ?_
  iterate 5 · simp [tkD, tokD]
  simp [TB, tkD, tokD]
  refine ATT.fin2 hQ Tryz.func244 ?_
  exact ⟨by simp, _, _, _, rfl, rfl, NdR.leaf _ _ _ 0⟩
 by_cases h2 : t.k = 2
 ·have hT := f69_ok t r d
  rw [if_neg (by rw [h2]; decide)] at hT
  simp only [eq_false h4, eq_false h5, eq_false h1, eq_true h2, true_or, or_true, if_true, if_false] at hin ⊢
  refine AF.go Tryz.func244 [] fun tb TB Q hQ => ?_
  simp [TB, h17, h8, h4, h5, h1, h6, eq_true h2, tkD, tokD]
  refine ATT.callM Tryz.func244 60 [0] (hT) rfl ?_ ?_ ?_ ?_ ?_ ?_
  iterate 5 · simp [tkD, tokD]
  simp [TB, tkD, tokD]
  refine ATT.fin2 hQ Tryz.func244 ?_
  exact ⟨by simp, _, _, _, rfl, rfl, NdR.leaf _ _ _ 0⟩
 by_cases h3 : t.k = 3
 ·have hT := f69_ok t r d
  rw [if_neg (by rw [h3]; decide)] at hT
  simp only [eq_false h4, eq_false h5, eq_false h1, eq_true h3, or_true, if_true, if_false] at hin ⊢
  refine AF.go Tryz.func244 [] fun tb TB Q hQ => ?_
  simp [TB, h17, h8, h4, h5, h1, h6, h2, eq_true h3, tkD, tokD]
  refine ATT.callM Tryz.func244 60 [0] (hT) rfl ?_ ?_ ?_ ?_ ?_ ?_
  iterate 5 · simp [tkD, tokD]
  simp [TB, tkD, tokD]
  refine ATT.fin2 hQ Tryz.func244 ?_
  exact ⟨by simp, _, _, _, rfl, rfl, NdR.leaf _ _ _ 0⟩
 ·simp only [eq_false h4, eq_false h5, eq_false h1, eq_false h6, eq_false h2, eq_false h3, or_self, if_false] at hin ⊢
  refine AF.go Tryz.func244 [] fun tb TB Q hQ => ?_
  simp [TB, h17, h8, h4, h5, h1, h6, h2, h3, tkD, tokD]
  refine ATT.callA Tryz.func244 60 [0] [] 0 0 (f98_ok t r d 20) ?_ ?_ ?_ ?_ ?_ fun out hC hE => ?_
  iterate 5 · simp [tkD, tokD]
  obtain ⟨e1, e2⟩ := hE
  subst e1
  exact ⟨by simpa using e2, hQ _ _ ⟨by simp [stopV, eSyn], by simp⟩⟩
end Go.SL
namespace Go.SL
open Go.Proofs
set_option maxRecDepth 10000
theorem NdRL.inv {y : Nd} {ys : List Nd} {ds : List D} (h : NdRL (y :: ys) ds) : ∃ w ws, ds = w :: ws ∧ NdR y w ∧ NdRL ys ws := by
 simp only [NdRL] at h
 obtain ⟨d, l, e, h3, h4⟩ := h
 exact ⟨d, l, e, h3, h4⟩
theorem NdRL.cons {y : Nd} {ys : List Nd} {d : D} {ds : List D} (h : NdR y d) (h2 : NdRL ys ds) : NdRL (y :: ys) (d :: ds) := by
 simp only [NdRL]
 exact ⟨d, ds, rfl, h, h2⟩
def KO (x : Nd × Bool) : Prop := x.1.k = 7 → x.2 = true → ∃ y ys, x.1.kids = y :: ys ∧ ys.length ≤ 5000
theorem KO.sent {n d : Nat} {l r : List Tk} {m : Nd} (hl : WF l) (h : msgS n d l = .ok m r) (x : Nd) (b : Bool) : KO (sentS x m, b) := fun _ _ => ⟨_, _, rfl, msg_len hl h⟩
theorem listS_k {n d : Nat} {l r : List Tk} {x : Nd} (h : listS n d l = .ok x r) : x.k = 4 := by
 cases n with
 | zero => simp [listS] at h
 | succ n =>
  simp only [listS] at h
  split at h
  ·simp at h
  ·obtain ⟨y, r', _, e2⟩ := andThen_ok h
   simp only [Res.ok.injEq] at e2
   rw [← e2.1]; rfl
theorem blockS_k {n d : Nat} {l r : List Tk} {x : Nd} (h : blockS n d l = .ok x r) : x.k = 10 := by
 cases n with
 | zero => simp [blockS] at h
 | succ n =>
  simp only [blockS] at h
  split at h
  ·simp at h
  ·obtain ⟨y, r', _, e2⟩ := andThen_ok h
   split at e2
   ·split at e2
    ·obtain ⟨z, r2, _, e3⟩ := andThen_ok e2
     simp only [Res.ok.injEq] at e3
     rw [← e3.1]; rfl
    ·simp at e2
   ·obtain ⟨z, r2, _, e3⟩ := andThen_ok e2
    simp only [Res.ok.injEq] at e3
    rw [← e3.1]; rfl
theorem primS_KO {n d : Nat} {l r : List Tk} {x : Nd × Bool} (h : primS n d l = .ok x r) : KO x := by
 cases n with
 | zero => simp [primS] at h
 | succ n =>
  simp only [primS] at h
  intro h7 hb
  split at h
  ·simp only [Res.ok.injEq] at h; rw [← h.1] at h7; exact absurd h7 (by simp [Nd.k])
  split at h
  ·simp only [Res.ok.injEq] at h; rw [← h.1] at h7; exact absurd h7 (by simp [Nd.k])
  split at h
  ·simp only [Res.ok.injEq] at h; rw [← h.1] at h7; exact absurd h7 (by simp [Nd.k])
  split at h
  ·simp only [Res.ok.injEq] at h; rw [← h.1] at h7; exact absurd h7 (by simp [Nd.k])
  split at h
  ·obtain ⟨y, r', e1, e2⟩ := andThen_ok h
   simp only [Res.ok.injEq] at e2; rw [← e2.1] at h7; rw [listS_k e1] at h7; exact absurd h7 (by decide)
  split at h
  ·obtain ⟨y, r', e1, e2⟩ := andThen_ok h
   simp only [Res.ok.injEq] at e2; rw [← e2.1] at h7; rw [blockS_k e1] at h7; exact absurd h7 (by decide)
  split at h
  ·split at h
   ·simp at h
   ·obtain ⟨y, r', e1, e2⟩ := andThen_ok h
    split at e2
    ·simp only [Res.ok.injEq] at e2; rw [← e2.1] at hb; simp at hb
    ·simp at e2
  ·simp at h
theorem chainS_KO : ∀ (n d : Nat) (c : Int) (x : Nd × Bool) (l : List Tk) (y : Nd × Bool) (r : List Tk), WF l → KO x → chainS n d c x l = .ok y r → KO y
 | 0, _, _, _, _, _, _, _, _, h => by simp [chainS] at h
 | n + 1, d, c, x, l, y, r, hl, hx, h => by
  simp only [chainS] at h
  split at h
  ·obtain ⟨m, r', e1, e2⟩ := andThen_ok h
   exact chainS_KO n d c _ _ _ _ ((pres n).msg hl e1).1 (KO.sent hl e1 _ _) e2
  ·simp only [Res.ok.injEq] at h; rw [← h.1]; exact hx
theorem unaryS_KO {n d : Nat} {l r : List Tk} {x : Nd × Bool} (hl : WF l) (h : unaryS n d l = .ok x r) : KO x := by
 cases n with
 | zero => simp [unaryS] at h
 | succ n =>
  simp only [unaryS] at h
  obtain ⟨m, r', e1, e2⟩ := andThen_ok h
  exact chainS_KO _ _ _ _ _ _ _ ((pres n).prim hl e1).1 (primS_KO e1) e2
theorem binaryS_KO {n d : Nat} {l r : List Tk} {x : Nd × Bool} (hl : WF l) (h : binaryS n d l = .ok x r) : KO x := by
 cases n with
 | zero => simp [binaryS] at h
 | succ n =>
  simp only [binaryS] at h
  obtain ⟨m, r', e1, e2⟩ := andThen_ok h
  exact chainS_KO _ _ _ _ _ _ _ ((pres n).unary hl e1).1 (unaryS_KO hl e1) e2
theorem keyedS_KO {n d : Nat} {l r : List Tk} {x : Nd × Bool} (hl : WF l) (h : keyedS n d l = .ok x r) : KO x := by
 cases n with
 | zero => simp [keyedS] at h
 | succ n =>
  simp only [keyedS] at h
  obtain ⟨m, r', e1, e2⟩ := andThen_ok h
  split at e2
  ·obtain ⟨m, r', e3, e4⟩ := andThen_ok e2
   simp only [Res.ok.injEq] at e4; rw [← e4.1]; exact KO.sent ((pres n).binary hl e1).1 e3 _ _
  ·simp only [Res.ok.injEq] at e2; rw [← e2.1]; exact binaryS_KO hl e1
theorem f173_ok (n : Nat) (ihK : KeyedC n) (ihM : ∀ m, m ≤ n → MsgC m) : CascC (n + 1) := by
 intro d l hd hl hin
 simp only [cascS] at hin ⊢
 have hin0 : keyedS n d l ≠ .out := fun e => hin (by rw [e]; rfl)
 refine AF.go Tryz.func173 [(6, [oD 10 [(8, [0, 1, 2, 3, 4, 5, 6, 7])]]), (7, [oD 11 [(7, [0, 1]), (9, [0, 1, 2, 3, 4, 5, 6, 8])], [(0, []), (1, []), (2, []), (3, []), (4, []), (5, []), (6, []), (9, [0, 1, 2, 3, 4, 5, 6]), (7, [0, 1]), (8, []), (10, [])]]), (10, [oD 8 [(3, [0, 1]), (4, [0, 1])]])] fun tb TB Q hQ => ?_
 simp [TB]
 refine ATT.callP Tryz.func173 60 0 (ihK d l hd hl hin0) (hin0) (by simp) (by simp) rfl (by simp) (fun a w e h1 hh => hQ _ _ (by rw [e]; exact ⟨rfl, by rw [hh]; simp⟩)) fun x l' v hx hφ => ?_
 rw [hx] at hQ hin
 try simp only [Res.andThen] at hQ hin
 have hwf := ((pres n).keyed hl hx).1
 have hko := keyedS_KO hl hx
 obtain ⟨u, e, hu⟩ := hφ
 subst e
 obtain ⟨nl1_u, z1_u, nl2_u, z2_u, ds_u, hv_u, ha_u, hb_u, hc_u, hd_u, he_u⟩ := hu.shape
 have hw_u := hv_u
 subst hw_u
 obtain ⟨t1, l1, e⟩ := hwf.cons
 subst e
 simp only [kd_cons, pl_cons] at hin hQ
 simp [TB]
 refine ATT.callM Tryz.func173 60 [0] (f70_ok t1 l1 d) rfl ?_ ?_ ?_ ?_ ?_ ?_
 iterate 5 · simp
 simp
 by_cases h1 : t1.k = 15
 ·simp only [eq_true h1, if_true] at hQ hin
  by_cases h7 : x.1.k = 7
  ·cases hb : x.2 with
   | true =>
    obtain ⟨y, ys, hys, _⟩ := hko h7 hb
    simp only [eq_true h7, hb, and_self, if_true] at hQ hin
    have hnl : nl2_u = false := by
     cases nl2_u with
     | false => rfl
     | true => have := hc_u rfl; rw [hys] at this; simp at this
    subst hnl
    have hz := hd_u rfl
    subst hz
    rw [hys] at he_u
    obtain ⟨w, ws, e, hw, hws⟩ := he_u.inv
    subst e
    obtain ⟨nl1_w, z1_w, nl2_w, z2_w, ds_w, hv_w, ha_w, hb_w, hc_w, hd_w, he_w⟩ := hw.shape
    have hw_w := hv_w
    subst hw_w
    have hin' : semisS n d [] (t1 :: l1) ≠ .out := fun e => hin (by simp [e])
    generalize hR : semisS n d [] (t1 :: l1) = R at hQ hin hin'
    simp [TB, eq_true h1, eq_true h7]
    refine ATT.ords 60 (by simp <;> omega) fun o ho => ?_
    simp only [List.mem_cons, List.mem_nil_iff, or_false] at ho
    rcases ho with ho | ho <;> subst ho
    simp
    all_goals try simp
    ·refine ATT.loopG 60 rfl (fun ((m, ms, dm, l) : Nat × List Nd × List D × List Tk) => m) (fun ((m, ms, dm, l) : Nat × List Nd × List D × List Tk) => semisS m d ms l = R ∧ NdRL ms dm ∧ WF l ∧ dm.length + l.length ≤ 5000 ∧ m ≤ n) (fun ((m, ms, dm, l) : Nat × List Nd × List D × List Tk) => [(0, .ptr 0 0), (2, .ptr 1 0), (6, .ptr 4 0)]) (fun ((m, ms, dm, l) : Nat × List Nd × List D × List Tk) => [PB l d, .cells [.d (.int .i64 0), .d (.str ⟨#[]⟩), .d (.int .i64 0), .d (.int .i64 0), .d (.sl true 0 []), .d (.sl true 0 [])] 75, .cells [.d (.int .i64 x.1.k), .d (.str x.1.t), .d (.int .i64 x.1.a), .d (.int .i64 x.1.n), .d (.sl nl1_u z1_u (x.1.names.map .str)), .d (.sl false 6 (.agg [.int .i64 y.k, .str y.t, .int .i64 y.a, .int .i64 y.n, .sl nl1_w z1_w (y.names.map .str), .sl nl2_w z2_w ds_w] :: ws))] 75, .cells [.d (.int .i64 9), .d (.str x.1.t), .d (.int .i64 x.1.a), .d (.int .i64 0), .d (.sl true 0 []), .d (.sl false 6 ws)] 75, .cells [.d (.int .i64 8), .d (.str ⟨#[]⟩), .d (.int .i64 x.1.a), .d (.int .i64 0), .d (.sl true 0 []), .vs 0 (dm.length + 2) 0 (dm.length + 2)] 75]) (fun ((m, ms, dm, l) : Nat × List Nd × List D × List Tk) => [some ⟨false, 6, 0, .d (.agg [.int .i64 y.k, .str y.t, .int .i64 y.a, .int .i64 y.n, .sl nl1_w z1_w (y.names.map .str), .sl nl2_w z2_w ds_w]) :: .d (.agg [.int .i64 9, .str x.1.t, .int .i64 x.1.a, .int .i64 0, .sl true 0 [], .sl false 6 ws]) :: dm.map .d, 75⟩]) ((n, [], [], t1 :: l1)) (by (try dsimp only); exact ⟨hR, by simp [NdRL], hwf, by simpa using hwf.2.2, Nat.le_refl _⟩) (by simp <;> omega) (by simp) (by simp) ?_
     intro ⟨m, ms, dm, l⟩ u w hI ih
     try simp only at hI ih
     obtain ⟨hRk, hds, hwf, hnum, hmn⟩ := hI
     obtain ⟨t2, l2, e⟩ := hwf.cons
     subst e
     cases m with
     | zero => exact absurd hRk.symm (by simpa [semisS] using hin')
     | succ m =>
      simp only [semisS, kd_cons, List.tail_cons] at hRk
      simp [TB]
      refine ATT.callM Tryz.func173 60 [0] (f70_ok t2 l2 d) rfl ?_ ?_ ?_ ?_ ?_ ?_
      iterate 5 · simp
      simp
      by_cases h15 : t2.k = 15
      ·obtain ⟨t3, l3, e, hl3⟩ := hwf.two (by rw [h15]; decide)
       subst e
       have hT := f69_ok t2 (t3 :: l3) d
       rw [if_neg (by rw [h15]; decide)] at hT
       simp only [eq_true h15, if_true] at hRk
       simp only [List.length_cons] at hnum
       simp [TB, eq_true h15, tkD, tokD]
       refine ATT.callM Tryz.func173 60 [0] (hT) rfl ?_ ?_ ?_ ?_ ?_ ?_
       iterate 5 · simp [tkD, tokD]
       simp [tkD, tokD]
       have hin2 : msgS m d (t3 :: l3) ≠ .out := fun e => hin' (by rw [← hRk, e]; rfl)
       refine ATT.callRP Tryz.func173 60 0 (ihM m (by omega) d _ hd hl3 hin2) hin2 (by simp) (by simp) rfl (by simp) (fun a w e h1 hh => hQ _ _ (by rw [← hRk, e]; exact ⟨rfl, by rw [hh]; simp⟩)) fun z l' v hz hφ => ?_
       rw [hz] at hRk
       simp only [Res.andThen] at hRk
       obtain ⟨nl1_v, z1_v, nl2_v, z2_v, ds_v, hv_v, ha_v, hb_v, hc_v, hd_v, he_v⟩ := hφ.shape
       have hw_v := hv_v
       subst hw_v
       have hsh := (pres m).msg hl3 hz
       have h2l := hsh.2
       simp only [List.length_cons] at h2l
       have hmul : (dm.length + 2 + 1) * 88 ≤ 140737488355328 := by omega
       simp [hmul]
       refine ih (m, ms ++ [z], dm ++ [_], l') (by first | ((try dsimp only); omega) | (simp [eq_true h15, tkD, tokD] <;> omega)) (by (try dsimp only); exact ⟨hRk, hds.append (.one hφ), hsh.1, by simp; omega, by omega⟩) _ _ _ (by simp <;> omega) (by simp <;> omega) (by simp <;> omega)
      ·simp only [eq_false h15, if_false] at hRk
       subst hRk
       simp [TB, h15]
       refine ATT.finz2 hQ Tryz.func173 ?_
       simp
       all_goals (first | omega | exact ⟨_, rfl⟩ | skip)
       exact ⟨_, _, _, rfl, rfl, by rw [hys]; exact NdR.kids (NdRL.cons hw (NdRL.cons (NdR.kids hws) hds))⟩
    ·refine ATT.loopG 60 rfl (fun ((m, ms, dm, l) : Nat × List Nd × List D × List Tk) => m) (fun ((m, ms, dm, l) : Nat × List Nd × List D × List Tk) => semisS m d ms l = R ∧ NdRL ms dm ∧ WF l ∧ dm.length + l.length ≤ 5000 ∧ m ≤ n) (fun ((m, ms, dm, l) : Nat × List Nd × List D × List Tk) => [(0, .ptr 0 0), (2, .ptr 1 0), (6, .ptr 4 0)]) (fun ((m, ms, dm, l) : Nat × List Nd × List D × List Tk) => [PB l d, .cells [.d (.int .i64 0), .d (.str ⟨#[]⟩), .d (.int .i64 0), .d (.int .i64 0), .d (.sl true 0 []), .d (.sl true 0 [])] 75, .cells [.d (.int .i64 x.1.k), .d (.str x.1.t), .d (.int .i64 x.1.a), .d (.int .i64 x.1.n), .d (.sl nl1_u z1_u (x.1.names.map .str)), .d (.sl false 6 (.agg [.int .i64 y.k, .str y.t, .int .i64 y.a, .int .i64 y.n, .sl nl1_w z1_w (y.names.map .str), .sl nl2_w z2_w ds_w] :: ws))] 75, .cells [.d (.int .i64 9), .d (.str x.1.t), .d (.int .i64 x.1.a), .d (.int .i64 0), .d (.sl true 0 []), .d (.sl false 6 ws)] 75, .cells [.d (.int .i64 8), .d (.str ⟨#[]⟩), .d (.int .i64 x.1.a), .d (.int .i64 0), .d (.sl true 0 []), .vs 0 (dm.length + 2) 0 (dm.length + 2)] 75]) (fun ((m, ms, dm, l) : Nat × List Nd × List D × List Tk) => [some ⟨false, 6, 0, .d (.agg [.int .i64 y.k, .str y.t, .int .i64 y.a, .int .i64 y.n, .sl nl1_w z1_w (y.names.map .str), .sl nl2_w z2_w ds_w]) :: .d (.agg [.int .i64 9, .str x.1.t, .int .i64 x.1.a, .int .i64 0, .sl true 0 [], .sl false 6 ws]) :: dm.map .d, 75⟩]) ((n, [], [], t1 :: l1)) (by (try dsimp only); exact ⟨hR, by simp [NdRL], hwf, by simpa using hwf.2.2, Nat.le_refl _⟩) (by simp <;> omega) (by simp) (by simp) ?_
     intro ⟨m, ms, dm, l⟩ u w hI ih
     try simp only at hI ih
     obtain ⟨hRk, hds, hwf, hnum, hmn⟩ := hI
     obtain ⟨t2, l2, e⟩ := hwf.cons
     subst e
     cases m with
     | zero => exact absurd hRk.symm (by simpa [semisS] using hin')
     | succ m =>
      simp only [semisS, kd_cons, List.tail_cons] at hRk
      simp [TB]
      refine ATT.callM Tryz.func173 60 [0] (f70_ok t2 l2 d) rfl ?_ ?_ ?_ ?_ ?_ ?_
      iterate 5 · simp
      simp
      by_cases h15 : t2.k = 15
      ·obtain ⟨t3, l3, e, hl3⟩ := hwf.two (by rw [h15]; decide)
       subst e
       have hT := f69_ok t2 (t3 :: l3) d
       rw [if_neg (by rw [h15]; decide)] at hT
       simp only [eq_true h15, if_true] at hRk
       simp only [List.length_cons] at hnum
       simp [TB, eq_true h15, tkD, tokD]
       refine ATT.callM Tryz.func173 60 [0] (hT) rfl ?_ ?_ ?_ ?_ ?_ ?_
       iterate 5 · simp [tkD, tokD]
       simp [tkD, tokD]
       have hin2 : msgS m d (t3 :: l3) ≠ .out := fun e => hin' (by rw [← hRk, e]; rfl)
       refine ATT.callRP Tryz.func173 60 0 (ihM m (by omega) d _ hd hl3 hin2) hin2 (by simp) (by simp) rfl (by simp) (fun a w e h1 hh => hQ _ _ (by rw [← hRk, e]; exact ⟨rfl, by rw [hh]; simp⟩)) fun z l' v hz hφ => ?_
       rw [hz] at hRk
       simp only [Res.andThen] at hRk
       obtain ⟨nl1_v, z1_v, nl2_v, z2_v, ds_v, hv_v, ha_v, hb_v, hc_v, hd_v, he_v⟩ := hφ.shape
       have hw_v := hv_v
       subst hw_v
       have hsh := (pres m).msg hl3 hz
       have h2l := hsh.2
       simp only [List.length_cons] at h2l
       have hmul : (dm.length + 2 + 1) * 88 ≤ 140737488355328 := by omega
       simp [hmul]
       refine ih (m, ms ++ [z], dm ++ [_], l') (by first | ((try dsimp only); omega) | (simp [eq_true h15, tkD, tokD] <;> omega)) (by (try dsimp only); exact ⟨hRk, hds.append (.one hφ), hsh.1, by simp; omega, by omega⟩) _ _ _ (by simp <;> omega) (by simp <;> omega) (by simp <;> omega)
      ·simp only [eq_false h15, if_false] at hRk
       subst hRk
       simp [TB, h15]
       refine ATT.finz2 hQ Tryz.func173 ?_
       simp
       all_goals (first | omega | exact ⟨_, rfl⟩ | skip)
       exact ⟨_, _, _, rfl, rfl, by rw [hys]; exact NdR.kids (NdRL.cons hw (NdRL.cons (NdR.kids hws) hds))⟩
   | false =>
    simp only [eq_true h7, hb] at hQ hin
    simp [TB, eq_true h1, eq_true h7]
    refine ATT.callA Tryz.func173 60 [0] [] 0 0 (f98_ok t1 l1 d 20) ?_ ?_ ?_ ?_ ?_ fun out hC hE => ?_
    iterate 5 · simp
    obtain ⟨e1, e2⟩ := hE
    subst e1
    exact ⟨by simpa using e2, hQ _ _ ⟨by simp [stopV, eSyn], by simp⟩⟩
  ·simp only [eq_false h7, false_and, if_false] at hQ hin
   simp [TB, eq_true h1, h7]
   refine ATT.callA Tryz.func173 60 [0] [] 0 0 (f98_ok t1 l1 d 20) ?_ ?_ ?_ ?_ ?_ fun out hC hE => ?_
   iterate 5 · simp
   obtain ⟨e1, e2⟩ := hE
   subst e1
   exact ⟨by simpa using e2, hQ _ _ ⟨by simp [stopV, eSyn], by simp⟩⟩
 ·simp only [eq_false h1, if_false] at hQ hin
  simp [TB, h1]
  refine ATT.fin2 hQ Tryz.func173 ?_
  exact ⟨by simp, _, _, _, rfl, rfl, hu⟩
end Go.SL
namespace Go.SL
open Go.Proofs
set_option maxRecDepth 10000
theorem f243_ok (n : Nat) (ihE : ∀ m, m ≤ n → ElemC m) (d : Nat) (l : List Tk) (hd : d ≤ 40) (hl : WF l) (hin : elemsS n d [] l ≠ .out) (a0 a1 a2 a3 a4 : D) :
  AF Tryz.prog 243 [.ptr 1 0, .ptr 2 0] ⟨[PB l d, PP, .cells [.d a0, .d a1, .d a2, .d a3, .d a4, .d (.sl true 0 [])] 75], []⟩ fun o h =>
   (∃ l' nd' b c, o = .ret (.d (.tup [])) ∧ h = ⟨PB l' d :: PP :: .cells (nd'.map .d) 75 :: b, c⟩ ∧ ∃ xs r nl z ds, elemsS n d [] l = .ok xs r ∧ l' = r.tail ∧ nd' = [a0, a1, a2, a3, a4, .sl nl z ds] ∧ NdRL xs ds ∧ (nl = true → xs = []) ∧ (nl = false → z = 6)) ∨ (∃ a w, o = .pan (stopV a w) ∧ 3 ≤ h.bx.length ∧ elemsS n d [] l = .no a w) := by
 refine AF.go Tryz.func243 [(1, [[(0, []), (1, []), (2, []), (4, []), (3, [0, 1, 4]), (5, [0, 1, 2, 4]), (6, []), (7, []), (9, []), (8, [9]), (10, [7])], [(0, []), (1, []), (2, []), (4, []), (3, [0, 1, 4]), (5, [0, 1, 2, 4]), (6, []), (7, []), (9, []), (10, [7]), (8, [9])], [(0, []), (1, []), (2, []), (4, []), (5, [0, 1, 2, 4]), (3, [0, 1, 4]), (6, []), (7, []), (9, []), (8, [9]), (10, [7])], [(0, []), (1, []), (2, []), (4, []), (5, [0, 1, 2, 4]), (3, [0, 1, 4]), (6, []), (7, []), (9, []), (10, [7]), (8, [9])]])] fun tb TB Q hQ => ?_
 simp
 refine ATT.nilB 2 5 6 75 rfl rfl (by decide) (by simp) ?_
 simp
 have hlen := hl.2.2
 generalize hR : elemsS n d [] l = R at hQ hin
 refine ATT.loopG 60 rfl (fun ((m, acc, ds, l) : Nat × List Nd × List D × List Tk) => m) (fun ((m, acc, ds, l) : Nat × List Nd × List D × List Tk) => elemsS m d acc l = R ∧ NdRL acc ds ∧ WF l ∧ ds.length + l.length ≤ 5000 ∧ m ≤ n) (fun ((m, acc, ds, l) : Nat × List Nd × List D × List Tk) => [(0, .ptr 1 0), (1, .ptr 2 0)]) (fun ((m, acc, ds, l) : Nat × List Nd × List D × List Tk) => [PB l d, PP, .cells [.d a0, .d a1, .d a2, .d a3, .d a4, .vs 0 ds.length 0 ds.length] 75]) (fun ((m, acc, ds, l) : Nat × List Nd × List D × List Tk) => [NV 75 ds]) ((n, [], [], l)) (by (try dsimp only); exact ⟨hR, by simp [NdRL], hl, by simpa using hlen, Nat.le_refl _⟩) (by simp <;> omega) (by simp) (by simp) ?_
 intro ⟨m, acc, ds, l⟩ u w hI ih
 try simp only at hI ih
 obtain ⟨hRk, hds, hwf, hnum, hmn⟩ := hI
 obtain ⟨t1, l1, e⟩ := hwf.cons
 subst e
 cases m with
 | zero => exact absurd hRk.symm (by simpa [elemsS] using hin)
 | succ m =>
  simp only [elemsS, kd_cons] at hRk
  simp [TB]
  refine ATT.callM Tryz.func243 60 [0] (f70_ok t1 l1 d) rfl ?_ ?_ ?_ ?_ ?_ ?_
  iterate 5 · simp
  simp
  by_cases h9 : t1.k = 9
  ·simp only [eq_true h9, if_true] at hRk
   subst hRk
   have hT := f69_ok t1 l1 d
   rw [if_neg (by rw [h9]; decide)] at hT
   simp [TB, eq_true h9, tkD, tokD]
   refine ATT.callM Tryz.func243 60 [0] (hT) rfl ?_ ?_ ?_ ?_ ?_ ?_
   iterate 5 · simp [tkD, tokD]
   simp [tkD, tokD]
   cases ds with
   | nil =>
    have : acc = [] := by cases acc <;> simp [NdRL] at hds ⊢
    subst this
    refine ATT.fz0 ?_
    simp
    refine ATT.fin02 hQ Tryz.func243 ?_
    exact ⟨by simp, .inl ⟨l1, [a0, a1, a2, a3, a4, .sl true 6 []], _, _, rfl, rfl, [], _, _, _, _, rfl, rfl, rfl, by simp [NdRL], fun _ => rfl, fun _ => rfl⟩⟩
   | cons d0 ds =>
    refine ATT.fz0 ?_
    simp
    refine ATT.fin02 hQ Tryz.func243 ?_
    exact ⟨by simp, .inl ⟨l1, [a0, a1, a2, a3, a4, .sl false 6 (d0 :: ds)], _, _, rfl, rfl, acc, _, _, _, _, rfl, rfl, rfl, hds, by simp, fun _ => rfl⟩⟩
  ·simp only [eq_false h9, if_false] at hRk
   have hin2 : elemS m d (t1 :: l1) ≠ .out := fun e => hin (by rw [← hRk, e]; rfl)
   simp [h9]
   refine ATT.ords 60 (by simp <;> omega) fun o ho => ?_
   simp only [List.mem_cons, List.mem_nil_iff, or_false] at ho
   rcases ho with ho | ho | ho | ho <;> subst ho
   all_goals try simp
   ·refine ATT.callRP Tryz.func243 60 0 (ihE m (by omega) d _ hd hwf hin2) hin2 (by simp) (by simp) rfl (by simp) (fun a w e h1 hh => hQ _ _ (by rw [← hRk, e]; exact .inr ⟨_, _, rfl, by rw [hh]; simp, rfl⟩)) fun z l' v hz hφ => ?_
    rw [hz] at hRk
    simp only [Res.andThen] at hRk
    obtain ⟨nl1_v, z1_v, nl2_v, z2_v, ds_v, hv_v, ha_v, hb_v, hc_v, hd_v, he_v⟩ := hφ.shape
    have hw_v := hv_v
    subst hw_v
    have hsh := (pres m).elem hwf hz
    have h2l := hsh.2
    simp only [List.length_cons] at h2l hnum
    have hmul : (ds.length + 1) * 88 ≤ 140737488355328 := by omega
    simp [hmul]
    refine ih (m, acc ++ [z], ds ++ [_], l') (by first | ((try dsimp only); omega) | (simp [inR] <;> omega)) (by (try dsimp only); exact ⟨hRk, hds.append (.one hφ), hsh.1, by simp; omega, by omega⟩) _ _ _ (by simp [inR] <;> omega) (by simp <;> omega) (by simp <;> omega)
   ·refine ATT.callRP Tryz.func243 60 0 (ihE m (by omega) d _ hd hwf hin2) hin2 (by simp) (by simp) rfl (by simp) (fun a w e h1 hh => hQ _ _ (by rw [← hRk, e]; exact .inr ⟨_, _, rfl, by rw [hh]; simp, rfl⟩)) fun z l' v hz hφ => ?_
    rw [hz] at hRk
    simp only [Res.andThen] at hRk
    obtain ⟨nl1_v, z1_v, nl2_v, z2_v, ds_v, hv_v, ha_v, hb_v, hc_v, hd_v, he_v⟩ := hφ.shape
    have hw_v := hv_v
    subst hw_v
    have hsh := (pres m).elem hwf hz
    have h2l := hsh.2
    simp only [List.length_cons] at h2l hnum
    have hmul : (ds.length + 1) * 88 ≤ 140737488355328 := by omega
    simp [hmul]
    refine ih (m, acc ++ [z], ds ++ [_], l') (by first | ((try dsimp only); omega) | (simp [inR] <;> omega)) (by (try dsimp only); exact ⟨hRk, hds.append (.one hφ), hsh.1, by simp; omega, by omega⟩) _ _ _ (by simp [inR] <;> omega) (by simp <;> omega) (by simp <;> omega)
   ·refine ATT.callRP Tryz.func243 60 0 (ihE m (by omega) d _ hd hwf hin2) hin2 (by simp) (by simp) rfl (by simp) (fun a w e h1 hh => hQ _ _ (by rw [← hRk, e]; exact .inr ⟨_, _, rfl, by rw [hh]; simp, rfl⟩)) fun z l' v hz hφ => ?_
    rw [hz] at hRk
    simp only [Res.andThen] at hRk
    obtain ⟨nl1_v, z1_v, nl2_v, z2_v, ds_v, hv_v, ha_v, hb_v, hc_v, hd_v, he_v⟩ := hφ.shape
    have hw_v := hv_v
    subst hw_v
    have hsh := (pres m).elem hwf hz
    have h2l := hsh.2
    simp only [List.length_cons] at h2l hnum
    have hmul : (ds.length + 1) * 88 ≤ 140737488355328 := by omega
    simp [hmul]
    refine ih (m, acc ++ [z], ds ++ [_], l') (by first | ((try dsimp only); omega) | (simp [inR] <;> omega)) (by (try dsimp only); exact ⟨hRk, hds.append (.one hφ), hsh.1, by simp; omega, by omega⟩) _ _ _ (by simp [inR] <;> omega) (by simp <;> omega) (by simp <;> omega)
   ·refine ATT.callRP Tryz.func243 60 0 (ihE m (by omega) d _ hd hwf hin2) hin2 (by simp) (by simp) rfl (by simp) (fun a w e h1 hh => hQ _ _ (by rw [← hRk, e]; exact .inr ⟨_, _, rfl, by rw [hh]; simp, rfl⟩)) fun z l' v hz hφ => ?_
    rw [hz] at hRk
    simp only [Res.andThen] at hRk
    obtain ⟨nl1_v, z1_v, nl2_v, z2_v, ds_v, hv_v, ha_v, hb_v, hc_v, hd_v, he_v⟩ := hφ.shape
    have hw_v := hv_v
    subst hw_v
    have hsh := (pres m).elem hwf hz
    have h2l := hsh.2
    simp only [List.length_cons] at h2l hnum
    have hmul : (ds.length + 1) * 88 ≤ 140737488355328 := by omega
    simp [hmul]
    refine ih (m, acc ++ [z], ds ++ [_], l') (by first | ((try dsimp only); omega) | (simp [inR] <;> omega)) (by (try dsimp only); exact ⟨hRk, hds.append (.one hφ), hsh.1, by simp; omega, by omega⟩) _ _ _ (by simp [inR] <;> omega) (by simp <;> omega) (by simp <;> omega)
end Go.SL
namespace Go.SL
open Go.Proofs
set_option maxRecDepth 10000
theorem f235_ok (n : Nat) (ihE : ∀ m, m ≤ n → ElemC m) : ListC (n + 1) := by
 intro d l hd hl hkl hin
 obtain ⟨t, r, e⟩ := hl.cons
 subst e
 simp only [listS, pl_cons, List.tail_cons] at hin ⊢
 have hk0 : t.k ≠ 0 := by
  intro h0
  simp only [kd_cons, h0] at hkl
  exact absurd hkl (by decide)
 obtain ⟨t2, l2, e, hl2⟩ := hl.two hk0
 subst e
 refine AF.go Tryz.func235 [] fun tb TB Q hQ => ?_
 simp [TB, tkD, tokD]
 by_cases h40 : d = 40
 ·subst h40
  simp only [if_true] at hQ
  refine ATT.callA Tryz.func235 60 [0, 1, 3] [] 0 0 (f171_no t (t2 :: l2) [.int .i64 4, .str ⟨#[]⟩, .int .i64 t.a, .int .i64 0, .sl true 0 [], .sl true 0 []] 75 243 [.ptr 1 0, .ptr 2 0]) ?_ ?_ ?_ ?_ ?_ fun out hC hE => ?_
  iterate 5 · simp [tkD, tokD]
  obtain ⟨e1, e2⟩ := hE
  subst e1
  exact ⟨by simpa using e2, hQ _ _ ⟨by simp [stopV, eSize], by simp⟩⟩
 ·rw [if_neg h40] at hQ hin
  have hin' : elemsS n (d + 1) [] (t2 :: l2) ≠ .out := fun e => hin (by simp [e, Res.andThen])
  have hcl := f243_ok n ihE (d + 1) (t2 :: l2) (by omega) hl2 hin' (.int .i64 4) (.str ⟨#[]⟩) (.int .i64 t.a) (.int .i64 0) (.sl true 0 [])
  have hW := f171_ok t hk0 (t2 :: l2) [.int .i64 4, .str ⟨#[]⟩, .int .i64 t.a, .int .i64 0, .sl true 0 [], .sl true 0 []] 75 d (by omega) 243 [.ptr 1 0, .ptr 2 0] rfl rfl _ _ hcl
  refine ATT.callA Tryz.func235 60 [0, 1, 3] [] 0 0 (hW) ?_ ?_ ?_ ?_ ?_ fun out hC hE => ?_
  iterate 5 · simp [tkD, tokD]
  rcases hE with ⟨l', nd', b, c, e1, e2, xs, r, nl, z, ds, hx, hl', hnd, hxs, h1, h2⟩ | ⟨a, w, e1, e2, hx⟩
  ·subst e1 e2 hnd
   refine ⟨by simp, ?_⟩
   simp [TB]
   simp only [hx, Res.andThen] at hQ
   subst hl'
   refine ATT.fin2 hQ Tryz.func235 ?_
   exact ⟨by simp, _, _, _, rfl, rfl, NdR.mk (fun _ => rfl) (by simp) h1 h2 hxs⟩
  ·subst e1
   simp only [hx, Res.andThen] at hQ
   exact ⟨by simpa using e2, hQ _ _ ⟨by simp [stopV], by simp⟩⟩
theorem f237_ok {n : Nat} (ih : ExprC n) (d : Nat) (l : List Tk) (hd : d ≤ 40) (hl : WF l) (hin : exprS n d l ≠ .out) (a0 a1 a2 a3 a4 a5 : D) :
  AF Tryz.prog 237 [.ptr 1 0, .ptr 2 0] ⟨[PB l d, PP, .cells [.d a0, .d a1, .d a2, .d a3, .d a4, .d a5] 75], []⟩ fun o h =>
   (∃ l' nd' b c, o = .ret (.d (.tup [])) ∧ h = ⟨PB l' d :: PP :: .cells (nd'.map .d) 75 :: b, c⟩ ∧ ∃ x, ((exprS n d l).andThen fun x r => if kd r = 9 then Res.ok (x, false) r.tail else .no (pl r) eSyn) = .ok (x, false) l' ∧ NdR x (.agg nd')) ∨
   (∃ a w, o = .pan (stopV a w) ∧ 3 ≤ h.bx.length ∧ ((exprS n d l).andThen fun x r => if kd r = 9 then Res.ok (x, false) r.tail else .no (pl r) eSyn) = .no a w) := by
 refine AF.go Tryz.func237 [] fun tb TB Q hQ => ?_
 simp [TB]
 refine ATT.callP Tryz.func237 60 0 (ih d l hd hl hin) hin (by simp) (by simp) rfl rfl (fun a w e h' hh => hQ _ _ (.inr ⟨a, w, rfl, by simp at hh; omega, by rw [e]; rfl⟩)) fun x l' v e hφ => ?_
 have hwf := ((pres n).expr hl e).1
 simp only [e, Res.andThen] at hQ
 obtain ⟨t1, l1, e⟩ := hwf.cons
 subst e
 obtain ⟨nl1_v, z1_v, nl2_v, z2_v, ds_v, hv_v, ha_v, hb_v, hc_v, hd_v, he_v⟩ := hφ.shape
 have hw_v := hv_v
 subst hw_v
 by_cases h9 : t1.k = 9
 ·simp only [kd_cons, eq_true h9, if_true] at hQ
  simp [TB]
  refine ATT.callM Tryz.func237 60 [0] (f68_ok t1 l1 d 9 h9 (by decide)) rfl ?_ ?_ ?_ ?_ ?_ ?_
  iterate 5 · simp
  simp
  refine ATT.fz0 ?_
  simp
  refine ATT.fin02 hQ Tryz.func237 ?_
  exact ⟨by simp, .inl ⟨l1, [.int .i64 x.k, .str x.t, .int .i64 x.a, .int .i64 x.n, .sl nl1_v z1_v (x.names.map .str), .sl nl2_v z2_v ds_v], _, _, rfl, rfl, x, rfl, hφ⟩⟩
 ·simp only [kd_cons, eq_false h9, if_false] at hQ
  simp [TB]
  refine ATT.callA Tryz.func237 60 [0] [] 0 0 (f68_no t1 l1 d 9 h9) ?_ ?_ ?_ ?_ ?_ fun out hC hE => ?_
  iterate 5 · simp
  obtain ⟨e1, e2⟩ := hE
  subst e1
  exact ⟨by simpa using e2, hQ _ _ (.inr ⟨_, _, rfl, by simp, by simp [eSyn, pl]⟩)⟩
theorem f227_ok (n : Nat) (ihE : ExprC n) (ihL : ListC n) (ihB : BlockC n) : PrimC (n + 1) := by
 intro d l hd hl hin
 obtain ⟨t, r, e⟩ := hl.cons
 subst e
 simp only [primS, kd_cons, pl_cons, tx_cons, List.tail_cons] at hin ⊢
 by_cases h1 : t.k = 1
 ·have hT := f69_ok t r d
  rw [if_neg (by rw [h1]; decide)] at hT
  simp only [eq_true h1, if_true] at hin ⊢
  refine AF.go Tryz.func227 [] fun tb TB Q hQ => ?_
  simp [TB, eq_true h1, tkD, tokD]
  refine ATT.callM Tryz.func227 60 [0] (hT) rfl ?_ ?_ ?_ ?_ ?_ ?_
  iterate 5 · simp [tkD, tokD]
  simp [TB, tkD, tokD]
  refine ATT.fin2 hQ Tryz.func227 ?_
  exact ⟨by simp, _, _, _, rfl, rfl, _, rfl, NdR.leaf _ _ _ 0⟩
 by_cases h4 : t.k = 4
 ·have hT := f69_ok t r d
  rw [if_neg (by rw [h4]; decide)] at hT
  simp only [eq_false h1, eq_true h4, if_true, if_false] at hin ⊢
  refine AF.go Tryz.func227 [] fun tb TB Q hQ => ?_
  simp [TB, h1, eq_true h4, tkD, tokD]
  refine ATT.callM Tryz.func227 60 [0] (hT) rfl ?_ ?_ ?_ ?_ ?_ ?_
  iterate 5 · simp [tkD, tokD]
  simp [TB, tkD, tokD]
  refine ATT.fin2 hQ Tryz.func227 ?_
  exact ⟨by simp, _, _, _, rfl, rfl, _, rfl, NdR.leaf _ _ _ 0⟩
 by_cases h5 : t.k = 5
 ·have hT := f69_ok t r d
  rw [if_neg (by rw [h5]; decide)] at hT
  simp only [eq_false h1, eq_false h4, eq_true h5, if_true, if_false] at hin ⊢
  refine AF.go Tryz.func227 [] fun tb TB Q hQ => ?_
  simp [TB, h1, h4, eq_true h5, tkD, tokD]
  refine ATT.callM Tryz.func227 60 [0] (hT) rfl ?_ ?_ ?_ ?_ ?_ ?_
  iterate 5 · simp [tkD, tokD]
  simp [TB, tkD, tokD]
  refine ATT.fin2 hQ Tryz.func227 ?_
  exact ⟨by simp, _, _, _, rfl, rfl, _, rfl, NdR.leaf _ _ _ 0⟩
 by_cases h6 : t.k = 6
 ·have hT := f69_ok t r d
  rw [if_neg (by rw [h6]; decide)] at hT
  simp only [eq_false h1, eq_false h4, eq_false h5, eq_true h6, if_true, if_false] at hin ⊢
  refine AF.go Tryz.func227 [] fun tb TB Q hQ => ?_
  simp [TB, h1, h4, h5, eq_true h6, tkD, tokD]
  refine ATT.callM Tryz.func227 60 [0] (hT) rfl ?_ ?_ ?_ ?_ ?_ ?_
  iterate 5 · simp [tkD, tokD]
  simp [TB, tkD, tokD]
  refine ATT.fin2 hQ Tryz.func227 ?_
  exact ⟨by simp, _, _, _, rfl, rfl, _, rfl, NdR.leaf _ _ _ 0⟩
 by_cases h17 : t.k = 17
 ·simp only [eq_false h1, eq_false h4, eq_false h5, eq_false h6, eq_true h17, if_true, if_false] at hin ⊢
  have hin' : listS n d (t :: r) ≠ .out := fun e => hin (by simp [e, Res.andThen])
  refine AF.go Tryz.func227 [] fun tb TB Q hQ => ?_
  simp [TB, h1, h4, h5, h6, eq_true h17, tkD, tokD]
  refine ATT.callP Tryz.func227 60 0 (ihL d _ hd hl (.inl h17) hin') (hin') (by simp) (by simp) rfl (by simp) (fun a w e h1 hh => hQ _ _ (by rw [e]; exact ⟨rfl, by rw [hh]; simp⟩)) fun x l' v hx hφ => ?_
  rw [hx] at hQ hin
  try simp only [Res.andThen] at hQ hin
  obtain ⟨nl1_v, z1_v, nl2_v, z2_v, ds_v, hv_v, ha_v, hb_v, hc_v, hd_v, he_v⟩ := hφ.shape
  have hw_v := hv_v
  subst hw_v
  simp
  refine ATT.fin2 hQ Tryz.func227 ?_
  exact ⟨by simp, _, _, _, rfl, rfl, _, rfl, hφ⟩
 by_cases h10 : t.k = 10
 ·simp only [eq_false h1, eq_false h4, eq_false h5, eq_false h6, eq_false h17, eq_true h10, if_true, if_false] at hin ⊢
  have hin' : blockS n d (t :: r) ≠ .out := fun e => hin (by simp [e, Res.andThen])
  refine AF.go Tryz.func227 [] fun tb TB Q hQ => ?_
  simp [TB, h1, h4, h5, h6, h17, eq_true h10, tkD, tokD]
  refine ATT.callP Tryz.func227 60 0 (ihB d _ hd hl h10 hin') (hin') (by simp) (by simp) rfl (by simp) (fun a w e h1 hh => hQ _ _ (by rw [e]; exact ⟨rfl, by rw [hh]; simp⟩)) fun x l' v hx hφ => ?_
  rw [hx] at hQ hin
  try simp only [Res.andThen] at hQ hin
  obtain ⟨nl1_v, z1_v, nl2_v, z2_v, ds_v, hv_v, ha_v, hb_v, hc_v, hd_v, he_v⟩ := hφ.shape
  have hw_v := hv_v
  subst hw_v
  simp
  refine ATT.fin2 hQ Tryz.func227 ?_
  exact ⟨by simp, _, _, _, rfl, rfl, _, rfl, hφ⟩
 by_cases h8 : t.k = 8
 ·simp only [eq_false h1, eq_false h4, eq_false h5, eq_false h6, eq_false h17, eq_false h10, eq_true h8, if_true, if_false] at hin ⊢
  obtain ⟨t2, l2, e, hl2⟩ := hl.two (by rw [h8]; decide)
  subst e
  refine AF.go Tryz.func227 [] fun tb TB Q hQ => ?_
  simp [TB, h1, h4, h5, h6, h17, h10, eq_true h8, tkD, tokD]
  by_cases h40 : d = 40
  ·subst h40
   simp only [if_true] at hQ
   refine ATT.callA Tryz.func227 60 [0, 1, 4] [] 0 0 (f171_no t (t2 :: l2) [.int .i64 0, .str t.t, .int .i64 t.a, .int .i64 0, .sl true 0 [], .sl true 0 []] 75 237 [.ptr 1 0, .ptr 2 0]) ?_ ?_ ?_ ?_ ?_ fun out hC hE => ?_
   iterate 5 · simp [tkD, tokD]
   obtain ⟨e1, e2⟩ := hE
   subst e1
   exact ⟨by simpa using e2, hQ _ _ ⟨by simp [stopV, eSize], by simp⟩⟩
  ·rw [if_neg h40] at hQ hin
   have hin' : exprS n (d + 1) (t2 :: l2) ≠ .out := fun e => hin (by simp [e, Res.andThen])
   have hcl := f237_ok ihE (d + 1) (t2 :: l2) (by omega) hl2 hin' (.int .i64 0) (.str t.t) (.int .i64 t.a) (.int .i64 0) (.sl true 0 []) (.sl true 0 [])
   have hW := f171_ok t (by rw [h8]; decide) (t2 :: l2) [.int .i64 0, .str t.t, .int .i64 t.a, .int .i64 0, .sl true 0 [], .sl true 0 []] 75 d (by omega) 237 [.ptr 1 0, .ptr 2 0] rfl rfl _ _ hcl
   refine ATT.callA Tryz.func227 60 [0, 1, 4] [] 0 0 (hW) ?_ ?_ ?_ ?_ ?_ fun out hC hE => ?_
   iterate 5 · simp [tkD, tokD]
   rcases hE with ⟨l', nd', b, c, e1, e2, x, hx, hxv⟩ | ⟨a, w, e1, e2, hx⟩
   ·subst e1 e2
    obtain ⟨nl1, z1, nl2, z2, ds, hv, _⟩ := hxv.shape
    simp only [D.agg.injEq] at hv
    subst hv
    refine ⟨by simp, ?_⟩
    simp [TB]
    simp only [hx] at hQ
    refine ATT.fin2 hQ Tryz.func227 ?_
    exact ⟨by simp, _, _, _, rfl, rfl, _, rfl, hxv⟩
   ·subst e1
    simp only [hx] at hQ
    exact ⟨by simpa using e2, hQ _ _ ⟨by simp [stopV], by simp⟩⟩
 ·simp only [eq_false h1, eq_false h4, eq_false h5, eq_false h6, eq_false h17, eq_false h10, eq_false h8, if_false] at hin ⊢
  refine AF.go Tryz.func227 [] fun tb TB Q hQ => ?_
  simp [TB, h1, h4, h5, h6, h17, h10, h8, tkD, tokD]
  refine ATT.callA Tryz.func227 60 [0] [] 0 0 (f98_ok t r d 20) ?_ ?_ ?_ ?_ ?_ fun out hC hE => ?_
  iterate 5 · simp [tkD, tokD]
  obtain ⟨e1, e2⟩ := hE
  subst e1
  exact ⟨by simpa using e2, hQ _ _ ⟨by simp [stopV, eSyn], by simp⟩⟩
end Go.SL
