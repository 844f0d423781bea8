/- KernelNames and KernelMethods (lapidarylaw14): of any oop and any text, which class it is, what is above it, its sources and natives are what the document says, and all sources of a class are methods, no two with the same selector. For inputs of bulk at most 1048576; the listed library tables and the table of names read as they are laid. -/
import Derived.Test.YthjflehiokjiaaaGreatDoorKer3
import Derived.Shelf.SlSortCmp.InsertionK
import Derived.Sort.Statements
import Derived.Shelf.SlGeneric
import Derived.Shelf.SlSortCmp.WholeK
import Derived.Test.YthjflehiokjiaaaGreatDoorChecked
import Derived.Test.YthjflehiokjiaaaGreatDoorCards
import Derived.Test.YthjflehiokjiaaaGreatDoorTie
import Derived.ProofKit
import Derived.OpenShut
import Derived.LaidMore
import Derived.Lay
import Derived.MakeChecks
import Derived.Deep.DeepHandedRow
namespace Go.SL
def szC (c : CM) : Nat := c.us.length + (c.us.map fun x => x.ins.length).sum + c.lits.length + c.names.length + c.sels.length
theorem once_len (l : List ByteArray) (t : ByteArray) : l.length ≤ (onceS l t).1.length ∧ (onceS l t).1.length ≤ l.length + 1 := by
 unfold onceS
 split <;> simp
theorem modify_sum (x : Nat × Nat × Nat) : ∀ (l : List CU) (u : Nat), ((l.modify u (addU x)).map fun x => x.ins.length).sum ≤ (l.map fun x => x.ins.length).sum + 1
 | [], u => by simp
 | y :: r, 0 => by simp [addU]; omega
 | y :: r, u + 1 => by
  have := modify_sum x r u
  simp only [List.modify_succ_cons, List.map_cons, List.sum_cons] at this ⊢
  omega
def Gr (n : Nat) (c c' : CM) : Prop := c.us.length ≤ c'.us.length ∧ szC c' ≤ szC c + n
theorem Gr.refl (c : CM) : Gr 0 c c := ⟨Nat.le_refl _, Nat.le_refl _⟩
theorem Gr.trans {n m : Nat} {a b c : CM} (h : Gr n a b) (g : Gr m b c) : Gr (n + m) a c := ⟨Nat.le_trans h.1 g.1, by have := h.2; have := g.2; omega⟩
theorem Gr.up {n m : Nat} {a b : CM} (h : Gr n a b) (k : n ≤ m) : Gr m a b := ⟨h.1, by have := h.2; omega⟩
theorem addS_gr (u : Nat) (x : Nat × Nat × Nat) (c : CM) : Gr 1 c (addS u x c) := by
 refine ⟨by simp [addS], ?_⟩
 have := modify_sum x c.us u
 simp only [szC, addS, List.length_modify] at this ⊢
 omega
theorem litS_gr (u : Nat) (t : ByteArray) (c : CM) : Gr 2 c (litS u t c) := by
 have h := once_len c.lits t
 have g : Gr 1 c { c with lits := (onceS c.lits t).1 } := ⟨Nat.le_refl _, by simp only [szC]; omega⟩
 exact g.trans (addS_gr _ _ _)
theorem useS_gr (u : Nat) (x : Us) (c : CM) : Gr 2 c (useS u x c) := by
 unfold useS
 split
 ·exact (addS_gr _ _ _).up (by decide)
 split
 ·exact (addS_gr _ _ _).up (by decide)
 split
 ·exact (addS_gr _ _ _).up (by decide)
 split
 ·have h := once_len c.names x.t
  have g : Gr 1 c { c with names := (onceS c.names x.t).1 } := ⟨Nat.le_refl _, by simp only [szC]; omega⟩
  exact g.trans (addS_gr _ _ _)
 ·exact (addS_gr _ _ _).up (by decide)
theorem setS_gr (u : Nat) (x : Us) (c : CM) : Gr 1 c (setS u x c) := by
 unfold setS
 split <;> exact addS_gr _ _ _
theorem sendC_gr (u : Nat) (s : Bool) (t : ByteArray) (n : Nat) (c : CM) : Gr 2 c (sendC u s t n c) := by
 have h := once_len c.sels t
 have g : Gr 1 c { c with sels := (onceS c.sels t).1 } := ⟨Nat.le_refl _, by simp only [szC]; omega⟩
 exact g.trans (addS_gr _ _ _)
theorem newU_gr (a n : Nat) (c : CM) : Gr 1 c (newU a n c) := ⟨by simp [newU], by simp [szC, newU]; omega⟩
theorem endS_gr (u : Nat) (m : Bool) (k : Nat) (c : CM) : Gr 3 c (endS u m k c) := by
 unfold endS
 split
 ·split
  ·exact ((addS_gr _ _ _).trans (addS_gr _ _ _)).up (by decide)
  ·exact ((addS_gr _ _ _).trans ((addS_gr _ _ _).trans (addS_gr _ _ _))).up (by decide)
 ·split
  ·exact ((addS_gr _ _ _).trans (addS_gr _ _ _)).up (by decide)
  ·exact (addS_gr _ _ _).up (by decide)
theorem doneU_gr (u : Nat) (m : Bool) (k : Nat) (s : MS × Bool) : Gr 3 s.1.1 (doneU u m k s) := by
 unfold doneU
 split
 ·exact (Gr.refl _).up (by decide)
 ·exact endS_gr _ _ _ _
theorem pop_gr (u i : Nat) (c : CM) : Gr 1 c (if i = 0 then c else addS u (12, 0, 0) c) := by
 split
 ·exact (Gr.refl _).up (by decide)
 ·exact addS_gr _ _ _
section
variable {lt : Nd → ByteArray}
mutual
theorem mkP_gr {u : Nat} : ∀ {x : Nd} {s s' : MS}, mkP lt u x s = some s' → Gr (8 * nds x - 2) s.1 s'.1
 | .mk k t a n names kids, (c, us), s', h => by
  simp only [mkP] at h
  simp only [nds]
  split at h
  ·simp only [Option.some.injEq] at h; rw [← h]; exact (litS_gr _ _ _).up (by omega)
  split at h
  ·split at h
   ·simp at h
   ·simp only [Option.some.injEq] at h; rw [← h]; exact (useS_gr _ _ _).up (by omega)
  split at h
  ·split at h
   ·simp at h
   ·cases hk : mkH lt u kids (c, ‹List Us›) with
    | none => rw [hk] at h; simp at h
    | some s2 =>
     rw [hk] at h
     simp only [Option.map_some, Option.some.injEq] at h
     rw [← h]; exact ((mkH_gr hk).trans (setS_gr _ _ _)).up (by omega)
  split at h
  ·cases hk : mkL lt u kids (c, us) with
   | none => rw [hk] at h; simp at h
   | some s2 =>
    rw [hk] at h
    simp only [Option.map_some, Option.some.injEq] at h
    rw [← h]; exact ((mkL_gr hk).trans (sendC_gr _ _ _ _ _)).up (by omega)
  split at h
  ·exact (mkC_gr h).up (by omega)
  split at h
  ·cases hk : mkS lt c.us.length 0 kids (newU n names.length (addS u (10, c.us.length, 0) c), us) with
   | none => rw [hk] at h; simp at h
   | some s2 =>
    rw [hk] at h
    simp only [Option.map_some, Option.some.injEq] at h
    rw [← h]
    exact (((addS_gr _ _ _).trans (newU_gr _ _ _)).trans ((mkS_gr hk).trans (doneU_gr _ _ _ _))).up (by omega)
  ·simp only [Option.some.injEq] at h; rw [← h]; exact (Gr.refl _).up (by omega)
theorem mkH_gr {u : Nat} : ∀ {l : List Nd} {s s' : MS}, mkH lt u l s = some s' → Gr (8 * ndL l) s.1 s'.1
 | [], s, s', h => by simp [mkH] at h
 | x :: r, s, s', h => by
  simp only [mkH] at h
  simp only [ndL]
  exact (mkP_gr h).up (by omega)
theorem mkL_gr {u : Nat} : ∀ {l : List Nd} {s s' : MS}, mkL lt u l s = some s' → Gr (8 * ndL l) s.1 s'.1
 | [], s, s', h => by simp only [mkL, Option.some.injEq] at h; rw [← h]; exact Gr.refl _
 | x :: r, s, s', h => by
  simp only [mkL] at h
  simp only [ndL]
  cases hk : mkP lt u x s with
  | none => rw [hk] at h; simp at h
  | some s2 =>
   rw [hk] at h
   exact ((mkP_gr hk).trans (mkL_gr (s := s2) h)).up (by omega)
theorem mkC_gr {u : Nat} {sp : Bool} : ∀ {l : List Nd} {s s' : MS}, mkC lt u sp l s = some s' → Gr (8 * ndL l) s.1 s'.1
 | [], s, s', h => by simp [mkC] at h
 | x :: r, s, s', h => by
  simp only [mkC] at h
  simp only [ndL]
  cases hk : mkP lt u x s with
  | none => rw [hk] at h; simp at h
  | some s2 =>
   rw [hk] at h
   exact ((mkP_gr hk).trans (mkD_gr (s := s2) h)).up (by omega)
theorem mkD_gr {u : Nat} {sp : Bool} : ∀ {l : List Nd} {s s' : MS}, mkD lt u sp l s = some s' → Gr (8 * ndL l) s.1 s'.1
 | [], s, s', h => by simp [mkD] at h
 | [m], s, s', h => by
  simp only [mkD] at h
  simp only [ndL]
  exact (mkM_gr h).up (by have := m.count; omega)
 | m :: y :: r, s, s', h => by
  simp only [mkD] at h
  rw [ndL]
  cases hk : mkM lt u sp m (addS u (11, 0, 0) s.1, s.2) with
  | none => rw [hk] at h; simp at h
  | some s2 =>
   rw [hk] at h
   have h1 := (addS_gr u (11, 0, 0) s.1).trans (mkM_gr hk)
   have h2 := (addS_gr u (12, 0, 0) s2.1).trans (mkD_gr (l := y :: r) h)
   exact (h1.trans h2).up (by have := m.count; omega)
theorem mkM_gr {u : Nat} {sp : Bool} : ∀ {m : Nd} {s s' : MS}, mkM lt u sp m s = some s' → Gr (8 * nds m - 6) s.1 s'.1
 | .mk k t a n names kids, s, s', h => by
  simp only [mkM] at h
  simp only [nds]
  cases hk : mkL lt u kids s with
  | none => rw [hk] at h; simp at h
  | some s2 =>
   rw [hk] at h
   simp only [Option.map_some, Option.some.injEq] at h
   rw [← h]; exact ((mkL_gr hk).trans (sendC_gr _ _ _ _ _)).up (by omega)
theorem mkS_gr {u : Nat} : ∀ {l : List Nd} {i : Nat} {s : MS} {s' : MS × Bool}, mkS lt u i l s = some s' → Gr (8 * ndL l) s.1 s'.1.1
 | [], i, s, s', h => by simp only [mkS, Option.some.injEq] at h; rw [← h]; exact Gr.refl _
 | .mk k t a n names kids :: r, i, s, s', h => by
  simp only [mkS] at h
  simp only [ndL]
  split at h
  ·cases hk : mkH lt u kids (if i = 0 then s.1 else addS u (12, 0, 0) s.1, s.2) with
   | none => rw [hk] at h; simp at h
   | some s2 =>
    rw [hk] at h
    simp only [Option.map_some, Option.some.injEq] at h
    rw [← h]
    have h1 := (pop_gr u i s.1).trans (mkH_gr hk)
    simp only [nds]
    exact (h1.trans (addS_gr _ _ _)).up (by omega)
  ·cases hk : mkP lt u (.mk k t a n names kids) (if i = 0 then s.1 else addS u (12, 0, 0) s.1, s.2) with
   | none => rw [hk] at h; simp at h
   | some s2 =>
    rw [hk] at h
    have h1 := (pop_gr u i s.1).trans (mkP_gr hk)
    exact (h1.trans (mkS_gr (s := s2) h)).up (by simp only [nds]; omega)
end
end
end Go.SL
namespace Go.SL
open Go.Proofs
set_option maxRecDepth 10000
def InsOK (us : List CU) (js : List Nat) (cs : List (Option Vec)) : Prop :=
 js.length = us.length ∧ (∀ (u : Nat) (x : CU) (j : Nat), us[u]? = some x → js[u]? = some j → x.ins ≠ [] → cs[j]? = some (IR x.ins)) ∧
 (∀ (u v : Nat) (x y : CU) (j : Nat), us[u]? = some x → us[v]? = some y → js[u]? = some j → js[v]? = some j → x.ins ≠ [] → y.ins ≠ [] → u = v)
abbrev MK (sel : ByteArray) (c : CM) (uz : D) (js : List Nat) (bs : List Bx) (cs : List (Option Vec)) : H :=
 ⟨MB sel c.us.length c.lits.length c.names.length c.sels.length uz :: bs, UV c.us.isEmpty (List.zipWith uv c.us js) :: NS c.lits :: NS c.names :: NS c.sels :: cs⟩
def MkP (sel : ByteArray) (c : CM) (uz : D) (bs : List Bx) (o : Out) (h : H) : Prop := o = .ret (.d (.tup [])) ∧ ∃ js b cs, h = MK sel c uz js (bs ++ b) cs ∧ InsOK c.us js cs
theorem szC_at {c : CM} {u : Nat} {x : CU} (h : c.us[u]? = some x) : x.ins.length ≤ szC c := by
 have : ∀ (l : List CU) (u : Nat), l[u]? = some x → x.ins.length ≤ (l.map fun x => x.ins.length).sum := by
  intro l
  induction l with
  | nil => intro u h; simp at h
  | cons y r ih =>
   intro u h
   cases u with
   | zero => simp at h; subst h; simp
   | succ u => have := ih u (by simpa using h); simp; omega
 have := this c.us u h
 unfold szC; omega
theorem modify_at {α : Type} {l : List α} {u : Nat} {x : α} (f : α → α) (h : l[u]? = some x) : l.modify u f = l.set u (f x) := by
 apply List.ext_getElem?
 intro i
 rw [List.getElem?_modify, List.getElem?_set]
 by_cases e : u = i
 ·subst e
  have hl := (List.getElem?_eq_some_iff.1 h).1
  have hv := (List.getElem?_eq_some_iff.1 h).2
  simp [hl, hv]
 ·simp [e]
theorem zip_set {α β γ : Type} (f : α → β → γ) (l : List α) (m : List β) (u : Nat) (a : α) (b : β) : (List.zipWith f l m).set u (f a b) = List.zipWith f (l.set u a) (m.set u b) := by
 apply List.ext_getElem?
 intro i
 by_cases e : u = i
 ·subst e
  simp only [List.getElem?_set, List.getElem?_zipWith, List.length_zipWith]
  by_cases h1 : u < l.length <;> by_cases h2 : u < m.length <;> simp [h1, h2] <;> omega
 ·simp only [List.getElem?_set, List.getElem?_zipWith, if_neg e]
theorem set_same {α : Type} {l : List α} {u : Nat} {a : α} (h : l[u]? = some a) : l.set u a = l := by
 apply List.ext_getElem?
 intro i
 by_cases e : u = i
 ·subst e
  rw [List.getElem?_set_self (List.getElem?_eq_some_iff.1 h).1, h]
 ·rw [List.getElem?_set_ne e]
theorem zip_at {α β γ : Type} {f : α → β → γ} {l : List α} {m : List β} {u : Nat} {a : α} {b : β} (h : l[u]? = some a) (g : m[u]? = some b) : (List.zipWith f l m)[u]? = some (f a b) := by
 simp [List.getElem?_zipWith, h, g]
theorem isEmpty_set {α : Type} (l : List α) (u : Nat) (a : α) : (l.set u a).isEmpty = l.isEmpty := by cases l <;> cases u <;> rfl
theorem add_ok (sel : ByteArray) (c : CM) (uz : D) (js : List Nat) (bs : List Bx) (cs : List (Option Vec)) (hI : InsOK c.us js cs) (u : Nat) (hu : u < c.us.length) (hz : szC c ≤ 100000000) (op a b : Nat) :
  AF Tryz.prog 73 [.ptr 0 0, .d (.int .i64 u), .d (.int .i64 op), .d (.int .i64 a), .d (.int .i64 b)] (MK sel c uz js bs cs) (MkP sel (addS u (op, a, b) c) uz bs) := by
 obtain ⟨i1, i2, i3⟩ := hI
 obtain ⟨x, hx⟩ : ∃ x, c.us[u]? = some x := ⟨_, List.getElem?_eq_getElem hu⟩
 obtain ⟨j, hj⟩ : ∃ j, js[u]? = some j := ⟨_, List.getElem?_eq_getElem (by omega)⟩
 have hlen : (List.zipWith uv c.us js).length = c.us.length := by simp; omega
 have hnu : c.us.length ≤ 100000000 := by unfold szC at hz; omega
 have hm : (addS u (op, a, b) c).us = c.us.set u (addU (op, a, b) x) := modify_at _ hx
 have key : ∀ (v : Nat) (y : CU), (c.us.set u (addU (op, a, b) x))[v]? = some y → (v = u ∧ y = addU (op, a, b) x) ∨ (v ≠ u ∧ c.us[v]? = some y) := fun v y h => by
  by_cases e : v = u
  ·subst e
   rw [List.getElem?_set_self hu] at h
   simp only [Option.some.injEq] at h
   exact .inl ⟨rfl, h.symm⟩
  ·rw [List.getElem?_set_ne (fun q => e q.symm)] at h
   exact .inr ⟨e, h⟩
 by_cases h0 : x.ins = []
 ·refine (f73_new sel _ _ _ _ uz bs c.us.isEmpty _ hlen u x j (zip_at hx hj) h0 hnu op a b _ _ _ cs).mono fun o h ⟨bb, g, e1, e2⟩ => ⟨e1, js.set u (cs.length + 1), bb, cs ++ [g, IR (x.ins ++ [(op, a, b)])], ?_, ?_⟩
  ·rw [e2, zip_set, MK, hm, List.length_set, isEmpty_set]; rfl
  ·rw [hm]
   refine ⟨by simp [i1], fun v y k h1 h2 h3 => ?_, fun v w y z k h1 h2 h3 h4 h5 h6 => ?_⟩
   ·rcases key v y h1 with ⟨q1, q2⟩ | ⟨q1, q2⟩
    ·subst q1 q2
     rw [List.getElem?_set_self (by omega)] at h2
     simp only [Option.some.injEq] at h2
     subst h2
     rw [List.getElem?_append_right (by omega)]
     simp [addU]
    ·rw [List.getElem?_set_ne (fun e => q1 e.symm)] at h2
     exact get_more (i2 v y k q2 h2 h3) _
   ·rcases key v y h1 with ⟨q1, q2⟩ | ⟨q1, q2⟩ <;> rcases key w z h2 with ⟨p1, p2⟩ | ⟨p1, p2⟩
    ·omega
    ·subst q1 q2
     rw [List.getElem?_set_self (by omega)] at h3
     rw [List.getElem?_set_ne (fun e => p1 e.symm)] at h4
     simp only [Option.some.injEq] at h3
     have := (List.getElem?_eq_some_iff.1 (i2 w z k p2 h4 h6)).1
     omega
    ·subst p1 p2
     rw [List.getElem?_set_self (by omega)] at h4
     rw [List.getElem?_set_ne (fun e => q1 e.symm)] at h3
     simp only [Option.some.injEq] at h4
     have := (List.getElem?_eq_some_iff.1 (i2 v y k q2 h3 h5)).1
     omega
    ·rw [List.getElem?_set_ne (fun e => q1 e.symm)] at h3
     rw [List.getElem?_set_ne (fun e => p1 e.symm)] at h4
     exact i3 v w y z k q2 p2 h3 h4 h5 h6
 ·have hcj := i2 u x j hx hj h0
  refine (f73_more sel _ _ _ _ uz bs c.us.isEmpty _ hlen u x j (zip_at hx hj) h0 hnu (Nat.le_trans (szC_at hx) hz) op a b _ _ _ cs hcj).mono fun o h ⟨bb, g, e1, e2⟩ => ⟨e1, js, bb, cs.set j (IR (x.ins ++ [(op, a, b)])) ++ [g], ?_, ?_⟩
  ·rw [e2, zip_set, set_same hj, MK, hm, List.length_set, isEmpty_set]; rfl
  ·have hjl := (List.getElem?_eq_some_iff.1 hcj).1
   rw [hm]
   refine ⟨by simp [i1], fun v y k h1 h2 h3 => ?_, fun v w y z k h1 h2 h3 h4 h5 h6 => ?_⟩
   ·rcases key v y h1 with ⟨q1, q2⟩ | ⟨q1, q2⟩
    ·subst q1 q2
     rw [hj] at h2
     simp only [Option.some.injEq] at h2
     subst h2
     refine get_more ?_ _
     rw [List.getElem?_set_self hjl]; rfl
    ·refine get_more ?_ _
     rw [List.getElem?_set_ne (fun e => q1 (by subst e; exact i3 v u y x j q2 hx h2 hj h3 h0))]
     exact i2 v y k q2 h2 h3
   ·rcases key v y h1 with ⟨q1, q2⟩ | ⟨q1, q2⟩ <;> rcases key w z h2 with ⟨p1, p2⟩ | ⟨p1, p2⟩
    ·omega
    ·subst q1
     exact i3 v w x z k hx p2 h3 h4 h0 h6
    ·subst p1
     exact i3 v w y x k q2 hx h3 h4 h5 h0
    ·exact i3 v w y z k q2 p2 h3 h4 h5 h6
theorem InsOK.more {us : List CU} {js : List Nat} {cs : List (Option Vec)} (h : InsOK us js cs) (c : List (Option Vec)) : InsOK us js (cs ++ c) :=
 ⟨h.1, fun u x j h1 h2 h3 => get_more (h.2.1 u x j h1 h2 h3) c, h.2.2⟩
theorem f104_ok (sel : ByteArray) (c : CM) (y : Us) (r : List Us) (js : List Nat) (bs : List Bx) (cs : List (Option Vec)) (hI : InsOK c.us js cs) (u : Nat) (hu : u < c.us.length) (hz : szC c ≤ 999990) :
  AF Tryz.prog 104 [.ptr 0 0, .d (.int .i64 u)] (MK sel c (.sl false 6 (usD y :: r.map usD)) js bs cs) (MkP sel (useS u y c) (.sl false 6 (r.map usD)) bs) := by
 have hU := fun bs vc => f105_ok sel c.us.length c.lits.length c.names.length c.sels.length y r bs vc
 obtain ⟨a0, t0, k0, d0, i0, w0⟩ := y
 refine AF.go Tryz.func104 [(10, [oD 10 [(8, [0, 1])]])] fun tb TB Q hQ => ?_
 simp [TB]
 refine ATT.callT Tryz.func104 60 (hU _ _) ?_ ?_ ?_ fun out hC hE => ?_
 iterate 3 · simp
 obtain ⟨b, e1, e2⟩ := hE
 simp only [usD] at e1
 subst e1 e2
 by_cases h2 : k0 = 2
 ·subst h2
  have e : useS u ⟨a0, t0, 2, d0, i0, w0⟩ c = addS u (7, i0, 0) c := rfl
  rw [e] at hQ
  simp [TB]
  refine ATT.callT Tryz.func104 60 (add_ok sel c _ js _ cs hI u hu (by omega) 7 i0 0) ?_ ?_ ?_ fun out hC hE => ?_
  iterate 3 · simp
  obtain ⟨e1, js', b', cs', e2, hI'⟩ := hE
  subst e1 e2
  simp
  refine ATT.fin02 hQ Tryz.func104 ?_
  exact ⟨by simp, rfl, js', _, cs', rfl, hI'⟩
 by_cases h3 : k0 = 3
 ·subst h3
  have e : useS u ⟨a0, t0, 3, d0, i0, w0⟩ c = addS u (1, d0, i0) c := rfl
  rw [e] at hQ
  simp [TB]
  refine ATT.callT Tryz.func104 60 (add_ok sel c _ js _ cs hI u hu (by omega) 1 d0 i0) ?_ ?_ ?_ fun out hC hE => ?_
  iterate 3 · simp
  obtain ⟨e1, js', b', cs', e2, hI'⟩ := hE
  subst e1 e2
  simp
  refine ATT.fin02 hQ Tryz.func104 ?_
  exact ⟨by simp, rfl, js', _, cs', rfl, hI'⟩
 by_cases h4 : k0 = 4
 ·subst h4
  have e : useS u ⟨a0, t0, 4, d0, i0, w0⟩ c = addS u (3, i0, 0) c := rfl
  rw [e] at hQ
  simp [TB]
  refine ATT.callT Tryz.func104 60 (add_ok sel c _ js _ cs hI u hu (by omega) 3 i0 0) ?_ ?_ ?_ fun out hC hE => ?_
  iterate 3 · simp
  obtain ⟨e1, js', b', cs', e2, hI'⟩ := hE
  subst e1 e2
  simp
  refine ATT.fin02 hQ Tryz.func104 ?_
  exact ⟨by simp, rfl, js', _, cs', rfl, hI'⟩
 by_cases h5 : k0 = 5
 ·subst h5
  have e : useS u ⟨a0, t0, 5, d0, i0, w0⟩ c = addS u (5, (onceS c.names t0).2, 0) { c with names := (onceS c.names t0).1 } := rfl
  have hl := once_len c.names t0
  have hn : c.names.length ≤ szC c := by unfold szC; omega
  rw [e] at hQ
  simp [TB]
  refine ATT.callRT Tryz.func104 60 (f102_names sel c.us.length c.lits.length c.sels.length _ c.names (by omega) t0 _ _ _ _ cs) ?_ ?_ ?_ fun out hC hE => ?_
  iterate 3 · simp
  obtain ⟨b2, c2, e1, e2⟩ := hE
  subst e1 e2
  simp
  refine ATT.callRT Tryz.func104 60 (add_ok sel { c with names := (onceS c.names t0).1 } _ js _ (cs ++ c2) (hI.more c2) u hu (by unfold szC at hz ⊢; simp only; omega) 5 (onceS c.names t0).2 0) ?_ ?_ ?_ fun out hC hE => ?_
  iterate 3 · simp
  obtain ⟨e1, js', b', cs', e2, hI'⟩ := hE
  subst e1 e2
  simp
  refine ATT.fin02 hQ Tryz.func104 ?_
  exact ⟨by simp, rfl, js', _, cs', rfl, hI'⟩
 ·have e : useS u ⟨a0, t0, k0, d0, i0, w0⟩ c = addS u (6, 0, 0) c := by unfold useS; rw [if_neg h2, if_neg h3, if_neg h4, if_neg h5]
  rw [e] at hQ
  simp [TB, h2, h3, h4, h5]
  refine ATT.callT Tryz.func104 60 (add_ok sel c _ js _ cs hI u hu (by omega) 6 0 0) ?_ ?_ ?_ fun out hC hE => ?_
  iterate 3 · simp
  obtain ⟨e1, js', b', cs', e2, hI'⟩ := hE
  subst e1 e2
  simp
  refine ATT.fin02 hQ Tryz.func104 ?_
  exact ⟨by simp, rfl, js', _, cs', rfl, hI'⟩
end Go.SL
namespace Go.SL
open Go.Proofs
set_option maxRecDepth 10000
abbrev uzD (nl : Bool) (us : List Us) : D := .sl nl 6 (us.map usD)
def MkQ (sel : ByteArray) (s : MS) (bs : List Bx) (o : Out) (h : H) : Prop := ∃ nl, MkP sel s.1 (uzD nl s.2) bs o h ∧ (nl = true → s.2 = [])
def PartM (x : Nd) : Prop := ∀ (sel : ByteArray) (c : CM) (us : List Us) (nl : Bool) (js : List Nat) (bs : List Bx) (cs : List (Option Vec)) (un : Nat) (s' : MS) (ud : D), InsOK c.us js cs → un < c.us.length → szC c + 8 * nds x ≤ 999980 → (nl = true → us = []) →
 mkP litB un x (c, us) = some s' → NdR x ud → AF Tryz.prog 74 [.ptr 0 0, .d (.int .i64 un), .d ud] (MK sel c (uzD nl us) js bs cs) (MkQ sel s' bs)
set_option maxHeartbeats 1000000 in
theorem f106_ok (args : List Nd) (hk : ∀ y ∈ args, PartM y) (hn : args.length ≤ 10000) (sel : ByteArray) (c : CM) (us : List Us) (nl : Bool) (js : List Nat) (bs : List Bx) (cs : List (Option Vec)) (un : Nat) (s' : MS) (x : Nd) (xd : D) (t : ByteArray) (anl : Bool) (az : Nat) (ads : List D)
  (hI : InsOK c.us js cs) (hu : un < c.us.length) (hz : szC c + 8 * ndL args ≤ 999970) (hnl : nl = true → us = []) (hm : mkL litB un args (c, us) = some s') (hx : NdR x xd) (h3 : anl = true → args = []) (h4 : anl = false → az = 6) (h5 : NdRL args ads) :
  AF Tryz.prog 106 [.ptr 0 0, .d (.int .i64 un), .d xd, .d (.str t), .d (.sl anl az ads)] (MK sel c (uzD nl us) js bs cs) (MkQ sel (sendC un (supS x) t args.length s'.1, s'.2) bs) := by
 obtain ⟨nl1_x, z1_x, nl2_x, z2_x, ds_x, hv_x, ha_x, hb_x, hc_x, hd_x, he_x⟩ := hx.shape
 subst hv_x
 have hdl := h5.length
 refine AF.go Tryz.func106 [] fun tb TB Q hQ => ?_
 simp [TB, hdl]
 refine ATT.loopG 60 rfl (fun ((i, c1, us1, nl1, js1, cs1) : Nat × CM × List Us × Bool × List Nat × List (Option Vec)) => args.length - i) (fun ((i, c1, us1, nl1, js1, cs1) : Nat × CM × List Us × Bool × List Nat × List (Option Vec)) => i ≤ args.length ∧ mkL litB un (args.drop i) (c1, us1) = some s' ∧ szC c1 + 8 * ndL (args.drop i) ≤ 999970 ∧ InsOK c1.us js1 cs1 ∧ un < c1.us.length ∧ (nl1 = true → us1 = [])) (fun ((i, c1, us1, nl1, js1, cs1) : Nat × CM × List Us × Bool × List Nat × List (Option Vec)) => [(0, .ptr 0 0), (1, .d (.int .i64 un)), (3, .d (.str t)), (4, .d (.sl anl az ads)), (7, .ptr (bs.length + 1) 0), (13, .d (.sl anl az ads)), (14, .d (.int .i64 args.length)), (15, .d (.int .i64 i))]) (fun ((i, c1, us1, nl1, js1, cs1) : Nat × CM × List Us × Bool × List Nat × List (Option Vec)) => MB sel c1.us.length c1.lits.length c1.names.length c1.sels.length (uzD nl1 us1) :: (bs ++ [.cells [.d (.int .i64 x.k), .d (.str x.t), .d (.int .i64 x.a), .d (.int .i64 x.n), .d (.sl nl1_x z1_x (x.names.map .str)), .d (.sl nl2_x z2_x ds_x)] 75])) (fun ((i, c1, us1, nl1, js1, cs1) : Nat × CM × List Us × Bool × List Nat × List (Option Vec)) => UV c1.us.isEmpty (List.zipWith uv c1.us js1) :: NS c1.lits :: NS c1.names :: NS c1.sels :: cs1) ((0, c, us, nl, js, cs)) (by (try dsimp only); exact ⟨Nat.zero_le _, hm, hz, hI, hu, hnl⟩) (by simp <;> omega) (by simp) (by simp) ?_
 intro ⟨i, c1, us1, nl1, js1, cs1⟩ u w hI ih
 try simp only at hI ih
 obtain ⟨k1, k2, k3, k4, k5, k6⟩ := hI
 by_cases hi : i < args.length
 ·have hnl2 : anl = false := by cases anl with | false => rfl | true => (have := h3 rfl; rw [this] at hi; simp at hi)
  subst hnl2
  have := h4 rfl
  subst this
  obtain ⟨y, hy⟩ : ∃ y, args[i]? = some y := ⟨_, List.getElem?_eq_getElem hi⟩
  obtain ⟨d, hd, hyd⟩ := h5.at hy
  have hdE : ∀ h, ads[i]'h = d := fun h => by rw [List.getElem?_eq_getElem h] at hd; simpa using hd
  have hi' : (i : Int) < args.length := by omega
  have hII : inI ((i : Int) + 1) = true := inI_of (by omega) (by omega)
  rw [nd_drop hy] at k2 k3
  simp only [mkL] at k2
  simp only [ndL] at k3
  cases hp : mkP litB un y (c1, us1) with
  | none => rw [hp] at k2; simp at k2
  | some s2 =>
   rw [hp] at k2
   have hgr := mkP_gr hp
   have hcall := hk y (List.mem_of_getElem? hy) sel c1 us1 nl1 js1
   have hyd' := hyd
   obtain ⟨nl1_d, z1_d, nl2_d, z2_d, ds_d, hv_d, ha_d, hb_d, hc_d, hd_d, he_d⟩ := hyd.shape
   have hw_d := hv_d
   subst hw_d
   simp [TB, hdl, hi, hi', hdE]
   refine ATT.callT Tryz.func106 60 (hcall _ (cs1 ++ w) un s2 _ (k4.more w) k5 (by omega) k6 hp hyd') ?_ ?_ ?_ fun out hC hE => ?_
   iterate 3 · simp
   obtain ⟨nl', ⟨e1, js', b', cs', e2, hI'⟩, hn'⟩ := hE
   subst e1 e2
   simp [TB, hII]
   refine ih (i + 1, s2.1, s2.2, nl', js', cs') (by first | ((try dsimp only); omega) | (simp [hdl, hi, hi', hd, hdE, hII] <;> omega)) (by (try dsimp only); exact ⟨hi, k2, by have := hgr.2; simp only at this; omega, hI', Nat.lt_of_lt_of_le k5 hgr.1, hn'⟩) _ _ _ (by simp <;> omega) (by simp <;> omega) (by simp <;> omega)
 ·have hi' : ¬ (i : Int) < args.length := by omega
  rw [List.drop_eq_nil_of_le (by omega)] at k2
  simp only [mkL, Option.some.injEq] at k2
  subst k2
  by_cases x5 : x.k = 5
  ·by_cases xt : x.t = ⟨#[115, 117, 112, 101, 114]⟩
   ·have e : supS x = true := by unfold supS superT; rw [decide_eq_true x5, decide_eq_true xt]; rfl
    simp only [e, sendC, if_true] at hQ
    simp [TB, hi', eq_true x5, eq_true xt]
    refine ATT.callT Tryz.func106 60 (f102_sels sel c1.us.length c1.lits.length c1.names.length _ c1.sels (by unfold szC at k3; omega) t _ _ _ _ (cs1 ++ w)) ?_ ?_ ?_ fun out hC hE => ?_
    iterate 3 · simp
    obtain ⟨b2, c2, e1, e2⟩ := hE
    subst e1 e2
    simp [hdl]
    refine ATT.callT Tryz.func106 60 (add_ok sel { c1 with sels := (onceS c1.sels t).1 } (uzD nl1 us1) js1 _ (cs1 ++ (w ++ c2)) (k4.more (w ++ c2)) un k5 (by have := once_len c1.sels t; unfold szC at k3 ⊢; simp only; omega) 9 (onceS c1.sels t).2 args.length) ?_ ?_ ?_ fun out hC hE => ?_
    iterate 3 · simp
    obtain ⟨e1, js', b', cs', e2, hI'⟩ := hE
    subst e1 e2
    simp
    refine ATT.fin02 hQ Tryz.func106 ?_
    exact ⟨by simp, nl1, ⟨rfl, js', _, cs', rfl, hI'⟩, k6⟩
   ·have e : supS x = false := by unfold supS superT; rw [decide_eq_false xt]; simp
    simp only [e, sendC, Bool.false_eq_true, if_false] at hQ
    simp [TB, hi', eq_true x5, xt]
    refine ATT.callT Tryz.func106 60 (f102_sels sel c1.us.length c1.lits.length c1.names.length _ c1.sels (by unfold szC at k3; omega) t _ _ _ _ (cs1 ++ w)) ?_ ?_ ?_ fun out hC hE => ?_
    iterate 3 · simp
    obtain ⟨b2, c2, e1, e2⟩ := hE
    subst e1 e2
    simp [hdl]
    refine ATT.callT Tryz.func106 60 (add_ok sel { c1 with sels := (onceS c1.sels t).1 } (uzD nl1 us1) js1 _ (cs1 ++ (w ++ c2)) (k4.more (w ++ c2)) un k5 (by have := once_len c1.sels t; unfold szC at k3 ⊢; simp only; omega) 8 (onceS c1.sels t).2 args.length) ?_ ?_ ?_ fun out hC hE => ?_
    iterate 3 · simp
    obtain ⟨e1, js', b', cs', e2, hI'⟩ := hE
    subst e1 e2
    simp
    refine ATT.fin02 hQ Tryz.func106 ?_
    exact ⟨by simp, nl1, ⟨rfl, js', _, cs', rfl, hI'⟩, k6⟩
  ·have e : supS x = false := by unfold supS; rw [decide_eq_false x5]; rfl
   simp only [e, sendC, Bool.false_eq_true, if_false] at hQ
   simp [TB, hi', x5]
   refine ATT.callT Tryz.func106 60 (f102_sels sel c1.us.length c1.lits.length c1.names.length _ c1.sels (by unfold szC at k3; omega) t _ _ _ _ (cs1 ++ w)) ?_ ?_ ?_ fun out hC hE => ?_
   iterate 3 · simp
   obtain ⟨b2, c2, e1, e2⟩ := hE
   subst e1 e2
   simp [hdl]
   refine ATT.callT Tryz.func106 60 (add_ok sel { c1 with sels := (onceS c1.sels t).1 } (uzD nl1 us1) js1 _ (cs1 ++ (w ++ c2)) (k4.more (w ++ c2)) un k5 (by have := once_len c1.sels t; unfold szC at k3 ⊢; simp only; omega) 8 (onceS c1.sels t).2 args.length) ?_ ?_ ?_ fun out hC hE => ?_
   iterate 3 · simp
   obtain ⟨e1, js', b', cs', e2, hI'⟩ := hE
   subst e1 e2
   simp
   refine ATT.fin02 hQ Tryz.func106 ?_
   exact ⟨by simp, nl1, ⟨rfl, js', _, cs', rfl, hI'⟩, k6⟩
end Go.SL
namespace Go.SL
open Go.Proofs
set_option maxRecDepth 10000
theorem mkS_cons {lt : Nd → ByteArray} (un i : Nat) (y : Nd) (r : List Nd) (s : MS) : mkS lt un i (y :: r) s =
  if y.k = 11 then (mkH lt un y.kids (if i = 0 then s.1 else addS un (12, 0, 0) s.1, s.2)).map fun s => ((addS un (14, 0, 0) s.1, s.2), true)
  else (mkP lt un y (if i = 0 then s.1 else addS un (12, 0, 0) s.1, s.2)).bind fun s => mkS lt un (i + 1) r s := by
 cases y; rfl
theorem fine_ret {y : Nd} (h : Fine y) (k : y.k = 11) : ∃ z, y.kids = [z] := by
 cases y with
 | mk k t a n names kids =>
  simp only [Nd.k] at k
  simp only [Fine] at h
  have := h.2.2.1 (.inl k)
  match kids, this with
  | [z], _ => exact ⟨z, rfl⟩
def UnitM (x : Nd) : Prop := ∀ (sel : ByteArray) (c : CM) (us : List Us) (nl : Bool) (js : List Nat) (bs : List Bx) (cs : List (Option Vec)) (s : MS × Bool) (ud : D), InsOK c.us js cs → szC c + 8 * nds x ≤ 999982 → (nl = true → us = []) →
 mkS litB c.us.length 0 x.kids (newU x.n x.names.length c, us) = some s → NdR x ud → AF Tryz.prog 48 [.ptr 0 0, .d ud] (MK sel c (uzD nl us) js bs cs) (MkQ sel (doneU c.us.length (decide (x.k = 12) && !decide (x.t = ⟨#[]⟩)) x.kids.length s, s.1.2) bs)
theorem newU_ok {c : CM} {js : List Nat} {cs : List (Option Vec)} (h : InsOK c.us js cs) (a n : Nat) : InsOK (newU a n c).us (js ++ [0]) cs := by
 obtain ⟨h1, h2, h3⟩ := h
 have key : ∀ (v : Nat) (y : CU), (newU a n c).us[v]? = some y → y.ins ≠ [] → c.us[v]? = some y ∧ v < c.us.length := fun v y e hy => by
  simp only [newU] at e
  rcases Nat.lt_or_ge v c.us.length with hv | hv
  ·rw [List.getElem?_append_left hv] at e; exact ⟨e, hv⟩
  ·rw [List.getElem?_append_right hv] at e
   cases hq : v - c.us.length with
   | zero => rw [hq] at e; simp at e; subst e; simp at hy
   | succ q => rw [hq] at e; simp at e
 have kj : ∀ (v j : Nat), v < c.us.length → (js ++ [0])[v]? = some j → js[v]? = some j := fun v j hv e => by rw [List.getElem?_append_left (by omega)] at e; exact e
 refine ⟨by simp [newU, h1], fun v y j e1 e2 e3 => ?_, fun v w y z j e1 e2 e3 e4 e5 e6 => ?_⟩
 ·obtain ⟨q1, q2⟩ := key v y e1 e3
  exact h2 v y j q1 (kj v j q2 e2) e3
 ·obtain ⟨q1, q2⟩ := key v y e1 e5
  obtain ⟨p1, p2⟩ := key w z e2 e6
  exact h3 v w y z j q1 p1 (kj v j q2 e3) (kj w j p2 e4) e5 e6
theorem newU_row {c : CM} {js : List Nat} (h : js.length = c.us.length) (a n : Nat) : List.zipWith uv c.us js ++ [.d (.agg [.int .i64 a, .int .i64 n, .sl true 0 []])] = List.zipWith uv (newU a n c).us (js ++ [0]) := by
 simp only [newU]
 rw [List.zipWith_append h.symm]
 rfl
set_option maxHeartbeats 1000000 in
theorem f48_ok {Q0 : ByteArray → Nat → Prop} (x : Nd) (hg : Good Q0 x) (hf : Fine x) (hk : ∀ y, SizeOf.sizeOf y < SizeOf.sizeOf x → Good Q0 y → Fine y → PartM y) : UnitM x := by
 intro sel c us nl js bs cs s ud hI hz hnl hm hud
 obtain ⟨nl1, z1, nl2, z2, ds, e, h1, h2, h3, h4, h5⟩ := hud.shape
 subst e
 have ho := hg.one
 have hl2 : x.kids.length ≤ 10000 := ho.2.1
 have hdl := h5.length
 have hn := Nd.count x
 have hmul : (c.us.length + 1) * 40 ≤ 140737488355328 := by unfold szC at hz; omega
 have hrow := newU_row hI.1 x.n x.names.length
 have hmin : min c.us.length js.length = c.us.length := by have := hI.1; omega
 refine AF.go Tryz.func48 [(2, [oD 18 [(12, [0, 1, 2, 3, 4, 5]), (13, [0])]])] fun tb TB Q hQ => ?_
 simp [TB, hdl, hmul, hmin]
 rw [hrow]
 have g1 : (newU x.n x.names.length c).us.isEmpty = false := by simp [newU]
 have g2 : (newU x.n x.names.length c).us.length = c.us.length + 1 := by simp [newU]
 have g3 : (newU x.n x.names.length c).lits = c.lits := rfl
 have g4 : (newU x.n x.names.length c).names = c.names := rfl
 have g5 : (newU x.n x.names.length c).sels = c.sels := rfl
 have hgz := (newU_gr x.n x.names.length c).2
 refine ATT.loopG 60 rfl (fun ((i, c1, us1, nq, js1, cs1) : Nat × CM × List Us × Bool × List Nat × List (Option Vec)) => x.kids.length - i) (fun ((i, c1, us1, nq, js1, cs1) : Nat × CM × List Us × Bool × List Nat × List (Option Vec)) => i ≤ x.kids.length ∧ mkS litB c.us.length i (x.kids.drop i) (c1, us1) = some s ∧ szC c1 + 8 * ndL (x.kids.drop i) ≤ 999975 ∧ InsOK c1.us js1 cs1 ∧ c.us.length < c1.us.length ∧ (nq = true → us1 = [])) (fun ((i, c1, us1, nq, js1, cs1) : Nat × CM × List Us × Bool × List Nat × List (Option Vec)) => [(0, .ptr 0 0), (3, .ptr (bs.length + 1) 0), (4, .d (.int .i64 c.us.length)), (32, .d (.sl nl2 z2 ds)), (33, .d (.int .i64 x.kids.length)), (34, .d (.int .i64 i))]) (fun ((i, c1, us1, nq, js1, cs1) : Nat × CM × List Us × Bool × List Nat × List (Option Vec)) => MB sel c1.us.length c1.lits.length c1.names.length c1.sels.length (uzD nq us1) :: (bs ++ [.cells [.d (.int .i64 x.k), .d (.str x.t), .d (.int .i64 x.a), .d (.int .i64 x.n), .d (.sl nl1 z1 (x.names.map .str)), .d (.sl nl2 z2 ds)] 75])) (fun ((i, c1, us1, nq, js1, cs1) : Nat × CM × List Us × Bool × List Nat × List (Option Vec)) => UV c1.us.isEmpty (List.zipWith uv c1.us js1) :: NS c1.lits :: NS c1.names :: NS c1.sels :: cs1) ((0, newU x.n x.names.length c, us, nl, js ++ [0], cs)) (by (try dsimp only); exact ⟨Nat.zero_le _, hm, by simp; omega, newU_ok hI _ _, by simp [newU], hnl⟩) (by simp <;> omega) (by simp) (by simp [g1, g2, g3, g4, g5]) ?_
 intro ⟨i, c1, us1, nq, js1, cs1⟩ u w hI ih
 try simp only at hI ih
 obtain ⟨k1, k2, k3, k4, k5, k6⟩ := hI
 by_cases hi : i < x.kids.length
 ·have hnl2 : nl2 = false := by cases nl2 with | false => rfl | true => (have := h3 rfl; rw [this] at hi; simp at hi)
  subst hnl2
  have := h4 rfl
  subst this
  obtain ⟨y, hy⟩ : ∃ y, x.kids[i]? = some y := ⟨_, List.getElem?_eq_getElem hi⟩
  obtain ⟨d, hd, hyd⟩ := h5.at hy
  have hdE : ∀ h, ds[i]'h = d := fun h => by rw [List.getElem?_eq_getElem h] at hd; simpa using hd
  have hi' : (i : Int) < x.kids.length := by omega
  have hII : inI ((i : Int) + 1) = true := inI_of (by omega) (by omega)
  have hgy := GoodL.iff.1 hg.all y (List.mem_of_getElem? hy)
  have hfy := FineL.iff.1 (Nd.fine hf) y (List.mem_of_getElem? hy)
  rw [nd_drop hy] at k2 k3
  simp only [ndL] at k3
  have hny1 := Nd.count y
  have hyd' := hyd
  obtain ⟨nl1_d, z1_d, nl2_d, z2_d, ds_d, hv_d, ha_d, hb_d, hc_d, hd_d, he_d⟩ := hyd.shape
  have hw_d := hv_d
  subst hw_d
  by_cases hi0 : i = 0
  ·have hi0' : ¬ 0 < i := by omega
   by_cases y11 : y.k = 11
   ·obtain ⟨z, hz1⟩ := fine_ret hfy y11
    rw [mkS_cons, if_pos y11, hz1, if_pos hi0] at k2
    simp only [mkH] at k2
    cases hp : mkP litB c.us.length z (c1, us1) with
    | none => rw [hp] at k2; simp at k2
    | some s2 =>
     rw [hp] at k2
     simp only [Option.map_some, Option.some.injEq] at k2
     subst k2
     simp only [doneU, if_true] at hQ
     have hgr := mkP_gr hp
     have hny : nds y = 1 + nds z := by rw [Nd.count, hz1]; simp [ndL]
     have hzs : SizeOf.sizeOf z < SizeOf.sizeOf x := by have h1 := kid_lt hy; have h2 : SizeOf.sizeOf z < SizeOf.sizeOf y := kid_lt (i := 0) (by rw [hz1]; rfl); omega
     have hcz := hk z hzs (GoodL.iff.1 hgy.all z (by rw [hz1]; simp)) (FineL.iff.1 (Nd.fine hfy) z (by rw [hz1]; simp)) sel (c1) us1 nq js1
     obtain ⟨dz, hdz, hzd⟩ := he_d.at (i := 0) (y := z) (by rw [hz1]; rfl)
     have hnd : nl2_d = false := by cases nl2_d with | false => rfl | true => (have := hc_d rfl; rw [hz1] at this; simp at this)
     subst hnd
     have hz6 := hd_d rfl
     subst hz6
     have hdzE : ∀ h, ds_d[0]'h = dz := fun h => by rw [List.getElem?_eq_getElem h] at hdz; simpa using hdz
     have hzd' := hzd
     obtain ⟨nl1_dz, z1_dz, nl2_dz, z2_dz, ds_dz, hv_dz, ha_dz, hb_dz, hc_dz, hd_dz, he_dz⟩ := hzd.shape
     have hw_dz := hv_dz
     subst hw_dz
     simp [TB, hdl, hi, hi', hdE, hi0', eq_true y11, hdz]
     refine ATT.callT Tryz.func48 60 (hcz _ (cs1 ++ w) c.us.length s2 _ (k4.more w) k5 (by omega) k6 hp hzd') ?_ ?_ ?_ fun out hC hE => ?_
     iterate 3 · simp
     obtain ⟨nl', ⟨e1, js3, b3, cs3, e2, hI3⟩, hn3⟩ := hE
     subst e1 e2
     simp [TB]
     refine ATT.callT Tryz.func48 60 (add_ok sel s2.1 (uzD nl' s2.2) js3 _ cs3 hI3 c.us.length (Nat.lt_of_lt_of_le k5 hgr.1) (by have h9 := hgr.2; simp only at h9; omega) 14 0 0) ?_ ?_ ?_ fun out hC hE => ?_
     iterate 3 · simp
     obtain ⟨e1, js4, b4, cs4, e2, hI4⟩ := hE
     subst e1 e2
     simp
     refine ATT.fin2 hQ Tryz.func48 ?_
     exact ⟨by simp, nl', ⟨rfl, js4, _, cs4, rfl, hI4⟩, hn3⟩
   ·rw [mkS_cons, if_neg y11, if_pos hi0] at k2
    cases hp : mkP litB c.us.length y (c1, us1) with
    | none => rw [hp] at k2; simp at k2
    | some s2 =>
     rw [hp] at k2
     simp only [Option.bind_some] at k2
     have hgr := mkP_gr hp
     have hcy := hk y (kid_lt hy) hgy hfy sel (c1) us1 nq js1
     simp [TB, hdl, hi, hi', hdE, hi0', y11]
     refine ATT.callT Tryz.func48 60 (hcy _ (cs1 ++ w) c.us.length s2 _ (k4.more w) k5 (by omega) k6 hp hyd') ?_ ?_ ?_ fun out hC hE => ?_
     iterate 3 · simp
     obtain ⟨nl', ⟨e1, js3, b3, cs3, e2, hI3⟩, hn3⟩ := hE
     subst e1 e2
     simp [TB, hII]
     refine ih (i + 1, s2.1, s2.2, nl', js3, cs3) (by first | ((try dsimp only); omega) | (simp [hdl, hi, hi', hd, hdE, hII, hi0', y11] <;> omega)) (by (try dsimp only); exact ⟨hi, k2, by have h9 := hgr.2; simp only at h9; omega, hI3, Nat.lt_of_lt_of_le k5 hgr.1, hn3⟩) _ _ _ (by simp <;> omega) (by simp <;> omega) (by simp <;> omega)
  ·have hi0' : 0 < i := by omega
   have hpz := (addS_gr c.us.length (12, 0, 0) c1).2
   have hpl := (addS_gr c.us.length (12, 0, 0) c1).1
   simp [TB, hdl, hi, hi', hdE, hi0']
   refine ATT.callT Tryz.func48 60 (add_ok sel c1 (uzD nq us1) js1 _ (cs1 ++ w) (k4.more w) c.us.length k5 (by omega) 12 0 0) ?_ ?_ ?_ fun out hC hE => ?_
   iterate 3 · simp
   obtain ⟨e1, jp, bp, cp, e2, hIp⟩ := hE
   subst e1 e2
   by_cases y11 : y.k = 11
   ·obtain ⟨z, hz1⟩ := fine_ret hfy y11
    rw [mkS_cons, if_pos y11, hz1, if_neg hi0] at k2
    simp only [mkH] at k2
    cases hp : mkP litB c.us.length z ((addS c.us.length (12, 0, 0) c1), us1) with
    | none => rw [hp] at k2; simp at k2
    | some s2 =>
     rw [hp] at k2
     simp only [Option.map_some, Option.some.injEq] at k2
     subst k2
     simp only [doneU, if_true] at hQ
     have hgr := mkP_gr hp
     have hny : nds y = 1 + nds z := by rw [Nd.count, hz1]; simp [ndL]
     have hzs : SizeOf.sizeOf z < SizeOf.sizeOf x := by have h1 := kid_lt hy; have h2 : SizeOf.sizeOf z < SizeOf.sizeOf y := kid_lt (i := 0) (by rw [hz1]; rfl); omega
     have hcz := hk z hzs (GoodL.iff.1 hgy.all z (by rw [hz1]; simp)) (FineL.iff.1 (Nd.fine hfy) z (by rw [hz1]; simp)) sel ((addS c.us.length (12, 0, 0) c1)) us1 nq jp
     obtain ⟨dz, hdz, hzd⟩ := he_d.at (i := 0) (y := z) (by rw [hz1]; rfl)
     have hnd : nl2_d = false := by cases nl2_d with | false => rfl | true => (have := hc_d rfl; rw [hz1] at this; simp at this)
     subst hnd
     have hz6 := hd_d rfl
     subst hz6
     have hdzE : ∀ h, ds_d[0]'h = dz := fun h => by rw [List.getElem?_eq_getElem h] at hdz; simpa using hdz
     have hzd' := hzd
     obtain ⟨nl1_dz, z1_dz, nl2_dz, z2_dz, ds_dz, hv_dz, ha_dz, hb_dz, hc_dz, hd_dz, he_dz⟩ := hzd.shape
     have hw_dz := hv_dz
     subst hw_dz
     simp [TB, eq_true y11, hdz]
     refine ATT.callT Tryz.func48 60 (hcz _ cp c.us.length s2 _ hIp (Nat.lt_of_lt_of_le k5 hpl) (by omega) k6 hp hzd') ?_ ?_ ?_ fun out hC hE => ?_
     iterate 3 · simp
     obtain ⟨nl', ⟨e1, js3, b3, cs3, e2, hI3⟩, hn3⟩ := hE
     subst e1 e2
     simp [TB]
     refine ATT.callT Tryz.func48 60 (add_ok sel s2.1 (uzD nl' s2.2) js3 _ cs3 hI3 c.us.length (Nat.lt_of_lt_of_le (Nat.lt_of_lt_of_le k5 hpl) hgr.1) (by have h9 := hgr.2; simp only at h9; omega) 14 0 0) ?_ ?_ ?_ fun out hC hE => ?_
     iterate 3 · simp
     obtain ⟨e1, js4, b4, cs4, e2, hI4⟩ := hE
     subst e1 e2
     simp
     refine ATT.fin2 hQ Tryz.func48 ?_
     exact ⟨by simp, nl', ⟨rfl, js4, _, cs4, rfl, hI4⟩, hn3⟩
   ·rw [mkS_cons, if_neg y11, if_neg hi0] at k2
    cases hp : mkP litB c.us.length y ((addS c.us.length (12, 0, 0) c1), us1) with
    | none => rw [hp] at k2; simp at k2
    | some s2 =>
     rw [hp] at k2
     simp only [Option.bind_some] at k2
     have hgr := mkP_gr hp
     have hcy := hk y (kid_lt hy) hgy hfy sel ((addS c.us.length (12, 0, 0) c1)) us1 nq jp
     simp [TB, y11]
     refine ATT.callT Tryz.func48 60 (hcy _ cp c.us.length s2 _ hIp (Nat.lt_of_lt_of_le k5 hpl) (by omega) k6 hp hyd') ?_ ?_ ?_ fun out hC hE => ?_
     iterate 3 · simp
     obtain ⟨nl', ⟨e1, js3, b3, cs3, e2, hI3⟩, hn3⟩ := hE
     subst e1 e2
     simp [TB, hII]
     refine ih (i + 1, s2.1, s2.2, nl', js3, cs3) (by first | ((try dsimp only); omega) | (simp [hdl, hi, hi', hd, hdE, hII, hi0', y11] <;> omega)) (by (try dsimp only); exact ⟨hi, k2, by have h9 := hgr.2; simp only at h9; omega, hI3, Nat.lt_of_lt_of_le (Nat.lt_of_lt_of_le k5 hpl) hgr.1, hn3⟩) _ _ _ (by simp <;> omega) (by simp <;> omega) (by simp <;> omega)
 ·have hi' : ¬ (i : Int) < x.kids.length := by omega
  rw [List.drop_eq_nil_of_le (by omega)] at k2
  simp only [mkS, Option.some.injEq] at k2
  subst k2
  simp only [doneU, Bool.false_eq_true, if_false] at hQ
  by_cases hM : (decide (x.k = 12) && !decide (x.t = ⟨#[]⟩)) = true
  ·have hM2 := hM
   simp only [Bool.and_eq_true, decide_eq_true_eq, Bool.not_eq_true', decide_eq_false_iff_not] at hM2
   obtain ⟨k12, xt⟩ := hM2
   rw [hM] at hQ
   by_cases h0 : x.kids.length = 0
   ·have h0' : ¬ 0 < x.kids.length := by omega
    simp only [endS, if_true, if_pos h0] at hQ
    simp [TB, hi', hdl, eq_true k12, xt, h0']
    refine ATT.callT Tryz.func48 60 (add_ok sel (c1) (uzD nq us1) js1 _ (cs1 ++ w) (k4.more w) c.us.length (k5) (by omega) 6 0 0) ?_ ?_ ?_ fun out hC hE => ?_
    iterate 3 · simp
    obtain ⟨e1, j0, b0, x0, e2, i0⟩ := hE
    subst e1 e2
    have z0 := (addS_gr c.us.length (6, 0, 0) (c1)).2
    have l0 := Nat.lt_of_lt_of_le (k5) (addS_gr c.us.length (6, 0, 0) (c1)).1
    simp [TB]
    refine ATT.callT Tryz.func48 60 (add_ok sel (addS c.us.length (6, 0, 0) (c1)) (uzD nq us1) j0 _ x0 i0 c.us.length (l0) (by omega) 14 0 0) ?_ ?_ ?_ fun out hC hE => ?_
    iterate 3 · simp
    obtain ⟨e1, j1, b1, x1, e2, i1⟩ := hE
    subst e1 e2
    have z1 := (addS_gr c.us.length (14, 0, 0) (addS c.us.length (6, 0, 0) (c1))).2
    have l1 := Nat.lt_of_lt_of_le (l0) (addS_gr c.us.length (14, 0, 0) (addS c.us.length (6, 0, 0) (c1))).1
    simp
    refine ATT.fin2 hQ Tryz.func48 ?_
    exact ⟨by simp, nq, ⟨rfl, j1, _, x1, rfl, i1⟩, k6⟩
   ·have h0' : 0 < x.kids.length := by omega
    simp only [endS, if_true, if_neg h0] at hQ
    simp [TB, hi', hdl, eq_true k12, xt, h0']
    refine ATT.callT Tryz.func48 60 (add_ok sel (c1) (uzD nq us1) js1 _ (cs1 ++ w) (k4.more w) c.us.length (k5) (by omega) 12 0 0) ?_ ?_ ?_ fun out hC hE => ?_
    iterate 3 · simp
    obtain ⟨e1, j0, b0, x0, e2, i0⟩ := hE
    subst e1 e2
    have z0 := (addS_gr c.us.length (12, 0, 0) (c1)).2
    have l0 := Nat.lt_of_lt_of_le (k5) (addS_gr c.us.length (12, 0, 0) (c1)).1
    simp [TB]
    refine ATT.callT Tryz.func48 60 (add_ok sel (addS c.us.length (12, 0, 0) (c1)) (uzD nq us1) j0 _ x0 i0 c.us.length (l0) (by omega) 6 0 0) ?_ ?_ ?_ fun out hC hE => ?_
    iterate 3 · simp
    obtain ⟨e1, j1, b1, x1, e2, i1⟩ := hE
    subst e1 e2
    have z1 := (addS_gr c.us.length (6, 0, 0) (addS c.us.length (12, 0, 0) (c1))).2
    have l1 := Nat.lt_of_lt_of_le (l0) (addS_gr c.us.length (6, 0, 0) (addS c.us.length (12, 0, 0) (c1))).1
    simp [TB]
    refine ATT.callT Tryz.func48 60 (add_ok sel (addS c.us.length (6, 0, 0) (addS c.us.length (12, 0, 0) (c1))) (uzD nq us1) j1 _ x1 i1 c.us.length (l1) (by omega) 14 0 0) ?_ ?_ ?_ fun out hC hE => ?_
    iterate 3 · simp
    obtain ⟨e1, j2, b2, x2, e2, i2⟩ := hE
    subst e1 e2
    have z2 := (addS_gr c.us.length (14, 0, 0) (addS c.us.length (6, 0, 0) (addS c.us.length (12, 0, 0) (c1)))).2
    have l2 := Nat.lt_of_lt_of_le (l1) (addS_gr c.us.length (14, 0, 0) (addS c.us.length (6, 0, 0) (addS c.us.length (12, 0, 0) (c1)))).1
    simp
    refine ATT.fin2 hQ Tryz.func48 ?_
    exact ⟨by simp, nq, ⟨rfl, j2, _, x2, rfl, i2⟩, k6⟩
  ·have hM1 : (decide (x.k = 12) && !decide (x.t = ⟨#[]⟩)) = false := by simpa using hM
   rw [hM1] at hQ
   have hM2 : x.k = 12 → x.t = ⟨#[]⟩ := fun k => by simpa [k] using hM1
   by_cases k12 : x.k = 12
   ·have xt := hM2 k12
    by_cases h0 : x.kids.length = 0
    ·simp only [endS, Bool.false_eq_true, if_false, if_pos h0] at hQ
     have hke := List.length_eq_zero_iff.1 h0
     simp [TB, hi', hdl, eq_true k12, eq_true xt, eq_true hke]
     refine ATT.callT Tryz.func48 60 (add_ok sel (c1) (uzD nq us1) js1 _ (cs1 ++ w) (k4.more w) c.us.length (k5) (by omega) 7 0 0) ?_ ?_ ?_ fun out hC hE => ?_
     iterate 3 · simp
     obtain ⟨e1, j0, b0, x0, e2, i0⟩ := hE
     subst e1 e2
     have z0 := (addS_gr c.us.length (7, 0, 0) (c1)).2
     have l0 := Nat.lt_of_lt_of_le (k5) (addS_gr c.us.length (7, 0, 0) (c1)).1
     simp [TB]
     refine ATT.callT Tryz.func48 60 (add_ok sel (addS c.us.length (7, 0, 0) (c1)) (uzD nq us1) j0 _ x0 i0 c.us.length (l0) (by omega) 13 0 0) ?_ ?_ ?_ fun out hC hE => ?_
     iterate 3 · simp
     obtain ⟨e1, j1, b1, x1, e2, i1⟩ := hE
     subst e1 e2
     have z1 := (addS_gr c.us.length (13, 0, 0) (addS c.us.length (7, 0, 0) (c1))).2
     have l1 := Nat.lt_of_lt_of_le (l0) (addS_gr c.us.length (13, 0, 0) (addS c.us.length (7, 0, 0) (c1))).1
     simp
     refine ATT.fin02 hQ Tryz.func48 ?_
     exact ⟨by simp, nq, ⟨rfl, j1, _, x1, rfl, i1⟩, k6⟩
    ·simp only [endS, Bool.false_eq_true, if_false, if_neg h0] at hQ
     have hke : ¬ x.kids = [] := fun e => h0 (by rw [e]; rfl)
     simp [TB, hi', hdl, eq_true k12, eq_true xt, hke]
     refine ATT.callT Tryz.func48 60 (add_ok sel (c1) (uzD nq us1) js1 _ (cs1 ++ w) (k4.more w) c.us.length (k5) (by omega) 13 0 0) ?_ ?_ ?_ fun out hC hE => ?_
     iterate 3 · simp
     obtain ⟨e1, j0, b0, x0, e2, i0⟩ := hE
     subst e1 e2
     have z0 := (addS_gr c.us.length (13, 0, 0) (c1)).2
     have l0 := Nat.lt_of_lt_of_le (k5) (addS_gr c.us.length (13, 0, 0) (c1)).1
     simp
     refine ATT.fin02 hQ Tryz.func48 ?_
     exact ⟨by simp, nq, ⟨rfl, j0, _, x0, rfl, i0⟩, k6⟩
   ·by_cases h0 : x.kids.length = 0
    ·simp only [endS, Bool.false_eq_true, if_false, if_pos h0] at hQ
     have hke := List.length_eq_zero_iff.1 h0
     simp [TB, hi', hdl, k12, eq_true hke]
     refine ATT.callT Tryz.func48 60 (add_ok sel (c1) (uzD nq us1) js1 _ (cs1 ++ w) (k4.more w) c.us.length (k5) (by omega) 7 0 0) ?_ ?_ ?_ fun out hC hE => ?_
     iterate 3 · simp
     obtain ⟨e1, j0, b0, x0, e2, i0⟩ := hE
     subst e1 e2
     have z0 := (addS_gr c.us.length (7, 0, 0) (c1)).2
     have l0 := Nat.lt_of_lt_of_le (k5) (addS_gr c.us.length (7, 0, 0) (c1)).1
     simp [TB]
     refine ATT.callT Tryz.func48 60 (add_ok sel (addS c.us.length (7, 0, 0) (c1)) (uzD nq us1) j0 _ x0 i0 c.us.length (l0) (by omega) 13 0 0) ?_ ?_ ?_ fun out hC hE => ?_
     iterate 3 · simp
     obtain ⟨e1, j1, b1, x1, e2, i1⟩ := hE
     subst e1 e2
     have z1 := (addS_gr c.us.length (13, 0, 0) (addS c.us.length (7, 0, 0) (c1))).2
     have l1 := Nat.lt_of_lt_of_le (l0) (addS_gr c.us.length (13, 0, 0) (addS c.us.length (7, 0, 0) (c1))).1
     simp
     refine ATT.fin02 hQ Tryz.func48 ?_
     exact ⟨by simp, nq, ⟨rfl, j1, _, x1, rfl, i1⟩, k6⟩
    ·simp only [endS, Bool.false_eq_true, if_false, if_neg h0] at hQ
     have hke : ¬ x.kids = [] := fun e => h0 (by rw [e]; rfl)
     simp [TB, hi', hdl, k12, hke]
     refine ATT.callT Tryz.func48 60 (add_ok sel (c1) (uzD nq us1) js1 _ (cs1 ++ w) (k4.more w) c.us.length (k5) (by omega) 13 0 0) ?_ ?_ ?_ fun out hC hE => ?_
     iterate 3 · simp
     obtain ⟨e1, j0, b0, x0, e2, i0⟩ := hE
     subst e1 e2
     have z0 := (addS_gr c.us.length (13, 0, 0) (c1)).2
     have l0 := Nat.lt_of_lt_of_le (k5) (addS_gr c.us.length (13, 0, 0) (c1)).1
     simp
     refine ATT.fin02 hQ Tryz.func48 ?_
     exact ⟨by simp, nq, ⟨rfl, j0, _, x0, rfl, i0⟩, k6⟩
end Go.SL
namespace Go.SL
open Go.Proofs
set_option maxRecDepth 10000
theorem fine_lit {x : Nd} (h : Fine x) (k : x.k = 1 ∨ x.k = 2 ∨ x.k = 3 ∨ x.k = 4) : LitP x := by
 cases x with
 | mk k t a n names kids =>
  simp only [Nd.k] at k
  simp only [Fine] at h
  simp only [LitP]
  exact ⟨by omega, h.2.2.2.1 k⟩
theorem mkD_cons {lt : Nd → ByteArray} (un : Nat) (sp : Bool) (m y : Nd) (r : List Nd) (s : MS) : mkD lt un sp (m :: y :: r) s = (mkM lt un sp m (addS un (11, 0, 0) s.1, s.2)).bind fun s => mkD lt un sp (y :: r) (addS un (12, 0, 0) s.1, s.2) := by
 simp only [mkD]
theorem mkM_eq {lt : Nd → ByteArray} (un : Nat) (sp : Bool) (m : Nd) (s : MS) : mkM lt un sp m s = (mkL lt un m.kids s).map fun s => (sendC un sp m.t m.kids.length s.1, s.2) := by
 cases m; simp only [mkM, Nd.kids, Nd.t]
set_option maxHeartbeats 2000000 in
theorem f74_ok {Q0 : ByteArray → Nat → Prop} : ∀ (m : Nat) (x : Nd), SizeOf.sizeOf x ≤ m → Good Q0 x → Fine x → PartM x := by
 intro m
 induction m with
 | zero => intro x h; cases x; simp at h
 | succ m ihn =>
  intro x hmx hg hf sel c us nl js bs cs un s' ud hI hu hz hnl hm hud
  have hud0 := hud
  obtain ⟨nl1, z1, nl2, z2, ds, e, h1, h2, h3, h4, h5⟩ := hud.shape
  subst e
  have ho := hg.one
  have hl2 : x.kids.length ≤ 10000 := ho.2.1
  have hdl := h5.length
  have hn := Nd.count x
  by_cases k1 : x.k = 1
  ·have hT := f103_lit x hg (fine_lit hf (by omega)) (by omega) _ hud0
   have e : mkP litB un x (c, us) = some (litS un (litB x) c, us) := by cases x; simp only [Nd.k] at k1; simp only [mkP]; rw [if_pos (by omega)]
   rw [e] at hm
   simp only [Option.some.injEq] at hm
   subst hm
   refine AF.go Tryz.func74 [(6, [oD 10 [(7, [0, 1, 2, 3, 4, 5]), (8, [0, 1])]]), (17, [oD 12 []]), (25, [oD 11 []]), (28, [oD 19 []])] fun tb TB Q hQ => ?_
   simp [TB, k1]
   refine ATT.callRD Tryz.func74 60 (hT) ?_ ?_ ?_ ?_
   iterate 3 · simp [k1]
   simp
   refine ATT.callRT Tryz.func74 60 (f102_lits sel c.us.length c.names.length c.sels.length _ c.lits (by unfold szC at hz; omega) (litB x) _ _ _ _ cs) ?_ ?_ ?_ fun out hC hE => ?_
   iterate 3 · simp
   obtain ⟨b2, c2, e1, e2⟩ := hE
   subst e1 e2
   simp
   refine ATT.callRT Tryz.func74 60 (add_ok sel { c with lits := (onceS c.lits (litB x)).1 } (uzD nl us) js _ (cs ++ c2) (hI.more c2) un hu (by have := once_len c.lits (litB x); unfold szC at hz ⊢; simp only; omega) 0 (onceS c.lits (litB x)).2 0) ?_ ?_ ?_ fun out hC hE => ?_
   iterate 3 · simp
   obtain ⟨e1, js', b', cs', e2, hI'⟩ := hE
   subst e1 e2
   simp
   refine ATT.fin02 hQ Tryz.func74 ?_
   exact ⟨by simp, nl, ⟨rfl, js', _, cs', rfl, hI'⟩, hnl⟩
  by_cases k2 : x.k = 2
  ·have hT := f103_lit x hg (fine_lit hf (by omega)) (by omega) _ hud0
   have e : mkP litB un x (c, us) = some (litS un (litB x) c, us) := by cases x; simp only [Nd.k] at k2; simp only [mkP]; rw [if_pos (by omega)]
   rw [e] at hm
   simp only [Option.some.injEq] at hm
   subst hm
   refine AF.go Tryz.func74 [(6, [oD 10 [(7, [0, 1, 2, 3, 4, 5]), (8, [0, 1])]]), (17, [oD 12 []]), (25, [oD 11 []]), (28, [oD 19 []])] fun tb TB Q hQ => ?_
   simp [TB, k2]
   refine ATT.callRD Tryz.func74 60 (hT) ?_ ?_ ?_ ?_
   iterate 3 · simp [k2]
   simp
   refine ATT.callRT Tryz.func74 60 (f102_lits sel c.us.length c.names.length c.sels.length _ c.lits (by unfold szC at hz; omega) (litB x) _ _ _ _ cs) ?_ ?_ ?_ fun out hC hE => ?_
   iterate 3 · simp
   obtain ⟨b2, c2, e1, e2⟩ := hE
   subst e1 e2
   simp
   refine ATT.callRT Tryz.func74 60 (add_ok sel { c with lits := (onceS c.lits (litB x)).1 } (uzD nl us) js _ (cs ++ c2) (hI.more c2) un hu (by have := once_len c.lits (litB x); unfold szC at hz ⊢; simp only; omega) 0 (onceS c.lits (litB x)).2 0) ?_ ?_ ?_ fun out hC hE => ?_
   iterate 3 · simp
   obtain ⟨e1, js', b', cs', e2, hI'⟩ := hE
   subst e1 e2
   simp
   refine ATT.fin02 hQ Tryz.func74 ?_
   exact ⟨by simp, nl, ⟨rfl, js', _, cs', rfl, hI'⟩, hnl⟩
  by_cases k3 : x.k = 3
  ·have hT := f103_lit x hg (fine_lit hf (by omega)) (by omega) _ hud0
   have e : mkP litB un x (c, us) = some (litS un (litB x) c, us) := by cases x; simp only [Nd.k] at k3; simp only [mkP]; rw [if_pos (by omega)]
   rw [e] at hm
   simp only [Option.some.injEq] at hm
   subst hm
   refine AF.go Tryz.func74 [(6, [oD 10 [(7, [0, 1, 2, 3, 4, 5]), (8, [0, 1])]]), (17, [oD 12 []]), (25, [oD 11 []]), (28, [oD 19 []])] fun tb TB Q hQ => ?_
   simp [TB, k3]
   refine ATT.callRD Tryz.func74 60 (hT) ?_ ?_ ?_ ?_
   iterate 3 · simp [k3]
   simp
   refine ATT.callRT Tryz.func74 60 (f102_lits sel c.us.length c.names.length c.sels.length _ c.lits (by unfold szC at hz; omega) (litB x) _ _ _ _ cs) ?_ ?_ ?_ fun out hC hE => ?_
   iterate 3 · simp
   obtain ⟨b2, c2, e1, e2⟩ := hE
   subst e1 e2
   simp
   refine ATT.callRT Tryz.func74 60 (add_ok sel { c with lits := (onceS c.lits (litB x)).1 } (uzD nl us) js _ (cs ++ c2) (hI.more c2) un hu (by have := once_len c.lits (litB x); unfold szC at hz ⊢; simp only; omega) 0 (onceS c.lits (litB x)).2 0) ?_ ?_ ?_ fun out hC hE => ?_
   iterate 3 · simp
   obtain ⟨e1, js', b', cs', e2, hI'⟩ := hE
   subst e1 e2
   simp
   refine ATT.fin02 hQ Tryz.func74 ?_
   exact ⟨by simp, nl, ⟨rfl, js', _, cs', rfl, hI'⟩, hnl⟩
  by_cases k4 : x.k = 4
  ·have hT := f103_lit x hg (fine_lit hf (by omega)) (by omega) _ hud0
   have e : mkP litB un x (c, us) = some (litS un (litB x) c, us) := by cases x; simp only [Nd.k] at k4; simp only [mkP]; rw [if_pos (by omega)]
   rw [e] at hm
   simp only [Option.some.injEq] at hm
   subst hm
   refine AF.go Tryz.func74 [(6, [oD 10 [(7, [0, 1, 2, 3, 4, 5]), (8, [0, 1])]]), (17, [oD 12 []]), (25, [oD 11 []]), (28, [oD 19 []])] fun tb TB Q hQ => ?_
   simp [TB, k4]
   refine ATT.callRD Tryz.func74 60 (hT) ?_ ?_ ?_ ?_
   iterate 3 · simp [k4]
   simp
   refine ATT.callRT Tryz.func74 60 (f102_lits sel c.us.length c.names.length c.sels.length _ c.lits (by unfold szC at hz; omega) (litB x) _ _ _ _ cs) ?_ ?_ ?_ fun out hC hE => ?_
   iterate 3 · simp
   obtain ⟨b2, c2, e1, e2⟩ := hE
   subst e1 e2
   simp
   refine ATT.callRT Tryz.func74 60 (add_ok sel { c with lits := (onceS c.lits (litB x)).1 } (uzD nl us) js _ (cs ++ c2) (hI.more c2) un hu (by have := once_len c.lits (litB x); unfold szC at hz ⊢; simp only; omega) 0 (onceS c.lits (litB x)).2 0) ?_ ?_ ?_ fun out hC hE => ?_
   iterate 3 · simp
   obtain ⟨e1, js', b', cs', e2, hI'⟩ := hE
   subst e1 e2
   simp
   refine ATT.fin02 hQ Tryz.func74 ?_
   exact ⟨by simp, nl, ⟨rfl, js', _, cs', rfl, hI'⟩, hnl⟩
  have k14 : ¬ (x.k = 1 ∨ x.k = 2 ∨ x.k = 3 ∨ x.k = 4) := by omega
  by_cases k5 : x.k = 5
  ·have e : ∀ us, mkP litB un x (c, us) = (match us with | [] => none | y :: us' => some (useS un y c, us')) := fun us => by cases x; simp only [Nd.k] at k5 k14; simp only [mkP]; rw [if_neg k14, if_pos k5]; rfl
   rw [e] at hm
   cases us with
   | nil => simp at hm
   | cons y r =>
    simp only [Option.some.injEq] at hm
    subst hm
    have hnf : nl = false := by cases nl with | false => rfl | true => exact absurd (hnl rfl) (by simp)
    subst hnf
    refine AF.go Tryz.func74 [(6, [oD 10 [(7, [0, 1, 2, 3, 4, 5]), (8, [0, 1])]]), (17, [oD 12 []]), (25, [oD 11 []]), (28, [oD 19 []])] fun tb TB Q hQ => ?_
    simp [TB, k5]
    refine ATT.callT Tryz.func74 60 (f104_ok sel c y r js _ cs hI un hu (by omega)) ?_ ?_ ?_ fun out hC hE => ?_
    iterate 3 · simp
    obtain ⟨e1, js', b', cs', e2, hI'⟩ := hE
    subst e1 e2
    simp
    refine ATT.fin02 hQ Tryz.func74 ?_
    exact ⟨by simp, false, ⟨rfl, js', _, cs', rfl, hI'⟩, fun e => by simp at e⟩
  have kid : ∀ y ∈ x.kids, PartM y := fun y hy => by
   obtain ⟨i, hi⟩ := List.mem_iff_getElem?.1 hy
   exact ihn y (by have := kid_lt hi; omega) (GoodL.iff.1 hg.all y hy) (FineL.iff.1 (Nd.fine hf) y hy)
  by_cases k6 : x.k = 6
  ·obtain ⟨z, hz1⟩ : ∃ z, x.kids = [z] := by
    cases x with
    | mk k t a n names kids =>
     simp only [Nd.k] at k6
     simp only [Fine] at hf
     have := hf.2.2.1 (.inr k6)
     match kids, this with
     | [z], _ => exact ⟨z, rfl⟩
   have e : ∀ us, mkP litB un x (c, us) = (match us with | [] => none | y :: us' => (mkH litB un x.kids (c, us')).map fun s => (setS un y s.1, s.2)) := fun us => by cases x; simp only [Nd.k] at k5 k6 k14; simp only [mkP, Nd.kids]; rw [if_neg k14, if_neg k5, if_pos k6]; rfl
   rw [e] at hm
   cases us with
   | nil => simp at hm
   | cons y r =>
    have hnf : nl = false := by cases nl with | false => rfl | true => exact absurd (hnl rfl) (by simp)
    subst hnf
    simp only [hz1, mkH] at hm
    cases hp : mkP litB un z (c, r) with
    | none => rw [hp] at hm; simp at hm
    | some s2 =>
     rw [hp] at hm
     simp only [Option.map_some, Option.some.injEq] at hm
     subst hm
     have hgr := mkP_gr hp
     have hnz : nds x = 1 + nds z := by rw [Nd.count, hz1]; simp [ndL]
     have hcz := kid z (by rw [hz1]; simp) sel c r false js
     rw [hz1] at h5
     simp only [NdRL] at h5
     obtain ⟨dz, l, el, hzd, el2⟩ := h5
     subst el2 el
     have hnd : nl2 = false := by cases nl2 with | false => rfl | true => (have := h3 rfl; rw [hz1] at this; simp at this)
     subst hnd
     have hz6 := h4 rfl
     subst hz6
     have hU := fun bs vc => f105_ok sel c.us.length c.lits.length c.names.length c.sels.length y r bs vc
     obtain ⟨a0, t0, k0, d0, i0, w0⟩ := y
     have hzd' := hzd
     obtain ⟨nl1_dz, z1_dz, nl2_dz, z2_dz, ds_dz, hv_dz, ha_dz, hb_dz, hc_dz, hd_dz, he_dz⟩ := hzd.shape
     have hw_dz := hv_dz
     subst hw_dz
     refine AF.go Tryz.func74 [(6, [oD 10 [(7, [0, 1, 2, 3, 4, 5]), (8, [0, 1])]]), (17, [oD 12 []]), (25, [oD 11 []]), (28, [oD 19 []])] fun tb TB Q hQ => ?_
     simp [TB, k6]
     refine ATT.callT Tryz.func74 60 (hU _ _) ?_ ?_ ?_ fun out hC hE => ?_
     iterate 3 · simp
     obtain ⟨b, e1, e2⟩ := hE
     simp only [usD] at e1
     subst e1 e2
     simp [TB]
     refine ATT.callT Tryz.func74 60 (hcz _ cs un s2 _ hI hu (by omega) (fun e => by simp at e) hp hzd') ?_ ?_ ?_ fun out hC hE => ?_
     iterate 3 · simp
     obtain ⟨nl', ⟨e1, js3, b3, cs3, e2, hI3⟩, hn3⟩ := hE
     subst e1 e2
     by_cases k3 : k0 = 3
     ·have e : setS un ⟨a0, t0, k0, d0, i0, w0⟩ s2.1 = addS un (2, d0, i0) s2.1 := by unfold setS; rw [if_pos k3]
      rw [e] at hQ
      simp [TB, eq_true k3]
      refine ATT.callT Tryz.func74 60 (add_ok sel s2.1 (uzD nl' s2.2) js3 _ cs3 hI3 un (Nat.lt_of_lt_of_le hu hgr.1) (by have h9 := hgr.2; simp only at h9; omega) 2 d0 i0) ?_ ?_ ?_ fun out hC hE => ?_
      iterate 3 · simp
      obtain ⟨e1, js4, b4, cs4, e2, hI4⟩ := hE
      subst e1 e2
      simp
      refine ATT.fin02 hQ Tryz.func74 ?_
      exact ⟨by simp, nl', ⟨rfl, js4, _, cs4, rfl, hI4⟩, hn3⟩
     ·have e : setS un ⟨a0, t0, k0, d0, i0, w0⟩ s2.1 = addS un (4, i0, 0) s2.1 := by unfold setS; rw [if_neg k3]
      rw [e] at hQ
      simp [TB, k3]
      refine ATT.callT Tryz.func74 60 (add_ok sel s2.1 (uzD nl' s2.2) js3 _ cs3 hI3 un (Nat.lt_of_lt_of_le hu hgr.1) (by have h9 := hgr.2; simp only at h9; omega) 4 i0 0) ?_ ?_ ?_ fun out hC hE => ?_
      iterate 3 · simp
      obtain ⟨e1, js4, b4, cs4, e2, hI4⟩ := hE
      subst e1 e2
      simp
      refine ATT.fin02 hQ Tryz.func74 ?_
      exact ⟨by simp, nl', ⟨rfl, js4, _, cs4, rfl, hI4⟩, hn3⟩
  by_cases k7 : x.k = 7
  ·obtain ⟨a, ks, hks⟩ : ∃ a ks, x.kids = a :: ks := by
    cases x with
    | mk k t a n names kids =>
     simp only [Nd.k] at k7
     simp only [Fine] at hf
     have := hf.2.1 k7
     match kids, this with
     | a :: ks, _ => exact ⟨a, ks, rfl⟩
   have e : mkP litB un x (c, us) = (mkL litB un x.kids (c, us)).map fun s => (sendC un (sup0 x.kids) x.t (x.kids.length - 1) s.1, s.2) := by cases x; simp only [Nd.k] at k5 k6 k7 k14; simp only [mkP, Nd.kids, Nd.t]; rw [if_neg k14, if_neg k5, if_neg k6, if_pos k7]
   rw [e, hks] at hm
   simp only [mkL] at hm
   cases hp : mkP litB un a (c, us) with
   | none => rw [hp] at hm; simp at hm
   | some s2 =>
    rw [hp] at hm
    simp only [Option.bind_some] at hm
    cases hp2 : mkL litB un ks s2 with
    | none => rw [hp2] at hm; simp at hm
    | some s3 =>
     rw [hp2] at hm
     simp only [Option.map_some, Option.some.injEq, sup0, List.length_cons, Nat.add_sub_cancel] at hm
     subst hm
     have hgr := mkP_gr hp
     have hnk : nds x = 1 + (nds a + ndL ks) := by rw [Nd.count, hks]; simp [ndL]
     have hna := Nd.count a
     have hca := kid a (by rw [hks]; simp) sel c us nl js
     have hkk : ∀ y ∈ ks, PartM y := fun y hy => kid y (by rw [hks]; simp [hy])
     rw [hks] at h5 hl2
     simp only [NdRL] at h5
     obtain ⟨da, ds', el, had, h5'⟩ := h5
     subst el
     have hnd : nl2 = false := by cases nl2 with | false => rfl | true => (have := h3 rfl; rw [hks] at this; simp at this)
     subst hnd
     have hz6 := h4 rfl
     subst hz6
     have had' := had
     have h1i : (1 : Int) ≤ (ds'.length : Int) + 1 := by omega
     obtain ⟨nl1_da, z1_da, nl2_da, z2_da, ds_da, hv_da, ha_da, hb_da, hc_da, hd_da, he_da⟩ := had.shape
     have hw_da := hv_da
     subst hw_da
     refine AF.go Tryz.func74 [(6, [oD 10 [(7, [0, 1, 2, 3, 4, 5]), (8, [0, 1])]]), (17, [oD 12 []]), (25, [oD 11 []]), (28, [oD 19 []])] fun tb TB Q hQ => ?_
     simp [TB, k7]
     refine ATT.callT Tryz.func74 60 (hca _ cs un s2 _ hI hu (by omega) hnl hp had') ?_ ?_ ?_ fun out hC hE => ?_
     iterate 3 · simp
     obtain ⟨nl', ⟨e1, js3, b3, cs3, e2, hI3⟩, hn3⟩ := hE
     subst e1 e2
     simp [h1i]
     refine ATT.callRT Tryz.func74 60 (f106_ok ks hkk (by simp at hl2; omega) sel s2.1 s2.2 nl' js3 _ cs3 un s3 a _ x.t false 6 ds' hI3 (Nat.lt_of_lt_of_le hu hgr.1) (by have h9 := hgr.2; simp only at h9; omega) hn3 hp2 had' (fun e => by simp at e) (fun _ => rfl) h5') ?_ ?_ ?_ fun out hC hE => ?_
     iterate 3 · simp
     obtain ⟨nl4, ⟨e1, js4, b4, cs4, e2, hI4⟩, hn4⟩ := hE
     subst e1 e2
     simp
     refine ATT.fin02 hQ Tryz.func74 ?_
     exact ⟨by simp, nl4, ⟨rfl, js4, _, cs4, rfl, hI4⟩, hn4⟩
  by_cases k8 : x.k = 8
  ·obtain ⟨a, q, r', hks⟩ : ∃ a q r', x.kids = a :: q :: r' := by
    cases x with
    | mk k t a n names kids =>
     simp only [Nd.k] at k8
     simp only [Fine] at hf
     have := (hf.1.1 k8).1
     match kids, this with
     | a :: q :: r', _ => exact ⟨a, q, r', rfl⟩
   have e : mkP litB un x (c, us) = mkC litB un (sup0 x.kids) x.kids (c, us) := by cases x; simp only [Nd.k] at k5 k6 k7 k8 k14; simp only [mkP, Nd.kids]; rw [if_neg k14, if_neg k5, if_neg k6, if_neg k7, if_pos k8]
   rw [e, hks] at hm
   simp only [mkC, sup0] at hm
   cases hp : mkP litB un a (c, us) with
   | none => rw [hp] at hm; simp at hm
   | some s2 =>
    rw [hp] at hm
    simp only [Option.bind_some] at hm
    have hgr := mkP_gr hp
    have hnk : nds x = 1 + (nds a + ndL (q :: r')) := by rw [Nd.count, hks]; simp [ndL]
    have hna := Nd.count a
    have hca := kid a (by rw [hks]; simp) sel c us nl js
    have hkk : ∀ m ∈ (q :: r'), ∀ y ∈ m.kids, PartM y := fun m hmm y hy => by
     have hmk : m ∈ x.kids := by rw [hks]; exact List.mem_cons_of_mem _ hmm
     obtain ⟨i, hi⟩ := List.mem_iff_getElem?.1 hmk
     obtain ⟨i2, hi2⟩ := List.mem_iff_getElem?.1 hy
     have hgm := GoodL.iff.1 hg.all m hmk
     have hfm := FineL.iff.1 (Nd.fine hf) m hmk
     exact ihn y (by have := kid_lt hi; have := kid_lt hi2; omega) (GoodL.iff.1 hgm.all y hy) (FineL.iff.1 (Nd.fine hfm) y hy)
    have hkn : ∀ m ∈ (q :: r'), m.kids.length ≤ 10000 := fun m hmm => (GoodL.iff.1 hg.all m (by rw [hks]; exact List.mem_cons_of_mem _ hmm)).one.2.1
    rw [hks] at h5 hl2
    have hnd : nl2 = false := by cases nl2 with | false => rfl | true => (have := h3 rfl; rw [hks] at this; simp at this)
    subst hnd
    have hz6 := h4 rfl
    subst hz6
    simp only [NdRL] at h5
    obtain ⟨da, l1, el1, had, dq, dr, el2, hdq, hdr⟩ := h5
    subst el1 el2
    have h5' : NdRL (q :: r') (dq :: dr) := by simp only [NdRL]; exact ⟨dq, dr, rfl, hdq, hdr⟩
    have hrl := hdr.length
    have had' := had
    have h1i : (1 : Int) ≤ (dr.length : Int) + 1 := by omega
    have hII0 : inI ((dr.length : Int) + 1) = true := inI_of (by simp at hl2; omega) (by simp at hl2; omega)
    obtain ⟨md, hmd⟩ : ∃ md, List.take dr.length (dq :: dr) = md := ⟨_, rfl⟩
    have hml : md.length = dr.length := by rw [← hmd]; simp
    have hlef : (dr.length : Int) ≤ (dr.length : Int) + 1 := by omega
    obtain ⟨nl1_da, z1_da, nl2_da, z2_da, ds_da, hv_da, ha_da, hb_da, hc_da, hd_da, he_da⟩ := had.shape
    have hw_da := hv_da
    subst hw_da
    refine AF.go Tryz.func74 [(6, [oD 10 [(7, [0, 1, 2, 3, 4, 5]), (8, [0, 1])]]), (17, [oD 12 []]), (25, [oD 11 []]), (28, [oD 19 []])] fun tb TB Q hQ => ?_
    simp [TB, k8]
    refine ATT.callT Tryz.func74 60 (hca _ cs un s2 _ hI hu (by omega) hnl hp had') ?_ ?_ ?_ fun out hC hE => ?_
    iterate 3 · simp
    obtain ⟨nl', ⟨e1, js3, b3, cs3, e2, hI3⟩, hn3⟩ := hE
    subst e1 e2
    simp [TB, h1i, hII0, hmd, hml, hlef]
    refine ATT.loopG 60 rfl (fun ((j, c1, us1, nq, js1, cs1) : Nat × CM × List Us × Bool × List Nat × List (Option Vec)) => dr.length - j) (fun ((j, c1, us1, nq, js1, cs1) : Nat × CM × List Us × Bool × List Nat × List (Option Vec)) => j ≤ dr.length ∧ mkD litB un (supS a) ((q :: r').drop j) (c1, us1) = some s' ∧ szC c1 + 8 * ndL ((q :: r').drop j) ≤ 999970 ∧ InsOK c1.us js1 cs1 ∧ un < c1.us.length ∧ (nq = true → us1 = [])) (fun ((j, c1, us1, nq, js1, cs1) : Nat × CM × List Us × Bool × List Nat × List (Option Vec)) => [(0, .ptr 0 0), (1, .d (.int .i64 un)), (5, .ptr (bs.length + 1) 0), (7, .d (.int .i64 ((dr.length : Int) + 1))), (95, .d (.sl false 6 md)), (96, .d (.int .i64 dr.length)), (97, .d (.int .i64 j))]) (fun ((j, c1, us1, nq, js1, cs1) : Nat × CM × List Us × Bool × List Nat × List (Option Vec)) => MB sel c1.us.length c1.lits.length c1.names.length c1.sels.length (uzD nq us1) :: (bs ++ [.cells [.d (.int .i64 8), .d (.str x.t), .d (.int .i64 x.a), .d (.int .i64 x.n), .d (.sl nl1 z1 (x.names.map .str)), .d (.sl false 6 (.agg [.int .i64 a.k, .str a.t, .int .i64 a.a, .int .i64 a.n, .sl nl1_da z1_da (a.names.map .str), .sl nl2_da z2_da ds_da] :: dq :: dr))] 75])) (fun ((j, c1, us1, nq, js1, cs1) : Nat × CM × List Us × Bool × List Nat × List (Option Vec)) => UV c1.us.isEmpty (List.zipWith uv c1.us js1) :: NS c1.lits :: NS c1.names :: NS c1.sels :: cs1) ((0, s2.1, s2.2, nl', js3, cs3)) (by (try dsimp only); exact ⟨Nat.zero_le _, hm, by have h9 := hgr.2; simp only [List.drop_zero] at h9 ⊢; omega, hI3, Nat.lt_of_lt_of_le hu hgr.1, hn3⟩) (by simp <;> omega) (by simp) (by simp) ?_
    intro ⟨j, c1, us1, nq, js1, cs1⟩ u w hI ih
    try simp only at hI ih
    obtain ⟨i1, i2, i3, i4, i5, i6⟩ := hI
    by_cases hj : j < dr.length
    ·obtain ⟨m1, hm1⟩ : ∃ m1, (q :: r')[j]? = some m1 := ⟨_, List.getElem?_eq_getElem (by simp; omega)⟩
     obtain ⟨y2, hy2⟩ : ∃ y2, (q :: r')[j + 1]? = some y2 := ⟨_, List.getElem?_eq_getElem (by simp; omega)⟩
     obtain ⟨dm, hdm, hdmr⟩ := h5'.at hm1
     have hmj : md[j]? = some dm := by rw [← hmd, List.getElem?_take_of_lt hj]; exact hdm
     have hmjE : ∀ h, md[j]'h = dm := fun h => by rw [List.getElem?_eq_getElem h] at hmj; simpa using hmj
     have hj' : (j : Int) < dr.length := by omega
     have hII : inI ((j : Int) + 1) = true := inI_of (by omega) (by simp at hl2; omega)
     have hmem := List.mem_of_getElem? hm1
     rw [nd_drop hm1, nd_drop hy2, mkD_cons, mkM_eq] at i2
     rw [nd_drop hm1] at i3
     simp only [ndL] at i3
     have hcm := Nd.count m1
     cases hp2 : mkL litB un m1.kids (addS un (11, 0, 0) c1, us1) with
     | none => rw [hp2] at i2; simp at i2
     | some s4 =>
      rw [hp2] at i2
      simp only [Option.map_some, Option.bind_some] at i2
      have hgL := mkL_gr hp2
      have hgS := sendC_gr un (supS a) m1.t m1.kids.length s4.1
      have hg1 := addS_gr un (11, 0, 0) c1
      have hg2 := addS_gr un (12, 0, 0) (sendC un (supS a) m1.t m1.kids.length s4.1)
      have hsz := hgL.2
      have hsz2 := hgS.2
      have hsz3 := hg1.2
      have hsz4 := hg2.2
      simp only at hsz
      obtain ⟨nl1_m, z1_m, nl2_m, z2_m, ds_m, hv_m, ha_m, hb_m, hc_m, hd_m, he_m⟩ := hdmr.shape
      subst hv_m
      simp [TB, hj, hj', hmjE, hml]
      refine ATT.callT Tryz.func74 60 (add_ok sel c1 (uzD nq us1) js1 _ (cs1 ++ w) (i4.more w) un i5 (by omega) 11 0 0) ?_ ?_ ?_ fun out hC hE => ?_
      iterate 3 · simp
      obtain ⟨e1, js5, b5, cs5, e2, hI5⟩ := hE
      subst e1 e2
      simp
      refine ATT.callRT Tryz.func74 60 (f106_ok m1.kids (hkk m1 hmem) (hkn m1 hmem) sel (addS un (11, 0, 0) c1) us1 nq js5 _ cs5 un s4 a _ m1.t nl2_m z2_m ds_m hI5 (Nat.lt_of_lt_of_le i5 hg1.1) (by omega) i6 hp2 had' hc_m hd_m he_m) ?_ ?_ ?_ fun out hC hE => ?_
      iterate 3 · simp
      obtain ⟨nl6, ⟨e1, js6, b6, cs6, e2, hI6⟩, hn6⟩ := hE
      subst e1 e2
      simp [TB]
      refine ATT.callT Tryz.func74 60 (add_ok sel (sendC un (supS a) m1.t m1.kids.length s4.1) (uzD nl6 s4.2) js6 _ cs6 hI6 un (Nat.lt_of_lt_of_le i5 (Nat.le_trans hg1.1 (Nat.le_trans hgL.1 hgS.1))) (by omega) 12 0 0) ?_ ?_ ?_ fun out hC hE => ?_
      iterate 3 · simp
      obtain ⟨e1, js7, b7, cs7, e2, hI7⟩ := hE
      subst e1 e2
      simp [TB, hII]
      refine ih (j + 1, addS un (12, 0, 0) (sendC un (supS a) m1.t m1.kids.length s4.1), s4.2, nl6, js7, cs7) (by first | ((try dsimp only); omega) | (simp [hdl, hj, hj', hmj, hmjE, hII, hml] <;> omega)) (by (try dsimp only); exact ⟨hj, by rw [nd_drop hy2]; exact i2, by rw [nd_drop hy2]; simp only [ndL]; rw [nd_drop hy2] at i3; simp only [ndL] at i3; omega, hI7, Nat.lt_of_lt_of_le i5 (Nat.le_trans hg1.1 (Nat.le_trans hgL.1 (Nat.le_trans hgS.1 hg2.1))), hn6⟩) _ _ _ (by simp <;> omega) (by simp <;> omega) (by simp <;> omega)
    ·have hj' : ¬ (j : Int) < dr.length := by omega
     have hje : j = dr.length := by omega
     subst hje
     obtain ⟨m1, hm1⟩ : ∃ m1, (q :: r')[dr.length]? = some m1 := ⟨_, List.getElem?_eq_getElem (by simp; omega)⟩
     obtain ⟨dm, hdm, hdmr⟩ := h5'.at hm1
     have hdmE : ∀ h, (dq :: dr)[dr.length]'h = dm := fun h => by rw [List.getElem?_eq_getElem h] at hdm; simpa using hdm
     have hmem := List.mem_of_getElem? hm1
     have hnil : (q :: r').drop (dr.length + 1) = [] := List.drop_eq_nil_of_le (by simp; omega)
     rw [nd_drop hm1, hnil] at i2 i3
     simp only [mkD, mkM_eq] at i2
     simp only [ndL] at i3
     have hcm := Nd.count m1
     cases hp2 : mkL litB un m1.kids (c1, us1) with
     | none => rw [hp2] at i2; simp at i2
     | some s4 =>
      rw [hp2] at i2
      simp only [Option.map_some, Option.some.injEq] at i2
      subst i2
      have hiR : inR ((dr.length : Int) + 1) (dr.length + 1 + 1) = true := inR_of (by omega) (by omega)
      obtain ⟨nl1_m, z1_m, nl2_m, z2_m, ds_m, hv_m, ha_m, hb_m, hc_m, hd_m, he_m⟩ := hdmr.shape
      subst hv_m
      have h0i : (0 : Int) ≤ (dr.length : Int) + 1 := by omega
      simp [TB, hj', hdmE, h0i]
      refine ATT.callRT Tryz.func74 60 (f106_ok m1.kids (hkk m1 hmem) (hkn m1 hmem) sel c1 us1 nq js1 _ (cs1 ++ w) un s4 a _ m1.t nl2_m z2_m ds_m (i4.more w) i5 (by omega) i6 hp2 had' hc_m hd_m he_m) ?_ ?_ ?_ fun out hC hE => ?_
      iterate 3 · simp
      obtain ⟨nl6, ⟨e1, js6, b6, cs6, e2, hI6⟩, hn6⟩ := hE
      subst e1 e2
      simp
      refine ATT.fin02 hQ Tryz.func74 ?_
      exact ⟨by simp, nl6, ⟨rfl, js6, _, cs6, rfl, hI6⟩, hn6⟩
  by_cases k10 : x.k = 10
  ·have e : mkP litB un x (c, us) = (mkS litB c.us.length 0 x.kids (newU x.n x.names.length (addS un (10, c.us.length, 0) c), us)).map fun s => (doneU c.us.length false x.kids.length s, s.1.2) := by cases x; simp only [Nd.k] at k5 k6 k7 k8 k10 k14; simp only [mkP, Nd.kids, Nd.n, Nd.names]; rw [if_neg k14, if_neg k5, if_neg k6, if_neg k7, if_neg k8, if_pos k10]
   have hal : (addS un (10, c.us.length, 0) c).us.length = c.us.length := by simp [addS]
   have haz := (addS_gr un (10, c.us.length, 0) c).2
   rw [e] at hm
   cases hp : mkS litB c.us.length 0 x.kids (newU x.n x.names.length (addS un (10, c.us.length, 0) c), us) with
   | none => rw [hp] at hm; simp at hm
   | some s2 =>
    rw [hp] at hm
    simp only [Option.map_some, Option.some.injEq] at hm
    subst hm
    have hU := f48_ok x hg hf (fun y h1 h2 h3 => ihn y (by omega) h2 h3) sel (addS un (10, c.us.length, 0) c) us nl
    have hfl : (decide (x.k = 12) && !decide (x.t = ⟨#[]⟩)) = false := by rw [k10]; rfl
    rw [hfl, hal] at hU
    have hmin : min c.us.length js.length = c.us.length := by have := hI.1; omega
    refine AF.go Tryz.func74 [(6, [oD 10 [(7, [0, 1, 2, 3, 4, 5]), (8, [0, 1])]]), (17, [oD 12 []]), (25, [oD 11 []]), (28, [oD 19 []])] fun tb TB Q hQ => ?_
    simp [TB, k10, hmin]
    refine ATT.callT Tryz.func74 60 (add_ok sel c (uzD nl us) js _ cs hI un hu (by omega) 10 c.us.length 0) ?_ ?_ ?_ fun out hC hE => ?_
    iterate 3 · simp
    obtain ⟨e1, js3, b3, cs3, e2, hI3⟩ := hE
    subst e1 e2
    simp [TB]
    refine ATT.callT Tryz.func74 60 (hU js3 _ cs3 s2 _ hI3 (by omega) hnl hp hud0) ?_ ?_ ?_ fun out hC hE => ?_
    iterate 3 · simp [k10]
    obtain ⟨nl4, ⟨e1, js4, b4, cs4, e2, hI4⟩, hn4⟩ := hE
    subst e1 e2
    simp
    refine ATT.fin02 hQ Tryz.func74 ?_
    exact ⟨by simp, nl4, ⟨rfl, js4, _, cs4, rfl, hI4⟩, hn4⟩
  have e : mkP litB un x (c, us) = some (c, us) := by cases x; simp only [Nd.k] at k5 k6 k7 k8 k10 k14; simp only [mkP]; rw [if_neg k14, if_neg k5, if_neg k6, if_neg k7, if_neg k8, if_neg k10]
  rw [e] at hm
  simp only [Option.some.injEq] at hm
  subst hm
  refine AF.go Tryz.func74 [(6, [oD 10 [(7, [0, 1, 2, 3, 4, 5]), (8, [0, 1])]]), (17, [oD 12 []]), (25, [oD 11 []]), (28, [oD 19 []])] fun tb TB Q hQ => ?_
  simp [TB, k1, k2, k3, k4, k5, k6, k7, k8, k10]
  refine ATT.fin02 hQ Tryz.func74 ?_
  exact ⟨by simp, nl, ⟨rfl, js, _, cs, rfl, hI⟩, hnl⟩
end Go.SL
namespace Go.SL
open Go.Proofs
set_option maxRecDepth 10000
theorem sbyte_appL {s t : ByteArray} {i : Nat} (h : i < s.size) : sbyte (s ++ t) i = sbyte s i := by
 have h' : i < s.data.toList.length := h
 simp only [sbyte, ByteArray.data_append, Array.toList_append, List.getD_eq_getElem?_getD, Int.toNat_natCast]
 rw [List.getElem?_append_left h']
theorem sbyte_appR {s t : ByteArray} {i : Nat} : sbyte (s ++ t) (s.size + i : Nat) = sbyte t i := by
 have h' : s.data.toList.length = s.size := rfl
 simp only [sbyte, ByteArray.data_append, Array.toList_append, List.getD_eq_getElem?_getD, Int.toNat_natCast]
 rw [List.getElem?_append_right (by omega), h', Nat.add_sub_cancel_left]
theorem cnt_appL {s t : ByteArray} : ∀ {i : Nat}, i ≤ s.size → cnt (s ++ t) i = cnt s i
 | 0, _ => rfl
 | i + 1, h => by simp only [cnt]; rw [cnt_appL (by omega), sbyte_appL (by omega)]
theorem cnt_app {s t : ByteArray} : ∀ i : Nat, cnt (s ++ t) (s.size + i) = cnt s s.size + cnt t i
 | 0 => by simp [cnt, cnt_appL (Nat.le_refl _)]
 | i + 1 => by
  rw [← Nat.add_assoc]
  simp only [cnt]
  rw [cnt_app i, sbyte_appR]; omega
theorem skip_app {p : Int → Bool} {s t : ByteArray} : ∀ m i, s.size - i = m → skipS p s i < s.size → skipS p (s ++ t) i = skipS p s i := by
 intro m
 induction m with
 | zero =>
  intro i hm h
  have : skipS p s i = i := by rw [skipS, dif_neg (by omega)]
  omega
 | succ m ih =>
  intro i hm h
  have hi : i < s.size := by omega
  have hi2 : i < (s ++ t).size := by simp; omega
  have e1 : skipS p s i = if p (sbyte s i) then skipS p s (i + 1) else i := by rw [skipS, dif_pos hi]
  have e2 : skipS p (s ++ t) i = if p (sbyte s i) then skipS p (s ++ t) (i + 1) else i := by rw [skipS, dif_pos hi2, sbyte_appL hi]
  rw [e1] at h
  rw [e1, e2]
  split
  ·rename_i hp
   rw [if_pos hp] at h
   exact ih (i + 1) (by omega) h
  ·rfl
def KeyN (s : ByteArray) (n : Nat) : Prop := (n = 0 → s = ⟨#[]⟩) ∧ cnt s s.size = n ∧ (0 < n → letterS (sbyte s 0) = true ∧ nameS s 0 < s.size)
theorem KeyN.zero : KeyN ⟨#[]⟩ 0 := ⟨fun _ => rfl, rfl, fun h => absurd h (by decide)⟩
theorem KeyN.args {s : ByteArray} {n : Nat} (h0 : 0 < n) (h : KeyN s n) : argsN s = n := by
 obtain ⟨_, h2, h3⟩ := h
 have h4 := h3 h0
 have hp : plainB s = false := by unfold plainB; simp; intro _ _; omega
 have hz : 0 < s.size := by omega
 have hp2 : plainB (s.extract 0 1) = true := by
  have hs : (s.extract 0 1).size = 1 := by simp; omega
  have hb : sbyte (s.extract 0 1) 0 = sbyte s 0 := by
   have := sbyte_sub (s := s) (i := 0) (j := 1) (k := 0) (by omega) (by omega)
   simpa [subT] using this
  unfold plainB nameS
  rw [hs, hb, h4.1]
  simp only [Nat.lt_add_one, decide_true, Bool.true_and, Bool.and_true, decide_eq_true_eq]
  rw [skipS, dif_pos (by rw [hs]; decide)]
  simp only [Int.natCast_zero, hb, identS, h4.1, Bool.true_or, if_true]
  rw [skipS, dif_neg (by rw [hs]; decide)]
 unfold argsN
 rw [hp, hp2, h2]
 simp
theorem KeyN.app {s t : ByteArray} {n : Nat} (h : KeyN s n) (g : KeyN t 1) : KeyN (s ++ t) (n + 1) := by
 obtain ⟨h1, h2, h3⟩ := h
 obtain ⟨_, g2, g3⟩ := g
 refine ⟨fun e => by omega, ?_, fun _ => ?_⟩
 ·have e : (s ++ t).size = s.size + t.size := by simp
  rw [e, cnt_app, h2, g2]
 ·cases n with
  | zero =>
   have := h1 rfl
   subst this
   have e : (⟨#[]⟩ ++ t : ByteArray) = t := ByteArray.empty_append
   rw [e]
   exact g3 (by decide)
  | succ n =>
   have h4 := h3 (by omega)
   have hz : 0 < s.size := by omega
   have hl : sbyte (s ++ t) 0 = sbyte s 0 := sbyte_appL (i := 0) hz
   refine ⟨by rw [hl]; exact h4.1, ?_⟩
   have hn : nameS (s ++ t) 0 = nameS s 0 := by
    have hn0 := h4.2
    unfold nameS at hn0 ⊢
    rw [Int.natCast_zero, hl, h4.1]
    rw [Int.natCast_zero, h4.1] at hn0
    have hz2 : 0 < (s ++ t).size := by simp; omega
    simp only [hz, hz2, decide_true, Bool.true_and, if_true] at hn0 ⊢
    exact skip_app _ 0 rfl hn0
   rw [hn]
   have := h4.2
   simp; omega
end Go.SL
namespace Go.SL
open Go.Proofs
set_option maxRecDepth 10000
theorem skip_to {p : Int → Bool} {s : ByteArray} {m : Nat} (hm : m ≤ s.size) (hn : m < s.size → p (sbyte s m) = false) : ∀ n i, m - i = n → i ≤ m → (∀ j : Nat, i ≤ j → j < m → p (sbyte s j) = true) → skipS p s i = m := by
 intro n
 induction n with
 | zero =>
  intro i h1 h2 h3
  have e : i = m := by omega
  subst e
  rw [skipS]
  split
  ·rename_i h
   rw [if_neg (by rw [hn h]; simp)]
  ·rfl
 | succ n ih =>
  intro i h1 h2 h3
  rw [skipS, dif_pos (by omega), if_pos (h3 i (Nat.le_refl _) (by omega))]
  exact ih (i + 1) (by omega) (by omega) fun j a b => h3 j (by omega) b
theorem cnt_none {s : ByteArray} : ∀ i : Nat, (∀ j : Nat, j < i → sbyte s j ≠ 58) → cnt s i = 0
 | 0, _ => rfl
 | i + 1, h => by simp only [cnt]; rw [cnt_none i fun j hj => h j (by omega), if_neg (h i (by omega))]
theorem ident58 {c : Int} (h : identS c = true) : c ≠ 58 := fun e => by subst e; exact absurd h (by decide)
theorem name_all {s : ByteArray} {i : Nat} (hl : letterS (sbyte s i) = true) (hi : i < s.size) : i < nameS s i ∧ nameS s i ≤ s.size ∧ ∀ j : Nat, i ≤ j → j < nameS s i → identS (sbyte s j) = true := by
 have e : nameS s i = skipS identS s i := by unfold nameS; rw [if_pos (by simp [hl, hi])]
 refine ⟨(nameS_gt s i).2 (by simp [hl, hi]), (nameS_le s i).2 (by omega), fun j a b => ?_⟩
 rw [e] at b
 exact skipS_all _ i rfl j a b
theorem name_args {s : ByteArray} {i : Nat} (hl : letterS (sbyte s i) = true) (hi : i < s.size) : argsN (subT s i (nameS s i)) = 0 := by
 obtain ⟨h1, h2, h3⟩ := name_all hl hi
 generalize nameS s i = e at *
 have hz : (subT s i e).size = e - i := subT_size (by omega) h2
 have hb : sbyte (subT s i e) 0 = sbyte s i := by
  have := sbyte_sub (s := s) (i := i) (j := e) (k := 0) (by omega) h2
  simpa using this
 have hn : nameS (subT s i e) 0 = (subT s i e).size := by
  unfold nameS
  rw [if_pos (by rw [Int.natCast_zero, hb, hl, hz]; simp; omega)]
  refine skip_to (Nat.le_refl _) (fun h => absurd h (Nat.lt_irrefl _)) _ 0 rfl (Nat.zero_le _) fun j _ hj => ?_
  rw [hz] at hj
  rw [sbyte_sub (by omega) h2]
  exact h3 _ (by omega) (by omega)
 have hp : plainB (subT s i e) = true := by unfold plainB; rw [hb, hl, hn, hz]; simp; omega
 unfold argsN
 rw [if_pos hp]
theorem colon_at {s : ByteArray} {e : Nat} (h : colonS s e = true) : e < s.size ∧ sbyte s e = 58 := by
 unfold colonS atS at h
 simp only [Bool.and_eq_true, decide_eq_true_eq] at h
 have h1 := h.1
 split at h1
 ·rename_i h2; exact ⟨h2, h1⟩
 ·exact absurd h1 (by decide)
theorem key_one {s : ByteArray} {i : Nat} (hl : letterS (sbyte s i) = true) (hi : i < s.size) (hc : colonS s (nameS s i) = true) : KeyN (subT s i (nameS s i + 1)) 1 := by
 obtain ⟨h1, h2, h3⟩ := name_all hl hi
 obtain ⟨c1, c2⟩ := colon_at hc
 generalize nameS s i = e at *
 have hz : (subT s i (e + 1)).size = e + 1 - i := subT_size (by omega) (by omega)
 have hb : ∀ j : Nat, j < e + 1 - i → sbyte (subT s i (e + 1)) j = sbyte s (i + j : Nat) := fun j hj => sbyte_sub (by omega) (by omega)
 have hlast : sbyte (subT s i (e + 1)) (e - i : Nat) = 58 := by rw [hb _ (by omega), show i + (e - i) = e by omega]; exact c2
 have hid : ∀ j : Nat, j < e - i → identS (sbyte (subT s i (e + 1)) j) = true := fun j hj => by rw [hb j (by omega)]; exact h3 _ (by omega) (by omega)
 have h0 : sbyte (subT s i (e + 1)) 0 = sbyte s i := by have := hb 0 (by omega); simpa using this
 have hn : nameS (subT s i (e + 1)) 0 = e - i := by
  unfold nameS
  rw [if_pos (by rw [Int.natCast_zero, h0, hl, hz]; simp; omega)]
  exact skip_to (by omega) (fun _ => by rw [hlast]; decide) _ 0 rfl (Nat.zero_le _) fun j _ hj => hid j hj
 refine ⟨fun h => absurd h (by decide), ?_, fun _ => ⟨by rw [h0]; exact hl, by rw [hn, hz]; omega⟩⟩
 rw [hz, show e + 1 - i = (e - i) + 1 by omega]
 simp only [cnt]
 rw [cnt_none _ fun j hj => ident58 (hid j hj), hlast]; rfl
theorem sign_args {s : ByteArray} {i : Nat} (hl : letterS (sbyte s i) = false) (hi : i < s.size) (hg : signS (sbyte s i) = true) : argsN (subT s i (signsS s i)) = 1 := by
 have h1 : i < signsS s i := by unfold signsS; rw [if_pos (by simp [hi, hg])]; split <;> omega
 have h2 := (signsS_le s i).2 (by omega)
 generalize signsS s i = e at *
 have hz : (subT s i e).size = e - i := subT_size (by omega) h2
 have hb : sbyte (subT s i e) 0 = sbyte s i := by
  have := sbyte_sub (s := s) (i := i) (j := e) (k := 0) (by omega) h2
  simpa using this
 have hb2 : sbyte ((subT s i e).extract 0 1) 0 = sbyte s i := by
  have := sbyte_sub (s := subT s i e) (i := 0) (j := 1) (k := 0) (by omega) (by omega)
  simp only [Nat.add_zero, Int.natCast_zero, subT] at this
  rw [show (subT s i e).extract 0 1 = (s.extract i e).extract 0 1 from rfl, this]
  exact hb
 have hp : plainB (subT s i e) = false := by unfold plainB; rw [hb, hl]; simp
 have hp2 : plainB ((subT s i e).extract 0 1) = false := by unfold plainB; rw [hb2, hl]; simp
 unfold argsN
 rw [hp, hp2, hz]
 simp; omega
def QA : ByteArray → Nat → Prop := fun t m => argsN t = m ∧ t.size ≤ 4096 * (m + 1)
def KeyB (s : ByteArray) (n : Nat) : Prop := KeyN s n ∧ s.size ≤ 4096 * n
theorem KeyB.zero : KeyB ⟨#[]⟩ 0 := ⟨KeyN.zero, by decide⟩
theorem KeyB.args {s : ByteArray} {n : Nat} (h0 : 0 < n) (h : KeyB s n) : QA s n := ⟨h.1.args h0, by have := h.2; omega⟩
theorem KeyB.app {s t : ByteArray} {n : Nat} (h : KeyB s n) (g : KeyB t 1) : KeyB (s ++ t) (n + 1) := ⟨h.1.app g.1, by have := h.2; have := g.2; simp; omega⟩
def tkF (k : Int) (t : ByteArray) : Prop := (k = 1 → QA t 0) ∧ (k = 3 → QA t 1) ∧ (k = 2 → KeyB t 1)
theorem word_tk {num : ByteArray → Bool} {s : ByteArray} {i : Nat} {k : Int} {t : ByteArray} {e : Nat} (hs : s.size ≤ 4096) (hi : i < s.size) (h : wordS num s i = some (k, t, e)) : tkF k t := by
 have no : ∀ {k' : Int} {t' : ByteArray}, (k' ≠ 1 ∧ k' ≠ 3 ∧ k' ≠ 2) → tkF k' t' := fun h => ⟨fun e => absurd e h.1, fun e => absurd e h.2.1, fun e => absurd e h.2.2⟩
 unfold wordS at h
 split at h
 ·rename_i hl
  split at h
  ·rename_i hc
   simp only [Option.some.injEq, Prod.mk.injEq] at h
   obtain ⟨e1, e2, _⟩ := h
   subst e1 e2
   exact ⟨fun e => absurd e (by decide), fun e => absurd e (by decide), fun _ => ⟨key_one hl hi hc, by have := subT_le s i (nameS s i + 1); omega⟩⟩
  ·simp only [Option.some.injEq, Prod.mk.injEq] at h
   obtain ⟨e1, e2, _⟩ := h
   subst e1 e2
   exact ⟨fun _ => ⟨name_args hl hi, by have := subT_le s i (nameS s i); omega⟩, fun e => absurd e (by decide), fun e => absurd e (by decide)⟩
 rename_i hl
 have hl' : letterS (sbyte s i) = false := by simpa using hl
 split at h
 ·split at h
  ·simp only [Option.some.injEq, Prod.mk.injEq] at h
   rw [← h.1]; exact no (by decide)
  ·simp at h
 split at h
 ·split at h
  ·simp only [Option.some.injEq, Prod.mk.injEq] at h
   rw [← h.1]; exact no (by decide)
  ·simp at h
 split at h
 ·split at h
  ·simp only [Option.some.injEq, Prod.mk.injEq] at h
   rw [← h.1]; exact no (by decide)
  ·split at h
   ·simp only [Option.some.injEq, Prod.mk.injEq] at h
    rw [← h.1]; exact no (by decide)
   ·simp at h
 split at h
 ·split at h
  ·simp only [Option.some.injEq, Prod.mk.injEq] at h
   rw [← h.1]; exact no (by decide)
  ·simp only [Option.some.injEq, Prod.mk.injEq] at h
   rw [← h.1]; exact no (by decide)
 split at h
 ·rename_i hg
  simp only [Option.some.injEq, Prod.mk.injEq] at h
  obtain ⟨e1, e2, _⟩ := h
  subst e1 e2
  exact ⟨fun e => absurd e (by decide), fun _ => ⟨sign_args hl' hi hg, by have := subT_le s i (signsS s i); omega⟩, fun e => absurd e (by decide)⟩
 split at h
 ·rename_i hp
  simp only [Option.some.injEq, Prod.mk.injEq] at h
  rw [← h.1]
  exact no ⟨by omega, by omega, by omega⟩
 ·simp at h
theorem lexS_tf {num : ByteArray → Bool} {s : ByteArray} (hs : s.size ≤ 4096) : ∀ m i l, s.size - i = m → lexS num s i = .inl l → TF QA KeyB l := by
 intro m
 induction m using Nat.strongRecOn with
 | ind m ih =>
  intro i l hm h
  rw [lexS_eq] at h
  have h1 := skipS_le blankS s _ i rfl
  split at h
  ·rename_i hlt
   split at h
   ·split at h
    ·rename_i hq
     have h2 := skipS_le notQ s _ (skipS blankS s i + 1) rfl
     exact ih _ (by omega) _ _ rfl h
    ·simp at h
   ·split at h
    ·rename_i k t e hw
     have hwl := wordS_lt hlt hw
     rw [if_pos hwl.1] at h
     split at h
     ·rename_i l' hl'
      simp only [Sum.inl.injEq] at h
      subst h
      have g := ih _ (by have := hwl.1; omega) _ _ rfl hl'
      intro y hy
      simp only [List.mem_cons] at hy
      rcases hy with hy | hy
      ·subst hy
       have hk := word_tk hs hlt hw
       exact ⟨hk.1, hk.2.1, fun e s n hs => hs.app (hk.2.2 e)⟩
      ·exact g y hy
     ·simp at h
    ·simp at h
  ·simp only [Sum.inl.injEq] at h
   subst h
   intro y hy
   simp at hy
   subst hy
   exact ⟨fun e => by simp at e, fun e => by simp at e, fun e => by simp at e⟩
theorem patKeysS_args : ∀ {n : Nat} {s : ByteArray} {acc : List ByteArray} {l : List Tk} {x r}, TF QA KeyB l → KeyB s acc.length → patKeysS n s acc l = .ok x r → TF QA KeyB r ∧ KeyB x.1 x.2.length ∧ acc.length ≤ x.2.length ∧ (kd l = 2 → acc.length < x.2.length)
 | 0, s, acc, l, x, r, t, hs, e => by simp [patKeysS] at e
 | n + 1, s, acc, l, x, r, t, hs, e => by
  simp only [patKeysS] at e
  split at e
  ·rename_i hk
   obtain ⟨w, l', el, hw, ht, _, _, q⟩ := t.at hk (by decide)
   split at e
   ·have h3 := patKeysS_args t.tail.tail (by rw [ht]; simpa using q hw s _ hs) e
    have := h3.2.2.1
    simp at this
    exact ⟨h3.1, h3.2.1, by omega, fun _ => by omega⟩
   ·simp at e
  ·rename_i hk
   simp only [Res.ok.injEq] at e
   obtain ⟨e1, e2⟩ := e
   subst e1 e2
   exact ⟨t, hs, Nat.le_refl _, fun h => absurd h hk⟩
theorem patS_args {n : Nat} {l : List Tk} {x r} (t : TF QA KeyB l) (e : patS n l = .ok x r) : TF QA KeyB r ∧ QA x.1 x.2.length := by
 simp only [patS] at e
 split at e
 ·rename_i hk
  obtain ⟨w, l', el, hw, ht, q, _⟩ := t.at hk (by decide)
  simp only [Res.ok.injEq] at e
  rw [← e.1, ← e.2, ht]
  exact ⟨t.tail, q hw⟩
 split at e
 ·rename_i hk
  obtain ⟨w, l', el, hw, ht, _, q, _⟩ := t.at hk (by decide)
  split at e
  ·simp only [Res.ok.injEq] at e
   rw [← e.1, ← e.2, ht]
   exact ⟨t.tail.tail, q hw⟩
  ·simp at e
 split at e
 ·rename_i hk
  have h := patKeysS_args (acc := []) t KeyB.zero e
  exact ⟨h.1, h.2.1.args (h.2.2.2 hk)⟩
 ·simp at e
theorem parse_fits {num : ByteArray → Bool} {m : Bool} {s : ByteArray} {x : Nd} {r : List Tk} (h : parseD num m s = .ok x r) : Good QA x ∧ x.k = 12 ∧ (m = false → x.t = ⟨#[]⟩) ∧ (m = true → QA x.t x.n) := by
 unfold parseD at h
 split at h
 ·simp at h
 ·split at h
  ·rename_i hs l hl
   have hwf := lexS_wf (by omega) hl
   have htf := lexS_tf (by omega) _ 0 l rfl hl
   unfold uniS at h
   obtain ⟨p, r1, e1, e2⟩ := andThen_ok h
   obtain ⟨b, r2, e3, e4⟩ := andThen_ok e2
   simp only [Res.ok.injEq] at e4
   have h1 := headS_wf hwf e1
   have h2 := h1.2
   have hh : TF QA KeyB r1 ∧ (m = false → p.1 = ⟨#[]⟩) ∧ (m = true → QA p.1 p.2.length) := by
    cases m with
    | true =>
     have := patS_args htf e1
     exact ⟨this.1, fun e => by simp at e, fun _ => this.2⟩
    | false =>
     simp only [headS, Bool.false_eq_true, if_false, Res.ok.injEq] at e1
     rw [← e1.1, ← e1.2]
     exact ⟨htf, fun _ => rfl, fun e => by simp at e⟩
   have hg := (presG (Q := QA) (K := KeyB) KeyB.zero (fun s n h0 hK => hK.args h0) (fuel l)).body h1.1 hh.1 e3
   rw [← e4.1]
   simp only [Good, Good1]
   exact ⟨⟨⟨by simp; omega, by omega, by simp, fun e => by simp at e, fun e => by simp at e, fun e => by simp at e, fun e => by simp at e⟩, hg.1⟩, rfl, hh.2.1, hh.2.2⟩
  ·simp at h
end Go.SL
namespace Go.SL
def ek (k : Int) : Prop := k = 1 ∨ k = 2 ∨ k = 3 ∨ k = 4 ∨ k = 5 ∨ k = 6 ∨ k = 7 ∨ k = 8 ∨ k = 10
mutual
def Kin : Nd → Prop
 | .mk k _ _ _ _ kids => (k = 6 ∨ k = 7 ∨ k = 9 ∨ k = 11 → ∀ y ∈ kids, ek y.k) ∧ ((k = 8 → ∀ y ∈ kids.head?, ek y.k) ∧ (k = 7 → kids ≠ [])) ∧ (k = 10 ∨ k = 12 → ∀ y ∈ kids, ek y.k ∨ y.k = 11) ∧ KinL kids
def KinL : List Nd → Prop
 | [] => True
 | x :: r => Kin x ∧ KinL r
end
theorem KinL.iff : ∀ {l : List Nd}, KinL l ↔ ∀ x ∈ l, Kin x
 | [] => by simp [KinL]
 | x :: r => by simp [KinL, KinL.iff (l := r)]
theorem KinL.snoc {a : List Nd} {x : Nd} (h : KinL a) (g : Kin x) : KinL (a ++ [x]) := KinL.iff.2 fun y hy => by
 rcases List.mem_append.1 hy with hy | hy
 ·exact KinL.iff.1 h y hy
 ·simp at hy; subst hy; exact g
theorem Nd.kin {x : Nd} (h : Kin x) : KinL x.kids := by cases x; simp only [Kin] at h; exact h.2.2.2
theorem Kin.leaf {k : Int} {t : ByteArray} {a n : Nat} {l : List ByteArray} (h : k ≠ 7) : Kin (.mk k t a n l []) := by
 simp only [Kin, KinL]; exact ⟨fun _ y hy => by simp at hy, ⟨fun _ y hy => by simp at hy, fun e => absurd e h⟩, fun _ y hy => by simp at hy, trivial⟩
mutual
theorem LitP.kin : ∀ {x : Nd}, LitP x → Kin x
 | .mk k t a n names kids, h => by
  simp only [LitP] at h
  simp only [Kin]
  exact ⟨fun e => by omega, ⟨fun e => by omega, fun e => by omega⟩, fun e => by omega, LitL.kin h.2⟩
theorem LitL.kin : ∀ {l : List Nd}, LitL l → KinL l
 | [], _ => by simp [KinL]
 | x :: r, h => by
  simp only [LitL] at h
  simp only [KinL]
  exact ⟨h.1.kin, LitL.kin h.2⟩
end
def EK (x : Nd) : Prop := ek x.k ∧ Kin x
def EL (l : List Nd) : Prop := (∀ y ∈ l, ek y.k) ∧ KinL l
theorem EL.snoc {a : List Nd} {x : Nd} (h : EL a) (g : EK x) : EL (a ++ [x]) := ⟨fun y hy => by
 rcases List.mem_append.1 hy with hy | hy
 ·exact h.1 y hy
 ·simp at hy; subst hy; exact g.1, h.2.snoc g.2⟩
theorem EL.nil : EL [] := ⟨fun y hy => by simp at hy, by simp [KinL]⟩
theorem EK.sent {x m : Nd} (h : EK x) (hk : m.k = 9) (g : Kin m) : EK (sentS x m) := by
 refine ⟨by simp [sentS, Nd.k, ek], ?_⟩
 have g1 : ∀ y ∈ m.kids, ek y.k := by cases m; simp only [Kin] at g; exact g.1 (.inr (.inr (.inl hk)))
 simp only [sentS, Kin, KinL]
 refine ⟨fun _ y hy => ?_, ⟨fun e => by simp at e, fun _ => by simp⟩, fun e => by simp at e, h.2, Nd.kin g⟩
 rcases List.mem_cons.1 hy with hy | hy
 ·subst hy; exact h.1
 ·exact g1 y hy
def SL2 (l : List Nd) : Prop := (∀ y ∈ l, ek y.k ∨ y.k = 11) ∧ KinL l
theorem SL2.snoc {a : List Nd} {x : Nd} (h : SL2 a) (g : (ek x.k ∨ x.k = 11) ∧ Kin x) : SL2 (a ++ [x]) := ⟨fun y hy => by
 rcases List.mem_append.1 hy with hy | hy
 ·exact h.1 y hy
 ·simp at hy; subst hy; exact g.1, h.2.snoc g.2⟩
structure PresK (n : Nat) : Prop where
 expr : ∀ d l, OkP (fun x _ => EK x) (exprS n d l)
 casc : ∀ d l, OkP (fun x _ => EK x) (cascS n d l)
 semis : ∀ d a l, KinL a → OkP (fun x _ => KinL x) (semisS n d a l)
 msg : ∀ d l, OkP (fun x _ => x.k = 9 ∧ Kin x) (msgS n d l)
 keys : ∀ d s a l, EL a → OkP (fun x _ => EL x.2) (keysS n d s a l)
 keyed : ∀ d l, OkP (fun x _ => EK x.1) (keyedS n d l)
 binary : ∀ d l, OkP (fun x _ => EK x.1) (binaryS n d l)
 unary : ∀ d l, OkP (fun x _ => EK x.1) (unaryS n d l)
 chain : ∀ d c y l, EK y.1 → OkP (fun x _ => EK x.1) (chainS n d c y l)
 prim : ∀ d l, OkP (fun x _ => EK x.1) (primS n d l)
 list : ∀ d l, OkP (fun x _ => EK x) (listS n d l)
 elems : ∀ d a l, KinL a → OkP (fun x _ => KinL x) (elemsS n d a l)
 elem : ∀ d l, OkP (fun x _ => Kin x) (elemS n d l)
 block : ∀ d l, OkP (fun x _ => EK x) (blockS n d l)
 body : ∀ d e l, OkP (fun x _ => SL2 x.2) (bodyS n d e l)
 stmts : ∀ d e a l, SL2 a → OkP (fun x _ => SL2 x) (stmtsS n d e a l)
 stmt : ∀ d l, OkP (fun x _ => (ek x.1.k ∨ x.1.k = 11) ∧ Kin x.1) (stmtS n d l)
theorem one_kin {k : Int} {t : ByteArray} {a : Nat} {x : Nd} (hk : k = 6 ∨ k = 9 ∨ k = 11) (h : EK x) : Kin (.mk k t a 0 [] [x]) := by
 simp only [Kin, KinL]
 exact ⟨fun _ y hy => by simp at hy; subst hy; exact h.1, ⟨fun e => by omega, fun e => by omega⟩, fun e => by omega, h.2, trivial⟩
theorem presK : ∀ n, PresK n
 | 0 => by constructor <;> intros <;> (simp only [exprS, cascS, semisS, msgS, keysS, keyedS, binaryS, unaryS, chainS, primS, listS, elemsS, elemS, blockS, bodyS, stmtsS, stmtS]; exact OkP.out)
 | n + 1 => by
  have ih := presK n
  have lf : ∀ {k : Int} {t : ByteArray} {a : Nat}, ek k → k ≠ 7 → EK (.mk k t a 0 [] []) := fun h g => ⟨h, .leaf g⟩
  constructor
  case expr =>
   intro d l
   simp only [exprS]
   split
   ·split
    ·exact OkP.no
    ·exact (ih.expr _ _).then fun x r h => OkP.ok ⟨by simp [Nd.k, ek], one_kin (.inl rfl) h⟩
   ·exact ih.casc _ _
  case casc =>
   intro d l
   simp only [cascS]
   refine (ih.keyed _ _).then fun x r h => ?_
   split
   ·split
    ·rename_i h7
     refine (ih.semis d [] r (by simp [KinL])).then fun y r' g => OkP.ok ⟨by simp [Nd.k, ek], ?_⟩
     have hk := Nd.kin h.2
     have he : ∀ y ∈ x.1.kids, ek y.k := by
      have := h.2
      cases hx : x.1 with
      | mk k t a m names kids =>
       rw [hx] at this h7
       simp only [Kin] at this
       exact this.1 (.inr (.inl h7.1))
     have hd : ∀ y ∈ x.1.kids.drop 1, ek y.k := fun y hy => he y (List.mem_of_mem_drop hy)
     simp only [Kin]
     refine ⟨fun e => by simp at e, ⟨fun _ y hy => ?_, fun e => by simp at e⟩, fun e => by simp at e, KinL.iff.2 fun y hy => ?_⟩
     ·have hn : x.1.kids ≠ [] := by
       have := h.2
       cases hx : x.1 with
       | mk k t a m names kids =>
        rw [hx] at this h7
        simp only [Kin] at this
        exact this.2.1.2 h7.1
      cases hq : x.1.kids with
      | nil => exact absurd hq hn
      | cons q qs => rw [hq] at hy; simp at hy; subst hy; exact he _ (by rw [hq]; simp)
     ·simp only [List.mem_append, List.mem_cons] at hy
      rcases hy with hy | hy | hy
      ·exact KinL.iff.1 hk y (List.mem_of_mem_take hy)
      ·subst hy
       simp only [Kin]
       exact ⟨fun _ => hd, ⟨fun e => by simp at e, fun e => by simp at e⟩, fun e => by simp at e, KinL.iff.2 fun z hz => KinL.iff.1 hk z (List.mem_of_mem_drop hz)⟩
      ·exact KinL.iff.1 g y hy
    ·exact OkP.no
   ·exact OkP.ok h
  case semis =>
   intro d a l ha
   simp only [semisS]
   split
   ·exact (ih.msg _ _).then fun m r hm => ih.semis d _ r (ha.snoc hm.2)
   ·exact OkP.ok ha
  case msg =>
   intro d l
   simp only [msgS]
   split
   ·exact OkP.ok ⟨rfl, .leaf (by decide)⟩
   split
   ·exact (ih.unary _ _).then fun x r h => OkP.ok ⟨rfl, one_kin (.inr (.inl rfl)) h⟩
   split
   ·refine (ih.keys d _ [] l EL.nil).then fun x r h => OkP.ok ⟨rfl, ?_⟩
    simp only [Kin]
    exact ⟨fun _ => h.1, ⟨fun e => by simp at e, fun e => by simp at e⟩, fun e => by simp at e, h.2⟩
   ·exact OkP.no
  case keys =>
   intro d s a l ha
   simp only [keysS]
   split
   ·exact (ih.binary _ _).then fun m r hm => ih.keys d _ _ r (ha.snoc hm)
   ·exact OkP.ok ha
  case keyed =>
   intro d l
   simp only [keyedS]
   refine (ih.binary _ _).then fun x r h => ?_
   split
   ·exact (ih.msg _ _).then fun m r' g => OkP.ok (h.sent g.1 g.2)
   ·exact OkP.ok h
  case binary =>
   intro d l
   simp only [binaryS]
   exact (ih.unary _ _).then fun x r h => ih.chain _ _ _ _ h
  case unary =>
   intro d l
   simp only [unaryS]
   exact (ih.prim _ _).then fun x r h => ih.chain _ _ _ _ h
  case chain =>
   intro d c y l hy
   simp only [chainS]
   split
   ·exact (ih.msg _ _).then fun m r g => ih.chain _ _ _ _ (hy.sent g.1 g.2)
   ·exact OkP.ok hy
  case prim =>
   intro d l
   simp only [primS]
   split
   ·exact OkP.ok (lf (by simp [ek]) (by decide))
   split
   ·exact OkP.ok (lf (by simp [ek]) (by decide))
   split
   ·exact OkP.ok (lf (by simp [ek]) (by decide))
   split
   ·exact OkP.ok (lf (by simp [ek]) (by decide))
   split
   ·exact (ih.list _ _).then fun x r h => OkP.ok h
   split
   ·exact (ih.block _ _).then fun x r h => OkP.ok h
   split
   ·split
    ·exact OkP.no
    ·refine (ih.expr _ _).then fun x r h => ?_
     split
     ·exact OkP.ok h
     ·exact OkP.no
   ·exact OkP.no
  case list =>
   intro d l
   simp only [listS]
   split
   ·exact OkP.no
   ·refine (ih.elems _ _ _ (by simp [KinL])).then fun x r h => OkP.ok ⟨by simp [Nd.k, ek], ?_⟩
    simp only [Kin]
    exact ⟨fun e => by simp at e, ⟨fun e => by simp at e, fun e => by simp at e⟩, fun e => by simp at e, h⟩
  case elems =>
   intro d a l ha
   simp only [elemsS]
   split
   ·exact OkP.ok ha
   ·exact (ih.elem _ _).then fun x r h => ih.elems d _ r (ha.snoc h)
  case elem =>
   intro d l
   simp only [elemS]
   split
   ·exact (fun x r e => (ih.list _ _ x r e).2)
   split
   ·exact OkP.ok (.leaf (by first | decide | (split <;> decide)))
   split
   ·exact OkP.ok (.leaf (by first | decide | (split <;> decide)))
   split
   ·exact OkP.ok (.leaf (by first | decide | (split <;> decide)))
   split
   ·exact OkP.ok (.leaf (by first | decide | (split <;> decide)))
   ·exact OkP.no
  case block =>
   intro d l
   have fin : ∀ {ags : List ByteArray} {x : List ByteArray × List Nd}, SL2 x.2 → EK (.mk 10 ⟨#[]⟩ (pl l) ags.length (ags ++ x.1) x.2) := fun h => by
    refine ⟨by simp [Nd.k, ek], ?_⟩
    simp only [Kin]
    exact ⟨fun e => by simp at e, ⟨fun e => by simp at e, fun e => by simp at e⟩, fun _ => h.1, h.2⟩
   simp only [blockS]
   split
   ·exact OkP.no
   ·refine (argsS_le _ _).then fun ags r _ => ?_
    split
    ·split
     ·exact (ih.body _ _ _).then fun x r' g => OkP.ok (fin g)
     ·exact OkP.no
    ·exact (ih.body _ _ _).then fun x r' g => OkP.ok (fin g)
  case body =>
   intro d e l
   simp only [bodyS]
   exact (tempsS_le _).then fun ts r _ => (ih.stmts _ _ _ _ ⟨fun y hy => by simp at hy, by simp [KinL]⟩).then fun ks r' g => OkP.ok g
  case stmts =>
   intro d e a l ha
   simp only [stmtsS]
   split
   ·exact OkP.ok ha
   ·refine (ih.stmt _ _).then fun x r h => ?_
    split
    ·exact ih.stmts d _ _ _ (ha.snoc h)
    split
    ·split
     ·exact OkP.ok (ha.snoc h)
     ·exact OkP.no
    split
    ·exact OkP.ok (ha.snoc h)
    ·exact OkP.no
  case stmt =>
   intro d l
   simp only [stmtS]
   split
   ·exact (ih.expr _ _).then fun x r h => OkP.ok ⟨.inr rfl, one_kin (.inr (.inr rfl)) h⟩
   ·exact (ih.expr _ _).then fun x r h => OkP.ok ⟨.inl h.1, h.2⟩
mutual
theorem lit_use {sl : List ByteArray} : ∀ {x : Nd} {fr : Fr} {to : Bool}, LitP x → useP sl fr to x = .inl []
 | .mk k t a n names kids, fr, to, h => by
  simp only [LitP] at h
  simp only [useP]
  rw [if_neg (by omega), if_neg (by omega), if_neg (by omega)]
  exact lits_use h.2
theorem lits_use {sl : List ByteArray} : ∀ {l : List Nd} {fr : Fr} {to : Bool}, LitL l → useL sl fr to l = .inl []
 | [], _, _, _ => by simp [useL]
 | x :: r, fr, to, h => by
  simp only [LitL] at h
  simp only [useL, lit_use h.1, lits_use h.2, catU, List.append_nil]
end
theorem catU_inl {a b : List Us ⊕ Nat} {l : List Us} (h : catU a b = .inl l) : ∃ x y, a = .inl x ∧ b = .inl y ∧ l = x ++ y := by
 cases a <;> cases b <;> simp only [catU] at h
 ·simp only [Sum.inl.injEq] at h; exact ⟨_, _, rfl, rfl, h.symm⟩
 all_goals simp at h
end Go.SL
namespace Go.SL
abbrev Sh := List (Option Nat)
def up (sh : Sh) (u : Nat) (a : Option Nat) (k : Nat) : Sh := sh.set u a ++ List.replicate k none
theorem up_at {sh : Sh} {u : Nat} (h : u < sh.length) (a : Option Nat) (k : Nat) : (up sh u a k)[u]? = some a := by
 unfold up
 rw [List.getElem?_append_left (by simpa using h), List.getElem?_set_self h]
theorem up_up {sh : Sh} {u : Nat} (h : u < sh.length) (a b : Option Nat) (k m : Nat) : up (up sh u a k) u b m = up sh u b (k + m) := by
 unfold up
 rw [List.set_append_left _ _ (by simpa using h), List.set_set, List.append_assoc, List.replicate_append_replicate]
theorem up_same {sh : Sh} {u : Nat} {a : Option Nat} (h : sh[u]? = some a) : up sh u a 0 = sh := by
 unfold up
 have hl := (List.getElem?_eq_some_iff.1 h).1
 apply List.ext_getElem?
 intro i
 by_cases e : u = i
 ·subst e; simp [List.getElem?_set_self hl, h]
 ·simp [List.getElem?_set_ne e]
theorem up_new (sh : Sh) (u : Nat) (a : Option Nat) (k : Nat) : up (up sh u a 0 ++ [some 0]) sh.length none k = up sh u a (k + 1) := by
 unfold up
 simp only [List.replicate_zero, List.append_nil]
 rw [List.set_append_right _ _ (by simp)]
 simp [List.replicate_succ]
theorem at_len {sh : Sh} {u : Nat} {a : Option Nat} (h : sh[u]? = some a) : u < sh.length := (List.getElem?_eq_some_iff.1 h).1
def PU (n : Nat) (x : Us) : Prop := (x.k = 2 → x.i < 3) ∧ (x.k = 4 → x.i < n)
theorem idxS_lt {t : ByteArray} : ∀ {l : List ByteArray} {k i : Nat}, idxS t l k = some i → k ≤ i ∧ i < k + l.length
 | [], k, i, h => by simp [idxS] at h
 | x :: r, k, i, h => by
  simp only [idxS] at h
  split at h
  ·simp only [Option.some.injEq] at h; subst h; simp
  ·have := idxS_lt h; simp; omega
theorem find_pu (sl : List ByteArray) (fr : Fr) (t : ByteArray) (a : Nat) (w : Bool) : PU sl.length { (findS sl fr t).1 with a := a, w := w } := by
 unfold findS fixedS PU
 split
 ·rename_i k i h
  simp only
  refine ⟨fun e => ?_, fun e => ?_⟩
  ·repeat' (split at h)
   all_goals first | (simp at h; done) | (simp only [Option.some.injEq, Prod.mk.injEq] at h; omega)
  ·repeat' (split at h)
   all_goals first | (simp at h; done) | (simp only [Option.some.injEq, Prod.mk.injEq] at h; omega)
 ·split
  ·simp
  ·split
   ·rename_i h
    have := idxS_lt h
    simp; omega
   ·simp only
    refine ⟨fun e => ?_, fun e => ?_⟩ <;> (split at e <;> simp at e)
structure Clo (n : Nat) (Q : ByteArray → Nat → Prop) (Inv : Sh → CM → Prop) : Prop where
 len : ∀ {sh c}, Inv sh c → sh.length = c.us.length
 lit : ∀ {sh c u d} (t : ByteArray), Inv sh c → sh[u]? = some (some d) → Inv (up sh u (some (d + 1)) 0) (litS u t c)
 use : ∀ {sh c u d} {x : Us}, PU n x → Inv sh c → sh[u]? = some (some d) → Inv (up sh u (some (d + 1)) 0) (useS u x c)
 set : ∀ {sh c u d} {x : Us}, PU n x → (x.k = 3 ∨ x.k = 4) → Inv sh c → sh[u]? = some (some (d + 1)) → Inv (up sh u (some (d + 1)) 0) (setS u x c)
 send : ∀ {sh c u d m} {t : ByteArray} (sp : Bool), Q t m → Inv sh c → sh[u]? = some (some (d + m + 1)) → Inv (up sh u (some (d + 1)) 0) (sendC u sp t m c)
 dup : ∀ {sh c u d}, Inv sh c → sh[u]? = some (some (d + 1)) → Inv (up sh u (some (d + 2)) 0) (addS u (11, 0, 0) c)
 pop : ∀ {sh c u d}, Inv sh c → sh[u]? = some (some (d + 1)) → Inv (up sh u (some d) 0) (addS u (12, 0, 0) c)
 self : ∀ {sh c u d}, Inv sh c → sh[u]? = some (some d) → Inv (up sh u (some (d + 1)) 0) (addS u (6, 0, 0) c)
 nul : ∀ {sh c u d}, Inv sh c → sh[u]? = some (some d) → Inv (up sh u (some (d + 1)) 0) (addS u (7, 0, 0) c)
 blk : ∀ {sh c u d a b}, a ≤ b → Inv sh c → sh[u]? = some (some d) → Inv (up sh u (some (d + 1)) 0 ++ [some 0]) (newU a b (addS u (10, c.us.length, 0) c))
 fin : ∀ {sh c u}, Inv sh c → sh[u]? = some (some 1) → Inv (up sh u none 0) (addS u (13, 0, 0) c)
 ret : ∀ {sh c u}, Inv sh c → sh[u]? = some (some 1) → Inv (up sh u none 0) (addS u (14, 0, 0) c)
section
variable {lt : Nd → ByteArray} {sl : List ByteArray} {Q : ByteArray → Nat → Prop} {Inv : Sh → CM → Prop}
theorem Clo.done (K : Clo sl.length Q Inv) {sh : Sh} {c : CM} {u k m : Nat} (hu : u < sh.length) (mt : Bool) (h : Inv (up sh u (some (if m = 0 then 0 else 1)) k) c) : Inv (up sh u none k) (endS u mt m c) := by
 have ha := up_at hu (some (if m = 0 then 0 else 1)) k
 unfold endS
 by_cases h0 : m = 0
 ·rw [if_pos h0] at h ha
  cases mt with
  | true =>
   rw [if_pos rfl, if_pos h0]
   have h1 := K.self h ha
   rw [up_up hu] at h1
   have h2 := K.ret h1 (up_at hu _ _)
   rw [up_up hu] at h2
   exact h2
  | false =>
   rw [if_neg (by decide), if_pos h0]
   have h1 := K.nul h ha
   rw [up_up hu] at h1
   have h2 := K.fin h1 (up_at hu _ _)
   rw [up_up hu] at h2
   exact h2
 ·rw [if_neg h0] at h ha
  cases mt with
  | true =>
   rw [if_pos rfl, if_neg h0]
   have h0 := K.pop h ha
   rw [up_up hu] at h0
   have h1 := K.self h0 (up_at hu _ _)
   rw [up_up hu] at h1
   have h2 := K.ret h1 (up_at hu _ _)
   rw [up_up hu] at h2
   exact h2
  | false =>
   rw [if_neg (by decide), if_neg h0]
   have h2 := K.fin h ha
   rw [up_up hu] at h2
   exact h2
theorem Clo.pop0 (K : Clo sl.length Q Inv) {sh : Sh} {c : CM} {u i : Nat} (h : Inv sh c) (ha : sh[u]? = some (some (if i = 0 then 0 else 1))) : Inv (up sh u (some 0) 0) (if i = 0 then c else addS u (12, 0, 0) c) := by
 by_cases h0 : i = 0
 ·rw [if_pos h0] at ha ⊢
  rw [up_same ha]; exact h
 ·rw [if_neg h0] at ha ⊢
  exact K.pop (d := 0) h ha
mutual
theorem mkP_ok (K : Clo sl.length Q Inv) {u : Nat} : ∀ {x : Nd} {fr : Fr} {to : Bool} {us : List Us}, Good Q x → Fine x → Kin x → ek x.k → useP sl fr to x = .inl us → ∀ (c : CM) (rest : List Us) {sh : Sh} {d : Nat}, Inv sh c → sh[u]? = some (some d) → ∃ c' k, mkP lt u x (c, us ++ rest) = some (c', rest) ∧ Inv (up sh u (some (d + 1)) k) c'
 | .mk k t a n names kids, fr, to, us, hg, hf, hk, he, hu, c, rest, sh, d, hI, hd => by
  have hfl := Nd.fine hf
  have hkl := Nd.kin hk
  have hgl := hg.all
  have hg1 := hg.one
  simp only [Nd.kids] at hfl hkl hgl
  simp only [Nd.kids, Nd.k, Nd.t, Nd.n, Nd.names] at hg1
  simp only [Fine] at hf
  simp only [Kin] at hk
  simp only [Nd.k, ek] at he
  simp only [useP] at hu
  simp only [mkP]
  have hul := at_len hd
  split
  ·rename_i h
   rw [if_neg (by omega), if_neg (by omega), if_neg (by omega), lits_use (hf.2.2.2.1 (by omega))] at hu
   simp only [Sum.inl.injEq] at hu
   subst hu
   exact ⟨_, 0, rfl, K.lit _ hI hd⟩
  rename_i h1
  split
  ·rename_i h
   rw [if_pos h] at hu
   split at hu
   ·simp at hu
   ·simp only [Sum.inl.injEq] at hu
    subst hu
    exact ⟨_, 0, rfl, K.use (find_pu sl fr t a _) hI hd⟩
  rename_i h5
  rw [if_neg h5] at hu
  split
  ·rename_i h
   rw [if_pos h] at hu
   split at hu
   ·simp at hu
   ·rename_i hns
    obtain ⟨p, q, e1, e2, e3⟩ := catU_inl hu
    simp only [Sum.inl.injEq] at e1
    subst e1 e3
    have hlen := hf.2.2.1 (.inr h)
    obtain ⟨c', m, hc, hi⟩ := mkH_ok K (u := u) hgl hfl hkl (hk.1 (.inl h)) hlen e2 c rest hI hd
    simp only [List.cons_append, List.nil_append, hc]
    have h2 := K.set (x := { (findS sl fr t).1 with a := a, w := true }) (find_pu sl fr t a true) (by simp only; omega) hi (up_at hul _ _)
    rw [up_up hul] at h2
    exact ⟨_, _, rfl, h2⟩
  rename_i h6
  rw [if_neg h6] at hu
  split
  ·rename_i h
   rw [if_neg (by omega)] at hu
   obtain ⟨c', m, hc, hi⟩ := mkL_ok K (u := u) hgl hfl hkl (hk.1 (.inr (.inl h))) hu c rest hI hd
   rw [hc]
   have hq := hg1.2.2.2.1 h
   have h2 := K.send (d := d) (m := kids.length - 1) (sup0 kids) hq.2 hi (by rw [up_at hul]; congr 2; omega)
   rw [up_up hul] at h2
   exact ⟨_, _, rfl, h2⟩
  rename_i h7
  split
  ·rename_i h
   rw [if_neg (by omega)] at hu
   exact mkC_ok K (u := u) hgl hfl hkl (hk.2.1.1 h) (hf.1.1 h).1 (hf.1.1 h).2 hu c rest hI hd
  rename_i h8
  split
  ·rename_i h
   rw [if_pos h] at hu
   split at hu
   ·simp at hu
   ·have hb := K.blk (a := n) (b := names.length) hg1.2.2.1 hI hd
    have hlen := K.len hI
    have hn : (up sh u (some (d + 1)) 0 ++ [some 0])[c.us.length]? = some (some (if 0 = 0 then 0 else 1)) := by
     rw [← hlen, List.getElem?_append_right (by simp [up])]; simp [up]
    obtain ⟨c', b, m, hc, hi⟩ := mkS_ok K (u := c.us.length) (i := 0) hgl hfl hkl (hk.2.2.1 (.inl h)) (hf.1.2 (.inl h)) hu (newU n names.length (addS u (10, c.us.length, 0) c)) rest hb hn
    rw [hc]
    refine ⟨_, m + 1, rfl, ?_⟩
    rw [← up_new, hlen]
    simp only [doneU]
    cases b with
    | true => simpa using hi
    | false =>
     rw [if_neg (by decide)] at hi ⊢
     rw [Nat.zero_add] at hi
     exact K.done (by simp [up]; omega) false hi
  ·omega
theorem mkH_ok (K : Clo sl.length Q Inv) {u : Nat} : ∀ {l : List Nd} {fr : Fr} {to : Bool} {us : List Us}, GoodL Q l → FineL l → KinL l → (∀ y ∈ l, ek y.k) → l.length = 1 → useL sl fr to l = .inl us → ∀ (c : CM) (rest : List Us) {sh : Sh} {d : Nat}, Inv sh c → sh[u]? = some (some d) → ∃ c' k, mkH lt u l (c, us ++ rest) = some (c', rest) ∧ Inv (up sh u (some (d + 1)) k) c'
 | [], fr, to, us, _, _, _, _, h, _, c, rest, _, _, _, _ => by simp at h
 | [x], fr, to, us, hg, hf, hk, he, h, hu, c, rest, sh, d, hI, hd => by
  simp only [FineL] at hf
  simp only [KinL] at hk
  simp only [GoodL] at hg
  simp only [useL] at hu
  obtain ⟨p, q, e1, e2, e3⟩ := catU_inl hu
  simp only [Sum.inl.injEq] at e2
  subst e2 e3
  simp only [mkH, List.append_nil]
  exact mkP_ok K hg.1 hf.1 hk.1 (he x (by simp)) e1 c rest hI hd
 | _ :: _ :: _, fr, to, us, _, _, _, _, h, _, c, rest, _, _, _, _ => by simp at h
theorem mkL_ok (K : Clo sl.length Q Inv) {u : Nat} : ∀ {l : List Nd} {fr : Fr} {to : Bool} {us : List Us}, GoodL Q l → FineL l → KinL l → (∀ y ∈ l, ek y.k) → useL sl fr to l = .inl us → ∀ (c : CM) (rest : List Us) {sh : Sh} {d : Nat}, Inv sh c → sh[u]? = some (some d) → ∃ c' k, mkL lt u l (c, us ++ rest) = some (c', rest) ∧ Inv (up sh u (some (d + l.length)) k) c'
 | [], fr, to, us, _, _, _, _, hu, c, rest, sh, d, hI, hd => by
  simp only [useL, Sum.inl.injEq] at hu
  subst hu
  exact ⟨c, 0, by simp [mkL], by rw [List.length_nil, Nat.add_zero, up_same hd]; exact hI⟩
 | x :: r, fr, to, us, hg, hf, hk, he, hu, c, rest, sh, d, hI, hd => by
  simp only [FineL] at hf
  simp only [KinL] at hk
  simp only [GoodL] at hg
  simp only [useL] at hu
  obtain ⟨p, q, e1, e2, e3⟩ := catU_inl hu
  subst e3
  have hul := at_len hd
  obtain ⟨c1, m1, h1, i1⟩ := mkP_ok K (u := u) hg.1 hf.1 hk.1 (he x (by simp)) e1 c (q ++ rest) hI hd
  obtain ⟨c2, m2, h2, i2⟩ := mkL_ok K (u := u) hg.2 hf.2 hk.2 (fun y hy => he y (by simp [hy])) e2 c1 rest i1 (up_at hul _ _)
  rw [up_up hul] at i2
  exact ⟨c2, _, by simp only [mkL, List.append_assoc, h1, Option.bind_some, h2], by rw [List.length_cons, show d + (r.length + 1) = d + 1 + r.length by omega]; exact i2⟩
theorem mkC_ok (K : Clo sl.length Q Inv) {u : Nat} {sp : Bool} : ∀ {l : List Nd} {fr : Fr} {to : Bool} {us : List Us}, GoodL Q l → FineL l → KinL l → (∀ y ∈ l.head?, ek y.k) → 2 ≤ l.length → (∀ y ∈ l.tail, y.k = 9) → useL sl fr to l = .inl us → ∀ (c : CM) (rest : List Us) {sh : Sh} {d : Nat}, Inv sh c → sh[u]? = some (some d) → ∃ c' k, mkC lt u sp l (c, us ++ rest) = some (c', rest) ∧ Inv (up sh u (some (d + 1)) k) c'
 | [], fr, to, us, _, _, _, _, h, _, _, c, rest, _, _, _, _ => by simp at h
 | x :: r, fr, to, us, hg, hf, hk, he, h2, h9, hu, c, rest, sh, d, hI, hd => by
  simp only [FineL] at hf
  simp only [KinL] at hk
  simp only [GoodL] at hg
  simp only [useL] at hu
  obtain ⟨p, q, e1, e2, e3⟩ := catU_inl hu
  subst e3
  have hul := at_len hd
  obtain ⟨c1, m1, h1, i1⟩ := mkP_ok K (u := u) hg.1 hf.1 hk.1 (he x (by simp)) e1 c (q ++ rest) hI hd
  obtain ⟨c2, m2, h2, i2⟩ := mkD_ok K (u := u) (sp := sp) hg.2 hf.2 hk.2 (by simp at h2; omega) (fun y hy => h9 y (by simpa using hy)) e2 c1 rest i1 (up_at hul _ _)
  rw [up_up hul] at i2
  exact ⟨c2, _, by simp only [mkC, List.append_assoc, h1, Option.bind_some, h2], i2⟩
theorem mkD_ok (K : Clo sl.length Q Inv) {u : Nat} {sp : Bool} : ∀ {l : List Nd} {fr : Fr} {to : Bool} {us : List Us}, GoodL Q l → FineL l → KinL l → 1 ≤ l.length → (∀ y ∈ l, y.k = 9) → useL sl fr to l = .inl us → ∀ (c : CM) (rest : List Us) {sh : Sh} {d : Nat}, Inv sh c → sh[u]? = some (some (d + 1)) → ∃ c' k, mkD lt u sp l (c, us ++ rest) = some (c', rest) ∧ Inv (up sh u (some (d + 1)) k) c'
 | [], fr, to, us, _, _, _, h, _, _, c, rest, _, _, _, _ => by simp at h
 | [m], fr, to, us, hg, hf, hk, h, h9, hu, c, rest, sh, d, hI, hd => by
  simp only [FineL] at hf
  simp only [KinL] at hk
  simp only [GoodL] at hg
  simp only [useL] at hu
  obtain ⟨p, q, e1, e2, e3⟩ := catU_inl hu
  simp only [Sum.inl.injEq] at e2
  subst e2 e3
  simp only [mkD, List.append_nil]
  exact mkM_ok K hg.1 hf.1 hk.1 (h9 m (by simp)) e1 c rest hI hd
 | m :: y :: r, fr, to, us, hg, hf, hk, h, h9, hu, c, rest, sh, d, hI, hd => by
  rw [FineL] at hf
  rw [KinL] at hk
  rw [GoodL] at hg
  rw [useL] at hu
  obtain ⟨p, q, e1, e2, e3⟩ := catU_inl hu
  subst e3
  have hul := at_len hd
  obtain ⟨c1, m1, h1, i1⟩ := mkM_ok K (u := u) (sp := sp) hg.1 hf.1 hk.1 (h9 m (by simp)) e1 (addS u (11, 0, 0) c) (q ++ rest) (K.dup hI hd) (up_at hul _ _)
  rw [up_up hul] at i1
  have i3 := K.pop i1 (up_at hul _ _)
  rw [up_up hul] at i3
  obtain ⟨c2, m2, h2, i2⟩ := mkD_ok K (u := u) (sp := sp) (l := y :: r) hg.2 hf.2 hk.2 (by simp) (fun z hz => h9 z (by simp only [List.mem_cons] at hz ⊢; exact .inr hz)) e2 (addS u (12, 0, 0) c1) rest i3 (up_at hul _ _)
  rw [up_up hul] at i2
  exact ⟨c2, _, by simp only [mkD, List.append_assoc, h1, Option.bind_some] at h2 ⊢; exact h2, i2⟩
theorem mkM_ok (K : Clo sl.length Q Inv) {u : Nat} {sp : Bool} : ∀ {m : Nd} {fr : Fr} {to : Bool} {us : List Us}, Good Q m → Fine m → Kin m → m.k = 9 → useP sl fr to m = .inl us → ∀ (c : CM) (rest : List Us) {sh : Sh} {d : Nat}, Inv sh c → sh[u]? = some (some (d + 1)) → ∃ c' k, mkM lt u sp m (c, us ++ rest) = some (c', rest) ∧ Inv (up sh u (some (d + 1)) k) c'
 | .mk k t a n names kids, fr, to, us, hg, hf, hk, h9, hu, c, rest, sh, d, hI, hd => by
  have hfl := Nd.fine hf
  have hkl := Nd.kin hk
  have hgl := hg.all
  have hg1 := hg.one
  simp only [Nd.kids] at hfl hkl hgl
  simp only [Nd.kids, Nd.k, Nd.t, Nd.n, Nd.names] at hg1
  simp only [Kin] at hk
  simp only [Nd.k] at h9
  simp only [useP] at hu
  rw [if_neg (by omega), if_neg (by omega), if_neg (by omega)] at hu
  have hul := at_len hd
  obtain ⟨c', m, hc, hi⟩ := mkL_ok K (u := u) hgl hfl hkl (hk.1 (.inr (.inr (.inl h9)))) hu c rest hI hd
  have h2 := K.send (d := d) (m := kids.length) sp (hg1.2.2.2.2.1 h9) hi (by rw [up_at hul]; congr 2; omega)
  rw [up_up hul] at h2
  exact ⟨sendC u sp t kids.length c', _, by simp only [mkM, hc, Option.map_some], h2⟩
theorem mkS_ok (K : Clo sl.length Q Inv) {u i : Nat} : ∀ {l : List Nd} {fr : Fr} {to : Bool} {us : List Us}, GoodL Q l → FineL l → KinL l → (∀ y ∈ l, ek y.k ∨ y.k = 11) → (∀ y ∈ l.dropLast, y.k ≠ 11) → useL sl fr to l = .inl us → ∀ (c : CM) (rest : List Us) {sh : Sh}, Inv sh c → sh[u]? = some (some (if i = 0 then 0 else 1)) → ∃ c' b k, mkS lt u i l (c, us ++ rest) = some ((c', rest), b) ∧ Inv (up sh u (if b then none else some (if i + l.length = 0 then 0 else 1)) k) c'
 | [], fr, to, us, _, _, _, _, _, hu, c, rest, sh, hI, hd => by
  simp only [useL, Sum.inl.injEq] at hu
  subst hu
  exact ⟨c, false, 0, by simp [mkS], by rw [if_neg (by decide), List.length_nil, Nat.add_zero, up_same hd]; exact hI⟩
 | .mk k t a n names kids :: r, fr, to, us, hg, hf, hk, he, hdl, hu, c, rest, sh, hI, hd => by
  simp only [FineL] at hf
  simp only [KinL] at hk
  simp only [GoodL] at hg
  simp only [useL] at hu
  obtain ⟨p, q, e1, e2, e3⟩ := catU_inl hu
  subst e3
  have hul := at_len hd
  have hp := K.pop0 (i := i) hI hd
  simp only [mkS]
  split
  ·rename_i h
   have hr : r = [] := by
    cases r with
    | nil => rfl
    | cons y r => exact absurd h (hdl (.mk k t a n names kids) (by simp))
   subst hr
   simp only [useL, Sum.inl.injEq] at e2
   subst e2
   have hfl := Nd.fine hf.1
   have hkl := Nd.kin hk.1
   have hgl := hg.1.all
   simp only [Nd.kids] at hfl hkl hgl
   have h1 := hf.1
   have k1 := hk.1
   simp only [Fine] at h1
   simp only [Kin] at k1
   simp only [useP] at e1
   rw [if_neg (by omega), if_neg (by omega), if_neg (by omega)] at e1
   obtain ⟨c1, m1, h1, i1⟩ := mkH_ok K (u := u) hgl hfl hkl (k1.1 (.inr (.inr (.inr h)))) (h1.2.2.1 (.inl h)) e1 (if i = 0 then c else addS u (12, 0, 0) c) rest hp (up_at hul _ _)
   rw [up_up hul] at i1
   have i2 := K.ret i1 (up_at hul _ _)
   rw [up_up hul] at i2
   exact ⟨addS u (14, 0, 0) c1, true, _, by simp only [List.append_nil, h1, Option.map_some], i2⟩
  ·rename_i h
   have hek := he (.mk k t a n names kids) (by simp)
   obtain ⟨c1, m1, h1, i1⟩ := mkP_ok K (u := u) hg.1 hf.1 hk.1 (by rcases hek with e | e; exact e; exact absurd e h) e1 (if i = 0 then c else addS u (12, 0, 0) c) (q ++ rest) hp (up_at hul _ _)
   rw [up_up hul] at i1
   obtain ⟨c2, b, m2, h2, i2⟩ := mkS_ok K (u := u) (i := i + 1) hg.2 hf.2 hk.2 (fun y hy => he y (by simp [hy])) (fun y hy => hdl y (by cases r with | nil => simp at hy | cons z r => simp only [List.dropLast_cons_cons, List.mem_cons]; exact .inr hy)) e2 c1 rest i1 (by rw [up_at hul, if_neg (by omega)])
   rw [up_up hul] at i2
   exact ⟨c2, b, _, by simp only [List.append_assoc, h1, Option.bind_some, h2], by rw [List.length_cons, show i + (r.length + 1) = i + 1 + r.length by omega]; exact i2⟩
end
theorem mkU_ok (K : Clo sl.length Q Inv) {x : Nd} {us : List Us} (hg : Good Q x) (hf : Fine x) (hk : Kin x) (h : x.k = 12) (hu : useU sl [] x = .inl us) (h0 : Inv [some 0] (newU x.n x.names.length ⟨[], [], [], []⟩)) : ∃ c k, mkU lt x ⟨[], [], [], []⟩ us = some (c, []) ∧ Inv (List.replicate (k + 1) none) c := by
 unfold useU at hu
 split at hu
 ·simp at hu
 ·have h1 := Nd.fine hf
  have h2 := Nd.kin hk
  have h3 := hg.all
  cases x with
  | mk k t a n names kids =>
   simp only [Nd.k] at h
   simp only [Fine] at hf
   simp only [Kin] at hk
   simp only [Nd.kids] at h1 h2 h3 hu
   obtain ⟨c', b, m, hc, hi⟩ := mkS_ok K (lt := lt) (u := 0) (i := 0) h3 h1 h2 (hk.2.2.1 (.inr h)) (hf.1.2 (.inr h)) hu (newU n names.length ⟨[], [], [], []⟩) [] h0 rfl
   rw [List.append_nil] at hc
   unfold mkU
   simp only [Nd.kids, Nd.n, Nd.names, List.length_nil, hc, Option.map_some]
   refine ⟨_, m, rfl, ?_⟩
   have e : List.replicate (m + 1) none = up [some 0] 0 none m := by simp [up, List.replicate_succ]
   rw [e]
   simp only [doneU]
   cases b with
   | true => simpa using hi
   | false =>
    rw [if_neg (by decide)] at hi ⊢
    rw [Nat.zero_add] at hi
    exact K.done (by simp) _ hi
theorem clo_len (n : Nat) (Q : ByteArray → Nat → Prop) : Clo n Q fun sh c => sh.length = c.us.length := by
 constructor <;> intros <;> simp_all [up, litS, useS, setS, sendC, addS, newU] <;> (repeat' split) <;> simp_all
end
end Go.SL
namespace Go.SL
open Go.Proofs
set_option maxRecDepth 10000
theorem parseD_why {num : ByteArray → Bool} {m : Bool} {s : ByteArray} {a : Nat} {w : Int} (h : parseD num m s = .no a w) : w ≠ 0 := by
 unfold parseD at h
 split at h
 ·exact NN.big a w h
 ·split at h
  ·refine NN.then ?_ (fun p r => NN.then ((nz _).body _ _ _) fun _ _ => NN.ok) a w h
   cases m with
   | true => exact patS_nn _ _
   | false => exact NN.ok
  ·exact NN.syn a w h
theorem parse_fine {num : ByteArray → Bool} {m : Bool} {s : ByteArray} {x : Nd} {r : List Tk} (h : parseD num m s = .ok x r) : Fine x ∧ Kin x ∧ nds x ≤ 5001 := by
 unfold parseD at h
 split at h
 ·simp at h
 ·split at h
  ·rename_i hs l hl
   have hwf := lexS_wf (by omega) hl
   unfold uniS at h
   obtain ⟨p, r1, e1, e2⟩ := andThen_ok h
   obtain ⟨b, r2, e3, e4⟩ := andThen_ok e2
   simp only [Res.ok.injEq] at e4
   have h1 := (headS_wf hwf e1).1
   have h2 := (presF (fuel l)).body _ _ _ _ _ e3
   have h3 := (presK (fuel l)).body _ _ _ _ _ e3
   have hz := h2.1.2
   have hle := h1.2.2
   rw [← e4.1]
   refine ⟨?_, ?_, ?_⟩
   ·simp only [Fine]
    exact ⟨⟨fun e => by simp at e, fun _ => h2.2⟩, fun e => by simp at e, fun e => by simp at e, fun e => by simp at e, h2.1.1⟩
   ·simp only [Kin]
    exact ⟨fun e => by simp at e, ⟨fun e => by simp at e, fun e => by simp at e⟩, fun _ => h3.1, h3.2⟩
   ·simp only [nds, ndL] at hz ⊢
    omega
  ·simp at h
end Go.SL
namespace Go.SL
open Go.Proofs
set_option maxRecDepth 10000
theorem AF.fzr {P : Program} {f : FuncId} {Q Q' : Out → H → Prop} {args : List V} {h : H} (k : AF P f args h Q) (hq : ∀ o h, Q o h → ∃ v, o = .ret v ∧ Q' (.ret (fzV h v)) (fzA h)) : AF P f args h Q' :=
 ⟨k.1, fun κ w argv hr hv => (k.2 κ w argv hr hv).mono fun e w' ⟨κ', h', out, g1, g2, g3, g4⟩ => by
  obtain ⟨v, e1, h1⟩ := hq _ _ g1
  subst e1
  obtain ⟨x, e2, h2⟩ := g4
  exact ⟨fzK κ' h' w', fzA h', _, h1, Le.trans g2 fz_le, fzA_rel g3, x, e2, fzV_sound g3 h2⟩⟩
def unD (x : CU) : D := if x.ins = [] then .agg [.int .i64 x.a, .int .i64 x.n, .sl true 0 []] else .agg [.int .i64 x.a, .int .i64 x.n, .sl false 3 (x.ins.map insD)]
def cdL (sel : ByteArray) (c : CM) : List D := [.str sel, .sl c.us.isEmpty 3 (c.us.map unD), .sl c.lits.isEmpty 1 (c.lits.map .str), .sl c.names.isEmpty 1 (c.names.map .str), .sl c.sels.isEmpty 1 (c.sels.map .str)]
def c0 : CM := ⟨[], [], [], []⟩
theorem toDv_d (h : H) (n : Nat) (x : D) : toDv h n (.d x) = some x := by cases n <;> rfl
theorem toDv_row {h : H} {i n m : Nat} {v : Vec} {ds : List D} (hv : h.vc[i]? = some (some v)) (hl : v.xs.length = m) (hd : mapD (toDv h n) v.xs = some ds) : toDv h (n + 1) (.vs i m 0 m) = some (.sl v.nil v.sz ds) := by
 have h1 : Nat.beq v.xs.length m = true := by rw [hl]; simp
 have h2 : Nat.ble (0 + m) m = true := by simp
 have h3 : (v.xs.drop 0).take m = v.xs := by rw [← hl]; simp
 simp only [toDv, hv, h1, h2, h3, Bool.and_self, hd]
theorem toDv_uv {h : H} {n : Nat} {x : CU} {j : Nat} (hj : x.ins ≠ [] → h.vc[j + 1 + 1 + 1 + 1]? = some (IR x.ins)) : toDv h (n + 2) (uv x j) = some (unD x) := by
 unfold uv unD
 by_cases h0 : x.ins = []
 ·rw [if_pos h0, if_pos h0]; exact toDv_d _ _ _
 ·rw [if_neg h0, if_neg h0]
  have := toDv_row (h := h) (n := n) (v := ⟨false, 3, 0, x.ins.map fun x => .d (insD x), 195⟩) (ds := x.ins.map insD) (hj h0) (m := x.ins.length) (by simp) (by rw [← mapD_d h n (x.ins.map insD), List.map_map]; rfl)
  have e1 : mapD (toDv h (n + 1)) [.d (.int .i64 x.a), .d (.int .i64 x.n), .vs (j + 1 + 1 + 1 + 1) x.ins.length 0 x.ins.length] = some [.int .i64 x.a, .int .i64 x.n, .sl false 3 (x.ins.map insD)] := by
   simp only [mapD, toDv_d, this]
  show (match mapD (toDv h (n + 1)) [.d (.int .i64 x.a), .d (.int .i64 x.n), .vs (j + 1 + 1 + 1 + 1) x.ins.length 0 x.ins.length] with | some ds => some (D.agg ds) | none => none) = _
  rw [e1]
theorem toDv_us {h : H} {n : Nat} : ∀ {us : List CU} {js : List Nat}, js.length = us.length → (∀ (u : Nat) (x : CU) (j : Nat), us[u]? = some x → js[u]? = some j → x.ins ≠ [] → h.vc[j + 1 + 1 + 1 + 1]? = some (IR x.ins)) → mapD (toDv h (n + 2)) (List.zipWith uv us js) = some (us.map unD)
 | [], js, _, _ => by simp [mapD]
 | x :: us, [], e, _ => by simp at e
 | x :: us, j :: js, e, k => by
  have h1 := toDv_us (n := n) (us := us) (js := js) (by simpa using e) fun u x j a b => k (u + 1) x j (by simpa using a) (by simpa using b)
  have h2 := toDv_uv (h := h) (n := n) (x := x) (j := j) (k 0 x j rfl rfl)
  simp only [List.zipWith_cons_cons, List.map_cons, mapD, h2, h1]
theorem toDv_ns {h : H} {n i : Nat} {l : List ByteArray} (hi : h.vc[i]? = some (NS l)) : toDv h (n + 1) (.vs i l.length 0 l.length) = some (.sl l.isEmpty 1 (l.map .str)) := by
 refine toDv_row (v := ⟨l.isEmpty, 1, 0, l.map fun s => .d (.str s), 9⟩) hi (by simp) ?_
 rw [← mapD_d h n (l.map .str), List.map_map]; rfl
def BM (sel : ByteArray) (c : CM) (uz : D) : Bx := .cells ((cdL sel c ++ [uz]).map .d) 99
theorem MK_fz {sel : ByteArray} {c : CM} {uz : D} {js : List Nat} {bs : List Bx} {cs : List (Option Vec)} (hI : InsOK c.us js cs) : ∃ b v, fzA (MK sel c uz js bs cs) = ⟨BM sel c uz :: b, none :: none :: none :: none :: v⟩ := by
 refine ⟨bs.map (fzB (MK sel c uz js bs cs)), cs.map fun _ => none, ?_⟩
 have e1 := toDv_ns (h := MK sel c uz js bs cs) (n := 11) (i := 1) (l := c.lits) rfl
 have e2 := toDv_ns (h := MK sel c uz js bs cs) (n := 11) (i := 2) (l := c.names) rfl
 have e3 := toDv_ns (h := MK sel c uz js bs cs) (n := 11) (i := 3) (l := c.sels) rfl
 have e4 := toDv_us (h := MK sel c uz js bs cs) (n := 9) hI.1 fun u x j a b k => by
  have := hI.2.1 u x j a b k
  simpa [MK] using this
 have e5 := toDv_row (h := MK sel c uz js bs cs) (i := 0) (m := c.us.length) (v := ⟨c.us.isEmpty, 3, 0, List.zipWith uv c.us js, 147⟩) rfl (by simp [hI.1]) e4
 unfold fzA
 congr 1
 show fzB (MK sel c uz js bs cs) (MB sel c.us.length c.lits.length c.names.length c.sels.length uz) :: _ = _
 congr 1
 simp only [fzB, fzV, List.map_cons, List.map_nil, e1, e2, e3, e5, toDv_d, BM, cdL, List.cons_append, List.nil_append]
def makeD (sl : List ByteArray) (x : Nd) : CM ⊕ Nat := match useU sl [] x with
 | .inl us => match mkU litB x c0 us with
  | some s => .inl s.1
  | none => .inr 0
 | .inr a => .inr a
def CdR (sel : ByteArray) (r : CM ⊕ Nat) (w : Int) (v : D) : Prop := match r with
 | .inl c => v = .tup [.agg (cdL sel c), .int .i64 0, .int .i64 0]
 | .inr a => v = .tup [.agg [.str ⟨#[]⟩, .sl true 0 [], .sl true 0 [], .sl true 0 [], .sl true 0 []], .int .i64 a, .int .i64 w]
theorem f48_fz {Q0 : ByteArray → Nat → Prop} (x : Nd) (hg : Good Q0 x) (hf : Fine x) (us : List Us) (s : MS) (hm : mkU litB x c0 us = some s) (hn : nds x ≤ 20000) (u : D) (hu : NdR x u) (sel : ByteArray) (nl : Bool) (hnl : nl = true → us = []) :
  AF Tryz.prog 48 [.ptr 0 0, .d u] (MK sel c0 (uzD nl us) [] [] []) fun o h => o = .ret (.d (.tup [])) ∧ ∃ uz b v, h = ⟨BM sel s.1 uz :: b, none :: none :: none :: none :: v⟩ := by
 unfold mkU at hm
 cases hk : mkS litB c0.us.length 0 x.kids (newU x.n x.names.length c0, us) with
 | none => rw [hk] at hm; simp at hm
 | some s1 =>
  rw [hk] at hm
  simp only [Option.map_some, Option.some.injEq] at hm
  subst hm
  have hU := f48_ok (Q0 := Q0) x hg hf (fun y _ hy1 hy2 => f74_ok (Q0 := Q0) _ y (Nat.le_refl _) hy1 hy2) sel c0 us nl [] [] [] s1 u ⟨rfl, fun u x j h => by simp [c0] at h, fun u v x y j h => by simp [c0] at h⟩ (by simp [szC, c0]; omega) hnl hk hu
  refine AF.fzr hU fun o h ⟨nl1, ⟨e1, js, b, cs, e2, hI⟩, hn1⟩ => ⟨_, e1, ?_⟩
  subst e2
  obtain ⟨b', v, e3⟩ := MK_fz (sel := sel) (uz := uzD nl1 s1.1.2) (bs := [] ++ b) hI
  exact ⟨by simp [fzV], _, b', v, e3⟩
theorem f36_ok {sl : List ByteArray} (hsl : sl.length ≤ 1048576) {snl : Bool} {sz : Nat} (hs1 : snl = true → sl = []) (hs2 : snl = false → sz = 1) {Q0 : ByteArray → Nat → Prop} (x : Nd) (hg : Good Q0 x) (hf : Fine x) (hok : ∀ us, useU sl [] x = .inl us → ∃ s, mkU litB x c0 us = some s) (hn : nds x ≤ 20000) (u : D) (hu : NdR x u) :
  DE Tryz.prog 36 [u, .sl snl sz (sl.map .str)] (CdR x.t (makeD sl x) 21) := by
 have hR := f47_ok hsl hs1 hs2 x hg (by omega) u hu
 have hud := hu
 obtain ⟨nl1, z1, nl2, z2, ds, e, h1, h2, h3, h4, h5⟩ := hu.shape
 subst e
 refine AF.go Tryz.func36 [] fun tb TB Q hQ => ?_
 simp [TB]
 refine ATT.callE Tryz.func36 60 hR ?_ ?_ ?_ fun v hv => ?_
 iterate 3 · simp
 unfold makeD at hQ
 cases hr : useU sl [] x with
 | inr a =>
  rw [hr] at hv hQ
  have e : v = _ := hv
  subst e
  simp [TB]
  refine ATT.fin2 hQ Tryz.func36 ?_
  exact ⟨by simp, _, rfl, rfl⟩
 | inl us =>
  obtain ⟨s, hm⟩ := hok us hr
  rw [hr] at hv hQ
  simp only [hm] at hQ
  have e : v = _ := hv
  subst e
  have hU := f48_fz x hg hf us s hm hn _ hud x.t us.isEmpty (by simp)
  simp [TB]
  refine ATT.nilB 2 1 3 147 rfl rfl (by decide) (by simp) ?_
  simp
  refine ATT.nilB 2 2 1 9 rfl rfl (by decide) (by simp) ?_
  simp
  refine ATT.nilB 2 3 1 9 rfl rfl (by decide) (by simp) ?_
  simp
  refine ATT.nilB 2 4 1 9 rfl rfl (by decide) (by simp) ?_
  simp
  refine ATT.callA Tryz.func36 60 [2] [0, 1, 2, 3] 0 0 (hU) ?_ ?_ ?_ ?_ ?_ fun out hC hE => ?_
  iterate 5 · simp [c0]
  obtain ⟨e1, uz, b, w, e2⟩ := hE
  subst e1 e2
  refine ⟨by simp, ?_⟩
  simp [TB, BM, cdL]
  refine ATT.fin2 hQ Tryz.func36 ?_
  simp
  all_goals (first | omega | exact ⟨_, rfl⟩ | skip)
  rfl
def codeD (num : ByteArray → Bool) (sl : List ByteArray) (m : Bool) (s : ByteArray) : (ByteArray × CM) ⊕ (Nat × Int) := match parseD num m s with
 | .ok x _ => match makeD sl x with
  | .inl c => .inl (x.t, c)
  | .inr a => .inr (a, 21)
 | .no a w => .inr (a, w)
 | .out => .inr (0, 0)
def CoR (r : (ByteArray × CM) ⊕ (Nat × Int)) (v : D) : Prop := match r with
 | .inl c => v = .tup [.agg (cdL c.1 c.2), .int .i64 0, .int .i64 0]
 | .inr a => v = .tup [.agg [.str ⟨#[]⟩, .sl true 0 [], .sl true 0 [], .sl true 0 [], .sl true 0 []], .int .i64 a.1, .int .i64 a.2]
def ParsedOk (num : ByteArray → Bool) (sl : List ByteArray) (m : Bool) (s : ByteArray) : Prop :=
 ∃ Q0 : ByteArray → Nat → Prop, ∀ x l, parseD num m s = .ok x l → Good Q0 x ∧ Fine x ∧ nds x ≤ 20000 ∧ ∀ us, useU sl [] x = .inl us → ∃ s, mkU litB x c0 us = some s
theorem parsed (num : ByteArray → Bool) (sl : List ByteArray) (m : Bool) (s : ByteArray) : ParsedOk num sl m s :=
 ⟨QA, fun x l h => by
  have h1 := parse_fits h
  have h2 := parse_fine h
  exact ⟨h1.1, h2.1, by omega, fun us hu => by
   obtain ⟨c, k, e, _⟩ := mkU_ok (lt := litB) (clo_len sl.length QA) h1.1 h2.1 h2.2.1 h1.2.1 hu rfl
   exact ⟨_, e⟩⟩⟩
theorem f15_ok {num : ByteArray → Bool} (hW : NumP 130 num) (s : ByteArray) (hs : s.size ≤ 1073741820) {sl : List ByteArray} (hsl : sl.length ≤ 1048576) {snl : Bool} {sz : Nat} (hs1 : snl = true → sl = []) (hs2 : snl = false → sz = 1) :
  DE Tryz.prog 15 [.str s, .sl snl sz (sl.map .str)] (CoR (codeD num sl true s)) := by
 obtain ⟨Q0, hx⟩ := parsed num sl true s
 have hP := f35_ok hW s hs
 refine AF.go Tryz.func15 [] fun tb TB Q hQ => ?_
 simp [TB]
 refine ATT.callE Tryz.func15 60 hP ?_ ?_ ?_ fun v hv => ?_
 iterate 3 · simp
 unfold codeD at hQ
 cases hr : parseD num true s with
 | out => exact absurd hr (parseD_in _ _ _)
 | no a w =>
  rw [hr] at hv hQ
  have e : v = _ := hv
  subst e
  have hw : ¬ w = 0 := parseD_why hr
  simp [TB, hw]
  refine ATT.fin2 hQ Tryz.func15 ?_
  exact ⟨by simp, _, rfl, rfl⟩
 | ok x l =>
  rw [hr] at hv hQ
  obtain ⟨u, e, hu⟩ := hv
  subst e
  obtain ⟨g1, g2, g3, g4⟩ := hx x l hr
  have hM := f36_ok hsl hs1 hs2 x g1 g2 g4 g3 u hu
  have hud := hu
  obtain ⟨nl1_u, z1_u, nl2_u, z2_u, ds_u, hv_u, ha_u, hb_u, hc_u, hd_u, he_u⟩ := hu.shape
  have hw_u := hv_u
  subst hw_u
  simp [TB]
  refine ATT.callE Tryz.func15 60 hM ?_ ?_ ?_ fun v hv => ?_
  iterate 3 · simp
  cases hd : makeD sl x with
  | inl c =>
   rw [hd] at hv
   simp only [hd] at hQ
   have e : v = _ := hv
   subst e
   simp [cdL]
   refine ATT.fin2 hQ Tryz.func15 ?_
   simp
   all_goals (first | omega | exact ⟨_, rfl⟩ | skip)
   rfl
  | inr a =>
   rw [hd] at hv
   simp only [hd] at hQ
   have e : v = _ := hv
   subst e
   simp
   refine ATT.fin2 hQ Tryz.func15 ?_
   simp
   all_goals (first | omega | exact ⟨_, rfl⟩ | skip)
   rfl
end Go.SL
namespace Go.SL
open Go.Proofs
set_option maxRecDepth 10000
def rowV (l : List ByteArray) : V := if l = [] then .d (.sl true 0 []) else .vs 0 l.length 0 l.length
def rowC (l : List ByteArray) : List (Option Vec) := if l = [] then [] else [some ⟨false, 1, 0, l.map fun s => .d (.str s), 9⟩]
def nameK : List ByteArray := [nK0, nK1, nK2, nK3, nK4, nK5, nK6, nK7, nK8, nK9, nK10, nK11, nK12, nK13, nK14]
def srcK : Nat → List ByteArray
 | 1 => [sK0, sK1, sK2, sK3, sK4]
 | 3 => [sK5, sK6]
 | 4 => [sK7, sK8, sK9, sK10, sK11, sK12]
 | 5 => [sK13, sK14, sK15, sK16, sK17, sK18]
 | 6 => [sK19, sK20, sK21, sK22, sK23, sK24, sK25, sK26, sK27]
 | 10 => [sK28, sK29, sK30]
 | 12 => [sK31]
 | _ => []
def natK : Nat → List ByteArray
 | 1 => [sK32, sK33, sK34]
 | 2 => [sK35, sK36, sK37, sK38, sK39, sK40]
 | 6 => [sK41, sK42, sK43, sK44, sK45, sK46, sK47, sK48, sK49, sK50]
 | 7 => [sK41, sK42, sK43, sK44, sK48, sK51, sK52]
 | 8 => [sK53, sK54, sK55, sK56, sK48, sK57]
 | 9 => [sK53, sK48, sK50]
 | 10 => [sK53, sK54, sK55]
 | 11 => [sK58, sK59, sK60, sK61, sK62, sK63, sK64]
 | 12 => [sK54, sK55, sK65, sK66, sK53]
 | 13 => [sK58, sK67, sK68]
 | 14 => [sK69, sK70, sK71, sK53]
 | _ => []
def thereK (c : Int) : Bool := decide (1 ≤ c) && decide (c ≤ 14)
theorem f37_ok (c : Int) : DF Tryz.prog 37 [.int .i64 c] (.bool (thereK c)) := by
 unfold thereK
 by_cases h1 : 1 ≤ c
 ·by_cases h2 : c ≤ 14
  ·skip
   refine AF.go Tryz.func37 [] fun tb TB Q hQ => ?_
   simp [TB, h1, h2]
   refine ATT.fin2 hQ Tryz.func37 ?_
   simp [h1, h2]
   all_goals (first | omega | exact ⟨_, rfl⟩ | skip)
  ·skip
   refine AF.go Tryz.func37 [] fun tb TB Q hQ => ?_
   simp [TB, h1, h2]
   refine ATT.fin2 hQ Tryz.func37 ?_
   simp [h1, h2]
   all_goals (first | omega | exact ⟨_, rfl⟩ | skip)
 ·skip
  refine AF.go Tryz.func37 [] fun tb TB Q hQ => ?_
  simp [TB, h1]
  refine ATT.fin2 hQ Tryz.func37 ?_
  simp [h1]
  all_goals (first | omega | exact ⟨_, rfl⟩ | skip)
def nmK (c : Int) : ByteArray := if thereK c then nameK.getD c.toNat ⟨#[]⟩ else ⟨#[]⟩
theorem f18_ok (c : Int) : DF Tryz.prog 18 [.int .i64 c] (.str (nmK c)) := by
 have hT := f37_ok c
 unfold nmK
 cases ht : thereK c with
 | false =>
  rw [ht] at hT
  refine AF.start' 60 Tryz.func18 rfl rfl c18call c18ok fun Q hQ => ?_
  simp [c18c, c18t]
  refine ATT.callD Tryz.func18 60 (hT) ?_ ?_ ?_ ?_
  iterate 3 · simp
  simp [c18t]
  refine ATT.fin' hQ Tryz.func18 c18res ?_
  simp [nK0]
  all_goals (first | omega | exact ⟨_, rfl⟩ | skip)
 | true =>
  rw [ht] at hT
  obtain ⟨k, hk, hl⟩ : ∃ k : Nat, c = k ∧ k < 15 := ⟨c.toNat, by simp [thereK] at ht; omega, by simp [thereK] at ht; omega⟩
  subst hk
  have hi : inR (k : Int) 15 = true := inR_of (by omega) (by omega)
  have key : ∀ l : List ByteArray, l.length = 15 → ∃ s, l[k]? = some s ∧ (l.map fun x => V.d (D.str x))[k]? = some (.d (.str s)) ∧ l.getD k ⟨#[]⟩ = s := fun l h => ⟨l[k]'(by omega), List.getElem?_eq_getElem _, by simp [List.getElem?_eq_getElem (show k < l.length by omega)], by simp [List.getD, List.getElem?_eq_getElem (show k < l.length by omega)]⟩
  obtain ⟨s, e1, e2, e3⟩ := key nameK rfl
  simp only [nameK, List.map_cons, List.map_nil] at e2
  simp only [Int.toNat_natCast, if_true, e3]
  refine AF.start' 60 Tryz.func18 rfl rfl c18call c18ok fun Q hQ => ?_
  simp [c18c, c18t]
  refine ATT.callD Tryz.func18 60 (hT) ?_ ?_ ?_ ?_
  iterate 3 · simp
  simp [c18t]
  simp [hi, e2]
  refine ATT.fin' hQ Tryz.func18 c18res ?_
  simp
  all_goals (first | omega | exact ⟨_, rfl⟩ | skip)
set_option maxHeartbeats 1000000 in
theorem f14_ok (c : Int) (k : Nat) (hk : c = k ∨ (k = 0 ∧ (c < 0 ∨ 14 < c))) : VF Tryz.prog 14 [.d (.int .i64 c)] [] [] (rowV (srcK k)) [] (rowC (srcK k)) := by
 by_cases h1 : k = 1
 ·subst h1
  have hc : c = 1 := by omega
  subst hc
  refine AF.start' 60 Tryz.func14 rfl rfl c14call c14ok fun Q hQ => ?_
  simp [c14c, c14t]
  refine ATT.fin' hQ Tryz.func14 c14res ?_
  simp [rowV, rowC, srcK]
  all_goals (first | omega | exact ⟨_, rfl⟩ | skip)
 by_cases h3 : k = 3
 ·subst h3
  have hc : c = 3 := by omega
  subst hc
  refine AF.start' 60 Tryz.func14 rfl rfl c14call c14ok fun Q hQ => ?_
  simp [c14c, c14t]
  refine ATT.fin' hQ Tryz.func14 c14res ?_
  simp [rowV, rowC, srcK]
  all_goals (first | omega | exact ⟨_, rfl⟩ | skip)
 by_cases h4 : k = 4
 ·subst h4
  have hc : c = 4 := by omega
  subst hc
  refine AF.start' 60 Tryz.func14 rfl rfl c14call c14ok fun Q hQ => ?_
  simp [c14c, c14t]
  refine ATT.fin' hQ Tryz.func14 c14res ?_
  simp [rowV, rowC, srcK]
  all_goals (first | omega | exact ⟨_, rfl⟩ | skip)
 by_cases h5 : k = 5
 ·subst h5
  have hc : c = 5 := by omega
  subst hc
  refine AF.start' 60 Tryz.func14 rfl rfl c14call c14ok fun Q hQ => ?_
  simp [c14c, c14t]
  refine ATT.fin' hQ Tryz.func14 c14res ?_
  simp [rowV, rowC, srcK]
  all_goals (first | omega | exact ⟨_, rfl⟩ | skip)
 by_cases h6 : k = 6
 ·subst h6
  have hc : c = 6 := by omega
  subst hc
  refine AF.start' 60 Tryz.func14 rfl rfl c14call c14ok fun Q hQ => ?_
  simp [c14c, c14t]
  refine ATT.fin' hQ Tryz.func14 c14res ?_
  simp [rowV, rowC, srcK]
  all_goals (first | omega | exact ⟨_, rfl⟩ | skip)
 by_cases h10 : k = 10
 ·subst h10
  have hc : c = 10 := by omega
  subst hc
  refine AF.start' 60 Tryz.func14 rfl rfl c14call c14ok fun Q hQ => ?_
  simp [c14c, c14t]
  refine ATT.fin' hQ Tryz.func14 c14res ?_
  simp [rowV, rowC, srcK]
  all_goals (first | omega | exact ⟨_, rfl⟩ | skip)
 by_cases h12 : k = 12
 ·subst h12
  have hc : c = 12 := by omega
  subst hc
  refine AF.start' 60 Tryz.func14 rfl rfl c14call c14ok fun Q hQ => ?_
  simp [c14c, c14t]
  refine ATT.fin' hQ Tryz.func14 c14res ?_
  simp [rowV, rowC, srcK]
  all_goals (first | omega | exact ⟨_, rfl⟩ | skip)
 have hn : srcK k = [] := by
  unfold srcK
  split <;> first | rfl | omega
 have q1 : ¬ c = 1 := by omega
 have q3 : ¬ c = 3 := by omega
 have q4 : ¬ c = 4 := by omega
 have q5 : ¬ c = 5 := by omega
 have q6 : ¬ c = 6 := by omega
 have q10 : ¬ c = 10 := by omega
 have q12 : ¬ c = 12 := by omega
 rw [hn]
 refine AF.start' 60 Tryz.func14 rfl rfl c14call c14ok fun Q hQ => ?_
 simp [c14c, c14t, q1, q3, q4, q5, q6, q10, q12]
 refine ATT.fin' hQ Tryz.func14 c14res ?_
 simp [rowV, rowC]
 all_goals (first | omega | exact ⟨_, rfl⟩ | skip)
set_option maxHeartbeats 1000000 in
theorem f17_ok (c : Int) (k : Nat) (hk : c = k ∨ (k = 0 ∧ (c < 0 ∨ 14 < c))) : VF Tryz.prog 17 [.d (.int .i64 c)] [] [] (rowV (natK k)) [] (rowC (natK k)) := by
 by_cases h1 : k = 1
 ·subst h1
  have hc : c = 1 := by omega
  subst hc
  refine AF.start' 60 Tryz.func17 rfl rfl c17call c17ok fun Q hQ => ?_
  simp [c17c, c17t]
  refine ATT.fin' hQ Tryz.func17 c17res ?_
  simp [rowV, rowC, natK]
  all_goals (first | omega | exact ⟨_, rfl⟩ | skip)
 by_cases h2 : k = 2
 ·subst h2
  have hc : c = 2 := by omega
  subst hc
  refine AF.start' 60 Tryz.func17 rfl rfl c17call c17ok fun Q hQ => ?_
  simp [c17c, c17t]
  refine ATT.fin' hQ Tryz.func17 c17res ?_
  simp [rowV, rowC, natK]
  all_goals (first | omega | exact ⟨_, rfl⟩ | skip)
 by_cases h6 : k = 6
 ·subst h6
  have hc : c = 6 := by omega
  subst hc
  refine AF.start' 60 Tryz.func17 rfl rfl c17call c17ok fun Q hQ => ?_
  simp [c17c, c17t]
  refine ATT.fin' hQ Tryz.func17 c17res ?_
  simp [rowV, rowC, natK]
  all_goals (first | omega | exact ⟨_, rfl⟩ | skip)
 by_cases h7 : k = 7
 ·subst h7
  have hc : c = 7 := by omega
  subst hc
  refine AF.start' 60 Tryz.func17 rfl rfl c17call c17ok fun Q hQ => ?_
  simp [c17c, c17t]
  refine ATT.fin' hQ Tryz.func17 c17res ?_
  simp [rowV, rowC, natK]
  all_goals (first | omega | exact ⟨_, rfl⟩ | skip)
 by_cases h8 : k = 8
 ·subst h8
  have hc : c = 8 := by omega
  subst hc
  refine AF.start' 60 Tryz.func17 rfl rfl c17call c17ok fun Q hQ => ?_
  simp [c17c, c17t]
  refine ATT.fin' hQ Tryz.func17 c17res ?_
  simp [rowV, rowC, natK]
  all_goals (first | omega | exact ⟨_, rfl⟩ | skip)
 by_cases h9 : k = 9
 ·subst h9
  have hc : c = 9 := by omega
  subst hc
  refine AF.start' 60 Tryz.func17 rfl rfl c17call c17ok fun Q hQ => ?_
  simp [c17c, c17t]
  refine ATT.fin' hQ Tryz.func17 c17res ?_
  simp [rowV, rowC, natK]
  all_goals (first | omega | exact ⟨_, rfl⟩ | skip)
 by_cases h10 : k = 10
 ·subst h10
  have hc : c = 10 := by omega
  subst hc
  refine AF.start' 60 Tryz.func17 rfl rfl c17call c17ok fun Q hQ => ?_
  simp [c17c, c17t]
  refine ATT.fin' hQ Tryz.func17 c17res ?_
  simp [rowV, rowC, natK]
  all_goals (first | omega | exact ⟨_, rfl⟩ | skip)
 by_cases h11 : k = 11
 ·subst h11
  have hc : c = 11 := by omega
  subst hc
  refine AF.start' 60 Tryz.func17 rfl rfl c17call c17ok fun Q hQ => ?_
  simp [c17c, c17t]
  refine ATT.fin' hQ Tryz.func17 c17res ?_
  simp [rowV, rowC, natK]
  all_goals (first | omega | exact ⟨_, rfl⟩ | skip)
 by_cases h12 : k = 12
 ·subst h12
  have hc : c = 12 := by omega
  subst hc
  refine AF.start' 60 Tryz.func17 rfl rfl c17call c17ok fun Q hQ => ?_
  simp [c17c, c17t]
  refine ATT.fin' hQ Tryz.func17 c17res ?_
  simp [rowV, rowC, natK]
  all_goals (first | omega | exact ⟨_, rfl⟩ | skip)
 by_cases h13 : k = 13
 ·subst h13
  have hc : c = 13 := by omega
  subst hc
  refine AF.start' 60 Tryz.func17 rfl rfl c17call c17ok fun Q hQ => ?_
  simp [c17c, c17t]
  refine ATT.fin' hQ Tryz.func17 c17res ?_
  simp [rowV, rowC, natK]
  all_goals (first | omega | exact ⟨_, rfl⟩ | skip)
 by_cases h14 : k = 14
 ·subst h14
  have hc : c = 14 := by omega
  subst hc
  refine AF.start' 60 Tryz.func17 rfl rfl c17call c17ok fun Q hQ => ?_
  simp [c17c, c17t]
  refine ATT.fin' hQ Tryz.func17 c17res ?_
  simp [rowV, rowC, natK]
  all_goals (first | omega | exact ⟨_, rfl⟩ | skip)
 have hn : natK k = [] := by
  unfold natK
  split <;> first | rfl | omega
 have q1 : ¬ c = 1 := by omega
 have q2 : ¬ c = 2 := by omega
 have q6 : ¬ c = 6 := by omega
 have q7 : ¬ c = 7 := by omega
 have q8 : ¬ c = 8 := by omega
 have q9 : ¬ c = 9 := by omega
 have q10 : ¬ c = 10 := by omega
 have q11 : ¬ c = 11 := by omega
 have q12 : ¬ c = 12 := by omega
 have q13 : ¬ c = 13 := by omega
 have q14 : ¬ c = 14 := by omega
 rw [hn]
 refine AF.start' 60 Tryz.func17 rfl rfl c17call c17ok fun Q hQ => ?_
 simp [c17c, c17t, q1, q2, q6, q7, q8, q9, q10, q11, q12, q13, q14]
 refine ATT.fin' hQ Tryz.func17 c17res ?_
 simp [rowV, rowC]
 all_goals (first | omega | exact ⟨_, rfl⟩ | skip)
end Go.SL
namespace Go.SL
open Go.Proofs
set_option maxRecDepth 10000
def superK (c : Int) : Int := if 2 ≤ c ∧ c ≤ 14 then 1 else 0
theorem f22_ok (c : Int) : DF Tryz.prog 22 [.int .i64 c] (.int .i64 (superK c)) := by
 have hT := f37_ok c
 unfold superK
 cases ht : thereK c with
 | false =>
  rw [ht] at hT
  have h : ¬ (2 ≤ c ∧ c ≤ 14) := by simp [thereK] at ht; omega
  rw [if_neg h]
  refine AF.go Tryz.func22 [] fun tb TB Q hQ => ?_
  simp [TB]
  refine ATT.callD Tryz.func22 60 (hT) ?_ ?_ ?_ ?_
  iterate 3 · simp
  simp [TB]
  refine ATT.fin2 hQ Tryz.func22 ?_
  simp
  all_goals (first | omega | exact ⟨_, rfl⟩ | skip)
 | true =>
  rw [ht] at hT
  by_cases h1 : c = 1
  ·subst h1
   refine AF.go Tryz.func22 [] fun tb TB Q hQ => ?_
   simp [TB]
   refine ATT.callD Tryz.func22 60 (hT) ?_ ?_ ?_ ?_
   iterate 3 · simp
   simp [TB]
   refine ATT.fin2 hQ Tryz.func22 ?_
   simp
   all_goals (first | omega | exact ⟨_, rfl⟩ | skip)
  ·have h : 2 ≤ c ∧ c ≤ 14 := by simp [thereK] at ht; omega
   rw [if_pos h]
   refine AF.go Tryz.func22 [] fun tb TB Q hQ => ?_
   simp [TB]
   refine ATT.callD Tryz.func22 60 (hT) ?_ ?_ ?_ ?_
   iterate 3 · simp
   simp [TB, h1]
   refine ATT.fin2 hQ Tryz.func22 ?_
   simp
   all_goals (first | omega | exact ⟨_, rfl⟩ | skip)
theorem f29_ok (c : Int) : DF Tryz.prog 29 [.int .i64 c] (.agg [.int .i64 4, .int .i64 c]) := by
 refine AF.go Tryz.func29 [] fun tb TB Q hQ => ?_
 simp [TB]
 refine ATT.fin2 hQ Tryz.func29 ?_
 simp
 all_goals (first | omega | exact ⟨_, rfl⟩ | skip)
def oopK (s : ByteArray) : Nat := (idxS s (nameK.drop 1) 1).getD 0
theorem idxS_cons {s x : ByteArray} {l : List ByteArray} {k : Nat} : idxS s (x :: l) k = if x = s then some k else idxS s l (k + 1) := rfl
theorem oopK_empty : oopK ⟨#[]⟩ = 0 := by kernel_rfl
theorem f20_ok (s : ByteArray) : DF Tryz.prog 20 [.str s] (.int .i64 (oopK s)) := by
 by_cases h0 : s = ⟨#[]⟩
 ·subst h0
  rw [oopK_empty]
  refine AF.start' 60 Tryz.func20 rfl rfl c20call c20ok fun Q hQ => ?_
  simp [c20c, c20t]
  refine ATT.fin' hQ Tryz.func20 c20res ?_
  simp
  all_goals (first | omega | exact ⟨_, rfl⟩ | skip)
 ·have hI := f38_ok nameK (by decide) false 1 (fun h => by simp at h) (fun _ => rfl) s
  have e : idxS s nameK 0 = idxS s (nameK.drop 1) 1 := by
   show idxS s (nK0 :: nameK.drop 1) 0 = _
   rw [idxS_cons, if_neg (fun e => h0 e.symm)]
  rw [e] at hI
  have h0' : ¬ s = nK0 := h0
  unfold oopK
  simp only [nameK, List.map_cons, List.map_nil] at hI
  cases hx : idxS s (nameK.drop 1) 1 with
  | none =>
   simp only [nameK, List.drop_succ_cons, List.drop_zero] at hx
   simp only [List.drop_succ_cons, List.drop_zero, hx, idxI] at hI
   refine AF.start' 60 Tryz.func20 rfl rfl c20call c20ok fun Q hQ => ?_
   simp [c20c, c20t, h0']
   refine ATT.callD Tryz.func20 60 (hI) ?_ ?_ ?_ ?_
   iterate 3 · simp
   simp
   refine ATT.fin' hQ Tryz.func20 c20res ?_
   simp
   all_goals (first | omega | exact ⟨_, rfl⟩ | skip)
  | some k =>
   simp only [nameK, List.drop_succ_cons, List.drop_zero] at hx
   simp only [List.drop_succ_cons, List.drop_zero, hx, idxI] at hI
   refine AF.start' 60 Tryz.func20 rfl rfl c20call c20ok fun Q hQ => ?_
   simp [c20c, c20t, h0']
   refine ATT.callD Tryz.func20 60 (hI) ?_ ?_ ?_ ?_
   iterate 3 · simp
   simp
   refine ATT.fin' hQ Tryz.func20 c20res ?_
   simp
   all_goals (first | omega | exact ⟨_, rfl⟩ | skip)
theorem f19_ok (c : Int) : DF Tryz.prog 19 [.int .i64 c] (.str (nmK c)) := by
 unfold nmK thereK
 by_cases h1 : 1 ≤ c
 ·by_cases h2 : c ≤ 14
  ·obtain ⟨k, hk⟩ : ∃ k : Nat, c = k := ⟨c.toNat, by omega⟩
   subst hk
   have hl : k < 15 := by omega
   have hi : inR (k : Int) 15 = true := inR_of (by omega) (by omega)
   have q1 : ¬ (k : Int) < 1 := by omega
   have q2 : ¬ (14 : Int) < k := by omega
   have key : ∀ l : List ByteArray, l.length = 15 → ∃ s, (l.map fun x => V.d (D.str x))[k]? = some (.d (.str s)) ∧ l.getD k ⟨#[]⟩ = s := fun l h => ⟨l[k]'(by omega), by simp [List.getElem?_eq_getElem (show k < l.length by omega)], by simp [List.getD, List.getElem?_eq_getElem (show k < l.length by omega)]⟩
   obtain ⟨s, e2, e3⟩ := key nameK rfl
   simp only [nameK, List.map_cons, List.map_nil] at e2
   simp only [h1, h2, decide_true, Bool.and_self, Int.toNat_natCast, if_true, e3]
   refine AF.start' 60 Tryz.func19 rfl rfl c19call c19ok fun Q hQ => ?_
   simp [c19c, c19t, hi, e2, q1, q2]
   refine ATT.fin' hQ Tryz.func19 c19res ?_
   simp
   all_goals (first | omega | exact ⟨_, rfl⟩ | skip)
  ·have q2 : (14 : Int) < c := by omega
   have q1 : ¬ c < 1 := by omega
   simp only [h2, decide_false, Bool.and_false, Bool.false_eq_true, if_false]
   refine AF.start' 60 Tryz.func19 rfl rfl c19call c19ok fun Q hQ => ?_
   simp [c19c, c19t, q1, q2]
   refine ATT.fin' hQ Tryz.func19 c19res ?_
   simp [nK0]
   all_goals (first | omega | exact ⟨_, rfl⟩ | skip)
 ·have q1 : c < 1 := by omega
  simp only [h1, decide_false, Bool.false_and, Bool.false_eq_true, if_false]
  refine AF.start' 60 Tryz.func19 rfl rfl c19call c19ok fun Q hQ => ?_
  simp [c19c, c19t, q1]
  refine ATT.fin' hQ Tryz.func19 c19res ?_
  simp [nK0]
  all_goals (first | omega | exact ⟨_, rfl⟩ | skip)
theorem f23_ok (c : Int) : DF Tryz.prog 23 [.int .i64 c] (.int .i64 (superK c)) := by
 unfold superK
 by_cases h1 : 2 ≤ c
 ·by_cases h2 : c ≤ 14
  ·rw [if_pos ⟨h1, h2⟩]
   refine AF.go Tryz.func23 [] fun tb TB Q hQ => ?_
   simp [TB, h1, h2]
   refine ATT.fin2 hQ Tryz.func23 ?_
   simp
   all_goals (first | omega | exact ⟨_, rfl⟩ | skip)
  ·rw [if_neg (fun h => h2 h.2)]
   refine AF.go Tryz.func23 [] fun tb TB Q hQ => ?_
   simp [TB, h1, h2]
   refine ATT.fin2 hQ Tryz.func23 ?_
   simp
   all_goals (first | omega | exact ⟨_, rfl⟩ | skip)
 ·rw [if_neg (fun h => h1 h.1)]
  refine AF.go Tryz.func23 [] fun tb TB Q hQ => ?_
  simp [TB, h1]
  refine ATT.fin2 hQ Tryz.func23 ?_
  simp
  all_goals (first | omega | exact ⟨_, rfl⟩ | skip)
theorem f21_ok (s : ByteArray) : DF Tryz.prog 21 [.str s] (.int .i64 (oopK s)) := by
 unfold oopK
 refine AF.go Tryz.func21 [] fun tb TB Q hQ => ?_
 simp [TB]
 refine ATT.loopG 60 rfl (fun (k : Nat) => 15 - k) (fun (k : Nat) => 1 ≤ k ∧ k ≤ 15 ∧ idxS s (nameK.drop k) k = idxS s (nameK.drop 1) 1) (fun (k : Nat) => [(0, .d (.str s)), (3, .d (.int .i64 k))]) (fun (k : Nat) => []) (fun (k : Nat) => []) (1) (by (try dsimp only); exact ⟨Nat.le_refl _, by decide, rfl⟩) (by simp <;> omega) (by simp) (by simp) ?_
 intro k u w hI ih
 try simp only at hI ih
 obtain ⟨i1, i2, i3⟩ := hI
 by_cases hk : k ≤ 14
 ·have hk' : (k : Int) ≤ 14 := by omega
  have hN := f19_ok (k : Int)
  have hII : inI ((k : Int) + 1) = true := inI_of (by omega) (by omega)
  have hlt : k < nameK.length := by show k < 15; omega
  have hnm : nmK (k : Int) = nameK[k] := by
   have : thereK (k : Int) = true := by simp [thereK]; omega
   unfold nmK
   rw [this]
   simp [List.getD, List.getElem?_eq_getElem hlt]
  rw [List.drop_eq_getElem_cons hlt, idxS_cons] at i3
  rw [hnm] at hN
  generalize nameK[k] = x at hN i3
  by_cases hx : x = s
  ·rw [if_pos hx] at i3
   rw [← i3] at hQ
   simp [TB, hk']
   refine ATT.callD Tryz.func21 60 (hN) ?_ ?_ ?_ ?_
   iterate 3 · simp
   simp [TB, eq_true hx]
   refine ATT.fin2 hQ Tryz.func21 ?_
   simp
   all_goals (first | omega | exact ⟨_, rfl⟩ | skip)
  ·rw [if_neg hx] at i3
   simp [TB, hk']
   refine ATT.callD Tryz.func21 60 (hN) ?_ ?_ ?_ ?_
   iterate 3 · simp
   simp [TB, hII, hx]
   refine ih (k + 1) (by first | ((try dsimp only); omega) | (simp [hk, hk', hII, hx] <;> omega)) (by (try dsimp only); exact ⟨by omega, by omega, i3⟩) _ _ _ (by simp <;> omega) (by simp <;> omega) (by simp <;> omega)
 ·have hk' : ¬ (k : Int) ≤ 14 := by omega
  have he : k = 15 := by omega
  subst he
  rw [show nameK.drop 15 = [] from rfl] at i3
  rw [← i3] at hQ
  simp [TB]
  refine ATT.fin2 hQ Tryz.func21 ?_
  simp [idxS]
  all_goals (first | omega | exact ⟨_, rfl⟩ | skip)
set_option maxHeartbeats 1000000 in
theorem f16_ok (c : Int) (k : Nat) (hk : c = k ∨ (k = 0 ∧ (c < 0 ∨ 14 < c))) : VF Tryz.prog 16 [.d (.int .i64 c)] [] [] (rowV (srcK k)) [] (rowC (srcK k)) := by
 by_cases h1 : k = 1
 ·subst h1
  have hc : c = 1 := by omega
  subst hc
  refine AF.start' 60 Tryz.func16 rfl rfl c16call c16ok fun Q hQ => ?_
  simp [c16c, c16t]
  refine ATT.fin' hQ Tryz.func16 c16res ?_
  simp [rowV, rowC, srcK]
  all_goals (first | omega | exact ⟨_, rfl⟩ | skip)
 by_cases h3 : k = 3
 ·subst h3
  have hc : c = 3 := by omega
  subst hc
  refine AF.start' 60 Tryz.func16 rfl rfl c16call c16ok fun Q hQ => ?_
  simp [c16c, c16t]
  refine ATT.fin' hQ Tryz.func16 c16res ?_
  simp [rowV, rowC, srcK]
  all_goals (first | omega | exact ⟨_, rfl⟩ | skip)
 by_cases h4 : k = 4
 ·subst h4
  have hc : c = 4 := by omega
  subst hc
  refine AF.start' 60 Tryz.func16 rfl rfl c16call c16ok fun Q hQ => ?_
  simp [c16c, c16t]
  refine ATT.fin' hQ Tryz.func16 c16res ?_
  simp [rowV, rowC, srcK]
  all_goals (first | omega | exact ⟨_, rfl⟩ | skip)
 by_cases h5 : k = 5
 ·subst h5
  have hc : c = 5 := by omega
  subst hc
  refine AF.start' 60 Tryz.func16 rfl rfl c16call c16ok fun Q hQ => ?_
  simp [c16c, c16t]
  refine ATT.fin' hQ Tryz.func16 c16res ?_
  simp [rowV, rowC, srcK]
  all_goals (first | omega | exact ⟨_, rfl⟩ | skip)
 by_cases h6 : k = 6
 ·subst h6
  have hc : c = 6 := by omega
  subst hc
  refine AF.start' 60 Tryz.func16 rfl rfl c16call c16ok fun Q hQ => ?_
  simp [c16c, c16t]
  refine ATT.fin' hQ Tryz.func16 c16res ?_
  simp [rowV, rowC, srcK]
  all_goals (first | omega | exact ⟨_, rfl⟩ | skip)
 by_cases h10 : k = 10
 ·subst h10
  have hc : c = 10 := by omega
  subst hc
  refine AF.start' 60 Tryz.func16 rfl rfl c16call c16ok fun Q hQ => ?_
  simp [c16c, c16t]
  refine ATT.fin' hQ Tryz.func16 c16res ?_
  simp [rowV, rowC, srcK]
  all_goals (first | omega | exact ⟨_, rfl⟩ | skip)
 by_cases h12 : k = 12
 ·subst h12
  have hc : c = 12 := by omega
  subst hc
  refine AF.start' 60 Tryz.func16 rfl rfl c16call c16ok fun Q hQ => ?_
  simp [c16c, c16t]
  refine ATT.fin' hQ Tryz.func16 c16res ?_
  simp [rowV, rowC, srcK]
  all_goals (first | omega | exact ⟨_, rfl⟩ | skip)
 have hn : srcK k = [] := by
  unfold srcK
  split <;> first | rfl | omega
 have q1 : ¬ c = 1 := by omega
 have q3 : ¬ c = 3 := by omega
 have q4 : ¬ c = 4 := by omega
 have q5 : ¬ c = 5 := by omega
 have q6 : ¬ c = 6 := by omega
 have q10 : ¬ c = 10 := by omega
 have q12 : ¬ c = 12 := by omega
 rw [hn]
 refine AF.start' 60 Tryz.func16 rfl rfl c16call c16ok fun Q hQ => ?_
 simp [c16c, c16t, q1, q3, q4, q5, q6, q10, q12]
 refine ATT.fin' hQ Tryz.func16 c16res ?_
 simp [rowV, rowC]
 all_goals (first | omega | exact ⟨_, rfl⟩ | skip)
set_option maxHeartbeats 1000000 in
theorem f25_ok (c : Int) (k : Nat) (hk : c = k ∨ (k = 0 ∧ (c < 0 ∨ 14 < c))) : VF Tryz.prog 25 [.d (.int .i64 c)] [] [] (rowV (natK k)) [] (rowC (natK k)) := by
 by_cases h1 : k = 1
 ·subst h1
  have hc : c = 1 := by omega
  subst hc
  refine AF.start' 60 Tryz.func25 rfl rfl c25call c25ok fun Q hQ => ?_
  simp [c25c, c25t]
  refine ATT.fin' hQ Tryz.func25 c25res ?_
  simp [rowV, rowC, natK]
  all_goals (first | omega | exact ⟨_, rfl⟩ | skip)
 by_cases h2 : k = 2
 ·subst h2
  have hc : c = 2 := by omega
  subst hc
  refine AF.start' 60 Tryz.func25 rfl rfl c25call c25ok fun Q hQ => ?_
  simp [c25c, c25t]
  refine ATT.fin' hQ Tryz.func25 c25res ?_
  simp [rowV, rowC, natK]
  all_goals (first | omega | exact ⟨_, rfl⟩ | skip)
 by_cases h6 : k = 6
 ·subst h6
  have hc : c = 6 := by omega
  subst hc
  refine AF.start' 60 Tryz.func25 rfl rfl c25call c25ok fun Q hQ => ?_
  simp [c25c, c25t]
  refine ATT.fin' hQ Tryz.func25 c25res ?_
  simp [rowV, rowC, natK]
  all_goals (first | omega | exact ⟨_, rfl⟩ | skip)
 by_cases h7 : k = 7
 ·subst h7
  have hc : c = 7 := by omega
  subst hc
  refine AF.start' 60 Tryz.func25 rfl rfl c25call c25ok fun Q hQ => ?_
  simp [c25c, c25t]
  refine ATT.fin' hQ Tryz.func25 c25res ?_
  simp [rowV, rowC, natK]
  all_goals (first | omega | exact ⟨_, rfl⟩ | skip)
 by_cases h8 : k = 8
 ·subst h8
  have hc : c = 8 := by omega
  subst hc
  refine AF.start' 60 Tryz.func25 rfl rfl c25call c25ok fun Q hQ => ?_
  simp [c25c, c25t]
  refine ATT.fin' hQ Tryz.func25 c25res ?_
  simp [rowV, rowC, natK]
  all_goals (first | omega | exact ⟨_, rfl⟩ | skip)
 by_cases h9 : k = 9
 ·subst h9
  have hc : c = 9 := by omega
  subst hc
  refine AF.start' 60 Tryz.func25 rfl rfl c25call c25ok fun Q hQ => ?_
  simp [c25c, c25t]
  refine ATT.fin' hQ Tryz.func25 c25res ?_
  simp [rowV, rowC, natK]
  all_goals (first | omega | exact ⟨_, rfl⟩ | skip)
 by_cases h10 : k = 10
 ·subst h10
  have hc : c = 10 := by omega
  subst hc
  refine AF.start' 60 Tryz.func25 rfl rfl c25call c25ok fun Q hQ => ?_
  simp [c25c, c25t]
  refine ATT.fin' hQ Tryz.func25 c25res ?_
  simp [rowV, rowC, natK]
  all_goals (first | omega | exact ⟨_, rfl⟩ | skip)
 by_cases h11 : k = 11
 ·subst h11
  have hc : c = 11 := by omega
  subst hc
  refine AF.start' 60 Tryz.func25 rfl rfl c25call c25ok fun Q hQ => ?_
  simp [c25c, c25t]
  refine ATT.fin' hQ Tryz.func25 c25res ?_
  simp [rowV, rowC, natK]
  all_goals (first | omega | exact ⟨_, rfl⟩ | skip)
 by_cases h12 : k = 12
 ·subst h12
  have hc : c = 12 := by omega
  subst hc
  refine AF.start' 60 Tryz.func25 rfl rfl c25call c25ok fun Q hQ => ?_
  simp [c25c, c25t]
  refine ATT.fin' hQ Tryz.func25 c25res ?_
  simp [rowV, rowC, natK]
  all_goals (first | omega | exact ⟨_, rfl⟩ | skip)
 by_cases h13 : k = 13
 ·subst h13
  have hc : c = 13 := by omega
  subst hc
  refine AF.start' 60 Tryz.func25 rfl rfl c25call c25ok fun Q hQ => ?_
  simp [c25c, c25t]
  refine ATT.fin' hQ Tryz.func25 c25res ?_
  simp [rowV, rowC, natK]
  all_goals (first | omega | exact ⟨_, rfl⟩ | skip)
 by_cases h14 : k = 14
 ·subst h14
  have hc : c = 14 := by omega
  subst hc
  refine AF.start' 60 Tryz.func25 rfl rfl c25call c25ok fun Q hQ => ?_
  simp [c25c, c25t]
  refine ATT.fin' hQ Tryz.func25 c25res ?_
  simp [rowV, rowC, natK]
  all_goals (first | omega | exact ⟨_, rfl⟩ | skip)
 have hn : natK k = [] := by
  unfold natK
  split <;> first | rfl | omega
 have q1 : ¬ c = 1 := by omega
 have q2 : ¬ c = 2 := by omega
 have q6 : ¬ c = 6 := by omega
 have q7 : ¬ c = 7 := by omega
 have q8 : ¬ c = 8 := by omega
 have q9 : ¬ c = 9 := by omega
 have q10 : ¬ c = 10 := by omega
 have q11 : ¬ c = 11 := by omega
 have q12 : ¬ c = 12 := by omega
 have q13 : ¬ c = 13 := by omega
 have q14 : ¬ c = 14 := by omega
 rw [hn]
 refine AF.start' 60 Tryz.func25 rfl rfl c25call c25ok fun Q hQ => ?_
 simp [c25c, c25t, q1, q2, q6, q7, q8, q9, q10, q11, q12, q13, q14]
 refine ATT.fin' hQ Tryz.func25 c25res ?_
 simp [rowV, rowC]
 all_goals (first | omega | exact ⟨_, rfl⟩ | skip)
end Go.SL
namespace Go.SL
open Go.Proofs
set_option maxRecDepth 10000
def skipF (p : Int → Bool) (s : ByteArray) : Nat → Nat → Nat
 | 0, i => i
 | n + 1, i => if i < s.size then (if p (sbyte s i) then skipF p s n (i + 1) else i) else i
theorem skip_eq (p : Int → Bool) (s : ByteArray) : ∀ n i, s.size ≤ n + i → skipS p s i = skipF p s n i
 | 0, i, h => by rw [skipS, dif_neg (by omega)]; rfl
 | n + 1, i, h => by
  rw [skipS]
  simp only [skipF]
  split
  ·split
   ·exact skip_eq p s n (i + 1) (by omega)
   ·rfl
  ·rfl
theorem lex_end {num : ByteArray → Bool} {s : ByteArray} {i : Nat} (hj : skipS blankS s i = s.size) : lexS num s i = .inl [⟨0, ⟨#[]⟩, s.size⟩] := by
 rw [lexS_eq, hj, if_neg (Nat.lt_irrefl _)]
end Go.SL
namespace Go.SL
open Go.Proofs
set_option maxRecDepth 10000
def nameF (s : ByteArray) (i : Nat) : Nat := if (decide (i < s.size) && letterS (sbyte s i)) then skipF identS s 300 i else i
def signF (c : Int) : Bool := decide (0 ≤ placeL c signsT.data.toList 0)
def signsF (s : ByteArray) (i : Nat) : Nat :=
 if (decide (i < s.size) && signF (sbyte s i)) then (if (decide (i + 1 < s.size) && signF (sbyte s (i + 1 : Nat))) then i + 2 else i + 1) else i
def wordF (s : ByteArray) (i : Nat) : Option (Int × ByteArray × Nat) :=
 if letterS (sbyte s i) then (if colonS s (nameF s i) then some (2, subT s i (nameF s i + 1), nameF s i + 1) else some (1, subT s i (nameF s i), nameF s i))
 else if digitS (sbyte s i) then (if numS (subT s i (skipF digitS s 300 i)) then some (4, subT s i (skipF digitS s 300 i), skipF digitS s 300 i) else none)
 else if sbyte s i = 39 then none
 else if sbyte s i = 35 then none
 else if sbyte s i = 58 then (if atS s (i + 1) = 61 then some (7, subT s i (i + 2), i + 2) else some (16, subT s i (i + 1), i + 1))
 else if signF (sbyte s i) then some (3, subT s i (signsF s i), signsF s i)
 else if 0 ≤ placeL (sbyte s i) singlesT.data.toList 0 then some (8 + placeL (sbyte s i) singlesT.data.toList 0, subT s i (i + 1), i + 1)
 else none
theorem nameF_eq {s : ByteArray} (hs : s.size ≤ 300) (i : Nat) : nameS s i = nameF s i := by
 unfold nameS nameF
 split
 ·exact skip_eq _ _ _ _ (by omega)
 ·rfl
theorem signF_eq (c : Int) : signS c = signF c := by unfold signS signF; rw [placeS_L _ _ _ 0 rfl, List.drop_zero]
theorem wordF_ok {s : ByteArray} (hs : s.size ≤ 300) {i : Nat} {x : Int × ByteArray × Nat} (h : wordF s i = some x) : wordS numS s i = some x := by
 unfold wordF at h
 unfold wordS
 have e1 : signsS s i = signsF s i := by unfold signsS signsF; simp only [signF_eq]
 rw [nameF_eq hs, skip_eq digitS s 300 i (by omega), signF_eq, e1, placeS_L _ singlesT _ 0 rfl, List.drop_zero]
 repeat' (split at h)
 all_goals simp_all
def lexG (s : ByteArray) : Nat → Nat → Option (List Tk)
 | 0, _ => none
 | n + 1, i =>
  if skipF blankS s 300 i < s.size then (if sbyte s (skipF blankS s 300 i) = 34 then none else match wordF s (skipF blankS s 300 i) with
   | some (k, t, e) => if skipF blankS s 300 i < e then (match lexG s n e with
    | some l => some (⟨k, t, skipF blankS s 300 i⟩ :: l)
    | none => none) else none
   | none => none)
  else if skipF blankS s 300 i = s.size then some [⟨0, ⟨#[]⟩, s.size⟩] else none
theorem lexG_ok {s : ByteArray} (hs : s.size ≤ 300) : ∀ (n i : Nat) (l : List Tk), lexG s n i = some l → lexS numS s i = .inl l
 | 0, i, l, h => by simp [lexG] at h
 | n + 1, i, l, h => by
  have hj := skip_eq blankS s 300 i (by omega)
  unfold lexG at h
  split at h
  ·rename_i h1
   split at h
   ·simp at h
   rename_i h2
   split at h
   case h_2 => simp at h
   rename_i k t e hw
   split at h
   case isFalse => simp at h
   rename_i he
   split at h
   case h_2 => simp at h
   rename_i l' hl
   simp only [Option.some.injEq] at h
   rw [lexS_eq, hj, if_pos h1, if_neg h2, wordF_ok hs hw]
   simp only [if_pos he, lexG_ok hs n e l' hl]
   rw [← h]
  ·split at h
   ·rename_i h1 h2
    simp only [Option.some.injEq] at h
    rw [← h]
    exact lex_end (hj.trans h2)
   ·simp at h
def compK (m : Bool) (s : ByteArray) : Option (ByteArray × CM) := match lexG s 300 0 with
 | some l => match uniS (fuel l) (headS m) l with
  | .ok x _ => match makeD [] x with
   | .inl c => some (x.t, c)
   | .inr _ => none
  | _ => none
 | none => none
theorem compK_ok {m : Bool} {s : ByteArray} (hs : s.size ≤ 300) {r : ByteArray × CM} (h : compK m s = some r) : codeD numS [] m s = .inl r := by
 unfold compK at h
 split at h
 case h_2 => simp at h
 rename_i l hl
 split at h
 case h_2 => simp at h
 rename_i x r1 hx
 split at h
 case h_2 => simp at h
 rename_i c hc
 simp only [Option.some.injEq] at h
 have hp : parseD numS m s = .ok x r1 := by
  unfold parseD
  rw [if_neg (by omega), lexG_ok hs _ _ _ hl]
  exact hx
 unfold codeD
 rw [hp]
 simp only [hc]
 rw [h]
def selK (s : ByteArray) : ByteArray := match compK true s with
 | some r => r.1
 | none => ⟨#[]⟩
def allK : List ByteArray := (List.range 15).flatMap srcK
theorem all_made : (allK.all fun s => decide (s.size ≤ 300) && (compK true s).isSome) = true := by kernel_rfl
theorem made {s : ByteArray} (h : s ∈ allK) : ∃ c, codeD numS [] true s = .inl (selK s, c) := by
 have := List.all_eq_true.1 all_made s h
 simp only [Bool.and_eq_true, decide_eq_true_eq] at this
 obtain ⟨r, hr⟩ := Option.isSome_iff_exists.1 this.2
 exact ⟨r.2, by rw [compK_ok this.1 hr]; simp [selK, hr]⟩
end Go.SL
namespace Go.SL
open Go.Sort Go.Lib Go.Shelf Go.Proofs
structure El where
 key : Int
 c : List Value
 lo : -4611686018427387904 ≤ key
 hi : key < 4611686018427387904
 hl : c.length = 4
 ho : ∀ v ∈ c, v.oneCell' = true
instance : Inhabited El := ⟨⟨0, [.bool false, .bool false, .bool false, .bool false], by decide, by decide, rfl, by simp [Value.oneCell']⟩⟩
def encE (x : El) : List Value := .int .i64 x.key :: x.c
def cfE (x y : El) : Int := x.key - y.key
theorem encE_len (x : El) : (encE x).length = 5 := by simp [encE, x.hl]
theorem encE_one (x : El) : ∀ v ∈ encE x, v.oneCell' = true := fun v hv => by
 simp only [encE, List.mem_cons] at hv
 rcases hv with rfl | hv
 ·rfl
 ·exact x.ho v hv
theorem ltE (x y : El) : ltOf cfE x y = decide (x.key < y.key) := by
 unfold ltOf cfE
 by_cases h : x.key < y.key
 ·rw [decide_eq_true h, decide_eq_true (by omega)]
 ·rw [decide_eq_false h, decide_eq_false (by omega)]
theorem swoE : SWO (ltOf cfE) where
 irrefl x := by rw [ltE]; simp
 trans x y z h1 h2 := by rw [ltE] at *; simp at *; omega
 ntrans x y z h1 h2 := by rw [ltE] at *; simp at *; omega
def SortK (P : Program) (f g : FuncId) : Prop := ∀ (blk off cap : Nat) (d : Array El) (w : World), HoldsK encE 5 w blk off d → blk < w.heap.size → d.size < 4611686018427387904 →
 Calls P f #[.slice (some ⟨blk, off, none⟩) d.size cap, .func (.func g) #[] #[]] w fun e w' => e = .returned (.tuple #[]) ∧ ∃ d' n os, PermIn 0 d.size d d' ∧ SortedIn (ltOf cfE) 0 d.size d' ∧ w' = sortWorldK encE 5 w blk off n d' os
inductive All2 {α β : Type} (R : α → β → Prop) : List α → List β → Prop
 | nil : All2 R [] []
 | cons {x y xs ys} : R x y → All2 R xs ys → All2 R (x :: xs) (y :: ys)
theorem All2.len {α β : Type} {R : α → β → Prop} {xs : List α} {ys : List β} (h : All2 R xs ys) : xs.length = ys.length := by induction h <;> simp_all
theorem All2.perm {α β : Type} {R : α → β → Prop} {ys ys' : List β} (p : ys'.Perm ys) : ∀ {xs : List α}, All2 R xs ys → ∃ xs', xs'.Perm xs ∧ All2 R xs' ys' := by
 induction p with
 | nil => intro xs h; cases h; exact ⟨[], .nil, .nil⟩
 | cons x p ih =>
  intro xs h
  cases h with
  | cons h1 h2 => obtain ⟨l, p1, q1⟩ := ih h2; exact ⟨_ :: l, p1.cons _, .cons h1 q1⟩
 | swap x y l =>
  intro xs h
  cases h with
  | cons h1 h2 => cases h2 with
   | cons h2 h3 => exact ⟨_, .swap _ _ _, .cons h2 (.cons h1 h3)⟩
 | trans p q ih1 ih2 =>
  intro xs h
  obtain ⟨l, p1, q1⟩ := ih2 h
  obtain ⟨m, p2, q2⟩ := ih1 q1
  exact ⟨m, p2.trans p1, q2⟩
theorem All2.get {α β : Type} {R : α → β → Prop} {xs : List α} {ys : List β} (h : All2 R xs ys) : ∀ {i : Nat} {x : α}, xs[i]? = some x → ∃ y, ys[i]? = some y ∧ R x y := by
 induction h with
 | nil => intro i x e; simp at e
 | cons h1 _ ih =>
  intro i x e
  cases i with
  | zero => simp at e; subst e; exact ⟨_, rfl, h1⟩
  | succ i => simpa using ih (by simpa using e)
section
variable {κ : K}
def keyV : V → Int
 | .agg (.d (.int _ k) :: _) => k
 | .d (.agg (.int _ k :: _)) => k
 | _ => 0
def SortOk (x : V) : Prop := ∃ r, x.cells = .d (.int .i64 (keyV x)) :: r ∧ r.length = 4 ∧ -4611686018427387904 ≤ keyV x ∧ keyV x < 4611686018427387904
def RE (κ : K) (x : V) (y : El) : Prop := VC κ x.cells (encE y) ∧ y.key = keyV x
theorem els_of : ∀ {xs : List V} {vs : List Value}, (∀ x ∈ xs, SortOk x) → VX κ 5 xs vs → ∃ es : List El, vs = (es.map encE).flatten ∧ All2 (RE κ) xs es
 | [], vs, _, h => ⟨[], by simpa [VX] using h, .nil⟩
 | x :: xs, vs, ho, h => by
  obtain ⟨c, r, e, hl, hc, hr⟩ := h
  obtain ⟨es, e1, a1⟩ := els_of (fun y hy => ho y (by simp [hy])) hr
  obtain ⟨q, e2, e3, k1, k2⟩ := ho x (by simp)
  have hc' := hc
  rw [e2] at hc'
  obtain ⟨h1, h2⟩ := hc'
  simp only [VL, VR, DR] at h1
  obtain ⟨y, t, e4, e5, e6⟩ := h1
  subst e4 e5
  refine ⟨⟨keyV x, t, k1, k2, by simpa using hl, fun v hv => h2 v (by simp [hv])⟩ :: es, ?_, .cons ⟨hc, rfl⟩ a1⟩
  rw [e, e1]; rfl
theorem vx_of : ∀ {xs : List V} {es : List El}, All2 (RE κ) xs es → VX κ 5 xs (es.map encE).flatten
 | _, _, .nil => by simp [VX]
 | _, _, .cons h1 h2 => ⟨_, _, by simp, encE_len _, h1.1, vx_of h2⟩
theorem flat_at : ∀ (es : List El) (t : Nat), t < es.length * 5 → ((es.map encE).flatten)[t]? = (encE es[t / 5]!)[t % 5]?
 | [], t, h => by simp at h
 | x :: r, t, h => by
  have hx := encE_len x
  by_cases h5 : t < 5
  ·rw [List.map_cons, List.flatten_cons, List.getElem?_append_left (by omega), Nat.div_eq_of_lt h5, Nat.mod_eq_of_lt h5]; rfl
  ·rw [List.map_cons, List.flatten_cons, List.getElem?_append_right (by omega), hx]
   have e1 : t / 5 = (t - 5) / 5 + 1 := by omega
   have e2 : t % 5 = (t - 5) % 5 := by omega
   rw [flat_at r (t - 5) (by simp at h; omega), e1, e2]
   simp
theorem flat_len (es : List El) : ((es.map encE).flatten).length = es.length * 5 := by
 induction es with
 | nil => rfl
 | cons x r ih => simp only [List.map_cons, List.flatten_cons, List.length_append, ih, encE_len, List.length_cons]; omega
theorem flatK_list (es : List El) : flatK encE 5 es.toArray = ((es.map encE).flatten).toArray := by
 refine ext_get! (by simp only [size_flatK, List.size_toArray, flat_len]) fun t ht => ?_
 simp only [size_flatK, List.size_toArray] at ht
 rw [get_flatK _ _ _ _ (by simpa using ht)]
 have h := flat_at es t ht
 have h1 : t % 5 < (encE es[t / 5]!).length := by rw [encE_len]; omega
 simp only [List.getElem!_toArray]
 have e2 : ((es.map encE).flatten)[t]! = (((es.map encE).flatten)[t]?).getD default := by simp
 rw [e2, h]
 simp
theorem sort_heap {w : World} {b m : Nat} {vs sp : List Value} {e : TypeId} {fz : Nat × Nat} {d : Array El} {os : Array Obj} (hheap : w.heap[b]? = some (.cells ⟨vs ++ sp⟩ e fz)) (hvs : vs.length = d.size * 5) :
  (sortWorldK encE 5 w b 0 m d os).heap[b]? = some (.cells ⟨(d.toList.map encE).flatten ++ sp⟩ e fz) ∧ ∀ k, k < w.heap.size → k ≠ b → (sortWorldK encE 5 w b 0 m d os).heap[k]? = w.heap[k]? := by
 have hb := (Array.getElem?_eq_some_iff.1 hheap).1
 have key : ∀ k, k < w.heap.size → (sortWorldK encE 5 w b 0 m d os).heap[k]? = if b = k then (w.heap[k]?).map (onCells (putCells id 0 (flatK encE 5 d))) else w.heap[k]? := fun k hk => by
  unfold sortWorldK grow putRowK putRow mapBlock Sort.ahead
  simp only
  rw [Array.getElem?_append_left (by simpa using hk), Array.getElem?_modify]
 refine ⟨?_, fun k hk hn => ?_⟩
 ·rw [key b hb, if_pos rfl, hheap]
  simp only [Option.map_some, onCells]
  congr 2
  have hfl : flatK encE 5 d = ((d.toList.map encE).flatten).toArray := by rw [← flatK_list]
  apply Array.ext
  ·have := flat_len d.toList
   simp only [putCells, Array.size_mapIdx, List.size_toArray, List.length_append, this, hvs, Array.length_toList]
  ·intro i h1 h2
   simp only [putCells, Array.getElem_mapIdx, Nat.zero_le, true_and, Nat.zero_add, Nat.sub_zero, size_flatK, id]
   simp only [putCells, Array.size_mapIdx, List.size_toArray, List.length_append, hvs] at h1
   by_cases hi : i < d.size * 5
   ·rw [if_pos hi, hfl]
    have h3 : i < ((d.toList.map encE).flatten).length := by rw [flat_len]; simpa using hi
    simp only [List.getElem!_toArray]
    rw [getElem!_pos _ i h3]
    simp [List.getElem_append_left h3]
   ·rw [if_neg hi]
    have h3 : ((d.toList.map encE).flatten).length ≤ i := by rw [flat_len]; simpa using hi
    simp only [List.getElem_toArray]
    rw [List.getElem_append_right (by omega), List.getElem_append_right h3]
    congr 1
    rw [flat_len, hvs]; simp
 ·rw [key k hk, if_neg (fun e => hn e.symm)]
theorem sort_AF {P : Program} {f g : FuncId} (hcal : callable P f = true) (hcon : SortK P f g) {xs : List V} {e : TypeId} (ho : ∀ x ∈ xs, SortOk x) (hn : xs.length < 4611686018427387904) :
  AF P f [.vs 0 xs.length 0 xs.length, .d (.fn (.func g) [] [])] ⟨[], [some ⟨false, 5, 0, xs, e⟩]⟩ fun o h => o = .ret (.d (.tup [])) ∧ ∃ xs', xs'.Perm xs ∧ (∀ (i j : Nat) (x y : V), i < j → xs'[i]? = some x → xs'[j]? = some y → keyV x ≤ keyV y) ∧ h = ⟨[], [some ⟨false, 5, 0, xs', e⟩]⟩ := by
 refine ⟨hcal, fun κ w argv hr hv => ?_⟩
 simp only [VL] at hv
 obtain ⟨v0, t0, e0, h0, v1, t1, e1, h1, e2⟩ := hv
 subst e0 e1 e2
 obtain ⟨hvn, _, hb⟩ := hr.vc 0 _ rfl
 rcases hb with ⟨hb, _⟩ | ⟨_, b, cap, vs, sp, fz, hvb, hwho, hheap, hlen, hvx, hfz, hsp⟩
 ·simp at hb
 simp only [VR] at h0 h1
 have h0 := (h0.2.2 _ hvn).2 rfl
 unfold link at h0
 rw [hvb] at h0
 simp only at h0
 obtain ⟨hc, rfl⟩ := h0
 simp only [DR, DL] at h1
 obtain ⟨a', c', rfl, rfl, rfl⟩ := h1
 simp only at hheap hvx hfz hlen
 obtain ⟨es, hes, hall⟩ := els_of ho hvx
 have hl := hall.len
 have hb := (Array.getElem?_eq_some_iff.1 hheap).1
 subst hes
 have hvl := flat_len es
 have hK := hcon b 0 cap es.toArray w (by
  unfold HoldsK Holds
  intro j hj
  simp only [size_flatK, List.size_toArray] at hj
  rw [flatK_list, Nat.zero_add]
  have h3 : j < ((es.map encE).flatten).length := by rw [flat_len]; exact hj
  refine ⟨?_, ?_⟩
  ·unfold World.cell?
   rw [hheap]
   simp only [List.getElem!_toArray]
   rw [getElem!_pos _ j h3]
   simp [List.getElem?_append_left h3, List.getElem?_eq_getElem h3, -List.length_flatten]
  ·unfold World.frozen?
   rw [hheap]
   obtain ⟨lo, hi⟩ := fz
   simp only at hfz ⊢
   have : hi = 0 := by omega
   subst this
   simp) hb (by simpa [← hl] using hn)
 simp only [List.size_toArray] at hK
 rw [← hl] at hK
 simp only [Nat.zero_mul, Nat.sub_zero]
 refine hK.mono fun out w' ⟨e1, d', n, os, hp, hs, hw⟩ => ?_
 obtain ⟨hps, _, hpp⟩ := hp
 simp only [List.size_toArray] at hps
 have hd1 : (d'.extract 0 xs.length).toList = d'.toList := by rw [show xs.length = d'.size by omega]; simp
 have hd2 : ((es.toArray).extract 0 xs.length).toList = es := by simp [hl]
 rw [hd1, hd2] at hpp
 obtain ⟨xs', p, ha⟩ := hall.perm hpp
 have hl' := p.length_eq
 obtain ⟨hh1, hh2⟩ := sort_heap (m := n) (os := os) (d := d') hheap (by rw [hvl, hps])
 rw [← hw] at hh1 hh2
 have hsz : w.heap.size ≤ w'.heap.size := by
  rw [hw]; unfold sortWorldK grow putRowK putRow mapBlock Sort.ahead; simp
 have hcell : ∀ k o v, k ≠ b → w.cell? ⟨k, o, none⟩ = some v → w'.cell? ⟨k, o, none⟩ = some v := fun k o v hk h => by
  unfold World.cell? at h ⊢
  by_cases hlt : k < w.heap.size
  ·simp only [hh2 k hlt hk]; exact h
  ·rw [Array.getElem?_eq_none (show w.heap.size ≤ k by omega)] at h; simp at h
 refine ⟨κ, _, .ret (.d (.tup [])), ⟨rfl, xs', p, fun i j x y hij hx hy => ?_, rfl⟩, Le.refl κ, ?_, .tuple #[], e1, by simp [VR, DR, DL]⟩
 ·obtain ⟨a, ha1, ha2⟩ := ha.get hx
  obtain ⟨c, hc1, hc2⟩ := ha.get hy
  have hj := (List.getElem?_eq_some_iff.1 hc1).1
  have := hs i j (Nat.zero_le _) hij (by simpa [hps, hl] using hj)
  rw [ltE] at this
  have ea : d'[i]! = a := by
   have hi := (List.getElem?_eq_some_iff.1 ha1).1
   have := (List.getElem?_eq_some_iff.1 ha1).2
   rw [getElem!_pos d' i (by simpa using hi)]; simpa using this
  have ec : d'[j]! = c := by
   have := (List.getElem?_eq_some_iff.1 hc1).2
   rw [getElem!_pos d' j (by simpa using hj)]; simpa using this
  rw [ea, ec] at this
  have hac : ¬ c.key < a.key := by simpa using this
  rw [← ha2.2, ← hc2.2]
  omega
 ·refine ⟨fun k o v h => hcell k o v (fun ek => ?_) (hr.S k o v h), hr.SO, hr.nb, hr.nv, fun i x h => by simp at h, fun i x h => ?_, fun k o h => ?_, ?_, ?_, ?_⟩
  ·subst ek
   rcases hr.own h with q | q <;> rw [hwho] at q <;> simp at q
  ·cases i with
   | zero =>
    simp only [List.getElem?_cons_zero, Option.some.injEq] at h
    subst h
    refine ⟨by rw [hvn]; simp [hl'], (by decide : 0 < 5), .inr ⟨rfl, b, cap, (d'.toList.map encE).flatten, sp, fz, hvb, hwho, hh1, ?_, vx_of ha, hfz, hsp⟩⟩
    rw [flat_len, ← hlen, hvl]
    simp [hps]
   | succ i => simp at h
  ·have hk := hr.rest k o h
   have hlt := (Array.getElem?_eq_some_iff.1 hk.2).1
   exact ⟨hk.1, (hh2 k hlt (fun ek => by subst ek; rw [hwho] at hk; simp at hk)).trans hk.2⟩
  ·rw [← hr.os, hw]; rfl
  ·rw [← hr.out, hw]; rfl
  ·rw [← hr.tape, hw]; rfl
end
end Go.SL
namespace Go.SL
open Go.Proofs
set_option maxRecDepth 10000
abbrev CHC (L : List D) : Option Vec := some ⟨L.isEmpty, 5, 0, L.map .d, 41⟩
abbrev RCB (L : List D) : Bx := .cells [.d (.int .i64 1), .vs 0 L.length 0 L.length] 25
def chD (o cl : Int) (s b : D) : D := .agg [.int .i64 o, .bool false, .int .i64 cl, s, b]
theorem f28_ok (L : List D) (hL : L.length ≤ 1000000) (o cl : Int) (ns nb : Bool) (zs zb : Nat) (xs bs : List D) :
  VF Tryz.prog 28 [.d (.int .i64 o), .d (.agg [.int .i64 cl, .sl ns zs xs, .sl nb zb bs]), .ptr 0 0] [RCB L] [CHC L] (.d (.tup [])) [RCB (L ++ [chD o cl (.sl ns zs xs) (.sl nb zb bs)])] [CHC (L ++ [chD o cl (.sl ns zs xs) (.sl nb zb bs)])] := by
 have hm : (L.length + 1) * 72 ≤ 140737488355328 := by omega
 refine AF.go Tryz.func28 [] fun tb TB Q hQ => ?_
 simp [TB, hm]
 refine ATT.fin02 hQ Tryz.func28 ?_
 simp [chD]
 all_goals (first | omega | exact ⟨_, rfl⟩ | skip)
theorem f28_row (L : List D) (hL : L.length ≤ 1000000) (o cl : Int) (nb : Bool) (zb : Nat) (bs : List D) (R : Vec) :
  VF Tryz.prog 28 [.d (.int .i64 o), .agg [.d (.int .i64 cl), .vs 1 R.xs.length 0 R.xs.length, .d (.sl nb zb bs)], .ptr 0 0] [RCB L] [CHC L, some R] (.d (.tup []))
   [.cells [.d (.int .i64 1), .vs 0 (L.length + 1) 0 (L.length + 1)] 25]
   [some ⟨false, 5, 0, L.map .d ++ [.agg [.d (.int .i64 o), .d (.bool false), .d (.int .i64 cl), .vs 1 R.xs.length 0 R.xs.length, .d (.sl nb zb bs)]], 41⟩, some R] := by
 have hm : (L.length + 1) * 72 ≤ 140737488355328 := by omega
 refine AF.go Tryz.func28 [] fun tb TB Q hQ => ?_
 simp [TB, hm]
 refine ATT.fin02 hQ Tryz.func28 ?_
 simp
 all_goals (first | omega | exact ⟨_, rfl⟩ | skip)
end Go.SL
namespace Go.SL
open Go.Proofs
set_option maxRecDepth 10000
def nilD : D := .sl true 0 []
def bytesD (s : ByteArray) : D := .sl false 1 (bsD s.data.toList)
def refD (n : Int) : D := .agg [.int .i64 4, .int .i64 n]
def aboveD (c : Nat) : D := if superK c = 0 then .agg [.int .i64 0, .int .i64 0] else refD 1
def clsD (c : Nat) : D := chD c 2 (.sl false 2 [aboveD c, refD 16, refD (20 + c)]) (bytesD (nmK c))
def pairsD : List ByteArray → Nat → List D
 | [], _ => []
 | s :: r, n => chD n 9 nilD (bytesD (selK s)) :: chD (n + 1 : Nat) 8 nilD (bytesD s) :: pairsD r (n + 2)
def slotsD : List ByteArray → Nat → List D
 | [], _ => []
 | _ :: r, n => refD n :: refD (n + 1 : Nat) :: slotsD r (n + 2)
def metD (c n : Nat) : D := chD (20 + c : Nat) 10 (if srcK c = [] then nilD else .sl false 2 (slotsD (srcK c) n)) nilD
def progK : Nat → List D × Nat
 | 0 => ([], 41)
 | c + 1 => ((progK c).1 ++ (clsD (c + 1) :: (pairsD (srcK (c + 1)) (progK c).2 ++ [metD (c + 1) (progK c).2])), (progK c).2 + 2 * (srcK (c + 1)).length)
@[simp] theorem progK_zero : progK 0 = ([], 41) := rfl
def putK : List D := (progK 14).1 ++ [chD 15 12 nilD nilD, chD 16 8 nilD nilD]
def keyD : D → Int
 | .agg (.int _ k :: _) => k
 | _ => 0
def insK (x : D) : List D → List D
 | [] => [x]
 | y :: r => if keyD x ≤ keyD y then x :: y :: r else y :: insK x r
def sortD : List D → List D
 | [] => []
 | x :: r => insK x (sortD r)
def kerL : List D := sortD putK
theorem insK_perm (x : D) : ∀ l, (insK x l).Perm (x :: l)
 | [] => .refl _
 | y :: r => by
  simp only [insK]
  split
  ·exact .refl _
  ·exact ((insK_perm x r).cons y).trans (.swap _ _ _)
theorem sortD_perm : ∀ l, (sortD l).Perm l
 | [] => .refl _
 | x :: r => (insK_perm x _).trans ((sortD_perm r).cons x)
theorem ker_len : kerL.length = 94 := by
 rw [show kerL = sortD putK from rfl, (sortD_perm putK).length_eq]
 kernel_rfl
def incK : List D → Bool
 | x :: y :: r => decide (keyD x < keyD y) && incK (y :: r)
 | _ => true
theorem ker_inc : incK kerL = true := by kernel_rfl
theorem inc_lt : ∀ {l : List D} {x : D}, incK (x :: l) = true → ∀ y ∈ l, keyD x < keyD y
 | [], _, _, y, hy => by simp at hy
 | z :: r, x, h, y, hy => by
  simp only [incK, Bool.and_eq_true, decide_eq_true_eq] at h
  rcases List.mem_cons.1 hy with e | hy
  ·rw [e]; exact h.1
  ·exact Int.lt_trans h.1 (inc_lt h.2 y hy)
theorem inc_tail {x : D} {l : List D} (h : incK (x :: l) = true) : incK l = true := by
 cases l with
 | nil => rfl
 | cons y r => simp only [incK, Bool.and_eq_true] at h; exact h.2
theorem sorted_eq : ∀ {l m : List D}, incK l = true → m.Perm l → (∀ (i j : Nat) (x y : D), i < j → m[i]? = some x → m[j]? = some y → keyD x ≤ keyD y) → m = l
 | [], m, _, p, _ => p.eq_nil
 | x :: l, m, h, p, hs => by
  cases m with
  | nil => exact absurd p.symm.eq_nil (by simp)
  | cons y m =>
   have hx : x ∈ y :: m := p.symm.subset (by simp)
   have e : y = x := by
    rcases List.mem_cons.1 hx with e | hx
    ·exact e.symm
    ·have hy : y ∈ x :: l := p.subset (by simp)
     rcases List.mem_cons.1 hy with e | hy
     ·exact e
     ·have h1 := inc_lt h y hy
      obtain ⟨k, hk⟩ := List.getElem?_of_mem hx
      have h2 := hs 0 (k + 1) y x (by omega) rfl (by simpa using hk)
      omega
   subst e
   rw [sorted_eq (inc_tail h) p.cons_inv (fun i j a b hij ha hb => hs (i + 1) (j + 1) a b (by omega) (by simpa using ha) (by simpa using hb))]
theorem src_len (c : Nat) : (srcK c).length ≤ 9 := by unfold srcK; split <;> decide
theorem src_mem {c i : Nat} {s : ByteArray} (hc : c < 15) (h : (srcK c)[i]? = some s) : s ∈ allK := List.mem_flatMap.2 ⟨c, List.mem_range.2 hc, List.mem_of_getElem? h⟩
theorem pairs_app : ∀ (l : List ByteArray) (s : ByteArray) (n : Nat), pairsD (l ++ [s]) n = pairsD l n ++ [chD (n + 2 * l.length : Nat) 9 nilD (bytesD (selK s)), chD (n + 2 * l.length + 1 : Nat) 8 nilD (bytesD s)]
 | [], s, n => rfl
 | x :: r, s, n => by
  simp only [List.cons_append, pairsD, pairs_app r s (n + 2), List.length_cons]
  rw [show n + 2 + 2 * r.length = n + 2 * (r.length + 1) by omega]
theorem slots_app : ∀ (l : List ByteArray) (s : ByteArray) (n : Nat), slotsD (l ++ [s]) n = slotsD l n ++ [refD (n + 2 * l.length : Nat), refD (n + 2 * l.length + 1 : Nat)]
 | [], s, n => rfl
 | x :: r, s, n => by
  simp only [List.cons_append, slotsD, slots_app r s (n + 2), List.length_cons]
  rw [show n + 2 + 2 * r.length = n + 2 * (r.length + 1) by omega]
theorem pairs_len : ∀ (l : List ByteArray) (n : Nat), (pairsD l n).length = 2 * l.length
 | [], _ => rfl
 | x :: r, n => by simp only [pairsD, List.length_cons, pairs_len r]; omega
theorem slots_len : ∀ (l : List ByteArray) (n : Nat), (slotsD l n).length = 2 * l.length
 | [], _ => rfl
 | x :: r, n => by simp only [slotsD, List.length_cons, slots_len r]; omega
@[simp] theorem pairsD_nil (n : Nat) : pairsD [] n = [] := rfl
@[simp] theorem slotsD_nil (n : Nat) : slotsD [] n = [] := rfl
theorem prog_all : ((List.range 15).all fun c => decide ((progK c).1.length ≤ 100) && decide ((progK c).2 ≤ 200)) = true := by kernel_rfl
theorem prog_le {c : Nat} (h : c ≤ 14) : (progK c).1.length ≤ 100 ∧ (progK c).2 ≤ 200 := by
 have := List.all_eq_true.1 prog_all c (List.mem_range.2 (by omega))
 simpa using this
end Go.SL
namespace Go.SL
open Go.Proofs
set_option maxRecDepth 10000
theorem prog_succ (c : Nat) : progK (c + 1) = ((progK c).1 ++ (clsD (c + 1) :: (pairsD (srcK (c + 1)) (progK c).2 ++ [metD (c + 1) (progK c).2])), (progK c).2 + 2 * (srcK (c + 1)).length) := rfl
theorem src_small {s : ByteArray} (h : s ∈ allK) : s.size ≤ 1073741820 := by
 have := List.all_eq_true.1 all_made s h
 simp only [Bool.and_eq_true, decide_eq_true_eq] at this
 omega
def sortB : D → Bool
 | .agg [.int .i64 k, _, _, _, _] => decide (-4611686018427387904 ≤ k) && decide (k < 4611686018427387904)
 | _ => false
theorem put_sort : putK.all sortB = true := by kernel_rfl
theorem sortB_ok {d : D} (h : sortB d = true) : SortOk (.d d) := by
 unfold sortB at h
 split at h
 ·simp only [Bool.and_eq_true, decide_eq_true_eq] at h
  exact ⟨_, rfl, rfl, h.1, h.2⟩
 ·simp at h
theorem keyV_d (d : D) : keyV (.d d) = keyD d := by
 unfold keyD
 split
 ·rfl
 ·rename_i e
  unfold keyV
  split <;> rename_i e2
  ·simp at e2
  ·simp only [V.d.injEq] at e2; exact absurd e2 (e _ _ _)
  ·rfl
def unV : V → D
 | .d d => d
 | _ => .nilP
theorem ker_empty : kerL.isEmpty = false := by cases h : kerL with | nil => have := ker_len; rw [h] at this; simp at this | cons _ _ => rfl
theorem ker_take : (kerL.map V.d).take 94 = kerL.map V.d := List.take_of_length_le (by simp [ker_len])
theorem put_len : putK.length = 94 := by rw [← ker_len]; exact (sortD_perm putK).length_eq.symm
theorem ker_sort (hS : SortK Tryz.prog 30 31) :
  VF Tryz.prog 30 [.vs 0 putK.length 0 putK.length, .d (.fn (.func 31) [] [])] [] [CHC putK] (.d (.tup [])) [] [CHC kerL] := by
 have h1 : putK.isEmpty = false := by kernel_rfl
 have h2 := ker_empty
 have hl : (putK.map V.d).length = putK.length := by simp
 have h94 := put_len
 have := sort_AF (P := Tryz.prog) (xs := putK.map .d) (e := 41) (by kernel_rfl) hS (fun x hx => by
  obtain ⟨d, hd, rfl⟩ := List.mem_map.1 hx
  exact sortB_ok (List.all_eq_true.1 put_sort d hd)) (by rw [hl, h94]; decide)
 rw [hl] at this
 unfold VF CHC
 rw [h1]
 refine AF.mono this fun o h ⟨e, xs', p, hs, eh⟩ => ⟨e, [], [], ?_⟩
 have hx : xs' = (xs'.map unV).map .d := by
  rw [List.map_map]
  conv => lhs; rw [← List.map_id xs']
  refine List.map_congr_left fun x hx => ?_
  obtain ⟨d, _, rfl⟩ := List.mem_map.1 (p.subset hx)
  rfl
 have hp : (xs'.map unV).Perm putK := by
  have := p.map unV
  rwa [List.map_map, show (unV ∘ V.d) = id from rfl, List.map_id] at this
 have he : xs'.map unV = kerL := sorted_eq ker_inc (hp.trans (sortD_perm putK).symm) fun i j x y hij hi hj => by
  rw [← keyV_d, ← keyV_d]
  refine hs i j _ _ hij ?_ ?_
  ·rw [hx, List.getElem?_map, hi]; rfl
  ·rw [hx, List.getElem?_map, hj]; rfl
 rw [hx, he] at eh
 rw [eh, h2]
 rfl
set_option maxHeartbeats 4000000 in
theorem f8_ok (hS : SortK Tryz.prog 30 31) : DE Tryz.prog 8 [] fun v => v = .tup [.agg [.int .i64 1, .sl false 5 kerL], .int .i64 0] := by
 refine AF.go Tryz.func8 [(10, [[(0, []), (1, []), (2, []), (4, []), (5, []), (8, []), (3, [0, 1, 2, 4, 5, 8]), (6, [0, 1, 2, 8]), (7, [0, 1, 8]), (9, [0, 1, 2]), (10, []), (11, []), (12, [])], [(0, []), (1, []), (2, []), (4, []), (5, []), (8, []), (3, [0, 1, 2, 4, 5, 8]), (6, [0, 1, 2, 8]), (9, [0, 1, 2]), (10, []), (7, [0, 1, 8, 10]), (11, []), (12, [])]]), (18, [[(0, []), (1, []), (2, []), (4, []), (5, []), (3, [0, 1, 4, 5]), (6, [0, 1]), (7, [0, 1]), (8, []), (9, []), (10, [])]])] fun tb TB Q hQ => ?_
 simp [TB]
 refine ATT.nilB 1 1 5 41 rfl rfl (by decide) (by simp) ?_
 simp
 refine ATT.loopG 60 rfl (fun (c : Nat) => 14 - c) (fun (c : Nat) => c ≤ 14) (fun (c : Nat) => [(0, .ptr 0 0), (2, .ptr 1 0), (3, .fn (.func 28) [] [.ptr 1 0]), (4, .d (.int .i64 (progK c).2)), (5, .d (.int .i64 ((c : Int) + 1)))]) (fun (c : Nat) => [.cells [.d (.int .i64 0), .d (.sl true 0 [])] 25, RCB (progK c).1]) (fun (c : Nat) => [CHC (progK c).1]) (0) (by (try dsimp only); exact Nat.zero_le _) (by simp <;> omega) (by simp) (by simp) ?_
 intro c u w hI ih
 try simp only at hI ih
 by_cases hc : c < 14
 ·have hc' : (c : Int) + 1 ≤ 14 := by omega
  obtain ⟨hl1, hl2⟩ := prog_le (c := c) (by omega)
  have hS := f22_ok ((c : Int) + 1)
  have hR := f29_ok (superK ((c : Int) + 1))
  have hI1 : inI (20 + ((c : Int) + 1)) = true := inI_of (by omega) (by omega)
  by_cases h0 : superK ((c : Int) + 1) = 0
  ·have hab : superK ((c : Int) + 1) = 0 := h0
   simp [TB, hc']
   refine ATT.callD Tryz.func8 60 (hS) ?_ ?_ ?_ ?_
   iterate 3 · simp
   simp [eq_true h0]
   refine ATT.ords 60 (by simp <;> omega) fun o ho => ?_
   simp only [List.mem_cons, List.mem_nil_iff, or_false] at ho
   rcases ho with ho | ho <;> subst ho
   all_goals try simp [hI1]
   all_goals
    refine ATT.callRD Tryz.func8 60 (f29_ok 16) ?_ ?_ ?_ ?_
    iterate 3 · simp
    simp [hI1]
    refine ATT.callRD Tryz.func8 60 (f29_ok (20 + ((c : Int) + 1))) ?_ ?_ ?_ ?_
    iterate 3 · simp
    simp
    refine ATT.callRD Tryz.func8 60 (f18_ok ((c : Int) + 1)) ?_ ?_ ?_ ?_
    iterate 3 · simp
    simp
    refine ATT.callRV Tryz.func8 60 [1] [0, w.length + 1] (f28_row (progK c).1 (by omega) ((c : Int) + 1) 2 false 1 (bsD (nmK ((c : Int) + 1)).data.toList) ⟨false, 2, 0, [.d (.agg [.int .i64 0, .int .i64 0]), .d (.agg [.int .i64 4, .int .i64 16]), .d (.agg [.int .i64 4, .int .i64 (20 + ((c : Int) + 1))])], 43⟩) ?_ ?_ ?_ ?_ ?_ ?_ ?_ ?_
    iterate 7 · simp [bsD]
    simp [TB, bsD]
    refine ATT.fz1 (w.length + 1) (by simp) ?_
    simp
    have hf1 : ∀ h : H, (fzX h ∘ V.d) = V.d := fun h => rfl
    simp only [hf1]
    have hcl : (.agg [.int .i64 ((c : Int) + 1), .bool false, .int .i64 2, .sl false 2 [.agg [.int .i64 0, .int .i64 0], .agg [.int .i64 4, .int .i64 16], .agg [.int .i64 4, .int .i64 (20 + ((c : Int) + 1))]], .sl false 1 ((nmK ((c : Int) + 1)).data.toList.map fun b => D.int IntKind.u8 b.toNat)] : D) = clsD (c + 1) := by
     unfold clsD chD aboveD refD bytesD
     simp [hab]
     rfl
    rw [hcl]
    by_cases hs : srcK (c + 1) = []
    ·have hV := f14_ok ((c : Int) + 1) (c + 1) (.inl (by omega))
     simp only [rowV, rowC, hs, if_true] at hV
     refine ATT.callV Tryz.func8 60 [] [] (hV) ?_ ?_ ?_ ?_ ?_ ?_ ?_ ?_
     iterate 7 · simp
     simp
     generalize hu1 : List.map (fzB _) u = u1
     generalize hw1 : List.map (fzR _) w = w1
     have hlu : u.length = u1.length := by rw [← hu1]; simp
     rw [hlu]
     refine ATT.loopG 60 rfl (fun (i : Nat) => 0) (fun (i : Nat) => i ≤ 0) (fun (i : Nat) => [(0, .ptr 0 0), (2, .ptr 1 0), (3, .fn (.func 28) [] [.ptr 1 0]), (4, .d (.int .i64 (progK c).2)), (5, .d (.int .i64 ((c : Int) + 1))), (7, .ptr (u1.length + 1 + 1 + 1) 0), (41, .d (.sl true 0 [])), (42, .d (.int .i64 0)), (43, .d (.int .i64 0))]) (fun (i : Nat) => .cells [.d (.int .i64 0), .d (.sl true 0 [])] 25 :: RCB ((progK c).1 ++ [clsD (c + 1)]) :: (u1 ++ [.cells [.d (.int .i64 0), .d (.int .i64 0)] 43, .cells [.d (.int .i64 10), .d (.sl true 0 []), .d (.sl true 0 [])] 39])) (fun (i : Nat) => CHC ((progK c).1 ++ [clsD (c + 1)]) :: (w1 ++ [none])) (0) (by (try dsimp only); exact Nat.le_refl _) (by simp <;> omega) (by simp) (by simp) ?_
     intro i u w hI ih
     try simp only at hI ih
     rename_i u0 w0 hI0 ih0
     have hpe : progK (c + 1) = ((progK c).1 ++ [clsD (c + 1)] ++ [chD (20 + ((c : Int) + 1)) 10 (.sl true 0 []) (.sl true 0 [])], (progK c).2) := by
      rw [prog_succ, hs]
      simp only [pairsD, metD, hs, if_true, nilD, List.nil_append, List.length_nil, Nat.mul_zero, Nat.add_zero, List.append_assoc, List.cons_append]
      rw [show ((20 + (c + 1) : Nat) : Int) = 20 + ((c : Int) + 1) by omega]
     have hI2 : inI ((c : Int) + 1 + 1) = true := inI_of (by omega) (by omega)
     simp [TB, hI1]
     refine ATT.callV Tryz.func8 60 [1] [0] (f28_ok ((progK c).1 ++ [clsD (c + 1)]) (by simp; omega) (20 + ((c : Int) + 1)) 10 true true 0 0 [] []) ?_ ?_ ?_ ?_ ?_ ?_ ?_ ?_
     iterate 7 · simp
     simp [TB]
     simp [hI2]
     refine ih0 (c + 1) (by first | ((try dsimp only); omega) | (simp [hc', hI2, hpe] <;> omega)) (by (try dsimp only); exact hc) _ _ _ (by simp <;> omega) (by simp [hpe] <;> omega) (by simp [hpe] <;> omega)
    ·have hV := f14_ok ((c : Int) + 1) (c + 1) (.inl (by omega))
     simp only [rowV, rowC, hs, if_false] at hV
     have hn9 := src_len (c + 1)
     have hne : (srcK (c + 1)).length ≠ 0 := fun e => hs (List.length_eq_zero_iff.1 e)
     refine ATT.callV Tryz.func8 60 [] [] (hV) ?_ ?_ ?_ ?_ ?_ ?_ ?_ ?_
     iterate 7 · simp
     simp
     generalize hu1 : List.map (fzB _) u = u1
     generalize hw1 : List.map (fzR _) w = w1
     have hlu : u.length = u1.length := by rw [← hu1]; simp
     have hlw : w.length = w1.length := by rw [← hw1]; simp
     rw [hlu]
     try rw [hlw]
     refine ATT.nilB (u1.length + 1 + 1 + 1) 1 2 43 (by simp; exact ⟨rfl, rfl⟩) rfl (by decide) (by simp) ?_
     simp
     refine ATT.loopG 0 rfl (fun (i : Nat) => (srcK (c + 1)).length - i) (fun (i : Nat) => i ≤ (srcK (c + 1)).length) (fun (i : Nat) => [(0, .ptr 0 0), (2, .ptr 1 0), (3, .fn (.func 28) [] [.ptr 1 0]), (4, .d (.int .i64 ((progK c).2 + 2 * i : Nat))), (5, .d (.int .i64 ((c : Int) + 1))), (7, .ptr (u1.length + 1 + 1 + 1) 0), (41, .vs (w1.length + 1 + 1) (srcK (c + 1)).length 0 (srcK (c + 1)).length), (42, .d (.int .i64 (srcK (c + 1)).length)), (43, .d (.int .i64 i))]) (fun (i : Nat) => .cells [.d (.int .i64 0), .d (.sl true 0 [])] 25 :: RCB ((progK c).1 ++ clsD (c + 1) :: pairsD ((srcK (c + 1)).take i) (progK c).2) :: (u1 ++ [.cells [.d (.int .i64 0), .d (.int .i64 0)] 43, .cells [.d (.int .i64 10), .vs (w1.length + 1 + 1 + 1) (slotsD ((srcK (c + 1)).take i) (progK c).2).length 0 (slotsD ((srcK (c + 1)).take i) (progK c).2).length, .d (.sl true 0 [])] 39])) (fun (i : Nat) => CHC ((progK c).1 ++ clsD (c + 1) :: pairsD ((srcK (c + 1)).take i) (progK c).2) :: (w1 ++ [none, some ⟨false, 1, 0, (srcK (c + 1)).map fun s => .d (.str s), 9⟩, some ⟨(slotsD ((srcK (c + 1)).take i) (progK c).2).isEmpty, 2, 0, (slotsD ((srcK (c + 1)).take i) (progK c).2).map .d, 43⟩])) (0) (by (try dsimp only); exact Nat.zero_le _) (by simp <;> omega) (by simp) (by simp) ?_
     intro i u w hI ih
     try simp only at hI ih
     rename_i u0 w0 hI0 ih0
     simp only [goes]
     by_cases hi : i < (srcK (c + 1)).length
     ·obtain ⟨s, hs1⟩ : ∃ s, (srcK (c + 1))[i]? = some s := ⟨_, List.getElem?_eq_getElem hi⟩
      have hsE : ∀ h, (srcK (c + 1))[i]'h = s := fun h => by rw [List.getElem?_eq_getElem h] at hs1; simpa using hs1
      obtain ⟨x, hx⟩ := made (src_mem (by omega) hs1)
      have hM := f15_ok hWhole s (src_small (src_mem (by omega) hs1)) (sl := []) (by simp) (snl := true) (sz := 0) (fun _ => rfl) (fun h => by simp at h)
      rw [hx] at hM
      have hi' : (i : Int) < (srcK (c + 1)).length := by omega
      have hR1 : inR (i : Int) (srcK (c + 1)).length = true := inR_of (by omega) (by omega)
      have hI2 : inI ((progK c).2 + 2 * (i : Int) + 1) = true := inI_of (by omega) (by omega)
      have hI3 : inI ((progK c).2 + 2 * (i : Int) + 2) = true := inI_of (by omega) (by omega)
      have hI4 : inI ((i : Int) + 1) = true := inI_of (by omega) (by omega)
      have hT : (srcK (c + 1)).take (i + 1) = (srcK (c + 1)).take i ++ [s] := by rw [List.take_add_one, hs1]; rfl
      have hTl : ((srcK (c + 1)).take i).length = i := by simp; omega
      have hp1 := pairs_app ((srcK (c + 1)).take i) s (progK c).2
      have hp2 := slots_app ((srcK (c + 1)).take i) s (progK c).2
      have hp3 := pairs_len ((srcK (c + 1)).take i) (progK c).2
      have hp4 := slots_len ((srcK (c + 1)).take i) (progK c).2
      rw [hTl] at hp1 hp2 hp3 hp4
      generalize hpl : pairsD ((srcK (c + 1)).take i) (progK c).2 = pl at hp1 hp3
      generalize hsl : slotsD ((srcK (c + 1)).take i) (progK c).2 = ll at hp2 hp4
      have hm4 : (2 * i + 2) * 16 ≤ 140737488355328 := by omega
      refine goes_sound 60 _ _ _ _ ?_
      simp [TB, hi', hi, hsE, hR1, hp4]
      refine ATT.callE Tryz.func8 60 hM (by simp) (by simp) (by simp) fun v hv => ?_
      have e : v = _ := hv
      subst e
      simp [TB, cdL, hI2]
      refine ATT.callRD Tryz.func8 60 (f29_ok ((progK c).2 + 2 * (i : Int))) ?_ ?_ ?_ ?_
      iterate 3 · simp
      simp [hI2]
      refine ATT.callRD Tryz.func8 60 (f29_ok ((progK c).2 + 2 * (i : Int) + 1)) ?_ ?_ ?_ ?_
      iterate 3 · simp
      simp [TB, hp4, hm4]
      have hpl100 : ((progK c).1 ++ clsD (c + 1) :: pl).length ≤ 1000 := by simp; omega
      refine ATT.callV Tryz.func8 60 [1] [0] (f28_ok ((progK c).1 ++ clsD (c + 1) :: pl) (by omega) ((progK c).2 + 2 * (i : Int)) 9 true false 0 1 [] (bsD (selK s).data.toList)) ?_ ?_ ?_ ?_ ?_ ?_ ?_ ?_
      iterate 7 · simp [bsD]
      simp [TB, hI2, bsD]
      refine ATT.callV Tryz.func8 60 [1] [0] (f28_ok ((progK c).1 ++ clsD (c + 1) :: (pl ++ [chD ((progK c).2 + 2 * (i : Int)) 9 (.sl true 0 []) (.sl false 1 (bsD (selK s).data.toList))])) (by simp; omega) ((progK c).2 + 2 * (i : Int) + 1) 8 true false 0 1 [] (bsD s.data.toList)) ?_ ?_ ?_ ?_ ?_ ?_ ?_ ?_
      iterate 7 · simp [bsD]
      simp [TB, hI3, hI4, bsD]
      refine ih (i + 1) (by first | ((try dsimp only); omega) | (simp [hT, hp1, hp2, hp4, nilD, bytesD, refD, bsD] <;> omega)) (by (try dsimp only); exact hi) _ _ _ (by simp <;> omega) (by simp <;> omega) (by simp [hT, hp1, hp2, hp4, nilD, bytesD, refD, bsD] <;> omega)
     ·have hi' : ¬ (i : Int) < (srcK (c + 1)).length := by omega
      have hie : i = (srcK (c + 1)).length := by omega
      subst hie
      rw [List.take_length]
      have hp3 := pairs_len (srcK (c + 1)) (progK c).2
      have hp4 := slots_len (srcK (c + 1)) (progK c).2
      have hse : slotsD (srcK (c + 1)) (progK c).2 ≠ [] := fun e => by rw [e] at hp4; simp at hp4; omega
      refine ATT.fz1 (w1.length + 1 + 1 + 1) (by simp) ?_
      simp
      have hf1 : ∀ h : H, (fzX h ∘ V.d) = V.d := fun h => rfl
      simp only [hf1]
      have hse2 : (slotsD (srcK (c + 1)) (progK c).2).isEmpty = false := List.isEmpty_eq_false_iff.2 hse
      generalize hu2 : List.map (fzB _) u1 = u2
      generalize hu3 : List.map (fzB _) u = u3
      generalize hw3 : List.map (fzR _) w = w3
      have hlu2 : u1.length = u2.length := by rw [← hu2]; simp
      rw [hlu2]
      have hpe : progK (c + 1) = ((progK c).1 ++ clsD (c + 1) :: (pairsD (srcK (c + 1)) (progK c).2 ++ [chD (20 + ((c : Int) + 1)) 10 (.sl false 2 (slotsD (srcK (c + 1)) (progK c).2)) (.sl true 0 [])]), (progK c).2 + 2 * (srcK (c + 1)).length) := by
       rw [prog_succ]
       simp only [metD, hs, if_false, nilD]
       rw [show ((20 + (c + 1) : Nat) : Int) = 20 + ((c : Int) + 1) by omega]
      have hI2 : inI ((c : Int) + 1 + 1) = true := inI_of (by omega) (by omega)
      refine goes_sound 60 _ _ _ _ ?_
      simp [TB, hI1, hse2]
      refine ATT.callV Tryz.func8 60 [1] [0] (f28_ok ((progK c).1 ++ clsD (c + 1) :: pairsD (srcK (c + 1)) (progK c).2) (by simp; omega) (20 + ((c : Int) + 1)) 10 false true 2 0 (slotsD (srcK (c + 1)) (progK c).2) []) ?_ ?_ ?_ ?_ ?_ ?_ ?_ ?_
      iterate 7 · simp
      simp [TB, hI2]
      refine ih0 (c + 1) (by first | ((try dsimp only); omega) | (simp [hc', hI2, hpe] <;> omega)) (by (try dsimp only); exact hc) _ _ _ (by simp <;> omega) (by simp [hpe] <;> omega) (by simp [hpe] <;> omega)
  ·have hab : superK ((c : Int) + 1) = 1 := by
    unfold superK at h0 ⊢
    split
    ·rfl
    ·rename_i h; rw [if_neg h] at h0; exact absurd rfl h0
   rw [hab] at hS hR
   simp [TB, hc']
   refine ATT.callD Tryz.func8 60 (hS) ?_ ?_ ?_ ?_
   iterate 3 · simp
   simp [TB]
   refine ATT.callD Tryz.func8 60 (hS) ?_ ?_ ?_ ?_
   iterate 3 · simp
   simp
   refine ATT.callD Tryz.func8 60 (hR) ?_ ?_ ?_ ?_
   iterate 3 · simp
   simp
   refine ATT.ords 60 (by simp <;> omega) fun o ho => ?_
   simp only [List.mem_cons, List.mem_nil_iff, or_false] at ho
   rcases ho with ho | ho <;> subst ho
   all_goals try simp [hI1]
   all_goals
    refine ATT.callRD Tryz.func8 60 (f29_ok 16) ?_ ?_ ?_ ?_
    iterate 3 · simp
    simp [hI1]
    refine ATT.callRD Tryz.func8 60 (f29_ok (20 + ((c : Int) + 1))) ?_ ?_ ?_ ?_
    iterate 3 · simp
    simp
    refine ATT.callRD Tryz.func8 60 (f18_ok ((c : Int) + 1)) ?_ ?_ ?_ ?_
    iterate 3 · simp
    simp
    refine ATT.callRV Tryz.func8 60 [1] [0, w.length + 1] (f28_row (progK c).1 (by omega) ((c : Int) + 1) 2 false 1 (bsD (nmK ((c : Int) + 1)).data.toList) ⟨false, 2, 0, [.d (.agg [.int .i64 4, .int .i64 1]), .d (.agg [.int .i64 4, .int .i64 16]), .d (.agg [.int .i64 4, .int .i64 (20 + ((c : Int) + 1))])], 43⟩) ?_ ?_ ?_ ?_ ?_ ?_ ?_ ?_
    iterate 7 · simp [bsD]
    simp [TB, bsD]
    refine ATT.fz1 (w.length + 1) (by simp) ?_
    simp
    have hf1 : ∀ h : H, (fzX h ∘ V.d) = V.d := fun h => rfl
    simp only [hf1]
    have hcl : (.agg [.int .i64 ((c : Int) + 1), .bool false, .int .i64 2, .sl false 2 [.agg [.int .i64 4, .int .i64 1], .agg [.int .i64 4, .int .i64 16], .agg [.int .i64 4, .int .i64 (20 + ((c : Int) + 1))]], .sl false 1 ((nmK ((c : Int) + 1)).data.toList.map fun b => D.int IntKind.u8 b.toNat)] : D) = clsD (c + 1) := by
     unfold clsD chD aboveD refD bytesD
     simp [hab]
     rfl
    rw [hcl]
    by_cases hs : srcK (c + 1) = []
    ·have hV := f14_ok ((c : Int) + 1) (c + 1) (.inl (by omega))
     simp only [rowV, rowC, hs, if_true] at hV
     refine ATT.callV Tryz.func8 60 [] [] (hV) ?_ ?_ ?_ ?_ ?_ ?_ ?_ ?_
     iterate 7 · simp
     simp
     generalize hu1 : List.map (fzB _) u = u1
     generalize hw1 : List.map (fzR _) w = w1
     have hlu : u.length = u1.length := by rw [← hu1]; simp
     rw [hlu]
     refine ATT.loopG 60 rfl (fun (i : Nat) => 0) (fun (i : Nat) => i ≤ 0) (fun (i : Nat) => [(0, .ptr 0 0), (2, .ptr 1 0), (3, .fn (.func 28) [] [.ptr 1 0]), (4, .d (.int .i64 (progK c).2)), (5, .d (.int .i64 ((c : Int) + 1))), (7, .ptr (u1.length + 1 + 1 + 1) 0), (41, .d (.sl true 0 [])), (42, .d (.int .i64 0)), (43, .d (.int .i64 0))]) (fun (i : Nat) => .cells [.d (.int .i64 0), .d (.sl true 0 [])] 25 :: RCB ((progK c).1 ++ [clsD (c + 1)]) :: (u1 ++ [.cells [.d (.int .i64 4), .d (.int .i64 1)] 43, .cells [.d (.int .i64 10), .d (.sl true 0 []), .d (.sl true 0 [])] 39])) (fun (i : Nat) => CHC ((progK c).1 ++ [clsD (c + 1)]) :: (w1 ++ [none])) (0) (by (try dsimp only); exact Nat.le_refl _) (by simp <;> omega) (by simp) (by simp) ?_
     intro i u w hI ih
     try simp only at hI ih
     rename_i u0 w0 hI0 ih0
     have hpe : progK (c + 1) = ((progK c).1 ++ [clsD (c + 1)] ++ [chD (20 + ((c : Int) + 1)) 10 (.sl true 0 []) (.sl true 0 [])], (progK c).2) := by
      rw [prog_succ, hs]
      simp only [pairsD, metD, hs, if_true, nilD, List.nil_append, List.length_nil, Nat.mul_zero, Nat.add_zero, List.append_assoc, List.cons_append]
      rw [show ((20 + (c + 1) : Nat) : Int) = 20 + ((c : Int) + 1) by omega]
     have hI2 : inI ((c : Int) + 1 + 1) = true := inI_of (by omega) (by omega)
     simp [TB, hI1]
     refine ATT.callV Tryz.func8 60 [1] [0] (f28_ok ((progK c).1 ++ [clsD (c + 1)]) (by simp; omega) (20 + ((c : Int) + 1)) 10 true true 0 0 [] []) ?_ ?_ ?_ ?_ ?_ ?_ ?_ ?_
     iterate 7 · simp
     simp [TB]
     simp [hI2]
     refine ih0 (c + 1) (by first | ((try dsimp only); omega) | (simp [hc', hI2, hpe] <;> omega)) (by (try dsimp only); exact hc) _ _ _ (by simp <;> omega) (by simp [hpe] <;> omega) (by simp [hpe] <;> omega)
    ·have hV := f14_ok ((c : Int) + 1) (c + 1) (.inl (by omega))
     simp only [rowV, rowC, hs, if_false] at hV
     have hn9 := src_len (c + 1)
     have hne : (srcK (c + 1)).length ≠ 0 := fun e => hs (List.length_eq_zero_iff.1 e)
     refine ATT.callV Tryz.func8 60 [] [] (hV) ?_ ?_ ?_ ?_ ?_ ?_ ?_ ?_
     iterate 7 · simp
     simp
     generalize hu1 : List.map (fzB _) u = u1
     generalize hw1 : List.map (fzR _) w = w1
     have hlu : u.length = u1.length := by rw [← hu1]; simp
     have hlw : w.length = w1.length := by rw [← hw1]; simp
     rw [hlu]
     try rw [hlw]
     refine ATT.nilB (u1.length + 1 + 1 + 1) 1 2 43 (by simp; exact ⟨rfl, rfl⟩) rfl (by decide) (by simp) ?_
     simp
     refine ATT.loopG 0 rfl (fun (i : Nat) => (srcK (c + 1)).length - i) (fun (i : Nat) => i ≤ (srcK (c + 1)).length) (fun (i : Nat) => [(0, .ptr 0 0), (2, .ptr 1 0), (3, .fn (.func 28) [] [.ptr 1 0]), (4, .d (.int .i64 ((progK c).2 + 2 * i : Nat))), (5, .d (.int .i64 ((c : Int) + 1))), (7, .ptr (u1.length + 1 + 1 + 1) 0), (41, .vs (w1.length + 1 + 1) (srcK (c + 1)).length 0 (srcK (c + 1)).length), (42, .d (.int .i64 (srcK (c + 1)).length)), (43, .d (.int .i64 i))]) (fun (i : Nat) => .cells [.d (.int .i64 0), .d (.sl true 0 [])] 25 :: RCB ((progK c).1 ++ clsD (c + 1) :: pairsD ((srcK (c + 1)).take i) (progK c).2) :: (u1 ++ [.cells [.d (.int .i64 4), .d (.int .i64 1)] 43, .cells [.d (.int .i64 10), .vs (w1.length + 1 + 1 + 1) (slotsD ((srcK (c + 1)).take i) (progK c).2).length 0 (slotsD ((srcK (c + 1)).take i) (progK c).2).length, .d (.sl true 0 [])] 39])) (fun (i : Nat) => CHC ((progK c).1 ++ clsD (c + 1) :: pairsD ((srcK (c + 1)).take i) (progK c).2) :: (w1 ++ [none, some ⟨false, 1, 0, (srcK (c + 1)).map fun s => .d (.str s), 9⟩, some ⟨(slotsD ((srcK (c + 1)).take i) (progK c).2).isEmpty, 2, 0, (slotsD ((srcK (c + 1)).take i) (progK c).2).map .d, 43⟩])) (0) (by (try dsimp only); exact Nat.zero_le _) (by simp <;> omega) (by simp) (by simp) ?_
     intro i u w hI ih
     try simp only at hI ih
     rename_i u0 w0 hI0 ih0
     simp only [goes]
     by_cases hi : i < (srcK (c + 1)).length
     ·obtain ⟨s, hs1⟩ : ∃ s, (srcK (c + 1))[i]? = some s := ⟨_, List.getElem?_eq_getElem hi⟩
      have hsE : ∀ h, (srcK (c + 1))[i]'h = s := fun h => by rw [List.getElem?_eq_getElem h] at hs1; simpa using hs1
      obtain ⟨x, hx⟩ := made (src_mem (by omega) hs1)
      have hM := f15_ok hWhole s (src_small (src_mem (by omega) hs1)) (sl := []) (by simp) (snl := true) (sz := 0) (fun _ => rfl) (fun h => by simp at h)
      rw [hx] at hM
      have hi' : (i : Int) < (srcK (c + 1)).length := by omega
      have hR1 : inR (i : Int) (srcK (c + 1)).length = true := inR_of (by omega) (by omega)
      have hI2 : inI ((progK c).2 + 2 * (i : Int) + 1) = true := inI_of (by omega) (by omega)
      have hI3 : inI ((progK c).2 + 2 * (i : Int) + 2) = true := inI_of (by omega) (by omega)
      have hI4 : inI ((i : Int) + 1) = true := inI_of (by omega) (by omega)
      have hT : (srcK (c + 1)).take (i + 1) = (srcK (c + 1)).take i ++ [s] := by rw [List.take_add_one, hs1]; rfl
      have hTl : ((srcK (c + 1)).take i).length = i := by simp; omega
      have hp1 := pairs_app ((srcK (c + 1)).take i) s (progK c).2
      have hp2 := slots_app ((srcK (c + 1)).take i) s (progK c).2
      have hp3 := pairs_len ((srcK (c + 1)).take i) (progK c).2
      have hp4 := slots_len ((srcK (c + 1)).take i) (progK c).2
      rw [hTl] at hp1 hp2 hp3 hp4
      generalize hpl : pairsD ((srcK (c + 1)).take i) (progK c).2 = pl at hp1 hp3
      generalize hsl : slotsD ((srcK (c + 1)).take i) (progK c).2 = ll at hp2 hp4
      have hm4 : (2 * i + 2) * 16 ≤ 140737488355328 := by omega
      refine goes_sound 60 _ _ _ _ ?_
      simp [TB, hi', hi, hsE, hR1, hp4]
      refine ATT.callE Tryz.func8 60 hM (by simp) (by simp) (by simp) fun v hv => ?_
      have e : v = _ := hv
      subst e
      simp [TB, cdL, hI2]
      refine ATT.callRD Tryz.func8 60 (f29_ok ((progK c).2 + 2 * (i : Int))) ?_ ?_ ?_ ?_
      iterate 3 · simp
      simp [hI2]
      refine ATT.callRD Tryz.func8 60 (f29_ok ((progK c).2 + 2 * (i : Int) + 1)) ?_ ?_ ?_ ?_
      iterate 3 · simp
      simp [TB, hp4, hm4]
      have hpl100 : ((progK c).1 ++ clsD (c + 1) :: pl).length ≤ 1000 := by simp; omega
      refine ATT.callV Tryz.func8 60 [1] [0] (f28_ok ((progK c).1 ++ clsD (c + 1) :: pl) (by omega) ((progK c).2 + 2 * (i : Int)) 9 true false 0 1 [] (bsD (selK s).data.toList)) ?_ ?_ ?_ ?_ ?_ ?_ ?_ ?_
      iterate 7 · simp [bsD]
      simp [TB, hI2, bsD]
      refine ATT.callV Tryz.func8 60 [1] [0] (f28_ok ((progK c).1 ++ clsD (c + 1) :: (pl ++ [chD ((progK c).2 + 2 * (i : Int)) 9 (.sl true 0 []) (.sl false 1 (bsD (selK s).data.toList))])) (by simp; omega) ((progK c).2 + 2 * (i : Int) + 1) 8 true false 0 1 [] (bsD s.data.toList)) ?_ ?_ ?_ ?_ ?_ ?_ ?_ ?_
      iterate 7 · simp [bsD]
      simp [TB, hI3, hI4, bsD]
      refine ih (i + 1) (by first | ((try dsimp only); omega) | (simp [hT, hp1, hp2, hp4, nilD, bytesD, refD, bsD] <;> omega)) (by (try dsimp only); exact hi) _ _ _ (by simp <;> omega) (by simp <;> omega) (by simp [hT, hp1, hp2, hp4, nilD, bytesD, refD, bsD] <;> omega)
     ·have hi' : ¬ (i : Int) < (srcK (c + 1)).length := by omega
      have hie : i = (srcK (c + 1)).length := by omega
      subst hie
      rw [List.take_length]
      have hp3 := pairs_len (srcK (c + 1)) (progK c).2
      have hp4 := slots_len (srcK (c + 1)) (progK c).2
      have hse : slotsD (srcK (c + 1)) (progK c).2 ≠ [] := fun e => by rw [e] at hp4; simp at hp4; omega
      refine ATT.fz1 (w1.length + 1 + 1 + 1) (by simp) ?_
      simp
      have hf1 : ∀ h : H, (fzX h ∘ V.d) = V.d := fun h => rfl
      simp only [hf1]
      have hse2 : (slotsD (srcK (c + 1)) (progK c).2).isEmpty = false := List.isEmpty_eq_false_iff.2 hse
      generalize hu2 : List.map (fzB _) u1 = u2
      generalize hu3 : List.map (fzB _) u = u3
      generalize hw3 : List.map (fzR _) w = w3
      have hlu2 : u1.length = u2.length := by rw [← hu2]; simp
      rw [hlu2]
      have hpe : progK (c + 1) = ((progK c).1 ++ clsD (c + 1) :: (pairsD (srcK (c + 1)) (progK c).2 ++ [chD (20 + ((c : Int) + 1)) 10 (.sl false 2 (slotsD (srcK (c + 1)) (progK c).2)) (.sl true 0 [])]), (progK c).2 + 2 * (srcK (c + 1)).length) := by
       rw [prog_succ]
       simp only [metD, hs, if_false, nilD]
       rw [show ((20 + (c + 1) : Nat) : Int) = 20 + ((c : Int) + 1) by omega]
      have hI2 : inI ((c : Int) + 1 + 1) = true := inI_of (by omega) (by omega)
      refine goes_sound 60 _ _ _ _ ?_
      simp [TB, hI1, hse2]
      refine ATT.callV Tryz.func8 60 [1] [0] (f28_ok ((progK c).1 ++ clsD (c + 1) :: pairsD (srcK (c + 1)) (progK c).2) (by simp; omega) (20 + ((c : Int) + 1)) 10 false true 2 0 (slotsD (srcK (c + 1)) (progK c).2) []) ?_ ?_ ?_ ?_ ?_ ?_ ?_ ?_
      iterate 7 · simp
      simp [TB, hI2]
      refine ih0 (c + 1) (by first | ((try dsimp only); omega) | (simp [hc', hI2, hpe] <;> omega)) (by (try dsimp only); exact hc) _ _ _ (by simp <;> omega) (by simp [hpe] <;> omega) (by simp [hpe] <;> omega)
 ·have hc' : ¬ ((c : Int) + 1 ≤ 14) := by omega
  have hce : c = 14 := by omega
  obtain ⟨hl1, _⟩ := prog_le hI
  have hK := ker_sort hS
  have hput : putK = (progK c).1 ++ [chD 15 12 (.sl true 0 []) (.sl true 0 []), chD 16 8 (.sl true 0 []) (.sl true 0 [])] := by rw [hce]; rfl
  have hn : (progK c).1.length = 92 := by have := put_len; rw [hput] at this; simpa using this
  rw [hput] at hK
  simp [TB, hc']
  refine ATT.callV Tryz.func8 60 [1] [0] (f28_ok (progK c).1 (by omega) 15 12 true true 0 0 [] []) ?_ ?_ ?_ ?_ ?_ ?_ ?_ ?_
  iterate 7 · simp
  simp [TB]
  refine ATT.callV Tryz.func8 60 [1] [0] (f28_ok ((progK c).1 ++ [chD 15 12 (.sl true 0 []) (.sl true 0 [])]) (by simp; omega) 16 8 true true 0 0 [] []) ?_ ?_ ?_ ?_ ?_ ?_ ?_ ?_
  iterate 7 · simp
  simp [TB]
  refine ATT.callV Tryz.func8 60 [] [0] (hK) ?_ ?_ ?_ ?_ ?_ ?_ ?_ ?_
  iterate 7 · simp
  simp [TB]
  refine ATT.finz2 hQ Tryz.func8 ?_
  simp [ker_len, hn, ker_empty, ker_take]
  all_goals (first | omega | exact ⟨_, rfl⟩ | skip)
end Go.SL
namespace Go.Proofs
open Go.Shelf
def Tryz.sortC_ren : Go.Shelf.Ren := ⟨fun | 6 => 30 | 15 => 42 | 14 => 41 | 28 => 59 | 29 => 60 | 20 => 51 | 21 => 52 | 22 => 53 | 23 => 54 | 24 => 55 | 25 => 56 | 26 => 57 | 27 => 58 | 46 => 80 | 47 => 81 | 48 => 82 | 49 => 83 | 50 => 84 | 57 => 108 | n => n, fun | 22 => 23 | 24 => 41 | 25 => 65 | 3 => 3 | 39 => 83 | 0 => 0 | 53 => 111 | 55 => 113 | 4 => 4 | 46 => 104 | 45 => 103 | 50 => 108 | 5 => 5 | 9 => 9 | 66 => 154 | 70 => 158 | 76 => 203 | 77 => 204 | n => n, fun | n => n⟩
theorem Tryz.sortC : Go.Proofs.SlLaysF0.n6 Tryz.prog Tryz.sortC_ren := {
 mixed := by kernel_rfl
 f6 := ⟨Tryz.f30.name, by decide, Tryz.func30.trans (congrArg some (by kernel_rfl))⟩
 f14 := ⟨Tryz.f41.name, by decide, Tryz.func41.trans (congrArg some (by kernel_rfl))⟩
 f15 := Tryz.func42.trans (congrArg some (by kernel_rfl))
 f20 := ⟨Tryz.f51.name, by decide, Tryz.func51.trans (congrArg some (by kernel_rfl))⟩
 f21 := ⟨Tryz.f52.name, by decide, Tryz.func52.trans (congrArg some (by kernel_rfl))⟩
 f22 := ⟨Tryz.f53.name, by decide, Tryz.func53.trans (congrArg some (by kernel_rfl))⟩
 f23 := ⟨Tryz.f54.name, by decide, Tryz.func54.trans (congrArg some (by kernel_rfl))⟩
 f24 := ⟨Tryz.f55.name, by decide, Tryz.func55.trans (congrArg some (by kernel_rfl))⟩
 f25 := ⟨Tryz.f56.name, by decide, Tryz.func56.trans (congrArg some (by kernel_rfl))⟩
 f26 := ⟨Tryz.f57.name, by decide, Tryz.func57.trans (congrArg some (by kernel_rfl))⟩
 f27 := ⟨Tryz.f58.name, by decide, Tryz.func58.trans (congrArg some (by kernel_rfl))⟩
 f28 := Tryz.func59.trans (congrArg some (by kernel_rfl))
 f29 := Tryz.func60.trans (congrArg some (by kernel_rfl))
 f46 := ⟨Tryz.f80.name, by decide, Tryz.func80.trans (congrArg some (by kernel_rfl))⟩
 f47 := Tryz.func81.trans (congrArg some (by kernel_rfl))
 f48 := Tryz.func82.trans (congrArg some (by kernel_rfl))
 f49 := ⟨Tryz.f83.name, by decide, Tryz.func83.trans (congrArg some (by kernel_rfl))⟩
 f50 := ⟨Tryz.f84.name, by decide, Tryz.func84.trans (congrArg some (by kernel_rfl))⟩
 f57 := ⟨Tryz.f108.name, by decide, Tryz.func108.trans (congrArg some (by kernel_rfl))⟩
 t0 := Tryz.underlying0
 a0 := Tryz.isAgg0
 z0 := Tryz.sizeOf0
 v0 := Tryz.zeroValue0
 t3 := Tryz.underlying3
 a3 := Tryz.isAgg3
 z3 := Tryz.sizeOf3
 v3 := Tryz.zeroValue3
 t4 := Tryz.underlying4
 a4 := Tryz.isAgg4
 z4 := Tryz.sizeOf4
 v4 := Tryz.zeroValue4
 t5 := Tryz.underlying5
 a5 := Tryz.isAgg5
 z5 := Tryz.sizeOf5
 v5 := Tryz.zeroValue5
 t9 := Tryz.underlying9
 a9 := Tryz.isAgg9
 z9 := Tryz.sizeOf9
 v9 := Tryz.zeroValue9
 t22 := Tryz.underlying23
 a22 := Tryz.isAgg23
 z22 := Tryz.sizeOf23
 v22 := Tryz.zeroValue23
 t25 := Tryz.underlying65
 a25 := Tryz.isAgg65
 z25 := Tryz.sizeOf65
 v25 := Tryz.zeroValue65
 t39 := Tryz.underlying83
 a39 := Tryz.isAgg83
 z39 := Tryz.sizeOf83
 v39 := Tryz.zeroValue83
 t45 := Tryz.underlying103
 a45 := Tryz.isAgg103
 z45 := Tryz.sizeOf103
 v45 := Tryz.zeroValue103
 t46 := Tryz.underlying104
 a46 := Tryz.isAgg104
 z46 := Tryz.sizeOf104
 v46 := Tryz.zeroValue104
 t50 := Tryz.underlying108
 a50 := Tryz.isAgg108
 z50 := Tryz.sizeOf108
 v50 := Tryz.zeroValue108
 t53 := Tryz.underlying111
 a53 := Tryz.isAgg111
 z53 := Tryz.sizeOf111
 v53 := Tryz.zeroValue111
 t55 := Tryz.underlying113
 a55 := Tryz.isAgg113
 z55 := Tryz.sizeOf113
 v55 := Tryz.zeroValue113
 t66 := Tryz.underlying154
 a66 := Tryz.isAgg154
 z66 := Tryz.sizeOf154
 v66 := Tryz.zeroValue154
 t70 := Tryz.underlying158
 a70 := Tryz.isAgg158
 z70 := Tryz.sizeOf158
 v70 := Tryz.zeroValue158
 t76 := Tryz.underlying203
 a76 := Tryz.isAgg203
 z76 := Tryz.sizeOf203
 v76 := Tryz.zeroValue203
 t77 := Tryz.underlying204
 a77 := Tryz.isAgg204
 z77 := Tryz.sizeOf204
 v77 := Tryz.zeroValue204 }
end Go.Proofs
namespace Go.SL
open Go.Proofs Go.Sort Go.Lib Go.Shelf Go.RowKit
set_option maxRecDepth 10000
set_option maxHeartbeats 1000000 in
theorem cmpW (k1 k2 : Int) (a1 b1 c1 d1 a2 b2 c2 d2 : Value) (h : inI (k1 - k2) = true) (W : World) : Calls Tryz.prog 31 #[.agg #[.int .i64 k1, a1, b1, c1, d1], .agg #[.int .i64 k2, a2, b2, c2, d2]] W fun e w' => e = .returned (.int .i64 (k1 - k2)) ∧ ∃ q os', w' = grow (W.drewN q) os' := by
 have hw : IntKind.i64.wrap (k1 - k2) = k1 - k2 := by
  simp only [inI, Bool.and_eq_true, decide_eq_true_eq] at h
  simp [IntKind.wrap, IntKind.bits, IntKind.signed]; omega
 go_enter Tryz.func31, Tryz.ntmps31
 go_wp2
 go_ret
 exact ⟨rfl, 0, _, by rw [alloc_eq_grow, alloc_eq_grow, grow_grow]; rfl⟩
theorem sortE : SortK Tryz.prog 30 31 := by
 intro blk off cap d w hH hblk hsz
 have eg : ∀ args w, (callFunc 31 args).run Tryz.prog w = .ok (.enter 31 args) w := enters_of Tryz.func31 (by kernel_rfl) rfl
 exact AnyQ.slices_SortFunc Tryz.sortC 5 Tryz.isAgg41 Tryz.sizeOf41 encE encE_len encE_one cfE swoE 31 #[] blk off cap d w eg (fun m os dk hd x y => by
  obtain ⟨kx, cx, lx, hx, lnx, ox⟩ := x
  obtain ⟨ky, cy, ly, hy, lny, oy⟩ := y
  match cx, lnx with
  | [a1, b1, c1, d1], _ => match cy, lny with
   | [a2, b2, c2, d2], _ => exact cmpW kx ky a1 b1 c1 d1 a2 b2 c2 d2 (inI_of (by omega) (by omega)) _) hH hblk hsz
theorem buildK : DE Tryz.prog 8 [] fun v => v = .tup [.agg [.int .i64 1, .sl false 5 kerL], .int .i64 0] := f8_ok sortE
end Go.SL
namespace Go.SL
open Go.Proofs
set_option maxRecDepth 10000
theorem ker14 : kerL[14]? = some (chD 15 12 nilD nilD) := by kernel_rfl
theorem ker14D : ∀ h, kerL[14]'h = chD 15 12 nilD nilD := fun h => by have := ker14; rw [List.getElem?_eq_getElem h] at this; simpa using this
theorem nm9 : nmK 9 = nK9 := by kernel_rfl
theorem oop10 : oopK nK10 = 10 := by kernel_rfl
theorem f13_ok : DF Tryz.prog 13 [] (.bool true) := by
 have hN := f18_ok 9
 have hO := f20_ok nK10
 rw [nm9] at hN
 rw [oop10] at hO
 have hr : inR 14 94 = true := by decide
 have hl : (kerL.length : Int) = 94 := by rw [ker_len]; rfl
 refine AF.go Tryz.func13 [] fun tb TB Q hQ => ?_
 simp [TB]
 refine ATT.callE Tryz.func13 60 buildK ?_ ?_ ?_ fun v hv => ?_
 iterate 3 · simp
 subst hv
 simp [TB]
 refine ATT.callD Tryz.func13 60 (hN) ?_ ?_ ?_ ?_
 iterate 3 · simp
 simp [nK9]
 refine ATT.callD Tryz.func13 60 (hO) ?_ ?_ ?_ ?_
 iterate 3 · simp [nK10]
 simp [ker_len, ker14D, chD, lget]
 refine ATT.fin2 hQ Tryz.func13 ?_
 simp
 all_goals (first | omega | exact ⟨_, rfl⟩ | skip)
abbrev RS (l : List ByteArray) : Option Vec := some ⟨false, 1, 0, l.map fun s => .d (.str s), 9⟩
theorem f24_nil : DF Tryz.prog 24 [.sl true 0 [], .sl true 0 []] (.bool true) := by
 refine AF.go Tryz.func24 [(6, [oD 9 []])] fun tb TB Q hQ => ?_
 simp [TB]
 refine ATT.loopG 60 rfl (fun (i : Nat) => 0) (fun (i : Nat) => i ≤ 0) (fun (i : Nat) => [(0, .d (.sl true 0 [])), (1, .d (.sl true 0 [])), (5, .d (.int .i64 0))]) (fun (i : Nat) => []) (fun (i : Nat) => []) (0) (by (try dsimp only); exact Nat.le_refl _) (by simp <;> omega) (by simp) (by simp) ?_
 intro i u w hI ih
 try simp only at hI ih
 simp [TB]
 refine ATT.fin2 hQ Tryz.func24 ?_
 simp
 all_goals (first | omega | exact ⟨_, rfl⟩ | skip)
theorem f24_rows (l : List ByteArray) (hl : l.length ≤ 1000000000) : VF Tryz.prog 24 [.vs 0 l.length 0 l.length, .vs 1 l.length 0 l.length] [] [RS l, RS l] (.d (.bool true)) [] [RS l, RS l] := by
 refine AF.go Tryz.func24 [(6, [oD 9 []])] fun tb TB Q hQ => ?_
 simp [TB]
 refine ATT.loopG 60 rfl (fun (i : Nat) => l.length - i) (fun (i : Nat) => i ≤ l.length) (fun (i : Nat) => [(0, .vs 0 l.length 0 l.length), (1, .vs 1 l.length 0 l.length), (5, .d (.int .i64 i))]) (fun (i : Nat) => []) (fun (i : Nat) => [RS l, RS l]) (0) (by (try dsimp only); exact Nat.zero_le _) (by simp <;> omega) (by simp) (by simp) ?_
 intro i u w hI ih
 try simp only at hI ih
 by_cases hi : i < l.length
 ·obtain ⟨y, hy⟩ : ∃ y, l[i]? = some y := ⟨_, List.getElem?_eq_getElem hi⟩
  have hyE : ∀ h, l[i]'h = y := fun h => by rw [List.getElem?_eq_getElem h] at hy; simpa using hy
  have hi' : (i : Int) < l.length := by omega
  have hR : inR (i : Int) l.length = true := inR_of (by omega) (by omega)
  have hII : inI ((i : Int) + 1) = true := inI_of (by omega) (by omega)
  simp [TB, hi, hi', hyE, hII, hR]
  refine ih (i + 1) (by first | ((try dsimp only); omega) | (simp [hi, hi', hy, hyE, hII, hR] <;> omega)) (by (try dsimp only); exact hi) _ _ _ (by simp <;> omega) (by simp <;> omega) (by simp <;> omega)
 ·have hi' : ¬ (i : Int) < l.length := by omega
  simp [TB, hi']
  refine ATT.fin2 hQ Tryz.func24 ?_
  simp
  all_goals (first | omega | exact ⟨_, rfl⟩ | skip)
@[simp] theorem app_three {α : Type} (w r : List α) (a b c d : α) (h : w.length + 1 + 1 + 1 < (w ++ a :: b :: c :: d :: r).length) : (w ++ a :: b :: c :: d :: r)[w.length + 1 + 1 + 1] = d := by
 rw [List.getElem_append_right (by omega)]
 simp [show w.length + 1 + 1 + 1 - w.length = 3 by omega]
@[simp] theorem set_three {α : Type} (w r : List α) (a b c d x : α) : (w ++ a :: b :: c :: d :: r).set (w.length + 1 + 1 + 1) x = w ++ a :: b :: c :: x :: r := by
 rw [List.set_append_right _ _ (by omega), show w.length + 1 + 1 + 1 - w.length = 3 by omega]
 rfl
@[simp] theorem ne_two (n : Nat) : (n = n + 1 + 1) = False := by simp; omega
@[simp] theorem app_two {α : Type} (w r : List α) (a b c : α) (h : w.length + 1 + 1 < (w ++ a :: b :: c :: r).length) : (w ++ a :: b :: c :: r)[w.length + 1 + 1] = c := by
 rw [List.getElem_append_right (by omega)]
 simp [show w.length + 1 + 1 - w.length = 2 by omega]
@[simp] theorem set_two {α : Type} (w r : List α) (a b c x : α) : (w ++ a :: b :: c :: r).set (w.length + 1 + 1) x = w ++ a :: b :: x :: r := by
 rw [List.set_append_right _ _ (by omega), show w.length + 1 + 1 - w.length = 2 by omega]
 rfl
theorem src_lt (k : Nat) : (srcK k).length ≤ 9 := src_len k
theorem nat_lt (k : Nat) : (natK k).length ≤ 10 := by unfold natK; split <;> decide
set_option maxHeartbeats 1000000 in
theorem f5_ok (c : Int) (name : ByteArray) : DF Tryz.prog 5 [.int .i64 c, .str name] (.bool true) := by
 obtain ⟨k, hk⟩ : ∃ k : Nat, c = k ∨ (k = 0 ∧ (c < 0 ∨ 14 < c)) := by
  by_cases h : 0 ≤ c
  ·exact ⟨c.toNat, .inl (by omega)⟩
  ·exact ⟨0, .inr ⟨rfl, by omega⟩⟩
 have hS := f14_ok c k hk
 have hR := f16_ok c k hk
 have hT := f17_ok c k hk
 have hU := f25_ok c k hk
 have g1 := src_lt k
 have g2 := nat_lt k
 have x1 := f24_rows (srcK k) (by omega)
 have x2 := f24_rows (natK k) (by omega)
 have hN1 := f18_ok c
 have hN2 := f19_ok c
 have hO1 := f20_ok name
 have hO2 := f21_ok name
 have hP1 := f22_ok c
 have hP2 := f23_ok c
 refine AF.go Tryz.func5 [] fun tb TB Q hQ => ?_
 simp [TB]
 refine ATT.loopG 60 rfl (fun (i : Nat) => 2 - i) (fun (i : Nat) => i ≤ 2) (fun (i : Nat) => [(0, .d (.int .i64 c)), (1, .d (.str name)), (5, .d (.int .i64 i))]) (fun (i : Nat) => []) (fun (i : Nat) => []) (0) (by (try dsimp only); exact Nat.zero_le _) (by simp <;> omega) (by simp) (by simp) ?_
 intro i u w hI ih
 try simp only at hI ih
 by_cases hi : i < 2
 ·have hi' : (i : Int) < 2 := by omega
  have hII : inI ((i : Int) + 1) = true := inI_of (by omega) (by omega)
  generalize srcK k = sk at *
  generalize natK k = tk at *
  by_cases h1 : sk = []
  ·subst h1
   simp only [rowV, rowC, if_true] at hS hR
   by_cases h2 : tk = []
   ·subst h2
    simp only [rowV, rowC, if_true] at hT hU
    simp [TB, hi']
    refine ATT.callV Tryz.func5 60 [] [] (hS) ?_ ?_ ?_ ?_ ?_ ?_ ?_ ?_
    iterate 7 · simp
    simp [TB]
    refine ATT.callV Tryz.func5 60 [] [] (hT) ?_ ?_ ?_ ?_ ?_ ?_ ?_ ?_
    iterate 7 · simp
    simp [TB]
    refine ATT.callD Tryz.func5 60 (hN1) ?_ ?_ ?_ ?_
    iterate 3 · simp
    simp
    refine ATT.callD Tryz.func5 60 (hN2) ?_ ?_ ?_ ?_
    iterate 3 · simp
    simp
    refine ATT.callD Tryz.func5 60 (hO1) ?_ ?_ ?_ ?_
    iterate 3 · simp
    simp
    refine ATT.callD Tryz.func5 60 (hO2) ?_ ?_ ?_ ?_
    iterate 3 · simp
    simp
    refine ATT.callD Tryz.func5 60 (hP1) ?_ ?_ ?_ ?_
    iterate 3 · simp
    simp
    refine ATT.callD Tryz.func5 60 (hP2) ?_ ?_ ?_ ?_
    iterate 3 · simp
    simp
    refine ATT.callV Tryz.func5 60 [] [] (hR) ?_ ?_ ?_ ?_ ?_ ?_ ?_ ?_
    iterate 7 · simp
    simp
    refine ATT.callD Tryz.func5 60 (f24_nil) ?_ ?_ ?_ ?_
    iterate 3 · simp
    simp
    refine ATT.callV Tryz.func5 60 [] [] (hU) ?_ ?_ ?_ ?_ ?_ ?_ ?_ ?_
    iterate 7 · simp
    simp
    refine ATT.callD Tryz.func5 60 (f24_nil) ?_ ?_ ?_ ?_
    iterate 3 · simp
    simp [TB]
    refine ATT.loopG 60 rfl (fun (j : Nat) => 0) (fun (j : Nat) => j ≤ 0) (fun (j : Nat) => [(0, .d (.int .i64 c)), (1, .d (.str name)), (5, .d (.int .i64 i)), (6, .d (.sl true 0 [])), (7, .d (.sl true 0 [])), (8, .d (.int .i64 0))]) (fun (j : Nat) => u) (fun (j : Nat) => w) (0) (by (try dsimp only); exact Nat.le_refl _) (by simp <;> omega) (by simp) (by simp) ?_
    intro j u w hI ih
    try simp only at hI ih
    rename_i u0 w0 hI0 ih0
    simp [TB]
    refine ATT.loopG 60 rfl (fun (j : Nat) => 0) (fun (j : Nat) => j ≤ 0) (fun (j : Nat) => [(0, .d (.int .i64 c)), (1, .d (.str name)), (5, .d (.int .i64 i)), (6, .d (.sl true 0 [])), (7, .d (.sl true 0 [])), (9, .d (.int .i64 0))]) (fun (j : Nat) => u0) (fun (j : Nat) => w0) (0) (by (try dsimp only); exact Nat.le_refl _) (by simp <;> omega) (by simp) (by simp) ?_
    intro j u w hI ih
    try simp only at hI ih
    simp [TB, hII]
    refine ih0 (i + 1) (by first | ((try dsimp only); omega) | (simp [hi', hII] <;> omega)) (by (try dsimp only); exact hi) _ _ _ (by simp <;> omega) (by simp <;> omega) (by simp <;> omega)
   ·simp only [rowV, rowC, if_neg h2] at hT hU
    clear h2
    simp [TB, hi']
    refine ATT.callV Tryz.func5 60 [] [] (hS) ?_ ?_ ?_ ?_ ?_ ?_ ?_ ?_
    iterate 7 · simp
    simp [TB]
    refine ATT.callV Tryz.func5 60 [] [] (hT) ?_ ?_ ?_ ?_ ?_ ?_ ?_ ?_
    iterate 7 · simp
    simp [TB]
    refine ATT.callD Tryz.func5 60 (hN1) ?_ ?_ ?_ ?_
    iterate 3 · simp
    simp
    refine ATT.callD Tryz.func5 60 (hN2) ?_ ?_ ?_ ?_
    iterate 3 · simp
    simp
    refine ATT.callD Tryz.func5 60 (hO1) ?_ ?_ ?_ ?_
    iterate 3 · simp
    simp
    refine ATT.callD Tryz.func5 60 (hO2) ?_ ?_ ?_ ?_
    iterate 3 · simp
    simp
    refine ATT.callD Tryz.func5 60 (hP1) ?_ ?_ ?_ ?_
    iterate 3 · simp
    simp
    refine ATT.callD Tryz.func5 60 (hP2) ?_ ?_ ?_ ?_
    iterate 3 · simp
    simp
    refine ATT.callV Tryz.func5 60 [] [] (hR) ?_ ?_ ?_ ?_ ?_ ?_ ?_ ?_
    iterate 7 · simp
    simp
    refine ATT.callD Tryz.func5 60 (f24_nil) ?_ ?_ ?_ ?_
    iterate 3 · simp
    simp
    refine ATT.callV Tryz.func5 60 [] [] (hU) ?_ ?_ ?_ ?_ ?_ ?_ ?_ ?_
    iterate 7 · simp
    simp
    refine ATT.callV Tryz.func5 60 [] [w.length, w.length + 1] (x2) ?_ ?_ ?_ ?_ ?_ ?_ ?_ ?_
    iterate 7 · simp
    simp [TB]
    refine ATT.loopG 60 rfl (fun (j : Nat) => 0) (fun (j : Nat) => j ≤ 0) (fun (j : Nat) => [(0, .d (.int .i64 c)), (1, .d (.str name)), (5, .d (.int .i64 i)), (6, .d (.sl true 0 [])), (7, .vs (w.length) tk.length 0 tk.length), (8, .d (.int .i64 0))]) (fun (j : Nat) => u) (fun (j : Nat) => w ++ [RS tk]) (0) (by (try dsimp only); exact Nat.le_refl _) (by simp <;> omega) (by simp) (by simp) ?_
    intro j u w hI ih
    try simp only at hI ih
    rename_i u0 w0 hI0 ih0
    simp [TB]
    refine ATT.loopG 60 rfl (fun ((m, ys) : Nat × List V) => tk.length - m) (fun ((m, ys) : Nat × List V) => m ≤ tk.length ∧ ys.length = tk.length) (fun ((m, ys) : Nat × List V) => [(0, .d (.int .i64 c)), (1, .d (.str name)), (5, .d (.int .i64 i)), (6, .d (.sl true 0 [])), (7, .vs (w0.length) tk.length 0 tk.length), (9, .d (.int .i64 m))]) (fun ((m, ys) : Nat × List V) => u0) (fun ((m, ys) : Nat × List V) => w0 ++ [some ⟨false, 1, 0, ys, 9⟩]) ((0, (tk.map fun s => .d (.str s)))) (by (try dsimp only); exact ⟨Nat.zero_le _, by simp⟩) (by simp <;> omega) (by simp) (by simp) ?_
    intro ⟨m, ys⟩ u w hI ih
    try simp only at hI ih
    obtain ⟨i3, i4⟩ := hI
    by_cases hm : m < tk.length
    ·have hm' : (m : Int) < tk.length := by omega
     have hR4 : inR (m : Int) tk.length = true := inR_of (by omega) (by omega)
     have hI4 : inI ((m : Int) + 1) = true := inI_of (by omega) (by omega)
     obtain ⟨y, hy⟩ : ∃ y, ys[m]? = some y := ⟨_, List.getElem?_eq_getElem (by omega)⟩
     simp [TB, hm, hm', hR4, hI4, i4]
     refine ih ((m + 1, ys.set m (.d (.str ⟨#[63]⟩)))) (by first | ((try dsimp only); omega) | (simp [hm, hm', hR4, hI4, i4, hy, hi', hII] <;> omega)) (by (try dsimp only); exact ⟨hm, by simpa using i4⟩) _ _ _ (by simp <;> omega) (by simp <;> omega) (by simp <;> omega)
    have hm' : ¬ (m : Int) < tk.length := by omega
    simp [TB, hm', hII, i4]
    refine ih0 (i + 1) (by first | ((try dsimp only); omega) | (simp [hm', hi', hII, i4] <;> omega)) (by (try dsimp only); exact hi) _ _ _ (by simp <;> omega) (by simp <;> omega) (by simp <;> omega)
  ·simp only [rowV, rowC, if_neg h1] at hS hR
   clear h1
   by_cases h2 : tk = []
   ·subst h2
    simp only [rowV, rowC, if_true] at hT hU
    simp [TB, hi']
    refine ATT.callV Tryz.func5 60 [] [] (hS) ?_ ?_ ?_ ?_ ?_ ?_ ?_ ?_
    iterate 7 · simp
    simp [TB]
    refine ATT.callV Tryz.func5 60 [] [] (hT) ?_ ?_ ?_ ?_ ?_ ?_ ?_ ?_
    iterate 7 · simp
    simp [TB]
    refine ATT.callD Tryz.func5 60 (hN1) ?_ ?_ ?_ ?_
    iterate 3 · simp
    simp
    refine ATT.callD Tryz.func5 60 (hN2) ?_ ?_ ?_ ?_
    iterate 3 · simp
    simp
    refine ATT.callD Tryz.func5 60 (hO1) ?_ ?_ ?_ ?_
    iterate 3 · simp
    simp
    refine ATT.callD Tryz.func5 60 (hO2) ?_ ?_ ?_ ?_
    iterate 3 · simp
    simp
    refine ATT.callD Tryz.func5 60 (hP1) ?_ ?_ ?_ ?_
    iterate 3 · simp
    simp
    refine ATT.callD Tryz.func5 60 (hP2) ?_ ?_ ?_ ?_
    iterate 3 · simp
    simp
    refine ATT.callV Tryz.func5 60 [] [] (hR) ?_ ?_ ?_ ?_ ?_ ?_ ?_ ?_
    iterate 7 · simp
    simp
    refine ATT.callV Tryz.func5 60 [] [w.length, w.length + 1] (x1) ?_ ?_ ?_ ?_ ?_ ?_ ?_ ?_
    iterate 7 · simp
    simp
    refine ATT.callV Tryz.func5 60 [] [] (hU) ?_ ?_ ?_ ?_ ?_ ?_ ?_ ?_
    iterate 7 · simp
    simp
    refine ATT.callD Tryz.func5 60 (f24_nil) ?_ ?_ ?_ ?_
    iterate 3 · simp
    simp [TB]
    refine ATT.loopG 60 rfl (fun ((j, xs) : Nat × List V) => sk.length - j) (fun ((j, xs) : Nat × List V) => j ≤ sk.length ∧ xs.length = sk.length) (fun ((j, xs) : Nat × List V) => [(0, .d (.int .i64 c)), (1, .d (.str name)), (5, .d (.int .i64 i)), (6, .vs (w.length) sk.length 0 sk.length), (7, .d (.sl true 0 [])), (8, .d (.int .i64 j))]) (fun ((j, xs) : Nat × List V) => u) (fun ((j, xs) : Nat × List V) => w ++ [some ⟨false, 1, 0, xs, 9⟩]) ((0, (sk.map fun s => .d (.str s)))) (by (try dsimp only); exact ⟨Nat.zero_le _, by simp⟩) (by simp <;> omega) (by simp) (by simp) ?_
    intro ⟨j, xs⟩ u w hI ih
    try simp only at hI ih
    rename_i u0 w0 hI0 ih0
    obtain ⟨i1, i2⟩ := hI
    by_cases hj : j < sk.length
    ·have hj' : (j : Int) < sk.length := by omega
     have hR3 : inR (j : Int) sk.length = true := inR_of (by omega) (by omega)
     have hI3 : inI ((j : Int) + 1) = true := inI_of (by omega) (by omega)
     obtain ⟨y, hy⟩ : ∃ y, xs[j]? = some y := ⟨_, List.getElem?_eq_getElem (by omega)⟩
     simp [TB, hj, hj', hR3, hI3, i2]
     refine ih ((j + 1, xs.set j (.d (.str ⟨#[63]⟩)))) (by first | ((try dsimp only); omega) | (simp [hj, hj', hR3, hI3, i2, hy, hi', hII] <;> omega)) (by (try dsimp only); exact ⟨hj, by simpa using i2⟩) _ _ _ (by simp <;> omega) (by simp <;> omega) (by simp <;> omega)
    have hj' : ¬ (j : Int) < sk.length := by omega
    simp [TB, hj', i2]
    refine ATT.loopG 60 rfl (fun (j : Nat) => 0) (fun (j : Nat) => j ≤ 0) (fun (j : Nat) => [(0, .d (.int .i64 c)), (1, .d (.str name)), (5, .d (.int .i64 i)), (6, .vs (w0.length) sk.length 0 sk.length), (7, .d (.sl true 0 [])), (9, .d (.int .i64 0))]) (fun (j : Nat) => u0) (fun (j : Nat) => w0 ++ [some ⟨false, 1, 0, xs, 9⟩]) (0) (by (try dsimp only); exact Nat.le_refl _) (by simp <;> omega) (by simp) (by simp) ?_
    intro j u w hI ih
    try simp only at hI ih
    simp [TB, hII]
    refine ih0 (i + 1) (by first | ((try dsimp only); omega) | (simp [hj', hi', hII, i2] <;> omega)) (by (try dsimp only); exact hi) _ _ _ (by simp <;> omega) (by simp <;> omega) (by simp <;> omega)
   ·simp only [rowV, rowC, if_neg h2] at hT hU
    clear h2
    simp [TB, hi']
    refine ATT.callV Tryz.func5 60 [] [] (hS) ?_ ?_ ?_ ?_ ?_ ?_ ?_ ?_
    iterate 7 · simp
    simp [TB]
    refine ATT.callV Tryz.func5 60 [] [] (hT) ?_ ?_ ?_ ?_ ?_ ?_ ?_ ?_
    iterate 7 · simp
    simp [TB]
    refine ATT.callD Tryz.func5 60 (hN1) ?_ ?_ ?_ ?_
    iterate 3 · simp
    simp
    refine ATT.callD Tryz.func5 60 (hN2) ?_ ?_ ?_ ?_
    iterate 3 · simp
    simp
    refine ATT.callD Tryz.func5 60 (hO1) ?_ ?_ ?_ ?_
    iterate 3 · simp
    simp
    refine ATT.callD Tryz.func5 60 (hO2) ?_ ?_ ?_ ?_
    iterate 3 · simp
    simp
    refine ATT.callD Tryz.func5 60 (hP1) ?_ ?_ ?_ ?_
    iterate 3 · simp
    simp
    refine ATT.callD Tryz.func5 60 (hP2) ?_ ?_ ?_ ?_
    iterate 3 · simp
    simp
    refine ATT.callV Tryz.func5 60 [] [] (hR) ?_ ?_ ?_ ?_ ?_ ?_ ?_ ?_
    iterate 7 · simp
    simp
    refine ATT.callV Tryz.func5 60 [] [w.length, w.length + 1 + 1] (x1) ?_ ?_ ?_ ?_ ?_ ?_ ?_ ?_
    iterate 7 · simp
    simp
    refine ATT.callV Tryz.func5 60 [] [] (hU) ?_ ?_ ?_ ?_ ?_ ?_ ?_ ?_
    iterate 7 · simp
    simp
    refine ATT.callV Tryz.func5 60 [] [w.length + 1, w.length + 1 + 1 + 1] (x2) ?_ ?_ ?_ ?_ ?_ ?_ ?_ ?_
    iterate 7 · simp
    simp [TB]
    refine ATT.loopG 60 rfl (fun ((j, xs) : Nat × List V) => sk.length - j) (fun ((j, xs) : Nat × List V) => j ≤ sk.length ∧ xs.length = sk.length) (fun ((j, xs) : Nat × List V) => [(0, .d (.int .i64 c)), (1, .d (.str name)), (5, .d (.int .i64 i)), (6, .vs (w.length) sk.length 0 sk.length), (7, .vs (w.length + 1) tk.length 0 tk.length), (8, .d (.int .i64 j))]) (fun ((j, xs) : Nat × List V) => u) (fun ((j, xs) : Nat × List V) => w ++ [some ⟨false, 1, 0, xs, 9⟩, RS tk]) ((0, (sk.map fun s => .d (.str s)))) (by (try dsimp only); exact ⟨Nat.zero_le _, by simp⟩) (by simp <;> omega) (by simp) (by simp) ?_
    intro ⟨j, xs⟩ u w hI ih
    try simp only at hI ih
    rename_i u0 w0 hI0 ih0
    obtain ⟨i1, i2⟩ := hI
    by_cases hj : j < sk.length
    ·have hj' : (j : Int) < sk.length := by omega
     have hR3 : inR (j : Int) sk.length = true := inR_of (by omega) (by omega)
     have hI3 : inI ((j : Int) + 1) = true := inI_of (by omega) (by omega)
     obtain ⟨y, hy⟩ : ∃ y, xs[j]? = some y := ⟨_, List.getElem?_eq_getElem (by omega)⟩
     simp [TB, hj, hj', hR3, hI3, i2]
     refine ih ((j + 1, xs.set j (.d (.str ⟨#[63]⟩)))) (by first | ((try dsimp only); omega) | (simp [hj, hj', hR3, hI3, i2, hy, hi', hII] <;> omega)) (by (try dsimp only); exact ⟨hj, by simpa using i2⟩) _ _ _ (by simp <;> omega) (by simp <;> omega) (by simp <;> omega)
    have hj' : ¬ (j : Int) < sk.length := by omega
    simp [TB, hj', i2]
    refine ATT.loopG 60 rfl (fun ((m, ys) : Nat × List V) => tk.length - m) (fun ((m, ys) : Nat × List V) => m ≤ tk.length ∧ ys.length = tk.length) (fun ((m, ys) : Nat × List V) => [(0, .d (.int .i64 c)), (1, .d (.str name)), (5, .d (.int .i64 i)), (6, .vs (w0.length) sk.length 0 sk.length), (7, .vs (w0.length + 1) tk.length 0 tk.length), (9, .d (.int .i64 m))]) (fun ((m, ys) : Nat × List V) => u0) (fun ((m, ys) : Nat × List V) => w0 ++ [some ⟨false, 1, 0, xs, 9⟩, some ⟨false, 1, 0, ys, 9⟩]) ((0, (tk.map fun s => .d (.str s)))) (by (try dsimp only); exact ⟨Nat.zero_le _, by simp⟩) (by simp <;> omega) (by simp) (by simp) ?_
    intro ⟨m, ys⟩ u w hI ih
    try simp only at hI ih
    obtain ⟨i3, i4⟩ := hI
    by_cases hm : m < tk.length
    ·have hm' : (m : Int) < tk.length := by omega
     have hR4 : inR (m : Int) tk.length = true := inR_of (by omega) (by omega)
     have hI4 : inI ((m : Int) + 1) = true := inI_of (by omega) (by omega)
     obtain ⟨y, hy⟩ : ∃ y, ys[m]? = some y := ⟨_, List.getElem?_eq_getElem (by omega)⟩
     simp [TB, hm, hm', hR4, hI4, i4]
     refine ih ((m + 1, ys.set m (.d (.str ⟨#[63]⟩)))) (by first | ((try dsimp only); omega) | (simp [hm, hm', hR4, hI4, i4, hy, hi', hII] <;> omega)) (by (try dsimp only); exact ⟨hm, by simpa using i4⟩) _ _ _ (by simp <;> omega) (by simp <;> omega) (by simp <;> omega)
    have hm' : ¬ (m : Int) < tk.length := by omega
    simp [TB, hm', hII, i4]
    refine ih0 (i + 1) (by first | ((try dsimp only); omega) | (simp [hm', hi', hII, i4] <;> omega)) (by (try dsimp only); exact hi) _ _ _ (by simp <;> omega) (by simp <;> omega) (by simp <;> omega)
 ·have hi' : ¬ (i : Int) < 2 := by omega
  simp [TB, hi']
  refine ATT.callD Tryz.func5 60 (f13_ok) ?_ ?_ ?_ ?_
  iterate 3 · simp
  simp
  refine ATT.fin2 hQ Tryz.func5 ?_
  simp
  all_goals (first | omega | exact ⟨_, rfl⟩ | skip)
end Go.SL
namespace Go.Proofs.YthjflehiokjiaaaGreatDoor
open Go.ChangeShapes Go.WideShapes Go.ChangeAt Go.RowKit Go.ChangeMaps
namespace kernelNames
theorem own : ownKnob Tryz.prog.godebug = none := by kernel_rfl
theorem names (W : World) (h : laidMetH Tryz.prog Rows.kernelNamesUptoRow.laid W) : SL.Gs W := by
 rw [MakeChecks.laidMetH_plain _ _ _ (by kernel_rfl)] at h
 obtain ⟨ps, hv, _⟩ := h
 have hv : DataW.LaidVars Tryz.prog W [("unicode/utf8.acceptRanges", Rows.laid_unicode_utf8_acceptRanges), ("lapidary/kernel.name", Rows.laid_lapidary_kernel_name), ("unicode/utf8.first", Rows.laid_unicode_utf8_first)] ps := hv
 obtain ⟨_, _, _, _, _, q, _, _, _, _, hv, _⟩ := hv
 obtain ⟨g, t, cs, fuel, p, _, hg, ht, hcs, hx, _⟩ := hv
 have eg : g = 0 := Option.some.inj ((show Tryz.prog.globalNamed "lapidary/kernel.name" = some 0 by kernel_rfl).symm.trans hg) |>.symm
 subst eg
 have et : t = 79 := Option.some.inj ((show (Tryz.prog.globals[0]?).map (·.type) = some 79 by kernel_rfl).symm.trans ht) |>.symm
 subst et
 have hw : ∃ ty fz, W.heap[0]? = some (.cells cs ty fz) := by
  unfold World.var? at hcs
  rw [hg] at hcs
  simp only [Option.bind_some] at hcs
  split at hcs
  ·rename_i c ty fz hh
   simp only [Option.some.injEq] at hcs
   subst hcs
   exact ⟨ty, fz, hh⟩
  ·simp at hcs
 obtain ⟨ty, fz, hw⟩ := hw
 have hx : DataW.trod (fun _ => ()) Tryz.prog W 0 (fun _ => true) false fuel 79 cs.toList = some (.agg (SL.nameK.map fun s => .lit (.string s.data.toList)), p) := hx
 have hc := SL.strs_cells Tryz.underlying79 Tryz.underlying9 (by kernel_rfl) hx
 intro pr hpr
 have e : pr = (0, SL.nameK.map .str) := by simpa [SL.gcells, SL.nameK] using hpr
 subst e
 refine SL.dc_strs _ _ fun i hi => ?_
 have := hc i hi
 rw [Nat.zero_add]
 unfold World.cell?
 rw [hw]
 simpa using this
set_option maxRecDepth 100000 in
theorem contract (law : ∀ (c : Int) (s : ByteArray), SL.inI c = true → SL.DF Tryz.prog 5 [.int .i64 c, .str s] (.bool true)) (H : Type) (enc : TypeId × Value → H) (W : World) (base : Nat) (args : Array Value) (ds gs : List (DataW H)) (before : List MemPlace)
  (hval : ∀ (j : Nat) t v, Tryz.f5.params[j]? = some t → args[j]? = some v → Value.okWide Tryz.prog W .any base t v)
  (hW : DataW.Whole enc Tryz.prog Tryz.f5.params.toList Rows.kernelNamesSpec.vars false W args.toList ds gs before) (hG : SL.Gs W) (hsh : W.ShapedOpen Tryz.prog) :
  Calls Tryz.prog 5 args W fun e W' => ∃ v, e = .returned v ∧ Rows.kernelNamesSpec.post enc Tryz.prog Tryz.f5 false true false false W args v W' := by
 have hW' := hW
 obtain ⟨p, q, hA0, hV, rfl, hfz, hnd⟩ := hW
 have hA : DataW.TrodAll enc Tryz.prog W 0 (fun _ => true) true Tryz.f5.params.toList args.toList ds p := hA0
 rw [Tryz.params5] at hA hval
 obtain ⟨v0, vs0, d0, ds0, p0, q0, hargs, rfl, rfl, h0, r0⟩ := trodAll_cons hA
 obtain ⟨v1, vs1, d1, ds1, p1, q1, rfl, rfl, rfl, h1, r1⟩ := trodAll_cons r0
 obtain ⟨rfl, rfl, rfl⟩ := trodAll_nil r1
 obtain rfl : args = #[v0, v1] := by cases args; simp_all
 obtain ⟨rfl, rfl⟩ := trodVars_none hV
 have hmx : SL.Mx W := SL.Mx.of (t := 3) hsh (of_decide_eq_true (by kernel_rfl)) (zero := #[.int .i64 0]) (by kernel_rfl) rfl (by kernel_rfl) (by kernel_rfl) Tryz.underlying3
 obtain ⟨c, rfl, rfl, rfl, hs0⟩ := open_int Tryz.underlying2 (hval 0 2 v0 (by simp) (by simp)) h0
 obtain ⟨s, rfl, rfl, rfl, hs1⟩ := open_string Tryz.underlying9 (hval 1 9 v1 (by simp) (by simp)) h1
 clear hA0
 have hb0 : SL.inI c = true := by
  simp [Lit.wf] at hs0
  simp [SL.inI]
  exact ⟨hs0.1, hs0.2⟩
 refine ((law c s hb0).world hmx hG (argv := [.int .i64 c, .string s]) (by simp [SL.VL, SL.VR, SL.DR])).mono fun e W' ⟨he, hB⟩ => ?_
 subst he
 simp only [List.append_nil] at hW'
 exact ⟨_, rfl, SL.post_kept (pa := []) (pv := []) hW' (fun _ _ _ => trodAll_cons_mk (SL.shut_boolP Tryz.underlying4 _) trodAll_mk0) (fun _ _ => trodAll_cons_mk (shut_int Tryz.underlying2 hs0) (trodAll_cons_mk (SL.shut_stringP Tryz.underlying9 hs1) trodAll_mk0)) (fun _ _ => rfl) (by simp) hB (ok_one (by kernel_rfl) rfl (okWide_bool_mk Tryz.underlying4 _))⟩
theorem laid_met (os : Os) : laidMetH Tryz.prog Rows.kernelNamesUptoRow.laid ((World.laidAll Tryz.prog os Rows.kernelNamesUptoRow.laid).forCall (fun _ _ => 0) ⟨#[], #[.int .i64 0, .string ⟨#[]⟩], []⟩).memory := by
 rw [MakeChecks.laidMetH_plain _ _ _ (by kernel_rfl)]
 exact laidMet_laidAll _ (by kernel_rfl) (by kernel_rfl)
theorem reads (os : Os) {H : Type} (enc : TypeId × Value → H) : ∃ places, DataW.whole enc Tryz.prog ((World.laidAll Tryz.prog os Rows.kernelNamesUptoRow.laid).forCall (fun _ _ => 0) ⟨#[], #[.int .i64 0, .string ⟨#[]⟩], []⟩).memory Tryz.f5.params.toList Rows.kernelNamesSpec.vars false #[Value.int .i64 0, Value.string ⟨#[]⟩].toList 8 = some ([.lit (.int .i64 0), .lit (.string [])], [], places) :=
 ⟨[], by kernel_rfl⟩
set_option maxRecDepth 100000 in
theorem lifted (law : ∀ (c : Int) (s : ByteArray), SL.inI c = true → SL.DF Tryz.prog 5 [.int .i64 c, .str s] (.bool true)) (os : Os) (started : os.Started) (H : Type) (enc : TypeId × Value → H) (F : Stop.Interp) :
  ReturnsInHanded {} Tryz.checked os 5 .any ((Rows.OpenSpec.upto Rows.kernelNamesSpec).preRow enc Tryz.prog Tryz.f5 Rows.kernelNamesUptoRow.domain false Rows.kernelNamesUptoRow.laid) (((Rows.OpenSpec.upto Rows.kernelNamesSpec).at F).post enc Tryz.prog Tryz.f5 false true false false) := by
 obtain ⟨places, hx⟩ := reads os enc
 refine returnsInHanded_of_row (C := Tryz.checked) (s := Rows.OpenSpec.upto Rows.kernelNamesSpec) own started (by kernel_rfl) Tryz.func5
  (witness_row_at (enc := enc) (C := Tryz.checked) false (World.laidAll Tryz.prog os Rows.kernelNamesUptoRow.laid) #[.int .i64 0, .string ⟨#[]⟩] (World.laidAll_os _ _ _) (by kernel_rfl) (by kernel_rfl) (by kernel_rfl)
   (OpenSpec.preRow_of_cond 8 hx (by kernel_rfl) (fun k hk => by cases hk; kernel_rfl) (by kernel_rfl) (laid_met os))) ?_
 intro W base args ds gs before hval hW _ _ _ hlaid hsh _
 exact contract law H enc W base args ds gs before hval hW (names W hlaid) hsh
theorem saidUpto (law : ∀ (c : Int) (s : ByteArray), SL.inI c = true → SL.DF Tryz.prog 5 [.int .i64 c, .str s] (.bool true)) : Rows.KernelNamesUptoSaid :=
 OpenClaim.holds_of_cond 5 Tryz.f5 rfl rfl rfl rfl rfl rfl rfl ⟨rfl, rfl, rfl, rfl, rfl⟩ rfl rfl rfl rfl rfl (by kernel_rfl) Tryz.func5 (by kernel_rfl)
  (of_decide_eq_true (by kernel_rfl)) (by unfold Func.isWrapper; first | (rw [if_pos (by decide +kernel)]; kernel_rfl) | (rw [if_neg (by decide +kernel)]; exact ⟨rfl, rfl⟩))
  (fun os started H enc _ F => by rw [OpenClaim.pre_eq_preRow]; exact lifted law os started H enc F)
theorem plain (f : FuncId) (fn : Func) (hf : Tryz.pinned.checked.prog.funcNamed "lapidary/lapidarylaw14.KernelNames" = some f) (hfn : Tryz.pinned.checked.prog.funcs[f]? = some fn) :
  true = Tryz.pinned.checked.prog.looks [] ∧ ∀ (j : Nat) t, fn.params[j]? = some t → Tryz.pinned.checked.prog.wantsStandIn t = false := by
 obtain rfl : f = 5 := Option.some.inj ((show Tryz.prog.funcNamed "lapidary/lapidarylaw14.KernelNames" = some 5 by kernel_rfl).symm.trans hf) |>.symm
 obtain rfl : fn = Tryz.f5 := (Option.some.inj (Tryz.func5.symm.trans hfn)).symm
 refine ⟨by kernel_rfl, fun j t ht => ?_⟩
 rw [Tryz.params5] at ht
 obtain rfl | rfl : t = 2 ∨ t = 9 := by simpa using Array.mem_of_getElem? ht
 ·exact (show Tryz.prog.wantsStandIn 2 = false by kernel_rfl)
 ·exact (show Tryz.prog.wantsStandIn 9 = false by kernel_rfl)
theorem cardUpto (law : ∀ (c : Int) (s : ByteArray), SL.inI c = true → SL.DF Tryz.prog 5 [.int .i64 c, .str s] (.bool true)) : Rows.KernelNamesUptoCardSaid :=
 Claim7.holds_tied_plain_at .later [] _ _ _ _ (saidUpto law) (fun _ h => by cases h) (by kernel_rfl) (fun _ h => by cases h) kernelNamesUpto_row_tie rfl ⟨rfl, rfl⟩ (by kernel_rfl) rfl plain (by kernel_rfl)
end kernelNames
theorem kernelNames_holds : Rows.KernelNamesUptoCardSaid := kernelNames.cardUpto fun c s _ => SL.f5_ok c s
end Go.Proofs.YthjflehiokjiaaaGreatDoor
namespace Go.SL
open Go.Proofs
set_option maxRecDepth 10000
abbrev RN (l : List ByteArray) : Option Vec := some ⟨l.isEmpty, 1, 0, l.map fun s => .d (.str s), 9⟩
def noB (s : ByteArray) : List ByteArray → Bool
 | [] => true
 | t :: r => !decide (t = s) && noB s r
def ndB : List ByteArray → Bool
 | [] => true
 | s :: r => noB s r && ndB r
theorem sel_nd : ((List.range 15).all fun c => ndB ((srcK c).map selK)) = true := by kernel_rfl
theorem noB_at {s : ByteArray} : ∀ {l : List ByteArray}, noB s l = true → ∀ t ∈ l, t ≠ s
 | x :: r, h, t, ht => by
  simp only [noB, Bool.and_eq_true, Bool.not_eq_true', decide_eq_false_iff_not] at h
  rcases List.mem_cons.1 ht with e | ht
  ·rw [e]; exact h.1
  ·exact noB_at h.2 t ht
theorem ndB_at : ∀ {l : List ByteArray}, ndB l = true → ∀ (i j : Nat) (a b : ByteArray), j < i → l[i]? = some a → l[j]? = some b → b ≠ a
 | x :: r, h, i + 1, 0, a, b, _, ha, hb => by
  simp only [ndB, Bool.and_eq_true] at h
  simp only [List.getElem?_cons_zero, Option.some.injEq] at hb
  subst hb
  exact fun e => noB_at h.1 a (List.mem_of_getElem? (by simpa using ha)) e.symm
 | x :: r, h, i + 1, j + 1, a, b, hij, ha, hb => by
  simp only [ndB, Bool.and_eq_true] at h
  exact ndB_at h.2 i j a b (by omega) (by simpa using ha) (by simpa using hb)
theorem sel_ne {k i j : Nat} {s t : ByteArray} (hij : j < i) (hs : (srcK k)[i]? = some s) (ht : (srcK k)[j]? = some t) : selK t ≠ selK s := by
 by_cases hk : k < 15
 ·exact ndB_at (List.all_eq_true.1 sel_nd k (List.mem_range.2 hk)) i j _ _ hij (by simp [hs]) (by simp [ht])
 ·have : srcK k = [] := by unfold srcK; split <;> first | rfl | omega
  rw [this] at hs; simp at hs
theorem src_out {k : Nat} (h : ¬ k < 15) : srcK k = [] := by unfold srcK; split <;> first | rfl | omega
set_option maxHeartbeats 1000000 in
theorem f4_ok (c : Int) : DF Tryz.prog 4 [.int .i64 c] (.bool true) := by
 obtain ⟨k, hk⟩ : ∃ k : Nat, c = k ∨ (k = 0 ∧ (c < 0 ∨ 14 < c)) := by
  by_cases h : 0 ≤ c
  ·exact ⟨c.toNat, .inl (by omega)⟩
  ·exact ⟨0, .inr ⟨rfl, by omega⟩⟩
 have hS := f14_ok c k hk
 have hR := f16_ok c k hk
 have g1 := src_len k
 by_cases h1 : srcK k = []
 ·simp only [rowV, rowC, h1, if_true] at hS hR
  refine AF.go Tryz.func4 [(12, [oD 7 []])] fun tb TB Q hQ => ?_
  simp [TB]
  refine ATT.callV Tryz.func4 60 [] [] (hS) ?_ ?_ ?_ ?_ ?_ ?_ ?_ ?_
  iterate 7 · simp
  simp [TB]
  refine ATT.loopG 60 rfl (fun (i : Nat) => 0) (fun (i : Nat) => i ≤ 0) (fun (i : Nat) => [(0, .d (.int .i64 c)), (3, .d (.sl true 0 [])), (4, .d (.sl true 0 [])), (5, .d (.int .i64 0))]) (fun (i : Nat) => []) (fun (i : Nat) => []) (0) (by (try dsimp only); exact Nat.le_refl _) (by simp <;> omega) (by simp) (by simp) ?_
  intro i u w hI ih
  try simp only at hI ih
  simp [TB]
  refine ATT.callV Tryz.func4 60 [] [] (hR) ?_ ?_ ?_ ?_ ?_ ?_ ?_ ?_
  iterate 7 · simp
  simp
  refine ATT.callD Tryz.func4 60 (f13_ok) ?_ ?_ ?_ ?_
  iterate 3 · simp
  simp
  refine ATT.fin2 hQ Tryz.func4 ?_
  simp
  all_goals (first | omega | exact ⟨_, rfl⟩ | skip)
 ·have hk15 : k < 15 := Classical.byContradiction fun h => h1 (src_out h)
  have sne : ∀ {i j : Nat} {s t : ByteArray}, j < i → (srcK k)[i]? = some s → (srcK k)[j]? = some t → selK t ≠ selK s := fun h1 h2 h3 => sel_ne h1 h2 h3
  have smd : ∀ {i : Nat} {s : ByteArray}, (srcK k)[i]? = some s → s ∈ allK := fun h => src_mem (by omega) h
  simp only [rowV, rowC, if_neg h1] at hS hR
  generalize srcK k = sk at *
  refine AF.go Tryz.func4 [(12, [oD 7 []])] fun tb TB Q hQ => ?_
  simp [TB]
  refine ATT.callV Tryz.func4 60 [] [] (hS) ?_ ?_ ?_ ?_ ?_ ?_ ?_ ?_
  iterate 7 · simp
  simp [TB]
  refine ATT.nilE 4 1 9 rfl (by decide) (by simp) ?_
  simp
  refine ATT.loopG 60 rfl (fun (i : Nat) => sk.length - i) (fun (i : Nat) => i ≤ sk.length) (fun (i : Nat) => [(0, .d (.int .i64 c)), (3, .vs 0 sk.length 0 sk.length), (4, .vs 1 i 0 i), (5, .d (.int .i64 i))]) (fun (i : Nat) => []) (fun (i : Nat) => [RS sk, RN ((sk.take i).map selK)]) (0) (by (try dsimp only); exact Nat.zero_le _) (by simp <;> omega) (by simp) (by simp) ?_
  intro i u w hI ih
  try simp only at hI ih
  by_cases hi : i < sk.length
  ·obtain ⟨s, hs1⟩ : ∃ s, sk[i]? = some s := ⟨_, List.getElem?_eq_getElem hi⟩
   have hsE : ∀ h, sk[i]'h = s := fun h => by rw [List.getElem?_eq_getElem h] at hs1; simpa using hs1
   obtain ⟨x, hx⟩ := made (smd hs1)
   have hM := f15_ok hWhole s (src_small (smd hs1)) (sl := []) (by simp) (snl := true) (sz := 0) (fun _ => rfl) (fun h => by simp at h)
   rw [hx] at hM
   have hi' : (i : Int) < sk.length := by omega
   have hR1 : inR (i : Int) sk.length = true := inR_of (by omega) (by omega)
   have hI4 : inI ((i : Int) + 1) = true := inI_of (by omega) (by omega)
   have hT : sk.take (i + 1) = sk.take i ++ [s] := by rw [List.take_add_one, hs1]; rfl
   have hTl : (sk.take i).length = i := by simp; omega
   have hm4 : (i + 1) * 16 ≤ 140737488355328 := by omega
   have hmin : min i sk.length = i := by omega
   simp [TB, hi', hi, hsE, hR1]
   refine ATT.callE Tryz.func4 60 hM (by simp) (by simp) (by simp) fun v hv => ?_
   have e : v = _ := hv
   subst e
   simp [TB, cdL]
   refine ATT.loopG 60 rfl (fun (j : Nat) => i - j) (fun (j : Nat) => j ≤ i) (fun (j : Nat) => [(0, .d (.int .i64 c)), (3, .vs 0 sk.length 0 sk.length), (4, .vs 1 i 0 i), (5, .d (.int .i64 i)), (6, .ptr u.length 0), (9, .d (.int .i64 j))]) (fun (j : Nat) => u ++ [.cells ((cdL (selK s) x).map .d) 50]) (fun (j : Nat) => RS sk :: RN ((sk.take i).map selK) :: w) (0) (by (try dsimp only); exact Nat.zero_le _) (by simp <;> omega) (by simp) (by simp [cdL]) ?_
   intro j u w hI ih
   try simp only at hI ih
   rename_i u0 w0 hI0 ih0
   by_cases hj : j < i
   ·obtain ⟨t, ht⟩ : ∃ t, sk[j]? = some t := ⟨_, List.getElem?_eq_getElem (by omega)⟩
    have hne := sne hj hs1 ht
    have hj' : (j : Int) < i := by omega
    have hR2 : inR (j : Int) i = true := inR_of (by omega) (by omega)
    have hI5 : inI ((j : Int) + 1) = true := inI_of (by omega) (by omega)
    have htE : ∀ h, sk[j]'h = t := fun h => by rw [List.getElem?_eq_getElem h] at ht; simpa using ht
    have hj3 : j < sk.length := by omega
    simp [TB, cdL, hmin, hj, hj', hR2, hI5, htE, eq_false hne]
    refine ih (j + 1) (by first | ((try dsimp only); omega) | (simp [cdL, hi', hi, hsE, hR1, hI4, hm4, hmin, hj, hj', hR2, hI5, htE, hj3, eq_false hne] <;> omega)) (by (try dsimp only); exact hj) _ _ _ (by simp <;> omega) (by simp <;> omega) (by simp [cdL] <;> omega)
   ·have hj' : ¬ (j : Int) < i := by omega
    simp [TB, cdL, hI4, hm4, hmin, hj']
    refine ih0 (i + 1) (by first | ((try dsimp only); omega) | (simp [hT, hmin] <;> omega)) (by (try dsimp only); exact hi) _ _ _ (by simp <;> omega) (by simp <;> omega) (by simp [hT] <;> omega)
  ·have hi' : ¬ (i : Int) < sk.length := by omega
   have hie : i = sk.length := by omega
   subst hie
   simp [TB, hi']
   refine ATT.callV Tryz.func4 60 [] [] (hR) ?_ ?_ ?_ ?_ ?_ ?_ ?_ ?_
   iterate 7 · simp
   simp
   refine ATT.callD Tryz.func4 60 (f13_ok) ?_ ?_ ?_ ?_
   iterate 3 · simp
   simp
   refine ATT.fin2 hQ Tryz.func4 ?_
   simp
   all_goals (first | omega | exact ⟨_, rfl⟩ | skip)
end Go.SL
namespace Go.Proofs.YthjflehiokjiaaaGreatDoor
open Go.ChangeShapes Go.WideShapes Go.ChangeAt Go.RowKit Go.ChangeMaps
namespace kernelMethods
theorem own : ownKnob Tryz.prog.godebug = none := by kernel_rfl
theorem names (W : World) (h : laidMetH Tryz.prog Rows.kernelMethodsUptoRow.laid W) : SL.Gs W := by
 rw [MakeChecks.laidMetH_plain _ _ _ (by kernel_rfl)] at h
 obtain ⟨ps, hv, _⟩ := h
 have hv : DataW.LaidVars Tryz.prog W [("unicode/utf8.acceptRanges", Rows.laid_unicode_utf8_acceptRanges), ("lapidary/kernel.name", Rows.laid_lapidary_kernel_name), ("unicode/utf8.first", Rows.laid_unicode_utf8_first)] ps := hv
 obtain ⟨_, _, _, _, _, q, _, _, _, _, hv, _⟩ := hv
 obtain ⟨g, t, cs, fuel, p, _, hg, ht, hcs, hx, _⟩ := hv
 have eg : g = 0 := Option.some.inj ((show Tryz.prog.globalNamed "lapidary/kernel.name" = some 0 by kernel_rfl).symm.trans hg) |>.symm
 subst eg
 have et : t = 79 := Option.some.inj ((show (Tryz.prog.globals[0]?).map (·.type) = some 79 by kernel_rfl).symm.trans ht) |>.symm
 subst et
 have hw : ∃ ty fz, W.heap[0]? = some (.cells cs ty fz) := by
  unfold World.var? at hcs
  rw [hg] at hcs
  simp only [Option.bind_some] at hcs
  split at hcs
  ·rename_i c ty fz hh
   simp only [Option.some.injEq] at hcs
   subst hcs
   exact ⟨ty, fz, hh⟩
  ·simp at hcs
 obtain ⟨ty, fz, hw⟩ := hw
 have hx : DataW.trod (fun _ => ()) Tryz.prog W 0 (fun _ => true) false fuel 79 cs.toList = some (.agg (SL.nameK.map fun s => .lit (.string s.data.toList)), p) := hx
 have hc := SL.strs_cells Tryz.underlying79 Tryz.underlying9 (by kernel_rfl) hx
 intro pr hpr
 have e : pr = (0, SL.nameK.map .str) := by simpa [SL.gcells, SL.nameK] using hpr
 subst e
 refine SL.dc_strs _ _ fun i hi => ?_
 have := hc i hi
 rw [Nat.zero_add]
 unfold World.cell?
 rw [hw]
 simpa using this
set_option maxRecDepth 100000 in
theorem contract (law : ∀ (c : Int), SL.inI c = true → SL.DF Tryz.prog 4 [.int .i64 c] (.bool true)) (H : Type) (enc : TypeId × Value → H) (W : World) (base : Nat) (args : Array Value) (ds gs : List (DataW H)) (before : List MemPlace)
  (hval : ∀ (j : Nat) t v, Tryz.f4.params[j]? = some t → args[j]? = some v → Value.okWide Tryz.prog W .any base t v)
  (hW : DataW.Whole enc Tryz.prog Tryz.f4.params.toList Rows.kernelMethodsSpec.vars false W args.toList ds gs before) (hG : SL.Gs W) (hsh : W.ShapedOpen Tryz.prog) :
  Calls Tryz.prog 4 args W fun e W' => ∃ v, e = .returned v ∧ Rows.kernelMethodsSpec.post enc Tryz.prog Tryz.f4 false true false false W args v W' := by
 have hW' := hW
 obtain ⟨p, q, hA0, hV, rfl, hfz, hnd⟩ := hW
 have hA : DataW.TrodAll enc Tryz.prog W 0 (fun _ => true) true Tryz.f4.params.toList args.toList ds p := hA0
 rw [Tryz.params4] at hA hval
 obtain ⟨v0, vs0, d0, ds0, p0, q0, hargs, rfl, rfl, h0, r0⟩ := trodAll_cons hA
 obtain ⟨rfl, rfl, rfl⟩ := trodAll_nil r0
 obtain rfl : args = #[v0] := by cases args; simp_all
 obtain ⟨rfl, rfl⟩ := trodVars_none hV
 have hmx : SL.Mx W := SL.Mx.of (t := 3) hsh (of_decide_eq_true (by kernel_rfl)) (zero := #[.int .i64 0]) (by kernel_rfl) rfl (by kernel_rfl) (by kernel_rfl) Tryz.underlying3
 obtain ⟨c, rfl, rfl, rfl, hs0⟩ := open_int Tryz.underlying2 (hval 0 2 v0 (by simp) (by simp)) h0
 clear hA0
 have hb0 : SL.inI c = true := by
  simp [Lit.wf] at hs0
  simp [SL.inI]
  exact ⟨hs0.1, hs0.2⟩
 refine ((law c hb0).world hmx hG (argv := [.int .i64 c]) (by simp [SL.VL, SL.VR, SL.DR])).mono fun e W' ⟨he, hB⟩ => ?_
 subst he
 simp only [List.append_nil] at hW'
 exact ⟨_, rfl, SL.post_kept (pa := []) (pv := []) hW' (fun _ _ _ => trodAll_cons_mk (SL.shut_boolP Tryz.underlying4 _) trodAll_mk0) (fun _ _ => trodAll_cons_mk (shut_int Tryz.underlying2 hs0) trodAll_mk0) (fun _ _ => rfl) (by simp) hB (ok_one (by kernel_rfl) rfl (okWide_bool_mk Tryz.underlying4 _))⟩
theorem laid_met (os : Os) : laidMetH Tryz.prog Rows.kernelMethodsUptoRow.laid ((World.laidAll Tryz.prog os Rows.kernelMethodsUptoRow.laid).forCall (fun _ _ => 0) ⟨#[], #[.int .i64 0], []⟩).memory := by
 rw [MakeChecks.laidMetH_plain _ _ _ (by kernel_rfl)]
 exact laidMet_laidAll _ (by kernel_rfl) (by kernel_rfl)
theorem reads (os : Os) {H : Type} (enc : TypeId × Value → H) : ∃ places, DataW.whole enc Tryz.prog ((World.laidAll Tryz.prog os Rows.kernelMethodsUptoRow.laid).forCall (fun _ _ => 0) ⟨#[], #[.int .i64 0], []⟩).memory Tryz.f4.params.toList Rows.kernelMethodsSpec.vars false #[Value.int .i64 0].toList 8 = some ([.lit (.int .i64 0)], [], places) :=
 ⟨[], by kernel_rfl⟩
set_option maxRecDepth 100000 in
theorem lifted (law : ∀ (c : Int), SL.inI c = true → SL.DF Tryz.prog 4 [.int .i64 c] (.bool true)) (os : Os) (started : os.Started) (H : Type) (enc : TypeId × Value → H) (F : Stop.Interp) :
  ReturnsInHanded {} Tryz.checked os 4 .any ((Rows.OpenSpec.upto Rows.kernelMethodsSpec).preRow enc Tryz.prog Tryz.f4 Rows.kernelMethodsUptoRow.domain false Rows.kernelMethodsUptoRow.laid) (((Rows.OpenSpec.upto Rows.kernelMethodsSpec).at F).post enc Tryz.prog Tryz.f4 false true false false) := by
 obtain ⟨places, hx⟩ := reads os enc
 refine returnsInHanded_of_row (C := Tryz.checked) (s := Rows.OpenSpec.upto Rows.kernelMethodsSpec) own started (by kernel_rfl) Tryz.func4
  (witness_row_at (enc := enc) (C := Tryz.checked) false (World.laidAll Tryz.prog os Rows.kernelMethodsUptoRow.laid) #[.int .i64 0] (World.laidAll_os _ _ _) (by kernel_rfl) (by kernel_rfl) (by kernel_rfl)
   (OpenSpec.preRow_of_cond 8 hx (by kernel_rfl) (fun k hk => by cases hk; kernel_rfl) (by kernel_rfl) (laid_met os))) ?_
 intro W base args ds gs before hval hW _ _ _ hlaid hsh _
 exact contract law H enc W base args ds gs before hval hW (names W hlaid) hsh
theorem saidUpto (law : ∀ (c : Int), SL.inI c = true → SL.DF Tryz.prog 4 [.int .i64 c] (.bool true)) : Rows.KernelMethodsUptoSaid :=
 OpenClaim.holds_of_cond 4 Tryz.f4 rfl rfl rfl rfl rfl rfl rfl ⟨rfl, rfl, rfl, rfl, rfl⟩ rfl rfl rfl rfl rfl (by kernel_rfl) Tryz.func4 (by kernel_rfl)
  (of_decide_eq_true (by kernel_rfl)) (by unfold Func.isWrapper; first | (rw [if_pos (by decide +kernel)]; kernel_rfl) | (rw [if_neg (by decide +kernel)]; exact ⟨rfl, rfl⟩))
  (fun os started H enc _ F => by rw [OpenClaim.pre_eq_preRow]; exact lifted law os started H enc F)
theorem plain (f : FuncId) (fn : Func) (hf : Tryz.pinned.checked.prog.funcNamed "lapidary/lapidarylaw14.KernelMethods" = some f) (hfn : Tryz.pinned.checked.prog.funcs[f]? = some fn) :
  true = Tryz.pinned.checked.prog.looks [] ∧ ∀ (j : Nat) t, fn.params[j]? = some t → Tryz.pinned.checked.prog.wantsStandIn t = false := by
 obtain rfl : f = 4 := Option.some.inj ((show Tryz.prog.funcNamed "lapidary/lapidarylaw14.KernelMethods" = some 4 by kernel_rfl).symm.trans hf) |>.symm
 obtain rfl : fn = Tryz.f4 := (Option.some.inj (Tryz.func4.symm.trans hfn)).symm
 refine ⟨by kernel_rfl, fun j t ht => ?_⟩
 rw [Tryz.params4] at ht
 obtain rfl : t = 2 := by simpa using Array.mem_of_getElem? ht
 exact (show Tryz.prog.wantsStandIn 2 = false by kernel_rfl)
theorem cardUpto (law : ∀ (c : Int), SL.inI c = true → SL.DF Tryz.prog 4 [.int .i64 c] (.bool true)) : Rows.KernelMethodsUptoCardSaid :=
 Claim7.holds_tied_plain_at .later [] _ _ _ _ (saidUpto law) (fun _ h => by cases h) (by kernel_rfl) (fun _ h => by cases h) kernelMethodsUpto_row_tie rfl ⟨rfl, rfl⟩ (by kernel_rfl) rfl plain (by kernel_rfl)
end kernelMethods
theorem kernelMethods_holds : Rows.KernelMethodsUptoCardSaid := kernelMethods.cardUpto fun c _ => SL.f4_ok c
end Go.Proofs.YthjflehiokjiaaaGreatDoor
