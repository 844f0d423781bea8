/- CodeOnce: each literal, global and selector of any source's steps stands once, and is needed by some step; each block but the first one by one: for every source and every list of slots' names of bulk at most 1048576. -/
import Derived.Test.YtbkdobainphhdaaGreatDoorOnce4
import Derived.Test.YtbkdobainphhdaaGreatDoorCards
import Derived.Test.YtbkdobainphhdaaGreatDoorTie
import Derived.ProofKit
import Derived.OpenShut
import Derived.LaidMore
import Derived.Lay
import Derived.OpenShut
import Derived.Deep.DeepHandedRow
namespace Go.SL
def Once (l : List ByteArray) : Prop := ∀ (i k : Nat) (y : ByteArray), l[i]? = some y → l[k]? = some y → i = k
def uB (op ot a : Nat) (y : Nat × Nat × Nat) : Bool := decide (y.2.1 = a) && (decide (y.1 = op) || decide (y.1 = ot))
def usI (op ot a : Nat) (l : List (Nat × Nat × Nat)) : Bool := l.any (uB op ot a)
def usC (op ot a : Nat) (l : List CU) : Bool := l.any fun x => usI op ot a x.ins
def blI (l : List (Nat × Nat × Nat)) : Nat := l.countP fun y => decide (y.1 = 10)
def blC (l : List CU) : Nat := (l.map fun x => blI x.ins).sum
theorem idxS_some {t : ByteArray} : ∀ {l : List ByteArray} {k i : Nat}, idxS t l k = some i → ∃ j, i = k + j ∧ l[j]? = some t
 | [], k, i, h => by simp [idxS] at h
 | x :: r, k, i, h => by
  simp only [idxS] at h
  split at h
  ·rename_i e
   simp only [Option.some.injEq] at h
   exact ⟨0, h.symm, by rw [← e]; rfl⟩
  ·obtain ⟨j, e, hj⟩ := idxS_some h
   exact ⟨j + 1, by omega, by simpa using hj⟩
theorem idxS_none {t : ByteArray} : ∀ {l : List ByteArray} {k : Nat}, idxS t l k = none → ∀ i : Nat, l[i]? ≠ some t
 | [], k, h, i => by simp
 | x :: r, k, h, i => by
  simp only [idxS] at h
  split at h
  ·simp at h
  ·rename_i e
   cases i with
   | zero => simpa using e
   | succ i => simpa using idxS_none h i
theorem onceS_spec {l : List ByteArray} (h : Once l) (t : ByteArray) : Once (onceS l t).1 ∧ (onceS l t).1[(onceS l t).2]? = some t ∧ (∃ r, (onceS l t).1 = l ++ r) ∧ ∀ a, a < (onceS l t).1.length → a < l.length ∨ a = (onceS l t).2 := by
 unfold onceS
 split
 ·rename_i k hk
  obtain ⟨j, e, hj⟩ := idxS_some hk
  simp only at e ⊢
  exact ⟨h, by rw [e, Nat.zero_add]; exact hj, ⟨[], by simp⟩, fun a ha => .inl ha⟩
 ·rename_i hn
  have hn := idxS_none hn
  simp only
  refine ⟨fun i k y hi hk => ?_, by simp, ⟨[t], rfl⟩, fun a ha => by simp at ha; omega⟩
  have key : ∀ (i : Nat) (y : ByteArray), (l ++ [t])[i]? = some y → l[i]? = some y ∨ (i = l.length ∧ y = t) := fun i y hi => by
   rcases Nat.lt_or_ge i l.length with g | g
   ·rw [List.getElem?_append_left g] at hi; exact .inl hi
   ·rw [List.getElem?_append_right g] at hi
    cases hq : i - l.length with
    | zero => rw [hq] at hi; simp at hi; exact .inr ⟨by omega, hi.symm⟩
    | succ q => rw [hq] at hi; simp at hi
  rcases key i y hi with a | ⟨a, b⟩ <;> rcases key k y hk with a' | ⟨a', b'⟩
  ·exact h i k y a a'
  ·subst b'; exact absurd a (hn i)
  ·subst b; exact absurd a' (hn k)
  ·omega
theorem usC_mono {op ot a u : Nat} {x : Nat × Nat × Nat} : ∀ {l : List CU} {u : Nat}, usC op ot a l = true → usC op ot a (l.modify u (addU x)) = true
 | [], u, h => by simp [usC] at h
 | y :: r, 0, h => by
  simp only [usC, usI, List.any_cons, Bool.or_eq_true, List.modify_zero_cons, addU, List.any_append] at h ⊢
  rcases h with h | h
  ·exact .inl (.inl h)
  ·exact .inr h
 | y :: r, u + 1, h => by
  simp only [usC, List.any_cons, Bool.or_eq_true, List.modify_succ_cons] at h ⊢
  rcases h with h | h
  ·exact .inl h
  ·exact .inr (usC_mono (u := u) h)
theorem usC_new {op ot : Nat} {x : Nat × Nat × Nat} (hx : x.1 = op ∨ x.1 = ot) : ∀ {l : List CU} {u : Nat}, u < l.length → usC op ot x.2.1 (l.modify u (addU x)) = true
 | [], u, h => by simp at h
 | y :: r, 0, h => by
  simp only [usC, usI, List.any_cons, List.modify_zero_cons, addU, List.any_append, uB, List.any_nil]
  simp [hx]
 | y :: r, u + 1, h => by
  simp only [usC, List.any_cons, List.modify_succ_cons, Bool.or_eq_true]
  exact .inr (usC_new hx (by simpa using h))
theorem blC_add {x : Nat × Nat × Nat} : ∀ {l : List CU} {u : Nat}, u < l.length → blC (l.modify u (addU x)) = blC l + (if x.1 = 10 then 1 else 0)
 | [], u, h => by simp at h
 | y :: r, 0, h => by
  simp only [blC, blI, List.modify_zero_cons, addU, List.map_cons, List.sum_cons, List.countP_append, List.countP_cons, List.countP_nil, decide_eq_true_eq]
  omega
 | y :: r, u + 1, h => by
  have := blC_add (x := x) (l := r) (u := u) (by simpa using h)
  simp only [blC, List.modify_succ_cons, List.map_cons, List.sum_cons] at this ⊢
  omega
structure I1 (c : CM) : Prop where
 l1 : Once c.lits
 n1 : Once c.names
 s1 : Once c.sels
 lu : ∀ a, a < c.lits.length → usC 0 0 a c.us = true
 nu : ∀ a, a < c.names.length → usC 5 5 a c.us = true
 su : ∀ a, a < c.sels.length → usC 8 9 a c.us = true
 b : blC c.us + 1 = c.us.length
theorem I1.add {c : CM} (h : I1 c) {u : Nat} (hu : u < c.us.length) {x : Nat × Nat × Nat} (hx : x.1 ≠ 10) : I1 (addS u x c) :=
 ⟨h.l1, h.n1, h.s1, fun a ha => usC_mono (u := u) (h.lu a ha), fun a ha => usC_mono (u := u) (h.nu a ha), fun a ha => usC_mono (u := u) (h.su a ha), by
  have := h.b
  simp only [addS, List.length_modify]
  rw [blC_add hu, if_neg hx]; exact this⟩
theorem I1.lit {c : CM} (h : I1 c) {u : Nat} (hu : u < c.us.length) (t : ByteArray) : I1 (litS u t c) := by
 have hs := onceS_spec h.l1 t
 have h2 := I1.add h hu (x := (0, (onceS c.lits t).2, 0)) (by simp)
 exact ⟨hs.1, h2.n1, h2.s1, fun a ha => by
  rcases hs.2.2.2 a ha with g | g
  ·exact h2.lu a g
  ·subst g; exact usC_new (x := (0, (onceS c.lits t).2, 0)) (.inl rfl) hu, h2.nu, h2.su, h2.b⟩
theorem I1.name {c : CM} (h : I1 c) {u : Nat} (hu : u < c.us.length) (t : ByteArray) : I1 (addS u (5, (onceS c.names t).2, 0) { c with names := (onceS c.names t).1 }) := by
 have hs := onceS_spec h.n1 t
 have h2 := I1.add h hu (x := (5, (onceS c.names t).2, 0)) (by simp)
 exact ⟨h2.l1, hs.1, h2.s1, h2.lu, fun a ha => by
  rcases hs.2.2.2 a ha with g | g
  ·exact h2.nu a g
  ·subst g; exact usC_new (x := (5, (onceS c.names t).2, 0)) (.inl rfl) hu, h2.su, h2.b⟩
theorem I1.send {c : CM} (h : I1 c) {u : Nat} (hu : u < c.us.length) (sp : Bool) (t : ByteArray) (n : Nat) : I1 (sendC u sp t n c) := by
 have hs := onceS_spec h.s1 t
 have hop : (if sp = true then 9 else 8) = 8 ∨ (if sp = true then 9 else 8) = 9 := by cases sp <;> simp
 have h2 := I1.add h hu (x := (if sp then 9 else 8, (onceS c.sels t).2, n)) (by cases sp <;> simp)
 exact ⟨h2.l1, h2.n1, hs.1, h2.lu, h2.nu, fun a ha => by
  rcases hs.2.2.2 a ha with g | g
  ·exact h2.su a g
  ·subst g; exact usC_new (x := (if sp then 9 else 8, (onceS c.sels t).2, n)) hop hu, h2.b⟩
theorem usC_app {op ot a : Nat} {l m : List CU} (h : usC op ot a l = true) : usC op ot a (l ++ m) = true := by
 simp only [usC, List.any_append, Bool.or_eq_true] at h ⊢; exact .inl h
theorem clo_once (n : Nat) (Q : ByteArray → Nat → Prop) : Clo n Q fun sh c => sh.length = c.us.length ∧ I1 c := by
 have L : ∀ {sh : Sh} {c c' : CM} {u : Nat} {a : Option Nat}, sh.length = c.us.length → c'.us.length = c.us.length → (up sh u a 0).length = c'.us.length := fun h e => by simp [up, h, e]
 have la : ∀ (u : Nat) (x : Nat × Nat × Nat) (c : CM), (addS u x c).us.length = c.us.length := fun u x c => by simp [addS]
 constructor
 case len => exact fun h => h.1
 case lit => exact fun t h hd => ⟨L h.1 (la _ _ _), h.2.lit (by rw [← h.1]; exact at_len hd) t⟩
 case use =>
  intro sh c u d x _ h hd
  have hu : u < c.us.length := by rw [← h.1]; exact at_len hd
  unfold useS
  split
  ·exact ⟨L h.1 (la _ _ _), h.2.add hu (by simp)⟩
  split
  ·exact ⟨L h.1 (la _ _ _), h.2.add hu (by simp)⟩
  split
  ·exact ⟨L h.1 (la _ _ _), h.2.add hu (by simp)⟩
  split
  ·exact ⟨L h.1 (la _ _ _), h.2.name hu x.t⟩
  ·exact ⟨L h.1 (la _ _ _), h.2.add hu (by simp)⟩
 case set =>
  intro sh c u d x _ _ h hd
  have hu : u < c.us.length := by rw [← h.1]; exact at_len hd
  unfold setS
  split
  ·exact ⟨L h.1 (la _ _ _), h.2.add hu (by simp)⟩
  ·exact ⟨L h.1 (la _ _ _), h.2.add hu (by simp)⟩
 case send => exact fun sp _ h hd => ⟨L h.1 (la _ _ _), h.2.send (by rw [← h.1]; exact at_len hd) sp _ _⟩
 case dup => exact fun h hd => ⟨L h.1 (la _ _ _), h.2.add (by rw [← h.1]; exact at_len hd) (by decide)⟩
 case pop => exact fun h hd => ⟨L h.1 (la _ _ _), h.2.add (by rw [← h.1]; exact at_len hd) (by decide)⟩
 case self => exact fun h hd => ⟨L h.1 (la _ _ _), h.2.add (by rw [← h.1]; exact at_len hd) (by decide)⟩
 case nul => exact fun h hd => ⟨L h.1 (la _ _ _), h.2.add (by rw [← h.1]; exact at_len hd) (by decide)⟩
 case fin => exact fun h hd => ⟨L h.1 (la _ _ _), h.2.add (by rw [← h.1]; exact at_len hd) (by decide)⟩
 case ret => exact fun h hd => ⟨L h.1 (la _ _ _), h.2.add (by rw [← h.1]; exact at_len hd) (by decide)⟩
 case blk =>
  intro sh c u d a b _ h hd
  have hu : u < c.us.length := by rw [← h.1]; exact at_len hd
  refine ⟨by simp [up, newU, addS, h.1], h.2.l1, h.2.n1, h.2.s1, fun a ha => usC_app (usC_mono (u := u) (h.2.lu a ha)), fun a ha => usC_app (usC_mono (u := u) (h.2.nu a ha)), fun a ha => usC_app (usC_mono (u := u) (h.2.su a ha)), ?_⟩
  have hb := h.2.b
  have := blC_add (x := (10, c.us.length, 0)) hu
  rw [if_pos rfl] at this
  simp only [newU, addS, List.length_append, List.length_modify, List.length_singleton]
  have e : blC (c.us.modify u (addU (10, c.us.length, 0)) ++ [⟨a, b, []⟩]) = blC (c.us.modify u (addU (10, c.us.length, 0))) := by simp [blC, blI]
  rw [e, this]; omega
theorem once_new (n : Nat) (m : Nat) : I1 (newU n m ⟨[], [], [], []⟩) :=
 ⟨fun i k y h => by simp [newU] at h, fun i k y h => by simp [newU] at h, fun i k y h => by simp [newU] at h, fun a h => by simp [newU] at h, fun a h => by simp [newU] at h, fun a h => by simp [newU] at h, by simp [newU, blC, blI]⟩
def stepN (y : Nat × Nat × Nat) (n : Nat) : Option Nat :=
 if y.1 = 0 ∨ y.1 = 1 ∨ y.1 = 3 ∨ y.1 = 5 ∨ y.1 = 6 ∨ y.1 = 7 ∨ y.1 = 10 then some (n + 1)
 else if y.1 = 2 ∨ y.1 = 4 then (if 1 ≤ n then some n else none)
 else if y.1 = 8 ∨ y.1 = 9 then (if y.2.2 + 1 ≤ n then some (n - y.2.2) else none)
 else if y.1 = 11 then (if 1 ≤ n then some (n + 1) else none)
 else if y.1 = 12 ∨ y.1 = 13 ∨ y.1 = 14 then (if 1 ≤ n then some (n - 1) else none)
 else none
def runN : List (Nat × Nat × Nat) → Nat → Option Nat
 | [], n => some n
 | y :: r, n => (stepN y n).bind (runN r)
theorem runN_app : ∀ (l m : List (Nat × Nat × Nat)) (n : Nat), runN (l ++ m) n = (runN l n).bind (runN m)
 | [], m, n => rfl
 | y :: r, m, n => by
  simp only [List.cons_append, runN]
  cases stepN y n with
  | none => rfl
  | some k => exact runN_app r m k
section
variable (A : ByteArray → Nat → Prop) (slots : Nat)
def okS (c : CM) (y : Nat × Nat × Nat) : Prop :=
 (y.1 = 0 → y.2.1 < c.lits.length) ∧ (y.1 = 3 ∨ y.1 = 4 → y.2.1 < slots) ∧ (y.1 = 5 → y.2.1 < c.names.length) ∧ (y.1 = 7 → y.2.1 < 3) ∧
 (y.1 = 8 ∨ y.1 = 9 → ∃ t, c.sels[y.2.1]? = some t ∧ A t y.2.2) ∧ (y.1 = 10 → y.2.1 < c.us.length)
def unOk (c : CM) (x : CU) (s : Option Nat) : Prop := x.a ≤ x.n ∧ (∀ y ∈ x.ins, okS A slots c y) ∧ match s with
 | some d => (∀ y ∈ x.ins, y.1 ≤ 12) ∧ runN x.ins 0 = some d
 | none => ∃ i z, x.ins = i ++ [z] ∧ (z.1 = 13 ∨ z.1 = 14) ∧ (∀ y ∈ i, y.1 ≤ 12) ∧ runN i 0 = some 1
def I2 (sh : Sh) (c : CM) : Prop := sh.length = c.us.length ∧ ∀ (v : Nat) (x : CU) (s : Option Nat), c.us[v]? = some x → sh[v]? = some s → unOk A slots c x s
end
section
variable {A : ByteArray → Nat → Prop} {slots : Nat}
def Ext (c c' : CM) : Prop := (∃ r, c'.lits = c.lits ++ r) ∧ (∃ r, c'.names = c.names ++ r) ∧ (∃ r, c'.sels = c.sels ++ r) ∧ c.us.length ≤ c'.us.length
theorem okS.ext {c c' : CM} (e : Ext c c') {y : Nat × Nat × Nat} (h : okS A slots c y) : okS A slots c' y := by
 obtain ⟨⟨r1, e1⟩, ⟨r2, e2⟩, ⟨r3, e3⟩, e4⟩ := e
 obtain ⟨h1, h2, h3, h4, h5, h6⟩ := h
 refine ⟨fun k => ?_, h2, fun k => ?_, h4, fun k => ?_, fun k => Nat.lt_of_lt_of_le (h6 k) e4⟩
 ·have := h1 k; rw [e1, List.length_append]; omega
 ·have := h3 k; rw [e2, List.length_append]; omega
 ·obtain ⟨t, g1, g2⟩ := h5 k
  exact ⟨t, by rw [e3, List.getElem?_append_left (List.getElem?_eq_some_iff.1 g1).1]; exact g1, g2⟩
theorem unOk.ext {c c' : CM} (e : Ext c c') {x : CU} {s : Option Nat} (h : unOk A slots c x s) : unOk A slots c' x s := ⟨h.1, fun y hy => (h.2.1 y hy).ext e, h.2.2⟩
theorem at_modify {l : List CU} {u v : Nat} {z : Nat × Nat × Nat} {x : CU} (h : (l.modify u (addU z))[v]? = some x) : (u = v ∧ ∃ x', l[v]? = some x' ∧ x = addU z x') ∨ (u ≠ v ∧ l[v]? = some x) := by
 rw [List.getElem?_modify] at h
 cases hl : l[v]? with
 | none => rw [hl] at h; simp at h
 | some x' =>
  rw [hl] at h
  simp only [Option.map_eq_map, Option.map_some, Option.some.injEq] at h
  by_cases e : u = v
  ·rw [if_pos e] at h; exact .inl ⟨e, x', rfl, h.symm⟩
  ·rw [if_neg e] at h; exact .inr ⟨e, by rw [h]⟩
theorem at_up {sh : Sh} {u v : Nat} {a s : Option Nat} (h : (up sh u a 0)[v]? = some s) : (u = v ∧ s = a) ∨ (u ≠ v ∧ sh[v]? = some s) := by
 unfold up at h
 simp only [List.replicate_zero, List.append_nil] at h
 by_cases e : u = v
 ·subst e
  have hl : u < sh.length := by
   have := (List.getElem?_eq_some_iff.1 h).1
   simpa using this
  rw [List.getElem?_set_self hl] at h
  exact .inl ⟨rfl, by simpa using h.symm⟩
 ·rw [List.getElem?_set_ne e] at h; exact .inr ⟨e, h⟩
theorem step_core {sh : Sh} {c c2 : CM} {u d : Nat} {s : Option Nat} {y : Nat × Nat × Nat} (h : I2 A slots sh c) (hd : sh[u]? = some (some d)) (he2 : Ext c c2) (hy : okS A slots c2 y)
  (hs : match s with | some d' => y.1 ≤ 12 ∧ stepN y d = some d' | none => (y.1 = 13 ∨ y.1 = 14) ∧ d = 1) {v : Nat} {x : CU} {s' : Option Nat} (hx : (c.us.modify u (addU y))[v]? = some x) (hs' : (up sh u s 0)[v]? = some s') : unOk A slots c2 x s' := by
 rcases at_modify hx with ⟨e, x', hx', ex⟩ | ⟨e, hx'⟩ <;> rcases at_up hs' with ⟨e2, es⟩ | ⟨e2, hs2⟩
 ·subst e ex es
  have hu := h.2 u x' (some d) hx' hd
  refine ⟨hu.1, fun z hz => ?_, ?_⟩
  ·simp only [addU, List.mem_append, List.mem_singleton] at hz
   rcases hz with hz | hz
   ·exact (hu.2.1 z hz).ext he2
   ·subst hz; exact hy
  ·cases s' with
   | some d' =>
    refine ⟨fun z hz => ?_, ?_⟩
    ·simp only [addU, List.mem_append, List.mem_singleton] at hz
     rcases hz with hz | hz
     ·exact hu.2.2.1 z hz
     ·subst hz; exact hs.1
    ·simp only [addU, runN_app, hu.2.2.2, Option.bind_some, runN, hs.2]
   | none => exact ⟨x'.ins, y, rfl, hs.1, hu.2.2.1, by rw [hu.2.2.2, hs.2]⟩
 ·exact absurd e e2
 ·exact absurd e2 e
 ·exact (h.2 v x s' hx' hs2).ext he2
theorem I2.step {sh : Sh} {c c1 : CM} {u d : Nat} {s : Option Nat} {y : Nat × Nat × Nat} (h : I2 A slots sh c) (hd : sh[u]? = some (some d)) (he : Ext c c1) (hus : c1.us = c.us) (hy : okS A slots c1 y)
  (hs : match s with | some d' => y.1 ≤ 12 ∧ stepN y d = some d' | none => (y.1 = 13 ∨ y.1 = 14) ∧ d = 1) : I2 A slots (up sh u s 0) (addS u y c1) := by
 have he2 : Ext c (addS u y c1) := ⟨he.1, he.2.1, he.2.2.1, by simp [addS, hus]⟩
 have he3 : Ext c1 (addS u y c1) := ⟨⟨[], by simp [addS]⟩, ⟨[], by simp [addS]⟩, ⟨[], by simp [addS]⟩, by simp [addS]⟩
 refine ⟨by simp [up, addS, hus, h.1], fun v x s' hx hs' => ?_⟩
 simp only [addS, hus] at hx
 exact step_core h hd he2 (hy.ext he3) hs hx hs'
theorem Ext.refl (c : CM) : Ext c c := ⟨⟨[], by simp⟩, ⟨[], by simp⟩, ⟨[], by simp⟩, Nat.le_refl _⟩
theorem onceS_at (l : List ByteArray) (t : ByteArray) : (onceS l t).1[(onceS l t).2]? = some t ∧ ∃ r, (onceS l t).1 = l ++ r := by
 unfold onceS
 split
 ·rename_i k hk
  obtain ⟨j, e, hj⟩ := idxS_some hk
  simp only at e ⊢
  exact ⟨by rw [e, Nat.zero_add]; exact hj, [], by simp⟩
 ·exact ⟨by simp, [t], rfl⟩
theorem clo_good (Q : ByteArray → Nat → Prop) (hQ : ∀ t m, Q t m → A t m) : Clo slots Q (I2 A slots) := by
 have no : ∀ {c : CM} {y : Nat × Nat × Nat}, (y.1 = 1 ∨ y.1 = 2 ∨ y.1 = 6 ∨ y.1 = 11 ∨ y.1 = 12 ∨ y.1 = 13 ∨ y.1 = 14) → okS A slots c y := fun h => ⟨fun e => by omega, fun e => by omega, fun e => by omega, fun e => by omega, fun e => by omega, fun e => by omega⟩
 constructor
 case len => exact fun h => h.1
 case lit =>
  intro sh c u d t h hd
  have ho := onceS_at c.lits t
  exact h.step hd (c1 := { c with lits := (onceS c.lits t).1 }) ⟨ho.2, ⟨[], by simp⟩, ⟨[], by simp⟩, Nat.le_refl _⟩ rfl ⟨fun _ => (List.getElem?_eq_some_iff.1 ho.1).1, fun e => by simp at e, fun e => by simp at e, fun e => by simp at e, fun e => by simp at e, fun e => by simp at e⟩ ⟨by simp, by simp [stepN]⟩
 case use =>
  intro sh c u d x hp h hd
  unfold useS
  split
  ·rename_i k
   exact h.step hd (.refl c) rfl ⟨fun e => by simp at e, fun e => by simp at e, fun e => by simp at e, fun _ => hp.1 k, fun e => by simp at e, fun e => by simp at e⟩ ⟨by simp, by simp [stepN]⟩
  split
  ·exact h.step hd (.refl c) rfl (no (by simp)) ⟨by simp, by simp [stepN]⟩
  split
  ·rename_i k
   exact h.step hd (.refl c) rfl ⟨fun e => by simp at e, fun _ => hp.2 k, fun e => by simp at e, fun e => by simp at e, fun e => by simp at e, fun e => by simp at e⟩ ⟨by simp, by simp [stepN]⟩
  split
  ·have ho := onceS_at c.names x.t
   exact h.step hd (c1 := { c with names := (onceS c.names x.t).1 }) ⟨⟨[], by simp⟩, ho.2, ⟨[], by simp⟩, Nat.le_refl _⟩ rfl ⟨fun e => by simp at e, fun e => by simp at e, fun _ => (List.getElem?_eq_some_iff.1 ho.1).1, fun e => by simp at e, fun e => by simp at e, fun e => by simp at e⟩ ⟨by simp, by simp [stepN]⟩
  ·exact h.step hd (.refl c) rfl (no (by simp)) ⟨by simp, by simp [stepN]⟩
 case set =>
  intro sh c u d x hp hk h hd
  unfold setS
  split
  ·exact h.step hd (.refl c) rfl (no (by simp)) ⟨by simp, by simp [stepN]⟩
  ·rename_i k3
   exact h.step hd (.refl c) rfl ⟨fun e => by simp at e, fun _ => hp.2 (by omega), fun e => by simp at e, fun e => by simp at e, fun e => by simp at e, fun e => by simp at e⟩ ⟨by simp, by simp [stepN]⟩
 case send =>
  intro sh c u d m t sp hq h hd
  have ho := onceS_at c.sels t
  refine h.step hd (c1 := { c with sels := (onceS c.sels t).1 }) ⟨⟨[], by simp⟩, ⟨[], by simp⟩, ho.2, Nat.le_refl _⟩ rfl ⟨fun e => by cases sp <;> simp at e, fun e => by cases sp <;> simp at e, fun e => by cases sp <;> simp at e, fun e => by cases sp <;> simp at e, fun _ => ⟨t, ho.1, hQ _ _ hq⟩, fun e => by cases sp <;> simp at e⟩ ⟨by cases sp <;> simp, ?_⟩
  cases sp <;> simp [stepN] <;> omega
 case dup => exact fun h hd => h.step hd (.refl _) rfl (no (by simp)) ⟨by simp, by simp [stepN]⟩
 case pop => exact fun h hd => h.step hd (.refl _) rfl (no (by simp)) ⟨by simp, by simp [stepN]⟩
 case self => exact fun h hd => h.step hd (.refl _) rfl (no (by simp)) ⟨by simp, by simp [stepN]⟩
 case nul => exact fun h hd => h.step hd (.refl _) rfl ⟨fun e => by simp at e, fun e => by simp at e, fun e => by simp at e, fun _ => by decide, fun e => by simp at e, fun e => by simp at e⟩ ⟨by simp, by simp [stepN]⟩
 case fin => exact fun h hd => h.step (s := none) hd (.refl _) rfl (no (by simp)) ⟨by simp, rfl⟩
 case ret => exact fun h hd => h.step (s := none) hd (.refl _) rfl (no (by simp)) ⟨by simp, rfl⟩
 case blk =>
  intro sh c u d a b hab h hd
  have hl := h.1
  have hul := at_len hd
  refine ⟨by simp [up, newU, addS, h.1], fun v x s hx hs => ?_⟩
  simp only [newU, addS] at hx
  rcases Nat.lt_or_ge v c.us.length with g | g
  ·rw [List.getElem?_append_left (by simpa using g)] at hx
   rw [List.getElem?_append_left (by simp [up]; omega)] at hs
   exact step_core h hd (s := some (d + 1)) (y := (10, c.us.length, 0)) ⟨⟨[], by simp [newU, addS]⟩, ⟨[], by simp [newU, addS]⟩, ⟨[], by simp [newU, addS]⟩, by simp [newU, addS]⟩ ⟨fun e => by simp at e, fun e => by simp at e, fun e => by simp at e, fun e => by simp at e, fun e => by simp at e, fun _ => by simp [newU, addS]⟩ ⟨by simp, by simp [stepN]⟩ hx hs
  ·rw [List.getElem?_append_right (by simpa using g)] at hx
   rw [List.getElem?_append_right (by simp [up]; omega)] at hs
   simp only [List.length_modify] at hx
   have e : v - c.us.length = 0 := by
    cases hq : v - c.us.length with
    | zero => rfl
    | succ q => rw [hq] at hx; simp at hx
   rw [e] at hx
   have e2 : v - (up sh u (some (d + 1)) 0).length = 0 := by simp [up]; omega
   rw [e2] at hs
   simp at hx hs
   subst hx hs
   exact ⟨hab, fun y hy => by simp at hy, fun y hy => by simp at hy, rfl⟩
theorem good_new {n m : Nat} (h : n ≤ m) : I2 A slots [some 0] (newU n m ⟨[], [], [], []⟩) := by
 refine ⟨rfl, fun v x s hx hs => ?_⟩
 cases v with
 | zero =>
  simp [newU] at hx hs
  subst hx hs
  exact ⟨h, fun y hy => by simp at hy, fun y hy => by simp at hy, rfl⟩
 | succ v => simp [newU] at hx
end
end Go.SL
namespace Go.SL
open Go.Proofs
set_option maxRecDepth 10000
theorem nodup_ne {l : List ByteArray} (h : Once l) {i k : Nat} {y z : ByteArray} (hi : l[i]? = some y) (hk : l[k]? = some z) (hn : k < i) : ¬ y = z := fun e => by
 subst e
 have := h i k y hi hk
 omega
@[simp] theorem usI_nil (op ot a : Nat) : usI op ot a [] = false := rfl
@[simp] theorem usC_nil (op ot a : Nat) : usC op ot a [] = false := rfl
theorem usI_step {op ot a k : Nat} {l : List (Nat × Nat × Nat)} {y : Nat × Nat × Nat} (h : l[k]? = some y) : usI op ot a (l.take (k + 1)) = (usI op ot a (l.take k) || uB op ot a y) := by
 simp [usI, List.take_add_one, h]
theorem usC_step {op ot a k : Nat} {l : List CU} {x : CU} (h : l[k]? = some x) : usC op ot a (l.take (k + 1)) = (usC op ot a (l.take k) || usI op ot a x.ins) := by
 simp [usC, List.take_add_one, h]
theorem f12_ok (l : List ByteArray) (hl : l.length ≤ 1000000000) (hn : Once l) : DF Tryz.prog 12 [strD l] (.bool true) := by
 refine AF.start' 60 Tryz.func12 rfl rfl c12call c12ok fun Q hQ => ?_
 simp [c12c, c12t]
 refine ATT.loopG 60 c12l10.eq_1 (fun (i : Nat) => l.length - i) (fun (i : Nat) => i ≤ l.length) (fun (i : Nat) => [(0, .d (strD l)), (3, .d (.int .i64 i))]) (fun (i : Nat) => []) (fun (i : Nat) => []) (0) (by (try dsimp only); exact Nat.zero_le _) (by simp <;> omega) (by simp) (by simp) ?_
 intro i u w hI ih
 try simp only at hI ih
 by_cases hi : i < l.length
 ·obtain ⟨y, hy⟩ : ∃ y, l[i]? = some y := ⟨_, List.getElem?_eq_getElem hi⟩
  have hyE : ∀ h, l[i]'h = y := fun h => by rw [List.getElem?_eq_getElem h] at hy; simpa using hy
  have hi' : (i : Int) < l.length := by omega
  have hne : l.isEmpty = false := by cases hu : l with | nil => rw [hu] at hi; simp at hi | cons _ _ => rfl
  have hne2 : ¬ l = [] := fun e => by rw [e] at hi; simp at hi
  have hII : inI ((i : Int) + 1) = true := inI_of (by omega) (by omega)
  simp [c12t, hi']
  refine ATT.loopG 60 c12l8.eq_1 (fun (k : Nat) => i - k) (fun (k : Nat) => k ≤ i) (fun (k : Nat) => [(0, .d (strD l)), (3, .d (.int .i64 i)), (4, .d (.int .i64 k))]) (fun (k : Nat) => u) (fun (k : Nat) => w) (0) (by (try dsimp only); exact Nat.zero_le _) (by simp <;> omega) (by simp) (by simp) ?_
  intro k u w hI ih
  try simp only at hI ih
  rename_i u0 w0 hI0 ih0
  by_cases hk : k < i
  ·have hkl : k < l.length := by omega
   obtain ⟨z, hz⟩ : ∃ z, l[k]? = some z := ⟨_, List.getElem?_eq_getElem hkl⟩
   have hzE : ∀ h, l[k]'h = z := fun h => by rw [List.getElem?_eq_getElem h] at hz; simpa using hz
   have hyz := nodup_ne hn hy hz hk
   have hk' : (k : Int) < i := by omega
   have hIK : inI ((k : Int) + 1) = true := inI_of (by omega) (by omega)
   simp [c12t, hi, hyE, hne, hk', hkl, hzE, hyz, hIK]
   refine ih (k + 1) (by first | ((try dsimp only); omega) | (simp [hi, hi', hy, hyE, hII, hne, hne2, hk, hk', hkl, hz, hzE, hyz, hIK] <;> omega)) (by (try dsimp only); exact hk) _ _ _ (by simp <;> omega) (by simp <;> omega) (by simp <;> omega)
  ·have hk' : ¬ (k : Int) < i := by omega
   simp [c12t, hII, hk']
   refine ih0 (i + 1) (by first | ((try dsimp only); omega) | (simp [hi, hi', hy, hyE, hII, hne, hne2, hk, hk'] <;> omega)) (by (try dsimp only); exact hi) _ _ _ (by simp <;> omega) (by simp <;> omega) (by simp <;> omega)
 ·have hi' : ¬ (i : Int) < l.length := by omega
  simp [c12t, hi']
  refine ATT.fin' hQ Tryz.func12 c12res ?_
  simp
  all_goals (first | omega | exact ⟨_, rfl⟩ | skip)
set_option maxHeartbeats 4000000 in
theorem f13_ok (sel : ByteArray) (c : CM) (hz : szC c ≤ 100000000) (op ot n : Nat) (hn : n ≤ 1000000000) (h : ∀ a, a < n → usC op ot a c.us = true) : DF Tryz.prog 13 [.agg (cdR sel c), .int .i64 op, .int .i64 ot, .int .i64 n] (.bool true) := by
 have hl4 : c.us.length ≤ szC c := by unfold szC; omega
 unfold cdR
 refine AF.start' 60 Tryz.func13 rfl rfl c13call c13ok fun Q hQ => ?_
 simp [c13c, c13t]
 refine ATT.loopG 60 c13l17.eq_1 (fun (a : Nat) => n - a) (fun (a : Nat) => a ≤ n) (fun (a : Nat) => [(1, .d (.int .i64 op)), (2, .d (.int .i64 ot)), (3, .d (.int .i64 n)), (4, .ptr 0 0), (9, .d (.int .i64 a))]) (fun (a : Nat) => [.cells [.d (.str sel), .d (.sl c.us.isEmpty 3 (c.us.map unR)), .d (.sl c.lits.isEmpty 1 (c.lits.map .str)), .d (.sl c.names.isEmpty 1 (c.names.map .str)), .d (.sl c.sels.isEmpty 1 (c.sels.map .str))] 31]) (fun (a : Nat) => []) (0) (by (try dsimp only); exact Nat.zero_le _) (by simp <;> omega) (by simp) (by simp) ?_
 intro a u w hI ih
 try simp only at hI ih
 by_cases ha : a < n
 ·have ha' : (a : Int) < n := by omega
  have hIA : inI ((a : Int) + 1) = true := inI_of (by omega) (by omega)
  simp [c13t, ha']
  refine ATT.loopG 60 c13l13.eq_1 (fun (i : Nat) => c.us.length - i) (fun (i : Nat) => i ≤ c.us.length) (fun (i : Nat) => [(1, .d (.int .i64 op)), (2, .d (.int .i64 ot)), (3, .d (.int .i64 n)), (4, .ptr 0 0), (9, .d (.int .i64 a)), (10, .d (.bool (usC op ot a (c.us.take i)))), (11, .d (.int .i64 i))]) (fun (i : Nat) => .cells [.d (.str sel), .d (.sl c.us.isEmpty 3 (c.us.map unR)), .d (.sl c.lits.isEmpty 1 (c.lits.map .str)), .d (.sl c.names.isEmpty 1 (c.names.map .str)), .d (.sl c.sels.isEmpty 1 (c.sels.map .str))] 31 :: u) (fun (i : Nat) => w) (0) (by (try dsimp only); exact Nat.zero_le _) (by simp <;> omega) (by simp) (by simp) ?_
  intro i u w hI ih
  try simp only at hI ih
  rename_i u0 w0 hI0 ih0
  by_cases hi : i < c.us.length
  ·obtain ⟨x, hx⟩ : ∃ x, c.us[i]? = some x := ⟨_, List.getElem?_eq_getElem hi⟩
   have hxE : ∀ h, c.us[i]'h = x := fun h => by rw [List.getElem?_eq_getElem h] at hx; simpa using hx
   have hi' : (i : Int) < c.us.length := by omega
   have hne : c.us.isEmpty = false := by cases hu : c.us with | nil => rw [hu] at hi; simp at hi | cons _ _ => rfl
   have hnu2 : ¬ c.us = [] := fun e => by rw [e] at hi; simp at hi
   have hni : x.ins.length ≤ szC c := szC_at hx
   have hII : inI ((i : Int) + 1) = true := inI_of (by omega) (by omega)
   simp [c13t, hi', hne]
   refine ATT.loopG 60 c13l11.eq_1 (fun (k : Nat) => x.ins.length - k) (fun (k : Nat) => k ≤ x.ins.length) (fun (k : Nat) => [(1, .d (.int .i64 op)), (2, .d (.int .i64 ot)), (3, .d (.int .i64 n)), (4, .ptr 0 0), (9, .d (.int .i64 a)), (10, .d (.bool (usC op ot a (c.us.take i) || usI op ot a (x.ins.take k)))), (11, .d (.int .i64 i)), (12, .d (.int .i64 k))]) (fun (k : Nat) => .cells [.d (.str sel), .d (.sl false 3 (c.us.map unR)), .d (.sl c.lits.isEmpty 1 (c.lits.map .str)), .d (.sl c.names.isEmpty 1 (c.names.map .str)), .d (.sl c.sels.isEmpty 1 (c.sels.map .str))] 31 :: (u0 ++ u)) (fun (k : Nat) => w0 ++ w) (0) (by (try dsimp only); exact Nat.zero_le _) (by simp <;> omega) (by simp) (by simp) ?_
   intro k u w hI ih
   try simp only at hI ih
   rename_i u1 w1 hI1 ih1
   by_cases hk : k < x.ins.length
   ·obtain ⟨y, hy⟩ : ∃ y, x.ins[k]? = some y := ⟨_, List.getElem?_eq_getElem hk⟩
    have hyE : ∀ h, x.ins[k]'h = y := fun h => by rw [List.getElem?_eq_getElem h] at hy; simpa using hy
    have hk' : (k : Int) < x.ins.length := by omega
    have hnk : x.ins.isEmpty = false := by cases hu : x.ins with | nil => rw [hu] at hk; simp at hk | cons _ _ => rfl
    have hnk2 : ¬ x.ins = [] := fun e => by rw [e] at hk; simp at hk
    have hIK : inI ((k : Int) + 1) = true := inI_of (by omega) (by omega)
    have hst := usI_step (op := op) (ot := ot) (a := a) hy
    have hst2 : (usC op ot a (c.us.take i) || usI op ot a (x.ins.take (k + 1))) = ((usC op ot a (c.us.take i) || usI op ot a (x.ins.take k)) || uB op ot a y) := by rw [hst, Bool.or_assoc]
    have hst3 : ∀ b, (usC op ot a (c.us.take i) || usI op ot a (x.ins.take (k + 1))) = b → (usC op ot a (c.us.take i) = true ∨ usI op ot a (x.ins.take (k + 1)) = true) = (b = true) := fun b e => by rw [← e]; simp
    cases hb : (usC op ot a (c.us.take i) || usI op ot a (x.ins.take k)) with
    | true =>
     rw [hb, Bool.true_or] at hst2
     simp [c13t, hi, hxE, hk, hk', hyE, hIK, unR, hnk, insD]
     refine ih (k + 1) (by first | ((try dsimp only); omega) | (simp [hi, hi', hx, hxE, hk, hk', hy, hyE, hIK, unR, hne, hnk, insD, hnk2, hnu2, hst3 _ hst2] <;> omega)) (by (try dsimp only); exact hk) _ _ _ (by simp <;> omega) (by simp [hst3 _ hst2] <;> omega) (by simp <;> omega)
    | false =>
     rw [hb, Bool.false_or] at hst2
     by_cases hA : y.2.1 = a
     ·by_cases h1 : y.1 = op
      ·have hu : uB op ot a y = true := by simp [uB, hA, h1]
       rw [hu] at hst2
       simp [c13t, hi, hxE, hk, hk', hyE, hIK, unR, hnk, insD, hA, h1]
       refine ih (k + 1) (by first | ((try dsimp only); omega) | (simp [hi, hi', hx, hxE, hk, hk', hy, hyE, hIK, unR, hne, hnk, insD, hnk2, hnu2, hA, h1, hst3 _ hst2] <;> omega)) (by (try dsimp only); exact hk) _ _ _ (by simp <;> omega) (by simp [hst3 _ hst2] <;> omega) (by simp <;> omega)
      ·by_cases h2 : y.1 = ot
       ·have hu : uB op ot a y = true := by simp [uB, hA, h2]
        rw [hu] at hst2
        have h1' : ¬ (ot : Int) = op := by omega
        simp [c13t, hi, hxE, hk, hk', hyE, hIK, unR, hnk, insD, hA, h2, h1']
        refine ih (k + 1) (by first | ((try dsimp only); omega) | (simp [hi, hi', hx, hxE, hk, hk', hy, hyE, hIK, unR, hne, hnk, insD, hnk2, hnu2, hA, h2, h1', hst3 _ hst2] <;> omega)) (by (try dsimp only); exact hk) _ _ _ (by simp <;> omega) (by simp [hst3 _ hst2] <;> omega) (by simp <;> omega)
       ·have hu : uB op ot a y = false := by simp [uB, h1, h2]
        rw [hu] at hst2
        have h1' : ¬ (y.1 : Int) = op := by omega
        have h2' : ¬ (y.1 : Int) = ot := by omega
        simp [c13t, hi, hxE, hk, hk', hyE, hIK, unR, hnk, insD, hA, h1', h2']
        have hst4 : usC op ot a (c.us.take i) = false ∧ usI op ot a (x.ins.take (k + 1)) = false := by simpa using hst2
        refine ih (k + 1) (by first | ((try dsimp only); omega) | (simp [hi, hi', hx, hxE, hk, hk', hy, hyE, hIK, unR, hne, hnk, insD, hnk2, hnu2, hA, h1', h2', hst4.1, hst4.2] <;> omega)) (by (try dsimp only); exact hk) _ _ _ (by simp <;> omega) (by simp [hst4.1, hst4.2] <;> omega) (by simp <;> omega)
     ·have hu : uB op ot a y = false := by simp [uB, hA]
      rw [hu] at hst2
      have hA' : ¬ (y.2.1 : Int) = a := by omega
      simp [c13t, hi, hxE, hk, hk', hyE, hIK, unR, hnk, insD, hA']
      have hst4 : usC op ot a (c.us.take i) = false ∧ usI op ot a (x.ins.take (k + 1)) = false := by simpa using hst2
      refine ih (k + 1) (by first | ((try dsimp only); omega) | (simp [hi, hi', hx, hxE, hk, hk', hy, hyE, hIK, unR, hne, hnk, insD, hnk2, hnu2, hA', hst4.1, hst4.2] <;> omega)) (by (try dsimp only); exact hk) _ _ _ (by simp <;> omega) (by simp [hst4.1, hst4.2] <;> omega) (by simp <;> omega)
   ·have hk' : ¬ (k : Int) < x.ins.length := by omega
    have hke : k = x.ins.length := by omega
    subst hke
    simp [c13t, hi, hxE, hk', hII, unR]
    refine ih1 (i + 1) (by first | ((try dsimp only); omega) | (simp [hi, hi', hx, hxE, hk', hII, unR, hne, hnu2, usC_step hx] <;> omega)) (by (try dsimp only); exact hi) _ _ _ (by simp <;> omega) (by simp [usC_step hx] <;> omega) (by simp [hne] <;> omega)
  ·have hi' : ¬ (i : Int) < c.us.length := by omega
   have hie : i = c.us.length := by omega
   subst hie
   have hh := h a ha
   simp [c13t, hi', hh, hIA]
   refine ih0 (a + 1) (by first | ((try dsimp only); omega) | (simp [hi', hh, hIA, ha'] <;> omega)) (by (try dsimp only); exact ha) _ _ _ (by simp <;> omega) (by simp <;> omega) (by simp <;> omega)
 ·have ha' : ¬ (a : Int) < n := by omega
  simp [c13t, ha']
  refine ATT.fin' hQ Tryz.func13 c13res ?_
  simp
  all_goals (first | omega | exact ⟨_, rfl⟩ | skip)
end Go.SL
namespace Go.SL
open Go.Proofs
set_option maxRecDepth 10000
theorem mkU_sz {lt : Nd → ByteArray} {x : Nd} {us : List Us} {s : MS} (h : mkU lt x c0 us = some s) : szC s.1 ≤ 8 * nds x + 4 := by
 unfold mkU at h
 cases hk : mkS lt c0.us.length 0 x.kids (newU x.n x.names.length c0, us) with
 | none => rw [hk] at h; simp at h
 | some s2 =>
  rw [hk] at h
  simp only [Option.map_some, Option.some.injEq] at h
  rw [← h]
  have h1 := ((newU_gr x.n x.names.length c0).trans (mkS_gr hk)).trans (doneU_gr c0.us.length (decide (x.k = 12) && !decide (x.t = ⟨#[]⟩)) x.kids.length s2)
  have h2 := h1.2
  have := Nd.count x
  have h0 : szC c0 = 0 := rfl
  rw [h0] at h2
  simp only
  omega
theorem code_facts {num : ByteArray → Bool} {sl : List ByteArray} {m : Bool} {s sel : ByteArray} {c : CM} (h : codeD num sl m s = .inl (sel, c)) :
  I1 c ∧ (∃ k, I2 QA sl.length (List.replicate (k + 1) none) c) ∧ szC c ≤ 50000 := by
 unfold codeD at h
 cases hp : parseD num m s with
 | out => rw [hp] at h; simp at h
 | no a w => rw [hp] at h; simp at h
 | ok x l =>
  rw [hp] at h
  simp only at h
  have h1 := parse_fits hp
  have h2 := parse_fine hp
  unfold makeD at h
  cases hu : useU sl [] x with
  | inr a => rw [hu] at h; simp at h
  | inl us =>
   rw [hu] at h
   obtain ⟨c1, k1, e1, i1⟩ := mkU_ok (lt := litB) (clo_once sl.length QA) h1.1 h2.1 h2.2.1 h1.2.1 hu ⟨rfl, once_new _ _⟩
   obtain ⟨c2, k2, e2, i2⟩ := mkU_ok (lt := litB) (clo_good (A := QA) (slots := sl.length) QA fun t m h => h) h1.1 h2.1 h2.2.1 h1.2.1 hu (good_new h1.1.one.2.2.1)
   have e3 : mkU litB x c0 us = some (c1, []) := e1
   simp only [e3, Sum.inl.injEq, Prod.mk.injEq] at h
   have e4 : c1 = c2 := by rw [e1] at e2; simpa using e2
   obtain ⟨_, e5⟩ := h
   subst e5
   subst e4
   have := mkU_sz e3
   simp only at this
   exact ⟨i1.2, ⟨k2, i2⟩, by omega⟩
theorem codeD_why {num : ByteArray → Bool} {sl : List ByteArray} {m : Bool} {s : ByteArray} {a : Nat × Int} (h : codeD num sl m s = .inr a) : ¬ a.2 = 0 := by
 unfold codeD at h
 cases hp : parseD num m s with
 | out => exact absurd hp (parseD_in _ _ _)
 | no b w =>
  rw [hp] at h
  simp only [Sum.inr.injEq] at h
  subst h
  exact parseD_why hp
 | ok x l =>
  rw [hp] at h
  simp only at h
  cases hd : makeD sl x with
  | inl c => rw [hd] at h; simp at h
  | inr b => rw [hd] at h; simp only [Sum.inr.injEq] at h; subst h; simp
theorem blI_step {k : Nat} {l : List (Nat × Nat × Nat)} {y : Nat × Nat × Nat} (h : l[k]? = some y) : blI (l.take (k + 1)) = blI (l.take k) + (if y.1 = 10 then 1 else 0) := by
 simp [blI, List.take_add_one, h, List.countP_append, List.countP_cons]
theorem blC_step {k : Nat} {l : List CU} {x : CU} (h : l[k]? = some x) : blC (l.take (k + 1)) = blC (l.take k) + blI x.ins := by
 simp [blC, List.take_add_one, h]
@[simp] theorem blI_nil : blI [] = 0 := rfl
@[simp] theorem blC_nil : blC [] = 0 := rfl
theorem blI_le (l : List (Nat × Nat × Nat)) (k : Nat) : blI (l.take k) ≤ l.length := by
 have h1 := List.countP_le_length (p := fun y : Nat × Nat × Nat => decide (y.1 = 10)) (l := l.take k)
 simp at h1; unfold blI; omega
theorem blC_le : ∀ (l : List CU) (k : Nat), blC (l.take k) ≤ (l.map fun x => x.ins.length).sum
 | [], k => by simp [blC]
 | x :: r, 0 => by simp [blC]
 | x :: r, k + 1 => by
  have h1 := blC_le r k
  have h2 := blI_le x.ins x.ins.length
  rw [List.take_length] at h2
  simp only [blC, List.take_succ_cons, List.map_cons, List.sum_cons] at h1 ⊢
  omega
set_option maxHeartbeats 4000000 in
theorem f4_ok (s : ByteArray) (hs : s.size ≤ 1048576) {sl : List ByteArray} (hsl : sl.length ≤ 1048576) {snl : Bool} {sz : Nat} (hs1 : snl = true → sl = []) (hs2 : snl = false → sz = 1) : DF Tryz.prog 4 [.str s, .sl snl sz (sl.map .str)] (.bool true) := by
 have hC := compile_ok hWhole s (by omega) hsl hs1 hs2
 cases hr : codeD numS sl false s with
 | inr a =>
  have hw : ¬ a.2 = 0 := codeD_why hr
  rw [hr] at hC
  simp only [coV, selO, codeO, atO, errO, cdR] at hC
  refine AF.start' 60 Tryz.func4 rfl rfl c4call c4ok fun Q hQ => ?_
  simp [c4c, c4t]
  refine ATT.callD Tryz.func4 60 (hC) (by simp) (by simp) (by simp) ?_
  simp [c4t, hw]
  refine ATT.callD Tryz.func4 60 (f11_ok) (by simp) (by simp) (by simp) ?_
  simp
  refine ATT.fin' hQ Tryz.func4 c4res ?_
  simp
  all_goals (first | omega | exact ⟨_, rfl⟩ | skip)
 | inl cc =>
  obtain ⟨sel, c⟩ := cc
  obtain ⟨i1, ⟨k2, i2⟩, hz⟩ := code_facts hr
  rw [hr] at hC
  have hT := f10_ok sel c (by omega)
  have hl1 : c.lits.length ≤ szC c := by unfold szC; omega
  have hl2 : c.names.length ≤ szC c := by unfold szC; omega
  have hl3 : c.sels.length ≤ szC c := by unfold szC; omega
  have hl4 : c.us.length ≤ szC c := by unfold szC; omega
  have hl5 : (c.us.map fun x => x.ins.length).sum ≤ szC c := by unfold szC; omega
  have hus : c.us.length ≠ 0 := by have := i2.1; simp at this; omega
  have hus2 : ¬ c.us = [] := fun e => hus (by rw [e]; rfl)
  have hU1 := f13_ok sel c (by omega) 0 0 c.lits.length (by omega) i1.lu
  have hU2 := f13_ok sel c (by omega) 5 5 c.names.length (by omega) i1.nu
  have hU3 := f13_ok sel c (by omega) 8 9 c.sels.length (by omega) i1.su
  simp only [coV, selO, codeO, atO, errO, cdR] at hC
  simp only [cdR] at hT hU1 hU2 hU3
  refine AF.start' 60 Tryz.func4 rfl rfl c4call c4ok fun Q hQ => ?_
  simp [c4c, c4t]
  refine ATT.callD Tryz.func4 60 (hC) (by simp) (by simp) (by simp) ?_
  simp [c4t]
  refine ATT.callD Tryz.func4 60 (hT) (by simp) (by simp) (by simp) ?_
  simp [c4t]
  refine ATT.callD Tryz.func4 60 (f12_ok c.lits (by omega) i1.l1) (by simp) (by simp) (by simp) ?_
  simp
  refine ATT.callD Tryz.func4 60 (f12_ok c.names (by omega) i1.n1) (by simp) (by simp) (by simp) ?_
  simp
  refine ATT.callD Tryz.func4 60 (f12_ok c.sels (by omega) i1.s1) (by simp) (by simp) (by simp) ?_
  simp [c4t, hus2]
  refine ATT.loopG 60 c4l17.eq_1 (fun (i : Nat) => c.us.length - i) (fun (i : Nat) => i ≤ c.us.length) (fun (i : Nat) => [(8, .ptr 1 0), (9, .d (.int .i64 (blC (c.us.take i)))), (10, .d (.int .i64 i))]) (fun (i : Nat) => [.cells [.d (.str sel), .d (.sl c.us.isEmpty 3 (c.us.map unR)), .d (.sl c.lits.isEmpty 1 (c.lits.map .str)), .d (.sl c.names.isEmpty 1 (c.names.map .str)), .d (.sl c.sels.isEmpty 1 (c.sels.map .str))] 25, .cells [.d (.str sel), .d (.sl c.us.isEmpty 3 (c.us.map unR)), .d (.sl c.lits.isEmpty 1 (c.lits.map .str)), .d (.sl c.names.isEmpty 1 (c.names.map .str)), .d (.sl c.sels.isEmpty 1 (c.sels.map .str))] 31]) (fun (i : Nat) => []) (0) (by (try dsimp only); exact Nat.zero_le _) (by simp <;> omega) (by simp) (by simp) ?_
  intro i u w hI ih
  try simp only at hI ih
  by_cases hi : i < c.us.length
  ·obtain ⟨x, hx⟩ : ∃ x, c.us[i]? = some x := ⟨_, List.getElem?_eq_getElem hi⟩
   have hxE : ∀ h, c.us[i]'h = x := fun h => by rw [List.getElem?_eq_getElem h] at hx; simpa using hx
   have hi' : (i : Int) < c.us.length := by omega
   have hne : c.us.isEmpty = false := by cases hu : c.us with | nil => rw [hu] at hi; simp at hi | cons _ _ => rfl
   have hni : x.ins.length ≤ szC c := szC_at hx
   have hII : inI ((i : Int) + 1) = true := inI_of (by omega) (by omega)
   have hbc := blC_le c.us i
   simp [c4t, hi', hne]
   refine ATT.loopG 60 c4l15.eq_1 (fun (k : Nat) => x.ins.length - k) (fun (k : Nat) => k ≤ x.ins.length) (fun (k : Nat) => [(8, .ptr 1 0), (9, .d (.int .i64 ((blC (c.us.take i) + blI (x.ins.take k) : Nat) : Int))), (10, .d (.int .i64 i)), (11, .d (.int .i64 k))]) (fun (k : Nat) => .cells [.d (.str sel), .d (.sl false 3 (c.us.map unR)), .d (.sl c.lits.isEmpty 1 (c.lits.map .str)), .d (.sl c.names.isEmpty 1 (c.names.map .str)), .d (.sl c.sels.isEmpty 1 (c.sels.map .str))] 25 :: .cells [.d (.str sel), .d (.sl false 3 (c.us.map unR)), .d (.sl c.lits.isEmpty 1 (c.lits.map .str)), .d (.sl c.names.isEmpty 1 (c.names.map .str)), .d (.sl c.sels.isEmpty 1 (c.sels.map .str))] 31 :: u) (fun (k : Nat) => w) (0) (by (try dsimp only); exact Nat.zero_le _) (by simp <;> omega) (by simp) (by simp) ?_
   intro k u w hI ih
   try simp only at hI ih
   rename_i u0 w0 hI0 ih0
   by_cases hk : k < x.ins.length
   ·obtain ⟨y, hy⟩ : ∃ y, x.ins[k]? = some y := ⟨_, List.getElem?_eq_getElem hk⟩
    have hyE : ∀ h, x.ins[k]'h = y := fun h => by rw [List.getElem?_eq_getElem h] at hy; simpa using hy
    have hk' : (k : Int) < x.ins.length := by omega
    have hnk : x.ins.isEmpty = false := by cases hu : x.ins with | nil => rw [hu] at hk; simp at hk | cons _ _ => rfl
    have hnk2 : ¬ x.ins = [] := fun e => by rw [e] at hk; simp at hk
    have hIK : inI ((k : Int) + 1) = true := inI_of (by omega) (by omega)
    have hbi := blI_le x.ins k
    have hst := blI_step hy
    by_cases h10 : y.1 = 10
    ·have hIB : inI ((blC (c.us.take i) : Int) + (blI (x.ins.take k) : Int) + 1) = true := inI_of (by omega) (by omega)
     rw [if_pos h10] at hst
     simp [c4t, hi, hxE, hk, hk', hyE, hIK, unR, hnk, insD, h10, hIB]
     refine ih (k + 1) (by first | ((try dsimp only); omega) | (simp [hst] <;> omega)) (by (try dsimp only); exact hk) _ _ _ (by simp <;> omega) (by simp [hst] <;> omega) (by simp <;> omega)
    ·have h10' : ¬ (y.1 : Int) = 10 := by omega
     rw [if_neg h10] at hst
     simp [c4t, hi, hxE, hk, hk', hyE, hIK, unR, hnk, insD, h10']
     refine ih (k + 1) (by first | ((try dsimp only); omega) | (simp [hst] <;> omega)) (by (try dsimp only); exact hk) _ _ _ (by simp <;> omega) (by simp [hst] <;> omega) (by simp <;> omega)
   ·have hk' : ¬ (k : Int) < x.ins.length := by omega
    have hke : k = x.ins.length := by omega
    subst hke
    simp [c4t, hi, hxE, hk', hII, unR]
    refine ih0 (i + 1) (by first | ((try dsimp only); omega) | (simp [hne, hus2, blC_step hx] <;> omega)) (by (try dsimp only); exact hi) _ _ _ (by simp <;> omega) (by simp [blC_step hx] <;> omega) (by simp [hne] <;> omega)
  ·have hi' : ¬ (i : Int) < c.us.length := by omega
   have hie : i = c.us.length := by omega
   subst hie
   have hb := i1.b
   have hIm : inI ((c.us.length : Int) - 1) = true := inI_of (by omega) (by omega)
   have hbe : (blC c.us : Int) = (c.us.length : Int) - 1 := by omega
   simp [c4t, hi', hbe]
   refine ATT.callD Tryz.func4 60 (hU1) (by simp) (by simp) (by simp) ?_
   simp
   refine ATT.callD Tryz.func4 60 (hU2) (by simp) (by simp) (by simp) ?_
   simp
   refine ATT.callD Tryz.func4 60 (hU3) (by simp) (by simp) (by simp) ?_
   simp [hIm]
   refine ATT.callD Tryz.func4 60 (f11_ok) (by simp) (by simp) (by simp) ?_
   simp
   refine ATT.fin' hQ Tryz.func4 c4res ?_
   simp
   all_goals (first | omega | exact ⟨_, rfl⟩ | skip)
end Go.SL
namespace Go.Proofs.YtbkdobainphhdaaGreatDoor
open Go.ChangeShapes Go.WideShapes Go.ChangeAt Go.RowKit Go.ChangeMaps
namespace codeOnce
theorem bulk_strs {H : Type} : ∀ l : List ByteArray, l.length ≤ Rows.uptoBulkAll (strs (H := H) l)
 | [] => Nat.zero_le _
 | x :: r => by
  have := bulk_strs (H := H) r
  simp only [strs, List.map_cons, Rows.uptoBulkAll, Rows.uptoBulk, List.length_cons] at this ⊢
  omega
theorem own : ownKnob Tryz.prog.godebug = none := by kernel_rfl
set_option maxRecDepth 100000 in
theorem contract (law : ∀ (s : ByteArray) (sl : List ByteArray) (snl : Bool), s.size ≤ 1048576 → sl.length ≤ 1048576 → (snl = true → sl = []) → SL.DF Tryz.prog 4 [.str s, .sl snl 1 (sl.map .str)] (.bool true)) (H : Type) (enc : TypeId × Value → H) (W : World) (base : Nat) (args : Array Value) (ds gs : List (DataW H)) (before : List MemPlace)
  (hval : ∀ (j : Nat) t v, Tryz.f4.params[j]? = some t → args[j]? = some v → Value.okWide Tryz.prog W .any base t v)
  (hW : DataW.Whole enc Tryz.prog Tryz.f4.params.toList Rows.codeOnceSpec.vars false W args.toList ds gs before) (hk : Rows.uptoSmall H (ds ++ gs) = true) (hsh : W.ShapedOpen Tryz.prog) :
  Calls Tryz.prog 4 args W fun e W' => ∃ v, e = .returned v ∧ Rows.codeOnceSpec.post enc Tryz.prog Tryz.f4 false true false false W args v W' := by
 have hW' := hW
 obtain ⟨p, q, hA0, hV, rfl, hfz, hnd⟩ := hW
 have hA : DataW.TrodAll enc Tryz.prog W 0 (fun _ => true) true Tryz.f4.params.toList args.toList ds p := hA0
 rw [Tryz.params4] at hA hval
 obtain ⟨v0, vs0, d0, ds0, p0, q0, hargs, rfl, rfl, h0, r0⟩ := trodAll_cons hA
 obtain ⟨v1, vs1, d1, ds1, p1, q1, rfl, rfl, rfl, h1, r1⟩ := trodAll_cons r0
 obtain ⟨rfl, rfl, rfl⟩ := trodAll_nil r1
 obtain rfl : args = #[v0, v1] := by cases args; simp_all
 obtain ⟨rfl, rfl⟩ := trodVars_none hV
 have hmx : SL.Mx W := SL.Mx.of (t := 3) hsh (of_decide_eq_true (by kernel_rfl)) (zero := #[.int .i64 0]) (by kernel_rfl) rfl (by kernel_rfl) (by kernel_rfl) Tryz.underlying3
 obtain ⟨s, rfl, rfl, rfl, hs⟩ := open_string Tryz.underlying9 (hval 0 9 v0 (by simp) (by simp)) h0
 obtain ⟨sl, snl, rest, hvr, hsn, hd⟩ := SL.open_slots hmx Tryz.underlying22 Tryz.underlying9 (by kernel_rfl) (hval 1 22 v1 (by simp) (by simp)) h1
 clear hA0
 have hb : s.size ≤ 1048576 ∧ sl.length ≤ 1048576 := by
  have e : s.data.toList.length = s.size := rfl
  have hl := bulk_strs (H := H) sl
  have e2 : s.data.toList.length + 1 + Rows.uptoBulk d1 ≤ 1048576 := by simpa [Rows.uptoSmall, Rows.uptoBulkAll, Rows.uptoBulk] using hk
  rw [e] at e2
  rcases hd with ⟨rfl, rfl⟩ | rfl
  ·exact ⟨by omega, by simp⟩
  ·simp only [Rows.uptoBulk] at e2
   exact ⟨by omega, by omega⟩
 refine ((law s sl snl hb.1 hb.2 hsn).world hmx (argv := [.string s, v1]) (by simp only [List.map_cons, List.map_nil, SL.VL, SL.VR, SL.DR]; exact ⟨_, _, rfl, rfl, _, _, rfl, hvr, rfl⟩)).mono fun e W' ⟨he, hB⟩ => ?_
 subst he
 simp only [List.append_nil] at hW'
 have hlt : ∀ x ∈ p1, x.block < W.heap.size := fun x hx => by simpa using hW'.lt x (by simp [hx])
 exact ⟨_, rfl, SL.post_kept hW' (fun _ _ _ => trodAll_cons_mk (SL.shut_boolP Tryz.underlying4 _) trodAll_mk0) (fun sp hsp => trodAll_cons_mk (SL.shut_stringP Tryz.underlying9 hs) (trodAll_cons_mk (WideElems.Trod_stays (by kernel_rfl) (by kernel_rfl) (by decide +kernel) h1 (fun x hx => hB.same (hlt x hx)) (fun x hx => hsp x (by simp [hx]))) trodAll_mk0)) (fun _ _ => rfl) (by simp) hB (ok_one (by kernel_rfl) rfl (okWide_bool_mk Tryz.underlying4 _))⟩
theorem laid_met (os : Os) : laidMetH Tryz.prog Rows.codeOnceUptoRow.laid ((World.laidAll Tryz.prog os Rows.codeOnceUptoRow.laid).forCall (fun _ _ => 0) ⟨#[], #[.string ⟨#[]⟩, .slice none 0 0], []⟩).memory := by
 rw [MakeChecks.laidMetH_plain _ _ _ (by kernel_rfl)]
 exact laidMet_laidAll _ (by kernel_rfl) (by kernel_rfl)
theorem reads (os : Os) {H : Type} (enc : TypeId × Value → H) : ∃ places, DataW.whole enc Tryz.prog ((World.laidAll Tryz.prog os Rows.codeOnceUptoRow.laid).forCall (fun _ _ => 0) ⟨#[], #[.string ⟨#[]⟩, .slice none 0 0], []⟩).memory Tryz.f4.params.toList Rows.codeOnceSpec.vars false #[Value.string ⟨#[]⟩, .slice none 0 0].toList 8 = some ([.lit (.string []), .nil], [], places) :=
 ⟨[], by kernel_rfl⟩
set_option maxRecDepth 100000 in
theorem lifted (law : ∀ (s : ByteArray) (sl : List ByteArray) (snl : Bool), s.size ≤ 1048576 → sl.length ≤ 1048576 → (snl = true → sl = []) → SL.DF Tryz.prog 4 [.str s, .sl snl 1 (sl.map .str)] (.bool true)) (os : Os) (started : os.Started) (H : Type) (enc : TypeId × Value → H) (F : Stop.Interp) :
  ReturnsInHanded {} Tryz.checked os 4 .any ((Rows.OpenSpec.upto Rows.codeOnceSpec).preRow enc Tryz.prog Tryz.f4 Rows.codeOnceUptoRow.domain false Rows.codeOnceUptoRow.laid) (((Rows.OpenSpec.upto Rows.codeOnceSpec).at F).post enc Tryz.prog Tryz.f4 false true false false) := by
 obtain ⟨places, hx⟩ := reads os enc
 refine returnsInHanded_of_row (C := Tryz.checked) (s := Rows.OpenSpec.upto Rows.codeOnceSpec) own started (by kernel_rfl) Tryz.func4
  (witness_row_at (enc := enc) (C := Tryz.checked) false (World.laidAll Tryz.prog os Rows.codeOnceUptoRow.laid) #[.string ⟨#[]⟩, .slice none 0 0] (World.laidAll_os _ _ _) (by kernel_rfl) (by kernel_rfl) (by kernel_rfl)
   (OpenSpec.preRow_of_cond 8 hx (by kernel_rfl) (fun k hk => by cases hk; kernel_rfl) (by kernel_rfl) (laid_met os))) ?_
 intro W base args ds gs before hval hW _ hcond _ _ hsh _
 exact contract law H enc W base args ds gs before hval hW (hcond _ rfl) hsh
theorem saidUpto (law : ∀ (s : ByteArray) (sl : List ByteArray) (snl : Bool), s.size ≤ 1048576 → sl.length ≤ 1048576 → (snl = true → sl = []) → SL.DF Tryz.prog 4 [.str s, .sl snl 1 (sl.map .str)] (.bool true)) : Rows.CodeOnceUptoSaid :=
 OpenClaim.holds_of_cond 4 Tryz.f4 rfl rfl rfl rfl rfl rfl rfl ⟨rfl, rfl, rfl, rfl, rfl⟩ rfl rfl rfl rfl rfl (by kernel_rfl) Tryz.func4 (by kernel_rfl)
  (of_decide_eq_true (by kernel_rfl)) (by unfold Func.isWrapper; first | (rw [if_pos (by decide +kernel)]; kernel_rfl) | (rw [if_neg (by decide +kernel)]; exact ⟨rfl, rfl⟩))
  (fun os started H enc _ F => by rw [OpenClaim.pre_eq_preRow]; exact lifted law os started H enc F)
theorem plain (f : FuncId) (fn : Func) (hf : Tryz.pinned.checked.prog.funcNamed "lapidary/lapidarylaw10.CodeOnce" = some f) (hfn : Tryz.pinned.checked.prog.funcs[f]? = some fn) :
  true = Tryz.pinned.checked.prog.looks [] ∧ ∀ (j : Nat) t, fn.params[j]? = some t → Tryz.pinned.checked.prog.wantsStandIn t = false := by
 obtain rfl : f = 4 := Option.some.inj ((show Tryz.prog.funcNamed "lapidary/lapidarylaw10.CodeOnce" = some 4 by kernel_rfl).symm.trans hf) |>.symm
 obtain rfl : fn = Tryz.f4 := (Option.some.inj (Tryz.func4.symm.trans hfn)).symm
 refine ⟨by kernel_rfl, fun j t ht => ?_⟩
 rw [Tryz.params4] at ht
 obtain rfl | rfl : t = 9 ∨ t = 22 := by simpa using Array.mem_of_getElem? ht
 ·exact (show Tryz.prog.wantsStandIn 9 = false by kernel_rfl)
 ·exact (show Tryz.prog.wantsStandIn 22 = false by kernel_rfl)
theorem cardUpto (law : ∀ (s : ByteArray) (sl : List ByteArray) (snl : Bool), s.size ≤ 1048576 → sl.length ≤ 1048576 → (snl = true → sl = []) → SL.DF Tryz.prog 4 [.str s, .sl snl 1 (sl.map .str)] (.bool true)) : Rows.CodeOnceUptoCardSaid :=
 Claim7.holds_tied_plain_at .later [] _ _ _ _ (saidUpto law) (fun _ h => by cases h) (by kernel_rfl) (fun _ h => by cases h) codeOnceUpto_row_tie rfl ⟨rfl, rfl⟩ (by kernel_rfl) rfl plain (by kernel_rfl)
end codeOnce
theorem codeOnce_holds : Rows.CodeOnceUptoCardSaid := codeOnce.cardUpto fun s sl snl hs hl hn => SL.f4_ok s hs hl hn (fun _ => rfl)
end Go.Proofs.YtbkdobainphhdaaGreatDoor
