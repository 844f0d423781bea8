/- CodeGood: whatever steps are made of a source, to be run or a method's, check: for every source and every list of slots' names of bulk at most 1048576. -/
import Derived.Test.YtbkdobainphhdaaGreatDoorGood3
import Derived.Test.YtbkdobainphhdaaGreatDoorCards
import Derived.Test.YtbkdobainphhdaaGreatDoorTie
import Derived.ProofKit
import Derived.OpenShut
import Derived.LaidMore
import Derived.Lay
import Derived.OpenShut
import Derived.Deep.DeepHandedRow
namespace Go.SL
open Go.Proofs
set_option maxRecDepth 10000
theorem f106_vec (l : List ByteArray) (hl : l.length ≤ 1000000000) (t : ByteArray) : VF Tryz.prog 106 [.vs 0 l.length 0 l.length, .d (.str t)] [] [NS l] (.d (.int .i64 (idxI (idxS t l 0)))) [] [NS l] := by
 refine AF.go Tryz.func106 [] fun tb TB Q hQ => ?_
 simp [TB]
 refine ATT.loopG 60 rfl (fun (i : Nat) => l.length - i) (fun (i : Nat) => i ≤ l.length ∧ idxS t (l.drop i) i = idxS t l 0) (fun (i : Nat) => [(0, .vs 0 l.length 0 l.length), (1, .d (.str t)), (7, .d (.int .i64 l.length)), (8, .d (.int .i64 i))]) (fun (i : Nat) => []) (fun (i : Nat) => [NS l]) (0) (by (try dsimp only); exact ⟨Nat.zero_le _, rfl⟩) (by simp <;> omega) (by simp) (by simp) ?_
 intro i u w hI ih
 try simp only at hI ih
 obtain ⟨i1, i2⟩ := hI
 by_cases hi : i < l.length
 ·obtain ⟨y, hy⟩ : ∃ y, l[i]? = some y := ⟨_, List.getElem?_eq_getElem hi⟩
  have hyE : ∀ h, l[i]'h = y := fun h => by rw [List.getElem?_eq_getElem h] at hy; simpa using hy
  have hi' : (i : Int) < l.length := by omega
  have hII : inI ((i : Int) + 1) = true := inI_of (by omega) (by omega)
  have hiR : inR (i : Int) l.length = true := inR_of (by omega) (by omega)
  by_cases he : y = t
  ·have hd : l.drop i = y :: l.drop (i + 1) := by rw [List.drop_eq_getElem_cons hi, hyE]
   have h0 : idxS t l 0 = some i := by rw [← i2, hd]; simp only [idxS, if_pos he]
   rw [h0] at hQ
   subst he
   simp [TB, hi, hi', hyE, hiR]
   refine ATT.fin2 hQ Tryz.func106 ?_
   simp [idxI]
   all_goals (first | omega | exact ⟨_, rfl⟩ | skip)
  ·have he' : ¬ t = y := fun h => he h.symm
   simp [TB, hi, hi', hyE, hII, hiR, he']
   refine ih (i + 1) (by first | ((try dsimp only); omega) | (simp [hi, hi', hy, hyE, hII, hiR, he'] <;> omega)) (by (try dsimp only); exact ⟨hi, by rw [← i2]; exact (idxS_step hy he).symm⟩) _ _ _ (by simp <;> omega) (by simp <;> omega) (by simp <;> omega)
 ·have hi' : ¬ (i : Int) < l.length := by omega
  have h0 : idxS t l 0 = none := by rw [← i2, List.drop_eq_nil_of_le (by omega)]; rfl
  rw [h0] at hQ
  simp [TB, hi']
  refine ATT.fin2 hQ Tryz.func106 ?_
  simp [idxI]
  all_goals (first | omega | exact ⟨_, rfl⟩ | skip)
abbrev MB (sel : ByteArray) (nu nl nn ns : Nat) (uz : D) : Bx := .cells [.d (.str sel), .vs 0 nu 0 nu, .vs 1 nl 0 nl, .vs 2 nn 0 nn, .vs 3 ns 0 ns, .d uz] 78
theorem f72_lits (sel : ByteArray) (nu nn ns : Nat) (uz : D) (l : List ByteArray) (hl : l.length ≤ 100000000) (t : ByteArray) (bs : List Bx) (r0 r2 r3 : Option Vec) (cs : List (Option Vec)) :
  AF Tryz.prog 72 [.ptr 0 2, .d (.str t)] ⟨MB sel nu l.length nn ns uz :: bs, r0 :: NS l :: r2 :: r3 :: cs⟩ fun o h => ∃ b c, o = .ret (.d (.int .i64 (onceS l t).2)) ∧ h = ⟨MB sel nu (onceS l t).1.length nn ns uz :: (bs ++ b), r0 :: NS (onceS l t).1 :: r2 :: r3 :: (cs ++ c)⟩ := by
 have hI := f106_vec l (by omega) t
 have hmul : (l.length + 1) * 16 ≤ 140737488355328 := by omega
 cases h : idxS t l 0 with
 | some k =>
  have e : onceS l t = (l, k) := by unfold onceS; rw [h]
  rw [h] at hI
  rw [e]
  have hk : (0 : Int) ≤ k := by omega
  refine AF.go Tryz.func72 [] fun tb TB Q hQ => ?_
  simp [TB]
  refine ATT.callV Tryz.func72 60 [] [1] (hI) (by simp) (by simp) (by simp) (by simp) (by simp) (by simp) (by simp) ?_
  simp [TB, idxI, hk]
  refine ATT.fin2 hQ Tryz.func72 ?_
  simp
  all_goals (first | omega | exact ⟨_, rfl⟩ | skip)
 | none =>
  have e : onceS l t = (l ++ [t], l.length) := by unfold onceS; rw [h]
  rw [h] at hI
  rw [e]
  have hII : inI (l.length : Int) = true := inI_of (by omega) (by omega)
  refine AF.go Tryz.func72 [] fun tb TB Q hQ => ?_
  simp [TB]
  refine ATT.callV Tryz.func72 60 [] [1] (hI) (by simp) (by simp) (by simp) (by simp) (by simp) (by simp) (by simp) ?_
  simp [TB, idxI, hmul, hII]
  refine ATT.fin2 hQ Tryz.func72 ?_
  simp
  all_goals (first | omega | exact ⟨_, rfl⟩ | skip)
theorem f72_names (sel : ByteArray) (nu nl ns : Nat) (uz : D) (l : List ByteArray) (hl : l.length ≤ 100000000) (t : ByteArray) (bs : List Bx) (r0 r1 r3 : Option Vec) (cs : List (Option Vec)) :
  AF Tryz.prog 72 [.ptr 0 3, .d (.str t)] ⟨MB sel nu nl l.length ns uz :: bs, r0 :: r1 :: NS l :: r3 :: cs⟩ fun o h => ∃ b c, o = .ret (.d (.int .i64 (onceS l t).2)) ∧ h = ⟨MB sel nu nl (onceS l t).1.length ns uz :: (bs ++ b), r0 :: r1 :: NS (onceS l t).1 :: r3 :: (cs ++ c)⟩ := by
 have hI := f106_vec l (by omega) t
 have hmul : (l.length + 1) * 16 ≤ 140737488355328 := by omega
 cases h : idxS t l 0 with
 | some k =>
  have e : onceS l t = (l, k) := by unfold onceS; rw [h]
  rw [h] at hI
  rw [e]
  have hk : (0 : Int) ≤ k := by omega
  refine AF.go Tryz.func72 [] fun tb TB Q hQ => ?_
  simp [TB]
  refine ATT.callV Tryz.func72 60 [] [2] (hI) (by simp) (by simp) (by simp) (by simp) (by simp) (by simp) (by simp) ?_
  simp [TB, idxI, hk]
  refine ATT.fin2 hQ Tryz.func72 ?_
  simp
  all_goals (first | omega | exact ⟨_, rfl⟩ | skip)
 | none =>
  have e : onceS l t = (l ++ [t], l.length) := by unfold onceS; rw [h]
  rw [h] at hI
  rw [e]
  have hII : inI (l.length : Int) = true := inI_of (by omega) (by omega)
  refine AF.go Tryz.func72 [] fun tb TB Q hQ => ?_
  simp [TB]
  refine ATT.callV Tryz.func72 60 [] [2] (hI) (by simp) (by simp) (by simp) (by simp) (by simp) (by simp) (by simp) ?_
  simp [TB, idxI, hmul, hII]
  refine ATT.fin2 hQ Tryz.func72 ?_
  simp
  all_goals (first | omega | exact ⟨_, rfl⟩ | skip)
theorem f72_sels (sel : ByteArray) (nu nl nn : Nat) (uz : D) (l : List ByteArray) (hl : l.length ≤ 100000000) (t : ByteArray) (bs : List Bx) (r0 r1 r2 : Option Vec) (cs : List (Option Vec)) :
  AF Tryz.prog 72 [.ptr 0 4, .d (.str t)] ⟨MB sel nu nl nn l.length uz :: bs, r0 :: r1 :: r2 :: NS l :: cs⟩ fun o h => ∃ b c, o = .ret (.d (.int .i64 (onceS l t).2)) ∧ h = ⟨MB sel nu nl nn (onceS l t).1.length uz :: (bs ++ b), r0 :: r1 :: r2 :: NS (onceS l t).1 :: (cs ++ c)⟩ := by
 have hI := f106_vec l (by omega) t
 have hmul : (l.length + 1) * 16 ≤ 140737488355328 := by omega
 cases h : idxS t l 0 with
 | some k =>
  have e : onceS l t = (l, k) := by unfold onceS; rw [h]
  rw [h] at hI
  rw [e]
  have hk : (0 : Int) ≤ k := by omega
  refine AF.go Tryz.func72 [] fun tb TB Q hQ => ?_
  simp [TB]
  refine ATT.callV Tryz.func72 60 [] [3] (hI) (by simp) (by simp) (by simp) (by simp) (by simp) (by simp) (by simp) ?_
  simp [TB, idxI, hk]
  refine ATT.fin2 hQ Tryz.func72 ?_
  simp
  all_goals (first | omega | exact ⟨_, rfl⟩ | skip)
 | none =>
  have e : onceS l t = (l ++ [t], l.length) := by unfold onceS; rw [h]
  rw [h] at hI
  rw [e]
  have hII : inI (l.length : Int) = true := inI_of (by omega) (by omega)
  refine AF.go Tryz.func72 [] fun tb TB Q hQ => ?_
  simp [TB]
  refine ATT.callV Tryz.func72 60 [] [3] (hI) (by simp) (by simp) (by simp) (by simp) (by simp) (by simp) (by simp) ?_
  simp [TB, idxI, hmul, hII]
  refine ATT.fin2 hQ Tryz.func72 ?_
  simp
  all_goals (first | omega | exact ⟨_, rfl⟩ | skip)
theorem f75_ok (sel : ByteArray) (nu nl nn ns : Nat) (y : Us) (r : List Us) (bs : List Bx) (vc : List (Option Vec)) :
  AF Tryz.prog 75 [.ptr 0 0] ⟨MB sel nu nl nn ns (.sl false 6 (usD y :: r.map usD)) :: bs, vc⟩ fun o h => ∃ b, o = .ret (.d (usD y)) ∧ h = ⟨MB sel nu nl nn ns (.sl false 6 (r.map usD)) :: (bs ++ b), vc⟩ := by
 have h1 : (1 : Int) ≤ (r.length : Int) + 1 := by omega
 refine AF.go Tryz.func75 [] fun tb TB Q hQ => ?_
 simp [TB, usD, h1]
 refine ATT.fin2 hQ Tryz.func75 ?_
 simp [usD]
 all_goals (first | omega | exact ⟨_, rfl⟩ | skip)
def insD (x : Nat × Nat × Nat) : D := .agg [.int .i64 x.1, .int .i64 x.2.1, .int .i64 x.2.2]
abbrev IR (l : List (Nat × Nat × Nat)) : Option Vec := some ⟨false, 3, 0, l.map fun x => .d (insD x), 64⟩
def uv (x : CU) (j : Nat) : V := if x.ins = [] then .d (.agg [.int .i64 x.a, .int .i64 x.n, .sl true 0 []]) else .agg [.d (.int .i64 x.a), .d (.int .i64 x.n), .vs (j + 1 + 1 + 1 + 1) x.ins.length 0 x.ins.length]
abbrev UV (nl : Bool) (xs : List V) : Option Vec := some ⟨nl, 3, 0, xs, 63⟩
theorem f46_new (sel : ByteArray) (nu nl nn ns : Nat) (uz : D) (bs : List Bx) (unl : Bool) (xs : List V) (hxs : xs.length = nu) (u : Nat) (x : CU) (j : Nat) (hu : xs[u]? = some (uv x j)) (h0 : x.ins = []) (hnu : nu ≤ 100000000) (op a b : Nat) (r1 r2 r3 : Option Vec) (cs : List (Option Vec)) :
  AF Tryz.prog 46 [.ptr 0 0, .d (.int .i64 u), .d (.int .i64 op), .d (.int .i64 a), .d (.int .i64 b)] ⟨MB sel nu nl nn ns uz :: bs, UV unl xs :: r1 :: r2 :: r3 :: cs⟩
   fun o h => ∃ bb g, o = .ret (.d (.tup [])) ∧ h = ⟨MB sel nu nl nn ns uz :: (bs ++ bb), UV unl (xs.set u (uv (addU (op, a, b) x) (cs.length + 1))) :: r1 :: r2 :: r3 :: (cs ++ [g, IR (x.ins ++ [(op, a, b)])])⟩ := by
 have hul : u < xs.length := (List.getElem?_eq_some_iff.1 hu).1
 have hR : inR (u : Int) nu = true := inR_of (by omega) (by omega)
 have hy : ∀ h, xs[u]'h = uv x j := fun h => by rw [List.getElem?_eq_getElem h] at hu; simpa using hu
 have e : uv x j = .d (.agg [.int .i64 x.a, .int .i64 x.n, .sl true 0 []]) := by unfold uv; rw [if_pos h0]
 have e2 : uv (addU (op, a, b) x) (cs.length + 1) = .agg [.d (.int .i64 x.a), .d (.int .i64 x.n), .vs (cs.length + 1 + 1 + 1 + 1 + 1) 1 0 1] := by
  unfold uv addU
  rw [if_neg (by simp), h0]; rfl
 rw [e2, h0]
 rw [e] at hu hy
 subst hxs
 have b20 : Nat.beq 2 0 = false := rfl
 refine AF.go Tryz.func46 [(0, [oD 24 [(19, [0, 1, 2, 3, 4, 5, 6, 7, 8, 9, 10, 11, 12, 13, 14]), (20, [0, 1, 2, 3, 4, 5])]])] fun tb TB Q hQ => ?_
 simp [hR, hy, hul, b20]
 refine ATT.fin02 hQ Tryz.func46 ?_
 simp [insD]
 all_goals (first | omega | exact ⟨_, rfl⟩ | skip)
theorem f46_more (sel : ByteArray) (nu nl nn ns : Nat) (uz : D) (bs : List Bx) (unl : Bool) (xs : List V) (hxs : xs.length = nu) (u : Nat) (x : CU) (j : Nat) (hu : xs[u]? = some (uv x j)) (h0 : x.ins ≠ []) (hnu : nu ≤ 100000000) (hni : x.ins.length ≤ 100000000) (op a b : Nat) (r1 r2 r3 : Option Vec) (cs : List (Option Vec)) (hj : cs[j]? = some (IR x.ins)) :
  AF Tryz.prog 46 [.ptr 0 0, .d (.int .i64 u), .d (.int .i64 op), .d (.int .i64 a), .d (.int .i64 b)] ⟨MB sel nu nl nn ns uz :: bs, UV unl xs :: r1 :: r2 :: r3 :: cs⟩
   fun o h => ∃ bb g, o = .ret (.d (.tup [])) ∧ h = ⟨MB sel nu nl nn ns uz :: (bs ++ bb), UV unl (xs.set u (uv (addU (op, a, b) x) j)) :: r1 :: r2 :: r3 :: (cs.set j (IR (x.ins ++ [(op, a, b)])) ++ [g])⟩ := by
 have hul : u < xs.length := (List.getElem?_eq_some_iff.1 hu).1
 have hjl : j < cs.length := (List.getElem?_eq_some_iff.1 hj).1
 have hR : inR (u : Int) nu = true := inR_of (by omega) (by omega)
 have hy : ∀ h, xs[u]'h = uv x j := fun h => by rw [List.getElem?_eq_getElem h] at hu; simpa using hu
 have hjE : ∀ l : List (Option Vec), (cs ++ l)[j]? = some (IR x.ins) := get_more hj
 have hjS : ∀ (l : List (Option Vec)) (y : Option Vec), (cs ++ l).set j y = cs.set j y ++ l := fun l y => by rw [List.set_append_left _ _ hjl]
 have e : uv x j = .agg [.d (.int .i64 x.a), .d (.int .i64 x.n), .vs (j + 1 + 1 + 1 + 1) x.ins.length 0 x.ins.length] := by unfold uv; rw [if_neg h0]
 have e2 : uv (addU (op, a, b) x) j = .agg [.d (.int .i64 x.a), .d (.int .i64 x.n), .vs (j + 1 + 1 + 1 + 1) (x.ins.length + 1) 0 (x.ins.length + 1)] := by
  unfold uv addU
  rw [if_neg (by simp)]; simp
 rw [e2]
 rw [e] at hu hy
 subst hxs
 have b20 : Nat.beq 2 0 = false := rfl
 have hmul : (x.ins.length + 1) * 24 ≤ 140737488355328 := by omega
 refine AF.go Tryz.func46 [(0, [oD 24 [(19, [0, 1, 2, 3, 4, 5, 6, 7, 8, 9, 10, 11, 12, 13, 14]), (20, [0, 1, 2, 3, 4, 5])]])] fun tb TB Q hQ => ?_
 simp [hR, hy, hul, b20, hjE, hjS, hmul]
 refine ATT.fin02 hQ Tryz.func46 ?_
 simp [insD]
 all_goals (first | omega | exact ⟨_, rfl⟩ | skip)
 rw [IR, List.map_append]; rfl
end Go.SL
namespace Go.SL
def szC (c : CM) : Nat := c.us.length + (c.us.map fun x => x.ins.length).sum + c.lits.length + c.names.length + c.sels.length
theorem once_len (l : List ByteArray) (t : ByteArray) : l.length ≤ (onceS l t).1.length ∧ (onceS l t).1.length ≤ l.length + 1 := by
 unfold onceS
 split <;> simp
theorem modify_sum (x : Nat × Nat × Nat) : ∀ (l : List CU) (u : Nat), ((l.modify u (addU x)).map fun x => x.ins.length).sum ≤ (l.map fun x => x.ins.length).sum + 1
 | [], u => by simp
 | y :: r, 0 => by simp [addU]; omega
 | y :: r, u + 1 => by
  have := modify_sum x r u
  simp only [List.modify_succ_cons, List.map_cons, List.sum_cons] at this ⊢
  omega
def Gr (n : Nat) (c c' : CM) : Prop := c.us.length ≤ c'.us.length ∧ szC c' ≤ szC c + n
theorem Gr.refl (c : CM) : Gr 0 c c := ⟨Nat.le_refl _, Nat.le_refl _⟩
theorem Gr.trans {n m : Nat} {a b c : CM} (h : Gr n a b) (g : Gr m b c) : Gr (n + m) a c := ⟨Nat.le_trans h.1 g.1, by have := h.2; have := g.2; omega⟩
theorem Gr.up {n m : Nat} {a b : CM} (h : Gr n a b) (k : n ≤ m) : Gr m a b := ⟨h.1, by have := h.2; omega⟩
theorem addS_gr (u : Nat) (x : Nat × Nat × Nat) (c : CM) : Gr 1 c (addS u x c) := by
 refine ⟨by simp [addS], ?_⟩
 have := modify_sum x c.us u
 simp only [szC, addS, List.length_modify] at this ⊢
 omega
theorem litS_gr (u : Nat) (t : ByteArray) (c : CM) : Gr 2 c (litS u t c) := by
 have h := once_len c.lits t
 have g : Gr 1 c { c with lits := (onceS c.lits t).1 } := ⟨Nat.le_refl _, by simp only [szC]; omega⟩
 exact g.trans (addS_gr _ _ _)
theorem useS_gr (u : Nat) (x : Us) (c : CM) : Gr 2 c (useS u x c) := by
 unfold useS
 split
 ·exact (addS_gr _ _ _).up (by decide)
 split
 ·exact (addS_gr _ _ _).up (by decide)
 split
 ·exact (addS_gr _ _ _).up (by decide)
 split
 ·have h := once_len c.names x.t
  have g : Gr 1 c { c with names := (onceS c.names x.t).1 } := ⟨Nat.le_refl _, by simp only [szC]; omega⟩
  exact g.trans (addS_gr _ _ _)
 ·exact (addS_gr _ _ _).up (by decide)
theorem setS_gr (u : Nat) (x : Us) (c : CM) : Gr 1 c (setS u x c) := by
 unfold setS
 split <;> exact addS_gr _ _ _
theorem sendC_gr (u : Nat) (s : Bool) (t : ByteArray) (n : Nat) (c : CM) : Gr 2 c (sendC u s t n c) := by
 have h := once_len c.sels t
 have g : Gr 1 c { c with sels := (onceS c.sels t).1 } := ⟨Nat.le_refl _, by simp only [szC]; omega⟩
 exact g.trans (addS_gr _ _ _)
theorem newU_gr (a n : Nat) (c : CM) : Gr 1 c (newU a n c) := ⟨by simp [newU], by simp [szC, newU]; omega⟩
theorem endS_gr (u : Nat) (m : Bool) (k : Nat) (c : CM) : Gr 3 c (endS u m k c) := by
 unfold endS
 split
 ·split
  ·exact ((addS_gr _ _ _).trans (addS_gr _ _ _)).up (by decide)
  ·exact ((addS_gr _ _ _).trans ((addS_gr _ _ _).trans (addS_gr _ _ _))).up (by decide)
 ·split
  ·exact ((addS_gr _ _ _).trans (addS_gr _ _ _)).up (by decide)
  ·exact (addS_gr _ _ _).up (by decide)
theorem doneU_gr (u : Nat) (m : Bool) (k : Nat) (s : MS × Bool) : Gr 3 s.1.1 (doneU u m k s) := by
 unfold doneU
 split
 ·exact (Gr.refl _).up (by decide)
 ·exact endS_gr _ _ _ _
theorem pop_gr (u i : Nat) (c : CM) : Gr 1 c (if i = 0 then c else addS u (12, 0, 0) c) := by
 split
 ·exact (Gr.refl _).up (by decide)
 ·exact addS_gr _ _ _
section
variable {lt : Nd → ByteArray}
mutual
theorem mkP_gr {u : Nat} : ∀ {x : Nd} {s s' : MS}, mkP lt u x s = some s' → Gr (8 * nds x - 2) s.1 s'.1
 | .mk k t a n names kids, (c, us), s', h => by
  simp only [mkP] at h
  simp only [nds]
  split at h
  ·simp only [Option.some.injEq] at h; rw [← h]; exact (litS_gr _ _ _).up (by omega)
  split at h
  ·split at h
   ·simp at h
   ·simp only [Option.some.injEq] at h; rw [← h]; exact (useS_gr _ _ _).up (by omega)
  split at h
  ·split at h
   ·simp at h
   ·cases hk : mkH lt u kids (c, ‹List Us›) with
    | none => rw [hk] at h; simp at h
    | some s2 =>
     rw [hk] at h
     simp only [Option.map_some, Option.some.injEq] at h
     rw [← h]; exact ((mkH_gr hk).trans (setS_gr _ _ _)).up (by omega)
  split at h
  ·cases hk : mkL lt u kids (c, us) with
   | none => rw [hk] at h; simp at h
   | some s2 =>
    rw [hk] at h
    simp only [Option.map_some, Option.some.injEq] at h
    rw [← h]; exact ((mkL_gr hk).trans (sendC_gr _ _ _ _ _)).up (by omega)
  split at h
  ·exact (mkC_gr h).up (by omega)
  split at h
  ·cases hk : mkS lt c.us.length 0 kids (newU n names.length (addS u (10, c.us.length, 0) c), us) with
   | none => rw [hk] at h; simp at h
   | some s2 =>
    rw [hk] at h
    simp only [Option.map_some, Option.some.injEq] at h
    rw [← h]
    exact (((addS_gr _ _ _).trans (newU_gr _ _ _)).trans ((mkS_gr hk).trans (doneU_gr _ _ _ _))).up (by omega)
  ·simp only [Option.some.injEq] at h; rw [← h]; exact (Gr.refl _).up (by omega)
theorem mkH_gr {u : Nat} : ∀ {l : List Nd} {s s' : MS}, mkH lt u l s = some s' → Gr (8 * ndL l) s.1 s'.1
 | [], s, s', h => by simp [mkH] at h
 | x :: r, s, s', h => by
  simp only [mkH] at h
  simp only [ndL]
  exact (mkP_gr h).up (by omega)
theorem mkL_gr {u : Nat} : ∀ {l : List Nd} {s s' : MS}, mkL lt u l s = some s' → Gr (8 * ndL l) s.1 s'.1
 | [], s, s', h => by simp only [mkL, Option.some.injEq] at h; rw [← h]; exact Gr.refl _
 | x :: r, s, s', h => by
  simp only [mkL] at h
  simp only [ndL]
  cases hk : mkP lt u x s with
  | none => rw [hk] at h; simp at h
  | some s2 =>
   rw [hk] at h
   exact ((mkP_gr hk).trans (mkL_gr (s := s2) h)).up (by omega)
theorem mkC_gr {u : Nat} {sp : Bool} : ∀ {l : List Nd} {s s' : MS}, mkC lt u sp l s = some s' → Gr (8 * ndL l) s.1 s'.1
 | [], s, s', h => by simp [mkC] at h
 | x :: r, s, s', h => by
  simp only [mkC] at h
  simp only [ndL]
  cases hk : mkP lt u x s with
  | none => rw [hk] at h; simp at h
  | some s2 =>
   rw [hk] at h
   exact ((mkP_gr hk).trans (mkD_gr (s := s2) h)).up (by omega)
theorem mkD_gr {u : Nat} {sp : Bool} : ∀ {l : List Nd} {s s' : MS}, mkD lt u sp l s = some s' → Gr (8 * ndL l) s.1 s'.1
 | [], s, s', h => by simp [mkD] at h
 | [m], s, s', h => by
  simp only [mkD] at h
  simp only [ndL]
  exact (mkM_gr h).up (by have := m.count; omega)
 | m :: y :: r, s, s', h => by
  simp only [mkD] at h
  rw [ndL]
  cases hk : mkM lt u sp m (addS u (11, 0, 0) s.1, s.2) with
  | none => rw [hk] at h; simp at h
  | some s2 =>
   rw [hk] at h
   have h1 := (addS_gr u (11, 0, 0) s.1).trans (mkM_gr hk)
   have h2 := (addS_gr u (12, 0, 0) s2.1).trans (mkD_gr (l := y :: r) h)
   exact (h1.trans h2).up (by have := m.count; omega)
theorem mkM_gr {u : Nat} {sp : Bool} : ∀ {m : Nd} {s s' : MS}, mkM lt u sp m s = some s' → Gr (8 * nds m - 6) s.1 s'.1
 | .mk k t a n names kids, s, s', h => by
  simp only [mkM] at h
  simp only [nds]
  cases hk : mkL lt u kids s with
  | none => rw [hk] at h; simp at h
  | some s2 =>
   rw [hk] at h
   simp only [Option.map_some, Option.some.injEq] at h
   rw [← h]; exact ((mkL_gr hk).trans (sendC_gr _ _ _ _ _)).up (by omega)
theorem mkS_gr {u : Nat} : ∀ {l : List Nd} {i : Nat} {s : MS} {s' : MS × Bool}, mkS lt u i l s = some s' → Gr (8 * ndL l) s.1 s'.1.1
 | [], i, s, s', h => by simp only [mkS, Option.some.injEq] at h; rw [← h]; exact Gr.refl _
 | .mk k t a n names kids :: r, i, s, s', h => by
  simp only [mkS] at h
  simp only [ndL]
  split at h
  ·cases hk : mkH lt u kids (if i = 0 then s.1 else addS u (12, 0, 0) s.1, s.2) with
   | none => rw [hk] at h; simp at h
   | some s2 =>
    rw [hk] at h
    simp only [Option.map_some, Option.some.injEq] at h
    rw [← h]
    have h1 := (pop_gr u i s.1).trans (mkH_gr hk)
    simp only [nds]
    exact (h1.trans (addS_gr _ _ _)).up (by omega)
  ·cases hk : mkP lt u (.mk k t a n names kids) (if i = 0 then s.1 else addS u (12, 0, 0) s.1, s.2) with
   | none => rw [hk] at h; simp at h
   | some s2 =>
    rw [hk] at h
    have h1 := (pop_gr u i s.1).trans (mkP_gr hk)
    exact (h1.trans (mkS_gr (s := s2) h)).up (by simp only [nds]; omega)
end
end
end Go.SL
namespace Go.SL
open Go.Proofs
set_option maxRecDepth 10000
def InsOK (us : List CU) (js : List Nat) (cs : List (Option Vec)) : Prop :=
 js.length = us.length ∧ (∀ (u : Nat) (x : CU) (j : Nat), us[u]? = some x → js[u]? = some j → x.ins ≠ [] → cs[j]? = some (IR x.ins)) ∧
 (∀ (u v : Nat) (x y : CU) (j : Nat), us[u]? = some x → us[v]? = some y → js[u]? = some j → js[v]? = some j → x.ins ≠ [] → y.ins ≠ [] → u = v)
abbrev MK (sel : ByteArray) (c : CM) (uz : D) (js : List Nat) (bs : List Bx) (cs : List (Option Vec)) : H :=
 ⟨MB sel c.us.length c.lits.length c.names.length c.sels.length uz :: bs, UV c.us.isEmpty (List.zipWith uv c.us js) :: NS c.lits :: NS c.names :: NS c.sels :: cs⟩
def MkP (sel : ByteArray) (c : CM) (uz : D) (bs : List Bx) (o : Out) (h : H) : Prop := o = .ret (.d (.tup [])) ∧ ∃ js b cs, h = MK sel c uz js (bs ++ b) cs ∧ InsOK c.us js cs
theorem szC_at {c : CM} {u : Nat} {x : CU} (h : c.us[u]? = some x) : x.ins.length ≤ szC c := by
 have : ∀ (l : List CU) (u : Nat), l[u]? = some x → x.ins.length ≤ (l.map fun x => x.ins.length).sum := by
  intro l
  induction l with
  | nil => intro u h; simp at h
  | cons y r ih =>
   intro u h
   cases u with
   | zero => simp at h; subst h; simp
   | succ u => have := ih u (by simpa using h); simp; omega
 have := this c.us u h
 unfold szC; omega
theorem modify_at {α : Type} {l : List α} {u : Nat} {x : α} (f : α → α) (h : l[u]? = some x) : l.modify u f = l.set u (f x) := by
 apply List.ext_getElem?
 intro i
 rw [List.getElem?_modify, List.getElem?_set]
 by_cases e : u = i
 ·subst e
  have hl := (List.getElem?_eq_some_iff.1 h).1
  have hv := (List.getElem?_eq_some_iff.1 h).2
  simp [hl, hv]
 ·simp [e]
theorem zip_set {α β γ : Type} (f : α → β → γ) (l : List α) (m : List β) (u : Nat) (a : α) (b : β) : (List.zipWith f l m).set u (f a b) = List.zipWith f (l.set u a) (m.set u b) := by
 apply List.ext_getElem?
 intro i
 by_cases e : u = i
 ·subst e
  simp only [List.getElem?_set, List.getElem?_zipWith, List.length_zipWith]
  by_cases h1 : u < l.length <;> by_cases h2 : u < m.length <;> simp [h1, h2] <;> omega
 ·simp only [List.getElem?_set, List.getElem?_zipWith, if_neg e]
theorem set_same {α : Type} {l : List α} {u : Nat} {a : α} (h : l[u]? = some a) : l.set u a = l := by
 apply List.ext_getElem?
 intro i
 by_cases e : u = i
 ·subst e
  rw [List.getElem?_set_self (List.getElem?_eq_some_iff.1 h).1, h]
 ·rw [List.getElem?_set_ne e]
theorem zip_at {α β γ : Type} {f : α → β → γ} {l : List α} {m : List β} {u : Nat} {a : α} {b : β} (h : l[u]? = some a) (g : m[u]? = some b) : (List.zipWith f l m)[u]? = some (f a b) := by
 simp [List.getElem?_zipWith, h, g]
theorem isEmpty_set {α : Type} (l : List α) (u : Nat) (a : α) : (l.set u a).isEmpty = l.isEmpty := by cases l <;> cases u <;> rfl
theorem add_ok (sel : ByteArray) (c : CM) (uz : D) (js : List Nat) (bs : List Bx) (cs : List (Option Vec)) (hI : InsOK c.us js cs) (u : Nat) (hu : u < c.us.length) (hz : szC c ≤ 100000000) (op a b : Nat) :
  AF Tryz.prog 46 [.ptr 0 0, .d (.int .i64 u), .d (.int .i64 op), .d (.int .i64 a), .d (.int .i64 b)] (MK sel c uz js bs cs) (MkP sel (addS u (op, a, b) c) uz bs) := by
 obtain ⟨i1, i2, i3⟩ := hI
 obtain ⟨x, hx⟩ : ∃ x, c.us[u]? = some x := ⟨_, List.getElem?_eq_getElem hu⟩
 obtain ⟨j, hj⟩ : ∃ j, js[u]? = some j := ⟨_, List.getElem?_eq_getElem (by omega)⟩
 have hlen : (List.zipWith uv c.us js).length = c.us.length := by simp; omega
 have hnu : c.us.length ≤ 100000000 := by unfold szC at hz; omega
 have hm : (addS u (op, a, b) c).us = c.us.set u (addU (op, a, b) x) := modify_at _ hx
 have key : ∀ (v : Nat) (y : CU), (c.us.set u (addU (op, a, b) x))[v]? = some y → (v = u ∧ y = addU (op, a, b) x) ∨ (v ≠ u ∧ c.us[v]? = some y) := fun v y h => by
  by_cases e : v = u
  ·subst e
   rw [List.getElem?_set_self hu] at h
   simp only [Option.some.injEq] at h
   exact .inl ⟨rfl, h.symm⟩
  ·rw [List.getElem?_set_ne (fun q => e q.symm)] at h
   exact .inr ⟨e, h⟩
 by_cases h0 : x.ins = []
 ·refine (f46_new sel _ _ _ _ uz bs c.us.isEmpty _ hlen u x j (zip_at hx hj) h0 hnu op a b _ _ _ cs).mono fun o h ⟨bb, g, e1, e2⟩ => ⟨e1, js.set u (cs.length + 1), bb, cs ++ [g, IR (x.ins ++ [(op, a, b)])], ?_, ?_⟩
  ·rw [e2, zip_set, MK, hm, List.length_set, isEmpty_set]; rfl
  ·rw [hm]
   refine ⟨by simp [i1], fun v y k h1 h2 h3 => ?_, fun v w y z k h1 h2 h3 h4 h5 h6 => ?_⟩
   ·rcases key v y h1 with ⟨q1, q2⟩ | ⟨q1, q2⟩
    ·subst q1 q2
     rw [List.getElem?_set_self (by omega)] at h2
     simp only [Option.some.injEq] at h2
     subst h2
     rw [List.getElem?_append_right (by omega)]
     simp [addU]
    ·rw [List.getElem?_set_ne (fun e => q1 e.symm)] at h2
     exact get_more (i2 v y k q2 h2 h3) _
   ·rcases key v y h1 with ⟨q1, q2⟩ | ⟨q1, q2⟩ <;> rcases key w z h2 with ⟨p1, p2⟩ | ⟨p1, p2⟩
    ·omega
    ·subst q1 q2
     rw [List.getElem?_set_self (by omega)] at h3
     rw [List.getElem?_set_ne (fun e => p1 e.symm)] at h4
     simp only [Option.some.injEq] at h3
     have := (List.getElem?_eq_some_iff.1 (i2 w z k p2 h4 h6)).1
     omega
    ·subst p1 p2
     rw [List.getElem?_set_self (by omega)] at h4
     rw [List.getElem?_set_ne (fun e => q1 e.symm)] at h3
     simp only [Option.some.injEq] at h4
     have := (List.getElem?_eq_some_iff.1 (i2 v y k q2 h3 h5)).1
     omega
    ·rw [List.getElem?_set_ne (fun e => q1 e.symm)] at h3
     rw [List.getElem?_set_ne (fun e => p1 e.symm)] at h4
     exact i3 v w y z k q2 p2 h3 h4 h5 h6
 ·have hcj := i2 u x j hx hj h0
  refine (f46_more sel _ _ _ _ uz bs c.us.isEmpty _ hlen u x j (zip_at hx hj) h0 hnu (Nat.le_trans (szC_at hx) hz) op a b _ _ _ cs hcj).mono fun o h ⟨bb, g, e1, e2⟩ => ⟨e1, js, bb, cs.set j (IR (x.ins ++ [(op, a, b)])) ++ [g], ?_, ?_⟩
  ·rw [e2, zip_set, set_same hj, MK, hm, List.length_set, isEmpty_set]; rfl
  ·have hjl := (List.getElem?_eq_some_iff.1 hcj).1
   rw [hm]
   refine ⟨by simp [i1], fun v y k h1 h2 h3 => ?_, fun v w y z k h1 h2 h3 h4 h5 h6 => ?_⟩
   ·rcases key v y h1 with ⟨q1, q2⟩ | ⟨q1, q2⟩
    ·subst q1 q2
     rw [hj] at h2
     simp only [Option.some.injEq] at h2
     subst h2
     refine get_more ?_ _
     rw [List.getElem?_set_self hjl]; rfl
    ·refine get_more ?_ _
     rw [List.getElem?_set_ne (fun e => q1 (by subst e; exact i3 v u y x j q2 hx h2 hj h3 h0))]
     exact i2 v y k q2 h2 h3
   ·rcases key v y h1 with ⟨q1, q2⟩ | ⟨q1, q2⟩ <;> rcases key w z h2 with ⟨p1, p2⟩ | ⟨p1, p2⟩
    ·omega
    ·subst q1
     exact i3 v w x z k hx p2 h3 h4 h0 h6
    ·subst p1
     exact i3 v w y x k q2 hx h3 h4 h5 h0
    ·exact i3 v w y z k q2 p2 h3 h4 h5 h6
theorem InsOK.more {us : List CU} {js : List Nat} {cs : List (Option Vec)} (h : InsOK us js cs) (c : List (Option Vec)) : InsOK us js (cs ++ c) :=
 ⟨h.1, fun u x j h1 h2 h3 => get_more (h.2.1 u x j h1 h2 h3) c, h.2.2⟩
theorem f74_ok (sel : ByteArray) (c : CM) (y : Us) (r : List Us) (js : List Nat) (bs : List Bx) (cs : List (Option Vec)) (hI : InsOK c.us js cs) (u : Nat) (hu : u < c.us.length) (hz : szC c ≤ 999990) :
  AF Tryz.prog 74 [.ptr 0 0, .d (.int .i64 u)] (MK sel c (.sl false 6 (usD y :: r.map usD)) js bs cs) (MkP sel (useS u y c) (.sl false 6 (r.map usD)) bs) := by
 have hU := fun bs vc => f75_ok sel c.us.length c.lits.length c.names.length c.sels.length y r bs vc
 obtain ⟨a0, t0, k0, d0, i0, w0⟩ := y
 refine AF.go Tryz.func74 [(10, [oD 10 [(8, [0, 1])]])] fun tb TB Q hQ => ?_
 simp [TB]
 refine ATT.callT Tryz.func74 60 (hU _ _) (by simp) (by simp) (by simp) fun out hC hE => ?_
 obtain ⟨b, e1, e2⟩ := hE
 simp only [usD] at e1
 subst e1 e2
 by_cases h2 : k0 = 2
 ·subst h2
  have e : useS u ⟨a0, t0, 2, d0, i0, w0⟩ c = addS u (7, i0, 0) c := rfl
  rw [e] at hQ
  simp [TB]
  refine ATT.callT Tryz.func74 60 (add_ok sel c _ js _ cs hI u hu (by omega) 7 i0 0) (by simp) (by simp) (by simp) fun out hC hE => ?_
  obtain ⟨e1, js', b', cs', e2, hI'⟩ := hE
  subst e1 e2
  simp
  refine ATT.fin02 hQ Tryz.func74 ?_
  exact ⟨by simp, rfl, js', _, cs', rfl, hI'⟩
 by_cases h3 : k0 = 3
 ·subst h3
  have e : useS u ⟨a0, t0, 3, d0, i0, w0⟩ c = addS u (1, d0, i0) c := rfl
  rw [e] at hQ
  simp [TB]
  refine ATT.callT Tryz.func74 60 (add_ok sel c _ js _ cs hI u hu (by omega) 1 d0 i0) (by simp) (by simp) (by simp) fun out hC hE => ?_
  obtain ⟨e1, js', b', cs', e2, hI'⟩ := hE
  subst e1 e2
  simp
  refine ATT.fin02 hQ Tryz.func74 ?_
  exact ⟨by simp, rfl, js', _, cs', rfl, hI'⟩
 by_cases h4 : k0 = 4
 ·subst h4
  have e : useS u ⟨a0, t0, 4, d0, i0, w0⟩ c = addS u (3, i0, 0) c := rfl
  rw [e] at hQ
  simp [TB]
  refine ATT.callT Tryz.func74 60 (add_ok sel c _ js _ cs hI u hu (by omega) 3 i0 0) (by simp) (by simp) (by simp) fun out hC hE => ?_
  obtain ⟨e1, js', b', cs', e2, hI'⟩ := hE
  subst e1 e2
  simp
  refine ATT.fin02 hQ Tryz.func74 ?_
  exact ⟨by simp, rfl, js', _, cs', rfl, hI'⟩
 by_cases h5 : k0 = 5
 ·subst h5
  have e : useS u ⟨a0, t0, 5, d0, i0, w0⟩ c = addS u (5, (onceS c.names t0).2, 0) { c with names := (onceS c.names t0).1 } := rfl
  have hl := once_len c.names t0
  have hn : c.names.length ≤ szC c := by unfold szC; omega
  rw [e] at hQ
  simp [TB]
  refine ATT.callRT Tryz.func74 60 (f72_names sel c.us.length c.lits.length c.sels.length _ c.names (by omega) t0 _ _ _ _ cs) (by simp) (by simp) (by simp) fun out hC hE => ?_
  obtain ⟨b2, c2, e1, e2⟩ := hE
  subst e1 e2
  simp
  refine ATT.callRT Tryz.func74 60 (add_ok sel { c with names := (onceS c.names t0).1 } _ js _ (cs ++ c2) (hI.more c2) u hu (by unfold szC at hz ⊢; simp only; omega) 5 (onceS c.names t0).2 0) (by simp) (by simp) (by simp) fun out hC hE => ?_
  obtain ⟨e1, js', b', cs', e2, hI'⟩ := hE
  subst e1 e2
  simp
  refine ATT.fin02 hQ Tryz.func74 ?_
  exact ⟨by simp, rfl, js', _, cs', rfl, hI'⟩
 ·have e : useS u ⟨a0, t0, k0, d0, i0, w0⟩ c = addS u (6, 0, 0) c := by unfold useS; rw [if_neg h2, if_neg h3, if_neg h4, if_neg h5]
  rw [e] at hQ
  simp [TB, h2, h3, h4, h5]
  refine ATT.callT Tryz.func74 60 (add_ok sel c _ js _ cs hI u hu (by omega) 6 0 0) (by simp) (by simp) (by simp) fun out hC hE => ?_
  obtain ⟨e1, js', b', cs', e2, hI'⟩ := hE
  subst e1 e2
  simp
  refine ATT.fin02 hQ Tryz.func74 ?_
  exact ⟨by simp, rfl, js', _, cs', rfl, hI'⟩
end Go.SL
namespace Go.SL
open Go.Proofs
set_option maxRecDepth 10000
abbrev uzD (nl : Bool) (us : List Us) : D := .sl nl 6 (us.map usD)
def MkQ (sel : ByteArray) (s : MS) (bs : List Bx) (o : Out) (h : H) : Prop := ∃ nl, MkP sel s.1 (uzD nl s.2) bs o h ∧ (nl = true → s.2 = [])
def PartM (x : Nd) : Prop := ∀ (sel : ByteArray) (c : CM) (us : List Us) (nl : Bool) (js : List Nat) (bs : List Bx) (cs : List (Option Vec)) (un : Nat) (s' : MS) (ud : D), InsOK c.us js cs → un < c.us.length → szC c + 8 * nds x ≤ 999980 → (nl = true → us = []) →
 mkP litB un x (c, us) = some s' → NdR x ud → AF Tryz.prog 47 [.ptr 0 0, .d (.int .i64 un), .d ud] (MK sel c (uzD nl us) js bs cs) (MkQ sel s' bs)
set_option maxHeartbeats 1000000 in
theorem f76_ok (args : List Nd) (hk : ∀ y ∈ args, PartM y) (hn : args.length ≤ 10000) (sel : ByteArray) (c : CM) (us : List Us) (nl : Bool) (js : List Nat) (bs : List Bx) (cs : List (Option Vec)) (un : Nat) (s' : MS) (x : Nd) (xd : D) (t : ByteArray) (anl : Bool) (az : Nat) (ads : List D)
  (hI : InsOK c.us js cs) (hu : un < c.us.length) (hz : szC c + 8 * ndL args ≤ 999970) (hnl : nl = true → us = []) (hm : mkL litB un args (c, us) = some s') (hx : NdR x xd) (h3 : anl = true → args = []) (h4 : anl = false → az = 6) (h5 : NdRL args ads) :
  AF Tryz.prog 76 [.ptr 0 0, .d (.int .i64 un), .d xd, .d (.str t), .d (.sl anl az ads)] (MK sel c (uzD nl us) js bs cs) (MkQ sel (sendC un (supS x) t args.length s'.1, s'.2) bs) := by
 obtain ⟨nl1_x, z1_x, nl2_x, z2_x, ds_x, hv_x, ha_x, hb_x, hc_x, hd_x, he_x⟩ := hx.shape
 subst hv_x
 have hdl := h5.length
 refine AF.go Tryz.func76 [] fun tb TB Q hQ => ?_
 simp [TB, hdl]
 refine ATT.loopG 60 rfl (fun ((i, c1, us1, nl1, js1, cs1) : Nat × CM × List Us × Bool × List Nat × List (Option Vec)) => args.length - i) (fun ((i, c1, us1, nl1, js1, cs1) : Nat × CM × List Us × Bool × List Nat × List (Option Vec)) => i ≤ args.length ∧ mkL litB un (args.drop i) (c1, us1) = some s' ∧ szC c1 + 8 * ndL (args.drop i) ≤ 999970 ∧ InsOK c1.us js1 cs1 ∧ un < c1.us.length ∧ (nl1 = true → us1 = [])) (fun ((i, c1, us1, nl1, js1, cs1) : Nat × CM × List Us × Bool × List Nat × List (Option Vec)) => [(0, .ptr 0 0), (1, .d (.int .i64 un)), (3, .d (.str t)), (4, .d (.sl anl az ads)), (7, .ptr (bs.length + 1) 0), (13, .d (.sl anl az ads)), (14, .d (.int .i64 args.length)), (15, .d (.int .i64 i))]) (fun ((i, c1, us1, nl1, js1, cs1) : Nat × CM × List Us × Bool × List Nat × List (Option Vec)) => MB sel c1.us.length c1.lits.length c1.names.length c1.sels.length (uzD nl1 us1) :: (bs ++ [.cells [.d (.int .i64 x.k), .d (.str x.t), .d (.int .i64 x.a), .d (.int .i64 x.n), .d (.sl nl1_x z1_x (x.names.map .str)), .d (.sl nl2_x z2_x ds_x)] 50])) (fun ((i, c1, us1, nl1, js1, cs1) : Nat × CM × List Us × Bool × List Nat × List (Option Vec)) => UV c1.us.isEmpty (List.zipWith uv c1.us js1) :: NS c1.lits :: NS c1.names :: NS c1.sels :: cs1) ((0, c, us, nl, js, cs)) (by (try dsimp only); exact ⟨Nat.zero_le _, hm, hz, hI, hu, hnl⟩) (by simp <;> omega) (by simp) (by simp) ?_
 intro ⟨i, c1, us1, nl1, js1, cs1⟩ u w hI ih
 try simp only at hI ih
 obtain ⟨k1, k2, k3, k4, k5, k6⟩ := hI
 by_cases hi : i < args.length
 ·have hnl2 : anl = false := by cases anl with | false => rfl | true => (have := h3 rfl; rw [this] at hi; simp at hi)
  subst hnl2
  have := h4 rfl
  subst this
  obtain ⟨y, hy⟩ : ∃ y, args[i]? = some y := ⟨_, List.getElem?_eq_getElem hi⟩
  obtain ⟨d, hd, hyd⟩ := h5.at hy
  have hdE : ∀ h, ads[i]'h = d := fun h => by rw [List.getElem?_eq_getElem h] at hd; simpa using hd
  have hi' : (i : Int) < args.length := by omega
  have hII : inI ((i : Int) + 1) = true := inI_of (by omega) (by omega)
  rw [nd_drop hy] at k2 k3
  simp only [mkL] at k2
  simp only [ndL] at k3
  cases hp : mkP litB un y (c1, us1) with
  | none => rw [hp] at k2; simp at k2
  | some s2 =>
   rw [hp] at k2
   have hgr := mkP_gr hp
   have hcall := hk y (List.mem_of_getElem? hy) sel c1 us1 nl1 js1
   have hyd' := hyd
   obtain ⟨nl1_d, z1_d, nl2_d, z2_d, ds_d, hv_d, ha_d, hb_d, hc_d, hd_d, he_d⟩ := hyd.shape
   have hw_d := hv_d
   subst hw_d
   simp [TB, hdl, hi, hi', hdE]
   refine ATT.callT Tryz.func76 60 (hcall _ (cs1 ++ w) un s2 _ (k4.more w) k5 (by omega) k6 hp hyd') (by simp) (by simp) (by simp) fun out hC hE => ?_
   obtain ⟨nl', ⟨e1, js', b', cs', e2, hI'⟩, hn'⟩ := hE
   subst e1 e2
   simp [TB, hII]
   refine ih (i + 1, s2.1, s2.2, nl', js', cs') (by first | ((try dsimp only); omega) | (simp [hdl, hi, hi', hd, hdE, hII] <;> omega)) (by (try dsimp only); exact ⟨hi, k2, by have := hgr.2; simp only at this; omega, hI', Nat.lt_of_lt_of_le k5 hgr.1, hn'⟩) _ _ _ (by simp <;> omega) (by simp <;> omega) (by simp <;> omega)
 ·have hi' : ¬ (i : Int) < args.length := by omega
  rw [List.drop_eq_nil_of_le (by omega)] at k2
  simp only [mkL, Option.some.injEq] at k2
  subst k2
  by_cases x5 : x.k = 5
  ·by_cases xt : x.t = ⟨#[115, 117, 112, 101, 114]⟩
   ·have e : supS x = true := by unfold supS superT; rw [decide_eq_true x5, decide_eq_true xt]; rfl
    simp only [e, sendC, if_true] at hQ
    simp [TB, hi', eq_true x5, eq_true xt]
    refine ATT.callT Tryz.func76 60 (f72_sels sel c1.us.length c1.lits.length c1.names.length _ c1.sels (by unfold szC at k3; omega) t _ _ _ _ (cs1 ++ w)) (by simp) (by simp) (by simp) fun out hC hE => ?_
    obtain ⟨b2, c2, e1, e2⟩ := hE
    subst e1 e2
    simp [hdl]
    refine ATT.callT Tryz.func76 60 (add_ok sel { c1 with sels := (onceS c1.sels t).1 } (uzD nl1 us1) js1 _ (cs1 ++ (w ++ c2)) (k4.more (w ++ c2)) un k5 (by have := once_len c1.sels t; unfold szC at k3 ⊢; simp only; omega) 9 (onceS c1.sels t).2 args.length) (by simp) (by simp) (by simp) fun out hC hE => ?_
    obtain ⟨e1, js', b', cs', e2, hI'⟩ := hE
    subst e1 e2
    simp
    refine ATT.fin02 hQ Tryz.func76 ?_
    exact ⟨by simp, nl1, ⟨rfl, js', _, cs', rfl, hI'⟩, k6⟩
   ·have e : supS x = false := by unfold supS superT; rw [decide_eq_false xt]; simp
    simp only [e, sendC, Bool.false_eq_true, if_false] at hQ
    simp [TB, hi', eq_true x5, xt]
    refine ATT.callT Tryz.func76 60 (f72_sels sel c1.us.length c1.lits.length c1.names.length _ c1.sels (by unfold szC at k3; omega) t _ _ _ _ (cs1 ++ w)) (by simp) (by simp) (by simp) fun out hC hE => ?_
    obtain ⟨b2, c2, e1, e2⟩ := hE
    subst e1 e2
    simp [hdl]
    refine ATT.callT Tryz.func76 60 (add_ok sel { c1 with sels := (onceS c1.sels t).1 } (uzD nl1 us1) js1 _ (cs1 ++ (w ++ c2)) (k4.more (w ++ c2)) un k5 (by have := once_len c1.sels t; unfold szC at k3 ⊢; simp only; omega) 8 (onceS c1.sels t).2 args.length) (by simp) (by simp) (by simp) fun out hC hE => ?_
    obtain ⟨e1, js', b', cs', e2, hI'⟩ := hE
    subst e1 e2
    simp
    refine ATT.fin02 hQ Tryz.func76 ?_
    exact ⟨by simp, nl1, ⟨rfl, js', _, cs', rfl, hI'⟩, k6⟩
  ·have e : supS x = false := by unfold supS; rw [decide_eq_false x5]; rfl
   simp only [e, sendC, Bool.false_eq_true, if_false] at hQ
   simp [TB, hi', x5]
   refine ATT.callT Tryz.func76 60 (f72_sels sel c1.us.length c1.lits.length c1.names.length _ c1.sels (by unfold szC at k3; omega) t _ _ _ _ (cs1 ++ w)) (by simp) (by simp) (by simp) fun out hC hE => ?_
   obtain ⟨b2, c2, e1, e2⟩ := hE
   subst e1 e2
   simp [hdl]
   refine ATT.callT Tryz.func76 60 (add_ok sel { c1 with sels := (onceS c1.sels t).1 } (uzD nl1 us1) js1 _ (cs1 ++ (w ++ c2)) (k4.more (w ++ c2)) un k5 (by have := once_len c1.sels t; unfold szC at k3 ⊢; simp only; omega) 8 (onceS c1.sels t).2 args.length) (by simp) (by simp) (by simp) fun out hC hE => ?_
   obtain ⟨e1, js', b', cs', e2, hI'⟩ := hE
   subst e1 e2
   simp
   refine ATT.fin02 hQ Tryz.func76 ?_
   exact ⟨by simp, nl1, ⟨rfl, js', _, cs', rfl, hI'⟩, k6⟩
end Go.SL
namespace Go.SL
open Go.Proofs
set_option maxRecDepth 10000
theorem mkS_cons {lt : Nd → ByteArray} (un i : Nat) (y : Nd) (r : List Nd) (s : MS) : mkS lt un i (y :: r) s =
  if y.k = 11 then (mkH lt un y.kids (if i = 0 then s.1 else addS un (12, 0, 0) s.1, s.2)).map fun s => ((addS un (14, 0, 0) s.1, s.2), true)
  else (mkP lt un y (if i = 0 then s.1 else addS un (12, 0, 0) s.1, s.2)).bind fun s => mkS lt un (i + 1) r s := by
 cases y; rfl
theorem fine_ret {y : Nd} (h : Fine y) (k : y.k = 11) : ∃ z, y.kids = [z] := by
 cases y with
 | mk k t a n names kids =>
  simp only [Nd.k] at k
  simp only [Fine] at h
  have := h.2.2.1 (.inl k)
  match kids, this with
  | [z], _ => exact ⟨z, rfl⟩
def UnitM (x : Nd) : Prop := ∀ (sel : ByteArray) (c : CM) (us : List Us) (nl : Bool) (js : List Nat) (bs : List Bx) (cs : List (Option Vec)) (s : MS × Bool) (ud : D), InsOK c.us js cs → szC c + 8 * nds x ≤ 999982 → (nl = true → us = []) →
 mkS litB c.us.length 0 x.kids (newU x.n x.names.length c, us) = some s → NdR x ud → AF Tryz.prog 31 [.ptr 0 0, .d ud] (MK sel c (uzD nl us) js bs cs) (MkQ sel (doneU c.us.length (decide (x.k = 12) && !decide (x.t = ⟨#[]⟩)) x.kids.length s, s.1.2) bs)
theorem newU_ok {c : CM} {js : List Nat} {cs : List (Option Vec)} (h : InsOK c.us js cs) (a n : Nat) : InsOK (newU a n c).us (js ++ [0]) cs := by
 obtain ⟨h1, h2, h3⟩ := h
 have key : ∀ (v : Nat) (y : CU), (newU a n c).us[v]? = some y → y.ins ≠ [] → c.us[v]? = some y ∧ v < c.us.length := fun v y e hy => by
  simp only [newU] at e
  rcases Nat.lt_or_ge v c.us.length with hv | hv
  ·rw [List.getElem?_append_left hv] at e; exact ⟨e, hv⟩
  ·rw [List.getElem?_append_right hv] at e
   cases hq : v - c.us.length with
   | zero => rw [hq] at e; simp at e; subst e; simp at hy
   | succ q => rw [hq] at e; simp at e
 have kj : ∀ (v j : Nat), v < c.us.length → (js ++ [0])[v]? = some j → js[v]? = some j := fun v j hv e => by rw [List.getElem?_append_left (by omega)] at e; exact e
 refine ⟨by simp [newU, h1], fun v y j e1 e2 e3 => ?_, fun v w y z j e1 e2 e3 e4 e5 e6 => ?_⟩
 ·obtain ⟨q1, q2⟩ := key v y e1 e3
  exact h2 v y j q1 (kj v j q2 e2) e3
 ·obtain ⟨q1, q2⟩ := key v y e1 e5
  obtain ⟨p1, p2⟩ := key w z e2 e6
  exact h3 v w y z j q1 p1 (kj v j q2 e3) (kj w j p2 e4) e5 e6
theorem newU_row {c : CM} {js : List Nat} (h : js.length = c.us.length) (a n : Nat) : List.zipWith uv c.us js ++ [.d (.agg [.int .i64 a, .int .i64 n, .sl true 0 []])] = List.zipWith uv (newU a n c).us (js ++ [0]) := by
 simp only [newU]
 rw [List.zipWith_append h.symm]
 rfl
set_option maxHeartbeats 1000000 in
theorem f31_ok {Q0 : ByteArray → Nat → Prop} (x : Nd) (hg : Good Q0 x) (hf : Fine x) (hk : ∀ y, SizeOf.sizeOf y < SizeOf.sizeOf x → Good Q0 y → Fine y → PartM y) : UnitM x := by
 intro sel c us nl js bs cs s ud hI hz hnl hm hud
 obtain ⟨nl1, z1, nl2, z2, ds, e, h1, h2, h3, h4, h5⟩ := hud.shape
 subst e
 have ho := hg.one
 have hl2 : x.kids.length ≤ 10000 := ho.2.1
 have hdl := h5.length
 have hn := Nd.count x
 have hmul : (c.us.length + 1) * 40 ≤ 140737488355328 := by unfold szC at hz; omega
 have hrow := newU_row hI.1 x.n x.names.length
 have hmin : min c.us.length js.length = c.us.length := by have := hI.1; omega
 refine AF.go Tryz.func31 [(2, [oD 18 [(12, [0, 1, 2, 3, 4, 5]), (13, [0])]])] fun tb TB Q hQ => ?_
 simp [TB, hdl, hmul, hmin]
 rw [hrow]
 have g1 : (newU x.n x.names.length c).us.isEmpty = false := by simp [newU]
 have g2 : (newU x.n x.names.length c).us.length = c.us.length + 1 := by simp [newU]
 have g3 : (newU x.n x.names.length c).lits = c.lits := rfl
 have g4 : (newU x.n x.names.length c).names = c.names := rfl
 have g5 : (newU x.n x.names.length c).sels = c.sels := rfl
 have hgz := (newU_gr x.n x.names.length c).2
 refine ATT.loopG 60 rfl (fun ((i, c1, us1, nq, js1, cs1) : Nat × CM × List Us × Bool × List Nat × List (Option Vec)) => x.kids.length - i) (fun ((i, c1, us1, nq, js1, cs1) : Nat × CM × List Us × Bool × List Nat × List (Option Vec)) => i ≤ x.kids.length ∧ mkS litB c.us.length i (x.kids.drop i) (c1, us1) = some s ∧ szC c1 + 8 * ndL (x.kids.drop i) ≤ 999975 ∧ InsOK c1.us js1 cs1 ∧ c.us.length < c1.us.length ∧ (nq = true → us1 = [])) (fun ((i, c1, us1, nq, js1, cs1) : Nat × CM × List Us × Bool × List Nat × List (Option Vec)) => [(0, .ptr 0 0), (3, .ptr (bs.length + 1) 0), (4, .d (.int .i64 c.us.length)), (32, .d (.sl nl2 z2 ds)), (33, .d (.int .i64 x.kids.length)), (34, .d (.int .i64 i))]) (fun ((i, c1, us1, nq, js1, cs1) : Nat × CM × List Us × Bool × List Nat × List (Option Vec)) => MB sel c1.us.length c1.lits.length c1.names.length c1.sels.length (uzD nq us1) :: (bs ++ [.cells [.d (.int .i64 x.k), .d (.str x.t), .d (.int .i64 x.a), .d (.int .i64 x.n), .d (.sl nl1 z1 (x.names.map .str)), .d (.sl nl2 z2 ds)] 50])) (fun ((i, c1, us1, nq, js1, cs1) : Nat × CM × List Us × Bool × List Nat × List (Option Vec)) => UV c1.us.isEmpty (List.zipWith uv c1.us js1) :: NS c1.lits :: NS c1.names :: NS c1.sels :: cs1) ((0, newU x.n x.names.length c, us, nl, js ++ [0], cs)) (by (try dsimp only); exact ⟨Nat.zero_le _, hm, by simp; omega, newU_ok hI _ _, by simp [newU], hnl⟩) (by simp <;> omega) (by simp) (by simp [g1, g2, g3, g4, g5]) ?_
 intro ⟨i, c1, us1, nq, js1, cs1⟩ u w hI ih
 try simp only at hI ih
 obtain ⟨k1, k2, k3, k4, k5, k6⟩ := hI
 by_cases hi : i < x.kids.length
 ·have hnl2 : nl2 = false := by cases nl2 with | false => rfl | true => (have := h3 rfl; rw [this] at hi; simp at hi)
  subst hnl2
  have := h4 rfl
  subst this
  obtain ⟨y, hy⟩ : ∃ y, x.kids[i]? = some y := ⟨_, List.getElem?_eq_getElem hi⟩
  obtain ⟨d, hd, hyd⟩ := h5.at hy
  have hdE : ∀ h, ds[i]'h = d := fun h => by rw [List.getElem?_eq_getElem h] at hd; simpa using hd
  have hi' : (i : Int) < x.kids.length := by omega
  have hII : inI ((i : Int) + 1) = true := inI_of (by omega) (by omega)
  have hgy := GoodL.iff.1 hg.all y (List.mem_of_getElem? hy)
  have hfy := FineL.iff.1 (Nd.fine hf) y (List.mem_of_getElem? hy)
  rw [nd_drop hy] at k2 k3
  simp only [ndL] at k3
  have hny1 := Nd.count y
  have hyd' := hyd
  obtain ⟨nl1_d, z1_d, nl2_d, z2_d, ds_d, hv_d, ha_d, hb_d, hc_d, hd_d, he_d⟩ := hyd.shape
  have hw_d := hv_d
  subst hw_d
  by_cases hi0 : i = 0
  ·have hi0' : ¬ 0 < i := by omega
   by_cases y11 : y.k = 11
   ·obtain ⟨z, hz1⟩ := fine_ret hfy y11
    rw [mkS_cons, if_pos y11, hz1, if_pos hi0] at k2
    simp only [mkH] at k2
    cases hp : mkP litB c.us.length z (c1, us1) with
    | none => rw [hp] at k2; simp at k2
    | some s2 =>
     rw [hp] at k2
     simp only [Option.map_some, Option.some.injEq] at k2
     subst k2
     simp only [doneU, if_true] at hQ
     have hgr := mkP_gr hp
     have hny : nds y = 1 + nds z := by rw [Nd.count, hz1]; simp [ndL]
     have hzs : SizeOf.sizeOf z < SizeOf.sizeOf x := by have h1 := kid_lt hy; have h2 : SizeOf.sizeOf z < SizeOf.sizeOf y := kid_lt (i := 0) (by rw [hz1]; rfl); omega
     have hcz := hk z hzs (GoodL.iff.1 hgy.all z (by rw [hz1]; simp)) (FineL.iff.1 (Nd.fine hfy) z (by rw [hz1]; simp)) sel (c1) us1 nq js1
     obtain ⟨dz, hdz, hzd⟩ := he_d.at (i := 0) (y := z) (by rw [hz1]; rfl)
     have hnd : nl2_d = false := by cases nl2_d with | false => rfl | true => (have := hc_d rfl; rw [hz1] at this; simp at this)
     subst hnd
     have hz6 := hd_d rfl
     subst hz6
     have hdzE : ∀ h, ds_d[0]'h = dz := fun h => by rw [List.getElem?_eq_getElem h] at hdz; simpa using hdz
     have hzd' := hzd
     obtain ⟨nl1_dz, z1_dz, nl2_dz, z2_dz, ds_dz, hv_dz, ha_dz, hb_dz, hc_dz, hd_dz, he_dz⟩ := hzd.shape
     have hw_dz := hv_dz
     subst hw_dz
     simp [TB, hdl, hi, hi', hdE, hi0', eq_true y11, hdz]
     refine ATT.callT Tryz.func31 60 (hcz _ (cs1 ++ w) c.us.length s2 _ (k4.more w) k5 (by omega) k6 hp hzd') (by simp) (by simp) (by simp) fun out hC hE => ?_
     obtain ⟨nl', ⟨e1, js3, b3, cs3, e2, hI3⟩, hn3⟩ := hE
     subst e1 e2
     simp [TB]
     refine ATT.callT Tryz.func31 60 (add_ok sel s2.1 (uzD nl' s2.2) js3 _ cs3 hI3 c.us.length (Nat.lt_of_lt_of_le k5 hgr.1) (by have h9 := hgr.2; simp only at h9; omega) 14 0 0) (by simp) (by simp) (by simp) fun out hC hE => ?_
     obtain ⟨e1, js4, b4, cs4, e2, hI4⟩ := hE
     subst e1 e2
     simp
     refine ATT.fin2 hQ Tryz.func31 ?_
     exact ⟨by simp, nl', ⟨rfl, js4, _, cs4, rfl, hI4⟩, hn3⟩
   ·rw [mkS_cons, if_neg y11, if_pos hi0] at k2
    cases hp : mkP litB c.us.length y (c1, us1) with
    | none => rw [hp] at k2; simp at k2
    | some s2 =>
     rw [hp] at k2
     simp only [Option.bind_some] at k2
     have hgr := mkP_gr hp
     have hcy := hk y (kid_lt hy) hgy hfy sel (c1) us1 nq js1
     simp [TB, hdl, hi, hi', hdE, hi0', y11]
     refine ATT.callT Tryz.func31 60 (hcy _ (cs1 ++ w) c.us.length s2 _ (k4.more w) k5 (by omega) k6 hp hyd') (by simp) (by simp) (by simp) fun out hC hE => ?_
     obtain ⟨nl', ⟨e1, js3, b3, cs3, e2, hI3⟩, hn3⟩ := hE
     subst e1 e2
     simp [TB, hII]
     refine ih (i + 1, s2.1, s2.2, nl', js3, cs3) (by first | ((try dsimp only); omega) | (simp [hdl, hi, hi', hd, hdE, hII, hi0', y11] <;> omega)) (by (try dsimp only); exact ⟨hi, k2, by have h9 := hgr.2; simp only at h9; omega, hI3, Nat.lt_of_lt_of_le k5 hgr.1, hn3⟩) _ _ _ (by simp <;> omega) (by simp <;> omega) (by simp <;> omega)
  ·have hi0' : 0 < i := by omega
   have hpz := (addS_gr c.us.length (12, 0, 0) c1).2
   have hpl := (addS_gr c.us.length (12, 0, 0) c1).1
   simp [TB, hdl, hi, hi', hdE, hi0']
   refine ATT.callT Tryz.func31 60 (add_ok sel c1 (uzD nq us1) js1 _ (cs1 ++ w) (k4.more w) c.us.length k5 (by omega) 12 0 0) (by simp) (by simp) (by simp) fun out hC hE => ?_
   obtain ⟨e1, jp, bp, cp, e2, hIp⟩ := hE
   subst e1 e2
   by_cases y11 : y.k = 11
   ·obtain ⟨z, hz1⟩ := fine_ret hfy y11
    rw [mkS_cons, if_pos y11, hz1, if_neg hi0] at k2
    simp only [mkH] at k2
    cases hp : mkP litB c.us.length z ((addS c.us.length (12, 0, 0) c1), us1) with
    | none => rw [hp] at k2; simp at k2
    | some s2 =>
     rw [hp] at k2
     simp only [Option.map_some, Option.some.injEq] at k2
     subst k2
     simp only [doneU, if_true] at hQ
     have hgr := mkP_gr hp
     have hny : nds y = 1 + nds z := by rw [Nd.count, hz1]; simp [ndL]
     have hzs : SizeOf.sizeOf z < SizeOf.sizeOf x := by have h1 := kid_lt hy; have h2 : SizeOf.sizeOf z < SizeOf.sizeOf y := kid_lt (i := 0) (by rw [hz1]; rfl); omega
     have hcz := hk z hzs (GoodL.iff.1 hgy.all z (by rw [hz1]; simp)) (FineL.iff.1 (Nd.fine hfy) z (by rw [hz1]; simp)) sel ((addS c.us.length (12, 0, 0) c1)) us1 nq jp
     obtain ⟨dz, hdz, hzd⟩ := he_d.at (i := 0) (y := z) (by rw [hz1]; rfl)
     have hnd : nl2_d = false := by cases nl2_d with | false => rfl | true => (have := hc_d rfl; rw [hz1] at this; simp at this)
     subst hnd
     have hz6 := hd_d rfl
     subst hz6
     have hdzE : ∀ h, ds_d[0]'h = dz := fun h => by rw [List.getElem?_eq_getElem h] at hdz; simpa using hdz
     have hzd' := hzd
     obtain ⟨nl1_dz, z1_dz, nl2_dz, z2_dz, ds_dz, hv_dz, ha_dz, hb_dz, hc_dz, hd_dz, he_dz⟩ := hzd.shape
     have hw_dz := hv_dz
     subst hw_dz
     simp [TB, eq_true y11, hdz]
     refine ATT.callT Tryz.func31 60 (hcz _ cp c.us.length s2 _ hIp (Nat.lt_of_lt_of_le k5 hpl) (by omega) k6 hp hzd') (by simp) (by simp) (by simp) fun out hC hE => ?_
     obtain ⟨nl', ⟨e1, js3, b3, cs3, e2, hI3⟩, hn3⟩ := hE
     subst e1 e2
     simp [TB]
     refine ATT.callT Tryz.func31 60 (add_ok sel s2.1 (uzD nl' s2.2) js3 _ cs3 hI3 c.us.length (Nat.lt_of_lt_of_le (Nat.lt_of_lt_of_le k5 hpl) hgr.1) (by have h9 := hgr.2; simp only at h9; omega) 14 0 0) (by simp) (by simp) (by simp) fun out hC hE => ?_
     obtain ⟨e1, js4, b4, cs4, e2, hI4⟩ := hE
     subst e1 e2
     simp
     refine ATT.fin2 hQ Tryz.func31 ?_
     exact ⟨by simp, nl', ⟨rfl, js4, _, cs4, rfl, hI4⟩, hn3⟩
   ·rw [mkS_cons, if_neg y11, if_neg hi0] at k2
    cases hp : mkP litB c.us.length y ((addS c.us.length (12, 0, 0) c1), us1) with
    | none => rw [hp] at k2; simp at k2
    | some s2 =>
     rw [hp] at k2
     simp only [Option.bind_some] at k2
     have hgr := mkP_gr hp
     have hcy := hk y (kid_lt hy) hgy hfy sel ((addS c.us.length (12, 0, 0) c1)) us1 nq jp
     simp [TB, y11]
     refine ATT.callT Tryz.func31 60 (hcy _ cp c.us.length s2 _ hIp (Nat.lt_of_lt_of_le k5 hpl) (by omega) k6 hp hyd') (by simp) (by simp) (by simp) fun out hC hE => ?_
     obtain ⟨nl', ⟨e1, js3, b3, cs3, e2, hI3⟩, hn3⟩ := hE
     subst e1 e2
     simp [TB, hII]
     refine ih (i + 1, s2.1, s2.2, nl', js3, cs3) (by first | ((try dsimp only); omega) | (simp [hdl, hi, hi', hd, hdE, hII, hi0', y11] <;> omega)) (by (try dsimp only); exact ⟨hi, k2, by have h9 := hgr.2; simp only at h9; omega, hI3, Nat.lt_of_lt_of_le (Nat.lt_of_lt_of_le k5 hpl) hgr.1, hn3⟩) _ _ _ (by simp <;> omega) (by simp <;> omega) (by simp <;> omega)
 ·have hi' : ¬ (i : Int) < x.kids.length := by omega
  rw [List.drop_eq_nil_of_le (by omega)] at k2
  simp only [mkS, Option.some.injEq] at k2
  subst k2
  simp only [doneU, Bool.false_eq_true, if_false] at hQ
  by_cases hM : (decide (x.k = 12) && !decide (x.t = ⟨#[]⟩)) = true
  ·have hM2 := hM
   simp only [Bool.and_eq_true, decide_eq_true_eq, Bool.not_eq_true', decide_eq_false_iff_not] at hM2
   obtain ⟨k12, xt⟩ := hM2
   rw [hM] at hQ
   by_cases h0 : x.kids.length = 0
   ·have h0' : ¬ 0 < x.kids.length := by omega
    simp only [endS, if_true, if_pos h0] at hQ
    simp [TB, hi', hdl, eq_true k12, xt, h0']
    refine ATT.callT Tryz.func31 60 (add_ok sel (c1) (uzD nq us1) js1 _ (cs1 ++ w) (k4.more w) c.us.length (k5) (by omega) 6 0 0) (by simp) (by simp) (by simp) fun out hC hE => ?_
    obtain ⟨e1, j0, b0, x0, e2, i0⟩ := hE
    subst e1 e2
    have z0 := (addS_gr c.us.length (6, 0, 0) (c1)).2
    have l0 := Nat.lt_of_lt_of_le (k5) (addS_gr c.us.length (6, 0, 0) (c1)).1
    simp [TB]
    refine ATT.callT Tryz.func31 60 (add_ok sel (addS c.us.length (6, 0, 0) (c1)) (uzD nq us1) j0 _ x0 i0 c.us.length (l0) (by omega) 14 0 0) (by simp) (by simp) (by simp) fun out hC hE => ?_
    obtain ⟨e1, j1, b1, x1, e2, i1⟩ := hE
    subst e1 e2
    have z1 := (addS_gr c.us.length (14, 0, 0) (addS c.us.length (6, 0, 0) (c1))).2
    have l1 := Nat.lt_of_lt_of_le (l0) (addS_gr c.us.length (14, 0, 0) (addS c.us.length (6, 0, 0) (c1))).1
    simp
    refine ATT.fin2 hQ Tryz.func31 ?_
    exact ⟨by simp, nq, ⟨rfl, j1, _, x1, rfl, i1⟩, k6⟩
   ·have h0' : 0 < x.kids.length := by omega
    simp only [endS, if_true, if_neg h0] at hQ
    simp [TB, hi', hdl, eq_true k12, xt, h0']
    refine ATT.callT Tryz.func31 60 (add_ok sel (c1) (uzD nq us1) js1 _ (cs1 ++ w) (k4.more w) c.us.length (k5) (by omega) 12 0 0) (by simp) (by simp) (by simp) fun out hC hE => ?_
    obtain ⟨e1, j0, b0, x0, e2, i0⟩ := hE
    subst e1 e2
    have z0 := (addS_gr c.us.length (12, 0, 0) (c1)).2
    have l0 := Nat.lt_of_lt_of_le (k5) (addS_gr c.us.length (12, 0, 0) (c1)).1
    simp [TB]
    refine ATT.callT Tryz.func31 60 (add_ok sel (addS c.us.length (12, 0, 0) (c1)) (uzD nq us1) j0 _ x0 i0 c.us.length (l0) (by omega) 6 0 0) (by simp) (by simp) (by simp) fun out hC hE => ?_
    obtain ⟨e1, j1, b1, x1, e2, i1⟩ := hE
    subst e1 e2
    have z1 := (addS_gr c.us.length (6, 0, 0) (addS c.us.length (12, 0, 0) (c1))).2
    have l1 := Nat.lt_of_lt_of_le (l0) (addS_gr c.us.length (6, 0, 0) (addS c.us.length (12, 0, 0) (c1))).1
    simp [TB]
    refine ATT.callT Tryz.func31 60 (add_ok sel (addS c.us.length (6, 0, 0) (addS c.us.length (12, 0, 0) (c1))) (uzD nq us1) j1 _ x1 i1 c.us.length (l1) (by omega) 14 0 0) (by simp) (by simp) (by simp) fun out hC hE => ?_
    obtain ⟨e1, j2, b2, x2, e2, i2⟩ := hE
    subst e1 e2
    have z2 := (addS_gr c.us.length (14, 0, 0) (addS c.us.length (6, 0, 0) (addS c.us.length (12, 0, 0) (c1)))).2
    have l2 := Nat.lt_of_lt_of_le (l1) (addS_gr c.us.length (14, 0, 0) (addS c.us.length (6, 0, 0) (addS c.us.length (12, 0, 0) (c1)))).1
    simp
    refine ATT.fin2 hQ Tryz.func31 ?_
    exact ⟨by simp, nq, ⟨rfl, j2, _, x2, rfl, i2⟩, k6⟩
  ·have hM1 : (decide (x.k = 12) && !decide (x.t = ⟨#[]⟩)) = false := by simpa using hM
   rw [hM1] at hQ
   have hM2 : x.k = 12 → x.t = ⟨#[]⟩ := fun k => by simpa [k] using hM1
   by_cases k12 : x.k = 12
   ·have xt := hM2 k12
    by_cases h0 : x.kids.length = 0
    ·simp only [endS, Bool.false_eq_true, if_false, if_pos h0] at hQ
     have hke := List.length_eq_zero_iff.1 h0
     simp [TB, hi', hdl, eq_true k12, eq_true xt, eq_true hke]
     refine ATT.callT Tryz.func31 60 (add_ok sel (c1) (uzD nq us1) js1 _ (cs1 ++ w) (k4.more w) c.us.length (k5) (by omega) 7 0 0) (by simp) (by simp) (by simp) fun out hC hE => ?_
     obtain ⟨e1, j0, b0, x0, e2, i0⟩ := hE
     subst e1 e2
     have z0 := (addS_gr c.us.length (7, 0, 0) (c1)).2
     have l0 := Nat.lt_of_lt_of_le (k5) (addS_gr c.us.length (7, 0, 0) (c1)).1
     simp [TB]
     refine ATT.callT Tryz.func31 60 (add_ok sel (addS c.us.length (7, 0, 0) (c1)) (uzD nq us1) j0 _ x0 i0 c.us.length (l0) (by omega) 13 0 0) (by simp) (by simp) (by simp) fun out hC hE => ?_
     obtain ⟨e1, j1, b1, x1, e2, i1⟩ := hE
     subst e1 e2
     have z1 := (addS_gr c.us.length (13, 0, 0) (addS c.us.length (7, 0, 0) (c1))).2
     have l1 := Nat.lt_of_lt_of_le (l0) (addS_gr c.us.length (13, 0, 0) (addS c.us.length (7, 0, 0) (c1))).1
     simp
     refine ATT.fin02 hQ Tryz.func31 ?_
     exact ⟨by simp, nq, ⟨rfl, j1, _, x1, rfl, i1⟩, k6⟩
    ·simp only [endS, Bool.false_eq_true, if_false, if_neg h0] at hQ
     have hke : ¬ x.kids = [] := fun e => h0 (by rw [e]; rfl)
     simp [TB, hi', hdl, eq_true k12, eq_true xt, hke]
     refine ATT.callT Tryz.func31 60 (add_ok sel (c1) (uzD nq us1) js1 _ (cs1 ++ w) (k4.more w) c.us.length (k5) (by omega) 13 0 0) (by simp) (by simp) (by simp) fun out hC hE => ?_
     obtain ⟨e1, j0, b0, x0, e2, i0⟩ := hE
     subst e1 e2
     have z0 := (addS_gr c.us.length (13, 0, 0) (c1)).2
     have l0 := Nat.lt_of_lt_of_le (k5) (addS_gr c.us.length (13, 0, 0) (c1)).1
     simp
     refine ATT.fin02 hQ Tryz.func31 ?_
     exact ⟨by simp, nq, ⟨rfl, j0, _, x0, rfl, i0⟩, k6⟩
   ·by_cases h0 : x.kids.length = 0
    ·simp only [endS, Bool.false_eq_true, if_false, if_pos h0] at hQ
     have hke := List.length_eq_zero_iff.1 h0
     simp [TB, hi', hdl, k12, eq_true hke]
     refine ATT.callT Tryz.func31 60 (add_ok sel (c1) (uzD nq us1) js1 _ (cs1 ++ w) (k4.more w) c.us.length (k5) (by omega) 7 0 0) (by simp) (by simp) (by simp) fun out hC hE => ?_
     obtain ⟨e1, j0, b0, x0, e2, i0⟩ := hE
     subst e1 e2
     have z0 := (addS_gr c.us.length (7, 0, 0) (c1)).2
     have l0 := Nat.lt_of_lt_of_le (k5) (addS_gr c.us.length (7, 0, 0) (c1)).1
     simp [TB]
     refine ATT.callT Tryz.func31 60 (add_ok sel (addS c.us.length (7, 0, 0) (c1)) (uzD nq us1) j0 _ x0 i0 c.us.length (l0) (by omega) 13 0 0) (by simp) (by simp) (by simp) fun out hC hE => ?_
     obtain ⟨e1, j1, b1, x1, e2, i1⟩ := hE
     subst e1 e2
     have z1 := (addS_gr c.us.length (13, 0, 0) (addS c.us.length (7, 0, 0) (c1))).2
     have l1 := Nat.lt_of_lt_of_le (l0) (addS_gr c.us.length (13, 0, 0) (addS c.us.length (7, 0, 0) (c1))).1
     simp
     refine ATT.fin02 hQ Tryz.func31 ?_
     exact ⟨by simp, nq, ⟨rfl, j1, _, x1, rfl, i1⟩, k6⟩
    ·simp only [endS, Bool.false_eq_true, if_false, if_neg h0] at hQ
     have hke : ¬ x.kids = [] := fun e => h0 (by rw [e]; rfl)
     simp [TB, hi', hdl, k12, hke]
     refine ATT.callT Tryz.func31 60 (add_ok sel (c1) (uzD nq us1) js1 _ (cs1 ++ w) (k4.more w) c.us.length (k5) (by omega) 13 0 0) (by simp) (by simp) (by simp) fun out hC hE => ?_
     obtain ⟨e1, j0, b0, x0, e2, i0⟩ := hE
     subst e1 e2
     have z0 := (addS_gr c.us.length (13, 0, 0) (c1)).2
     have l0 := Nat.lt_of_lt_of_le (k5) (addS_gr c.us.length (13, 0, 0) (c1)).1
     simp
     refine ATT.fin02 hQ Tryz.func31 ?_
     exact ⟨by simp, nq, ⟨rfl, j0, _, x0, rfl, i0⟩, k6⟩
end Go.SL
namespace Go.SL
open Go.Proofs
set_option maxRecDepth 10000
theorem fine_lit {x : Nd} (h : Fine x) (k : x.k = 1 ∨ x.k = 2 ∨ x.k = 3 ∨ x.k = 4) : LitP x := by
 cases x with
 | mk k t a n names kids =>
  simp only [Nd.k] at k
  simp only [Fine] at h
  simp only [LitP]
  exact ⟨by omega, h.2.2.2.1 k⟩
theorem mkD_cons {lt : Nd → ByteArray} (un : Nat) (sp : Bool) (m y : Nd) (r : List Nd) (s : MS) : mkD lt un sp (m :: y :: r) s = (mkM lt un sp m (addS un (11, 0, 0) s.1, s.2)).bind fun s => mkD lt un sp (y :: r) (addS un (12, 0, 0) s.1, s.2) := by
 simp only [mkD]
theorem mkM_eq {lt : Nd → ByteArray} (un : Nat) (sp : Bool) (m : Nd) (s : MS) : mkM lt un sp m s = (mkL lt un m.kids s).map fun s => (sendC un sp m.t m.kids.length s.1, s.2) := by
 cases m; simp only [mkM, Nd.kids, Nd.t]
set_option maxHeartbeats 2000000 in
theorem f47_ok {Q0 : ByteArray → Nat → Prop} : ∀ (m : Nat) (x : Nd), SizeOf.sizeOf x ≤ m → Good Q0 x → Fine x → PartM x := by
 intro m
 induction m with
 | zero => intro x h; cases x; simp at h
 | succ m ihn =>
  intro x hmx hg hf sel c us nl js bs cs un s' ud hI hu hz hnl hm hud
  have hud0 := hud
  obtain ⟨nl1, z1, nl2, z2, ds, e, h1, h2, h3, h4, h5⟩ := hud.shape
  subst e
  have ho := hg.one
  have hl2 : x.kids.length ≤ 10000 := ho.2.1
  have hdl := h5.length
  have hn := Nd.count x
  by_cases k1 : x.k = 1
  ·have hT := f73_lit x hg (fine_lit hf (by omega)) (by omega) _ hud0
   have e : mkP litB un x (c, us) = some (litS un (litB x) c, us) := by cases x; simp only [Nd.k] at k1; simp only [mkP]; rw [if_pos (by omega)]
   rw [e] at hm
   simp only [Option.some.injEq] at hm
   subst hm
   refine AF.go Tryz.func47 [(6, [oD 10 [(7, [0, 1, 2, 3, 4, 5]), (8, [0, 1])]]), (17, [oD 12 []]), (25, [oD 11 []]), (28, [oD 19 []])] fun tb TB Q hQ => ?_
   simp [TB, k1]
   refine ATT.callRD Tryz.func47 60 (hT) (by simp) (by simp [k1]) (by simp) ?_
   simp
   refine ATT.callRT Tryz.func47 60 (f72_lits sel c.us.length c.names.length c.sels.length _ c.lits (by unfold szC at hz; omega) (litB x) _ _ _ _ cs) (by simp) (by simp) (by simp) fun out hC hE => ?_
   obtain ⟨b2, c2, e1, e2⟩ := hE
   subst e1 e2
   simp
   refine ATT.callRT Tryz.func47 60 (add_ok sel { c with lits := (onceS c.lits (litB x)).1 } (uzD nl us) js _ (cs ++ c2) (hI.more c2) un hu (by have := once_len c.lits (litB x); unfold szC at hz ⊢; simp only; omega) 0 (onceS c.lits (litB x)).2 0) (by simp) (by simp) (by simp) fun out hC hE => ?_
   obtain ⟨e1, js', b', cs', e2, hI'⟩ := hE
   subst e1 e2
   simp
   refine ATT.fin02 hQ Tryz.func47 ?_
   exact ⟨by simp, nl, ⟨rfl, js', _, cs', rfl, hI'⟩, hnl⟩
  by_cases k2 : x.k = 2
  ·have hT := f73_lit x hg (fine_lit hf (by omega)) (by omega) _ hud0
   have e : mkP litB un x (c, us) = some (litS un (litB x) c, us) := by cases x; simp only [Nd.k] at k2; simp only [mkP]; rw [if_pos (by omega)]
   rw [e] at hm
   simp only [Option.some.injEq] at hm
   subst hm
   refine AF.go Tryz.func47 [(6, [oD 10 [(7, [0, 1, 2, 3, 4, 5]), (8, [0, 1])]]), (17, [oD 12 []]), (25, [oD 11 []]), (28, [oD 19 []])] fun tb TB Q hQ => ?_
   simp [TB, k2]
   refine ATT.callRD Tryz.func47 60 (hT) (by simp) (by simp [k2]) (by simp) ?_
   simp
   refine ATT.callRT Tryz.func47 60 (f72_lits sel c.us.length c.names.length c.sels.length _ c.lits (by unfold szC at hz; omega) (litB x) _ _ _ _ cs) (by simp) (by simp) (by simp) fun out hC hE => ?_
   obtain ⟨b2, c2, e1, e2⟩ := hE
   subst e1 e2
   simp
   refine ATT.callRT Tryz.func47 60 (add_ok sel { c with lits := (onceS c.lits (litB x)).1 } (uzD nl us) js _ (cs ++ c2) (hI.more c2) un hu (by have := once_len c.lits (litB x); unfold szC at hz ⊢; simp only; omega) 0 (onceS c.lits (litB x)).2 0) (by simp) (by simp) (by simp) fun out hC hE => ?_
   obtain ⟨e1, js', b', cs', e2, hI'⟩ := hE
   subst e1 e2
   simp
   refine ATT.fin02 hQ Tryz.func47 ?_
   exact ⟨by simp, nl, ⟨rfl, js', _, cs', rfl, hI'⟩, hnl⟩
  by_cases k3 : x.k = 3
  ·have hT := f73_lit x hg (fine_lit hf (by omega)) (by omega) _ hud0
   have e : mkP litB un x (c, us) = some (litS un (litB x) c, us) := by cases x; simp only [Nd.k] at k3; simp only [mkP]; rw [if_pos (by omega)]
   rw [e] at hm
   simp only [Option.some.injEq] at hm
   subst hm
   refine AF.go Tryz.func47 [(6, [oD 10 [(7, [0, 1, 2, 3, 4, 5]), (8, [0, 1])]]), (17, [oD 12 []]), (25, [oD 11 []]), (28, [oD 19 []])] fun tb TB Q hQ => ?_
   simp [TB, k3]
   refine ATT.callRD Tryz.func47 60 (hT) (by simp) (by simp [k3]) (by simp) ?_
   simp
   refine ATT.callRT Tryz.func47 60 (f72_lits sel c.us.length c.names.length c.sels.length _ c.lits (by unfold szC at hz; omega) (litB x) _ _ _ _ cs) (by simp) (by simp) (by simp) fun out hC hE => ?_
   obtain ⟨b2, c2, e1, e2⟩ := hE
   subst e1 e2
   simp
   refine ATT.callRT Tryz.func47 60 (add_ok sel { c with lits := (onceS c.lits (litB x)).1 } (uzD nl us) js _ (cs ++ c2) (hI.more c2) un hu (by have := once_len c.lits (litB x); unfold szC at hz ⊢; simp only; omega) 0 (onceS c.lits (litB x)).2 0) (by simp) (by simp) (by simp) fun out hC hE => ?_
   obtain ⟨e1, js', b', cs', e2, hI'⟩ := hE
   subst e1 e2
   simp
   refine ATT.fin02 hQ Tryz.func47 ?_
   exact ⟨by simp, nl, ⟨rfl, js', _, cs', rfl, hI'⟩, hnl⟩
  by_cases k4 : x.k = 4
  ·have hT := f73_lit x hg (fine_lit hf (by omega)) (by omega) _ hud0
   have e : mkP litB un x (c, us) = some (litS un (litB x) c, us) := by cases x; simp only [Nd.k] at k4; simp only [mkP]; rw [if_pos (by omega)]
   rw [e] at hm
   simp only [Option.some.injEq] at hm
   subst hm
   refine AF.go Tryz.func47 [(6, [oD 10 [(7, [0, 1, 2, 3, 4, 5]), (8, [0, 1])]]), (17, [oD 12 []]), (25, [oD 11 []]), (28, [oD 19 []])] fun tb TB Q hQ => ?_
   simp [TB, k4]
   refine ATT.callRD Tryz.func47 60 (hT) (by simp) (by simp [k4]) (by simp) ?_
   simp
   refine ATT.callRT Tryz.func47 60 (f72_lits sel c.us.length c.names.length c.sels.length _ c.lits (by unfold szC at hz; omega) (litB x) _ _ _ _ cs) (by simp) (by simp) (by simp) fun out hC hE => ?_
   obtain ⟨b2, c2, e1, e2⟩ := hE
   subst e1 e2
   simp
   refine ATT.callRT Tryz.func47 60 (add_ok sel { c with lits := (onceS c.lits (litB x)).1 } (uzD nl us) js _ (cs ++ c2) (hI.more c2) un hu (by have := once_len c.lits (litB x); unfold szC at hz ⊢; simp only; omega) 0 (onceS c.lits (litB x)).2 0) (by simp) (by simp) (by simp) fun out hC hE => ?_
   obtain ⟨e1, js', b', cs', e2, hI'⟩ := hE
   subst e1 e2
   simp
   refine ATT.fin02 hQ Tryz.func47 ?_
   exact ⟨by simp, nl, ⟨rfl, js', _, cs', rfl, hI'⟩, hnl⟩
  have k14 : ¬ (x.k = 1 ∨ x.k = 2 ∨ x.k = 3 ∨ x.k = 4) := by omega
  by_cases k5 : x.k = 5
  ·have e : ∀ us, mkP litB un x (c, us) = (match us with | [] => none | y :: us' => some (useS un y c, us')) := fun us => by cases x; simp only [Nd.k] at k5 k14; simp only [mkP]; rw [if_neg k14, if_pos k5]; rfl
   rw [e] at hm
   cases us with
   | nil => simp at hm
   | cons y r =>
    simp only [Option.some.injEq] at hm
    subst hm
    have hnf : nl = false := by cases nl with | false => rfl | true => exact absurd (hnl rfl) (by simp)
    subst hnf
    refine AF.go Tryz.func47 [(6, [oD 10 [(7, [0, 1, 2, 3, 4, 5]), (8, [0, 1])]]), (17, [oD 12 []]), (25, [oD 11 []]), (28, [oD 19 []])] fun tb TB Q hQ => ?_
    simp [TB, k5]
    refine ATT.callT Tryz.func47 60 (f74_ok sel c y r js _ cs hI un hu (by omega)) (by simp) (by simp) (by simp) fun out hC hE => ?_
    obtain ⟨e1, js', b', cs', e2, hI'⟩ := hE
    subst e1 e2
    simp
    refine ATT.fin02 hQ Tryz.func47 ?_
    exact ⟨by simp, false, ⟨rfl, js', _, cs', rfl, hI'⟩, fun e => by simp at e⟩
  have kid : ∀ y ∈ x.kids, PartM y := fun y hy => by
   obtain ⟨i, hi⟩ := List.mem_iff_getElem?.1 hy
   exact ihn y (by have := kid_lt hi; omega) (GoodL.iff.1 hg.all y hy) (FineL.iff.1 (Nd.fine hf) y hy)
  by_cases k6 : x.k = 6
  ·obtain ⟨z, hz1⟩ : ∃ z, x.kids = [z] := by
    cases x with
    | mk k t a n names kids =>
     simp only [Nd.k] at k6
     simp only [Fine] at hf
     have := hf.2.2.1 (.inr k6)
     match kids, this with
     | [z], _ => exact ⟨z, rfl⟩
   have e : ∀ us, mkP litB un x (c, us) = (match us with | [] => none | y :: us' => (mkH litB un x.kids (c, us')).map fun s => (setS un y s.1, s.2)) := fun us => by cases x; simp only [Nd.k] at k5 k6 k14; simp only [mkP, Nd.kids]; rw [if_neg k14, if_neg k5, if_pos k6]; rfl
   rw [e] at hm
   cases us with
   | nil => simp at hm
   | cons y r =>
    have hnf : nl = false := by cases nl with | false => rfl | true => exact absurd (hnl rfl) (by simp)
    subst hnf
    simp only [hz1, mkH] at hm
    cases hp : mkP litB un z (c, r) with
    | none => rw [hp] at hm; simp at hm
    | some s2 =>
     rw [hp] at hm
     simp only [Option.map_some, Option.some.injEq] at hm
     subst hm
     have hgr := mkP_gr hp
     have hnz : nds x = 1 + nds z := by rw [Nd.count, hz1]; simp [ndL]
     have hcz := kid z (by rw [hz1]; simp) sel c r false js
     rw [hz1] at h5
     simp only [NdRL] at h5
     obtain ⟨dz, l, el, hzd, el2⟩ := h5
     subst el2 el
     have hnd : nl2 = false := by cases nl2 with | false => rfl | true => (have := h3 rfl; rw [hz1] at this; simp at this)
     subst hnd
     have hz6 := h4 rfl
     subst hz6
     have hU := fun bs vc => f75_ok sel c.us.length c.lits.length c.names.length c.sels.length y r bs vc
     obtain ⟨a0, t0, k0, d0, i0, w0⟩ := y
     have hzd' := hzd
     obtain ⟨nl1_dz, z1_dz, nl2_dz, z2_dz, ds_dz, hv_dz, ha_dz, hb_dz, hc_dz, hd_dz, he_dz⟩ := hzd.shape
     have hw_dz := hv_dz
     subst hw_dz
     refine AF.go Tryz.func47 [(6, [oD 10 [(7, [0, 1, 2, 3, 4, 5]), (8, [0, 1])]]), (17, [oD 12 []]), (25, [oD 11 []]), (28, [oD 19 []])] fun tb TB Q hQ => ?_
     simp [TB, k6]
     refine ATT.callT Tryz.func47 60 (hU _ _) (by simp) (by simp) (by simp) fun out hC hE => ?_
     obtain ⟨b, e1, e2⟩ := hE
     simp only [usD] at e1
     subst e1 e2
     simp [TB]
     refine ATT.callT Tryz.func47 60 (hcz _ cs un s2 _ hI hu (by omega) (fun e => by simp at e) hp hzd') (by simp) (by simp) (by simp) fun out hC hE => ?_
     obtain ⟨nl', ⟨e1, js3, b3, cs3, e2, hI3⟩, hn3⟩ := hE
     subst e1 e2
     by_cases k3 : k0 = 3
     ·have e : setS un ⟨a0, t0, k0, d0, i0, w0⟩ s2.1 = addS un (2, d0, i0) s2.1 := by unfold setS; rw [if_pos k3]
      rw [e] at hQ
      simp [TB, eq_true k3]
      refine ATT.callT Tryz.func47 60 (add_ok sel s2.1 (uzD nl' s2.2) js3 _ cs3 hI3 un (Nat.lt_of_lt_of_le hu hgr.1) (by have h9 := hgr.2; simp only at h9; omega) 2 d0 i0) (by simp) (by simp) (by simp) fun out hC hE => ?_
      obtain ⟨e1, js4, b4, cs4, e2, hI4⟩ := hE
      subst e1 e2
      simp
      refine ATT.fin02 hQ Tryz.func47 ?_
      exact ⟨by simp, nl', ⟨rfl, js4, _, cs4, rfl, hI4⟩, hn3⟩
     ·have e : setS un ⟨a0, t0, k0, d0, i0, w0⟩ s2.1 = addS un (4, i0, 0) s2.1 := by unfold setS; rw [if_neg k3]
      rw [e] at hQ
      simp [TB, k3]
      refine ATT.callT Tryz.func47 60 (add_ok sel s2.1 (uzD nl' s2.2) js3 _ cs3 hI3 un (Nat.lt_of_lt_of_le hu hgr.1) (by have h9 := hgr.2; simp only at h9; omega) 4 i0 0) (by simp) (by simp) (by simp) fun out hC hE => ?_
      obtain ⟨e1, js4, b4, cs4, e2, hI4⟩ := hE
      subst e1 e2
      simp
      refine ATT.fin02 hQ Tryz.func47 ?_
      exact ⟨by simp, nl', ⟨rfl, js4, _, cs4, rfl, hI4⟩, hn3⟩
  by_cases k7 : x.k = 7
  ·obtain ⟨a, ks, hks⟩ : ∃ a ks, x.kids = a :: ks := by
    cases x with
    | mk k t a n names kids =>
     simp only [Nd.k] at k7
     simp only [Fine] at hf
     have := hf.2.1 k7
     match kids, this with
     | a :: ks, _ => exact ⟨a, ks, rfl⟩
   have e : mkP litB un x (c, us) = (mkL litB un x.kids (c, us)).map fun s => (sendC un (sup0 x.kids) x.t (x.kids.length - 1) s.1, s.2) := by cases x; simp only [Nd.k] at k5 k6 k7 k14; simp only [mkP, Nd.kids, Nd.t]; rw [if_neg k14, if_neg k5, if_neg k6, if_pos k7]
   rw [e, hks] at hm
   simp only [mkL] at hm
   cases hp : mkP litB un a (c, us) with
   | none => rw [hp] at hm; simp at hm
   | some s2 =>
    rw [hp] at hm
    simp only [Option.bind_some] at hm
    cases hp2 : mkL litB un ks s2 with
    | none => rw [hp2] at hm; simp at hm
    | some s3 =>
     rw [hp2] at hm
     simp only [Option.map_some, Option.some.injEq, sup0, List.length_cons, Nat.add_sub_cancel] at hm
     subst hm
     have hgr := mkP_gr hp
     have hnk : nds x = 1 + (nds a + ndL ks) := by rw [Nd.count, hks]; simp [ndL]
     have hna := Nd.count a
     have hca := kid a (by rw [hks]; simp) sel c us nl js
     have hkk : ∀ y ∈ ks, PartM y := fun y hy => kid y (by rw [hks]; simp [hy])
     rw [hks] at h5 hl2
     simp only [NdRL] at h5
     obtain ⟨da, ds', el, had, h5'⟩ := h5
     subst el
     have hnd : nl2 = false := by cases nl2 with | false => rfl | true => (have := h3 rfl; rw [hks] at this; simp at this)
     subst hnd
     have hz6 := h4 rfl
     subst hz6
     have had' := had
     have h1i : (1 : Int) ≤ (ds'.length : Int) + 1 := by omega
     obtain ⟨nl1_da, z1_da, nl2_da, z2_da, ds_da, hv_da, ha_da, hb_da, hc_da, hd_da, he_da⟩ := had.shape
     have hw_da := hv_da
     subst hw_da
     refine AF.go Tryz.func47 [(6, [oD 10 [(7, [0, 1, 2, 3, 4, 5]), (8, [0, 1])]]), (17, [oD 12 []]), (25, [oD 11 []]), (28, [oD 19 []])] fun tb TB Q hQ => ?_
     simp [TB, k7]
     refine ATT.callT Tryz.func47 60 (hca _ cs un s2 _ hI hu (by omega) hnl hp had') (by simp) (by simp) (by simp) fun out hC hE => ?_
     obtain ⟨nl', ⟨e1, js3, b3, cs3, e2, hI3⟩, hn3⟩ := hE
     subst e1 e2
     simp [h1i]
     refine ATT.callRT Tryz.func47 60 (f76_ok ks hkk (by simp at hl2; omega) sel s2.1 s2.2 nl' js3 _ cs3 un s3 a _ x.t false 6 ds' hI3 (Nat.lt_of_lt_of_le hu hgr.1) (by have h9 := hgr.2; simp only at h9; omega) hn3 hp2 had' (fun e => by simp at e) (fun _ => rfl) h5') (by simp) (by simp) (by simp) fun out hC hE => ?_
     obtain ⟨nl4, ⟨e1, js4, b4, cs4, e2, hI4⟩, hn4⟩ := hE
     subst e1 e2
     simp
     refine ATT.fin02 hQ Tryz.func47 ?_
     exact ⟨by simp, nl4, ⟨rfl, js4, _, cs4, rfl, hI4⟩, hn4⟩
  by_cases k8 : x.k = 8
  ·obtain ⟨a, q, r', hks⟩ : ∃ a q r', x.kids = a :: q :: r' := by
    cases x with
    | mk k t a n names kids =>
     simp only [Nd.k] at k8
     simp only [Fine] at hf
     have := (hf.1.1 k8).1
     match kids, this with
     | a :: q :: r', _ => exact ⟨a, q, r', rfl⟩
   have e : mkP litB un x (c, us) = mkC litB un (sup0 x.kids) x.kids (c, us) := by cases x; simp only [Nd.k] at k5 k6 k7 k8 k14; simp only [mkP, Nd.kids]; rw [if_neg k14, if_neg k5, if_neg k6, if_neg k7, if_pos k8]
   rw [e, hks] at hm
   simp only [mkC, sup0] at hm
   cases hp : mkP litB un a (c, us) with
   | none => rw [hp] at hm; simp at hm
   | some s2 =>
    rw [hp] at hm
    simp only [Option.bind_some] at hm
    have hgr := mkP_gr hp
    have hnk : nds x = 1 + (nds a + ndL (q :: r')) := by rw [Nd.count, hks]; simp [ndL]
    have hna := Nd.count a
    have hca := kid a (by rw [hks]; simp) sel c us nl js
    have hkk : ∀ m ∈ (q :: r'), ∀ y ∈ m.kids, PartM y := fun m hmm y hy => by
     have hmk : m ∈ x.kids := by rw [hks]; exact List.mem_cons_of_mem _ hmm
     obtain ⟨i, hi⟩ := List.mem_iff_getElem?.1 hmk
     obtain ⟨i2, hi2⟩ := List.mem_iff_getElem?.1 hy
     have hgm := GoodL.iff.1 hg.all m hmk
     have hfm := FineL.iff.1 (Nd.fine hf) m hmk
     exact ihn y (by have := kid_lt hi; have := kid_lt hi2; omega) (GoodL.iff.1 hgm.all y hy) (FineL.iff.1 (Nd.fine hfm) y hy)
    have hkn : ∀ m ∈ (q :: r'), m.kids.length ≤ 10000 := fun m hmm => (GoodL.iff.1 hg.all m (by rw [hks]; exact List.mem_cons_of_mem _ hmm)).one.2.1
    rw [hks] at h5 hl2
    have hnd : nl2 = false := by cases nl2 with | false => rfl | true => (have := h3 rfl; rw [hks] at this; simp at this)
    subst hnd
    have hz6 := h4 rfl
    subst hz6
    simp only [NdRL] at h5
    obtain ⟨da, l1, el1, had, dq, dr, el2, hdq, hdr⟩ := h5
    subst el1 el2
    have h5' : NdRL (q :: r') (dq :: dr) := by simp only [NdRL]; exact ⟨dq, dr, rfl, hdq, hdr⟩
    have hrl := hdr.length
    have had' := had
    have h1i : (1 : Int) ≤ (dr.length : Int) + 1 := by omega
    have hII0 : inI ((dr.length : Int) + 1) = true := inI_of (by simp at hl2; omega) (by simp at hl2; omega)
    obtain ⟨md, hmd⟩ : ∃ md, List.take dr.length (dq :: dr) = md := ⟨_, rfl⟩
    have hml : md.length = dr.length := by rw [← hmd]; simp
    have hlef : (dr.length : Int) ≤ (dr.length : Int) + 1 := by omega
    obtain ⟨nl1_da, z1_da, nl2_da, z2_da, ds_da, hv_da, ha_da, hb_da, hc_da, hd_da, he_da⟩ := had.shape
    have hw_da := hv_da
    subst hw_da
    refine AF.go Tryz.func47 [(6, [oD 10 [(7, [0, 1, 2, 3, 4, 5]), (8, [0, 1])]]), (17, [oD 12 []]), (25, [oD 11 []]), (28, [oD 19 []])] fun tb TB Q hQ => ?_
    simp [TB, k8]
    refine ATT.callT Tryz.func47 60 (hca _ cs un s2 _ hI hu (by omega) hnl hp had') (by simp) (by simp) (by simp) fun out hC hE => ?_
    obtain ⟨nl', ⟨e1, js3, b3, cs3, e2, hI3⟩, hn3⟩ := hE
    subst e1 e2
    simp [TB, h1i, hII0, hmd, hml, hlef]
    refine ATT.loopG 60 rfl (fun ((j, c1, us1, nq, js1, cs1) : Nat × CM × List Us × Bool × List Nat × List (Option Vec)) => dr.length - j) (fun ((j, c1, us1, nq, js1, cs1) : Nat × CM × List Us × Bool × List Nat × List (Option Vec)) => j ≤ dr.length ∧ mkD litB un (supS a) ((q :: r').drop j) (c1, us1) = some s' ∧ szC c1 + 8 * ndL ((q :: r').drop j) ≤ 999970 ∧ InsOK c1.us js1 cs1 ∧ un < c1.us.length ∧ (nq = true → us1 = [])) (fun ((j, c1, us1, nq, js1, cs1) : Nat × CM × List Us × Bool × List Nat × List (Option Vec)) => [(0, .ptr 0 0), (1, .d (.int .i64 un)), (5, .ptr (bs.length + 1) 0), (7, .d (.int .i64 ((dr.length : Int) + 1))), (95, .d (.sl false 6 md)), (96, .d (.int .i64 dr.length)), (97, .d (.int .i64 j))]) (fun ((j, c1, us1, nq, js1, cs1) : Nat × CM × List Us × Bool × List Nat × List (Option Vec)) => MB sel c1.us.length c1.lits.length c1.names.length c1.sels.length (uzD nq us1) :: (bs ++ [.cells [.d (.int .i64 8), .d (.str x.t), .d (.int .i64 x.a), .d (.int .i64 x.n), .d (.sl nl1 z1 (x.names.map .str)), .d (.sl false 6 (.agg [.int .i64 a.k, .str a.t, .int .i64 a.a, .int .i64 a.n, .sl nl1_da z1_da (a.names.map .str), .sl nl2_da z2_da ds_da] :: dq :: dr))] 50])) (fun ((j, c1, us1, nq, js1, cs1) : Nat × CM × List Us × Bool × List Nat × List (Option Vec)) => UV c1.us.isEmpty (List.zipWith uv c1.us js1) :: NS c1.lits :: NS c1.names :: NS c1.sels :: cs1) ((0, s2.1, s2.2, nl', js3, cs3)) (by (try dsimp only); exact ⟨Nat.zero_le _, hm, by have h9 := hgr.2; simp only [List.drop_zero] at h9 ⊢; omega, hI3, Nat.lt_of_lt_of_le hu hgr.1, hn3⟩) (by simp <;> omega) (by simp) (by simp) ?_
    intro ⟨j, c1, us1, nq, js1, cs1⟩ u w hI ih
    try simp only at hI ih
    obtain ⟨i1, i2, i3, i4, i5, i6⟩ := hI
    by_cases hj : j < dr.length
    ·obtain ⟨m1, hm1⟩ : ∃ m1, (q :: r')[j]? = some m1 := ⟨_, List.getElem?_eq_getElem (by simp; omega)⟩
     obtain ⟨y2, hy2⟩ : ∃ y2, (q :: r')[j + 1]? = some y2 := ⟨_, List.getElem?_eq_getElem (by simp; omega)⟩
     obtain ⟨dm, hdm, hdmr⟩ := h5'.at hm1
     have hmj : md[j]? = some dm := by rw [← hmd, List.getElem?_take_of_lt hj]; exact hdm
     have hmjE : ∀ h, md[j]'h = dm := fun h => by rw [List.getElem?_eq_getElem h] at hmj; simpa using hmj
     have hj' : (j : Int) < dr.length := by omega
     have hII : inI ((j : Int) + 1) = true := inI_of (by omega) (by simp at hl2; omega)
     have hmem := List.mem_of_getElem? hm1
     rw [nd_drop hm1, nd_drop hy2, mkD_cons, mkM_eq] at i2
     rw [nd_drop hm1] at i3
     simp only [ndL] at i3
     have hcm := Nd.count m1
     cases hp2 : mkL litB un m1.kids (addS un (11, 0, 0) c1, us1) with
     | none => rw [hp2] at i2; simp at i2
     | some s4 =>
      rw [hp2] at i2
      simp only [Option.map_some, Option.bind_some] at i2
      have hgL := mkL_gr hp2
      have hgS := sendC_gr un (supS a) m1.t m1.kids.length s4.1
      have hg1 := addS_gr un (11, 0, 0) c1
      have hg2 := addS_gr un (12, 0, 0) (sendC un (supS a) m1.t m1.kids.length s4.1)
      have hsz := hgL.2
      have hsz2 := hgS.2
      have hsz3 := hg1.2
      have hsz4 := hg2.2
      simp only at hsz
      obtain ⟨nl1_m, z1_m, nl2_m, z2_m, ds_m, hv_m, ha_m, hb_m, hc_m, hd_m, he_m⟩ := hdmr.shape
      subst hv_m
      simp [TB, hj, hj', hmjE, hml]
      refine ATT.callT Tryz.func47 60 (add_ok sel c1 (uzD nq us1) js1 _ (cs1 ++ w) (i4.more w) un i5 (by omega) 11 0 0) (by simp) (by simp) (by simp) fun out hC hE => ?_
      obtain ⟨e1, js5, b5, cs5, e2, hI5⟩ := hE
      subst e1 e2
      simp
      refine ATT.callRT Tryz.func47 60 (f76_ok m1.kids (hkk m1 hmem) (hkn m1 hmem) sel (addS un (11, 0, 0) c1) us1 nq js5 _ cs5 un s4 a _ m1.t nl2_m z2_m ds_m hI5 (Nat.lt_of_lt_of_le i5 hg1.1) (by omega) i6 hp2 had' hc_m hd_m he_m) (by simp) (by simp) (by simp) fun out hC hE => ?_
      obtain ⟨nl6, ⟨e1, js6, b6, cs6, e2, hI6⟩, hn6⟩ := hE
      subst e1 e2
      simp [TB]
      refine ATT.callT Tryz.func47 60 (add_ok sel (sendC un (supS a) m1.t m1.kids.length s4.1) (uzD nl6 s4.2) js6 _ cs6 hI6 un (Nat.lt_of_lt_of_le i5 (Nat.le_trans hg1.1 (Nat.le_trans hgL.1 hgS.1))) (by omega) 12 0 0) (by simp) (by simp) (by simp) fun out hC hE => ?_
      obtain ⟨e1, js7, b7, cs7, e2, hI7⟩ := hE
      subst e1 e2
      simp [TB, hII]
      refine ih (j + 1, addS un (12, 0, 0) (sendC un (supS a) m1.t m1.kids.length s4.1), s4.2, nl6, js7, cs7) (by first | ((try dsimp only); omega) | (simp [hdl, hj, hj', hmj, hmjE, hII, hml] <;> omega)) (by (try dsimp only); exact ⟨hj, by rw [nd_drop hy2]; exact i2, by rw [nd_drop hy2]; simp only [ndL]; rw [nd_drop hy2] at i3; simp only [ndL] at i3; omega, hI7, Nat.lt_of_lt_of_le i5 (Nat.le_trans hg1.1 (Nat.le_trans hgL.1 (Nat.le_trans hgS.1 hg2.1))), hn6⟩) _ _ _ (by simp <;> omega) (by simp <;> omega) (by simp <;> omega)
    ·have hj' : ¬ (j : Int) < dr.length := by omega
     have hje : j = dr.length := by omega
     subst hje
     obtain ⟨m1, hm1⟩ : ∃ m1, (q :: r')[dr.length]? = some m1 := ⟨_, List.getElem?_eq_getElem (by simp; omega)⟩
     obtain ⟨dm, hdm, hdmr⟩ := h5'.at hm1
     have hdmE : ∀ h, (dq :: dr)[dr.length]'h = dm := fun h => by rw [List.getElem?_eq_getElem h] at hdm; simpa using hdm
     have hmem := List.mem_of_getElem? hm1
     have hnil : (q :: r').drop (dr.length + 1) = [] := List.drop_eq_nil_of_le (by simp; omega)
     rw [nd_drop hm1, hnil] at i2 i3
     simp only [mkD, mkM_eq] at i2
     simp only [ndL] at i3
     have hcm := Nd.count m1
     cases hp2 : mkL litB un m1.kids (c1, us1) with
     | none => rw [hp2] at i2; simp at i2
     | some s4 =>
      rw [hp2] at i2
      simp only [Option.map_some, Option.some.injEq] at i2
      subst i2
      have hiR : inR ((dr.length : Int) + 1) (dr.length + 1 + 1) = true := inR_of (by omega) (by omega)
      obtain ⟨nl1_m, z1_m, nl2_m, z2_m, ds_m, hv_m, ha_m, hb_m, hc_m, hd_m, he_m⟩ := hdmr.shape
      subst hv_m
      have h0i : (0 : Int) ≤ (dr.length : Int) + 1 := by omega
      simp [TB, hj', hdmE, h0i]
      refine ATT.callRT Tryz.func47 60 (f76_ok m1.kids (hkk m1 hmem) (hkn m1 hmem) sel c1 us1 nq js1 _ (cs1 ++ w) un s4 a _ m1.t nl2_m z2_m ds_m (i4.more w) i5 (by omega) i6 hp2 had' hc_m hd_m he_m) (by simp) (by simp) (by simp) fun out hC hE => ?_
      obtain ⟨nl6, ⟨e1, js6, b6, cs6, e2, hI6⟩, hn6⟩ := hE
      subst e1 e2
      simp
      refine ATT.fin02 hQ Tryz.func47 ?_
      exact ⟨by simp, nl6, ⟨rfl, js6, _, cs6, rfl, hI6⟩, hn6⟩
  by_cases k10 : x.k = 10
  ·have e : mkP litB un x (c, us) = (mkS litB c.us.length 0 x.kids (newU x.n x.names.length (addS un (10, c.us.length, 0) c), us)).map fun s => (doneU c.us.length false x.kids.length s, s.1.2) := by cases x; simp only [Nd.k] at k5 k6 k7 k8 k10 k14; simp only [mkP, Nd.kids, Nd.n, Nd.names]; rw [if_neg k14, if_neg k5, if_neg k6, if_neg k7, if_neg k8, if_pos k10]
   have hal : (addS un (10, c.us.length, 0) c).us.length = c.us.length := by simp [addS]
   have haz := (addS_gr un (10, c.us.length, 0) c).2
   rw [e] at hm
   cases hp : mkS litB c.us.length 0 x.kids (newU x.n x.names.length (addS un (10, c.us.length, 0) c), us) with
   | none => rw [hp] at hm; simp at hm
   | some s2 =>
    rw [hp] at hm
    simp only [Option.map_some, Option.some.injEq] at hm
    subst hm
    have hU := f31_ok x hg hf (fun y h1 h2 h3 => ihn y (by omega) h2 h3) sel (addS un (10, c.us.length, 0) c) us nl
    have hfl : (decide (x.k = 12) && !decide (x.t = ⟨#[]⟩)) = false := by rw [k10]; rfl
    rw [hfl, hal] at hU
    have hmin : min c.us.length js.length = c.us.length := by have := hI.1; omega
    refine AF.go Tryz.func47 [(6, [oD 10 [(7, [0, 1, 2, 3, 4, 5]), (8, [0, 1])]]), (17, [oD 12 []]), (25, [oD 11 []]), (28, [oD 19 []])] fun tb TB Q hQ => ?_
    simp [TB, k10, hmin]
    refine ATT.callT Tryz.func47 60 (add_ok sel c (uzD nl us) js _ cs hI un hu (by omega) 10 c.us.length 0) (by simp) (by simp) (by simp) fun out hC hE => ?_
    obtain ⟨e1, js3, b3, cs3, e2, hI3⟩ := hE
    subst e1 e2
    simp [TB]
    refine ATT.callT Tryz.func47 60 (hU js3 _ cs3 s2 _ hI3 (by omega) hnl hp hud0) (by simp) (by simp [k10]) (by simp) fun out hC hE => ?_
    obtain ⟨nl4, ⟨e1, js4, b4, cs4, e2, hI4⟩, hn4⟩ := hE
    subst e1 e2
    simp
    refine ATT.fin02 hQ Tryz.func47 ?_
    exact ⟨by simp, nl4, ⟨rfl, js4, _, cs4, rfl, hI4⟩, hn4⟩
  have e : mkP litB un x (c, us) = some (c, us) := by cases x; simp only [Nd.k] at k5 k6 k7 k8 k10 k14; simp only [mkP]; rw [if_neg k14, if_neg k5, if_neg k6, if_neg k7, if_neg k8, if_neg k10]
  rw [e] at hm
  simp only [Option.some.injEq] at hm
  subst hm
  refine AF.go Tryz.func47 [(6, [oD 10 [(7, [0, 1, 2, 3, 4, 5]), (8, [0, 1])]]), (17, [oD 12 []]), (25, [oD 11 []]), (28, [oD 19 []])] fun tb TB Q hQ => ?_
  simp [TB, k1, k2, k3, k4, k5, k6, k7, k8, k10]
  refine ATT.fin02 hQ Tryz.func47 ?_
  exact ⟨by simp, nl, ⟨rfl, js, _, cs, rfl, hI⟩, hnl⟩
end Go.SL
namespace Go.SL
open Go.Proofs
set_option maxRecDepth 10000
theorem sbyte_appL {s t : ByteArray} {i : Nat} (h : i < s.size) : sbyte (s ++ t) i = sbyte s i := by
 have h' : i < s.data.toList.length := h
 simp only [sbyte, ByteArray.data_append, Array.toList_append, List.getD_eq_getElem?_getD, Int.toNat_natCast]
 rw [List.getElem?_append_left h']
theorem sbyte_appR {s t : ByteArray} {i : Nat} : sbyte (s ++ t) (s.size + i : Nat) = sbyte t i := by
 have h' : s.data.toList.length = s.size := rfl
 simp only [sbyte, ByteArray.data_append, Array.toList_append, List.getD_eq_getElem?_getD, Int.toNat_natCast]
 rw [List.getElem?_append_right (by omega), h', Nat.add_sub_cancel_left]
theorem cnt_appL {s t : ByteArray} : ∀ {i : Nat}, i ≤ s.size → cnt (s ++ t) i = cnt s i
 | 0, _ => rfl
 | i + 1, h => by simp only [cnt]; rw [cnt_appL (by omega), sbyte_appL (by omega)]
theorem cnt_app {s t : ByteArray} : ∀ i : Nat, cnt (s ++ t) (s.size + i) = cnt s s.size + cnt t i
 | 0 => by simp [cnt, cnt_appL (Nat.le_refl _)]
 | i + 1 => by
  rw [← Nat.add_assoc]
  simp only [cnt]
  rw [cnt_app i, sbyte_appR]; omega
theorem skip_app {p : Int → Bool} {s t : ByteArray} : ∀ m i, s.size - i = m → skipS p s i < s.size → skipS p (s ++ t) i = skipS p s i := by
 intro m
 induction m with
 | zero =>
  intro i hm h
  have : skipS p s i = i := by rw [skipS, dif_neg (by omega)]
  omega
 | succ m ih =>
  intro i hm h
  have hi : i < s.size := by omega
  have hi2 : i < (s ++ t).size := by simp; omega
  have e1 : skipS p s i = if p (sbyte s i) then skipS p s (i + 1) else i := by rw [skipS, dif_pos hi]
  have e2 : skipS p (s ++ t) i = if p (sbyte s i) then skipS p (s ++ t) (i + 1) else i := by rw [skipS, dif_pos hi2, sbyte_appL hi]
  rw [e1] at h
  rw [e1, e2]
  split
  ·rename_i hp
   rw [if_pos hp] at h
   exact ih (i + 1) (by omega) h
  ·rfl
def KeyN (s : ByteArray) (n : Nat) : Prop := (n = 0 → s = ⟨#[]⟩) ∧ cnt s s.size = n ∧ (0 < n → letterS (sbyte s 0) = true ∧ nameS s 0 < s.size)
theorem KeyN.zero : KeyN ⟨#[]⟩ 0 := ⟨fun _ => rfl, rfl, fun h => absurd h (by decide)⟩
theorem KeyN.args {s : ByteArray} {n : Nat} (h0 : 0 < n) (h : KeyN s n) : argsN s = n := by
 obtain ⟨_, h2, h3⟩ := h
 have h4 := h3 h0
 have hp : plainB s = false := by unfold plainB; simp; intro _ _; omega
 have hz : 0 < s.size := by omega
 have hp2 : plainB (s.extract 0 1) = true := by
  have hs : (s.extract 0 1).size = 1 := by simp; omega
  have hb : sbyte (s.extract 0 1) 0 = sbyte s 0 := by
   have := sbyte_sub (s := s) (i := 0) (j := 1) (k := 0) (by omega) (by omega)
   simpa [subT] using this
  unfold plainB nameS
  rw [hs, hb, h4.1]
  simp only [Nat.lt_add_one, decide_true, Bool.true_and, Bool.and_true, decide_eq_true_eq]
  rw [skipS, dif_pos (by rw [hs]; decide)]
  simp only [Int.natCast_zero, hb, identS, h4.1, Bool.true_or, if_true]
  rw [skipS, dif_neg (by rw [hs]; decide)]
 unfold argsN
 rw [hp, hp2, h2]
 simp
theorem KeyN.app {s t : ByteArray} {n : Nat} (h : KeyN s n) (g : KeyN t 1) : KeyN (s ++ t) (n + 1) := by
 obtain ⟨h1, h2, h3⟩ := h
 obtain ⟨_, g2, g3⟩ := g
 refine ⟨fun e => by omega, ?_, fun _ => ?_⟩
 ·have e : (s ++ t).size = s.size + t.size := by simp
  rw [e, cnt_app, h2, g2]
 ·cases n with
  | zero =>
   have := h1 rfl
   subst this
   have e : (⟨#[]⟩ ++ t : ByteArray) = t := ByteArray.empty_append
   rw [e]
   exact g3 (by decide)
  | succ n =>
   have h4 := h3 (by omega)
   have hz : 0 < s.size := by omega
   have hl : sbyte (s ++ t) 0 = sbyte s 0 := sbyte_appL (i := 0) hz
   refine ⟨by rw [hl]; exact h4.1, ?_⟩
   have hn : nameS (s ++ t) 0 = nameS s 0 := by
    have hn0 := h4.2
    unfold nameS at hn0 ⊢
    rw [Int.natCast_zero, hl, h4.1]
    rw [Int.natCast_zero, h4.1] at hn0
    have hz2 : 0 < (s ++ t).size := by simp; omega
    simp only [hz, hz2, decide_true, Bool.true_and, if_true] at hn0 ⊢
    exact skip_app _ 0 rfl hn0
   rw [hn]
   have := h4.2
   simp; omega
end Go.SL
namespace Go.SL
open Go.Proofs
set_option maxRecDepth 10000
theorem skip_to {p : Int → Bool} {s : ByteArray} {m : Nat} (hm : m ≤ s.size) (hn : m < s.size → p (sbyte s m) = false) : ∀ n i, m - i = n → i ≤ m → (∀ j : Nat, i ≤ j → j < m → p (sbyte s j) = true) → skipS p s i = m := by
 intro n
 induction n with
 | zero =>
  intro i h1 h2 h3
  have e : i = m := by omega
  subst e
  rw [skipS]
  split
  ·rename_i h
   rw [if_neg (by rw [hn h]; simp)]
  ·rfl
 | succ n ih =>
  intro i h1 h2 h3
  rw [skipS, dif_pos (by omega), if_pos (h3 i (Nat.le_refl _) (by omega))]
  exact ih (i + 1) (by omega) (by omega) fun j a b => h3 j (by omega) b
theorem cnt_none {s : ByteArray} : ∀ i : Nat, (∀ j : Nat, j < i → sbyte s j ≠ 58) → cnt s i = 0
 | 0, _ => rfl
 | i + 1, h => by simp only [cnt]; rw [cnt_none i fun j hj => h j (by omega), if_neg (h i (by omega))]
theorem ident58 {c : Int} (h : identS c = true) : c ≠ 58 := fun e => by subst e; exact absurd h (by decide)
theorem name_all {s : ByteArray} {i : Nat} (hl : letterS (sbyte s i) = true) (hi : i < s.size) : i < nameS s i ∧ nameS s i ≤ s.size ∧ ∀ j : Nat, i ≤ j → j < nameS s i → identS (sbyte s j) = true := by
 have e : nameS s i = skipS identS s i := by unfold nameS; rw [if_pos (by simp [hl, hi])]
 refine ⟨(nameS_gt s i).2 (by simp [hl, hi]), (nameS_le s i).2 (by omega), fun j a b => ?_⟩
 rw [e] at b
 exact skipS_all _ i rfl j a b
theorem name_args {s : ByteArray} {i : Nat} (hl : letterS (sbyte s i) = true) (hi : i < s.size) : argsN (subT s i (nameS s i)) = 0 := by
 obtain ⟨h1, h2, h3⟩ := name_all hl hi
 generalize nameS s i = e at *
 have hz : (subT s i e).size = e - i := subT_size (by omega) h2
 have hb : sbyte (subT s i e) 0 = sbyte s i := by
  have := sbyte_sub (s := s) (i := i) (j := e) (k := 0) (by omega) h2
  simpa using this
 have hn : nameS (subT s i e) 0 = (subT s i e).size := by
  unfold nameS
  rw [if_pos (by rw [Int.natCast_zero, hb, hl, hz]; simp; omega)]
  refine skip_to (Nat.le_refl _) (fun h => absurd h (Nat.lt_irrefl _)) _ 0 rfl (Nat.zero_le _) fun j _ hj => ?_
  rw [hz] at hj
  rw [sbyte_sub (by omega) h2]
  exact h3 _ (by omega) (by omega)
 have hp : plainB (subT s i e) = true := by unfold plainB; rw [hb, hl, hn, hz]; simp; omega
 unfold argsN
 rw [if_pos hp]
theorem colon_at {s : ByteArray} {e : Nat} (h : colonS s e = true) : e < s.size ∧ sbyte s e = 58 := by
 unfold colonS atS at h
 simp only [Bool.and_eq_true, decide_eq_true_eq] at h
 have h1 := h.1
 split at h1
 ·rename_i h2; exact ⟨h2, h1⟩
 ·exact absurd h1 (by decide)
theorem key_one {s : ByteArray} {i : Nat} (hl : letterS (sbyte s i) = true) (hi : i < s.size) (hc : colonS s (nameS s i) = true) : KeyN (subT s i (nameS s i + 1)) 1 := by
 obtain ⟨h1, h2, h3⟩ := name_all hl hi
 obtain ⟨c1, c2⟩ := colon_at hc
 generalize nameS s i = e at *
 have hz : (subT s i (e + 1)).size = e + 1 - i := subT_size (by omega) (by omega)
 have hb : ∀ j : Nat, j < e + 1 - i → sbyte (subT s i (e + 1)) j = sbyte s (i + j : Nat) := fun j hj => sbyte_sub (by omega) (by omega)
 have hlast : sbyte (subT s i (e + 1)) (e - i : Nat) = 58 := by rw [hb _ (by omega), show i + (e - i) = e by omega]; exact c2
 have hid : ∀ j : Nat, j < e - i → identS (sbyte (subT s i (e + 1)) j) = true := fun j hj => by rw [hb j (by omega)]; exact h3 _ (by omega) (by omega)
 have h0 : sbyte (subT s i (e + 1)) 0 = sbyte s i := by have := hb 0 (by omega); simpa using this
 have hn : nameS (subT s i (e + 1)) 0 = e - i := by
  unfold nameS
  rw [if_pos (by rw [Int.natCast_zero, h0, hl, hz]; simp; omega)]
  exact skip_to (by omega) (fun _ => by rw [hlast]; decide) _ 0 rfl (Nat.zero_le _) fun j _ hj => hid j hj
 refine ⟨fun h => absurd h (by decide), ?_, fun _ => ⟨by rw [h0]; exact hl, by rw [hn, hz]; omega⟩⟩
 rw [hz, show e + 1 - i = (e - i) + 1 by omega]
 simp only [cnt]
 rw [cnt_none _ fun j hj => ident58 (hid j hj), hlast]; rfl
theorem sign_args {s : ByteArray} {i : Nat} (hl : letterS (sbyte s i) = false) (hi : i < s.size) (hg : signS (sbyte s i) = true) : argsN (subT s i (signsS s i)) = 1 := by
 have h1 : i < signsS s i := by unfold signsS; rw [if_pos (by simp [hi, hg])]; split <;> omega
 have h2 := (signsS_le s i).2 (by omega)
 generalize signsS s i = e at *
 have hz : (subT s i e).size = e - i := subT_size (by omega) h2
 have hb : sbyte (subT s i e) 0 = sbyte s i := by
  have := sbyte_sub (s := s) (i := i) (j := e) (k := 0) (by omega) h2
  simpa using this
 have hb2 : sbyte ((subT s i e).extract 0 1) 0 = sbyte s i := by
  have := sbyte_sub (s := subT s i e) (i := 0) (j := 1) (k := 0) (by omega) (by omega)
  simp only [Nat.add_zero, Int.natCast_zero, subT] at this
  rw [show (subT s i e).extract 0 1 = (s.extract i e).extract 0 1 from rfl, this]
  exact hb
 have hp : plainB (subT s i e) = false := by unfold plainB; rw [hb, hl]; simp
 have hp2 : plainB ((subT s i e).extract 0 1) = false := by unfold plainB; rw [hb2, hl]; simp
 unfold argsN
 rw [hp, hp2, hz]
 simp; omega
def QA : ByteArray → Nat → Prop := fun t m => argsN t = m ∧ t.size ≤ 4096 * (m + 1)
def KeyB (s : ByteArray) (n : Nat) : Prop := KeyN s n ∧ s.size ≤ 4096 * n
theorem KeyB.zero : KeyB ⟨#[]⟩ 0 := ⟨KeyN.zero, by decide⟩
theorem KeyB.args {s : ByteArray} {n : Nat} (h0 : 0 < n) (h : KeyB s n) : QA s n := ⟨h.1.args h0, by have := h.2; omega⟩
theorem KeyB.app {s t : ByteArray} {n : Nat} (h : KeyB s n) (g : KeyB t 1) : KeyB (s ++ t) (n + 1) := ⟨h.1.app g.1, by have := h.2; have := g.2; simp; omega⟩
def tkF (k : Int) (t : ByteArray) : Prop := (k = 1 → QA t 0) ∧ (k = 3 → QA t 1) ∧ (k = 2 → KeyB t 1)
theorem word_tk {num : ByteArray → Bool} {s : ByteArray} {i : Nat} {k : Int} {t : ByteArray} {e : Nat} (hs : s.size ≤ 4096) (hi : i < s.size) (h : wordS num s i = some (k, t, e)) : tkF k t := by
 have no : ∀ {k' : Int} {t' : ByteArray}, (k' ≠ 1 ∧ k' ≠ 3 ∧ k' ≠ 2) → tkF k' t' := fun h => ⟨fun e => absurd e h.1, fun e => absurd e h.2.1, fun e => absurd e h.2.2⟩
 unfold wordS at h
 split at h
 ·rename_i hl
  split at h
  ·rename_i hc
   simp only [Option.some.injEq, Prod.mk.injEq] at h
   obtain ⟨e1, e2, _⟩ := h
   subst e1 e2
   exact ⟨fun e => absurd e (by decide), fun e => absurd e (by decide), fun _ => ⟨key_one hl hi hc, by have := subT_le s i (nameS s i + 1); omega⟩⟩
  ·simp only [Option.some.injEq, Prod.mk.injEq] at h
   obtain ⟨e1, e2, _⟩ := h
   subst e1 e2
   exact ⟨fun _ => ⟨name_args hl hi, by have := subT_le s i (nameS s i); omega⟩, fun e => absurd e (by decide), fun e => absurd e (by decide)⟩
 rename_i hl
 have hl' : letterS (sbyte s i) = false := by simpa using hl
 split at h
 ·split at h
  ·simp only [Option.some.injEq, Prod.mk.injEq] at h
   rw [← h.1]; exact no (by decide)
  ·simp at h
 split at h
 ·split at h
  ·simp only [Option.some.injEq, Prod.mk.injEq] at h
   rw [← h.1]; exact no (by decide)
  ·simp at h
 split at h
 ·split at h
  ·simp only [Option.some.injEq, Prod.mk.injEq] at h
   rw [← h.1]; exact no (by decide)
  ·split at h
   ·simp only [Option.some.injEq, Prod.mk.injEq] at h
    rw [← h.1]; exact no (by decide)
   ·simp at h
 split at h
 ·split at h
  ·simp only [Option.some.injEq, Prod.mk.injEq] at h
   rw [← h.1]; exact no (by decide)
  ·simp only [Option.some.injEq, Prod.mk.injEq] at h
   rw [← h.1]; exact no (by decide)
 split at h
 ·rename_i hg
  simp only [Option.some.injEq, Prod.mk.injEq] at h
  obtain ⟨e1, e2, _⟩ := h
  subst e1 e2
  exact ⟨fun e => absurd e (by decide), fun _ => ⟨sign_args hl' hi hg, by have := subT_le s i (signsS s i); omega⟩, fun e => absurd e (by decide)⟩
 split at h
 ·rename_i hp
  simp only [Option.some.injEq, Prod.mk.injEq] at h
  rw [← h.1]
  exact no ⟨by omega, by omega, by omega⟩
 ·simp at h
theorem lexS_tf {num : ByteArray → Bool} {s : ByteArray} (hs : s.size ≤ 4096) : ∀ m i l, s.size - i = m → lexS num s i = .inl l → TF QA KeyB l := by
 intro m
 induction m using Nat.strongRecOn with
 | ind m ih =>
  intro i l hm h
  rw [lexS_eq] at h
  have h1 := skipS_le blankS s _ i rfl
  split at h
  ·rename_i hlt
   split at h
   ·split at h
    ·rename_i hq
     have h2 := skipS_le notQ s _ (skipS blankS s i + 1) rfl
     exact ih _ (by omega) _ _ rfl h
    ·simp at h
   ·split at h
    ·rename_i k t e hw
     have hwl := wordS_lt hlt hw
     rw [if_pos hwl.1] at h
     split at h
     ·rename_i l' hl'
      simp only [Sum.inl.injEq] at h
      subst h
      have g := ih _ (by have := hwl.1; omega) _ _ rfl hl'
      intro y hy
      simp only [List.mem_cons] at hy
      rcases hy with hy | hy
      ·subst hy
       have hk := word_tk hs hlt hw
       exact ⟨hk.1, hk.2.1, fun e s n hs => hs.app (hk.2.2 e)⟩
      ·exact g y hy
     ·simp at h
    ·simp at h
  ·simp only [Sum.inl.injEq] at h
   subst h
   intro y hy
   simp at hy
   subst hy
   exact ⟨fun e => by simp at e, fun e => by simp at e, fun e => by simp at e⟩
theorem patKeysS_args : ∀ {n : Nat} {s : ByteArray} {acc : List ByteArray} {l : List Tk} {x r}, TF QA KeyB l → KeyB s acc.length → patKeysS n s acc l = .ok x r → TF QA KeyB r ∧ KeyB x.1 x.2.length ∧ acc.length ≤ x.2.length ∧ (kd l = 2 → acc.length < x.2.length)
 | 0, s, acc, l, x, r, t, hs, e => by simp [patKeysS] at e
 | n + 1, s, acc, l, x, r, t, hs, e => by
  simp only [patKeysS] at e
  split at e
  ·rename_i hk
   obtain ⟨w, l', el, hw, ht, _, _, q⟩ := t.at hk (by decide)
   split at e
   ·have h3 := patKeysS_args t.tail.tail (by rw [ht]; simpa using q hw s _ hs) e
    have := h3.2.2.1
    simp at this
    exact ⟨h3.1, h3.2.1, by omega, fun _ => by omega⟩
   ·simp at e
  ·rename_i hk
   simp only [Res.ok.injEq] at e
   obtain ⟨e1, e2⟩ := e
   subst e1 e2
   exact ⟨t, hs, Nat.le_refl _, fun h => absurd h hk⟩
theorem patS_args {n : Nat} {l : List Tk} {x r} (t : TF QA KeyB l) (e : patS n l = .ok x r) : TF QA KeyB r ∧ QA x.1 x.2.length := by
 simp only [patS] at e
 split at e
 ·rename_i hk
  obtain ⟨w, l', el, hw, ht, q, _⟩ := t.at hk (by decide)
  simp only [Res.ok.injEq] at e
  rw [← e.1, ← e.2, ht]
  exact ⟨t.tail, q hw⟩
 split at e
 ·rename_i hk
  obtain ⟨w, l', el, hw, ht, _, q, _⟩ := t.at hk (by decide)
  split at e
  ·simp only [Res.ok.injEq] at e
   rw [← e.1, ← e.2, ht]
   exact ⟨t.tail.tail, q hw⟩
  ·simp at e
 split at e
 ·rename_i hk
  have h := patKeysS_args (acc := []) t KeyB.zero e
  exact ⟨h.1, h.2.1.args (h.2.2.2 hk)⟩
 ·simp at e
theorem parse_fits {num : ByteArray → Bool} {m : Bool} {s : ByteArray} {x : Nd} {r : List Tk} (h : parseD num m s = .ok x r) : Good QA x ∧ x.k = 12 ∧ (m = false → x.t = ⟨#[]⟩) ∧ (m = true → QA x.t x.n) := by
 unfold parseD at h
 split at h
 ·simp at h
 ·split at h
  ·rename_i hs l hl
   have hwf := lexS_wf (by omega) hl
   have htf := lexS_tf (by omega) _ 0 l rfl hl
   unfold uniS at h
   obtain ⟨p, r1, e1, e2⟩ := andThen_ok h
   obtain ⟨b, r2, e3, e4⟩ := andThen_ok e2
   simp only [Res.ok.injEq] at e4
   have h1 := headS_wf hwf e1
   have h2 := h1.2
   have hh : TF QA KeyB r1 ∧ (m = false → p.1 = ⟨#[]⟩) ∧ (m = true → QA p.1 p.2.length) := by
    cases m with
    | true =>
     have := patS_args htf e1
     exact ⟨this.1, fun e => by simp at e, fun _ => this.2⟩
    | false =>
     simp only [headS, Bool.false_eq_true, if_false, Res.ok.injEq] at e1
     rw [← e1.1, ← e1.2]
     exact ⟨htf, fun _ => rfl, fun e => by simp at e⟩
   have hg := (presG (Q := QA) (K := KeyB) KeyB.zero (fun s n h0 hK => hK.args h0) (fuel l)).body h1.1 hh.1 e3
   rw [← e4.1]
   simp only [Good, Good1]
   exact ⟨⟨⟨by simp; omega, by omega, by simp, fun e => by simp at e, fun e => by simp at e, fun e => by simp at e, fun e => by simp at e⟩, hg.1⟩, rfl, hh.2.1, hh.2.2⟩
  ·simp at h
end Go.SL
namespace Go.SL
def ek (k : Int) : Prop := k = 1 ∨ k = 2 ∨ k = 3 ∨ k = 4 ∨ k = 5 ∨ k = 6 ∨ k = 7 ∨ k = 8 ∨ k = 10
mutual
def Kin : Nd → Prop
 | .mk k _ _ _ _ kids => (k = 6 ∨ k = 7 ∨ k = 9 ∨ k = 11 → ∀ y ∈ kids, ek y.k) ∧ ((k = 8 → ∀ y ∈ kids.head?, ek y.k) ∧ (k = 7 → kids ≠ [])) ∧ (k = 10 ∨ k = 12 → ∀ y ∈ kids, ek y.k ∨ y.k = 11) ∧ KinL kids
def KinL : List Nd → Prop
 | [] => True
 | x :: r => Kin x ∧ KinL r
end
theorem KinL.iff : ∀ {l : List Nd}, KinL l ↔ ∀ x ∈ l, Kin x
 | [] => by simp [KinL]
 | x :: r => by simp [KinL, KinL.iff (l := r)]
theorem KinL.snoc {a : List Nd} {x : Nd} (h : KinL a) (g : Kin x) : KinL (a ++ [x]) := KinL.iff.2 fun y hy => by
 rcases List.mem_append.1 hy with hy | hy
 ·exact KinL.iff.1 h y hy
 ·simp at hy; subst hy; exact g
theorem Nd.kin {x : Nd} (h : Kin x) : KinL x.kids := by cases x; simp only [Kin] at h; exact h.2.2.2
theorem Kin.leaf {k : Int} {t : ByteArray} {a n : Nat} {l : List ByteArray} (h : k ≠ 7) : Kin (.mk k t a n l []) := by
 simp only [Kin, KinL]; exact ⟨fun _ y hy => by simp at hy, ⟨fun _ y hy => by simp at hy, fun e => absurd e h⟩, fun _ y hy => by simp at hy, trivial⟩
mutual
theorem LitP.kin : ∀ {x : Nd}, LitP x → Kin x
 | .mk k t a n names kids, h => by
  simp only [LitP] at h
  simp only [Kin]
  exact ⟨fun e => by omega, ⟨fun e => by omega, fun e => by omega⟩, fun e => by omega, LitL.kin h.2⟩
theorem LitL.kin : ∀ {l : List Nd}, LitL l → KinL l
 | [], _ => by simp [KinL]
 | x :: r, h => by
  simp only [LitL] at h
  simp only [KinL]
  exact ⟨h.1.kin, LitL.kin h.2⟩
end
def EK (x : Nd) : Prop := ek x.k ∧ Kin x
def EL (l : List Nd) : Prop := (∀ y ∈ l, ek y.k) ∧ KinL l
theorem EL.snoc {a : List Nd} {x : Nd} (h : EL a) (g : EK x) : EL (a ++ [x]) := ⟨fun y hy => by
 rcases List.mem_append.1 hy with hy | hy
 ·exact h.1 y hy
 ·simp at hy; subst hy; exact g.1, h.2.snoc g.2⟩
theorem EL.nil : EL [] := ⟨fun y hy => by simp at hy, by simp [KinL]⟩
theorem EK.sent {x m : Nd} (h : EK x) (hk : m.k = 9) (g : Kin m) : EK (sentS x m) := by
 refine ⟨by simp [sentS, Nd.k, ek], ?_⟩
 have g1 : ∀ y ∈ m.kids, ek y.k := by cases m; simp only [Kin] at g; exact g.1 (.inr (.inr (.inl hk)))
 simp only [sentS, Kin, KinL]
 refine ⟨fun _ y hy => ?_, ⟨fun e => by simp at e, fun _ => by simp⟩, fun e => by simp at e, h.2, Nd.kin g⟩
 rcases List.mem_cons.1 hy with hy | hy
 ·subst hy; exact h.1
 ·exact g1 y hy
def SL2 (l : List Nd) : Prop := (∀ y ∈ l, ek y.k ∨ y.k = 11) ∧ KinL l
theorem SL2.snoc {a : List Nd} {x : Nd} (h : SL2 a) (g : (ek x.k ∨ x.k = 11) ∧ Kin x) : SL2 (a ++ [x]) := ⟨fun y hy => by
 rcases List.mem_append.1 hy with hy | hy
 ·exact h.1 y hy
 ·simp at hy; subst hy; exact g.1, h.2.snoc g.2⟩
structure PresK (n : Nat) : Prop where
 expr : ∀ d l, OkP (fun x _ => EK x) (exprS n d l)
 casc : ∀ d l, OkP (fun x _ => EK x) (cascS n d l)
 semis : ∀ d a l, KinL a → OkP (fun x _ => KinL x) (semisS n d a l)
 msg : ∀ d l, OkP (fun x _ => x.k = 9 ∧ Kin x) (msgS n d l)
 keys : ∀ d s a l, EL a → OkP (fun x _ => EL x.2) (keysS n d s a l)
 keyed : ∀ d l, OkP (fun x _ => EK x.1) (keyedS n d l)
 binary : ∀ d l, OkP (fun x _ => EK x.1) (binaryS n d l)
 unary : ∀ d l, OkP (fun x _ => EK x.1) (unaryS n d l)
 chain : ∀ d c y l, EK y.1 → OkP (fun x _ => EK x.1) (chainS n d c y l)
 prim : ∀ d l, OkP (fun x _ => EK x.1) (primS n d l)
 list : ∀ d l, OkP (fun x _ => EK x) (listS n d l)
 elems : ∀ d a l, KinL a → OkP (fun x _ => KinL x) (elemsS n d a l)
 elem : ∀ d l, OkP (fun x _ => Kin x) (elemS n d l)
 block : ∀ d l, OkP (fun x _ => EK x) (blockS n d l)
 body : ∀ d e l, OkP (fun x _ => SL2 x.2) (bodyS n d e l)
 stmts : ∀ d e a l, SL2 a → OkP (fun x _ => SL2 x) (stmtsS n d e a l)
 stmt : ∀ d l, OkP (fun x _ => (ek x.1.k ∨ x.1.k = 11) ∧ Kin x.1) (stmtS n d l)
theorem one_kin {k : Int} {t : ByteArray} {a : Nat} {x : Nd} (hk : k = 6 ∨ k = 9 ∨ k = 11) (h : EK x) : Kin (.mk k t a 0 [] [x]) := by
 simp only [Kin, KinL]
 exact ⟨fun _ y hy => by simp at hy; subst hy; exact h.1, ⟨fun e => by omega, fun e => by omega⟩, fun e => by omega, h.2, trivial⟩
theorem presK : ∀ n, PresK n
 | 0 => by constructor <;> intros <;> (simp only [exprS, cascS, semisS, msgS, keysS, keyedS, binaryS, unaryS, chainS, primS, listS, elemsS, elemS, blockS, bodyS, stmtsS, stmtS]; exact OkP.out)
 | n + 1 => by
  have ih := presK n
  have lf : ∀ {k : Int} {t : ByteArray} {a : Nat}, ek k → k ≠ 7 → EK (.mk k t a 0 [] []) := fun h g => ⟨h, .leaf g⟩
  constructor
  case expr =>
   intro d l
   simp only [exprS]
   split
   ·split
    ·exact OkP.no
    ·exact (ih.expr _ _).then fun x r h => OkP.ok ⟨by simp [Nd.k, ek], one_kin (.inl rfl) h⟩
   ·exact ih.casc _ _
  case casc =>
   intro d l
   simp only [cascS]
   refine (ih.keyed _ _).then fun x r h => ?_
   split
   ·split
    ·rename_i h7
     refine (ih.semis d [] r (by simp [KinL])).then fun y r' g => OkP.ok ⟨by simp [Nd.k, ek], ?_⟩
     have hk := Nd.kin h.2
     have he : ∀ y ∈ x.1.kids, ek y.k := by
      have := h.2
      cases hx : x.1 with
      | mk k t a m names kids =>
       rw [hx] at this h7
       simp only [Kin] at this
       exact this.1 (.inr (.inl h7.1))
     have hd : ∀ y ∈ x.1.kids.drop 1, ek y.k := fun y hy => he y (List.mem_of_mem_drop hy)
     simp only [Kin]
     refine ⟨fun e => by simp at e, ⟨fun _ y hy => ?_, fun e => by simp at e⟩, fun e => by simp at e, KinL.iff.2 fun y hy => ?_⟩
     ·have hn : x.1.kids ≠ [] := by
       have := h.2
       cases hx : x.1 with
       | mk k t a m names kids =>
        rw [hx] at this h7
        simp only [Kin] at this
        exact this.2.1.2 h7.1
      cases hq : x.1.kids with
      | nil => exact absurd hq hn
      | cons q qs => rw [hq] at hy; simp at hy; subst hy; exact he _ (by rw [hq]; simp)
     ·simp only [List.mem_append, List.mem_cons] at hy
      rcases hy with hy | hy | hy
      ·exact KinL.iff.1 hk y (List.mem_of_mem_take hy)
      ·subst hy
       simp only [Kin]
       exact ⟨fun _ => hd, ⟨fun e => by simp at e, fun e => by simp at e⟩, fun e => by simp at e, KinL.iff.2 fun z hz => KinL.iff.1 hk z (List.mem_of_mem_drop hz)⟩
      ·exact KinL.iff.1 g y hy
    ·exact OkP.no
   ·exact OkP.ok h
  case semis =>
   intro d a l ha
   simp only [semisS]
   split
   ·exact (ih.msg _ _).then fun m r hm => ih.semis d _ r (ha.snoc hm.2)
   ·exact OkP.ok ha
  case msg =>
   intro d l
   simp only [msgS]
   split
   ·exact OkP.ok ⟨rfl, .leaf (by decide)⟩
   split
   ·exact (ih.unary _ _).then fun x r h => OkP.ok ⟨rfl, one_kin (.inr (.inl rfl)) h⟩
   split
   ·refine (ih.keys d _ [] l EL.nil).then fun x r h => OkP.ok ⟨rfl, ?_⟩
    simp only [Kin]
    exact ⟨fun _ => h.1, ⟨fun e => by simp at e, fun e => by simp at e⟩, fun e => by simp at e, h.2⟩
   ·exact OkP.no
  case keys =>
   intro d s a l ha
   simp only [keysS]
   split
   ·exact (ih.binary _ _).then fun m r hm => ih.keys d _ _ r (ha.snoc hm)
   ·exact OkP.ok ha
  case keyed =>
   intro d l
   simp only [keyedS]
   refine (ih.binary _ _).then fun x r h => ?_
   split
   ·exact (ih.msg _ _).then fun m r' g => OkP.ok (h.sent g.1 g.2)
   ·exact OkP.ok h
  case binary =>
   intro d l
   simp only [binaryS]
   exact (ih.unary _ _).then fun x r h => ih.chain _ _ _ _ h
  case unary =>
   intro d l
   simp only [unaryS]
   exact (ih.prim _ _).then fun x r h => ih.chain _ _ _ _ h
  case chain =>
   intro d c y l hy
   simp only [chainS]
   split
   ·exact (ih.msg _ _).then fun m r g => ih.chain _ _ _ _ (hy.sent g.1 g.2)
   ·exact OkP.ok hy
  case prim =>
   intro d l
   simp only [primS]
   split
   ·exact OkP.ok (lf (by simp [ek]) (by decide))
   split
   ·exact OkP.ok (lf (by simp [ek]) (by decide))
   split
   ·exact OkP.ok (lf (by simp [ek]) (by decide))
   split
   ·exact OkP.ok (lf (by simp [ek]) (by decide))
   split
   ·exact (ih.list _ _).then fun x r h => OkP.ok h
   split
   ·exact (ih.block _ _).then fun x r h => OkP.ok h
   split
   ·split
    ·exact OkP.no
    ·refine (ih.expr _ _).then fun x r h => ?_
     split
     ·exact OkP.ok h
     ·exact OkP.no
   ·exact OkP.no
  case list =>
   intro d l
   simp only [listS]
   split
   ·exact OkP.no
   ·refine (ih.elems _ _ _ (by simp [KinL])).then fun x r h => OkP.ok ⟨by simp [Nd.k, ek], ?_⟩
    simp only [Kin]
    exact ⟨fun e => by simp at e, ⟨fun e => by simp at e, fun e => by simp at e⟩, fun e => by simp at e, h⟩
  case elems =>
   intro d a l ha
   simp only [elemsS]
   split
   ·exact OkP.ok ha
   ·exact (ih.elem _ _).then fun x r h => ih.elems d _ r (ha.snoc h)
  case elem =>
   intro d l
   simp only [elemS]
   split
   ·exact (fun x r e => (ih.list _ _ x r e).2)
   split
   ·exact OkP.ok (.leaf (by first | decide | (split <;> decide)))
   split
   ·exact OkP.ok (.leaf (by first | decide | (split <;> decide)))
   split
   ·exact OkP.ok (.leaf (by first | decide | (split <;> decide)))
   split
   ·exact OkP.ok (.leaf (by first | decide | (split <;> decide)))
   ·exact OkP.no
  case block =>
   intro d l
   have fin : ∀ {ags : List ByteArray} {x : List ByteArray × List Nd}, SL2 x.2 → EK (.mk 10 ⟨#[]⟩ (pl l) ags.length (ags ++ x.1) x.2) := fun h => by
    refine ⟨by simp [Nd.k, ek], ?_⟩
    simp only [Kin]
    exact ⟨fun e => by simp at e, ⟨fun e => by simp at e, fun e => by simp at e⟩, fun _ => h.1, h.2⟩
   simp only [blockS]
   split
   ·exact OkP.no
   ·refine (argsS_le _ _).then fun ags r _ => ?_
    split
    ·split
     ·exact (ih.body _ _ _).then fun x r' g => OkP.ok (fin g)
     ·exact OkP.no
    ·exact (ih.body _ _ _).then fun x r' g => OkP.ok (fin g)
  case body =>
   intro d e l
   simp only [bodyS]
   exact (tempsS_le _).then fun ts r _ => (ih.stmts _ _ _ _ ⟨fun y hy => by simp at hy, by simp [KinL]⟩).then fun ks r' g => OkP.ok g
  case stmts =>
   intro d e a l ha
   simp only [stmtsS]
   split
   ·exact OkP.ok ha
   ·refine (ih.stmt _ _).then fun x r h => ?_
    split
    ·exact ih.stmts d _ _ _ (ha.snoc h)
    split
    ·split
     ·exact OkP.ok (ha.snoc h)
     ·exact OkP.no
    split
    ·exact OkP.ok (ha.snoc h)
    ·exact OkP.no
  case stmt =>
   intro d l
   simp only [stmtS]
   split
   ·exact (ih.expr _ _).then fun x r h => OkP.ok ⟨.inr rfl, one_kin (.inr (.inr rfl)) h⟩
   ·exact (ih.expr _ _).then fun x r h => OkP.ok ⟨.inl h.1, h.2⟩
mutual
theorem lit_use {sl : List ByteArray} : ∀ {x : Nd} {fr : Fr} {to : Bool}, LitP x → useP sl fr to x = .inl []
 | .mk k t a n names kids, fr, to, h => by
  simp only [LitP] at h
  simp only [useP]
  rw [if_neg (by omega), if_neg (by omega), if_neg (by omega)]
  exact lits_use h.2
theorem lits_use {sl : List ByteArray} : ∀ {l : List Nd} {fr : Fr} {to : Bool}, LitL l → useL sl fr to l = .inl []
 | [], _, _, _ => by simp [useL]
 | x :: r, fr, to, h => by
  simp only [LitL] at h
  simp only [useL, lit_use h.1, lits_use h.2, catU, List.append_nil]
end
theorem catU_inl {a b : List Us ⊕ Nat} {l : List Us} (h : catU a b = .inl l) : ∃ x y, a = .inl x ∧ b = .inl y ∧ l = x ++ y := by
 cases a <;> cases b <;> simp only [catU] at h
 ·simp only [Sum.inl.injEq] at h; exact ⟨_, _, rfl, rfl, h.symm⟩
 all_goals simp at h
end Go.SL
namespace Go.SL
abbrev Sh := List (Option Nat)
def up (sh : Sh) (u : Nat) (a : Option Nat) (k : Nat) : Sh := sh.set u a ++ List.replicate k none
theorem up_at {sh : Sh} {u : Nat} (h : u < sh.length) (a : Option Nat) (k : Nat) : (up sh u a k)[u]? = some a := by
 unfold up
 rw [List.getElem?_append_left (by simpa using h), List.getElem?_set_self h]
theorem up_up {sh : Sh} {u : Nat} (h : u < sh.length) (a b : Option Nat) (k m : Nat) : up (up sh u a k) u b m = up sh u b (k + m) := by
 unfold up
 rw [List.set_append_left _ _ (by simpa using h), List.set_set, List.append_assoc, List.replicate_append_replicate]
theorem up_same {sh : Sh} {u : Nat} {a : Option Nat} (h : sh[u]? = some a) : up sh u a 0 = sh := by
 unfold up
 have hl := (List.getElem?_eq_some_iff.1 h).1
 apply List.ext_getElem?
 intro i
 by_cases e : u = i
 ·subst e; simp [List.getElem?_set_self hl, h]
 ·simp [List.getElem?_set_ne e]
theorem up_new (sh : Sh) (u : Nat) (a : Option Nat) (k : Nat) : up (up sh u a 0 ++ [some 0]) sh.length none k = up sh u a (k + 1) := by
 unfold up
 simp only [List.replicate_zero, List.append_nil]
 rw [List.set_append_right _ _ (by simp)]
 simp [List.replicate_succ]
theorem at_len {sh : Sh} {u : Nat} {a : Option Nat} (h : sh[u]? = some a) : u < sh.length := (List.getElem?_eq_some_iff.1 h).1
def PU (n : Nat) (x : Us) : Prop := (x.k = 2 → x.i < 3) ∧ (x.k = 4 → x.i < n)
theorem idxS_lt {t : ByteArray} : ∀ {l : List ByteArray} {k i : Nat}, idxS t l k = some i → k ≤ i ∧ i < k + l.length
 | [], k, i, h => by simp [idxS] at h
 | x :: r, k, i, h => by
  simp only [idxS] at h
  split at h
  ·simp only [Option.some.injEq] at h; subst h; simp
  ·have := idxS_lt h; simp; omega
theorem find_pu (sl : List ByteArray) (fr : Fr) (t : ByteArray) (a : Nat) (w : Bool) : PU sl.length { (findS sl fr t).1 with a := a, w := w } := by
 unfold findS fixedS PU
 split
 ·rename_i k i h
  simp only
  refine ⟨fun e => ?_, fun e => ?_⟩
  ·repeat' (split at h)
   all_goals first | (simp at h; done) | (simp only [Option.some.injEq, Prod.mk.injEq] at h; omega)
  ·repeat' (split at h)
   all_goals first | (simp at h; done) | (simp only [Option.some.injEq, Prod.mk.injEq] at h; omega)
 ·split
  ·simp
  ·split
   ·rename_i h
    have := idxS_lt h
    simp; omega
   ·simp only
    refine ⟨fun e => ?_, fun e => ?_⟩ <;> (split at e <;> simp at e)
structure Clo (n : Nat) (Q : ByteArray → Nat → Prop) (Inv : Sh → CM → Prop) : Prop where
 len : ∀ {sh c}, Inv sh c → sh.length = c.us.length
 lit : ∀ {sh c u d} (t : ByteArray), Inv sh c → sh[u]? = some (some d) → Inv (up sh u (some (d + 1)) 0) (litS u t c)
 use : ∀ {sh c u d} {x : Us}, PU n x → Inv sh c → sh[u]? = some (some d) → Inv (up sh u (some (d + 1)) 0) (useS u x c)
 set : ∀ {sh c u d} {x : Us}, PU n x → (x.k = 3 ∨ x.k = 4) → Inv sh c → sh[u]? = some (some (d + 1)) → Inv (up sh u (some (d + 1)) 0) (setS u x c)
 send : ∀ {sh c u d m} {t : ByteArray} (sp : Bool), Q t m → Inv sh c → sh[u]? = some (some (d + m + 1)) → Inv (up sh u (some (d + 1)) 0) (sendC u sp t m c)
 dup : ∀ {sh c u d}, Inv sh c → sh[u]? = some (some (d + 1)) → Inv (up sh u (some (d + 2)) 0) (addS u (11, 0, 0) c)
 pop : ∀ {sh c u d}, Inv sh c → sh[u]? = some (some (d + 1)) → Inv (up sh u (some d) 0) (addS u (12, 0, 0) c)
 self : ∀ {sh c u d}, Inv sh c → sh[u]? = some (some d) → Inv (up sh u (some (d + 1)) 0) (addS u (6, 0, 0) c)
 nul : ∀ {sh c u d}, Inv sh c → sh[u]? = some (some d) → Inv (up sh u (some (d + 1)) 0) (addS u (7, 0, 0) c)
 blk : ∀ {sh c u d a b}, a ≤ b → Inv sh c → sh[u]? = some (some d) → Inv (up sh u (some (d + 1)) 0 ++ [some 0]) (newU a b (addS u (10, c.us.length, 0) c))
 fin : ∀ {sh c u}, Inv sh c → sh[u]? = some (some 1) → Inv (up sh u none 0) (addS u (13, 0, 0) c)
 ret : ∀ {sh c u}, Inv sh c → sh[u]? = some (some 1) → Inv (up sh u none 0) (addS u (14, 0, 0) c)
section
variable {lt : Nd → ByteArray} {sl : List ByteArray} {Q : ByteArray → Nat → Prop} {Inv : Sh → CM → Prop}
theorem Clo.done (K : Clo sl.length Q Inv) {sh : Sh} {c : CM} {u k m : Nat} (hu : u < sh.length) (mt : Bool) (h : Inv (up sh u (some (if m = 0 then 0 else 1)) k) c) : Inv (up sh u none k) (endS u mt m c) := by
 have ha := up_at hu (some (if m = 0 then 0 else 1)) k
 unfold endS
 by_cases h0 : m = 0
 ·rw [if_pos h0] at h ha
  cases mt with
  | true =>
   rw [if_pos rfl, if_pos h0]
   have h1 := K.self h ha
   rw [up_up hu] at h1
   have h2 := K.ret h1 (up_at hu _ _)
   rw [up_up hu] at h2
   exact h2
  | false =>
   rw [if_neg (by decide), if_pos h0]
   have h1 := K.nul h ha
   rw [up_up hu] at h1
   have h2 := K.fin h1 (up_at hu _ _)
   rw [up_up hu] at h2
   exact h2
 ·rw [if_neg h0] at h ha
  cases mt with
  | true =>
   rw [if_pos rfl, if_neg h0]
   have h0 := K.pop h ha
   rw [up_up hu] at h0
   have h1 := K.self h0 (up_at hu _ _)
   rw [up_up hu] at h1
   have h2 := K.ret h1 (up_at hu _ _)
   rw [up_up hu] at h2
   exact h2
  | false =>
   rw [if_neg (by decide), if_neg h0]
   have h2 := K.fin h ha
   rw [up_up hu] at h2
   exact h2
theorem Clo.pop0 (K : Clo sl.length Q Inv) {sh : Sh} {c : CM} {u i : Nat} (h : Inv sh c) (ha : sh[u]? = some (some (if i = 0 then 0 else 1))) : Inv (up sh u (some 0) 0) (if i = 0 then c else addS u (12, 0, 0) c) := by
 by_cases h0 : i = 0
 ·rw [if_pos h0] at ha ⊢
  rw [up_same ha]; exact h
 ·rw [if_neg h0] at ha ⊢
  exact K.pop (d := 0) h ha
mutual
theorem mkP_ok (K : Clo sl.length Q Inv) {u : Nat} : ∀ {x : Nd} {fr : Fr} {to : Bool} {us : List Us}, Good Q x → Fine x → Kin x → ek x.k → useP sl fr to x = .inl us → ∀ (c : CM) (rest : List Us) {sh : Sh} {d : Nat}, Inv sh c → sh[u]? = some (some d) → ∃ c' k, mkP lt u x (c, us ++ rest) = some (c', rest) ∧ Inv (up sh u (some (d + 1)) k) c'
 | .mk k t a n names kids, fr, to, us, hg, hf, hk, he, hu, c, rest, sh, d, hI, hd => by
  have hfl := Nd.fine hf
  have hkl := Nd.kin hk
  have hgl := hg.all
  have hg1 := hg.one
  simp only [Nd.kids] at hfl hkl hgl
  simp only [Nd.kids, Nd.k, Nd.t, Nd.n, Nd.names] at hg1
  simp only [Fine] at hf
  simp only [Kin] at hk
  simp only [Nd.k, ek] at he
  simp only [useP] at hu
  simp only [mkP]
  have hul := at_len hd
  split
  ·rename_i h
   rw [if_neg (by omega), if_neg (by omega), if_neg (by omega), lits_use (hf.2.2.2.1 (by omega))] at hu
   simp only [Sum.inl.injEq] at hu
   subst hu
   exact ⟨_, 0, rfl, K.lit _ hI hd⟩
  rename_i h1
  split
  ·rename_i h
   rw [if_pos h] at hu
   split at hu
   ·simp at hu
   ·simp only [Sum.inl.injEq] at hu
    subst hu
    exact ⟨_, 0, rfl, K.use (find_pu sl fr t a _) hI hd⟩
  rename_i h5
  rw [if_neg h5] at hu
  split
  ·rename_i h
   rw [if_pos h] at hu
   split at hu
   ·simp at hu
   ·rename_i hns
    obtain ⟨p, q, e1, e2, e3⟩ := catU_inl hu
    simp only [Sum.inl.injEq] at e1
    subst e1 e3
    have hlen := hf.2.2.1 (.inr h)
    obtain ⟨c', m, hc, hi⟩ := mkH_ok K (u := u) hgl hfl hkl (hk.1 (.inl h)) hlen e2 c rest hI hd
    simp only [List.cons_append, List.nil_append, hc]
    have h2 := K.set (x := { (findS sl fr t).1 with a := a, w := true }) (find_pu sl fr t a true) (by simp only; omega) hi (up_at hul _ _)
    rw [up_up hul] at h2
    exact ⟨_, _, rfl, h2⟩
  rename_i h6
  rw [if_neg h6] at hu
  split
  ·rename_i h
   rw [if_neg (by omega)] at hu
   obtain ⟨c', m, hc, hi⟩ := mkL_ok K (u := u) hgl hfl hkl (hk.1 (.inr (.inl h))) hu c rest hI hd
   rw [hc]
   have hq := hg1.2.2.2.1 h
   have h2 := K.send (d := d) (m := kids.length - 1) (sup0 kids) hq.2 hi (by rw [up_at hul]; congr 2; omega)
   rw [up_up hul] at h2
   exact ⟨_, _, rfl, h2⟩
  rename_i h7
  split
  ·rename_i h
   rw [if_neg (by omega)] at hu
   exact mkC_ok K (u := u) hgl hfl hkl (hk.2.1.1 h) (hf.1.1 h).1 (hf.1.1 h).2 hu c rest hI hd
  rename_i h8
  split
  ·rename_i h
   rw [if_pos h] at hu
   split at hu
   ·simp at hu
   ·have hb := K.blk (a := n) (b := names.length) hg1.2.2.1 hI hd
    have hlen := K.len hI
    have hn : (up sh u (some (d + 1)) 0 ++ [some 0])[c.us.length]? = some (some (if 0 = 0 then 0 else 1)) := by
     rw [← hlen, List.getElem?_append_right (by simp [up])]; simp [up]
    obtain ⟨c', b, m, hc, hi⟩ := mkS_ok K (u := c.us.length) (i := 0) hgl hfl hkl (hk.2.2.1 (.inl h)) (hf.1.2 (.inl h)) hu (newU n names.length (addS u (10, c.us.length, 0) c)) rest hb hn
    rw [hc]
    refine ⟨_, m + 1, rfl, ?_⟩
    rw [← up_new, hlen]
    simp only [doneU]
    cases b with
    | true => simpa using hi
    | false =>
     rw [if_neg (by decide)] at hi ⊢
     rw [Nat.zero_add] at hi
     exact K.done (by simp [up]; omega) false hi
  ·omega
theorem mkH_ok (K : Clo sl.length Q Inv) {u : Nat} : ∀ {l : List Nd} {fr : Fr} {to : Bool} {us : List Us}, GoodL Q l → FineL l → KinL l → (∀ y ∈ l, ek y.k) → l.length = 1 → useL sl fr to l = .inl us → ∀ (c : CM) (rest : List Us) {sh : Sh} {d : Nat}, Inv sh c → sh[u]? = some (some d) → ∃ c' k, mkH lt u l (c, us ++ rest) = some (c', rest) ∧ Inv (up sh u (some (d + 1)) k) c'
 | [], fr, to, us, _, _, _, _, h, _, c, rest, _, _, _, _ => by simp at h
 | [x], fr, to, us, hg, hf, hk, he, h, hu, c, rest, sh, d, hI, hd => by
  simp only [FineL] at hf
  simp only [KinL] at hk
  simp only [GoodL] at hg
  simp only [useL] at hu
  obtain ⟨p, q, e1, e2, e3⟩ := catU_inl hu
  simp only [Sum.inl.injEq] at e2
  subst e2 e3
  simp only [mkH, List.append_nil]
  exact mkP_ok K hg.1 hf.1 hk.1 (he x (by simp)) e1 c rest hI hd
 | _ :: _ :: _, fr, to, us, _, _, _, _, h, _, c, rest, _, _, _, _ => by simp at h
theorem mkL_ok (K : Clo sl.length Q Inv) {u : Nat} : ∀ {l : List Nd} {fr : Fr} {to : Bool} {us : List Us}, GoodL Q l → FineL l → KinL l → (∀ y ∈ l, ek y.k) → useL sl fr to l = .inl us → ∀ (c : CM) (rest : List Us) {sh : Sh} {d : Nat}, Inv sh c → sh[u]? = some (some d) → ∃ c' k, mkL lt u l (c, us ++ rest) = some (c', rest) ∧ Inv (up sh u (some (d + l.length)) k) c'
 | [], fr, to, us, _, _, _, _, hu, c, rest, sh, d, hI, hd => by
  simp only [useL, Sum.inl.injEq] at hu
  subst hu
  exact ⟨c, 0, by simp [mkL], by rw [List.length_nil, Nat.add_zero, up_same hd]; exact hI⟩
 | x :: r, fr, to, us, hg, hf, hk, he, hu, c, rest, sh, d, hI, hd => by
  simp only [FineL] at hf
  simp only [KinL] at hk
  simp only [GoodL] at hg
  simp only [useL] at hu
  obtain ⟨p, q, e1, e2, e3⟩ := catU_inl hu
  subst e3
  have hul := at_len hd
  obtain ⟨c1, m1, h1, i1⟩ := mkP_ok K (u := u) hg.1 hf.1 hk.1 (he x (by simp)) e1 c (q ++ rest) hI hd
  obtain ⟨c2, m2, h2, i2⟩ := mkL_ok K (u := u) hg.2 hf.2 hk.2 (fun y hy => he y (by simp [hy])) e2 c1 rest i1 (up_at hul _ _)
  rw [up_up hul] at i2
  exact ⟨c2, _, by simp only [mkL, List.append_assoc, h1, Option.bind_some, h2], by rw [List.length_cons, show d + (r.length + 1) = d + 1 + r.length by omega]; exact i2⟩
theorem mkC_ok (K : Clo sl.length Q Inv) {u : Nat} {sp : Bool} : ∀ {l : List Nd} {fr : Fr} {to : Bool} {us : List Us}, GoodL Q l → FineL l → KinL l → (∀ y ∈ l.head?, ek y.k) → 2 ≤ l.length → (∀ y ∈ l.tail, y.k = 9) → useL sl fr to l = .inl us → ∀ (c : CM) (rest : List Us) {sh : Sh} {d : Nat}, Inv sh c → sh[u]? = some (some d) → ∃ c' k, mkC lt u sp l (c, us ++ rest) = some (c', rest) ∧ Inv (up sh u (some (d + 1)) k) c'
 | [], fr, to, us, _, _, _, _, h, _, _, c, rest, _, _, _, _ => by simp at h
 | x :: r, fr, to, us, hg, hf, hk, he, h2, h9, hu, c, rest, sh, d, hI, hd => by
  simp only [FineL] at hf
  simp only [KinL] at hk
  simp only [GoodL] at hg
  simp only [useL] at hu
  obtain ⟨p, q, e1, e2, e3⟩ := catU_inl hu
  subst e3
  have hul := at_len hd
  obtain ⟨c1, m1, h1, i1⟩ := mkP_ok K (u := u) hg.1 hf.1 hk.1 (he x (by simp)) e1 c (q ++ rest) hI hd
  obtain ⟨c2, m2, h2, i2⟩ := mkD_ok K (u := u) (sp := sp) hg.2 hf.2 hk.2 (by simp at h2; omega) (fun y hy => h9 y (by simpa using hy)) e2 c1 rest i1 (up_at hul _ _)
  rw [up_up hul] at i2
  exact ⟨c2, _, by simp only [mkC, List.append_assoc, h1, Option.bind_some, h2], i2⟩
theorem mkD_ok (K : Clo sl.length Q Inv) {u : Nat} {sp : Bool} : ∀ {l : List Nd} {fr : Fr} {to : Bool} {us : List Us}, GoodL Q l → FineL l → KinL l → 1 ≤ l.length → (∀ y ∈ l, y.k = 9) → useL sl fr to l = .inl us → ∀ (c : CM) (rest : List Us) {sh : Sh} {d : Nat}, Inv sh c → sh[u]? = some (some (d + 1)) → ∃ c' k, mkD lt u sp l (c, us ++ rest) = some (c', rest) ∧ Inv (up sh u (some (d + 1)) k) c'
 | [], fr, to, us, _, _, _, h, _, _, c, rest, _, _, _, _ => by simp at h
 | [m], fr, to, us, hg, hf, hk, h, h9, hu, c, rest, sh, d, hI, hd => by
  simp only [FineL] at hf
  simp only [KinL] at hk
  simp only [GoodL] at hg
  simp only [useL] at hu
  obtain ⟨p, q, e1, e2, e3⟩ := catU_inl hu
  simp only [Sum.inl.injEq] at e2
  subst e2 e3
  simp only [mkD, List.append_nil]
  exact mkM_ok K hg.1 hf.1 hk.1 (h9 m (by simp)) e1 c rest hI hd
 | m :: y :: r, fr, to, us, hg, hf, hk, h, h9, hu, c, rest, sh, d, hI, hd => by
  rw [FineL] at hf
  rw [KinL] at hk
  rw [GoodL] at hg
  rw [useL] at hu
  obtain ⟨p, q, e1, e2, e3⟩ := catU_inl hu
  subst e3
  have hul := at_len hd
  obtain ⟨c1, m1, h1, i1⟩ := mkM_ok K (u := u) (sp := sp) hg.1 hf.1 hk.1 (h9 m (by simp)) e1 (addS u (11, 0, 0) c) (q ++ rest) (K.dup hI hd) (up_at hul _ _)
  rw [up_up hul] at i1
  have i3 := K.pop i1 (up_at hul _ _)
  rw [up_up hul] at i3
  obtain ⟨c2, m2, h2, i2⟩ := mkD_ok K (u := u) (sp := sp) (l := y :: r) hg.2 hf.2 hk.2 (by simp) (fun z hz => h9 z (by simp only [List.mem_cons] at hz ⊢; exact .inr hz)) e2 (addS u (12, 0, 0) c1) rest i3 (up_at hul _ _)
  rw [up_up hul] at i2
  exact ⟨c2, _, by simp only [mkD, List.append_assoc, h1, Option.bind_some] at h2 ⊢; exact h2, i2⟩
theorem mkM_ok (K : Clo sl.length Q Inv) {u : Nat} {sp : Bool} : ∀ {m : Nd} {fr : Fr} {to : Bool} {us : List Us}, Good Q m → Fine m → Kin m → m.k = 9 → useP sl fr to m = .inl us → ∀ (c : CM) (rest : List Us) {sh : Sh} {d : Nat}, Inv sh c → sh[u]? = some (some (d + 1)) → ∃ c' k, mkM lt u sp m (c, us ++ rest) = some (c', rest) ∧ Inv (up sh u (some (d + 1)) k) c'
 | .mk k t a n names kids, fr, to, us, hg, hf, hk, h9, hu, c, rest, sh, d, hI, hd => by
  have hfl := Nd.fine hf
  have hkl := Nd.kin hk
  have hgl := hg.all
  have hg1 := hg.one
  simp only [Nd.kids] at hfl hkl hgl
  simp only [Nd.kids, Nd.k, Nd.t, Nd.n, Nd.names] at hg1
  simp only [Kin] at hk
  simp only [Nd.k] at h9
  simp only [useP] at hu
  rw [if_neg (by omega), if_neg (by omega), if_neg (by omega)] at hu
  have hul := at_len hd
  obtain ⟨c', m, hc, hi⟩ := mkL_ok K (u := u) hgl hfl hkl (hk.1 (.inr (.inr (.inl h9)))) hu c rest hI hd
  have h2 := K.send (d := d) (m := kids.length) sp (hg1.2.2.2.2.1 h9) hi (by rw [up_at hul]; congr 2; omega)
  rw [up_up hul] at h2
  exact ⟨sendC u sp t kids.length c', _, by simp only [mkM, hc, Option.map_some], h2⟩
theorem mkS_ok (K : Clo sl.length Q Inv) {u i : Nat} : ∀ {l : List Nd} {fr : Fr} {to : Bool} {us : List Us}, GoodL Q l → FineL l → KinL l → (∀ y ∈ l, ek y.k ∨ y.k = 11) → (∀ y ∈ l.dropLast, y.k ≠ 11) → useL sl fr to l = .inl us → ∀ (c : CM) (rest : List Us) {sh : Sh}, Inv sh c → sh[u]? = some (some (if i = 0 then 0 else 1)) → ∃ c' b k, mkS lt u i l (c, us ++ rest) = some ((c', rest), b) ∧ Inv (up sh u (if b then none else some (if i + l.length = 0 then 0 else 1)) k) c'
 | [], fr, to, us, _, _, _, _, _, hu, c, rest, sh, hI, hd => by
  simp only [useL, Sum.inl.injEq] at hu
  subst hu
  exact ⟨c, false, 0, by simp [mkS], by rw [if_neg (by decide), List.length_nil, Nat.add_zero, up_same hd]; exact hI⟩
 | .mk k t a n names kids :: r, fr, to, us, hg, hf, hk, he, hdl, hu, c, rest, sh, hI, hd => by
  simp only [FineL] at hf
  simp only [KinL] at hk
  simp only [GoodL] at hg
  simp only [useL] at hu
  obtain ⟨p, q, e1, e2, e3⟩ := catU_inl hu
  subst e3
  have hul := at_len hd
  have hp := K.pop0 (i := i) hI hd
  simp only [mkS]
  split
  ·rename_i h
   have hr : r = [] := by
    cases r with
    | nil => rfl
    | cons y r => exact absurd h (hdl (.mk k t a n names kids) (by simp))
   subst hr
   simp only [useL, Sum.inl.injEq] at e2
   subst e2
   have hfl := Nd.fine hf.1
   have hkl := Nd.kin hk.1
   have hgl := hg.1.all
   simp only [Nd.kids] at hfl hkl hgl
   have h1 := hf.1
   have k1 := hk.1
   simp only [Fine] at h1
   simp only [Kin] at k1
   simp only [useP] at e1
   rw [if_neg (by omega), if_neg (by omega), if_neg (by omega)] at e1
   obtain ⟨c1, m1, h1, i1⟩ := mkH_ok K (u := u) hgl hfl hkl (k1.1 (.inr (.inr (.inr h)))) (h1.2.2.1 (.inl h)) e1 (if i = 0 then c else addS u (12, 0, 0) c) rest hp (up_at hul _ _)
   rw [up_up hul] at i1
   have i2 := K.ret i1 (up_at hul _ _)
   rw [up_up hul] at i2
   exact ⟨addS u (14, 0, 0) c1, true, _, by simp only [List.append_nil, h1, Option.map_some], i2⟩
  ·rename_i h
   have hek := he (.mk k t a n names kids) (by simp)
   obtain ⟨c1, m1, h1, i1⟩ := mkP_ok K (u := u) hg.1 hf.1 hk.1 (by rcases hek with e | e; exact e; exact absurd e h) e1 (if i = 0 then c else addS u (12, 0, 0) c) (q ++ rest) hp (up_at hul _ _)
   rw [up_up hul] at i1
   obtain ⟨c2, b, m2, h2, i2⟩ := mkS_ok K (u := u) (i := i + 1) hg.2 hf.2 hk.2 (fun y hy => he y (by simp [hy])) (fun y hy => hdl y (by cases r with | nil => simp at hy | cons z r => simp only [List.dropLast_cons_cons, List.mem_cons]; exact .inr hy)) e2 c1 rest i1 (by rw [up_at hul, if_neg (by omega)])
   rw [up_up hul] at i2
   exact ⟨c2, b, _, by simp only [List.append_assoc, h1, Option.bind_some, h2], by rw [List.length_cons, show i + (r.length + 1) = i + 1 + r.length by omega]; exact i2⟩
end
theorem mkU_ok (K : Clo sl.length Q Inv) {x : Nd} {us : List Us} (hg : Good Q x) (hf : Fine x) (hk : Kin x) (h : x.k = 12) (hu : useU sl [] x = .inl us) (h0 : Inv [some 0] (newU x.n x.names.length ⟨[], [], [], []⟩)) : ∃ c k, mkU lt x ⟨[], [], [], []⟩ us = some (c, []) ∧ Inv (List.replicate (k + 1) none) c := by
 unfold useU at hu
 split at hu
 ·simp at hu
 ·have h1 := Nd.fine hf
  have h2 := Nd.kin hk
  have h3 := hg.all
  cases x with
  | mk k t a n names kids =>
   simp only [Nd.k] at h
   simp only [Fine] at hf
   simp only [Kin] at hk
   simp only [Nd.kids] at h1 h2 h3 hu
   obtain ⟨c', b, m, hc, hi⟩ := mkS_ok K (lt := lt) (u := 0) (i := 0) h3 h1 h2 (hk.2.2.1 (.inr h)) (hf.1.2 (.inr h)) hu (newU n names.length ⟨[], [], [], []⟩) [] h0 rfl
   rw [List.append_nil] at hc
   unfold mkU
   simp only [Nd.kids, Nd.n, Nd.names, List.length_nil, hc, Option.map_some]
   refine ⟨_, m, rfl, ?_⟩
   have e : List.replicate (m + 1) none = up [some 0] 0 none m := by simp [up, List.replicate_succ]
   rw [e]
   simp only [doneU]
   cases b with
   | true => simpa using hi
   | false =>
    rw [if_neg (by decide)] at hi ⊢
    rw [Nat.zero_add] at hi
    exact K.done (by simp) _ hi
theorem clo_len (n : Nat) (Q : ByteArray → Nat → Prop) : Clo n Q fun sh c => sh.length = c.us.length := by
 constructor <;> intros <;> simp_all [up, litS, useS, setS, sendC, addS, newU] <;> (repeat' split) <;> simp_all
end
end Go.SL
namespace Go.SL
open Go.Proofs
set_option maxRecDepth 10000
theorem parseD_why {num : ByteArray → Bool} {m : Bool} {s : ByteArray} {a : Nat} {w : Int} (h : parseD num m s = .no a w) : w ≠ 0 := by
 unfold parseD at h
 split at h
 ·exact NN.big a w h
 ·split at h
  ·refine NN.then ?_ (fun p r => NN.then ((nz _).body _ _ _) fun _ _ => NN.ok) a w h
   cases m with
   | true => exact patS_nn _ _
   | false => exact NN.ok
  ·exact NN.syn a w h
theorem parse_fine {num : ByteArray → Bool} {m : Bool} {s : ByteArray} {x : Nd} {r : List Tk} (h : parseD num m s = .ok x r) : Fine x ∧ Kin x ∧ nds x ≤ 5001 := by
 unfold parseD at h
 split at h
 ·simp at h
 ·split at h
  ·rename_i hs l hl
   have hwf := lexS_wf (by omega) hl
   unfold uniS at h
   obtain ⟨p, r1, e1, e2⟩ := andThen_ok h
   obtain ⟨b, r2, e3, e4⟩ := andThen_ok e2
   simp only [Res.ok.injEq] at e4
   have h1 := (headS_wf hwf e1).1
   have h2 := (presF (fuel l)).body _ _ _ _ _ e3
   have h3 := (presK (fuel l)).body _ _ _ _ _ e3
   have hz := h2.1.2
   have hle := h1.2.2
   rw [← e4.1]
   refine ⟨?_, ?_, ?_⟩
   ·simp only [Fine]
    exact ⟨⟨fun e => by simp at e, fun _ => h2.2⟩, fun e => by simp at e, fun e => by simp at e, fun e => by simp at e, h2.1.1⟩
   ·simp only [Kin]
    exact ⟨fun e => by simp at e, ⟨fun e => by simp at e, fun e => by simp at e⟩, fun _ => h3.1, h3.2⟩
   ·simp only [nds, ndL] at hz ⊢
    omega
  ·simp at h
end Go.SL
namespace Go.SL
open Go.Proofs
set_option maxRecDepth 10000
theorem AF.fzr {P : Program} {f : FuncId} {Q Q' : Out → H → Prop} {args : List V} {h : H} (k : AF P f args h Q) (hq : ∀ o h, Q o h → ∃ v, o = .ret v ∧ Q' (.ret (fzV h v)) (fzA h)) : AF P f args h Q' :=
 ⟨k.1, fun κ w argv hr hv => (k.2 κ w argv hr hv).mono fun e w' ⟨κ', h', out, g1, g2, g3, g4⟩ => by
  obtain ⟨v, e1, h1⟩ := hq _ _ g1
  subst e1
  obtain ⟨x, e2, h2⟩ := g4
  exact ⟨fzK κ' h' w', fzA h', _, h1, Le.trans g2 fz_le, fzA_rel g3, x, e2, fzV_sound g3 h2⟩⟩
def unD (x : CU) : D := if x.ins = [] then .agg [.int .i64 x.a, .int .i64 x.n, .sl true 0 []] else .agg [.int .i64 x.a, .int .i64 x.n, .sl false 3 (x.ins.map insD)]
def cdL (sel : ByteArray) (c : CM) : List D := [.str sel, .sl c.us.isEmpty 3 (c.us.map unD), .sl c.lits.isEmpty 1 (c.lits.map .str), .sl c.names.isEmpty 1 (c.names.map .str), .sl c.sels.isEmpty 1 (c.sels.map .str)]
def c0 : CM := ⟨[], [], [], []⟩
theorem toDv_d (h : H) (n : Nat) (x : D) : toDv h n (.d x) = some x := by cases n <;> rfl
theorem toDv_row {h : H} {i n m : Nat} {v : Vec} {ds : List D} (hv : h.vc[i]? = some (some v)) (hl : v.xs.length = m) (hd : mapD (toDv h n) v.xs = some ds) : toDv h (n + 1) (.vs i m 0 m) = some (.sl v.nil v.sz ds) := by
 have h1 : Nat.beq v.xs.length m = true := by rw [hl]; simp
 have h2 : Nat.ble (0 + m) m = true := by simp
 have h3 : (v.xs.drop 0).take m = v.xs := by rw [← hl]; simp
 simp only [toDv, hv, h1, h2, h3, Bool.and_self, hd]
theorem toDv_uv {h : H} {n : Nat} {x : CU} {j : Nat} (hj : x.ins ≠ [] → h.vc[j + 1 + 1 + 1 + 1]? = some (IR x.ins)) : toDv h (n + 2) (uv x j) = some (unD x) := by
 unfold uv unD
 by_cases h0 : x.ins = []
 ·rw [if_pos h0, if_pos h0]; exact toDv_d _ _ _
 ·rw [if_neg h0, if_neg h0]
  have := toDv_row (h := h) (n := n) (v := ⟨false, 3, 0, x.ins.map fun x => .d (insD x), 64⟩) (ds := x.ins.map insD) (hj h0) (m := x.ins.length) (by simp) (by rw [← mapD_d h n (x.ins.map insD), List.map_map]; rfl)
  have e1 : mapD (toDv h (n + 1)) [.d (.int .i64 x.a), .d (.int .i64 x.n), .vs (j + 1 + 1 + 1 + 1) x.ins.length 0 x.ins.length] = some [.int .i64 x.a, .int .i64 x.n, .sl false 3 (x.ins.map insD)] := by
   simp only [mapD, toDv_d, this]
  show (match mapD (toDv h (n + 1)) [.d (.int .i64 x.a), .d (.int .i64 x.n), .vs (j + 1 + 1 + 1 + 1) x.ins.length 0 x.ins.length] with | some ds => some (D.agg ds) | none => none) = _
  rw [e1]
theorem toDv_us {h : H} {n : Nat} : ∀ {us : List CU} {js : List Nat}, js.length = us.length → (∀ (u : Nat) (x : CU) (j : Nat), us[u]? = some x → js[u]? = some j → x.ins ≠ [] → h.vc[j + 1 + 1 + 1 + 1]? = some (IR x.ins)) → mapD (toDv h (n + 2)) (List.zipWith uv us js) = some (us.map unD)
 | [], js, _, _ => by simp [mapD]
 | x :: us, [], e, _ => by simp at e
 | x :: us, j :: js, e, k => by
  have h1 := toDv_us (n := n) (us := us) (js := js) (by simpa using e) fun u x j a b => k (u + 1) x j (by simpa using a) (by simpa using b)
  have h2 := toDv_uv (h := h) (n := n) (x := x) (j := j) (k 0 x j rfl rfl)
  simp only [List.zipWith_cons_cons, List.map_cons, mapD, h2, h1]
theorem toDv_ns {h : H} {n i : Nat} {l : List ByteArray} (hi : h.vc[i]? = some (NS l)) : toDv h (n + 1) (.vs i l.length 0 l.length) = some (.sl l.isEmpty 1 (l.map .str)) := by
 refine toDv_row (v := ⟨l.isEmpty, 1, 0, l.map fun s => .d (.str s), 9⟩) hi (by simp) ?_
 rw [← mapD_d h n (l.map .str), List.map_map]; rfl
def BM (sel : ByteArray) (c : CM) (uz : D) : Bx := .cells ((cdL sel c ++ [uz]).map .d) 78
theorem MK_fz {sel : ByteArray} {c : CM} {uz : D} {js : List Nat} {bs : List Bx} {cs : List (Option Vec)} (hI : InsOK c.us js cs) : ∃ b v, fzA (MK sel c uz js bs cs) = ⟨BM sel c uz :: b, none :: none :: none :: none :: v⟩ := by
 refine ⟨bs.map (fzB (MK sel c uz js bs cs)), cs.map fun _ => none, ?_⟩
 have e1 := toDv_ns (h := MK sel c uz js bs cs) (n := 11) (i := 1) (l := c.lits) rfl
 have e2 := toDv_ns (h := MK sel c uz js bs cs) (n := 11) (i := 2) (l := c.names) rfl
 have e3 := toDv_ns (h := MK sel c uz js bs cs) (n := 11) (i := 3) (l := c.sels) rfl
 have e4 := toDv_us (h := MK sel c uz js bs cs) (n := 9) hI.1 fun u x j a b k => by
  have := hI.2.1 u x j a b k
  simpa [MK] using this
 have e5 := toDv_row (h := MK sel c uz js bs cs) (i := 0) (m := c.us.length) (v := ⟨c.us.isEmpty, 3, 0, List.zipWith uv c.us js, 63⟩) rfl (by simp [hI.1]) e4
 unfold fzA
 congr 1
 show fzB (MK sel c uz js bs cs) (MB sel c.us.length c.lits.length c.names.length c.sels.length uz) :: _ = _
 congr 1
 simp only [fzB, fzV, List.map_cons, List.map_nil, e1, e2, e3, e5, toDv_d, BM, cdL, List.cons_append, List.nil_append]
def makeD (sl : List ByteArray) (x : Nd) : CM ⊕ Nat := match useU sl [] x with
 | .inl us => match mkU litB x c0 us with
  | some s => .inl s.1
  | none => .inr 0
 | .inr a => .inr a
def CdR (sel : ByteArray) (r : CM ⊕ Nat) (w : Int) (v : D) : Prop := match r with
 | .inl c => v = .tup [.agg (cdL sel c), .int .i64 0, .int .i64 0]
 | .inr a => v = .tup [.agg [.str ⟨#[]⟩, .sl true 0 [], .sl true 0 [], .sl true 0 [], .sl true 0 []], .int .i64 a, .int .i64 w]
theorem f31_fz {Q0 : ByteArray → Nat → Prop} (x : Nd) (hg : Good Q0 x) (hf : Fine x) (us : List Us) (s : MS) (hm : mkU litB x c0 us = some s) (hn : nds x ≤ 20000) (u : D) (hu : NdR x u) (sel : ByteArray) (nl : Bool) (hnl : nl = true → us = []) :
  AF Tryz.prog 31 [.ptr 0 0, .d u] (MK sel c0 (uzD nl us) [] [] []) fun o h => o = .ret (.d (.tup [])) ∧ ∃ uz b v, h = ⟨BM sel s.1 uz :: b, none :: none :: none :: none :: v⟩ := by
 unfold mkU at hm
 cases hk : mkS litB c0.us.length 0 x.kids (newU x.n x.names.length c0, us) with
 | none => rw [hk] at hm; simp at hm
 | some s1 =>
  rw [hk] at hm
  simp only [Option.map_some, Option.some.injEq] at hm
  subst hm
  have hU := f31_ok (Q0 := Q0) x hg hf (fun y _ hy1 hy2 => f47_ok (Q0 := Q0) _ y (Nat.le_refl _) hy1 hy2) sel c0 us nl [] [] [] s1 u ⟨rfl, fun u x j h => by simp [c0] at h, fun u v x y j h => by simp [c0] at h⟩ (by simp [szC, c0]; omega) hnl hk hu
  refine AF.fzr hU fun o h ⟨nl1, ⟨e1, js, b, cs, e2, hI⟩, hn1⟩ => ⟨_, e1, ?_⟩
  subst e2
  obtain ⟨b', v, e3⟩ := MK_fz (sel := sel) (uz := uzD nl1 s1.1.2) (bs := [] ++ b) hI
  exact ⟨by simp [fzV], _, b', v, e3⟩
theorem f19_ok {sl : List ByteArray} (hsl : sl.length ≤ 1048576) {snl : Bool} {sz : Nat} (hs1 : snl = true → sl = []) (hs2 : snl = false → sz = 1) {Q0 : ByteArray → Nat → Prop} (x : Nd) (hg : Good Q0 x) (hf : Fine x) (hok : ∀ us, useU sl [] x = .inl us → ∃ s, mkU litB x c0 us = some s) (hn : nds x ≤ 20000) (u : D) (hu : NdR x u) :
  DE Tryz.prog 19 [u, .sl snl sz (sl.map .str)] (CdR x.t (makeD sl x) 21) := by
 have hR := f30_ok hsl hs1 hs2 x hg (by omega) u hu
 have hud := hu
 obtain ⟨nl1, z1, nl2, z2, ds, e, h1, h2, h3, h4, h5⟩ := hu.shape
 subst e
 refine AF.go Tryz.func19 [] fun tb TB Q hQ => ?_
 simp [TB]
 refine ATT.callE Tryz.func19 60 hR (by simp) (by simp) (by simp) fun v hv => ?_
 unfold makeD at hQ
 cases hr : useU sl [] x with
 | inr a =>
  rw [hr] at hv hQ
  have e : v = _ := hv
  subst e
  simp [TB]
  refine ATT.fin2 hQ Tryz.func19 ?_
  exact ⟨by simp, _, rfl, rfl⟩
 | inl us =>
  obtain ⟨s, hm⟩ := hok us hr
  rw [hr] at hv hQ
  simp only [hm] at hQ
  have e : v = _ := hv
  subst e
  have hU := f31_fz x hg hf us s hm hn _ hud x.t us.isEmpty (by simp)
  simp [TB]
  refine ATT.nilB 2 1 3 63 rfl rfl (by decide) (by simp) ?_
  simp
  refine ATT.nilB 2 2 1 9 rfl rfl (by decide) (by simp) ?_
  simp
  refine ATT.nilB 2 3 1 9 rfl rfl (by decide) (by simp) ?_
  simp
  refine ATT.nilB 2 4 1 9 rfl rfl (by decide) (by simp) ?_
  simp
  refine ATT.callA Tryz.func19 60 [2] [0, 1, 2, 3] 0 0 (hU) (by simp) (by simp) (by simp [c0]) (by simp) (by simp) fun out hC hE => ?_
  obtain ⟨e1, uz, b, w, e2⟩ := hE
  subst e1 e2
  refine ⟨by simp, ?_⟩
  simp [TB, BM, cdL]
  refine ATT.fin2 hQ Tryz.func19 ?_
  simp
  all_goals (first | omega | exact ⟨_, rfl⟩ | skip)
  rfl
def codeD (num : ByteArray → Bool) (sl : List ByteArray) (m : Bool) (s : ByteArray) : (ByteArray × CM) ⊕ (Nat × Int) := match parseD num m s with
 | .ok x _ => match makeD sl x with
  | .inl c => .inl (x.t, c)
  | .inr a => .inr (a, 21)
 | .no a w => .inr (a, w)
 | .out => .inr (0, 0)
def CoR (r : (ByteArray × CM) ⊕ (Nat × Int)) (v : D) : Prop := match r with
 | .inl c => v = .tup [.agg (cdL c.1 c.2), .int .i64 0, .int .i64 0]
 | .inr a => v = .tup [.agg [.str ⟨#[]⟩, .sl true 0 [], .sl true 0 [], .sl true 0 [], .sl true 0 []], .int .i64 a.1, .int .i64 a.2]
def ParsedOk (num : ByteArray → Bool) (sl : List ByteArray) (m : Bool) (s : ByteArray) : Prop :=
 ∃ Q0 : ByteArray → Nat → Prop, ∀ x l, parseD num m s = .ok x l → Good Q0 x ∧ Fine x ∧ nds x ≤ 20000 ∧ ∀ us, useU sl [] x = .inl us → ∃ s, mkU litB x c0 us = some s
theorem parsed (num : ByteArray → Bool) (sl : List ByteArray) (m : Bool) (s : ByteArray) : ParsedOk num sl m s :=
 ⟨QA, fun x l h => by
  have h1 := parse_fits h
  have h2 := parse_fine h
  exact ⟨h1.1, h2.1, by omega, fun us hu => by
   obtain ⟨c, k, e, _⟩ := mkU_ok (lt := litB) (clo_len sl.length QA) h1.1 h2.1 h2.2.1 h1.2.1 hu rfl
   exact ⟨_, e⟩⟩⟩
theorem f7_ok {num : ByteArray → Bool} (hW : NumP 100 num) (s : ByteArray) (hs : s.size ≤ 1073741820) {sl : List ByteArray} (hsl : sl.length ≤ 1048576) {snl : Bool} {sz : Nat} (hs1 : snl = true → sl = []) (hs2 : snl = false → sz = 1) :
  DE Tryz.prog 7 [.str s, .sl snl sz (sl.map .str)] (CoR (codeD num sl false s)) := by
 obtain ⟨Q0, hx⟩ := parsed num sl false s
 have hP := f18_ok hW s hs
 refine AF.go Tryz.func7 [] fun tb TB Q hQ => ?_
 simp [TB]
 refine ATT.callE Tryz.func7 60 hP (by simp) (by simp) (by simp) fun v hv => ?_
 unfold codeD at hQ
 cases hr : parseD num false s with
 | out => exact absurd hr (parseD_in _ _ _)
 | no a w =>
  rw [hr] at hv hQ
  have e : v = _ := hv
  subst e
  have hw : ¬ w = 0 := parseD_why hr
  simp [TB, hw]
  refine ATT.fin2 hQ Tryz.func7 ?_
  exact ⟨by simp, _, rfl, rfl⟩
 | ok x l =>
  rw [hr] at hv hQ
  obtain ⟨u, e, hu⟩ := hv
  subst e
  obtain ⟨g1, g2, g3, g4⟩ := hx x l hr
  have hM := f19_ok hsl hs1 hs2 x g1 g2 g4 g3 u hu
  have hud := hu
  obtain ⟨nl1_u, z1_u, nl2_u, z2_u, ds_u, hv_u, ha_u, hb_u, hc_u, hd_u, he_u⟩ := hu.shape
  have hw_u := hv_u
  subst hw_u
  simp [TB]
  refine ATT.callE Tryz.func7 60 hM (by simp) (by simp) (by simp) fun v hv => ?_
  cases hd : makeD sl x with
  | inl c =>
   rw [hd] at hv
   simp only [hd] at hQ
   have e : v = _ := hv
   subst e
   simp [cdL]
   refine ATT.fin2 hQ Tryz.func7 ?_
   simp
   all_goals (first | omega | exact ⟨_, rfl⟩ | skip)
   rfl
  | inr a =>
   rw [hd] at hv
   simp only [hd] at hQ
   have e : v = _ := hv
   subst e
   simp
   refine ATT.fin2 hQ Tryz.func7 ?_
   simp
   all_goals (first | omega | exact ⟨_, rfl⟩ | skip)
   rfl
theorem f14_ok {num : ByteArray → Bool} (hW : NumP 100 num) (s : ByteArray) (hs : s.size ≤ 1073741820) {sl : List ByteArray} (hsl : sl.length ≤ 1048576) {snl : Bool} {sz : Nat} (hs1 : snl = true → sl = []) (hs2 : snl = false → sz = 1) :
  DE Tryz.prog 14 [.str s, .sl snl sz (sl.map .str)] (CoR (codeD num sl true s)) := by
 obtain ⟨Q0, hx⟩ := parsed num sl true s
 have hP := f23_ok hW s hs
 refine AF.go Tryz.func14 [] fun tb TB Q hQ => ?_
 simp [TB]
 refine ATT.callE Tryz.func14 60 hP (by simp) (by simp) (by simp) fun v hv => ?_
 unfold codeD at hQ
 cases hr : parseD num true s with
 | out => exact absurd hr (parseD_in _ _ _)
 | no a w =>
  rw [hr] at hv hQ
  have e : v = _ := hv
  subst e
  have hw : ¬ w = 0 := parseD_why hr
  simp [TB, hw]
  refine ATT.fin2 hQ Tryz.func14 ?_
  exact ⟨by simp, _, rfl, rfl⟩
 | ok x l =>
  rw [hr] at hv hQ
  obtain ⟨u, e, hu⟩ := hv
  subst e
  obtain ⟨g1, g2, g3, g4⟩ := hx x l hr
  have hM := f19_ok hsl hs1 hs2 x g1 g2 g4 g3 u hu
  have hud := hu
  obtain ⟨nl1_u, z1_u, nl2_u, z2_u, ds_u, hv_u, ha_u, hb_u, hc_u, hd_u, he_u⟩ := hu.shape
  have hw_u := hv_u
  subst hw_u
  simp [TB]
  refine ATT.callE Tryz.func14 60 hM (by simp) (by simp) (by simp) fun v hv => ?_
  cases hd : makeD sl x with
  | inl c =>
   rw [hd] at hv
   simp only [hd] at hQ
   have e : v = _ := hv
   subst e
   simp [cdL]
   refine ATT.fin2 hQ Tryz.func14 ?_
   simp
   all_goals (first | omega | exact ⟨_, rfl⟩ | skip)
   rfl
  | inr a =>
   rw [hd] at hv
   simp only [hd] at hQ
   have e : v = _ := hv
   subst e
   simp
   refine ATT.fin2 hQ Tryz.func14 ?_
   simp
   all_goals (first | omega | exact ⟨_, rfl⟩ | skip)
   rfl
end Go.SL
namespace Go.SL
open Go.Proofs
set_option maxRecDepth 10000
def Sm (d d' : D) : Prop := ∀ S v, DR S d v → DR S d' v
theorem Sm.refl (d : D) : Sm d d := fun _ _ h => h
theorem Sm.nil (z z' : Nat) : Sm (.sl true z []) (.sl true z' []) := fun S v h => by
 simp only [DR] at h ⊢
 rcases h with h | ⟨h, _⟩
 ·exact .inl h
 ·simp at h
inductive SmL : List D → List D → Prop
 | nil : SmL [] []
 | cons {x y : D} {xs ys : List D} : Sm x y → SmL xs ys → SmL (x :: xs) (y :: ys)
theorem SmL.len {xs ys : List D} (h : SmL xs ys) : ys.length = xs.length := by induction h <;> simp_all
theorem SmL.dl {S : Sealed} {xs ys : List D} (h : SmL xs ys) : ∀ {l : List Value}, DL S xs l → DL S ys l := by
 induction h with
 | nil => exact fun h => h
 | cons h _ ih =>
  intro l k
  simp only [DL] at k ⊢
  obtain ⟨y, r, e, k1, k2⟩ := k
  exact ⟨y, r, e, h _ _ k1, ih k2⟩
theorem SmL.dc {S : Sealed} {xs ys : List D} (h : SmL xs ys) : ∀ {b o : Nat}, DC S xs b o → DC S ys b o := by
 induction h with
 | nil => exact fun _ => by simp only [DC]
 | cons h _ ih =>
  intro b o k
  simp only [DC] at k ⊢
  obtain ⟨⟨y, k1, k2, k3⟩, k4⟩ := k
  exact ⟨⟨y, k1, k2, h _ _ k3⟩, ih k4⟩
theorem Sm.agg {xs ys : List D} (h : SmL xs ys) : Sm (.agg xs) (.agg ys) := fun S v k => by
 simp only [DR] at k ⊢
 obtain ⟨l, e, k1, k2⟩ := k
 exact ⟨l, e, h.dl k1, k2⟩
theorem Sm.tup {xs ys : List D} (h : SmL xs ys) : Sm (.tup xs) (.tup ys) := fun S v k => by
 simp only [DR] at k ⊢
 obtain ⟨l, e, k1⟩ := k
 exact ⟨l, e, h.dl k1⟩
def unR (x : CU) : D := .agg [.int .i64 x.a, .int .i64 x.n, .sl x.ins.isEmpty 3 (x.ins.map insD)]
def cdR (sel : ByteArray) (c : CM) : List D := [.str sel, .sl c.us.isEmpty 3 (c.us.map unR), .sl c.lits.isEmpty 1 (c.lits.map .str), .sl c.names.isEmpty 1 (c.names.map .str), .sl c.sels.isEmpty 1 (c.sels.map .str)]
theorem unD_sm {S : Sealed} : ∀ (us : List CU) (b o : Nat), DX S 3 (us.map unD) b o → DX S 3 (us.map unR) b o
 | [], _, _, h => by simpa only [List.map_nil] using h
 | x :: r, b, o, h => by
  have e : ∃ z, unD x = .agg [.int .i64 x.a, .int .i64 x.n, z] ∧ Sm z (.sl x.ins.isEmpty 3 (x.ins.map insD)) := by
   unfold unD
   by_cases hx : x.ins = []
   ·exact ⟨_, if_pos hx, by rw [hx]; exact .nil _ _⟩
   ·exact ⟨_, if_neg hx, by cases hi : x.ins with
     | nil => exact absurd hi hx
     | cons y r => exact .refl _⟩
  obtain ⟨z, e, hz⟩ := e
  simp only [List.map_cons, e, unR, DX] at h ⊢
  exact ⟨⟨rfl, (SmL.cons (.refl _) (.cons (.refl _) (.cons hz .nil))).dc h.1.2⟩, unD_sm r _ _ h.2⟩
theorem cdL_sm (sel : ByteArray) (c : CM) : Sm (.agg (cdL sel c)) (.agg (cdR sel c)) := by
 refine .agg (.cons (.refl _) (.cons (fun S v h => ?_) (.cons (.refl _) (.cons (.refl _) (.cons (.refl _) .nil)))))
 simp only [DR] at h ⊢
 rcases h with ⟨h1, h2, h3⟩ | ⟨h1, b, o, cap, h2, h3, h4⟩
 ·exact .inl ⟨h1, by simpa using h2, h3⟩
 ·exact .inr ⟨h1, b, o, cap, by simpa using h2, by simpa using h3, unD_sm _ _ _ h4⟩
theorem zero_sm : Sm (.agg [.str ⟨#[]⟩, .sl true 0 [], .sl true 0 [], .sl true 0 [], .sl true 0 []]) (.agg (cdR ⟨#[]⟩ c0)) :=
 .agg (.cons (.refl _) (.cons (.nil _ _) (.cons (.nil _ _) (.cons (.nil _ _) (.cons (.nil _ _) .nil)))))
theorem DE.sm {P : Program} {f : FuncId} {args : List D} {Φ Φ' : D → Prop} (h : DE P f args Φ) (hq : ∀ v, Φ v → ∃ v', Sm v v' ∧ Φ' v') : DE P f args Φ' :=
 ⟨h.1, fun κ w argv hr hv => (h.2 κ w argv hr hv).mono fun e w' ⟨κ', h', out, ⟨v, g1, g5⟩, g2, g3, g4⟩ => by
  subst g1
  obtain ⟨v', k1, k2⟩ := hq v g5
  obtain ⟨x, e1, e2⟩ := g4
  exact ⟨κ', h', .ret (.d v'), ⟨v', rfl, k2⟩, g2, g3, x, e1, by simp only [VR] at e2 ⊢; exact k1 _ _ e2⟩⟩
def selO : (ByteArray × CM) ⊕ (Nat × Int) → ByteArray
 | .inl c => c.1
 | .inr _ => ⟨#[]⟩
def codeO : (ByteArray × CM) ⊕ (Nat × Int) → CM
 | .inl c => c.2
 | .inr _ => c0
def atO : (ByteArray × CM) ⊕ (Nat × Int) → Nat
 | .inl _ => 0
 | .inr a => a.1
def errO : (ByteArray × CM) ⊕ (Nat × Int) → Int
 | .inl _ => 0
 | .inr a => a.2
abbrev coV (r : (ByteArray × CM) ⊕ (Nat × Int)) : D := .tup [.agg (cdR (selO r) (codeO r)), .int .i64 (atO r), .int .i64 (errO r)]
theorem CoR.sm {r : (ByteArray × CM) ⊕ (Nat × Int)} {v : D} (h : CoR r v) : Sm v (coV r) := by
 cases r with
 | inl c => have e : v = _ := h; subst e; exact .tup (.cons (cdL_sm _ _) (.cons (.refl _) (.cons (.refl _) .nil)))
 | inr a => have e : v = _ := h; subst e; exact .tup (.cons zero_sm (.cons (.refl _) (.cons (.refl _) .nil)))
theorem compile_ok {num : ByteArray → Bool} (hW : NumP 100 num) (s : ByteArray) (hs : s.size ≤ 1073741820) {sl : List ByteArray} (hsl : sl.length ≤ 1048576) {snl : Bool} {sz : Nat} (hs1 : snl = true → sl = []) (hs2 : snl = false → sz = 1) :
  DF Tryz.prog 7 [.str s, .sl snl sz (sl.map .str)] (coV (codeD num sl false s)) :=
 ((f7_ok hW s hs hsl hs1 hs2).sm (Φ' := fun v => v = coV (codeD num sl false s)) fun v hv => ⟨_, hv.sm, rfl⟩).mono fun o h ⟨v, e1, e2⟩ => by rw [e1, e2]
theorem method_ok {num : ByteArray → Bool} (hW : NumP 100 num) (s : ByteArray) (hs : s.size ≤ 1073741820) {sl : List ByteArray} (hsl : sl.length ≤ 1048576) {snl : Bool} {sz : Nat} (hs1 : snl = true → sl = []) (hs2 : snl = false → sz = 1) :
  DF Tryz.prog 14 [.str s, .sl snl sz (sl.map .str)] (coV (codeD num sl true s)) :=
 ((f14_ok hW s hs hsl hs1 hs2).sm (Φ' := fun v => v = coV (codeD num sl true s)) fun v hv => ⟨_, hv.sm, rfl⟩).mono fun o h ⟨v, e1, e2⟩ => by rw [e1, e2]
abbrev UNR (l : List CU) : Option Vec := some ⟨l.isEmpty, 3, 0, l.map fun x => .d (unR x), 41⟩
abbrev INR (l : List (Nat × Nat × Nat)) : Option Vec := some ⟨l.isEmpty, 3, 0, l.map fun x => .d (insD x), 43⟩
set_option maxHeartbeats 2000000 in
theorem f10_aux (sel : ByteArray) (c : CM) (hz : szC c ≤ 100000000) (v : D) (hv : v = .agg (cdR sel c)) : DF Tryz.prog 10 [.agg (cdR sel c)] v := by
 have hus : ∀ (h : H) (n : Nat) (l : List CU), mapD (toDv h n) (l.map fun x => V.d (unR x)) = some (l.map unR) := fun h n l => by rw [← mapD_d h n (l.map unR), List.map_map]; rfl
 have his : ∀ (h : H) (n : Nat) (l : List (Nat × Nat × Nat)), mapD (toDv h n) (l.map fun x => V.d (insD x)) = some (l.map insD) := fun h n l => by rw [← mapD_d h n (l.map insD), List.map_map]; rfl
 have hl1 : c.lits.length ≤ szC c := by unfold szC; omega
 have hl2 : c.names.length ≤ szC c := by unfold szC; omega
 have hl3 : c.sels.length ≤ szC c := by unfold szC; omega
 have hl4 : c.us.length ≤ szC c := by unfold szC; omega
 have hm1 : c.lits.length * 16 ≤ 140737488355328 := by omega
 have hm2 : c.names.length * 16 ≤ 140737488355328 := by omega
 have hm3 : c.sels.length * 16 ≤ 140737488355328 := by omega
 unfold cdR
 cases hb1 : c.lits.isEmpty <;> cases hb2 : c.names.isEmpty <;> cases hb3 : c.sels.isEmpty
 all_goals
  refine AF.go Tryz.func10 [(8, [oD 15 [(13, [0, 1, 2, 3, 4, 5, 6, 7, 8, 9, 10, 11, 12])]])] fun tb TB Q hQ => ?_
  simp [TB, hm1, hm2, hm3]
  refine ATT.nilB 2 1 3 41 rfl rfl (by decide) (by simp) ?_
  simp
  simp at hb1 hb2 hb3
  refine ATT.loopG 60 rfl (fun (i : Nat) => c.us.length - i) (fun (i : Nat) => i ≤ c.us.length) (fun (i : Nat) => [(1, .ptr 0 0), (2, .ptr 1 0), (3, .ptr 2 0), (4, .d (.int .i64 i))]) (fun (i : Nat) => [.cells [.d (.str sel), .d (.sl c.us.isEmpty 3 (c.us.map unR)), .d (.sl c.lits.isEmpty 1 (c.lits.map .str)), .d (.sl c.names.isEmpty 1 (c.names.map .str)), .d (.sl c.sels.isEmpty 1 (c.sels.map .str))] 25, .cells [.d (.str ⟨#[]⟩), .d (.sl true 0 []), .d (.sl true 0 []), .d (.sl true 0 []), .d (.sl true 0 [])] 31, .cells [.d (.str sel), .vs 3 i 0 i, .vs 0 c.lits.length 0 c.lits.length, .vs 1 c.names.length 0 c.names.length, .vs 2 c.sels.length 0 c.sels.length] 31]) (fun (i : Nat) => [NS c.lits, NS c.names, NS c.sels, UNR (c.us.take i)]) (0) (by (try dsimp only); exact Nat.zero_le _) (by simp <;> omega) (by simp) (by simp [eq_true hb1, eq_true hb2, eq_true hb3]) ?_
  intro i u w hI ih
  try simp only at hI ih
  by_cases hi : i < c.us.length
  ·obtain ⟨x, hx⟩ : ∃ x, c.us[i]? = some x := ⟨_, List.getElem?_eq_getElem hi⟩
   have hxE : ∀ h, c.us[i]'h = x := fun h => by rw [List.getElem?_eq_getElem h] at hx; simpa using hx
   have hi' : (i : Int) < c.us.length := by omega
   have hne : c.us.isEmpty = false := by cases hu : c.us with | nil => rw [hu] at hi; simp at hi | cons _ _ => rfl
   have hni : x.ins.length ≤ szC c := szC_at hx
   have hII : inI ((i : Int) + 1) = true := inI_of (by omega) (by omega)
   have hmul : (i + 1) * 24 ≤ 140737488355328 := by omega
   simp [TB, hi, hi', hxE, unR, hne]
   refine ATT.nilB (u.length + 1 + 1 + 1) 2 3 43 (by simp; exact ⟨rfl, rfl⟩) rfl (by decide) (by simp) ?_
   simp
   refine ATT.loopG 0 rfl (fun (k : Nat) => x.ins.length - k) (fun (k : Nat) => k ≤ x.ins.length) (fun (k : Nat) => [(1, .ptr 0 0), (2, .ptr 1 0), (3, .ptr 2 0), (4, .d (.int .i64 i)), (5, .ptr (u.length + 1 + 1 + 1) 0), (6, .d (.int .i64 k))]) (fun (k : Nat) => .cells [.d (.str sel), .d (.sl false 3 (c.us.map unR)), .d (.sl c.lits.isEmpty 1 (c.lits.map .str)), .d (.sl c.names.isEmpty 1 (c.names.map .str)), .d (.sl c.sels.isEmpty 1 (c.sels.map .str))] 25 :: .cells [.d (.str ⟨#[]⟩), .d (.sl true 0 []), .d (.sl true 0 []), .d (.sl true 0 []), .d (.sl true 0 [])] 31 :: .cells [.d (.str sel), .vs 3 i 0 i, .vs 0 c.lits.length 0 c.lits.length, .vs 1 c.names.length 0 c.names.length, .vs 2 c.sels.length 0 c.sels.length] 31 :: (u ++ [.cells [.d (.int .i64 x.a), .d (.int .i64 x.n), .vs (w.length + 1 + 1 + 1 + 1) k 0 k] 41])) (fun (k : Nat) => NS c.lits :: NS c.names :: NS c.sels :: UNR (c.us.take i) :: (w ++ [INR (x.ins.take k)])) (0) (by (try dsimp only); exact Nat.zero_le _) (by simp <;> omega) (by simp) (by simp) ?_
   intro k u w hI ih
   try simp only at hI ih
   rename_i u0 w0 hI0 ih0
   simp only [goes]
   by_cases hk : k < x.ins.length
   ·obtain ⟨y, hy⟩ : ∃ y, x.ins[k]? = some y := ⟨_, List.getElem?_eq_getElem hk⟩
    have hyE : ∀ h, x.ins[k]'h = y := fun h => by rw [List.getElem?_eq_getElem h] at hy; simpa using hy
    have hk' : (k : Int) < x.ins.length := by omega
    have hnk : x.ins.isEmpty = false := by cases hu : x.ins with | nil => rw [hu] at hk; simp at hk | cons _ _ => rfl
    have hmk : min k x.ins.length = k := by omega
    have hIK : inI ((k : Int) + 1) = true := inI_of (by omega) (by omega)
    have hmul : (k + 1) * 24 ≤ 140737488355328 := by omega
    refine goes_sound 60 _ _ _ _ ?_
    simp [TB, hi, hxE, hk, hk', hyE, hIK, hmul, unR, hnk, insD, hmk]
    have hnk2 : ¬ x.ins = [] := fun e => by rw [e] at hk; simp at hk
    refine ih (k + 1) (by first | ((try dsimp only); omega) | (simp [hi, hi', hx, hxE, hk, hk', hy, hyE, hIK, hmul, unR, hne, hnk, insD, hmk, hnk2, List.take_add_one] <;> omega)) (by (try dsimp only); exact hk) _ _ _ (by simp <;> omega) (by simp <;> omega) (by simp [hk, hyE, insD, hnk2, List.take_add_one] <;> omega)
   ·have hk' : ¬ (k : Int) < x.ins.length := by omega
    have hke : k = x.ins.length := by omega
    subst hke
    have hmi : min i c.us.length = i := by omega
    have hmul2 : (i + 1) * 40 ≤ 140737488355328 := by omega
    refine ATT.fz1 (w0.length + 1 + 1 + 1 + 1) (by simp) ?_
    simp [his]
    refine goes_sound 60 _ _ _ _ ?_
    simp [TB, hi, hxE, hk', hmul2, hII, unR, hmi]
    have hnu2 : ¬ c.us = [] := fun e => by rw [e] at hi; simp at hi
    have hf1 : ∀ h : H, (fzX h ∘ V.d ∘ D.str) = V.d ∘ D.str := fun h => rfl
    have hf2 : ∀ h : H, (fzX h ∘ fun x : CU => V.d (D.agg [D.int IntKind.i64 x.a, D.int IntKind.i64 x.n, D.sl x.ins.isEmpty 3 (x.ins.map insD)])) = fun x : CU => V.d (D.agg [D.int IntKind.i64 x.a, D.int IntKind.i64 x.n, D.sl x.ins.isEmpty 3 (x.ins.map insD)]) := fun h => rfl
    refine ih0 (i + 1) (by first | ((try dsimp only); omega) | (simp [hi, hi', hx, hxE, hk', hmul2, hII, unR, hne, hmi, hf1, hf2, hnu2, List.take_add_one] <;> omega)) (by (try dsimp only); exact hi) _ _ _ (by simp <;> omega) (by simp <;> omega) (by simp [hi, hxE, unR, hne, hf2, hnu2, List.take_add_one] <;> omega)
  ·have hi' : ¬ (i : Int) < c.us.length := by omega
   have hie : i = c.us.length := by omega
   subst hie
   simp [TB, hi']
   refine ATT.finz2 hQ Tryz.func10 ?_
   simp [hus]
   all_goals (first | omega | exact ⟨_, rfl⟩ | skip)
   exact hv.symm
theorem f10_ok (sel : ByteArray) (c : CM) (hz : szC c ≤ 100000000) : DF Tryz.prog 10 [.agg (cdR sel c)] (.agg (cdR sel c)) := f10_aux sel c hz _ rfl
end Go.SL
namespace Go.SL
open Go.Proofs
set_option maxRecDepth 10000
def skipF (p : Int → Bool) (s : ByteArray) : Nat → Nat → Nat
 | 0, i => i
 | n + 1, i => if i < s.size then (if p (sbyte s i) then skipF p s n (i + 1) else i) else i
theorem skip_eq (p : Int → Bool) (s : ByteArray) : ∀ n i, s.size ≤ n + i → skipS p s i = skipF p s n i
 | 0, i, h => by rw [skipS, dif_neg (by omega)]; rfl
 | n + 1, i, h => by
  rw [skipS]
  simp only [skipF]
  split
  ·split
   ·exact skip_eq p s n (i + 1) (by omega)
   ·rfl
  ·rfl
theorem skip_is {p : Int → Bool} {s : ByteArray} {i j : Nat} (n : Nat) (h : s.size ≤ n + i) (e : skipF p s n i = j) : skipS p s i = j := (skip_eq p s n i h).trans e
theorem name_is {s : ByteArray} {i j : Nat} (n : Nat) (hl : (decide (i < s.size) && letterS (sbyte s i)) = true) (h : s.size ≤ n + i) (e : skipF identS s n i = j) : nameS s i = j := by
 unfold nameS; rw [if_pos hl]; exact skip_is n h e
theorem lex_word {num : ByteArray → Bool} {s : ByteArray} {i j k e : Nat} {t : ByteArray} {l : List Tk} (hj : skipS blankS s i = j) (hb : j < s.size) (hq : ¬ sbyte s j = 34) (hw : wordS num s j = some ((k : Int), t, e)) (he : j < e) (hl : lexS num s e = .inl l) : lexS num s i = .inl (⟨k, t, j⟩ :: l) := by
 rw [lexS_eq, hj, if_pos hb, if_neg hq, hw]
 simp only [if_pos he, hl]
theorem lex_end {num : ByteArray → Bool} {s : ByteArray} {i : Nat} (hj : skipS blankS s i = s.size) : lexS num s i = .inl [⟨0, ⟨#[]⟩, s.size⟩] := by
 rw [lexS_eq, hj, if_neg (Nat.lt_irrefl _)]
theorem word_name {num : ByteArray → Bool} {s : ByteArray} {i e : Nat} {t : ByteArray} (h : letterS (sbyte s i) = true) (hn : nameS s i = e) (hc : colonS s e = false) (ht : subT s i e = t) : wordS num s i = some (((1 : Nat) : Int), t, e) := by
 subst hn ht; simp [wordS, h, hc]
theorem word_num {num : ByteArray → Bool} {s : ByteArray} {i e : Nat} {t : ByteArray} (h : letterS (sbyte s i) = false) (h2 : digitS (sbyte s i) = true) (hn : skipS digitS s i = e) (ht : subT s i e = t) (hm : num t = true) : wordS num s i = some (((4 : Nat) : Int), t, e) := by
 subst hn ht; simp [wordS, h, h2, hm]
theorem word_sign {num : ByteArray → Bool} {s : ByteArray} {i e : Nat} {t : ByteArray} (h : letterS (sbyte s i) = false) (h2 : digitS (sbyte s i) = false) (h3 : ¬ sbyte s i = 39) (h4 : ¬ sbyte s i = 35) (h5 : ¬ sbyte s i = 58) (h6 : signS (sbyte s i) = true) (hn : signsS s i = e) (ht : subT s i e = t) : wordS num s i = some (((3 : Nat) : Int), t, e) := by
 subst hn ht; simp [wordS, h, h2, h3, h4, h5, h6]
theorem word_one {num : ByteArray → Bool} {s : ByteArray} {i k : Nat} {t : ByteArray} (h : letterS (sbyte s i) = false) (h2 : digitS (sbyte s i) = false) (h3 : ¬ sbyte s i = 39) (h4 : ¬ sbyte s i = 35) (h5 : ¬ sbyte s i = 58) (h6 : signS (sbyte s i) = false) (hp : placeS (sbyte s i) singlesT 0 = (k : Int)) (ht : subT s i (i + 1) = t) : wordS num s i = some (((8 + k : Nat) : Int), t, i + 1) := by
 subst ht; simp [wordS, h, h2, h3, h4, h5, h6, hp]
theorem word_set {num : ByteArray → Bool} {s : ByteArray} {i : Nat} {t : ByteArray} (h : sbyte s i = 58) (h2 : atS s (i + 1) = 61) (ht : subT s i (i + 2) = t) : wordS num s i = some (((7 : Nat) : Int), t, i + 2) := by
 subst ht
 unfold wordS
 rw [h, if_neg (by decide), if_neg (by decide), if_neg (by decide), if_neg (by decide), if_pos rfl, if_pos h2]; rfl
end Go.SL
namespace Go.SL
open Go.Proofs
set_option maxRecDepth 10000
def kn1 : ByteArray := ⟨#[51, 32, 102, 111, 111, 59, 32, 43, 32, 52]⟩
def kn2 : ByteArray := ⟨#[97, 32, 58, 61, 32, 51]⟩
theorem kg43 : signS (sbyte kn1 (7 : Nat)) = true := by rw [show sbyte kn1 (7 : Nat) = 43 by decide]; unfold signS; rw [placeS_L _ _ _ 0 rfl]; decide
theorem kg32 : signS (sbyte kn1 (8 : Nat)) = false := by rw [show sbyte kn1 (8 : Nat) = 32 by decide]; unfold signS; rw [placeS_L _ _ _ 0 rfl]; decide
theorem kg59 : signS (sbyte kn1 (5 : Nat)) = false := by rw [show sbyte kn1 (5 : Nat) = 59 by decide]; unfold signS; rw [placeS_L _ _ _ 0 rfl]; decide
theorem kgs : signsS kn1 7 = 8 := by
 unfold signsS
 rw [kg43, show sbyte kn1 (7 + 1 : Nat) = sbyte kn1 (8 : Nat) from rfl, kg32]
 decide
theorem kpl : placeS (sbyte kn1 (5 : Nat)) singlesT 0 = ((7 : Nat) : Int) := by
 rw [show sbyte kn1 (5 : Nat) = 59 by decide, placeS_L _ _ _ 0 rfl]; decide
theorem klex1 : lexS numS kn1 0 = .inl [⟨4, ⟨#[51]⟩, 0⟩, ⟨1, ⟨#[102, 111, 111]⟩, 2⟩, ⟨15, ⟨#[59]⟩, 5⟩, ⟨3, ⟨#[43]⟩, 7⟩, ⟨4, ⟨#[52]⟩, 9⟩, ⟨0, ⟨#[]⟩, 10⟩] :=
 lex_word (k := 4) (skip_is 20 (by decide) rfl) (by decide) (by decide) (word_num (by decide) (by decide) (skip_is 20 (by decide) rfl) rfl (by decide)) (by decide)
 (lex_word (k := 1) (skip_is 20 (by decide) rfl) (by decide) (by decide) (word_name (by decide) (name_is 20 (by decide) (by decide) rfl) (by decide) rfl) (by decide)
 (lex_word (k := 15) (skip_is 20 (by decide) rfl) (by decide) (by decide) (word_one (k := 7) (by decide) (by decide) (by decide) (by decide) (by decide) kg59 kpl rfl) (by decide)
 (lex_word (k := 3) (skip_is 20 (by decide) rfl) (by decide) (by decide) (word_sign (by decide) (by decide) (by decide) (by decide) (by decide) kg43 kgs rfl) (by decide)
 (lex_word (k := 4) (skip_is 20 (by decide) rfl) (by decide) (by decide) (word_num (by decide) (by decide) (skip_is 20 (by decide) rfl) rfl (by decide)) (by decide)
 (lex_end (skip_is 20 (by decide) rfl))))))
theorem klex2 : lexS numS kn2 0 = .inl [⟨1, ⟨#[97]⟩, 0⟩, ⟨7, ⟨#[58, 61]⟩, 2⟩, ⟨4, ⟨#[51]⟩, 5⟩, ⟨0, ⟨#[]⟩, 6⟩] :=
 lex_word (k := 1) (skip_is 20 (by decide) rfl) (by decide) (by decide) (word_name (by decide) (name_is 20 (by decide) (by decide) rfl) (by decide) rfl) (by decide)
 (lex_word (k := 7) (skip_is 20 (by decide) rfl) (by decide) (by decide) (word_set (by decide) (by decide) rfl) (by decide)
 (lex_word (k := 4) (skip_is 20 (by decide) rfl) (by decide) (by decide) (word_num (by decide) (by decide) (skip_is 20 (by decide) rfl) rfl (by decide)) (by decide)
 (lex_end (skip_is 20 (by decide) rfl))))
def km1 : Nd := .mk 8 ⟨#[]⟩ 2 0 [] [.mk 1 ⟨#[51]⟩ 0 0 [] [], .mk 9 ⟨#[102, 111, 111]⟩ 2 0 [] [], .mk 9 ⟨#[43]⟩ 7 0 [] [.mk 1 ⟨#[52]⟩ 9 0 [] []]]
def km2 : Nd := .mk 6 ⟨#[97]⟩ 0 0 [] [.mk 1 ⟨#[51]⟩ 5 0 [] []]
theorem kpar1 : parseD numS false kn1 = .ok (.mk 12 ⟨#[]⟩ 0 0 [] [km1]) [⟨0, ⟨#[]⟩, 10⟩] := by
 unfold parseD
 rw [if_neg (by decide), klex1]
 kernel_rfl
theorem kpar2 : parseD numS false kn2 = .ok (.mk 12 ⟨#[]⟩ 0 0 [] [km2]) [⟨0, ⟨#[]⟩, 6⟩] := by
 unfold parseD
 rw [if_neg (by decide), klex2]
 kernel_rfl
def kc1 : CM := ⟨[⟨0, 0, [(0, 0, 0), (11, 0, 0), (8, 0, 0), (12, 0, 0), (0, 1, 0), (8, 1, 1), (13, 0, 0)]⟩], [⟨#[51]⟩, ⟨#[52]⟩], [], [⟨#[102, 111, 111]⟩, ⟨#[43]⟩]⟩
theorem kcode1 : codeD numS [] false kn1 = .inl (⟨#[]⟩, kc1) := by
 unfold codeD
 rw [kpar1]
 kernel_rfl
theorem kcode2 : codeD numS [] false kn2 = .inr (0, 21) := by
 unfold codeD
 rw [kpar2]
 kernel_rfl
end Go.SL
namespace Go.SL
open Go.Proofs
set_option maxRecDepth 10000
abbrev strD (l : List ByteArray) : D := .sl l.isEmpty 1 (l.map .str)
theorem f22_ok (l : List ByteArray) (hl : l.length ≤ 1000000000) : DF Tryz.prog 22 [strD l, strD l] (.bool true) := by
 refine AF.go Tryz.func22 [(6, [oD 9 []])] fun tb TB Q hQ => ?_
 simp [TB]
 refine ATT.loopG 60 rfl (fun (i : Nat) => l.length - i) (fun (i : Nat) => i ≤ l.length) (fun (i : Nat) => [(0, .d (strD l)), (1, .d (strD l)), (5, .d (.int .i64 i))]) (fun (i : Nat) => []) (fun (i : Nat) => []) (0) (by (try dsimp only); exact Nat.zero_le _) (by simp <;> omega) (by simp) (by simp) ?_
 intro i u w hI ih
 try simp only at hI ih
 by_cases hi : i < l.length
 ·obtain ⟨y, hy⟩ : ∃ y, l[i]? = some y := ⟨_, List.getElem?_eq_getElem hi⟩
  have hyE : ∀ h, l[i]'h = y := fun h => by rw [List.getElem?_eq_getElem h] at hy; simpa using hy
  have hi' : (i : Int) < l.length := by omega
  have hne : l.isEmpty = false := by cases hu : l with | nil => rw [hu] at hi; simp at hi | cons _ _ => rfl
  have hne2 : ¬ l = [] := fun e => by rw [e] at hi; simp at hi
  have hII : inI ((i : Int) + 1) = true := inI_of (by omega) (by omega)
  simp [TB, hi, hi', hyE, hII, hne]
  refine ih (i + 1) (by first | ((try dsimp only); omega) | (simp [hi, hi', hy, hyE, hII, hne, hne2] <;> omega)) (by (try dsimp only); exact hi) _ _ _ (by simp <;> omega) (by simp <;> omega) (by simp <;> omega)
 ·have hi' : ¬ (i : Int) < l.length := by omega
  simp [TB, hi']
  refine ATT.fin2 hQ Tryz.func22 ?_
  simp
  all_goals (first | omega | exact ⟨_, rfl⟩ | skip)
set_option maxHeartbeats 2000000 in
theorem f9_ok (sel : ByteArray) (c : CM) (hz : szC c ≤ 100000000) : DF Tryz.prog 9 [.agg (cdR sel c), .agg (cdR sel c)] (.bool true) := by
 have hl1 : c.lits.length ≤ szC c := by unfold szC; omega
 have hl2 : c.names.length ≤ szC c := by unfold szC; omega
 have hl3 : c.sels.length ≤ szC c := by unfold szC; omega
 have hl4 : c.us.length ≤ szC c := by unfold szC; omega
 unfold cdR
 refine AF.start' 60 Tryz.func9 rfl rfl c9call c9ok fun Q hQ => ?_
 simp [c9c, c9t]
 refine ATT.callD Tryz.func9 60 (f22_ok c.lits (by omega)) (by simp) (by simp) (by simp) ?_
 simp
 refine ATT.callD Tryz.func9 60 (f22_ok c.names (by omega)) (by simp) (by simp) (by simp) ?_
 simp
 refine ATT.callD Tryz.func9 60 (f22_ok c.sels (by omega)) (by simp) (by simp) (by simp) ?_
 simp [c9t]
 refine ATT.loopG 60 c9l16.eq_1 (fun (i : Nat) => c.us.length - i) (fun (i : Nat) => i ≤ c.us.length) (fun (i : Nat) => [(2, .ptr 0 0), (3, .ptr 1 0), (5, .d (.int .i64 i))]) (fun (i : Nat) => [.cells [.d (.str sel), .d (.sl c.us.isEmpty 3 (c.us.map unR)), .d (.sl c.lits.isEmpty 1 (c.lits.map .str)), .d (.sl c.names.isEmpty 1 (c.names.map .str)), .d (.sl c.sels.isEmpty 1 (c.sels.map .str))] 31, .cells [.d (.str sel), .d (.sl c.us.isEmpty 3 (c.us.map unR)), .d (.sl c.lits.isEmpty 1 (c.lits.map .str)), .d (.sl c.names.isEmpty 1 (c.names.map .str)), .d (.sl c.sels.isEmpty 1 (c.sels.map .str))] 31]) (fun (i : Nat) => []) (0) (by (try dsimp only); exact Nat.zero_le _) (by simp <;> omega) (by simp) (by simp) ?_
 intro i u w hI ih
 try simp only at hI ih
 by_cases hi : i < c.us.length
 ·obtain ⟨x, hx⟩ : ∃ x, c.us[i]? = some x := ⟨_, List.getElem?_eq_getElem hi⟩
  have hxE : ∀ h, c.us[i]'h = x := fun h => by rw [List.getElem?_eq_getElem h] at hx; simpa using hx
  have hi' : (i : Int) < c.us.length := by omega
  have hne : c.us.isEmpty = false := by cases hu : c.us with | nil => rw [hu] at hi; simp at hi | cons _ _ => rfl
  have hnu2 : ¬ c.us = [] := fun e => by rw [e] at hi; simp at hi
  have hni : x.ins.length ≤ szC c := szC_at hx
  have hII : inI ((i : Int) + 1) = true := inI_of (by omega) (by omega)
  simp [c9t, hi, hi', hxE, unR, hne]
  refine ATT.loopG 60 c9l14.eq_1 (fun (k : Nat) => x.ins.length - k) (fun (k : Nat) => k ≤ x.ins.length) (fun (k : Nat) => [(2, .ptr 0 0), (3, .ptr 1 0), (5, .d (.int .i64 i)), (6, .ptr (u.length + 1 + 1) 0), (7, .ptr (u.length + 1 + 1 + 1) 0), (8, .d (.int .i64 k))]) (fun (k : Nat) => .cells [.d (.str sel), .d (.sl false 3 (c.us.map unR)), .d (.sl c.lits.isEmpty 1 (c.lits.map .str)), .d (.sl c.names.isEmpty 1 (c.names.map .str)), .d (.sl c.sels.isEmpty 1 (c.sels.map .str))] 31 :: .cells [.d (.str sel), .d (.sl false 3 (c.us.map unR)), .d (.sl c.lits.isEmpty 1 (c.lits.map .str)), .d (.sl c.names.isEmpty 1 (c.names.map .str)), .d (.sl c.sels.isEmpty 1 (c.sels.map .str))] 31 :: (u ++ [.cells [.d (.int .i64 x.a), .d (.int .i64 x.n), .d (.sl x.ins.isEmpty 3 (x.ins.map insD))] 41, .cells [.d (.int .i64 x.a), .d (.int .i64 x.n), .d (.sl x.ins.isEmpty 3 (x.ins.map insD))] 41])) (fun (k : Nat) => w) (0) (by (try dsimp only); exact Nat.zero_le _) (by simp <;> omega) (by simp) (by simp) ?_
  intro k u w hI ih
  try simp only at hI ih
  rename_i u0 w0 hI0 ih0
  by_cases hk : k < x.ins.length
  ·obtain ⟨y, hy⟩ : ∃ y, x.ins[k]? = some y := ⟨_, List.getElem?_eq_getElem hk⟩
   have hyE : ∀ h, x.ins[k]'h = y := fun h => by rw [List.getElem?_eq_getElem h] at hy; simpa using hy
   have hk' : (k : Int) < x.ins.length := by omega
   have hnk : x.ins.isEmpty = false := by cases hu : x.ins with | nil => rw [hu] at hk; simp at hk | cons _ _ => rfl
   have hnk2 : ¬ x.ins = [] := fun e => by rw [e] at hk; simp at hk
   have hIK : inI ((k : Int) + 1) = true := inI_of (by omega) (by omega)
   simp [c9t, hk, hk', hyE, hIK, hnk, insD]
   refine ih (k + 1) (by first | ((try dsimp only); omega) | (simp [hi, hi', hx, hxE, hk, hk', hy, hyE, hIK, unR, hne, hnk, insD, hnk2, hnu2] <;> omega)) (by (try dsimp only); exact hk) _ _ _ (by simp <;> omega) (by simp <;> omega) (by simp [hnk] <;> omega)
  ·have hk' : ¬ (k : Int) < x.ins.length := by omega
   simp [c9t, hk', hII]
   refine ih0 (i + 1) (by first | ((try dsimp only); omega) | (simp [hi, hi', hx, hxE, hk', hII, unR, hne, hnu2] <;> omega)) (by (try dsimp only); exact hi) _ _ _ (by simp <;> omega) (by simp <;> omega) (by simp [hne] <;> omega)
 ·have hi' : ¬ (i : Int) < c.us.length := by omega
  simp [c9t, hi']
  refine ATT.fin' hQ Tryz.func9 c9res ?_
  simp
  all_goals (first | omega | exact ⟨_, rfl⟩ | skip)
theorem DF.smA {P : Program} {f : FuncId} {d1 d2 d2' v : D} (h : DF P f [d1, d2'] v) (hs : Sm d2 d2') : DF P f [d1, d2] v :=
 ⟨h.1, fun κ w argv hr hv => h.2 κ w argv hr (by
  simp only [List.map_cons, List.map_nil, VL] at hv ⊢
  obtain ⟨a, r, e1, h1, b, r2, e2, h2, e3⟩ := hv
  exact ⟨a, r, e1, h1, b, r2, e2, by simp only [VR] at h2 ⊢; exact hs _ _ h2, e3⟩)⟩
theorem f11_ok : DF Tryz.prog 11 [] (.bool true) := by
 have hC1 := compile_ok hWhole kn1 (by decide) (sl := []) (by decide) (snl := true) (sz := 0) (fun _ => rfl) (fun h => absurd h (by decide))
 have hC2 := compile_ok hWhole kn2 (by decide) (sl := []) (by decide) (snl := true) (sz := 0) (fun _ => rfl) (fun h => absurd h (by decide))
 rw [kcode1] at hC1
 rw [kcode2] at hC2
 have hT := f10_ok ⟨#[]⟩ kc1 (by decide)
 have hS : DF Tryz.prog 9 [.agg (cdR ⟨#[]⟩ kc1), .agg [.str ⟨#[]⟩, .sl false 3 [.agg [.int .i64 0, .int .i64 0, .sl false 3 [.agg [.int .i64 0, .int .i64 0, .int .i64 0], .agg [.int .i64 11, .int .i64 0, .int .i64 0], .agg [.int .i64 8, .int .i64 0, .int .i64 0], .agg [.int .i64 12, .int .i64 0, .int .i64 0], .agg [.int .i64 0, .int .i64 1, .int .i64 0], .agg [.int .i64 8, .int .i64 1, .int .i64 1], .agg [.int .i64 13, .int .i64 0, .int .i64 0]]]], .sl false 1 [.str ⟨#[51]⟩, .str ⟨#[52]⟩], .sl true 0 [], .sl false 1 [.str ⟨#[102, 111, 111]⟩, .str ⟨#[43]⟩]]] (.bool true) :=
  (f9_ok ⟨#[]⟩ kc1 (by decide)).smA (.agg (.cons (.refl _) (.cons (.refl _) (.cons (.refl _) (.cons (.nil _ _) (.cons (.refl _) .nil))))))
 simp only [coV, selO, codeO, atO, errO, cdR, kn1, kn2, List.map_nil] at hC1 hC2 hT hS
 refine AF.go Tryz.func11 [(5, [[(0, []), (1, []), (2, []), (3, []), (5, []), (4, [5]), (6, []), (7, []), (8, []), (9, []), (10, []), (11, []), (12, []), (13, []), (14, []), (15, []), (16, [])]])] fun tb TB Q hQ => ?_
 simp [TB]
 refine ATT.callD Tryz.func11 60 (hC1) (by simp) (by simp) (by simp) ?_
 simp [TB]
 refine ATT.callD Tryz.func11 6 hC2 (by simp) (by simp) (by simp) ?_
 simp [TB]
 refine ATT.fz (by simp) ?_
 simp
 refine goes_sound 60 _ _ _ _ ?_
 simp
 refine ATT.callRD Tryz.func11 60 (hT) (by simp) (by simp) (by simp) ?_
 simp
 refine ATT.callRD Tryz.func11 60 (hS) (by simp) (by simp) (by simp) ?_
 simp
 refine ATT.fin2 hQ Tryz.func11 ?_
 simp
 all_goals (first | omega | exact ⟨_, rfl⟩ | skip)
end Go.SL
namespace Go.SL
def Once (l : List ByteArray) : Prop := ∀ (i k : Nat) (y : ByteArray), l[i]? = some y → l[k]? = some y → i = k
def uB (op ot a : Nat) (y : Nat × Nat × Nat) : Bool := decide (y.2.1 = a) && (decide (y.1 = op) || decide (y.1 = ot))
def usI (op ot a : Nat) (l : List (Nat × Nat × Nat)) : Bool := l.any (uB op ot a)
def usC (op ot a : Nat) (l : List CU) : Bool := l.any fun x => usI op ot a x.ins
def blI (l : List (Nat × Nat × Nat)) : Nat := l.countP fun y => decide (y.1 = 10)
def blC (l : List CU) : Nat := (l.map fun x => blI x.ins).sum
theorem idxS_some {t : ByteArray} : ∀ {l : List ByteArray} {k i : Nat}, idxS t l k = some i → ∃ j, i = k + j ∧ l[j]? = some t
 | [], k, i, h => by simp [idxS] at h
 | x :: r, k, i, h => by
  simp only [idxS] at h
  split at h
  ·rename_i e
   simp only [Option.some.injEq] at h
   exact ⟨0, h.symm, by rw [← e]; rfl⟩
  ·obtain ⟨j, e, hj⟩ := idxS_some h
   exact ⟨j + 1, by omega, by simpa using hj⟩
theorem idxS_none {t : ByteArray} : ∀ {l : List ByteArray} {k : Nat}, idxS t l k = none → ∀ i : Nat, l[i]? ≠ some t
 | [], k, h, i => by simp
 | x :: r, k, h, i => by
  simp only [idxS] at h
  split at h
  ·simp at h
  ·rename_i e
   cases i with
   | zero => simpa using e
   | succ i => simpa using idxS_none h i
theorem onceS_spec {l : List ByteArray} (h : Once l) (t : ByteArray) : Once (onceS l t).1 ∧ (onceS l t).1[(onceS l t).2]? = some t ∧ (∃ r, (onceS l t).1 = l ++ r) ∧ ∀ a, a < (onceS l t).1.length → a < l.length ∨ a = (onceS l t).2 := by
 unfold onceS
 split
 ·rename_i k hk
  obtain ⟨j, e, hj⟩ := idxS_some hk
  simp only at e ⊢
  exact ⟨h, by rw [e, Nat.zero_add]; exact hj, ⟨[], by simp⟩, fun a ha => .inl ha⟩
 ·rename_i hn
  have hn := idxS_none hn
  simp only
  refine ⟨fun i k y hi hk => ?_, by simp, ⟨[t], rfl⟩, fun a ha => by simp at ha; omega⟩
  have key : ∀ (i : Nat) (y : ByteArray), (l ++ [t])[i]? = some y → l[i]? = some y ∨ (i = l.length ∧ y = t) := fun i y hi => by
   rcases Nat.lt_or_ge i l.length with g | g
   ·rw [List.getElem?_append_left g] at hi; exact .inl hi
   ·rw [List.getElem?_append_right g] at hi
    cases hq : i - l.length with
    | zero => rw [hq] at hi; simp at hi; exact .inr ⟨by omega, hi.symm⟩
    | succ q => rw [hq] at hi; simp at hi
  rcases key i y hi with a | ⟨a, b⟩ <;> rcases key k y hk with a' | ⟨a', b'⟩
  ·exact h i k y a a'
  ·subst b'; exact absurd a (hn i)
  ·subst b; exact absurd a' (hn k)
  ·omega
theorem usC_mono {op ot a u : Nat} {x : Nat × Nat × Nat} : ∀ {l : List CU} {u : Nat}, usC op ot a l = true → usC op ot a (l.modify u (addU x)) = true
 | [], u, h => by simp [usC] at h
 | y :: r, 0, h => by
  simp only [usC, usI, List.any_cons, Bool.or_eq_true, List.modify_zero_cons, addU, List.any_append] at h ⊢
  rcases h with h | h
  ·exact .inl (.inl h)
  ·exact .inr h
 | y :: r, u + 1, h => by
  simp only [usC, List.any_cons, Bool.or_eq_true, List.modify_succ_cons] at h ⊢
  rcases h with h | h
  ·exact .inl h
  ·exact .inr (usC_mono (u := u) h)
theorem usC_new {op ot : Nat} {x : Nat × Nat × Nat} (hx : x.1 = op ∨ x.1 = ot) : ∀ {l : List CU} {u : Nat}, u < l.length → usC op ot x.2.1 (l.modify u (addU x)) = true
 | [], u, h => by simp at h
 | y :: r, 0, h => by
  simp only [usC, usI, List.any_cons, List.modify_zero_cons, addU, List.any_append, uB, List.any_nil]
  simp [hx]
 | y :: r, u + 1, h => by
  simp only [usC, List.any_cons, List.modify_succ_cons, Bool.or_eq_true]
  exact .inr (usC_new hx (by simpa using h))
theorem blC_add {x : Nat × Nat × Nat} : ∀ {l : List CU} {u : Nat}, u < l.length → blC (l.modify u (addU x)) = blC l + (if x.1 = 10 then 1 else 0)
 | [], u, h => by simp at h
 | y :: r, 0, h => by
  simp only [blC, blI, List.modify_zero_cons, addU, List.map_cons, List.sum_cons, List.countP_append, List.countP_cons, List.countP_nil, decide_eq_true_eq]
  omega
 | y :: r, u + 1, h => by
  have := blC_add (x := x) (l := r) (u := u) (by simpa using h)
  simp only [blC, List.modify_succ_cons, List.map_cons, List.sum_cons] at this ⊢
  omega
structure I1 (c : CM) : Prop where
 l1 : Once c.lits
 n1 : Once c.names
 s1 : Once c.sels
 lu : ∀ a, a < c.lits.length → usC 0 0 a c.us = true
 nu : ∀ a, a < c.names.length → usC 5 5 a c.us = true
 su : ∀ a, a < c.sels.length → usC 8 9 a c.us = true
 b : blC c.us + 1 = c.us.length
theorem I1.add {c : CM} (h : I1 c) {u : Nat} (hu : u < c.us.length) {x : Nat × Nat × Nat} (hx : x.1 ≠ 10) : I1 (addS u x c) :=
 ⟨h.l1, h.n1, h.s1, fun a ha => usC_mono (u := u) (h.lu a ha), fun a ha => usC_mono (u := u) (h.nu a ha), fun a ha => usC_mono (u := u) (h.su a ha), by
  have := h.b
  simp only [addS, List.length_modify]
  rw [blC_add hu, if_neg hx]; exact this⟩
theorem I1.lit {c : CM} (h : I1 c) {u : Nat} (hu : u < c.us.length) (t : ByteArray) : I1 (litS u t c) := by
 have hs := onceS_spec h.l1 t
 have h2 := I1.add h hu (x := (0, (onceS c.lits t).2, 0)) (by simp)
 exact ⟨hs.1, h2.n1, h2.s1, fun a ha => by
  rcases hs.2.2.2 a ha with g | g
  ·exact h2.lu a g
  ·subst g; exact usC_new (x := (0, (onceS c.lits t).2, 0)) (.inl rfl) hu, h2.nu, h2.su, h2.b⟩
theorem I1.name {c : CM} (h : I1 c) {u : Nat} (hu : u < c.us.length) (t : ByteArray) : I1 (addS u (5, (onceS c.names t).2, 0) { c with names := (onceS c.names t).1 }) := by
 have hs := onceS_spec h.n1 t
 have h2 := I1.add h hu (x := (5, (onceS c.names t).2, 0)) (by simp)
 exact ⟨h2.l1, hs.1, h2.s1, h2.lu, fun a ha => by
  rcases hs.2.2.2 a ha with g | g
  ·exact h2.nu a g
  ·subst g; exact usC_new (x := (5, (onceS c.names t).2, 0)) (.inl rfl) hu, h2.su, h2.b⟩
theorem I1.send {c : CM} (h : I1 c) {u : Nat} (hu : u < c.us.length) (sp : Bool) (t : ByteArray) (n : Nat) : I1 (sendC u sp t n c) := by
 have hs := onceS_spec h.s1 t
 have hop : (if sp = true then 9 else 8) = 8 ∨ (if sp = true then 9 else 8) = 9 := by cases sp <;> simp
 have h2 := I1.add h hu (x := (if sp then 9 else 8, (onceS c.sels t).2, n)) (by cases sp <;> simp)
 exact ⟨h2.l1, h2.n1, hs.1, h2.lu, h2.nu, fun a ha => by
  rcases hs.2.2.2 a ha with g | g
  ·exact h2.su a g
  ·subst g; exact usC_new (x := (if sp then 9 else 8, (onceS c.sels t).2, n)) hop hu, h2.b⟩
theorem usC_app {op ot a : Nat} {l m : List CU} (h : usC op ot a l = true) : usC op ot a (l ++ m) = true := by
 simp only [usC, List.any_append, Bool.or_eq_true] at h ⊢; exact .inl h
theorem clo_once (n : Nat) (Q : ByteArray → Nat → Prop) : Clo n Q fun sh c => sh.length = c.us.length ∧ I1 c := by
 have L : ∀ {sh : Sh} {c c' : CM} {u : Nat} {a : Option Nat}, sh.length = c.us.length → c'.us.length = c.us.length → (up sh u a 0).length = c'.us.length := fun h e => by simp [up, h, e]
 have la : ∀ (u : Nat) (x : Nat × Nat × Nat) (c : CM), (addS u x c).us.length = c.us.length := fun u x c => by simp [addS]
 constructor
 case len => exact fun h => h.1
 case lit => exact fun t h hd => ⟨L h.1 (la _ _ _), h.2.lit (by rw [← h.1]; exact at_len hd) t⟩
 case use =>
  intro sh c u d x _ h hd
  have hu : u < c.us.length := by rw [← h.1]; exact at_len hd
  unfold useS
  split
  ·exact ⟨L h.1 (la _ _ _), h.2.add hu (by simp)⟩
  split
  ·exact ⟨L h.1 (la _ _ _), h.2.add hu (by simp)⟩
  split
  ·exact ⟨L h.1 (la _ _ _), h.2.add hu (by simp)⟩
  split
  ·exact ⟨L h.1 (la _ _ _), h.2.name hu x.t⟩
  ·exact ⟨L h.1 (la _ _ _), h.2.add hu (by simp)⟩
 case set =>
  intro sh c u d x _ _ h hd
  have hu : u < c.us.length := by rw [← h.1]; exact at_len hd
  unfold setS
  split
  ·exact ⟨L h.1 (la _ _ _), h.2.add hu (by simp)⟩
  ·exact ⟨L h.1 (la _ _ _), h.2.add hu (by simp)⟩
 case send => exact fun sp _ h hd => ⟨L h.1 (la _ _ _), h.2.send (by rw [← h.1]; exact at_len hd) sp _ _⟩
 case dup => exact fun h hd => ⟨L h.1 (la _ _ _), h.2.add (by rw [← h.1]; exact at_len hd) (by decide)⟩
 case pop => exact fun h hd => ⟨L h.1 (la _ _ _), h.2.add (by rw [← h.1]; exact at_len hd) (by decide)⟩
 case self => exact fun h hd => ⟨L h.1 (la _ _ _), h.2.add (by rw [← h.1]; exact at_len hd) (by decide)⟩
 case nul => exact fun h hd => ⟨L h.1 (la _ _ _), h.2.add (by rw [← h.1]; exact at_len hd) (by decide)⟩
 case fin => exact fun h hd => ⟨L h.1 (la _ _ _), h.2.add (by rw [← h.1]; exact at_len hd) (by decide)⟩
 case ret => exact fun h hd => ⟨L h.1 (la _ _ _), h.2.add (by rw [← h.1]; exact at_len hd) (by decide)⟩
 case blk =>
  intro sh c u d a b _ h hd
  have hu : u < c.us.length := by rw [← h.1]; exact at_len hd
  refine ⟨by simp [up, newU, addS, h.1], h.2.l1, h.2.n1, h.2.s1, fun a ha => usC_app (usC_mono (u := u) (h.2.lu a ha)), fun a ha => usC_app (usC_mono (u := u) (h.2.nu a ha)), fun a ha => usC_app (usC_mono (u := u) (h.2.su a ha)), ?_⟩
  have hb := h.2.b
  have := blC_add (x := (10, c.us.length, 0)) hu
  rw [if_pos rfl] at this
  simp only [newU, addS, List.length_append, List.length_modify, List.length_singleton]
  have e : blC (c.us.modify u (addU (10, c.us.length, 0)) ++ [⟨a, b, []⟩]) = blC (c.us.modify u (addU (10, c.us.length, 0))) := by simp [blC, blI]
  rw [e, this]; omega
theorem once_new (n : Nat) (m : Nat) : I1 (newU n m ⟨[], [], [], []⟩) :=
 ⟨fun i k y h => by simp [newU] at h, fun i k y h => by simp [newU] at h, fun i k y h => by simp [newU] at h, fun a h => by simp [newU] at h, fun a h => by simp [newU] at h, fun a h => by simp [newU] at h, by simp [newU, blC, blI]⟩
def stepN (y : Nat × Nat × Nat) (n : Nat) : Option Nat :=
 if y.1 = 0 ∨ y.1 = 1 ∨ y.1 = 3 ∨ y.1 = 5 ∨ y.1 = 6 ∨ y.1 = 7 ∨ y.1 = 10 then some (n + 1)
 else if y.1 = 2 ∨ y.1 = 4 then (if 1 ≤ n then some n else none)
 else if y.1 = 8 ∨ y.1 = 9 then (if y.2.2 + 1 ≤ n then some (n - y.2.2) else none)
 else if y.1 = 11 then (if 1 ≤ n then some (n + 1) else none)
 else if y.1 = 12 ∨ y.1 = 13 ∨ y.1 = 14 then (if 1 ≤ n then some (n - 1) else none)
 else none
def runN : List (Nat × Nat × Nat) → Nat → Option Nat
 | [], n => some n
 | y :: r, n => (stepN y n).bind (runN r)
theorem runN_app : ∀ (l m : List (Nat × Nat × Nat)) (n : Nat), runN (l ++ m) n = (runN l n).bind (runN m)
 | [], m, n => rfl
 | y :: r, m, n => by
  simp only [List.cons_append, runN]
  cases stepN y n with
  | none => rfl
  | some k => exact runN_app r m k
section
variable (A : ByteArray → Nat → Prop) (slots : Nat)
def okS (c : CM) (y : Nat × Nat × Nat) : Prop :=
 (y.1 = 0 → y.2.1 < c.lits.length) ∧ (y.1 = 3 ∨ y.1 = 4 → y.2.1 < slots) ∧ (y.1 = 5 → y.2.1 < c.names.length) ∧ (y.1 = 7 → y.2.1 < 3) ∧
 (y.1 = 8 ∨ y.1 = 9 → ∃ t, c.sels[y.2.1]? = some t ∧ A t y.2.2) ∧ (y.1 = 10 → y.2.1 < c.us.length)
def unOk (c : CM) (x : CU) (s : Option Nat) : Prop := x.a ≤ x.n ∧ (∀ y ∈ x.ins, okS A slots c y) ∧ match s with
 | some d => (∀ y ∈ x.ins, y.1 ≤ 12) ∧ runN x.ins 0 = some d
 | none => ∃ i z, x.ins = i ++ [z] ∧ (z.1 = 13 ∨ z.1 = 14) ∧ (∀ y ∈ i, y.1 ≤ 12) ∧ runN i 0 = some 1
def I2 (sh : Sh) (c : CM) : Prop := sh.length = c.us.length ∧ ∀ (v : Nat) (x : CU) (s : Option Nat), c.us[v]? = some x → sh[v]? = some s → unOk A slots c x s
end
section
variable {A : ByteArray → Nat → Prop} {slots : Nat}
def Ext (c c' : CM) : Prop := (∃ r, c'.lits = c.lits ++ r) ∧ (∃ r, c'.names = c.names ++ r) ∧ (∃ r, c'.sels = c.sels ++ r) ∧ c.us.length ≤ c'.us.length
theorem okS.ext {c c' : CM} (e : Ext c c') {y : Nat × Nat × Nat} (h : okS A slots c y) : okS A slots c' y := by
 obtain ⟨⟨r1, e1⟩, ⟨r2, e2⟩, ⟨r3, e3⟩, e4⟩ := e
 obtain ⟨h1, h2, h3, h4, h5, h6⟩ := h
 refine ⟨fun k => ?_, h2, fun k => ?_, h4, fun k => ?_, fun k => Nat.lt_of_lt_of_le (h6 k) e4⟩
 ·have := h1 k; rw [e1, List.length_append]; omega
 ·have := h3 k; rw [e2, List.length_append]; omega
 ·obtain ⟨t, g1, g2⟩ := h5 k
  exact ⟨t, by rw [e3, List.getElem?_append_left (List.getElem?_eq_some_iff.1 g1).1]; exact g1, g2⟩
theorem unOk.ext {c c' : CM} (e : Ext c c') {x : CU} {s : Option Nat} (h : unOk A slots c x s) : unOk A slots c' x s := ⟨h.1, fun y hy => (h.2.1 y hy).ext e, h.2.2⟩
theorem at_modify {l : List CU} {u v : Nat} {z : Nat × Nat × Nat} {x : CU} (h : (l.modify u (addU z))[v]? = some x) : (u = v ∧ ∃ x', l[v]? = some x' ∧ x = addU z x') ∨ (u ≠ v ∧ l[v]? = some x) := by
 rw [List.getElem?_modify] at h
 cases hl : l[v]? with
 | none => rw [hl] at h; simp at h
 | some x' =>
  rw [hl] at h
  simp only [Option.map_eq_map, Option.map_some, Option.some.injEq] at h
  by_cases e : u = v
  ·rw [if_pos e] at h; exact .inl ⟨e, x', rfl, h.symm⟩
  ·rw [if_neg e] at h; exact .inr ⟨e, by rw [h]⟩
theorem at_up {sh : Sh} {u v : Nat} {a s : Option Nat} (h : (up sh u a 0)[v]? = some s) : (u = v ∧ s = a) ∨ (u ≠ v ∧ sh[v]? = some s) := by
 unfold up at h
 simp only [List.replicate_zero, List.append_nil] at h
 by_cases e : u = v
 ·subst e
  have hl : u < sh.length := by
   have := (List.getElem?_eq_some_iff.1 h).1
   simpa using this
  rw [List.getElem?_set_self hl] at h
  exact .inl ⟨rfl, by simpa using h.symm⟩
 ·rw [List.getElem?_set_ne e] at h; exact .inr ⟨e, h⟩
theorem step_core {sh : Sh} {c c2 : CM} {u d : Nat} {s : Option Nat} {y : Nat × Nat × Nat} (h : I2 A slots sh c) (hd : sh[u]? = some (some d)) (he2 : Ext c c2) (hy : okS A slots c2 y)
  (hs : match s with | some d' => y.1 ≤ 12 ∧ stepN y d = some d' | none => (y.1 = 13 ∨ y.1 = 14) ∧ d = 1) {v : Nat} {x : CU} {s' : Option Nat} (hx : (c.us.modify u (addU y))[v]? = some x) (hs' : (up sh u s 0)[v]? = some s') : unOk A slots c2 x s' := by
 rcases at_modify hx with ⟨e, x', hx', ex⟩ | ⟨e, hx'⟩ <;> rcases at_up hs' with ⟨e2, es⟩ | ⟨e2, hs2⟩
 ·subst e ex es
  have hu := h.2 u x' (some d) hx' hd
  refine ⟨hu.1, fun z hz => ?_, ?_⟩
  ·simp only [addU, List.mem_append, List.mem_singleton] at hz
   rcases hz with hz | hz
   ·exact (hu.2.1 z hz).ext he2
   ·subst hz; exact hy
  ·cases s' with
   | some d' =>
    refine ⟨fun z hz => ?_, ?_⟩
    ·simp only [addU, List.mem_append, List.mem_singleton] at hz
     rcases hz with hz | hz
     ·exact hu.2.2.1 z hz
     ·subst hz; exact hs.1
    ·simp only [addU, runN_app, hu.2.2.2, Option.bind_some, runN, hs.2]
   | none => exact ⟨x'.ins, y, rfl, hs.1, hu.2.2.1, by rw [hu.2.2.2, hs.2]⟩
 ·exact absurd e e2
 ·exact absurd e2 e
 ·exact (h.2 v x s' hx' hs2).ext he2
theorem I2.step {sh : Sh} {c c1 : CM} {u d : Nat} {s : Option Nat} {y : Nat × Nat × Nat} (h : I2 A slots sh c) (hd : sh[u]? = some (some d)) (he : Ext c c1) (hus : c1.us = c.us) (hy : okS A slots c1 y)
  (hs : match s with | some d' => y.1 ≤ 12 ∧ stepN y d = some d' | none => (y.1 = 13 ∨ y.1 = 14) ∧ d = 1) : I2 A slots (up sh u s 0) (addS u y c1) := by
 have he2 : Ext c (addS u y c1) := ⟨he.1, he.2.1, he.2.2.1, by simp [addS, hus]⟩
 have he3 : Ext c1 (addS u y c1) := ⟨⟨[], by simp [addS]⟩, ⟨[], by simp [addS]⟩, ⟨[], by simp [addS]⟩, by simp [addS]⟩
 refine ⟨by simp [up, addS, hus, h.1], fun v x s' hx hs' => ?_⟩
 simp only [addS, hus] at hx
 exact step_core h hd he2 (hy.ext he3) hs hx hs'
theorem Ext.refl (c : CM) : Ext c c := ⟨⟨[], by simp⟩, ⟨[], by simp⟩, ⟨[], by simp⟩, Nat.le_refl _⟩
theorem onceS_at (l : List ByteArray) (t : ByteArray) : (onceS l t).1[(onceS l t).2]? = some t ∧ ∃ r, (onceS l t).1 = l ++ r := by
 unfold onceS
 split
 ·rename_i k hk
  obtain ⟨j, e, hj⟩ := idxS_some hk
  simp only at e ⊢
  exact ⟨by rw [e, Nat.zero_add]; exact hj, [], by simp⟩
 ·exact ⟨by simp, [t], rfl⟩
theorem clo_good (Q : ByteArray → Nat → Prop) (hQ : ∀ t m, Q t m → A t m) : Clo slots Q (I2 A slots) := by
 have no : ∀ {c : CM} {y : Nat × Nat × Nat}, (y.1 = 1 ∨ y.1 = 2 ∨ y.1 = 6 ∨ y.1 = 11 ∨ y.1 = 12 ∨ y.1 = 13 ∨ y.1 = 14) → okS A slots c y := fun h => ⟨fun e => by omega, fun e => by omega, fun e => by omega, fun e => by omega, fun e => by omega, fun e => by omega⟩
 constructor
 case len => exact fun h => h.1
 case lit =>
  intro sh c u d t h hd
  have ho := onceS_at c.lits t
  exact h.step hd (c1 := { c with lits := (onceS c.lits t).1 }) ⟨ho.2, ⟨[], by simp⟩, ⟨[], by simp⟩, Nat.le_refl _⟩ rfl ⟨fun _ => (List.getElem?_eq_some_iff.1 ho.1).1, fun e => by simp at e, fun e => by simp at e, fun e => by simp at e, fun e => by simp at e, fun e => by simp at e⟩ ⟨by simp, by simp [stepN]⟩
 case use =>
  intro sh c u d x hp h hd
  unfold useS
  split
  ·rename_i k
   exact h.step hd (.refl c) rfl ⟨fun e => by simp at e, fun e => by simp at e, fun e => by simp at e, fun _ => hp.1 k, fun e => by simp at e, fun e => by simp at e⟩ ⟨by simp, by simp [stepN]⟩
  split
  ·exact h.step hd (.refl c) rfl (no (by simp)) ⟨by simp, by simp [stepN]⟩
  split
  ·rename_i k
   exact h.step hd (.refl c) rfl ⟨fun e => by simp at e, fun _ => hp.2 k, fun e => by simp at e, fun e => by simp at e, fun e => by simp at e, fun e => by simp at e⟩ ⟨by simp, by simp [stepN]⟩
  split
  ·have ho := onceS_at c.names x.t
   exact h.step hd (c1 := { c with names := (onceS c.names x.t).1 }) ⟨⟨[], by simp⟩, ho.2, ⟨[], by simp⟩, Nat.le_refl _⟩ rfl ⟨fun e => by simp at e, fun e => by simp at e, fun _ => (List.getElem?_eq_some_iff.1 ho.1).1, fun e => by simp at e, fun e => by simp at e, fun e => by simp at e⟩ ⟨by simp, by simp [stepN]⟩
  ·exact h.step hd (.refl c) rfl (no (by simp)) ⟨by simp, by simp [stepN]⟩
 case set =>
  intro sh c u d x hp hk h hd
  unfold setS
  split
  ·exact h.step hd (.refl c) rfl (no (by simp)) ⟨by simp, by simp [stepN]⟩
  ·rename_i k3
   exact h.step hd (.refl c) rfl ⟨fun e => by simp at e, fun _ => hp.2 (by omega), fun e => by simp at e, fun e => by simp at e, fun e => by simp at e, fun e => by simp at e⟩ ⟨by simp, by simp [stepN]⟩
 case send =>
  intro sh c u d m t sp hq h hd
  have ho := onceS_at c.sels t
  refine h.step hd (c1 := { c with sels := (onceS c.sels t).1 }) ⟨⟨[], by simp⟩, ⟨[], by simp⟩, ho.2, Nat.le_refl _⟩ rfl ⟨fun e => by cases sp <;> simp at e, fun e => by cases sp <;> simp at e, fun e => by cases sp <;> simp at e, fun e => by cases sp <;> simp at e, fun _ => ⟨t, ho.1, hQ _ _ hq⟩, fun e => by cases sp <;> simp at e⟩ ⟨by cases sp <;> simp, ?_⟩
  cases sp <;> simp [stepN] <;> omega
 case dup => exact fun h hd => h.step hd (.refl _) rfl (no (by simp)) ⟨by simp, by simp [stepN]⟩
 case pop => exact fun h hd => h.step hd (.refl _) rfl (no (by simp)) ⟨by simp, by simp [stepN]⟩
 case self => exact fun h hd => h.step hd (.refl _) rfl (no (by simp)) ⟨by simp, by simp [stepN]⟩
 case nul => exact fun h hd => h.step hd (.refl _) rfl ⟨fun e => by simp at e, fun e => by simp at e, fun e => by simp at e, fun _ => by decide, fun e => by simp at e, fun e => by simp at e⟩ ⟨by simp, by simp [stepN]⟩
 case fin => exact fun h hd => h.step (s := none) hd (.refl _) rfl (no (by simp)) ⟨by simp, rfl⟩
 case ret => exact fun h hd => h.step (s := none) hd (.refl _) rfl (no (by simp)) ⟨by simp, rfl⟩
 case blk =>
  intro sh c u d a b hab h hd
  have hl := h.1
  have hul := at_len hd
  refine ⟨by simp [up, newU, addS, h.1], fun v x s hx hs => ?_⟩
  simp only [newU, addS] at hx
  rcases Nat.lt_or_ge v c.us.length with g | g
  ·rw [List.getElem?_append_left (by simpa using g)] at hx
   rw [List.getElem?_append_left (by simp [up]; omega)] at hs
   exact step_core h hd (s := some (d + 1)) (y := (10, c.us.length, 0)) ⟨⟨[], by simp [newU, addS]⟩, ⟨[], by simp [newU, addS]⟩, ⟨[], by simp [newU, addS]⟩, by simp [newU, addS]⟩ ⟨fun e => by simp at e, fun e => by simp at e, fun e => by simp at e, fun e => by simp at e, fun e => by simp at e, fun _ => by simp [newU, addS]⟩ ⟨by simp, by simp [stepN]⟩ hx hs
  ·rw [List.getElem?_append_right (by simpa using g)] at hx
   rw [List.getElem?_append_right (by simp [up]; omega)] at hs
   simp only [List.length_modify] at hx
   have e : v - c.us.length = 0 := by
    cases hq : v - c.us.length with
    | zero => rfl
    | succ q => rw [hq] at hx; simp at hx
   rw [e] at hx
   have e2 : v - (up sh u (some (d + 1)) 0).length = 0 := by simp [up]; omega
   rw [e2] at hs
   simp at hx hs
   subst hx hs
   exact ⟨hab, fun y hy => by simp at hy, fun y hy => by simp at hy, rfl⟩
theorem good_new {n m : Nat} (h : n ≤ m) : I2 A slots [some 0] (newU n m ⟨[], [], [], []⟩) := by
 refine ⟨rfl, fun v x s hx hs => ?_⟩
 cases v with
 | zero =>
  simp [newU] at hx hs
  subst hx hs
  exact ⟨h, fun y hy => by simp at hy, fun y hy => by simp at hy, rfl⟩
 | succ v => simp [newU] at hx
end
end Go.SL
namespace Go.SL
open Go.Proofs
set_option maxRecDepth 10000
@[simp] theorem usI_nil (op ot a : Nat) : usI op ot a [] = false := rfl
@[simp] theorem usC_nil (op ot a : Nat) : usC op ot a [] = false := rfl
end Go.SL
namespace Go.SL
open Go.Proofs
set_option maxRecDepth 10000
theorem mkU_sz {lt : Nd → ByteArray} {x : Nd} {us : List Us} {s : MS} (h : mkU lt x c0 us = some s) : szC s.1 ≤ 8 * nds x + 4 := by
 unfold mkU at h
 cases hk : mkS lt c0.us.length 0 x.kids (newU x.n x.names.length c0, us) with
 | none => rw [hk] at h; simp at h
 | some s2 =>
  rw [hk] at h
  simp only [Option.map_some, Option.some.injEq] at h
  rw [← h]
  have h1 := ((newU_gr x.n x.names.length c0).trans (mkS_gr hk)).trans (doneU_gr c0.us.length (decide (x.k = 12) && !decide (x.t = ⟨#[]⟩)) x.kids.length s2)
  have h2 := h1.2
  have := Nd.count x
  have h0 : szC c0 = 0 := rfl
  rw [h0] at h2
  simp only
  omega
theorem code_facts {num : ByteArray → Bool} {sl : List ByteArray} {m : Bool} {s sel : ByteArray} {c : CM} (h : codeD num sl m s = .inl (sel, c)) :
  I1 c ∧ (∃ k, I2 QA sl.length (List.replicate (k + 1) none) c) ∧ szC c ≤ 50000 := by
 unfold codeD at h
 cases hp : parseD num m s with
 | out => rw [hp] at h; simp at h
 | no a w => rw [hp] at h; simp at h
 | ok x l =>
  rw [hp] at h
  simp only at h
  have h1 := parse_fits hp
  have h2 := parse_fine hp
  unfold makeD at h
  cases hu : useU sl [] x with
  | inr a => rw [hu] at h; simp at h
  | inl us =>
   rw [hu] at h
   obtain ⟨c1, k1, e1, i1⟩ := mkU_ok (lt := litB) (clo_once sl.length QA) h1.1 h2.1 h2.2.1 h1.2.1 hu ⟨rfl, once_new _ _⟩
   obtain ⟨c2, k2, e2, i2⟩ := mkU_ok (lt := litB) (clo_good (A := QA) (slots := sl.length) QA fun t m h => h) h1.1 h2.1 h2.2.1 h1.2.1 hu (good_new h1.1.one.2.2.1)
   have e3 : mkU litB x c0 us = some (c1, []) := e1
   simp only [e3, Sum.inl.injEq, Prod.mk.injEq] at h
   have e4 : c1 = c2 := by rw [e1] at e2; simpa using e2
   obtain ⟨_, e5⟩ := h
   subst e5
   subst e4
   have := mkU_sz e3
   simp only at this
   exact ⟨i1.2, ⟨k2, i2⟩, by omega⟩
theorem codeD_why {num : ByteArray → Bool} {sl : List ByteArray} {m : Bool} {s : ByteArray} {a : Nat × Int} (h : codeD num sl m s = .inr a) : ¬ a.2 = 0 := by
 unfold codeD at h
 cases hp : parseD num m s with
 | out => exact absurd hp (parseD_in _ _ _)
 | no b w =>
  rw [hp] at h
  simp only [Sum.inr.injEq] at h
  subst h
  exact parseD_why hp
 | ok x l =>
  rw [hp] at h
  simp only at h
  cases hd : makeD sl x with
  | inl c => rw [hd] at h; simp at h
  | inr b => rw [hd] at h; simp only [Sum.inr.injEq] at h; subst h; simp
@[simp] theorem blI_nil : blI [] = 0 := rfl
@[simp] theorem blC_nil : blC [] = 0 := rfl
end Go.SL
namespace Go.SL
def needS (y : Nat × Nat × Nat) : Nat := if y.1 = 0 ∨ y.1 = 1 ∨ y.1 = 3 ∨ y.1 = 5 ∨ y.1 = 6 ∨ y.1 = 7 ∨ y.1 = 10 then 0 else if y.1 = 8 ∨ y.1 = 9 then y.2.2 else 1
def comeS (y : Nat × Nat × Nat) : Nat := if y.1 = 8 ∨ y.1 = 9 ∨ y.1 = 12 ∨ y.1 = 13 ∨ y.1 = 14 then 0 else if y.1 = 11 then 2 else 1
theorem stepN_some {y : Nat × Nat × Nat} {n m : Nat} (h : stepN y n = some m) : y.1 ≤ 14 ∧ needS y ≤ n ∧ m + needS y = n + comeS y ∧ (y.1 = 8 ∨ y.1 = 9 → y.2.2 < n) := by
 unfold stepN at h
 unfold needS comeS
 split at h
 ·simp only [Option.some.injEq] at h
  rw [if_pos ‹_›, if_neg (by omega), if_neg (by omega)]
  omega
 rename_i h1
 rw [if_neg h1]
 split at h
 ·split at h <;> simp at h
  rw [if_neg (by omega), if_neg (by omega), if_neg (by omega)]
  omega
 split at h
 ·split at h <;> simp at h
  rw [if_pos ‹_›, if_pos (by omega)]
  omega
 split at h
 ·split at h <;> simp at h
  rw [if_neg (by omega), if_neg (by omega), if_pos (by omega)]
  omega
 split at h
 ·split at h <;> simp at h
  rw [if_neg (by omega), if_pos (by omega)]
  omega
 ·simp at h
theorem runN_le : ∀ {l : List (Nat × Nat × Nat)} {n m : Nat}, runN l n = some m → m ≤ n + l.length
 | [], n, m, h => by simp only [runN, Option.some.injEq] at h; simp; omega
 | y :: r, n, m, h => by
  simp only [runN] at h
  cases hs : stepN y n with
  | none => rw [hs] at h; simp at h
  | some k =>
   rw [hs] at h
   have h1 := runN_le (l := r) h
   have h2 := stepN_some hs
   have : comeS y ≤ needS y + 1 := by unfold comeS needS; split <;> split <;> (try split) <;> (try split) <;> omega
   simp only [List.length_cons]
   omega
structure UOK (l : List (Nat × Nat × Nat)) : Prop where
 ne : l ≠ []
 at_ : ∀ k y, l[k]? = some y → ∃ n m, runN (l.take k) 0 = some n ∧ stepN y n = some m ∧ runN (l.take (k + 1)) 0 = some m ∧ n ≤ k
 all : runN l 0 = some 0
 last : ∀ k y, l[k]? = some y → ((y.1 = 13 ∨ y.1 = 14) ↔ k + 1 = l.length)
theorem UOK.of {i : List (Nat × Nat × Nat)} {z : Nat × Nat × Nat} (hz : z.1 = 13 ∨ z.1 = 14) (hi : ∀ y ∈ i, y.1 ≤ 12) (hr : runN i 0 = some 1) : UOK (i ++ [z]) := by
 have hs : stepN z 1 = some 0 := by unfold stepN; rw [if_neg (by omega), if_neg (by omega), if_neg (by omega), if_neg (by omega), if_pos (by omega)]; rfl
 have ha : runN (i ++ [z]) 0 = some 0 := by rw [runN_app, hr]; simp [runN, hs]
 refine ⟨by simp, fun k y hk => ?_, ha, fun k y hk => ?_⟩
 ·have hl := (List.getElem?_eq_some_iff.1 hk).1
  have ht : (i ++ [z]).take (k + 1) = (i ++ [z]).take k ++ [y] := by rw [List.take_add_one, hk]; rfl
  have h1 : (i ++ [z]) = (i ++ [z]).take (k + 1) ++ (i ++ [z]).drop (k + 1) := (List.take_append_drop _ _).symm
  rw [h1, runN_app] at ha
  cases h2 : runN ((i ++ [z]).take (k + 1)) 0 with
  | none => rw [h2] at ha; simp at ha
  | some m =>
   have h3 := h2
   rw [ht, runN_app] at h3
   cases h4 : runN ((i ++ [z]).take k) 0 with
   | none => rw [h4] at h3; simp at h3
   | some n =>
    rw [h4] at h3
    have h5 := runN_le h4
    simp only [List.length_take] at h5
    refine ⟨n, m, rfl, ?_, rfl, by omega⟩
    simpa [runN] using h3
 ·rcases Nat.lt_or_ge k i.length with g | g
  ·rw [List.getElem?_append_left g] at hk
   have := hi y (List.mem_of_getElem? hk)
   simp; omega
  ·rw [List.getElem?_append_right g] at hk
   cases hq : k - i.length with
   | zero => rw [hq] at hk; simp at hk; subst hk; simp; omega
   | succ q => rw [hq] at hk; simp at hk
theorem unOk.uok {A : ByteArray → Nat → Prop} {slots : Nat} {c : CM} {x : CU} (h : unOk A slots c x none) : UOK x.ins := by
 obtain ⟨_, _, i, z, e, hz, hi, hr⟩ := h
 rw [e]
 exact UOK.of hz hi hr
end Go.SL
namespace Go.SL
open Go.Proofs
set_option maxRecDepth 10000
theorem f59_ok (y : Nat × Nat × Nat) (h : y.1 ≤ 14) : DF Tryz.prog 59 [insD y] (.tup [.int .i64 (needS y), .int .i64 (comeS y), .bool true]) := by
 obtain ⟨op, a, b⟩ := y
 simp only at h
 have hop : op = 0 ∨ op = 1 ∨ op = 2 ∨ op = 3 ∨ op = 4 ∨ op = 5 ∨ op = 6 ∨ op = 7 ∨ op = 8 ∨ op = 9 ∨ op = 10 ∨ op = 11 ∨ op = 12 ∨ op = 13 ∨ op = 14 := by omega
 rcases hop with rfl | rfl | rfl | rfl | rfl | rfl | rfl | rfl | rfl | rfl | rfl | rfl | rfl | rfl | rfl
 all_goals
  refine AF.go Tryz.func59 [(15, [oD 8 [(5, [2, 3, 4]), (6, [2, 3, 4])]])] fun tb TB Q hQ => ?_
  simp [TB, insD]
  refine ATT.fin2 hQ Tryz.func59 ?_
  simp [needS, comeS]
  all_goals (first | omega | exact ⟨_, rfl⟩ | skip)
theorem f36_ok (x : CU) (hx : UOK x.ins) (hl : x.ins.length ≤ 100000000) : DE Tryz.prog 36 [unR x] fun v => ∃ m : Nat, v = .tup [.int .i64 m, .int .i64 0, .bool true] := by
 unfold unR
 refine AF.go Tryz.func36 [] fun tb TB Q hQ => ?_
 simp [TB]
 refine ATT.loopG 60 rfl (fun ((k, m, n) : Nat × Nat × Nat) => x.ins.length - k) (fun ((k, m, n) : Nat × Nat × Nat) => k ≤ x.ins.length ∧ runN (x.ins.take k) 0 = some n ∧ n ≤ k ∧ m ≤ k) (fun ((k, m, n) : Nat × Nat × Nat) => [(5, .d (.int .i64 m)), (6, .d (.int .i64 n)), (13, .d (.sl x.ins.isEmpty 3 (x.ins.map insD))), (14, .d (.int .i64 x.ins.length)), (15, .d (.int .i64 k))]) (fun ((k, m, n) : Nat × Nat × Nat) => []) (fun ((k, m, n) : Nat × Nat × Nat) => []) ((0, 0, 0)) (by (try dsimp only); exact ⟨Nat.zero_le _, rfl, Nat.le_refl _, Nat.le_refl _⟩) (by simp <;> omega) (by simp) (by simp) ?_
 intro ⟨k, m, n⟩ u w hI ih
 try simp only at hI ih
 obtain ⟨i1, i2, i3, i4⟩ := hI
 by_cases hk : k < x.ins.length
 ·obtain ⟨y, hy⟩ : ∃ y, x.ins[k]? = some y := ⟨_, List.getElem?_eq_getElem hk⟩
  have hyE : ∀ h, x.ins[k]'h = y := fun h => by rw [List.getElem?_eq_getElem h] at hy; simpa using hy
  have hk' : (k : Int) < x.ins.length := by omega
  have hnk : x.ins.isEmpty = false := by cases hu : x.ins with | nil => rw [hu] at hk; simp at hk | cons _ _ => rfl
  have hnk2 : ¬ x.ins = [] := fun e => by rw [e] at hk; simp at hk
  have hIK : inI ((k : Int) + 1) = true := inI_of (by omega) (by omega)
  obtain ⟨n0, n1, e1, e2, e3, e4⟩ := hx.at_ k y hy
  rw [i2] at e1
  simp only [Option.some.injEq] at e1
  subst e1
  obtain ⟨s1, s2, s3, s4⟩ := stepN_some e2
  have hE := f59_ok y s1
  have hn1 : n1 ≤ k + 1 := by
   have := runN_le e3
   simp only [List.length_take] at this
   omega
  have hIn : inI ((comeS y : Int) - needS y) = true := inI_of (by omega) (by unfold comeS; split <;> (try split) <;> omega)
  have hIn2 : inI (n1 : Int) = true := inI_of (by omega) (by omega)
  have hmx : ((if m < n1 then n1 else m : Nat) : Int) = if m < n1 then (n1 : Int) else m := by split <;> rfl
  have hmk : (if m < n1 then n1 else m) ≤ k + 1 := by split <;> omega
  have hv : (n : Int) + ((comeS y : Int) - needS y) = n1 := by omega
  have hge : ¬ (n : Int) < needS y := by omega
  simp only [insD] at hE
  by_cases h89 : y.1 = 8 ∨ y.1 = 9
  ·have hgt : (needS y : Int) < n := by unfold needS; rw [if_neg (by omega), if_pos h89]; have := s4 h89; omega
   rcases h89 with h8 | h9
   ·skip
    simp [TB, hk, hk', hyE, hnk, insD, h8]
    refine ATT.callD Tryz.func36 60 (hE) (by simp) (by simp [h8]) (by simp) ?_
    simp [TB, hIK, hge, hgt]
    simp [hIn, hIn2, hv]
    refine ih (k + 1, (if m < n1 then n1 else m), n1) (by first | ((try dsimp only); omega) | (simp [hIn, hIn2, hv, hmx] <;> omega)) (by (try dsimp only); exact ⟨hk, e3, hn1, hmk⟩) _ _ _ (by simp <;> omega) (by simp [hmx] <;> omega) (by simp <;> omega)
   ·skip
    simp [TB, hk, hk', hyE, hnk, insD, h9]
    refine ATT.callD Tryz.func36 60 (hE) (by simp) (by simp [h9]) (by simp) ?_
    simp [TB, hIK, hge, hgt]
    simp [hIn, hIn2, hv]
    refine ih (k + 1, (if m < n1 then n1 else m), n1) (by first | ((try dsimp only); omega) | (simp [hIn, hIn2, hv, hmx] <;> omega)) (by (try dsimp only); exact ⟨hk, e3, hn1, hmk⟩) _ _ _ (by simp <;> omega) (by simp [hmx] <;> omega) (by simp <;> omega)
  ·have h8 : ¬ (y.1 : Int) = 8 := by omega
   have h9 : ¬ (y.1 : Int) = 9 := by omega
   simp [TB, hk, hk', hyE, hnk, insD]
   refine ATT.callD Tryz.func36 60 (hE) (by simp) (by simp) (by simp) ?_
   simp [TB, hIK, hge, h8, h9]
   simp [hIn, hIn2, hv]
   refine ih (k + 1, (if m < n1 then n1 else m), n1) (by first | ((try dsimp only); omega) | (simp [hIn, hIn2, hv, hmx] <;> omega)) (by (try dsimp only); exact ⟨hk, e3, hn1, hmk⟩) _ _ _ (by simp <;> omega) (by simp [hmx] <;> omega) (by simp <;> omega)
 ·have hk' : ¬ (k : Int) < x.ins.length := by omega
  have hke : k = x.ins.length := by omega
  subst hke
  rw [List.take_length, hx.all] at i2
  simp only [Option.some.injEq] at i2
  subst i2
  simp [TB, hk']
  refine ATT.fin2 hQ Tryz.func36 ?_
  simp
  all_goals (first | omega | exact ⟨_, rfl⟩ | skip)
theorem okS.le {c : CM} {slots : Nat} {x : CU} (h : unOk QA slots c x none) {y : Nat × Nat × Nat} (hy : y ∈ x.ins) : y.1 ≤ 14 := by
 obtain ⟨_, _, i, z, e, hz, hi, hr⟩ := h
 rw [e] at hy
 simp only [List.mem_append, List.mem_singleton] at hy
 rcases hy with hy | rfl
 ·have := hi y hy; omega
 ·omega
theorem unOk.arg {c : CM} {slots : Nat} {x : CU} (h : unOk QA slots c x none) (hl : x.ins.length ≤ 50000) : ∀ y ∈ x.ins, y.1 = 8 ∨ y.1 = 9 → y.2.2 ≤ 100000 := fun y hy h8 => by
 ·obtain ⟨k, hk⟩ := List.getElem?_of_mem hy
  obtain ⟨n, m, e1, e2, e3, e4⟩ := h.uok.at_ k y hk
  have := (stepN_some e2).2.2.2 h8
  have := (List.getElem?_eq_some_iff.1 hk).1
  omega
set_option maxHeartbeats 1000000 in
theorem f37_ok (sel : ByteArray) (c : CM) (hz : szC c ≤ 100000000) (slots : Nat) (y : Nat × Nat × Nat) (ho : okS QA slots c y) (h : y.1 ≤ 14) (hb : y.1 = 8 ∨ y.1 = 9 → y.2.2 ≤ 100000) : DF Tryz.prog 37 [.agg (cdR sel c), insD y, .int .i64 slots] (.bool true) := by
 obtain ⟨op, a, b⟩ := y
 obtain ⟨o1, o2, o3, o4, o5, o6⟩ := ho
 simp only at h hb o1 o2 o3 o4 o5 o6
 have hl1 : c.lits.length ≤ szC c := by unfold szC; omega
 have hl2 : c.names.length ≤ szC c := by unfold szC; omega
 have hl3 : c.sels.length ≤ szC c := by unfold szC; omega
 have hl4 : c.us.length ≤ szC c := by unfold szC; omega
 have ha0 : ¬ (a : Int) < 0 := by omega
 have hb0 : ¬ (b : Int) < 0 := by omega
 unfold cdR insD
 by_cases h89 : op = 8 ∨ op = 9
 ·obtain ⟨t, ht, hA⟩ := o5 h89
  have hE := f60_ok t (by have := hA.2; have := hb h89; omega)
  rw [hA.1] at hE
  have hlt := (List.getElem?_eq_some_iff.1 ht).1
  have hlt' : (a : Int) < c.sels.length := by omega
  have htE : ∀ h, c.sels[a]'h = t := fun h => by rw [List.getElem?_eq_getElem h] at ht; simpa using ht
  have hne : c.sels.isEmpty = false := by cases hu : c.sels with | nil => rw [hu] at hlt; simp at hlt | cons _ _ => rfl
  have hne2 : ¬ c.sels = [] := fun e => by rw [e] at hlt; simp at hlt
  rcases h89 with rfl | rfl
  all_goals
   refine AF.go Tryz.func37 [(15, [oD 19 [(15, [7, 8])]])] fun tb TB Q hQ => ?_
   simp [TB, hlt, hlt', htE, hne, ha0, hb0]
   refine ATT.callRD Tryz.func37 60 (hE) (by simp) (by simp) (by simp) ?_
   simp
   refine ATT.fin2 hQ Tryz.func37 ?_
   simp
   all_goals (first | omega | exact ⟨_, rfl⟩ | skip)
 ·have q1 : op = 0 → (a : Int) < c.lits.length := fun e => by have := o1 e; omega
  have q2 : op = 3 ∨ op = 4 → (a : Int) < slots := fun e => by have := o2 e; omega
  have q3 : op = 5 → (a : Int) < c.names.length := fun e => by have := o3 e; omega
  have q4 : op = 7 → (a : Int) < 3 := fun e => by have := o4 e; omega
  have q6 : op = 10 → (a : Int) < c.us.length := fun e => by have := o6 e; omega
  have hop : op = 0 ∨ op = 1 ∨ op = 2 ∨ op = 3 ∨ op = 4 ∨ op = 5 ∨ op = 6 ∨ op = 7 ∨ op = 10 ∨ op = 11 ∨ op = 12 ∨ op = 13 ∨ op = 14 := by omega
  rcases hop with rfl | rfl | rfl | rfl | rfl | rfl | rfl | rfl | rfl | rfl | rfl | rfl | rfl
  all_goals
   simp at q1 q2 q3 q4 q6
   refine AF.go Tryz.func37 [(15, [oD 19 [(15, [7, 8])]])] fun tb TB Q hQ => ?_
   simp [TB, q1, q2, q3, q4, q6, ha0, hb0]
   refine ATT.fin2 hQ Tryz.func37 ?_
   simp
   all_goals (first | omega | exact ⟨_, rfl⟩ | skip)
set_option maxHeartbeats 1000000 in
theorem f25_ok (sel : ByteArray) (c : CM) (hz : szC c ≤ 50000) (slots : Nat) (x : CU) (hx : unOk QA slots c x none) (hl : x.ins.length ≤ 50000) : DF Tryz.prog 25 [.agg (cdR sel c), unR x, .int .i64 slots] (.bool true) := by
 have hU := f36_ok x hx.uok (by omega)
 have han : (x.a : Int) ≤ x.n := by have := hx.1; omega
 have ha0 : ¬ (x.a : Int) < 0 := by omega
 have han2 : ¬ (x.n : Int) < x.a := by omega
 have hne : ¬ x.ins = [] := hx.uok.ne
 have hne2 : x.ins.isEmpty = false := by cases hu : x.ins with | nil => exact absurd hu hne | cons _ _ => rfl
 have hc : cdR sel c = [.str sel, .sl c.us.isEmpty 3 (c.us.map unR), .sl c.lits.isEmpty 1 (c.lits.map .str), .sl c.names.isEmpty 1 (c.names.map .str), .sl c.sels.isEmpty 1 (c.sels.map .str)] := rfl
 unfold unR at hU
 rw [hne2] at hU
 unfold unR
 rw [hc]
 refine AF.go Tryz.func25 [] fun tb TB Q hQ => ?_
 simp [TB, hne2]
 refine ATT.callE Tryz.func25 60 hU (by simp) (by simp) (by simp) fun v hv => ?_
 obtain ⟨m, e⟩ := hv
 subst e
 simp [TB, hne, han2, ha0]
 refine ATT.loopG 60 rfl (fun (k : Nat) => x.ins.length - k) (fun (k : Nat) => k ≤ x.ins.length) (fun (k : Nat) => [(2, .d (.int .i64 slots)), (3, .ptr 0 0), (4, .ptr 1 0), (44, .d (.sl false 3 (x.ins.map insD))), (45, .d (.int .i64 x.ins.length)), (46, .d (.int .i64 k))]) (fun (k : Nat) => [.cells [.d (.str sel), .d (.sl c.us.isEmpty 3 (c.us.map unR)), .d (.sl c.lits.isEmpty 1 (c.lits.map .str)), .d (.sl c.names.isEmpty 1 (c.names.map .str)), .d (.sl c.sels.isEmpty 1 (c.sels.map .str))] 25, .cells [.d (.int .i64 x.a), .d (.int .i64 x.n), .d (.sl false 3 (x.ins.map insD))] 63]) (fun (k : Nat) => []) (0) (by (try dsimp only); exact Nat.zero_le _) (by simp <;> omega) (by simp) (by simp) ?_
 intro k u w hI ih
 try simp only at hI ih
 by_cases hk : k < x.ins.length
 ·obtain ⟨y, hy⟩ : ∃ y, x.ins[k]? = some y := ⟨_, List.getElem?_eq_getElem hk⟩
  have hym := List.mem_of_getElem? hy
  have hyE : ∀ h, x.ins[k]'h = y := fun h => by rw [List.getElem?_eq_getElem h] at hy; simpa using hy
  have hk' : (k : Int) < x.ins.length := by omega
  have hIK : inI ((k : Int) + 1) = true := inI_of (by omega) (by omega)
  have hIL : inI ((x.ins.length : Int) - 1) = true := inI_of (by omega) (by omega)
  have hN := f37_ok sel c (by omega) slots y (hx.2.1 y hym) (okS.le hx hym) (hx.arg hl y hym)
  have hla := hx.uok.last k y hy
  unfold insD at hN
  rw [hc] at hN
  by_cases hkl : k + 1 = x.ins.length
  ·have hkl' : (k : Int) = (x.ins.length : Int) - 1 := by omega
   rcases hla.2 hkl with h13 | h14
   ·skip
    simp [TB, hk, hk', hyE, hIL, insD, h13, eq_true hkl']
    refine ATT.callD Tryz.func25 60 (hN) (by simp) (by simp [h13]) (by simp) ?_
    simp [TB, hIK]
    refine ih (k + 1) (by first | ((try dsimp only); omega) | (simp [hk, hk', hy, hyE, hIK, hIL, insD, hne, hne2, h13, eq_true hkl'] <;> omega)) (by (try dsimp only); exact hk) _ _ _ (by simp <;> omega) (by simp <;> omega) (by simp <;> omega)
   ·skip
    simp [TB, hk, hk', hyE, hIL, insD, h14, eq_true hkl']
    refine ATT.callD Tryz.func25 60 (hN) (by simp) (by simp [h14]) (by simp) ?_
    simp [TB, hIK]
    refine ih (k + 1) (by first | ((try dsimp only); omega) | (simp [hk, hk', hy, hyE, hIK, hIL, insD, hne, hne2, h14, eq_true hkl'] <;> omega)) (by (try dsimp only); exact hk) _ _ _ (by simp <;> omega) (by simp <;> omega) (by simp <;> omega)
  ·have hkl' : ¬ (k : Int) = (x.ins.length : Int) - 1 := by omega
   have h13 : ¬ (y.1 : Int) = 13 := fun e => hkl (hla.1 (by omega))
   have h14 : ¬ (y.1 : Int) = 14 := fun e => hkl (hla.1 (by omega))
   simp [TB, hk, hk', hyE, hIL, insD, h13, h14, hkl']
   refine ATT.callD Tryz.func25 60 (hN) (by simp) (by simp) (by simp) ?_
   simp [TB, hIK]
   refine ih (k + 1) (by first | ((try dsimp only); omega) | (simp [hk, hk', hy, hyE, hIK, hIL, insD, hne, hne2, h13, h14, hkl'] <;> omega)) (by (try dsimp only); exact hk) _ _ _ (by simp <;> omega) (by simp <;> omega) (by simp <;> omega)
 ·have hk' : ¬ (k : Int) < x.ins.length := by omega
  simp [TB, hk']
  refine ATT.fin2 hQ Tryz.func25 ?_
  simp
  all_goals (first | omega | exact ⟨_, rfl⟩ | skip)
def AllOk (slots : Nat) (c : CM) : Prop := c.us ≠ [] ∧ ∀ (v : Nat) (x : CU), c.us[v]? = some x → unOk QA slots c x none
theorem I2.allOk {slots k : Nat} {c : CM} (h : I2 QA slots (List.replicate (k + 1) none) c) : AllOk slots c := by
 have hl := h.1
 simp at hl
 refine ⟨fun e => by rw [e] at hl; simp at hl, fun v x hx => h.2 v x none hx ?_⟩
 have := (List.getElem?_eq_some_iff.1 hx).1
 rw [List.getElem?_replicate, if_pos (by omega)]
theorem f16_ok (sel : ByteArray) (c : CM) (hz : szC c ≤ 50000) (slots : Nat) (hA : AllOk slots c) : DF Tryz.prog 16 [.agg (cdR sel c), .int .i64 slots] (.int .i64 0) := by
 have hl4 : c.us.length ≤ szC c := by unfold szC; omega
 have hne : ¬ c.us = [] := hA.1
 have hne2 : c.us.isEmpty = false := by cases hu : c.us with | nil => exact absurd hu hne | cons _ _ => rfl
 have hc : cdR sel c = [.str sel, .sl c.us.isEmpty 3 (c.us.map unR), .sl c.lits.isEmpty 1 (c.lits.map .str), .sl c.names.isEmpty 1 (c.names.map .str), .sl c.sels.isEmpty 1 (c.sels.map .str)] := rfl
 rw [hc, hne2]
 refine AF.go Tryz.func16 [] fun tb TB Q hQ => ?_
 simp [TB, hne]
 refine ATT.loopG 60 rfl (fun (i : Nat) => c.us.length - i) (fun (i : Nat) => i ≤ c.us.length) (fun (i : Nat) => [(1, .d (.int .i64 slots)), (2, .ptr 0 0), (12, .d (.sl false 3 (c.us.map unR))), (13, .d (.int .i64 c.us.length)), (14, .d (.int .i64 i))]) (fun (i : Nat) => [.cells [.d (.str sel), .d (.sl false 3 (c.us.map unR)), .d (.sl c.lits.isEmpty 1 (c.lits.map .str)), .d (.sl c.names.isEmpty 1 (c.names.map .str)), .d (.sl c.sels.isEmpty 1 (c.sels.map .str))] 25]) (fun (i : Nat) => []) (0) (by (try dsimp only); exact Nat.zero_le _) (by simp <;> omega) (by simp) (by simp) ?_
 intro i u w hI ih
 try simp only at hI ih
 by_cases hi : i < c.us.length
 ·obtain ⟨x, hx⟩ : ∃ x, c.us[i]? = some x := ⟨_, List.getElem?_eq_getElem hi⟩
  have hxE : ∀ h, c.us[i]'h = x := fun h => by rw [List.getElem?_eq_getElem h] at hx; simpa using hx
  have hi' : (i : Int) < c.us.length := by omega
  have hII : inI ((i : Int) + 1) = true := inI_of (by omega) (by omega)
  have hni : x.ins.length ≤ szC c := szC_at hx
  have hG := f25_ok sel c hz slots x (hA.2 i x hx) (by omega)
  rw [hc, hne2] at hG
  unfold unR at hG
  simp [TB, hi, hi', hxE, unR]
  refine ATT.callD Tryz.func16 60 (hG) (by simp) (by simp [unR]) (by simp) ?_
  simp [TB, hII]
  refine ih (i + 1) (by first | ((try dsimp only); omega) | (simp [hi, hi', hx, hxE, hII, unR, hne, hne2] <;> omega)) (by (try dsimp only); exact hi) _ _ _ (by simp <;> omega) (by simp <;> omega) (by simp <;> omega)
 ·have hi' : ¬ (i : Int) < c.us.length := by omega
  simp [TB, hi']
  refine ATT.fin2 hQ Tryz.func16 ?_
  simp
  all_goals (first | omega | exact ⟨_, rfl⟩ | skip)
end Go.SL
namespace Go.SL
open Go.Proofs
set_option maxRecDepth 10000
def needR (y : Nat × Nat × Nat) : Nat := if y.1 = 0 ∨ y.1 = 1 ∨ y.1 = 3 ∨ y.1 = 5 ∨ y.1 = 6 ∨ y.1 = 7 ∨ y.1 = 10 then 0 else if y.1 = 8 ∨ y.1 = 9 then y.2.2 + 1 else 1
def moreR (y : Nat × Nat × Nat) : Int := if y.1 = 0 ∨ y.1 = 1 ∨ y.1 = 3 ∨ y.1 = 5 ∨ y.1 = 6 ∨ y.1 = 7 ∨ y.1 = 10 then 1 else if y.1 = 2 ∨ y.1 = 4 then 0 else if y.1 = 8 ∨ y.1 = 9 then - (y.2.2 : Int) else if y.1 = 11 then 1 else -1
theorem stepN_ref {y : Nat × Nat × Nat} {n m : Nat} (h : stepN y n = some m) : needR y ≤ n ∧ (m : Int) = n + moreR y := by
 unfold stepN at h
 unfold needR moreR
 split at h
 ·simp only [Option.some.injEq] at h
  rw [if_pos ‹_›, if_pos ‹_›]
  omega
 rename_i h1
 rw [if_neg h1, if_neg h1]
 split at h
 ·split at h <;> simp at h
  rw [if_neg (by omega), if_pos (by omega)]
  omega
 rename_i h2
 rw [if_neg h2]
 split at h
 ·split at h <;> simp at h
  rw [if_pos ‹_›, if_pos ‹_›]
  omega
 rename_i h3
 rw [if_neg h3, if_neg h3]
 split at h
 ·split at h <;> simp at h
  rw [if_pos (by omega)]
  omega
 rename_i h4
 rw [if_neg h4]
 split at h
 ·split at h <;> simp at h
  omega
 ·simp at h
theorem f38_ok (y : Nat × Nat × Nat) (h : y.1 ≤ 14) (hb : y.1 = 8 ∨ y.1 = 9 → y.2.2 ≤ 100000) : DF Tryz.prog 38 [insD y] (.tup [.int .i64 (needR y), .int .i64 (moreR y)]) := by
 obtain ⟨op, a, b⟩ := y
 simp only at h hb
 have hop : op = 0 ∨ op = 1 ∨ op = 2 ∨ op = 3 ∨ op = 4 ∨ op = 5 ∨ op = 6 ∨ op = 7 ∨ op = 8 ∨ op = 9 ∨ op = 10 ∨ op = 11 ∨ op = 12 ∨ op = 13 ∨ op = 14 := by omega
 rcases hop with rfl | rfl | rfl | rfl | rfl | rfl | rfl | rfl | rfl | rfl | rfl | rfl | rfl | rfl | rfl
 case inr.inr.inr.inr.inr.inr.inr.inr.inl | inr.inr.inr.inr.inr.inr.inr.inr.inr.inl =>
  have h1 : ¬ (b : Int) < 0 := by omega
  have hb' := hb (by omega)
  have h2 : ¬ (1099511627776 : Int) < b := by omega
  have h3 : inI ((b : Int) + 1) = true := inI_of (by omega) (by omega)
  have h4 : inI (-(b : Int)) = true := inI_of (by omega) (by omega)
  refine AF.go Tryz.func38 [(17, [oD 8 [(6, [3, 4, 5])]])] fun tb TB Q hQ => ?_
  simp [TB, insD, h1, h2, h3, h4]
  refine ATT.fin2 hQ Tryz.func38 ?_
  simp [needR, moreR]
  all_goals (first | omega | exact ⟨_, rfl⟩ | skip)
 all_goals
  refine AF.go Tryz.func38 [(17, [oD 8 [(6, [3, 4, 5])]])] fun tb TB Q hQ => ?_
  simp [TB, insD]
  refine ATT.fin2 hQ Tryz.func38 ?_
  simp [needR, moreR]
  all_goals (first | omega | exact ⟨_, rfl⟩ | skip)
theorem f26_ok (x : CU) (hx : UOK x.ins) (hb : ∀ y ∈ x.ins, y.1 = 8 ∨ y.1 = 9 → y.2.2 ≤ 100000) (hl : x.ins.length ≤ 100000000) : DE Tryz.prog 26 [unR x] fun v => ∃ m : Nat, v = .tup [.int .i64 m, .int .i64 0] := by
 unfold unR
 refine AF.go Tryz.func26 [] fun tb TB Q hQ => ?_
 simp [TB]
 refine ATT.loopG 60 rfl (fun ((k, m, n) : Nat × Nat × Nat) => x.ins.length - k) (fun ((k, m, n) : Nat × Nat × Nat) => k ≤ x.ins.length ∧ runN (x.ins.take k) 0 = some n ∧ n ≤ k ∧ m ≤ k) (fun ((k, m, n) : Nat × Nat × Nat) => [(1, .ptr 0 0), (4, .d (.int .i64 m)), (5, .d (.int .i64 n)), (6, .d (.int .i64 k))]) (fun ((k, m, n) : Nat × Nat × Nat) => [.cells [.d (.int .i64 x.a), .d (.int .i64 x.n), .d (.sl x.ins.isEmpty 3 (x.ins.map insD))] 41]) (fun ((k, m, n) : Nat × Nat × Nat) => []) ((0, 0, 0)) (by (try dsimp only); exact ⟨Nat.zero_le _, rfl, Nat.le_refl _, Nat.le_refl _⟩) (by simp <;> omega) (by simp) (by simp) ?_
 intro ⟨k, m, n⟩ u w hI ih
 try simp only at hI ih
 obtain ⟨i1, i2, i3, i4⟩ := hI
 by_cases hk : k < x.ins.length
 ·obtain ⟨y, hy⟩ : ∃ y, x.ins[k]? = some y := ⟨_, List.getElem?_eq_getElem hk⟩
  have hyE : ∀ h, x.ins[k]'h = y := fun h => by rw [List.getElem?_eq_getElem h] at hy; simpa using hy
  have hk' : (k : Int) < x.ins.length := by omega
  have hnk : x.ins.isEmpty = false := by cases hu : x.ins with | nil => rw [hu] at hk; simp at hk | cons _ _ => rfl
  have hnk2 : ¬ x.ins = [] := fun e => by rw [e] at hk; simp at hk
  have hIK : inI ((k : Int) + 1) = true := inI_of (by omega) (by omega)
  obtain ⟨n0, n1, e1, e2, e3, e4⟩ := hx.at_ k y hy
  rw [i2] at e1
  simp only [Option.some.injEq] at e1
  subst e1
  have s1 := (stepN_some e2).1
  obtain ⟨s2, s3⟩ := stepN_ref e2
  have hE := f38_ok y s1 (hb y (List.mem_of_getElem? hy))
  have hn1 : n1 ≤ k + 1 := by
   have := runN_le e3
   simp only [List.length_take] at this
   omega
  have hIn2 : inI (n1 : Int) = true := inI_of (by omega) (by omega)
  have hge : ¬ (n : Int) < needR y := by omega
  simp only [insD] at hE
  by_cases hmx : m < n1
  ·have hmx' : (m : Int) < n1 := by omega
   simp [TB, hk, hk', hyE, hnk, insD]
   refine ATT.callD Tryz.func26 60 (hE) (by simp) (by simp) (by simp) ?_
   simp [TB, hge]
   simp [TB, hIn2, s3.symm, hmx']
   refine ih (k + 1, n1, n1) (by first | ((try dsimp only); omega) | (simp [hk, hk', hy, hyE, hIK, hnk, insD, hnk2] <;> omega)) (by (try dsimp only); exact ⟨hk, e3, hn1, hn1⟩) _ _ _ (by simp [hIK] <;> omega) (by simp <;> omega) (by simp [hnk] <;> omega)
  ·have hmx' : ¬ (m : Int) < n1 := by omega
   simp [TB, hk, hk', hyE, hnk, insD]
   refine ATT.callD Tryz.func26 60 (hE) (by simp) (by simp) (by simp) ?_
   simp [TB, hge]
   simp [TB, hIn2, s3.symm, hmx']
   refine ih (k + 1, m, n1) (by first | ((try dsimp only); omega) | (simp [hk, hk', hy, hyE, hIK, hnk, insD, hnk2] <;> omega)) (by (try dsimp only); exact ⟨hk, e3, hn1, by omega⟩) _ _ _ (by simp [hIK] <;> omega) (by simp <;> omega) (by simp [hnk] <;> omega)
 ·have hk' : ¬ (k : Int) < x.ins.length := by omega
  have hke : k = x.ins.length := by omega
  subst hke
  rw [List.take_length, hx.all] at i2
  simp only [Option.some.injEq] at i2
  subst i2
  simp [TB, hk']
  refine ATT.fin2 hQ Tryz.func26 ?_
  simp
  all_goals (first | omega | exact ⟨_, rfl⟩ | skip)
theorem f39_ok (a n : Nat) (h : a < n) : DF Tryz.prog 39 [.int .i64 a, .int .i64 n] (.bool true) := by
 have h' : (a : Int) < n := by omega
 have ha0 : ¬ (a : Int) < 0 := by omega
 refine AF.go Tryz.func39 [] fun tb TB Q hQ => ?_
 simp [TB, h']
 refine ATT.fin2 hQ Tryz.func39 ?_
 simp
 all_goals (first | omega | exact ⟨_, rfl⟩ | skip)
set_option maxHeartbeats 1000000 in
theorem f27_ok (sel : ByteArray) (c : CM) (hz : szC c ≤ 100000000) (slots : Nat) (y : Nat × Nat × Nat) (ho : okS QA slots c y) (h : y.1 ≤ 14) (hb : y.1 = 8 ∨ y.1 = 9 → y.2.2 ≤ 100000) : DF Tryz.prog 27 [.agg (cdR sel c), insD y, .int .i64 slots] (.bool true) := by
 obtain ⟨op, a, b⟩ := y
 obtain ⟨o1, o2, o3, o4, o5, o6⟩ := ho
 simp only at h hb o1 o2 o3 o4 o5 o6
 have hl1 : c.lits.length ≤ szC c := by unfold szC; omega
 have hl2 : c.names.length ≤ szC c := by unfold szC; omega
 have hl3 : c.sels.length ≤ szC c := by unfold szC; omega
 have hl4 : c.us.length ≤ szC c := by unfold szC; omega
 have ha0 : ¬ (a : Int) < 0 := by omega
 have hb0 : ¬ (b : Int) < 0 := by omega
 unfold cdR insD
 by_cases h89 : op = 8 ∨ op = 9
 ·obtain ⟨t, ht, hA⟩ := o5 h89
  have hE := f40_ok t (by have := hA.2; have := hb h89; omega)
  rw [hA.1] at hE
  have hlt := (List.getElem?_eq_some_iff.1 ht).1
  have hlt' : (a : Int) < c.sels.length := by omega
  have htE : ∀ h, c.sels[a]'h = t := fun h => by rw [List.getElem?_eq_getElem h] at ht; simpa using ht
  have hne : c.sels.isEmpty = false := by cases hu : c.sels with | nil => rw [hu] at hlt; simp at hlt | cons _ _ => rfl
  have hne2 : ¬ c.sels = [] := fun e => by rw [e] at hlt; simp at hlt
  rcases h89 with rfl | rfl
  all_goals
   refine AF.go Tryz.func27 [(15, [oD 19 [(15, [7, 8])]])] fun tb TB Q hQ => ?_
   simp [TB, hne, ha0, hb0]
   refine ATT.callRD Tryz.func27 60 (f39_ok a c.sels.length hlt) (by simp) (by simp) (by simp) ?_
   simp [hlt, htE]
   refine ATT.callRD Tryz.func27 60 (hE) (by simp) (by simp) (by simp) ?_
   simp
   refine ATT.fin2 hQ Tryz.func27 ?_
   simp
   all_goals (first | omega | exact ⟨_, rfl⟩ | skip)
 ·have hop : op = 0 ∨ op = 3 ∨ op = 4 ∨ op = 5 ∨ op = 7 ∨ op = 10 ∨ op = 1 ∨ op = 2 ∨ op = 6 ∨ op = 11 ∨ op = 12 ∨ op = 13 ∨ op = 14 := by omega
  rcases hop with rfl | rfl | rfl | rfl | rfl | rfl | rfl | rfl | rfl | rfl | rfl | rfl | rfl
  ·skip
   refine AF.go Tryz.func27 [(15, [oD 19 [(15, [7, 8])]])] fun tb TB Q hQ => ?_
   simp [TB, ha0, hb0]
   refine ATT.callD Tryz.func27 60 (f39_ok a c.lits.length (o1 rfl)) (by simp) (by simp) (by simp) ?_
   simp
   refine ATT.fin2 hQ Tryz.func27 ?_
   simp
   all_goals (first | omega | exact ⟨_, rfl⟩ | skip)
  ·skip
   refine AF.go Tryz.func27 [(15, [oD 19 [(15, [7, 8])]])] fun tb TB Q hQ => ?_
   simp [TB, ha0, hb0]
   refine ATT.callD Tryz.func27 60 (f39_ok a slots (o2 (by omega))) (by simp) (by simp) (by simp) ?_
   simp
   refine ATT.fin2 hQ Tryz.func27 ?_
   simp
   all_goals (first | omega | exact ⟨_, rfl⟩ | skip)
  ·skip
   refine AF.go Tryz.func27 [(15, [oD 19 [(15, [7, 8])]])] fun tb TB Q hQ => ?_
   simp [TB, ha0, hb0]
   refine ATT.callD Tryz.func27 60 (f39_ok a slots (o2 (by omega))) (by simp) (by simp) (by simp) ?_
   simp
   refine ATT.fin2 hQ Tryz.func27 ?_
   simp
   all_goals (first | omega | exact ⟨_, rfl⟩ | skip)
  ·skip
   refine AF.go Tryz.func27 [(15, [oD 19 [(15, [7, 8])]])] fun tb TB Q hQ => ?_
   simp [TB, ha0, hb0]
   refine ATT.callD Tryz.func27 60 (f39_ok a c.names.length (o3 rfl)) (by simp) (by simp) (by simp) ?_
   simp
   refine ATT.fin2 hQ Tryz.func27 ?_
   simp
   all_goals (first | omega | exact ⟨_, rfl⟩ | skip)
  ·skip
   refine AF.go Tryz.func27 [(15, [oD 19 [(15, [7, 8])]])] fun tb TB Q hQ => ?_
   simp [TB, ha0, hb0]
   refine ATT.callD Tryz.func27 60 (f39_ok a 3 (o4 rfl)) (by simp) (by simp) (by simp) ?_
   simp
   refine ATT.fin2 hQ Tryz.func27 ?_
   simp
   all_goals (first | omega | exact ⟨_, rfl⟩ | skip)
  ·skip
   refine AF.go Tryz.func27 [(15, [oD 19 [(15, [7, 8])]])] fun tb TB Q hQ => ?_
   simp [TB, ha0, hb0]
   refine ATT.callD Tryz.func27 60 (f39_ok a c.us.length (o6 rfl)) (by simp) (by simp) (by simp) ?_
   simp
   refine ATT.fin2 hQ Tryz.func27 ?_
   simp
   all_goals (first | omega | exact ⟨_, rfl⟩ | skip)
  all_goals
   refine AF.go Tryz.func27 [(15, [oD 19 [(15, [7, 8])]])] fun tb TB Q hQ => ?_
   simp [TB, ha0, hb0]
   refine ATT.fin2 hQ Tryz.func27 ?_
   simp
   all_goals (first | omega | exact ⟨_, rfl⟩ | skip)
set_option maxHeartbeats 2000000 in
theorem f17_ok (sel : ByteArray) (c : CM) (hz : szC c ≤ 50000) (slots : Nat) (hA : AllOk slots c) : DF Tryz.prog 17 [.agg (cdR sel c), .int .i64 slots] (.int .i64 0) := by
 have hl4 : c.us.length ≤ szC c := by unfold szC; omega
 have hne : ¬ c.us = [] := hA.1
 have hne2 : c.us.isEmpty = false := by cases hu : c.us with | nil => exact absurd hu hne | cons _ _ => rfl
 have hpos : 0 < c.us.length := List.length_pos_iff.2 hA.1
 have hc : cdR sel c = [.str sel, .sl c.us.isEmpty 3 (c.us.map unR), .sl c.lits.isEmpty 1 (c.lits.map .str), .sl c.names.isEmpty 1 (c.names.map .str), .sl c.sels.isEmpty 1 (c.sels.map .str)] := rfl
 rw [hc, hne2]
 refine AF.go Tryz.func17 [(12, [oD 22 []])] fun tb TB Q hQ => ?_
 simp [TB, hpos]
 refine ATT.loopG 60 rfl (fun (i : Nat) => c.us.length - i) (fun (i : Nat) => i ≤ c.us.length) (fun (i : Nat) => [(1, .d (.int .i64 slots)), (2, .ptr 0 0), (5, .d (.bool true)), (6, .d (.int .i64 i))]) (fun (i : Nat) => [.cells [.d (.str sel), .d (.sl false 3 (c.us.map unR)), .d (.sl c.lits.isEmpty 1 (c.lits.map .str)), .d (.sl c.names.isEmpty 1 (c.names.map .str)), .d (.sl c.sels.isEmpty 1 (c.sels.map .str))] 31]) (fun (i : Nat) => []) (0) (by (try dsimp only); exact Nat.zero_le _) (by simp <;> omega) (by simp) (by simp) ?_
 intro i u w hI ih
 try simp only at hI ih
 by_cases hi : i < c.us.length
 ·obtain ⟨x, hx⟩ : ∃ x, c.us[i]? = some x := ⟨_, List.getElem?_eq_getElem hi⟩
  have hxE : ∀ h, c.us[i]'h = x := fun h => by rw [List.getElem?_eq_getElem h] at hx; simpa using hx
  have hi' : (i : Int) < c.us.length := by omega
  have hII : inI ((i : Int) + 1) = true := inI_of (by omega) (by omega)
  have hni : x.ins.length ≤ szC c := szC_at hx
  have hU := hA.2 i x hx
  have hG := f26_ok x hU.uok (hU.arg (by omega)) (by omega)
  have hnx : ¬ x.ins = [] := hU.uok.ne
  have hnx2 : x.ins.isEmpty = false := by cases hu : x.ins with | nil => exact absurd hu hnx | cons _ _ => rfl
  have hxp : 0 < x.ins.length := List.length_pos_iff.2 hnx
  have han : x.a ≤ x.n := hU.1
  unfold unR at hG
  rw [hnx2] at hG
  simp [TB, hi, hi', hxE, unR, hnx2]
  refine ATT.callE Tryz.func17 60 hG (by simp) (by simp) (by simp) fun v hv => ?_
  obtain ⟨m, e⟩ := hv
  subst e
  simp [TB, han, hxp]
  refine ATT.loopG 60 rfl (fun (k : Nat) => x.ins.length - k) (fun (k : Nat) => k ≤ x.ins.length) (fun (k : Nat) => [(1, .d (.int .i64 slots)), (2, .ptr 0 0), (5, .d (.bool true)), (6, .d (.int .i64 i)), (7, .ptr (u.length + 1) 0), (10, .d (.int .i64 k))]) (fun (k : Nat) => .cells [.d (.str sel), .d (.sl false 3 (c.us.map unR)), .d (.sl c.lits.isEmpty 1 (c.lits.map .str)), .d (.sl c.names.isEmpty 1 (c.names.map .str)), .d (.sl c.sels.isEmpty 1 (c.sels.map .str))] 31 :: (u ++ [.cells [.d (.int .i64 x.a), .d (.int .i64 x.n), .d (.sl false 3 (x.ins.map insD))] 41])) (fun (k : Nat) => w) (0) (by (try dsimp only); exact Nat.zero_le _) (by simp <;> omega) (by simp) (by simp) ?_
  intro k u w hI ih
  try simp only at hI ih
  rename_i u0 w0 hI0 ih0
  by_cases hk : k < x.ins.length
  ·obtain ⟨y, hy⟩ : ∃ y, x.ins[k]? = some y := ⟨_, List.getElem?_eq_getElem hk⟩
   have hym := List.mem_of_getElem? hy
   have hyE : ∀ h, x.ins[k]'h = y := fun h => by rw [List.getElem?_eq_getElem h] at hy; simpa using hy
   have hk' : (k : Int) < x.ins.length := by omega
   have hIK : inI ((k : Int) + 1) = true := inI_of (by omega) (by omega)
   have hIL : inI ((x.ins.length : Int) - 1) = true := inI_of (by omega) (by omega)
   have hN := f27_ok sel c (by omega) slots y (hU.2.1 y hym) (okS.le hU hym) (hU.arg (by omega) y hym)
   have hla := hU.uok.last k y hy
   unfold insD at hN
   rw [hc, hne2] at hN
   by_cases hkl : k + 1 = x.ins.length
   ·have hkl' : (k : Int) = (x.ins.length : Int) - 1 := by omega
    rcases hla.2 hkl with h13 | h14
    ·skip
     simp [TB, hk, hk', hyE, hIL, insD, h13, eq_true hkl']
     refine ATT.callRD Tryz.func17 60 (hN) (by simp) (by simp [h13]) (by simp) ?_
     simp [TB, hIK]
     refine ih (k + 1) (by first | ((try dsimp only); omega) | (simp [hk, hk', hy, hyE, hIK, hIL, insD, hnx, hnx2, hne, hne2, h13, eq_true hkl'] <;> omega)) (by (try dsimp only); exact hk) _ _ _ (by simp <;> omega) (by simp <;> omega) (by simp <;> omega)
    ·skip
     simp [TB, hk, hk', hyE, hIL, insD, h14, eq_true hkl']
     refine ATT.callRD Tryz.func17 60 (hN) (by simp) (by simp [h14]) (by simp) ?_
     simp [TB, hIK]
     refine ih (k + 1) (by first | ((try dsimp only); omega) | (simp [hk, hk', hy, hyE, hIK, hIL, insD, hnx, hnx2, hne, hne2, h14, eq_true hkl'] <;> omega)) (by (try dsimp only); exact hk) _ _ _ (by simp <;> omega) (by simp <;> omega) (by simp <;> omega)
   ·have hkl' : ¬ (k : Int) = (x.ins.length : Int) - 1 := by omega
    have h13 : ¬ (y.1 : Int) = 13 := fun e => hkl (hla.1 (by omega))
    have h14 : ¬ (y.1 : Int) = 14 := fun e => hkl (hla.1 (by omega))
    simp [TB, hk, hk', hyE, hIL, insD, h13, h14, hkl']
    refine ATT.callRD Tryz.func17 60 (hN) (by simp) (by simp) (by simp) ?_
    simp [TB, hIK]
    refine ih (k + 1) (by first | ((try dsimp only); omega) | (simp [hk, hk', hy, hyE, hIK, hIL, insD, hnx, hnx2, hne, hne2, h13, h14, hkl'] <;> omega)) (by (try dsimp only); exact hk) _ _ _ (by simp <;> omega) (by simp <;> omega) (by simp <;> omega)
  ·have hk' : ¬ (k : Int) < x.ins.length := by omega
   simp [TB, hk', hII]
   refine ih0 (i + 1) (by first | ((try dsimp only); omega) | (simp [hi, hi', hx, hxE, hk', hII, unR, hne, hne2] <;> omega)) (by (try dsimp only); exact hi) _ _ _ (by simp <;> omega) (by simp <;> omega) (by simp <;> omega)
 ·have hi' : ¬ (i : Int) < c.us.length := by omega
  simp [TB, hi']
  refine ATT.fin2 hQ Tryz.func17 ?_
  simp
  all_goals (first | omega | exact ⟨_, rfl⟩ | skip)
end Go.SL
namespace Go.SL
open Go.Proofs
set_option maxRecDepth 10000
theorem code_good {num : ByteArray → Bool} {sl : List ByteArray} {m : Bool} {s sel : ByteArray} {c : CM} (h : codeD num sl m s = .inl (sel, c)) : AllOk sl.length c ∧ szC c ≤ 50000 := by
 obtain ⟨_, ⟨k, i2⟩, hz⟩ := code_facts h
 exact ⟨i2.allOk, hz⟩
theorem same_zero : DF Tryz.prog 9 [.agg [.str ⟨#[]⟩, .sl true 3 [], .sl true 1 [], .sl true 1 [], .sl true 1 []], .agg [.str ⟨#[]⟩, .sl true 0 [], .sl true 0 [], .sl true 0 [], .sl true 0 []]] (.bool true) :=
 (f9_ok ⟨#[]⟩ c0 (by decide)).smA zero_sm
set_option maxHeartbeats 4000000 in
theorem f6_ok (s : ByteArray) (hs : s.size ≤ 1048576) (m : Bool) {sl : List ByteArray} (hsl : sl.length ≤ 1048576) {snl : Bool} {sz : Nat} (hs1 : snl = true → sl = []) (hs2 : snl = false → sz = 1) : DF Tryz.prog 6 [.str s, .bool m, .sl snl sz (sl.map .str)] (.bool true) := by
 have hC1 := compile_ok hWhole s (by omega) hsl hs1 hs2
 have hC2 := method_ok hWhole s (by omega) hsl hs1 hs2
 cases m with
 | false =>
  have hC := hC1
  cases hr : codeD numS sl false s with
  | inr a =>
   have hw : ¬ a.2 = 0 := codeD_why hr
   have hT := f10_ok ⟨#[]⟩ c0 (by decide)
   rw [hr] at hC
   simp only [coV, selO, codeO, atO, errO, cdR] at hC
   simp only [cdR, c0, List.isEmpty_nil, List.map_nil] at hC hT
   refine AF.go Tryz.func6 [] fun tb TB Q hQ => ?_
   simp [TB]
   refine ATT.callD Tryz.func6 60 (hC) (by simp) (by simp) (by simp) ?_
   simp [TB, hw]
   refine ATT.callD Tryz.func6 60 (hT) (by simp) (by simp) (by simp) ?_
   simp
   refine ATT.callD Tryz.func6 60 (same_zero) (by simp) (by simp) (by simp) ?_
   simp
   refine ATT.callD Tryz.func6 60 (f11_ok) (by simp) (by simp) (by simp) ?_
   simp
   refine ATT.fin2 hQ Tryz.func6 ?_
   simp
   all_goals (first | omega | exact ⟨_, rfl⟩ | skip)
  | inl cc =>
   obtain ⟨sel, c⟩ := cc
   obtain ⟨hA, hz⟩ := code_good hr
   have hT := f10_ok sel c (by omega)
   have hK := f16_ok sel c hz sl.length hA
   have hK2 := f17_ok sel c hz sl.length hA
   have hus : 0 < c.us.length := List.length_pos_iff.2 hA.1
   rw [hr] at hC
   simp only [coV, selO, codeO, atO, errO, cdR] at hC
   simp only [cdR] at hT hK hK2
   refine AF.go Tryz.func6 [] fun tb TB Q hQ => ?_
   simp [TB]
   refine ATT.callD Tryz.func6 60 (hC) (by simp) (by simp) (by simp) ?_
   simp [TB]
   refine ATT.callD Tryz.func6 60 (hK) (by simp) (by simp) (by simp) ?_
   simp
   refine ATT.callD Tryz.func6 60 (hT) (by simp) (by simp) (by simp) ?_
   simp
   refine ATT.callD Tryz.func6 60 (hK2) (by simp) (by simp) (by simp) ?_
   simp [hus]
   refine ATT.callD Tryz.func6 60 (f11_ok) (by simp) (by simp) (by simp) ?_
   simp
   refine ATT.fin2 hQ Tryz.func6 ?_
   simp
   all_goals (first | omega | exact ⟨_, rfl⟩ | skip)
 | true =>
  generalize codeD numS sl false s = r1 at hC1
  simp only [coV, cdR] at hC1
  have hC := hC2
  cases hr : codeD numS sl true s with
  | inr a =>
   have hw : ¬ a.2 = 0 := codeD_why hr
   have hT := f10_ok ⟨#[]⟩ c0 (by decide)
   rw [hr] at hC
   simp only [coV, selO, codeO, atO, errO, cdR] at hC
   simp only [cdR, c0, List.isEmpty_nil, List.map_nil] at hC hT
   refine AF.go Tryz.func6 [] fun tb TB Q hQ => ?_
   simp [TB]
   refine ATT.callD Tryz.func6 60 (hC1) (by simp) (by simp) (by simp) ?_
   simp [TB]
   refine ATT.callD Tryz.func6 60 (hC) (by simp) (by simp) (by simp) ?_
   simp [TB, hw]
   refine ATT.callD Tryz.func6 60 (hT) (by simp) (by simp) (by simp) ?_
   simp
   refine ATT.callD Tryz.func6 60 (same_zero) (by simp) (by simp) (by simp) ?_
   simp
   refine ATT.callD Tryz.func6 60 (f11_ok) (by simp) (by simp) (by simp) ?_
   simp
   refine ATT.fin2 hQ Tryz.func6 ?_
   simp
   all_goals (first | omega | exact ⟨_, rfl⟩ | skip)
  | inl cc =>
   obtain ⟨sel, c⟩ := cc
   obtain ⟨hA, hz⟩ := code_good hr
   have hT := f10_ok sel c (by omega)
   have hK := f16_ok sel c hz sl.length hA
   have hK2 := f17_ok sel c hz sl.length hA
   have hus : 0 < c.us.length := List.length_pos_iff.2 hA.1
   rw [hr] at hC
   simp only [coV, selO, codeO, atO, errO, cdR] at hC
   simp only [cdR] at hT hK hK2
   refine AF.go Tryz.func6 [] fun tb TB Q hQ => ?_
   simp [TB]
   refine ATT.callD Tryz.func6 60 (hC1) (by simp) (by simp) (by simp) ?_
   simp [TB]
   refine ATT.callD Tryz.func6 60 (hC) (by simp) (by simp) (by simp) ?_
   simp [TB]
   refine ATT.callD Tryz.func6 60 (hK) (by simp) (by simp) (by simp) ?_
   simp
   refine ATT.callD Tryz.func6 60 (hT) (by simp) (by simp) (by simp) ?_
   simp
   refine ATT.callD Tryz.func6 60 (hK2) (by simp) (by simp) (by simp) ?_
   simp [hus]
   refine ATT.callD Tryz.func6 60 (f11_ok) (by simp) (by simp) (by simp) ?_
   simp
   refine ATT.fin2 hQ Tryz.func6 ?_
   simp
   all_goals (first | omega | exact ⟨_, rfl⟩ | skip)
end Go.SL
namespace Go.Proofs.YtbkdobainphhdaaGreatDoor
open Go.ChangeShapes Go.WideShapes Go.ChangeAt Go.RowKit Go.ChangeMaps
namespace codeGood
theorem bulk_strs {H : Type} : ∀ l : List ByteArray, l.length ≤ Rows.uptoBulkAll (strs (H := H) l)
 | [] => Nat.zero_le _
 | x :: r => by
  have := bulk_strs (H := H) r
  simp only [strs, List.map_cons, Rows.uptoBulkAll, Rows.uptoBulk, List.length_cons] at this ⊢
  omega
theorem own : ownKnob Tryz.prog.godebug = none := by kernel_rfl
set_option maxRecDepth 100000 in
theorem contract (law : ∀ (s : ByteArray) (m : Bool) (sl : List ByteArray) (snl : Bool), s.size ≤ 1048576 → sl.length ≤ 1048576 → (snl = true → sl = []) → SL.DF Tryz.prog 6 [.str s, .bool m, .sl snl 1 (sl.map .str)] (.bool true)) (H : Type) (enc : TypeId × Value → H) (W : World) (base : Nat) (args : Array Value) (ds gs : List (DataW H)) (before : List MemPlace)
  (hval : ∀ (j : Nat) t v, Tryz.f6.params[j]? = some t → args[j]? = some v → Value.okWide Tryz.prog W .any base t v)
  (hW : DataW.Whole enc Tryz.prog Tryz.f6.params.toList Rows.codeGoodSpec.vars false W args.toList ds gs before) (hk : Rows.uptoSmall H (ds ++ gs) = true) (hsh : W.ShapedOpen Tryz.prog) :
  Calls Tryz.prog 6 args W fun e W' => ∃ v, e = .returned v ∧ Rows.codeGoodSpec.post enc Tryz.prog Tryz.f6 false true false false W args v W' := by
 have hW' := hW
 obtain ⟨p, q, hA0, hV, rfl, hfz, hnd⟩ := hW
 have hA : DataW.TrodAll enc Tryz.prog W 0 (fun _ => true) true Tryz.f6.params.toList args.toList ds p := hA0
 rw [Tryz.params6] at hA hval
 obtain ⟨v0, vs0, d0, ds0, p0, q0, hargs, rfl, rfl, h0, r0⟩ := trodAll_cons hA
 obtain ⟨v2, vs2, d2, ds2, p2, q2, rfl, rfl, rfl, h2, r2⟩ := trodAll_cons r0
 obtain ⟨v1, vs1, d1, ds1, p1, q1, rfl, rfl, rfl, h1, r1⟩ := trodAll_cons r2
 obtain ⟨rfl, rfl, rfl⟩ := trodAll_nil r1
 obtain rfl : args = #[v0, v2, v1] := by cases args; simp_all
 obtain ⟨rfl, rfl⟩ := trodVars_none hV
 have hmx : SL.Mx W := SL.Mx.of (t := 3) hsh (of_decide_eq_true (by kernel_rfl)) (zero := #[.int .i64 0]) (by kernel_rfl) rfl (by kernel_rfl) (by kernel_rfl) Tryz.underlying3
 obtain ⟨s, rfl, rfl, rfl, hs⟩ := open_string Tryz.underlying9 (hval 0 9 v0 (by simp) (by simp)) h0
 obtain ⟨m, rfl, rfl, rfl⟩ := open_bool Tryz.underlying4 (hval 1 4 v2 (by simp) (by simp)) h2
 obtain ⟨sl, snl, rest, hvr, hsn, hd⟩ := SL.open_slots hmx Tryz.underlying22 Tryz.underlying9 (by kernel_rfl) (hval 2 22 v1 (by simp) (by simp)) h1
 clear hA0
 have hb : s.size ≤ 1048576 ∧ sl.length ≤ 1048576 := by
  have e : s.data.toList.length = s.size := rfl
  have hl := bulk_strs (H := H) sl
  have e2 : s.data.toList.length + 1 + (1 + Rows.uptoBulk d1) ≤ 1048576 := by simpa [Rows.uptoSmall, Rows.uptoBulkAll, Rows.uptoBulk] using hk
  rw [e] at e2
  rcases hd with ⟨rfl, rfl⟩ | rfl
  ·exact ⟨by omega, by simp⟩
  ·simp only [Rows.uptoBulk] at e2
   exact ⟨by omega, by omega⟩
 refine ((law s m sl snl hb.1 hb.2 hsn).world hmx (argv := [.string s, .bool m, v1]) (by simp only [List.map_cons, List.map_nil, SL.VL, SL.VR, SL.DR]; exact ⟨_, _, rfl, rfl, _, _, rfl, rfl, _, _, rfl, hvr, rfl⟩)).mono fun e W' ⟨he, hB⟩ => ?_
 subst he
 simp only [List.append_nil] at hW'
 have hlt : ∀ x ∈ p1, x.block < W.heap.size := fun x hx => by simpa using hW'.lt x (by simp [hx])
 exact ⟨_, rfl, SL.post_kept hW' (fun _ _ _ => trodAll_cons_mk (SL.shut_boolP Tryz.underlying4 _) trodAll_mk0) (fun sp hsp => trodAll_cons_mk (SL.shut_stringP Tryz.underlying9 hs) (trodAll_cons_mk (SL.shut_boolP Tryz.underlying4 _) (trodAll_cons_mk (WideElems.Trod_stays (by kernel_rfl) (by kernel_rfl) (by decide +kernel) h1 (fun x hx => hB.same (hlt x hx)) (fun x hx => hsp x (by simp [hx]))) trodAll_mk0))) (fun _ _ => rfl) (by simp) hB (ok_one (by kernel_rfl) rfl (okWide_bool_mk Tryz.underlying4 _))⟩
theorem laid_met (os : Os) : laidMetH Tryz.prog Rows.codeGoodUptoRow.laid ((World.laidAll Tryz.prog os Rows.codeGoodUptoRow.laid).forCall (fun _ _ => 0) ⟨#[], #[.string ⟨#[]⟩, .bool false, .slice none 0 0], []⟩).memory := by
 rw [MakeChecks.laidMetH_plain _ _ _ (by kernel_rfl)]
 exact laidMet_laidAll _ (by kernel_rfl) (by kernel_rfl)
theorem reads (os : Os) {H : Type} (enc : TypeId × Value → H) : ∃ places, DataW.whole enc Tryz.prog ((World.laidAll Tryz.prog os Rows.codeGoodUptoRow.laid).forCall (fun _ _ => 0) ⟨#[], #[.string ⟨#[]⟩, .bool false, .slice none 0 0], []⟩).memory Tryz.f6.params.toList Rows.codeGoodSpec.vars false #[Value.string ⟨#[]⟩, .bool false, .slice none 0 0].toList 8 = some ([.lit (.string []), .lit (.bool false), .nil], [], places) :=
 ⟨[], by kernel_rfl⟩
set_option maxRecDepth 100000 in
theorem lifted (law : ∀ (s : ByteArray) (m : Bool) (sl : List ByteArray) (snl : Bool), s.size ≤ 1048576 → sl.length ≤ 1048576 → (snl = true → sl = []) → SL.DF Tryz.prog 6 [.str s, .bool m, .sl snl 1 (sl.map .str)] (.bool true)) (os : Os) (started : os.Started) (H : Type) (enc : TypeId × Value → H) (F : Stop.Interp) :
  ReturnsInHanded {} Tryz.checked os 6 .any ((Rows.OpenSpec.upto Rows.codeGoodSpec).preRow enc Tryz.prog Tryz.f6 Rows.codeGoodUptoRow.domain false Rows.codeGoodUptoRow.laid) (((Rows.OpenSpec.upto Rows.codeGoodSpec).at F).post enc Tryz.prog Tryz.f6 false true false false) := by
 obtain ⟨places, hx⟩ := reads os enc
 refine returnsInHanded_of_row (C := Tryz.checked) (s := Rows.OpenSpec.upto Rows.codeGoodSpec) own started (by kernel_rfl) Tryz.func6
  (witness_row_at (enc := enc) (C := Tryz.checked) false (World.laidAll Tryz.prog os Rows.codeGoodUptoRow.laid) #[.string ⟨#[]⟩, .bool false, .slice none 0 0] (World.laidAll_os _ _ _) (by kernel_rfl) (by kernel_rfl) (by kernel_rfl)
   (OpenSpec.preRow_of_cond 8 hx (by kernel_rfl) (fun k hk => by cases hk; kernel_rfl) (by kernel_rfl) (laid_met os))) ?_
 intro W base args ds gs before hval hW _ hcond _ _ hsh _
 exact contract law H enc W base args ds gs before hval hW (hcond _ rfl) hsh
theorem saidUpto (law : ∀ (s : ByteArray) (m : Bool) (sl : List ByteArray) (snl : Bool), s.size ≤ 1048576 → sl.length ≤ 1048576 → (snl = true → sl = []) → SL.DF Tryz.prog 6 [.str s, .bool m, .sl snl 1 (sl.map .str)] (.bool true)) : Rows.CodeGoodUptoSaid :=
 OpenClaim.holds_of_cond 6 Tryz.f6 rfl rfl rfl rfl rfl rfl rfl ⟨rfl, rfl, rfl, rfl, rfl⟩ rfl rfl rfl rfl rfl (by kernel_rfl) Tryz.func6 (by kernel_rfl)
  (of_decide_eq_true (by kernel_rfl)) (by unfold Func.isWrapper; first | (rw [if_pos (by decide +kernel)]; kernel_rfl) | (rw [if_neg (by decide +kernel)]; exact ⟨rfl, rfl⟩))
  (fun os started H enc _ F => by rw [OpenClaim.pre_eq_preRow]; exact lifted law os started H enc F)
theorem plain (f : FuncId) (fn : Func) (hf : Tryz.pinned.checked.prog.funcNamed "lapidary/lapidarylaw10.CodeGood" = some f) (hfn : Tryz.pinned.checked.prog.funcs[f]? = some fn) :
  true = Tryz.pinned.checked.prog.looks [] ∧ ∀ (j : Nat) t, fn.params[j]? = some t → Tryz.pinned.checked.prog.wantsStandIn t = false := by
 obtain rfl : f = 6 := Option.some.inj ((show Tryz.prog.funcNamed "lapidary/lapidarylaw10.CodeGood" = some 6 by kernel_rfl).symm.trans hf) |>.symm
 obtain rfl : fn = Tryz.f6 := (Option.some.inj (Tryz.func6.symm.trans hfn)).symm
 refine ⟨by kernel_rfl, fun j t ht => ?_⟩
 rw [Tryz.params6] at ht
 obtain rfl | rfl | rfl : t = 9 ∨ t = 4 ∨ t = 22 := by simpa using Array.mem_of_getElem? ht
 ·exact (show Tryz.prog.wantsStandIn 9 = false by kernel_rfl)
 ·exact (show Tryz.prog.wantsStandIn 4 = false by kernel_rfl)
 ·exact (show Tryz.prog.wantsStandIn 22 = false by kernel_rfl)
theorem cardUpto (law : ∀ (s : ByteArray) (m : Bool) (sl : List ByteArray) (snl : Bool), s.size ≤ 1048576 → sl.length ≤ 1048576 → (snl = true → sl = []) → SL.DF Tryz.prog 6 [.str s, .bool m, .sl snl 1 (sl.map .str)] (.bool true)) : Rows.CodeGoodUptoCardSaid :=
 Claim7.holds_tied_plain_at .later [] _ _ _ _ (saidUpto law) (fun _ h => by cases h) (by kernel_rfl) (fun _ h => by cases h) codeGoodUpto_row_tie rfl ⟨rfl, rfl⟩ (by kernel_rfl) rfl plain (by kernel_rfl)
end codeGood
theorem codeGood_holds : Rows.CodeGoodUptoCardSaid := codeGood.cardUpto fun s m sl snl hs hl hn => SL.f6_ok s hs m hl hn (fun _ => rfl)
end Go.Proofs.YtbkdobainphhdaaGreatDoor
