/- CodeOnce: each literal, global and selector of any source's steps stands once, and is needed by some step; each block but the first one by one: for every source and every list of slots' names of bulk at most 1048576. Part 5. -/
import Derived.Test.YtbkdobainphhdaaGreatDoorOnce3
namespace Go.SL
open Go.Proofs
set_option maxRecDepth 10000
def fixU (t : ByteArray) : Us := match fixedS t with
 | some (k, i) => ⟨0, t, k, 0, i, false⟩
 | none => ⟨0, t, 0, 0, 0, false⟩
theorem f69_ok (t : ByteArray) : DF Tryz.prog 69 [.str t] (.tup [usD (fixU t), .bool (fixedS t).isSome]) := by
 by_cases h1 : t = ⟨#[115, 101, 108, 102]⟩
 ·have e : fixedS t = some (0, 0) := by unfold fixedS selfT; rw [if_pos h1]
  simp only [fixU, e, usD, Option.isSome_some]
  refine AF.start' 60 Tryz.func69 rfl rfl c69call c69ok fun Q hQ => ?_
  simp [c69c, c69t, eq_true h1]
  refine ATT.fin' hQ Tryz.func69 c69res ?_
  simp
  all_goals (first | omega | exact ⟨_, rfl⟩ | skip)
 by_cases h2 : t = ⟨#[115, 117, 112, 101, 114]⟩
 ·have e : fixedS t = some (1, 0) := by unfold fixedS selfT superT; rw [if_neg h1, if_pos h2]
  simp only [fixU, e, usD, Option.isSome_some]
  refine AF.start' 60 Tryz.func69 rfl rfl c69call c69ok fun Q hQ => ?_
  simp [c69c, c69t, h1, eq_true h2]
  refine ATT.fin' hQ Tryz.func69 c69res ?_
  simp
  all_goals (first | omega | exact ⟨_, rfl⟩ | skip)
 by_cases h3 : t = ⟨#[110, 105, 108]⟩
 ·have e : fixedS t = some (2, 0) := by unfold fixedS selfT superT nilT; rw [if_neg h1, if_neg h2, if_pos h3]
  simp only [fixU, e, usD, Option.isSome_some]
  refine AF.start' 60 Tryz.func69 rfl rfl c69call c69ok fun Q hQ => ?_
  simp [c69c, c69t, h1, h2, eq_true h3]
  refine ATT.fin' hQ Tryz.func69 c69res ?_
  simp
  all_goals (first | omega | exact ⟨_, rfl⟩ | skip)
 by_cases h4 : t = ⟨#[102, 97, 108, 115, 101]⟩
 ·have e : fixedS t = some (2, 1) := by unfold fixedS selfT superT nilT falseT; rw [if_neg h1, if_neg h2, if_neg h3, if_pos h4]
  simp only [fixU, e, usD, Option.isSome_some]
  refine AF.start' 60 Tryz.func69 rfl rfl c69call c69ok fun Q hQ => ?_
  simp [c69c, c69t, h1, h2, h3, eq_true h4]
  refine ATT.fin' hQ Tryz.func69 c69res ?_
  simp
  all_goals (first | omega | exact ⟨_, rfl⟩ | skip)
 by_cases h5 : t = ⟨#[116, 114, 117, 101]⟩
 ·have e : fixedS t = some (2, 2) := by unfold fixedS selfT superT nilT falseT trueT; rw [if_neg h1, if_neg h2, if_neg h3, if_neg h4, if_pos h5]
  simp only [fixU, e, usD, Option.isSome_some]
  refine AF.start' 60 Tryz.func69 rfl rfl c69call c69ok fun Q hQ => ?_
  simp [c69c, c69t, h1, h2, h3, h4, eq_true h5]
  refine ATT.fin' hQ Tryz.func69 c69res ?_
  simp
  all_goals (first | omega | exact ⟨_, rfl⟩ | skip)
 have e : fixedS t = none := by unfold fixedS selfT superT nilT falseT trueT; rw [if_neg h1, if_neg h2, if_neg h3, if_neg h4, if_neg h5]
 simp only [fixU, e, usD, Option.isSome_none]
 refine AF.start' 60 Tryz.func69 rfl rfl c69call c69ok fun Q hQ => ?_
 simp [c69c, c69t, h1, h2, h3, h4, h5]
 refine ATT.fin' hQ Tryz.func69 c69res ?_
 simp
 all_goals (first | omega | exact ⟨_, rfl⟩ | skip)
def idxI : Option Nat → Int
 | some k => k
 | none => -1
theorem idxS_step {t : ByteArray} {l : List ByteArray} {i : Nat} {x : ByteArray} (h : l[i]? = some x) (hx : ¬ x = t) : idxS t (l.drop i) i = idxS t (l.drop (i + 1)) (i + 1) := by
 have : l.drop i = x :: l.drop (i + 1) := by
  obtain ⟨h1, h2⟩ := List.getElem?_eq_some_iff.1 h
  rw [List.drop_eq_getElem_cons h1, h2]
 rw [this]
 simp only [idxS, if_neg hx]
theorem f106_ok (l : List ByteArray) (hl : l.length ≤ 9223372036854775000) (nl : Bool) (z : Nat) (hn : nl = true → l = []) (hz : nl = false → z = 1) (t : ByteArray) : DF Tryz.prog 106 [.sl nl z (l.map .str), .str t] (.int .i64 (idxI (idxS t l 0))) := by
 refine AF.start' 60 Tryz.func106 rfl rfl c106call c106ok fun Q hQ => ?_
 simp [c106c, c106t]
 refine ATT.loopG 60 c106l7.eq_1 (fun (i : Nat) => l.length - i) (fun (i : Nat) => i ≤ l.length ∧ idxS t (l.drop i) i = idxS t l 0) (fun (i : Nat) => [(0, .d (.sl nl z (l.map .str))), (1, .d (.str t)), (7, .d (.int .i64 l.length)), (8, .d (.int .i64 i))]) (fun (i : Nat) => []) (fun (i : Nat) => []) (0) (by (try dsimp only); exact ⟨Nat.zero_le _, rfl⟩) (by simp <;> omega) (by simp) (by simp) ?_
 intro i u w hI ih
 try simp only at hI ih
 obtain ⟨i1, i2⟩ := hI
 by_cases hi : i < l.length
 ·have hnl : nl = false := by cases nl with | false => rfl | true => (have := hn rfl; rw [this] at hi; simp at hi)
  subst hnl
  have := hz rfl
  subst this
  obtain ⟨y, hy⟩ : ∃ y, l[i]? = some y := ⟨_, List.getElem?_eq_getElem hi⟩
  have hyE : ∀ h, l[i]'h = y := fun h => by rw [List.getElem?_eq_getElem h] at hy; simpa using hy
  have hi' : (i : Int) < l.length := by omega
  have hII : inI ((i : Int) + 1) = true := inI_of (by omega) (by omega)
  by_cases he : y = t
  ·have hd : l.drop i = y :: l.drop (i + 1) := by rw [List.drop_eq_getElem_cons hi, hyE]
   have h0 : idxS t l 0 = some i := by rw [← i2, hd]; simp only [idxS, if_pos he]
   rw [h0] at hQ
   subst he
   simp [c106t, hi, hi', hyE]
   refine ATT.fin' hQ Tryz.func106 c106res ?_
   simp [idxI]
   all_goals (first | omega | exact ⟨_, rfl⟩ | skip)
  ·have he' : ¬ t = y := fun h => he h.symm
   simp [c106t, hi, hi', hyE, hII, he']
   refine ih (i + 1) (by first | ((try dsimp only); omega) | (simp [hi, hi', hy, hyE, hII, he'] <;> omega)) (by (try dsimp only); exact ⟨hi, by rw [← i2]; exact (idxS_step hy he).symm⟩) _ _ _ (by simp <;> omega) (by simp <;> omega) (by simp <;> omega)
 ·have hi' : ¬ (i : Int) < l.length := by omega
  have h0 : idxS t l 0 = none := by rw [← i2, List.drop_eq_nil_of_le (by omega)]; rfl
  rw [h0] at hQ
  simp [c106t, hi']
  refine ATT.fin' hQ Tryz.func106 c106res ?_
  simp [idxI]
  all_goals (first | omega | exact ⟨_, rfl⟩ | skip)
theorem f70_ok (l : List ByteArray) (hl : l.length ≤ 9223372036854775000) (nl : Bool) (z : Nat) (hn : nl = true → l = []) (hz : nl = false → z = 1) (t : ByteArray) : DF Tryz.prog 70 [.sl nl z (l.map .str), .str t] (.bool (idxS t l 0).isSome) := by
 have hI := f106_ok l hl nl z hn hz t
 cases h : idxS t l 0 with
 | none =>
  rw [h] at hI
  refine AF.start' 60 Tryz.func70 rfl rfl c70call c70ok fun Q hQ => ?_
  simp [c70c, c70t]
  refine ATT.callD Tryz.func70 60 (hI) (by simp) (by simp) (by simp) ?_
  simp [idxI]
  refine ATT.fin' hQ Tryz.func70 c70res ?_
  simp
  all_goals (first | omega | exact ⟨_, rfl⟩ | skip)
 | some k =>
  rw [h] at hI
  have hk : (0 : Int) ≤ k := by omega
  refine AF.start' 60 Tryz.func70 rfl rfl c70call c70ok fun Q hQ => ?_
  simp [c70c, c70t]
  refine ATT.callD Tryz.func70 60 (hI) (by simp) (by simp) (by simp) ?_
  simp [idxI, hk]
  refine ATT.fin' hQ Tryz.func70 c70res ?_
  simp
  all_goals (first | omega | exact ⟨_, rfl⟩ | skip)
end Go.SL
namespace Go.SL
open Go.Proofs
set_option maxRecDepth 10000
abbrev WK (sl : List ByteArray) (snl : Bool) (sz n : Nat) : Bx := .cells [.d (.sl snl sz (sl.map .str)), .vs 0 n 0 n] 107
abbrev WU (l : List Us) : Option Vec := some ⟨l.isEmpty, 6, 0, l.map fun u => .d (usD u), 146⟩
def Chn (b : List Bx) : V → Fr → Prop
 | p, [] => p = .d .nilP
 | p, (l, n) :: r => ∃ j q k t a nl z kd, p = .ptr (j + 1) 0 ∧ b[j]? = some (.cells [.d k, .d t, .d a, .d (.int .i64 n), .d (.sl nl z (l.map .str)), .d kd, q] 144) ∧ (nl = true → l = []) ∧ (nl = false → z = 1) ∧ l.length ≤ 10000 ∧ Chn b q r
theorem get_more {α : Type} {b : List α} {j : Nat} {x : α} (h : b[j]? = some x) (c : List α) : (b ++ c)[j]? = some x := by
 rw [List.getElem?_append_left (List.getElem?_eq_some_iff.1 h).1, h]
theorem Chn.more {b : List Bx} (c : List Bx) : ∀ {fr : Fr} {p : V}, Chn b p fr → Chn (b ++ c) p fr
 | [], _, h => h
 | (_l, _n) :: _r, _p, ⟨j, q, k, t, a, nl, z, kd, h1, h2, h3, h4, h5, h6⟩ => ⟨j, q, k, t, a, nl, z, kd, h1, get_more h2 c, h3, h4, h5, Chn.more c h6⟩
theorem Chn.one : ∀ {b : List Bx} {fr : Fr} {p : V}, Chn b p fr → p.one = true
 | _, [], _, h => by subst h; rfl
 | _, (l, n) :: r, p, ⟨j, q, k, t, a, nl, z, kd, h1, _⟩ => by subst h1; rfl
theorem gA {α : Type} (l r : List α) (k : Nat) : (l ++ r)[l.length + k]? = r[k]? := by rw [List.getElem?_append_right (Nat.le_add_right _ _), Nat.add_sub_cancel_left]
set_option maxHeartbeats 1000000 in
theorem f107_ok (sl : List ByteArray) (hsl : sl.length ≤ 1048576) (snl : Bool) (sz : Nat) (hs1 : snl = true → sl = []) (hs2 : snl = false → sz = 1) (n : Nat) (bs : List Bx) (cs : List (Option Vec)) (p : V) (fr : Fr) (hf : fr.length ≤ 1000000) (hC : Chn bs p fr) (t : ByteArray) :
  AF Tryz.prog 107 [.ptr 0 0, .d (.str t), p] ⟨WK sl snl sz n :: bs, cs⟩ fun o h => ∃ b c, o = .ret (.d (.tup [usD (findS sl fr t).1, .bool (findS sl fr t).2])) ∧ h = ⟨WK sl snl sz n :: (bs ++ b), cs ++ c⟩ := by
 have hF := f69_ok t
 have hIs := f106_ok sl (by omega) snl sz hs1 hs2 t
 cases hx : fixedS t with
 | some ki =>
  obtain ⟨k, i⟩ := ki
  have e : findS sl fr t = (⟨0, t, k, 0, i, false⟩, false) := by unfold findS; rw [hx]
  simp only [fixU, hx, Option.isSome_some, usD] at hF
  rw [e]
  refine AF.start' 60 Tryz.func107 rfl rfl c107call c107ok fun Q hQ => ?_
  simp [c107c, c107t]
  refine ATT.callD Tryz.func107 60 (hF) (by simp) (by simp) (by simp) ?_
  simp [c107t]
  refine ATT.fin' hQ Tryz.func107 c107res ?_
  simp [usD]
  all_goals (first | omega | exact ⟨_, rfl⟩ | skip)
 | none =>
  simp only [fixU, hx, Option.isSome_none, usD] at hF
  refine AF.start' 60 Tryz.func107 rfl rfl c107call c107ok fun Q hQ => ?_
  simp [c107c, c107t]
  refine ATT.callD Tryz.func107 60 (hF) (by simp) (by simp) (by simp) ?_
  simp [c107t]
  refine ATT.loopG 60 c107l11.eq_1 (fun ((p', r, d) : V × Fr × Nat) => r.length) (fun ((p', r, d) : V × Fr × Nat) => Chn bs p' r ∧ srchS t r d = srchS t fr 0 ∧ d + r.length ≤ 1000000) (fun ((p', r, d) : V × Fr × Nat) => [(0, .ptr 0 0), (1, .d (.str t)), (2, p'), (6, .ptr (bs.length + 1) 0), (8, .ptr (bs.length + 1 + 1) 0), (10, .d (.int .i64 d))]) (fun ((p', r, d) : V × Fr × Nat) => WK sl snl sz n :: (bs ++ [.cells [.d (.int .i64 0), .d (.str ⟨#[]⟩), .d (.int .i64 0), .d (.int .i64 0), .d (.int .i64 0), .d (.bool false)] 146, .cells [.d (.int .i64 0), .d (.str t), .d (.int .i64 0), .d (.int .i64 0), .d (.int .i64 0), .d (.bool false)] 146])) (fun ((p', r, d) : V × Fr × Nat) => cs) ((p, fr, 0)) (by (try dsimp only); exact ⟨hC, rfl, by omega⟩) (by simp <;> omega) (by simp) (by simp) ?_
  intro ⟨p', r, d⟩ u w hI ih
  try simp only at hI ih
  obtain ⟨i1, i2, i3⟩ := hI
  cases r with
  | nil =>
   have i1 : p' = .d .nilP := i1
   subst i1
   have hs0 : srchS t fr 0 = none := i2.symm
   simp [c107t]
   cases hI2 : idxS t sl 0 with
   | some k =>
    rw [hI2] at hIs
    have e : findS sl fr t = (⟨0, t, 4, 0, k, false⟩, false) := by unfold findS; rw [hx]; simp only [hs0, hI2]
    rw [e] at hQ
    have hk : (0 : Int) ≤ k := by omega
    refine ATT.callD Tryz.func107 60 (hIs) (by simp) (by simp) (by simp) ?_
    simp [c107t, idxI, hk]
    refine ATT.fin' hQ Tryz.func107 c107res ?_
    simp [usD]
    all_goals (first | omega | exact ⟨_, rfl⟩ | skip)
   | none =>
    rw [hI2] at hIs
    cases hb : bigS t with
    | true =>
     have e : findS sl fr t = (⟨0, t, 5, 0, 0, false⟩, false) := by unfold findS; rw [hx]; simp only [hs0, hI2, hb, if_true]
     rw [e] at hQ
     unfold bigS at hb
     simp only [Bool.and_eq_true, decide_eq_true_eq] at hb
     have ht : ¬ t = ⟨#[]⟩ := fun e => by subst e; exact absurd hb.1.1 (by decide)
     have h0 : inR 0 t.size = true := inR_of (by omega) (by omega)
     have h65 := hb.1.2
     have h90 := hb.2
     refine ATT.callD Tryz.func107 60 (hIs) (by simp) (by simp) (by simp) ?_
     simp [c107t, idxI, ht, h0, h65, h90]
     refine ATT.fin' hQ Tryz.func107 c107res ?_
     simp [usD]
     all_goals (first | omega | exact ⟨_, rfl⟩ | skip)
    | false =>
     have e : findS sl fr t = (⟨0, t, -1, 0, 0, false⟩, false) := by unfold findS; rw [hx]; simp only [hs0, hI2, hb]; rfl
     rw [e] at hQ
     unfold bigS at hb
     by_cases ht : t = ⟨#[]⟩
     ·skip
      refine ATT.callD Tryz.func107 60 (hIs) (by simp) (by simp) (by simp) ?_
      simp [c107t, idxI, eq_true ht]
      refine ATT.fin' hQ Tryz.func107 c107res ?_
      simp [usD]
      all_goals (first | omega | exact ⟨_, rfl⟩ | skip)
     ·have hz : 0 < t.size := by
       rcases Nat.eq_zero_or_pos t.size with h | h
       ·exact absurd (by rcases t with ⟨d⟩; have : d.size = 0 := h; simp at this; rw [this]) ht
       ·exact h
      have h0 : inR 0 t.size = true := inR_of (by omega) (by omega)
      by_cases h65 : 65 ≤ sbyte t 0
      ·have h90 : ¬ sbyte t 0 ≤ 90 := fun h => by simp [hz, h65, h] at hb
       refine ATT.callD Tryz.func107 60 (hIs) (by simp) (by simp) (by simp) ?_
       simp [c107t, idxI, ht, h0, h65, h90]
       refine ATT.fin' hQ Tryz.func107 c107res ?_
       simp [usD]
       all_goals (first | omega | exact ⟨_, rfl⟩ | skip)
      ·skip
       refine ATT.callD Tryz.func107 60 (hIs) (by simp) (by simp) (by simp) ?_
       simp [c107t, idxI, ht, h0, h65]
       refine ATT.fin' hQ Tryz.func107 c107res ?_
       simp [usD]
       all_goals (first | omega | exact ⟨_, rfl⟩ | skip)
  | cons lm r =>
   obtain ⟨l, m⟩ := lm
   obtain ⟨j, q, k0, t0, a0, nl, z, kd, e1, e2, e3, e4, e5, e6⟩ := i1
   subst e1
   have hg := get_more e2
   have hIl := f106_ok l (by omega) nl z e3 e4 t
   have hII : inI ((d : Int) + 1) = true := inI_of (by simp at i3; omega) (by simp at i3; omega)
   cases hI2 : idxS t l 0 with
   | some k =>
    rw [hI2] at hIl
    have hs0 : srchS t fr 0 = some (d, k, decide (k < m)) := by rw [← i2]; simp only [srchS, hI2]
    have e : findS sl fr t = (⟨0, t, 3, d, k, false⟩, decide (k < m)) := by unfold findS; rw [hx]; simp only [hs0]
    rw [e] at hQ
    have hk : (0 : Int) ≤ k := by omega
    simp [c107t, hg]
    refine ATT.callD Tryz.func107 60 (hIl) (by simp) (by simp) (by simp) ?_
    simp [c107t, idxI, hk, hg]
    refine ATT.fin' hQ Tryz.func107 c107res ?_
    simp [usD]
    all_goals (first | omega | exact ⟨_, rfl⟩ | skip)
   | none =>
    rw [hI2] at hIl
    simp [c107t, hg]
    refine ATT.callD Tryz.func107 60 (hIl) (by simp) (by simp) (by simp) ?_
    simp [c107t, idxI, hg, hII]
    refine ih (q, r, d + 1) (by first | ((try dsimp only); omega) | (simp <;> omega)) (by (try dsimp only); exact ⟨e6, by rw [← i2]; simp only [srchS, hI2], by simp at i3; omega⟩) _ _ _ (by simp <;> omega) (by simp <;> omega) (by simp <;> omega)
end Go.SL
namespace Go.SL
open Go.Proofs
set_option maxRecDepth 10000
theorem NdRL.at : ∀ {ks : List Nd} {ds : List D} {i : Nat} {y : Nd}, NdRL ks ds → ks[i]? = some y → ∃ d, ds[i]? = some d ∧ NdR y d
 | x :: r, ds, 0, y, h, e => by
  simp only [NdRL] at h
  obtain ⟨d, l, e1, h1, h2⟩ := h
  subst e1
  simp at e; subst e
  exact ⟨d, rfl, h1⟩
 | x :: r, ds, i + 1, y, h, e => by
  simp only [NdRL] at h
  obtain ⟨d, l, e1, h1, h2⟩ := h
  subst e1
  obtain ⟨d2, g1, g2⟩ := h2.at (i := i) (by simpa using e)
  exact ⟨d2, by simpa using g1, g2⟩
theorem kid_lt {x y : Nd} {i : Nat} (h : x.kids[i]? = some y) : SizeOf.sizeOf y < SizeOf.sizeOf x := by
 cases x with
 | mk k t a n names kids =>
  have := List.sizeOf_lt_of_mem (List.mem_of_getElem? h)
  simp [Nd.kids] at this ⊢
  omega
mutual
theorem useP_len {sl : List ByteArray} : ∀ {x : Nd} {fr : Fr} {to : Bool} {us : List Us}, useP sl fr to x = .inl us → us.length ≤ nds x
 | .mk k t a n names kids, fr, to, us, h => by
  simp only [useP] at h
  simp only [nds]
  split at h
  ·split at h
   ·simp at h
   ·simp only [Sum.inl.injEq] at h; rw [← h]; simp
  split at h
  ·split at h
   ·simp at h
   ·cases hk : useL sl fr false kids with
    | inl r =>
     rw [hk] at h
     simp only [catU, Sum.inl.injEq] at h
     have := useL_len hk
     rw [← h]; simp; omega
    | inr e => rw [hk] at h; simp [catU] at h
  split at h
  ·split at h
   ·simp at h
   ·have := useL_len h; omega
  ·have := useL_len h; omega
theorem useL_len {sl : List ByteArray} : ∀ {l : List Nd} {fr : Fr} {to : Bool} {us : List Us}, useL sl fr to l = .inl us → us.length ≤ ndL l
 | [], fr, to, us, h => by simp only [useL, Sum.inl.injEq] at h; rw [← h]; simp
 | x :: r, fr, to, us, h => by
  simp only [useL] at h
  simp only [ndL]
  cases h1 : useP sl fr to x with
  | inr e => rw [h1] at h; simp [catU] at h
  | inl a =>
   cases h2 : useL sl fr false r with
   | inr e => rw [h1, h2] at h; simp [catU] at h
   | inl b =>
    rw [h1, h2] at h
    simp only [catU, Sum.inl.injEq] at h
    have := useP_len h1; have := useL_len h2
    rw [← h]; simp; omega
end
theorem catU_nil (r : List Us ⊕ Nat) : catU (.inl []) r = r := by cases r <;> rfl
theorem catU_end (a : List Us) : catU (.inl a) (.inl []) = .inl a := by simp [catU]
theorem catU_assoc (a b : List Us) (r : List Us ⊕ Nat) : catU (.inl a) (catU (.inl b) r) = catU (.inl (a ++ b)) r := by cases r <;> simp [catU]
theorem nd_drop {l : List Nd} {i : Nat} {y : Nd} (h : l[i]? = some y) : l.drop i = y :: l.drop (i + 1) := by
 obtain ⟨h1, h2⟩ := List.getElem?_eq_some_iff.1 h
 rw [List.drop_eq_getElem_cons h1, h2]
def stopW (a : Nat) : V := .d (.iface 104 (.agg [.int .i64 a]))
def WQ (sl : List ByteArray) (snl : Bool) (sz : Nat) (bs : List Bx) (cs : List (Option Vec)) (l : List Us) (r : List Us ⊕ Nat) (o : Out) (h : H) : Prop := match r with
 | .inl us => ∃ b c, o = .ret (.d (.tup [])) ∧ h = ⟨WK sl snl sz (l ++ us).length :: (bs ++ b), WU (l ++ us) :: (cs ++ c)⟩
 | .inr a => o = .pan (stopW a) ∧ 1 ≤ h.bx.length ∧ 1 ≤ h.vc.length
def PartC (sl : List ByteArray) (snl : Bool) (sz : Nat) (x : Nd) : Prop := ∀ (u : D), NdR x u → ∀ (l : List Us) (bs : List Bx) (cs : List (Option Vec)) (p : V) (fr : Fr) (to : Bool), fr.length + nds x ≤ 1000000 → l.length + nds x ≤ 1000000 → Chn bs p fr → ∀ (W0 : Bx) (V0 : Option Vec), W0 = WK sl snl sz l.length → V0 = WU l →
 AF Tryz.prog 71 [.ptr 0 0, .d u, p, .d (.bool to)] ⟨W0 :: bs, V0 :: cs⟩ (WQ sl snl sz bs cs l (useP sl fr to x))
def UnitC (sl : List ByteArray) (snl : Bool) (sz : Nat) (x : Nd) : Prop := ∀ (u : D), NdR x u → ∀ (l : List Us) (bs : List Bx) (cs : List (Option Vec)) (p : V) (fr : Fr), fr.length + nds x ≤ 1000000 → l.length + nds x ≤ 1000000 → Chn bs p fr → ∀ (W0 : Bx) (V0 : Option Vec), W0 = WK sl snl sz l.length → V0 = WU l →
 AF Tryz.prog 45 [.ptr 0 0, .d u, p] ⟨W0 :: bs, V0 :: cs⟩ (WQ sl snl sz bs cs l (useU sl fr x))
set_option maxHeartbeats 1000000 in
theorem f45_ok {sl : List ByteArray} {snl : Bool} {sz : Nat} {Q0 : ByteArray → Nat → Prop} (x : Nd) (hg : Good Q0 x) (hk : ∀ y ∈ x.kids, PartC sl snl sz y) : UnitC sl snl sz x := by
 intro u hu l bs cs p fr hfr hl hC W0 V0 eW eV
 subst eW eV
 obtain ⟨nl1, z1, nl2, z2, ds, e, h1, h2, h3, h4, h5⟩ := hu.shape
 subst e
 have ho := hg.one
 have hl1 : x.names.length ≤ 10000 := ho.1
 have hl2 : x.kids.length ≤ 10000 := ho.2.1
 have hdl := h5.length
 have hp1 := hC.one
 have hn := Nd.count x
 have rest : ∀ (Q : Out → H → Prop), (∀ o h, WQ sl snl sz bs cs l (useU sl fr x) o h → Q o h) → ∀ p : V, Chn bs p fr → ATT Tryz.prog 68 (FD.of 45) Q ([.code (.loop c45l9), .blk 0, .code (.seq (.regT c45t 10) (.block 2 (.loop c45l15)))], [(23, .d (.int .i64 0)), (22, .d (.int .i64 x.names.length)), (21, .d (.sl nl1 z1 (x.names.map .str))), (6, .ptr (bs.length + 1 + 1) 0), (0, .ptr 0 0)], ⟨WK sl snl sz l.length :: (bs ++ [.cells [.d (.int .i64 x.k), .d (.str x.t), .d (.int .i64 x.a), .d (.int .i64 x.n), .d (.sl nl1 z1 (x.names.map .str)), .d (.sl nl2 z2 ds)] 50, .cells [.d (.int .i64 x.k), .d (.str x.t), .d (.int .i64 x.a), .d (.int .i64 x.n), .d (.sl nl1 z1 (x.names.map .str)), .d (.sl nl2 z2 ds), p] 144]), WU l :: cs⟩, true) := by
  clear hC
  intro Q hQ p hC
  refine ATT.loopG 60 c45l9.eq_1 (fun (i : Nat) => x.names.length - i) (fun (i : Nat) => i ≤ x.names.length ∧ oddS [] x.names = oddS (x.names.take i) (x.names.drop i)) (fun (i : Nat) => [(0, .ptr 0 0), (6, .ptr (bs.length + 1 + 1) 0), (21, .d (.sl nl1 z1 (x.names.map .str))), (22, .d (.int .i64 x.names.length)), (23, .d (.int .i64 i))]) (fun (i : Nat) => WK sl snl sz l.length :: (bs ++ [.cells [.d (.int .i64 x.k), .d (.str x.t), .d (.int .i64 x.a), .d (.int .i64 x.n), .d (.sl nl1 z1 (x.names.map .str)), .d (.sl nl2 z2 ds)] 50, .cells [.d (.int .i64 x.k), .d (.str x.t), .d (.int .i64 x.a), .d (.int .i64 x.n), .d (.sl nl1 z1 (x.names.map .str)), .d (.sl nl2 z2 ds), p] 144])) (fun (i : Nat) => WU l :: cs) (0) (by (try dsimp only); exact ⟨Nat.zero_le _, rfl⟩) (by simp <;> omega) (by simp) (by simp) ?_
  intro i u w hI ih
  try simp only at hI ih
  obtain ⟨i1, i2⟩ := hI
  by_cases hi : i < x.names.length
  ·have hnl1 : nl1 = false := by cases nl1 with | false => rfl | true => (have := h1 rfl; rw [this] at hi; simp at hi)
   subst hnl1
   have := h2 rfl
   subst this
   obtain ⟨y, hy⟩ : ∃ y, x.names[i]? = some y := ⟨_, List.getElem?_eq_getElem hi⟩
   have hyE : ∀ h, x.names[i]'h = y := fun h => by rw [List.getElem?_eq_getElem h] at hy; simpa using hy
   have hyd : x.names.drop i = y :: x.names.drop (i + 1) := by rw [List.drop_eq_getElem_cons hi, hyE]
   rw [hyd] at i2
   simp only [oddS] at i2
   have hi' : (i : Int) < x.names.length := by omega
   have hle : (i : Int) ≤ x.names.length := by omega
   have hII : inI ((i : Int) + 1) = true := inI_of (by omega) (by omega)
   have hF := f69_ok y
   have hCt := f70_ok (x.names.take i) (by simp; omega) false 1 (fun h => by simp at h) (fun _ => rfl) y
   rw [List.map_take] at hCt
   cases hfx : (fixedS y).isSome with
   | true =>
    rw [hfx] at hF
    simp only [usD] at hF
    have hod : oddS [] x.names = true := by rw [i2, hfx]; simp
    simp only [useU, hod, if_true] at hQ
    simp [c45t, hi, hi', hyE]
    refine ATT.callD Tryz.func45 60 (hF) (by simp) (by simp) (by simp) ?_
    simp [c45t]
    refine ATT.pan hQ Tryz.func45 (by simp; exact ⟨rfl, rfl⟩) (by simp) (by simp) ?_
    try simp [WQ, stopW]
   | false =>
    rw [hfx] at hF
    simp only [usD] at hF
    cases hct : (idxS y (x.names.take i) 0).isSome with
    | true =>
     rw [hct] at hCt
     have hod : oddS [] x.names = true := by rw [i2, hct]; simp
     simp only [useU, hod, if_true] at hQ
     simp [c45t, hi, hi', hyE]
     refine ATT.callD Tryz.func45 60 (hF) (by simp) (by simp) (by simp) ?_
     simp [c45t, hle]
     refine ATT.callD Tryz.func45 60 (hCt) (by simp) (by simp) (by simp) ?_
     simp [c45t]
     refine ATT.pan hQ Tryz.func45 (by simp; exact ⟨rfl, rfl⟩) (by simp) (by simp) ?_
     try simp [WQ, stopW]
    | false =>
     rw [hct] at hCt
     have hod : oddS [] x.names = oddS (x.names.take (i + 1)) (x.names.drop (i + 1)) := by rw [i2, hfx, hct, List.take_add_one, hy]; simp
     simp [c45t, hi, hi', hyE]
     refine ATT.callD Tryz.func45 60 (hF) (by simp) (by simp) (by simp) ?_
     simp [c45t, hle]
     refine ATT.callD Tryz.func45 60 (hCt) (by simp) (by simp) (by simp) ?_
     simp [c45t, hII]
     refine ih (i + 1) (by first | ((try dsimp only); omega) | (simp [hi, hi', hy, hyE, hII, hle] <;> omega)) (by (try dsimp only); exact ⟨hi, hod⟩) _ _ _ (by simp <;> omega) (by simp <;> omega) (by simp <;> omega)
  ·have hi' : ¬ (i : Int) < x.names.length := by omega
   have hod : oddS [] x.names = false := by rw [i2, List.drop_eq_nil_of_le (by omega)]; rfl
   simp only [useU, hod, Bool.false_eq_true, if_false] at hQ
   simp [c45t, hi', hdl]
   refine ATT.loopG 60 c45l15.eq_1 (fun ((i, dn) : Nat × List Us) => x.kids.length - i) (fun ((i, dn) : Nat × List Us) => i ≤ x.kids.length ∧ useL sl ((x.names, x.n) :: fr) false x.kids = catU (.inl dn) (useL sl ((x.names, x.n) :: fr) false (x.kids.drop i)) ∧ dn.length + ndL (x.kids.drop i) ≤ ndL x.kids) (fun ((i, dn) : Nat × List Us) => [(0, .ptr 0 0), (6, .ptr (bs.length + 1 + 1) 0), (57, .d (.sl nl2 z2 ds)), (58, .d (.int .i64 x.kids.length)), (59, .d (.int .i64 i))]) (fun ((i, dn) : Nat × List Us) => WK sl snl sz (l ++ dn).length :: (bs ++ [.cells [.d (.int .i64 x.k), .d (.str x.t), .d (.int .i64 x.a), .d (.int .i64 x.n), .d (.sl nl1 z1 (x.names.map .str)), .d (.sl nl2 z2 ds)] 50, .cells [.d (.int .i64 x.k), .d (.str x.t), .d (.int .i64 x.a), .d (.int .i64 x.n), .d (.sl nl1 z1 (x.names.map .str)), .d (.sl nl2 z2 ds), p] 144])) (fun ((i, dn) : Nat × List Us) => WU (l ++ dn) :: cs) ((0, [])) (by (try dsimp only); exact ⟨Nat.zero_le _, by rw [catU_nil]; rfl, by simp⟩) (by simp <;> omega) (by simp) (by simp) ?_
   intro ⟨i, dn⟩ u w hI ih
   try simp only at hI ih
   obtain ⟨j1, j2, j3⟩ := hI
   by_cases hi : i < x.kids.length
   ·have hnl2 : nl2 = false := by cases nl2 with | false => rfl | true => (have := h3 rfl; rw [this] at hi; simp at hi)
    subst hnl2
    have := h4 rfl
    subst this
    obtain ⟨y, hy⟩ : ∃ y, x.kids[i]? = some y := ⟨_, List.getElem?_eq_getElem hi⟩
    obtain ⟨d, hd, hyd⟩ := h5.at hy
    have hdE : ∀ h, ds[i]'h = d := fun h => by rw [List.getElem?_eq_getElem h] at hd; simpa using hd
    have hi' : (i : Int) < x.kids.length := by omega
    have hII : inI ((i : Int) + 1) = true := inI_of (by omega) (by omega)
    rw [nd_drop hy] at j2 j3
    simp only [useL] at j2
    simp only [ndL] at j3
    have hyd' := hyd
    obtain ⟨nl1_d, z1_d, nl2_d, z2_d, ds_d, hv_d, ha_d, hb_d, hc_d, hd_d, he_d⟩ := hyd.shape
    have hw_d := hv_d
    subst hw_d
    simp [c45t, hdl, hi, hi', hdE]
    refine ATT.callT Tryz.func45 60 (hk y (List.mem_of_getElem? hy) _ hyd' (l ++ dn) _ _ _ ((x.names, x.n) :: fr) false (by simp; omega) (by simp; omega) ⟨bs.length + 1, p, _, _, _, nl1, z1, _, rfl, gA bs _ 1, h1, h2, hl1, hC.more _⟩ _ _ (by simp) (by simp)) (by simp) (by simp) (by simp) fun out hC hE => ?_
    cases hr : useP sl ((x.names, x.n) :: fr) false y with
    | inr a =>
     rw [hr] at hE j2
     obtain ⟨e1, e2, e3⟩ := hE
     subst e1
     rw [j2] at hQ
     exact hQ _ _ ⟨rfl, e2, e3⟩
    | inl us =>
     have hus := useP_len hr
     rw [hr, catU_assoc] at j2
     rw [hr] at hE
     obtain ⟨b, c, e1, e2⟩ := hE
     subst e1 e2
     simp [c45t, hII]
     refine ih (i + 1, dn ++ us) (by first | ((try dsimp only); omega) | (simp [hdl, hi, hi', hd, hdE, hII] <;> omega)) (by (try dsimp only); exact ⟨hi, j2, by simp; omega⟩) _ _ _ (by simp <;> omega) (by simp <;> omega) (by simp <;> omega)
   ·have hi' : ¬ (i : Int) < x.kids.length := by omega
    rw [List.drop_eq_nil_of_le (by omega)] at j2
    simp only [useL] at j2
    rw [catU_end] at j2
    rw [j2] at hQ
    simp [c45t, hi']
    refine ATT.fin0' hQ Tryz.func45 c45res ?_
    simp [WQ]
    all_goals (first | omega | exact ⟨_, rfl⟩ | skip)
 cases fr with
 | nil =>
  have hC' : p = .d .nilP := hC
  subst hC'
  refine AF.start' 60 Tryz.func45 rfl rfl c45call c45ok fun Q hQ => ?_
  simp [c45c, c45t]
  exact rest Q hQ _ hC
 | cons a b =>
  obtain ⟨j, q, k0, t0, a0, nl, z, kd, e1, e2⟩ := id hC
  subst e1
  refine AF.start' 60 Tryz.func45 rfl rfl c45call c45ok fun Q hQ => ?_
  simp [c45c, c45t]
  exact rest Q hQ _ hC
end Go.SL
namespace Go.SL
open Go.Proofs
set_option maxRecDepth 10000
theorem WQ.shift {sl : List ByteArray} {snl : Bool} {sz : Nat} {bs : List Bx} {cs : List (Option Vec)} {l : List Us} {u : Us} {r : List Us ⊕ Nat} {o : Out} {h : H} (q : WQ sl snl sz bs cs (l ++ [u]) r o h) : WQ sl snl sz bs cs l (catU (.inl [u]) r) o h := by
 cases r with
 | inl us =>
  obtain ⟨b, c, e1, e2⟩ := q
  exact ⟨b, c, e1, by rw [e2]; simp⟩
 | inr a => exact q
set_option maxHeartbeats 2000000 in
theorem f71_ok {sl : List ByteArray} (hsl : sl.length ≤ 1048576) {snl : Bool} {sz : Nat} (hs1 : snl = true → sl = []) (hs2 : snl = false → sz = 1) {Q0 : ByteArray → Nat → Prop} : ∀ (m : Nat) (x : Nd), SizeOf.sizeOf x ≤ m → Good Q0 x → PartC sl snl sz x := by
 intro m
 induction m with
 | zero => intro x h; cases x; simp at h
 | succ m ihn =>
  intro x hm hg u hu l bs cs p fr to hfr hl hC W0 V0 eW eV
  subst eW eV
  have hu0 := hu
  obtain ⟨nl1, z1, nl2, z2, ds, e, h1, h2, h3, h4, h5⟩ := hu.shape
  subst e
  have ho := hg.one
  have hl2 : x.kids.length ≤ 10000 := ho.2.1
  have hdl := h5.length
  have hn := Nd.count x
  obtain ⟨U, hU⟩ : ∃ U, findS sl fr x.t = U := ⟨_, rfl⟩
  obtain ⟨⟨a0, t0, k0, d0, i0, w0⟩, g0⟩ := U
  have hmul : (l.length + 1) * 56 ≤ 140737488355328 := by omega
  by_cases k5 : x.k = 5
  ·have e : useP sl fr to x = if k0 = -1 ∨ (k0 = 1 ∧ to = false) then .inr x.a else .inl [⟨x.a, t0, k0, d0, i0, w0⟩] := by
    cases x with
    | mk k t a n names kids =>
     simp only [Nd.k, Nd.t] at k5 hU
     simp only [useP, if_pos k5, hU, Nd.a]
   rw [e]
   refine AF.start' 60 Tryz.func71 rfl rfl c71call c71ok fun Q hQ => ?_
   simp [c71c, c71t, k5]
   refine ATT.callT Tryz.func71 60 (f107_ok sl hsl snl sz hs1 hs2 l.length _ _ p fr (by omega) (hC.more _) x.t) (by simp) (by simp) (by simp) fun out hC hE => ?_
   obtain ⟨b, c, e1, e2⟩ := hE
   rw [hU] at e1
   simp only [usD] at e1
   subst e1 e2
   by_cases n1 : k0 = -1
   ·rw [if_pos (.inl n1)] at hQ
    simp [c71t, eq_true n1]
    refine ATT.pan hQ Tryz.func71 (by simp; exact ⟨rfl, rfl⟩) (by simp) (by simp) ?_
    try simp [WQ, stopW]
   by_cases n2 : k0 = 1
   ·cases to with
    | false =>
     rw [if_pos (.inr ⟨n2, rfl⟩)] at hQ
     simp [c71t, n1, eq_true n2]
     refine ATT.pan hQ Tryz.func71 (by simp; exact ⟨rfl, rfl⟩) (by simp) (by simp) ?_
     try simp [WQ, stopW]
    | true =>
     rw [if_neg (by simp [n1])] at hQ
     simp [c71t, n1, eq_true n2, hmul]
     refine ATT.fin' hQ Tryz.func71 c71res ?_
     simp [WQ, usD]
     all_goals (first | omega | exact ⟨_, rfl⟩ | skip)
   ·rw [if_neg (by simp [n1, n2])] at hQ
    simp [c71t, n1, n2, hmul]
    refine ATT.fin' hQ Tryz.func71 c71res ?_
    simp [WQ, usD]
    all_goals (first | omega | exact ⟨_, rfl⟩ | skip)
  by_cases k6 : x.k = 6
  ·have e : useP sl fr to x = if g0 = true ∨ (k0 ≠ 3 ∧ k0 ≠ 4) then .inr x.a else catU (.inl [⟨x.a, t0, k0, d0, i0, true⟩]) (useL sl fr false x.kids) := by
    cases x with
    | mk k t a n names kids =>
     simp only [Nd.k, Nd.t] at k5 k6 hU
     simp only [useP, if_neg k5, if_pos k6, hU, Nd.a, Nd.kids]
   rw [e]
   refine AF.start' 60 Tryz.func71 rfl rfl c71call c71ok fun Q hQ => ?_
   simp [c71c, c71t, k6]
   refine ATT.callT Tryz.func71 60 (f107_ok sl hsl snl sz hs1 hs2 l.length _ _ p fr (by omega) (hC.more _) x.t) (by simp) (by simp) (by simp) fun out hC hE => ?_
   obtain ⟨b, c, e1, e2⟩ := hE
   rw [hU] at e1
   simp only [usD] at e1
   subst e1 e2
   cases g0 with
   | true =>
    rw [if_pos (.inl rfl)] at hQ
    simp [c71t]
    refine ATT.pan hQ Tryz.func71 (by simp; exact ⟨rfl, rfl⟩) (by simp) (by simp) ?_
    try simp [WQ, stopW]
   | false =>
    by_cases n3 : k0 = 3
    ·rw [if_neg (by simp [n3])] at hQ
     replace hQ := fun o h q => hQ o h (WQ.shift q)
     obtain ⟨U, hW⟩ : ∃ U : Us, (⟨x.a, t0, k0, d0, i0, true⟩ : Us) = U := ⟨_, rfl⟩
     rw [hW] at hQ
     have hwD : usD U = D.agg [.int .i64 x.a, .str t0, .int .i64 k0, .int .i64 d0, .int .i64 i0, .bool true] := by rw [← hW]; rfl
     simp [c71t, hdl, eq_true n3, hmul]
     refine ATT.loopG 60 c71l21.eq_1 (fun ((i, dn) : Nat × List Us) => x.kids.length - i) (fun ((i, dn) : Nat × List Us) => i ≤ x.kids.length ∧ useL sl fr false x.kids = catU (.inl dn) (useL sl fr (if i = 0 then false else false) (x.kids.drop i)) ∧ dn.length + ndL (x.kids.drop i) ≤ ndL x.kids) (fun ((i, dn) : Nat × List Us) => [(0, .ptr 0 0), (2, p), (5, .ptr (bs.length + 1) 0), (101, .d (.sl nl2 z2 ds)), (102, .d (.int .i64 x.kids.length)), (103, .d (.int .i64 i))]) (fun ((i, dn) : Nat × List Us) => WK sl snl sz ((l ++ [U]) ++ dn).length :: (bs ++ [.cells [.d (.int .i64 x.k), .d (.str x.t), .d (.int .i64 x.a), .d (.int .i64 x.n), .d (.sl nl1 z1 (x.names.map .str)), .d (.sl nl2 z2 ds)] 50])) (fun ((i, dn) : Nat × List Us) => WU ((l ++ [U]) ++ dn) :: cs) ((0, [])) (by (try dsimp only); exact ⟨Nat.zero_le _, by rw [catU_nil]; rfl, by simp⟩) (by simp <;> omega) (by simp) (by simp [k6, hwD]) ?_
     intro ⟨i, dn⟩ u w hI ih
     try simp only at hI ih
     obtain ⟨j1, j2, j3⟩ := hI
     by_cases hi : i < x.kids.length
     ·have hnl2 : nl2 = false := by cases nl2 with | false => rfl | true => (have := h3 rfl; rw [this] at hi; simp at hi)
      subst hnl2
      have := h4 rfl
      subst this
      obtain ⟨y, hy⟩ : ∃ y, x.kids[i]? = some y := ⟨_, List.getElem?_eq_getElem hi⟩
      obtain ⟨d, hd, hyd⟩ := h5.at hy
      have hdE : ∀ h, ds[i]'h = d := fun h => by rw [List.getElem?_eq_getElem h] at hd; simpa using hd
      have hi' : (i : Int) < x.kids.length := by omega
      have hII : inI ((i : Int) + 1) = true := inI_of (by omega) (by omega)
      have hcall := ihn y (by have := kid_lt hy; omega) (GoodL.iff.1 hg.all y (List.mem_of_getElem? hy)) d hyd ((l ++ [U]) ++ dn)
      rw [nd_drop hy] at j2 j3
      simp only [useL] at j2
      simp only [ndL] at j3
      obtain ⟨nl1_d, z1_d, nl2_d, z2_d, ds_d, hv_d, ha_d, hb_d, hc_d, hd_d, he_d⟩ := hyd.shape
      have hw_d := hv_d
      subst hw_d
      by_cases hi0 : i = 0
      ·have hi0' : (i : Int) = 0 := by omega
       simp only [if_pos hi0] at j2
       simp [c71t, hdl, hi, hi', hdE, eq_true hi0, k6]
       refine ATT.callT Tryz.func71 60 (hcall _ _ p fr false (by omega) (by simp; omega) (hC.more _) _ _ (by simp) (by simp)) (by simp) (by simp) (by simp) fun out hC hE => ?_
       cases hr : useP sl fr false y with
       | inr a =>
        rw [hr] at hE j2
        obtain ⟨e1, e2, e3⟩ := hE
        subst e1
        rw [j2] at hQ
        exact hQ _ _ ⟨rfl, e2, e3⟩
       | inl us =>
        have hus := useP_len hr
        rw [hr, catU_assoc] at j2
        rw [hr] at hE
        obtain ⟨b, c, e1, e2⟩ := hE
        subst e1 e2
        simp [c71t, hII]
        refine ih (i + 1, dn ++ us) (by first | ((try dsimp only); omega) | (simp [hdl, hi, hi', hd, hdE, hII, eq_true hi0, k6, hwD] <;> omega)) (by (try dsimp only); exact ⟨hi, by simpa using j2, by simp; omega⟩) _ _ _ (by simp <;> omega) (by simp <;> omega) (by simp [k6] <;> omega)
      ·have hi0' : ¬ (i : Int) = 0 := by omega
       simp only [if_neg hi0] at j2
       simp [c71t, hdl, hi, hi', hdE, hi0, k6]
       refine ATT.callT Tryz.func71 60 (hcall _ _ p fr false (by omega) (by simp; omega) (hC.more _) _ _ (by simp) (by simp)) (by simp) (by simp) (by simp) fun out hC hE => ?_
       cases hr : useP sl fr false y with
       | inr a =>
        rw [hr] at hE j2
        obtain ⟨e1, e2, e3⟩ := hE
        subst e1
        rw [j2] at hQ
        exact hQ _ _ ⟨rfl, e2, e3⟩
       | inl us =>
        have hus := useP_len hr
        rw [hr, catU_assoc] at j2
        rw [hr] at hE
        obtain ⟨b, c, e1, e2⟩ := hE
        subst e1 e2
        simp [c71t, hII]
        refine ih (i + 1, dn ++ us) (by first | ((try dsimp only); omega) | (simp [hdl, hi, hi', hd, hdE, hII, hi0, k6, hwD] <;> omega)) (by (try dsimp only); exact ⟨hi, by simpa using j2, by simp; omega⟩) _ _ _ (by simp <;> omega) (by simp <;> omega) (by simp [k6] <;> omega)
     ·have hi' : ¬ (i : Int) < x.kids.length := by omega
      rw [List.drop_eq_nil_of_le (by omega)] at j2
      simp only [useL] at j2
      rw [catU_end] at j2
      rw [j2] at hQ
      simp [c71t, hi']
      refine ATT.fin0' hQ Tryz.func71 c71res ?_
      simp [WQ]
      all_goals (first | omega | exact ⟨_, rfl⟩ | skip)
    by_cases n4 : k0 = 4
    ·rw [if_neg (by simp [n4])] at hQ
     replace hQ := fun o h q => hQ o h (WQ.shift q)
     obtain ⟨U, hW⟩ : ∃ U : Us, (⟨x.a, t0, k0, d0, i0, true⟩ : Us) = U := ⟨_, rfl⟩
     rw [hW] at hQ
     have hwD : usD U = D.agg [.int .i64 x.a, .str t0, .int .i64 k0, .int .i64 d0, .int .i64 i0, .bool true] := by rw [← hW]; rfl
     simp [c71t, hdl, n3, eq_true n4, hmul]
     refine ATT.loopG 60 c71l21.eq_1 (fun ((i, dn) : Nat × List Us) => x.kids.length - i) (fun ((i, dn) : Nat × List Us) => i ≤ x.kids.length ∧ useL sl fr false x.kids = catU (.inl dn) (useL sl fr (if i = 0 then false else false) (x.kids.drop i)) ∧ dn.length + ndL (x.kids.drop i) ≤ ndL x.kids) (fun ((i, dn) : Nat × List Us) => [(0, .ptr 0 0), (2, p), (5, .ptr (bs.length + 1) 0), (101, .d (.sl nl2 z2 ds)), (102, .d (.int .i64 x.kids.length)), (103, .d (.int .i64 i))]) (fun ((i, dn) : Nat × List Us) => WK sl snl sz ((l ++ [U]) ++ dn).length :: (bs ++ [.cells [.d (.int .i64 x.k), .d (.str x.t), .d (.int .i64 x.a), .d (.int .i64 x.n), .d (.sl nl1 z1 (x.names.map .str)), .d (.sl nl2 z2 ds)] 50])) (fun ((i, dn) : Nat × List Us) => WU ((l ++ [U]) ++ dn) :: cs) ((0, [])) (by (try dsimp only); exact ⟨Nat.zero_le _, by rw [catU_nil]; rfl, by simp⟩) (by simp <;> omega) (by simp) (by simp [k6, hwD]) ?_
     intro ⟨i, dn⟩ u w hI ih
     try simp only at hI ih
     obtain ⟨j1, j2, j3⟩ := hI
     by_cases hi : i < x.kids.length
     ·have hnl2 : nl2 = false := by cases nl2 with | false => rfl | true => (have := h3 rfl; rw [this] at hi; simp at hi)
      subst hnl2
      have := h4 rfl
      subst this
      obtain ⟨y, hy⟩ : ∃ y, x.kids[i]? = some y := ⟨_, List.getElem?_eq_getElem hi⟩
      obtain ⟨d, hd, hyd⟩ := h5.at hy
      have hdE : ∀ h, ds[i]'h = d := fun h => by rw [List.getElem?_eq_getElem h] at hd; simpa using hd
      have hi' : (i : Int) < x.kids.length := by omega
      have hII : inI ((i : Int) + 1) = true := inI_of (by omega) (by omega)
      have hcall := ihn y (by have := kid_lt hy; omega) (GoodL.iff.1 hg.all y (List.mem_of_getElem? hy)) d hyd ((l ++ [U]) ++ dn)
      rw [nd_drop hy] at j2 j3
      simp only [useL] at j2
      simp only [ndL] at j3
      obtain ⟨nl1_d, z1_d, nl2_d, z2_d, ds_d, hv_d, ha_d, hb_d, hc_d, hd_d, he_d⟩ := hyd.shape
      have hw_d := hv_d
      subst hw_d
      by_cases hi0 : i = 0
      ·have hi0' : (i : Int) = 0 := by omega
       simp only [if_pos hi0] at j2
       simp [c71t, hdl, hi, hi', hdE, eq_true hi0, k6]
       refine ATT.callT Tryz.func71 60 (hcall _ _ p fr false (by omega) (by simp; omega) (hC.more _) _ _ (by simp) (by simp)) (by simp) (by simp) (by simp) fun out hC hE => ?_
       cases hr : useP sl fr false y with
       | inr a =>
        rw [hr] at hE j2
        obtain ⟨e1, e2, e3⟩ := hE
        subst e1
        rw [j2] at hQ
        exact hQ _ _ ⟨rfl, e2, e3⟩
       | inl us =>
        have hus := useP_len hr
        rw [hr, catU_assoc] at j2
        rw [hr] at hE
        obtain ⟨b, c, e1, e2⟩ := hE
        subst e1 e2
        simp [c71t, hII]
        refine ih (i + 1, dn ++ us) (by first | ((try dsimp only); omega) | (simp [hdl, hi, hi', hd, hdE, hII, eq_true hi0, k6, hwD] <;> omega)) (by (try dsimp only); exact ⟨hi, by simpa using j2, by simp; omega⟩) _ _ _ (by simp <;> omega) (by simp <;> omega) (by simp [k6] <;> omega)
      ·have hi0' : ¬ (i : Int) = 0 := by omega
       simp only [if_neg hi0] at j2
       simp [c71t, hdl, hi, hi', hdE, hi0, k6]
       refine ATT.callT Tryz.func71 60 (hcall _ _ p fr false (by omega) (by simp; omega) (hC.more _) _ _ (by simp) (by simp)) (by simp) (by simp) (by simp) fun out hC hE => ?_
       cases hr : useP sl fr false y with
       | inr a =>
        rw [hr] at hE j2
        obtain ⟨e1, e2, e3⟩ := hE
        subst e1
        rw [j2] at hQ
        exact hQ _ _ ⟨rfl, e2, e3⟩
       | inl us =>
        have hus := useP_len hr
        rw [hr, catU_assoc] at j2
        rw [hr] at hE
        obtain ⟨b, c, e1, e2⟩ := hE
        subst e1 e2
        simp [c71t, hII]
        refine ih (i + 1, dn ++ us) (by first | ((try dsimp only); omega) | (simp [hdl, hi, hi', hd, hdE, hII, hi0, k6, hwD] <;> omega)) (by (try dsimp only); exact ⟨hi, by simpa using j2, by simp; omega⟩) _ _ _ (by simp <;> omega) (by simp <;> omega) (by simp [k6] <;> omega)
     ·have hi' : ¬ (i : Int) < x.kids.length := by omega
      rw [List.drop_eq_nil_of_le (by omega)] at j2
      simp only [useL] at j2
      rw [catU_end] at j2
      rw [j2] at hQ
      simp [c71t, hi']
      refine ATT.fin0' hQ Tryz.func71 c71res ?_
      simp [WQ]
      all_goals (first | omega | exact ⟨_, rfl⟩ | skip)
    rw [if_pos (.inr ⟨n3, n4⟩)] at hQ
    simp [c71t, n3, n4]
    refine ATT.pan hQ Tryz.func71 (by simp; exact ⟨rfl, rfl⟩) (by simp) (by simp) ?_
    try simp [WQ, stopW]
  by_cases k10 : x.k = 10
  ·have e : useP sl fr to x = useU sl fr x := by
    cases x with
    | mk k t a n names kids =>
     simp only [Nd.k] at k10
     subst k10
     simp only [useP]
     rw [if_pos trivial]
     rfl
   have hU := f45_ok (sl := sl) (snl := snl) (sz := sz) x hg (fun y hy => by obtain ⟨i, hi⟩ := List.mem_iff_getElem?.1 hy; exact ihn y (by have := kid_lt hi; omega) (GoodL.iff.1 hg.all y hy)) _ hu0 l
   rw [e]
   refine AF.start' 60 Tryz.func71 rfl rfl c71call c71ok fun Q hQ => ?_
   simp [c71c, c71t, k10]
   refine ATT.callT Tryz.func71 60 (hU _ _ p fr hfr hl (hC.more _) _ _ (by simp) (by simp)) (by simp) (by simp [k10]) (by simp) fun out hC hE => ?_
   cases hr : useU sl fr x with
   | inr a =>
    rw [hr] at hE hQ
    obtain ⟨e1, e2, e3⟩ := hE
    subst e1
    exact hQ _ _ ⟨rfl, e2, e3⟩
   | inl us =>
    rw [hr] at hE hQ
    obtain ⟨b, c, e1, e2⟩ := hE
    subst e1 e2
    simp
    refine ATT.fin' hQ Tryz.func71 c71res ?_
    simp [WQ]
    all_goals (first | omega | exact ⟨_, rfl⟩ | skip)
  have e : useP sl fr to x = useL sl fr (decide (x.k = 7) || decide (x.k = 8)) x.kids := by
   cases x with
   | mk k t a n names kids =>
    simp only [Nd.k] at k5 k6 k10
    simp only [useP, if_neg k5, if_neg k6, if_neg k10]; rfl
  rw [e]
  obtain ⟨tk, htk⟩ : ∃ tk, (decide (x.k = 7) || decide (x.k = 8)) = tk := ⟨_, rfl⟩
  rw [htk]
  by_cases k7 : x.k = 7
  ·have ht : tk = true := by rw [← htk, k7]; rfl
   subst ht
   refine AF.start' 60 Tryz.func71 rfl rfl c71call c71ok fun Q hQ => ?_
   simp [c71c, c71t, k7, hdl]
   refine ATT.loopG 60 c71l21.eq_1 (fun ((i, dn) : Nat × List Us) => x.kids.length - i) (fun ((i, dn) : Nat × List Us) => i ≤ x.kids.length ∧ useL sl fr true x.kids = catU (.inl dn) (useL sl fr (if i = 0 then true else false) (x.kids.drop i)) ∧ dn.length + ndL (x.kids.drop i) ≤ ndL x.kids) (fun ((i, dn) : Nat × List Us) => [(0, .ptr 0 0), (2, p), (5, .ptr (bs.length + 1) 0), (101, .d (.sl nl2 z2 ds)), (102, .d (.int .i64 x.kids.length)), (103, .d (.int .i64 i))]) (fun ((i, dn) : Nat × List Us) => WK sl snl sz (l ++ dn).length :: (bs ++ [.cells [.d (.int .i64 x.k), .d (.str x.t), .d (.int .i64 x.a), .d (.int .i64 x.n), .d (.sl nl1 z1 (x.names.map .str)), .d (.sl nl2 z2 ds)] 50])) (fun ((i, dn) : Nat × List Us) => WU (l ++ dn) :: cs) ((0, [])) (by (try dsimp only); exact ⟨Nat.zero_le _, by rw [catU_nil]; rfl, by simp⟩) (by simp <;> omega) (by simp) (by simp [k7]) ?_
   intro ⟨i, dn⟩ u w hI ih
   try simp only at hI ih
   obtain ⟨j1, j2, j3⟩ := hI
   by_cases hi : i < x.kids.length
   ·have hnl2 : nl2 = false := by cases nl2 with | false => rfl | true => (have := h3 rfl; rw [this] at hi; simp at hi)
    subst hnl2
    have := h4 rfl
    subst this
    obtain ⟨y, hy⟩ : ∃ y, x.kids[i]? = some y := ⟨_, List.getElem?_eq_getElem hi⟩
    obtain ⟨d, hd, hyd⟩ := h5.at hy
    have hdE : ∀ h, ds[i]'h = d := fun h => by rw [List.getElem?_eq_getElem h] at hd; simpa using hd
    have hi' : (i : Int) < x.kids.length := by omega
    have hII : inI ((i : Int) + 1) = true := inI_of (by omega) (by omega)
    have hcall := ihn y (by have := kid_lt hy; omega) (GoodL.iff.1 hg.all y (List.mem_of_getElem? hy)) d hyd (l ++ dn)
    rw [nd_drop hy] at j2 j3
    simp only [useL] at j2
    simp only [ndL] at j3
    obtain ⟨nl1_d, z1_d, nl2_d, z2_d, ds_d, hv_d, ha_d, hb_d, hc_d, hd_d, he_d⟩ := hyd.shape
    have hw_d := hv_d
    subst hw_d
    by_cases hi0 : i = 0
    ·have hi0' : (i : Int) = 0 := by omega
     simp only [if_pos hi0] at j2
     simp [c71t, hdl, hi, hi', hdE, eq_true hi0, k7]
     refine ATT.callT Tryz.func71 60 (hcall _ _ p fr true (by omega) (by simp; omega) (hC.more _) _ _ (by simp) (by simp)) (by simp) (by simp) (by simp) fun out hC hE => ?_
     cases hr : useP sl fr true y with
     | inr a =>
      rw [hr] at hE j2
      obtain ⟨e1, e2, e3⟩ := hE
      subst e1
      rw [j2] at hQ
      exact hQ _ _ ⟨rfl, e2, e3⟩
     | inl us =>
      have hus := useP_len hr
      rw [hr, catU_assoc] at j2
      rw [hr] at hE
      obtain ⟨b, c, e1, e2⟩ := hE
      subst e1 e2
      simp [c71t, hII]
      refine ih (i + 1, dn ++ us) (by first | ((try dsimp only); omega) | (simp [hdl, hi, hi', hd, hdE, hII, eq_true hi0, k7] <;> omega)) (by (try dsimp only); exact ⟨hi, by simpa using j2, by simp; omega⟩) _ _ _ (by simp <;> omega) (by simp <;> omega) (by simp [k7] <;> omega)
    ·have hi0' : ¬ (i : Int) = 0 := by omega
     simp only [if_neg hi0] at j2
     simp [c71t, hdl, hi, hi', hdE, hi0, k7]
     refine ATT.callT Tryz.func71 60 (hcall _ _ p fr false (by omega) (by simp; omega) (hC.more _) _ _ (by simp) (by simp)) (by simp) (by simp) (by simp) fun out hC hE => ?_
     cases hr : useP sl fr false y with
     | inr a =>
      rw [hr] at hE j2
      obtain ⟨e1, e2, e3⟩ := hE
      subst e1
      rw [j2] at hQ
      exact hQ _ _ ⟨rfl, e2, e3⟩
     | inl us =>
      have hus := useP_len hr
      rw [hr, catU_assoc] at j2
      rw [hr] at hE
      obtain ⟨b, c, e1, e2⟩ := hE
      subst e1 e2
      simp [c71t, hII]
      refine ih (i + 1, dn ++ us) (by first | ((try dsimp only); omega) | (simp [hdl, hi, hi', hd, hdE, hII, hi0, k7] <;> omega)) (by (try dsimp only); exact ⟨hi, by simpa using j2, by simp; omega⟩) _ _ _ (by simp <;> omega) (by simp <;> omega) (by simp [k7] <;> omega)
   ·have hi' : ¬ (i : Int) < x.kids.length := by omega
    rw [List.drop_eq_nil_of_le (by omega)] at j2
    simp only [useL] at j2
    rw [catU_end] at j2
    rw [j2] at hQ
    simp [c71t, hi']
    refine ATT.fin0' hQ Tryz.func71 c71res ?_
    simp [WQ]
    all_goals (first | omega | exact ⟨_, rfl⟩ | skip)
  by_cases k8 : x.k = 8
  ·have ht : tk = true := by rw [← htk, k8]; rfl
   subst ht
   refine AF.start' 60 Tryz.func71 rfl rfl c71call c71ok fun Q hQ => ?_
   simp [c71c, c71t, k8, hdl]
   refine ATT.loopG 60 c71l21.eq_1 (fun ((i, dn) : Nat × List Us) => x.kids.length - i) (fun ((i, dn) : Nat × List Us) => i ≤ x.kids.length ∧ useL sl fr true x.kids = catU (.inl dn) (useL sl fr (if i = 0 then true else false) (x.kids.drop i)) ∧ dn.length + ndL (x.kids.drop i) ≤ ndL x.kids) (fun ((i, dn) : Nat × List Us) => [(0, .ptr 0 0), (2, p), (5, .ptr (bs.length + 1) 0), (101, .d (.sl nl2 z2 ds)), (102, .d (.int .i64 x.kids.length)), (103, .d (.int .i64 i))]) (fun ((i, dn) : Nat × List Us) => WK sl snl sz (l ++ dn).length :: (bs ++ [.cells [.d (.int .i64 x.k), .d (.str x.t), .d (.int .i64 x.a), .d (.int .i64 x.n), .d (.sl nl1 z1 (x.names.map .str)), .d (.sl nl2 z2 ds)] 50])) (fun ((i, dn) : Nat × List Us) => WU (l ++ dn) :: cs) ((0, [])) (by (try dsimp only); exact ⟨Nat.zero_le _, by rw [catU_nil]; rfl, by simp⟩) (by simp <;> omega) (by simp) (by simp [k8]) ?_
   intro ⟨i, dn⟩ u w hI ih
   try simp only at hI ih
   obtain ⟨j1, j2, j3⟩ := hI
   by_cases hi : i < x.kids.length
   ·have hnl2 : nl2 = false := by cases nl2 with | false => rfl | true => (have := h3 rfl; rw [this] at hi; simp at hi)
    subst hnl2
    have := h4 rfl
    subst this
    obtain ⟨y, hy⟩ : ∃ y, x.kids[i]? = some y := ⟨_, List.getElem?_eq_getElem hi⟩
    obtain ⟨d, hd, hyd⟩ := h5.at hy
    have hdE : ∀ h, ds[i]'h = d := fun h => by rw [List.getElem?_eq_getElem h] at hd; simpa using hd
    have hi' : (i : Int) < x.kids.length := by omega
    have hII : inI ((i : Int) + 1) = true := inI_of (by omega) (by omega)
    have hcall := ihn y (by have := kid_lt hy; omega) (GoodL.iff.1 hg.all y (List.mem_of_getElem? hy)) d hyd (l ++ dn)
    rw [nd_drop hy] at j2 j3
    simp only [useL] at j2
    simp only [ndL] at j3
    obtain ⟨nl1_d, z1_d, nl2_d, z2_d, ds_d, hv_d, ha_d, hb_d, hc_d, hd_d, he_d⟩ := hyd.shape
    have hw_d := hv_d
    subst hw_d
    by_cases hi0 : i = 0
    ·have hi0' : (i : Int) = 0 := by omega
     simp only [if_pos hi0] at j2
     simp [c71t, hdl, hi, hi', hdE, eq_true hi0, k8]
     refine ATT.callT Tryz.func71 60 (hcall _ _ p fr true (by omega) (by simp; omega) (hC.more _) _ _ (by simp) (by simp)) (by simp) (by simp) (by simp) fun out hC hE => ?_
     cases hr : useP sl fr true y with
     | inr a =>
      rw [hr] at hE j2
      obtain ⟨e1, e2, e3⟩ := hE
      subst e1
      rw [j2] at hQ
      exact hQ _ _ ⟨rfl, e2, e3⟩
     | inl us =>
      have hus := useP_len hr
      rw [hr, catU_assoc] at j2
      rw [hr] at hE
      obtain ⟨b, c, e1, e2⟩ := hE
      subst e1 e2
      simp [c71t, hII]
      refine ih (i + 1, dn ++ us) (by first | ((try dsimp only); omega) | (simp [hdl, hi, hi', hd, hdE, hII, eq_true hi0, k8] <;> omega)) (by (try dsimp only); exact ⟨hi, by simpa using j2, by simp; omega⟩) _ _ _ (by simp <;> omega) (by simp <;> omega) (by simp [k8] <;> omega)
    ·have hi0' : ¬ (i : Int) = 0 := by omega
     simp only [if_neg hi0] at j2
     simp [c71t, hdl, hi, hi', hdE, hi0, k8]
     refine ATT.callT Tryz.func71 60 (hcall _ _ p fr false (by omega) (by simp; omega) (hC.more _) _ _ (by simp) (by simp)) (by simp) (by simp) (by simp) fun out hC hE => ?_
     cases hr : useP sl fr false y with
     | inr a =>
      rw [hr] at hE j2
      obtain ⟨e1, e2, e3⟩ := hE
      subst e1
      rw [j2] at hQ
      exact hQ _ _ ⟨rfl, e2, e3⟩
     | inl us =>
      have hus := useP_len hr
      rw [hr, catU_assoc] at j2
      rw [hr] at hE
      obtain ⟨b, c, e1, e2⟩ := hE
      subst e1 e2
      simp [c71t, hII]
      refine ih (i + 1, dn ++ us) (by first | ((try dsimp only); omega) | (simp [hdl, hi, hi', hd, hdE, hII, hi0, k8] <;> omega)) (by (try dsimp only); exact ⟨hi, by simpa using j2, by simp; omega⟩) _ _ _ (by simp <;> omega) (by simp <;> omega) (by simp [k8] <;> omega)
   ·have hi' : ¬ (i : Int) < x.kids.length := by omega
    rw [List.drop_eq_nil_of_le (by omega)] at j2
    simp only [useL] at j2
    rw [catU_end] at j2
    rw [j2] at hQ
    simp [c71t, hi']
    refine ATT.fin0' hQ Tryz.func71 c71res ?_
    simp [WQ]
    all_goals (first | omega | exact ⟨_, rfl⟩ | skip)
  have ht : tk = false := by rw [← htk]; simp [k7, k8]
  subst ht
  refine AF.start' 60 Tryz.func71 rfl rfl c71call c71ok fun Q hQ => ?_
  simp [c71c, c71t, k5, k6, k10, hdl]
  refine ATT.loopG 60 c71l21.eq_1 (fun ((i, dn) : Nat × List Us) => x.kids.length - i) (fun ((i, dn) : Nat × List Us) => i ≤ x.kids.length ∧ useL sl fr false x.kids = catU (.inl dn) (useL sl fr (if i = 0 then false else false) (x.kids.drop i)) ∧ dn.length + ndL (x.kids.drop i) ≤ ndL x.kids) (fun ((i, dn) : Nat × List Us) => [(0, .ptr 0 0), (2, p), (5, .ptr (bs.length + 1) 0), (101, .d (.sl nl2 z2 ds)), (102, .d (.int .i64 x.kids.length)), (103, .d (.int .i64 i))]) (fun ((i, dn) : Nat × List Us) => WK sl snl sz (l ++ dn).length :: (bs ++ [.cells [.d (.int .i64 x.k), .d (.str x.t), .d (.int .i64 x.a), .d (.int .i64 x.n), .d (.sl nl1 z1 (x.names.map .str)), .d (.sl nl2 z2 ds)] 50])) (fun ((i, dn) : Nat × List Us) => WU (l ++ dn) :: cs) ((0, [])) (by (try dsimp only); exact ⟨Nat.zero_le _, by rw [catU_nil]; rfl, by simp⟩) (by simp <;> omega) (by simp) (by simp) ?_
  intro ⟨i, dn⟩ u w hI ih
  try simp only at hI ih
  obtain ⟨j1, j2, j3⟩ := hI
  by_cases hi : i < x.kids.length
  ·have hnl2 : nl2 = false := by cases nl2 with | false => rfl | true => (have := h3 rfl; rw [this] at hi; simp at hi)
   subst hnl2
   have := h4 rfl
   subst this
   obtain ⟨y, hy⟩ : ∃ y, x.kids[i]? = some y := ⟨_, List.getElem?_eq_getElem hi⟩
   obtain ⟨d, hd, hyd⟩ := h5.at hy
   have hdE : ∀ h, ds[i]'h = d := fun h => by rw [List.getElem?_eq_getElem h] at hd; simpa using hd
   have hi' : (i : Int) < x.kids.length := by omega
   have hII : inI ((i : Int) + 1) = true := inI_of (by omega) (by omega)
   have hcall := ihn y (by have := kid_lt hy; omega) (GoodL.iff.1 hg.all y (List.mem_of_getElem? hy)) d hyd (l ++ dn)
   rw [nd_drop hy] at j2 j3
   simp only [useL] at j2
   simp only [ndL] at j3
   obtain ⟨nl1_d, z1_d, nl2_d, z2_d, ds_d, hv_d, ha_d, hb_d, hc_d, hd_d, he_d⟩ := hyd.shape
   have hw_d := hv_d
   subst hw_d
   by_cases hi0 : i = 0
   ·have hi0' : (i : Int) = 0 := by omega
    simp only [if_pos hi0] at j2
    simp [c71t, hdl, hi, hi', hdE, eq_true hi0, k7, k8]
    refine ATT.callT Tryz.func71 60 (hcall _ _ p fr false (by omega) (by simp; omega) (hC.more _) _ _ (by simp) (by simp)) (by simp) (by simp) (by simp) fun out hC hE => ?_
    cases hr : useP sl fr false y with
    | inr a =>
     rw [hr] at hE j2
     obtain ⟨e1, e2, e3⟩ := hE
     subst e1
     rw [j2] at hQ
     exact hQ _ _ ⟨rfl, e2, e3⟩
    | inl us =>
     have hus := useP_len hr
     rw [hr, catU_assoc] at j2
     rw [hr] at hE
     obtain ⟨b, c, e1, e2⟩ := hE
     subst e1 e2
     simp [c71t, hII]
     refine ih (i + 1, dn ++ us) (by first | ((try dsimp only); omega) | (simp [hdl, hi, hi', hd, hdE, hII, eq_true hi0, k7, k8] <;> omega)) (by (try dsimp only); exact ⟨hi, by simpa using j2, by simp; omega⟩) _ _ _ (by simp <;> omega) (by simp <;> omega) (by simp <;> omega)
   ·have hi0' : ¬ (i : Int) = 0 := by omega
    simp only [if_neg hi0] at j2
    simp [c71t, hdl, hi, hi', hdE, hi0]
    refine ATT.callT Tryz.func71 60 (hcall _ _ p fr false (by omega) (by simp; omega) (hC.more _) _ _ (by simp) (by simp)) (by simp) (by simp) (by simp) fun out hC hE => ?_
    cases hr : useP sl fr false y with
    | inr a =>
     rw [hr] at hE j2
     obtain ⟨e1, e2, e3⟩ := hE
     subst e1
     rw [j2] at hQ
     exact hQ _ _ ⟨rfl, e2, e3⟩
    | inl us =>
     have hus := useP_len hr
     rw [hr, catU_assoc] at j2
     rw [hr] at hE
     obtain ⟨b, c, e1, e2⟩ := hE
     subst e1 e2
     simp [c71t, hII]
     refine ih (i + 1, dn ++ us) (by first | ((try dsimp only); omega) | (simp [hdl, hi, hi', hd, hdE, hII, hi0, k7, k8] <;> omega)) (by (try dsimp only); exact ⟨hi, by simpa using j2, by simp; omega⟩) _ _ _ (by simp <;> omega) (by simp <;> omega) (by simp <;> omega)
  ·have hi' : ¬ (i : Int) < x.kids.length := by omega
   rw [List.drop_eq_nil_of_le (by omega)] at j2
   simp only [useL] at j2
   rw [catU_end] at j2
   rw [j2] at hQ
   simp [c71t, hi']
   refine ATT.fin0' hQ Tryz.func71 c71res ?_
   simp [WQ]
   all_goals (first | omega | exact ⟨_, rfl⟩ | skip)
end Go.SL
namespace Go.SL
open Go.Proofs
set_option maxRecDepth 10000
theorem f44_none (nb : Bx) (c1 x1 x2 : V) (T : TypeId) (b : List Bx) (c : List (Option Vec)) :
  DCl Tryz.prog 44 [.ptr 1 0, .ptr 2 0, .ptr 3 0] none ⟨nb :: .cells [c1] T :: .cells [x1] 3 :: .cells [x2] 26 :: b, c⟩ fun h => ∃ b c, h = ⟨nb :: .cells [c1] T :: .cells [x1] 3 :: .cells [x2] 26 :: b, c⟩ := by
 refine DCl.of (ac := c44c) (ann := c44a) 60 Tryz.func44 rfl rfl c44call (fun _ _ => rfl) rfl rfl (by decide) c44ok ?_
 simp [c44c, c44t, recV]
 refine ATT.fin0' (fun _ _ h => h) Tryz.func44 c44res ?_
 exact ⟨by simp, ⟨_, rfl⟩, _, _, rfl⟩
theorem f44_some (a : Nat) (nb : Bx) (c1 x1 x2 : V) (T : TypeId) (b : List Bx) (c : List (Option Vec)) :
  DCl Tryz.prog 44 [.ptr 1 0, .ptr 2 0, .ptr 3 0] (some (stopW a)) ⟨nb :: .cells [c1] T :: .cells [x1] 3 :: .cells [x2] 26 :: b, c⟩ fun h => ∃ b c, h = ⟨nb :: .cells [.d (.sl true 0 [])] T :: .cells [.d (.int .i64 a)] 3 :: .cells [.d (.int .i64 21)] 26 :: b, c⟩ := by
 refine DCl.of (ac := c44c) (ann := c44a) 60 Tryz.func44 rfl rfl c44call (fun _ _ => rfl) rfl rfl (by decide) c44ok ?_
 simp [c44c, c44t, recV, stopW]
 refine ATT.fin0' (fun _ _ h => h) Tryz.func44 c44res ?_
 exact ⟨by simp, ⟨_, rfl⟩, _, _, rfl⟩
theorem mapD_c {α : Type} (h : H) (n : Nat) (g : α → D) (l : List α) : mapD (toDv h n) (l.map (V.d ∘ g)) = some (l.map g) := by
 rw [← List.map_map]; exact mapD_d h n _
def ReR (r : List Us ⊕ Nat) (v : D) : Prop := match r with
 | .inl us => v = .tup [.sl us.isEmpty 6 (us.map usD), .int .i64 0, .int .i64 0]
 | .inr a => v = .tup [.sl true 0 [], .int .i64 a, .int .i64 21]
def ReQ (T : TypeId) (r : List Us ⊕ Nat) (o : Out) (h : H) : Prop := match r with
 | .inl us => ∃ nb b c, (∃ v, o = .ret v) ∧ h = ⟨nb :: .cells [.d (.sl us.isEmpty 6 (us.map usD))] T :: .cells [.d (.int .i64 0)] 3 :: .cells [.d (.int .i64 0)] 26 :: b, c⟩
 | .inr a => ∃ nb c1 x1 x2 b c, o = .pan (stopW a) ∧ h = ⟨nb :: .cells [c1] T :: .cells [x1] 3 :: .cells [x2] 26 :: b, c⟩
set_option maxHeartbeats 1000000 in
theorem f30_ok {sl : List ByteArray} (hsl : sl.length ≤ 1048576) {snl : Bool} {sz : Nat} (hs1 : snl = true → sl = []) (hs2 : snl = false → sz = 1) {Q0 : ByteArray → Nat → Prop} (x : Nd) (hg : Good Q0 x) (hn : nds x ≤ 1000000) (u : D) (hu : NdR x u) :
  DE Tryz.prog 30 [u, .sl snl sz (sl.map .str)] (ReR (useU sl [] x)) := by
 have hU := f45_ok (sl := sl) (snl := snl) (sz := sz) x hg (fun y hy => f71_ok hsl hs1 hs2 _ y (Nat.le_refl _) (GoodL.iff.1 hg.all y hy)) u hu [] [] [] (.d .nilP) [] (by simpa using hn) (by simpa using hn) rfl _ _ rfl rfl
 obtain ⟨nl1, z1, nl2, z2, ds, e, h1, h2, h3, h4, h5⟩ := hu.shape
 subst e
 refine AF.start' 60 Tryz.func30 rfl rfl c30call c30ok fun Q hQ => ?_
 simp [c30c, c30t]
 refine ATT.defer (ReQ 73 (useU sl [] x)) Tryz.func30 60 [(4, .ptr 1 0), (5, .ptr 2 0), (6, .ptr 3 0)] (by simp; rfl) c44call c30res rfl ?_ ?_
 ·simp [c30t]
  refine ATT.nilB 4 1 6 146 rfl rfl (by decide) (by simp) ?_
  simp
  refine ATT.callA Tryz.func30 60 [4] [0] 0 0 hU (by simp) (by simp) (by simp) (by simp) (by simp) (fun out hC hE => ?_) (by simp)
  cases hr : useU sl [] x with
  | inr a =>
   rw [hr] at hE
   obtain ⟨e1, e2, e3⟩ := hE
   subst e1
   obtain ⟨hb, hc⟩ := hC
   cases hb with
   | nil => simp at e2
   | cons y yr =>
    cases hc with
    | nil => simp at e3
    | cons v vr =>
     refine ⟨by simp, ?_⟩
     simp [stopW]
     exact ⟨_, _, _, _, _, _, rfl, rfl⟩
  | inl us =>
   rw [hr] at hE
   obtain ⟨b, c, e1, e2⟩ := hE
   subst e1 e2
   refine ⟨by simp, ?_⟩
   simp [c30t]
   have hrn : rns [4] [0] (us.map fun u => V.d (usD u)) = (us.map usD).map .d := by
    rw [← rns_data [4] [0] (us.map usD), List.map_map]; rfl
   rw [hrn]
   refine ATT.fz (by simp) ?_
   simp [mapD_c]
   refine ATT.finD Tryz.func30 (by simp) rfl (by simp) ?_
   exact ⟨_, _, _, ⟨_, rfl⟩, rfl⟩
 ·intro out h1 hq
  cases hr : useU sl [] x with
  | inr a =>
   rw [hr] at hq hQ
   obtain ⟨nb, c1, x1, x2, b, c, e1, e2⟩ := hq
   subst e1 e2
   refine (f44_some a nb c1 x1 x2 73 b c).mono fun h ⟨b', c', e⟩ => ?_
   subst e
   exact ⟨_, rfl, hQ _ _ ⟨_, rfl, rfl⟩⟩
  | inl us =>
   rw [hr] at hq hQ
   obtain ⟨nb, b, c, ⟨v, e1⟩, e2⟩ := hq
   subst e1 e2
   refine (f44_none nb _ _ _ 73 b c).mono fun h ⟨b', c', e⟩ => ?_
   subst e
   exact ⟨_, rfl, hQ _ _ ⟨_, rfl, rfl⟩⟩
end Go.SL
namespace Go.SL
open Go.Proofs Go.RowKit
set_option maxRecDepth 10000
theorem DF.lib {f : FuncId} {ds : List D} {v : D} (hcal : callable Tryz.prog f = true)
  (h : ∀ (κ : K) (w : World) (argv : List Value) (m : Int), w.cell? ⟨0, 0, none⟩ = some (.int .i64 m) → VL κ (ds.map .d) argv → Calls Tryz.prog f ⟨argv⟩ w fun e w' => ∃ x, e = .returned x ∧ DR κ.S v x ∧ Below w.heap.size w w') : DF Tryz.prog f ds v := by
 refine ⟨hcal, fun κ w argv hr hv => ?_⟩
 obtain ⟨m, ty, fz, hm⟩ := κ.mx
 have hm2 : w.heap[0]? = some (.cells #[.int .i64 m] ty fz) := (hr.rest _ _ hm).2
 have lt : ∀ {b : Nat} {o : Obj}, w.heap[b]? = some o → b < w.heap.size := fun h => (Array.getElem?_eq_some_iff.1 h).1
 refine (h κ w argv m (by simp [World.cell?, hm2]) hv).mono fun e w' ⟨x, he, hx, hb⟩ => ⟨κ, ⟨[], []⟩, .ret (.d v), rfl, Le.refl κ, ?_, ⟨x, he, by simpa only [VR] using hx⟩⟩
 refine ⟨fun b o v e => ?_, hr.SO, hr.nb, hr.nv, fun i x hx => by simp at hx, fun i x hx => by simp at hx, fun b o e => ?_, hb.os.trans hr.os, hb.output.trans hr.out, hb.tape.trans hr.tape⟩
 ·have h1 := hr.S b o v e
  simp only [World.cell?] at h1 ⊢
  cases h2 : w.heap[b]? with
  | none => simp [h2] at h1
  | some ob =>
   rw [h2] at h1
   rw [hb.block b (lt h2), h2]
   exact h1
 ·have h1 := hr.rest b o e
  exact ⟨h1.1, (hb.block b (lt h1.2)).trans h1.2⟩
def replT (t : ByteArray) : ByteArray := ⟨(Lib.replaceAll t.data.toList [39] [39, 39]).toArray⟩
theorem f168_ok (t : ByteArray) (hs : t.size ≤ 1048576) : DF Tryz.prog 168 [.str t, .str ⟨#[39]⟩, .str ⟨#[39, 39]⟩] (.str (replT t)) := by
 refine DF.lib (by kernel_rfl) fun κ w argv m hm hv => ?_
 simp only [List.map_cons, List.map_nil, VL, VR, DR] at hv
 obtain ⟨_, _, e1, rfl, _, _, e2, rfl, _, _, e3, rfl, e4⟩ := hv
 subst e1 e2 e3 e4
 have hc := Lib.countB_mul_le ⟨#[39]⟩ (by decide) t.size t (Nat.le_refl _)
 have h1 : (⟨#[39]⟩ : ByteArray).size = 1 := rfl
 have h2 : (⟨#[39, 39]⟩ : ByteArray).size = 2 := rfl
 rw [h1] at hc
 refine (Tryz.strings_ReplaceAll t ⟨#[39]⟩ ⟨#[39, 39]⟩ m w (by omega) hm (by decide) (by rw [h2]; omega)).mono fun e w' ⟨he, hb⟩ => ⟨_, he, by simp only [DR]; rfl, hb⟩
theorem replK_len : ∀ (k : Nat) (s : List UInt8), (Lib.replaceK [39] [39, 39] k s).length ≤ s.length + 2 * k
 | 0, s => by simp [Lib.replaceK]
 | k + 1, s => by
  simp only [Lib.replaceK]
  split
  ·omega
  ·have := replK_len k (s.drop ((Lib.index s [39]).toNat + [39].length))
   simp only [List.length_append, List.length_take, List.length_drop, List.length_cons, List.length_nil] at this ⊢
   omega
theorem replT_size (t : ByteArray) : (replT t).size ≤ 3 * t.size := by
 have hc := Lib.countB_mul_le ⟨#[39]⟩ (by decide) t.size t (Nat.le_refl _)
 have h1 : (⟨#[39]⟩ : ByteArray).size = 1 := rfl
 rw [h1] at hc
 have e : replT t = ⟨(Lib.replaceK [39] [39, 39] (Lib.countB t ⟨#[39]⟩) t.data.toList).toArray⟩ := by
  unfold replT Lib.replaceAll Lib.replace
  rw [if_neg (by decide)]
  unfold Lib.replaceNum
  rw [if_pos (.inl (by decide))]
 rw [e]
 have := replK_len (Lib.countB t ⟨#[39]⟩) t.data.toList
 have h2 : t.data.toList.length = t.size := rfl
 show (List.toArray _).size ≤ _
 simp only [List.size_toArray]
 omega
def quoteT (t : ByteArray) : ByteArray := ⟨#[39]⟩ ++ replT t ++ ⟨#[39]⟩
theorem quoteT_size (t : ByteArray) : (quoteT t).size ≤ 3 * t.size + 2 := by
 have := replT_size t
 have h1 : (⟨#[39]⟩ : ByteArray).size = 1 := rfl
 simp only [quoteT, ByteArray.size_append, h1]
 omega
theorem f146_ok (t : ByteArray) (hs : t.size ≤ 1048576) : DF Tryz.prog 146 [.str t] (.str (quoteT t)) := by
 have hr := replT_size t
 have h1 : (⟨#[39]⟩ : ByteArray).size = 1 := rfl
 have h2 : 1 + (replT t).size ≤ 9223372036854775807 := by omega
 have h3 : 1 + (replT t).size + 1 ≤ 9223372036854775807 := by omega
 refine AF.start' 60 Tryz.func146 rfl rfl c146call c146ok fun Q hQ => ?_
 simp [c146c, c146t]
 refine ATT.callD Tryz.func146 60 (f168_ok t hs) (by simp) (by simp) (by simp) ?_
 simp [h1, h2, h3]
 refine ATT.fin' hQ Tryz.func146 c146res ?_
 simp [quoteT]
 all_goals (first | omega | exact ⟨_, rfl⟩ | skip)
def plainSym (t : ByteArray) : Bool := !decide (t = ⟨#[]⟩) && (!decide (sbyte t 0 = 39) && (symB t 0 && decide (symT t 0 = t)))
theorem f147_ok (t : ByteArray) (hs : t.size ≤ 1048576) : DF Tryz.prog 147 [.str t] (.bool (plainSym t)) := by
 have hS := f103_ok t (by omega) 0 (Nat.zero_le _)
 by_cases h0 : t = ⟨#[]⟩
 ·have e : plainSym t = false := by unfold plainSym; simp [h0]
  rw [e]
  refine AF.start' 60 Tryz.func147 rfl rfl c147call c147ok fun Q hQ => ?_
  simp [c147c, c147t, eq_true h0]
  refine ATT.fin' hQ Tryz.func147 c147res ?_
  simp
  all_goals (first | omega | exact ⟨_, rfl⟩ | skip)
 have hz : 0 < t.size := by
  rcases Nat.eq_zero_or_pos t.size with h | h
  ·exact absurd (by rcases t with ⟨d⟩; have : d.size = 0 := h; simp at this; rw [this]) h0
  ·exact h
 have hi : inR 0 t.size = true := inR_of (by omega) (by omega)
 by_cases h39 : sbyte t 0 = 39
 ·have e : plainSym t = false := by unfold plainSym; simp [h39]
  rw [e]
  refine AF.start' 60 Tryz.func147 rfl rfl c147call c147ok fun Q hQ => ?_
  simp [c147c, c147t, h0, hi, eq_true h39]
  refine ATT.fin' hQ Tryz.func147 c147res ?_
  simp
  all_goals (first | omega | exact ⟨_, rfl⟩ | skip)
 have e : plainSym t = (symB t 0 && decide (symT t 0 = t)) := by unfold plainSym; simp [h0, h39]
 rw [e]
 refine AF.start' 60 Tryz.func147 rfl rfl c147call c147ok fun Q hQ => ?_
 simp [c147c, c147t, h0, hi, h39]
 refine ATT.callM Tryz.func147 60 [0] (hS) rfl (by simp) (by simp) (by simp) (by simp) (by simp) ?_
 simp [c147t]
 cases hb : symB t 0 with
 | true =>
  simp
  refine ATT.fin' hQ Tryz.func147 c147res ?_
  simp [hb]
  all_goals (first | omega | exact ⟨_, rfl⟩ | skip)
 | false =>
  simp
  refine ATT.fin' hQ Tryz.func147 c147res ?_
  simp [hb]
  all_goals (first | omega | exact ⟨_, rfl⟩ | skip)
end Go.SL
namespace Go.SL
open Go.Proofs
set_option maxRecDepth 10000
@[simp] theorem bsV_nil : bsV [] = [] := rfl
theorem hTW : hasT bldL 191 2 = true := by decide
mutual
def litT : Nd → List UInt8
 | .mk k t _ _ _ kids =>
  if k = 2 then (quoteT t).data.toList
  else if k = 3 then 35 :: (if plainSym t then t else quoteT t).data.toList
  else if k = 4 then 35 :: 40 :: (litTL true kids ++ [41])
  else t.data.toList
def litTL : Bool → List Nd → List UInt8
 | _, [] => []
 | f, x :: r => (if f then [] else [32]) ++ (litT x ++ litTL false r)
end
mutual
theorem litT_len {Q : ByteArray → Nat → Prop} : ∀ {x : Nd}, Good Q x → LitP x → (litT x).length + 1 ≤ nds x * 4000000
 | .mk k t a n names kids, hg, hl => by
  simp only [LitP] at hl
  have ho := hg.one.2.2.2.2.2.2
  simp only [Nd.k, Nd.t] at ho
  have hq := quoteT_size t
  have sz : ∀ b : ByteArray, b.data.toList.length = b.size := fun b => rfl
  simp only [litT, nds]
  split
  ·rename_i hk
   have := ho (by omega)
   rw [sz]; omega
  split
  ·rename_i hk
   have := ho (by omega)
   simp only [List.length_cons, sz]
   split <;> omega
  split
  ·have := litTL_len (f := true) hg.all hl.2
   simp only [List.length_cons, List.length_append, List.length_nil, Nd.kids] at this ⊢
   omega
  ·have := ho (by omega)
   rw [sz]; omega
theorem litTL_len {Q : ByteArray → Nat → Prop} : ∀ {f : Bool} {l : List Nd}, GoodL Q l → LitL l → (litTL f l).length ≤ ndL l * 4000000
 | f, [], _, _ => by simp [litTL]
 | f, x :: r, hg, hl => by
  simp only [GoodL] at hg
  simp only [LitL] at hl
  have h1 := litT_len hg.1 hl.1
  have h2 := litTL_len (f := false) hg.2 hl.2
  simp only [litTL, ndL, List.length_append]
  have : (if f = true then ([] : List UInt8) else [32]).length ≤ 1 := by split <;> simp
  omega
end
def NodeW (x : Nd) : Prop := ∀ u, NdR x u → ∀ (b : Bool) (l : List UInt8), l.length + (litT x).length ≤ 1000000000000 →
 VF Tryz.prog 108 [.ptr 0 0, .d u] [BB 0 0 191 b l] [BV 5 0 l] (.d (.tup [])) [BB 0 0 191 true (l ++ litT x)] [BV 5 0 (l ++ litT x)]
theorem f148_ok (kids : List Nd) (hk : ∀ y ∈ kids, NodeW y) (hn : kids.length ≤ 10000) (nl : Bool) (z : Nat) (ds : List D) (h3 : nl = true → kids = []) (h4 : nl = false → z = 6) (h5 : NdRL kids ds) (l : List UInt8) (hl : l.length + (litTL true kids).length ≤ 1000000000000) :
  VF Tryz.prog 148 [.ptr 0 0, .d (.sl nl z ds), .d (.str ⟨#[32]⟩)] [BB 0 0 191 true l] [BV 5 0 l] (.d (.tup [])) [BB 0 0 191 true (l ++ litTL true kids)] [BV 5 0 (l ++ litTL true kids)] := by
 have hdl := h5.length
 refine AF.start' 60 Tryz.func148 rfl rfl c148call c148ok fun Q hQ => ?_
 simp [c148c, c148t, hdl]
 refine ATT.loopG 60 c148l7.eq_1 (fun ((i, c) : Nat × List UInt8) => kids.length - i) (fun ((i, c) : Nat × List UInt8) => i ≤ kids.length ∧ l ++ litTL true kids = c ++ litTL (decide (i = 0)) (kids.drop i)) (fun ((i, c) : Nat × List UInt8) => [(0, .ptr 0 0), (2, .d (.str ⟨#[32]⟩)), (8, .d (.sl nl z ds)), (9, .d (.int .i64 kids.length)), (10, .d (.int .i64 i))]) (fun ((i, c) : Nat × List UInt8) => [BB 0 0 191 true c]) (fun ((i, c) : Nat × List UInt8) => [BV 5 0 c]) ((0, l)) (by (try dsimp only); exact ⟨Nat.zero_le _, rfl⟩) (by simp <;> omega) (by simp) (by simp) ?_
 intro ⟨i, c⟩ u w hI ih
 try simp only at hI ih
 obtain ⟨i1, i2⟩ := hI
 by_cases hi : i < kids.length
 ·have hnl : nl = false := by cases nl with | false => rfl | true => (have := h3 rfl; rw [this] at hi; simp at hi)
  subst hnl
  have := h4 rfl
  subst this
  obtain ⟨y, hy⟩ : ∃ y, kids[i]? = some y := ⟨_, List.getElem?_eq_getElem hi⟩
  obtain ⟨d, hd, hyd⟩ := h5.at hy
  have hdE : ∀ h, ds[i]'h = d := fun h => by rw [List.getElem?_eq_getElem h] at hd; simpa using hd
  have hi' : (i : Int) < kids.length := by omega
  have hII : inI ((i : Int) + 1) = true := inI_of (by omega) (by omega)
  have hlen := congrArg List.length i2
  rw [nd_drop hy] at i2 hlen
  simp only [litTL, List.length_append] at i2 hlen
  have hN := hk y (List.mem_of_getElem? hy) d hyd
  obtain ⟨nl1_d, z1_d, nl2_d, z2_d, ds_d, hv_d, ha_d, hb_d, hc_d, hd_d, he_d⟩ := hyd.shape
  have hw_d := hv_d
  subst hw_d
  by_cases hi0 : i = 0
  ·rw [decide_eq_true hi0] at i2 hlen
   simp only [if_true, List.nil_append, List.length_nil] at i2 hlen
   have hi0' : ¬ 0 < i := by omega
   simp [c148t, hdl, hi, hi', hdE, hi0']
   refine ATT.callV Tryz.func148 60 [0] [0] (hN true c (by omega)) (by simp) (by simp) (by simp) (by simp) (by simp) (by simp) (by simp) ?_
   simp [c148t, hII]
   refine ih (i + 1, c ++ litT y) (by first | ((try dsimp only); omega) | (simp [hdl, hi, hi', hd, hdE, hII, hi0'] <;> omega)) (by (try dsimp only); exact ⟨hi, by rw [i2]; simp⟩) _ _ _ (by simp <;> omega) (by simp <;> omega) (by simp [bsV] <;> omega)
  ·rw [decide_eq_false hi0] at i2 hlen
   simp only [Bool.false_eq_true, if_false, List.length_cons, List.length_nil] at i2 hlen
   have hi0' : 0 < i := by omega
   have h32 : (⟨#[32]⟩ : ByteArray).size = 1 := rfl
   simp [c148t, hdl, hi, hi', hdE, hi0']
   refine ATT.callV Tryz.func148 60 [0] [0] (f145_ok 191 hTW true c ⟨#[32]⟩ (by rw [h32]; omega)) (by simp) (by simp) (by simp) (by simp) (by simp) (by simp) (by simp) ?_
   simp [c148t]
   refine ATT.callV Tryz.func148 60 [0] [0] (hN true (c ++ [32]) (by simp; omega)) (by simp) (by simp) (by simp) (by simp) (by simp) (by simp) (by simp) ?_
   simp [c148t, hII]
   refine ih (i + 1, c ++ ([32] ++ litT y)) (by first | ((try dsimp only); omega) | (simp [hdl, hi, hi', hd, hdE, hII, hi0'] <;> omega)) (by (try dsimp only); exact ⟨hi, by rw [i2]; simp⟩) _ _ _ (by simp <;> omega) (by simp <;> omega) (by simp [bsV] <;> omega)
 ·have hi' : ¬ (i : Int) < kids.length := by omega
  rw [List.drop_eq_nil_of_le (by omega)] at i2
  simp only [litTL, List.append_nil] at i2
  rw [i2] at hQ
  simp [c148t, hi']
  refine ATT.fin0' hQ Tryz.func148 c148res ?_
  simp
  all_goals (first | omega | exact ⟨_, rfl⟩ | skip)
set_option maxHeartbeats 1000000 in
theorem f108_lit {Q0 : ByteArray → Nat → Prop} : ∀ (m : Nat) (x : Nd), SizeOf.sizeOf x ≤ m → Good Q0 x → LitP x → NodeW x := by
 intro m
 induction m with
 | zero => intro x h; cases x; simp at h
 | succ m ihn =>
  intro x hm hg hlit u hu b l hl
  obtain ⟨nl1, z1, nl2, z2, ds, e, h1, h2, h3, h4, h5⟩ := hu.shape
  subst e
  have ho := hg.one
  have hdl := h5.length
  have hlk : (x.k = 1 ∨ x.k = 2 ∨ x.k = 3 ∨ x.k = 13 ∨ x.k = 4) ∧ LitL x.kids := by cases x; simpa only [LitP, Nd.k, Nd.kids] using hlit
  have hsz := ho.2.2.2.2.2.2
  have sz : ∀ b : ByteArray, b.data.toList.length = b.size := fun b => rfl
  by_cases k2 : x.k = 2
  ·have ht := hsz (by omega)
   have e : litT x = (quoteT x.t).data.toList := by cases x; simp only [Nd.k] at k2; simp only [litT, if_pos k2, Nd.t]
   rw [e, sz] at hl
   rw [e]
   refine AF.start' 60 Tryz.func108 rfl rfl c108call c108ok fun Q hQ => ?_
   simp [c108c, c108t, k2]
   refine ATT.callRD Tryz.func108 60 (f146_ok x.t ht) (by simp) (by simp) (by simp) ?_
   simp
   refine ATT.callRV Tryz.func108 60 [0] [0] (f145_ok 191 hTW b l (quoteT x.t) (by omega)) (by simp) (by simp) (by simp) (by simp) (by simp) (by simp) (by simp) ?_
   simp
   refine ATT.fin0' hQ Tryz.func108 c108res ?_
   simp
   all_goals (first | omega | exact ⟨_, rfl⟩ | skip)
  by_cases k3 : x.k = 3
  ·have ht := hsz (by omega)
   have e : litT x = 35 :: (if plainSym x.t then x.t else quoteT x.t).data.toList := by cases x; simp only [Nd.k] at k2 k3; simp only [litT, if_neg k2, if_pos k3, Nd.t]; rfl
   have hP := f147_ok x.t ht
   have hq := quoteT_size x.t
   have h35 : (⟨#[35]⟩ : ByteArray).size = 1 := rfl
   rw [e] at hl
   rw [e]
   simp only [List.length_cons, sz] at hl
   cases hp : plainSym x.t with
   | true =>
    rw [hp] at hP hl
    simp only [if_true] at hl ⊢
    have hb : 1 + x.t.size ≤ 9223372036854775807 := by omega
    refine AF.start' 60 Tryz.func108 rfl rfl c108call c108ok fun Q hQ => ?_
    simp [c108c, c108t, k3]
    refine ATT.callD Tryz.func108 60 (hP) (by simp) (by simp) (by simp) ?_
    simp [c108t, h35, hb]
    refine ATT.callV Tryz.func108 60 [0] [0] (f145_ok 191 hTW b l (⟨#[35]⟩ ++ x.t) (by simp only [ByteArray.size_append, h35]; omega)) (by simp) (by simp) (by simp) (by simp) (by simp) (by simp) (by simp) ?_
    simp [h35]
    refine ATT.fin0' hQ Tryz.func108 c108res ?_
    simp
    all_goals (first | omega | exact ⟨_, rfl⟩ | skip)
   | false =>
    rw [hp] at hP hl
    simp only [Bool.false_eq_true, if_false] at hl ⊢
    have hb : 1 + (quoteT x.t).size ≤ 9223372036854775807 := by omega
    refine AF.start' 60 Tryz.func108 rfl rfl c108call c108ok fun Q hQ => ?_
    simp [c108c, c108t, k3]
    refine ATT.callD Tryz.func108 60 (hP) (by simp) (by simp) (by simp) ?_
    simp [c108t]
    refine ATT.callD Tryz.func108 60 (f146_ok x.t ht) (by simp) (by simp) (by simp) ?_
    simp [c108t, h35, hb]
    refine ATT.callV Tryz.func108 60 [0] [0] (f145_ok 191 hTW b l (⟨#[35]⟩ ++ quoteT x.t) (by simp only [ByteArray.size_append, h35]; omega)) (by simp) (by simp) (by simp) (by simp) (by simp) (by simp) (by simp) ?_
    simp [h35]
    refine ATT.fin0' hQ Tryz.func108 c108res ?_
    simp
    all_goals (first | omega | exact ⟨_, rfl⟩ | skip)
  by_cases k4 : x.k = 4
  ·have e : litT x = 35 :: 40 :: (litTL true x.kids ++ [41]) := by cases x; simp only [Nd.k] at k2 k3 k4; simp only [litT, if_neg k2, if_neg k3, if_pos k4, Nd.kids]
   have h2z : (⟨#[35, 40]⟩ : ByteArray).size = 2 := rfl
   rw [e] at hl
   rw [e]
   simp only [List.length_cons, List.length_append, List.length_nil] at hl
   have hL := f148_ok x.kids (fun y hy => by obtain ⟨i, hi⟩ := List.mem_iff_getElem?.1 hy; exact ihn y (by have := kid_lt hi; omega) (GoodL.iff.1 hg.all y hy) (LitL.iff.1 hlk.2 y hy)) ho.2.1 nl2 z2 ds h3 h4 h5 (l ++ [35, 40]) (by simp; omega)
   refine AF.start' 60 Tryz.func108 rfl rfl c108call c108ok fun Q hQ => ?_
   simp [c108c, c108t, k4]
   refine ATT.callV Tryz.func108 60 [0] [0] (f145_ok 191 hTW b l ⟨#[35, 40]⟩ (by rw [h2z]; omega)) (by simp) (by simp) (by simp) (by simp) (by simp) (by simp) (by simp) ?_
   simp [c108t]
   refine ATT.callV Tryz.func108 60 [0] [0] (hL) (by simp) (by simp) (by simp) (by simp) (by simp) (by simp) (by simp) ?_
   simp [c108t]
   refine ATT.callV Tryz.func108 60 [0] [0] (f140_ok 191 hTW true (l ++ ([35, 40] ++ litTL true x.kids)) (by simp; omega) 41) (by simp) (by simp) (by simp) (by simp) (by simp) (by simp) (by simp) ?_
   simp
   refine ATT.fin0' hQ Tryz.func108 c108res ?_
   simp
   all_goals (first | omega | exact ⟨_, rfl⟩ | skip)
  have ht := hsz (by omega)
  have e : litT x = x.t.data.toList := by cases x; simp only [Nd.k] at k2 k3 k4; simp only [litT, if_neg k2, if_neg k3, if_neg k4, Nd.t]
  rw [e, sz] at hl
  rw [e]
  by_cases k1 : x.k = 1
  ·skip
   refine AF.start' 60 Tryz.func108 rfl rfl c108call c108ok fun Q hQ => ?_
   simp [c108c, c108t, k1]
   refine ATT.callRV Tryz.func108 60 [0] [0] (f145_ok 191 hTW b l x.t (by omega)) (by simp) (by simp) (by simp) (by simp) (by simp) (by simp) (by simp) ?_
   simp
   refine ATT.fin0' hQ Tryz.func108 c108res ?_
   simp
   all_goals (first | omega | exact ⟨_, rfl⟩ | skip)
  ·have k13 : x.k = 13 := by omega
   refine AF.start' 60 Tryz.func108 rfl rfl c108call c108ok fun Q hQ => ?_
   simp [c108c, c108t, k13]
   refine ATT.callRV Tryz.func108 60 [0] [0] (f145_ok 191 hTW b l x.t (by omega)) (by simp) (by simp) (by simp) (by simp) (by simp) (by simp) (by simp) ?_
   simp
   refine ATT.fin0' hQ Tryz.func108 c108res ?_
   simp
   all_goals (first | omega | exact ⟨_, rfl⟩ | skip)
def litB (x : Nd) : ByteArray := ⟨(litT x).toArray⟩
theorem f73_lit {Q0 : ByteArray → Nat → Prop} (x : Nd) (hg : Good Q0 x) (hlit : LitP x) (hn : nds x ≤ 200000) (u : D) (hu : NdR x u) : DF Tryz.prog 73 [u] (.str (litB x)) := by
 have hlen := litT_len hg hlit
 have hN := f108_lit _ x (Nat.le_refl _) hg hlit u hu false [] (by simp; omega)
 obtain ⟨nl1, z1, nl2, z2, ds, e, h1, h2, h3, h4, h5⟩ := hu.shape
 subst e
 refine AF.start' 60 Tryz.func73 rfl rfl c73call c73ok fun Q hQ => ?_
 simp [c73c, c73t]
 refine ATT.nilB 1 1 1 5 rfl rfl (by decide) (by simp) ?_
 simp
 refine ATT.callV Tryz.func73 60 [1] [0] (hN) (by simp) (by simp) (by simp) (by simp) (by simp) (by simp) (by simp) ?_
 simp [c73t]
 refine ATT.callV Tryz.func73 60 [1] [0] (f109_ok 191 true (litT x) (by omega)) (by simp) (by simp) (by simp) (by simp) (by simp) (by simp) (by simp) ?_
 simp
 refine ATT.fin' hQ Tryz.func73 c73res ?_
 simp [litB]
 all_goals (first | omega | exact ⟨_, rfl⟩ | skip)
end Go.SL
namespace Go.SL
open Go.Proofs
set_option maxRecDepth 10000
theorem f106_vec (l : List ByteArray) (hl : l.length ≤ 1000000000) (t : ByteArray) : VF Tryz.prog 106 [.vs 0 l.length 0 l.length, .d (.str t)] [] [NS l] (.d (.int .i64 (idxI (idxS t l 0)))) [] [NS l] := by
 refine AF.start' 60 Tryz.func106 rfl rfl c106call c106ok fun Q hQ => ?_
 simp [c106c, c106t]
 refine ATT.loopG 60 c106l7.eq_1 (fun (i : Nat) => l.length - i) (fun (i : Nat) => i ≤ l.length ∧ idxS t (l.drop i) i = idxS t l 0) (fun (i : Nat) => [(0, .vs 0 l.length 0 l.length), (1, .d (.str t)), (7, .d (.int .i64 l.length)), (8, .d (.int .i64 i))]) (fun (i : Nat) => []) (fun (i : Nat) => [NS l]) (0) (by (try dsimp only); exact ⟨Nat.zero_le _, rfl⟩) (by simp <;> omega) (by simp) (by simp) ?_
 intro i u w hI ih
 try simp only at hI ih
 obtain ⟨i1, i2⟩ := hI
 by_cases hi : i < l.length
 ·obtain ⟨y, hy⟩ : ∃ y, l[i]? = some y := ⟨_, List.getElem?_eq_getElem hi⟩
  have hyE : ∀ h, l[i]'h = y := fun h => by rw [List.getElem?_eq_getElem h] at hy; simpa using hy
  have hi' : (i : Int) < l.length := by omega
  have hII : inI ((i : Int) + 1) = true := inI_of (by omega) (by omega)
  have hiR : inR (i : Int) l.length = true := inR_of (by omega) (by omega)
  by_cases he : y = t
  ·have hd : l.drop i = y :: l.drop (i + 1) := by rw [List.drop_eq_getElem_cons hi, hyE]
   have h0 : idxS t l 0 = some i := by rw [← i2, hd]; simp only [idxS, if_pos he]
   rw [h0] at hQ
   subst he
   simp [c106t, hi, hi', hyE, hiR]
   refine ATT.fin' hQ Tryz.func106 c106res ?_
   simp [idxI]
   all_goals (first | omega | exact ⟨_, rfl⟩ | skip)
  ·have he' : ¬ t = y := fun h => he h.symm
   simp [c106t, hi, hi', hyE, hII, hiR, he']
   refine ih (i + 1) (by first | ((try dsimp only); omega) | (simp [hi, hi', hy, hyE, hII, hiR, he'] <;> omega)) (by (try dsimp only); exact ⟨hi, by rw [← i2]; exact (idxS_step hy he).symm⟩) _ _ _ (by simp <;> omega) (by simp <;> omega) (by simp <;> omega)
 ·have hi' : ¬ (i : Int) < l.length := by omega
  have h0 : idxS t l 0 = none := by rw [← i2, List.drop_eq_nil_of_le (by omega)]; rfl
  rw [h0] at hQ
  simp [c106t, hi']
  refine ATT.fin' hQ Tryz.func106 c106res ?_
  simp [idxI]
  all_goals (first | omega | exact ⟨_, rfl⟩ | skip)
abbrev MB (sel : ByteArray) (nu nl nn ns : Nat) (uz : D) : Bx := .cells [.d (.str sel), .vs 0 nu 0 nu, .vs 1 nl 0 nl, .vs 2 nn 0 nn, .vs 3 ns 0 ns, .d uz] 78
theorem f72_lits (sel : ByteArray) (nu nn ns : Nat) (uz : D) (l : List ByteArray) (hl : l.length ≤ 100000000) (t : ByteArray) (bs : List Bx) (r0 r2 r3 : Option Vec) (cs : List (Option Vec)) :
  AF Tryz.prog 72 [.ptr 0 2, .d (.str t)] ⟨MB sel nu l.length nn ns uz :: bs, r0 :: NS l :: r2 :: r3 :: cs⟩ fun o h => ∃ b c, o = .ret (.d (.int .i64 (onceS l t).2)) ∧ h = ⟨MB sel nu (onceS l t).1.length nn ns uz :: (bs ++ b), r0 :: NS (onceS l t).1 :: r2 :: r3 :: (cs ++ c)⟩ := by
 have hI := f106_vec l (by omega) t
 have hmul : (l.length + 1) * 16 ≤ 140737488355328 := by omega
 cases h : idxS t l 0 with
 | some k =>
  have e : onceS l t = (l, k) := by unfold onceS; rw [h]
  rw [h] at hI
  rw [e]
  have hk : (0 : Int) ≤ k := by omega
  refine AF.start' 60 Tryz.func72 rfl rfl c72call c72ok fun Q hQ => ?_
  simp [c72c, c72t]
  refine ATT.callV Tryz.func72 60 [] [1] (hI) (by simp) (by simp) (by simp) (by simp) (by simp) (by simp) (by simp) ?_
  simp [c72t, idxI, hk]
  refine ATT.fin' hQ Tryz.func72 c72res ?_
  simp
  all_goals (first | omega | exact ⟨_, rfl⟩ | skip)
 | none =>
  have e : onceS l t = (l ++ [t], l.length) := by unfold onceS; rw [h]
  rw [h] at hI
  rw [e]
  have hII : inI (l.length : Int) = true := inI_of (by omega) (by omega)
  refine AF.start' 60 Tryz.func72 rfl rfl c72call c72ok fun Q hQ => ?_
  simp [c72c, c72t]
  refine ATT.callV Tryz.func72 60 [] [1] (hI) (by simp) (by simp) (by simp) (by simp) (by simp) (by simp) (by simp) ?_
  simp [c72t, idxI, hmul, hII]
  refine ATT.fin' hQ Tryz.func72 c72res ?_
  simp
  all_goals (first | omega | exact ⟨_, rfl⟩ | skip)
theorem f72_names (sel : ByteArray) (nu nl ns : Nat) (uz : D) (l : List ByteArray) (hl : l.length ≤ 100000000) (t : ByteArray) (bs : List Bx) (r0 r1 r3 : Option Vec) (cs : List (Option Vec)) :
  AF Tryz.prog 72 [.ptr 0 3, .d (.str t)] ⟨MB sel nu nl l.length ns uz :: bs, r0 :: r1 :: NS l :: r3 :: cs⟩ fun o h => ∃ b c, o = .ret (.d (.int .i64 (onceS l t).2)) ∧ h = ⟨MB sel nu nl (onceS l t).1.length ns uz :: (bs ++ b), r0 :: r1 :: NS (onceS l t).1 :: r3 :: (cs ++ c)⟩ := by
 have hI := f106_vec l (by omega) t
 have hmul : (l.length + 1) * 16 ≤ 140737488355328 := by omega
 cases h : idxS t l 0 with
 | some k =>
  have e : onceS l t = (l, k) := by unfold onceS; rw [h]
  rw [h] at hI
  rw [e]
  have hk : (0 : Int) ≤ k := by omega
  refine AF.start' 60 Tryz.func72 rfl rfl c72call c72ok fun Q hQ => ?_
  simp [c72c, c72t]
  refine ATT.callV Tryz.func72 60 [] [2] (hI) (by simp) (by simp) (by simp) (by simp) (by simp) (by simp) (by simp) ?_
  simp [c72t, idxI, hk]
  refine ATT.fin' hQ Tryz.func72 c72res ?_
  simp
  all_goals (first | omega | exact ⟨_, rfl⟩ | skip)
 | none =>
  have e : onceS l t = (l ++ [t], l.length) := by unfold onceS; rw [h]
  rw [h] at hI
  rw [e]
  have hII : inI (l.length : Int) = true := inI_of (by omega) (by omega)
  refine AF.start' 60 Tryz.func72 rfl rfl c72call c72ok fun Q hQ => ?_
  simp [c72c, c72t]
  refine ATT.callV Tryz.func72 60 [] [2] (hI) (by simp) (by simp) (by simp) (by simp) (by simp) (by simp) (by simp) ?_
  simp [c72t, idxI, hmul, hII]
  refine ATT.fin' hQ Tryz.func72 c72res ?_
  simp
  all_goals (first | omega | exact ⟨_, rfl⟩ | skip)
theorem f72_sels (sel : ByteArray) (nu nl nn : Nat) (uz : D) (l : List ByteArray) (hl : l.length ≤ 100000000) (t : ByteArray) (bs : List Bx) (r0 r1 r2 : Option Vec) (cs : List (Option Vec)) :
  AF Tryz.prog 72 [.ptr 0 4, .d (.str t)] ⟨MB sel nu nl nn l.length uz :: bs, r0 :: r1 :: r2 :: NS l :: cs⟩ fun o h => ∃ b c, o = .ret (.d (.int .i64 (onceS l t).2)) ∧ h = ⟨MB sel nu nl nn (onceS l t).1.length uz :: (bs ++ b), r0 :: r1 :: r2 :: NS (onceS l t).1 :: (cs ++ c)⟩ := by
 have hI := f106_vec l (by omega) t
 have hmul : (l.length + 1) * 16 ≤ 140737488355328 := by omega
 cases h : idxS t l 0 with
 | some k =>
  have e : onceS l t = (l, k) := by unfold onceS; rw [h]
  rw [h] at hI
  rw [e]
  have hk : (0 : Int) ≤ k := by omega
  refine AF.start' 60 Tryz.func72 rfl rfl c72call c72ok fun Q hQ => ?_
  simp [c72c, c72t]
  refine ATT.callV Tryz.func72 60 [] [3] (hI) (by simp) (by simp) (by simp) (by simp) (by simp) (by simp) (by simp) ?_
  simp [c72t, idxI, hk]
  refine ATT.fin' hQ Tryz.func72 c72res ?_
  simp
  all_goals (first | omega | exact ⟨_, rfl⟩ | skip)
 | none =>
  have e : onceS l t = (l ++ [t], l.length) := by unfold onceS; rw [h]
  rw [h] at hI
  rw [e]
  have hII : inI (l.length : Int) = true := inI_of (by omega) (by omega)
  refine AF.start' 60 Tryz.func72 rfl rfl c72call c72ok fun Q hQ => ?_
  simp [c72c, c72t]
  refine ATT.callV Tryz.func72 60 [] [3] (hI) (by simp) (by simp) (by simp) (by simp) (by simp) (by simp) (by simp) ?_
  simp [c72t, idxI, hmul, hII]
  refine ATT.fin' hQ Tryz.func72 c72res ?_
  simp
  all_goals (first | omega | exact ⟨_, rfl⟩ | skip)
theorem f75_ok (sel : ByteArray) (nu nl nn ns : Nat) (y : Us) (r : List Us) (bs : List Bx) (vc : List (Option Vec)) :
  AF Tryz.prog 75 [.ptr 0 0] ⟨MB sel nu nl nn ns (.sl false 6 (usD y :: r.map usD)) :: bs, vc⟩ fun o h => ∃ b, o = .ret (.d (usD y)) ∧ h = ⟨MB sel nu nl nn ns (.sl false 6 (r.map usD)) :: (bs ++ b), vc⟩ := by
 have h1 : (1 : Int) ≤ (r.length : Int) + 1 := by omega
 refine AF.start' 60 Tryz.func75 rfl rfl c75call c75ok fun Q hQ => ?_
 simp [c75c, c75t, usD, h1]
 refine ATT.fin' hQ Tryz.func75 c75res ?_
 simp [usD]
 all_goals (first | omega | exact ⟨_, rfl⟩ | skip)
def insD (x : Nat × Nat × Nat) : D := .agg [.int .i64 x.1, .int .i64 x.2.1, .int .i64 x.2.2]
abbrev IR (l : List (Nat × Nat × Nat)) : Option Vec := some ⟨false, 3, 0, l.map fun x => .d (insD x), 64⟩
def uv (x : CU) (j : Nat) : V := if x.ins = [] then .d (.agg [.int .i64 x.a, .int .i64 x.n, .sl true 0 []]) else .agg [.d (.int .i64 x.a), .d (.int .i64 x.n), .vs (j + 1 + 1 + 1 + 1) x.ins.length 0 x.ins.length]
abbrev UV (nl : Bool) (xs : List V) : Option Vec := some ⟨nl, 3, 0, xs, 63⟩
theorem f46_new (sel : ByteArray) (nu nl nn ns : Nat) (uz : D) (bs : List Bx) (unl : Bool) (xs : List V) (hxs : xs.length = nu) (u : Nat) (x : CU) (j : Nat) (hu : xs[u]? = some (uv x j)) (h0 : x.ins = []) (hnu : nu ≤ 100000000) (op a b : Nat) (r1 r2 r3 : Option Vec) (cs : List (Option Vec)) :
  AF Tryz.prog 46 [.ptr 0 0, .d (.int .i64 u), .d (.int .i64 op), .d (.int .i64 a), .d (.int .i64 b)] ⟨MB sel nu nl nn ns uz :: bs, UV unl xs :: r1 :: r2 :: r3 :: cs⟩
   fun o h => ∃ bb g, o = .ret (.d (.tup [])) ∧ h = ⟨MB sel nu nl nn ns uz :: (bs ++ bb), UV unl (xs.set u (uv (addU (op, a, b) x) (cs.length + 1))) :: r1 :: r2 :: r3 :: (cs ++ [g, IR (x.ins ++ [(op, a, b)])])⟩ := by
 have hul : u < xs.length := (List.getElem?_eq_some_iff.1 hu).1
 have hR : inR (u : Int) nu = true := inR_of (by omega) (by omega)
 have hy : ∀ h, xs[u]'h = uv x j := fun h => by rw [List.getElem?_eq_getElem h] at hu; simpa using hu
 have e : uv x j = .d (.agg [.int .i64 x.a, .int .i64 x.n, .sl true 0 []]) := by unfold uv; rw [if_pos h0]
 have e2 : uv (addU (op, a, b) x) (cs.length + 1) = .agg [.d (.int .i64 x.a), .d (.int .i64 x.n), .vs (cs.length + 1 + 1 + 1 + 1 + 1) 1 0 1] := by
  unfold uv addU
  rw [if_neg (by simp), h0]; rfl
 rw [e2, h0]
 rw [e] at hu hy
 subst hxs
 have b20 : Nat.beq 2 0 = false := rfl
 refine AF.start' 60 Tryz.func46 rfl rfl c46call c46ok fun Q hQ => ?_
 simp [c46c, c46t, hR, hy, hul, b20]
 refine ATT.fin0' hQ Tryz.func46 c46res ?_
 simp [insD]
 all_goals (first | omega | exact ⟨_, rfl⟩ | skip)
theorem f46_more (sel : ByteArray) (nu nl nn ns : Nat) (uz : D) (bs : List Bx) (unl : Bool) (xs : List V) (hxs : xs.length = nu) (u : Nat) (x : CU) (j : Nat) (hu : xs[u]? = some (uv x j)) (h0 : x.ins ≠ []) (hnu : nu ≤ 100000000) (hni : x.ins.length ≤ 100000000) (op a b : Nat) (r1 r2 r3 : Option Vec) (cs : List (Option Vec)) (hj : cs[j]? = some (IR x.ins)) :
  AF Tryz.prog 46 [.ptr 0 0, .d (.int .i64 u), .d (.int .i64 op), .d (.int .i64 a), .d (.int .i64 b)] ⟨MB sel nu nl nn ns uz :: bs, UV unl xs :: r1 :: r2 :: r3 :: cs⟩
   fun o h => ∃ bb g, o = .ret (.d (.tup [])) ∧ h = ⟨MB sel nu nl nn ns uz :: (bs ++ bb), UV unl (xs.set u (uv (addU (op, a, b) x) j)) :: r1 :: r2 :: r3 :: (cs.set j (IR (x.ins ++ [(op, a, b)])) ++ [g])⟩ := by
 have hul : u < xs.length := (List.getElem?_eq_some_iff.1 hu).1
 have hjl : j < cs.length := (List.getElem?_eq_some_iff.1 hj).1
 have hR : inR (u : Int) nu = true := inR_of (by omega) (by omega)
 have hy : ∀ h, xs[u]'h = uv x j := fun h => by rw [List.getElem?_eq_getElem h] at hu; simpa using hu
 have hjE : ∀ l : List (Option Vec), (cs ++ l)[j]? = some (IR x.ins) := get_more hj
 have hjS : ∀ (l : List (Option Vec)) (y : Option Vec), (cs ++ l).set j y = cs.set j y ++ l := fun l y => by rw [List.set_append_left _ _ hjl]
 have e : uv x j = .agg [.d (.int .i64 x.a), .d (.int .i64 x.n), .vs (j + 1 + 1 + 1 + 1) x.ins.length 0 x.ins.length] := by unfold uv; rw [if_neg h0]
 have e2 : uv (addU (op, a, b) x) j = .agg [.d (.int .i64 x.a), .d (.int .i64 x.n), .vs (j + 1 + 1 + 1 + 1) (x.ins.length + 1) 0 (x.ins.length + 1)] := by
  unfold uv addU
  rw [if_neg (by simp)]; simp
 rw [e2]
 rw [e] at hu hy
 subst hxs
 have b20 : Nat.beq 2 0 = false := rfl
 have hmul : (x.ins.length + 1) * 24 ≤ 140737488355328 := by omega
 refine AF.start' 60 Tryz.func46 rfl rfl c46call c46ok fun Q hQ => ?_
 simp [c46c, c46t, hR, hy, hul, b20, hjE, hjS, hmul]
 refine ATT.fin0' hQ Tryz.func46 c46res ?_
 simp [insD]
 all_goals (first | omega | exact ⟨_, rfl⟩ | skip)
 rw [IR, List.map_append]; rfl
end Go.SL
namespace Go.SL
def szC (c : CM) : Nat := c.us.length + (c.us.map fun x => x.ins.length).sum + c.lits.length + c.names.length + c.sels.length
theorem once_len (l : List ByteArray) (t : ByteArray) : l.length ≤ (onceS l t).1.length ∧ (onceS l t).1.length ≤ l.length + 1 := by
 unfold onceS
 split <;> simp
theorem modify_sum (x : Nat × Nat × Nat) : ∀ (l : List CU) (u : Nat), ((l.modify u (addU x)).map fun x => x.ins.length).sum ≤ (l.map fun x => x.ins.length).sum + 1
 | [], u => by simp
 | y :: r, 0 => by simp [addU]; omega
 | y :: r, u + 1 => by
  have := modify_sum x r u
  simp only [List.modify_succ_cons, List.map_cons, List.sum_cons] at this ⊢
  omega
def Gr (n : Nat) (c c' : CM) : Prop := c.us.length ≤ c'.us.length ∧ szC c' ≤ szC c + n
theorem Gr.refl (c : CM) : Gr 0 c c := ⟨Nat.le_refl _, Nat.le_refl _⟩
theorem Gr.trans {n m : Nat} {a b c : CM} (h : Gr n a b) (g : Gr m b c) : Gr (n + m) a c := ⟨Nat.le_trans h.1 g.1, by have := h.2; have := g.2; omega⟩
theorem Gr.up {n m : Nat} {a b : CM} (h : Gr n a b) (k : n ≤ m) : Gr m a b := ⟨h.1, by have := h.2; omega⟩
theorem addS_gr (u : Nat) (x : Nat × Nat × Nat) (c : CM) : Gr 1 c (addS u x c) := by
 refine ⟨by simp [addS], ?_⟩
 have := modify_sum x c.us u
 simp only [szC, addS, List.length_modify] at this ⊢
 omega
theorem litS_gr (u : Nat) (t : ByteArray) (c : CM) : Gr 2 c (litS u t c) := by
 have h := once_len c.lits t
 have g : Gr 1 c { c with lits := (onceS c.lits t).1 } := ⟨Nat.le_refl _, by simp only [szC]; omega⟩
 exact g.trans (addS_gr _ _ _)
theorem useS_gr (u : Nat) (x : Us) (c : CM) : Gr 2 c (useS u x c) := by
 unfold useS
 split
 ·exact (addS_gr _ _ _).up (by decide)
 split
 ·exact (addS_gr _ _ _).up (by decide)
 split
 ·exact (addS_gr _ _ _).up (by decide)
 split
 ·have h := once_len c.names x.t
  have g : Gr 1 c { c with names := (onceS c.names x.t).1 } := ⟨Nat.le_refl _, by simp only [szC]; omega⟩
  exact g.trans (addS_gr _ _ _)
 ·exact (addS_gr _ _ _).up (by decide)
theorem setS_gr (u : Nat) (x : Us) (c : CM) : Gr 1 c (setS u x c) := by
 unfold setS
 split <;> exact addS_gr _ _ _
theorem sendC_gr (u : Nat) (s : Bool) (t : ByteArray) (n : Nat) (c : CM) : Gr 2 c (sendC u s t n c) := by
 have h := once_len c.sels t
 have g : Gr 1 c { c with sels := (onceS c.sels t).1 } := ⟨Nat.le_refl _, by simp only [szC]; omega⟩
 exact g.trans (addS_gr _ _ _)
theorem newU_gr (a n : Nat) (c : CM) : Gr 1 c (newU a n c) := ⟨by simp [newU], by simp [szC, newU]; omega⟩
theorem endS_gr (u : Nat) (m : Bool) (k : Nat) (c : CM) : Gr 3 c (endS u m k c) := by
 unfold endS
 split
 ·split
  ·exact ((addS_gr _ _ _).trans (addS_gr _ _ _)).up (by decide)
  ·exact ((addS_gr _ _ _).trans ((addS_gr _ _ _).trans (addS_gr _ _ _))).up (by decide)
 ·split
  ·exact ((addS_gr _ _ _).trans (addS_gr _ _ _)).up (by decide)
  ·exact (addS_gr _ _ _).up (by decide)
theorem doneU_gr (u : Nat) (m : Bool) (k : Nat) (s : MS × Bool) : Gr 3 s.1.1 (doneU u m k s) := by
 unfold doneU
 split
 ·exact (Gr.refl _).up (by decide)
 ·exact endS_gr _ _ _ _
theorem pop_gr (u i : Nat) (c : CM) : Gr 1 c (if i = 0 then c else addS u (12, 0, 0) c) := by
 split
 ·exact (Gr.refl _).up (by decide)
 ·exact addS_gr _ _ _
section
variable {lt : Nd → ByteArray}
mutual
theorem mkP_gr {u : Nat} : ∀ {x : Nd} {s s' : MS}, mkP lt u x s = some s' → Gr (8 * nds x - 2) s.1 s'.1
 | .mk k t a n names kids, (c, us), s', h => by
  simp only [mkP] at h
  simp only [nds]
  split at h
  ·simp only [Option.some.injEq] at h; rw [← h]; exact (litS_gr _ _ _).up (by omega)
  split at h
  ·split at h
   ·simp at h
   ·simp only [Option.some.injEq] at h; rw [← h]; exact (useS_gr _ _ _).up (by omega)
  split at h
  ·split at h
   ·simp at h
   ·cases hk : mkH lt u kids (c, ‹List Us›) with
    | none => rw [hk] at h; simp at h
    | some s2 =>
     rw [hk] at h
     simp only [Option.map_some, Option.some.injEq] at h
     rw [← h]; exact ((mkH_gr hk).trans (setS_gr _ _ _)).up (by omega)
  split at h
  ·cases hk : mkL lt u kids (c, us) with
   | none => rw [hk] at h; simp at h
   | some s2 =>
    rw [hk] at h
    simp only [Option.map_some, Option.some.injEq] at h
    rw [← h]; exact ((mkL_gr hk).trans (sendC_gr _ _ _ _ _)).up (by omega)
  split at h
  ·exact (mkC_gr h).up (by omega)
  split at h
  ·cases hk : mkS lt c.us.length 0 kids (newU n names.length (addS u (10, c.us.length, 0) c), us) with
   | none => rw [hk] at h; simp at h
   | some s2 =>
    rw [hk] at h
    simp only [Option.map_some, Option.some.injEq] at h
    rw [← h]
    exact (((addS_gr _ _ _).trans (newU_gr _ _ _)).trans ((mkS_gr hk).trans (doneU_gr _ _ _ _))).up (by omega)
  ·simp only [Option.some.injEq] at h; rw [← h]; exact (Gr.refl _).up (by omega)
theorem mkH_gr {u : Nat} : ∀ {l : List Nd} {s s' : MS}, mkH lt u l s = some s' → Gr (8 * ndL l) s.1 s'.1
 | [], s, s', h => by simp [mkH] at h
 | x :: r, s, s', h => by
  simp only [mkH] at h
  simp only [ndL]
  exact (mkP_gr h).up (by omega)
theorem mkL_gr {u : Nat} : ∀ {l : List Nd} {s s' : MS}, mkL lt u l s = some s' → Gr (8 * ndL l) s.1 s'.1
 | [], s, s', h => by simp only [mkL, Option.some.injEq] at h; rw [← h]; exact Gr.refl _
 | x :: r, s, s', h => by
  simp only [mkL] at h
  simp only [ndL]
  cases hk : mkP lt u x s with
  | none => rw [hk] at h; simp at h
  | some s2 =>
   rw [hk] at h
   exact ((mkP_gr hk).trans (mkL_gr (s := s2) h)).up (by omega)
theorem mkC_gr {u : Nat} {sp : Bool} : ∀ {l : List Nd} {s s' : MS}, mkC lt u sp l s = some s' → Gr (8 * ndL l) s.1 s'.1
 | [], s, s', h => by simp [mkC] at h
 | x :: r, s, s', h => by
  simp only [mkC] at h
  simp only [ndL]
  cases hk : mkP lt u x s with
  | none => rw [hk] at h; simp at h
  | some s2 =>
   rw [hk] at h
   exact ((mkP_gr hk).trans (mkD_gr (s := s2) h)).up (by omega)
theorem mkD_gr {u : Nat} {sp : Bool} : ∀ {l : List Nd} {s s' : MS}, mkD lt u sp l s = some s' → Gr (8 * ndL l) s.1 s'.1
 | [], s, s', h => by simp [mkD] at h
 | [m], s, s', h => by
  simp only [mkD] at h
  simp only [ndL]
  exact (mkM_gr h).up (by have := m.count; omega)
 | m :: y :: r, s, s', h => by
  simp only [mkD] at h
  rw [ndL]
  cases hk : mkM lt u sp m (addS u (11, 0, 0) s.1, s.2) with
  | none => rw [hk] at h; simp at h
  | some s2 =>
   rw [hk] at h
   have h1 := (addS_gr u (11, 0, 0) s.1).trans (mkM_gr hk)
   have h2 := (addS_gr u (12, 0, 0) s2.1).trans (mkD_gr (l := y :: r) h)
   exact (h1.trans h2).up (by have := m.count; omega)
theorem mkM_gr {u : Nat} {sp : Bool} : ∀ {m : Nd} {s s' : MS}, mkM lt u sp m s = some s' → Gr (8 * nds m - 6) s.1 s'.1
 | .mk k t a n names kids, s, s', h => by
  simp only [mkM] at h
  simp only [nds]
  cases hk : mkL lt u kids s with
  | none => rw [hk] at h; simp at h
  | some s2 =>
   rw [hk] at h
   simp only [Option.map_some, Option.some.injEq] at h
   rw [← h]; exact ((mkL_gr hk).trans (sendC_gr _ _ _ _ _)).up (by omega)
theorem mkS_gr {u : Nat} : ∀ {l : List Nd} {i : Nat} {s : MS} {s' : MS × Bool}, mkS lt u i l s = some s' → Gr (8 * ndL l) s.1 s'.1.1
 | [], i, s, s', h => by simp only [mkS, Option.some.injEq] at h; rw [← h]; exact Gr.refl _
 | .mk k t a n names kids :: r, i, s, s', h => by
  simp only [mkS] at h
  simp only [ndL]
  split at h
  ·cases hk : mkH lt u kids (if i = 0 then s.1 else addS u (12, 0, 0) s.1, s.2) with
   | none => rw [hk] at h; simp at h
   | some s2 =>
    rw [hk] at h
    simp only [Option.map_some, Option.some.injEq] at h
    rw [← h]
    have h1 := (pop_gr u i s.1).trans (mkH_gr hk)
    simp only [nds]
    exact (h1.trans (addS_gr _ _ _)).up (by omega)
  ·cases hk : mkP lt u (.mk k t a n names kids) (if i = 0 then s.1 else addS u (12, 0, 0) s.1, s.2) with
   | none => rw [hk] at h; simp at h
   | some s2 =>
    rw [hk] at h
    have h1 := (pop_gr u i s.1).trans (mkP_gr hk)
    exact (h1.trans (mkS_gr (s := s2) h)).up (by simp only [nds]; omega)
end
end
end Go.SL
namespace Go.SL
open Go.Proofs
set_option maxRecDepth 10000
def InsOK (us : List CU) (js : List Nat) (cs : List (Option Vec)) : Prop :=
 js.length = us.length ∧ (∀ (u : Nat) (x : CU) (j : Nat), us[u]? = some x → js[u]? = some j → x.ins ≠ [] → cs[j]? = some (IR x.ins)) ∧
 (∀ (u v : Nat) (x y : CU) (j : Nat), us[u]? = some x → us[v]? = some y → js[u]? = some j → js[v]? = some j → x.ins ≠ [] → y.ins ≠ [] → u = v)
abbrev MK (sel : ByteArray) (c : CM) (uz : D) (js : List Nat) (bs : List Bx) (cs : List (Option Vec)) : H :=
 ⟨MB sel c.us.length c.lits.length c.names.length c.sels.length uz :: bs, UV c.us.isEmpty (List.zipWith uv c.us js) :: NS c.lits :: NS c.names :: NS c.sels :: cs⟩
def MkP (sel : ByteArray) (c : CM) (uz : D) (bs : List Bx) (o : Out) (h : H) : Prop := o = .ret (.d (.tup [])) ∧ ∃ js b cs, h = MK sel c uz js (bs ++ b) cs ∧ InsOK c.us js cs
theorem szC_at {c : CM} {u : Nat} {x : CU} (h : c.us[u]? = some x) : x.ins.length ≤ szC c := by
 have : ∀ (l : List CU) (u : Nat), l[u]? = some x → x.ins.length ≤ (l.map fun x => x.ins.length).sum := by
  intro l
  induction l with
  | nil => intro u h; simp at h
  | cons y r ih =>
   intro u h
   cases u with
   | zero => simp at h; subst h; simp
   | succ u => have := ih u (by simpa using h); simp; omega
 have := this c.us u h
 unfold szC; omega
theorem modify_at {α : Type} {l : List α} {u : Nat} {x : α} (f : α → α) (h : l[u]? = some x) : l.modify u f = l.set u (f x) := by
 apply List.ext_getElem?
 intro i
 rw [List.getElem?_modify, List.getElem?_set]
 by_cases e : u = i
 ·subst e
  have hl := (List.getElem?_eq_some_iff.1 h).1
  have hv := (List.getElem?_eq_some_iff.1 h).2
  simp [hl, hv]
 ·simp [e]
theorem zip_set {α β γ : Type} (f : α → β → γ) (l : List α) (m : List β) (u : Nat) (a : α) (b : β) : (List.zipWith f l m).set u (f a b) = List.zipWith f (l.set u a) (m.set u b) := by
 apply List.ext_getElem?
 intro i
 by_cases e : u = i
 ·subst e
  simp only [List.getElem?_set, List.getElem?_zipWith, List.length_zipWith]
  by_cases h1 : u < l.length <;> by_cases h2 : u < m.length <;> simp [h1, h2] <;> omega
 ·simp only [List.getElem?_set, List.getElem?_zipWith, if_neg e]
theorem set_same {α : Type} {l : List α} {u : Nat} {a : α} (h : l[u]? = some a) : l.set u a = l := by
 apply List.ext_getElem?
 intro i
 by_cases e : u = i
 ·subst e
  rw [List.getElem?_set_self (List.getElem?_eq_some_iff.1 h).1, h]
 ·rw [List.getElem?_set_ne e]
theorem zip_at {α β γ : Type} {f : α → β → γ} {l : List α} {m : List β} {u : Nat} {a : α} {b : β} (h : l[u]? = some a) (g : m[u]? = some b) : (List.zipWith f l m)[u]? = some (f a b) := by
 simp [List.getElem?_zipWith, h, g]
theorem isEmpty_set {α : Type} (l : List α) (u : Nat) (a : α) : (l.set u a).isEmpty = l.isEmpty := by cases l <;> cases u <;> rfl
theorem add_ok (sel : ByteArray) (c : CM) (uz : D) (js : List Nat) (bs : List Bx) (cs : List (Option Vec)) (hI : InsOK c.us js cs) (u : Nat) (hu : u < c.us.length) (hz : szC c ≤ 100000000) (op a b : Nat) :
  AF Tryz.prog 46 [.ptr 0 0, .d (.int .i64 u), .d (.int .i64 op), .d (.int .i64 a), .d (.int .i64 b)] (MK sel c uz js bs cs) (MkP sel (addS u (op, a, b) c) uz bs) := by
 obtain ⟨i1, i2, i3⟩ := hI
 obtain ⟨x, hx⟩ : ∃ x, c.us[u]? = some x := ⟨_, List.getElem?_eq_getElem hu⟩
 obtain ⟨j, hj⟩ : ∃ j, js[u]? = some j := ⟨_, List.getElem?_eq_getElem (by omega)⟩
 have hlen : (List.zipWith uv c.us js).length = c.us.length := by simp; omega
 have hnu : c.us.length ≤ 100000000 := by unfold szC at hz; omega
 have hm : (addS u (op, a, b) c).us = c.us.set u (addU (op, a, b) x) := modify_at _ hx
 have key : ∀ (v : Nat) (y : CU), (c.us.set u (addU (op, a, b) x))[v]? = some y → (v = u ∧ y = addU (op, a, b) x) ∨ (v ≠ u ∧ c.us[v]? = some y) := fun v y h => by
  by_cases e : v = u
  ·subst e
   rw [List.getElem?_set_self hu] at h
   simp only [Option.some.injEq] at h
   exact .inl ⟨rfl, h.symm⟩
  ·rw [List.getElem?_set_ne (fun q => e q.symm)] at h
   exact .inr ⟨e, h⟩
 by_cases h0 : x.ins = []
 ·refine (f46_new sel _ _ _ _ uz bs c.us.isEmpty _ hlen u x j (zip_at hx hj) h0 hnu op a b _ _ _ cs).mono fun o h ⟨bb, g, e1, e2⟩ => ⟨e1, js.set u (cs.length + 1), bb, cs ++ [g, IR (x.ins ++ [(op, a, b)])], ?_, ?_⟩
  ·rw [e2, zip_set, MK, hm, List.length_set, isEmpty_set]; rfl
  ·rw [hm]
   refine ⟨by simp [i1], fun v y k h1 h2 h3 => ?_, fun v w y z k h1 h2 h3 h4 h5 h6 => ?_⟩
   ·rcases key v y h1 with ⟨q1, q2⟩ | ⟨q1, q2⟩
    ·subst q1 q2
     rw [List.getElem?_set_self (by omega)] at h2
     simp only [Option.some.injEq] at h2
     subst h2
     rw [List.getElem?_append_right (by omega)]
     simp [addU]
    ·rw [List.getElem?_set_ne (fun e => q1 e.symm)] at h2
     exact get_more (i2 v y k q2 h2 h3) _
   ·rcases key v y h1 with ⟨q1, q2⟩ | ⟨q1, q2⟩ <;> rcases key w z h2 with ⟨p1, p2⟩ | ⟨p1, p2⟩
    ·omega
    ·subst q1 q2
     rw [List.getElem?_set_self (by omega)] at h3
     rw [List.getElem?_set_ne (fun e => p1 e.symm)] at h4
     simp only [Option.some.injEq] at h3
     have := (List.getElem?_eq_some_iff.1 (i2 w z k p2 h4 h6)).1
     omega
    ·subst p1 p2
     rw [List.getElem?_set_self (by omega)] at h4
     rw [List.getElem?_set_ne (fun e => q1 e.symm)] at h3
     simp only [Option.some.injEq] at h4
     have := (List.getElem?_eq_some_iff.1 (i2 v y k q2 h3 h5)).1
     omega
    ·rw [List.getElem?_set_ne (fun e => q1 e.symm)] at h3
     rw [List.getElem?_set_ne (fun e => p1 e.symm)] at h4
     exact i3 v w y z k q2 p2 h3 h4 h5 h6
 ·have hcj := i2 u x j hx hj h0
  refine (f46_more sel _ _ _ _ uz bs c.us.isEmpty _ hlen u x j (zip_at hx hj) h0 hnu (Nat.le_trans (szC_at hx) hz) op a b _ _ _ cs hcj).mono fun o h ⟨bb, g, e1, e2⟩ => ⟨e1, js, bb, cs.set j (IR (x.ins ++ [(op, a, b)])) ++ [g], ?_, ?_⟩
  ·rw [e2, zip_set, set_same hj, MK, hm, List.length_set, isEmpty_set]; rfl
  ·have hjl := (List.getElem?_eq_some_iff.1 hcj).1
   rw [hm]
   refine ⟨by simp [i1], fun v y k h1 h2 h3 => ?_, fun v w y z k h1 h2 h3 h4 h5 h6 => ?_⟩
   ·rcases key v y h1 with ⟨q1, q2⟩ | ⟨q1, q2⟩
    ·subst q1 q2
     rw [hj] at h2
     simp only [Option.some.injEq] at h2
     subst h2
     refine get_more ?_ _
     rw [List.getElem?_set_self hjl]; rfl
    ·refine get_more ?_ _
     rw [List.getElem?_set_ne (fun e => q1 (by subst e; exact i3 v u y x j q2 hx h2 hj h3 h0))]
     exact i2 v y k q2 h2 h3
   ·rcases key v y h1 with ⟨q1, q2⟩ | ⟨q1, q2⟩ <;> rcases key w z h2 with ⟨p1, p2⟩ | ⟨p1, p2⟩
    ·omega
    ·subst q1
     exact i3 v w x z k hx p2 h3 h4 h0 h6
    ·subst p1
     exact i3 v w y x k q2 hx h3 h4 h5 h0
    ·exact i3 v w y z k q2 p2 h3 h4 h5 h6
theorem InsOK.more {us : List CU} {js : List Nat} {cs : List (Option Vec)} (h : InsOK us js cs) (c : List (Option Vec)) : InsOK us js (cs ++ c) :=
 ⟨h.1, fun u x j h1 h2 h3 => get_more (h.2.1 u x j h1 h2 h3) c, h.2.2⟩
theorem f74_ok (sel : ByteArray) (c : CM) (y : Us) (r : List Us) (js : List Nat) (bs : List Bx) (cs : List (Option Vec)) (hI : InsOK c.us js cs) (u : Nat) (hu : u < c.us.length) (hz : szC c ≤ 999990) :
  AF Tryz.prog 74 [.ptr 0 0, .d (.int .i64 u)] (MK sel c (.sl false 6 (usD y :: r.map usD)) js bs cs) (MkP sel (useS u y c) (.sl false 6 (r.map usD)) bs) := by
 have hU := fun bs vc => f75_ok sel c.us.length c.lits.length c.names.length c.sels.length y r bs vc
 obtain ⟨a0, t0, k0, d0, i0, w0⟩ := y
 refine AF.start' 60 Tryz.func74 rfl rfl c74call c74ok fun Q hQ => ?_
 simp [c74c, c74t]
 refine ATT.callT Tryz.func74 60 (hU _ _) (by simp) (by simp) (by simp) fun out hC hE => ?_
 obtain ⟨b, e1, e2⟩ := hE
 simp only [usD] at e1
 subst e1 e2
 by_cases h2 : k0 = 2
 ·subst h2
  have e : useS u ⟨a0, t0, 2, d0, i0, w0⟩ c = addS u (7, i0, 0) c := rfl
  rw [e] at hQ
  simp [c74t]
  refine ATT.callT Tryz.func74 60 (add_ok sel c _ js _ cs hI u hu (by omega) 7 i0 0) (by simp) (by simp) (by simp) fun out hC hE => ?_
  obtain ⟨e1, js', b', cs', e2, hI'⟩ := hE
  subst e1 e2
  simp
  refine ATT.fin0' hQ Tryz.func74 c74res ?_
  exact ⟨by simp, rfl, js', _, cs', rfl, hI'⟩
 by_cases h3 : k0 = 3
 ·subst h3
  have e : useS u ⟨a0, t0, 3, d0, i0, w0⟩ c = addS u (1, d0, i0) c := rfl
  rw [e] at hQ
  simp [c74t]
  refine ATT.callT Tryz.func74 60 (add_ok sel c _ js _ cs hI u hu (by omega) 1 d0 i0) (by simp) (by simp) (by simp) fun out hC hE => ?_
  obtain ⟨e1, js', b', cs', e2, hI'⟩ := hE
  subst e1 e2
  simp
  refine ATT.fin0' hQ Tryz.func74 c74res ?_
  exact ⟨by simp, rfl, js', _, cs', rfl, hI'⟩
 by_cases h4 : k0 = 4
 ·subst h4
  have e : useS u ⟨a0, t0, 4, d0, i0, w0⟩ c = addS u (3, i0, 0) c := rfl
  rw [e] at hQ
  simp [c74t]
  refine ATT.callT Tryz.func74 60 (add_ok sel c _ js _ cs hI u hu (by omega) 3 i0 0) (by simp) (by simp) (by simp) fun out hC hE => ?_
  obtain ⟨e1, js', b', cs', e2, hI'⟩ := hE
  subst e1 e2
  simp
  refine ATT.fin0' hQ Tryz.func74 c74res ?_
  exact ⟨by simp, rfl, js', _, cs', rfl, hI'⟩
 by_cases h5 : k0 = 5
 ·subst h5
  have e : useS u ⟨a0, t0, 5, d0, i0, w0⟩ c = addS u (5, (onceS c.names t0).2, 0) { c with names := (onceS c.names t0).1 } := rfl
  have hl := once_len c.names t0
  have hn : c.names.length ≤ szC c := by unfold szC; omega
  rw [e] at hQ
  simp [c74t]
  refine ATT.callRT Tryz.func74 60 (f72_names sel c.us.length c.lits.length c.sels.length _ c.names (by omega) t0 _ _ _ _ cs) (by simp) (by simp) (by simp) fun out hC hE => ?_
  obtain ⟨b2, c2, e1, e2⟩ := hE
  subst e1 e2
  simp
  refine ATT.callRT Tryz.func74 60 (add_ok sel { c with names := (onceS c.names t0).1 } _ js _ (cs ++ c2) (hI.more c2) u hu (by unfold szC at hz ⊢; simp only; omega) 5 (onceS c.names t0).2 0) (by simp) (by simp) (by simp) fun out hC hE => ?_
  obtain ⟨e1, js', b', cs', e2, hI'⟩ := hE
  subst e1 e2
  simp
  refine ATT.fin0' hQ Tryz.func74 c74res ?_
  exact ⟨by simp, rfl, js', _, cs', rfl, hI'⟩
 ·have e : useS u ⟨a0, t0, k0, d0, i0, w0⟩ c = addS u (6, 0, 0) c := by unfold useS; rw [if_neg h2, if_neg h3, if_neg h4, if_neg h5]
  rw [e] at hQ
  simp [c74t, h2, h3, h4, h5]
  refine ATT.callT Tryz.func74 60 (add_ok sel c _ js _ cs hI u hu (by omega) 6 0 0) (by simp) (by simp) (by simp) fun out hC hE => ?_
  obtain ⟨e1, js', b', cs', e2, hI'⟩ := hE
  subst e1 e2
  simp
  refine ATT.fin0' hQ Tryz.func74 c74res ?_
  exact ⟨by simp, rfl, js', _, cs', rfl, hI'⟩
end Go.SL
namespace Go.SL
open Go.Proofs
set_option maxRecDepth 10000
abbrev uzD (nl : Bool) (us : List Us) : D := .sl nl 6 (us.map usD)
def MkQ (sel : ByteArray) (s : MS) (bs : List Bx) (o : Out) (h : H) : Prop := ∃ nl, MkP sel s.1 (uzD nl s.2) bs o h ∧ (nl = true → s.2 = [])
def PartM (x : Nd) : Prop := ∀ (sel : ByteArray) (c : CM) (us : List Us) (nl : Bool) (js : List Nat) (bs : List Bx) (cs : List (Option Vec)) (un : Nat) (s' : MS) (ud : D), InsOK c.us js cs → un < c.us.length → szC c + 8 * nds x ≤ 999980 → (nl = true → us = []) →
 mkP litB un x (c, us) = some s' → NdR x ud → AF Tryz.prog 47 [.ptr 0 0, .d (.int .i64 un), .d ud] (MK sel c (uzD nl us) js bs cs) (MkQ sel s' bs)
set_option maxHeartbeats 1000000 in
theorem f76_ok (args : List Nd) (hk : ∀ y ∈ args, PartM y) (hn : args.length ≤ 10000) (sel : ByteArray) (c : CM) (us : List Us) (nl : Bool) (js : List Nat) (bs : List Bx) (cs : List (Option Vec)) (un : Nat) (s' : MS) (x : Nd) (xd : D) (t : ByteArray) (anl : Bool) (az : Nat) (ads : List D)
  (hI : InsOK c.us js cs) (hu : un < c.us.length) (hz : szC c + 8 * ndL args ≤ 999970) (hnl : nl = true → us = []) (hm : mkL litB un args (c, us) = some s') (hx : NdR x xd) (h3 : anl = true → args = []) (h4 : anl = false → az = 6) (h5 : NdRL args ads) :
  AF Tryz.prog 76 [.ptr 0 0, .d (.int .i64 un), .d xd, .d (.str t), .d (.sl anl az ads)] (MK sel c (uzD nl us) js bs cs) (MkQ sel (sendC un (supS x) t args.length s'.1, s'.2) bs) := by
 obtain ⟨nl1_x, z1_x, nl2_x, z2_x, ds_x, hv_x, ha_x, hb_x, hc_x, hd_x, he_x⟩ := hx.shape
 subst hv_x
 have hdl := h5.length
 refine AF.start' 60 Tryz.func76 rfl rfl c76call c76ok fun Q hQ => ?_
 simp [c76c, c76t, hdl]
 refine ATT.loopG 60 c76l6.eq_1 (fun ((i, c1, us1, nl1, js1, cs1) : Nat × CM × List Us × Bool × List Nat × List (Option Vec)) => args.length - i) (fun ((i, c1, us1, nl1, js1, cs1) : Nat × CM × List Us × Bool × List Nat × List (Option Vec)) => i ≤ args.length ∧ mkL litB un (args.drop i) (c1, us1) = some s' ∧ szC c1 + 8 * ndL (args.drop i) ≤ 999970 ∧ InsOK c1.us js1 cs1 ∧ un < c1.us.length ∧ (nl1 = true → us1 = [])) (fun ((i, c1, us1, nl1, js1, cs1) : Nat × CM × List Us × Bool × List Nat × List (Option Vec)) => [(0, .ptr 0 0), (1, .d (.int .i64 un)), (3, .d (.str t)), (4, .d (.sl anl az ads)), (7, .ptr (bs.length + 1) 0), (13, .d (.sl anl az ads)), (14, .d (.int .i64 args.length)), (15, .d (.int .i64 i))]) (fun ((i, c1, us1, nl1, js1, cs1) : Nat × CM × List Us × Bool × List Nat × List (Option Vec)) => MB sel c1.us.length c1.lits.length c1.names.length c1.sels.length (uzD nl1 us1) :: (bs ++ [.cells [.d (.int .i64 x.k), .d (.str x.t), .d (.int .i64 x.a), .d (.int .i64 x.n), .d (.sl nl1_x z1_x (x.names.map .str)), .d (.sl nl2_x z2_x ds_x)] 50])) (fun ((i, c1, us1, nl1, js1, cs1) : Nat × CM × List Us × Bool × List Nat × List (Option Vec)) => UV c1.us.isEmpty (List.zipWith uv c1.us js1) :: NS c1.lits :: NS c1.names :: NS c1.sels :: cs1) ((0, c, us, nl, js, cs)) (by (try dsimp only); exact ⟨Nat.zero_le _, hm, hz, hI, hu, hnl⟩) (by simp <;> omega) (by simp) (by simp) ?_
 intro ⟨i, c1, us1, nl1, js1, cs1⟩ u w hI ih
 try simp only at hI ih
 obtain ⟨k1, k2, k3, k4, k5, k6⟩ := hI
 by_cases hi : i < args.length
 ·have hnl2 : anl = false := by cases anl with | false => rfl | true => (have := h3 rfl; rw [this] at hi; simp at hi)
  subst hnl2
  have := h4 rfl
  subst this
  obtain ⟨y, hy⟩ : ∃ y, args[i]? = some y := ⟨_, List.getElem?_eq_getElem hi⟩
  obtain ⟨d, hd, hyd⟩ := h5.at hy
  have hdE : ∀ h, ads[i]'h = d := fun h => by rw [List.getElem?_eq_getElem h] at hd; simpa using hd
  have hi' : (i : Int) < args.length := by omega
  have hII : inI ((i : Int) + 1) = true := inI_of (by omega) (by omega)
  rw [nd_drop hy] at k2 k3
  simp only [mkL] at k2
  simp only [ndL] at k3
  cases hp : mkP litB un y (c1, us1) with
  | none => rw [hp] at k2; simp at k2
  | some s2 =>
   rw [hp] at k2
   have hgr := mkP_gr hp
   have hcall := hk y (List.mem_of_getElem? hy) sel c1 us1 nl1 js1
   have hyd' := hyd
   obtain ⟨nl1_d, z1_d, nl2_d, z2_d, ds_d, hv_d, ha_d, hb_d, hc_d, hd_d, he_d⟩ := hyd.shape
   have hw_d := hv_d
   subst hw_d
   simp [c76t, hdl, hi, hi', hdE]
   refine ATT.callT Tryz.func76 60 (hcall _ (cs1 ++ w) un s2 _ (k4.more w) k5 (by omega) k6 hp hyd') (by simp) (by simp) (by simp) fun out hC hE => ?_
   obtain ⟨nl', ⟨e1, js', b', cs', e2, hI'⟩, hn'⟩ := hE
   subst e1 e2
   simp [c76t, hII]
   refine ih (i + 1, s2.1, s2.2, nl', js', cs') (by first | ((try dsimp only); omega) | (simp [hdl, hi, hi', hd, hdE, hII] <;> omega)) (by (try dsimp only); exact ⟨hi, k2, by have := hgr.2; simp only at this; omega, hI', Nat.lt_of_lt_of_le k5 hgr.1, hn'⟩) _ _ _ (by simp <;> omega) (by simp <;> omega) (by simp <;> omega)
 ·have hi' : ¬ (i : Int) < args.length := by omega
  rw [List.drop_eq_nil_of_le (by omega)] at k2
  simp only [mkL, Option.some.injEq] at k2
  subst k2
  by_cases x5 : x.k = 5
  ·by_cases xt : x.t = ⟨#[115, 117, 112, 101, 114]⟩
   ·have e : supS x = true := by unfold supS superT; rw [decide_eq_true x5, decide_eq_true xt]; rfl
    simp only [e, sendC, if_true] at hQ
    simp [c76t, hi', eq_true x5, eq_true xt]
    refine ATT.callT Tryz.func76 60 (f72_sels sel c1.us.length c1.lits.length c1.names.length _ c1.sels (by unfold szC at k3; omega) t _ _ _ _ (cs1 ++ w)) (by simp) (by simp) (by simp) fun out hC hE => ?_
    obtain ⟨b2, c2, e1, e2⟩ := hE
    subst e1 e2
    simp [hdl]
    refine ATT.callT Tryz.func76 60 (add_ok sel { c1 with sels := (onceS c1.sels t).1 } (uzD nl1 us1) js1 _ (cs1 ++ (w ++ c2)) (k4.more (w ++ c2)) un k5 (by have := once_len c1.sels t; unfold szC at k3 ⊢; simp only; omega) 9 (onceS c1.sels t).2 args.length) (by simp) (by simp) (by simp) fun out hC hE => ?_
    obtain ⟨e1, js', b', cs', e2, hI'⟩ := hE
    subst e1 e2
    simp
    refine ATT.fin0' hQ Tryz.func76 c76res ?_
    exact ⟨by simp, nl1, ⟨rfl, js', _, cs', rfl, hI'⟩, k6⟩
   ·have e : supS x = false := by unfold supS superT; rw [decide_eq_false xt]; simp
    simp only [e, sendC, Bool.false_eq_true, if_false] at hQ
    simp [c76t, hi', eq_true x5, xt]
    refine ATT.callT Tryz.func76 60 (f72_sels sel c1.us.length c1.lits.length c1.names.length _ c1.sels (by unfold szC at k3; omega) t _ _ _ _ (cs1 ++ w)) (by simp) (by simp) (by simp) fun out hC hE => ?_
    obtain ⟨b2, c2, e1, e2⟩ := hE
    subst e1 e2
    simp [hdl]
    refine ATT.callT Tryz.func76 60 (add_ok sel { c1 with sels := (onceS c1.sels t).1 } (uzD nl1 us1) js1 _ (cs1 ++ (w ++ c2)) (k4.more (w ++ c2)) un k5 (by have := once_len c1.sels t; unfold szC at k3 ⊢; simp only; omega) 8 (onceS c1.sels t).2 args.length) (by simp) (by simp) (by simp) fun out hC hE => ?_
    obtain ⟨e1, js', b', cs', e2, hI'⟩ := hE
    subst e1 e2
    simp
    refine ATT.fin0' hQ Tryz.func76 c76res ?_
    exact ⟨by simp, nl1, ⟨rfl, js', _, cs', rfl, hI'⟩, k6⟩
  ·have e : supS x = false := by unfold supS; rw [decide_eq_false x5]; rfl
   simp only [e, sendC, Bool.false_eq_true, if_false] at hQ
   simp [c76t, hi', x5]
   refine ATT.callT Tryz.func76 60 (f72_sels sel c1.us.length c1.lits.length c1.names.length _ c1.sels (by unfold szC at k3; omega) t _ _ _ _ (cs1 ++ w)) (by simp) (by simp) (by simp) fun out hC hE => ?_
   obtain ⟨b2, c2, e1, e2⟩ := hE
   subst e1 e2
   simp [hdl]
   refine ATT.callT Tryz.func76 60 (add_ok sel { c1 with sels := (onceS c1.sels t).1 } (uzD nl1 us1) js1 _ (cs1 ++ (w ++ c2)) (k4.more (w ++ c2)) un k5 (by have := once_len c1.sels t; unfold szC at k3 ⊢; simp only; omega) 8 (onceS c1.sels t).2 args.length) (by simp) (by simp) (by simp) fun out hC hE => ?_
   obtain ⟨e1, js', b', cs', e2, hI'⟩ := hE
   subst e1 e2
   simp
   refine ATT.fin0' hQ Tryz.func76 c76res ?_
   exact ⟨by simp, nl1, ⟨rfl, js', _, cs', rfl, hI'⟩, k6⟩
end Go.SL
namespace Go.SL
open Go.Proofs
set_option maxRecDepth 10000
theorem mkS_cons {lt : Nd → ByteArray} (un i : Nat) (y : Nd) (r : List Nd) (s : MS) : mkS lt un i (y :: r) s =
  if y.k = 11 then (mkH lt un y.kids (if i = 0 then s.1 else addS un (12, 0, 0) s.1, s.2)).map fun s => ((addS un (14, 0, 0) s.1, s.2), true)
  else (mkP lt un y (if i = 0 then s.1 else addS un (12, 0, 0) s.1, s.2)).bind fun s => mkS lt un (i + 1) r s := by
 cases y; rfl
theorem fine_ret {y : Nd} (h : Fine y) (k : y.k = 11) : ∃ z, y.kids = [z] := by
 cases y with
 | mk k t a n names kids =>
  simp only [Nd.k] at k
  simp only [Fine] at h
  have := h.2.2.1 (.inl k)
  match kids, this with
  | [z], _ => exact ⟨z, rfl⟩
def UnitM (x : Nd) : Prop := ∀ (sel : ByteArray) (c : CM) (us : List Us) (nl : Bool) (js : List Nat) (bs : List Bx) (cs : List (Option Vec)) (s : MS × Bool) (ud : D), InsOK c.us js cs → szC c + 8 * nds x ≤ 999982 → (nl = true → us = []) →
 mkS litB c.us.length 0 x.kids (newU x.n x.names.length c, us) = some s → NdR x ud → AF Tryz.prog 31 [.ptr 0 0, .d ud] (MK sel c (uzD nl us) js bs cs) (MkQ sel (doneU c.us.length (decide (x.k = 12) && !decide (x.t = ⟨#[]⟩)) x.kids.length s, s.1.2) bs)
theorem newU_ok {c : CM} {js : List Nat} {cs : List (Option Vec)} (h : InsOK c.us js cs) (a n : Nat) : InsOK (newU a n c).us (js ++ [0]) cs := by
 obtain ⟨h1, h2, h3⟩ := h
 have key : ∀ (v : Nat) (y : CU), (newU a n c).us[v]? = some y → y.ins ≠ [] → c.us[v]? = some y ∧ v < c.us.length := fun v y e hy => by
  simp only [newU] at e
  rcases Nat.lt_or_ge v c.us.length with hv | hv
  ·rw [List.getElem?_append_left hv] at e; exact ⟨e, hv⟩
  ·rw [List.getElem?_append_right hv] at e
   cases hq : v - c.us.length with
   | zero => rw [hq] at e; simp at e; subst e; simp at hy
   | succ q => rw [hq] at e; simp at e
 have kj : ∀ (v j : Nat), v < c.us.length → (js ++ [0])[v]? = some j → js[v]? = some j := fun v j hv e => by rw [List.getElem?_append_left (by omega)] at e; exact e
 refine ⟨by simp [newU, h1], fun v y j e1 e2 e3 => ?_, fun v w y z j e1 e2 e3 e4 e5 e6 => ?_⟩
 ·obtain ⟨q1, q2⟩ := key v y e1 e3
  exact h2 v y j q1 (kj v j q2 e2) e3
 ·obtain ⟨q1, q2⟩ := key v y e1 e5
  obtain ⟨p1, p2⟩ := key w z e2 e6
  exact h3 v w y z j q1 p1 (kj v j q2 e3) (kj w j p2 e4) e5 e6
theorem newU_row {c : CM} {js : List Nat} (h : js.length = c.us.length) (a n : Nat) : List.zipWith uv c.us js ++ [.d (.agg [.int .i64 a, .int .i64 n, .sl true 0 []])] = List.zipWith uv (newU a n c).us (js ++ [0]) := by
 simp only [newU]
 rw [List.zipWith_append h.symm]
 rfl
set_option maxHeartbeats 1000000 in
theorem f31_ok {Q0 : ByteArray → Nat → Prop} (x : Nd) (hg : Good Q0 x) (hf : Fine x) (hk : ∀ y, SizeOf.sizeOf y < SizeOf.sizeOf x → Good Q0 y → Fine y → PartM y) : UnitM x := by
 intro sel c us nl js bs cs s ud hI hz hnl hm hud
 obtain ⟨nl1, z1, nl2, z2, ds, e, h1, h2, h3, h4, h5⟩ := hud.shape
 subst e
 have ho := hg.one
 have hl2 : x.kids.length ≤ 10000 := ho.2.1
 have hdl := h5.length
 have hn := Nd.count x
 have hmul : (c.us.length + 1) * 40 ≤ 140737488355328 := by unfold szC at hz; omega
 have hrow := newU_row hI.1 x.n x.names.length
 have hmin : min c.us.length js.length = c.us.length := by have := hI.1; omega
 refine AF.start' 60 Tryz.func31 rfl rfl c31call c31ok fun Q hQ => ?_
 simp [c31c, c31t, hdl, hmul, hmin]
 rw [hrow]
 have g1 : (newU x.n x.names.length c).us.isEmpty = false := by simp [newU]
 have g2 : (newU x.n x.names.length c).us.length = c.us.length + 1 := by simp [newU]
 have g3 : (newU x.n x.names.length c).lits = c.lits := rfl
 have g4 : (newU x.n x.names.length c).names = c.names := rfl
 have g5 : (newU x.n x.names.length c).sels = c.sels := rfl
 have hgz := (newU_gr x.n x.names.length c).2
 refine ATT.loopG 60 c31l13.eq_1 (fun ((i, c1, us1, nq, js1, cs1) : Nat × CM × List Us × Bool × List Nat × List (Option Vec)) => x.kids.length - i) (fun ((i, c1, us1, nq, js1, cs1) : Nat × CM × List Us × Bool × List Nat × List (Option Vec)) => i ≤ x.kids.length ∧ mkS litB c.us.length i (x.kids.drop i) (c1, us1) = some s ∧ szC c1 + 8 * ndL (x.kids.drop i) ≤ 999975 ∧ InsOK c1.us js1 cs1 ∧ c.us.length < c1.us.length ∧ (nq = true → us1 = [])) (fun ((i, c1, us1, nq, js1, cs1) : Nat × CM × List Us × Bool × List Nat × List (Option Vec)) => [(0, .ptr 0 0), (3, .ptr (bs.length + 1) 0), (4, .d (.int .i64 c.us.length)), (32, .d (.sl nl2 z2 ds)), (33, .d (.int .i64 x.kids.length)), (34, .d (.int .i64 i))]) (fun ((i, c1, us1, nq, js1, cs1) : Nat × CM × List Us × Bool × List Nat × List (Option Vec)) => MB sel c1.us.length c1.lits.length c1.names.length c1.sels.length (uzD nq us1) :: (bs ++ [.cells [.d (.int .i64 x.k), .d (.str x.t), .d (.int .i64 x.a), .d (.int .i64 x.n), .d (.sl nl1 z1 (x.names.map .str)), .d (.sl nl2 z2 ds)] 50])) (fun ((i, c1, us1, nq, js1, cs1) : Nat × CM × List Us × Bool × List Nat × List (Option Vec)) => UV c1.us.isEmpty (List.zipWith uv c1.us js1) :: NS c1.lits :: NS c1.names :: NS c1.sels :: cs1) ((0, newU x.n x.names.length c, us, nl, js ++ [0], cs)) (by (try dsimp only); exact ⟨Nat.zero_le _, hm, by simp; omega, newU_ok hI _ _, by simp [newU], hnl⟩) (by simp <;> omega) (by simp) (by simp [g1, g2, g3, g4, g5]) ?_
 intro ⟨i, c1, us1, nq, js1, cs1⟩ u w hI ih
 try simp only at hI ih
 obtain ⟨k1, k2, k3, k4, k5, k6⟩ := hI
 by_cases hi : i < x.kids.length
 ·have hnl2 : nl2 = false := by cases nl2 with | false => rfl | true => (have := h3 rfl; rw [this] at hi; simp at hi)
  subst hnl2
  have := h4 rfl
  subst this
  obtain ⟨y, hy⟩ : ∃ y, x.kids[i]? = some y := ⟨_, List.getElem?_eq_getElem hi⟩
  obtain ⟨d, hd, hyd⟩ := h5.at hy
  have hdE : ∀ h, ds[i]'h = d := fun h => by rw [List.getElem?_eq_getElem h] at hd; simpa using hd
  have hi' : (i : Int) < x.kids.length := by omega
  have hII : inI ((i : Int) + 1) = true := inI_of (by omega) (by omega)
  have hgy := GoodL.iff.1 hg.all y (List.mem_of_getElem? hy)
  have hfy := FineL.iff.1 (Nd.fine hf) y (List.mem_of_getElem? hy)
  rw [nd_drop hy] at k2 k3
  simp only [ndL] at k3
  have hny1 := Nd.count y
  have hyd' := hyd
  obtain ⟨nl1_d, z1_d, nl2_d, z2_d, ds_d, hv_d, ha_d, hb_d, hc_d, hd_d, he_d⟩ := hyd.shape
  have hw_d := hv_d
  subst hw_d
  by_cases hi0 : i = 0
  ·have hi0' : ¬ 0 < i := by omega
   by_cases y11 : y.k = 11
   ·obtain ⟨z, hz1⟩ := fine_ret hfy y11
    rw [mkS_cons, if_pos y11, hz1, if_pos hi0] at k2
    simp only [mkH] at k2
    cases hp : mkP litB c.us.length z (c1, us1) with
    | none => rw [hp] at k2; simp at k2
    | some s2 =>
     rw [hp] at k2
     simp only [Option.map_some, Option.some.injEq] at k2
     subst k2
     simp only [doneU, if_true] at hQ
     have hgr := mkP_gr hp
     have hny : nds y = 1 + nds z := by rw [Nd.count, hz1]; simp [ndL]
     have hzs : SizeOf.sizeOf z < SizeOf.sizeOf x := by have h1 := kid_lt hy; have h2 : SizeOf.sizeOf z < SizeOf.sizeOf y := kid_lt (i := 0) (by rw [hz1]; rfl); omega
     have hcz := hk z hzs (GoodL.iff.1 hgy.all z (by rw [hz1]; simp)) (FineL.iff.1 (Nd.fine hfy) z (by rw [hz1]; simp)) sel (c1) us1 nq js1
     obtain ⟨dz, hdz, hzd⟩ := he_d.at (i := 0) (y := z) (by rw [hz1]; rfl)
     have hnd : nl2_d = false := by cases nl2_d with | false => rfl | true => (have := hc_d rfl; rw [hz1] at this; simp at this)
     subst hnd
     have hz6 := hd_d rfl
     subst hz6
     have hdzE : ∀ h, ds_d[0]'h = dz := fun h => by rw [List.getElem?_eq_getElem h] at hdz; simpa using hdz
     have hzd' := hzd
     obtain ⟨nl1_dz, z1_dz, nl2_dz, z2_dz, ds_dz, hv_dz, ha_dz, hb_dz, hc_dz, hd_dz, he_dz⟩ := hzd.shape
     have hw_dz := hv_dz
     subst hw_dz
     simp [c31t, hdl, hi, hi', hdE, hi0', eq_true y11, hdz]
     refine ATT.callT Tryz.func31 60 (hcz _ (cs1 ++ w) c.us.length s2 _ (k4.more w) k5 (by omega) k6 hp hzd') (by simp) (by simp) (by simp) fun out hC hE => ?_
     obtain ⟨nl', ⟨e1, js3, b3, cs3, e2, hI3⟩, hn3⟩ := hE
     subst e1 e2
     simp [c31t]
     refine ATT.callT Tryz.func31 60 (add_ok sel s2.1 (uzD nl' s2.2) js3 _ cs3 hI3 c.us.length (Nat.lt_of_lt_of_le k5 hgr.1) (by have h9 := hgr.2; simp only at h9; omega) 14 0 0) (by simp) (by simp) (by simp) fun out hC hE => ?_
     obtain ⟨e1, js4, b4, cs4, e2, hI4⟩ := hE
     subst e1 e2
     simp
     refine ATT.fin' hQ Tryz.func31 c31res ?_
     exact ⟨by simp, nl', ⟨rfl, js4, _, cs4, rfl, hI4⟩, hn3⟩
   ·rw [mkS_cons, if_neg y11, if_pos hi0] at k2
    cases hp : mkP litB c.us.length y (c1, us1) with
    | none => rw [hp] at k2; simp at k2
    | some s2 =>
     rw [hp] at k2
     simp only [Option.bind_some] at k2
     have hgr := mkP_gr hp
     have hcy := hk y (kid_lt hy) hgy hfy sel (c1) us1 nq js1
     simp [c31t, hdl, hi, hi', hdE, hi0', y11]
     refine ATT.callT Tryz.func31 60 (hcy _ (cs1 ++ w) c.us.length s2 _ (k4.more w) k5 (by omega) k6 hp hyd') (by simp) (by simp) (by simp) fun out hC hE => ?_
     obtain ⟨nl', ⟨e1, js3, b3, cs3, e2, hI3⟩, hn3⟩ := hE
     subst e1 e2
     simp [c31t, hII]
     refine ih (i + 1, s2.1, s2.2, nl', js3, cs3) (by first | ((try dsimp only); omega) | (simp [hdl, hi, hi', hd, hdE, hII, hi0', y11] <;> omega)) (by (try dsimp only); exact ⟨hi, k2, by have h9 := hgr.2; simp only at h9; omega, hI3, Nat.lt_of_lt_of_le k5 hgr.1, hn3⟩) _ _ _ (by simp <;> omega) (by simp <;> omega) (by simp <;> omega)
  ·have hi0' : 0 < i := by omega
   have hpz := (addS_gr c.us.length (12, 0, 0) c1).2
   have hpl := (addS_gr c.us.length (12, 0, 0) c1).1
   simp [c31t, hdl, hi, hi', hdE, hi0']
   refine ATT.callT Tryz.func31 60 (add_ok sel c1 (uzD nq us1) js1 _ (cs1 ++ w) (k4.more w) c.us.length k5 (by omega) 12 0 0) (by simp) (by simp) (by simp) fun out hC hE => ?_
   obtain ⟨e1, jp, bp, cp, e2, hIp⟩ := hE
   subst e1 e2
   by_cases y11 : y.k = 11
   ·obtain ⟨z, hz1⟩ := fine_ret hfy y11
    rw [mkS_cons, if_pos y11, hz1, if_neg hi0] at k2
    simp only [mkH] at k2
    cases hp : mkP litB c.us.length z ((addS c.us.length (12, 0, 0) c1), us1) with
    | none => rw [hp] at k2; simp at k2
    | some s2 =>
     rw [hp] at k2
     simp only [Option.map_some, Option.some.injEq] at k2
     subst k2
     simp only [doneU, if_true] at hQ
     have hgr := mkP_gr hp
     have hny : nds y = 1 + nds z := by rw [Nd.count, hz1]; simp [ndL]
     have hzs : SizeOf.sizeOf z < SizeOf.sizeOf x := by have h1 := kid_lt hy; have h2 : SizeOf.sizeOf z < SizeOf.sizeOf y := kid_lt (i := 0) (by rw [hz1]; rfl); omega
     have hcz := hk z hzs (GoodL.iff.1 hgy.all z (by rw [hz1]; simp)) (FineL.iff.1 (Nd.fine hfy) z (by rw [hz1]; simp)) sel ((addS c.us.length (12, 0, 0) c1)) us1 nq jp
     obtain ⟨dz, hdz, hzd⟩ := he_d.at (i := 0) (y := z) (by rw [hz1]; rfl)
     have hnd : nl2_d = false := by cases nl2_d with | false => rfl | true => (have := hc_d rfl; rw [hz1] at this; simp at this)
     subst hnd
     have hz6 := hd_d rfl
     subst hz6
     have hdzE : ∀ h, ds_d[0]'h = dz := fun h => by rw [List.getElem?_eq_getElem h] at hdz; simpa using hdz
     have hzd' := hzd
     obtain ⟨nl1_dz, z1_dz, nl2_dz, z2_dz, ds_dz, hv_dz, ha_dz, hb_dz, hc_dz, hd_dz, he_dz⟩ := hzd.shape
     have hw_dz := hv_dz
     subst hw_dz
     simp [c31t, eq_true y11, hdz]
     refine ATT.callT Tryz.func31 60 (hcz _ cp c.us.length s2 _ hIp (Nat.lt_of_lt_of_le k5 hpl) (by omega) k6 hp hzd') (by simp) (by simp) (by simp) fun out hC hE => ?_
     obtain ⟨nl', ⟨e1, js3, b3, cs3, e2, hI3⟩, hn3⟩ := hE
     subst e1 e2
     simp [c31t]
     refine ATT.callT Tryz.func31 60 (add_ok sel s2.1 (uzD nl' s2.2) js3 _ cs3 hI3 c.us.length (Nat.lt_of_lt_of_le (Nat.lt_of_lt_of_le k5 hpl) hgr.1) (by have h9 := hgr.2; simp only at h9; omega) 14 0 0) (by simp) (by simp) (by simp) fun out hC hE => ?_
     obtain ⟨e1, js4, b4, cs4, e2, hI4⟩ := hE
     subst e1 e2
     simp
     refine ATT.fin' hQ Tryz.func31 c31res ?_
     exact ⟨by simp, nl', ⟨rfl, js4, _, cs4, rfl, hI4⟩, hn3⟩
   ·rw [mkS_cons, if_neg y11, if_neg hi0] at k2
    cases hp : mkP litB c.us.length y ((addS c.us.length (12, 0, 0) c1), us1) with
    | none => rw [hp] at k2; simp at k2
    | some s2 =>
     rw [hp] at k2
     simp only [Option.bind_some] at k2
     have hgr := mkP_gr hp
     have hcy := hk y (kid_lt hy) hgy hfy sel ((addS c.us.length (12, 0, 0) c1)) us1 nq jp
     simp [c31t, y11]
     refine ATT.callT Tryz.func31 60 (hcy _ cp c.us.length s2 _ hIp (Nat.lt_of_lt_of_le k5 hpl) (by omega) k6 hp hyd') (by simp) (by simp) (by simp) fun out hC hE => ?_
     obtain ⟨nl', ⟨e1, js3, b3, cs3, e2, hI3⟩, hn3⟩ := hE
     subst e1 e2
     simp [c31t, hII]
     refine ih (i + 1, s2.1, s2.2, nl', js3, cs3) (by first | ((try dsimp only); omega) | (simp [hdl, hi, hi', hd, hdE, hII, hi0', y11] <;> omega)) (by (try dsimp only); exact ⟨hi, k2, by have h9 := hgr.2; simp only at h9; omega, hI3, Nat.lt_of_lt_of_le (Nat.lt_of_lt_of_le k5 hpl) hgr.1, hn3⟩) _ _ _ (by simp <;> omega) (by simp <;> omega) (by simp <;> omega)
 ·have hi' : ¬ (i : Int) < x.kids.length := by omega
  rw [List.drop_eq_nil_of_le (by omega)] at k2
  simp only [mkS, Option.some.injEq] at k2
  subst k2
  simp only [doneU, Bool.false_eq_true, if_false] at hQ
  by_cases hM : (decide (x.k = 12) && !decide (x.t = ⟨#[]⟩)) = true
  ·have hM2 := hM
   simp only [Bool.and_eq_true, decide_eq_true_eq, Bool.not_eq_true', decide_eq_false_iff_not] at hM2
   obtain ⟨k12, xt⟩ := hM2
   rw [hM] at hQ
   by_cases h0 : x.kids.length = 0
   ·have h0' : ¬ 0 < x.kids.length := by omega
    simp only [endS, if_true, if_pos h0] at hQ
    simp [c31t, hi', hdl, eq_true k12, xt, h0']
    refine ATT.callT Tryz.func31 60 (add_ok sel (c1) (uzD nq us1) js1 _ (cs1 ++ w) (k4.more w) c.us.length (k5) (by omega) 6 0 0) (by simp) (by simp) (by simp) fun out hC hE => ?_
    obtain ⟨e1, j0, b0, x0, e2, i0⟩ := hE
    subst e1 e2
    have z0 := (addS_gr c.us.length (6, 0, 0) (c1)).2
    have l0 := Nat.lt_of_lt_of_le (k5) (addS_gr c.us.length (6, 0, 0) (c1)).1
    simp [c31t]
    refine ATT.callT Tryz.func31 60 (add_ok sel (addS c.us.length (6, 0, 0) (c1)) (uzD nq us1) j0 _ x0 i0 c.us.length (l0) (by omega) 14 0 0) (by simp) (by simp) (by simp) fun out hC hE => ?_
    obtain ⟨e1, j1, b1, x1, e2, i1⟩ := hE
    subst e1 e2
    have z1 := (addS_gr c.us.length (14, 0, 0) (addS c.us.length (6, 0, 0) (c1))).2
    have l1 := Nat.lt_of_lt_of_le (l0) (addS_gr c.us.length (14, 0, 0) (addS c.us.length (6, 0, 0) (c1))).1
    simp
    refine ATT.fin' hQ Tryz.func31 c31res ?_
    exact ⟨by simp, nq, ⟨rfl, j1, _, x1, rfl, i1⟩, k6⟩
   ·have h0' : 0 < x.kids.length := by omega
    simp only [endS, if_true, if_neg h0] at hQ
    simp [c31t, hi', hdl, eq_true k12, xt, h0']
    refine ATT.callT Tryz.func31 60 (add_ok sel (c1) (uzD nq us1) js1 _ (cs1 ++ w) (k4.more w) c.us.length (k5) (by omega) 12 0 0) (by simp) (by simp) (by simp) fun out hC hE => ?_
    obtain ⟨e1, j0, b0, x0, e2, i0⟩ := hE
    subst e1 e2
    have z0 := (addS_gr c.us.length (12, 0, 0) (c1)).2
    have l0 := Nat.lt_of_lt_of_le (k5) (addS_gr c.us.length (12, 0, 0) (c1)).1
    simp [c31t]
    refine ATT.callT Tryz.func31 60 (add_ok sel (addS c.us.length (12, 0, 0) (c1)) (uzD nq us1) j0 _ x0 i0 c.us.length (l0) (by omega) 6 0 0) (by simp) (by simp) (by simp) fun out hC hE => ?_
    obtain ⟨e1, j1, b1, x1, e2, i1⟩ := hE
    subst e1 e2
    have z1 := (addS_gr c.us.length (6, 0, 0) (addS c.us.length (12, 0, 0) (c1))).2
    have l1 := Nat.lt_of_lt_of_le (l0) (addS_gr c.us.length (6, 0, 0) (addS c.us.length (12, 0, 0) (c1))).1
    simp [c31t]
    refine ATT.callT Tryz.func31 60 (add_ok sel (addS c.us.length (6, 0, 0) (addS c.us.length (12, 0, 0) (c1))) (uzD nq us1) j1 _ x1 i1 c.us.length (l1) (by omega) 14 0 0) (by simp) (by simp) (by simp) fun out hC hE => ?_
    obtain ⟨e1, j2, b2, x2, e2, i2⟩ := hE
    subst e1 e2
    have z2 := (addS_gr c.us.length (14, 0, 0) (addS c.us.length (6, 0, 0) (addS c.us.length (12, 0, 0) (c1)))).2
    have l2 := Nat.lt_of_lt_of_le (l1) (addS_gr c.us.length (14, 0, 0) (addS c.us.length (6, 0, 0) (addS c.us.length (12, 0, 0) (c1)))).1
    simp
    refine ATT.fin' hQ Tryz.func31 c31res ?_
    exact ⟨by simp, nq, ⟨rfl, j2, _, x2, rfl, i2⟩, k6⟩
  ·have hM1 : (decide (x.k = 12) && !decide (x.t = ⟨#[]⟩)) = false := by simpa using hM
   rw [hM1] at hQ
   have hM2 : x.k = 12 → x.t = ⟨#[]⟩ := fun k => by simpa [k] using hM1
   by_cases k12 : x.k = 12
   ·have xt := hM2 k12
    by_cases h0 : x.kids.length = 0
    ·simp only [endS, Bool.false_eq_true, if_false, if_pos h0] at hQ
     have hke := List.length_eq_zero_iff.1 h0
     simp [c31t, hi', hdl, eq_true k12, eq_true xt, eq_true hke]
     refine ATT.callT Tryz.func31 60 (add_ok sel (c1) (uzD nq us1) js1 _ (cs1 ++ w) (k4.more w) c.us.length (k5) (by omega) 7 0 0) (by simp) (by simp) (by simp) fun out hC hE => ?_
     obtain ⟨e1, j0, b0, x0, e2, i0⟩ := hE
     subst e1 e2
     have z0 := (addS_gr c.us.length (7, 0, 0) (c1)).2
     have l0 := Nat.lt_of_lt_of_le (k5) (addS_gr c.us.length (7, 0, 0) (c1)).1
     simp [c31t]
     refine ATT.callT Tryz.func31 60 (add_ok sel (addS c.us.length (7, 0, 0) (c1)) (uzD nq us1) j0 _ x0 i0 c.us.length (l0) (by omega) 13 0 0) (by simp) (by simp) (by simp) fun out hC hE => ?_
     obtain ⟨e1, j1, b1, x1, e2, i1⟩ := hE
     subst e1 e2
     have z1 := (addS_gr c.us.length (13, 0, 0) (addS c.us.length (7, 0, 0) (c1))).2
     have l1 := Nat.lt_of_lt_of_le (l0) (addS_gr c.us.length (13, 0, 0) (addS c.us.length (7, 0, 0) (c1))).1
     simp
     refine ATT.fin0' hQ Tryz.func31 c31res ?_
     exact ⟨by simp, nq, ⟨rfl, j1, _, x1, rfl, i1⟩, k6⟩
    ·simp only [endS, Bool.false_eq_true, if_false, if_neg h0] at hQ
     have hke : ¬ x.kids = [] := fun e => h0 (by rw [e]; rfl)
     simp [c31t, hi', hdl, eq_true k12, eq_true xt, hke]
     refine ATT.callT Tryz.func31 60 (add_ok sel (c1) (uzD nq us1) js1 _ (cs1 ++ w) (k4.more w) c.us.length (k5) (by omega) 13 0 0) (by simp) (by simp) (by simp) fun out hC hE => ?_
     obtain ⟨e1, j0, b0, x0, e2, i0⟩ := hE
     subst e1 e2
     have z0 := (addS_gr c.us.length (13, 0, 0) (c1)).2
     have l0 := Nat.lt_of_lt_of_le (k5) (addS_gr c.us.length (13, 0, 0) (c1)).1
     simp
     refine ATT.fin0' hQ Tryz.func31 c31res ?_
     exact ⟨by simp, nq, ⟨rfl, j0, _, x0, rfl, i0⟩, k6⟩
   ·by_cases h0 : x.kids.length = 0
    ·simp only [endS, Bool.false_eq_true, if_false, if_pos h0] at hQ
     have hke := List.length_eq_zero_iff.1 h0
     simp [c31t, hi', hdl, k12, eq_true hke]
     refine ATT.callT Tryz.func31 60 (add_ok sel (c1) (uzD nq us1) js1 _ (cs1 ++ w) (k4.more w) c.us.length (k5) (by omega) 7 0 0) (by simp) (by simp) (by simp) fun out hC hE => ?_
     obtain ⟨e1, j0, b0, x0, e2, i0⟩ := hE
     subst e1 e2
     have z0 := (addS_gr c.us.length (7, 0, 0) (c1)).2
     have l0 := Nat.lt_of_lt_of_le (k5) (addS_gr c.us.length (7, 0, 0) (c1)).1
     simp [c31t]
     refine ATT.callT Tryz.func31 60 (add_ok sel (addS c.us.length (7, 0, 0) (c1)) (uzD nq us1) j0 _ x0 i0 c.us.length (l0) (by omega) 13 0 0) (by simp) (by simp) (by simp) fun out hC hE => ?_
     obtain ⟨e1, j1, b1, x1, e2, i1⟩ := hE
     subst e1 e2
     have z1 := (addS_gr c.us.length (13, 0, 0) (addS c.us.length (7, 0, 0) (c1))).2
     have l1 := Nat.lt_of_lt_of_le (l0) (addS_gr c.us.length (13, 0, 0) (addS c.us.length (7, 0, 0) (c1))).1
     simp
     refine ATT.fin0' hQ Tryz.func31 c31res ?_
     exact ⟨by simp, nq, ⟨rfl, j1, _, x1, rfl, i1⟩, k6⟩
    ·simp only [endS, Bool.false_eq_true, if_false, if_neg h0] at hQ
     have hke : ¬ x.kids = [] := fun e => h0 (by rw [e]; rfl)
     simp [c31t, hi', hdl, k12, hke]
     refine ATT.callT Tryz.func31 60 (add_ok sel (c1) (uzD nq us1) js1 _ (cs1 ++ w) (k4.more w) c.us.length (k5) (by omega) 13 0 0) (by simp) (by simp) (by simp) fun out hC hE => ?_
     obtain ⟨e1, j0, b0, x0, e2, i0⟩ := hE
     subst e1 e2
     have z0 := (addS_gr c.us.length (13, 0, 0) (c1)).2
     have l0 := Nat.lt_of_lt_of_le (k5) (addS_gr c.us.length (13, 0, 0) (c1)).1
     simp
     refine ATT.fin0' hQ Tryz.func31 c31res ?_
     exact ⟨by simp, nq, ⟨rfl, j0, _, x0, rfl, i0⟩, k6⟩
end Go.SL
namespace Go.SL
open Go.Proofs
set_option maxRecDepth 10000
theorem fine_lit {x : Nd} (h : Fine x) (k : x.k = 1 ∨ x.k = 2 ∨ x.k = 3 ∨ x.k = 4) : LitP x := by
 cases x with
 | mk k t a n names kids =>
  simp only [Nd.k] at k
  simp only [Fine] at h
  simp only [LitP]
  exact ⟨by omega, h.2.2.2.1 k⟩
theorem mkD_cons {lt : Nd → ByteArray} (un : Nat) (sp : Bool) (m y : Nd) (r : List Nd) (s : MS) : mkD lt un sp (m :: y :: r) s = (mkM lt un sp m (addS un (11, 0, 0) s.1, s.2)).bind fun s => mkD lt un sp (y :: r) (addS un (12, 0, 0) s.1, s.2) := by
 simp only [mkD]
theorem mkM_eq {lt : Nd → ByteArray} (un : Nat) (sp : Bool) (m : Nd) (s : MS) : mkM lt un sp m s = (mkL lt un m.kids s).map fun s => (sendC un sp m.t m.kids.length s.1, s.2) := by
 cases m; simp only [mkM, Nd.kids, Nd.t]
set_option maxHeartbeats 2000000 in
theorem f47_ok {Q0 : ByteArray → Nat → Prop} : ∀ (m : Nat) (x : Nd), SizeOf.sizeOf x ≤ m → Good Q0 x → Fine x → PartM x := by
 intro m
 induction m with
 | zero => intro x h; cases x; simp at h
 | succ m ihn =>
  intro x hmx hg hf sel c us nl js bs cs un s' ud hI hu hz hnl hm hud
  have hud0 := hud
  obtain ⟨nl1, z1, nl2, z2, ds, e, h1, h2, h3, h4, h5⟩ := hud.shape
  subst e
  have ho := hg.one
  have hl2 : x.kids.length ≤ 10000 := ho.2.1
  have hdl := h5.length
  have hn := Nd.count x
  by_cases k1 : x.k = 1
  ·have hT := f73_lit x hg (fine_lit hf (by omega)) (by omega) _ hud0
   have e : mkP litB un x (c, us) = some (litS un (litB x) c, us) := by cases x; simp only [Nd.k] at k1; simp only [mkP]; rw [if_pos (by omega)]
   rw [e] at hm
   simp only [Option.some.injEq] at hm
   subst hm
   refine AF.start' 60 Tryz.func47 rfl rfl c47call c47ok fun Q hQ => ?_
   simp [c47c, c47t, k1]
   refine ATT.callRD Tryz.func47 60 (hT) (by simp) (by simp [k1]) (by simp) ?_
   simp
   refine ATT.callRT Tryz.func47 60 (f72_lits sel c.us.length c.names.length c.sels.length _ c.lits (by unfold szC at hz; omega) (litB x) _ _ _ _ cs) (by simp) (by simp) (by simp) fun out hC hE => ?_
   obtain ⟨b2, c2, e1, e2⟩ := hE
   subst e1 e2
   simp
   refine ATT.callRT Tryz.func47 60 (add_ok sel { c with lits := (onceS c.lits (litB x)).1 } (uzD nl us) js _ (cs ++ c2) (hI.more c2) un hu (by have := once_len c.lits (litB x); unfold szC at hz ⊢; simp only; omega) 0 (onceS c.lits (litB x)).2 0) (by simp) (by simp) (by simp) fun out hC hE => ?_
   obtain ⟨e1, js', b', cs', e2, hI'⟩ := hE
   subst e1 e2
   simp
   refine ATT.fin0' hQ Tryz.func47 c47res ?_
   exact ⟨by simp, nl, ⟨rfl, js', _, cs', rfl, hI'⟩, hnl⟩
  by_cases k2 : x.k = 2
  ·have hT := f73_lit x hg (fine_lit hf (by omega)) (by omega) _ hud0
   have e : mkP litB un x (c, us) = some (litS un (litB x) c, us) := by cases x; simp only [Nd.k] at k2; simp only [mkP]; rw [if_pos (by omega)]
   rw [e] at hm
   simp only [Option.some.injEq] at hm
   subst hm
   refine AF.start' 60 Tryz.func47 rfl rfl c47call c47ok fun Q hQ => ?_
   simp [c47c, c47t, k2]
   refine ATT.callRD Tryz.func47 60 (hT) (by simp) (by simp [k2]) (by simp) ?_
   simp
   refine ATT.callRT Tryz.func47 60 (f72_lits sel c.us.length c.names.length c.sels.length _ c.lits (by unfold szC at hz; omega) (litB x) _ _ _ _ cs) (by simp) (by simp) (by simp) fun out hC hE => ?_
   obtain ⟨b2, c2, e1, e2⟩ := hE
   subst e1 e2
   simp
   refine ATT.callRT Tryz.func47 60 (add_ok sel { c with lits := (onceS c.lits (litB x)).1 } (uzD nl us) js _ (cs ++ c2) (hI.more c2) un hu (by have := once_len c.lits (litB x); unfold szC at hz ⊢; simp only; omega) 0 (onceS c.lits (litB x)).2 0) (by simp) (by simp) (by simp) fun out hC hE => ?_
   obtain ⟨e1, js', b', cs', e2, hI'⟩ := hE
   subst e1 e2
   simp
   refine ATT.fin0' hQ Tryz.func47 c47res ?_
   exact ⟨by simp, nl, ⟨rfl, js', _, cs', rfl, hI'⟩, hnl⟩
  by_cases k3 : x.k = 3
  ·have hT := f73_lit x hg (fine_lit hf (by omega)) (by omega) _ hud0
   have e : mkP litB un x (c, us) = some (litS un (litB x) c, us) := by cases x; simp only [Nd.k] at k3; simp only [mkP]; rw [if_pos (by omega)]
   rw [e] at hm
   simp only [Option.some.injEq] at hm
   subst hm
   refine AF.start' 60 Tryz.func47 rfl rfl c47call c47ok fun Q hQ => ?_
   simp [c47c, c47t, k3]
   refine ATT.callRD Tryz.func47 60 (hT) (by simp) (by simp [k3]) (by simp) ?_
   simp
   refine ATT.callRT Tryz.func47 60 (f72_lits sel c.us.length c.names.length c.sels.length _ c.lits (by unfold szC at hz; omega) (litB x) _ _ _ _ cs) (by simp) (by simp) (by simp) fun out hC hE => ?_
   obtain ⟨b2, c2, e1, e2⟩ := hE
   subst e1 e2
   simp
   refine ATT.callRT Tryz.func47 60 (add_ok sel { c with lits := (onceS c.lits (litB x)).1 } (uzD nl us) js _ (cs ++ c2) (hI.more c2) un hu (by have := once_len c.lits (litB x); unfold szC at hz ⊢; simp only; omega) 0 (onceS c.lits (litB x)).2 0) (by simp) (by simp) (by simp) fun out hC hE => ?_
   obtain ⟨e1, js', b', cs', e2, hI'⟩ := hE
   subst e1 e2
   simp
   refine ATT.fin0' hQ Tryz.func47 c47res ?_
   exact ⟨by simp, nl, ⟨rfl, js', _, cs', rfl, hI'⟩, hnl⟩
  by_cases k4 : x.k = 4
  ·have hT := f73_lit x hg (fine_lit hf (by omega)) (by omega) _ hud0
   have e : mkP litB un x (c, us) = some (litS un (litB x) c, us) := by cases x; simp only [Nd.k] at k4; simp only [mkP]; rw [if_pos (by omega)]
   rw [e] at hm
   simp only [Option.some.injEq] at hm
   subst hm
   refine AF.start' 60 Tryz.func47 rfl rfl c47call c47ok fun Q hQ => ?_
   simp [c47c, c47t, k4]
   refine ATT.callRD Tryz.func47 60 (hT) (by simp) (by simp [k4]) (by simp) ?_
   simp
   refine ATT.callRT Tryz.func47 60 (f72_lits sel c.us.length c.names.length c.sels.length _ c.lits (by unfold szC at hz; omega) (litB x) _ _ _ _ cs) (by simp) (by simp) (by simp) fun out hC hE => ?_
   obtain ⟨b2, c2, e1, e2⟩ := hE
   subst e1 e2
   simp
   refine ATT.callRT Tryz.func47 60 (add_ok sel { c with lits := (onceS c.lits (litB x)).1 } (uzD nl us) js _ (cs ++ c2) (hI.more c2) un hu (by have := once_len c.lits (litB x); unfold szC at hz ⊢; simp only; omega) 0 (onceS c.lits (litB x)).2 0) (by simp) (by simp) (by simp) fun out hC hE => ?_
   obtain ⟨e1, js', b', cs', e2, hI'⟩ := hE
   subst e1 e2
   simp
   refine ATT.fin0' hQ Tryz.func47 c47res ?_
   exact ⟨by simp, nl, ⟨rfl, js', _, cs', rfl, hI'⟩, hnl⟩
  have k14 : ¬ (x.k = 1 ∨ x.k = 2 ∨ x.k = 3 ∨ x.k = 4) := by omega
  by_cases k5 : x.k = 5
  ·have e : ∀ us, mkP litB un x (c, us) = (match us with | [] => none | y :: us' => some (useS un y c, us')) := fun us => by cases x; simp only [Nd.k] at k5 k14; simp only [mkP]; rw [if_neg k14, if_pos k5]; rfl
   rw [e] at hm
   cases us with
   | nil => simp at hm
   | cons y r =>
    simp only [Option.some.injEq] at hm
    subst hm
    have hnf : nl = false := by cases nl with | false => rfl | true => exact absurd (hnl rfl) (by simp)
    subst hnf
    refine AF.start' 60 Tryz.func47 rfl rfl c47call c47ok fun Q hQ => ?_
    simp [c47c, c47t, k5]
    refine ATT.callT Tryz.func47 60 (f74_ok sel c y r js _ cs hI un hu (by omega)) (by simp) (by simp) (by simp) fun out hC hE => ?_
    obtain ⟨e1, js', b', cs', e2, hI'⟩ := hE
    subst e1 e2
    simp
    refine ATT.fin0' hQ Tryz.func47 c47res ?_
    exact ⟨by simp, false, ⟨rfl, js', _, cs', rfl, hI'⟩, fun e => by simp at e⟩
  have kid : ∀ y ∈ x.kids, PartM y := fun y hy => by
   obtain ⟨i, hi⟩ := List.mem_iff_getElem?.1 hy
   exact ihn y (by have := kid_lt hi; omega) (GoodL.iff.1 hg.all y hy) (FineL.iff.1 (Nd.fine hf) y hy)
  by_cases k6 : x.k = 6
  ·obtain ⟨z, hz1⟩ : ∃ z, x.kids = [z] := by
    cases x with
    | mk k t a n names kids =>
     simp only [Nd.k] at k6
     simp only [Fine] at hf
     have := hf.2.2.1 (.inr k6)
     match kids, this with
     | [z], _ => exact ⟨z, rfl⟩
   have e : ∀ us, mkP litB un x (c, us) = (match us with | [] => none | y :: us' => (mkH litB un x.kids (c, us')).map fun s => (setS un y s.1, s.2)) := fun us => by cases x; simp only [Nd.k] at k5 k6 k14; simp only [mkP, Nd.kids]; rw [if_neg k14, if_neg k5, if_pos k6]; rfl
   rw [e] at hm
   cases us with
   | nil => simp at hm
   | cons y r =>
    have hnf : nl = false := by cases nl with | false => rfl | true => exact absurd (hnl rfl) (by simp)
    subst hnf
    simp only [hz1, mkH] at hm
    cases hp : mkP litB un z (c, r) with
    | none => rw [hp] at hm; simp at hm
    | some s2 =>
     rw [hp] at hm
     simp only [Option.map_some, Option.some.injEq] at hm
     subst hm
     have hgr := mkP_gr hp
     have hnz : nds x = 1 + nds z := by rw [Nd.count, hz1]; simp [ndL]
     have hcz := kid z (by rw [hz1]; simp) sel c r false js
     rw [hz1] at h5
     simp only [NdRL] at h5
     obtain ⟨dz, l, el, hzd, el2⟩ := h5
     subst el2 el
     have hnd : nl2 = false := by cases nl2 with | false => rfl | true => (have := h3 rfl; rw [hz1] at this; simp at this)
     subst hnd
     have hz6 := h4 rfl
     subst hz6
     have hU := fun bs vc => f75_ok sel c.us.length c.lits.length c.names.length c.sels.length y r bs vc
     obtain ⟨a0, t0, k0, d0, i0, w0⟩ := y
     have hzd' := hzd
     obtain ⟨nl1_dz, z1_dz, nl2_dz, z2_dz, ds_dz, hv_dz, ha_dz, hb_dz, hc_dz, hd_dz, he_dz⟩ := hzd.shape
     have hw_dz := hv_dz
     subst hw_dz
     refine AF.start' 60 Tryz.func47 rfl rfl c47call c47ok fun Q hQ => ?_
     simp [c47c, c47t, k6]
     refine ATT.callT Tryz.func47 60 (hU _ _) (by simp) (by simp) (by simp) fun out hC hE => ?_
     obtain ⟨b, e1, e2⟩ := hE
     simp only [usD] at e1
     subst e1 e2
     simp [c47t]
     refine ATT.callT Tryz.func47 60 (hcz _ cs un s2 _ hI hu (by omega) (fun e => by simp at e) hp hzd') (by simp) (by simp) (by simp) fun out hC hE => ?_
     obtain ⟨nl', ⟨e1, js3, b3, cs3, e2, hI3⟩, hn3⟩ := hE
     subst e1 e2
     by_cases k3 : k0 = 3
     ·have e : setS un ⟨a0, t0, k0, d0, i0, w0⟩ s2.1 = addS un (2, d0, i0) s2.1 := by unfold setS; rw [if_pos k3]
      rw [e] at hQ
      simp [c47t, eq_true k3]
      refine ATT.callT Tryz.func47 60 (add_ok sel s2.1 (uzD nl' s2.2) js3 _ cs3 hI3 un (Nat.lt_of_lt_of_le hu hgr.1) (by have h9 := hgr.2; simp only at h9; omega) 2 d0 i0) (by simp) (by simp) (by simp) fun out hC hE => ?_
      obtain ⟨e1, js4, b4, cs4, e2, hI4⟩ := hE
      subst e1 e2
      simp
      refine ATT.fin0' hQ Tryz.func47 c47res ?_
      exact ⟨by simp, nl', ⟨rfl, js4, _, cs4, rfl, hI4⟩, hn3⟩
     ·have e : setS un ⟨a0, t0, k0, d0, i0, w0⟩ s2.1 = addS un (4, i0, 0) s2.1 := by unfold setS; rw [if_neg k3]
      rw [e] at hQ
      simp [c47t, k3]
      refine ATT.callT Tryz.func47 60 (add_ok sel s2.1 (uzD nl' s2.2) js3 _ cs3 hI3 un (Nat.lt_of_lt_of_le hu hgr.1) (by have h9 := hgr.2; simp only at h9; omega) 4 i0 0) (by simp) (by simp) (by simp) fun out hC hE => ?_
      obtain ⟨e1, js4, b4, cs4, e2, hI4⟩ := hE
      subst e1 e2
      simp
      refine ATT.fin0' hQ Tryz.func47 c47res ?_
      exact ⟨by simp, nl', ⟨rfl, js4, _, cs4, rfl, hI4⟩, hn3⟩
  by_cases k7 : x.k = 7
  ·obtain ⟨a, ks, hks⟩ : ∃ a ks, x.kids = a :: ks := by
    cases x with
    | mk k t a n names kids =>
     simp only [Nd.k] at k7
     simp only [Fine] at hf
     have := hf.2.1 k7
     match kids, this with
     | a :: ks, _ => exact ⟨a, ks, rfl⟩
   have e : mkP litB un x (c, us) = (mkL litB un x.kids (c, us)).map fun s => (sendC un (sup0 x.kids) x.t (x.kids.length - 1) s.1, s.2) := by cases x; simp only [Nd.k] at k5 k6 k7 k14; simp only [mkP, Nd.kids, Nd.t]; rw [if_neg k14, if_neg k5, if_neg k6, if_pos k7]
   rw [e, hks] at hm
   simp only [mkL] at hm
   cases hp : mkP litB un a (c, us) with
   | none => rw [hp] at hm; simp at hm
   | some s2 =>
    rw [hp] at hm
    simp only [Option.bind_some] at hm
    cases hp2 : mkL litB un ks s2 with
    | none => rw [hp2] at hm; simp at hm
    | some s3 =>
     rw [hp2] at hm
     simp only [Option.map_some, Option.some.injEq, sup0, List.length_cons, Nat.add_sub_cancel] at hm
     subst hm
     have hgr := mkP_gr hp
     have hnk : nds x = 1 + (nds a + ndL ks) := by rw [Nd.count, hks]; simp [ndL]
     have hna := Nd.count a
     have hca := kid a (by rw [hks]; simp) sel c us nl js
     have hkk : ∀ y ∈ ks, PartM y := fun y hy => kid y (by rw [hks]; simp [hy])
     rw [hks] at h5 hl2
     simp only [NdRL] at h5
     obtain ⟨da, ds', el, had, h5'⟩ := h5
     subst el
     have hnd : nl2 = false := by cases nl2 with | false => rfl | true => (have := h3 rfl; rw [hks] at this; simp at this)
     subst hnd
     have hz6 := h4 rfl
     subst hz6
     have had' := had
     have h1i : (1 : Int) ≤ (ds'.length : Int) + 1 := by omega
     obtain ⟨nl1_da, z1_da, nl2_da, z2_da, ds_da, hv_da, ha_da, hb_da, hc_da, hd_da, he_da⟩ := had.shape
     have hw_da := hv_da
     subst hw_da
     refine AF.start' 60 Tryz.func47 rfl rfl c47call c47ok fun Q hQ => ?_
     simp [c47c, c47t, k7]
     refine ATT.callT Tryz.func47 60 (hca _ cs un s2 _ hI hu (by omega) hnl hp had') (by simp) (by simp) (by simp) fun out hC hE => ?_
     obtain ⟨nl', ⟨e1, js3, b3, cs3, e2, hI3⟩, hn3⟩ := hE
     subst e1 e2
     simp [h1i]
     refine ATT.callRT Tryz.func47 60 (f76_ok ks hkk (by simp at hl2; omega) sel s2.1 s2.2 nl' js3 _ cs3 un s3 a _ x.t false 6 ds' hI3 (Nat.lt_of_lt_of_le hu hgr.1) (by have h9 := hgr.2; simp only at h9; omega) hn3 hp2 had' (fun e => by simp at e) (fun _ => rfl) h5') (by simp) (by simp) (by simp) fun out hC hE => ?_
     obtain ⟨nl4, ⟨e1, js4, b4, cs4, e2, hI4⟩, hn4⟩ := hE
     subst e1 e2
     simp
     refine ATT.fin0' hQ Tryz.func47 c47res ?_
     exact ⟨by simp, nl4, ⟨rfl, js4, _, cs4, rfl, hI4⟩, hn4⟩
  by_cases k8 : x.k = 8
  ·obtain ⟨a, q, r', hks⟩ : ∃ a q r', x.kids = a :: q :: r' := by
    cases x with
    | mk k t a n names kids =>
     simp only [Nd.k] at k8
     simp only [Fine] at hf
     have := (hf.1.1 k8).1
     match kids, this with
     | a :: q :: r', _ => exact ⟨a, q, r', rfl⟩
   have e : mkP litB un x (c, us) = mkC litB un (sup0 x.kids) x.kids (c, us) := by cases x; simp only [Nd.k] at k5 k6 k7 k8 k14; simp only [mkP, Nd.kids]; rw [if_neg k14, if_neg k5, if_neg k6, if_neg k7, if_pos k8]
   rw [e, hks] at hm
   simp only [mkC, sup0] at hm
   cases hp : mkP litB un a (c, us) with
   | none => rw [hp] at hm; simp at hm
   | some s2 =>
    rw [hp] at hm
    simp only [Option.bind_some] at hm
    have hgr := mkP_gr hp
    have hnk : nds x = 1 + (nds a + ndL (q :: r')) := by rw [Nd.count, hks]; simp [ndL]
    have hna := Nd.count a
    have hca := kid a (by rw [hks]; simp) sel c us nl js
    have hkk : ∀ m ∈ (q :: r'), ∀ y ∈ m.kids, PartM y := fun m hmm y hy => by
     have hmk : m ∈ x.kids := by rw [hks]; exact List.mem_cons_of_mem _ hmm
     obtain ⟨i, hi⟩ := List.mem_iff_getElem?.1 hmk
     obtain ⟨i2, hi2⟩ := List.mem_iff_getElem?.1 hy
     have hgm := GoodL.iff.1 hg.all m hmk
     have hfm := FineL.iff.1 (Nd.fine hf) m hmk
     exact ihn y (by have := kid_lt hi; have := kid_lt hi2; omega) (GoodL.iff.1 hgm.all y hy) (FineL.iff.1 (Nd.fine hfm) y hy)
    have hkn : ∀ m ∈ (q :: r'), m.kids.length ≤ 10000 := fun m hmm => (GoodL.iff.1 hg.all m (by rw [hks]; exact List.mem_cons_of_mem _ hmm)).one.2.1
    rw [hks] at h5 hl2
    have hnd : nl2 = false := by cases nl2 with | false => rfl | true => (have := h3 rfl; rw [hks] at this; simp at this)
    subst hnd
    have hz6 := h4 rfl
    subst hz6
    simp only [NdRL] at h5
    obtain ⟨da, l1, el1, had, dq, dr, el2, hdq, hdr⟩ := h5
    subst el1 el2
    have h5' : NdRL (q :: r') (dq :: dr) := by simp only [NdRL]; exact ⟨dq, dr, rfl, hdq, hdr⟩
    have hrl := hdr.length
    have had' := had
    have h1i : (1 : Int) ≤ (dr.length : Int) + 1 := by omega
    have hII0 : inI ((dr.length : Int) + 1) = true := inI_of (by simp at hl2; omega) (by simp at hl2; omega)
    obtain ⟨md, hmd⟩ : ∃ md, List.take dr.length (dq :: dr) = md := ⟨_, rfl⟩
    have hml : md.length = dr.length := by rw [← hmd]; simp
    have hlef : (dr.length : Int) ≤ (dr.length : Int) + 1 := by omega
    obtain ⟨nl1_da, z1_da, nl2_da, z2_da, ds_da, hv_da, ha_da, hb_da, hc_da, hd_da, he_da⟩ := had.shape
    have hw_da := hv_da
    subst hw_da
    refine AF.start' 60 Tryz.func47 rfl rfl c47call c47ok fun Q hQ => ?_
    simp [c47c, c47t, k8]
    refine ATT.callT Tryz.func47 60 (hca _ cs un s2 _ hI hu (by omega) hnl hp had') (by simp) (by simp) (by simp) fun out hC hE => ?_
    obtain ⟨nl', ⟨e1, js3, b3, cs3, e2, hI3⟩, hn3⟩ := hE
    subst e1 e2
    simp [c47t, h1i, hII0, hmd, hml, hlef]
    refine ATT.loopG 60 c47l28.eq_1 (fun ((j, c1, us1, nq, js1, cs1) : Nat × CM × List Us × Bool × List Nat × List (Option Vec)) => dr.length - j) (fun ((j, c1, us1, nq, js1, cs1) : Nat × CM × List Us × Bool × List Nat × List (Option Vec)) => j ≤ dr.length ∧ mkD litB un (supS a) ((q :: r').drop j) (c1, us1) = some s' ∧ szC c1 + 8 * ndL ((q :: r').drop j) ≤ 999970 ∧ InsOK c1.us js1 cs1 ∧ un < c1.us.length ∧ (nq = true → us1 = [])) (fun ((j, c1, us1, nq, js1, cs1) : Nat × CM × List Us × Bool × List Nat × List (Option Vec)) => [(0, .ptr 0 0), (1, .d (.int .i64 un)), (5, .ptr (bs.length + 1) 0), (7, .d (.int .i64 ((dr.length : Int) + 1))), (95, .d (.sl false 6 md)), (96, .d (.int .i64 dr.length)), (97, .d (.int .i64 j))]) (fun ((j, c1, us1, nq, js1, cs1) : Nat × CM × List Us × Bool × List Nat × List (Option Vec)) => MB sel c1.us.length c1.lits.length c1.names.length c1.sels.length (uzD nq us1) :: (bs ++ [.cells [.d (.int .i64 8), .d (.str x.t), .d (.int .i64 x.a), .d (.int .i64 x.n), .d (.sl nl1 z1 (x.names.map .str)), .d (.sl false 6 (.agg [.int .i64 a.k, .str a.t, .int .i64 a.a, .int .i64 a.n, .sl nl1_da z1_da (a.names.map .str), .sl nl2_da z2_da ds_da] :: dq :: dr))] 50])) (fun ((j, c1, us1, nq, js1, cs1) : Nat × CM × List Us × Bool × List Nat × List (Option Vec)) => UV c1.us.isEmpty (List.zipWith uv c1.us js1) :: NS c1.lits :: NS c1.names :: NS c1.sels :: cs1) ((0, s2.1, s2.2, nl', js3, cs3)) (by (try dsimp only); exact ⟨Nat.zero_le _, hm, by have h9 := hgr.2; simp only [List.drop_zero] at h9 ⊢; omega, hI3, Nat.lt_of_lt_of_le hu hgr.1, hn3⟩) (by simp <;> omega) (by simp) (by simp) ?_
    intro ⟨j, c1, us1, nq, js1, cs1⟩ u w hI ih
    try simp only at hI ih
    obtain ⟨i1, i2, i3, i4, i5, i6⟩ := hI
    by_cases hj : j < dr.length
    ·obtain ⟨m1, hm1⟩ : ∃ m1, (q :: r')[j]? = some m1 := ⟨_, List.getElem?_eq_getElem (by simp; omega)⟩
     obtain ⟨y2, hy2⟩ : ∃ y2, (q :: r')[j + 1]? = some y2 := ⟨_, List.getElem?_eq_getElem (by simp; omega)⟩
     obtain ⟨dm, hdm, hdmr⟩ := h5'.at hm1
     have hmj : md[j]? = some dm := by rw [← hmd, List.getElem?_take_of_lt hj]; exact hdm
     have hmjE : ∀ h, md[j]'h = dm := fun h => by rw [List.getElem?_eq_getElem h] at hmj; simpa using hmj
     have hj' : (j : Int) < dr.length := by omega
     have hII : inI ((j : Int) + 1) = true := inI_of (by omega) (by simp at hl2; omega)
     have hmem := List.mem_of_getElem? hm1
     rw [nd_drop hm1, nd_drop hy2, mkD_cons, mkM_eq] at i2
     rw [nd_drop hm1] at i3
     simp only [ndL] at i3
     have hcm := Nd.count m1
     cases hp2 : mkL litB un m1.kids (addS un (11, 0, 0) c1, us1) with
     | none => rw [hp2] at i2; simp at i2
     | some s4 =>
      rw [hp2] at i2
      simp only [Option.map_some, Option.bind_some] at i2
      have hgL := mkL_gr hp2
      have hgS := sendC_gr un (supS a) m1.t m1.kids.length s4.1
      have hg1 := addS_gr un (11, 0, 0) c1
      have hg2 := addS_gr un (12, 0, 0) (sendC un (supS a) m1.t m1.kids.length s4.1)
      have hsz := hgL.2
      have hsz2 := hgS.2
      have hsz3 := hg1.2
      have hsz4 := hg2.2
      simp only at hsz
      obtain ⟨nl1_m, z1_m, nl2_m, z2_m, ds_m, hv_m, ha_m, hb_m, hc_m, hd_m, he_m⟩ := hdmr.shape
      subst hv_m
      simp [c47t, hj, hj', hmjE, hml]
      refine ATT.callT Tryz.func47 60 (add_ok sel c1 (uzD nq us1) js1 _ (cs1 ++ w) (i4.more w) un i5 (by omega) 11 0 0) (by simp) (by simp) (by simp) fun out hC hE => ?_
      obtain ⟨e1, js5, b5, cs5, e2, hI5⟩ := hE
      subst e1 e2
      simp
      refine ATT.callRT Tryz.func47 60 (f76_ok m1.kids (hkk m1 hmem) (hkn m1 hmem) sel (addS un (11, 0, 0) c1) us1 nq js5 _ cs5 un s4 a _ m1.t nl2_m z2_m ds_m hI5 (Nat.lt_of_lt_of_le i5 hg1.1) (by omega) i6 hp2 had' hc_m hd_m he_m) (by simp) (by simp) (by simp) fun out hC hE => ?_
      obtain ⟨nl6, ⟨e1, js6, b6, cs6, e2, hI6⟩, hn6⟩ := hE
      subst e1 e2
      simp [c47t]
      refine ATT.callT Tryz.func47 60 (add_ok sel (sendC un (supS a) m1.t m1.kids.length s4.1) (uzD nl6 s4.2) js6 _ cs6 hI6 un (Nat.lt_of_lt_of_le i5 (Nat.le_trans hg1.1 (Nat.le_trans hgL.1 hgS.1))) (by omega) 12 0 0) (by simp) (by simp) (by simp) fun out hC hE => ?_
      obtain ⟨e1, js7, b7, cs7, e2, hI7⟩ := hE
      subst e1 e2
      simp [c47t, hII]
      refine ih (j + 1, addS un (12, 0, 0) (sendC un (supS a) m1.t m1.kids.length s4.1), s4.2, nl6, js7, cs7) (by first | ((try dsimp only); omega) | (simp [hdl, hj, hj', hmj, hmjE, hII, hml] <;> omega)) (by (try dsimp only); exact ⟨hj, by rw [nd_drop hy2]; exact i2, by rw [nd_drop hy2]; simp only [ndL]; rw [nd_drop hy2] at i3; simp only [ndL] at i3; omega, hI7, Nat.lt_of_lt_of_le i5 (Nat.le_trans hg1.1 (Nat.le_trans hgL.1 (Nat.le_trans hgS.1 hg2.1))), hn6⟩) _ _ _ (by simp <;> omega) (by simp <;> omega) (by simp <;> omega)
    ·have hj' : ¬ (j : Int) < dr.length := by omega
     have hje : j = dr.length := by omega
     subst hje
     obtain ⟨m1, hm1⟩ : ∃ m1, (q :: r')[dr.length]? = some m1 := ⟨_, List.getElem?_eq_getElem (by simp; omega)⟩
     obtain ⟨dm, hdm, hdmr⟩ := h5'.at hm1
     have hdmE : ∀ h, (dq :: dr)[dr.length]'h = dm := fun h => by rw [List.getElem?_eq_getElem h] at hdm; simpa using hdm
     have hmem := List.mem_of_getElem? hm1
     have hnil : (q :: r').drop (dr.length + 1) = [] := List.drop_eq_nil_of_le (by simp; omega)
     rw [nd_drop hm1, hnil] at i2 i3
     simp only [mkD, mkM_eq] at i2
     simp only [ndL] at i3
     have hcm := Nd.count m1
     cases hp2 : mkL litB un m1.kids (c1, us1) with
     | none => rw [hp2] at i2; simp at i2
     | some s4 =>
      rw [hp2] at i2
      simp only [Option.map_some, Option.some.injEq] at i2
      subst i2
      have hiR : inR ((dr.length : Int) + 1) (dr.length + 1 + 1) = true := inR_of (by omega) (by omega)
      obtain ⟨nl1_m, z1_m, nl2_m, z2_m, ds_m, hv_m, ha_m, hb_m, hc_m, hd_m, he_m⟩ := hdmr.shape
      subst hv_m
      have h0i : (0 : Int) ≤ (dr.length : Int) + 1 := by omega
      simp [c47t, hj', hdmE, h0i]
      refine ATT.callRT Tryz.func47 60 (f76_ok m1.kids (hkk m1 hmem) (hkn m1 hmem) sel c1 us1 nq js1 _ (cs1 ++ w) un s4 a _ m1.t nl2_m z2_m ds_m (i4.more w) i5 (by omega) i6 hp2 had' hc_m hd_m he_m) (by simp) (by simp) (by simp) fun out hC hE => ?_
      obtain ⟨nl6, ⟨e1, js6, b6, cs6, e2, hI6⟩, hn6⟩ := hE
      subst e1 e2
      simp
      refine ATT.fin0' hQ Tryz.func47 c47res ?_
      exact ⟨by simp, nl6, ⟨rfl, js6, _, cs6, rfl, hI6⟩, hn6⟩
  by_cases k10 : x.k = 10
  ·have e : mkP litB un x (c, us) = (mkS litB c.us.length 0 x.kids (newU x.n x.names.length (addS un (10, c.us.length, 0) c), us)).map fun s => (doneU c.us.length false x.kids.length s, s.1.2) := by cases x; simp only [Nd.k] at k5 k6 k7 k8 k10 k14; simp only [mkP, Nd.kids, Nd.n, Nd.names]; rw [if_neg k14, if_neg k5, if_neg k6, if_neg k7, if_neg k8, if_pos k10]
   have hal : (addS un (10, c.us.length, 0) c).us.length = c.us.length := by simp [addS]
   have haz := (addS_gr un (10, c.us.length, 0) c).2
   rw [e] at hm
   cases hp : mkS litB c.us.length 0 x.kids (newU x.n x.names.length (addS un (10, c.us.length, 0) c), us) with
   | none => rw [hp] at hm; simp at hm
   | some s2 =>
    rw [hp] at hm
    simp only [Option.map_some, Option.some.injEq] at hm
    subst hm
    have hU := f31_ok x hg hf (fun y h1 h2 h3 => ihn y (by omega) h2 h3) sel (addS un (10, c.us.length, 0) c) us nl
    have hfl : (decide (x.k = 12) && !decide (x.t = ⟨#[]⟩)) = false := by rw [k10]; rfl
    rw [hfl, hal] at hU
    have hmin : min c.us.length js.length = c.us.length := by have := hI.1; omega
    refine AF.start' 60 Tryz.func47 rfl rfl c47call c47ok fun Q hQ => ?_
    simp [c47c, c47t, k10, hmin]
    refine ATT.callT Tryz.func47 60 (add_ok sel c (uzD nl us) js _ cs hI un hu (by omega) 10 c.us.length 0) (by simp) (by simp) (by simp) fun out hC hE => ?_
    obtain ⟨e1, js3, b3, cs3, e2, hI3⟩ := hE
    subst e1 e2
    simp [c47t]
    refine ATT.callT Tryz.func47 60 (hU js3 _ cs3 s2 _ hI3 (by omega) hnl hp hud0) (by simp) (by simp [k10]) (by simp) fun out hC hE => ?_
    obtain ⟨nl4, ⟨e1, js4, b4, cs4, e2, hI4⟩, hn4⟩ := hE
    subst e1 e2
    simp
    refine ATT.fin0' hQ Tryz.func47 c47res ?_
    exact ⟨by simp, nl4, ⟨rfl, js4, _, cs4, rfl, hI4⟩, hn4⟩
  have e : mkP litB un x (c, us) = some (c, us) := by cases x; simp only [Nd.k] at k5 k6 k7 k8 k10 k14; simp only [mkP]; rw [if_neg k14, if_neg k5, if_neg k6, if_neg k7, if_neg k8, if_neg k10]
  rw [e] at hm
  simp only [Option.some.injEq] at hm
  subst hm
  refine AF.start' 60 Tryz.func47 rfl rfl c47call c47ok fun Q hQ => ?_
  simp [c47c, c47t, k1, k2, k3, k4, k5, k6, k7, k8, k10]
  refine ATT.fin0' hQ Tryz.func47 c47res ?_
  exact ⟨by simp, nl, ⟨rfl, js, _, cs, rfl, hI⟩, hnl⟩
end Go.SL
namespace Go.SL
open Go.Proofs
set_option maxRecDepth 10000
theorem sbyte_appL {s t : ByteArray} {i : Nat} (h : i < s.size) : sbyte (s ++ t) i = sbyte s i := by
 have h' : i < s.data.toList.length := h
 simp only [sbyte, ByteArray.data_append, Array.toList_append, List.getD_eq_getElem?_getD, Int.toNat_natCast]
 rw [List.getElem?_append_left h']
theorem sbyte_appR {s t : ByteArray} {i : Nat} : sbyte (s ++ t) (s.size + i : Nat) = sbyte t i := by
 have h' : s.data.toList.length = s.size := rfl
 simp only [sbyte, ByteArray.data_append, Array.toList_append, List.getD_eq_getElem?_getD, Int.toNat_natCast]
 rw [List.getElem?_append_right (by omega), h', Nat.add_sub_cancel_left]
theorem cnt_appL {s t : ByteArray} : ∀ {i : Nat}, i ≤ s.size → cnt (s ++ t) i = cnt s i
 | 0, _ => rfl
 | i + 1, h => by simp only [cnt]; rw [cnt_appL (by omega), sbyte_appL (by omega)]
theorem cnt_app {s t : ByteArray} : ∀ i : Nat, cnt (s ++ t) (s.size + i) = cnt s s.size + cnt t i
 | 0 => by simp [cnt, cnt_appL (Nat.le_refl _)]
 | i + 1 => by
  rw [← Nat.add_assoc]
  simp only [cnt]
  rw [cnt_app i, sbyte_appR]; omega
theorem skip_app {p : Int → Bool} {s t : ByteArray} : ∀ m i, s.size - i = m → skipS p s i < s.size → skipS p (s ++ t) i = skipS p s i := by
 intro m
 induction m with
 | zero =>
  intro i hm h
  have : skipS p s i = i := by rw [skipS, dif_neg (by omega)]
  omega
 | succ m ih =>
  intro i hm h
  have hi : i < s.size := by omega
  have hi2 : i < (s ++ t).size := by simp; omega
  have e1 : skipS p s i = if p (sbyte s i) then skipS p s (i + 1) else i := by rw [skipS, dif_pos hi]
  have e2 : skipS p (s ++ t) i = if p (sbyte s i) then skipS p (s ++ t) (i + 1) else i := by rw [skipS, dif_pos hi2, sbyte_appL hi]
  rw [e1] at h
  rw [e1, e2]
  split
  ·rename_i hp
   rw [if_pos hp] at h
   exact ih (i + 1) (by omega) h
  ·rfl
def KeyN (s : ByteArray) (n : Nat) : Prop := (n = 0 → s = ⟨#[]⟩) ∧ cnt s s.size = n ∧ (0 < n → letterS (sbyte s 0) = true ∧ nameS s 0 < s.size)
theorem KeyN.zero : KeyN ⟨#[]⟩ 0 := ⟨fun _ => rfl, rfl, fun h => absurd h (by decide)⟩
theorem KeyN.args {s : ByteArray} {n : Nat} (h0 : 0 < n) (h : KeyN s n) : argsN s = n := by
 obtain ⟨_, h2, h3⟩ := h
 have h4 := h3 h0
 have hp : plainB s = false := by unfold plainB; simp; intro _ _; omega
 have hz : 0 < s.size := by omega
 have hp2 : plainB (s.extract 0 1) = true := by
  have hs : (s.extract 0 1).size = 1 := by simp; omega
  have hb : sbyte (s.extract 0 1) 0 = sbyte s 0 := by
   have := sbyte_sub (s := s) (i := 0) (j := 1) (k := 0) (by omega) (by omega)
   simpa [subT] using this
  unfold plainB nameS
  rw [hs, hb, h4.1]
  simp only [Nat.lt_add_one, decide_true, Bool.true_and, Bool.and_true, decide_eq_true_eq]
  rw [skipS, dif_pos (by rw [hs]; decide)]
  simp only [Int.natCast_zero, hb, identS, h4.1, Bool.true_or, if_true]
  rw [skipS, dif_neg (by rw [hs]; decide)]
 unfold argsN
 rw [hp, hp2, h2]
 simp
theorem KeyN.app {s t : ByteArray} {n : Nat} (h : KeyN s n) (g : KeyN t 1) : KeyN (s ++ t) (n + 1) := by
 obtain ⟨h1, h2, h3⟩ := h
 obtain ⟨_, g2, g3⟩ := g
 refine ⟨fun e => by omega, ?_, fun _ => ?_⟩
 ·have e : (s ++ t).size = s.size + t.size := by simp
  rw [e, cnt_app, h2, g2]
 ·cases n with
  | zero =>
   have := h1 rfl
   subst this
   have e : (⟨#[]⟩ ++ t : ByteArray) = t := ByteArray.empty_append
   rw [e]
   exact g3 (by decide)
  | succ n =>
   have h4 := h3 (by omega)
   have hz : 0 < s.size := by omega
   have hl : sbyte (s ++ t) 0 = sbyte s 0 := sbyte_appL (i := 0) hz
   refine ⟨by rw [hl]; exact h4.1, ?_⟩
   have hn : nameS (s ++ t) 0 = nameS s 0 := by
    have hn0 := h4.2
    unfold nameS at hn0 ⊢
    rw [Int.natCast_zero, hl, h4.1]
    rw [Int.natCast_zero, h4.1] at hn0
    have hz2 : 0 < (s ++ t).size := by simp; omega
    simp only [hz, hz2, decide_true, Bool.true_and, if_true] at hn0 ⊢
    exact skip_app _ 0 rfl hn0
   rw [hn]
   have := h4.2
   simp; omega
end Go.SL
namespace Go.SL
open Go.Proofs
set_option maxRecDepth 10000
theorem skip_to {p : Int → Bool} {s : ByteArray} {m : Nat} (hm : m ≤ s.size) (hn : m < s.size → p (sbyte s m) = false) : ∀ n i, m - i = n → i ≤ m → (∀ j : Nat, i ≤ j → j < m → p (sbyte s j) = true) → skipS p s i = m := by
 intro n
 induction n with
 | zero =>
  intro i h1 h2 h3
  have e : i = m := by omega
  subst e
  rw [skipS]
  split
  ·rename_i h
   rw [if_neg (by rw [hn h]; simp)]
  ·rfl
 | succ n ih =>
  intro i h1 h2 h3
  rw [skipS, dif_pos (by omega), if_pos (h3 i (Nat.le_refl _) (by omega))]
  exact ih (i + 1) (by omega) (by omega) fun j a b => h3 j (by omega) b
theorem cnt_none {s : ByteArray} : ∀ i : Nat, (∀ j : Nat, j < i → sbyte s j ≠ 58) → cnt s i = 0
 | 0, _ => rfl
 | i + 1, h => by simp only [cnt]; rw [cnt_none i fun j hj => h j (by omega), if_neg (h i (by omega))]
theorem ident58 {c : Int} (h : identS c = true) : c ≠ 58 := fun e => by subst e; exact absurd h (by decide)
theorem name_all {s : ByteArray} {i : Nat} (hl : letterS (sbyte s i) = true) (hi : i < s.size) : i < nameS s i ∧ nameS s i ≤ s.size ∧ ∀ j : Nat, i ≤ j → j < nameS s i → identS (sbyte s j) = true := by
 have e : nameS s i = skipS identS s i := by unfold nameS; rw [if_pos (by simp [hl, hi])]
 refine ⟨(nameS_gt s i).2 (by simp [hl, hi]), (nameS_le s i).2 (by omega), fun j a b => ?_⟩
 rw [e] at b
 exact skipS_all _ i rfl j a b
theorem name_args {s : ByteArray} {i : Nat} (hl : letterS (sbyte s i) = true) (hi : i < s.size) : argsN (subT s i (nameS s i)) = 0 := by
 obtain ⟨h1, h2, h3⟩ := name_all hl hi
 generalize nameS s i = e at *
 have hz : (subT s i e).size = e - i := subT_size (by omega) h2
 have hb : sbyte (subT s i e) 0 = sbyte s i := by
  have := sbyte_sub (s := s) (i := i) (j := e) (k := 0) (by omega) h2
  simpa using this
 have hn : nameS (subT s i e) 0 = (subT s i e).size := by
  unfold nameS
  rw [if_pos (by rw [Int.natCast_zero, hb, hl, hz]; simp; omega)]
  refine skip_to (Nat.le_refl _) (fun h => absurd h (Nat.lt_irrefl _)) _ 0 rfl (Nat.zero_le _) fun j _ hj => ?_
  rw [hz] at hj
  rw [sbyte_sub (by omega) h2]
  exact h3 _ (by omega) (by omega)
 have hp : plainB (subT s i e) = true := by unfold plainB; rw [hb, hl, hn, hz]; simp; omega
 unfold argsN
 rw [if_pos hp]
theorem colon_at {s : ByteArray} {e : Nat} (h : colonS s e = true) : e < s.size ∧ sbyte s e = 58 := by
 unfold colonS atS at h
 simp only [Bool.and_eq_true, decide_eq_true_eq] at h
 have h1 := h.1
 split at h1
 ·rename_i h2; exact ⟨h2, h1⟩
 ·exact absurd h1 (by decide)
theorem key_one {s : ByteArray} {i : Nat} (hl : letterS (sbyte s i) = true) (hi : i < s.size) (hc : colonS s (nameS s i) = true) : KeyN (subT s i (nameS s i + 1)) 1 := by
 obtain ⟨h1, h2, h3⟩ := name_all hl hi
 obtain ⟨c1, c2⟩ := colon_at hc
 generalize nameS s i = e at *
 have hz : (subT s i (e + 1)).size = e + 1 - i := subT_size (by omega) (by omega)
 have hb : ∀ j : Nat, j < e + 1 - i → sbyte (subT s i (e + 1)) j = sbyte s (i + j : Nat) := fun j hj => sbyte_sub (by omega) (by omega)
 have hlast : sbyte (subT s i (e + 1)) (e - i : Nat) = 58 := by rw [hb _ (by omega), show i + (e - i) = e by omega]; exact c2
 have hid : ∀ j : Nat, j < e - i → identS (sbyte (subT s i (e + 1)) j) = true := fun j hj => by rw [hb j (by omega)]; exact h3 _ (by omega) (by omega)
 have h0 : sbyte (subT s i (e + 1)) 0 = sbyte s i := by have := hb 0 (by omega); simpa using this
 have hn : nameS (subT s i (e + 1)) 0 = e - i := by
  unfold nameS
  rw [if_pos (by rw [Int.natCast_zero, h0, hl, hz]; simp; omega)]
  exact skip_to (by omega) (fun _ => by rw [hlast]; decide) _ 0 rfl (Nat.zero_le _) fun j _ hj => hid j hj
 refine ⟨fun h => absurd h (by decide), ?_, fun _ => ⟨by rw [h0]; exact hl, by rw [hn, hz]; omega⟩⟩
 rw [hz, show e + 1 - i = (e - i) + 1 by omega]
 simp only [cnt]
 rw [cnt_none _ fun j hj => ident58 (hid j hj), hlast]; rfl
theorem sign_args {s : ByteArray} {i : Nat} (hl : letterS (sbyte s i) = false) (hi : i < s.size) (hg : signS (sbyte s i) = true) : argsN (subT s i (signsS s i)) = 1 := by
 have h1 : i < signsS s i := by unfold signsS; rw [if_pos (by simp [hi, hg])]; split <;> omega
 have h2 := (signsS_le s i).2 (by omega)
 generalize signsS s i = e at *
 have hz : (subT s i e).size = e - i := subT_size (by omega) h2
 have hb : sbyte (subT s i e) 0 = sbyte s i := by
  have := sbyte_sub (s := s) (i := i) (j := e) (k := 0) (by omega) h2
  simpa using this
 have hb2 : sbyte ((subT s i e).extract 0 1) 0 = sbyte s i := by
  have := sbyte_sub (s := subT s i e) (i := 0) (j := 1) (k := 0) (by omega) (by omega)
  simp only [Nat.add_zero, Int.natCast_zero, subT] at this
  rw [show (subT s i e).extract 0 1 = (s.extract i e).extract 0 1 from rfl, this]
  exact hb
 have hp : plainB (subT s i e) = false := by unfold plainB; rw [hb, hl]; simp
 have hp2 : plainB ((subT s i e).extract 0 1) = false := by unfold plainB; rw [hb2, hl]; simp
 unfold argsN
 rw [hp, hp2, hz]
 simp; omega
def QA : ByteArray → Nat → Prop := fun t m => argsN t = m ∧ t.size ≤ 4096 * (m + 1)
def KeyB (s : ByteArray) (n : Nat) : Prop := KeyN s n ∧ s.size ≤ 4096 * n
theorem KeyB.zero : KeyB ⟨#[]⟩ 0 := ⟨KeyN.zero, by decide⟩
theorem KeyB.args {s : ByteArray} {n : Nat} (h0 : 0 < n) (h : KeyB s n) : QA s n := ⟨h.1.args h0, by have := h.2; omega⟩
theorem KeyB.app {s t : ByteArray} {n : Nat} (h : KeyB s n) (g : KeyB t 1) : KeyB (s ++ t) (n + 1) := ⟨h.1.app g.1, by have := h.2; have := g.2; simp; omega⟩
def tkF (k : Int) (t : ByteArray) : Prop := (k = 1 → QA t 0) ∧ (k = 3 → QA t 1) ∧ (k = 2 → KeyB t 1)
theorem word_tk {num : ByteArray → Bool} {s : ByteArray} {i : Nat} {k : Int} {t : ByteArray} {e : Nat} (hs : s.size ≤ 4096) (hi : i < s.size) (h : wordS num s i = some (k, t, e)) : tkF k t := by
 have no : ∀ {k' : Int} {t' : ByteArray}, (k' ≠ 1 ∧ k' ≠ 3 ∧ k' ≠ 2) → tkF k' t' := fun h => ⟨fun e => absurd e h.1, fun e => absurd e h.2.1, fun e => absurd e h.2.2⟩
 unfold wordS at h
 split at h
 ·rename_i hl
  split at h
  ·rename_i hc
   simp only [Option.some.injEq, Prod.mk.injEq] at h
   obtain ⟨e1, e2, _⟩ := h
   subst e1 e2
   exact ⟨fun e => absurd e (by decide), fun e => absurd e (by decide), fun _ => ⟨key_one hl hi hc, by have := subT_le s i (nameS s i + 1); omega⟩⟩
  ·simp only [Option.some.injEq, Prod.mk.injEq] at h
   obtain ⟨e1, e2, _⟩ := h
   subst e1 e2
   exact ⟨fun _ => ⟨name_args hl hi, by have := subT_le s i (nameS s i); omega⟩, fun e => absurd e (by decide), fun e => absurd e (by decide)⟩
 rename_i hl
 have hl' : letterS (sbyte s i) = false := by simpa using hl
 split at h
 ·split at h
  ·simp only [Option.some.injEq, Prod.mk.injEq] at h
   rw [← h.1]; exact no (by decide)
  ·simp at h
 split at h
 ·split at h
  ·simp only [Option.some.injEq, Prod.mk.injEq] at h
   rw [← h.1]; exact no (by decide)
  ·simp at h
 split at h
 ·split at h
  ·simp only [Option.some.injEq, Prod.mk.injEq] at h
   rw [← h.1]; exact no (by decide)
  ·split at h
   ·simp only [Option.some.injEq, Prod.mk.injEq] at h
    rw [← h.1]; exact no (by decide)
   ·simp at h
 split at h
 ·split at h
  ·simp only [Option.some.injEq, Prod.mk.injEq] at h
   rw [← h.1]; exact no (by decide)
  ·simp only [Option.some.injEq, Prod.mk.injEq] at h
   rw [← h.1]; exact no (by decide)
 split at h
 ·rename_i hg
  simp only [Option.some.injEq, Prod.mk.injEq] at h
  obtain ⟨e1, e2, _⟩ := h
  subst e1 e2
  exact ⟨fun e => absurd e (by decide), fun _ => ⟨sign_args hl' hi hg, by have := subT_le s i (signsS s i); omega⟩, fun e => absurd e (by decide)⟩
 split at h
 ·rename_i hp
  simp only [Option.some.injEq, Prod.mk.injEq] at h
  rw [← h.1]
  exact no ⟨by omega, by omega, by omega⟩
 ·simp at h
theorem lexS_tf {num : ByteArray → Bool} {s : ByteArray} (hs : s.size ≤ 4096) : ∀ m i l, s.size - i = m → lexS num s i = .inl l → TF QA KeyB l := by
 intro m
 induction m using Nat.strongRecOn with
 | ind m ih =>
  intro i l hm h
  rw [lexS_eq] at h
  have h1 := skipS_le blankS s _ i rfl
  split at h
  ·rename_i hlt
   split at h
   ·split at h
    ·rename_i hq
     have h2 := skipS_le notQ s _ (skipS blankS s i + 1) rfl
     exact ih _ (by omega) _ _ rfl h
    ·simp at h
   ·split at h
    ·rename_i k t e hw
     have hwl := wordS_lt hlt hw
     rw [if_pos hwl.1] at h
     split at h
     ·rename_i l' hl'
      simp only [Sum.inl.injEq] at h
      subst h
      have g := ih _ (by have := hwl.1; omega) _ _ rfl hl'
      intro y hy
      simp only [List.mem_cons] at hy
      rcases hy with hy | hy
      ·subst hy
       have hk := word_tk hs hlt hw
       exact ⟨hk.1, hk.2.1, fun e s n hs => hs.app (hk.2.2 e)⟩
      ·exact g y hy
     ·simp at h
    ·simp at h
  ·simp only [Sum.inl.injEq] at h
   subst h
   intro y hy
   simp at hy
   subst hy
   exact ⟨fun e => by simp at e, fun e => by simp at e, fun e => by simp at e⟩
theorem patKeysS_args : ∀ {n : Nat} {s : ByteArray} {acc : List ByteArray} {l : List Tk} {x r}, TF QA KeyB l → KeyB s acc.length → patKeysS n s acc l = .ok x r → TF QA KeyB r ∧ KeyB x.1 x.2.length ∧ acc.length ≤ x.2.length ∧ (kd l = 2 → acc.length < x.2.length)
 | 0, s, acc, l, x, r, t, hs, e => by simp [patKeysS] at e
 | n + 1, s, acc, l, x, r, t, hs, e => by
  simp only [patKeysS] at e
  split at e
  ·rename_i hk
   obtain ⟨w, l', el, hw, ht, _, _, q⟩ := t.at hk (by decide)
   split at e
   ·have h3 := patKeysS_args t.tail.tail (by rw [ht]; simpa using q hw s _ hs) e
    have := h3.2.2.1
    simp at this
    exact ⟨h3.1, h3.2.1, by omega, fun _ => by omega⟩
   ·simp at e
  ·rename_i hk
   simp only [Res.ok.injEq] at e
   obtain ⟨e1, e2⟩ := e
   subst e1 e2
   exact ⟨t, hs, Nat.le_refl _, fun h => absurd h hk⟩
theorem patS_args {n : Nat} {l : List Tk} {x r} (t : TF QA KeyB l) (e : patS n l = .ok x r) : TF QA KeyB r ∧ QA x.1 x.2.length := by
 simp only [patS] at e
 split at e
 ·rename_i hk
  obtain ⟨w, l', el, hw, ht, q, _⟩ := t.at hk (by decide)
  simp only [Res.ok.injEq] at e
  rw [← e.1, ← e.2, ht]
  exact ⟨t.tail, q hw⟩
 split at e
 ·rename_i hk
  obtain ⟨w, l', el, hw, ht, _, q, _⟩ := t.at hk (by decide)
  split at e
  ·simp only [Res.ok.injEq] at e
   rw [← e.1, ← e.2, ht]
   exact ⟨t.tail.tail, q hw⟩
  ·simp at e
 split at e
 ·rename_i hk
  have h := patKeysS_args (acc := []) t KeyB.zero e
  exact ⟨h.1, h.2.1.args (h.2.2.2 hk)⟩
 ·simp at e
theorem parse_fits {num : ByteArray → Bool} {m : Bool} {s : ByteArray} {x : Nd} {r : List Tk} (h : parseD num m s = .ok x r) : Good QA x ∧ x.k = 12 ∧ (m = false → x.t = ⟨#[]⟩) ∧ (m = true → QA x.t x.n) := by
 unfold parseD at h
 split at h
 ·simp at h
 ·split at h
  ·rename_i hs l hl
   have hwf := lexS_wf (by omega) hl
   have htf := lexS_tf (by omega) _ 0 l rfl hl
   unfold uniS at h
   obtain ⟨p, r1, e1, e2⟩ := andThen_ok h
   obtain ⟨b, r2, e3, e4⟩ := andThen_ok e2
   simp only [Res.ok.injEq] at e4
   have h1 := headS_wf hwf e1
   have h2 := h1.2
   have hh : TF QA KeyB r1 ∧ (m = false → p.1 = ⟨#[]⟩) ∧ (m = true → QA p.1 p.2.length) := by
    cases m with
    | true =>
     have := patS_args htf e1
     exact ⟨this.1, fun e => by simp at e, fun _ => this.2⟩
    | false =>
     simp only [headS, Bool.false_eq_true, if_false, Res.ok.injEq] at e1
     rw [← e1.1, ← e1.2]
     exact ⟨htf, fun _ => rfl, fun e => by simp at e⟩
   have hg := (presG (Q := QA) (K := KeyB) KeyB.zero (fun s n h0 hK => hK.args h0) (fuel l)).body h1.1 hh.1 e3
   rw [← e4.1]
   simp only [Good, Good1]
   exact ⟨⟨⟨by simp; omega, by omega, by simp, fun e => by simp at e, fun e => by simp at e, fun e => by simp at e, fun e => by simp at e⟩, hg.1⟩, rfl, hh.2.1, hh.2.2⟩
  ·simp at h
end Go.SL
namespace Go.SL
def ek (k : Int) : Prop := k = 1 ∨ k = 2 ∨ k = 3 ∨ k = 4 ∨ k = 5 ∨ k = 6 ∨ k = 7 ∨ k = 8 ∨ k = 10
mutual
def Kin : Nd → Prop
 | .mk k _ _ _ _ kids => (k = 6 ∨ k = 7 ∨ k = 9 ∨ k = 11 → ∀ y ∈ kids, ek y.k) ∧ ((k = 8 → ∀ y ∈ kids.head?, ek y.k) ∧ (k = 7 → kids ≠ [])) ∧ (k = 10 ∨ k = 12 → ∀ y ∈ kids, ek y.k ∨ y.k = 11) ∧ KinL kids
def KinL : List Nd → Prop
 | [] => True
 | x :: r => Kin x ∧ KinL r
end
theorem KinL.iff : ∀ {l : List Nd}, KinL l ↔ ∀ x ∈ l, Kin x
 | [] => by simp [KinL]
 | x :: r => by simp [KinL, KinL.iff (l := r)]
theorem KinL.snoc {a : List Nd} {x : Nd} (h : KinL a) (g : Kin x) : KinL (a ++ [x]) := KinL.iff.2 fun y hy => by
 rcases List.mem_append.1 hy with hy | hy
 ·exact KinL.iff.1 h y hy
 ·simp at hy; subst hy; exact g
theorem Nd.kin {x : Nd} (h : Kin x) : KinL x.kids := by cases x; simp only [Kin] at h; exact h.2.2.2
theorem Kin.leaf {k : Int} {t : ByteArray} {a n : Nat} {l : List ByteArray} (h : k ≠ 7) : Kin (.mk k t a n l []) := by
 simp only [Kin, KinL]; exact ⟨fun _ y hy => by simp at hy, ⟨fun _ y hy => by simp at hy, fun e => absurd e h⟩, fun _ y hy => by simp at hy, trivial⟩
mutual
theorem LitP.kin : ∀ {x : Nd}, LitP x → Kin x
 | .mk k t a n names kids, h => by
  simp only [LitP] at h
  simp only [Kin]
  exact ⟨fun e => by omega, ⟨fun e => by omega, fun e => by omega⟩, fun e => by omega, LitL.kin h.2⟩
theorem LitL.kin : ∀ {l : List Nd}, LitL l → KinL l
 | [], _ => by simp [KinL]
 | x :: r, h => by
  simp only [LitL] at h
  simp only [KinL]
  exact ⟨h.1.kin, LitL.kin h.2⟩
end
def EK (x : Nd) : Prop := ek x.k ∧ Kin x
def EL (l : List Nd) : Prop := (∀ y ∈ l, ek y.k) ∧ KinL l
theorem EL.snoc {a : List Nd} {x : Nd} (h : EL a) (g : EK x) : EL (a ++ [x]) := ⟨fun y hy => by
 rcases List.mem_append.1 hy with hy | hy
 ·exact h.1 y hy
 ·simp at hy; subst hy; exact g.1, h.2.snoc g.2⟩
theorem EL.nil : EL [] := ⟨fun y hy => by simp at hy, by simp [KinL]⟩
theorem EK.sent {x m : Nd} (h : EK x) (hk : m.k = 9) (g : Kin m) : EK (sentS x m) := by
 refine ⟨by simp [sentS, Nd.k, ek], ?_⟩
 have g1 : ∀ y ∈ m.kids, ek y.k := by cases m; simp only [Kin] at g; exact g.1 (.inr (.inr (.inl hk)))
 simp only [sentS, Kin, KinL]
 refine ⟨fun _ y hy => ?_, ⟨fun e => by simp at e, fun _ => by simp⟩, fun e => by simp at e, h.2, Nd.kin g⟩
 rcases List.mem_cons.1 hy with hy | hy
 ·subst hy; exact h.1
 ·exact g1 y hy
def SL2 (l : List Nd) : Prop := (∀ y ∈ l, ek y.k ∨ y.k = 11) ∧ KinL l
theorem SL2.snoc {a : List Nd} {x : Nd} (h : SL2 a) (g : (ek x.k ∨ x.k = 11) ∧ Kin x) : SL2 (a ++ [x]) := ⟨fun y hy => by
 rcases List.mem_append.1 hy with hy | hy
 ·exact h.1 y hy
 ·simp at hy; subst hy; exact g.1, h.2.snoc g.2⟩
structure PresK (n : Nat) : Prop where
 expr : ∀ d l, OkP (fun x _ => EK x) (exprS n d l)
 casc : ∀ d l, OkP (fun x _ => EK x) (cascS n d l)
 semis : ∀ d a l, KinL a → OkP (fun x _ => KinL x) (semisS n d a l)
 msg : ∀ d l, OkP (fun x _ => x.k = 9 ∧ Kin x) (msgS n d l)
 keys : ∀ d s a l, EL a → OkP (fun x _ => EL x.2) (keysS n d s a l)
 keyed : ∀ d l, OkP (fun x _ => EK x.1) (keyedS n d l)
 binary : ∀ d l, OkP (fun x _ => EK x.1) (binaryS n d l)
 unary : ∀ d l, OkP (fun x _ => EK x.1) (unaryS n d l)
 chain : ∀ d c y l, EK y.1 → OkP (fun x _ => EK x.1) (chainS n d c y l)
 prim : ∀ d l, OkP (fun x _ => EK x.1) (primS n d l)
 list : ∀ d l, OkP (fun x _ => EK x) (listS n d l)
 elems : ∀ d a l, KinL a → OkP (fun x _ => KinL x) (elemsS n d a l)
 elem : ∀ d l, OkP (fun x _ => Kin x) (elemS n d l)
 block : ∀ d l, OkP (fun x _ => EK x) (blockS n d l)
 body : ∀ d e l, OkP (fun x _ => SL2 x.2) (bodyS n d e l)
 stmts : ∀ d e a l, SL2 a → OkP (fun x _ => SL2 x) (stmtsS n d e a l)
 stmt : ∀ d l, OkP (fun x _ => (ek x.1.k ∨ x.1.k = 11) ∧ Kin x.1) (stmtS n d l)
theorem one_kin {k : Int} {t : ByteArray} {a : Nat} {x : Nd} (hk : k = 6 ∨ k = 9 ∨ k = 11) (h : EK x) : Kin (.mk k t a 0 [] [x]) := by
 simp only [Kin, KinL]
 exact ⟨fun _ y hy => by simp at hy; subst hy; exact h.1, ⟨fun e => by omega, fun e => by omega⟩, fun e => by omega, h.2, trivial⟩
theorem presK : ∀ n, PresK n
 | 0 => by constructor <;> intros <;> (simp only [exprS, cascS, semisS, msgS, keysS, keyedS, binaryS, unaryS, chainS, primS, listS, elemsS, elemS, blockS, bodyS, stmtsS, stmtS]; exact OkP.out)
 | n + 1 => by
  have ih := presK n
  have lf : ∀ {k : Int} {t : ByteArray} {a : Nat}, ek k → k ≠ 7 → EK (.mk k t a 0 [] []) := fun h g => ⟨h, .leaf g⟩
  constructor
  case expr =>
   intro d l
   simp only [exprS]
   split
   ·split
    ·exact OkP.no
    ·exact (ih.expr _ _).then fun x r h => OkP.ok ⟨by simp [Nd.k, ek], one_kin (.inl rfl) h⟩
   ·exact ih.casc _ _
  case casc =>
   intro d l
   simp only [cascS]
   refine (ih.keyed _ _).then fun x r h => ?_
   split
   ·split
    ·rename_i h7
     refine (ih.semis d [] r (by simp [KinL])).then fun y r' g => OkP.ok ⟨by simp [Nd.k, ek], ?_⟩
     have hk := Nd.kin h.2
     have he : ∀ y ∈ x.1.kids, ek y.k := by
      have := h.2
      cases hx : x.1 with
      | mk k t a m names kids =>
       rw [hx] at this h7
       simp only [Kin] at this
       exact this.1 (.inr (.inl h7.1))
     have hd : ∀ y ∈ x.1.kids.drop 1, ek y.k := fun y hy => he y (List.mem_of_mem_drop hy)
     simp only [Kin]
     refine ⟨fun e => by simp at e, ⟨fun _ y hy => ?_, fun e => by simp at e⟩, fun e => by simp at e, KinL.iff.2 fun y hy => ?_⟩
     ·have hn : x.1.kids ≠ [] := by
       have := h.2
       cases hx : x.1 with
       | mk k t a m names kids =>
        rw [hx] at this h7
        simp only [Kin] at this
        exact this.2.1.2 h7.1
      cases hq : x.1.kids with
      | nil => exact absurd hq hn
      | cons q qs => rw [hq] at hy; simp at hy; subst hy; exact he _ (by rw [hq]; simp)
     ·simp only [List.mem_append, List.mem_cons] at hy
      rcases hy with hy | hy | hy
      ·exact KinL.iff.1 hk y (List.mem_of_mem_take hy)
      ·subst hy
       simp only [Kin]
       exact ⟨fun _ => hd, ⟨fun e => by simp at e, fun e => by simp at e⟩, fun e => by simp at e, KinL.iff.2 fun z hz => KinL.iff.1 hk z (List.mem_of_mem_drop hz)⟩
      ·exact KinL.iff.1 g y hy
    ·exact OkP.no
   ·exact OkP.ok h
  case semis =>
   intro d a l ha
   simp only [semisS]
   split
   ·exact (ih.msg _ _).then fun m r hm => ih.semis d _ r (ha.snoc hm.2)
   ·exact OkP.ok ha
  case msg =>
   intro d l
   simp only [msgS]
   split
   ·exact OkP.ok ⟨rfl, .leaf (by decide)⟩
   split
   ·exact (ih.unary _ _).then fun x r h => OkP.ok ⟨rfl, one_kin (.inr (.inl rfl)) h⟩
   split
   ·refine (ih.keys d _ [] l EL.nil).then fun x r h => OkP.ok ⟨rfl, ?_⟩
    simp only [Kin]
    exact ⟨fun _ => h.1, ⟨fun e => by simp at e, fun e => by simp at e⟩, fun e => by simp at e, h.2⟩
   ·exact OkP.no
  case keys =>
   intro d s a l ha
   simp only [keysS]
   split
   ·exact (ih.binary _ _).then fun m r hm => ih.keys d _ _ r (ha.snoc hm)
   ·exact OkP.ok ha
  case keyed =>
   intro d l
   simp only [keyedS]
   refine (ih.binary _ _).then fun x r h => ?_
   split
   ·exact (ih.msg _ _).then fun m r' g => OkP.ok (h.sent g.1 g.2)
   ·exact OkP.ok h
  case binary =>
   intro d l
   simp only [binaryS]
   exact (ih.unary _ _).then fun x r h => ih.chain _ _ _ _ h
  case unary =>
   intro d l
   simp only [unaryS]
   exact (ih.prim _ _).then fun x r h => ih.chain _ _ _ _ h
  case chain =>
   intro d c y l hy
   simp only [chainS]
   split
   ·exact (ih.msg _ _).then fun m r g => ih.chain _ _ _ _ (hy.sent g.1 g.2)
   ·exact OkP.ok hy
  case prim =>
   intro d l
   simp only [primS]
   split
   ·exact OkP.ok (lf (by simp [ek]) (by decide))
   split
   ·exact OkP.ok (lf (by simp [ek]) (by decide))
   split
   ·exact OkP.ok (lf (by simp [ek]) (by decide))
   split
   ·exact OkP.ok (lf (by simp [ek]) (by decide))
   split
   ·exact (ih.list _ _).then fun x r h => OkP.ok h
   split
   ·exact (ih.block _ _).then fun x r h => OkP.ok h
   split
   ·split
    ·exact OkP.no
    ·refine (ih.expr _ _).then fun x r h => ?_
     split
     ·exact OkP.ok h
     ·exact OkP.no
   ·exact OkP.no
  case list =>
   intro d l
   simp only [listS]
   split
   ·exact OkP.no
   ·refine (ih.elems _ _ _ (by simp [KinL])).then fun x r h => OkP.ok ⟨by simp [Nd.k, ek], ?_⟩
    simp only [Kin]
    exact ⟨fun e => by simp at e, ⟨fun e => by simp at e, fun e => by simp at e⟩, fun e => by simp at e, h⟩
  case elems =>
   intro d a l ha
   simp only [elemsS]
   split
   ·exact OkP.ok ha
   ·exact (ih.elem _ _).then fun x r h => ih.elems d _ r (ha.snoc h)
  case elem =>
   intro d l
   simp only [elemS]
   split
   ·exact (fun x r e => (ih.list _ _ x r e).2)
   split
   ·exact OkP.ok (.leaf (by first | decide | (split <;> decide)))
   split
   ·exact OkP.ok (.leaf (by first | decide | (split <;> decide)))
   split
   ·exact OkP.ok (.leaf (by first | decide | (split <;> decide)))
   split
   ·exact OkP.ok (.leaf (by first | decide | (split <;> decide)))
   ·exact OkP.no
  case block =>
   intro d l
   have fin : ∀ {ags : List ByteArray} {x : List ByteArray × List Nd}, SL2 x.2 → EK (.mk 10 ⟨#[]⟩ (pl l) ags.length (ags ++ x.1) x.2) := fun h => by
    refine ⟨by simp [Nd.k, ek], ?_⟩
    simp only [Kin]
    exact ⟨fun e => by simp at e, ⟨fun e => by simp at e, fun e => by simp at e⟩, fun _ => h.1, h.2⟩
   simp only [blockS]
   split
   ·exact OkP.no
   ·refine (argsS_le _ _).then fun ags r _ => ?_
    split
    ·split
     ·exact (ih.body _ _ _).then fun x r' g => OkP.ok (fin g)
     ·exact OkP.no
    ·exact (ih.body _ _ _).then fun x r' g => OkP.ok (fin g)
  case body =>
   intro d e l
   simp only [bodyS]
   exact (tempsS_le _).then fun ts r _ => (ih.stmts _ _ _ _ ⟨fun y hy => by simp at hy, by simp [KinL]⟩).then fun ks r' g => OkP.ok g
  case stmts =>
   intro d e a l ha
   simp only [stmtsS]
   split
   ·exact OkP.ok ha
   ·refine (ih.stmt _ _).then fun x r h => ?_
    split
    ·exact ih.stmts d _ _ _ (ha.snoc h)
    split
    ·split
     ·exact OkP.ok (ha.snoc h)
     ·exact OkP.no
    split
    ·exact OkP.ok (ha.snoc h)
    ·exact OkP.no
  case stmt =>
   intro d l
   simp only [stmtS]
   split
   ·exact (ih.expr _ _).then fun x r h => OkP.ok ⟨.inr rfl, one_kin (.inr (.inr rfl)) h⟩
   ·exact (ih.expr _ _).then fun x r h => OkP.ok ⟨.inl h.1, h.2⟩
mutual
theorem lit_use {sl : List ByteArray} : ∀ {x : Nd} {fr : Fr} {to : Bool}, LitP x → useP sl fr to x = .inl []
 | .mk k t a n names kids, fr, to, h => by
  simp only [LitP] at h
  simp only [useP]
  rw [if_neg (by omega), if_neg (by omega), if_neg (by omega)]
  exact lits_use h.2
theorem lits_use {sl : List ByteArray} : ∀ {l : List Nd} {fr : Fr} {to : Bool}, LitL l → useL sl fr to l = .inl []
 | [], _, _, _ => by simp [useL]
 | x :: r, fr, to, h => by
  simp only [LitL] at h
  simp only [useL, lit_use h.1, lits_use h.2, catU, List.append_nil]
end
theorem catU_inl {a b : List Us ⊕ Nat} {l : List Us} (h : catU a b = .inl l) : ∃ x y, a = .inl x ∧ b = .inl y ∧ l = x ++ y := by
 cases a <;> cases b <;> simp only [catU] at h
 ·simp only [Sum.inl.injEq] at h; exact ⟨_, _, rfl, rfl, h.symm⟩
 all_goals simp at h
end Go.SL
namespace Go.SL
abbrev Sh := List (Option Nat)
def up (sh : Sh) (u : Nat) (a : Option Nat) (k : Nat) : Sh := sh.set u a ++ List.replicate k none
theorem up_at {sh : Sh} {u : Nat} (h : u < sh.length) (a : Option Nat) (k : Nat) : (up sh u a k)[u]? = some a := by
 unfold up
 rw [List.getElem?_append_left (by simpa using h), List.getElem?_set_self h]
theorem up_up {sh : Sh} {u : Nat} (h : u < sh.length) (a b : Option Nat) (k m : Nat) : up (up sh u a k) u b m = up sh u b (k + m) := by
 unfold up
 rw [List.set_append_left _ _ (by simpa using h), List.set_set, List.append_assoc, List.replicate_append_replicate]
theorem up_same {sh : Sh} {u : Nat} {a : Option Nat} (h : sh[u]? = some a) : up sh u a 0 = sh := by
 unfold up
 have hl := (List.getElem?_eq_some_iff.1 h).1
 apply List.ext_getElem?
 intro i
 by_cases e : u = i
 ·subst e; simp [List.getElem?_set_self hl, h]
 ·simp [List.getElem?_set_ne e]
theorem up_new (sh : Sh) (u : Nat) (a : Option Nat) (k : Nat) : up (up sh u a 0 ++ [some 0]) sh.length none k = up sh u a (k + 1) := by
 unfold up
 simp only [List.replicate_zero, List.append_nil]
 rw [List.set_append_right _ _ (by simp)]
 simp [List.replicate_succ]
theorem at_len {sh : Sh} {u : Nat} {a : Option Nat} (h : sh[u]? = some a) : u < sh.length := (List.getElem?_eq_some_iff.1 h).1
def PU (n : Nat) (x : Us) : Prop := (x.k = 2 → x.i < 3) ∧ (x.k = 4 → x.i < n)
theorem idxS_lt {t : ByteArray} : ∀ {l : List ByteArray} {k i : Nat}, idxS t l k = some i → k ≤ i ∧ i < k + l.length
 | [], k, i, h => by simp [idxS] at h
 | x :: r, k, i, h => by
  simp only [idxS] at h
  split at h
  ·simp only [Option.some.injEq] at h; subst h; simp
  ·have := idxS_lt h; simp; omega
theorem find_pu (sl : List ByteArray) (fr : Fr) (t : ByteArray) (a : Nat) (w : Bool) : PU sl.length { (findS sl fr t).1 with a := a, w := w } := by
 unfold findS fixedS PU
 split
 ·rename_i k i h
  simp only
  refine ⟨fun e => ?_, fun e => ?_⟩
  ·repeat' (split at h)
   all_goals first | (simp at h; done) | (simp only [Option.some.injEq, Prod.mk.injEq] at h; omega)
  ·repeat' (split at h)
   all_goals first | (simp at h; done) | (simp only [Option.some.injEq, Prod.mk.injEq] at h; omega)
 ·split
  ·simp
  ·split
   ·rename_i h
    have := idxS_lt h
    simp; omega
   ·simp only
    refine ⟨fun e => ?_, fun e => ?_⟩ <;> (split at e <;> simp at e)
structure Clo (n : Nat) (Q : ByteArray → Nat → Prop) (Inv : Sh → CM → Prop) : Prop where
 len : ∀ {sh c}, Inv sh c → sh.length = c.us.length
 lit : ∀ {sh c u d} (t : ByteArray), Inv sh c → sh[u]? = some (some d) → Inv (up sh u (some (d + 1)) 0) (litS u t c)
 use : ∀ {sh c u d} {x : Us}, PU n x → Inv sh c → sh[u]? = some (some d) → Inv (up sh u (some (d + 1)) 0) (useS u x c)
 set : ∀ {sh c u d} {x : Us}, PU n x → (x.k = 3 ∨ x.k = 4) → Inv sh c → sh[u]? = some (some (d + 1)) → Inv (up sh u (some (d + 1)) 0) (setS u x c)
 send : ∀ {sh c u d m} {t : ByteArray} (sp : Bool), Q t m → Inv sh c → sh[u]? = some (some (d + m + 1)) → Inv (up sh u (some (d + 1)) 0) (sendC u sp t m c)
 dup : ∀ {sh c u d}, Inv sh c → sh[u]? = some (some (d + 1)) → Inv (up sh u (some (d + 2)) 0) (addS u (11, 0, 0) c)
 pop : ∀ {sh c u d}, Inv sh c → sh[u]? = some (some (d + 1)) → Inv (up sh u (some d) 0) (addS u (12, 0, 0) c)
 self : ∀ {sh c u d}, Inv sh c → sh[u]? = some (some d) → Inv (up sh u (some (d + 1)) 0) (addS u (6, 0, 0) c)
 nul : ∀ {sh c u d}, Inv sh c → sh[u]? = some (some d) → Inv (up sh u (some (d + 1)) 0) (addS u (7, 0, 0) c)
 blk : ∀ {sh c u d a b}, a ≤ b → Inv sh c → sh[u]? = some (some d) → Inv (up sh u (some (d + 1)) 0 ++ [some 0]) (newU a b (addS u (10, c.us.length, 0) c))
 fin : ∀ {sh c u}, Inv sh c → sh[u]? = some (some 1) → Inv (up sh u none 0) (addS u (13, 0, 0) c)
 ret : ∀ {sh c u}, Inv sh c → sh[u]? = some (some 1) → Inv (up sh u none 0) (addS u (14, 0, 0) c)
section
variable {lt : Nd → ByteArray} {sl : List ByteArray} {Q : ByteArray → Nat → Prop} {Inv : Sh → CM → Prop}
theorem Clo.done (K : Clo sl.length Q Inv) {sh : Sh} {c : CM} {u k m : Nat} (hu : u < sh.length) (mt : Bool) (h : Inv (up sh u (some (if m = 0 then 0 else 1)) k) c) : Inv (up sh u none k) (endS u mt m c) := by
 have ha := up_at hu (some (if m = 0 then 0 else 1)) k
 unfold endS
 by_cases h0 : m = 0
 ·rw [if_pos h0] at h ha
  cases mt with
  | true =>
   rw [if_pos rfl, if_pos h0]
   have h1 := K.self h ha
   rw [up_up hu] at h1
   have h2 := K.ret h1 (up_at hu _ _)
   rw [up_up hu] at h2
   exact h2
  | false =>
   rw [if_neg (by decide), if_pos h0]
   have h1 := K.nul h ha
   rw [up_up hu] at h1
   have h2 := K.fin h1 (up_at hu _ _)
   rw [up_up hu] at h2
   exact h2
 ·rw [if_neg h0] at h ha
  cases mt with
  | true =>
   rw [if_pos rfl, if_neg h0]
   have h0 := K.pop h ha
   rw [up_up hu] at h0
   have h1 := K.self h0 (up_at hu _ _)
   rw [up_up hu] at h1
   have h2 := K.ret h1 (up_at hu _ _)
   rw [up_up hu] at h2
   exact h2
  | false =>
   rw [if_neg (by decide), if_neg h0]
   have h2 := K.fin h ha
   rw [up_up hu] at h2
   exact h2
theorem Clo.pop0 (K : Clo sl.length Q Inv) {sh : Sh} {c : CM} {u i : Nat} (h : Inv sh c) (ha : sh[u]? = some (some (if i = 0 then 0 else 1))) : Inv (up sh u (some 0) 0) (if i = 0 then c else addS u (12, 0, 0) c) := by
 by_cases h0 : i = 0
 ·rw [if_pos h0] at ha ⊢
  rw [up_same ha]; exact h
 ·rw [if_neg h0] at ha ⊢
  exact K.pop (d := 0) h ha
mutual
theorem mkP_ok (K : Clo sl.length Q Inv) {u : Nat} : ∀ {x : Nd} {fr : Fr} {to : Bool} {us : List Us}, Good Q x → Fine x → Kin x → ek x.k → useP sl fr to x = .inl us → ∀ (c : CM) (rest : List Us) {sh : Sh} {d : Nat}, Inv sh c → sh[u]? = some (some d) → ∃ c' k, mkP lt u x (c, us ++ rest) = some (c', rest) ∧ Inv (up sh u (some (d + 1)) k) c'
 | .mk k t a n names kids, fr, to, us, hg, hf, hk, he, hu, c, rest, sh, d, hI, hd => by
  have hfl := Nd.fine hf
  have hkl := Nd.kin hk
  have hgl := hg.all
  have hg1 := hg.one
  simp only [Nd.kids] at hfl hkl hgl
  simp only [Nd.kids, Nd.k, Nd.t, Nd.n, Nd.names] at hg1
  simp only [Fine] at hf
  simp only [Kin] at hk
  simp only [Nd.k, ek] at he
  simp only [useP] at hu
  simp only [mkP]
  have hul := at_len hd
  split
  ·rename_i h
   rw [if_neg (by omega), if_neg (by omega), if_neg (by omega), lits_use (hf.2.2.2.1 (by omega))] at hu
   simp only [Sum.inl.injEq] at hu
   subst hu
   exact ⟨_, 0, rfl, K.lit _ hI hd⟩
  rename_i h1
  split
  ·rename_i h
   rw [if_pos h] at hu
   split at hu
   ·simp at hu
   ·simp only [Sum.inl.injEq] at hu
    subst hu
    exact ⟨_, 0, rfl, K.use (find_pu sl fr t a _) hI hd⟩
  rename_i h5
  rw [if_neg h5] at hu
  split
  ·rename_i h
   rw [if_pos h] at hu
   split at hu
   ·simp at hu
   ·rename_i hns
    obtain ⟨p, q, e1, e2, e3⟩ := catU_inl hu
    simp only [Sum.inl.injEq] at e1
    subst e1 e3
    have hlen := hf.2.2.1 (.inr h)
    obtain ⟨c', m, hc, hi⟩ := mkH_ok K (u := u) hgl hfl hkl (hk.1 (.inl h)) hlen e2 c rest hI hd
    simp only [List.cons_append, List.nil_append, hc]
    have h2 := K.set (x := { (findS sl fr t).1 with a := a, w := true }) (find_pu sl fr t a true) (by simp only; omega) hi (up_at hul _ _)
    rw [up_up hul] at h2
    exact ⟨_, _, rfl, h2⟩
  rename_i h6
  rw [if_neg h6] at hu
  split
  ·rename_i h
   rw [if_neg (by omega)] at hu
   obtain ⟨c', m, hc, hi⟩ := mkL_ok K (u := u) hgl hfl hkl (hk.1 (.inr (.inl h))) hu c rest hI hd
   rw [hc]
   have hq := hg1.2.2.2.1 h
   have h2 := K.send (d := d) (m := kids.length - 1) (sup0 kids) hq.2 hi (by rw [up_at hul]; congr 2; omega)
   rw [up_up hul] at h2
   exact ⟨_, _, rfl, h2⟩
  rename_i h7
  split
  ·rename_i h
   rw [if_neg (by omega)] at hu
   exact mkC_ok K (u := u) hgl hfl hkl (hk.2.1.1 h) (hf.1.1 h).1 (hf.1.1 h).2 hu c rest hI hd
  rename_i h8
  split
  ·rename_i h
   rw [if_pos h] at hu
   split at hu
   ·simp at hu
   ·have hb := K.blk (a := n) (b := names.length) hg1.2.2.1 hI hd
    have hlen := K.len hI
    have hn : (up sh u (some (d + 1)) 0 ++ [some 0])[c.us.length]? = some (some (if 0 = 0 then 0 else 1)) := by
     rw [← hlen, List.getElem?_append_right (by simp [up])]; simp [up]
    obtain ⟨c', b, m, hc, hi⟩ := mkS_ok K (u := c.us.length) (i := 0) hgl hfl hkl (hk.2.2.1 (.inl h)) (hf.1.2 (.inl h)) hu (newU n names.length (addS u (10, c.us.length, 0) c)) rest hb hn
    rw [hc]
    refine ⟨_, m + 1, rfl, ?_⟩
    rw [← up_new, hlen]
    simp only [doneU]
    cases b with
    | true => simpa using hi
    | false =>
     rw [if_neg (by decide)] at hi ⊢
     rw [Nat.zero_add] at hi
     exact K.done (by simp [up]; omega) false hi
  ·omega
theorem mkH_ok (K : Clo sl.length Q Inv) {u : Nat} : ∀ {l : List Nd} {fr : Fr} {to : Bool} {us : List Us}, GoodL Q l → FineL l → KinL l → (∀ y ∈ l, ek y.k) → l.length = 1 → useL sl fr to l = .inl us → ∀ (c : CM) (rest : List Us) {sh : Sh} {d : Nat}, Inv sh c → sh[u]? = some (some d) → ∃ c' k, mkH lt u l (c, us ++ rest) = some (c', rest) ∧ Inv (up sh u (some (d + 1)) k) c'
 | [], fr, to, us, _, _, _, _, h, _, c, rest, _, _, _, _ => by simp at h
 | [x], fr, to, us, hg, hf, hk, he, h, hu, c, rest, sh, d, hI, hd => by
  simp only [FineL] at hf
  simp only [KinL] at hk
  simp only [GoodL] at hg
  simp only [useL] at hu
  obtain ⟨p, q, e1, e2, e3⟩ := catU_inl hu
  simp only [Sum.inl.injEq] at e2
  subst e2 e3
  simp only [mkH, List.append_nil]
  exact mkP_ok K hg.1 hf.1 hk.1 (he x (by simp)) e1 c rest hI hd
 | _ :: _ :: _, fr, to, us, _, _, _, _, h, _, c, rest, _, _, _, _ => by simp at h
theorem mkL_ok (K : Clo sl.length Q Inv) {u : Nat} : ∀ {l : List Nd} {fr : Fr} {to : Bool} {us : List Us}, GoodL Q l → FineL l → KinL l → (∀ y ∈ l, ek y.k) → useL sl fr to l = .inl us → ∀ (c : CM) (rest : List Us) {sh : Sh} {d : Nat}, Inv sh c → sh[u]? = some (some d) → ∃ c' k, mkL lt u l (c, us ++ rest) = some (c', rest) ∧ Inv (up sh u (some (d + l.length)) k) c'
 | [], fr, to, us, _, _, _, _, hu, c, rest, sh, d, hI, hd => by
  simp only [useL, Sum.inl.injEq] at hu
  subst hu
  exact ⟨c, 0, by simp [mkL], by rw [List.length_nil, Nat.add_zero, up_same hd]; exact hI⟩
 | x :: r, fr, to, us, hg, hf, hk, he, hu, c, rest, sh, d, hI, hd => by
  simp only [FineL] at hf
  simp only [KinL] at hk
  simp only [GoodL] at hg
  simp only [useL] at hu
  obtain ⟨p, q, e1, e2, e3⟩ := catU_inl hu
  subst e3
  have hul := at_len hd
  obtain ⟨c1, m1, h1, i1⟩ := mkP_ok K (u := u) hg.1 hf.1 hk.1 (he x (by simp)) e1 c (q ++ rest) hI hd
  obtain ⟨c2, m2, h2, i2⟩ := mkL_ok K (u := u) hg.2 hf.2 hk.2 (fun y hy => he y (by simp [hy])) e2 c1 rest i1 (up_at hul _ _)
  rw [up_up hul] at i2
  exact ⟨c2, _, by simp only [mkL, List.append_assoc, h1, Option.bind_some, h2], by rw [List.length_cons, show d + (r.length + 1) = d + 1 + r.length by omega]; exact i2⟩
theorem mkC_ok (K : Clo sl.length Q Inv) {u : Nat} {sp : Bool} : ∀ {l : List Nd} {fr : Fr} {to : Bool} {us : List Us}, GoodL Q l → FineL l → KinL l → (∀ y ∈ l.head?, ek y.k) → 2 ≤ l.length → (∀ y ∈ l.tail, y.k = 9) → useL sl fr to l = .inl us → ∀ (c : CM) (rest : List Us) {sh : Sh} {d : Nat}, Inv sh c → sh[u]? = some (some d) → ∃ c' k, mkC lt u sp l (c, us ++ rest) = some (c', rest) ∧ Inv (up sh u (some (d + 1)) k) c'
 | [], fr, to, us, _, _, _, _, h, _, _, c, rest, _, _, _, _ => by simp at h
 | x :: r, fr, to, us, hg, hf, hk, he, h2, h9, hu, c, rest, sh, d, hI, hd => by
  simp only [FineL] at hf
  simp only [KinL] at hk
  simp only [GoodL] at hg
  simp only [useL] at hu
  obtain ⟨p, q, e1, e2, e3⟩ := catU_inl hu
  subst e3
  have hul := at_len hd
  obtain ⟨c1, m1, h1, i1⟩ := mkP_ok K (u := u) hg.1 hf.1 hk.1 (he x (by simp)) e1 c (q ++ rest) hI hd
  obtain ⟨c2, m2, h2, i2⟩ := mkD_ok K (u := u) (sp := sp) hg.2 hf.2 hk.2 (by simp at h2; omega) (fun y hy => h9 y (by simpa using hy)) e2 c1 rest i1 (up_at hul _ _)
  rw [up_up hul] at i2
  exact ⟨c2, _, by simp only [mkC, List.append_assoc, h1, Option.bind_some, h2], i2⟩
theorem mkD_ok (K : Clo sl.length Q Inv) {u : Nat} {sp : Bool} : ∀ {l : List Nd} {fr : Fr} {to : Bool} {us : List Us}, GoodL Q l → FineL l → KinL l → 1 ≤ l.length → (∀ y ∈ l, y.k = 9) → useL sl fr to l = .inl us → ∀ (c : CM) (rest : List Us) {sh : Sh} {d : Nat}, Inv sh c → sh[u]? = some (some (d + 1)) → ∃ c' k, mkD lt u sp l (c, us ++ rest) = some (c', rest) ∧ Inv (up sh u (some (d + 1)) k) c'
 | [], fr, to, us, _, _, _, h, _, _, c, rest, _, _, _, _ => by simp at h
 | [m], fr, to, us, hg, hf, hk, h, h9, hu, c, rest, sh, d, hI, hd => by
  simp only [FineL] at hf
  simp only [KinL] at hk
  simp only [GoodL] at hg
  simp only [useL] at hu
  obtain ⟨p, q, e1, e2, e3⟩ := catU_inl hu
  simp only [Sum.inl.injEq] at e2
  subst e2 e3
  simp only [mkD, List.append_nil]
  exact mkM_ok K hg.1 hf.1 hk.1 (h9 m (by simp)) e1 c rest hI hd
 | m :: y :: r, fr, to, us, hg, hf, hk, h, h9, hu, c, rest, sh, d, hI, hd => by
  rw [FineL] at hf
  rw [KinL] at hk
  rw [GoodL] at hg
  rw [useL] at hu
  obtain ⟨p, q, e1, e2, e3⟩ := catU_inl hu
  subst e3
  have hul := at_len hd
  obtain ⟨c1, m1, h1, i1⟩ := mkM_ok K (u := u) (sp := sp) hg.1 hf.1 hk.1 (h9 m (by simp)) e1 (addS u (11, 0, 0) c) (q ++ rest) (K.dup hI hd) (up_at hul _ _)
  rw [up_up hul] at i1
  have i3 := K.pop i1 (up_at hul _ _)
  rw [up_up hul] at i3
  obtain ⟨c2, m2, h2, i2⟩ := mkD_ok K (u := u) (sp := sp) (l := y :: r) hg.2 hf.2 hk.2 (by simp) (fun z hz => h9 z (by simp only [List.mem_cons] at hz ⊢; exact .inr hz)) e2 (addS u (12, 0, 0) c1) rest i3 (up_at hul _ _)
  rw [up_up hul] at i2
  exact ⟨c2, _, by simp only [mkD, List.append_assoc, h1, Option.bind_some] at h2 ⊢; exact h2, i2⟩
theorem mkM_ok (K : Clo sl.length Q Inv) {u : Nat} {sp : Bool} : ∀ {m : Nd} {fr : Fr} {to : Bool} {us : List Us}, Good Q m → Fine m → Kin m → m.k = 9 → useP sl fr to m = .inl us → ∀ (c : CM) (rest : List Us) {sh : Sh} {d : Nat}, Inv sh c → sh[u]? = some (some (d + 1)) → ∃ c' k, mkM lt u sp m (c, us ++ rest) = some (c', rest) ∧ Inv (up sh u (some (d + 1)) k) c'
 | .mk k t a n names kids, fr, to, us, hg, hf, hk, h9, hu, c, rest, sh, d, hI, hd => by
  have hfl := Nd.fine hf
  have hkl := Nd.kin hk
  have hgl := hg.all
  have hg1 := hg.one
  simp only [Nd.kids] at hfl hkl hgl
  simp only [Nd.kids, Nd.k, Nd.t, Nd.n, Nd.names] at hg1
  simp only [Kin] at hk
  simp only [Nd.k] at h9
  simp only [useP] at hu
  rw [if_neg (by omega), if_neg (by omega), if_neg (by omega)] at hu
  have hul := at_len hd
  obtain ⟨c', m, hc, hi⟩ := mkL_ok K (u := u) hgl hfl hkl (hk.1 (.inr (.inr (.inl h9)))) hu c rest hI hd
  have h2 := K.send (d := d) (m := kids.length) sp (hg1.2.2.2.2.1 h9) hi (by rw [up_at hul]; congr 2; omega)
  rw [up_up hul] at h2
  exact ⟨sendC u sp t kids.length c', _, by simp only [mkM, hc, Option.map_some], h2⟩
theorem mkS_ok (K : Clo sl.length Q Inv) {u i : Nat} : ∀ {l : List Nd} {fr : Fr} {to : Bool} {us : List Us}, GoodL Q l → FineL l → KinL l → (∀ y ∈ l, ek y.k ∨ y.k = 11) → (∀ y ∈ l.dropLast, y.k ≠ 11) → useL sl fr to l = .inl us → ∀ (c : CM) (rest : List Us) {sh : Sh}, Inv sh c → sh[u]? = some (some (if i = 0 then 0 else 1)) → ∃ c' b k, mkS lt u i l (c, us ++ rest) = some ((c', rest), b) ∧ Inv (up sh u (if b then none else some (if i + l.length = 0 then 0 else 1)) k) c'
 | [], fr, to, us, _, _, _, _, _, hu, c, rest, sh, hI, hd => by
  simp only [useL, Sum.inl.injEq] at hu
  subst hu
  exact ⟨c, false, 0, by simp [mkS], by rw [if_neg (by decide), List.length_nil, Nat.add_zero, up_same hd]; exact hI⟩
 | .mk k t a n names kids :: r, fr, to, us, hg, hf, hk, he, hdl, hu, c, rest, sh, hI, hd => by
  simp only [FineL] at hf
  simp only [KinL] at hk
  simp only [GoodL] at hg
  simp only [useL] at hu
  obtain ⟨p, q, e1, e2, e3⟩ := catU_inl hu
  subst e3
  have hul := at_len hd
  have hp := K.pop0 (i := i) hI hd
  simp only [mkS]
  split
  ·rename_i h
   have hr : r = [] := by
    cases r with
    | nil => rfl
    | cons y r => exact absurd h (hdl (.mk k t a n names kids) (by simp))
   subst hr
   simp only [useL, Sum.inl.injEq] at e2
   subst e2
   have hfl := Nd.fine hf.1
   have hkl := Nd.kin hk.1
   have hgl := hg.1.all
   simp only [Nd.kids] at hfl hkl hgl
   have h1 := hf.1
   have k1 := hk.1
   simp only [Fine] at h1
   simp only [Kin] at k1
   simp only [useP] at e1
   rw [if_neg (by omega), if_neg (by omega), if_neg (by omega)] at e1
   obtain ⟨c1, m1, h1, i1⟩ := mkH_ok K (u := u) hgl hfl hkl (k1.1 (.inr (.inr (.inr h)))) (h1.2.2.1 (.inl h)) e1 (if i = 0 then c else addS u (12, 0, 0) c) rest hp (up_at hul _ _)
   rw [up_up hul] at i1
   have i2 := K.ret i1 (up_at hul _ _)
   rw [up_up hul] at i2
   exact ⟨addS u (14, 0, 0) c1, true, _, by simp only [List.append_nil, h1, Option.map_some], i2⟩
  ·rename_i h
   have hek := he (.mk k t a n names kids) (by simp)
   obtain ⟨c1, m1, h1, i1⟩ := mkP_ok K (u := u) hg.1 hf.1 hk.1 (by rcases hek with e | e; exact e; exact absurd e h) e1 (if i = 0 then c else addS u (12, 0, 0) c) (q ++ rest) hp (up_at hul _ _)
   rw [up_up hul] at i1
   obtain ⟨c2, b, m2, h2, i2⟩ := mkS_ok K (u := u) (i := i + 1) hg.2 hf.2 hk.2 (fun y hy => he y (by simp [hy])) (fun y hy => hdl y (by cases r with | nil => simp at hy | cons z r => simp only [List.dropLast_cons_cons, List.mem_cons]; exact .inr hy)) e2 c1 rest i1 (by rw [up_at hul, if_neg (by omega)])
   rw [up_up hul] at i2
   exact ⟨c2, b, _, by simp only [List.append_assoc, h1, Option.bind_some, h2], by rw [List.length_cons, show i + (r.length + 1) = i + 1 + r.length by omega]; exact i2⟩
end
theorem mkU_ok (K : Clo sl.length Q Inv) {x : Nd} {us : List Us} (hg : Good Q x) (hf : Fine x) (hk : Kin x) (h : x.k = 12) (hu : useU sl [] x = .inl us) (h0 : Inv [some 0] (newU x.n x.names.length ⟨[], [], [], []⟩)) : ∃ c k, mkU lt x ⟨[], [], [], []⟩ us = some (c, []) ∧ Inv (List.replicate (k + 1) none) c := by
 unfold useU at hu
 split at hu
 ·simp at hu
 ·have h1 := Nd.fine hf
  have h2 := Nd.kin hk
  have h3 := hg.all
  cases x with
  | mk k t a n names kids =>
   simp only [Nd.k] at h
   simp only [Fine] at hf
   simp only [Kin] at hk
   simp only [Nd.kids] at h1 h2 h3 hu
   obtain ⟨c', b, m, hc, hi⟩ := mkS_ok K (lt := lt) (u := 0) (i := 0) h3 h1 h2 (hk.2.2.1 (.inr h)) (hf.1.2 (.inr h)) hu (newU n names.length ⟨[], [], [], []⟩) [] h0 rfl
   rw [List.append_nil] at hc
   unfold mkU
   simp only [Nd.kids, Nd.n, Nd.names, List.length_nil, hc, Option.map_some]
   refine ⟨_, m, rfl, ?_⟩
   have e : List.replicate (m + 1) none = up [some 0] 0 none m := by simp [up, List.replicate_succ]
   rw [e]
   simp only [doneU]
   cases b with
   | true => simpa using hi
   | false =>
    rw [if_neg (by decide)] at hi ⊢
    rw [Nat.zero_add] at hi
    exact K.done (by simp) _ hi
theorem clo_len (n : Nat) (Q : ByteArray → Nat → Prop) : Clo n Q fun sh c => sh.length = c.us.length := by
 constructor <;> intros <;> simp_all [up, litS, useS, setS, sendC, addS, newU] <;> (repeat' split) <;> simp_all
end
end Go.SL
namespace Go.SL
open Go.Proofs
set_option maxRecDepth 10000
theorem parseD_why {num : ByteArray → Bool} {m : Bool} {s : ByteArray} {a : Nat} {w : Int} (h : parseD num m s = .no a w) : w ≠ 0 := by
 unfold parseD at h
 split at h
 ·exact NN.big a w h
 ·split at h
  ·refine NN.then ?_ (fun p r => NN.then ((nz _).body _ _ _) fun _ _ => NN.ok) a w h
   cases m with
   | true => exact patS_nn _ _
   | false => exact NN.ok
  ·exact NN.syn a w h
theorem parse_fine {num : ByteArray → Bool} {m : Bool} {s : ByteArray} {x : Nd} {r : List Tk} (h : parseD num m s = .ok x r) : Fine x ∧ Kin x ∧ nds x ≤ 5001 := by
 unfold parseD at h
 split at h
 ·simp at h
 ·split at h
  ·rename_i hs l hl
   have hwf := lexS_wf (by omega) hl
   unfold uniS at h
   obtain ⟨p, r1, e1, e2⟩ := andThen_ok h
   obtain ⟨b, r2, e3, e4⟩ := andThen_ok e2
   simp only [Res.ok.injEq] at e4
   have h1 := (headS_wf hwf e1).1
   have h2 := (presF (fuel l)).body _ _ _ _ _ e3
   have h3 := (presK (fuel l)).body _ _ _ _ _ e3
   have hz := h2.1.2
   have hle := h1.2.2
   rw [← e4.1]
   refine ⟨?_, ?_, ?_⟩
   ·simp only [Fine]
    exact ⟨⟨fun e => by simp at e, fun _ => h2.2⟩, fun e => by simp at e, fun e => by simp at e, fun e => by simp at e, h2.1.1⟩
   ·simp only [Kin]
    exact ⟨fun e => by simp at e, ⟨fun e => by simp at e, fun e => by simp at e⟩, fun _ => h3.1, h3.2⟩
   ·simp only [nds, ndL] at hz ⊢
    omega
  ·simp at h
end Go.SL
namespace Go.SL
open Go.Proofs
set_option maxRecDepth 10000
theorem AF.fzr {P : Program} {f : FuncId} {Q Q' : Out → H → Prop} {args : List V} {h : H} (k : AF P f args h Q) (hq : ∀ o h, Q o h → ∃ v, o = .ret v ∧ Q' (.ret (fzV h v)) (fzA h)) : AF P f args h Q' :=
 ⟨k.1, fun κ w argv hr hv => (k.2 κ w argv hr hv).mono fun e w' ⟨κ', h', out, g1, g2, g3, g4⟩ => by
  obtain ⟨v, e1, h1⟩ := hq _ _ g1
  subst e1
  obtain ⟨x, e2, h2⟩ := g4
  exact ⟨fzK κ' h' w', fzA h', _, h1, Le.trans g2 fz_le, fzA_rel g3, x, e2, fzV_sound g3 h2⟩⟩
def unD (x : CU) : D := if x.ins = [] then .agg [.int .i64 x.a, .int .i64 x.n, .sl true 0 []] else .agg [.int .i64 x.a, .int .i64 x.n, .sl false 3 (x.ins.map insD)]
def cdL (sel : ByteArray) (c : CM) : List D := [.str sel, .sl c.us.isEmpty 3 (c.us.map unD), .sl c.lits.isEmpty 1 (c.lits.map .str), .sl c.names.isEmpty 1 (c.names.map .str), .sl c.sels.isEmpty 1 (c.sels.map .str)]
def c0 : CM := ⟨[], [], [], []⟩
theorem toDv_d (h : H) (n : Nat) (x : D) : toDv h n (.d x) = some x := by cases n <;> rfl
theorem toDv_row {h : H} {i n m : Nat} {v : Vec} {ds : List D} (hv : h.vc[i]? = some (some v)) (hl : v.xs.length = m) (hd : mapD (toDv h n) v.xs = some ds) : toDv h (n + 1) (.vs i m 0 m) = some (.sl v.nil v.sz ds) := by
 have h1 : Nat.beq v.xs.length m = true := by rw [hl]; simp
 have h2 : Nat.ble (0 + m) m = true := by simp
 have h3 : (v.xs.drop 0).take m = v.xs := by rw [← hl]; simp
 simp only [toDv, hv, h1, h2, h3, Bool.and_self, hd]
theorem toDv_uv {h : H} {n : Nat} {x : CU} {j : Nat} (hj : x.ins ≠ [] → h.vc[j + 1 + 1 + 1 + 1]? = some (IR x.ins)) : toDv h (n + 2) (uv x j) = some (unD x) := by
 unfold uv unD
 by_cases h0 : x.ins = []
 ·rw [if_pos h0, if_pos h0]; exact toDv_d _ _ _
 ·rw [if_neg h0, if_neg h0]
  have := toDv_row (h := h) (n := n) (v := ⟨false, 3, 0, x.ins.map fun x => .d (insD x), 64⟩) (ds := x.ins.map insD) (hj h0) (m := x.ins.length) (by simp) (by rw [← mapD_d h n (x.ins.map insD), List.map_map]; rfl)
  have e1 : mapD (toDv h (n + 1)) [.d (.int .i64 x.a), .d (.int .i64 x.n), .vs (j + 1 + 1 + 1 + 1) x.ins.length 0 x.ins.length] = some [.int .i64 x.a, .int .i64 x.n, .sl false 3 (x.ins.map insD)] := by
   simp only [mapD, toDv_d, this]
  show (match mapD (toDv h (n + 1)) [.d (.int .i64 x.a), .d (.int .i64 x.n), .vs (j + 1 + 1 + 1 + 1) x.ins.length 0 x.ins.length] with | some ds => some (D.agg ds) | none => none) = _
  rw [e1]
theorem toDv_us {h : H} {n : Nat} : ∀ {us : List CU} {js : List Nat}, js.length = us.length → (∀ (u : Nat) (x : CU) (j : Nat), us[u]? = some x → js[u]? = some j → x.ins ≠ [] → h.vc[j + 1 + 1 + 1 + 1]? = some (IR x.ins)) → mapD (toDv h (n + 2)) (List.zipWith uv us js) = some (us.map unD)
 | [], js, _, _ => by simp [mapD]
 | x :: us, [], e, _ => by simp at e
 | x :: us, j :: js, e, k => by
  have h1 := toDv_us (n := n) (us := us) (js := js) (by simpa using e) fun u x j a b => k (u + 1) x j (by simpa using a) (by simpa using b)
  have h2 := toDv_uv (h := h) (n := n) (x := x) (j := j) (k 0 x j rfl rfl)
  simp only [List.zipWith_cons_cons, List.map_cons, mapD, h2, h1]
theorem toDv_ns {h : H} {n i : Nat} {l : List ByteArray} (hi : h.vc[i]? = some (NS l)) : toDv h (n + 1) (.vs i l.length 0 l.length) = some (.sl l.isEmpty 1 (l.map .str)) := by
 refine toDv_row (v := ⟨l.isEmpty, 1, 0, l.map fun s => .d (.str s), 9⟩) hi (by simp) ?_
 rw [← mapD_d h n (l.map .str), List.map_map]; rfl
def BM (sel : ByteArray) (c : CM) (uz : D) : Bx := .cells ((cdL sel c ++ [uz]).map .d) 78
theorem MK_fz {sel : ByteArray} {c : CM} {uz : D} {js : List Nat} {bs : List Bx} {cs : List (Option Vec)} (hI : InsOK c.us js cs) : ∃ b v, fzA (MK sel c uz js bs cs) = ⟨BM sel c uz :: b, none :: none :: none :: none :: v⟩ := by
 refine ⟨bs.map (fzB (MK sel c uz js bs cs)), cs.map fun _ => none, ?_⟩
 have e1 := toDv_ns (h := MK sel c uz js bs cs) (n := 11) (i := 1) (l := c.lits) rfl
 have e2 := toDv_ns (h := MK sel c uz js bs cs) (n := 11) (i := 2) (l := c.names) rfl
 have e3 := toDv_ns (h := MK sel c uz js bs cs) (n := 11) (i := 3) (l := c.sels) rfl
 have e4 := toDv_us (h := MK sel c uz js bs cs) (n := 9) hI.1 fun u x j a b k => by
  have := hI.2.1 u x j a b k
  simpa [MK] using this
 have e5 := toDv_row (h := MK sel c uz js bs cs) (i := 0) (m := c.us.length) (v := ⟨c.us.isEmpty, 3, 0, List.zipWith uv c.us js, 63⟩) rfl (by simp [hI.1]) e4
 unfold fzA
 congr 1
 show fzB (MK sel c uz js bs cs) (MB sel c.us.length c.lits.length c.names.length c.sels.length uz) :: _ = _
 congr 1
 simp only [fzB, fzV, List.map_cons, List.map_nil, e1, e2, e3, e5, toDv_d, BM, cdL, List.cons_append, List.nil_append]
def makeD (sl : List ByteArray) (x : Nd) : CM ⊕ Nat := match useU sl [] x with
 | .inl us => match mkU litB x c0 us with
  | some s => .inl s.1
  | none => .inr 0
 | .inr a => .inr a
def CdR (sel : ByteArray) (r : CM ⊕ Nat) (w : Int) (v : D) : Prop := match r with
 | .inl c => v = .tup [.agg (cdL sel c), .int .i64 0, .int .i64 0]
 | .inr a => v = .tup [.agg [.str ⟨#[]⟩, .sl true 0 [], .sl true 0 [], .sl true 0 [], .sl true 0 []], .int .i64 a, .int .i64 w]
theorem f31_fz {Q0 : ByteArray → Nat → Prop} (x : Nd) (hg : Good Q0 x) (hf : Fine x) (us : List Us) (s : MS) (hm : mkU litB x c0 us = some s) (hn : nds x ≤ 20000) (u : D) (hu : NdR x u) (sel : ByteArray) (nl : Bool) (hnl : nl = true → us = []) :
  AF Tryz.prog 31 [.ptr 0 0, .d u] (MK sel c0 (uzD nl us) [] [] []) fun o h => o = .ret (.d (.tup [])) ∧ ∃ uz b v, h = ⟨BM sel s.1 uz :: b, none :: none :: none :: none :: v⟩ := by
 unfold mkU at hm
 cases hk : mkS litB c0.us.length 0 x.kids (newU x.n x.names.length c0, us) with
 | none => rw [hk] at hm; simp at hm
 | some s1 =>
  rw [hk] at hm
  simp only [Option.map_some, Option.some.injEq] at hm
  subst hm
  have hU := f31_ok (Q0 := Q0) x hg hf (fun y _ hy1 hy2 => f47_ok (Q0 := Q0) _ y (Nat.le_refl _) hy1 hy2) sel c0 us nl [] [] [] s1 u ⟨rfl, fun u x j h => by simp [c0] at h, fun u v x y j h => by simp [c0] at h⟩ (by simp [szC, c0]; omega) hnl hk hu
  refine AF.fzr hU fun o h ⟨nl1, ⟨e1, js, b, cs, e2, hI⟩, hn1⟩ => ⟨_, e1, ?_⟩
  subst e2
  obtain ⟨b', v, e3⟩ := MK_fz (sel := sel) (uz := uzD nl1 s1.1.2) (bs := [] ++ b) hI
  exact ⟨by simp [fzV], _, b', v, e3⟩
theorem f19_ok {sl : List ByteArray} (hsl : sl.length ≤ 1048576) {snl : Bool} {sz : Nat} (hs1 : snl = true → sl = []) (hs2 : snl = false → sz = 1) {Q0 : ByteArray → Nat → Prop} (x : Nd) (hg : Good Q0 x) (hf : Fine x) (hok : ∀ us, useU sl [] x = .inl us → ∃ s, mkU litB x c0 us = some s) (hn : nds x ≤ 20000) (u : D) (hu : NdR x u) :
  DE Tryz.prog 19 [u, .sl snl sz (sl.map .str)] (CdR x.t (makeD sl x) 21) := by
 have hR := f30_ok hsl hs1 hs2 x hg (by omega) u hu
 have hud := hu
 obtain ⟨nl1, z1, nl2, z2, ds, e, h1, h2, h3, h4, h5⟩ := hu.shape
 subst e
 refine AF.start' 60 Tryz.func19 rfl rfl c19call c19ok fun Q hQ => ?_
 simp [c19c, c19t]
 refine ATT.callE Tryz.func19 60 hR (by simp) (by simp) (by simp) fun v hv => ?_
 unfold makeD at hQ
 cases hr : useU sl [] x with
 | inr a =>
  rw [hr] at hv hQ
  have e : v = _ := hv
  subst e
  simp [c19t]
  refine ATT.fin' hQ Tryz.func19 c19res ?_
  exact ⟨by simp, _, rfl, rfl⟩
 | inl us =>
  obtain ⟨s, hm⟩ := hok us hr
  rw [hr] at hv hQ
  simp only [hm] at hQ
  have e : v = _ := hv
  subst e
  have hU := f31_fz x hg hf us s hm hn _ hud x.t us.isEmpty (by simp)
  simp [c19t]
  refine ATT.nilB 2 1 3 63 rfl rfl (by decide) (by simp) ?_
  simp
  refine ATT.nilB 2 2 1 9 rfl rfl (by decide) (by simp) ?_
  simp
  refine ATT.nilB 2 3 1 9 rfl rfl (by decide) (by simp) ?_
  simp
  refine ATT.nilB 2 4 1 9 rfl rfl (by decide) (by simp) ?_
  simp
  refine ATT.callA Tryz.func19 60 [2] [0, 1, 2, 3] 0 0 (hU) (by simp) (by simp) (by simp [c0]) (by simp) (by simp) fun out hC hE => ?_
  obtain ⟨e1, uz, b, w, e2⟩ := hE
  subst e1 e2
  refine ⟨by simp, ?_⟩
  simp [c19t, BM, cdL]
  refine ATT.fin' hQ Tryz.func19 c19res ?_
  simp
  all_goals (first | omega | exact ⟨_, rfl⟩ | skip)
  rfl
def codeD (num : ByteArray → Bool) (sl : List ByteArray) (m : Bool) (s : ByteArray) : (ByteArray × CM) ⊕ (Nat × Int) := match parseD num m s with
 | .ok x _ => match makeD sl x with
  | .inl c => .inl (x.t, c)
  | .inr a => .inr (a, 21)
 | .no a w => .inr (a, w)
 | .out => .inr (0, 0)
def CoR (r : (ByteArray × CM) ⊕ (Nat × Int)) (v : D) : Prop := match r with
 | .inl c => v = .tup [.agg (cdL c.1 c.2), .int .i64 0, .int .i64 0]
 | .inr a => v = .tup [.agg [.str ⟨#[]⟩, .sl true 0 [], .sl true 0 [], .sl true 0 [], .sl true 0 []], .int .i64 a.1, .int .i64 a.2]
def ParsedOk (num : ByteArray → Bool) (sl : List ByteArray) (m : Bool) (s : ByteArray) : Prop :=
 ∃ Q0 : ByteArray → Nat → Prop, ∀ x l, parseD num m s = .ok x l → Good Q0 x ∧ Fine x ∧ nds x ≤ 20000 ∧ ∀ us, useU sl [] x = .inl us → ∃ s, mkU litB x c0 us = some s
theorem parsed (num : ByteArray → Bool) (sl : List ByteArray) (m : Bool) (s : ByteArray) : ParsedOk num sl m s :=
 ⟨QA, fun x l h => by
  have h1 := parse_fits h
  have h2 := parse_fine h
  exact ⟨h1.1, h2.1, by omega, fun us hu => by
   obtain ⟨c, k, e, _⟩ := mkU_ok (lt := litB) (clo_len sl.length QA) h1.1 h2.1 h2.2.1 h1.2.1 hu rfl
   exact ⟨_, e⟩⟩⟩
theorem f7_ok {num : ByteArray → Bool} (hW : NumP 100 num) (s : ByteArray) (hs : s.size ≤ 1073741820) {sl : List ByteArray} (hsl : sl.length ≤ 1048576) {snl : Bool} {sz : Nat} (hs1 : snl = true → sl = []) (hs2 : snl = false → sz = 1) :
  DE Tryz.prog 7 [.str s, .sl snl sz (sl.map .str)] (CoR (codeD num sl false s)) := by
 obtain ⟨Q0, hx⟩ := parsed num sl false s
 have hP := f18_ok hW s hs
 refine AF.start' 60 Tryz.func7 rfl rfl c7call c7ok fun Q hQ => ?_
 simp [c7c, c7t]
 refine ATT.callE Tryz.func7 60 hP (by simp) (by simp) (by simp) fun v hv => ?_
 unfold codeD at hQ
 cases hr : parseD num false s with
 | out => exact absurd hr (parseD_in _ _ _)
 | no a w =>
  rw [hr] at hv hQ
  have e : v = _ := hv
  subst e
  have hw : ¬ w = 0 := parseD_why hr
  simp [c7t, hw]
  refine ATT.fin' hQ Tryz.func7 c7res ?_
  exact ⟨by simp, _, rfl, rfl⟩
 | ok x l =>
  rw [hr] at hv hQ
  obtain ⟨u, e, hu⟩ := hv
  subst e
  obtain ⟨g1, g2, g3, g4⟩ := hx x l hr
  have hM := f19_ok hsl hs1 hs2 x g1 g2 g4 g3 u hu
  have hud := hu
  obtain ⟨nl1_u, z1_u, nl2_u, z2_u, ds_u, hv_u, ha_u, hb_u, hc_u, hd_u, he_u⟩ := hu.shape
  have hw_u := hv_u
  subst hw_u
  simp [c7t]
  refine ATT.callE Tryz.func7 60 hM (by simp) (by simp) (by simp) fun v hv => ?_
  cases hd : makeD sl x with
  | inl c =>
   rw [hd] at hv
   simp only [hd] at hQ
   have e : v = _ := hv
   subst e
   simp [cdL]
   refine ATT.fin' hQ Tryz.func7 c7res ?_
   simp
   all_goals (first | omega | exact ⟨_, rfl⟩ | skip)
   rfl
  | inr a =>
   rw [hd] at hv
   simp only [hd] at hQ
   have e : v = _ := hv
   subst e
   simp
   refine ATT.fin' hQ Tryz.func7 c7res ?_
   simp
   all_goals (first | omega | exact ⟨_, rfl⟩ | skip)
   rfl
end Go.SL
namespace Go.SL
open Go.Proofs
set_option maxRecDepth 10000
def Sm (d d' : D) : Prop := ∀ S v, DR S d v → DR S d' v
theorem Sm.refl (d : D) : Sm d d := fun _ _ h => h
theorem Sm.nil (z z' : Nat) : Sm (.sl true z []) (.sl true z' []) := fun S v h => by
 simp only [DR] at h ⊢
 rcases h with h | ⟨h, _⟩
 ·exact .inl h
 ·simp at h
inductive SmL : List D → List D → Prop
 | nil : SmL [] []
 | cons {x y : D} {xs ys : List D} : Sm x y → SmL xs ys → SmL (x :: xs) (y :: ys)
theorem SmL.len {xs ys : List D} (h : SmL xs ys) : ys.length = xs.length := by induction h <;> simp_all
theorem SmL.dl {S : Sealed} {xs ys : List D} (h : SmL xs ys) : ∀ {l : List Value}, DL S xs l → DL S ys l := by
 induction h with
 | nil => exact fun h => h
 | cons h _ ih =>
  intro l k
  simp only [DL] at k ⊢
  obtain ⟨y, r, e, k1, k2⟩ := k
  exact ⟨y, r, e, h _ _ k1, ih k2⟩
theorem SmL.dc {S : Sealed} {xs ys : List D} (h : SmL xs ys) : ∀ {b o : Nat}, DC S xs b o → DC S ys b o := by
 induction h with
 | nil => exact fun _ => by simp only [DC]
 | cons h _ ih =>
  intro b o k
  simp only [DC] at k ⊢
  obtain ⟨⟨y, k1, k2, k3⟩, k4⟩ := k
  exact ⟨⟨y, k1, k2, h _ _ k3⟩, ih k4⟩
theorem Sm.agg {xs ys : List D} (h : SmL xs ys) : Sm (.agg xs) (.agg ys) := fun S v k => by
 simp only [DR] at k ⊢
 obtain ⟨l, e, k1, k2⟩ := k
 exact ⟨l, e, h.dl k1, k2⟩
theorem Sm.tup {xs ys : List D} (h : SmL xs ys) : Sm (.tup xs) (.tup ys) := fun S v k => by
 simp only [DR] at k ⊢
 obtain ⟨l, e, k1⟩ := k
 exact ⟨l, e, h.dl k1⟩
def unR (x : CU) : D := .agg [.int .i64 x.a, .int .i64 x.n, .sl x.ins.isEmpty 3 (x.ins.map insD)]
def cdR (sel : ByteArray) (c : CM) : List D := [.str sel, .sl c.us.isEmpty 3 (c.us.map unR), .sl c.lits.isEmpty 1 (c.lits.map .str), .sl c.names.isEmpty 1 (c.names.map .str), .sl c.sels.isEmpty 1 (c.sels.map .str)]
theorem unD_sm {S : Sealed} : ∀ (us : List CU) (b o : Nat), DX S 3 (us.map unD) b o → DX S 3 (us.map unR) b o
 | [], _, _, h => by simpa only [List.map_nil] using h
 | x :: r, b, o, h => by
  have e : ∃ z, unD x = .agg [.int .i64 x.a, .int .i64 x.n, z] ∧ Sm z (.sl x.ins.isEmpty 3 (x.ins.map insD)) := by
   unfold unD
   by_cases hx : x.ins = []
   ·exact ⟨_, if_pos hx, by rw [hx]; exact .nil _ _⟩
   ·exact ⟨_, if_neg hx, by cases hi : x.ins with
     | nil => exact absurd hi hx
     | cons y r => exact .refl _⟩
  obtain ⟨z, e, hz⟩ := e
  simp only [List.map_cons, e, unR, DX] at h ⊢
  exact ⟨⟨rfl, (SmL.cons (.refl _) (.cons (.refl _) (.cons hz .nil))).dc h.1.2⟩, unD_sm r _ _ h.2⟩
theorem cdL_sm (sel : ByteArray) (c : CM) : Sm (.agg (cdL sel c)) (.agg (cdR sel c)) := by
 refine .agg (.cons (.refl _) (.cons (fun S v h => ?_) (.cons (.refl _) (.cons (.refl _) (.cons (.refl _) .nil)))))
 simp only [DR] at h ⊢
 rcases h with ⟨h1, h2, h3⟩ | ⟨h1, b, o, cap, h2, h3, h4⟩
 ·exact .inl ⟨h1, by simpa using h2, h3⟩
 ·exact .inr ⟨h1, b, o, cap, by simpa using h2, by simpa using h3, unD_sm _ _ _ h4⟩
theorem zero_sm : Sm (.agg [.str ⟨#[]⟩, .sl true 0 [], .sl true 0 [], .sl true 0 [], .sl true 0 []]) (.agg (cdR ⟨#[]⟩ c0)) :=
 .agg (.cons (.refl _) (.cons (.nil _ _) (.cons (.nil _ _) (.cons (.nil _ _) (.cons (.nil _ _) .nil)))))
theorem DE.sm {P : Program} {f : FuncId} {args : List D} {Φ Φ' : D → Prop} (h : DE P f args Φ) (hq : ∀ v, Φ v → ∃ v', Sm v v' ∧ Φ' v') : DE P f args Φ' :=
 ⟨h.1, fun κ w argv hr hv => (h.2 κ w argv hr hv).mono fun e w' ⟨κ', h', out, ⟨v, g1, g5⟩, g2, g3, g4⟩ => by
  subst g1
  obtain ⟨v', k1, k2⟩ := hq v g5
  obtain ⟨x, e1, e2⟩ := g4
  exact ⟨κ', h', .ret (.d v'), ⟨v', rfl, k2⟩, g2, g3, x, e1, by simp only [VR] at e2 ⊢; exact k1 _ _ e2⟩⟩
def selO : (ByteArray × CM) ⊕ (Nat × Int) → ByteArray
 | .inl c => c.1
 | .inr _ => ⟨#[]⟩
def codeO : (ByteArray × CM) ⊕ (Nat × Int) → CM
 | .inl c => c.2
 | .inr _ => c0
def atO : (ByteArray × CM) ⊕ (Nat × Int) → Nat
 | .inl _ => 0
 | .inr a => a.1
def errO : (ByteArray × CM) ⊕ (Nat × Int) → Int
 | .inl _ => 0
 | .inr a => a.2
abbrev coV (r : (ByteArray × CM) ⊕ (Nat × Int)) : D := .tup [.agg (cdR (selO r) (codeO r)), .int .i64 (atO r), .int .i64 (errO r)]
theorem CoR.sm {r : (ByteArray × CM) ⊕ (Nat × Int)} {v : D} (h : CoR r v) : Sm v (coV r) := by
 cases r with
 | inl c => have e : v = _ := h; subst e; exact .tup (.cons (cdL_sm _ _) (.cons (.refl _) (.cons (.refl _) .nil)))
 | inr a => have e : v = _ := h; subst e; exact .tup (.cons zero_sm (.cons (.refl _) (.cons (.refl _) .nil)))
theorem compile_ok {num : ByteArray → Bool} (hW : NumP 100 num) (s : ByteArray) (hs : s.size ≤ 1073741820) {sl : List ByteArray} (hsl : sl.length ≤ 1048576) {snl : Bool} {sz : Nat} (hs1 : snl = true → sl = []) (hs2 : snl = false → sz = 1) :
  DF Tryz.prog 7 [.str s, .sl snl sz (sl.map .str)] (coV (codeD num sl false s)) :=
 ((f7_ok hW s hs hsl hs1 hs2).sm (Φ' := fun v => v = coV (codeD num sl false s)) fun v hv => ⟨_, hv.sm, rfl⟩).mono fun o h ⟨v, e1, e2⟩ => by rw [e1, e2]
abbrev UNR (l : List CU) : Option Vec := some ⟨l.isEmpty, 3, 0, l.map fun x => .d (unR x), 41⟩
abbrev INR (l : List (Nat × Nat × Nat)) : Option Vec := some ⟨l.isEmpty, 3, 0, l.map fun x => .d (insD x), 43⟩
set_option maxHeartbeats 2000000 in
theorem f10_aux (sel : ByteArray) (c : CM) (hz : szC c ≤ 100000000) (v : D) (hv : v = .agg (cdR sel c)) : DF Tryz.prog 10 [.agg (cdR sel c)] v := by
 have hus : ∀ (h : H) (n : Nat) (l : List CU), mapD (toDv h n) (l.map fun x => V.d (unR x)) = some (l.map unR) := fun h n l => by rw [← mapD_d h n (l.map unR), List.map_map]; rfl
 have his : ∀ (h : H) (n : Nat) (l : List (Nat × Nat × Nat)), mapD (toDv h n) (l.map fun x => V.d (insD x)) = some (l.map insD) := fun h n l => by rw [← mapD_d h n (l.map insD), List.map_map]; rfl
 have hl1 : c.lits.length ≤ szC c := by unfold szC; omega
 have hl2 : c.names.length ≤ szC c := by unfold szC; omega
 have hl3 : c.sels.length ≤ szC c := by unfold szC; omega
 have hl4 : c.us.length ≤ szC c := by unfold szC; omega
 have hm1 : c.lits.length * 16 ≤ 140737488355328 := by omega
 have hm2 : c.names.length * 16 ≤ 140737488355328 := by omega
 have hm3 : c.sels.length * 16 ≤ 140737488355328 := by omega
 unfold cdR
 cases hb1 : c.lits.isEmpty <;> cases hb2 : c.names.isEmpty <;> cases hb3 : c.sels.isEmpty
 all_goals
  refine AF.start' 60 Tryz.func10 rfl rfl c10call c10ok fun Q hQ => ?_
  simp [c10c, c10t, hm1, hm2, hm3]
  refine ATT.nilB 2 1 3 41 rfl rfl (by decide) (by simp) ?_
  simp
  simp at hb1 hb2 hb3
  refine ATT.loopG 60 c10l16.eq_1 (fun (i : Nat) => c.us.length - i) (fun (i : Nat) => i ≤ c.us.length) (fun (i : Nat) => [(1, .ptr 0 0), (2, .ptr 1 0), (3, .ptr 2 0), (4, .d (.int .i64 i))]) (fun (i : Nat) => [.cells [.d (.str sel), .d (.sl c.us.isEmpty 3 (c.us.map unR)), .d (.sl c.lits.isEmpty 1 (c.lits.map .str)), .d (.sl c.names.isEmpty 1 (c.names.map .str)), .d (.sl c.sels.isEmpty 1 (c.sels.map .str))] 25, .cells [.d (.str ⟨#[]⟩), .d (.sl true 0 []), .d (.sl true 0 []), .d (.sl true 0 []), .d (.sl true 0 [])] 31, .cells [.d (.str sel), .vs 3 i 0 i, .vs 0 c.lits.length 0 c.lits.length, .vs 1 c.names.length 0 c.names.length, .vs 2 c.sels.length 0 c.sels.length] 31]) (fun (i : Nat) => [NS c.lits, NS c.names, NS c.sels, UNR (c.us.take i)]) (0) (by (try dsimp only); exact Nat.zero_le _) (by simp <;> omega) (by simp) (by simp [eq_true hb1, eq_true hb2, eq_true hb3]) ?_
  intro i u w hI ih
  try simp only at hI ih
  by_cases hi : i < c.us.length
  ·obtain ⟨x, hx⟩ : ∃ x, c.us[i]? = some x := ⟨_, List.getElem?_eq_getElem hi⟩
   have hxE : ∀ h, c.us[i]'h = x := fun h => by rw [List.getElem?_eq_getElem h] at hx; simpa using hx
   have hi' : (i : Int) < c.us.length := by omega
   have hne : c.us.isEmpty = false := by cases hu : c.us with | nil => rw [hu] at hi; simp at hi | cons _ _ => rfl
   have hni : x.ins.length ≤ szC c := szC_at hx
   have hII : inI ((i : Int) + 1) = true := inI_of (by omega) (by omega)
   have hmul : (i + 1) * 24 ≤ 140737488355328 := by omega
   simp [c10t, hi, hi', hxE, unR, hne]
   refine ATT.nilB (u.length + 1 + 1 + 1) 2 3 43 (by simp; exact ⟨rfl, rfl⟩) rfl (by decide) (by simp) ?_
   simp
   refine ATT.loopG 0 c10l13.eq_1 (fun (k : Nat) => x.ins.length - k) (fun (k : Nat) => k ≤ x.ins.length) (fun (k : Nat) => [(1, .ptr 0 0), (2, .ptr 1 0), (3, .ptr 2 0), (4, .d (.int .i64 i)), (5, .ptr (u.length + 1 + 1 + 1) 0), (6, .d (.int .i64 k))]) (fun (k : Nat) => .cells [.d (.str sel), .d (.sl false 3 (c.us.map unR)), .d (.sl c.lits.isEmpty 1 (c.lits.map .str)), .d (.sl c.names.isEmpty 1 (c.names.map .str)), .d (.sl c.sels.isEmpty 1 (c.sels.map .str))] 25 :: .cells [.d (.str ⟨#[]⟩), .d (.sl true 0 []), .d (.sl true 0 []), .d (.sl true 0 []), .d (.sl true 0 [])] 31 :: .cells [.d (.str sel), .vs 3 i 0 i, .vs 0 c.lits.length 0 c.lits.length, .vs 1 c.names.length 0 c.names.length, .vs 2 c.sels.length 0 c.sels.length] 31 :: (u ++ [.cells [.d (.int .i64 x.a), .d (.int .i64 x.n), .vs (w.length + 1 + 1 + 1 + 1) k 0 k] 41])) (fun (k : Nat) => NS c.lits :: NS c.names :: NS c.sels :: UNR (c.us.take i) :: (w ++ [INR (x.ins.take k)])) (0) (by (try dsimp only); exact Nat.zero_le _) (by simp <;> omega) (by simp) (by simp) ?_
   intro k u w hI ih
   try simp only at hI ih
   rename_i u0 w0 hI0 ih0
   simp only [goes]
   by_cases hk : k < x.ins.length
   ·obtain ⟨y, hy⟩ : ∃ y, x.ins[k]? = some y := ⟨_, List.getElem?_eq_getElem hk⟩
    have hyE : ∀ h, x.ins[k]'h = y := fun h => by rw [List.getElem?_eq_getElem h] at hy; simpa using hy
    have hk' : (k : Int) < x.ins.length := by omega
    have hnk : x.ins.isEmpty = false := by cases hu : x.ins with | nil => rw [hu] at hk; simp at hk | cons _ _ => rfl
    have hmk : min k x.ins.length = k := by omega
    have hIK : inI ((k : Int) + 1) = true := inI_of (by omega) (by omega)
    have hmul : (k + 1) * 24 ≤ 140737488355328 := by omega
    refine goes_sound 60 _ _ _ _ ?_
    simp [c10t, hi, hxE, hk, hk', hyE, hIK, hmul, unR, hnk, insD, hmk]
    have hnk2 : ¬ x.ins = [] := fun e => by rw [e] at hk; simp at hk
    refine ih (k + 1) (by first | ((try dsimp only); omega) | (simp [hi, hi', hx, hxE, hk, hk', hy, hyE, hIK, hmul, unR, hne, hnk, insD, hmk, hnk2, List.take_add_one] <;> omega)) (by (try dsimp only); exact hk) _ _ _ (by simp <;> omega) (by simp <;> omega) (by simp [hk, hyE, insD, hnk2, List.take_add_one] <;> omega)
   ·have hk' : ¬ (k : Int) < x.ins.length := by omega
    have hke : k = x.ins.length := by omega
    subst hke
    have hmi : min i c.us.length = i := by omega
    have hmul2 : (i + 1) * 40 ≤ 140737488355328 := by omega
    refine ATT.fz1 (w0.length + 1 + 1 + 1 + 1) (by simp) ?_
    simp [his]
    refine goes_sound 60 _ _ _ _ ?_
    simp [c10t, hi, hxE, hk', hmul2, hII, unR, hmi]
    have hnu2 : ¬ c.us = [] := fun e => by rw [e] at hi; simp at hi
    have hf1 : ∀ h : H, (fzX h ∘ V.d ∘ D.str) = V.d ∘ D.str := fun h => rfl
    have hf2 : ∀ h : H, (fzX h ∘ fun x : CU => V.d (D.agg [D.int IntKind.i64 x.a, D.int IntKind.i64 x.n, D.sl x.ins.isEmpty 3 (x.ins.map insD)])) = fun x : CU => V.d (D.agg [D.int IntKind.i64 x.a, D.int IntKind.i64 x.n, D.sl x.ins.isEmpty 3 (x.ins.map insD)]) := fun h => rfl
    refine ih0 (i + 1) (by first | ((try dsimp only); omega) | (simp [hi, hi', hx, hxE, hk', hmul2, hII, unR, hne, hmi, hf1, hf2, hnu2, List.take_add_one] <;> omega)) (by (try dsimp only); exact hi) _ _ _ (by simp <;> omega) (by simp <;> omega) (by simp [hi, hxE, unR, hne, hf2, hnu2, List.take_add_one] <;> omega)
  ·have hi' : ¬ (i : Int) < c.us.length := by omega
   have hie : i = c.us.length := by omega
   subst hie
   simp [c10t, hi']
   refine ATT.finz hQ Tryz.func10 c10res (by first | exact .inl rfl | exact .inr ⟨_, rfl⟩) ?_
   simp [hus]
   all_goals (first | omega | exact ⟨_, rfl⟩ | skip)
   exact hv.symm
theorem f10_ok (sel : ByteArray) (c : CM) (hz : szC c ≤ 100000000) : DF Tryz.prog 10 [.agg (cdR sel c)] (.agg (cdR sel c)) := f10_aux sel c hz _ rfl
end Go.SL
namespace Go.SL
open Go.Proofs
set_option maxRecDepth 10000
def skipF (p : Int → Bool) (s : ByteArray) : Nat → Nat → Nat
 | 0, i => i
 | n + 1, i => if i < s.size then (if p (sbyte s i) then skipF p s n (i + 1) else i) else i
theorem skip_eq (p : Int → Bool) (s : ByteArray) : ∀ n i, s.size ≤ n + i → skipS p s i = skipF p s n i
 | 0, i, h => by rw [skipS, dif_neg (by omega)]; rfl
 | n + 1, i, h => by
  rw [skipS]
  simp only [skipF]
  split
  ·split
   ·exact skip_eq p s n (i + 1) (by omega)
   ·rfl
  ·rfl
theorem skip_is {p : Int → Bool} {s : ByteArray} {i j : Nat} (n : Nat) (h : s.size ≤ n + i) (e : skipF p s n i = j) : skipS p s i = j := (skip_eq p s n i h).trans e
theorem name_is {s : ByteArray} {i j : Nat} (n : Nat) (hl : (decide (i < s.size) && letterS (sbyte s i)) = true) (h : s.size ≤ n + i) (e : skipF identS s n i = j) : nameS s i = j := by
 unfold nameS; rw [if_pos hl]; exact skip_is n h e
theorem lex_word {num : ByteArray → Bool} {s : ByteArray} {i j k e : Nat} {t : ByteArray} {l : List Tk} (hj : skipS blankS s i = j) (hb : j < s.size) (hq : ¬ sbyte s j = 34) (hw : wordS num s j = some ((k : Int), t, e)) (he : j < e) (hl : lexS num s e = .inl l) : lexS num s i = .inl (⟨k, t, j⟩ :: l) := by
 rw [lexS_eq, hj, if_pos hb, if_neg hq, hw]
 simp only [if_pos he, hl]
theorem lex_end {num : ByteArray → Bool} {s : ByteArray} {i : Nat} (hj : skipS blankS s i = s.size) : lexS num s i = .inl [⟨0, ⟨#[]⟩, s.size⟩] := by
 rw [lexS_eq, hj, if_neg (Nat.lt_irrefl _)]
theorem word_name {num : ByteArray → Bool} {s : ByteArray} {i e : Nat} {t : ByteArray} (h : letterS (sbyte s i) = true) (hn : nameS s i = e) (hc : colonS s e = false) (ht : subT s i e = t) : wordS num s i = some (((1 : Nat) : Int), t, e) := by
 subst hn ht; simp [wordS, h, hc]
theorem word_num {num : ByteArray → Bool} {s : ByteArray} {i e : Nat} {t : ByteArray} (h : letterS (sbyte s i) = false) (h2 : digitS (sbyte s i) = true) (hn : skipS digitS s i = e) (ht : subT s i e = t) (hm : num t = true) : wordS num s i = some (((4 : Nat) : Int), t, e) := by
 subst hn ht; simp [wordS, h, h2, hm]
theorem word_sign {num : ByteArray → Bool} {s : ByteArray} {i e : Nat} {t : ByteArray} (h : letterS (sbyte s i) = false) (h2 : digitS (sbyte s i) = false) (h3 : ¬ sbyte s i = 39) (h4 : ¬ sbyte s i = 35) (h5 : ¬ sbyte s i = 58) (h6 : signS (sbyte s i) = true) (hn : signsS s i = e) (ht : subT s i e = t) : wordS num s i = some (((3 : Nat) : Int), t, e) := by
 subst hn ht; simp [wordS, h, h2, h3, h4, h5, h6]
theorem word_one {num : ByteArray → Bool} {s : ByteArray} {i k : Nat} {t : ByteArray} (h : letterS (sbyte s i) = false) (h2 : digitS (sbyte s i) = false) (h3 : ¬ sbyte s i = 39) (h4 : ¬ sbyte s i = 35) (h5 : ¬ sbyte s i = 58) (h6 : signS (sbyte s i) = false) (hp : placeS (sbyte s i) singlesT 0 = (k : Int)) (ht : subT s i (i + 1) = t) : wordS num s i = some (((8 + k : Nat) : Int), t, i + 1) := by
 subst ht; simp [wordS, h, h2, h3, h4, h5, h6, hp]
theorem word_set {num : ByteArray → Bool} {s : ByteArray} {i : Nat} {t : ByteArray} (h : sbyte s i = 58) (h2 : atS s (i + 1) = 61) (ht : subT s i (i + 2) = t) : wordS num s i = some (((7 : Nat) : Int), t, i + 2) := by
 subst ht
 unfold wordS
 rw [h, if_neg (by decide), if_neg (by decide), if_neg (by decide), if_neg (by decide), if_pos rfl, if_pos h2]; rfl
end Go.SL
namespace Go.SL
open Go.Proofs
set_option maxRecDepth 10000
def kn1 : ByteArray := ⟨#[51, 32, 102, 111, 111, 59, 32, 43, 32, 52]⟩
def kn2 : ByteArray := ⟨#[97, 32, 58, 61, 32, 51]⟩
theorem kg43 : signS (sbyte kn1 (7 : Nat)) = true := by rw [show sbyte kn1 (7 : Nat) = 43 by decide]; unfold signS; rw [placeS_L _ _ _ 0 rfl]; decide
theorem kg32 : signS (sbyte kn1 (8 : Nat)) = false := by rw [show sbyte kn1 (8 : Nat) = 32 by decide]; unfold signS; rw [placeS_L _ _ _ 0 rfl]; decide
theorem kg59 : signS (sbyte kn1 (5 : Nat)) = false := by rw [show sbyte kn1 (5 : Nat) = 59 by decide]; unfold signS; rw [placeS_L _ _ _ 0 rfl]; decide
theorem kgs : signsS kn1 7 = 8 := by
 unfold signsS
 rw [kg43, show sbyte kn1 (7 + 1 : Nat) = sbyte kn1 (8 : Nat) from rfl, kg32]
 decide
theorem kpl : placeS (sbyte kn1 (5 : Nat)) singlesT 0 = ((7 : Nat) : Int) := by
 rw [show sbyte kn1 (5 : Nat) = 59 by decide, placeS_L _ _ _ 0 rfl]; decide
theorem klex1 : lexS numS kn1 0 = .inl [⟨4, ⟨#[51]⟩, 0⟩, ⟨1, ⟨#[102, 111, 111]⟩, 2⟩, ⟨15, ⟨#[59]⟩, 5⟩, ⟨3, ⟨#[43]⟩, 7⟩, ⟨4, ⟨#[52]⟩, 9⟩, ⟨0, ⟨#[]⟩, 10⟩] :=
 lex_word (k := 4) (skip_is 20 (by decide) rfl) (by decide) (by decide) (word_num (by decide) (by decide) (skip_is 20 (by decide) rfl) rfl (by decide)) (by decide)
 (lex_word (k := 1) (skip_is 20 (by decide) rfl) (by decide) (by decide) (word_name (by decide) (name_is 20 (by decide) (by decide) rfl) (by decide) rfl) (by decide)
 (lex_word (k := 15) (skip_is 20 (by decide) rfl) (by decide) (by decide) (word_one (k := 7) (by decide) (by decide) (by decide) (by decide) (by decide) kg59 kpl rfl) (by decide)
 (lex_word (k := 3) (skip_is 20 (by decide) rfl) (by decide) (by decide) (word_sign (by decide) (by decide) (by decide) (by decide) (by decide) kg43 kgs rfl) (by decide)
 (lex_word (k := 4) (skip_is 20 (by decide) rfl) (by decide) (by decide) (word_num (by decide) (by decide) (skip_is 20 (by decide) rfl) rfl (by decide)) (by decide)
 (lex_end (skip_is 20 (by decide) rfl))))))
theorem klex2 : lexS numS kn2 0 = .inl [⟨1, ⟨#[97]⟩, 0⟩, ⟨7, ⟨#[58, 61]⟩, 2⟩, ⟨4, ⟨#[51]⟩, 5⟩, ⟨0, ⟨#[]⟩, 6⟩] :=
 lex_word (k := 1) (skip_is 20 (by decide) rfl) (by decide) (by decide) (word_name (by decide) (name_is 20 (by decide) (by decide) rfl) (by decide) rfl) (by decide)
 (lex_word (k := 7) (skip_is 20 (by decide) rfl) (by decide) (by decide) (word_set (by decide) (by decide) rfl) (by decide)
 (lex_word (k := 4) (skip_is 20 (by decide) rfl) (by decide) (by decide) (word_num (by decide) (by decide) (skip_is 20 (by decide) rfl) rfl (by decide)) (by decide)
 (lex_end (skip_is 20 (by decide) rfl))))
def km1 : Nd := .mk 8 ⟨#[]⟩ 2 0 [] [.mk 1 ⟨#[51]⟩ 0 0 [] [], .mk 9 ⟨#[102, 111, 111]⟩ 2 0 [] [], .mk 9 ⟨#[43]⟩ 7 0 [] [.mk 1 ⟨#[52]⟩ 9 0 [] []]]
def km2 : Nd := .mk 6 ⟨#[97]⟩ 0 0 [] [.mk 1 ⟨#[51]⟩ 5 0 [] []]
theorem kpar1 : parseD numS false kn1 = .ok (.mk 12 ⟨#[]⟩ 0 0 [] [km1]) [⟨0, ⟨#[]⟩, 10⟩] := by
 unfold parseD
 rw [if_neg (by decide), klex1]
 kernel_rfl
theorem kpar2 : parseD numS false kn2 = .ok (.mk 12 ⟨#[]⟩ 0 0 [] [km2]) [⟨0, ⟨#[]⟩, 6⟩] := by
 unfold parseD
 rw [if_neg (by decide), klex2]
 kernel_rfl
def kc1 : CM := ⟨[⟨0, 0, [(0, 0, 0), (11, 0, 0), (8, 0, 0), (12, 0, 0), (0, 1, 0), (8, 1, 1), (13, 0, 0)]⟩], [⟨#[51]⟩, ⟨#[52]⟩], [], [⟨#[102, 111, 111]⟩, ⟨#[43]⟩]⟩
theorem kcode1 : codeD numS [] false kn1 = .inl (⟨#[]⟩, kc1) := by
 unfold codeD
 rw [kpar1]
 kernel_rfl
theorem kcode2 : codeD numS [] false kn2 = .inr (0, 21) := by
 unfold codeD
 rw [kpar2]
 kernel_rfl
end Go.SL
namespace Go.SL
open Go.Proofs
set_option maxRecDepth 10000
abbrev strD (l : List ByteArray) : D := .sl l.isEmpty 1 (l.map .str)
theorem f22_ok (l : List ByteArray) (hl : l.length ≤ 1000000000) : DF Tryz.prog 22 [strD l, strD l] (.bool true) := by
 refine AF.start' 60 Tryz.func22 rfl rfl c22call c22ok fun Q hQ => ?_
 simp [c22c, c22t]
 refine ATT.loopG 60 c22l8.eq_1 (fun (i : Nat) => l.length - i) (fun (i : Nat) => i ≤ l.length) (fun (i : Nat) => [(0, .d (strD l)), (1, .d (strD l)), (5, .d (.int .i64 i))]) (fun (i : Nat) => []) (fun (i : Nat) => []) (0) (by (try dsimp only); exact Nat.zero_le _) (by simp <;> omega) (by simp) (by simp) ?_
 intro i u w hI ih
 try simp only at hI ih
 by_cases hi : i < l.length
 ·obtain ⟨y, hy⟩ : ∃ y, l[i]? = some y := ⟨_, List.getElem?_eq_getElem hi⟩
  have hyE : ∀ h, l[i]'h = y := fun h => by rw [List.getElem?_eq_getElem h] at hy; simpa using hy
  have hi' : (i : Int) < l.length := by omega
  have hne : l.isEmpty = false := by cases hu : l with | nil => rw [hu] at hi; simp at hi | cons _ _ => rfl
  have hne2 : ¬ l = [] := fun e => by rw [e] at hi; simp at hi
  have hII : inI ((i : Int) + 1) = true := inI_of (by omega) (by omega)
  simp [c22t, hi, hi', hyE, hII, hne]
  refine ih (i + 1) (by first | ((try dsimp only); omega) | (simp [hi, hi', hy, hyE, hII, hne, hne2] <;> omega)) (by (try dsimp only); exact hi) _ _ _ (by simp <;> omega) (by simp <;> omega) (by simp <;> omega)
 ·have hi' : ¬ (i : Int) < l.length := by omega
  simp [c22t, hi']
  refine ATT.fin' hQ Tryz.func22 c22res ?_
  simp
  all_goals (first | omega | exact ⟨_, rfl⟩ | skip)
set_option maxHeartbeats 2000000 in
theorem f9_ok (sel : ByteArray) (c : CM) (hz : szC c ≤ 100000000) : DF Tryz.prog 9 [.agg (cdR sel c), .agg (cdR sel c)] (.bool true) := by
 have hl1 : c.lits.length ≤ szC c := by unfold szC; omega
 have hl2 : c.names.length ≤ szC c := by unfold szC; omega
 have hl3 : c.sels.length ≤ szC c := by unfold szC; omega
 have hl4 : c.us.length ≤ szC c := by unfold szC; omega
 unfold cdR
 refine AF.start' 60 Tryz.func9 rfl rfl c9call c9ok fun Q hQ => ?_
 simp [c9c, c9t]
 refine ATT.callD Tryz.func9 60 (f22_ok c.lits (by omega)) (by simp) (by simp) (by simp) ?_
 simp
 refine ATT.callD Tryz.func9 60 (f22_ok c.names (by omega)) (by simp) (by simp) (by simp) ?_
 simp
 refine ATT.callD Tryz.func9 60 (f22_ok c.sels (by omega)) (by simp) (by simp) (by simp) ?_
 simp [c9t]
 refine ATT.loopG 60 c9l16.eq_1 (fun (i : Nat) => c.us.length - i) (fun (i : Nat) => i ≤ c.us.length) (fun (i : Nat) => [(2, .ptr 0 0), (3, .ptr 1 0), (5, .d (.int .i64 i))]) (fun (i : Nat) => [.cells [.d (.str sel), .d (.sl c.us.isEmpty 3 (c.us.map unR)), .d (.sl c.lits.isEmpty 1 (c.lits.map .str)), .d (.sl c.names.isEmpty 1 (c.names.map .str)), .d (.sl c.sels.isEmpty 1 (c.sels.map .str))] 31, .cells [.d (.str sel), .d (.sl c.us.isEmpty 3 (c.us.map unR)), .d (.sl c.lits.isEmpty 1 (c.lits.map .str)), .d (.sl c.names.isEmpty 1 (c.names.map .str)), .d (.sl c.sels.isEmpty 1 (c.sels.map .str))] 31]) (fun (i : Nat) => []) (0) (by (try dsimp only); exact Nat.zero_le _) (by simp <;> omega) (by simp) (by simp) ?_
 intro i u w hI ih
 try simp only at hI ih
 by_cases hi : i < c.us.length
 ·obtain ⟨x, hx⟩ : ∃ x, c.us[i]? = some x := ⟨_, List.getElem?_eq_getElem hi⟩
  have hxE : ∀ h, c.us[i]'h = x := fun h => by rw [List.getElem?_eq_getElem h] at hx; simpa using hx
  have hi' : (i : Int) < c.us.length := by omega
  have hne : c.us.isEmpty = false := by cases hu : c.us with | nil => rw [hu] at hi; simp at hi | cons _ _ => rfl
  have hnu2 : ¬ c.us = [] := fun e => by rw [e] at hi; simp at hi
  have hni : x.ins.length ≤ szC c := szC_at hx
  have hII : inI ((i : Int) + 1) = true := inI_of (by omega) (by omega)
  simp [c9t, hi, hi', hxE, unR, hne]
  refine ATT.loopG 60 c9l14.eq_1 (fun (k : Nat) => x.ins.length - k) (fun (k : Nat) => k ≤ x.ins.length) (fun (k : Nat) => [(2, .ptr 0 0), (3, .ptr 1 0), (5, .d (.int .i64 i)), (6, .ptr (u.length + 1 + 1) 0), (7, .ptr (u.length + 1 + 1 + 1) 0), (8, .d (.int .i64 k))]) (fun (k : Nat) => .cells [.d (.str sel), .d (.sl false 3 (c.us.map unR)), .d (.sl c.lits.isEmpty 1 (c.lits.map .str)), .d (.sl c.names.isEmpty 1 (c.names.map .str)), .d (.sl c.sels.isEmpty 1 (c.sels.map .str))] 31 :: .cells [.d (.str sel), .d (.sl false 3 (c.us.map unR)), .d (.sl c.lits.isEmpty 1 (c.lits.map .str)), .d (.sl c.names.isEmpty 1 (c.names.map .str)), .d (.sl c.sels.isEmpty 1 (c.sels.map .str))] 31 :: (u ++ [.cells [.d (.int .i64 x.a), .d (.int .i64 x.n), .d (.sl x.ins.isEmpty 3 (x.ins.map insD))] 41, .cells [.d (.int .i64 x.a), .d (.int .i64 x.n), .d (.sl x.ins.isEmpty 3 (x.ins.map insD))] 41])) (fun (k : Nat) => w) (0) (by (try dsimp only); exact Nat.zero_le _) (by simp <;> omega) (by simp) (by simp) ?_
  intro k u w hI ih
  try simp only at hI ih
  rename_i u0 w0 hI0 ih0
  by_cases hk : k < x.ins.length
  ·obtain ⟨y, hy⟩ : ∃ y, x.ins[k]? = some y := ⟨_, List.getElem?_eq_getElem hk⟩
   have hyE : ∀ h, x.ins[k]'h = y := fun h => by rw [List.getElem?_eq_getElem h] at hy; simpa using hy
   have hk' : (k : Int) < x.ins.length := by omega
   have hnk : x.ins.isEmpty = false := by cases hu : x.ins with | nil => rw [hu] at hk; simp at hk | cons _ _ => rfl
   have hnk2 : ¬ x.ins = [] := fun e => by rw [e] at hk; simp at hk
   have hIK : inI ((k : Int) + 1) = true := inI_of (by omega) (by omega)
   simp [c9t, hk, hk', hyE, hIK, hnk, insD]
   refine ih (k + 1) (by first | ((try dsimp only); omega) | (simp [hi, hi', hx, hxE, hk, hk', hy, hyE, hIK, unR, hne, hnk, insD, hnk2, hnu2] <;> omega)) (by (try dsimp only); exact hk) _ _ _ (by simp <;> omega) (by simp <;> omega) (by simp [hnk] <;> omega)
  ·have hk' : ¬ (k : Int) < x.ins.length := by omega
   simp [c9t, hk', hII]
   refine ih0 (i + 1) (by first | ((try dsimp only); omega) | (simp [hi, hi', hx, hxE, hk', hII, unR, hne, hnu2] <;> omega)) (by (try dsimp only); exact hi) _ _ _ (by simp <;> omega) (by simp <;> omega) (by simp [hne] <;> omega)
 ·have hi' : ¬ (i : Int) < c.us.length := by omega
  simp [c9t, hi']
  refine ATT.fin' hQ Tryz.func9 c9res ?_
  simp
  all_goals (first | omega | exact ⟨_, rfl⟩ | skip)
theorem DF.smA {P : Program} {f : FuncId} {d1 d2 d2' v : D} (h : DF P f [d1, d2'] v) (hs : Sm d2 d2') : DF P f [d1, d2] v :=
 ⟨h.1, fun κ w argv hr hv => h.2 κ w argv hr (by
  simp only [List.map_cons, List.map_nil, VL] at hv ⊢
  obtain ⟨a, r, e1, h1, b, r2, e2, h2, e3⟩ := hv
  exact ⟨a, r, e1, h1, b, r2, e2, by simp only [VR] at h2 ⊢; exact hs _ _ h2, e3⟩)⟩
theorem f11_ok : DF Tryz.prog 11 [] (.bool true) := by
 have hC1 := compile_ok hWhole kn1 (by decide) (sl := []) (by decide) (snl := true) (sz := 0) (fun _ => rfl) (fun h => absurd h (by decide))
 have hC2 := compile_ok hWhole kn2 (by decide) (sl := []) (by decide) (snl := true) (sz := 0) (fun _ => rfl) (fun h => absurd h (by decide))
 rw [kcode1] at hC1
 rw [kcode2] at hC2
 have hT := f10_ok ⟨#[]⟩ kc1 (by decide)
 have hS : DF Tryz.prog 9 [.agg (cdR ⟨#[]⟩ kc1), .agg [.str ⟨#[]⟩, .sl false 3 [.agg [.int .i64 0, .int .i64 0, .sl false 3 [.agg [.int .i64 0, .int .i64 0, .int .i64 0], .agg [.int .i64 11, .int .i64 0, .int .i64 0], .agg [.int .i64 8, .int .i64 0, .int .i64 0], .agg [.int .i64 12, .int .i64 0, .int .i64 0], .agg [.int .i64 0, .int .i64 1, .int .i64 0], .agg [.int .i64 8, .int .i64 1, .int .i64 1], .agg [.int .i64 13, .int .i64 0, .int .i64 0]]]], .sl false 1 [.str ⟨#[51]⟩, .str ⟨#[52]⟩], .sl true 0 [], .sl false 1 [.str ⟨#[102, 111, 111]⟩, .str ⟨#[43]⟩]]] (.bool true) :=
  (f9_ok ⟨#[]⟩ kc1 (by decide)).smA (.agg (.cons (.refl _) (.cons (.refl _) (.cons (.refl _) (.cons (.nil _ _) (.cons (.refl _) .nil))))))
 simp only [coV, selO, codeO, atO, errO, cdR, kn1, kn2, List.map_nil] at hC1 hC2 hT hS
 refine AF.start' 60 Tryz.func11 rfl rfl c11call c11ok fun Q hQ => ?_
 simp [c11c, c11t]
 refine ATT.callD Tryz.func11 60 (hC1) (by simp) (by simp) (by simp) ?_
 simp [c11t]
 refine ATT.callD Tryz.func11 6 hC2 (by simp) (by simp) (by simp) ?_
 simp [c11t]
 refine ATT.fz (by simp) ?_
 simp
 refine goes_sound 60 _ _ _ _ ?_
 simp
 refine ATT.callRD Tryz.func11 60 (hT) (by simp) (by simp) (by simp) ?_
 simp
 refine ATT.callRD Tryz.func11 60 (hS) (by simp) (by simp) (by simp) ?_
 simp
 refine ATT.fin' hQ Tryz.func11 c11res ?_
 simp
 all_goals (first | omega | exact ⟨_, rfl⟩ | skip)
end Go.SL
