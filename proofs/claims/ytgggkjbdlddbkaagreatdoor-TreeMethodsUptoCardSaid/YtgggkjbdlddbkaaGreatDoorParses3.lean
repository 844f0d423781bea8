/- TreeParses and TreeMethods: any source to be run, and any source of a method, is the tree, or is none at the place, that the document says, for every source of bulk at most 1048576. Part 4. -/
import Derived.Test.YtgggkjbdlddbkaaGreatDoorParses2
import Derived.Laws.Externs
import Derived.Lib.Bytealg
namespace Go.SL
open Go.Proofs
set_option maxRecDepth 10000
theorem f100_ok (l : List Nat) (nl : Bool) (sz : Nat) (h1 : nl = true → l = []) (h2 : nl = false → sz = 1) (hu : U32 l) (hb : l.length ≤ 1000000) : DE Tryz.prog 100 [.sl nl sz (wD l)] (Wd (wv l) l.length) := by
 refine AF.start' 60 Tryz.func100 rfl rfl c100call c100ok fun Q hQ => ?_
 simp [c100c, c100t]
 generalize hN : wv l = N at hQ
 refine ATT.loopG 60 c100l3.eq_1 (fun (k : List Nat) => k.length) (fun (k : List Nat) => (nl = true → k = []) ∧ U32 k ∧ wv k = N ∧ k.length ≤ l.length) (fun (k : List Nat) => [(0, .d (.sl nl sz (wD k)))]) (fun (k : List Nat) => []) (fun (k : List Nat) => []) (l) (by (try dsimp only); exact ⟨h1, hu, hN, Nat.le_refl _⟩) (by simp <;> omega) (by simp) (by simp) ?_
 intro k u w hI ih
 try simp only at hI ih
 obtain ⟨i1, i2, i3, i4⟩ := hI
 rcases List.eq_nil_or_concat k with e | ⟨q, x, e⟩
 ·subst e
  simp [c100t]
  refine ATT.fin' hQ Tryz.func100 c100res ?_
  exact ⟨by simp, _, rfl, nl, sz, [], rfl, fun _ => rfl, h2, Can.nil, i3, by simp⟩
 ·have e : k = q ++ [x] := by simpa using e
  subst e
  have hnl : nl = false := by cases nl <;> simp at i1 ⊢
  subst hnl
  have hsz := h2 rfl
  subst hsz
  have hget := wD_getE (l := q ++ [x]) (i := q.length) (x := x) (by simp)
  have htk : (wD (q ++ [x])).take q.length = wD q := by rw [wD_app]; simp
  have hl1 : q.length + 1 ≤ 1000000 := by simp at i4; omega
  have hR : inI ((q.length : Int)) = true := inI_of (by omega) (by omega)
  have hp : (0 : Int) < (q.length : Int) + 1 := by omega
  by_cases hx : x = 0
  ·subst hx
   simp [c100t, hget, htk, hR, hp, lget]
   refine ih (q) (by first | ((try dsimp only); omega) | (simp <;> omega)) (by (try dsimp only); exact ⟨by simp, i2.left, by rw [← i3, wv_app]; simp [wv], by simp at i4; omega⟩) _ _ _ (by simp <;> omega) (by simp <;> omega) (by simp <;> omega)
  ·have hx' : ¬ (x : Int) = 0 := by omega
   simp [c100t, hget, hR, hp, lget, hx]
   refine ATT.fin' hQ Tryz.func100 c100res ?_
   exact ⟨by simp, _, rfl, false, 1, q ++ [x], rfl, by simp, fun _ => rfl, ⟨i2, fun q' e => hx (by have := congrArg List.getLast? e; simpa using this)⟩, i3, by simpa using i4⟩
theorem f98_ok (m n : Nat) (ka kb : Nat) (va vb : D) (ha : Wd m ka va) (hb : Wd n kb vb) (hk : ka ≤ 100000 ∧ kb ≤ 100000) : DE Tryz.prog 98 [va, vb] (Wd (m + n) (max ka kb + 1)) := by
 obtain ⟨nla, sza, la, ea, a1, a2, a3, a4, a5⟩ := ha.words
 obtain ⟨nlb, szb, lb, eb, b1, b2, b3, b4, b5⟩ := hb.words
 subst ea eb
 by_cases hlt : la.length < lb.length
 ·have hlt' : (la.length : Int) < lb.length := by omega
  have hR0 : inI ((lb.length : Int) + 1) = true := inI_of (by omega) (by omega)
  have hR1 : (0 : Int) ≤ (lb.length : Int) + 1 := by omega
  have hR2 : ((lb.length : Int) + 1) * 4 ≤ 140737488355328 := by omega
  have hR3 : ((lb.length : Int) + 1).toNat = lb.length + 1 := by omega
  refine AF.start' 60 Tryz.func98 rfl rfl c98call c98ok fun Q hQ => ?_
  simp [c98c, c98t, hR0, hR1, hR2, hR3, VW_zero, hlt']
  refine ATT.loopG 60 c98l14.eq_1 (fun ((o, r, c) : List Nat × Nat × Nat) => r) (fun ((o, r, c) : List Nat × Nat × Nat) => U32 o ∧ c ≤ 1 ∧ o.length + r = lb.length ∧ wv o + 4294967296 ^ o.length * c = wv (lb.take o.length) + wv (la.take o.length)) (fun ((o, r, c) : List Nat × Nat × Nat) => [(0, .d (.sl nlb szb (wD lb))), (1, .d (.sl nla sza (wD la))), (5, .vs 0 (o.length + (r + 1)) 0 (o.length + (r + 1))), (6, .d (.int .u64 c)), (20, .d (.int .i64 (o.length + r : Nat))), (21, .d (.int .i64 o.length))]) (fun ((o, r, c) : List Nat × Nat × Nat) => []) (fun ((o, r, c) : List Nat × Nat × Nat) => [some ⟨false, 1, 0, VW o (r + 1), 136⟩]) (([], lb.length, 0)) (by (try dsimp only); exact ⟨U32.nil, by simp, by simp, by simp [wv]⟩) (by simp <;> omega) (by simp) (by simp) ?_
  intro ⟨o, r, c⟩ u w hI ih
  try simp only at hI ih
  obtain ⟨i1, i2, i3, i4⟩ := hI
  cases r with
  | zero =>
   have hlo : ¬ (o.length : Int) < o.length := by omega
   have hci : (c : Int) < 4294967296 := by omega
   have hW3 : IntKind.u32.wrap (c : Int) = (c : Int) := by rw [wrap32i]; omega
   have hRo : inR (o.length : Int) (o.length + (0 + 1)) = true := inR_of (by omega) (by omega)
   have hRp : inR (o.length : Int) (o.length + 1) = true := inR_of (by omega) (by omega)
   have hset := VW_set o 0 c
   have hok := f100_ok (o ++ [c]) false 1 (by simp) (fun _ => rfl) (i1.app (by intro z hz; simp at hz; omega)) (by simp; omega)
   have hval : wv (o ++ [c]) = m + n := by
    have e1 : lb.take o.length = lb := List.take_of_length_le (by omega)
    have e2 : la.take o.length = la := List.take_of_length_le (by omega)
    rw [wv_app]
    simp only [wv, Nat.mul_zero, Nat.add_zero]
    rw [i4, e1, e2]; omega
   have i3' : o.length = lb.length := by omega
   have i3i : (lb.length : Int) = o.length := by omega
   have htk : List.take (o.length + 1) ((wD (o ++ [c])).map V.d) = (wD (o ++ [c])).map V.d := List.take_of_length_le (by simp)
   simp [c98t, hlo, hW3, hRo, hset, VW_done, i3i]
   refine ATT.fz (by simp) ?_
   simp [htk]
   refine ATT.callE Tryz.func98 60 hok (by simp) (by simp) (by simp) fun v hv => ?_
   simp
   refine ATT.fin' hQ Tryz.func98 c98res ?_
   rw [hval] at hv
   exact ⟨by simp, _, rfl, hv.mono (by simp; omega)⟩
  | succ r =>
   have hlo : o.length < lb.length := by omega
   obtain ⟨x, hx⟩ : ∃ x, lb[o.length]? = some x := ⟨_, List.getElem?_eq_getElem hlo⟩
   have hx32 := b3 x (List.mem_of_getElem? hx)
   have hna : nlb = false := by cases nlb with | false => rfl | true => (have := b1 rfl; subst this; simp at hlo)
   subst hna
   have hsa := b2 rfl
   subst hsa
   have hlt1 : (o.length : Int) < (o.length : Int) + ((r : Int) + 1) := by omega
   by_cases hbl : o.length < la.length
   ·obtain ⟨y, hy⟩ : ∃ y, la[o.length]? = some y := ⟨_, List.getElem?_eq_getElem hbl⟩
    have hy32 := a3 y (List.mem_of_getElem? hy)
    have hnb : nla = false := by cases nla with | false => rfl | true => (have := a1 rfl; subst this; simp at hbl)
    subst hnb
    have hsb := a2 rfl
    subst hsb
    have hgy := wD_getE hy
    have hgy2 := wD_get hy
    have hWy : IntKind.u64.wrap (y : Int) = y := wrap64i (by omega) (by omega)
    have htk := wv_take hy
    have hL := (List.getElem?_eq_some_iff.1 hx).1
    have hW1 : IntKind.u64.wrap ((c : Int) + (x : Int)) = (c : Int) + (x : Int) := wrap64i (by omega) (by omega)
    have hW2 : IntKind.u64.wrap ((c : Int) + (x : Int) + (y : Int)) = (c : Int) + (x : Int) + (y : Int) := wrap64i (by omega) (by omega)
    have hW3 : IntKind.u32.wrap ((c : Int) + (x : Int) + (y : Int)) = ((c : Int) + (x : Int) + (y : Int)) % 4294967296 := wrap32i
    have hW4 : ((c : Int) + (x : Int) + (y : Int)).fdiv 4294967296 = ((c : Int) + (x : Int) + (y : Int)) / 4294967296 := Int.fdiv_eq_ediv_of_nonneg _ (by decide)
    have hI1 : inI ((o.length : Int) + 1) = true := inI_of (by omega) (by omega)
    have hRo : inR (o.length : Int) (o.length + (r + 1 + 1)) = true := inR_of (by omega) (by omega)
    have hset : (VW o (r + 1 + 1)).set o.length (.d (.int .u32 (((c : Int) + (x : Int) + (y : Int)) % 4294967296))) = VW (o ++ [(c + x + y) % 4294967296]) (r + 1) := by have := VW_set o (r + 1) ((c + x + y) % 4294967296); simpa using this
    have hgx := wD_getE hx
    have hgx2 := wD_get hx
    have hWx : IntKind.u64.wrap (x : Int) = x := wrap64i (by omega) (by omega)
    simp [c98t, hW1, hW2, hW3, hW4, hI1, hRo, hset, hgx2, hWx, IntKind.bits, hgy, hWy, hbl, hlt1]
    refine ih (o ++ [(c + x + y) % 4294967296], r, (c + x + y) / 4294967296) (by first | ((try dsimp only); omega) | (simp [hW1, hW2, hW3, hW4, hI1, hRo, hset, hgx, hgx2, hWx, IntKind.bits, hgy, hgy2, hWy, hbl, hlt1] <;> omega)) (by (try dsimp only); exact ⟨i1.app (by intro z hz; simp at hz; omega), by omega, by simp; omega, by simp only [List.length_append, List.length_singleton]; rw [wv_take hx, htk, wv_app, Nat.pow_succ]; simp only [wv]; have := Nat.div_add_mod (c + x + y) 4294967296; exact plus_step i4 this⟩) _ _ _ (by simp <;> omega) (by simp <;> omega) (by simp <;> omega)
   ·have htk : wv (la.take (o.length + 1)) = wv (la.take o.length) + 4294967296 ^ o.length * 0 := by rw [List.take_of_length_le (by omega), List.take_of_length_le (by omega)]; simp
    have hL := (List.getElem?_eq_some_iff.1 hx).1
    have hW1 : IntKind.u64.wrap ((c : Int) + (x : Int)) = (c : Int) + (x : Int) := wrap64i (by omega) (by omega)
    have hW2 : IntKind.u64.wrap ((c : Int) + (x : Int) + (0 : Int)) = (c : Int) + (x : Int) + (0 : Int) := wrap64i (by omega) (by omega)
    have hW3 : IntKind.u32.wrap ((c : Int) + (x : Int)) = ((c : Int) + (x : Int)) % 4294967296 := wrap32i
    have hW4 : ((c : Int) + (x : Int)).fdiv 4294967296 = ((c : Int) + (x : Int)) / 4294967296 := Int.fdiv_eq_ediv_of_nonneg _ (by decide)
    have hI1 : inI ((o.length : Int) + 1) = true := inI_of (by omega) (by omega)
    have hRo : inR (o.length : Int) (o.length + (r + 1 + 1)) = true := inR_of (by omega) (by omega)
    have hset : (VW o (r + 1 + 1)).set o.length (.d (.int .u32 (((c : Int) + (x : Int)) % 4294967296))) = VW (o ++ [(c + x + 0) % 4294967296]) (r + 1) := by have := VW_set o (r + 1) ((c + x + 0) % 4294967296); simpa using this
    have hgx := wD_getE hx
    have hgx2 := wD_get hx
    have hWx : IntKind.u64.wrap (x : Int) = x := wrap64i (by omega) (by omega)
    simp [c98t, hW1, hW3, hW4, hI1, hRo, hset, hgx2, hWx, IntKind.bits, hbl, hlt1]
    refine ih (o ++ [(c + x + 0) % 4294967296], r, (c + x + 0) / 4294967296) (by first | ((try dsimp only); omega) | (simp [hW1, hW2, hW3, hW4, hI1, hRo, hset, hgx, hgx2, hWx, IntKind.bits, hbl, hlt1] <;> omega)) (by (try dsimp only); exact ⟨i1.app (by intro z hz; simp at hz; omega), by omega, by simp; omega, by simp only [List.length_append, List.length_singleton]; rw [wv_take hx, htk, wv_app, Nat.pow_succ]; simp only [wv]; have := Nat.div_add_mod (c + x + 0) 4294967296; exact plus_step i4 this⟩) _ _ _ (by simp <;> omega) (by simp <;> omega) (by simp <;> omega)
 ·have hlt' : ¬ (la.length : Int) < lb.length := by omega
  have hR0 : inI ((la.length : Int) + 1) = true := inI_of (by omega) (by omega)
  have hR1 : (0 : Int) ≤ (la.length : Int) + 1 := by omega
  have hR2 : ((la.length : Int) + 1) * 4 ≤ 140737488355328 := by omega
  have hR3 : ((la.length : Int) + 1).toNat = la.length + 1 := by omega
  refine AF.start' 60 Tryz.func98 rfl rfl c98call c98ok fun Q hQ => ?_
  simp [c98c, c98t, hR0, hR1, hR2, hR3, VW_zero, hlt']
  refine ATT.loopG 60 c98l14.eq_1 (fun ((o, r, c) : List Nat × Nat × Nat) => r) (fun ((o, r, c) : List Nat × Nat × Nat) => U32 o ∧ c ≤ 1 ∧ o.length + r = la.length ∧ wv o + 4294967296 ^ o.length * c = wv (la.take o.length) + wv (lb.take o.length)) (fun ((o, r, c) : List Nat × Nat × Nat) => [(0, .d (.sl nla sza (wD la))), (1, .d (.sl nlb szb (wD lb))), (5, .vs 0 (o.length + (r + 1)) 0 (o.length + (r + 1))), (6, .d (.int .u64 c)), (20, .d (.int .i64 (o.length + r : Nat))), (21, .d (.int .i64 o.length))]) (fun ((o, r, c) : List Nat × Nat × Nat) => []) (fun ((o, r, c) : List Nat × Nat × Nat) => [some ⟨false, 1, 0, VW o (r + 1), 136⟩]) (([], la.length, 0)) (by (try dsimp only); exact ⟨U32.nil, by simp, by simp, by simp [wv]⟩) (by simp <;> omega) (by simp) (by simp) ?_
  intro ⟨o, r, c⟩ u w hI ih
  try simp only at hI ih
  obtain ⟨i1, i2, i3, i4⟩ := hI
  cases r with
  | zero =>
   have hlo : ¬ (o.length : Int) < o.length := by omega
   have hci : (c : Int) < 4294967296 := by omega
   have hW3 : IntKind.u32.wrap (c : Int) = (c : Int) := by rw [wrap32i]; omega
   have hRo : inR (o.length : Int) (o.length + (0 + 1)) = true := inR_of (by omega) (by omega)
   have hRp : inR (o.length : Int) (o.length + 1) = true := inR_of (by omega) (by omega)
   have hset := VW_set o 0 c
   have hok := f100_ok (o ++ [c]) false 1 (by simp) (fun _ => rfl) (i1.app (by intro z hz; simp at hz; omega)) (by simp; omega)
   have hval : wv (o ++ [c]) = m + n := by
    have e1 : la.take o.length = la := List.take_of_length_le (by omega)
    have e2 : lb.take o.length = lb := List.take_of_length_le (by omega)
    rw [wv_app]
    simp only [wv, Nat.mul_zero, Nat.add_zero]
    rw [i4, e1, e2]; omega
   have i3' : o.length = la.length := by omega
   have i3i : (la.length : Int) = o.length := by omega
   have htk : List.take (o.length + 1) ((wD (o ++ [c])).map V.d) = (wD (o ++ [c])).map V.d := List.take_of_length_le (by simp)
   simp [c98t, hlo, hW3, hRo, hset, VW_done, i3i]
   refine ATT.fz (by simp) ?_
   simp [htk]
   refine ATT.callE Tryz.func98 60 hok (by simp) (by simp) (by simp) fun v hv => ?_
   simp
   refine ATT.fin' hQ Tryz.func98 c98res ?_
   rw [hval] at hv
   exact ⟨by simp, _, rfl, hv.mono (by simp; omega)⟩
  | succ r =>
   have hlo : o.length < la.length := by omega
   obtain ⟨x, hx⟩ : ∃ x, la[o.length]? = some x := ⟨_, List.getElem?_eq_getElem hlo⟩
   have hx32 := a3 x (List.mem_of_getElem? hx)
   have hna : nla = false := by cases nla with | false => rfl | true => (have := a1 rfl; subst this; simp at hlo)
   subst hna
   have hsa := a2 rfl
   subst hsa
   have hlt1 : (o.length : Int) < (o.length : Int) + ((r : Int) + 1) := by omega
   by_cases hbl : o.length < lb.length
   ·obtain ⟨y, hy⟩ : ∃ y, lb[o.length]? = some y := ⟨_, List.getElem?_eq_getElem hbl⟩
    have hy32 := b3 y (List.mem_of_getElem? hy)
    have hnb : nlb = false := by cases nlb with | false => rfl | true => (have := b1 rfl; subst this; simp at hbl)
    subst hnb
    have hsb := b2 rfl
    subst hsb
    have hgy := wD_getE hy
    have hgy2 := wD_get hy
    have hWy : IntKind.u64.wrap (y : Int) = y := wrap64i (by omega) (by omega)
    have htk := wv_take hy
    have hL := (List.getElem?_eq_some_iff.1 hx).1
    have hW1 : IntKind.u64.wrap ((c : Int) + (x : Int)) = (c : Int) + (x : Int) := wrap64i (by omega) (by omega)
    have hW2 : IntKind.u64.wrap ((c : Int) + (x : Int) + (y : Int)) = (c : Int) + (x : Int) + (y : Int) := wrap64i (by omega) (by omega)
    have hW3 : IntKind.u32.wrap ((c : Int) + (x : Int) + (y : Int)) = ((c : Int) + (x : Int) + (y : Int)) % 4294967296 := wrap32i
    have hW4 : ((c : Int) + (x : Int) + (y : Int)).fdiv 4294967296 = ((c : Int) + (x : Int) + (y : Int)) / 4294967296 := Int.fdiv_eq_ediv_of_nonneg _ (by decide)
    have hI1 : inI ((o.length : Int) + 1) = true := inI_of (by omega) (by omega)
    have hRo : inR (o.length : Int) (o.length + (r + 1 + 1)) = true := inR_of (by omega) (by omega)
    have hset : (VW o (r + 1 + 1)).set o.length (.d (.int .u32 (((c : Int) + (x : Int) + (y : Int)) % 4294967296))) = VW (o ++ [(c + x + y) % 4294967296]) (r + 1) := by have := VW_set o (r + 1) ((c + x + y) % 4294967296); simpa using this
    have hgx := wD_getE hx
    have hgx2 := wD_get hx
    have hWx : IntKind.u64.wrap (x : Int) = x := wrap64i (by omega) (by omega)
    simp [c98t, hW1, hW2, hW3, hW4, hI1, hRo, hset, hgx2, hWx, IntKind.bits, hgy, hWy, hbl, hlt1]
    refine ih (o ++ [(c + x + y) % 4294967296], r, (c + x + y) / 4294967296) (by first | ((try dsimp only); omega) | (simp [hW1, hW2, hW3, hW4, hI1, hRo, hset, hgx, hgx2, hWx, IntKind.bits, hgy, hgy2, hWy, hbl, hlt1] <;> omega)) (by (try dsimp only); exact ⟨i1.app (by intro z hz; simp at hz; omega), by omega, by simp; omega, by simp only [List.length_append, List.length_singleton]; rw [wv_take hx, htk, wv_app, Nat.pow_succ]; simp only [wv]; have := Nat.div_add_mod (c + x + y) 4294967296; exact plus_step i4 this⟩) _ _ _ (by simp <;> omega) (by simp <;> omega) (by simp <;> omega)
   ·have htk : wv (lb.take (o.length + 1)) = wv (lb.take o.length) + 4294967296 ^ o.length * 0 := by rw [List.take_of_length_le (by omega), List.take_of_length_le (by omega)]; simp
    have hL := (List.getElem?_eq_some_iff.1 hx).1
    have hW1 : IntKind.u64.wrap ((c : Int) + (x : Int)) = (c : Int) + (x : Int) := wrap64i (by omega) (by omega)
    have hW2 : IntKind.u64.wrap ((c : Int) + (x : Int) + (0 : Int)) = (c : Int) + (x : Int) + (0 : Int) := wrap64i (by omega) (by omega)
    have hW3 : IntKind.u32.wrap ((c : Int) + (x : Int)) = ((c : Int) + (x : Int)) % 4294967296 := wrap32i
    have hW4 : ((c : Int) + (x : Int)).fdiv 4294967296 = ((c : Int) + (x : Int)) / 4294967296 := Int.fdiv_eq_ediv_of_nonneg _ (by decide)
    have hI1 : inI ((o.length : Int) + 1) = true := inI_of (by omega) (by omega)
    have hRo : inR (o.length : Int) (o.length + (r + 1 + 1)) = true := inR_of (by omega) (by omega)
    have hset : (VW o (r + 1 + 1)).set o.length (.d (.int .u32 (((c : Int) + (x : Int)) % 4294967296))) = VW (o ++ [(c + x + 0) % 4294967296]) (r + 1) := by have := VW_set o (r + 1) ((c + x + 0) % 4294967296); simpa using this
    have hgx := wD_getE hx
    have hgx2 := wD_get hx
    have hWx : IntKind.u64.wrap (x : Int) = x := wrap64i (by omega) (by omega)
    simp [c98t, hW1, hW3, hW4, hI1, hRo, hset, hgx2, hWx, IntKind.bits, hbl, hlt1]
    refine ih (o ++ [(c + x + 0) % 4294967296], r, (c + x + 0) / 4294967296) (by first | ((try dsimp only); omega) | (simp [hW1, hW2, hW3, hW4, hI1, hRo, hset, hgx, hgx2, hWx, IntKind.bits, hbl, hlt1] <;> omega)) (by (try dsimp only); exact ⟨i1.app (by intro z hz; simp at hz; omega), by omega, by simp; omega, by simp only [List.length_append, List.length_singleton]; rw [wv_take hx, htk, wv_app, Nat.pow_succ]; simp only [wv]; have := Nat.div_add_mod (c + x + 0) 4294967296; exact plus_step i4 this⟩) _ _ _ (by simp <;> omega) (by simp <;> omega) (by simp <;> omega)
set_option maxHeartbeats 1000000 in
theorem f99_ok (m n : Nat) (ka kb : Nat) (va vb : D) (ha : Wd m ka va) (hb : Wd n kb vb) (hk : ka ≤ 100000 ∧ kb ≤ 100000) : DE Tryz.prog 99 [va, vb] (Wd (m * n) (ka + kb)) := by
 obtain ⟨nla, sza, la, ea, a1, a2, a3, a4, a5⟩ := ha.words
 obtain ⟨nlb, szb, lb, eb, b1, b2, b3, b4, b5⟩ := hb.words
 subst ea eb
 have hR0 : inI ((la.length : Int) + (lb.length : Int)) = true := inI_of (by omega) (by omega)
 have hR1 : (0 : Int) ≤ (la.length : Int) + (lb.length : Int) := by omega
 have hR2 : ((la.length : Int) + (lb.length : Int)) * 4 ≤ 140737488355328 := by omega
 have hR3 : ((la.length : Int) + (lb.length : Int)).toNat = la.length + lb.length := by omega
 refine AF.start' 60 Tryz.func99 rfl rfl c99call c99ok fun Q hQ => ?_
 simp [c99c, c99t, hR0, hR1, hR2, hR3, wD_rep]
 refine ATT.loopG 60 c99l16.eq_1 (fun ((i, o) : Nat × List Nat) => la.length - i) (fun ((i, o) : Nat × List Nat) => i ≤ la.length ∧ o.length = la.length + lb.length ∧ U32 o ∧ wv o = wv (la.take i) * wv lb ∧ (∀ k, i + lb.length ≤ k → k < o.length → o[k]? = some 0)) (fun ((i, o) : Nat × List Nat) => [(1, .d (.sl nlb szb (wD lb))), (5, .vs 0 (la.length + lb.length) 0 (la.length + lb.length)), (17, .d (.sl nla sza (wD la))), (18, .d (.int .i64 la.length)), (19, .d (.int .i64 i))]) (fun ((i, o) : Nat × List Nat) => []) (fun ((i, o) : Nat × List Nat) => [some ⟨false, 1, 0, (wD o).map V.d, 136⟩]) ((0, List.replicate (la.length + lb.length) 0)) (by (try dsimp only); exact ⟨Nat.zero_le _, by simp, by intro z hz; simp at hz; omega, by simp [wv_rep, wv], by intro k _ hk; rw [List.getElem?_replicate, if_pos (by simpa using hk)]⟩) (by simp <;> omega) (by simp) (by simp) ?_
 intro ⟨i, o⟩ u w hI ih
 try simp only at hI ih
 obtain ⟨i1, i2, i3, i4, i5⟩ := hI
 have ihO := ih
 by_cases hil : i < la.length
 ·obtain ⟨x, hx⟩ : ∃ x, la[i]? = some x := ⟨_, List.getElem?_eq_getElem hil⟩
  have hx32 := a3.get hx
  have hna : nla = false := by cases nla with | false => rfl | true => (have := a1 rfl; subst this; simp at hil)
  subst hna
  have hsa := a2 rfl
  subst hsa
  have hgx := wD_get hx
  have hgx2 := wD_getE hx
  have hili : (i : Int) < la.length := by omega
  simp [c99t, hgx, hili]
  generalize hN : wv (la.take i) * wv lb = N0 at i4
  refine ATT.loopG 60 c99l13.eq_1 (fun ((j, c, p) : Nat × Nat × List Nat) => lb.length - j) (fun ((j, c, p) : Nat × Nat × List Nat) => j ≤ lb.length ∧ c < 4294967296 ∧ p.length = la.length + lb.length ∧ U32 p ∧ wv p + 4294967296 ^ i * 4294967296 ^ j * c = N0 + 4294967296 ^ i * x * wv (lb.take j) ∧ (∀ k, i + lb.length ≤ k → k < p.length → p[k]? = some 0)) (fun ((j, c, p) : Nat × Nat × List Nat) => [(1, .d (.sl nlb szb (wD lb))), (5, .vs 0 (la.length + lb.length) 0 (la.length + lb.length)), (6, .d (.int .i64 i)), (7, .d (.int .u32 x)), (8, .d (.int .u64 c)), (17, .d (.sl false 1 (wD la))), (18, .d (.int .i64 la.length)), (19, .d (.int .i64 i)), (24, .d (.sl nlb szb (wD lb))), (25, .d (.int .i64 lb.length)), (26, .d (.int .i64 j))]) (fun ((j, c, p) : Nat × Nat × List Nat) => []) (fun ((j, c, p) : Nat × Nat × List Nat) => [some ⟨false, 1, 0, (wD p).map V.d, 136⟩]) ((0, 0, o)) (by (try dsimp only); exact ⟨Nat.zero_le _, by decide, i2, i3, by simp [wv]; exact i4, i5⟩) (by simp <;> omega) (by simp) (by simp) ?_
  intro ⟨j, c, p⟩ u w hI ih
  try simp only at hI ih
  obtain ⟨j1, j2, j3, j4, j5, j6⟩ := hI
  by_cases hjl : j < lb.length
  ·obtain ⟨y, hy⟩ : ∃ y, lb[j]? = some y := ⟨_, List.getElem?_eq_getElem hjl⟩
   obtain ⟨z, hz⟩ : ∃ z, p[i + j]? = some z := ⟨_, List.getElem?_eq_getElem (by omega)⟩
   have hy32 := b3.get hy
   have hz32 := j4.get hz
   have hnb : nlb = false := by cases nlb with | false => rfl | true => (have := b1 rfl; subst this; simp at hjl)
   subst hnb
   have hsb := b2 rfl
   subst hsb
   have hgy := wD_get hy
   have hgy2 := wD_getE hy
   have hgz := wD_get hz
   have hgz2 := wD_getE hz
   have hjli : (j : Int) < lb.length := by omega
   have hp := Nat.mul_le_mul (show x ≤ 4294967295 by omega) (show y ≤ 4294967295 by omega)
   have hpi : (x : Int) * (y : Int) = ((x * y : Nat) : Int) := by simp
   generalize hP : x * y = P at hp hpi
   have hW1 : IntKind.u64.wrap (P : Int) = (P : Int) := wrap64i (by omega) (by omega)
   have hW2 : IntKind.u64.wrap ((P : Int) + (z : Int)) = (P : Int) + (z : Int) := wrap64i (by omega) (by omega)
   have hW3 : IntKind.u64.wrap ((c : Int) + ((P : Int) + (z : Int))) = (c : Int) + ((P : Int) + (z : Int)) := wrap64i (by omega) (by omega)
   have hW4 : IntKind.u32.wrap ((c : Int) + ((P : Int) + (z : Int))) = ((c : Int) + ((P : Int) + (z : Int))) % 4294967296 := wrap32i
   have hW5 : ((c : Int) + ((P : Int) + (z : Int))).fdiv 4294967296 = ((c : Int) + ((P : Int) + (z : Int))) / 4294967296 := Int.fdiv_eq_ediv_of_nonneg _ (by decide)
   have hWx : IntKind.u64.wrap (x : Int) = x := wrap64i (by omega) (by omega)
   have hWy : IntKind.u64.wrap (y : Int) = y := wrap64i (by omega) (by omega)
   have hWz : IntKind.u64.wrap (z : Int) = z := wrap64i (by omega) (by omega)
   have hIij : inI ((i : Int) + (j : Int)) = true := inI_of (by omega) (by omega)
   have hIj : inI ((j : Int) + 1) = true := inI_of (by omega) (by omega)
   have hij : ((i : Int) + (j : Int)).toNat = i + j := by omega
   have hRij : inR ((i : Int) + (j : Int)) (la.length + lb.length) = true := inR_of (by omega) (by omega)
   have hset : ((wD p).map V.d).set (i + j) (.d (.int .u32 (((c : Int) + ((P : Int) + (z : Int))) % 4294967296))) = (wD (p.set (i + j) ((c + (P + z)) % 4294967296))).map V.d := by have := wD_set p (i + j) ((c + (P + z)) % 4294967296); simpa using this
   simp [c99t, hgy, hgz, hjli, hpi, hW1, hW2, hW3, hW4, hW5, hWx, hWy, hWz, hIij, hIj, hij, hRij, hset, j3, IntKind.bits]
   have hd : 4294967296 * ((c + (P + z)) / 4294967296) + (c + (P + z)) % 4294967296 = c + (x * y + z) := by rw [hP]; exact Nat.div_add_mod _ _
   have h2 := wv_set ((c + (P + z)) % 4294967296) hz
   rw [Nat.pow_add] at h2
   refine ih (j + 1, (c + (P + z)) / 4294967296, p.set (i + j) ((c + (P + z)) % 4294967296)) (by first | ((try dsimp only); omega) | (simp [hgy, hgy2, hgz, hgz2, hjli, hpi, hW1, hW2, hW3, hW4, hW5, hWx, hWy, hWz, hIij, hIj, hij, hRij, hset, j3, IntKind.bits] <;> omega)) (by (try dsimp only); exact ⟨by omega, by omega, by simp; exact j3, j4.set (by omega), by rw [wv_take hy, Nat.pow_succ]; exact times_step j5 h2 hd, by intro k h1 h2; rw [List.getElem?_set_ne (by omega)]; exact j6 k h1 (by simpa using h2)⟩) _ _ _ (by simp <;> omega) (by simp <;> omega) (by simp <;> omega)
  ·have hje : j = lb.length := by omega
   subst hje
   have hz : p[i + lb.length]? = some 0 := j6 _ (Nat.le_refl _) (by omega)
   have hW : IntKind.u32.wrap (c : Int) = (c : Int) := by rw [wrap32i]; omega
   have hIij : inI ((i : Int) + (lb.length : Int)) = true := inI_of (by omega) (by omega)
   have hIi : inI ((i : Int) + 1) = true := inI_of (by omega) (by omega)
   have hij : ((i : Int) + (lb.length : Int)).toNat = i + lb.length := by omega
   have hRij : inR ((i : Int) + (lb.length : Int)) (la.length + lb.length) = true := inR_of (by omega) (by omega)
   have hset := wD_set p (i + lb.length) c
   have hlt : i + lb.length < la.length + lb.length := by omega
   have h2 := wv_set c hz
   rw [Nat.pow_add, Nat.mul_zero, Nat.add_zero] at h2
   rw [List.take_length] at j5
   simp [c99t, hW, hIij, hIi, hij, hRij, hset, j3, hlt]
   refine ihO (i + 1, p.set (i + lb.length) c) (by first | ((try dsimp only); omega) | (simp [hW, hIij, hIi, hij, hRij, hset, j3, hlt] <;> omega)) (by (try dsimp only); exact ⟨by omega, by simp; exact j3, j4.set j2, by rw [wv_take hx, Nat.add_mul, hN, h2, j5], by intro k h1 h2; rw [List.getElem?_set_ne (by omega)]; exact j6 k (by omega) (by simpa using h2)⟩) _ _ _ (by simp <;> omega) (by simp <;> omega) (by simp <;> omega)
 ·have hie : i = la.length := by omega
  subst hie
  have hok := f100_ok o false 1 (by simp) (fun _ => rfl) i3 (by omega)
  rw [List.take_length, a4, b4] at i4
  have htk : List.take (la.length + lb.length) ((wD o).map V.d) = (wD o).map V.d := List.take_of_length_le (by simp; omega)
  simp [c99t]
  refine ATT.fz (by simp) ?_
  simp [i2, htk]
  refine ATT.callE Tryz.func99 60 hok (by simp) (by simp) (by simp) fun v hv => ?_
  simp
  refine ATT.fin' hQ Tryz.func99 c99res ?_
  rw [i4] at hv
  exact ⟨by simp, _, rfl, hv.mono (by omega)⟩
end Go.SL
namespace Go.SL
open Go.Proofs
set_option maxRecDepth 10000
theorem f146_ok (nl : Bool) (sz : Nat) (xs : List D) (h1 : nl = true → xs = []) (h2 : nl = false → sz = 1) (hb : xs.length ≤ 1000000000) : DE Tryz.prog 146 [.sl nl sz xs] fun v => ∃ sz', v = .sl nl sz' xs ∧ (nl = false → sz' = 1) := by
 cases nl with
 | true =>
  have e := h1 rfl
  subst e
  refine AF.start' 60 Tryz.func146 rfl rfl c146call c146ok fun Q hQ => ?_
  simp [c146c, c146t]
  refine ATT.fin' hQ Tryz.func146 c146res ?_
  exact ⟨by simp, _, rfl, 0, rfl, by simp⟩
 | false =>
  have e := h2 rfl
  subst e
  have hl : xs.length ≤ 140737488355328 := by omega
  refine AF.start' 60 Tryz.func146 rfl rfl c146call c146ok fun Q hQ => ?_
  simp [c146c, c146t, hl]
  refine ATT.finz hQ Tryz.func146 c146res (by first | exact .inl rfl | exact .inr ⟨_, rfl⟩) ?_
  simp
  all_goals (first | omega | exact ⟨_, rfl⟩ | skip)
theorem f145_ok (nl : Bool) (sz : Nat) (xs : List D) : VF Tryz.prog 145 [.d (.sl nl sz xs)] [] [] (.fn (.func 154) [] [.ptr 0 0]) [.cells [.d (.sl nl sz xs)] 134] [] := by
 refine AF.start' 60 Tryz.func145 rfl rfl c145call c145ok fun Q hQ => ?_
 simp [c145c, c145t]
 refine ATT.fin' hQ Tryz.func145 c145res ?_
 simp
 all_goals (first | omega | exact ⟨_, rfl⟩ | skip)
set_option maxHeartbeats 1000000 in
theorem f135_ok (m k : Nat) (va : D) (ha : Wd m k va) (hk : k ≤ 100000) : DE Tryz.prog 135 [va] (Bd m (4 * k)) := by
 obtain ⟨nla, sza, la, ea, a1, a2, a3, a4, a5⟩ := ha.words
 subst ea
 have hT := f100_ok la nla sza a1 a2 a3 (by omega)
 rw [a4] at hT
 refine AF.start' 60 Tryz.func135 rfl rfl c135call c135ok fun Q hQ => ?_
 simp [c135c, c135t]
 refine ATT.callE Tryz.func135 60 hT (by simp) (by simp) (by simp) fun v hv => ?_
 obtain ⟨nl, sz, l, e, l1, l2, l3, l4, l5⟩ := hv
 subst e
 simp
 refine ATT.callV Tryz.func135 60 [] [] (f145_ok nl sz (wD l)) (by simp) (by simp) (by simp) (by simp) (by simp) (by simp) (by simp) ?_
 simp
 refine ATT.nilB 0 0 1 5 rfl rfl (by decide) (by simp) ?_
 simp
 have hI0 : inI ((l.length : Int) - 1) = true := inI_of (by omega) (by omega)
 refine ATT.rangeF (gid := 154) (all := fun y => [.d (.fn (.yield y) [] []), .ptr 1 0]) 60 (fun y => by simp) c154call Tryz.func154 rfl rfl c154ok (by simp) (fun y r => ?_)
 simp [c154c, c154t, hI0]
 refine ATT.loopG 60 c154l4.eq_1 (fun ((i, o) : Nat × List Nat) => i) (fun ((i, o) : Nat × List Nat) => i ≤ l.length ∧ o = wb (l.drop i)) (fun ((i, o) : Nat × List Nat) => [(3, .d (.int .i64 ((i : Int) - 1))), (0, .d (.fn (.yield y) [] [])), (1, .ptr 1 0)]) (fun ((i, o) : Nat × List Nat) => [.cells [.vs 0 o.length 0 o.length] 67, .cells [.d (.sl nl sz (wD l))] 134, .raw (DfR 2 r), .raw (LpR Tryz.prog ⟨135, 40, [(9, .fn (.func 154) [] [.ptr 1 0]), (3, .ptr 0 0)], [10, 11], c135r6a, c135r6b, r⟩ 3 y .ready none)]) (fun ((i, o) : Nat × List Nat) => [some ⟨o.isEmpty, 1, 0, (bD o).map V.d, 5⟩]) ((l.length, [])) (by (try dsimp only); exact ⟨Nat.le_refl _, by rw [List.drop_length]; rfl⟩) (by simp <;> omega) (by simp) (by simp) ?_
 intro ⟨i, o⟩ u w hI ih
 try simp only at hI ih
 obtain ⟨i1, i2⟩ := hI
 cases i with
 | zero =>
  simp [c154t]
  refine ATT.fin0' (fun _ _ h => h) Tryz.func154 c154res ⟨by simp, ?_⟩
  simp
  refine ⟨⟨_, rfl⟩, none, rfl, by simp, ?_⟩
  simp
  rw [List.drop_zero] at i2
  have hm : bv o = m := by rw [i2, wb_bv l3.1, l4]
  have hpos : o ≠ [] → 0 < m := fun h => by
   rw [← l4]; exact Can.pos (fun e => h (by rw [i2, e]; rfl)) l3
  have hu8 : U8 o := by rw [i2]; exact wb_u8 l
  have hol : o.length ≤ 4 * k := by rw [i2, wb_len]; omega
  refine ATT.loopG 60 c135l9.eq_1 (fun ((a, b) : List Nat × List Nat) => b.length) (fun ((a, b) : List Nat × List Nat) => o = a ++ b ∧ bv b = m) (fun ((a, b) : List Nat × List Nat) => [(3, .ptr 0 0)]) (fun ((a, b) : List Nat × List Nat) => [.cells [.vs 0 (a.length + b.length) a.length b.length] 67, .cells [.d (.sl nl sz (wD l))] 134, .raw (DfR 2 r)]) (fun ((a, b) : List Nat × List Nat) => [some ⟨o.isEmpty, 1, 0, (bD o).map V.d, 5⟩]) (([], o)) (by (try dsimp only); exact ⟨rfl, hm⟩) (by simp <;> omega) (by simp) (by simp) ?_
  intro ⟨a, b⟩ u w hI ih
  try simp only at hI ih
  obtain ⟨k1, k2⟩ := hI
  cases b with
  | nil =>
   have hoa : o.length = a.length := by rw [k1]; simp
   simp [c135t, hoa]
   refine ATT.fz (by simp) ?_
   simp [hoa]
   have ho0 : o = [] := Classical.byContradiction fun h => by have := hpos h; rw [← k2] at this; simp [bv, bvA] at this
   have hoe : o.isEmpty = true := by rw [ho0]; rfl
   have hC := f146_ok true 1 [] (fun _ => rfl) (by simp) (by simp)
   refine ATT.callE Tryz.func135 60 hC (by simp) (by simp [hoe]) (by simp) fun v hv => ?_
   obtain ⟨sz', e, hsz'⟩ := hv
   subst e
   simp
   refine ATT.retC (Q' := fun o h => (∃ v, o = .ret v) ∧ ∃ v, o = .ret (.d v) ∧ Bd m (4 * k) v) (fun o h hh => ⟨hh.1, hQ o h hh.2⟩) Tryz.func135 c135res 2 rfl rfl (by simp) (by simp) (by simp; rfl) ?_
   simp
   exact ⟨true, sz', [], rfl, fun _ => rfl, by simp, by simp [U8], by simp, k2, by simp⟩
  | cons x b =>
   have hne : o ≠ [] := by rw [k1]; simp
   have hie : o.isEmpty = false := by cases o <;> simp at hne ⊢
   have hgx : (bD o)[a.length]? = some (.int .u8 x) := bD_get (by rw [k1]; simp)
   have hgx2 := bD_getE (l := o) (i := a.length) (x := x) (by rw [k1]; simp)
   have hol2 : o.length = a.length + (b.length + 1) := by rw [k1]; simp
   have hr0 : inR 0 (b.length + 1) = true := inR_of (by omega) (by omega)
   by_cases hx : x = 0
   ·subst hx
    have hb : b ≠ [] := fun e => by have := hpos hne; rw [← k2, e] at this; simp [bv, bvA] at this
    have hbl : (1 : Int) < (b.length : Int) + 1 := by have := List.length_pos_iff.mpr hb; omega
    have hb1 : (1 : Int) ≤ (b.length : Int) + 1 := by omega
    have hbt : ((b.length : Int) + 1).toNat - 1 = b.length := by omega
    simp [c135t, hie, hgx2, hol2, hr0, hbl, hb1]
    refine ih (a ++ [0], b) (by first | ((try dsimp only); omega) | (simp <;> omega)) (by (try dsimp only); exact ⟨by rw [k1]; simp, k2⟩) _ _ _ (by simp <;> omega) (by simp <;> omega) (by simp [hie] <;> omega)
   ·have hx' : ¬ (x : Int) = 0 := by omega
    have hdt : List.take (b.length + 1) (List.drop a.length ((bD o).map V.d)) = (bD (x :: b)).map V.d := by
     rw [k1, bD_app, List.map_append, List.drop_left' (by simp), List.take_of_length_le (by simp)]
    simp [c135t, hie, hgx2, hol2, hr0, hx]
    refine ATT.fz (by simp) ?_
    simp [hol2, hdt]
    have hC := f146_ok false 1 (bD (x :: b)) (by simp) (fun _ => rfl) (by rw [hol2] at hol; simp; omega)
    refine ATT.callE Tryz.func135 60 hC (by simp) (by simp) (by simp) fun v hv => ?_
    obtain ⟨sz', e, hsz'⟩ := hv
    subst e
    simp
    refine ATT.retC (Q' := fun o h => (∃ v, o = .ret v) ∧ ∃ v, o = .ret (.d v) ∧ Bd m (4 * k) v) (fun o h hh => ⟨hh.1, hQ o h hh.2⟩) Tryz.func135 c135res 2 rfl rfl (by simp) (by simp) (by simp; rfl) ?_
    simp
    exact ⟨false, sz', x :: b, rfl, by simp, hsz', fun z hz => hu8 z (by rw [k1]; simp at hz ⊢; exact .inr hz), fun q e => hx (by simpa using (List.cons.inj e).1), k2, by rw [hol2] at hol; simp; omega⟩
 | succ i =>
  obtain ⟨x, hx⟩ : ∃ x, l[i]? = some x := ⟨_, List.getElem?_eq_getElem (by omega)⟩
  have hx32 := l3.1.get hx
  have hnl : nl = false := by cases nl with | false => rfl | true => (have := l1 rfl; subst this; simp at i1)
  subst hnl
  have hsz := l2 rfl
  subst hsz
  have hgx := wD_get hx
  have hgx2 := wD_getE hx
  have hi0 : (0 : Int) ≤ i := by omega
  have hII : inI ((i : Int) - 1) = true := inI_of (by omega) (by omega)
  simp [c154t, hgx, hi0]
  refine ATT.yield (l := y) 60 3 c135r6a.eq_1 (by simp) (by simp) (by rfl) rfl (by simp) ?_
  have hlim : o.length ≤ 140737488355324 := by rw [i2, wb_len]; simp; omega
  have e1 : IntKind.u8.wrap ((x : Int).fdiv 16777216) = (x : Int) / 16777216 % 256 := wrap8s x 16777216
  have e2 : IntKind.u8.wrap ((x : Int).fdiv 65536) = (x : Int) / 65536 % 256 := wrap8s x 65536
  have e3 : IntKind.u8.wrap ((x : Int).fdiv 256) = (x : Int) / 256 % 256 := wrap8s x 256
  simp [c135t]
  refine ATT.begin (l := y) 60 c135r6b.eq_1 (i := 3) rfl (by simp) ?_
  simp [c135t, hlim, e1, e2, e3, wrap8x, IntKind.bits]
  refine ATT.endR (by simp) rfl rfl ⟨none, rfl, rfl, by simp, ?_⟩
  simp [c154t]
  have hbd : bD (o ++ b4 x) = bD o ++ [.int .u8 ((x : Int) / 16777216 % 256), .int .u8 ((x : Int) / 65536 % 256), .int .u8 ((x : Int) / 256 % 256), .int .u8 ((x : Int) % 256)] := by simp [bD, b4]
  have hbl : (b4 x).length = 4 := rfl
  have hbe : (b4 x).isEmpty = false := rfl
  have hbn : ¬ b4 x = [] := by simp [b4]
  refine ih (i, o ++ b4 x) (by first | ((try dsimp only); omega) | (simp [hbd, hbl, hbe, hbn, hII] <;> omega)) (by (try dsimp only); exact ⟨by omega, by rw [wb_drop hx, i2]⟩) _ _ _ (by simp [hII] <;> omega) (by simp <;> omega) (by simp [hbd, hbl, hbn] <;> omega)
end Go.SL
namespace Go.SL
open Go.Proofs
set_option maxRecDepth 10000
theorem f80_ok (s : ByteArray) (i : Nat) : DF Tryz.prog 80 [.str s, .int .i64 i] (.int .u8 (atS s i)) := by
 refine AF.start 60 Tryz.func80 rfl rfl c80call c80ok ?_
 simp [c80c, c80t]
 refine ATT.cD (fun h => ?_) (fun h => ?_)
 ·have h' : i < s.size := by omega
  have hR : inR (i : Int) s.size = true := inR_of (by omega) (by omega)
  simp [c80t, hR]
  refine ATT.fin Tryz.func80 c80res ?_
  simp [atS, h']
 ·have h' : ¬ i < s.size := by omega
  simp [c80t]
  refine ATT.fin Tryz.func80 c80res ?_
  simp [atS, h']
theorem f77_ok (s : ByteArray) (i : Nat) (hi : i ≤ 1073741824) : DF Tryz.prog 77 [.str s, .int .i64 i] (.bool (colonS s i)) := by
 have hI : inI ((i : Int) + 1) = true := inI_of (by omega) (by omega)
 have h2 := f80_ok s (i + 1)
 simp only [Int.natCast_add, Int.natCast_one] at h2
 refine AF.start 60 Tryz.func77 rfl rfl c77call c77ok ?_
 simp [c77c, c77t]
 refine ATT.callD Tryz.func77 60 (f80_ok s i) trivial (by simp) rfl ?_
 simp
 refine ATT.cC (fun h => ?_) (fun h => ?_)
 ·simp [h, hI]
  refine ATT.callD Tryz.func77 60 h2 (by simp) (by simp) (by simp) ?_
  simp
  refine ATT.fin Tryz.func77 c77res ?_
  simp [colonS, h]
 ·simp [h]
  refine ATT.fin Tryz.func77 c77res ?_
  simp [colonS, h]
def signsT : ByteArray := ⟨#[43, 45, 42, 47, 92, 60, 62, 61, 126, 44, 64, 37, 38, 63]⟩
theorem place_bd (c : Int) (s : ByteArray) : ∀ m i, s.size - i = m → placeS c s i = -1 ∨ (i ≤ placeS c s i ∧ placeS c s i < s.size) := by
 intro m
 induction m with
 | zero => intro i h; rw [placeS]; simp [show ¬ i < s.size by omega]
 | succ m ih =>
  intro i h
  rw [placeS]
  have h0 : i < s.size := by omega
  simp only [h0, dite_true]
  split
  ·right; omega
  ·rcases ih (i + 1) (by omega) with h | h
   ·exact .inl h
   ·right; omega
theorem f110_ok (c : Int) (s : ByteArray) (hs : s.size ≤ 1073741824) : DF Tryz.prog 110 [.int .u8 c, .str s] (.bool (decide (0 ≤ placeS c s 0))) := by
 refine AF.start 60 Tryz.func110 rfl rfl c110call c110ok ?_
 simp [c110c, c110t]
 refine ATT.loop' [(5, V.d (D.int .i64 0)), (0, V.d (D.int .u8 c)), (1, V.d (D.str s))] rfl (by simp) ?_
 generalize hr : placeS c s 0 = r
 suffices H : ∀ m (i : Nat), s.size - i = m → placeS c s i = r → LP Tryz.prog 17 (.of 110) (fun o x => o = Out.ret (V.d (D.bool (decide (0 ≤ r))))) c110l6 [AItem.blk 0, AItem.code ((AC.regT c110t 7).seq AC.ret)]
   [(5, V.d (D.int .i64 i)), (0, V.d (D.int .u8 c)), (1, V.d (D.str s))] { bx := [], vc := [] } from H _ 0 rfl hr
 clear hr
 intro m
 induction m with
 | zero =>
  intro i hm hr
  refine LP.of 60 c110l6.eq_1 ?_
  have h0 : ¬ (i : Int) < s.size := by omega
  simp [c110t, h0]
  refine ATT.fin Tryz.func110 c110res ?_
  rw [placeS] at hr
  simp [show ¬ i < s.size by omega] at hr
  simp [← hr]
 | succ m ih =>
  intro i hm hr
  refine LP.of 60 c110l6.eq_1 ?_
  have h0 : (i : Int) < s.size := by omega
  have h0' : i < s.size := by omega
  have hR : inR (i : Int) s.size = true := inR_of (by omega) (by omega)
  have hI : inI ((i : Int) + 1) = true := inI_of (by omega) (by omega)
  rw [placeS] at hr
  simp only [h0', dite_true] at hr
  simp [c110t, h0, hR]
  refine ATT.cD (fun h => ?_) (fun h => ?_)
  ·simp [c110t]
   refine ATT.fin Tryz.func110 c110res ?_
   rw [if_pos h] at hr
   simp [← hr]
  ·simp [c110t, hI]
   rw [if_neg h] at hr
   have hk := ih (i + 1) (by omega) hr
   simp only [Int.natCast_add, Int.natCast_one] at hk
   exact ATT.again' _ rfl (by simp) hk
def signS (c : Int) : Bool := decide (0 ≤ placeS c signsT 0)
theorem f82_ok (c : Int) : DF Tryz.prog 82 [.int .u8 c] (.bool (signS c)) := by
 refine AF.start 60 Tryz.func82 rfl rfl c82call c82ok ?_
 simp [c82c, c82t]
 refine ATT.callD Tryz.func82 60 (f110_ok c signsT (by decide)) trivial (by simp [signsT]) rfl ?_
 simp
 refine ATT.fin Tryz.func82 c82res ?_
 simp [signS]
theorem f103_ok (c : Int) : DF Tryz.prog 103 [.int .u8 c] (.bool (signS c)) := by
 refine AF.start 60 Tryz.func103 rfl rfl c103call c103ok ?_
 simp [c103c, c103t]
 refine ATT.callD Tryz.func103 60 (f43_ok c signsT (by unfold Ascii; decide)) trivial (by simp [signsT]) rfl ?_
 simp
 refine ATT.fin Tryz.func103 c103res ?_
 simp [signS]
theorem signB : FnB 103 signS := fun c _ _ => f103_ok c
def signsS (s : ByteArray) (i : Nat) : Nat :=
 if (decide (i < s.size) && signS (sbyte s i)) then (if (decide (i + 1 < s.size) && signS (sbyte s (i + 1 : Nat))) then i + 2 else i + 1) else i
theorem f75_ok (s : ByteArray) (hs : s.size ≤ 1073741824) (i : Nat) (hi : i ≤ 1073741824) : MF Tryz.prog 75 [.ptr 0 0] (RD s i) (.d (.bool (decide (i < signsS s i)))) (RD s (signsS s i)) := by
 have hM := f63_ok signB s i
 have hM2 := f63_ok signB s (i + 1)
 have hn : signsS s i = if (decide (i < s.size) && signS (sbyte s i)) then (if (decide (i + 1 < s.size) && signS (sbyte s (i + 1 : Nat))) then i + 2 else i + 1) else i := rfl
 generalize (decide (i < s.size) && signS (sbyte s i)) = b at hM hn
 generalize (decide (i + 1 < s.size) && signS (sbyte s (i + 1 : Nat))) = b2 at hM2 hn
 have hI1 : inI ((i : Int) + 1) = true := inI_of (by omega) (by omega)
 have hI2 : inI ((i : Int) + 2) = true := inI_of (by omega) (by omega)
 have hI3 : inI ((i : Int) + 1 + 1) = true := inI_of (by omega) (by omega)
 have hlt1 : (i : Int) < i + 2 := by omega
 have hlt2 : (i : Int) + 1 < i + 2 := by omega
 have hlt0 : ¬ (i : Int) + 1 + 1 < i + 2 := by omega
 refine AF.start 60 Tryz.func75 rfl rfl c75call c75ok ?_
 simp [c75c, c75t, RD]
 refine ATT.loop 60 rfl ?_
 simp [c75l4, c75t, hI2, hlt1]
 refine ATT.callM Tryz.func75 60 [0] hM rfl (by simp) (by simp) (by simp [RD]) (by simp) (by simp) ?_
 simp [RD]
 cases b with
 | false =>
  simp [c75t]
  refine ATT.fin Tryz.func75 c75res ?_
  simp [hn]
 | true =>
  simp [c75t]
  refine ATT.again 60 (by simp [hI1]) ?_
  simp [c75t, hI2, hlt2]
  refine ATT.callM Tryz.func75 60 [0] hM2 rfl (by simp) (by simp) (by simp [RD]) (by simp) (by simp) ?_
  simp [RD]
  cases b2 with
  | false =>
   simp [c75t]
   refine ATT.fin Tryz.func75 c75res ?_
   simp [hn]
   omega
  | true =>
   simp [c75t]
   refine ATT.again 60 (by simp [hI3]) ?_
   simp [c75t, hI2, hlt0]
   refine ATT.fin Tryz.func75 c75res ?_
   simp [hn]
   omega
theorem f83_ok (s : ByteArray) (hs : s.size ≤ 1073741824) (i : Nat) (hi : i ≤ 1073741824) : DF Tryz.prog 83 [.str s, .int .i64 i] (.int .i64 (signsS s i)) := by
 have hI1 : inI ((i : Int) + 1) = true := inI_of (by omega) (by omega)
 have hI3 : inI ((i : Int) + 1 + 1) = true := inI_of (by omega) (by omega)
 have h12 : inI 1 = true := by decide
 have h22 : inI 2 = true := by decide
 refine AF.start 60 Tryz.func83 rfl rfl c83call c83ok ?_
 simp [c83c, c83t]
 refine ATT.loop 60 rfl ?_
 by_cases h0 : i < s.size
 ·have h0' : (i : Int) < s.size := by omega
  have hR : inR (i : Int) s.size = true := inR_of (by omega) (by omega)
  simp [c83l5, c83t, h0, hR]
  refine ATT.callD Tryz.func83 60 (f82_ok (sbyte s i)) (by simp) (by simp) (by simp) ?_
  simp
  cases hb : signS (sbyte s i) with
  | false =>
   simp [c83t]
   refine ATT.fin Tryz.func83 c83res ?_
   simp [signsS, hb]
  | true =>
   simp [c83t, hI1, h12]
   refine ATT.again 60 (by simp) ?_
   by_cases h1 : i + 1 < s.size
   ·have h1' : (i : Int) + 1 < s.size := by omega
    have hR1 : inR ((i : Int) + 1) s.size = true := inR_of (by omega) (by omega)
    simp [c83t, h1', hR1]
    refine ATT.callD Tryz.func83 60 (f82_ok (sbyte s ((i : Int) + 1))) (by simp) (by simp) (by simp) ?_
    simp
    cases hb2 : signS (sbyte s ((i : Int) + 1)) with
    | false =>
     simp [c83t]
     refine ATT.fin Tryz.func83 c83res ?_
     simp [signsS, h0, h1, hb, hb2]
    | true =>
     simp [c83t]
     refine ATT.again 60 (by simp [hI3, h22]) ?_
     simp [c83t]
     refine ATT.fin Tryz.func83 c83res ?_
     simp [signsS, h0, h1, hb, hb2]
     omega
   ·have h1' : ¬ (i : Int) + 1 < s.size := by omega
    simp [c83t, h1']
    refine ATT.fin Tryz.func83 c83res ?_
    simp [signsS, h0, h1, hb]
 ·have h0' : ¬ (i : Int) < s.size := by omega
  simp [c83l5, c83t, h0]
  refine ATT.fin Tryz.func83 c83res ?_
  simp [signsS, h0]
end Go.SL
namespace Go.SL
open Go.Proofs
set_option maxRecDepth 100000
theorem XF.of {P : Program} {fid : FuncId} {fn : Func} {e : Array Value → Sem Value} (hf : P.funcs[fid]? = some fn) (hname : (fn.name == "runtime.NumGoroutine") = false)
  (hb : fn.body.isNone = true) (hn : Extern.findNext fn = none) (he : Extern.find fn = some e) {args : List V} {v : V}
  (h : ∀ (κ : K) (w : World) (argv : List Value), VL κ args argv → ∃ y, (e ⟨argv⟩).run P w = .ok y w ∧ VR κ v y) : XF P fid args v := by
 intro κ w argv ha
 obtain ⟨y, h1, h2⟩ := h κ w argv ha
 exact ⟨y, by rw [run_callFunc_extern hf hname hb hn he, h1]; rfl, h2⟩
theorem f94_ok (s : ByteArray) (c : Int) : XF Tryz.prog 94 [.d (.str s), .d (.int .u8 c)] (.d (.int .i64 (firstIdx s c.toNat.toUInt8))) := by
 refine XF.of Tryz.func94 (by kernel_rfl) (by kernel_rfl) (by kernel_rfl) (e := Extern.BytealgIndexByte.indexByte) (by kernel_rfl) ?_
 intro κ w argv ha
 simp only [VL, VR, DR] at ha
 obtain ⟨y, t, e1, e2, y2, t2, e3, e4, e5⟩ := ha
 subst e1 e2 e3 e4 e5
 exact ⟨_, run_indexByte_string s c w, by simp [VR, DR]⟩
theorem f69_ok (s : ByteArray) (c : Int) : DF Tryz.prog 69 [.str s, .int .u8 c] (.int .i64 (firstIdx s c.toNat.toUInt8)) := by
 refine AF.start 60 Tryz.func69 rfl rfl c69call c69ok ?_
 simp [c69c, c69t]
 refine ATT.callX 60 (f94_ok s c) trivial (by simp) rfl ?_
 simp
 refine ATT.fin Tryz.func69 c69res ?_
 simp
theorem f44_ok (s : ByteArray) (c : Int) : DF Tryz.prog 44 [.str s, .int .u8 c] (.int .i64 (firstIdx s c.toNat.toUInt8)) := by
 refine AF.start 60 Tryz.func44 rfl rfl c44call c44ok ?_
 simp [c44c, c44t]
 refine ATT.callD Tryz.func44 60 (f69_ok s c) trivial (by simp) rfl ?_
 simp
 refine ATT.fin Tryz.func44 c44res ?_
 simp
theorem f114_ok (x : V) : XF Tryz.prog 114 [x] x := by
 refine XF.of Tryz.func114 (by kernel_rfl) (by kernel_rfl) (by kernel_rfl) (e := Extern.AbiNoEscape.same) (by kernel_rfl) ?_
 intro κ w argv ha
 simp only [VL] at ha
 obtain ⟨y, t, e1, e2, e3⟩ := ha
 subst e1 e3
 exact ⟨y, rfl, e2⟩
end Go.SL
namespace Go.SL
open Go.Proofs
set_option maxRecDepth 10000
def bldL : List (Nat × Nat) := [(68, 2), (69, 2), (70, 2), (71, 2)]
theorem f86_ok (T : TypeId) (hT : hasT bldL T 2 = true) (b : Bool) (l : List UInt8) (z : Nat) :
  VF Tryz.prog 86 [.ptr 0 0] [BB 0 0 T b l] [BV 5 z l] (.d (.tup [])) [BB 0 0 T true l] [BV 5 z l] := by
 simp only [bldL] at hT
 cases b with
 | false =>
  refine AF.start' 60 Tryz.func86 rfl rfl c86call c86ok fun Q hQ => ?_
  simp [c86c, c86t]
  refine ATT.callX 60 (f114_ok (.ptr 0 0)) (by simp) (by simp) (by simp) ?_
  simp [hT]
  refine ATT.fin0' hQ Tryz.func86 c86res ?_
  simp
  all_goals (first | omega | exact ⟨_, rfl⟩ | skip)
 | true =>
  refine AF.start' 60 Tryz.func86 rfl rfl c86call c86ok fun Q hQ => ?_
  simp [c86c, c86t]
  refine ATT.fin0' hQ Tryz.func86 c86res ?_
  simp
  all_goals (first | omega | exact ⟨_, rfl⟩ | skip)
theorem f58_ok (T : TypeId) (hT : hasT bldL T 2 = true) (b : Bool) (l : List UInt8) (hl : l.length ≤ 1099511627776) (x : UInt8) :
  VF Tryz.prog 58 [.ptr 0 0, .d (.int .u8 (x.toNat : Int))] [BB 0 0 T b l] [BV 5 0 l] (.d .nilI) [BB 0 0 T true (l ++ [x])] [BV 5 0 (l ++ [x])] := by
 refine AF.start' 60 Tryz.func58 rfl rfl c58call c58ok fun Q hQ => ?_
 simp [c58c, c58t]
 refine ATT.callV Tryz.func58 60 [0] [0] (f86_ok T hT b l 0) (by simp) (by simp) (by simp) (by simp) (by simp) (by simp) (by simp) ?_
 simp [c58t]
 refine ATT.fin' hQ Tryz.func58 c58res ?_
 simp [(by omega : l.length ≤ 140737488355327)]
 all_goals (first | omega | exact ⟨_, rfl⟩ | skip)
theorem f54_ok (T : TypeId) (hT : hasT bldL T 2 = true) (b : Bool) (l : List UInt8) (s : ByteArray) (hl : l.length + s.size ≤ 1099511627776) :
  VF Tryz.prog 54 [.ptr 0 0, .d (.str s)] [BB 0 0 T b l] [BV 5 0 l] (.d (.tup [.int .i64 s.size, .nilI])) [BB 0 0 T true (l ++ s.data.toList)] [BV 5 0 (l ++ s.data.toList)] := by
 refine AF.start' 60 Tryz.func54 rfl rfl c54call c54ok fun Q hQ => ?_
 simp [c54c, c54t]
 refine ATT.callV Tryz.func54 60 [0] [0] (f86_ok T hT b l 0) (by simp) (by simp) (by simp) (by simp) (by simp) (by simp) (by simp) ?_
 simp [c54t]
 refine ATT.fin' hQ Tryz.func54 c54res ?_
 simp [(by omega : l.length + s.size ≤ 140737488355328)]
 all_goals (first | omega | exact ⟨_, rfl⟩ | skip)
theorem f102_ok (T : TypeId) (b : Bool) (l : List UInt8) (z : Nat) :
  VF Tryz.prog 102 [.ptr 0 0] [BB 0 0 T b l] [BV 5 z l] (.d (.int .i64 l.length)) [BB 0 0 T b l] [BV 5 z l] := by
 cases b with
 | false =>
  refine AF.start' 60 Tryz.func102 rfl rfl c102call c102ok fun Q hQ => ?_
  simp [c102c, c102t]
  refine ATT.fin' hQ Tryz.func102 c102res ?_
  simp
  all_goals (first | omega | exact ⟨_, rfl⟩ | skip)
 | true =>
  refine AF.start' 60 Tryz.func102 rfl rfl c102call c102ok fun Q hQ => ?_
  simp [c102c, c102t]
  refine ATT.fin' hQ Tryz.func102 c102res ?_
  simp
  all_goals (first | omega | exact ⟨_, rfl⟩ | skip)
theorem f34_ok (T : TypeId) (b : Bool) (l : List UInt8) (hl : l.length ≤ 1099511627776) :
  VF Tryz.prog 34 [.ptr 0 0] [BB 0 0 T b l] [BV 5 0 l] (.d (.str ⟨l.toArray⟩)) [BB 0 0 T b l] [BV 5 l.length l] := by
 cases l with
 | nil =>
  refine AF.start' 60 Tryz.func34 rfl rfl c34call c34ok fun Q hQ => ?_
  simp [c34c, c34t]
  refine ATT.fin' hQ Tryz.func34 c34res ?_
  simp
  all_goals (first | omega | exact ⟨_, rfl⟩ | skip)
 | cons x l =>
  have hI : inI ((l.length : Int) + 1) = true := inI_of (by omega) (by simp at hl; omega)
  have hb := byteL_bs (x :: l)
  have hs := bytesI_bs (x :: l)
  simp only [List.map_cons] at hb hs
  refine AF.start' 60 Tryz.func34 rfl rfl c34call c34ok fun Q hQ => ?_
  simp [c34c, c34t, hI, hb, hs]
  refine ATT.fin' hQ Tryz.func34 c34res ?_
  simp
  all_goals (first | omega | exact ⟨_, rfl⟩ | skip)
end Go.SL
namespace Go.SL
open Go.Proofs
set_option maxRecDepth 10000
def byteS (s : ByteArray) (i : Nat) : UInt8 := s.data.toList.getD i 0
theorem sbyte_byte (s : ByteArray) (i : Nat) : sbyte s i = ((byteS s i).toNat : Int) := by
 simp [sbyte, byteS]
def quoS (s : ByteArray) (i : Nat) (acc : List UInt8) : Option (List UInt8) × Nat :=
 if h : i < s.size then (if sbyte s i = 39 then (if atS s (i + 1) = 39 then quoS s (i + 2) (acc ++ [39]) else (some acc, i + 1)) else quoS s (i + 1) (acc ++ [byteS s i])) else (none, i)
termination_by s.size - i
def quotedS (s : ByteArray) (i : Nat) : Option (List UInt8) × Nat := if atS s i = 39 then quoS s (i + 1) [] else (none, i)
def quT : Option (List UInt8) → ByteArray
 | some l => ⟨l.toArray⟩
 | none => ⟨#[]⟩
def quB : Option (List UInt8) → Bool
 | some l => decide (l.length ≤ 1024)
 | none => false
abbrev quotV (q : Option (List UInt8) × Nat) : V := .d (.tup [.str (quT q.1), .bool (quB q.1)])
theorem quoS_end {s : ByteArray} {i : Nat} {acc : List UInt8} (h : ¬ i < s.size) : quoS s i acc = (none, i) := by
 rw [quoS]; simp [h]
theorem quoS_two {s : ByteArray} {i : Nat} {acc : List UInt8} (h : i < s.size) (h1 : sbyte s i = 39) (h2 : atS s (i + 1) = 39) : quoS s i acc = quoS s (i + 2) (acc ++ [39]) := by
 rw [quoS]; simp [h, h1, h2]
theorem quoS_one {s : ByteArray} {i : Nat} {acc : List UInt8} (h : i < s.size) (h1 : sbyte s i = 39) (h2 : ¬ atS s (i + 1) = 39) : quoS s i acc = (some acc, i + 1) := by
 rw [quoS]; simp [h, h1, h2]
theorem quoS_more {s : ByteArray} {i : Nat} {acc : List UInt8} (h : i < s.size) (h1 : ¬ sbyte s i = 39) : quoS s i acc = quoS s (i + 1) (acc ++ [byteS s i]) := by
 rw [quoS]; simp [h, h1]
theorem f72_ok (s : ByteArray) (hs : s.size ≤ 1073741824) (i : Nat) (hi : i ≤ 1073741824) : MF Tryz.prog 72 [.ptr 0 0] (RD s i) (quotV (quotedS s i)) (RD s (quotedS s i).2) := by
 have hI : inI ((i : Int) + 1) = true := inI_of (by omega) (by omega)
 refine AF.start' 60 Tryz.func72 rfl rfl c72call c72ok fun Q hQ => ?_
 simp [c72c, c72t]
 refine ATT.callM Tryz.func72 60 [0] (f73_ok s hs i 0 (by omega) (by omega)) rfl (by simp) (by simp) (by simp) (by simp) (by simp) ?_
 simp
 first | with_reducible refine ATT.cC (fun h => ?_) (fun h => ?_) | with_reducible refine ATT.cE (fun h => ?_) (fun h => ?_) | with_reducible refine ATT.cD (fun h => ?_) (fun h => ?_) | with_reducible refine ATT.cCn (fun h => ?_) (fun h => ?_) | with_reducible refine ATT.cEn (fun h => ?_) (fun h => ?_) | with_reducible refine ATT.cDn (fun h => ?_) (fun h => ?_)
 ·simp [c72t, h]
  have hq : quotedS s i = quoS s (i + 1) [] := by simp [quotedS, h]
  rw [hq] at hQ
  generalize hr : quoS s (i + 1) [] = r at hQ
  refine ATT.nilB 1 1 1 5 rfl rfl (by decide) (by simp) ?_
  simp
  refine ATT.loopG 60 c72l12.eq_1 (fun ((j, acc, b) : Nat × List UInt8 × Bool) => s.size - j) (fun ((j, acc, b) : Nat × List UInt8 × Bool) => quoS s j acc = r ∧ acc.length ≤ j) (fun ((j, acc, b) : Nat × List UInt8 × Bool) => [(4, V.ptr 1 0), (0, V.ptr 0 0)]) (fun ((j, acc, b) : Nat × List UInt8 × Bool) => [.cells [.d (.str s), .d (.int .i64 j)] 76, BB 1 0 69 b acc]) (fun ((j, acc, b) : Nat × List UInt8 × Bool) => [BV 5 0 acc]) ((i + 1, [], false)) (by (try dsimp only); exact ⟨hr, by simp⟩) (by simp [hI] <;> omega) (by simp) (by simp [bsV]) ?_
  intro ⟨j, acc, b⟩ u w hI ih
  try simp only at hI ih
  obtain ⟨hj, hl⟩ := hI
  have hT : hasT bldL 69 2 = true := by decide
  have hI1 : j < s.size → inI ((j : Int) + 1) = true := fun h => inI_of (by omega) (by omega)
  have hI2 : j < s.size → inI ((j : Int) + 1 + 1) = true := fun h => inI_of (by omega) (by omega)
  simp [c72t]
  first | with_reducible refine ATT.cC (fun h1 => ?_) (fun h1 => ?_) | with_reducible refine ATT.cE (fun h1 => ?_) (fun h1 => ?_) | with_reducible refine ATT.cD (fun h1 => ?_) (fun h1 => ?_) | with_reducible refine ATT.cCn (fun h1 => ?_) (fun h1 => ?_) | with_reducible refine ATT.cEn (fun h1 => ?_) (fun h1 => ?_) | with_reducible refine ATT.cDn (fun h1 => ?_) (fun h1 => ?_)
  ·have hR : inR (j : Int) s.size = true := inR_of (by omega) (by omega)
   simp [hR]
   first | with_reducible refine ATT.cC (fun h2 => ?_) (fun h2 => ?_) | with_reducible refine ATT.cE (fun h2 => ?_) (fun h2 => ?_) | with_reducible refine ATT.cD (fun h2 => ?_) (fun h2 => ?_) | with_reducible refine ATT.cCn (fun h2 => ?_) (fun h2 => ?_) | with_reducible refine ATT.cEn (fun h2 => ?_) (fun h2 => ?_) | with_reducible refine ATT.cDn (fun h2 => ?_) (fun h2 => ?_)
   ·simp [c72t]
    refine ATT.callM Tryz.func72 60 [0] (f73_ok s hs j 1 (by omega) (by omega)) rfl (by simp) (by simp) (by simp) (by simp) (by simp) ?_
    simp
    first | with_reducible refine ATT.cC (fun h3 => ?_) (fun h3 => ?_) | with_reducible refine ATT.cE (fun h3 => ?_) (fun h3 => ?_) | with_reducible refine ATT.cD (fun h3 => ?_) (fun h3 => ?_) | with_reducible refine ATT.cCn (fun h3 => ?_) (fun h3 => ?_) | with_reducible refine ATT.cEn (fun h3 => ?_) (fun h3 => ?_) | with_reducible refine ATT.cDn (fun h3 => ?_) (fun h3 => ?_)
    ·have h4 : j + 1 < s.size := by unfold atS at h3; split at h3 <;> first | assumption | simp at h3
     have h5 : sbyte s ((j : Int) + 1) = 39 := by unfold atS at h3; rw [if_pos h4] at h3; simpa using h3
     have hR1 : inR ((j : Int) + 1) s.size = true := inR_of (by omega) (by omega)
     simp [c72t, hI1 h1, hR1, h5]
     refine ATT.callRV Tryz.func72 60 [1] [0] (f58_ok 69 hT b acc (by omega) 39) (by simp) (by simp) (by simp) (by simp) (by simp) (by simp) (by simp) ?_
     simp [c72t, hI2 h1]
     refine ih (j + 2, acc ++ [39], true) (by first | ((try dsimp only); omega) | (simp [hR, hI1 h1, hI2 h1] <;> omega)) (by (try dsimp only); exact ⟨by rw [← hj]; exact (quoS_two h1 h2 h3).symm, by simp; omega⟩) _ _ _ (by simp <;> omega) (by simp <;> omega) (by simp [bsV] <;> omega)
    ·simp [c72t, hI1 h1]
     refine ATT.callV Tryz.func72 60 [1] [0] (f34_ok 69 b acc (by omega)) (by simp) (by simp) (by simp) (by simp) (by simp) (by simp) (by simp) ?_
     simp
     refine ATT.callV Tryz.func72 60 [1] [0] (f102_ok 69 b acc acc.length) (by simp) (by simp) (by simp) (by simp) (by simp) (by simp) (by simp) ?_
     simp
     refine ATT.fin' hQ Tryz.func72 c72res ?_
     simp [← hj, quoS_one h1 h2 h3, quT, quB]
     all_goals (first | omega | exact ⟨_, rfl⟩ | skip)
   ·skip
    simp [hR, sbyte_byte]
    refine ATT.callRV Tryz.func72 60 [1] [0] (f58_ok 69 hT b acc (by omega) (byteS s j)) (by simp) (by simp) (by simp) (by simp) (by simp) (by simp) (by simp) ?_
    simp [c72t, hI1 h1]
    refine ih (j + 1, acc ++ [byteS s j], true) (by first | ((try dsimp only); omega) | (simp [hR, hI1 h1, hI2 h1, sbyte_byte] <;> omega)) (by (try dsimp only); exact ⟨by rw [← hj]; exact (quoS_more h1 h2).symm, by simp; omega⟩) _ _ _ (by simp <;> omega) (by simp <;> omega) (by simp [bsV] <;> omega)
  ·simp [h1]
   refine ATT.pass 60 (by simp <;> omega) ?_
   simp [c72t]
   refine ATT.fin' hQ Tryz.func72 c72res ?_
   simp [← hj, quoS_end h1, quT, quB]
   all_goals (first | omega | exact ⟨_, rfl⟩ | skip)
 ·simp [h]
  refine ATT.jump 60 (by simp) rfl ?_
  simp [c72t]
  refine ATT.fin' hQ Tryz.func72 c72res ?_
  simp [quotedS, h, quT, quB]
  all_goals (first | omega | exact ⟨_, rfl⟩ | skip)
abbrev quotR (q : Option (List UInt8) × Nat) : D := .tup [.str (if quB q.1 then quT q.1 else ⟨#[]⟩), .int .i64 (if quB q.1 then q.2 else -1)]
theorem f79_ok (s : ByteArray) (hs : s.size ≤ 1073741824) (i : Nat) (hi : i ≤ 1073741824) : DF Tryz.prog 79 [.str s, .int .i64 i] (quotR (quotedS s i)) := by
 have hI : inI ((i : Int) + 1) = true := inI_of (by omega) (by omega)
 refine AF.start' 60 Tryz.func79 rfl rfl c79call c79ok fun Q hQ => ?_
 simp [c79c, c79t]
 refine ATT.callD Tryz.func79 60 (f80_ok s i) (by simp) (by simp) (by simp) ?_
 simp
 first | with_reducible refine ATT.cC (fun h => ?_) (fun h => ?_) | with_reducible refine ATT.cE (fun h => ?_) (fun h => ?_) | with_reducible refine ATT.cD (fun h => ?_) (fun h => ?_) | with_reducible refine ATT.cCn (fun h => ?_) (fun h => ?_) | with_reducible refine ATT.cEn (fun h => ?_) (fun h => ?_) | with_reducible refine ATT.cDn (fun h => ?_) (fun h => ?_)
 ·simp [c79t, h]
  have hq : quotedS s i = quoS s (i + 1) [] := by simp [quotedS, h]
  rw [hq] at hQ
  generalize hr : quoS s (i + 1) [] = r at hQ
  refine ATT.nilE 6 1 5 rfl (by decide) (by simp) ?_
  simp
  refine ATT.loopG 60 c79l14.eq_1 (fun ((j, acc) : Nat × List UInt8) => s.size - j) (fun ((j, acc) : Nat × List UInt8) => quoS s j acc = r ∧ acc.length ≤ j) (fun ((j, acc) : Nat × List UInt8) => [(0, V.d (.str s)), (1, V.d (.int .i64 j)), (6, .vs 0 acc.length 0 acc.length)]) (fun ((j, acc) : Nat × List UInt8) => []) (fun ((j, acc) : Nat × List UInt8) => [BV 5 0 acc]) ((i + 1, [])) (by (try dsimp only); exact ⟨hr, by simp⟩) (by simp [hI] <;> omega) (by simp) (by simp [bsV]) ?_
  intro ⟨j, acc⟩ u w hI ih
  try simp only at hI ih
  obtain ⟨hj, hl⟩ := hI
  have hI1 : j < s.size → inI ((j : Int) + 1) = true := fun h => inI_of (by omega) (by omega)
  have hI2 : j < s.size → inI ((j : Int) + 1 + 1) = true := fun h => inI_of (by omega) (by omega)
  simp [c79t]
  first | with_reducible refine ATT.cC (fun h1 => ?_) (fun h1 => ?_) | with_reducible refine ATT.cE (fun h1 => ?_) (fun h1 => ?_) | with_reducible refine ATT.cD (fun h1 => ?_) (fun h1 => ?_) | with_reducible refine ATT.cCn (fun h1 => ?_) (fun h1 => ?_) | with_reducible refine ATT.cEn (fun h1 => ?_) (fun h1 => ?_) | with_reducible refine ATT.cDn (fun h1 => ?_) (fun h1 => ?_)
  ·have hR : inR (j : Int) s.size = true := inR_of (by omega) (by omega)
   simp [c79t, hR]
   first | with_reducible refine ATT.cC (fun h2 => ?_) (fun h2 => ?_) | with_reducible refine ATT.cE (fun h2 => ?_) (fun h2 => ?_) | with_reducible refine ATT.cD (fun h2 => ?_) (fun h2 => ?_) | with_reducible refine ATT.cCn (fun h2 => ?_) (fun h2 => ?_) | with_reducible refine ATT.cEn (fun h2 => ?_) (fun h2 => ?_) | with_reducible refine ATT.cDn (fun h2 => ?_) (fun h2 => ?_)
   ·simp [c79t, hI1 h1, h2]
    have hat := f80_ok s (j + 1)
    simp only [Int.natCast_add, Int.natCast_one] at hat
    refine ATT.callD Tryz.func79 60 (hat) (by simp) (by simp) (by simp) ?_
    simp
    first | with_reducible refine ATT.cC (fun h3 => ?_) (fun h3 => ?_) | with_reducible refine ATT.cE (fun h3 => ?_) (fun h3 => ?_) | with_reducible refine ATT.cD (fun h3 => ?_) (fun h3 => ?_) | with_reducible refine ATT.cCn (fun h3 => ?_) (fun h3 => ?_) | with_reducible refine ATT.cEn (fun h3 => ?_) (fun h3 => ?_) | with_reducible refine ATT.cDn (fun h3 => ?_) (fun h3 => ?_)
    ·have h4 : j + 1 < s.size := by unfold atS at h3; split at h3 <;> first | assumption | simp at h3
     have h5 : sbyte s ((j : Int) + 1) = 39 := by unfold atS at h3; rw [if_pos h4] at h3; simpa using h3
     have hR1 : inR ((j : Int) + 1) s.size = true := inR_of (by omega) (by omega)
     simp [c79t, hI1 h1, hI2 h1, hR1, h5]
     refine ih (j + 2, acc ++ [39]) (by first | ((try dsimp only); omega) | (simp [hR, hI1 h1, hI2 h1] <;> omega)) (by (try dsimp only); exact ⟨by rw [← hj]; exact (quoS_two h1 h2 h3).symm, by simp; omega⟩) _ _ _ (by simp <;> omega) (by simp <;> omega) (by simp [bsV] <;> omega)
    ·simp [c79t]
     first | with_reducible refine ATT.cC (fun h4 => ?_) (fun h4 => ?_) | with_reducible refine ATT.cE (fun h4 => ?_) (fun h4 => ?_) | with_reducible refine ATT.cD (fun h4 => ?_) (fun h4 => ?_) | with_reducible refine ATT.cCn (fun h4 => ?_) (fun h4 => ?_) | with_reducible refine ATT.cEn (fun h4 => ?_) (fun h4 => ?_) | with_reducible refine ATT.cDn (fun h4 => ?_) (fun h4 => ?_)
     ·simp [c79t]
      refine ATT.fin' hQ Tryz.func79 c79res ?_
      simp [← hj, quoS_one h1 h2 h3, quT, quB]
      all_goals (first | omega | exact ⟨_, rfl⟩ | skip)
     ·simp [c79t, hI1 h1]
      refine ATT.fin' hQ Tryz.func79 c79res ?_
      simp [← hj, quoS_one h1 h2 h3, quT, quB]
      all_goals (first | omega | exact ⟨_, rfl⟩ | skip)
   ·skip
    simp [c79t, hR, hI1 h1, sbyte_byte]
    refine ih (j + 1, acc ++ [byteS s j]) (by first | ((try dsimp only); omega) | (simp [hR, hI1 h1, hI2 h1, sbyte_byte] <;> omega)) (by (try dsimp only); exact ⟨by rw [← hj]; exact (quoS_more h1 h2).symm, by simp; omega⟩) _ _ _ (by simp <;> omega) (by simp <;> omega) (by simp [bsV] <;> omega)
  ·simp [c79t, h1]
   refine ATT.fin' hQ Tryz.func79 c79res ?_
   simp [← hj, quoS_end h1, quB]
   all_goals (first | omega | exact ⟨_, rfl⟩ | skip)
 ·simp [c79t, h]
  refine ATT.fin' hQ Tryz.func79 c79res ?_
  simp [quotedS, h, quB]
  all_goals (first | omega | exact ⟨_, rfl⟩ | skip)
end Go.SL
namespace Go.SL
open Go.Proofs
set_option maxRecDepth 10000
theorem skipS_le (p : Int → Bool) (s : ByteArray) : ∀ m i, s.size - i = m → i ≤ skipS p s i ∧ (i ≤ s.size → skipS p s i ≤ s.size) := by
 intro m
 induction m with
 | zero => intro i h; rw [skipS_no (by simp; omega)]; exact ⟨Nat.le_refl _, id⟩
 | succ m ih =>
  intro i h
  cases hb : (decide (i < s.size) && p (sbyte s i)) with
  | false => rw [skipS_no hb]; exact ⟨Nat.le_refl _, id⟩
  | true =>
   rw [skipS_yes hb]
   have := ih (i + 1) (by omega)
   exact ⟨by omega, fun h' => this.2 (by omega)⟩
theorem nameS_le (s : ByteArray) (i : Nat) : i ≤ nameS s i ∧ (i ≤ s.size → nameS s i ≤ s.size) := by
 unfold nameS
 split
 ·exact skipS_le _ s _ i rfl
 ·exact ⟨Nat.le_refl _, id⟩
theorem nameS_gt (s : ByteArray) (i : Nat) : i < nameS s i ↔ (decide (i < s.size) && letterS (sbyte s i)) = true := by
 unfold nameS
 split
 ·rename_i h
  simp only [h, iff_true]
  simp at h
  rw [skipS_yes (by simp [h, identS])]
  have := (skipS_le identS s _ (i + 1) rfl).1
  omega
 ·rename_i h
  simp [h]
theorem colon_lt {s : ByteArray} {i : Nat} (h : colonS s i = true) : i < s.size := by
 simp only [colonS, Bool.and_eq_true, decide_eq_true_eq] at h
 have h := h.1
 unfold atS at h
 split at h
 ·assumption
 ·simp at h
def symK (s : ByteArray) (k : Nat) : Nat := if h : colonS s k = true then symK s (nameS s (k + 1)) else k
termination_by s.size - k
decreasing_by have := colon_lt h; have := (nameS_le s (k + 1)).1; omega
theorem symK_yes {s : ByteArray} {k : Nat} (h : colonS s k = true) : symK s k = symK s (nameS s (k + 1)) := by rw [symK]; simp [h]
theorem symK_no {s : ByteArray} {k : Nat} (h : colonS s k = false) : symK s k = k := by rw [symK]; simp [h]
theorem symK_le (s : ByteArray) : ∀ m k, s.size - k = m → k ≤ symK s k ∧ (k ≤ s.size → symK s k ≤ s.size) := by
 intro m
 induction m using Nat.strongRecOn with
 | ind m ih =>
  intro k hm
  cases h : colonS s k with
  | false => rw [symK_no h]; exact ⟨Nat.le_refl _, id⟩
  | true =>
   rw [symK_yes h]
   have h1 := colon_lt h
   have h2 := nameS_le s (k + 1)
   have := ih (s.size - nameS s (k + 1)) (by omega) _ rfl
   exact ⟨by omega, fun _ => this.2 (h2.2 (by omega))⟩
theorem signsS_le (s : ByteArray) (i : Nat) : i ≤ signsS s i ∧ (i ≤ s.size → signsS s i ≤ s.size) := by
 unfold signsS
 split
 ·rename_i h
  simp at h
  split
  ·rename_i h2
   simp at h2
   exact ⟨by omega, fun _ => by omega⟩
  ·exact ⟨by omega, fun _ => by omega⟩
 ·exact ⟨Nat.le_refl _, id⟩
def symE (s : ByteArray) (i : Nat) : Nat := if i < nameS s i then symK s (nameS s i) else signsS s i
def subT (s : ByteArray) (i j : Nat) : ByteArray := s.extract i j
def symT (s : ByteArray) (i : Nat) : ByteArray := if i < symE s i then subT s i (symE s i) else quT (quotedS s i).1
def symB (s : ByteArray) (i : Nat) : Bool := if i < symE s i then decide (symE s i - i ≤ 1024) else quB (quotedS s i).1
def symN (s : ByteArray) (i : Nat) : Nat := if i < symE s i then symE s i else (quotedS s i).2
theorem f74_ok (s : ByteArray) (hs : s.size ≤ 1073741823) (i : Nat) (hi : i ≤ s.size) : MF Tryz.prog 74 [.ptr 0 0] (RD s i) (.d (.tup [.str (symT s i), .bool (symB s i)])) (RD s (symN s i)) := by
 have hg := nameS_gt s i
 have hM := f35_ok s (by omega) i
 have hle := nameS_le s i
 refine AF.start' 60 Tryz.func74 rfl rfl c74call c74ok fun Q hQ => ?_
 simp [c74c, c74t]
 generalize (decide (i < s.size) && letterS (sbyte s i)) = b at hM hg
 refine ATT.callM Tryz.func74 60 [0] (hM) rfl (by simp) (by simp) (by simp) (by simp) (by simp) ?_
 simp
 cases b with
 | true =>
  have hlt : i < nameS s i := hg.2 rfl
  have hE : symE s i = symK s (nameS s i) := by simp [symE, hlt]
  have hEb := symK_le s _ (nameS s i) rfl
  simp only [symT, symB, symN] at hQ
  rw [if_pos (by rw [hE]; omega), if_pos (by rw [hE]; omega), if_pos (by rw [hE]; omega)] at hQ
  generalize symE s i = e at hE hQ
  refine ATT.loopG 60 c74l6.eq_1 (fun (k : Nat) => s.size - k) (fun (k : Nat) => symK s k = e ∧ i < k ∧ k ≤ e ∧ k ≤ s.size) (fun (k : Nat) => [(4, V.d (.int .i64 i)), (0, V.ptr 0 0)]) (fun (k : Nat) => [.cells [.d (.str s), .d (.int .i64 k)] 76]) (fun (k : Nat) => []) (nameS s i) (by (try dsimp only); exact ⟨hE.symm, hlt, by omega, by omega⟩) (by simp <;> omega) (by simp) (by simp) ?_
  intro k u w hI ih
  try simp only at hI ih
  simp [c74t]
  refine ATT.callM Tryz.func74 60 [0] (f70_ok s (by omega) k (by omega)) rfl (by simp) (by simp) (by simp) (by simp) (by simp) ?_
  simp
  cases hc : colonS s k with
  | true =>
   have hk := colon_lt hc
   have h1 := nameS_le s (k + 1)
   have h2 := symK_yes hc
   have h3 := symK_le s _ (nameS s (k + 1)) rfl
   have hI1 : inI ((k : Int) + 1) = true := inI_of (by omega) (by omega)
   have hN := f35_ok s (by omega) (k + 1)
   simp only [Int.natCast_add, Int.natCast_one] at hN
   simp [c74t, hI1]
   refine ATT.callM Tryz.func74 60 [0] (hN) rfl (by simp) (by simp) (by simp) (by simp) (by simp) ?_
   simp
   have he : symK s (nameS s (k + 1)) = e := by rw [← h2]; exact hI.1
   refine ih (nameS s (k + 1)) (by first | ((try dsimp only); omega) | (simp <;> omega)) (by (try dsimp only); exact ⟨he, by omega, by omega, by omega⟩) _ _ _ (by simp <;> omega) (by simp <;> omega) (by simp <;> omega)
  | false =>
   have h2 := symK_no hc
   have he : e = k := by rw [← hI.1]; exact h2
   have hI1 : inI ((k : Int) - i) = true := inI_of (by omega) (by omega)
   simp [hI1]
   refine ATT.fin' hQ Tryz.func74 c74res ?_
   simp [he, subT]
   all_goals (first | omega | exact ⟨_, rfl⟩ | skip)
 | false =>
  have hlt : ¬ i < nameS s i := fun h => by simpa using hg.1 h
  have hn : nameS s i = i := by omega
  have hE : symE s i = signsS s i := by simp [symE, hlt]
  have hb := signsS_le s i
  have hSg := f75_ok s (by omega) i (by omega)
  simp [c74t, hn]
  refine ATT.callM Tryz.func74 60 [0] (hSg) rfl (by simp) (by simp) (by simp) (by simp) (by simp) ?_
  simp
  by_cases h1 : i < signsS s i
  ·simp only [symT, symB, symN] at hQ
   rw [if_pos (by rw [hE]; exact h1), if_pos (by rw [hE]; exact h1), if_pos (by rw [hE]; exact h1)] at hQ
   have hI1 : inI ((signsS s i : Int) - i) = true := inI_of (by omega) (by omega)
   simp [h1, hI1]
   refine ATT.fin' hQ Tryz.func74 c74res ?_
   simp [hE, subT]
   all_goals (first | omega | exact ⟨_, rfl⟩ | skip)
  ·simp only [symT, symB, symN] at hQ
   rw [if_neg (by rw [hE]; exact h1), if_neg (by rw [hE]; exact h1), if_neg (by rw [hE]; exact h1)] at hQ
   have hs0 : signsS s i = i := by omega
   simp [c74t, hs0]
   refine ATT.callM Tryz.func74 60 [0] (f72_ok s (by omega) i (by omega)) rfl (by simp) (by simp) (by simp) (by simp) (by simp) ?_
   simp
   refine ATT.fin' hQ Tryz.func74 c74res ?_
   simp
   all_goals (first | omega | exact ⟨_, rfl⟩ | skip)
theorem f81_ok (s : ByteArray) (hs : s.size ≤ 1073741823) (i : Nat) (hi : i ≤ s.size) :
  DF Tryz.prog 81 [.str s, .int .i64 i] (.tup [.str (if symB s i then symT s i else ⟨#[]⟩), .int .i64 (if symB s i then symN s i else -1)]) := by
 have hle := nameS_le s i
 refine AF.start' 60 Tryz.func81 rfl rfl c81call c81ok fun Q hQ => ?_
 simp [c81c, c81t]
 refine ATT.callD Tryz.func81 60 (f36_ok s (by omega) i) (by simp) (by simp) (by simp) ?_
 simp [c81t]
 by_cases hlt : i < nameS s i
 ·have hE : symE s i = symK s (nameS s i) := by simp [symE, hlt]
  have hEb := symK_le s _ (nameS s i) rfl
  have hlt2 : i < symE s i := by rw [hE]; omega
  simp only [symT, symB, symN, hlt2, if_true, decide_eq_true_eq] at hQ
  generalize symE s i = e at hE hQ
  simp [hlt]
  refine ATT.loopG 60 c81l5.eq_1 (fun (k : Nat) => s.size - k) (fun (k : Nat) => symK s k = e ∧ i < k ∧ k ≤ e ∧ k ≤ s.size) (fun (k : Nat) => [(0, V.d (.str s)), (1, V.d (.int .i64 i)), (6, V.d (.int .i64 k))]) (fun (k : Nat) => []) (fun (k : Nat) => []) (nameS s i) (by (try dsimp only); exact ⟨hE.symm, hlt, by omega, by omega⟩) (by simp <;> omega) (by simp) (by simp) ?_
  intro k u w hI ih
  try simp only at hI ih
  simp [c81t]
  refine ATT.callD Tryz.func81 60 (f77_ok s k (by omega)) (by simp) (by simp) (by simp) ?_
  simp
  cases hc : colonS s k with
  | true =>
   have hk := colon_lt hc
   have h1 := nameS_le s (k + 1)
   have h2 := symK_yes hc
   have h3 := symK_le s _ (nameS s (k + 1)) rfl
   have hI1 : inI ((k : Int) + 1) = true := inI_of (by omega) (by omega)
   have hN := f36_ok s (by omega) (k + 1)
   simp only [Int.natCast_add, Int.natCast_one] at hN
   simp [c81t, hI1]
   refine ATT.callD Tryz.func81 60 (hN) (by simp) (by simp) (by simp) ?_
   simp
   have he : symK s (nameS s (k + 1)) = e := by rw [← h2]; exact hI.1
   refine ih (nameS s (k + 1)) (by first | ((try dsimp only); omega) | (simp <;> omega)) (by (try dsimp only); exact ⟨he, by omega, by omega, by omega⟩) _ _ _ (by simp <;> omega) (by simp <;> omega) (by simp <;> omega)
  | false =>
   have h2 := symK_no hc
   have he : e = k := by rw [← hI.1]; exact h2
   have hI1 : inI ((k : Int) - i) = true := inI_of (by omega) (by omega)
   have hik : (i : Int) < k := by omega
   simp [c81t, hI1, hik]
   first | with_reducible refine ATT.cC (fun h5 => ?_) (fun h5 => ?_) | with_reducible refine ATT.cE (fun h5 => ?_) (fun h5 => ?_) | with_reducible refine ATT.cD (fun h5 => ?_) (fun h5 => ?_) | with_reducible refine ATT.cCn (fun h5 => ?_) (fun h5 => ?_) | with_reducible refine ATT.cEn (fun h5 => ?_) (fun h5 => ?_) | with_reducible refine ATT.cDn (fun h5 => ?_) (fun h5 => ?_)
   ·have h6 : ¬ k - i ≤ 1024 := by omega
    simp [c81t]
    refine ATT.fin' hQ Tryz.func81 c81res ?_
    simp [he, h6]
    all_goals (first | omega | exact ⟨_, rfl⟩ | skip)
   ·have h6 : k - i ≤ 1024 := by omega
    simp [c81t]
    refine ATT.fin' hQ Tryz.func81 c81res ?_
    simp [he, h6, subT]
    all_goals (first | omega | exact ⟨_, rfl⟩ | skip)
 ·have hn : nameS s i = i := by omega
  have hE : symE s i = signsS s i := by simp [symE, hlt]
  have hb := signsS_le s i
  simp only [symT, symB, symN, hE] at hQ
  simp [c81t, hlt]
  refine ATT.callD Tryz.func81 60 (f83_ok s (by omega) i (by omega)) (by simp) (by simp) (by simp) ?_
  simp [c81t]
  by_cases h1 : i < signsS s i
  ·have hI1 : inI ((signsS s i : Int) - i) = true := inI_of (by omega) (by omega)
   simp [c81t, h1, hI1]
   first | with_reducible refine ATT.cC (fun h5 => ?_) (fun h5 => ?_) | with_reducible refine ATT.cE (fun h5 => ?_) (fun h5 => ?_) | with_reducible refine ATT.cD (fun h5 => ?_) (fun h5 => ?_) | with_reducible refine ATT.cCn (fun h5 => ?_) (fun h5 => ?_) | with_reducible refine ATT.cEn (fun h5 => ?_) (fun h5 => ?_) | with_reducible refine ATT.cDn (fun h5 => ?_) (fun h5 => ?_)
   ·have h6 : ¬ signsS s i - i ≤ 1024 := by omega
    simp [c81t]
    refine ATT.fin' hQ Tryz.func81 c81res ?_
    simp [h1, h6]
    all_goals (first | omega | exact ⟨_, rfl⟩ | skip)
   ·have h6 : signsS s i - i ≤ 1024 := by omega
    simp [c81t]
    refine ATT.fin' hQ Tryz.func81 c81res ?_
    simp [h1, h6, subT]
    all_goals (first | omega | exact ⟨_, rfl⟩ | skip)
  ·simp [c81t, h1]
   refine ATT.callD Tryz.func81 60 (f79_ok s (by omega) i (by omega)) (by simp) (by simp) (by simp) ?_
   simp
   refine ATT.fin' hQ Tryz.func81 c81res ?_
   simp [h1]
   all_goals (first | omega | exact ⟨_, rfl⟩ | skip)
end Go.SL
namespace Go.SL
open Go.Proofs
set_option maxRecDepth 10000
def singlesT : ByteArray := ⟨#[40, 41, 91, 93, 124, 94, 46, 59]⟩
def wordS (num : ByteArray → Bool) (s : ByteArray) (i : Nat) : Option (Int × ByteArray × Nat) :=
 if letterS (sbyte s i) then (if colonS s (nameS s i) then some (2, subT s i (nameS s i + 1), nameS s i + 1) else some (1, subT s i (nameS s i), nameS s i))
 else if digitS (sbyte s i) then (if num (subT s i (skipS digitS s i)) then some (4, subT s i (skipS digitS s i), skipS digitS s i) else none)
 else if sbyte s i = 39 then (if quB (quotedS s i).1 then some (5, quT (quotedS s i).1, (quotedS s i).2) else none)
 else if sbyte s i = 35 then (if atS s (i + 1) = 40 then some (17, subT s i (i + 2), i + 2) else if symB s (i + 1) then some (6, symT s (i + 1), symN s (i + 1)) else none)
 else if sbyte s i = 58 then (if atS s (i + 1) = 61 then some (7, subT s i (i + 2), i + 2) else some (16, subT s i (i + 1), i + 1))
 else if signS (sbyte s i) then some (3, subT s i (signsS s i), signsS s i)
 else if 0 ≤ placeS (sbyte s i) singlesT 0 then some (8 + placeS (sbyte s i) singlesT 0, subT s i (i + 1), i + 1)
 else none
def tokD (k : Int) (t : ByteArray) (a : Nat) : D := .agg [.int .i64 k, .str t, .int .i64 a]
def digs (t : ByteArray) : Prop := 0 < t.size ∧ ∀ i : Nat, i < t.size → digitS (sbyte t i) = true
def NumP (f : FuncId) (num : ByteArray → Bool) : Prop := ∀ t, digs t → t.size ≤ 1073741824 → DE Tryz.prog f [.str t] fun v => ∃ b nl sz xs e, v = .tup [.agg [.bool b, .sl nl sz xs], .int .i64 e] ∧ (e = 0 ↔ num t = true)
theorem subT_size {s : ByteArray} {i j : Nat} (h : i ≤ j) (hj : j ≤ s.size) : (subT s i j).size = j - i := by
 simp [subT]; omega
theorem sbyte_sub {s : ByteArray} {i j k : Nat} (h : i + k < j) (hj : j ≤ s.size) : sbyte (subT s i j) k = sbyte s (i + k : Nat) := by
 have hj' : j ≤ s.data.size := hj
 simp only [sbyte, subT, ByteArray.data_extract, Int.toNat_natCast]
 congr 2
 simp only [List.getD_eq_getElem?_getD, Array.getElem?_toList]
 rw [Array.getElem?_extract]
 simp
 rw [if_pos (by omega)]
theorem skipS_all {p : Int → Bool} {s : ByteArray} : ∀ m i, s.size - i = m → ∀ j : Nat, i ≤ j → j < skipS p s i → p (sbyte s j) = true := by
 intro m
 induction m with
 | zero => intro i hm j h1 h2; rw [skipS_no (by simp; omega)] at h2; omega
 | succ m ih =>
  intro i hm j h1 h2
  cases hb : (decide (i < s.size) && p (sbyte s i)) with
  | false => rw [skipS_no hb] at h2; omega
  | true =>
   rw [skipS_yes hb] at h2
   by_cases hj : j = i
   ·subst hj; simp at hb; exact hb.2
   ·exact ih (i + 1) (by omega) j (by omega) h2
theorem digs_sub {s : ByteArray} {i : Nat} (hi : i < s.size) (hd : digitS (sbyte s i) = true) : digs (subT s i (skipS digitS s i)) := by
 have h1 := skipS_le digitS s _ i rfl
 have h2 : i < skipS digitS s i := by
  rw [skipS_yes (by simp [hi, hd])]
  have := (skipS_le digitS s _ (i + 1) rfl).1
  omega
 refine ⟨by rw [subT_size h1.1 (h1.2 (by omega))]; omega, fun k hk => ?_⟩
 rw [subT_size h1.1 (h1.2 (by omega))] at hk
 rw [sbyte_sub (by omega) (h1.2 (by omega))]
 exact skipS_all _ i rfl _ (by omega) (by omega)
def placeL (c : Int) : List UInt8 → Nat → Int
 | [], _ => -1
 | x :: r, i => if (x.toNat : Int) = c then i else placeL c r (i + 1)
theorem placeS_L (c : Int) (s : ByteArray) : ∀ m i, s.size - i = m → placeS c s i = placeL c (s.data.toList.drop i) i := by
 intro m
 induction m with
 | zero =>
  intro i h
  rw [placeS]
  have : s.data.toList.drop i = [] := List.drop_eq_nil_of_le (by simp; have : s.size = s.data.size := rfl; omega)
  rw [this]
  simp [show ¬ i < s.size by omega, placeL]
 | succ m ih =>
  intro i h
  have hi : i < s.data.toList.length := by simp; have : s.size = s.data.size := rfl; omega
  rw [placeS, List.drop_eq_getElem_cons hi, placeL, ← ih (i + 1) (by omega)]
  have h1 : i < s.size := by omega
  simp only [h1, dite_true]
  have h2 : sbyte s i = ((s.data.toList[i]).toNat : Int) := by simp [sbyte, List.getD_eq_getElem?_getD, h1]
  rw [h2]
theorem atS_lt {s : ByteArray} {i : Nat} (h : atS s i ≠ 0) : i < s.size := by
 unfold atS at h
 split at h
 ·assumption
 ·exact absurd rfl h
theorem signsS_gt (s : ByteArray) (i : Nat) : i < signsS s i ↔ (decide (i < s.size) && signS (sbyte s i)) = true := by
 unfold signsS
 split
 ·rename_i h
  simp only [h, iff_true]
  split <;> omega
 ·rename_i h
  simp [h]
theorem singlesA : Ascii singlesT := by unfold Ascii; decide
theorem colon_sign : signS 58 = false := by
 unfold signS
 rw [placeS_L _ _ _ 0 rfl]
 decide
def WordQ (num : ByteArray → Bool) (s : ByteArray) (i : Nat) (o : Out) (h : H) : Prop :=
 ∃ k' t' a' j r w, o = .ret (.d (.tup [tokD k' t' a', .bool (wordS num s i).isSome])) ∧ h = ⟨RD s j ++ r, w⟩ ∧ ∀ k t e, wordS num s i = some (k, t, e) → k' = k ∧ t' = t ∧ a' = i ∧ j = e
section
variable {num : ByteArray → Bool} (s : ByteArray) (hs : s.size ≤ 1073741820) (i : Nat) (hi : i < s.size)
include hs hi
theorem f45_letter (hl : letterS (sbyte s i) = true) : AF Tryz.prog 45 [.ptr 0 0] ⟨RD s i, []⟩ (WordQ num s i) := by
 have hR : inR (i : Int) s.size = true := inR_of (by omega) (by omega)
 have hNm := f35_ok s (by omega) i
 have hNl := nameS_le s i
 have hI3 : inI ((nameS s i : Int) + 1) = true := inI_of (by omega) (by omega)
 rw [hl] at hNm
 refine AF.start' 60 Tryz.func45 rfl rfl c45call c45ok fun Q hQ => ?_
 simp [c45c, c45t, hR]
 refine ATT.callD Tryz.func45 60 (f64_ok (sbyte s i) (sbyte_bd s i).1 (sbyte_bd s i).2) (by simp) (by simp) (by simp) ?_
 simp [c45t, hl]
 refine ATT.callM Tryz.func45 60 [0] (hNm) rfl (by simp) (by simp) (by simp) (by simp) (by simp) ?_
 simp [c45t]
 refine ATT.callM Tryz.func45 60 [0] (f70_ok s (by omega) (nameS s i) (by omega)) rfl (by simp) (by simp) (by simp) (by simp) (by simp) ?_
 simp
 cases hc : colonS s (nameS s i) with
 | true =>
  have := colon_lt hc
  simp [c45t, hI3]
  refine ATT.fin' hQ Tryz.func45 c45res ?_
  simp [hl, WordQ, wordS, hc, tokD, subT]
  all_goals (first | omega | exact ⟨_, rfl⟩ | exact ⟨⟨_, rfl⟩, _, rfl⟩ | exact ⟨_, _, _, ⟨rfl, rfl, rfl⟩, _, rfl, rfl, rfl, rfl, rfl⟩ | exact ⟨_, _, _, ⟨rfl, rfl, rfl⟩, _, by omega, rfl, rfl, rfl, rfl⟩ | exact ⟨by omega, _, _, _, ⟨rfl, rfl, rfl⟩, _, by omega, rfl, rfl, rfl, rfl⟩ | skip)
 | false =>
  simp [c45t]
  refine ATT.fin' hQ Tryz.func45 c45res ?_
  simp [hl, WordQ, wordS, hc, tokD, subT]
  all_goals (first | omega | exact ⟨_, rfl⟩ | exact ⟨⟨_, rfl⟩, _, rfl⟩ | exact ⟨_, _, _, ⟨rfl, rfl, rfl⟩, _, rfl, rfl, rfl, rfl, rfl⟩ | exact ⟨_, _, _, ⟨rfl, rfl, rfl⟩, _, by omega, rfl, rfl, rfl, rfl⟩ | exact ⟨by omega, _, _, _, ⟨rfl, rfl, rfl⟩, _, by omega, rfl, rfl, rfl, rfl⟩ | skip)
theorem f45_digit (hW : NumP 71 num) (hl : letterS (sbyte s i) = false) (hd : digitS (sbyte s i) = true) : AF Tryz.prog 45 [.ptr 0 0] ⟨RD s i, []⟩ (WordQ num s i) := by
 have hR : inR (i : Int) s.size = true := inR_of (by omega) (by omega)
 have hkl := skipS_le digitS s _ i rfl
 have hdg := digs_sub hi hd
 have hsz := subT_size (s := s) hkl.1 (hkl.2 (by omega))
 have hk1 := hkl.1
 have hk2 := hkl.2 (by omega)
 refine AF.start' 60 Tryz.func45 rfl rfl c45call c45ok fun Q hQ => ?_
 simp [c45c, c45t, hR]
 refine ATT.callD Tryz.func45 60 (f64_ok (sbyte s i) (sbyte_bd s i).1 (sbyte_bd s i).2) (by simp) (by simp) (by simp) ?_
 simp [c45t, hl]
 refine ATT.callD Tryz.func45 60 (f66_ok (sbyte s i)) (by simp) (by simp) (by simp) ?_
 simp [c45t, hd]
 refine ATT.callM Tryz.func45 60 [0] (f41_ok digitB s (by omega) i) rfl (by simp) (by simp) (by simp) (by simp) (by simp) ?_
 simp
 refine ATT.ords 60 (by simp <;> omega) fun o ho => ?_
 simp only [List.mem_cons, List.mem_nil_iff, or_false] at ho
 rcases ho with ho | ho <;> subst ho
 simp [hk1, hk2]
 ·refine ATT.callRE Tryz.func45 60 (hW _ hdg (by omega)) (by simp) (by simp [subT]) (by simp) fun _ hE => ?_
  obtain ⟨b, nl, sz, xs, e, rfl, he⟩ := hE
  simp [c45t, hk1, hk2]
  cases hn : num (subT s i (skipS digitS s i)) <;> rw [hn] at he <;> simp only [subT] at hn
  ·refine ATT.fin' hQ Tryz.func45 c45res ?_
   simp [hl, hd, subT, WordQ, wordS, hn, tokD, he]
   all_goals (first | omega | exact ⟨_, rfl⟩ | exact ⟨⟨_, rfl⟩, _, rfl⟩ | exact ⟨_, _, _, ⟨rfl, rfl, rfl⟩, _, rfl, rfl, rfl, rfl, rfl⟩ | exact ⟨_, _, _, ⟨rfl, rfl, rfl⟩, _, by omega, rfl, rfl, rfl, rfl⟩ | exact ⟨by omega, _, _, _, ⟨rfl, rfl, rfl⟩, _, by omega, rfl, rfl, rfl, rfl⟩ | skip)
  ·refine ATT.fin' hQ Tryz.func45 c45res ?_
   simp [hl, hd, subT, WordQ, wordS, hn, tokD, he]
   all_goals (first | omega | exact ⟨_, rfl⟩ | exact ⟨⟨_, rfl⟩, _, rfl⟩ | exact ⟨_, _, _, ⟨rfl, rfl, rfl⟩, _, rfl, rfl, rfl, rfl, rfl⟩ | exact ⟨_, _, _, ⟨rfl, rfl, rfl⟩, _, by omega, rfl, rfl, rfl, rfl⟩ | exact ⟨by omega, _, _, _, ⟨rfl, rfl, rfl⟩, _, by omega, rfl, rfl, rfl, rfl⟩ | skip)
 ·refine ATT.callRE Tryz.func45 60 (hW _ hdg (by omega)) (by simp) (by simp [subT]) (by simp [hk1, hk2]) fun _ hE => ?_
  obtain ⟨b, nl, sz, xs, e, rfl, he⟩ := hE
  simp [c45t, hk1, hk2]
  cases hn : num (subT s i (skipS digitS s i)) <;> rw [hn] at he <;> simp only [subT] at hn
  ·refine ATT.fin' hQ Tryz.func45 c45res ?_
   simp [hl, hd, subT, WordQ, wordS, hn, tokD, he]
   all_goals (first | omega | exact ⟨_, rfl⟩ | exact ⟨⟨_, rfl⟩, _, rfl⟩ | exact ⟨_, _, _, ⟨rfl, rfl, rfl⟩, _, rfl, rfl, rfl, rfl, rfl⟩ | exact ⟨_, _, _, ⟨rfl, rfl, rfl⟩, _, by omega, rfl, rfl, rfl, rfl⟩ | exact ⟨by omega, _, _, _, ⟨rfl, rfl, rfl⟩, _, by omega, rfl, rfl, rfl, rfl⟩ | skip)
  ·refine ATT.fin' hQ Tryz.func45 c45res ?_
   simp [hl, hd, subT, WordQ, wordS, hn, tokD, he]
   all_goals (first | omega | exact ⟨_, rfl⟩ | exact ⟨⟨_, rfl⟩, _, rfl⟩ | exact ⟨_, _, _, ⟨rfl, rfl, rfl⟩, _, rfl, rfl, rfl, rfl, rfl⟩ | exact ⟨_, _, _, ⟨rfl, rfl, rfl⟩, _, by omega, rfl, rfl, rfl, rfl⟩ | exact ⟨by omega, _, _, _, ⟨rfl, rfl, rfl⟩, _, by omega, rfl, rfl, rfl, rfl⟩ | skip)
theorem f45_quote (h39 : sbyte s i = 39) : AF Tryz.prog 45 [.ptr 0 0] ⟨RD s i, []⟩ (WordQ num s i) := by
 have hR : inR (i : Int) s.size = true := inR_of (by omega) (by omega)
 have hl : letterS (sbyte s i) = false := by rw [h39]; decide
 have hd : digitS (sbyte s i) = false := by rw [h39]; decide
 have n35 : ¬ sbyte s i = 35 := by rw [h39]; decide
 have n58 : ¬ sbyte s i = 58 := by rw [h39]; decide
 refine AF.start' 60 Tryz.func45 rfl rfl c45call c45ok fun Q hQ => ?_
 simp [c45c, c45t, hR]
 refine ATT.callD Tryz.func45 60 (f64_ok (sbyte s i) (sbyte_bd s i).1 (sbyte_bd s i).2) (by simp) (by simp) (by simp) ?_
 simp [c45t, hl]
 refine ATT.callD Tryz.func45 60 (f66_ok (sbyte s i)) (by simp) (by simp) (by simp) ?_
 simp [c45t, eq_true h39, hd]
 refine ATT.callM Tryz.func45 60 [0] (f72_ok s (by omega) i (by omega)) rfl (by simp) (by simp) (by simp) (by simp) (by simp) ?_
 simp [c45t]
 cases hq : quB (quotedS s i).1 with
 | true => refine ATT.fin' hQ Tryz.func45 c45res ?_
           simp [eq_true h39, hl, hd, WordQ, wordS, tokD, hq]
           all_goals (first | omega | exact ⟨_, rfl⟩ | exact ⟨⟨_, rfl⟩, _, rfl⟩ | exact ⟨_, _, _, ⟨rfl, rfl, rfl⟩, _, rfl, rfl, rfl, rfl, rfl⟩ | exact ⟨_, _, _, ⟨rfl, rfl, rfl⟩, _, by omega, rfl, rfl, rfl, rfl⟩ | exact ⟨by omega, _, _, _, ⟨rfl, rfl, rfl⟩, _, by omega, rfl, rfl, rfl, rfl⟩ | skip)
 | false => refine ATT.fin' hQ Tryz.func45 c45res ?_
            simp [eq_true h39, hl, hd, WordQ, wordS, tokD, hq]
            all_goals (first | omega | exact ⟨_, rfl⟩ | exact ⟨⟨_, rfl⟩, _, rfl⟩ | exact ⟨_, _, _, ⟨rfl, rfl, rfl⟩, _, rfl, rfl, rfl, rfl, rfl⟩ | exact ⟨_, _, _, ⟨rfl, rfl, rfl⟩, _, by omega, rfl, rfl, rfl, rfl⟩ | exact ⟨by omega, _, _, _, ⟨rfl, rfl, rfl⟩, _, by omega, rfl, rfl, rfl, rfl⟩ | skip)
theorem f45_hash (h35 : sbyte s i = 35) : AF Tryz.prog 45 [.ptr 0 0] ⟨RD s i, []⟩ (WordQ num s i) := by
 have hR : inR (i : Int) s.size = true := inR_of (by omega) (by omega)
 have hI1 : inI ((i : Int) + 1) = true := inI_of (by omega) (by omega)
 have hI2 : inI ((i : Int) + 2) = true := inI_of (by omega) (by omega)
 have hl : letterS (sbyte s i) = false := by rw [h35]; decide
 have hd : digitS (sbyte s i) = false := by rw [h35]; decide
 have n39 : ¬ sbyte s i = 39 := by rw [h35]; decide
 have n58 : ¬ sbyte s i = 58 := by rw [h35]; decide
 refine AF.start' 60 Tryz.func45 rfl rfl c45call c45ok fun Q hQ => ?_
 simp [c45c, c45t, hR]
 refine ATT.callD Tryz.func45 60 (f64_ok (sbyte s i) (sbyte_bd s i).1 (sbyte_bd s i).2) (by simp) (by simp) (by simp) ?_
 simp [c45t, hl]
 refine ATT.callD Tryz.func45 60 (f66_ok (sbyte s i)) (by simp) (by simp) (by simp) ?_
 simp [c45t, eq_true h35, hd, n39]
 refine ATT.callM Tryz.func45 60 [0] (f73_ok s (by omega) i 1 (by omega) (by omega)) rfl (by simp) (by simp) (by simp) (by simp) (by simp) ?_
 simp
 first | with_reducible refine ATT.cC (fun h40 => ?_) (fun h40 => ?_) | with_reducible refine ATT.cE (fun h40 => ?_) (fun h40 => ?_) | with_reducible refine ATT.cD (fun h40 => ?_) (fun h40 => ?_) | with_reducible refine ATT.cCn (fun h40 => ?_) (fun h40 => ?_) | with_reducible refine ATT.cEn (fun h40 => ?_) (fun h40 => ?_) | with_reducible refine ATT.cDn (fun h40 => ?_) (fun h40 => ?_)
 ·have hlt := atS_lt (s := s) (i := i + 1) (by rw [h40]; decide)
  have ht2 : ((i : Int) + 2).toNat = i + 2 := by omega
  have hb2 : (i : Int) ≤ i + 2 ∧ (i : Int) + 2 ≤ s.size := by omega
  simp [c45t, hI2, h40]
  refine ATT.fin' hQ Tryz.func45 c45res ?_
  simp [eq_true h35, hl, hd, n39, WordQ, wordS, h40, tokD, subT, ht2, hb2]
  all_goals (first | omega | exact ⟨_, rfl⟩ | exact ⟨⟨_, rfl⟩, _, rfl⟩ | exact ⟨_, _, _, ⟨rfl, rfl, rfl⟩, _, rfl, rfl, rfl, rfl, rfl⟩ | exact ⟨_, _, _, ⟨rfl, rfl, rfl⟩, _, by omega, rfl, rfl, rfl, rfl⟩ | exact ⟨by omega, _, _, _, ⟨rfl, rfl, rfl⟩, _, by omega, rfl, rfl, rfl, rfl⟩ | skip)
 ·simp [c45t, eq_true h35, hI1, h40]
  refine ATT.callM Tryz.func45 60 [0] (f74_ok s (by omega) (i + 1) (by omega)) rfl (by simp) (by simp) (by simp) (by simp) (by simp) ?_
  simp [c45t]
  cases hq : symB s (i + 1) with
  | true => refine ATT.fin' hQ Tryz.func45 c45res ?_
            simp [eq_true h35, hl, hd, n39, WordQ, wordS, h40, tokD, hq]
            all_goals (first | omega | exact ⟨_, rfl⟩ | exact ⟨⟨_, rfl⟩, _, rfl⟩ | exact ⟨_, _, _, ⟨rfl, rfl, rfl⟩, _, rfl, rfl, rfl, rfl, rfl⟩ | exact ⟨_, _, _, ⟨rfl, rfl, rfl⟩, _, by omega, rfl, rfl, rfl, rfl⟩ | exact ⟨by omega, _, _, _, ⟨rfl, rfl, rfl⟩, _, by omega, rfl, rfl, rfl, rfl⟩ | skip)
  | false => refine ATT.fin' hQ Tryz.func45 c45res ?_
             simp [eq_true h35, hl, hd, n39, WordQ, wordS, h40, tokD, hq]
             all_goals (first | omega | exact ⟨_, rfl⟩ | exact ⟨⟨_, rfl⟩, _, rfl⟩ | exact ⟨_, _, _, ⟨rfl, rfl, rfl⟩, _, rfl, rfl, rfl, rfl, rfl⟩ | exact ⟨_, _, _, ⟨rfl, rfl, rfl⟩, _, by omega, rfl, rfl, rfl, rfl⟩ | exact ⟨by omega, _, _, _, ⟨rfl, rfl, rfl⟩, _, by omega, rfl, rfl, rfl, rfl⟩ | skip)
theorem f45_colon (h58 : sbyte s i = 58) : AF Tryz.prog 45 [.ptr 0 0] ⟨RD s i, []⟩ (WordQ num s i) := by
 have hR : inR (i : Int) s.size = true := inR_of (by omega) (by omega)
 have hI1 : inI ((i : Int) + 1) = true := inI_of (by omega) (by omega)
 have hI2 : inI ((i : Int) + 2) = true := inI_of (by omega) (by omega)
 have hl : letterS (sbyte s i) = false := by rw [h58]; decide
 have hd : digitS (sbyte s i) = false := by rw [h58]; decide
 have n39 : ¬ sbyte s i = 39 := by rw [h58]; decide
 have n35 : ¬ sbyte s i = 35 := by rw [h58]; decide
 refine AF.start' 60 Tryz.func45 rfl rfl c45call c45ok fun Q hQ => ?_
 simp [c45c, c45t, hR]
 refine ATT.callD Tryz.func45 60 (f64_ok (sbyte s i) (sbyte_bd s i).1 (sbyte_bd s i).2) (by simp) (by simp) (by simp) ?_
 simp [c45t, hl]
 refine ATT.callD Tryz.func45 60 (f66_ok (sbyte s i)) (by simp) (by simp) (by simp) ?_
 simp [c45t, eq_true h58, hd, n39, n35]
 refine ATT.callM Tryz.func45 60 [0] (f73_ok s (by omega) i 1 (by omega) (by omega)) rfl (by simp) (by simp) (by simp) (by simp) (by simp) ?_
 simp
 first | with_reducible refine ATT.cC (fun h61 => ?_) (fun h61 => ?_) | with_reducible refine ATT.cE (fun h61 => ?_) (fun h61 => ?_) | with_reducible refine ATT.cD (fun h61 => ?_) (fun h61 => ?_) | with_reducible refine ATT.cCn (fun h61 => ?_) (fun h61 => ?_) | with_reducible refine ATT.cEn (fun h61 => ?_) (fun h61 => ?_) | with_reducible refine ATT.cDn (fun h61 => ?_) (fun h61 => ?_)
 ·have hlt := atS_lt (s := s) (i := i + 1) (by rw [h61]; decide)
  have ht2 : ((i : Int) + 2).toNat = i + 2 := by omega
  have hb2 : (i : Int) ≤ i + 2 ∧ (i : Int) + 2 ≤ s.size := by omega
  simp [c45t, hI2, h61]
  refine ATT.fin' hQ Tryz.func45 c45res ?_
  simp [eq_true h58, hl, hd, n39, n35, WordQ, wordS, h61, tokD, subT, ht2, hb2]
  all_goals (first | omega | exact ⟨_, rfl⟩ | exact ⟨⟨_, rfl⟩, _, rfl⟩ | exact ⟨_, _, _, ⟨rfl, rfl, rfl⟩, _, rfl, rfl, rfl, rfl, rfl⟩ | exact ⟨_, _, _, ⟨rfl, rfl, rfl⟩, _, by omega, rfl, rfl, rfl, rfl⟩ | exact ⟨by omega, _, _, _, ⟨rfl, rfl, rfl⟩, _, by omega, rfl, rfl, rfl, rfl⟩ | skip)
 ·simp [c45t, eq_true h58, hI1, h61]
  refine ATT.fin' hQ Tryz.func45 c45res ?_
  simp [eq_true h58, hl, hd, n39, n35, WordQ, wordS, h61, tokD, subT]
  all_goals (first | omega | exact ⟨_, rfl⟩ | exact ⟨⟨_, rfl⟩, _, rfl⟩ | exact ⟨_, _, _, ⟨rfl, rfl, rfl⟩, _, rfl, rfl, rfl, rfl, rfl⟩ | exact ⟨_, _, _, ⟨rfl, rfl, rfl⟩, _, by omega, rfl, rfl, rfl, rfl⟩ | exact ⟨by omega, _, _, _, ⟨rfl, rfl, rfl⟩, _, by omega, rfl, rfl, rfl, rfl⟩ | skip)
theorem f45_sign (hl : letterS (sbyte s i) = false) (hd : digitS (sbyte s i) = false) (h39 : ¬ sbyte s i = 39) (h35 : ¬ sbyte s i = 35) (h58 : ¬ sbyte s i = 58) (hsg : signS (sbyte s i) = true) : AF Tryz.prog 45 [.ptr 0 0] ⟨RD s i, []⟩ (WordQ num s i) := by
 have hR : inR (i : Int) s.size = true := inR_of (by omega) (by omega)
 have hlt : i < signsS s i := (signsS_gt s i).2 (by simp [hi, hsg])
 have hsl := signsS_le s i
 refine AF.start' 60 Tryz.func45 rfl rfl c45call c45ok fun Q hQ => ?_
 simp [c45c, c45t, hR]
 refine ATT.callD Tryz.func45 60 (f64_ok (sbyte s i) (sbyte_bd s i).1 (sbyte_bd s i).2) (by simp) (by simp) (by simp) ?_
 simp [c45t, hl]
 refine ATT.callD Tryz.func45 60 (f66_ok (sbyte s i)) (by simp) (by simp) (by simp) ?_
 simp [c45t, hd, h39, h35, h58]
 refine ATT.callM Tryz.func45 60 [0] (f75_ok s (by omega) i (by omega)) rfl (by simp) (by simp) (by simp) (by simp) (by simp) ?_
 simp [c45t, hlt]
 refine ATT.fin' hQ Tryz.func45 c45res ?_
 simp [hl, hd, h39, h35, h58, WordQ, wordS, hsg, tokD, subT]
 all_goals (first | omega | exact ⟨_, rfl⟩ | exact ⟨⟨_, rfl⟩, _, rfl⟩ | exact ⟨_, _, _, ⟨rfl, rfl, rfl⟩, _, rfl, rfl, rfl, rfl, rfl⟩ | exact ⟨_, _, _, ⟨rfl, rfl, rfl⟩, _, by omega, rfl, rfl, rfl, rfl⟩ | exact ⟨by omega, _, _, _, ⟨rfl, rfl, rfl⟩, _, by omega, rfl, rfl, rfl, rfl⟩ | skip)
theorem f45_single (hl : letterS (sbyte s i) = false) (hd : digitS (sbyte s i) = false) (h39 : ¬ sbyte s i = 39) (h35 : ¬ sbyte s i = 35) (h58 : ¬ sbyte s i = 58) (hsg : signS (sbyte s i) = false) : AF Tryz.prog 45 [.ptr 0 0] ⟨RD s i, []⟩ (WordQ num s i) := by
 have hR : inR (i : Int) s.size = true := inR_of (by omega) (by omega)
 have hI1 : inI ((i : Int) + 1) = true := inI_of (by omega) (by omega)
 have hlt : ¬ i < signsS s i := fun h => by
  have := (signsS_gt s i).1 h
  simp [hsg] at this
 have hs0 : signsS s i = i := by have := (signsS_le s i).1; omega
 have hp := place_bd (sbyte s i) singlesT _ 0 rfl
 have hps : singlesT.size = 8 := by decide
 have hI3 : inI (8 + placeS (sbyte s i) singlesT 0) = true := inI_of (by omega) (by omega)
 have hP := f43_ok (sbyte s i) singlesT singlesA
 have hb1 : (i : Int) ≤ i + 1 ∧ (i : Int) + 1 ≤ s.size := by omega
 have ht1 : ((i : Int) + 1).toNat = i + 1 := by omega
 have hsT : (⟨#[40, 41, 91, 93, 124, 94, 46, 59]⟩ : ByteArray) = singlesT := rfl
 refine AF.start' 60 Tryz.func45 rfl rfl c45call c45ok fun Q hQ => ?_
 simp [c45c, c45t, hR]
 refine ATT.callD Tryz.func45 60 (f64_ok (sbyte s i) (sbyte_bd s i).1 (sbyte_bd s i).2) (by simp) (by simp) (by simp) ?_
 simp [c45t, hl]
 refine ATT.callD Tryz.func45 60 (f66_ok (sbyte s i)) (by simp) (by simp) (by simp) ?_
 simp [c45t, hd, h39, h35, h58]
 refine ATT.callM Tryz.func45 60 [0] (f75_ok s (by omega) i (by omega)) rfl (by simp) (by simp) (by simp) (by simp) (by simp) ?_
 simp [c45t, hs0, hsT]
 refine ATT.callD Tryz.func45 60 (hP) (by simp) (by simp) (by simp) ?_
 simp [c45t, hI1, hI3, hb1, ht1]
 by_cases h0 : 0 ≤ placeS (sbyte s i) singlesT 0
 ·have h8 : (8 : Int) ≤ 8 + placeS (sbyte s i) singlesT 0 := by omega
  refine ATT.fin' hQ Tryz.func45 c45res ?_
  simp [hl, hd, h39, h35, h58, WordQ, wordS, hsg, tokD, subT, h0, h8]
  all_goals (first | omega | exact ⟨_, rfl⟩ | exact ⟨⟨_, rfl⟩, _, rfl⟩ | exact ⟨_, _, _, ⟨rfl, rfl, rfl⟩, _, rfl, rfl, rfl, rfl, rfl⟩ | exact ⟨_, _, _, ⟨rfl, rfl, rfl⟩, _, by omega, rfl, rfl, rfl, rfl⟩ | exact ⟨by omega, _, _, _, ⟨rfl, rfl, rfl⟩, _, by omega, rfl, rfl, rfl, rfl⟩ | skip)
 ·have h8 : ¬ (8 : Int) ≤ 8 + placeS (sbyte s i) singlesT 0 := by omega
  refine ATT.fin' hQ Tryz.func45 c45res ?_
  simp [hl, hd, h39, h35, h58, WordQ, wordS, hsg, tokD, h0, h8]
  all_goals (first | omega | exact ⟨_, rfl⟩ | exact ⟨⟨_, rfl⟩, _, rfl⟩ | exact ⟨_, _, _, ⟨rfl, rfl, rfl⟩, _, rfl, rfl, rfl, rfl, rfl⟩ | exact ⟨_, _, _, ⟨rfl, rfl, rfl⟩, _, by omega, rfl, rfl, rfl, rfl⟩ | exact ⟨by omega, _, _, _, ⟨rfl, rfl, rfl⟩, _, by omega, rfl, rfl, rfl, rfl⟩ | skip)
theorem f45_ok (hW : NumP 71 num) : AF Tryz.prog 45 [.ptr 0 0] ⟨RD s i, []⟩ (WordQ num s i) := by
 cases hl : letterS (sbyte s i) with
 | true => exact f45_letter s hs i hi hl
 | false =>
  cases hd : digitS (sbyte s i) with
  | true => exact f45_digit s hs i hi hW hl hd
  | false =>
   by_cases h39 : sbyte s i = 39
   ·exact f45_quote s hs i hi h39
   by_cases h35 : sbyte s i = 35
   ·exact f45_hash s hs i hi h35
   by_cases h58 : sbyte s i = 58
   ·exact f45_colon s hs i hi h58
   cases hsg : signS (sbyte s i) with
   | true => exact f45_sign s hs i hi hl hd h39 h35 h58 hsg
   | false => exact f45_single s hs i hi hl hd h39 h35 h58 hsg
end
end Go.SL
namespace Go.SL
open Go.Proofs
set_option maxRecDepth 10000
theorem f134_no (s : ByteArray) (h0 : 0 < s.size) (h : sbyte s 0 ≠ 45) : DF Tryz.prog 134 [.str s, .str ⟨#[45]⟩] (.bool false) := by
 have hsz : (1 : Int) ≤ s.size := by omega
 have hne : ¬ s.extract 0 1 = ⟨#[45]⟩ := fun e => h (by
  have h1 : (s.extract 0 1).data = #[45] := by rw [e]
  have h2 : s.data.size = s.size := rfl
  simp only [ByteArray.data_extract] at h1
  have h3 : s.data[0]? = some 45 := by
   have := congrArg (·[0]?) h1
   simp only [Array.getElem?_extract] at this
   rw [if_pos (by omega)] at this
   simpa using this
  simp [sbyte, List.getD_eq_getElem?_getD, h3])
 have hl1 : (⟨#[45]⟩ : ByteArray).size = 1 := rfl
 refine AF.start' 60 Tryz.func134 rfl rfl c134call c134ok fun Q hQ => ?_
 simp [c134c, c134t, hsz, hne, hl1]
 refine ATT.fin' hQ Tryz.func134 c134res ?_
 simp
 all_goals (first | omega | exact ⟨_, rfl⟩ | skip)
theorem f118_no (s : ByteArray) (h0 : 0 < s.size) (h : sbyte s 0 ≠ 45) : DF Tryz.prog 118 [.str s, .str ⟨#[45]⟩] (.tup [.str s, .bool false]) := by
 refine AF.start' 60 Tryz.func118 rfl rfl c118call c118ok fun Q hQ => ?_
 simp [c118c, c118t]
 refine ATT.callD Tryz.func118 60 (f134_no s h0 h) (by simp) (by simp) (by simp) ?_
 simp [c118t]
 refine ATT.fin' hQ Tryz.func118 c118res ?_
 simp
 all_goals (first | omega | exact ⟨_, rfl⟩ | skip)
theorem f95_no (s : ByteArray) (h0 : 0 < s.size) (h : sbyte s 0 ≠ 45) : DF Tryz.prog 95 [.str s, .str ⟨#[45]⟩] (.tup [.str s, .bool false]) := by
 refine AF.start' 60 Tryz.func95 rfl rfl c95call c95ok fun Q hQ => ?_
 simp [c95c, c95t]
 refine ATT.callD Tryz.func95 60 (f118_no s h0 h) (by simp) (by simp) (by simp) ?_
 simp
 refine ATT.fin' hQ Tryz.func95 c95res ?_
 simp
 all_goals (first | omega | exact ⟨_, rfl⟩ | skip)
theorem f96_ok (c : Int) (h : digitS c = true) : DF Tryz.prog 96 [.int .i32 c] (.bool false) := by
 simp only [digitS, Bool.and_eq_true, decide_eq_true_eq] at h
 have h1 : ¬ c < 48 := by omega
 have h2 : ¬ (57 < c) := by omega
 refine AF.start' 60 Tryz.func96 rfl rfl c96call c96ok fun Q hQ => ?_
 simp [c96c, c96t, h1, h2]
 refine ATT.fin' hQ Tryz.func96 c96res ?_
 simp
 all_goals (first | omega | exact ⟨_, rfl⟩ | skip)
theorem f119_digs (s : ByteArray) (hd : digs s) : DF Tryz.prog 119 [.str s, .fn (.func 96) [] [], .bool true] (.int .i64 (-1)) := by
 refine AF.start' 60 Tryz.func119 rfl rfl c119call c119ok fun Q hQ => ?_
 simp [c119c, c119t]
 refine ATT.loopG 60 c119l6.eq_1 (fun (i : Nat) => s.size - i) (fun (i : Nat) => i ≤ s.size) (fun (i : Nat) => [(10, .ptr 0 0), (1, .d (.fn (.func 96) [] [])), (2, .d (.bool true))]) (fun (i : Nat) => [.iter s i]) (fun (i : Nat) => []) (0) (by (try dsimp only); exact Nat.zero_le _) (by simp <;> omega) (by simp) (by simp) ?_
 intro i u w hI ih
 try simp only at hI ih
 by_cases hi : i < s.size
 ·have hc := hd.2 i hi
  have hc' := hc
  simp only [digitS, Bool.and_eq_true, decide_eq_true_eq] at hc'
  have hdec := decode_of s i hi (by omega)
  have ht : (((sbyte s i).toNat : Nat) : Int) = sbyte s i := by omega
  simp [c119t, hi, hdec, ht]
  refine ATT.callD Tryz.func119 60 (f96_ok _ hc) (by simp) (by simp) (by simp) ?_
  simp
  refine ih (i + 1) (by first | ((try dsimp only); omega) | (simp [hi, hdec, ht] <;> omega)) (by (try dsimp only); exact hi) _ _ _ (by simp <;> omega) (by simp <;> omega) (by simp <;> omega)
 ·skip
  simp [c119t, hi]
  refine ATT.fin' hQ Tryz.func119 c119res ?_
  simp
  all_goals (first | omega | exact ⟨_, rfl⟩ | skip)
theorem f97_digs (s : ByteArray) (hd : digs s) : DF Tryz.prog 97 [.str s, .fn (.func 96) [] []] (.int .i64 (-1)) := by
 refine AF.start' 60 Tryz.func97 rfl rfl c97call c97ok fun Q hQ => ?_
 simp [c97c, c97t]
 refine ATT.callD Tryz.func97 60 (f119_digs s hd) (by simp) (by simp) (by simp) ?_
 simp
 refine ATT.fin' hQ Tryz.func97 c97res ?_
 simp
 all_goals (first | omega | exact ⟨_, rfl⟩ | skip)
theorem f120_ok (neg : Bool) (n k : Nat) (v : D) (hv : Wd n k v) (hk : k ≤ 100000) : DE Tryz.prog 120 [.bool neg, v] (IntR neg n) := by
 have hB := f135_ok n k v hv hk
 obtain ⟨nl, sz, l, e, _⟩ := hv
 subst e
 refine AF.start' 60 Tryz.func120 rfl rfl c120call c120ok fun Q hQ => ?_
 simp [c120c, c120t]
 refine ATT.callE Tryz.func120 60 hB (by simp) (by simp) (by simp) fun v hv => ?_
 have hv' := hv
 obtain ⟨nl, sz, l, e, h1, h2, h3, h4, h5, h6⟩ := hv'
 subst e
 have hl : decide ((0 : Int) < l.length) = decide (0 < n) := by
  have := bv_nil h3 h4
  rw [h5] at this
  have h7 : l.length = 0 ↔ l = [] := List.length_eq_zero_iff
  by_cases hn : n = 0
  ·simp [hn, this.mpr hn]
  ·have : ¬ l.length = 0 := fun e => hn (this.mp (h7.mp e))
   simp; omega
 cases neg with
 | true =>
  simp [c120t]
  refine ATT.fin' hQ Tryz.func120 c120res ?_
  have hlen : 0 < l.length ↔ 0 < n := by simpa using hl
  exact ⟨by simp, _, rfl, _, _, by simp [hlen], hv⟩
 | false =>
  simp [c120t]
  refine ATT.fin' hQ Tryz.func120 c120res ?_
  exact ⟨by simp, _, rfl, _, _, by simp, hv⟩
theorem f101_ok (neg : Bool) (n k : Nat) (v : D) (hv : Wd n k v) (hk : k ≤ 100000) : DE Tryz.prog 101 [.bool neg, v] fun r => if n < 256 ^ 128 then ∃ u, r = .tup [u, .int .i64 0] ∧ IntR neg n u else r = .tup [.agg [.bool false, .sl true 0 []], .int .i64 24] := by
 have hM := f120_ok neg n k v hv hk
 refine AF.start' 60 Tryz.func101 rfl rfl c101call c101ok fun Q hQ => ?_
 simp [c101c, c101t]
 refine ATT.callE Tryz.func101 60 hM (by simp) (by simp) (by simp) fun v hv => ?_
 have hv' := hv
 obtain ⟨k', u, e, nl, sz, l, e2, h1, h2, h3, h4, h5, h6⟩ := hv'
 subst e e2
 have hf := bv_fits h3 h4 128
 rw [h5] at hf
 simp [c101t]
 by_cases hn : n < 256 ^ 128
 ·simp only [if_pos hn] at hQ
  have hl : ¬ (128 : Int) < l.length := by have := hf.mpr hn; omega
  simp [c101t, hl]
  refine ATT.fin' hQ Tryz.func101 c101res ?_
  exact ⟨by simp, _, rfl, _, rfl, hv⟩
 ·simp only [if_neg hn] at hQ
  have hl : (128 : Int) < l.length := by
   have : ¬ l.length ≤ 128 := fun h => hn (hf.mp h)
   omega
  simp [c101t, hl]
  refine ATT.fin' hQ Tryz.func101 c101res ?_
  exact ⟨by simp, _, rfl, rfl⟩
def dval (s : ByteArray) : Nat → Nat
 | 0 => 0
 | i + 1 => dval s i * 10 + (sbyte s i - 48).toNat
def zeroI : D := .agg [.bool false, .sl true 0 []]
def ReadQ (s : ByteArray) (v : D) : Prop :=
 if sbyte s 0 = 48 ∧ 1 < s.size then v = .tup [zeroI, .int .i64 11] else if 400 < s.size then v = .tup [zeroI, .int .i64 24] else
 if dval s s.size < 256 ^ 128 then ∃ u, v = .tup [u, .int .i64 0] ∧ IntR false (dval s s.size) u else v = .tup [zeroI, .int .i64 24]
theorem bytes_get (s : ByteArray) (i : Nat) (h : i < s.size) : (s.data.toList.map fun x => D.int .u8 ((x.toNat : Nat) : Int))[i]? = some (.int .u8 (sbyte s i)) := by
 have h' : i < s.data.size := h
 rw [List.getElem?_map, Array.getElem?_toList, Array.getElem?_eq_getElem h']
 have h2 : s.data[i]? = some s.data[i] := Array.getElem?_eq_getElem h'
 simp [sbyte, List.getD_eq_getElem?_getD, h2]
set_option maxHeartbeats 1000000 in
theorem f71_ok (s : ByteArray) (hd : digs s) (hs : s.size ≤ 1073741824) : DE Tryz.prog 71 [.str s] (ReadQ s) := by
 have hc0 := hd.2 0 hd.1
 simp only [digitS, Bool.and_eq_true, decide_eq_true_eq, Int.ofNat_zero] at hc0
 have hse : ¬ s = ⟨#[]⟩ := fun e => by have := hd.1; rw [e] at this; exact absurd this (by decide)
 have hr0 : inR 0 s.size = true := inR_of (by omega) (by have := hd.1; omega)
 have hcut := f95_no s hd.1 (by simp; omega)
 refine AF.start' 60 Tryz.func71 rfl rfl c71call c71ok fun Q hQ => ?_
 simp [c71c, c71t]
 refine ATT.callD Tryz.func71 60 (hcut) (by simp) (by simp) (by simp) ?_
 simp [c71t, hse]
 refine ATT.callD Tryz.func71 60 (f97_digs s hd) (by simp) (by simp) (by simp) ?_
 simp [hr0]
 unfold ReadQ at hQ
 by_cases h0 : sbyte s 0 = 48 ∧ 1 < s.size
 ·simp only [if_pos h0] at hQ
  have h1 : (1 : Int) < s.size := by omega
  have h48 := h0.1
  simp [c71t, eq_true h48, h1]
  refine ATT.fin' hQ Tryz.func71 c71res ?_
  exact ⟨by simp, _, rfl, rfl⟩
 simp only [if_neg h0] at hQ
 have hgo : ∀ {P : Prop}, ((sbyte s 0 = 48 → ¬ (1 : Int) < s.size → P) ∧ (¬ sbyte s 0 = 48 → P)) → P := fun h => by
  by_cases h48 : sbyte s 0 = 48
  ·exact h.1 h48 (by omega)
  ·exact h.2 h48
 refine hgo ⟨fun h48 h1 => ?_, fun h48 => ?_⟩
 ·by_cases h4 : 400 < s.size
  ·simp only [if_pos h4] at hQ
   have h4' : (400 : Int) < s.size := by omega
   simp [c71t, eq_true h48, h1, h4']
   refine ATT.fin' hQ Tryz.func71 c71res ?_
   exact ⟨by simp, _, rfl, rfl⟩
  simp only [if_neg h4] at hQ
  have h4' : ¬ (400 : Int) < s.size := by omega
  simp [c71t, eq_true h48, h1, h4']
  refine ATT.loopG 60 c71l13.eq_1 (fun ((i, v) : Nat × D) => s.size - i) (fun ((i, v) : Nat × D) => i ≤ s.size ∧ Wd (dval s i) (2 * i) v) (fun ((i, v) : Nat × D) => [(2, .ptr 0 0), (5, .d (.bool false)), (7, .d v), (39, .d (.sl false 1 (s.data.toList.map fun b => .int .u8 (b.toNat : Int)))), (40, .d (.int .i64 s.size)), (41, .d (.int .i64 i))]) (fun ((i, v) : Nat × D) => [.cells [.d (.bool false), .d (.sl true 0 [])] 111]) (fun ((i, v) : Nat × D) => []) ((0, .sl true 0 [])) (by (try dsimp only); exact ⟨Nat.zero_le _, true, 0, [], rfl, fun _ => rfl, by simp, Can.nil, rfl, by simp⟩) (by simp <;> omega) (by simp) (by simp) ?_
  intro ⟨i, v⟩ u w hI ih
  try simp only at hI ih
  obtain ⟨i1, i2⟩ := hI
  by_cases hi : i < s.size
  ·have hi' : (i : Int) < s.size := by omega
   have hg := bytes_get s i hi
   have hc := hd.2 i hi
   simp only [digitS, Bool.and_eq_true, decide_eq_true_eq] at hc
   obtain ⟨c, hcc⟩ : ∃ c : Nat, sbyte s i = ((48 + c : Nat) : Int) := ⟨(sbyte s i - 48).toNat, by omega⟩
   have hc9 : c ≤ 9 := by omega
   have hcn : (sbyte s i - 48).toNat = c := by omega
   have hw1 : IntKind.u8.wrap (sbyte s i - 48) = (c : Int) := by rw [hcc, show ((48 + c : Nat) : Int) - 48 = (c : Int) by omega, wrap8x]; omega
   have hw2 : IntKind.u32.wrap (c : Int) = (c : Int) := by rw [wrap32i]; omega
   have hII : inI ((i : Int) + 1) = true := inI_of (by omega) (by omega)
   have hten : Wd 10 1 (.sl false 1 [.int .u32 10]) := ⟨false, 1, [10], rfl, by simp, fun _ => rfl, ⟨by intro x hx; simp at hx; omega, fun q e => by have := congrArg List.getLast? e; simp at this⟩, rfl, by simp⟩
   have hti := f99_ok (dval s i) 10 (2 * i) 1 v _ i2 hten (by omega)
   have htr := f100_ok [c] false 1 (by simp) (fun _ => rfl) (by intro x hx; simp at hx; omega) (by simp)
   simp [c71t, hi', hg]
   refine ATT.fz (by simp) ?_
   simp
   refine ATT.callE Tryz.func71 60 hti (by simp) (by simp) (by simp) fun v1 hv1 => ?_
   simp [hw1, hw2]
   refine ATT.fz (by simp) ?_
   simp
   refine ATT.callE Tryz.func71 60 htr (by simp) (by simp [wD]) (by simp) fun v2 hv2 => ?_
   have hpl := f98_ok (dval s i * 10) (wv [c]) (2 * i + 1) 1 v1 v2 hv1 hv2 (by omega)
   refine ATT.callE Tryz.func71 60 hpl (by simp) (by simp) (by simp) fun v3 hv3 => ?_
   simp [c71t, hII]
   refine ih (i + 1, v3) (by first | ((try dsimp only); omega) | (simp [hi', hg, hw1, hw2, hII] <;> omega)) (by (try dsimp only); exact ⟨hi, (show dval s (i + 1) = dval s i * 10 + wv [c] by simp [dval, hcn, wv]) ▸ hv3.mono (by omega)⟩) _ _ _ (by simp <;> omega) (by simp <;> omega) (by simp <;> omega)
  ·have hie : i = s.size := by omega
   subst hie
   have hF := f101_ok false _ _ v i2 (by omega)
   have hi' : ¬ (s.size : Int) < s.size := by omega
   simp [c71t, hi']
   refine ATT.callE Tryz.func71 60 hF (by simp) (by simp) (by simp) fun r hr => ?_
   by_cases hn : dval s s.size < 256 ^ 128
   ·simp only [if_pos hn] at hQ hr
    obtain ⟨u, e, hu⟩ := hr
    subst e
    obtain ⟨k', u', e, hu'⟩ := hu
    have hu := hu'
    subst e
    obtain ⟨nl, sz, l, e, _⟩ := hu'
    subst e
    simp
    refine ATT.fin' hQ Tryz.func71 c71res ?_
    exact ⟨by simp, _, rfl, _, rfl, _, _, by simp, hu⟩
   ·simp only [if_neg hn] at hQ hr
    subst hr
    simp
    refine ATT.fin' hQ Tryz.func71 c71res ?_
    exact ⟨by simp, _, rfl, rfl⟩
 ·by_cases h4 : 400 < s.size
  ·simp only [if_pos h4] at hQ
   have h4' : (400 : Int) < s.size := by omega
   simp [c71t, h48, h4']
   refine ATT.fin' hQ Tryz.func71 c71res ?_
   exact ⟨by simp, _, rfl, rfl⟩
  simp only [if_neg h4] at hQ
  have h4' : ¬ (400 : Int) < s.size := by omega
  simp [c71t, h48, h4']
  refine ATT.loopG 60 c71l13.eq_1 (fun ((i, v) : Nat × D) => s.size - i) (fun ((i, v) : Nat × D) => i ≤ s.size ∧ Wd (dval s i) (2 * i) v) (fun ((i, v) : Nat × D) => [(2, .ptr 0 0), (5, .d (.bool false)), (7, .d v), (39, .d (.sl false 1 (s.data.toList.map fun b => .int .u8 (b.toNat : Int)))), (40, .d (.int .i64 s.size)), (41, .d (.int .i64 i))]) (fun ((i, v) : Nat × D) => [.cells [.d (.bool false), .d (.sl true 0 [])] 111]) (fun ((i, v) : Nat × D) => []) ((0, .sl true 0 [])) (by (try dsimp only); exact ⟨Nat.zero_le _, true, 0, [], rfl, fun _ => rfl, by simp, Can.nil, rfl, by simp⟩) (by simp <;> omega) (by simp) (by simp) ?_
  intro ⟨i, v⟩ u w hI ih
  try simp only at hI ih
  obtain ⟨i1, i2⟩ := hI
  by_cases hi : i < s.size
  ·have hi' : (i : Int) < s.size := by omega
   have hg := bytes_get s i hi
   have hc := hd.2 i hi
   simp only [digitS, Bool.and_eq_true, decide_eq_true_eq] at hc
   obtain ⟨c, hcc⟩ : ∃ c : Nat, sbyte s i = ((48 + c : Nat) : Int) := ⟨(sbyte s i - 48).toNat, by omega⟩
   have hc9 : c ≤ 9 := by omega
   have hcn : (sbyte s i - 48).toNat = c := by omega
   have hw1 : IntKind.u8.wrap (sbyte s i - 48) = (c : Int) := by rw [hcc, show ((48 + c : Nat) : Int) - 48 = (c : Int) by omega, wrap8x]; omega
   have hw2 : IntKind.u32.wrap (c : Int) = (c : Int) := by rw [wrap32i]; omega
   have hII : inI ((i : Int) + 1) = true := inI_of (by omega) (by omega)
   have hten : Wd 10 1 (.sl false 1 [.int .u32 10]) := ⟨false, 1, [10], rfl, by simp, fun _ => rfl, ⟨by intro x hx; simp at hx; omega, fun q e => by have := congrArg List.getLast? e; simp at this⟩, rfl, by simp⟩
   have hti := f99_ok (dval s i) 10 (2 * i) 1 v _ i2 hten (by omega)
   have htr := f100_ok [c] false 1 (by simp) (fun _ => rfl) (by intro x hx; simp at hx; omega) (by simp)
   simp [c71t, hi', hg]
   refine ATT.fz (by simp) ?_
   simp
   refine ATT.callE Tryz.func71 60 hti (by simp) (by simp) (by simp) fun v1 hv1 => ?_
   simp [hw1, hw2]
   refine ATT.fz (by simp) ?_
   simp
   refine ATT.callE Tryz.func71 60 htr (by simp) (by simp [wD]) (by simp) fun v2 hv2 => ?_
   have hpl := f98_ok (dval s i * 10) (wv [c]) (2 * i + 1) 1 v1 v2 hv1 hv2 (by omega)
   refine ATT.callE Tryz.func71 60 hpl (by simp) (by simp) (by simp) fun v3 hv3 => ?_
   simp [c71t, hII]
   refine ih (i + 1, v3) (by first | ((try dsimp only); omega) | (simp [hi', hg, hw1, hw2, hII] <;> omega)) (by (try dsimp only); exact ⟨hi, (show dval s (i + 1) = dval s i * 10 + wv [c] by simp [dval, hcn, wv]) ▸ hv3.mono (by omega)⟩) _ _ _ (by simp <;> omega) (by simp <;> omega) (by simp <;> omega)
  ·have hie : i = s.size := by omega
   subst hie
   have hF := f101_ok false _ _ v i2 (by omega)
   have hi' : ¬ (s.size : Int) < s.size := by omega
   simp [c71t, hi']
   refine ATT.callE Tryz.func71 60 hF (by simp) (by simp) (by simp) fun r hr => ?_
   by_cases hn : dval s s.size < 256 ^ 128
   ·simp only [if_pos hn] at hQ hr
    obtain ⟨u, e, hu⟩ := hr
    subst e
    obtain ⟨k', u', e, hu'⟩ := hu
    have hu := hu'
    subst e
    obtain ⟨nl, sz, l, e, _⟩ := hu'
    subst e
    simp
    refine ATT.fin' hQ Tryz.func71 c71res ?_
    exact ⟨by simp, _, rfl, _, rfl, _, _, by simp, hu⟩
   ·simp only [if_neg hn] at hQ hr
    subst hr
    simp
    refine ATT.fin' hQ Tryz.func71 c71res ?_
    exact ⟨by simp, _, rfl, rfl⟩
end Go.SL
namespace Go.SL
open Go.Proofs
set_option maxRecDepth 10000
theorem f123_ok (l : List Nat) (v : D) (hv : BS l v) (i : Nat) (hl : l.length ≤ 1000000) (hi : i ≤ 1000000) : DF Tryz.prog 123 [v, .int .i64 i] (.int .i64 (l.reverse.getD i 0)) := by
 obtain ⟨nl, sz, e, h1, h2, h3⟩ := hv
 subst e
 by_cases hil : i < l.length
 ·have hnl : nl = false := by cases nl with | false => rfl | true => (have := h1 rfl; subst this; simp at hil)
  subst hnl
  have := h2 rfl
  subst this
  have hge : ¬ (l.length : Int) ≤ i := by omega
  have hg : l[l.length - 1 - i]? = some (l.reverse.getD i 0) := by
   rw [List.getD_eq_getElem?_getD, List.getElem?_reverse hil]
   rw [List.getElem?_eq_getElem (by omega)]; rfl
  have hgx := bD_get hg
  have hgx2 := bD_getE hg
  have h0 : (i : Int) ≤ (l.length : Int) - 1 := by omega
  have hn : ((l.length : Int) - 1 - (i : Int)).toNat = l.length - 1 - i := by omega
  have hx := h3.rev.getD i
  generalize l.reverse.getD i 0 = x at hgx hgx2 hx
  have hI1 : inI ((l.length : Int) - 1) = true := inI_of (by omega) (by omega)
  have hI2 : inI ((l.length : Int) - 1 - (i : Int)) = true := inI_of (by omega) (by omega)
  have hI3 : inI (x : Int) = true := inI_of (by omega) (by omega)
  refine AF.start' 60 Tryz.func123 rfl rfl c123call c123ok fun Q hQ => ?_
  simp [c123c, c123t, hge, hgx, h0, hn, hI1, hI2, hI3]
  refine ATT.fin' hQ Tryz.func123 c123res ?_
  simp
  all_goals (first | omega | exact ⟨_, rfl⟩ | skip)
 ·have hge : (l.length : Int) ≤ i := by omega
  have hx : l.reverse.getD i 0 = 0 := by rw [List.getD_eq_getElem?_getD, List.getElem?_eq_none (by simp; omega)]; rfl
  rw [hx]
  refine AF.start' 60 Tryz.func123 rfl rfl c123call c123ok fun Q hQ => ?_
  simp [c123c, c123t, hge]
  refine ATT.fin' hQ Tryz.func123 c123res ?_
  simp
  all_goals (first | omega | exact ⟨_, rfl⟩ | skip)
theorem f124_ok (l : List Nat) (v : D) (hv : BS l v) (hl : l.length ≤ 1000000) : DE Tryz.prog 124 [v] (BS l.reverse) := by
 obtain ⟨nl, sz, e, h1, h2, h3⟩ := hv
 subst e
 have hI0 : inI ((l.length : Int) - 1) = true := inI_of (by omega) (by omega)
 refine AF.start' 60 Tryz.func124 rfl rfl c124call c124ok fun Q hQ => ?_
 simp [c124c, c124t, hI0]
 refine ATT.nilE 3 1 5 rfl (by decide) (by simp) ?_
 simp
 refine ATT.loopG 60 c124l6.eq_1 (fun ((i, o) : Nat × List Nat) => i) (fun ((i, o) : Nat × List Nat) => i ≤ l.length ∧ o = (l.drop i).reverse) (fun ((i, o) : Nat × List Nat) => [(0, .d (.sl nl sz (bD l))), (3, .vs 0 o.length 0 o.length), (4, .d (.int .i64 ((i : Int) - 1)))]) (fun ((i, o) : Nat × List Nat) => []) (fun ((i, o) : Nat × List Nat) => [some ⟨o.isEmpty, 1, 0, (bD o).map V.d, 5⟩]) ((l.length, [])) (by (try dsimp only); exact ⟨Nat.le_refl _, by simp⟩) (by simp <;> omega) (by simp) (by simp) ?_
 intro ⟨i, o⟩ u w hI ih
 try simp only at hI ih
 obtain ⟨i1, i2⟩ := hI
 cases i with
 | zero =>
  simp [c124t]
  refine ATT.finz hQ Tryz.func124 c124res (by first | exact .inl rfl | exact .inr ⟨_, rfl⟩) ?_
  simp
  all_goals (first | omega | exact ⟨_, rfl⟩ | skip)
  rw [List.drop_zero] at i2
  exact ⟨o.isEmpty, 1, by rw [i2], by rw [← i2]; simp, by simp, h3.rev⟩
 | succ i =>
  have hil : i < l.length := by omega
  have hnl : nl = false := by cases nl with | false => rfl | true => (have := h1 rfl; subst this; simp at hil)
  subst hnl
  have := h2 rfl
  subst this
  obtain ⟨x, hx⟩ : ∃ x, l[i]? = some x := ⟨_, List.getElem?_eq_getElem hil⟩
  have hgx := bD_get hx
  have hgx2 := bD_getE hx
  have hi0 : (0 : Int) ≤ i := by omega
  have hII : inI ((i : Int) - 1) = true := inI_of (by omega) (by omega)
  have hol : o.length + 1 ≤ 140737488355328 := by rw [i2]; simp; omega
  have hb1 := bD_one o x x rfl
  simp [c124t, hgx, hi0, hII, hol, hb1]
  refine ih (i, o ++ [x]) (by first | ((try dsimp only); omega) | (simp [hgx, hgx2, hi0, hII, hol, hb1] <;> omega)) (by (try dsimp only); exact ⟨by omega, by rw [i2, List.drop_eq_getElem_cons hil, List.reverse_cons]; congr 2; have := List.getElem?_eq_getElem hil; rw [hx] at this; simpa using this⟩) _ _ _ (by simp <;> omega) (by simp <;> omega) (by simp <;> omega)
theorem f107_ok (la lb : List Nat) (va vb : D) (ha : BS la va) (hb : BS lb vb) (hla : la.length ≤ 100000) (hlb : lb.length ≤ 100000) : DE Tryz.prog 107 [va, vb] fun v => ∃ l, BS l v ∧ bv l = bv la + bv lb ∧ l.length ≤ max la.length lb.length + 1 := by
 obtain ⟨nla, sza, e, h1, h2, h3⟩ := ha
 subst e
 obtain ⟨nlb, szb, e, g1, g2, g3⟩ := hb
 subst e
 have ha' : BS la (.sl nla sza (bD la)) := ⟨_, _, rfl, h1, h2, h3⟩
 have hb' : BS lb (.sl nlb szb (bD lb)) := ⟨_, _, rfl, g1, g2, g3⟩
 refine AF.start' 60 Tryz.func107 rfl rfl c107call c107ok fun Q hQ => ?_
 simp [c107c, c107t]
 refine ATT.nilE 5 1 5 rfl (by decide) (by simp) ?_
 simp
 refine ATT.loopG 60 c107l9.eq_1 (fun ((o, c) : List Nat × Nat) => 2 * (max la.length lb.length + 1 - o.length) + c) (fun ((o, c) : List Nat × Nat) => U8 o ∧ c ≤ 1 ∧ o.length ≤ max la.length lb.length + 1 ∧ (0 < c → o.length ≤ max la.length lb.length) ∧ lvb o + 256 ^ o.length * c = lvb (la.reverse.take o.length) + lvb (lb.reverse.take o.length)) (fun ((o, c) : List Nat × Nat) => [(0, .d (.sl nla sza (bD la))), (1, .d (.sl nlb szb (bD lb))), (5, .vs 0 o.length 0 o.length), (6, .d (.int .i64 c)), (7, .d (.int .i64 o.length))]) (fun ((o, c) : List Nat × Nat) => []) (fun ((o, c) : List Nat × Nat) => [some ⟨o.isEmpty, 1, 0, (bD o).map V.d, 5⟩]) (([], 0)) (by (try dsimp only); exact ⟨by simp [U8], by simp, by simp, by simp, by simp [lvb]⟩) (by simp <;> omega) (by simp) (by simp) ?_
 intro ⟨o, c⟩ u w hI ih
 try simp only at hI ih
 obtain ⟨i1, i2, i3, i4, i5⟩ := hI
 by_cases ca : o.length < la.length
 ·have ca' : (o.length : Int) < la.length := by omega
  have hA := f123_ok la _ ha' o.length (by omega) (by omega)
  have hB := f123_ok lb _ hb' o.length (by omega) (by omega)
  have hx := U8.getD h3.rev o.length
  have hy := U8.getD g3.rev o.length
  have htx := lvb_take (l := la.reverse) o.length
  have hty := lvb_take (l := lb.reverse) o.length
  have hxz : la.length ≤ o.length → la.reverse.getD o.length 0 = 0 := fun h => by rw [List.getD_eq_getElem?_getD, List.getElem?_eq_none (by simpa using h)]; rfl
  have hyz : lb.length ≤ o.length → lb.reverse.getD o.length 0 = 0 := fun h => by rw [List.getD_eq_getElem?_getD, List.getElem?_eq_none (by simpa using h)]; rfl
  generalize la.reverse.getD o.length 0 = x at hA hx htx hxz
  generalize lb.reverse.getD o.length 0 = y at hB hy hty hyz
  have hs1 : inI ((c : Int) + (x : Int)) = true := inI_of (by omega) (by omega)
  have hs2 : inI ((c : Int) + (x : Int) + (y : Int)) = true := inI_of (by omega) (by omega)
  have hs3 : ((c : Int) + (x : Int) + (y : Int)).tmod 256 = ((c : Int) + (x : Int) + (y : Int)) % 256 := tmod256 (by omega)
  have hs4 : ((c : Int) + (x : Int) + (y : Int)).tdiv 256 = ((c : Int) + (x : Int) + (y : Int)) / 256 := tdiv256 (by omega)
  have hs5 : IntKind.u8.wrap (((c : Int) + (x : Int) + (y : Int)) % 256) = ((c : Int) + (x : Int) + (y : Int)) % 256 := wrap8i (by omega) (by omega)
  have hs6 : inI (((c : Int) + (x : Int) + (y : Int)) / 256) = true := inI_of (by omega) (by omega)
  have hs7 : inI ((o.length : Int) + 1) = true := inI_of (by omega) (by omega)
  have hs8 : o.length ≤ 140737488355327 := by omega
  have hs9 := bD_one o ((c + x + y) % 256) (((c : Int) + (x : Int) + (y : Int)) % 256) (by omega)
  have hd := Nat.div_add_mod (c + x + y) 256
  simp [c107t, ca']
  refine ATT.callD Tryz.func107 60 (hA) (by simp) (by simp) (by simp) ?_
  simp
  refine ATT.callD Tryz.func107 60 (hB) (by simp) (by simp) (by simp [hs1]) ?_
  simp [c107t, hs2, hs3, hs4, hs5, hs6, hs7, hs8, hs9]
  refine ih (o ++ [(c + x + y) % 256], (c + x + y) / 256) (by first | ((try dsimp only); omega) | (simp <;> omega)) (by (try dsimp only); exact ⟨i1.app (by intro z hz; simp at hz; omega), by omega, by simp; omega, by simp; omega, by rw [List.length_append, List.length_singleton, htx, hty, lvb_app, Nat.pow_succ]; simp only [lvb]; exact sum_step i5 hd⟩) _ _ _ (by simp <;> omega) (by simp <;> omega) (by simp <;> omega)
 have ca' : ¬ (o.length : Int) < la.length := by omega
 by_cases cb : o.length < lb.length
 ·have cb' : (o.length : Int) < lb.length := by omega
  have hA := f123_ok la _ ha' o.length (by omega) (by omega)
  have hB := f123_ok lb _ hb' o.length (by omega) (by omega)
  have hx := U8.getD h3.rev o.length
  have hy := U8.getD g3.rev o.length
  have htx := lvb_take (l := la.reverse) o.length
  have hty := lvb_take (l := lb.reverse) o.length
  have hxz : la.length ≤ o.length → la.reverse.getD o.length 0 = 0 := fun h => by rw [List.getD_eq_getElem?_getD, List.getElem?_eq_none (by simpa using h)]; rfl
  have hyz : lb.length ≤ o.length → lb.reverse.getD o.length 0 = 0 := fun h => by rw [List.getD_eq_getElem?_getD, List.getElem?_eq_none (by simpa using h)]; rfl
  generalize la.reverse.getD o.length 0 = x at hA hx htx hxz
  generalize lb.reverse.getD o.length 0 = y at hB hy hty hyz
  have hs1 : inI ((c : Int) + (x : Int)) = true := inI_of (by omega) (by omega)
  have hs2 : inI ((c : Int) + (x : Int) + (y : Int)) = true := inI_of (by omega) (by omega)
  have hs3 : ((c : Int) + (x : Int) + (y : Int)).tmod 256 = ((c : Int) + (x : Int) + (y : Int)) % 256 := tmod256 (by omega)
  have hs4 : ((c : Int) + (x : Int) + (y : Int)).tdiv 256 = ((c : Int) + (x : Int) + (y : Int)) / 256 := tdiv256 (by omega)
  have hs5 : IntKind.u8.wrap (((c : Int) + (x : Int) + (y : Int)) % 256) = ((c : Int) + (x : Int) + (y : Int)) % 256 := wrap8i (by omega) (by omega)
  have hs6 : inI (((c : Int) + (x : Int) + (y : Int)) / 256) = true := inI_of (by omega) (by omega)
  have hs7 : inI ((o.length : Int) + 1) = true := inI_of (by omega) (by omega)
  have hs8 : o.length ≤ 140737488355327 := by omega
  have hs9 := bD_one o ((c + x + y) % 256) (((c : Int) + (x : Int) + (y : Int)) % 256) (by omega)
  have hd := Nat.div_add_mod (c + x + y) 256
  simp [c107t, ca', cb']
  refine ATT.callD Tryz.func107 60 (hA) (by simp) (by simp) (by simp) ?_
  simp
  refine ATT.callD Tryz.func107 60 (hB) (by simp) (by simp) (by simp [hs1]) ?_
  simp [c107t, hs2, hs3, hs4, hs5, hs6, hs7, hs8, hs9]
  refine ih (o ++ [(c + x + y) % 256], (c + x + y) / 256) (by first | ((try dsimp only); omega) | (simp <;> omega)) (by (try dsimp only); exact ⟨i1.app (by intro z hz; simp at hz; omega), by omega, by simp; omega, by simp; omega, by rw [List.length_append, List.length_singleton, htx, hty, lvb_app, Nat.pow_succ]; simp only [lvb]; exact sum_step i5 hd⟩) _ _ _ (by simp <;> omega) (by simp <;> omega) (by simp <;> omega)
 have cb' : ¬ (o.length : Int) < lb.length := by omega
 by_cases cc : 0 < c
 ·have cc' : (0 : Int) < c := by omega
  have hA := f123_ok la _ ha' o.length (by omega) (by omega)
  have hB := f123_ok lb _ hb' o.length (by omega) (by omega)
  have hx := U8.getD h3.rev o.length
  have hy := U8.getD g3.rev o.length
  have htx := lvb_take (l := la.reverse) o.length
  have hty := lvb_take (l := lb.reverse) o.length
  have hxz : la.length ≤ o.length → la.reverse.getD o.length 0 = 0 := fun h => by rw [List.getD_eq_getElem?_getD, List.getElem?_eq_none (by simpa using h)]; rfl
  have hyz : lb.length ≤ o.length → lb.reverse.getD o.length 0 = 0 := fun h => by rw [List.getD_eq_getElem?_getD, List.getElem?_eq_none (by simpa using h)]; rfl
  generalize la.reverse.getD o.length 0 = x at hA hx htx hxz
  generalize lb.reverse.getD o.length 0 = y at hB hy hty hyz
  have hs1 : inI ((c : Int) + (x : Int)) = true := inI_of (by omega) (by omega)
  have hs2 : inI ((c : Int) + (x : Int) + (y : Int)) = true := inI_of (by omega) (by omega)
  have hs3 : ((c : Int) + (x : Int) + (y : Int)).tmod 256 = ((c : Int) + (x : Int) + (y : Int)) % 256 := tmod256 (by omega)
  have hs4 : ((c : Int) + (x : Int) + (y : Int)).tdiv 256 = ((c : Int) + (x : Int) + (y : Int)) / 256 := tdiv256 (by omega)
  have hs5 : IntKind.u8.wrap (((c : Int) + (x : Int) + (y : Int)) % 256) = ((c : Int) + (x : Int) + (y : Int)) % 256 := wrap8i (by omega) (by omega)
  have hs6 : inI (((c : Int) + (x : Int) + (y : Int)) / 256) = true := inI_of (by omega) (by omega)
  have hs7 : inI ((o.length : Int) + 1) = true := inI_of (by omega) (by omega)
  have hs8 : o.length ≤ 140737488355327 := by omega
  have hs9 := bD_one o ((c + x + y) % 256) (((c : Int) + (x : Int) + (y : Int)) % 256) (by omega)
  have hd := Nat.div_add_mod (c + x + y) 256
  simp [c107t, ca', cb', cc]
  refine ATT.callD Tryz.func107 60 (hA) (by simp) (by simp) (by simp) ?_
  simp
  refine ATT.callD Tryz.func107 60 (hB) (by simp) (by simp) (by simp [hs1]) ?_
  simp [c107t, hs2, hs3, hs4, hs5, hs6, hs7, hs8, hs9]
  refine ih (o ++ [(c + x + y) % 256], (c + x + y) / 256) (by first | ((try dsimp only); omega) | (simp <;> omega)) (by (try dsimp only); exact ⟨i1.app (by intro z hz; simp at hz; omega), by omega, by simp; omega, by simp; omega, by rw [List.length_append, List.length_singleton, htx, hty, lvb_app, Nat.pow_succ]; simp only [lvb]; exact sum_step i5 hd⟩) _ _ _ (by simp <;> omega) (by simp <;> omega) (by simp <;> omega)
 have cc' : ¬ (0 : Int) < c := by omega
 have hc0 : c = 0 := by omega
 subst hc0
 have hT := f124_ok o (.sl o.isEmpty 1 (bD o)) ⟨_, _, rfl, by simp, by simp, i1⟩ (by omega)
 rw [Nat.mul_zero, Nat.add_zero, List.take_of_length_le (by simp; omega), List.take_of_length_le (by simp; omega), ← bv_lvb, ← bv_lvb] at i5
 simp [c107t, ca', cb']
 refine ATT.fz (by simp) ?_
 simp
 refine ATT.callE Tryz.func107 60 hT (by simp) (by simp) (by simp) fun v hv => ?_
 simp
 refine ATT.fin' hQ Tryz.func107 c107res ?_
 exact ⟨by simp, _, rfl, o.reverse, hv, by rw [bv_lvb, List.reverse_reverse, i5], by simp; omega⟩
theorem f108_ok (la : List Nat) (va : D) (ha : BS la va) (k N : Nat) (hla : la.length ≤ 100000) (hk : k ≤ 255) (hN : N ≤ 100000) : DE Tryz.prog 108 [va, .int .i64 k, .int .i64 N] fun v => ∃ l, BS l v ∧ bv l = bv la * k * 256 ^ N ∧ l.length ≤ la.length + 1 + N := by
 obtain ⟨nla, sza, e, h1, h2, h3⟩ := ha
 subst e
 have ha' : BS la (.sl nla sza (bD la)) := ⟨_, _, rfl, h1, h2, h3⟩
 have hN1 : (N : Int) ≤ 140737488355328 := by omega
 have hN2 : inI (N : Int) = true := inI_of (by omega) (by omega)
 have hrep : List.replicate N (V.d (.int .u8 0)) = (bD (List.replicate N 0)).map V.d := by simp [bD]
 refine AF.start' 60 Tryz.func108 rfl rfl c108call c108ok fun Q hQ => ?_
 simp [c108c, c108t, hN1, hN2, hrep]
 refine ATT.loopG 60 c108l9.eq_1 (fun ((o, c) : List Nat × Nat) => 256 * (N + la.length + 1 - o.length) + c) (fun ((o, c) : List Nat × Nat) => U8 o ∧ c ≤ 254 ∧ N ≤ o.length ∧ o.length ≤ N + la.length + 1 ∧ (0 < c → o.length ≤ N + la.length) ∧ lvb o + 256 ^ o.length * c = 256 ^ N * (lvb (la.reverse.take (o.length - N)) * k)) (fun ((o, c) : List Nat × Nat) => [(0, .d (.sl nla sza (bD la))), (1, .d (.int .i64 k)), (7, .vs 0 o.length 0 o.length), (8, .d (.int .i64 c)), (9, .d (.int .i64 (o.length - N : Nat)))]) (fun ((o, c) : List Nat × Nat) => []) (fun ((o, c) : List Nat × Nat) => [some ⟨false, 1, 0, (bD o).map V.d, 5⟩]) ((List.replicate N 0, 0)) (by (try dsimp only); exact ⟨by intro x hx; simp at hx; omega, by simp, by simp, by simp; omega, by simp, by simp [lvb, lvb_rep]⟩) (by simp <;> omega) (by simp) (by simp) ?_
 intro ⟨o, c⟩ u w hI ih
 try simp only at hI ih
 obtain ⟨i1, i2, i3, i4, i5, i6⟩ := hI
 by_cases ca : o.length - N < la.length
 ·have ca' : ((o.length - N : Nat) : Int) < la.length := by omega
  have hA := f123_ok la _ ha' (o.length - N) (by omega) (by omega)
  have hx := U8.getD h3.rev (o.length - N)
  have htx := lvb_take (l := la.reverse) (o.length - N)
  have hxz : la.length ≤ o.length - N → la.reverse.getD (o.length - N) 0 = 0 := fun h => by rw [List.getD_eq_getElem?_getD, List.getElem?_eq_none (by simpa using h)]; rfl
  generalize la.reverse.getD (o.length - N) 0 = x at hA hx htx hxz
  have hm := Nat.mul_le_mul (show x ≤ 255 by omega) hk
  have hmi : (x : Int) * (k : Int) = ((x * k : Nat) : Int) := by simp
  have hmz : x = 0 → x * k = 0 := fun e => by rw [e]; simp
  generalize hP : x * k = P at hm hmi hmz
  have hs0 : inI (P : Int) = true := inI_of (by omega) (by omega)
  have hs2 : inI ((c : Int) + (P : Int)) = true := inI_of (by omega) (by omega)
  have hs3 : ((c : Int) + (P : Int)).tmod 256 = ((c : Int) + (P : Int)) % 256 := tmod256 (by omega)
  have hs4 : ((c : Int) + (P : Int)).tdiv 256 = ((c : Int) + (P : Int)) / 256 := tdiv256 (by omega)
  have hs5 : IntKind.u8.wrap (((c : Int) + (P : Int)) % 256) = ((c : Int) + (P : Int)) % 256 := wrap8i (by omega) (by omega)
  have hs6 : inI (((c : Int) + (P : Int)) / 256) = true := inI_of (by omega) (by omega)
  have hs7 : inI (((o.length - N : Nat) : Int) + 1) = true := inI_of (by omega) (by omega)
  have hs8 : o.length ≤ 140737488355327 := by omega
  have hs9 := bD_one o ((c + P) % 256) (((c : Int) + (P : Int)) % 256) (by omega)
  have hs10 : ((o.length + 1 - N : Nat) : Int) = ((o.length - N : Nat) : Int) + 1 := by omega
  have hd := Nat.div_add_mod (c + P) 256
  have hpw : 256 ^ N * 256 ^ (o.length - N) = 256 ^ o.length := by rw [← Nat.pow_add, Nat.add_sub_cancel' i3]
  have hle : o.length + 1 - N = o.length - N + 1 := by omega
  have hval : lvb (o ++ [(c + P) % 256]) + 256 ^ (o.length + 1) * ((c + P) / 256) = 256 ^ N * (lvb (la.reverse.take (o.length + 1 - N)) * k) := by
   rw [lvb_app, Nat.pow_succ, hle, htx]; simp only [lvb]; exact tim_step i6 hd hpw hP
  simp [c108t, ca']
  refine ATT.callD Tryz.func108 60 (hA) (by simp) (by simp) (by simp) ?_
  simp [c108t]
  simp [hmi, hs0, hs2, hs3, hs4, hs5, hs6, hs7, hs8, hs9]
  refine ih (o ++ [(c + P) % 256], (c + P) / 256) (by first | ((try dsimp only); omega) | (simp <;> omega)) (by (try dsimp only); exact ⟨i1.app (by intro z hz; simp at hz; omega), by omega, by simp; omega, by simp; omega, by simp; omega, by rw [List.length_append, List.length_singleton]; exact hval⟩) _ _ _ (by simp <;> omega) (by simp [hs10] <;> omega) (by simp <;> omega)
 have ca' : ¬ ((o.length - N : Nat) : Int) < la.length := by omega
 by_cases cc : 0 < c
 ·have hA := f123_ok la _ ha' (o.length - N) (by omega) (by omega)
  have hx := U8.getD h3.rev (o.length - N)
  have htx := lvb_take (l := la.reverse) (o.length - N)
  have hxz : la.length ≤ o.length - N → la.reverse.getD (o.length - N) 0 = 0 := fun h => by rw [List.getD_eq_getElem?_getD, List.getElem?_eq_none (by simpa using h)]; rfl
  generalize la.reverse.getD (o.length - N) 0 = x at hA hx htx hxz
  have hm := Nat.mul_le_mul (show x ≤ 255 by omega) hk
  have hmi : (x : Int) * (k : Int) = ((x * k : Nat) : Int) := by simp
  have hmz : x = 0 → x * k = 0 := fun e => by rw [e]; simp
  generalize hP : x * k = P at hm hmi hmz
  have hs0 : inI (P : Int) = true := inI_of (by omega) (by omega)
  have hs2 : inI ((c : Int) + (P : Int)) = true := inI_of (by omega) (by omega)
  have hs3 : ((c : Int) + (P : Int)).tmod 256 = ((c : Int) + (P : Int)) % 256 := tmod256 (by omega)
  have hs4 : ((c : Int) + (P : Int)).tdiv 256 = ((c : Int) + (P : Int)) / 256 := tdiv256 (by omega)
  have hs5 : IntKind.u8.wrap (((c : Int) + (P : Int)) % 256) = ((c : Int) + (P : Int)) % 256 := wrap8i (by omega) (by omega)
  have hs6 : inI (((c : Int) + (P : Int)) / 256) = true := inI_of (by omega) (by omega)
  have hs7 : inI (((o.length - N : Nat) : Int) + 1) = true := inI_of (by omega) (by omega)
  have hs8 : o.length ≤ 140737488355327 := by omega
  have hs9 := bD_one o ((c + P) % 256) (((c : Int) + (P : Int)) % 256) (by omega)
  have hs10 : ((o.length + 1 - N : Nat) : Int) = ((o.length - N : Nat) : Int) + 1 := by omega
  have hd := Nat.div_add_mod (c + P) 256
  have hpw : 256 ^ N * 256 ^ (o.length - N) = 256 ^ o.length := by rw [← Nat.pow_add, Nat.add_sub_cancel' i3]
  have hle : o.length + 1 - N = o.length - N + 1 := by omega
  have hval : lvb (o ++ [(c + P) % 256]) + 256 ^ (o.length + 1) * ((c + P) / 256) = 256 ^ N * (lvb (la.reverse.take (o.length + 1 - N)) * k) := by
   rw [lvb_app, Nat.pow_succ, hle, htx]; simp only [lvb]; exact tim_step i6 hd hpw hP
  simp [c108t, ca', cc]
  refine ATT.callD Tryz.func108 60 (hA) (by simp) (by simp) (by simp) ?_
  simp [c108t]
  simp [hmi, hs0, hs2, hs3, hs4, hs5, hs6, hs7, hs8, hs9]
  refine ih (o ++ [(c + P) % 256], (c + P) / 256) (by first | ((try dsimp only); omega) | (simp <;> omega)) (by (try dsimp only); exact ⟨i1.app (by intro z hz; simp at hz; omega), by omega, by simp; omega, by simp; omega, by simp; omega, by rw [List.length_append, List.length_singleton]; exact hval⟩) _ _ _ (by simp <;> omega) (by simp [hs10] <;> omega) (by simp <;> omega)
 have hc0 : c = 0 := by omega
 subst hc0
 have hT := f124_ok o (.sl false 1 (bD o)) ⟨_, _, rfl, by simp, by simp, i1⟩ (by omega)
 rw [Nat.mul_zero, Nat.add_zero, List.take_of_length_le (by simp; omega), ← bv_lvb] at i6
 simp [c108t, ca']
 refine ATT.fz (by simp) ?_
 simp
 refine ATT.callE Tryz.func108 60 hT (by simp) (by simp) (by simp) fun v hv => ?_
 simp
 refine ATT.fin' hQ Tryz.func108 c108res ?_
 exact ⟨by simp, _, rfl, o.reverse, hv, by rw [bv_lvb, List.reverse_reverse, i6, Nat.mul_comm], by simp; omega⟩
theorem f125_ok (neg : Bool) (l : List Nat) (v : D) (hv : BS l v) (hl : l.length ≤ 1000000) : DE Tryz.prog 125 [.bool neg, v] (IntR neg (bv l)) := by
 obtain ⟨nl, sz, e, h1, h2, h3⟩ := hv
 subst e
 refine AF.start' 60 Tryz.func125 rfl rfl c125call c125ok fun Q hQ => ?_
 simp [c125c, c125t]
 refine ATT.loopG 60 c125l4.eq_1 (fun ((a, b) : List Nat × List Nat) => b.length) (fun ((a, b) : List Nat × List Nat) => l = a ++ b ∧ bv b = bv l) (fun ((a, b) : List Nat × List Nat) => [(0, .d (.bool neg)), (1, .d (.sl nl sz (bD l))), (4, .ptr 0 0), (5, .d (.int .i64 a.length))]) (fun ((a, b) : List Nat × List Nat) => [.cells [.d (.bool false), .d (.sl true 0 [])] 119]) (fun ((a, b) : List Nat × List Nat) => []) (([], l)) (by (try dsimp only); exact ⟨rfl, rfl⟩) (by simp <;> omega) (by simp) (by simp) ?_
 intro ⟨a, b⟩ u w hI ih
 try simp only at hI ih
 obtain ⟨i1, i2⟩ := hI
 have hll : l.length = a.length + b.length := by rw [i1]; simp
 cases b with
 | nil =>
  have hll' : l.length = a.length := by simpa using hll
  have hn0 : bv l = 0 := by rw [← i2]; rfl
  cases nl with
  | true =>
   have := h1 rfl
   subst this
   have ha : a = [] := by cases a <;> simp at i1 ⊢
   subst ha
   cases neg with
   | true =>
    simp [c125t]
    refine ATT.finz hQ Tryz.func125 c125res (by first | exact .inl rfl | exact .inr ⟨_, rfl⟩) ?_
    simp
    all_goals (first | omega | exact ⟨_, rfl⟩ | skip)
    exact ⟨0, _, rfl, true, 1, [], rfl, by simp, by simp, by simp [U8], by simp, rfl, by simp⟩
   | false =>
    simp [c125t]
    refine ATT.finz hQ Tryz.func125 c125res (by first | exact .inl rfl | exact .inr ⟨_, rfl⟩) ?_
    simp
    all_goals (first | omega | exact ⟨_, rfl⟩ | skip)
    exact ⟨0, _, rfl, true, 1, [], rfl, by simp, by simp, by simp [U8], by simp, rfl, by simp⟩
  | false =>
   have := h2 rfl
   subst this
   have hdt : List.drop a.length (bD l) = [] := List.drop_eq_nil_of_le (by simp; omega)
   cases neg with
   | true =>
    simp [c125t, hll']
    refine ATT.finz hQ Tryz.func125 c125res (by first | exact .inl rfl | exact .inr ⟨_, rfl⟩) ?_
    simp
    all_goals (first | omega | exact ⟨_, rfl⟩ | skip)
    exact ⟨0, _, by rw [hn0]; rfl, true, 1, [], rfl, by simp, by simp, by simp [U8], by simp, by rw [hn0]; rfl, by simp⟩
   | false =>
    simp [c125t, hll']
    refine ATT.finz hQ Tryz.func125 c125res (by first | exact .inl rfl | exact .inr ⟨_, rfl⟩) ?_
    simp
    all_goals (first | omega | exact ⟨_, rfl⟩ | skip)
    exact ⟨0, _, by rw [hn0]; rfl, true, 1, [], rfl, by simp, by simp, by simp [U8], by simp, by rw [hn0]; rfl, by simp⟩
 | cons x b =>
  have hnl : nl = false := by cases nl with | false => rfl | true => (have := h1 rfl; subst this; simp at i1)
  subst hnl
  have := h2 rfl
  subst this
  have hg : l[a.length]? = some x := by rw [i1]; simp
  have hgx := bD_get hg
  have hgx2 := bD_getE hg
  have hlt : (a.length : Int) < l.length := by simp at hll; omega
  have hlt2 : a.length < l.length := by simp at hll; omega
  have hII : inI ((a.length : Int) + 1) = true := inI_of (by omega) (by omega)
  by_cases hx : x = 0
  ·subst hx
   simp [c125t, hgx2, hlt, hlt2, hII]
   refine ih (a ++ [0], b) (by first | ((try dsimp only); omega) | (simp <;> omega)) (by (try dsimp only); exact ⟨by rw [i1]; simp, i2⟩) _ _ _ (by simp <;> omega) (by simp <;> omega) (by simp <;> omega)
  ·have hx' : ¬ (x : Int) = 0 := by omega
   have hdt : List.drop a.length (bD l) = bD (x :: b) := by rw [i1, bD_app, List.drop_left' (by simp)]
   have hpos : 0 < bv l := by rw [← i2]; have := bv_pos (l := b) hx; have h5 : 0 < 256 ^ b.length := Nat.pow_pos (by decide); omega
   have hle : a.length ≤ l.length := by omega
   have hln : b.length + 1 ≤ 140737488355328 := by simp at hll; omega
   have hu : U8 (x :: b) := fun z hz => h3 z (by rw [i1]; simp at hz ⊢; exact .inr hz)
   have htk : List.take (b.length + 1) ((bD (x :: b)).map V.d) = (bD (x :: b)).map V.d := List.take_of_length_le (by simp)
   have hdt' : List.drop a.length ((bD l).map V.d) = (bD (x :: b)).map V.d := by rw [← List.map_drop, hdt]
   have hlen : l.length - a.length = b.length + 1 := by simp at hll; omega
   have hln' : l.length ≤ 140737488355328 + a.length := by omega
   cases neg with
   | true =>
    simp [c125t, hgx2, hlt, hlt2, hx, hdt', hle]
    refine ATT.finz hQ Tryz.func125 c125res (by first | exact .inl rfl | exact .inr ⟨_, rfl⟩) ?_
    simp [htk]
    all_goals (first | omega | exact ⟨_, rfl⟩ | skip)
    exact ⟨by simp at hll; omega, b.length + 1, _, by rw [decide_eq_true hpos]; rfl, _, 1, x :: b, rfl, by simp [bD], by simp, hu, fun q e => hx (by simpa using (List.cons.inj e).1), i2, by simp⟩
   | false =>
    simp [c125t, hgx2, hlt, hlt2, hx, hdt', hle]
    refine ATT.finz hQ Tryz.func125 c125res (by first | exact .inl rfl | exact .inr ⟨_, rfl⟩) ?_
    simp [htk]
    all_goals (first | omega | exact ⟨_, rfl⟩ | skip)
    exact ⟨by simp at hll; omega, b.length + 1, _, rfl, _, 1, x :: b, rfl, by simp [bD], by simp, hu, fun q e => hx (by simpa using (List.cons.inj e).1), i2, by simp⟩
theorem f109_ok (neg : Bool) (l : List Nat) (v : D) (hv : BS l v) (hl : l.length ≤ 1000000) : DE Tryz.prog 109 [.bool neg, v] fun r => if bv l < 256 ^ 128 then ∃ u, r = .tup [u, .int .i64 0] ∧ IntR neg (bv l) u else r = .tup [.agg [.bool false, .sl true 0 []], .int .i64 24] := by
 have hM := f125_ok neg l v hv hl
 obtain ⟨nl0, sz0, e0, _⟩ := hv
 subst e0
 refine AF.start' 60 Tryz.func109 rfl rfl c109call c109ok fun Q hQ => ?_
 simp [c109c, c109t]
 refine ATT.callE Tryz.func109 60 hM (by simp) (by simp) (by simp) fun v hv => ?_
 have hv' := hv
 obtain ⟨k', u, e, nl, sz, l', e2, h1, h2, h3, h4, h5, h6⟩ := hv'
 subst e e2
 have hf := bv_fits h3 h4 128
 rw [h5] at hf
 simp [c109t]
 by_cases hn : bv l < 256 ^ 128
 ·simp only [if_pos hn] at hQ
  have hl : ¬ (128 : Int) < l'.length := by have := hf.mpr hn; omega
  simp [c109t, hl]
  refine ATT.fin' hQ Tryz.func109 c109res ?_
  exact ⟨by simp, _, rfl, _, rfl, hv⟩
 ·simp only [if_neg hn] at hQ
  have hl : (128 : Int) < l'.length := by
   have : ¬ l'.length ≤ 128 := fun h => hn (hf.mp h)
   omega
  simp [c109t, hl]
  refine ATT.fin' hQ Tryz.func109 c109res ?_
  exact ⟨by simp, _, rfl, rfl⟩
end Go.SL
namespace Go.SL
open Go.Proofs
set_option maxRecDepth 10000
set_option maxHeartbeats 1000000 in
theorem f78_ok (s : ByteArray) (hd : digs s) (hs : s.size ≤ 1073741824) : DE Tryz.prog 78 [.str s] (ReadQ s) := by
 have hc0 := hd.2 0 hd.1
 simp only [digitS, Bool.and_eq_true, decide_eq_true_eq, Int.ofNat_zero] at hc0
 have hr0 : inR 0 s.size = true := inR_of (by omega) (by have := hd.1; omega)
 have h45 : ¬ sbyte s 0 = 45 := by omega
 have hp := hd.1
 refine AF.start' 60 Tryz.func78 rfl rfl c78call c78ok fun Q hQ => ?_
 simp [c78c, c78t, hr0, h45, hp]
 unfold ReadQ at hQ
 by_cases h0 : sbyte s 0 = 48 ∧ 1 < s.size
 ·simp only [if_pos h0] at hQ
  have h1 : ¬ (s.size : Int) = 1 := by omega
  have h1' : ¬ s.size = 1 := by omega
  have h48 := h0.1
  simp [c78t, eq_true h48, h1]
  refine ATT.loopG 60 c78l9.eq_1 (fun (j : Nat) => s.size - j) (fun (j : Nat) => j ≤ s.size) (fun (j : Nat) => [(0, .d (.str s)), (2, .ptr 0 0), (4, .d (.str s)), (5, .d (.bool false)), (6, .d (.int .i64 j))]) (fun (j : Nat) => [.cells [.d (.bool false), .d (.sl true 0 [])] 119]) (fun (j : Nat) => []) (0) (by (try dsimp only); exact Nat.zero_le _) (by simp <;> omega) (by simp) (by simp) ?_
  intro j u w hI ih
  try simp only at hI ih
  by_cases hj : j < s.size
  ·have hj' : (j : Int) < s.size := by omega
   have hII : inI ((j : Int) + 1) = true := inI_of (by omega) (by omega)
   simp [c78t, hj', hII]
   refine ih (j + 1) (by first | ((try dsimp only); omega) | (simp [hr0, h45, hp] <;> omega)) (by (try dsimp only); exact hj) _ _ _ (by simp <;> omega) (by simp <;> omega) (by simp <;> omega)
  have hj' : ¬ (j : Int) < s.size := by omega
  simp [c78t, hj']
  refine ATT.fin' hQ Tryz.func78 c78res ?_
  exact ⟨by simp, _, rfl, rfl⟩
 simp only [if_neg h0] at hQ
 have hgo : ∀ {P : Prop}, ((sbyte s 0 = 48 → s.size = 1 → P) ∧ (¬ sbyte s 0 = 48 → P)) → P := fun h => by
  by_cases h48 : sbyte s 0 = 48
  ·exact h.1 h48 (by omega)
  ·exact h.2 h48
 refine hgo ⟨fun h48 h1 => ?_, fun h48 => ?_⟩
 ·have h1' : (s.size : Int) = 1 := by omega
  simp [c78t, eq_true h48, h1']
  refine ATT.loopG 60 c78l9.eq_1 (fun (j : Nat) => s.size - j) (fun (j : Nat) => j ≤ s.size) (fun (j : Nat) => [(0, .d (.str s)), (2, .ptr 0 0), (4, .d (.str s)), (5, .d (.bool true)), (6, .d (.int .i64 j))]) (fun (j : Nat) => [.cells [.d (.bool false), .d (.sl true 0 [])] 119]) (fun (j : Nat) => []) (0) (by (try dsimp only); exact Nat.zero_le _) (by simp <;> omega) (by simp) (by simp) ?_
  intro j u w hI ih
  try simp only at hI ih
  by_cases hj : j < s.size
  ·have hj' : (j : Int) < s.size := by omega
   have hc := hd.2 j hj
   simp only [digitS, Bool.and_eq_true, decide_eq_true_eq] at hc
   have hr : inR j s.size = true := inR_of (by omega) (by omega)
   have hII : inI ((j : Int) + 1) = true := inI_of (by omega) (by omega)
   simp [c78t, hj', hr, hII, hc.1, hc.2]
   refine ih (j + 1) (by first | ((try dsimp only); omega) | (simp [hr0, h45, hp] <;> omega)) (by (try dsimp only); exact hj) _ _ _ (by simp <;> omega) (by simp <;> omega) (by simp <;> omega)
  have hj' : ¬ (j : Int) < s.size := by omega
  simp [c78t, hj']
  by_cases h4 : 400 < s.size
  ·simp only [if_pos h4] at hQ
   have h4' : (400 : Int) < s.size := by omega
   simp [c78t, h4']
   refine ATT.fin' hQ Tryz.func78 c78res ?_
   exact ⟨by simp, _, rfl, rfl⟩
  simp only [if_neg h4] at hQ
  have h4' : ¬ (400 : Int) < s.size := by omega
  simp [c78t, h4']
  refine ATT.loopG 60 c78l20.eq_1 (fun ((i, v, l) : Nat × D × List Nat) => s.size - i) (fun ((i, v, l) : Nat × D × List Nat) => i ≤ s.size ∧ BS l v ∧ bv l = dval s i ∧ l.length ≤ 2 * i) (fun ((i, v, l) : Nat × D × List Nat) => [(0, .d (.str s)), (2, .ptr 0 0), (4, .d (.str s)), (7, .d v), (8, .d (.int .i64 i))]) (fun ((i, v, l) : Nat × D × List Nat) => [.cells [.d (.bool false), .d (.sl true 0 [])] 119]) (fun ((i, v, l) : Nat × D × List Nat) => []) ((0, .sl true 0 [], [])) (by (try dsimp only); exact ⟨Nat.zero_le _, ⟨true, 0, rfl, fun _ => rfl, by simp, by simp [U8]⟩, rfl, by simp⟩) (by simp <;> omega) (by simp) (by simp) ?_
  intro ⟨i, v, l⟩ u w hI ih
  try simp only at hI ih
  obtain ⟨i1, i2, i3, i4⟩ := hI
  by_cases hi : i < s.size
  ·have hi' : (i : Int) < s.size := by omega
   have hc := hd.2 i hi
   simp only [digitS, Bool.and_eq_true, decide_eq_true_eq] at hc
   have hr : inR i s.size = true := inR_of (by omega) (by omega)
   obtain ⟨c, hcc⟩ : ∃ c : Nat, sbyte s i = ((48 + c : Nat) : Int) := ⟨(sbyte s i - 48).toNat, by omega⟩
   have hc9 : c ≤ 9 := by omega
   have hcn : (sbyte s i - 48).toNat = c := by omega
   have hw1 : IntKind.u8.wrap (sbyte s i - 48) = (c : Int) := by rw [hcc, show ((48 + c : Nat) : Int) - 48 = (c : Int) by omega, wrap8x]; omega
   have hII : inI ((i : Int) + 1) = true := inI_of (by omega) (by omega)
   have hti := f108_ok l v i2 10 0 (by omega) (by omega) (by omega)
   have hone : BS [c] (.sl false 1 [.int .u8 c]) := ⟨false, 1, rfl, by simp, fun _ => rfl, by intro x hx; simp at hx; omega⟩
   simp [c78t, hi']
   refine ATT.ords 60 (by simp <;> omega) fun o ho => ?_
   simp only [List.mem_cons, List.mem_nil_iff, or_false] at ho
   rcases ho with ho | ho <;> subst ho
   all_goals try simp [hr, hw1]
   ·refine ATT.callRE Tryz.func78 60 hti (by simp) (by simp) (by simp) fun v1 hv1 => ?_
    obtain ⟨l1, hl1, hb1, hn1⟩ := hv1
    have hsum := f107_ok l1 [c] v1 _ hl1 hone (by omega) (by simp)
    simp [hr, hw1]
    refine ATT.callRA Tryz.func78 60 [] [w.length] 0 0 (DE.rows hsum (args := [.d v1, .vs 0 1 0 1]) (h := ⟨[], [some ⟨false, 1, 0, [.d (.int .u8 c)], 5⟩]⟩) (by simp)) (by simp) (by simp) (by simp) (by simp) (by simp) fun out hC hE => ?_
    obtain ⟨v2, e1, ⟨l2, hl2, hb2, hn2⟩, e2⟩ := hE
    subst e1 e2
    have hn2' : l2.length ≤ 2 * (i + 1) := by simp at hn2; omega
    have hb2' : bv l2 = dval s (i + 1) := by rw [hb2, hb1, i3]; simp [dval, hcn, bv, bvA]
    simp [c78t, hII]
    refine ih (i + 1, v2, l2) (by first | ((try dsimp only); omega) | (simp [hi', hr, hw1, hII] <;> omega)) (by (try dsimp only); exact ⟨hi, hl2, hb2', hn2'⟩) _ _ _ (by simp <;> omega) (by simp <;> omega) (by simp <;> omega)
   ·refine ATT.callRE Tryz.func78 60 hti (by simp) (by simp) (by simp) fun v1 hv1 => ?_
    obtain ⟨l1, hl1, hb1, hn1⟩ := hv1
    have hsum := f107_ok l1 [c] v1 _ hl1 hone (by omega) (by simp)
    simp [hr, hw1]
    refine ATT.callRA Tryz.func78 60 [] [w.length] 0 0 (DE.rows hsum (args := [.d v1, .vs 0 1 0 1]) (h := ⟨[], [some ⟨false, 1, 0, [.d (.int .u8 c)], 5⟩]⟩) (by simp)) (by simp) (by simp) (by simp) (by simp) (by simp) fun out hC hE => ?_
    obtain ⟨v2, e1, ⟨l2, hl2, hb2, hn2⟩, e2⟩ := hE
    subst e1 e2
    have hn2' : l2.length ≤ 2 * (i + 1) := by simp at hn2; omega
    have hb2' : bv l2 = dval s (i + 1) := by rw [hb2, hb1, i3]; simp [dval, hcn, bv, bvA]
    simp [c78t, hII]
    refine ih (i + 1, v2, l2) (by first | ((try dsimp only); omega) | (simp [hi', hr, hw1, hII] <;> omega)) (by (try dsimp only); exact ⟨hi, hl2, hb2', hn2'⟩) _ _ _ (by simp <;> omega) (by simp <;> omega) (by simp <;> omega)
  ·have hie : i = s.size := by omega
   subst hie
   have hF := f109_ok false l v i2 (by omega)
   have hi' : ¬ (s.size : Int) < s.size := by omega
   simp [c78t, hi']
   refine ATT.callE Tryz.func78 60 hF (by simp) (by simp) (by simp) fun r hr => ?_
   rw [i3] at hr
   by_cases hn : dval s s.size < 256 ^ 128
   ·simp only [if_pos hn] at hQ hr
    obtain ⟨u, e, hu⟩ := hr
    subst e
    obtain ⟨k', u', e, hu'⟩ := hu
    have hu := hu'
    subst e
    obtain ⟨nl, sz, l, e, _⟩ := hu'
    subst e
    simp
    refine ATT.fin' hQ Tryz.func78 c78res ?_
    exact ⟨by simp, _, rfl, _, rfl, _, _, by simp, hu⟩
   ·simp only [if_neg hn] at hQ hr
    subst hr
    simp
    refine ATT.fin' hQ Tryz.func78 c78res ?_
    exact ⟨by simp, _, rfl, rfl⟩
 ·simp [c78t, h48]
  refine ATT.loopG 60 c78l9.eq_1 (fun (j : Nat) => s.size - j) (fun (j : Nat) => j ≤ s.size) (fun (j : Nat) => [(0, .d (.str s)), (2, .ptr 0 0), (4, .d (.str s)), (5, .d (.bool true)), (6, .d (.int .i64 j))]) (fun (j : Nat) => [.cells [.d (.bool false), .d (.sl true 0 [])] 119]) (fun (j : Nat) => []) (0) (by (try dsimp only); exact Nat.zero_le _) (by simp <;> omega) (by simp) (by simp) ?_
  intro j u w hI ih
  try simp only at hI ih
  by_cases hj : j < s.size
  ·have hj' : (j : Int) < s.size := by omega
   have hc := hd.2 j hj
   simp only [digitS, Bool.and_eq_true, decide_eq_true_eq] at hc
   have hr : inR j s.size = true := inR_of (by omega) (by omega)
   have hII : inI ((j : Int) + 1) = true := inI_of (by omega) (by omega)
   simp [c78t, hj', hr, hII, hc.1, hc.2]
   refine ih (j + 1) (by first | ((try dsimp only); omega) | (simp [hr0, h45, hp] <;> omega)) (by (try dsimp only); exact hj) _ _ _ (by simp <;> omega) (by simp <;> omega) (by simp <;> omega)
  have hj' : ¬ (j : Int) < s.size := by omega
  simp [c78t, hj']
  by_cases h4 : 400 < s.size
  ·simp only [if_pos h4] at hQ
   have h4' : (400 : Int) < s.size := by omega
   simp [c78t, h4']
   refine ATT.fin' hQ Tryz.func78 c78res ?_
   exact ⟨by simp, _, rfl, rfl⟩
  simp only [if_neg h4] at hQ
  have h4' : ¬ (400 : Int) < s.size := by omega
  simp [c78t, h4']
  refine ATT.loopG 60 c78l20.eq_1 (fun ((i, v, l) : Nat × D × List Nat) => s.size - i) (fun ((i, v, l) : Nat × D × List Nat) => i ≤ s.size ∧ BS l v ∧ bv l = dval s i ∧ l.length ≤ 2 * i) (fun ((i, v, l) : Nat × D × List Nat) => [(0, .d (.str s)), (2, .ptr 0 0), (4, .d (.str s)), (7, .d v), (8, .d (.int .i64 i))]) (fun ((i, v, l) : Nat × D × List Nat) => [.cells [.d (.bool false), .d (.sl true 0 [])] 119]) (fun ((i, v, l) : Nat × D × List Nat) => []) ((0, .sl true 0 [], [])) (by (try dsimp only); exact ⟨Nat.zero_le _, ⟨true, 0, rfl, fun _ => rfl, by simp, by simp [U8]⟩, rfl, by simp⟩) (by simp <;> omega) (by simp) (by simp) ?_
  intro ⟨i, v, l⟩ u w hI ih
  try simp only at hI ih
  obtain ⟨i1, i2, i3, i4⟩ := hI
  by_cases hi : i < s.size
  ·have hi' : (i : Int) < s.size := by omega
   have hc := hd.2 i hi
   simp only [digitS, Bool.and_eq_true, decide_eq_true_eq] at hc
   have hr : inR i s.size = true := inR_of (by omega) (by omega)
   obtain ⟨c, hcc⟩ : ∃ c : Nat, sbyte s i = ((48 + c : Nat) : Int) := ⟨(sbyte s i - 48).toNat, by omega⟩
   have hc9 : c ≤ 9 := by omega
   have hcn : (sbyte s i - 48).toNat = c := by omega
   have hw1 : IntKind.u8.wrap (sbyte s i - 48) = (c : Int) := by rw [hcc, show ((48 + c : Nat) : Int) - 48 = (c : Int) by omega, wrap8x]; omega
   have hII : inI ((i : Int) + 1) = true := inI_of (by omega) (by omega)
   have hti := f108_ok l v i2 10 0 (by omega) (by omega) (by omega)
   have hone : BS [c] (.sl false 1 [.int .u8 c]) := ⟨false, 1, rfl, by simp, fun _ => rfl, by intro x hx; simp at hx; omega⟩
   simp [c78t, hi']
   refine ATT.ords 60 (by simp <;> omega) fun o ho => ?_
   simp only [List.mem_cons, List.mem_nil_iff, or_false] at ho
   rcases ho with ho | ho <;> subst ho
   all_goals try simp [hr, hw1]
   ·refine ATT.callRE Tryz.func78 60 hti (by simp) (by simp) (by simp) fun v1 hv1 => ?_
    obtain ⟨l1, hl1, hb1, hn1⟩ := hv1
    have hsum := f107_ok l1 [c] v1 _ hl1 hone (by omega) (by simp)
    simp [hr, hw1]
    refine ATT.callRA Tryz.func78 60 [] [w.length] 0 0 (DE.rows hsum (args := [.d v1, .vs 0 1 0 1]) (h := ⟨[], [some ⟨false, 1, 0, [.d (.int .u8 c)], 5⟩]⟩) (by simp)) (by simp) (by simp) (by simp) (by simp) (by simp) fun out hC hE => ?_
    obtain ⟨v2, e1, ⟨l2, hl2, hb2, hn2⟩, e2⟩ := hE
    subst e1 e2
    have hn2' : l2.length ≤ 2 * (i + 1) := by simp at hn2; omega
    have hb2' : bv l2 = dval s (i + 1) := by rw [hb2, hb1, i3]; simp [dval, hcn, bv, bvA]
    simp [c78t, hII]
    refine ih (i + 1, v2, l2) (by first | ((try dsimp only); omega) | (simp [hi', hr, hw1, hII] <;> omega)) (by (try dsimp only); exact ⟨hi, hl2, hb2', hn2'⟩) _ _ _ (by simp <;> omega) (by simp <;> omega) (by simp <;> omega)
   ·refine ATT.callRE Tryz.func78 60 hti (by simp) (by simp) (by simp) fun v1 hv1 => ?_
    obtain ⟨l1, hl1, hb1, hn1⟩ := hv1
    have hsum := f107_ok l1 [c] v1 _ hl1 hone (by omega) (by simp)
    simp [hr, hw1]
    refine ATT.callRA Tryz.func78 60 [] [w.length] 0 0 (DE.rows hsum (args := [.d v1, .vs 0 1 0 1]) (h := ⟨[], [some ⟨false, 1, 0, [.d (.int .u8 c)], 5⟩]⟩) (by simp)) (by simp) (by simp) (by simp) (by simp) (by simp) fun out hC hE => ?_
    obtain ⟨v2, e1, ⟨l2, hl2, hb2, hn2⟩, e2⟩ := hE
    subst e1 e2
    have hn2' : l2.length ≤ 2 * (i + 1) := by simp at hn2; omega
    have hb2' : bv l2 = dval s (i + 1) := by rw [hb2, hb1, i3]; simp [dval, hcn, bv, bvA]
    simp [c78t, hII]
    refine ih (i + 1, v2, l2) (by first | ((try dsimp only); omega) | (simp [hi', hr, hw1, hII] <;> omega)) (by (try dsimp only); exact ⟨hi, hl2, hb2', hn2'⟩) _ _ _ (by simp <;> omega) (by simp <;> omega) (by simp <;> omega)
  ·have hie : i = s.size := by omega
   subst hie
   have hF := f109_ok false l v i2 (by omega)
   have hi' : ¬ (s.size : Int) < s.size := by omega
   simp [c78t, hi']
   refine ATT.callE Tryz.func78 60 hF (by simp) (by simp) (by simp) fun r hr => ?_
   rw [i3] at hr
   by_cases hn : dval s s.size < 256 ^ 128
   ·simp only [if_pos hn] at hQ hr
    obtain ⟨u, e, hu⟩ := hr
    subst e
    obtain ⟨k', u', e, hu'⟩ := hu
    have hu := hu'
    subst e
    obtain ⟨nl, sz, l, e, _⟩ := hu'
    subst e
    simp
    refine ATT.fin' hQ Tryz.func78 c78res ?_
    exact ⟨by simp, _, rfl, _, rfl, _, _, by simp, hu⟩
   ·simp only [if_neg hn] at hQ hr
    subst hr
    simp
    refine ATT.fin' hQ Tryz.func78 c78res ?_
    exact ⟨by simp, _, rfl, rfl⟩
end Go.SL
namespace Go.SL
open Go.Proofs
set_option maxRecDepth 10000
theorem ext_sbyte {a b : ByteArray} (h : a.size = b.size) (hb : ∀ k : Nat, k < a.size → sbyte a k = sbyte b k) : a = b := by
 apply ByteArray.ext
 apply Array.ext
 ·exact h
 ·intro k h1 h2
  have := hb k h1
  have h1' : k < a.data.size := h1
  have h2' : k < b.data.size := h2
  simp only [sbyte, List.getD_eq_getElem?_getD, Int.toNat_natCast, Array.getElem?_toList, Array.getElem?_eq_getElem h1', Array.getElem?_eq_getElem h2', Option.getD_some] at this
  exact UInt8.toNat_inj.1 (by omega)
theorem subT_one {s : ByteArray} {i : Nat} {a : UInt8} (h : i < s.size) (ha : sbyte s i = (a.toNat : Int)) : subT s i (i + 1) = ⟨#[a]⟩ := by
 have hz := subT_size (s := s) (i := i) (j := i + 1) (by omega) (by omega)
 refine ext_sbyte (by rw [hz]; show _ = 1; omega) fun k hk => ?_
 have : k = 0 := by omega
 subst this
 rw [sbyte_sub (by omega) (by omega), Nat.add_zero, ha]
 rfl
theorem subT_two {s : ByteArray} {i : Nat} {a b : UInt8} (h : i + 1 < s.size) (ha : sbyte s i = (a.toNat : Int)) (hb : sbyte s (i + 1 : Nat) = (b.toNat : Int)) : subT s i (i + 2) = ⟨#[a, b]⟩ := by
 have hz := subT_size (s := s) (i := i) (j := i + 2) (by omega) (by omega)
 refine ext_sbyte (by rw [hz]; show _ = 2; omega) fun k hk => ?_
 have : k = 0 ∨ k = 1 := by omega
 rcases this with this | this <;> subst this
 ·rw [sbyte_sub (by omega) (by omega), Nat.add_zero, ha]; rfl
 ·rw [sbyte_sub (by omega) (by omega), hb]; rfl
theorem atS_sbyte {s : ByteArray} {i : Nat} (h : i < s.size) : atS s i = sbyte s i := by simp [atS, h]
def WordR (num : ByteArray → Bool) (s : ByteArray) (i : Nat) (v : D) : Prop :=
 ∃ k t a, v = .tup [tokD k t a, .int .i64 (match wordS num s i with | some (_, _, e) => (e : Int) | none => -1)] ∧ ∀ k' t' e, wordS num s i = some (k', t', e) → k = k' ∧ t = t' ∧ a = i
theorem WordR.some {num : ByteArray → Bool} {s : ByteArray} {i : Nat} {k : Int} {t : ByteArray} {e : Nat} (h : wordS num s i = some (k, t, e)) : WordR num s i (.tup [tokD k t i, .int .i64 e]) :=
 ⟨k, t, i, by rw [h], fun k' t' e' h' => by rw [h] at h'; simp at h'; exact ⟨h'.1, h'.2.1, rfl⟩⟩
theorem WordR.none {num : ByteArray → Bool} {s : ByteArray} {i : Nat} (h : wordS num s i = none) (k : Int) (t : ByteArray) (a : Nat) : WordR num s i (.tup [tokD k t a, .int .i64 (-1)]) :=
 ⟨k, t, a, by rw [h], fun k' t' e' h' => by rw [h] at h'; simp at h'⟩
section
variable {num : ByteArray → Bool} (s : ByteArray) (hs : s.size ≤ 1073741820) (i : Nat) (hi : i < s.size)
include hs hi
theorem f48_letter (hl : letterS (sbyte s i) = true) : DE Tryz.prog 48 [.str s, .int .i64 i] (WordR num s i) := by
 have hR : inR (i : Int) s.size = true := inR_of (by omega) (by omega)
 have hNl := nameS_le s i
 have hg : i < nameS s i := (nameS_gt s i).2 (by simp [hi, hl])
 have hI3 : inI ((nameS s i : Int) + 1) = true := inI_of (by omega) (by omega)
 refine AF.start' 60 Tryz.func48 rfl rfl c48call c48ok fun Q hQ => ?_
 simp [c48c, c48t, hR]
 refine ATT.callD Tryz.func48 60 (f36_ok s (by omega) i) (by simp) (by simp) (by simp) ?_
 simp [c48t, hg]
 refine ATT.callD Tryz.func48 60 (f77_ok s (nameS s i) (by omega)) (by simp) (by simp) (by simp) ?_
 simp
 cases hc : colonS s (nameS s i) with
 | true =>
  have := colon_lt hc
  have hw : WordR num s i (.tup [tokD 2 (subT s i (nameS s i + 1)) i, .int .i64 (nameS s i + 1 : Nat)]) := WordR.some (by simp [wordS, hl, hc])
  simp [c48t, hI3]
  refine ATT.fin' hQ Tryz.func48 c48res ?_
  simp [tokD, subT] at hw
  simp
  all_goals (first | exact hw | exact ⟨by omega, hw⟩ | skip)
 | false =>
  have hw : WordR num s i (.tup [tokD 1 (subT s i (nameS s i)) i, .int .i64 (nameS s i)]) := WordR.some (by simp [wordS, hl, hc])
  simp [c48t]
  refine ATT.fin' hQ Tryz.func48 c48res ?_
  simp [tokD, subT] at hw
  simp
  all_goals (first | exact hw | exact ⟨by omega, hw⟩ | skip)
theorem f48_digit (hW : NumP 78 num) (hl : letterS (sbyte s i) = false) (hd : digitS (sbyte s i) = true) : DE Tryz.prog 48 [.str s, .int .i64 i] (WordR num s i) := by
 have hR : inR (i : Int) s.size = true := inR_of (by omega) (by omega)
 have hkl := skipS_le digitS s _ i rfl
 have hdg := digs_sub hi hd
 have hsz := subT_size (s := s) hkl.1 (hkl.2 (by omega))
 have hk1 := hkl.1
 have hk2 := hkl.2 (by omega)
 have hg : ¬ i < nameS s i := fun h => by have := (nameS_gt s i).1 h; simp [hl] at this
 refine AF.start' 60 Tryz.func48 rfl rfl c48call c48ok fun Q hQ => ?_
 simp [c48c, c48t, hR]
 refine ATT.callD Tryz.func48 60 (f36_ok s (by omega) i) (by simp) (by simp) (by simp) ?_
 simp [c48t, hg]
 refine ATT.callD Tryz.func48 60 (f68_ok (sbyte s i)) (by simp) (by simp) (by simp) ?_
 simp [hd]
 have hn : nameS s i = i := by have := nameS_le s i; omega
 generalize hr : skipS digitS s i = r at hkl hdg hsz hk1 hk2
 refine ATT.loopG 60 c48l14.eq_1 (fun (k : Nat) => s.size - k) (fun (k : Nat) => skipS digitS s k = r ∧ i ≤ k ∧ k ≤ r) (fun (k : Nat) => [(0, V.d (.str s)), (1, V.d (.int .i64 i)), (8, V.d (.int .i64 k)), (7, .ptr 1 0), (4, .ptr 0 0)]) (fun (k : Nat) => [.cells [.d (.int .i64 0), .d (.str ⟨#[]⟩), .d (.int .i64 0)] 92, .cells [.d (.int .i64 0), .d (.str ⟨#[]⟩), .d (.int .i64 i)] 92]) (fun (k : Nat) => []) (nameS s i) (by (try dsimp only); exact ⟨by rw [hn, hr], by omega, by omega⟩) (by simp <;> omega) (by simp) (by simp) ?_
 intro k u w hI ih
 try simp only at hI ih
 obtain ⟨hk1', hk2', hk3'⟩ := hI
 simp [c48t]
 first | with_reducible refine ATT.cC (fun hk => ?_) (fun hk => ?_) | with_reducible refine ATT.cE (fun hk => ?_) (fun hk => ?_) | with_reducible refine ATT.cD (fun hk => ?_) (fun hk => ?_) | with_reducible refine ATT.cCn (fun hk => ?_) (fun hk => ?_) | with_reducible refine ATT.cEn (fun hk => ?_) (fun hk => ?_) | with_reducible refine ATT.cDn (fun hk => ?_) (fun hk => ?_)
 ·have hRk : inR (k : Int) s.size = true := inR_of (by omega) (by omega)
  have hIk : inI ((k : Int) + 1) = true := inI_of (by omega) (by omega)
  simp [hk, hRk]
  refine ATT.callD Tryz.func48 60 (f68_ok (sbyte s k)) (by simp) (by simp) (by simp) ?_
  simp
  cases hdk : digitS (sbyte s k) with
  | true =>
   have h2 := skipS_yes (p := digitS) (s := s) (i := k) (by simp [hdk]; omega)
   have h3 := skipS_le digitS s _ (k + 1) rfl
   simp [c48t, hIk]
   refine ih (k + 1) (by first | ((try dsimp only); omega) | (simp [hR, hl, hg] <;> omega)) (by (try dsimp only); exact ⟨by rw [← h2]; exact hk1', by omega, by omega⟩) _ _ _ (by simp <;> omega) (by simp <;> omega) (by simp <;> omega)
  | false =>
   have hkr : k = r := by rw [← hk1']; exact (skipS_no (by simp [hdk])).symm
   subst hkr
   simp [c48t, hk1, hk2]
   refine ATT.callE Tryz.func48 60 (hW _ hdg (by omega)) (by simp) (by simp [subT]) (by simp) fun _ hE => ?_
   obtain ⟨b, nl, sz, xs, e, rfl, he⟩ := hE
   simp [c48t]
   cases hn2 : num (subT s i k) with
   | true =>
    rw [hn2] at he
    have hw : WordR num s i (.tup [tokD 4 (subT s i k) i, .int .i64 k]) := WordR.some (by simp [wordS, hl, hd, hr, hn2])
    simp [c48t, he]
    refine ATT.fin' hQ Tryz.func48 c48res ?_
    simp [tokD, subT] at hw
    simp
    all_goals (first | exact hw | exact ⟨by omega, hw⟩ | skip)
   | false =>
    rw [hn2] at he
    have he' : ¬ e = 0 := fun h => by simpa using he.1 h
    have hw : WordR num s i (.tup [tokD 0 ⟨#[]⟩ 0, .int .i64 (-1)]) := WordR.none (by simp [wordS, hl, hd, hr, hn2]) _ _ _
    simp [c48t, he']
    refine ATT.fin' hQ Tryz.func48 c48res ?_
    simp [tokD] at hw
    simp
    all_goals (first | exact hw | exact ⟨by omega, hw⟩ | skip)
 ·have hkr : k = r := by rw [← hk1']; exact (skipS_no (by simp; omega)).symm
  subst hkr
  simp [c48t, hk1, hk2, hk]
  refine ATT.callE Tryz.func48 60 (hW _ hdg (by omega)) (by simp) (by simp [subT]) (by simp) fun _ hE => ?_
  obtain ⟨b, nl, sz, xs, e, rfl, he⟩ := hE
  simp [c48t]
  cases hn2 : num (subT s i k) with
  | true =>
   rw [hn2] at he
   have hw : WordR num s i (.tup [tokD 4 (subT s i k) i, .int .i64 k]) := WordR.some (by simp [wordS, hl, hd, hr, hn2])
   simp [c48t, he]
   refine ATT.fin' hQ Tryz.func48 c48res ?_
   simp [tokD, subT] at hw
   simp
   all_goals (first | exact hw | exact ⟨by omega, hw⟩ | skip)
  | false =>
   rw [hn2] at he
   have he' : ¬ e = 0 := fun h => by simpa using he.1 h
   have hw : WordR num s i (.tup [tokD 0 ⟨#[]⟩ 0, .int .i64 (-1)]) := WordR.none (by simp [wordS, hl, hd, hr, hn2]) _ _ _
   simp [c48t, he']
   refine ATT.fin' hQ Tryz.func48 c48res ?_
   simp [tokD] at hw
   simp
   all_goals (first | exact hw | exact ⟨by omega, hw⟩ | skip)
theorem f48_quote (h39 : sbyte s i = 39) : DE Tryz.prog 48 [.str s, .int .i64 i] (WordR num s i) := by
 have hR : inR (i : Int) s.size = true := inR_of (by omega) (by omega)
 have hl : letterS (sbyte s i) = false := by rw [h39]; decide
 have hd : digitS (sbyte s i) = false := by rw [h39]; decide
 have hg : ¬ i < nameS s i := fun h => by have := (nameS_gt s i).1 h; simp [hl] at this
 refine AF.start' 60 Tryz.func48 rfl rfl c48call c48ok fun Q hQ => ?_
 simp [c48c, c48t, hR]
 refine ATT.callD Tryz.func48 60 (f36_ok s (by omega) i) (by simp) (by simp) (by simp) ?_
 simp [c48t, hg]
 refine ATT.callD Tryz.func48 60 (f68_ok (sbyte s i)) (by simp) (by simp) (by simp) ?_
 simp [c48t, hd, eq_true h39]
 refine ATT.callD Tryz.func48 60 (f79_ok s (by omega) i (by omega)) (by simp) (by simp) (by simp) ?_
 simp [c48t]
 cases hq : quB (quotedS s i).1 with
 | true =>
  have hw : WordR num s i (.tup [tokD 5 (quT (quotedS s i).1) i, .int .i64 (quotedS s i).2]) := WordR.some (by rw [wordS]; simp only [hl, hd, eq_true h39, hq]; simp)
  refine ATT.fin' hQ Tryz.func48 c48res ?_
  simp [tokD] at hw
  simp
  all_goals (first | exact hw | exact ⟨by omega, hw⟩ | skip)
 | false =>
  have hw : WordR num s i (.tup [tokD 5 ⟨#[]⟩ i, .int .i64 (-1)]) := WordR.none (by rw [wordS]; simp only [hl, hd, eq_true h39, hq]; simp) _ _ _
  refine ATT.fin' hQ Tryz.func48 c48res ?_
  simp [tokD] at hw
  simp
  all_goals (first | exact hw | exact ⟨by omega, hw⟩ | skip)
theorem f48_hash (h35 : sbyte s i = 35) : DE Tryz.prog 48 [.str s, .int .i64 i] (WordR num s i) := by
 have hR : inR (i : Int) s.size = true := inR_of (by omega) (by omega)
 have hI1 : inI ((i : Int) + 1) = true := inI_of (by omega) (by omega)
 have hI2 : inI ((i : Int) + 2) = true := inI_of (by omega) (by omega)
 have hl : letterS (sbyte s i) = false := by rw [h35]; decide
 have hd : digitS (sbyte s i) = false := by rw [h35]; decide
 have h39 : ¬ sbyte s i = 39 := by rw [h35]; decide
 have hg : ¬ i < nameS s i := fun h => by have := (nameS_gt s i).1 h; simp [hl] at this
 have hat := f80_ok s (i + 1)
 have hsy := f81_ok s (by omega) (i + 1) (by omega)
 simp only [Int.natCast_add, Int.natCast_one] at hat hsy
 refine AF.start' 60 Tryz.func48 rfl rfl c48call c48ok fun Q hQ => ?_
 simp [c48c, c48t, hR]
 refine ATT.callD Tryz.func48 60 (f36_ok s (by omega) i) (by simp) (by simp) (by simp) ?_
 simp [c48t, hg]
 refine ATT.callD Tryz.func48 60 (f68_ok (sbyte s i)) (by simp) (by simp) (by simp) ?_
 simp [c48t, hd, eq_true h35, h39, hI1]
 refine ATT.callD Tryz.func48 60 (hat) (by simp) (by simp) (by simp) ?_
 simp
 first | with_reducible refine ATT.cC (fun h40 => ?_) (fun h40 => ?_) | with_reducible refine ATT.cE (fun h40 => ?_) (fun h40 => ?_) | with_reducible refine ATT.cD (fun h40 => ?_) (fun h40 => ?_) | with_reducible refine ATT.cCn (fun h40 => ?_) (fun h40 => ?_) | with_reducible refine ATT.cEn (fun h40 => ?_) (fun h40 => ?_) | with_reducible refine ATT.cDn (fun h40 => ?_) (fun h40 => ?_)
 ·have hlt := atS_lt (s := s) (i := i + 1) (by rw [h40]; decide)
  have ht : subT s i (i + 2) = ⟨#[35, 40]⟩ := subT_two hlt h35 (by rw [atS_sbyte hlt] at h40; exact h40)
  have hw : WordR num s i (.tup [tokD 17 ⟨#[35, 40]⟩ i, .int .i64 (i + 2 : Nat)]) := WordR.some (by rw [wordS]; simp only [hl, hd, h39, eq_true h35, eq_true h40, ht]; simp)
  simp [c48t, hI2, h40]
  refine ATT.fin' hQ Tryz.func48 c48res ?_
  simp [tokD] at hw
  simp
  all_goals (first | exact hw | exact ⟨by omega, hw⟩ | skip)
 ·simp [c48t, hI1, h40]
  refine ATT.callD Tryz.func48 60 (hsy) (by simp) (by simp) (by simp) ?_
  simp [c48t]
  cases hq : symB s (i + 1) with
  | true =>
   have hw : WordR num s i (.tup [tokD 6 (symT s (i + 1)) i, .int .i64 (symN s (i + 1))]) := WordR.some (by rw [wordS]; simp only [hl, hd, h39, eq_true h35, h40, hq]; simp)
   refine ATT.fin' hQ Tryz.func48 c48res ?_
   simp [tokD] at hw
   simp
   all_goals (first | exact hw | exact ⟨by omega, hw⟩ | skip)
  | false =>
   have hw : WordR num s i (.tup [tokD 6 ⟨#[]⟩ i, .int .i64 (-1)]) := WordR.none (by rw [wordS]; simp only [hl, hd, h39, eq_true h35, h40, hq]; simp) _ _ _
   refine ATT.fin' hQ Tryz.func48 c48res ?_
   simp [tokD] at hw
   simp
   all_goals (first | exact hw | exact ⟨by omega, hw⟩ | skip)
theorem f48_sign (hl : letterS (sbyte s i) = false) (hd : digitS (sbyte s i) = false) (h39 : ¬ sbyte s i = 39) (h35 : ¬ sbyte s i = 35) (h58 : ¬ sbyte s i = 58) (hsg : signS (sbyte s i) = true) : DE Tryz.prog 48 [.str s, .int .i64 i] (WordR num s i) := by
 have hR : inR (i : Int) s.size = true := inR_of (by omega) (by omega)
 have hg : ¬ i < nameS s i := fun h => by have := (nameS_gt s i).1 h; simp [hl] at this
 have hsl := signsS_le s i
 have hw : WordR num s i (.tup [tokD 3 (subT s i (signsS s i)) i, .int .i64 (signsS s i)]) := WordR.some (by rw [wordS]; simp only [hl, hd, h39, h35, h58, hsg]; simp)
 refine AF.start' 60 Tryz.func48 rfl rfl c48call c48ok fun Q hQ => ?_
 simp [c48c, c48t, hR]
 refine ATT.callD Tryz.func48 60 (f36_ok s (by omega) i) (by simp) (by simp) (by simp) ?_
 simp [c48t, hg]
 refine ATT.callD Tryz.func48 60 (f68_ok (sbyte s i)) (by simp) (by simp) (by simp) ?_
 simp [c48t, hd, h39, h35]
 refine ATT.callD Tryz.func48 60 (f82_ok (sbyte s i)) (by simp) (by simp) (by simp) ?_
 simp [c48t, hsg]
 refine ATT.callD Tryz.func48 60 (f83_ok s (by omega) i (by omega)) (by simp) (by simp) (by simp) ?_
 simp [c48t]
 refine ATT.fin' hQ Tryz.func48 c48res ?_
 simp [tokD, subT] at hw
 simp
 all_goals (first | exact hw | exact ⟨by omega, hw⟩ | skip)
theorem f48_colon (h58 : sbyte s i = 58) : DE Tryz.prog 48 [.str s, .int .i64 i] (WordR num s i) := by
 have hR : inR (i : Int) s.size = true := inR_of (by omega) (by omega)
 have hI1 : inI ((i : Int) + 1) = true := inI_of (by omega) (by omega)
 have hI2 : inI ((i : Int) + 2) = true := inI_of (by omega) (by omega)
 have hl : letterS (sbyte s i) = false := by rw [h58]; decide
 have hd : digitS (sbyte s i) = false := by rw [h58]; decide
 have h39 : ¬ sbyte s i = 39 := by rw [h58]; decide
 have h35 : ¬ sbyte s i = 35 := by rw [h58]; decide
 have hsg : signS (sbyte s i) = false := by rw [h58]; exact colon_sign
 have hg : ¬ i < nameS s i := fun h => by have := (nameS_gt s i).1 h; simp [hl] at this
 have hat := f80_ok s (i + 1)
 simp only [Int.natCast_add, Int.natCast_one] at hat
 refine AF.start' 60 Tryz.func48 rfl rfl c48call c48ok fun Q hQ => ?_
 simp [c48c, c48t, hR]
 refine ATT.callD Tryz.func48 60 (f36_ok s (by omega) i) (by simp) (by simp) (by simp) ?_
 simp [c48t, hg]
 refine ATT.callD Tryz.func48 60 (f68_ok (sbyte s i)) (by simp) (by simp) (by simp) ?_
 simp [c48t, hd, h39, h35]
 refine ATT.callD Tryz.func48 60 (f82_ok (sbyte s i)) (by simp) (by simp) (by simp) ?_
 simp [c48t, eq_true h58, hsg, hI1]
 refine ATT.callD Tryz.func48 60 (hat) (by simp) (by simp) (by simp) ?_
 simp
 first | with_reducible refine ATT.cC (fun h61 => ?_) (fun h61 => ?_) | with_reducible refine ATT.cE (fun h61 => ?_) (fun h61 => ?_) | with_reducible refine ATT.cD (fun h61 => ?_) (fun h61 => ?_) | with_reducible refine ATT.cCn (fun h61 => ?_) (fun h61 => ?_) | with_reducible refine ATT.cEn (fun h61 => ?_) (fun h61 => ?_) | with_reducible refine ATT.cDn (fun h61 => ?_) (fun h61 => ?_)
 ·have hlt := atS_lt (s := s) (i := i + 1) (by rw [h61]; decide)
  have ht : subT s i (i + 2) = ⟨#[58, 61]⟩ := subT_two hlt h58 (by rw [atS_sbyte hlt] at h61; exact h61)
  have hw : WordR num s i (.tup [tokD 7 ⟨#[58, 61]⟩ i, .int .i64 (i + 2 : Nat)]) := WordR.some (by rw [wordS]; simp only [hl, hd, h39, h35, eq_true h58, eq_true h61, ht]; simp)
  simp [c48t, hI2, h61]
  refine ATT.fin' hQ Tryz.func48 c48res ?_
  simp [tokD] at hw
  simp
  all_goals (first | exact hw | exact ⟨by omega, hw⟩ | skip)
 ·have ht : subT s i (i + 1) = ⟨#[58]⟩ := subT_one hi h58
  have hw : WordR num s i (.tup [tokD 16 ⟨#[58]⟩ i, .int .i64 (i + 1 : Nat)]) := WordR.some (by rw [wordS]; simp only [hl, hd, h39, h35, eq_true h58, h61, ht]; simp)
  simp [c48t, hI1, h61]
  refine ATT.fin' hQ Tryz.func48 c48res ?_
  simp [tokD] at hw
  simp
  all_goals (first | exact hw | exact ⟨by omega, hw⟩ | skip)
theorem f48_single (hl : letterS (sbyte s i) = false) (hd : digitS (sbyte s i) = false) (h39 : ¬ sbyte s i = 39) (h35 : ¬ sbyte s i = 35) (h58 : ¬ sbyte s i = 58) (hsg : signS (sbyte s i) = false) : DE Tryz.prog 48 [.str s, .int .i64 i] (WordR num s i) := by
 have hR : inR (i : Int) s.size = true := inR_of (by omega) (by omega)
 have hI1 : inI ((i : Int) + 1) = true := inI_of (by omega) (by omega)
 have hg : ¬ i < nameS s i := fun h => by have := (nameS_gt s i).1 h; simp [hl] at this
 have hb1 : (i : Int) ≤ i + 1 ∧ (i : Int) + 1 ≤ s.size := by omega
 have ht1 : ((i : Int) + 1).toNat = i + 1 := by omega
 have hsT : (⟨#[40, 41, 91, 93, 124, 94, 46, 59]⟩ : ByteArray) = singlesT := rfl
 have hsz : singlesT.size = 8 := by decide
 refine AF.start' 60 Tryz.func48 rfl rfl c48call c48ok fun Q hQ => ?_
 simp [c48c, c48t, hR]
 refine ATT.callD Tryz.func48 60 (f36_ok s (by omega) i) (by simp) (by simp) (by simp) ?_
 simp [c48t, hg]
 refine ATT.callD Tryz.func48 60 (f68_ok (sbyte s i)) (by simp) (by simp) (by simp) ?_
 simp [c48t, hd, h39, h35]
 refine ATT.callD Tryz.func48 60 (f82_ok (sbyte s i)) (by simp) (by simp) (by simp) ?_
 simp [c48t, h58, hsg, hsT]
 generalize hp : placeS (sbyte s i) singlesT 0 = p
 refine ATT.loopG 60 c48l44.eq_1 (fun (n : Nat) => 8 - n) (fun (n : Nat) => placeS (sbyte s i) singlesT n = p ∧ n ≤ 8) (fun (n : Nat) => [(0, V.d (.str s)), (1, V.d (.int .i64 i)), (6, V.d (.int .u8 (sbyte s i))), (11, V.d (.str singlesT)), (12, V.d (.int .i64 n)), (4, .ptr 0 0)]) (fun (n : Nat) => [.cells [.d (.int .i64 0), .d (.str ⟨#[]⟩), .d (.int .i64 0)] 92]) (fun (n : Nat) => []) (0) (by (try dsimp only); exact ⟨hp, by omega⟩) (by simp <;> omega) (by simp) (by simp) ?_
 intro n u w hI ih
 try simp only at hI ih
 obtain ⟨hn, hn8⟩ := hI
 rw [placeS] at hn
 simp [c48t, hsz]
 first | with_reducible refine ATT.cC (fun h8 => ?_) (fun h8 => ?_) | with_reducible refine ATT.cE (fun h8 => ?_) (fun h8 => ?_) | with_reducible refine ATT.cD (fun h8 => ?_) (fun h8 => ?_) | with_reducible refine ATT.cCn (fun h8 => ?_) (fun h8 => ?_) | with_reducible refine ATT.cEn (fun h8 => ?_) (fun h8 => ?_) | with_reducible refine ATT.cDn (fun h8 => ?_) (fun h8 => ?_)
 ·have hn' : n < 8 := by omega
  have hRn : inR (n : Int) 8 = true := inR_of (by omega) (by omega)
  have hIn : inI ((n : Int) + 1) = true := inI_of (by omega) (by omega)
  have hIn8 : inI (8 + (n : Int)) = true := inI_of (by omega) (by omega)
  rw [hsz] at hn
  simp only [hn', dite_true] at hn
  simp [c48t, h8, hsz, hRn]
  first | with_reducible refine ATT.cC (fun hc => ?_) (fun hc => ?_) | with_reducible refine ATT.cE (fun hc => ?_) (fun hc => ?_) | with_reducible refine ATT.cD (fun hc => ?_) (fun hc => ?_) | with_reducible refine ATT.cCn (fun hc => ?_) (fun hc => ?_) | with_reducible refine ATT.cEn (fun hc => ?_) (fun hc => ?_) | with_reducible refine ATT.cDn (fun hc => ?_) (fun hc => ?_)
  ·rw [if_pos hc] at hn
   have hw : WordR num s i (.tup [tokD (8 + n) (subT s i (i + 1)) i, .int .i64 (i + 1 : Nat)]) := WordR.some (by rw [wordS]; simp only [hl, hd, h39, h35, h58, hsg, hp, ← hn]; simp)
   simp [c48t, hI1, hb1, ht1, hc, hIn8]
   refine ATT.fin' hQ Tryz.func48 c48res ?_
   simp [tokD, subT] at hw
   simp
   all_goals (first | exact hw | exact ⟨by omega, hw⟩ | skip)
  ·rw [if_neg hc] at hn
   simp [c48t, hc, hIn]
   refine ih (n + 1) (by first | ((try dsimp only); omega) | (simp [hR, hl, hd, hg, h39, h35, h58, hsg, hI1, hb1, ht1, hsT] <;> omega)) (by (try dsimp only); exact ⟨hn, by omega⟩) _ _ _ (by simp <;> omega) (by simp <;> omega) (by simp <;> omega)
 ·have hn' : n = 8 := by omega
  subst hn'
  rw [hsz] at hn
  simp at hn
  have hw : WordR num s i (.tup [tokD 0 ⟨#[]⟩ 0, .int .i64 (-1)]) := WordR.none (by rw [wordS]; simp only [hl, hd, h39, h35, h58, hsg, hp, ← hn]; simp) _ _ _
  simp [c48t]
  refine ATT.fin' hQ Tryz.func48 c48res ?_
  simp [tokD] at hw
  simp
  all_goals (first | exact hw | exact ⟨by omega, hw⟩ | skip)
theorem f48_ok (hW : NumP 78 num) : DE Tryz.prog 48 [.str s, .int .i64 i] (WordR num s i) := by
 cases hl : letterS (sbyte s i) with
 | true => exact f48_letter s hs i hi hl
 | false =>
  cases hd : digitS (sbyte s i) with
  | true => exact f48_digit s hs i hi hW hl hd
  | false =>
   by_cases h39 : sbyte s i = 39
   ·exact f48_quote s hs i hi h39
   by_cases h35 : sbyte s i = 35
   ·exact f48_hash s hs i hi h35
   by_cases h58 : sbyte s i = 58
   ·exact f48_colon s hs i hi h58
   cases hsg : signS (sbyte s i) with
   | true => exact f48_sign s hs i hi hl hd h39 h35 h58 hsg
   | false => exact f48_single s hs i hi hl hd h39 h35 h58 hsg
end
end Go.SL
namespace Go.SL
open Go.Proofs
set_option maxRecDepth 10000
def blankS (c : Int) : Bool := decide (c = 32) || decide (c = 9) || decide (c = 10) || decide (c = 13)
def blanksT : ByteArray := ⟨#[32, 9, 10, 13]⟩
theorem blanks_place (c : Int) (h0 : 0 ≤ c) (h1 : c < 256) : decide (0 ≤ placeS c blanksT 0) = blankS c := by
 rw [placeS_L _ _ _ 0 rfl]
 exact byte_cases (fun c => decide (0 ≤ placeL c (blanksT.data.toList.drop 0) 0) = blankS c) (by decide) c h0 h1
theorem blanksA : Ascii blanksT := by unfold Ascii; decide
theorem f42_ok (c : Int) (h0 : 0 ≤ c) (h1 : c < 256) : DF Tryz.prog 42 [.int .u8 c] (.bool (blankS c)) := by
 have hb := blanks_place c h0 h1
 have hP := f43_ok c blanksT blanksA
 have hsT : (⟨#[32, 9, 10, 13]⟩ : ByteArray) = blanksT := rfl
 refine AF.start' 60 Tryz.func42 rfl rfl c42call c42ok fun Q hQ => ?_
 simp [c42c, c42t, hsT]
 refine ATT.callD Tryz.func42 60 (hP) (by simp) (by simp) (by simp) ?_
 simp
 refine ATT.fin' hQ Tryz.func42 c42res ?_
 simp [← hb]
 all_goals (first | omega | exact ⟨_, rfl⟩ | skip)
theorem blankB : FnB 42 blankS := fun c h0 h1 => f42_ok c h0 h1
def tkD (t : Tk) : D := tokD t.k t.t t.a
def tkV (l : List Tk) : List V := l.map fun t => .d (tkD t)
abbrev TV (T : TypeId) (l : List Tk) : Option Vec := some ⟨l.isEmpty, 3, 0, tkV l, T⟩
@[simp] theorem tkV_nil : tkV [] = [] := rfl
@[simp] theorem tkV_push (l : List Tk) (k : Int) (t : ByteArray) (a : Nat) : tkV l ++ [.d (.agg [.int .i64 k, .str t, .int .i64 (a : Int)])] = tkV (l ++ [⟨k, t, a⟩]) := by simp [tkV, tkD, tokD]
@[simp] theorem tkV_length (l : List Tk) : (tkV l).length = l.length := by simp [tkV]
@[simp] theorem tkV_isEmpty (l : List Tk) : (tkV l).isEmpty = l.isEmpty := by cases l <;> simp [tkV]
@[simp] theorem tkV_take (n : Nat) (l : List Tk) : (tkV l).take n = tkV (l.take n) := by simp [tkV]
@[simp] theorem tkV_drop (n : Nat) (l : List Tk) : (tkV l).drop n = tkV (l.drop n) := by simp [tkV]
theorem tkV_ds (l : List Tk) : tkV l = (l.map tkD).map .d := by simp [tkV]
@[simp] theorem tkV_map (h : H) (n : Nat) (l : List Tk) : mapD (toDv h n) (tkV l) = some (l.map tkD) := by rw [tkV_ds, mapD_d]
@[simp] theorem rns_tkV (rb rv : List Nat) (l : List Tk) : rns rb rv (tkV l) = tkV l := by rw [tkV_ds, rns_data]
@[simp] theorem insc_tkV (n m : Nat) (l : List Tk) : insc n m (tkV l) = true := by rw [tkV_ds, insc_data]
@[simp] theorem take_snoc {α β : Type} (f : α → β) (l : List α) (x : β) : (l.map f ++ [x]).take (l.length + 1) = l.map f ++ [x] := List.take_of_length_le (by simp)
def notQ (c : Int) : Bool := !decide (c = 34)
def lexS (num : ByteArray → Bool) (s : ByteArray) (i : Nat) : List Tk ⊕ Nat :=
 if h : skipS blankS s i < s.size then
  (if sbyte s (skipS blankS s i) = 34 then (if h2 : skipS notQ s (skipS blankS s i + 1) < s.size then lexS num s (skipS notQ s (skipS blankS s i + 1) + 1) else .inr (skipS blankS s i))
  else match wordS num s (skipS blankS s i) with
   | some (k, t, e) => if h3 : skipS blankS s i < e then (match lexS num s e with
    | .inl l => .inl (⟨k, t, skipS blankS s i⟩ :: l)
    | .inr a => .inr a) else .inr (skipS blankS s i)
   | none => .inr (skipS blankS s i))
 else .inl [⟨0, ⟨#[]⟩, s.size⟩]
termination_by s.size - i
decreasing_by
  · have h1 := (skipS_le blankS s _ i rfl).1
    have h2 := (skipS_le notQ s _ (skipS blankS s i + 1) rfl).1
    omega
  · have h1 := (skipS_le blankS s _ i rfl).1
    omega
theorem lexS_eq (num : ByteArray → Bool) (s : ByteArray) (i : Nat) : lexS num s i = if skipS blankS s i < s.size then
  (if sbyte s (skipS blankS s i) = 34 then (if skipS notQ s (skipS blankS s i + 1) < s.size then lexS num s (skipS notQ s (skipS blankS s i + 1) + 1) else .inr (skipS blankS s i))
  else match wordS num s (skipS blankS s i) with
   | some (k, t, e) => if skipS blankS s i < e then (match lexS num s e with
    | .inl l => .inl (⟨k, t, skipS blankS s i⟩ :: l)
    | .inr a => .inr a) else .inr (skipS blankS s i)
   | none => .inr (skipS blankS s i))
 else .inl [⟨0, ⟨#[]⟩, s.size⟩] := by
 rw [lexS]
 simp only [dite_eq_ite]
theorem index_q (s : ByteArray) : ∀ m j, s.size - j = m → j ≤ s.size → Lib.indexByte (s.data.toList.drop j) 34 = if skipS notQ s j < s.size then ((skipS notQ s j - j : Nat) : Int) else -1 := by
 intro m
 induction m with
 | zero =>
  intro j hm hj
  have h0 : s.data.toList.drop j = [] := List.drop_eq_nil_of_le (by simp; have : s.size = s.data.size := rfl; omega)
  rw [h0, skipS_no (by simp; omega)]
  simp [Lib.indexByte, show ¬ j < s.size by omega]
 | succ m ih =>
  intro j hm hj
  have hjl : j < s.data.toList.length := by simp; have : s.size = s.data.size := rfl; omega
  have hb : sbyte s j = ((s.data.toList[j]).toNat : Int) := by
   have h1 : j < s.size := by omega
   simp [sbyte, List.getD_eq_getElem?_getD, h1]
  rw [List.drop_eq_getElem_cons hjl, Lib.indexByte]
  by_cases hq : s.data.toList[j] = 34
  ·have hn : notQ (sbyte s j) = false := by rw [hb, hq]; decide
   rw [skipS_no (by simp [hn])]
   simp [hq, show j < s.size by omega]
  ·have hn : notQ (sbyte s j) = true := by
    simp only [notQ, Bool.not_eq_true', decide_eq_false_iff_not, hb]
    intro h
    exact hq (UInt8.toNat_inj.1 (by rw [show (34 : UInt8).toNat = 34 from rfl]; omega))
   have hq' : (s.data.toList[j] == (34 : UInt8)) = false := by simpa using hq
   rw [skipS_yes (by simp [hn]; omega), ih (j + 1) (by omega) (by omega), hq']
   have h3 := skipS_le notQ s _ (j + 1) rfl
   by_cases hf : skipS notQ s (j + 1) < s.size
   ·simp only [hf, if_true, Bool.false_eq_true, if_false]
    have : ((((skipS notQ s (j + 1) - (j + 1) : Nat) : Int)) == -1) = false := by
     rw [beq_eq_false_iff_ne]; omega
    rw [this]
    simp only [Bool.false_eq_true, if_false]
    omega
   ·simp [hf]
theorem firstIdx_q (s : ByteArray) (j : Nat) (hj : j ≤ s.size) : firstIdx (s.extract j s.size) 34 = if skipS notQ s j < s.size then ((skipS notQ s j - j : Nat) : Int) else -1 := by
 rw [Lib.firstIdx_eq, ← index_q s _ j rfl hj]
 congr 1
 have : s.size = s.data.toList.length := by simp
 rw [ByteArray.data_extract, Array.toList_extract, this]
 simp [List.extract_eq_take_drop]
 rw [List.take_of_length_le (by simp)]
theorem quoS_le (s : ByteArray) : ∀ m i acc, s.size - i = m → ∀ l, (quoS s i acc).1 = some l → i < (quoS s i acc).2 ∧ (quoS s i acc).2 ≤ s.size := by
 intro m
 induction m using Nat.strongRecOn with
 | ind m ih =>
  intro i acc hm l h
  by_cases h1 : i < s.size
  ·by_cases h2 : sbyte s i = 39
   ·by_cases h3 : atS s (i + 1) = 39
    ·have hlt := atS_lt (s := s) (i := i + 1) (by rw [h3]; decide)
     rw [quoS_two h1 h2 h3] at h ⊢
     have := ih (s.size - (i + 2)) (by omega) (i + 2) _ rfl l h
     omega
    ·rw [quoS_one h1 h2 h3]
     exact ⟨by simp, by simp; omega⟩
   ·rw [quoS_more h1 h2] at h ⊢
    have := ih (s.size - (i + 1)) (by omega) (i + 1) _ rfl l h
    omega
  ·rw [quoS_end h1] at h
   simp at h
theorem quotedS_le {s : ByteArray} {i : Nat} (h : quB (quotedS s i).1 = true) : i < (quotedS s i).2 ∧ (quotedS s i).2 ≤ s.size := by
 unfold quotedS at h ⊢
 split at h
 ·rename_i h39
  rw [if_pos h39]
  cases hq : (quoS s (i + 1) []).1 with
  | none => rw [hq] at h; simp [quB] at h
  | some l =>
   have := quoS_le s _ (i + 1) [] rfl l hq
   omega
 ·simp [quB] at h
theorem symN_le {s : ByteArray} {i : Nat} (hi : i ≤ s.size) (h : symB s i = true) : i < symN s i ∧ symN s i ≤ s.size := by
 unfold symB at h
 unfold symN
 split at h
 ·rename_i hl
  rw [if_pos hl]
  refine ⟨hl, ?_⟩
  unfold symE
  have h1 := nameS_le s i
  have h2 := symK_le s _ (nameS s i) rfl
  have h3 := signsS_le s i
  split <;> omega
 ·rename_i hl
  rw [if_neg hl]
  exact quotedS_le h
theorem wordS_lt {num : ByteArray → Bool} {s : ByteArray} {i : Nat} (hi : i < s.size) {k : Int} {t : ByteArray} {e : Nat} (h : wordS num s i = some (k, t, e)) : i < e ∧ e ≤ s.size := by
 unfold wordS at h
 split at h
 ·rename_i hl
  have h1 := nameS_le s i
  have h2 : i < nameS s i := (nameS_gt s i).2 (by simp [hi, hl])
  split at h
  ·rename_i hc
   have := colon_lt hc
   simp at h; omega
  ·simp at h; omega
 ·split at h
  ·rename_i hd
   split at h
   ·have := digs_sub hi hd
    have h1 := skipS_le digitS s _ i rfl
    have h2 := subT_size (s := s) h1.1 (h1.2 (by omega))
    have := this.1
    simp at h; omega
   ·simp at h
  ·split at h
   ·split at h
    ·rename_i hq
     have := quotedS_le hq
     simp at h; omega
    ·simp at h
   ·split at h
    ·split at h
     ·rename_i h40
      have := atS_lt (s := s) (i := i + 1) (by rw [h40]; decide)
      simp at h; omega
     ·split at h
      ·rename_i hq
       have := symN_le (by omega) hq
       simp at h; omega
      ·simp at h
    ·split at h
     ·split at h
      ·rename_i h61
       have := atS_lt (s := s) (i := i + 1) (by rw [h61]; decide)
       simp at h; omega
      ·simp at h; omega
     ·split at h
      ·rename_i hsg
       have h1 := (signsS_gt s i).2 (by simp [hi, hsg])
       have h2 := signsS_le s i
       simp at h; omega
      ·split at h
       ·simp at h; omega
       ·simp at h
def joinL (l : List Tk) : List Tk ⊕ Nat → List Tk ⊕ Nat
 | .inl l' => .inl (l ++ l')
 | .inr a => .inr a
def readD (num : ByteArray → Bool) (s : ByteArray) : D :=
 if 4096 < s.size then .tup [.sl true 0 [], .int .i64 0, .int .i64 3] else
 match lexS num s 0 with
 | .inl l => .tup [.sl false 3 (l.map tkD), .int .i64 0, .int .i64 0]
 | .inr a => .tup [.sl true 0 [], .int .i64 a, .int .i64 20]
theorem f26_ok {num : ByteArray → Bool} (hW : NumP 71 num) (s : ByteArray) (hs : s.size ≤ 1073741820) : DF Tryz.prog 26 [.str s] (readD num s) := by
 refine AF.start' 60 Tryz.func26 rfl rfl c26call c26ok fun Q hQ => ?_
 simp [c26c, c26t]
 first | with_reducible refine ATT.cC (fun hz => ?_) (fun hz => ?_) | with_reducible refine ATT.cE (fun hz => ?_) (fun hz => ?_) | with_reducible refine ATT.cD (fun hz => ?_) (fun hz => ?_) | with_reducible refine ATT.cCn (fun hz => ?_) (fun hz => ?_) | with_reducible refine ATT.cEn (fun hz => ?_) (fun hz => ?_) | with_reducible refine ATT.cDn (fun hz => ?_) (fun hz => ?_)
 ·simp [c26t, hz]
  refine ATT.fin' hQ Tryz.func26 c26res ?_
  simp [readD]
  all_goals (first | omega | exact ⟨_, rfl⟩ | skip)
 ·have hz' : ¬ 4096 < s.size := by omega
  simp only [readD, hz', if_false] at hQ
  simp [c26t, hz]
  refine ATT.nilE 6 3 79 rfl (by decide) (by simp) ?_
  simp
  generalize hr : lexS num s 0 = r at hQ
  refine ATT.labelG 60 rfl rfl (fun ((i, l) : Nat × List Tk) => s.size - i) (fun ((i, l) : Nat × List Tk) => joinL l (lexS num s i) = r ∧ i ≤ s.size ∧ l.length ≤ i) (fun ((i, l) : Nat × List Tk) => [(0, V.d (.str s)), (5, .ptr 0 0), (6, .vs 0 l.length 0 l.length)]) (fun ((i, l) : Nat × List Tk) => [.cells [.d (.str s), .d (.int .i64 i)] 76]) (fun ((i, l) : Nat × List Tk) => [TV 79 l]) ((0, [])) (by (try dsimp only); exact ⟨by rw [hr]; simp [joinL]; cases r <;> rfl, by omega, by simp⟩) (by simp <;> omega) (by simp) (by simp) ?_
  intro ⟨i, l⟩ u w hI ih
  try simp only at hI ih
  obtain ⟨hj, hi, hl⟩ := hI
  have hk := skipS_le blankS s _ i rfl
  have hk1 := hk.1
  have hk2 := hk.2 hi
  simp [SL.flat]
  simp [c26t]
  refine ATT.callM Tryz.func26 60 [0] (f41_ok blankB s (by omega) i) rfl (by simp) (by simp) (by simp) (by simp) (by simp) ?_
  simp [c26t]
  rw [lexS] at hj
  generalize skipS blankS s i = k at *
  first | with_reducible refine ATT.cC (fun he => ?_) (fun he => ?_) | with_reducible refine ATT.cE (fun he => ?_) (fun he => ?_) | with_reducible refine ATT.cD (fun he => ?_) (fun he => ?_) | with_reducible refine ATT.cCn (fun he => ?_) (fun he => ?_) | with_reducible refine ATT.cEn (fun he => ?_) (fun he => ?_) | with_reducible refine ATT.cDn (fun he => ?_) (fun he => ?_)
  ·have he' : ¬ k < s.size := by omega
   simp only [he', dite_false] at hj
   have hks : k = s.size := by omega
   subst hks
   have hmap : (l.length + 1) * 32 ≤ 140737488355328 := by omega
   simp [c26t]
   refine ATT.finz hQ Tryz.func26 c26res (by first | exact .inl rfl | exact .inr ⟨_, rfl⟩) ?_
   simp [← hj, joinL, tkD, tokD, hmap]
   all_goals (first | omega | exact ⟨_, rfl⟩ | skip)
  ·have he' : k < s.size := by omega
   have hR : inR (k : Int) s.size = true := inR_of (by omega) (by omega)
   simp only [he', dite_true] at hj
   simp [c26t, he, hR]
   first | with_reducible refine ATT.cC (fun hq => ?_) (fun hq => ?_) | with_reducible refine ATT.cE (fun hq => ?_) (fun hq => ?_) | with_reducible refine ATT.cD (fun hq => ?_) (fun hq => ?_) | with_reducible refine ATT.cCn (fun hq => ?_) (fun hq => ?_) | with_reducible refine ATT.cEn (fun hq => ?_) (fun hq => ?_) | with_reducible refine ATT.cDn (fun hq => ?_) (fun hq => ?_)
   ·simp only [eq_true hq, if_true] at hj
    have hI1 : inI ((k : Int) + 1) = true := inI_of (by omega) (by omega)
    have ht1 : ((k : Int) + 1).toNat = k + 1 := by omega
    have hb1 : (0 : Int) ≤ k + 1 ∧ (k : Int) + 1 ≤ s.size := by omega
    have hx := firstIdx_q s (k + 1) (by omega)
    have hQl := skipS_le notQ s _ (k + 1) rfl
    have h34 : ((34 : Int).toNat.toUInt8) = 34 := by decide
    simp [c26t, hI1, ht1, hb1, hq]
    refine ATT.callD Tryz.func26 60 (f44_ok (s.extract (k + 1) s.size) 34) (by simp) (by simp) (by simp) ?_
    simp [c26t]
    by_cases hfound : skipS notQ s (k + 1) < s.size
    ·rw [if_pos hfound] at hx
     simp only [hfound, dite_true] at hj
     have hI2 : inI (((skipS notQ s (k + 1) - (k + 1) : Nat) : Int) + 2) = true := inI_of (by omega) (by omega)
     have hI3 : inI ((k : Int) + (((skipS notQ s (k + 1) - (k + 1) : Nat) : Int) + 2)) = true := inI_of (by omega) (by omega)
     have hk3 : (k : Int) + (((skipS notQ s (k + 1) - (k + 1) : Nat) : Int) + 2) = ((skipS notQ s (k + 1) + 1 : Nat) : Int) := by omega
     have hn : ¬ (((skipS notQ s (k + 1) - (k + 1) : Nat) : Int)) < 0 := by omega
     simp [c26t, hx, hI2, hI3, hn]
     refine ih (skipS notQ s (k + 1) + 1, l) (by first | ((try dsimp only); omega) | (simp [hx, hI2, hI3, hn] <;> omega)) (by (try dsimp only); exact ⟨hj, by omega, by omega⟩) _ _ _ _ rfl (by simp <;> omega) (by simp <;> omega) (by simp <;> omega)
    ·rw [if_neg hfound] at hx
     simp only [hfound, dite_false, joinL] at hj
     simp [hx]
     refine ATT.jump 60 (by simp) rfl ?_
     simp [c26t]
     refine ATT.fin' hQ Tryz.func26 c26res ?_
     simp [← hj]
     all_goals (first | omega | exact ⟨_, rfl⟩ | skip)
   ·simp only [eq_false hq, if_false] at hj
    simp [c26t, hq]
    refine ATT.callA Tryz.func26 60 [0] [] 0 0 (f45_ok (num := num) s (by omega) k he' hW) (by simp) (by simp) (by simp) (by simp) (by simp) fun out hC hE => ?_
    obtain ⟨k', t', a', j, r', w', e1, e2, hw⟩ := hE
    subst e1 e2
    cases hwd : wordS num s k with
    | none =>
     rw [hwd] at hj
     simp only [joinL] at hj
     simp [tokD, c26t]
     refine ATT.pass 60 (by simp <;> omega) ?_
     simp [c26t]
     refine ATT.fin' hQ Tryz.func26 c26res ?_
     simp [← hj]
     all_goals (first | omega | exact ⟨_, rfl⟩ | skip)
    | some p =>
     obtain ⟨kk, tt, e⟩ := p
     obtain ⟨e1, e2, e3, e4⟩ := hw _ _ _ hwd
     subst e1 e2 e3 e4
     have hlt := wordS_lt he' hwd
     rw [hwd] at hj
     simp only [hlt.1, dite_true] at hj
     have hmap : (l.length + 1) * 32 ≤ 140737488355328 := by omega
     have hj2 : joinL (l ++ [⟨k', t', a'⟩]) (lexS num s j) = r := by
      rw [← hj]
      cases lexS num s j <;> simp [joinL]
     simp [tokD, c26t, hmap]
     refine ih (j, l ++ [⟨k', t', a'⟩]) (by first | ((try dsimp only); omega) | (simp <;> omega)) (by (try dsimp only); exact ⟨hj2, by omega, by simp; omega⟩) _ _ _ _ rfl (by simp <;> omega) (by simp <;> omega) (by simp <;> omega)
theorem f29_ok {num : ByteArray → Bool} (hW : NumP 78 num) (s : ByteArray) (hs : s.size ≤ 1073741820) : DF Tryz.prog 29 [.str s] (readD num s) := by
 refine AF.start' 60 Tryz.func29 rfl rfl c29call c29ok fun Q hQ => ?_
 simp [c29c, c29t]
 first | with_reducible refine ATT.cC (fun hz => ?_) (fun hz => ?_) | with_reducible refine ATT.cE (fun hz => ?_) (fun hz => ?_) | with_reducible refine ATT.cD (fun hz => ?_) (fun hz => ?_) | with_reducible refine ATT.cCn (fun hz => ?_) (fun hz => ?_) | with_reducible refine ATT.cEn (fun hz => ?_) (fun hz => ?_) | with_reducible refine ATT.cDn (fun hz => ?_) (fun hz => ?_)
 ·simp [c29t, hz]
  refine ATT.fin' hQ Tryz.func29 c29res ?_
  simp [readD]
  all_goals (first | omega | exact ⟨_, rfl⟩ | skip)
 ·have hz' : ¬ 4096 < s.size := by omega
  simp only [readD, hz', if_false] at hQ
  simp [c29t, hz]
  refine ATT.nilE 5 3 92 rfl (by decide) (by simp) ?_
  simp
  generalize hr : lexS num s 0 = r at hQ
  refine ATT.loopG 60 c29l22.eq_1 (fun ((i, l) : Nat × List Tk) => s.size - i) (fun ((i, l) : Nat × List Tk) => joinL l (lexS num s i) = r ∧ i ≤ s.size ∧ l.length ≤ i) (fun ((i, l) : Nat × List Tk) => [(0, V.d (.str s)), (6, V.d (.int .i64 i)), (5, .vs 0 l.length 0 l.length)]) (fun ((i, l) : Nat × List Tk) => []) (fun ((i, l) : Nat × List Tk) => [TV 92 l]) ((0, [])) (by (try dsimp only); exact ⟨by rw [hr]; simp [joinL]; cases r <;> rfl, by omega, by simp⟩) (by simp <;> omega) (by simp) (by simp) ?_
  intro ⟨i, l⟩ u w hI ih
  try simp only at hI ih
  obtain ⟨hj, hi, hl⟩ := hI
  simp [c29t]
  first | with_reducible refine ATT.cC (fun he => ?_) (fun he => ?_) | with_reducible refine ATT.cE (fun he => ?_) (fun he => ?_) | with_reducible refine ATT.cD (fun he => ?_) (fun he => ?_) | with_reducible refine ATT.cCn (fun he => ?_) (fun he => ?_) | with_reducible refine ATT.cEn (fun he => ?_) (fun he => ?_) | with_reducible refine ATT.cDn (fun he => ?_) (fun he => ?_)
  ·have hR : inR (i : Int) s.size = true := inR_of (by omega) (by omega)
   have hI1 : inI ((i : Int) + 1) = true := inI_of (by omega) (by omega)
   simp [c29t, hR, he]
   by_cases hb : blankS (sbyte s i) = true
   ·have hs1 := skipS_yes (p := blankS) (s := s) (i := i) (by simp [hb]; omega)
    have hj2 : joinL l (lexS num s (i + 1)) = r := by
     rw [← hj, lexS_eq num s i, lexS_eq num s (i + 1), hs1]
    first | with_reducible refine ATT.cC (fun h1 => ?_) (fun h1 => ?_) | with_reducible refine ATT.cE (fun h1 => ?_) (fun h1 => ?_) | with_reducible refine ATT.cD (fun h1 => ?_) (fun h1 => ?_) | with_reducible refine ATT.cCn (fun h1 => ?_) (fun h1 => ?_) | with_reducible refine ATT.cEn (fun h1 => ?_) (fun h1 => ?_) | with_reducible refine ATT.cDn (fun h1 => ?_) (fun h1 => ?_)
    ·simp [c29t, hI1, h1]
     refine ih (i + 1, l) (by first | ((try dsimp only); omega) | (simp [hR, hI1] <;> omega)) (by (try dsimp only); exact ⟨hj2, by omega, by omega⟩) _ _ _ (by simp <;> omega) (by simp <;> omega) (by simp <;> omega)
    ·simp [h1]
     first | with_reducible refine ATT.cC (fun h2 => ?_) (fun h2 => ?_) | with_reducible refine ATT.cE (fun h2 => ?_) (fun h2 => ?_) | with_reducible refine ATT.cD (fun h2 => ?_) (fun h2 => ?_) | with_reducible refine ATT.cCn (fun h2 => ?_) (fun h2 => ?_) | with_reducible refine ATT.cEn (fun h2 => ?_) (fun h2 => ?_) | with_reducible refine ATT.cDn (fun h2 => ?_) (fun h2 => ?_)
     ·simp [c29t, hI1, h2]
      refine ih (i + 1, l) (by first | ((try dsimp only); omega) | (simp [hR, hI1] <;> omega)) (by (try dsimp only); exact ⟨hj2, by omega, by omega⟩) _ _ _ (by simp <;> omega) (by simp <;> omega) (by simp <;> omega)
     ·simp [h2]
      first | with_reducible refine ATT.cC (fun h3 => ?_) (fun h3 => ?_) | with_reducible refine ATT.cE (fun h3 => ?_) (fun h3 => ?_) | with_reducible refine ATT.cD (fun h3 => ?_) (fun h3 => ?_) | with_reducible refine ATT.cCn (fun h3 => ?_) (fun h3 => ?_) | with_reducible refine ATT.cEn (fun h3 => ?_) (fun h3 => ?_) | with_reducible refine ATT.cDn (fun h3 => ?_) (fun h3 => ?_)
      ·simp [c29t, hI1, h3]
       refine ih (i + 1, l) (by first | ((try dsimp only); omega) | (simp [hR, hI1] <;> omega)) (by (try dsimp only); exact ⟨hj2, by omega, by omega⟩) _ _ _ (by simp <;> omega) (by simp <;> omega) (by simp <;> omega)
      ·have h4 : sbyte s i = 13 := by simp [blankS, h1, h2, h3] at hb; exact hb
       simp [c29t, hI1, h3, eq_true h4]
       refine ih (i + 1, l) (by first | ((try dsimp only); omega) | (simp [hR, hI1] <;> omega)) (by (try dsimp only); exact ⟨hj2, by omega, by omega⟩) _ _ _ (by simp <;> omega) (by simp <;> omega) (by simp <;> omega)
   ·have hs1 := skipS_no (p := blankS) (s := s) (i := i) (by simp [hb])
    have hnb : ¬ sbyte s i = 32 ∧ ¬ sbyte s i = 9 ∧ ¬ sbyte s i = 10 ∧ ¬ sbyte s i = 13 := by
     simp [blankS] at hb
     exact ⟨hb.1.1.1, hb.1.1.2, hb.1.2, hb.2⟩
    rw [lexS_eq, hs1] at hj
    have hi' : i < s.size := by omega
    simp only [hi', if_true] at hj
    simp [c29t, hnb.1, hnb.2.1, hnb.2.2.1, hnb.2.2.2]
    first | with_reducible refine ATT.cC (fun hq => ?_) (fun hq => ?_) | with_reducible refine ATT.cE (fun hq => ?_) (fun hq => ?_) | with_reducible refine ATT.cD (fun hq => ?_) (fun hq => ?_) | with_reducible refine ATT.cCn (fun hq => ?_) (fun hq => ?_) | with_reducible refine ATT.cEn (fun hq => ?_) (fun hq => ?_) | with_reducible refine ATT.cDn (fun hq => ?_) (fun hq => ?_)
    ·simp only [eq_true hq, if_true] at hj
     simp [c29t, hI1]
     generalize hd : skipS notQ s (i + 1) = d at hj
     have ihO := ih
     clear ih
     have hdl := skipS_le notQ s _ (i + 1) rfl
     rw [hd] at hdl
     refine ATT.loopG 60 c29l13.eq_1 (fun (k : Nat) => s.size - k) (fun (k : Nat) => skipS notQ s k = d ∧ i < k ∧ k ≤ d ∧ k ≤ s.size) (fun (k : Nat) => [(8, V.d (.int .i64 k)), (0, V.d (.str s)), (6, V.d (.int .i64 i)), (5, .vs 0 l.length 0 l.length)]) (fun (k : Nat) => []) (fun (k : Nat) => [TV 92 l]) (i + 1) (by (try dsimp only); exact ⟨hd, by omega, hdl.1, by omega⟩) (by simp <;> omega) (by simp) (by simp) ?_
     intro k u w hI ih
     try simp only at hI ih
     obtain ⟨hk, hik, hkd, hks⟩ := hI
     simp [c29t]
     have fin : k = d → (k < s.size → lexS num s (k + 1) = lexS num s (d + 1)) := fun h _ => by rw [h]
     first | with_reducible refine ATT.cC (fun hlt => ?_) (fun hlt => ?_) | with_reducible refine ATT.cE (fun hlt => ?_) (fun hlt => ?_) | with_reducible refine ATT.cD (fun hlt => ?_) (fun hlt => ?_) | with_reducible refine ATT.cCn (fun hlt => ?_) (fun hlt => ?_) | with_reducible refine ATT.cEn (fun hlt => ?_) (fun hlt => ?_) | with_reducible refine ATT.cDn (fun hlt => ?_) (fun hlt => ?_)
     ·have hRk : inR (k : Int) s.size = true := inR_of (by omega) (by omega)
      have hIk : inI ((k : Int) + 1) = true := inI_of (by omega) (by omega)
      have hge : ¬ (s.size : Int) ≤ k := by omega
      simp [hlt, hRk]
      by_cases h34 : sbyte s k = 34
      ·have hkd2 : k = d := by rw [← hk]; exact (skipS_no (by simp [notQ, h34])).symm
       subst hkd2
       have hlt' : k < s.size := by omega
       simp only [hlt', if_true] at hj
       simp [c29t, eq_true h34, hge, hIk]
       refine ihO (k + 1, l) (by first | ((try dsimp only); omega) | (simp [hR, hI1, hnb.1, hnb.2.1, hnb.2.2.1, hnb.2.2.2] <;> omega)) (by (try dsimp only); exact ⟨hj, by omega, by omega⟩) _ _ _ (by simp <;> omega) (by simp <;> omega) (by simp <;> omega)
      ·have h5 := skipS_yes (p := notQ) (s := s) (i := k) (by simp [notQ, h34]; omega)
       have h6 := skipS_le notQ s _ (k + 1) rfl
       simp [c29t, h34, hIk]
       refine ih (k + 1) (by first | ((try dsimp only); omega) | (simp [hR, hI1, hnb.1, hnb.2.1, hnb.2.2.1, hnb.2.2.2] <;> omega)) (by (try dsimp only); exact ⟨by rw [← h5]; exact hk, by omega, by omega, by omega⟩) _ _ _ (by simp <;> omega) (by simp <;> omega) (by simp <;> omega)
     ·have hkd2 : k = d := by rw [← hk]; exact (skipS_no (by simp; omega)).symm
      subst hkd2
      have hlt' : ¬ k < s.size := by omega
      have hge : (s.size : Int) ≤ k := by omega
      simp only [hlt', if_false, joinL] at hj
      simp [c29t, hlt, hge]
      refine ATT.fin' hQ Tryz.func29 c29res ?_
      simp [← hj]
      all_goals (first | omega | exact ⟨_, rfl⟩ | skip)
    ·simp only [eq_false hq, if_false] at hj
     simp [c29t, hq]
     refine ATT.callE Tryz.func29 60 (f48_ok (num := num) s (by omega) i hi' hW) (by simp) (by simp) (by simp) fun _ hE => ?_
     obtain ⟨k', t', a', rfl, hw⟩ := hE
     simp [c29t, tokD]
     cases hwd : wordS num s i with
     | none =>
      rw [hwd] at hj
      simp only [joinL] at hj
      simp [c29t]
      refine ATT.fin' hQ Tryz.func29 c29res ?_
      simp [← hj]
      all_goals (first | omega | exact ⟨_, rfl⟩ | skip)
     | some p =>
      obtain ⟨kk, tt, e⟩ := p
      obtain ⟨e1, e2, e3⟩ := hw _ _ _ hwd
      subst e1 e2 e3
      have hlt := wordS_lt hi' hwd
      rw [hwd] at hj
      simp only [hlt.1, if_true] at hj
      have hmap : (l.length + 1) * 32 ≤ 140737488355328 := by omega
      have hj2 : joinL (l ++ [⟨k', t', a'⟩]) (lexS num s e) = r := by
       rw [← hj]
       cases lexS num s e <;> simp [joinL]
      have hen : ¬ (e : Int) < 0 := by omega
      simp [c29t, hmap, hen]
      refine ih (e, l ++ [⟨k', t', a'⟩]) (by first | ((try dsimp only); omega) | (simp [hR, hI1, hnb.1, hnb.2.1, hnb.2.2.1, hnb.2.2.2] <;> omega)) (by (try dsimp only); exact ⟨hj2, by omega, by simp; omega⟩) _ _ _ (by simp <;> omega) (by simp <;> omega) (by simp <;> omega)
  ·simp [c29t, he]
   have hie : i = s.size := by omega
   subst hie
   have hs1 := skipS_no (p := blankS) (s := s) (i := s.size) (by simp)
   rw [lexS, hs1] at hj
   simp only [Nat.lt_irrefl, dite_false] at hj
   have hmap : (l.length + 1) * 32 ≤ 140737488355328 := by omega
   refine ATT.finz hQ Tryz.func29 c29res (by first | exact .inl rfl | exact .inr ⟨_, rfl⟩) ?_
   simp [← hj, joinL, tkD, tokD, hmap]
   all_goals (first | omega | exact ⟨_, rfl⟩ | skip)
end Go.SL
namespace Go.SL
open Go.Proofs
set_option maxRecDepth 10000
abbrev PB (l : List Tk) (d : Nat) : Bx := .cells [.d (.sl false 3 (l.map tkD)), .d (.int .i64 d)] 55
def stopV (a : Nat) (w : Int) : V := .d (.iface 53 (.agg [.int .i64 a, .int .i64 w]))
theorem f40_ok (t : Tk) (l : List Tk) (d : Nat) : MF Tryz.prog 40 [.ptr 0 0] [PB (t :: l) d] (.d (.int .i64 t.k)) [PB (t :: l) d] := by
 refine AF.start' 60 Tryz.func40 rfl rfl c40call c40ok fun Q hQ => ?_
 simp [c40c, c40t, tkD, tokD]
 refine ATT.fin' hQ Tryz.func40 c40res ?_
 simp
 all_goals (first | omega | exact ⟨_, rfl⟩ | skip)
theorem f39_ok (t : Tk) (l : List Tk) (d : Nat) : MF Tryz.prog 39 [.ptr 0 0] [PB (t :: l) d] (.d (tkD t)) [PB (if t.k = 0 then t :: l else l) d] := by
 refine AF.start' 60 Tryz.func39 rfl rfl c39call c39ok fun Q hQ => ?_
 simp [c39c, c39t, tkD, tokD]
 first | with_reducible refine ATT.cC (fun h => ?_) (fun h => ?_) | with_reducible refine ATT.cE (fun h => ?_) (fun h => ?_) | with_reducible refine ATT.cD (fun h => ?_) (fun h => ?_) | with_reducible refine ATT.cCn (fun h => ?_) (fun h => ?_) | with_reducible refine ATT.cEn (fun h => ?_) (fun h => ?_) | with_reducible refine ATT.cDn (fun h => ?_) (fun h => ?_)
 ·simp [c39t, h]
  refine ATT.fin' hQ Tryz.func39 c39res ?_
  simp [tkD, tokD, h]
  all_goals (first | omega | exact ⟨_, rfl⟩ | skip)
 ·simp [c39t, tkD, tokD, h]
  refine ATT.fin' hQ Tryz.func39 c39res ?_
  simp [tkD, tokD, h, (by omega : (1 : Int) ≤ (l.length : Int) + 1)]
  all_goals (first | omega | exact ⟨_, rfl⟩ | skip)
theorem f47_ok (t : Tk) (l : List Tk) (d : Nat) (w : Int) : AF Tryz.prog 47 [.ptr 0 0, .d (.int .i64 w)] ⟨[PB (t :: l) d], []⟩ fun o h => o = .pan (stopV t.a w) ∧ 1 ≤ h.bx.length := by
 refine AF.start' 60 Tryz.func47 rfl rfl c47call c47ok fun Q hQ => ?_
 simp [c47c, c47t, tkD, tokD]
 refine ATT.pan hQ Tryz.func47 (by simp; exact ⟨rfl, rfl⟩) (by simp) (by simp) ?_
 try simp [stopV]
theorem f38_ok (t : Tk) (l : List Tk) (d : Nat) (k : Int) (hk : t.k = k) (h0 : k ≠ 0) : MF Tryz.prog 38 [.ptr 0 0, .d (.int .i64 k)] [PB (t :: l) d] (.d (tkD t)) [PB l d] := by
 have hT := f39_ok t l d
 have h0' : ¬ t.k = 0 := by rw [hk]; exact h0
 rw [if_neg h0'] at hT
 refine AF.start' 60 Tryz.func38 rfl rfl c38call c38ok fun Q hQ => ?_
 simp [c38c, c38t]
 refine ATT.callM Tryz.func38 60 [0] (f40_ok t l d) rfl (by simp) (by simp) (by simp) (by simp) (by simp) ?_
 simp [c38t, eq_true hk]
 refine ATT.callM Tryz.func38 60 [0] (hT) rfl (by simp) (by simp) (by simp) (by simp) (by simp) ?_
 simp [tkD, tokD]
 refine ATT.fin' hQ Tryz.func38 c38res ?_
 simp [tkD, tokD]
 all_goals (first | omega | exact ⟨_, rfl⟩ | skip)
theorem f38_no (t : Tk) (l : List Tk) (d : Nat) (k : Int) (hk : ¬ t.k = k) : AF Tryz.prog 38 [.ptr 0 0, .d (.int .i64 k)] ⟨[PB (t :: l) d], []⟩ fun o h => o = .pan (stopV t.a 20) ∧ 1 ≤ h.bx.length := by
 refine AF.start' 60 Tryz.func38 rfl rfl c38call c38ok fun Q hQ => ?_
 simp [c38c, c38t]
 refine ATT.callM Tryz.func38 60 [0] (f40_ok t l d) rfl (by simp) (by simp) (by simp) (by simp) (by simp) ?_
 simp [c38t, hk]
 refine ATT.callA Tryz.func38 60 [0] [] 0 0 (f47_ok t l d 20) (by simp) (by simp) (by simp) (by simp) (by simp) fun out hC hE => ?_
 obtain ⟨e1, e2⟩ := hE
 subst e1
 exact ⟨by simpa using e2, hQ _ _ ⟨by simp [stopV], by simp⟩⟩
abbrev PP : Bx := .cells [.ptr 0 0] 43
theorem f104_no (t : Tk) (l : List Tk) (nd : List D) (T : TypeId) (g : FuncId) (caps : List V) : AF Tryz.prog 104 [.ptr 0 0, .fn (.func g) [] caps] ⟨[PB (t :: l) 40, PP, .cells (nd.map .d) T], []⟩ fun o h => o = .pan (stopV t.a 3) ∧ 3 ≤ h.bx.length := by
 refine AF.start' 60 Tryz.func104 rfl rfl c104call c104ok fun Q hQ => ?_
 simp [c104c, c104t]
 refine ATT.callA Tryz.func104 60 [0] [] 0 0 (f47_ok t l 40 3) (by simp) (by simp) (by simp) (by simp) (by simp) fun out hC hE => ?_
 obtain ⟨e1, e2⟩ := hE
 subst e1
 exact ⟨by simpa using e2, hQ _ _ ⟨by simp [stopV], by simp⟩⟩
theorem f104_ok (t : Tk) (ht : ¬ t.k = 0) (l : List Tk) (nd : List D) (T : TypeId) (d : Nat) (hd : d < 40) (g : FuncId) (caps : List V) (hc1 : rns [0, 1, 2] [] caps = caps) (hc2 : insc 3 0 caps = true) (Φ : List Tk → List D → Prop) (Ψ : Nat → Int → Prop)
  (hW : AF Tryz.prog g caps ⟨[PB l (d + 1), PP, .cells (nd.map .d) T], []⟩ fun o h => (∃ l' nd' b c, o = .ret (.d (.tup [])) ∧ h = ⟨PB l' (d + 1) :: PP :: .cells (nd'.map .d) T :: b, c⟩ ∧ Φ l' nd') ∨ (∃ a w, o = .pan (stopV a w) ∧ 3 ≤ h.bx.length ∧ Ψ a w)) :
  AF Tryz.prog 104 [.ptr 0 0, .fn (.func g) [] caps] ⟨[PB (t :: l) d, PP, .cells (nd.map .d) T], []⟩ fun o h => (∃ l' nd' b c, o = .ret (.d (.tup [])) ∧ h = ⟨PB l' d :: PP :: .cells (nd'.map .d) T :: b, c⟩ ∧ Φ l' nd') ∨ (∃ a w, o = .pan (stopV a w) ∧ 3 ≤ h.bx.length ∧ Ψ a w) := by
 have hT := f39_ok t l (d + 1)
 rw [if_neg ht] at hT
 have hd' : ¬ (d : Int) = 40 := by omega
 have hI : inI ((d : Int) + 1) = true := inI_of (by omega) (by omega)
 have hI2 : inI (d : Int) = true := inI_of (by omega) (by omega)
 refine AF.start' 60 Tryz.func104 rfl rfl c104call c104ok fun Q hQ => ?_
 simp [c104c, c104t, hd', hI]
 refine ATT.callM Tryz.func104 60 [0] (hT) rfl (by simp) (by simp) (by simp) (by simp) (by simp) ?_
 simp [c104t]
 refine ATT.callA Tryz.func104 60 [0, 1, 2] [] 0 0 (hW) (by simp) (by simp [hc1]) (by simp) (by simp [hc2]) (by simp) fun out hC hE => ?_
 rcases hE with ⟨l', nd', b, c, e1, e2, hφ⟩ | ⟨a, w, e1, e2, hψ⟩
 ·subst e1 e2
  refine ⟨by simp, ?_⟩
  have hI3 : inI ((d : Int) + 1 - 1) = true := inI_of (by omega) (by omega)
  have hd1 : (d : Int) + 1 - 1 = d := by omega
  simp [c104t, hI2, hd1]
  refine ATT.fin0' hQ Tryz.func104 c104res ?_
  exact ⟨by simp, .inl ⟨l', nd', _, _, rfl, rfl, hφ⟩⟩
 ·subst e1
  exact ⟨by simpa using e2, hQ _ _ (.inr ⟨a, w, by simp [stopV], by simp, hψ⟩)⟩
end Go.SL
namespace Go.SL
open Go.Proofs
set_option maxRecDepth 10000
mutual
def NdR : Nd → D → Prop
 | .mk k t a n names kids, v => ∃ nl1 z1 nl2 z2 ds, v = .agg [.int .i64 k, .str t, .int .i64 a, .int .i64 n, .sl nl1 z1 (names.map .str), .sl nl2 z2 ds] ∧
   (nl1 = true → names = []) ∧ (nl1 = false → z1 = 1) ∧ (nl2 = true → kids = []) ∧ (nl2 = false → z2 = 6) ∧ NdRL kids ds
def NdRL : List Nd → List D → Prop
 | [], ds => ds = []
 | x :: r, ds => ∃ d l, ds = d :: l ∧ NdR x d ∧ NdRL r l
end
theorem NdR.shape {x : Nd} {v : D} (h : NdR x v) : ∃ nl1 z1 nl2 z2 ds, v = .agg [.int .i64 x.k, .str x.t, .int .i64 x.a, .int .i64 x.n, .sl nl1 z1 (x.names.map .str), .sl nl2 z2 ds] ∧
   (nl1 = true → x.names = []) ∧ (nl1 = false → z1 = 1) ∧ (nl2 = true → x.kids = []) ∧ (nl2 = false → z2 = 6) ∧ NdRL x.kids ds := by
 cases x with
 | mk k t a n names kids => simp only [NdR] at h; exact h
theorem NdR.of {x : Nd} {nl1 nl2 : Bool} {z1 z2 : Nat} {ds : List D} (h1 : nl1 = true → x.names = []) (h2 : nl1 = false → z1 = 1) (h3 : nl2 = true → x.kids = []) (h4 : nl2 = false → z2 = 6) (h5 : NdRL x.kids ds) :
  NdR x (.agg [.int .i64 x.k, .str x.t, .int .i64 x.a, .int .i64 x.n, .sl nl1 z1 (x.names.map .str), .sl nl2 z2 ds]) := by
 cases x with
 | mk k t a n names kids => simp only [NdR]; exact ⟨nl1, z1, nl2, z2, ds, rfl, h1, h2, h3, h4, h5⟩
theorem NdR.mk {k : Int} {t : ByteArray} {a n : Nat} {names : List ByteArray} {kids : List Nd} {nl1 nl2 : Bool} {z1 z2 : Nat} {ds : List D} (h1 : nl1 = true → names = []) (h2 : nl1 = false → z1 = 1) (h3 : nl2 = true → kids = []) (h4 : nl2 = false → z2 = 6) (h5 : NdRL kids ds) :
  NdR (.mk k t a n names kids) (.agg [.int .i64 k, .str t, .int .i64 a, .int .i64 n, .sl nl1 z1 (names.map .str), .sl nl2 z2 ds]) := by
 simp only [NdR]; exact ⟨nl1, z1, nl2, z2, ds, rfl, h1, h2, h3, h4, h5⟩
theorem NdR.leaf (k : Int) (t : ByteArray) (a n : Nat) : NdR (.mk k t a n [] []) (.agg [.int .i64 k, .str t, .int .i64 a, .int .i64 n, .sl true 0 [], .sl true 0 []]) :=
 NdR.mk (fun _ => rfl) (by simp) (fun _ => rfl) (by simp) (by simp [NdRL])
theorem NdR.kids {k : Int} {t : ByteArray} {a n : Nat} {kids : List Nd} {ds : List D} (h : NdRL kids ds) : NdR (.mk k t a n [] kids) (.agg [.int .i64 k, .str t, .int .i64 a, .int .i64 n, .sl true 0 [], .sl false 6 ds]) :=
 NdR.mk (fun _ => rfl) (by simp) (by simp) (fun _ => rfl) h
theorem NdRL.one {x : Nd} {v : D} (h : NdR x v) : NdRL [x] [v] := by simp only [NdRL]; exact ⟨v, [], rfl, h, rfl⟩
def NdB (x : Nd × Bool) (v : D) : Prop := ∃ u, v = .tup [u, .bool x.2] ∧ NdR x.1 u
def PR {α : Type} (Φ : α → D → Prop) (d : Nat) (r : Res α) (o : Out) (h : H) : Prop := match r with
 | .ok x l => ∃ v b c, o = .ret (.d v) ∧ h = ⟨PB l d :: b, c⟩ ∧ Φ x v
 | .no a w => o = .pan (stopV a w) ∧ 1 ≤ h.bx.length
 | .out => True
section
variable {N : Nat} {f : FD} {Q : Out → H → Prop}
theorem ATT.callP {α : Type} {Φ : α → D → Prop} {fn : Func} (hf : Tryz.prog.funcs[f.fn]? = some fn) {ix : Nat} {dst : Option Nat} {g : Opd} {args : List Opd} {kill : List Nat} {r : List AI} {k : List AItem} {env : Env} {h : H} {ob : Bool} {fid : FuncId} {l : List Tk} {d : Nat} {res : Res α} {argsC : List V}
  (n j : Nat) (hAF : AF Tryz.prog fid argsC ⟨[PB l d], []⟩ (PR Φ d res)) (hr : res ≠ .out) (hc : calls (ev env g) (args.map (ev env)) = some (fid, rns [j] [] argsC)) (hsc : insc 1 0 argsC = true) (hj : h.bx[j]? = some (PB l d)) (ho : ob = true)
  (hno : ∀ a w, res = .no a w → ∀ h' : H, h'.bx.length = h.bx.length → Q (.pan (stopV a w)) h')
  (hk : ∀ x l' v, res = .ok x l' → Φ x v → ATT Tryz.prog N f Q (goes n (.reg r :: k) (put (dels env kill) dst (.d v)) ⟨h.bx.set j (PB l' d), h.vc⟩ true)) (hkp : subE env f.keep := by exact True.intro) : ATT Tryz.prog N f Q (.reg (⟨ix, dst, .call g args, none, kill⟩ :: r) :: k, env, h, ob) := by
 refine ATT.callA hf n [j] [] 0 0 hAF trivial hc (by simp [hj]) hsc ho (fun out hC hE => ?_) hkp
 cases hres : res with
 | ok x l' =>
  rw [hres] at hE
  obtain ⟨v, b, c, e1, e2, hφ⟩ := hE
  subst e1 e2
  refine ⟨by simp, ?_⟩
  have := hk x l' v hres hφ
  simpa using this
 | no a w =>
  rw [hres] at hE
  obtain ⟨e1, e2⟩ := hE
  subst e1
  exact ⟨by simpa using e2, by simpa [stopV] using hno a w hres _ (by simp)⟩
 | out => exact absurd hres hr
theorem ATT.callRP {α : Type} {Φ : α → D → Prop} {fn : Func} (hf : Tryz.prog.funcs[f.fn]? = some fn) {ix : Nat} {dst : Option Nat} {g : Opd} {args : List Opd} {kill : List Nat} {d' r : List AI} {k : List AItem} {env : Env} {h : H} {ob : Bool} {fid : FuncId} {l : List Tk} {d : Nat} {res : Res α} {argsC : List V}
  (n j : Nat) (hAF : AF Tryz.prog fid argsC ⟨[PB l d], []⟩ (PR Φ d res)) (hr : res ≠ .out) (hc : calls (ev env g) (args.map (ev env)) = some (fid, rns [j] [] argsC)) (hsc : insc 1 0 argsC = true) (hj : h.bx[j]? = some (PB l d)) (ho : ob = true)
  (hno : ∀ a w, res = .no a w → ∀ h' : H, h'.bx.length = h.bx.length → Q (.pan (stopV a w)) h')
  (hk : ∀ x l' v, res = .ok x l' → Φ x v → ATT Tryz.prog N f Q (goes n (.regD (⟨ix, dst, .call g args, none, kill⟩ :: d') r :: k) (put env dst (.d v)) ⟨h.bx.set j (PB l' d), h.vc⟩
   (rcB ⟨h.bx.set j (PB l' d), h.vc⟩ (put env dst (.d v)) kill d'))) (hk0 : f.keep = [] := by rfl) : ATT Tryz.prog N f Q (.regD d' (⟨ix, dst, .call g args, none, kill⟩ :: r) :: k, env, h, ob) := by
 refine ATT.callRA hf n [j] [] 0 0 hAF trivial hc (by simp [hj]) hsc ho (fun out hC hE => ?_) hk0
 cases hres : res with
 | ok x l' =>
  rw [hres] at hE
  obtain ⟨v, b, c, e1, e2, hφ⟩ := hE
  subst e1 e2
  refine ⟨by simp, ?_⟩
  have := hk x l' v hres hφ
  simpa using this
 | no a w =>
  rw [hres] at hE
  obtain ⟨e1, e2⟩ := hE
  subst e1
  exact ⟨by simpa using e2, by simpa [stopV] using hno a w hres _ (by simp)⟩
 | out => exact absurd hres hr
end
def ExprC (n : Nat) : Prop := ∀ d l, d ≤ 40 → WF l → exprS n d l ≠ .out → AF Tryz.prog 76 [.ptr 0 0] ⟨[PB l d], []⟩ (PR NdR d (exprS n d l))
def CascC (n : Nat) : Prop := ∀ d l, d ≤ 40 → WF l → cascS n d l ≠ .out → AF Tryz.prog 106 [.ptr 0 0] ⟨[PB l d], []⟩ (PR NdR d (cascS n d l))
def MsgC (n : Nat) : Prop := ∀ d l, d ≤ 40 → WF l → msgS n d l ≠ .out → AF Tryz.prog 122 [.ptr 0 0] ⟨[PB l d], []⟩ (PR NdR d (msgS n d l))
def KeyedC (n : Nat) : Prop := ∀ d l, d ≤ 40 → WF l → keyedS n d l ≠ .out → AF Tryz.prog 121 [.ptr 0 0] ⟨[PB l d], []⟩ (PR NdB d (keyedS n d l))
def BinaryC (n : Nat) : Prop := ∀ d l, d ≤ 40 → WF l → binaryS n d l ≠ .out → AF Tryz.prog 137 [.ptr 0 0] ⟨[PB l d], []⟩ (PR NdB d (binaryS n d l))
def UnaryC (n : Nat) : Prop := ∀ d l, d ≤ 40 → WF l → unaryS n d l ≠ .out → AF Tryz.prog 138 [.ptr 0 0] ⟨[PB l d], []⟩ (PR NdB d (unaryS n d l))
def PrimC (n : Nat) : Prop := ∀ d l, d ≤ 40 → WF l → primS n d l ≠ .out → AF Tryz.prog 148 [.ptr 0 0] ⟨[PB l d], []⟩ (PR NdB d (primS n d l))
def ListC (n : Nat) : Prop := ∀ d l, d ≤ 40 → WF l → (kd l = 17 ∨ kd l = 8) → listS n d l ≠ .out → AF Tryz.prog 155 [.ptr 0 0] ⟨[PB l d], []⟩ (PR NdR d (listS n d l))
def ElemC (n : Nat) : Prop := ∀ d l, d ≤ 40 → WF l → elemS n d l ≠ .out → AF Tryz.prog 160 [.ptr 0 0] ⟨[PB l d], []⟩ (PR NdR d (elemS n d l))
def BlockC (n : Nat) : Prop := ∀ d l, d ≤ 40 → WF l → kd l = 10 → blockS n d l ≠ .out → AF Tryz.prog 156 [.ptr 0 0] ⟨[PB l d], []⟩ (PR NdR d (blockS n d l))
def StmtC (n : Nat) : Prop := ∀ d l, d ≤ 40 → WF l → stmtS n d l ≠ .out → AF Tryz.prog 46 [.ptr 0 0] ⟨[PB l d], []⟩ (PR NdB d (stmtS n d l))
theorem kd_cons (t : Tk) (l : List Tk) : kd (t :: l) = t.k := rfl
theorem pl_cons (t : Tk) (l : List Tk) : pl (t :: l) = t.a := rfl
theorem tx_cons (t : Tk) (l : List Tk) : tx (t :: l) = t.t := rfl
theorem WF.two {t : Tk} {l : List Tk} (h : WF (t :: l)) (hk : t.k ≠ 0) : ∃ t2 l2, l = t2 :: l2 ∧ WF (t2 :: l2) := by
 have h1 := (h.tail hk).1
 obtain ⟨t2, l2, e⟩ := h1.cons
 exact ⟨t2, l2, e, by rw [← e]; exact h1⟩
theorem f105_ok {n : Nat} (ih : ExprC n) (d : Nat) (l : List Tk) (hd : d ≤ 40) (hl : WF l) (hin : exprS n d l ≠ .out) (a0 a1 a2 a3 a4 a5 : D) (h0 : (V.d a0).one = true) :
  AF Tryz.prog 105 [.ptr 1 0, .ptr 2 0] ⟨[PB l d, PP, .cells [.d a0, .d a1, .d a2, .d a3, .d a4, .d a5] 25], []⟩ fun o h =>
   (∃ l' nd' b c, o = .ret (.d (.tup [])) ∧ h = ⟨PB l' d :: PP :: .cells (nd'.map .d) 25 :: b, c⟩ ∧ ∃ x v, exprS n d l = .ok x l' ∧ nd' = [a0, a1, a2, a3, a4, .sl false 6 [v]] ∧ NdR x v) ∨ (∃ a w, o = .pan (stopV a w) ∧ 3 ≤ h.bx.length ∧ exprS n d l = .no a w) := by
 refine AF.start' 60 Tryz.func105 rfl rfl c105call c105ok fun Q hQ => ?_
 simp [c105c, c105t]
 refine ATT.callP Tryz.func105 60 0 (ih d l hd hl hin) hin (by simp) (by simp) rfl rfl (fun a w e h' hh => hQ _ _ (.inr ⟨a, w, rfl, by simp at hh; omega, e⟩)) fun x l' v e hφ => ?_
 obtain ⟨nl1, z1, nl2, z2, ds, hv, _⟩ := hφ.shape
 have hv' := hv
 subst hv'
 simp
 refine ATT.fz0 ?_
 simp
 refine ATT.fin0' hQ Tryz.func105 c105res ?_
 exact ⟨by simp, .inl ⟨l', _, _, _, rfl, rfl, x, _, e, rfl, hφ⟩⟩
theorem f76_ok (n : Nat) (ihE : ExprC n) (ihC : CascC n) : ExprC (n + 1) := by
 intro d l hd hl hin
 obtain ⟨t, r, e⟩ := hl.cons
 subst e
 simp only [exprS] at hin ⊢
 refine AF.start' 60 Tryz.func76 rfl rfl c76call c76ok fun Q hQ => ?_
 simp [c76c, c76t]
 refine ATT.callM Tryz.func76 60 [0] (f40_ok t r d) rfl (by simp) (by simp) (by simp) (by simp) (by simp) ?_
 simp
 by_cases h1 : t.k = 1
 ·obtain ⟨t2, l2, e, hl2⟩ := hl.two (by rw [h1]; decide)
  subst e
  by_cases h7 : t2.k = 7
  ·rw [if_pos ⟨h1, h7⟩] at hQ hin
   have hT := f39_ok t (t2 :: l2) d
   rw [if_neg (by rw [h1]; decide)] at hT
   simp [c76t, eq_true h1, eq_true h7, tkD, tokD]
   refine ATT.callM Tryz.func76 60 [0] (hT) rfl (by simp) (by simp) (by simp [tkD, tokD]) (by simp) (by simp) ?_
   simp [c76t, tkD, tokD]
   by_cases h40 : d = 40
   ·subst h40
    simp only [if_true] at hQ
    refine ATT.callA Tryz.func76 60 [0, 1, 4] [] 0 0 (f104_no t2 l2 [.int .i64 6, .str t.t, .int .i64 t.a, .int .i64 0, .sl true 0 [], .sl true 0 []] 25 105 [.ptr 1 0, .ptr 2 0]) (by simp) (by simp) (by simp [tkD, tokD]) (by simp) (by simp) fun out hC hE => ?_
    obtain ⟨e1, e2⟩ := hE
    subst e1
    exact ⟨by simpa using e2, hQ _ _ ⟨by simp [stopV, pl, eSize], by simp⟩⟩
   ·rw [if_neg h40] at hQ hin
    obtain ⟨t3, l3, e, hl3⟩ := hl2.two (by rw [h7]; decide)
    subst e
    have hin' : exprS n (d + 1) (t3 :: l3) ≠ .out := fun e => hin (by simp [e, Res.andThen])
    have hcl := f105_ok ihE (d + 1) (t3 :: l3) (by omega) hl3 hin' (.int .i64 6) (.str t.t) (.int .i64 t.a) (.int .i64 0) (.sl true 0 []) (.sl true 0 []) rfl
    have hW := f104_ok t2 (by rw [h7]; decide) (t3 :: l3) [.int .i64 6, .str t.t, .int .i64 t.a, .int .i64 0, .sl true 0 [], .sl true 0 []] 25 d (by omega) 105 [.ptr 1 0, .ptr 2 0] rfl rfl
     (fun l' nd' => ∃ x v, exprS n (d + 1) (t3 :: l3) = .ok x l' ∧ nd' = [.int .i64 6, .str t.t, .int .i64 t.a, .int .i64 0, .sl true 0 [], .sl false 6 [v]] ∧ NdR x v) (fun a w => exprS n (d + 1) (t3 :: l3) = .no a w) hcl
    refine ATT.callA Tryz.func76 60 [0, 1, 4] [] 0 0 (hW) (by simp) (by simp) (by simp [tkD, tokD]) (by simp) (by simp) fun out hC hE => ?_
    rcases hE with ⟨l', nd', b, c, e1, e2, x, v, hx, hnd, hxv⟩ | ⟨a, w, e1, e2, hx⟩
    ·subst e1 e2 hnd
     refine ⟨by simp, ?_⟩
     simp [c76t]
     simp only [List.tail_cons, hx, Res.andThen] at hQ
     refine ATT.fin' hQ Tryz.func76 c76res ?_
     exact ⟨by simp, _, _, _, rfl, rfl, NdR.kids (.one hxv)⟩
    ·subst e1
     simp only [List.tail_cons, hx, Res.andThen] at hQ
     exact ⟨by simpa using e2, hQ _ _ ⟨by simp [stopV], by simp⟩⟩
  ·rw [if_neg (fun h => h7 h.2)] at hQ hin
   simp [c76t, eq_true h1, tkD, tokD, h7]
   refine ATT.callP Tryz.func76 60 0 (ihC d _ hd hl hin) (hin) (by simp) (by simp) rfl (by simp) (fun a w e h1 hh => hQ _ _ (by rw [e]; exact ⟨rfl, by rw [hh]; simp⟩)) fun x l' v hx hφ => ?_
   rw [hx] at hQ hin
   try simp only [Res.andThen] at hQ hin
   obtain ⟨nl1_v, z1_v, nl2_v, z2_v, ds_v, hv_v, ha_v, hb_v, hc_v, hd_v, he_v⟩ := hφ.shape
   have hw_v := hv_v
   subst hw_v
   simp
   refine ATT.fin' hQ Tryz.func76 c76res ?_
   exact ⟨by simp, _, _, _, rfl, rfl, hφ⟩
 ·rw [if_neg (fun h => h1 h.1)] at hQ hin
  simp [c76t, h1]
  refine ATT.callP Tryz.func76 60 0 (ihC d _ hd hl hin) (hin) (by simp) (by simp) rfl (by simp) (fun a w e h1 hh => hQ _ _ (by rw [e]; exact ⟨rfl, by rw [hh]; simp⟩)) fun x l' v hx hφ => ?_
  rw [hx] at hQ hin
  try simp only [Res.andThen] at hQ hin
  obtain ⟨nl1_v, z1_v, nl2_v, z2_v, ds_v, hv_v, ha_v, hb_v, hc_v, hd_v, he_v⟩ := hφ.shape
  have hw_v := hv_v
  subst hw_v
  simp
  refine ATT.fin' hQ Tryz.func76 c76res ?_
  exact ⟨by simp, _, _, _, rfl, rfl, hφ⟩
theorem f46_ok (n : Nat) (ihE : ExprC n) : StmtC (n + 1) := by
 intro d l hd hl hin
 obtain ⟨t, r, e⟩ := hl.cons
 subst e
 simp only [stmtS, kd_cons, pl_cons, List.tail_cons] at hin ⊢
 refine AF.start' 60 Tryz.func46 rfl rfl c46call c46ok fun Q hQ => ?_
 simp [c46c, c46t]
 refine ATT.callM Tryz.func46 60 [0] (f40_ok t r d) rfl (by simp) (by simp) (by simp) (by simp) (by simp) ?_
 simp
 by_cases h1 : t.k = 13
 ·obtain ⟨t2, l2, e, hl2⟩ := hl.two (by rw [h1]; decide)
  subst e
  have hT := f39_ok t (t2 :: l2) d
  rw [if_neg (by rw [h1]; decide)] at hT
  simp only [eq_true h1, if_true] at hQ hin
  simp [c46t, eq_true h1]
  refine ATT.callM Tryz.func46 60 [0] (hT) rfl (by simp) (by simp) (by simp) (by simp) (by simp) ?_
  simp [c46t, tkD, tokD]
  have hin' : exprS n d (t2 :: l2) ≠ .out := fun e => hin (by simp [e, Res.andThen])
  refine ATT.callP Tryz.func46 60 0 (ihE d _ hd hl2 hin') (hin') (by simp) (by simp) rfl (by simp) (fun a w e h1 hh => hQ _ _ (by rw [e]; exact ⟨rfl, by rw [hh]; simp⟩)) fun x l' v hx hφ => ?_
  rw [hx] at hQ hin
  try simp only [Res.andThen] at hQ hin
  obtain ⟨nl1_v, z1_v, nl2_v, z2_v, ds_v, hv_v, ha_v, hb_v, hc_v, hd_v, he_v⟩ := hφ.shape
  have hw_v := hv_v
  subst hw_v
  simp [c46t]
  refine ATT.finz hQ Tryz.func46 c46res (by first | exact .inl rfl | exact .inr ⟨_, rfl⟩) ?_
  simp
  all_goals (first | omega | exact ⟨_, rfl⟩ | skip)
  exact ⟨_, _, _, rfl, rfl, _, rfl, NdR.kids (.one hφ)⟩
 ·simp only [eq_false h1, if_false] at hQ hin
  simp [c46t, h1]
  have hin' : exprS n d (t :: r) ≠ .out := fun e => hin (by simp [e, Res.andThen])
  refine ATT.callP Tryz.func46 60 0 (ihE d _ hd hl hin') (hin') (by simp) (by simp) rfl (by simp) (fun a w e h1 hh => hQ _ _ (by rw [e]; exact ⟨rfl, by rw [hh]; simp⟩)) fun x l' v hx hφ => ?_
  rw [hx] at hQ hin
  try simp only [Res.andThen] at hQ hin
  obtain ⟨nl1_v, z1_v, nl2_v, z2_v, ds_v, hv_v, ha_v, hb_v, hc_v, hd_v, he_v⟩ := hφ.shape
  have hw_v := hv_v
  subst hw_v
  simp
  refine ATT.fin' hQ Tryz.func46 c46res ?_
  exact ⟨by simp, _, _, _, rfl, rfl, _, rfl, hφ⟩
theorem NdRL.append : ∀ {a b : List Nd} {x y : List D}, NdRL a x → NdRL b y → NdRL (a ++ b) (x ++ y)
 | [], b, x, y, h, h2 => by simp only [NdRL] at h; subst h; exact h2
 | a :: r, b, x, y, h, h2 => by
  simp only [NdRL] at h
  obtain ⟨d, l, e, h3, h4⟩ := h
  subst e
  simp only [List.cons_append, NdRL]
  exact ⟨d, l ++ y, rfl, h3, h4.append h2⟩
theorem NdRL.length : ∀ {a : List Nd} {x : List D}, NdRL a x → x.length = a.length
 | [], x, h => by simp only [NdRL] at h; subst h; rfl
 | a :: r, x, h => by
  simp only [NdRL] at h
  obtain ⟨d, l, e, h3, h4⟩ := h
  subst e
  simp [h4.length]
abbrev NV (T : TypeId) (ds : List D) : Option Vec := some ⟨ds.isEmpty, 6, 0, ds.map .d, T⟩
set_option maxHeartbeats 1000000 in
theorem f122_ok (n : Nat) (ihB : ∀ m, m ≤ n → BinaryC m) (ihU : UnaryC n) : MsgC (n + 1) := by
 intro d l hd hl hin
 obtain ⟨t, r, e⟩ := hl.cons
 subst e
 simp only [msgS, kd_cons, pl_cons, tx_cons, List.tail_cons] at hin ⊢
 by_cases h1 : t.k = 1
 ·have hT := f39_ok t r d
  rw [if_neg (by rw [h1]; decide)] at hT
  simp only [eq_true h1, if_true] at hin ⊢
  refine AF.start' 60 Tryz.func122 rfl rfl c122call c122ok fun Q hQ => ?_
  simp [c122c, c122t, eq_true h1, tkD, tokD]
  refine ATT.callM Tryz.func122 60 [0] (hT) rfl (by simp) (by simp) (by simp [tkD, tokD]) (by simp) (by simp) ?_
  simp [c122t, tkD, tokD]
  refine ATT.fin' hQ Tryz.func122 c122res ?_
  exact ⟨by simp, _, _, _, rfl, rfl, NdR.leaf _ _ _ 0⟩
 by_cases h3 : t.k = 3
 ·obtain ⟨t2, l2, e, hl2⟩ := hl.two (by rw [h3]; decide)
  subst e
  have hT := f39_ok t (t2 :: l2) d
  rw [if_neg (by rw [h3]; decide)] at hT
  simp only [eq_false h1, eq_true h3, if_true, if_false] at hin ⊢
  have hin' : unaryS n d (t2 :: l2) ≠ .out := fun e => hin (by simp [e, Res.andThen])
  refine AF.start' 60 Tryz.func122 rfl rfl c122call c122ok fun Q hQ => ?_
  simp [c122c, c122t, h1, eq_true h3, tkD, tokD]
  refine ATT.callM Tryz.func122 60 [0] (hT) rfl (by simp) (by simp) (by simp [tkD, tokD]) (by simp) (by simp) ?_
  simp [c122t, tkD, tokD]
  refine ATT.callP Tryz.func122 60 0 (ihU d _ hd hl2 hin') (hin') (by simp) (by simp) rfl (by simp) (fun a w e h1 hh => hQ _ _ (by rw [e]; exact ⟨rfl, by rw [hh]; simp⟩)) fun x l' v hx hφ => ?_
  rw [hx] at hQ hin
  try simp only [Res.andThen] at hQ hin
  obtain ⟨u, e, hφ⟩ := hφ
  subst e
  obtain ⟨nl1_u, z1_u, nl2_u, z2_u, ds_u, hv_u, ha_u, hb_u, hc_u, hd_u, he_u⟩ := hφ.shape
  have hw_u := hv_u
  subst hw_u
  simp [c122t]
  refine ATT.finz hQ Tryz.func122 c122res (by first | exact .inl rfl | exact .inr ⟨_, rfl⟩) ?_
  simp
  all_goals (first | omega | exact ⟨_, rfl⟩ | skip)
  exact ⟨_, _, _, rfl, rfl, NdR.kids (.one hφ)⟩
 by_cases h2 : t.k = 2
 ·simp only [eq_false h1, eq_false h3, eq_true h2, if_true, if_false] at hin ⊢
  refine AF.start' 60 Tryz.func122 rfl rfl c122call c122ok fun Q hQ => ?_
  simp [c122c, c122t, h1, h3, eq_true h2, tkD, tokD]
  refine ATT.nilB 3 5 6 25 rfl rfl (by decide) (by simp) ?_
  simp
  have hin' : keysS n d ⟨#[]⟩ [] (t :: r) ≠ .out := fun e => hin (by simp [e, Res.andThen])
  generalize hR : keysS n d ⟨#[]⟩ [] (t :: r) = R at hQ hin hin'
  have hlen := hl.2.2
  refine ATT.loopG 60 c122l15.eq_1 (fun ((m, s, acc, ds, l) : Nat × ByteArray × List Nd × List D × List Tk) => m) (fun ((m, s, acc, ds, l) : Nat × ByteArray × List Nd × List D × List Tk) => keysS m d s acc l = R ∧ NdRL acc ds ∧ WF l ∧ ds.length + l.length ≤ 5000 ∧ s.size + 1048576 * l.length ≤ 5242880000 ∧ m ≤ n) (fun ((m, s, acc, ds, l) : Nat × ByteArray × List Nd × List D × List Tk) => [(0, .ptr 0 0), (2, .ptr 1 0), (4, .ptr 3 0)]) (fun ((m, s, acc, ds, l) : Nat × ByteArray × List Nd × List D × List Tk) => [PB l d, .cells [.d (.int .i64 0), .d (.str ⟨#[]⟩), .d (.int .i64 0), .d (.int .i64 0), .d (.sl true 0 []), .d (.sl true 0 [])] 25, .cells [.d (.int .i64 t.k), .d (.str t.t), .d (.int .i64 t.a)] 79, .cells [.d (.int .i64 9), .d (.str s), .d (.int .i64 t.a), .d (.int .i64 0), .d (.sl true 0 []), .vs 0 ds.length 0 ds.length] 25]) (fun ((m, s, acc, ds, l) : Nat × ByteArray × List Nd × List D × List Tk) => [NV 25 ds]) ((n, ⟨#[]⟩, [], [], t :: r)) (by (try dsimp only); exact ⟨hR, by simp [NdRL], hl, by simpa using hlen, by have h0 : (⟨#[]⟩ : ByteArray).size = 0 := rfl; simp only [List.length_cons] at hlen; simp only [h0, List.length_cons]; omega, Nat.le_refl _⟩) (by simp <;> omega) (by simp) (by simp) ?_
  intro ⟨m, s, acc, ds, l⟩ u w hI ih
  try simp only at hI ih
  obtain ⟨hRk, hds, hwf, hnum, hsz, hmn⟩ := hI
  obtain ⟨t1, l1, e⟩ := hwf.cons
  subst e
  cases m with
  | zero => exact absurd hRk.symm (by simpa [keysS] using hin')
  | succ m =>
   simp only [keysS, kd_cons, tx_cons, List.tail_cons] at hRk
   simp [c122t]
   refine ATT.callM Tryz.func122 60 [0] (f40_ok t1 l1 d) rfl (by simp) (by simp) (by simp [tkD, tokD]) (by simp) (by simp) ?_
   simp [tkD, tokD]
   by_cases h1k : t1.k = 2
   ·obtain ⟨t2, l2, e, hl2⟩ := hwf.two (by rw [h1k]; decide)
    subst e
    have hT := f39_ok t1 (t2 :: l2) d
    rw [if_neg (by rw [h1k]; decide)] at hT
    simp only [eq_true h1k, if_true] at hRk
    have htz := hwf.2.1 t1 (by simp)
    simp only [List.length_cons] at hsz hnum
    have hcat : s.size + t1.t.size ≤ 9223372036854775807 := by omega
    simp [eq_true h1k, tkD, tokD]
    refine ATT.callRM Tryz.func122 60 [0] (hT) rfl (by simp) (by simp) (by simp [tkD, tokD]) (by simp) (by simp) ?_
    simp [c122t, tkD, tokD, hcat]
    have hin2 : binaryS m d (t2 :: l2) ≠ .out := fun e => hin' (by rw [← hRk, e]; rfl)
    refine ATT.callP Tryz.func122 60 0 (ihB m (by omega) d _ hd hl2 hin2) hin2 (by simp) (by simp) rfl (by simp) (fun a w e h1 hh => hQ _ _ (by rw [← hRk, e]; exact ⟨rfl, by rw [hh]; simp⟩)) fun x l' v hx hφ => ?_
    rw [hx] at hRk
    simp only [Res.andThen] at hRk
    obtain ⟨u0, e, hφ⟩ := hφ
    subst e
    obtain ⟨nl1_u0, z1_u0, nl2_u0, z2_u0, ds_u0, hv_u0, ha_u0, hb_u0, hc_u0, hd_u0, he_u0⟩ := hφ.shape
    have hw_u0 := hv_u0
    subst hw_u0
    have hsh := (pres m).binary hl2 hx
    have h2l := hsh.2
    simp only [List.length_cons] at h2l
    have hmul : (ds.length + 1) * 88 ≤ 140737488355328 := by omega
    simp [c122t, hmul]
    refine ih (m, s ++ t1.t, acc ++ [x.1], ds ++ [_], l') (by first | ((try dsimp only); omega) | (simp [eq_true h1k, tkD, tokD, hcat] <;> omega)) (by (try dsimp only); exact ⟨hRk, hds.append (.one hφ), hsh.1, by simp; omega, by simp; omega, by omega⟩) _ _ _ (by simp <;> omega) (by simp <;> omega) (by simp <;> omega)
   ·simp only [eq_false h1k, if_false] at hRk
    subst hRk
    simp [c122t, h1k]
    cases ds with
    | nil =>
     have : acc = [] := by cases acc <;> simp [NdRL] at hds ⊢
     subst this
     refine ATT.finz hQ Tryz.func122 c122res (by first | exact .inl rfl | exact .inr ⟨_, rfl⟩) ?_
     simp
     all_goals (first | omega | exact ⟨_, rfl⟩ | skip)
     exact ⟨_, _, _, rfl, rfl, NdR.mk (fun _ => rfl) (by simp) (fun _ => rfl) (by simp) (by simp [NdRL])⟩
    | cons d0 ds =>
     refine ATT.finz hQ Tryz.func122 c122res (by first | exact .inl rfl | exact .inr ⟨_, rfl⟩) ?_
     simp
     all_goals (first | omega | exact ⟨_, rfl⟩ | skip)
     exact ⟨_, _, _, rfl, rfl, NdR.kids hds⟩
 ·simp only [eq_false h1, eq_false h3, eq_false h2, if_false] at hin ⊢
  refine AF.start' 60 Tryz.func122 rfl rfl c122call c122ok fun Q hQ => ?_
  simp [c122c, c122t, h1, h3, h2, tkD, tokD]
  refine ATT.callA Tryz.func122 60 [0] [] 0 0 (f47_ok t r d 20) (by simp) (by simp) (by simp [tkD, tokD]) (by simp) (by simp) fun out hC hE => ?_
  obtain ⟨e1, e2⟩ := hE
  subst e1
  exact ⟨by simpa using e2, hQ _ _ ⟨by simp [stopV, eSyn], by simp⟩⟩
theorem f147_ok {n : Nat} (ihM : MsgC n) (d : Nat) (l : List Tk) (hd : d ≤ 40) (hl : WF l) (hin : msgS n d l ≠ .out) (x : Nd) (u : D) (hu : NdR x u) :
  AF Tryz.prog 147 [.ptr 0 0, .d u] ⟨[PB l d], []⟩ (PR NdR d ((msgS n d l).andThen fun m r => .ok (sentS x m) r)) := by
 obtain ⟨nl1_u, z1_u, nl2_u, z2_u, ds_u, hv_u, ha_u, hb_u, hc_u, hd_u, he_u⟩ := hu.shape
 have hw_u := hv_u
 subst hw_u
 refine AF.start' 60 Tryz.func147 rfl rfl c147call c147ok fun Q hQ => ?_
 simp [c147c, c147t]
 refine ATT.callP Tryz.func147 60 0 (ihM d _ hd hl hin) (hin) (by simp) (by simp) rfl (by simp) (fun a w e h1 hh => hQ _ _ (by rw [e]; exact ⟨rfl, by rw [hh]; simp⟩)) fun m l' v hx hφ => ?_
 rw [hx] at hQ hin
 try simp only [Res.andThen] at hQ hin
 have hlen := msg_len hl hx
 obtain ⟨nl1_v, z1_v, nl2_v, z2_v, ds_v, hv_v, ha_v, hb_v, hc_v, hd_v, he_v⟩ := hφ.shape
 have hw_v := hv_v
 subst hw_v
 have hdl := he_v.length
 have hmul : (1 + m.kids.length) * 88 ≤ 140737488355328 := by omega
 rw [← hdl] at hmul
 cases nl2_v with
 | true =>
  have hk := hc_v rfl
  rw [hk] at he_v
  simp only [NdRL] at he_v
  subst he_v
  simp
  refine ATT.finz hQ Tryz.func147 c147res (by first | exact .inl rfl | exact .inr ⟨_, rfl⟩) ?_
  simp
  all_goals (first | omega | exact ⟨_, rfl⟩ | skip)
  exact ⟨_, _, _, rfl, rfl, by simp only [sentS, hk]; exact NdR.kids (.one hu)⟩
 | false =>
  have hz := hd_v rfl
  subst hz
  simp [hmul]
  refine ATT.finz hQ Tryz.func147 c147res (by first | exact .inl rfl | exact .inr ⟨_, rfl⟩) ?_
  simp
  all_goals (first | omega | exact ⟨_, rfl⟩ | skip)
  exact ⟨_, _, _, rfl, rfl, by simp only [sentS]; exact NdR.kids (NdRL.append (.one hu) he_v)⟩
theorem f136_ok {n : Nat} (ihM : ∀ m, m ≤ n → MsgC m) (g : FuncId) (c : Int) (d : Nat) (l : List Tk) (hd : d ≤ 40) (res0 : Res (Nd × Bool)) (hread : AF Tryz.prog g [.ptr 0 0] ⟨[PB l d], []⟩ (PR NdB d res0)) (hwf0 : ∀ x r, res0 = .ok x r → WF r)
  (hin : (res0.andThen fun x r => chainS n d c x r) ≠ .out) :
  AF Tryz.prog 136 [.ptr 0 0, .d (.int .i64 c), .d (.bool false), .fn (.func g) [.ptr 0 0] []] ⟨[PB l d], []⟩ (PR NdB d (res0.andThen fun x r => chainS n d c x r)) := by
 have hin0 : res0 ≠ .out := fun e => hin (by rw [e]; rfl)
 refine AF.start' 60 Tryz.func136 rfl rfl c136call c136ok fun Q hQ => ?_
 simp [c136c, c136t]
 refine ATT.callP Tryz.func136 60 0 (hread) (hin0) (by simp) (by simp) rfl (by simp) (fun a w e h1 hh => hQ _ _ (by rw [e]; exact ⟨rfl, by rw [hh]; simp⟩)) fun x l' v hx hφ => ?_
 rw [hx] at hQ hin
 try simp only [Res.andThen] at hQ hin
 have hwf := hwf0 x l' hx
 obtain ⟨u, e, hu⟩ := hφ
 subst e
 obtain ⟨nl1_u, z1_u, nl2_u, z2_u, ds_u, hv_u, ha_u, hb_u, hc_u, hd_u, he_u⟩ := hu.shape
 have hw_u := hv_u
 subst hw_u
 simp
 generalize hR : chainS n d c x l' = R at hQ hin
 refine ATT.loopG 60 c136l5.eq_1 (fun ((m, x, nl1, z1, nl2, z2, ds, l) : Nat × (Nd × Bool) × Bool × Nat × Bool × Nat × List D × List Tk) => m) (fun ((m, x, nl1, z1, nl2, z2, ds, l) : Nat × (Nd × Bool) × Bool × Nat × Bool × Nat × List D × List Tk) => chainS m d c x l = R ∧ WF l ∧ m ≤ n ∧ NdR x.1 (.agg [.int .i64 x.1.k, .str x.1.t, .int .i64 x.1.a, .int .i64 x.1.n, .sl nl1 z1 (x.1.names.map .str), .sl nl2 z2 ds])) (fun ((m, x, nl1, z1, nl2, z2, ds, l) : Nat × (Nd × Bool) × Bool × Nat × Bool × Nat × List D × List Tk) => [(0, .ptr 0 0), (1, .d (.int .i64 c)), (2, .d (.bool false)), (10, .ptr 2 0), (11, .d (.bool x.2)), (8, .ptr 1 0)]) (fun ((m, x, nl1, z1, nl2, z2, ds, l) : Nat × (Nd × Bool) × Bool × Nat × Bool × Nat × List D × List Tk) => [PB l d, .cells [.d (.int .i64 0), .d (.str ⟨#[]⟩), .d (.int .i64 0), .d (.int .i64 0), .d (.sl true 0 []), .d (.sl true 0 [])] 25, .cells [.d (.int .i64 x.1.k), .d (.str x.1.t), .d (.int .i64 x.1.a), .d (.int .i64 x.1.n), .d (.sl nl1 z1 (x.1.names.map .str)), .d (.sl nl2 z2 ds)] 25]) (fun ((m, x, nl1, z1, nl2, z2, ds, l) : Nat × (Nd × Bool) × Bool × Nat × Bool × Nat × List D × List Tk) => []) ((n, x, nl1_u, z1_u, nl2_u, z2_u, ds_u, l')) (by (try dsimp only); exact ⟨hR, hwf, Nat.le_refl _, hu⟩) (by simp <;> omega) (by simp) (by simp) ?_
 intro ⟨m, x, nl1, z1, nl2, z2, ds, l⟩ u w hI ih
 try simp only at hI ih
 obtain ⟨hRk, hwf, hmn, hu⟩ := hI
 obtain ⟨t1, l1, e⟩ := hwf.cons
 subst e
 cases m with
 | zero => exact absurd hRk.symm (by simpa [chainS] using hin)
 | succ m =>
  simp only [chainS, kd_cons] at hRk
  simp [c136t]
  refine ATT.callM Tryz.func136 60 [0] (f40_ok t1 l1 d) rfl (by simp) (by simp) (by simp) (by simp) (by simp) ?_
  simp
  by_cases h1 : t1.k = c
  ·simp only [eq_true h1, if_true] at hRk
   have hin2 : msgS m d (t1 :: l1) ≠ .out := fun e => hin (by rw [← hRk, e]; rfl)
   simp [c136t, eq_true h1]
   have hin3 : ((msgS m d (t1 :: l1)).andThen fun m r => Res.ok (sentS x.1 m) r) ≠ .out := andThen_in hin2 (fun _ _ _ => by simp)
   refine ATT.callP Tryz.func136 60 0 (f147_ok (ihM m (by omega)) d _ hd hwf hin2 x.1 _ hu) hin3 (by simp) (by simp) rfl (by simp) (fun a w e h1 hh => hQ _ _ (by
    cases hm : msgS m d (t1 :: l1) with
    | ok y r => rw [hm] at e; simp [Res.andThen] at e
    | no a' w' => rw [hm] at e; simp only [Res.andThen, Res.no.injEq] at e; rw [← hRk, hm]; exact ⟨by rw [e.1, e.2], by rw [hh]; simp⟩
    | out => exact absurd hm hin2)) fun y l' v hy hφ => ?_
   obtain ⟨y', r', e1, e2⟩ := andThen_ok hy
   simp only [Res.ok.injEq] at e2
   obtain ⟨e2, e3⟩ := e2
   subst e2 e3
   rw [e1] at hRk
   simp only [Res.andThen] at hRk
   have hsh := (pres m).msg hwf e1
   obtain ⟨nl1_v, z1_v, nl2_v, z2_v, ds_v, hv_v, ha_v, hb_v, hc_v, hd_v, he_v⟩ := hφ.shape
   have hw_v := hv_v
   subst hw_v
   simp [c136t]
   refine ih (m, (sentS x.1 y', true), nl1_v, z1_v, nl2_v, z2_v, ds_v, r') (by first | ((try dsimp only); omega) | (simp <;> omega)) (by (try dsimp only); exact ⟨hRk, hsh.1, by omega, hφ⟩) _ _ _ (by simp <;> omega) (by simp <;> omega) (by simp <;> omega)
  ·simp only [eq_false h1, if_false] at hRk
   subst hRk
   simp [c136t, h1]
   refine ATT.fin' hQ Tryz.func136 c136res ?_
   exact ⟨by simp, _, _, _, rfl, rfl, _, rfl, hu⟩
theorem f138_ok (n : Nat) (ihM : ∀ m, m ≤ n → MsgC m) (ihP : PrimC n) : UnaryC (n + 1) := by
 intro d l hd hl hin
 simp only [unaryS] at hin ⊢
 have hC := f136_ok ihM 148 1 d l hd _ (ihP d l hd hl (fun e => hin (by rw [e]; rfl))) (fun x r e => ((pres n).prim hl e).1) hin
 refine AF.start' 60 Tryz.func138 rfl rfl c138call c138ok fun Q hQ => ?_
 simp [c138c, c138t]
 refine ATT.callP Tryz.func138 60 0 (hC) (hin) (by simp) (by simp) rfl (by simp) (fun a w e h1 hh => hQ _ _ (by rw [e]; exact ⟨rfl, by rw [hh]; simp⟩)) fun x l' v hx hφ => ?_
 rw [hx] at hQ hin
 try simp only [Res.andThen] at hQ hin
 obtain ⟨u, e, hu⟩ := hφ
 subst e
 obtain ⟨nl1_u, z1_u, nl2_u, z2_u, ds_u, hv_u, ha_u, hb_u, hc_u, hd_u, he_u⟩ := hu.shape
 have hw_u := hv_u
 subst hw_u
 simp
 refine ATT.fin' hQ Tryz.func138 c138res ?_
 exact ⟨by simp, _, _, _, rfl, rfl, _, rfl, hu⟩
theorem f137_ok (n : Nat) (ihM : ∀ m, m ≤ n → MsgC m) (ihU : UnaryC n) : BinaryC (n + 1) := by
 intro d l hd hl hin
 simp only [binaryS] at hin ⊢
 have hC := f136_ok ihM 138 3 d l hd _ (ihU d l hd hl (fun e => hin (by rw [e]; rfl))) (fun x r e => ((pres n).unary hl e).1) hin
 refine AF.start' 60 Tryz.func137 rfl rfl c137call c137ok fun Q hQ => ?_
 simp [c137c, c137t]
 refine ATT.callP Tryz.func137 60 0 (hC) (hin) (by simp) (by simp) rfl (by simp) (fun a w e h1 hh => hQ _ _ (by rw [e]; exact ⟨rfl, by rw [hh]; simp⟩)) fun x l' v hx hφ => ?_
 rw [hx] at hQ hin
 try simp only [Res.andThen] at hQ hin
 obtain ⟨u, e, hu⟩ := hφ
 subst e
 obtain ⟨nl1_u, z1_u, nl2_u, z2_u, ds_u, hv_u, ha_u, hb_u, hc_u, hd_u, he_u⟩ := hu.shape
 have hw_u := hv_u
 subst hw_u
 simp
 refine ATT.fin' hQ Tryz.func137 c137res ?_
 exact ⟨by simp, _, _, _, rfl, rfl, _, rfl, hu⟩
end Go.SL
namespace Go.SL
open Go.Proofs
set_option maxRecDepth 10000
theorem f136_once {n : Nat} (ihM : MsgC n) (g : FuncId) (d : Nat) (l : List Tk) (hd : d ≤ 40) (res0 : Res (Nd × Bool)) (hread : AF Tryz.prog g [.ptr 0 0] ⟨[PB l d], []⟩ (PR NdB d res0)) (hwf0 : ∀ x r, res0 = .ok x r → WF r)
  (hin : (res0.andThen fun x r => if kd r = 2 then (msgS n d r).andThen fun m r' => Res.ok (sentS x.1 m, true) r' else Res.ok x r) ≠ .out) :
  AF Tryz.prog 136 [.ptr 0 0, .d (.int .i64 2), .d (.bool true), .fn (.func g) [.ptr 0 0] []] ⟨[PB l d], []⟩ (PR NdB d (res0.andThen fun x r => if kd r = 2 then (msgS n d r).andThen fun m r' => Res.ok (sentS x.1 m, true) r' else Res.ok x r)) := by
 have hin0 : res0 ≠ .out := fun e => hin (by rw [e]; rfl)
 refine AF.start' 60 Tryz.func136 rfl rfl c136call c136ok fun Q hQ => ?_
 simp [c136c, c136t]
 refine ATT.callP Tryz.func136 60 0 (hread) (hin0) (by simp) (by simp) rfl (by simp) (fun a w e h1 hh => hQ _ _ (by rw [e]; exact ⟨rfl, by rw [hh]; simp⟩)) fun x l' v hx hφ => ?_
 rw [hx] at hQ hin
 try simp only [Res.andThen] at hQ hin
 have hwf := hwf0 x l' hx
 obtain ⟨u, e, hu⟩ := hφ
 subst e
 obtain ⟨nl1_u, z1_u, nl2_u, z2_u, ds_u, hv_u, ha_u, hb_u, hc_u, hd_u, he_u⟩ := hu.shape
 have hw_u := hv_u
 subst hw_u
 obtain ⟨t1, l1, e⟩ := hwf.cons
 subst e
 simp
 refine ATT.loop 60 rfl ?_
 simp [c136l5, c136t]
 refine ATT.callM Tryz.func136 60 [0] (f40_ok t1 l1 d) rfl (by simp) (by simp) (by simp) (by simp) (by simp) ?_
 simp
 by_cases h1 : t1.k = 2
 ·simp only [kd_cons, eq_true h1, if_true] at hQ hin
  have hin2 : msgS n d (t1 :: l1) ≠ .out := fun e => hin (by simp [e])
  simp [c136t, eq_true h1]
  have hin3 : ((msgS n d (t1 :: l1)).andThen fun m r => Res.ok (sentS x.1 m) r) ≠ .out := andThen_in hin2 (fun _ _ _ => by simp)
  refine ATT.callP Tryz.func136 60 0 (f147_ok ihM d _ hd hwf hin2 x.1 _ hu) hin3 (by simp) (by simp) rfl (by simp) (fun a w e h1 hh => hQ _ _ (by
   cases hm : msgS n d (t1 :: l1) with
   | ok y r => rw [hm] at e; simp [Res.andThen] at e
   | no a' w' => rw [hm] at e; simp only [Res.andThen, Res.no.injEq] at e; exact ⟨by rw [e.1, e.2], by rw [hh]; simp⟩
   | out => exact absurd hm hin2)) fun y l' v hy hφ => ?_
  obtain ⟨y', r', e1, e2⟩ := andThen_ok hy
  simp only [Res.ok.injEq] at e2
  obtain ⟨e2, e3⟩ := e2
  subst e2 e3
  rw [e1] at hQ
  simp only [Res.andThen] at hQ
  obtain ⟨nl1_v, z1_v, nl2_v, z2_v, ds_v, hv_v, ha_v, hb_v, hc_v, hd_v, he_v⟩ := hφ.shape
  have hw_v := hv_v
  subst hw_v
  simp [c136t]
  refine ATT.fin' hQ Tryz.func136 c136res ?_
  exact ⟨by simp, _, _, _, rfl, rfl, _, rfl, hφ⟩
 ·simp only [kd_cons, eq_false h1, if_false] at hQ hin
  simp [c136t, h1]
  refine ATT.fin' hQ Tryz.func136 c136res ?_
  exact ⟨by simp, _, _, _, rfl, rfl, _, rfl, hu⟩
theorem f121_ok (n : Nat) (ihM : MsgC n) (ihB : BinaryC n) : KeyedC (n + 1) := by
 intro d l hd hl hin
 simp only [keyedS] at hin ⊢
 have hC := f136_once ihM 137 d l hd _ (ihB d l hd hl (fun e => hin (by rw [e]; rfl))) (fun x r e => ((pres n).binary hl e).1) hin
 refine AF.start' 60 Tryz.func121 rfl rfl c121call c121ok fun Q hQ => ?_
 simp [c121c, c121t]
 refine ATT.callP Tryz.func121 60 0 (hC) (hin) (by simp) (by simp) rfl (by simp) (fun a w e h1 hh => hQ _ _ (by rw [e]; exact ⟨rfl, by rw [hh]; simp⟩)) fun x l' v hx hφ => ?_
 rw [hx] at hQ hin
 try simp only [Res.andThen] at hQ hin
 obtain ⟨u, e, hu⟩ := hφ
 subst e
 obtain ⟨nl1_u, z1_u, nl2_u, z2_u, ds_u, hv_u, ha_u, hb_u, hc_u, hd_u, he_u⟩ := hu.shape
 have hw_u := hv_u
 subst hw_u
 simp
 refine ATT.fin' hQ Tryz.func121 c121res ?_
 exact ⟨by simp, _, _, _, rfl, rfl, _, rfl, hu⟩
theorem f160_ok (n : Nat) (ihL : ListC n) : ElemC (n + 1) := by
 intro d l hd hl hin
 obtain ⟨t, r, e⟩ := hl.cons
 subst e
 simp only [elemS, kd_cons, pl_cons, tx_cons, List.tail_cons] at hin ⊢
 by_cases h17 : t.k = 17
 ·simp only [eq_true h17, true_or, if_true] at hin ⊢
  refine AF.start' 60 Tryz.func160 rfl rfl c160call c160ok fun Q hQ => ?_
  simp [c160c, c160t, eq_true h17, tkD, tokD]
  refine ATT.callP Tryz.func160 60 0 (ihL d _ hd hl (.inl h17) hin) (hin) (by simp) (by simp) rfl (by simp) (fun a w e h1 hh => hQ _ _ (by rw [e]; exact ⟨rfl, by rw [hh]; simp⟩)) fun x l' v hx hφ => ?_
  rw [hx] at hQ hin
  try simp only [Res.andThen] at hQ hin
  obtain ⟨nl1_v, z1_v, nl2_v, z2_v, ds_v, hv_v, ha_v, hb_v, hc_v, hd_v, he_v⟩ := hφ.shape
  have hw_v := hv_v
  subst hw_v
  simp
  refine ATT.fin' hQ Tryz.func160 c160res ?_
  exact ⟨by simp, _, _, _, rfl, rfl, hφ⟩
 by_cases h8 : t.k = 8
 ·simp only [eq_true h8, or_true, if_true] at hin ⊢
  refine AF.start' 60 Tryz.func160 rfl rfl c160call c160ok fun Q hQ => ?_
  simp [c160c, c160t, h17, eq_true h8, tkD, tokD]
  refine ATT.callP Tryz.func160 60 0 (ihL d _ hd hl (.inr h8) hin) (hin) (by simp) (by simp) rfl (by simp) (fun a w e h1 hh => hQ _ _ (by rw [e]; exact ⟨rfl, by rw [hh]; simp⟩)) fun x l' v hx hφ => ?_
  rw [hx] at hQ hin
  try simp only [Res.andThen] at hQ hin
  obtain ⟨nl1_v, z1_v, nl2_v, z2_v, ds_v, hv_v, ha_v, hb_v, hc_v, hd_v, he_v⟩ := hφ.shape
  have hw_v := hv_v
  subst hw_v
  simp
  refine ATT.fin' hQ Tryz.func160 c160res ?_
  exact ⟨by simp, _, _, _, rfl, rfl, hφ⟩
 simp only [eq_false h17, eq_false h8, or_self, if_false] at hin ⊢
 by_cases h4 : t.k = 4
 ·have hT := f39_ok t r d
  rw [if_neg (by rw [h4]; decide)] at hT
  simp only [eq_true h4, if_true] at hin ⊢
  refine AF.start' 60 Tryz.func160 rfl rfl c160call c160ok fun Q hQ => ?_
  simp [c160c, c160t, h17, h8, eq_true h4, tkD, tokD]
  refine ATT.callM Tryz.func160 60 [0] (hT) rfl (by simp) (by simp) (by simp [tkD, tokD]) (by simp) (by simp) ?_
  simp [c160t, tkD, tokD]
  refine ATT.fin' hQ Tryz.func160 c160res ?_
  exact ⟨by simp, _, _, _, rfl, rfl, NdR.leaf _ _ _ 0⟩
 by_cases h5 : t.k = 5
 ·have hT := f39_ok t r d
  rw [if_neg (by rw [h5]; decide)] at hT
  simp only [eq_false h4, eq_true h5, if_true, if_false] at hin ⊢
  refine AF.start' 60 Tryz.func160 rfl rfl c160call c160ok fun Q hQ => ?_
  simp [c160c, c160t, h17, h8, h4, eq_true h5, tkD, tokD]
  refine ATT.callM Tryz.func160 60 [0] (hT) rfl (by simp) (by simp) (by simp [tkD, tokD]) (by simp) (by simp) ?_
  simp [c160t, tkD, tokD]
  refine ATT.fin' hQ Tryz.func160 c160res ?_
  exact ⟨by simp, _, _, _, rfl, rfl, NdR.leaf _ _ _ 0⟩
 by_cases h1 : t.k = 1
 ·have hT := f39_ok t r d
  rw [if_neg (by rw [h1]; decide)] at hT
  simp only [eq_false h4, eq_false h5, eq_true h1, if_true, if_false] at hin ⊢
  refine AF.start' 60 Tryz.func160 rfl rfl c160call c160ok fun Q hQ => ?_
  simp [c160c, c160t, h17, h8, h4, h5, eq_true h1, tkD, tokD]
  by_cases ht : t.t = trueT
  ·have ht2 : t.t = ⟨#[116, 114, 117, 101]⟩ := ht
   simp only [eq_true ht, true_or, if_true] at hQ
   simp [c160t, eq_true ht2]
   refine ATT.callM Tryz.func160 60 [0] (hT) rfl (by simp) (by simp) (by simp [tkD, tokD]) (by simp) (by simp) ?_
   simp [c160t, tkD, tokD]
   refine ATT.fin' hQ Tryz.func160 c160res ?_
   exact ⟨by simp, _, _, _, rfl, rfl, NdR.leaf _ _ _ 0⟩
  have ht2 : ¬ t.t = ⟨#[116, 114, 117, 101]⟩ := ht
  by_cases hf : t.t = falseT
  ·have hf2 : t.t = ⟨#[102, 97, 108, 115, 101]⟩ := hf
   simp only [eq_false ht, eq_true hf, true_or, or_true, if_true] at hQ
   simp [c160t, ht2, eq_true hf2]
   refine ATT.callM Tryz.func160 60 [0] (hT) rfl (by simp) (by simp) (by simp [tkD, tokD]) (by simp) (by simp) ?_
   simp [c160t, tkD, tokD]
   refine ATT.fin' hQ Tryz.func160 c160res ?_
   exact ⟨by simp, _, _, _, rfl, rfl, NdR.leaf _ _ _ 0⟩
  have hf2 : ¬ t.t = ⟨#[102, 97, 108, 115, 101]⟩ := hf
  by_cases hn : t.t = nilT
  ·have hn2 : t.t = ⟨#[110, 105, 108]⟩ := hn
   simp only [eq_false ht, eq_false hf, eq_true hn, or_true, if_true] at hQ
   simp [c160t, ht2, hf2, eq_true hn2]
   refine ATT.callM Tryz.func160 60 [0] (hT) rfl (by simp) (by simp) (by simp [tkD, tokD]) (by simp) (by simp) ?_
   simp [c160t, tkD, tokD]
   refine ATT.fin' hQ Tryz.func160 c160res ?_
   exact ⟨by simp, _, _, _, rfl, rfl, NdR.leaf _ _ _ 0⟩
  ·have hn2 : ¬ t.t = ⟨#[110, 105, 108]⟩ := hn
   simp only [eq_false ht, eq_false hf, eq_false hn, or_false, if_false] at hQ
   simp [c160t, ht2, hf2, hn2]
   refine ATT.callM Tryz.func160 60 [0] (hT) rfl (by simp) (by simp) (by simp [tkD, tokD]) (by simp) (by simp) ?_
   simp [c160t, tkD, tokD]
   refine ATT.fin' hQ Tryz.func160 c160res ?_
   exact ⟨by simp, _, _, _, rfl, rfl, NdR.leaf _ _ _ 0⟩
 by_cases h6 : t.k = 6
 ·have hT := f39_ok t r d
  rw [if_neg (by rw [h6]; decide)] at hT
  simp only [eq_false h4, eq_false h5, eq_false h1, eq_true h6, true_or, if_true, if_false] at hin ⊢
  refine AF.start' 60 Tryz.func160 rfl rfl c160call c160ok fun Q hQ => ?_
  simp [c160c, c160t, h17, h8, h4, h5, h1, eq_true h6, tkD, tokD]
  refine ATT.callM Tryz.func160 60 [0] (hT) rfl (by simp) (by simp) (by simp [tkD, tokD]) (by simp) (by simp) ?_
  simp [c160t, tkD, tokD]
  refine ATT.fin' hQ Tryz.func160 c160res ?_
  exact ⟨by simp, _, _, _, rfl, rfl, NdR.leaf _ _ _ 0⟩
 by_cases h2 : t.k = 2
 ·have hT := f39_ok t r d
  rw [if_neg (by rw [h2]; decide)] at hT
  simp only [eq_false h4, eq_false h5, eq_false h1, eq_true h2, true_or, or_true, if_true, if_false] at hin ⊢
  refine AF.start' 60 Tryz.func160 rfl rfl c160call c160ok fun Q hQ => ?_
  simp [c160c, c160t, h17, h8, h4, h5, h1, h6, eq_true h2, tkD, tokD]
  refine ATT.callM Tryz.func160 60 [0] (hT) rfl (by simp) (by simp) (by simp [tkD, tokD]) (by simp) (by simp) ?_
  simp [c160t, tkD, tokD]
  refine ATT.fin' hQ Tryz.func160 c160res ?_
  exact ⟨by simp, _, _, _, rfl, rfl, NdR.leaf _ _ _ 0⟩
 by_cases h3 : t.k = 3
 ·have hT := f39_ok t r d
  rw [if_neg (by rw [h3]; decide)] at hT
  simp only [eq_false h4, eq_false h5, eq_false h1, eq_true h3, or_true, if_true, if_false] at hin ⊢
  refine AF.start' 60 Tryz.func160 rfl rfl c160call c160ok fun Q hQ => ?_
  simp [c160c, c160t, h17, h8, h4, h5, h1, h6, h2, eq_true h3, tkD, tokD]
  refine ATT.callM Tryz.func160 60 [0] (hT) rfl (by simp) (by simp) (by simp [tkD, tokD]) (by simp) (by simp) ?_
  simp [c160t, tkD, tokD]
  refine ATT.fin' hQ Tryz.func160 c160res ?_
  exact ⟨by simp, _, _, _, rfl, rfl, NdR.leaf _ _ _ 0⟩
 ·simp only [eq_false h4, eq_false h5, eq_false h1, eq_false h6, eq_false h2, eq_false h3, or_self, if_false] at hin ⊢
  refine AF.start' 60 Tryz.func160 rfl rfl c160call c160ok fun Q hQ => ?_
  simp [c160c, c160t, h17, h8, h4, h5, h1, h6, h2, h3, tkD, tokD]
  refine ATT.callA Tryz.func160 60 [0] [] 0 0 (f47_ok t r d 20) (by simp) (by simp) (by simp [tkD, tokD]) (by simp) (by simp) fun out hC hE => ?_
  obtain ⟨e1, e2⟩ := hE
  subst e1
  exact ⟨by simpa using e2, hQ _ _ ⟨by simp [stopV, eSyn], by simp⟩⟩
end Go.SL
