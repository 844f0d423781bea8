/- TreeShape and TreeDeep: in the tree of any source each message has as many arguments as its selector says; brackets go as deep as they may, and not deeper; for every source of bulk at most 1048576, and every number. -/
import Derived.Test.YtgggkjbdlddbkaaGreatDoorShape3
import Derived.Test.YtgggkjbdlddbkaaGreatDoorCards
import Derived.Test.YtgggkjbdlddbkaaGreatDoorTie
import Derived.ProofKit
import Derived.OpenShut
import Derived.LaidMore
import Derived.Lay
import Derived.OpenShut
import Derived.Deep.DeepHandedRow
namespace Go.SL
open Go.Proofs
set_option maxRecDepth 10000
set_option maxHeartbeats 1000000 in
theorem f18_ok : ∀ (m : Nat) (x : Nd), SizeOf.sizeOf x ≤ m → Good QA x → ∀ u, NdR x u → DF Tryz.prog 18 [u] (.bool true) := by
 intro m
 induction m with
 | zero => intro x h; cases x; simp at h
 | succ m ihn =>
  intro x hm hg u hu
  obtain ⟨nl1, z1, nl2, z2, ds, e, h1, h2, h3, h4, h5⟩ := hu.shape
  subst e
  have ho := hg.one
  have hl2 : x.kids.length ≤ 10000 := ho.2.1
  have hdl := h5.length
  have hn1 : ¬ (x.n : Int) < 0 := by omega
  have hn2 : ¬ (x.names.length : Int) < x.n := by have := ho.2.2.1; omega
  by_cases k7 : x.k = 7
  ·obtain ⟨hp, hq, hz⟩ := ho.2.2.2.1 k7
   have hA := f13_ok x.t (by omega)
   rw [hq, show ((x.kids.length - 1 : Nat) : Int) = x.kids.length - 1 by omega] at hA
   have hII1 : inI ((x.kids.length : Int) - 1) = true := inI_of (by omega) (by omega)
   refine AF.start' 60 Tryz.func18 rfl rfl c18call c18ok fun Q hQ => ?_
   simp [c18c, c18t, hdl, k7, hII1]
   refine ATT.callRD Tryz.func18 60 (hA) (by simp) (by simp) (by simp) ?_
   simp [c18t, hdl, hn1, hn2, hII1]
   refine ATT.loopG 60 c18l10.eq_1 (fun (i : Nat) => x.kids.length - i) (fun (i : Nat) => i ≤ x.kids.length) (fun (i : Nat) => [(1, .ptr 0 0), (3, .d (.int .i64 i))]) (fun (i : Nat) => [.cells [.d (.int .i64 x.k), .d (.str x.t), .d (.int .i64 x.a), .d (.int .i64 x.n), .d (.sl nl1 z1 (x.names.map .str)), .d (.sl nl2 z2 ds)] 25]) (fun (i : Nat) => []) (0) (by (try dsimp only); exact Nat.zero_le _) (by simp <;> omega) (by simp) (by simp [k7]) ?_
   intro i u w hI ih
   try simp only at hI ih
   by_cases hi : i < x.kids.length
   ·have hnl2 : nl2 = false := by cases nl2 with | false => rfl | true => (have := h3 rfl; rw [this] at hi; simp at hi)
    subst hnl2
    have := h4 rfl
    subst this
    obtain ⟨y, hy⟩ : ∃ y, x.kids[i]? = some y := ⟨_, List.getElem?_eq_getElem hi⟩
    obtain ⟨d, hd, hyd⟩ := h5.at hy
    have hE := ihn y (by have := kid_lt hy; omega) (GoodL.iff.1 hg.all y (List.mem_of_getElem? hy)) d hyd
    have hdE : ∀ h, ds[i]'h = d := fun h => by rw [List.getElem?_eq_getElem h] at hd; simpa using hd
    have hi' : (i : Int) < x.kids.length := by omega
    have hII : inI ((i : Int) + 1) = true := inI_of (by omega) (by omega)
    obtain ⟨nl1_d, z1_d, nl2_d, z2_d, ds_d, hv_d, ha_d, hb_d, hc_d, hd_d, he_d⟩ := hyd.shape
    have hw_d := hv_d
    subst hw_d
    simp [c18t, hdl, hi, hi', hdE]
    refine ATT.callD Tryz.func18 60 (hE) (by simp) (by simp) (by simp) ?_
    simp [c18t, hII]
    refine ih (i + 1) (by first | ((try dsimp only); omega) | (simp [hdl, hi, hi', hd, hdE, hII] <;> omega)) (by (try dsimp only); exact hi) _ _ _ (by simp <;> omega) (by simp <;> omega) (by simp <;> omega)
   ·have hi' : ¬ (i : Int) < x.kids.length := by omega
    simp [c18t, hdl, hi']
    refine ATT.fin' hQ Tryz.func18 c18res ?_
    simp
    all_goals (first | omega | exact ⟨_, rfl⟩ | skip)
  by_cases k9 : x.k = 9
  ·obtain ⟨hq, hz⟩ := ho.2.2.2.2.1 k9
   have hA := f13_ok x.t (by omega)
   rw [hq] at hA
   refine AF.start' 60 Tryz.func18 rfl rfl c18call c18ok fun Q hQ => ?_
   simp [c18c, c18t, hdl, k9]
   refine ATT.callRD Tryz.func18 60 (hA) (by simp) (by simp) (by simp) ?_
   simp [c18t, hdl, hn1, hn2]
   refine ATT.loopG 60 c18l10.eq_1 (fun (i : Nat) => x.kids.length - i) (fun (i : Nat) => i ≤ x.kids.length) (fun (i : Nat) => [(1, .ptr 0 0), (3, .d (.int .i64 i))]) (fun (i : Nat) => [.cells [.d (.int .i64 x.k), .d (.str x.t), .d (.int .i64 x.a), .d (.int .i64 x.n), .d (.sl nl1 z1 (x.names.map .str)), .d (.sl nl2 z2 ds)] 25]) (fun (i : Nat) => []) (0) (by (try dsimp only); exact Nat.zero_le _) (by simp <;> omega) (by simp) (by simp [k9]) ?_
   intro i u w hI ih
   try simp only at hI ih
   by_cases hi : i < x.kids.length
   ·have hnl2 : nl2 = false := by cases nl2 with | false => rfl | true => (have := h3 rfl; rw [this] at hi; simp at hi)
    subst hnl2
    have := h4 rfl
    subst this
    obtain ⟨y, hy⟩ : ∃ y, x.kids[i]? = some y := ⟨_, List.getElem?_eq_getElem hi⟩
    obtain ⟨d, hd, hyd⟩ := h5.at hy
    have hE := ihn y (by have := kid_lt hy; omega) (GoodL.iff.1 hg.all y (List.mem_of_getElem? hy)) d hyd
    have hdE : ∀ h, ds[i]'h = d := fun h => by rw [List.getElem?_eq_getElem h] at hd; simpa using hd
    have hi' : (i : Int) < x.kids.length := by omega
    have hII : inI ((i : Int) + 1) = true := inI_of (by omega) (by omega)
    obtain ⟨nl1_d, z1_d, nl2_d, z2_d, ds_d, hv_d, ha_d, hb_d, hc_d, hd_d, he_d⟩ := hyd.shape
    have hw_d := hv_d
    subst hw_d
    simp [c18t, hdl, hi, hi', hdE]
    refine ATT.callD Tryz.func18 60 (hE) (by simp) (by simp) (by simp) ?_
    simp [c18t, hII]
    refine ih (i + 1) (by first | ((try dsimp only); omega) | (simp [hdl, hi, hi', hd, hdE, hII] <;> omega)) (by (try dsimp only); exact hi) _ _ _ (by simp <;> omega) (by simp <;> omega) (by simp <;> omega)
   ·have hi' : ¬ (i : Int) < x.kids.length := by omega
    simp [c18t, hdl, hi']
    refine ATT.fin' hQ Tryz.func18 c18res ?_
    simp
    all_goals (first | omega | exact ⟨_, rfl⟩ | skip)
  by_cases k11 : x.k = 11
  ·have hq := ho.2.2.2.2.2 (.inl k11)
   refine AF.start' 60 Tryz.func18 rfl rfl c18call c18ok fun Q hQ => ?_
   simp [c18c, c18t, hdl, k11, hn1, hn2, hq]
   refine ATT.loopG 60 c18l10.eq_1 (fun (i : Nat) => x.kids.length - i) (fun (i : Nat) => i ≤ x.kids.length) (fun (i : Nat) => [(1, .ptr 0 0), (3, .d (.int .i64 i))]) (fun (i : Nat) => [.cells [.d (.int .i64 x.k), .d (.str x.t), .d (.int .i64 x.a), .d (.int .i64 x.n), .d (.sl nl1 z1 (x.names.map .str)), .d (.sl nl2 z2 ds)] 25]) (fun (i : Nat) => []) (0) (by (try dsimp only); exact Nat.zero_le _) (by simp <;> omega) (by simp) (by simp [k11]) ?_
   intro i u w hI ih
   try simp only at hI ih
   by_cases hi : i < x.kids.length
   ·have hnl2 : nl2 = false := by cases nl2 with | false => rfl | true => (have := h3 rfl; rw [this] at hi; simp at hi)
    subst hnl2
    have := h4 rfl
    subst this
    obtain ⟨y, hy⟩ : ∃ y, x.kids[i]? = some y := ⟨_, List.getElem?_eq_getElem hi⟩
    obtain ⟨d, hd, hyd⟩ := h5.at hy
    have hE := ihn y (by have := kid_lt hy; omega) (GoodL.iff.1 hg.all y (List.mem_of_getElem? hy)) d hyd
    have hdE : ∀ h, ds[i]'h = d := fun h => by rw [List.getElem?_eq_getElem h] at hd; simpa using hd
    have hi' : (i : Int) < x.kids.length := by omega
    have hII : inI ((i : Int) + 1) = true := inI_of (by omega) (by omega)
    obtain ⟨nl1_d, z1_d, nl2_d, z2_d, ds_d, hv_d, ha_d, hb_d, hc_d, hd_d, he_d⟩ := hyd.shape
    have hw_d := hv_d
    subst hw_d
    simp [c18t, hdl, hi, hi', hdE]
    refine ATT.callD Tryz.func18 60 (hE) (by simp) (by simp) (by simp) ?_
    simp [c18t, hII]
    refine ih (i + 1) (by first | ((try dsimp only); omega) | (simp [hdl, hi, hi', hd, hdE, hII] <;> omega)) (by (try dsimp only); exact hi) _ _ _ (by simp <;> omega) (by simp <;> omega) (by simp <;> omega)
   ·have hi' : ¬ (i : Int) < x.kids.length := by omega
    simp [c18t, hdl, hi']
    refine ATT.fin' hQ Tryz.func18 c18res ?_
    simp
    all_goals (first | omega | exact ⟨_, rfl⟩ | skip)
  by_cases k6 : x.k = 6
  ·have hq := ho.2.2.2.2.2 (.inr k6)
   refine AF.start' 60 Tryz.func18 rfl rfl c18call c18ok fun Q hQ => ?_
   simp [c18c, c18t, hdl, k6, hn1, hn2, hq]
   refine ATT.loopG 60 c18l10.eq_1 (fun (i : Nat) => x.kids.length - i) (fun (i : Nat) => i ≤ x.kids.length) (fun (i : Nat) => [(1, .ptr 0 0), (3, .d (.int .i64 i))]) (fun (i : Nat) => [.cells [.d (.int .i64 x.k), .d (.str x.t), .d (.int .i64 x.a), .d (.int .i64 x.n), .d (.sl nl1 z1 (x.names.map .str)), .d (.sl nl2 z2 ds)] 25]) (fun (i : Nat) => []) (0) (by (try dsimp only); exact Nat.zero_le _) (by simp <;> omega) (by simp) (by simp [k6]) ?_
   intro i u w hI ih
   try simp only at hI ih
   by_cases hi : i < x.kids.length
   ·have hnl2 : nl2 = false := by cases nl2 with | false => rfl | true => (have := h3 rfl; rw [this] at hi; simp at hi)
    subst hnl2
    have := h4 rfl
    subst this
    obtain ⟨y, hy⟩ : ∃ y, x.kids[i]? = some y := ⟨_, List.getElem?_eq_getElem hi⟩
    obtain ⟨d, hd, hyd⟩ := h5.at hy
    have hE := ihn y (by have := kid_lt hy; omega) (GoodL.iff.1 hg.all y (List.mem_of_getElem? hy)) d hyd
    have hdE : ∀ h, ds[i]'h = d := fun h => by rw [List.getElem?_eq_getElem h] at hd; simpa using hd
    have hi' : (i : Int) < x.kids.length := by omega
    have hII : inI ((i : Int) + 1) = true := inI_of (by omega) (by omega)
    obtain ⟨nl1_d, z1_d, nl2_d, z2_d, ds_d, hv_d, ha_d, hb_d, hc_d, hd_d, he_d⟩ := hyd.shape
    have hw_d := hv_d
    subst hw_d
    simp [c18t, hdl, hi, hi', hdE]
    refine ATT.callD Tryz.func18 60 (hE) (by simp) (by simp) (by simp) ?_
    simp [c18t, hII]
    refine ih (i + 1) (by first | ((try dsimp only); omega) | (simp [hdl, hi, hi', hd, hdE, hII] <;> omega)) (by (try dsimp only); exact hi) _ _ _ (by simp <;> omega) (by simp <;> omega) (by simp <;> omega)
   ·have hi' : ¬ (i : Int) < x.kids.length := by omega
    simp [c18t, hdl, hi']
    refine ATT.fin' hQ Tryz.func18 c18res ?_
    simp
    all_goals (first | omega | exact ⟨_, rfl⟩ | skip)
  refine AF.start' 60 Tryz.func18 rfl rfl c18call c18ok fun Q hQ => ?_
  simp [c18c, c18t, k6, k7, k9, k11, hn1, hn2]
  refine ATT.loopG 60 c18l10.eq_1 (fun (i : Nat) => x.kids.length - i) (fun (i : Nat) => i ≤ x.kids.length) (fun (i : Nat) => [(1, .ptr 0 0), (3, .d (.int .i64 i))]) (fun (i : Nat) => [.cells [.d (.int .i64 x.k), .d (.str x.t), .d (.int .i64 x.a), .d (.int .i64 x.n), .d (.sl nl1 z1 (x.names.map .str)), .d (.sl nl2 z2 ds)] 25]) (fun (i : Nat) => []) (0) (by (try dsimp only); exact Nat.zero_le _) (by simp <;> omega) (by simp) (by simp) ?_
  intro i u w hI ih
  try simp only at hI ih
  by_cases hi : i < x.kids.length
  ·have hnl2 : nl2 = false := by cases nl2 with | false => rfl | true => (have := h3 rfl; rw [this] at hi; simp at hi)
   subst hnl2
   have := h4 rfl
   subst this
   obtain ⟨y, hy⟩ : ∃ y, x.kids[i]? = some y := ⟨_, List.getElem?_eq_getElem hi⟩
   obtain ⟨d, hd, hyd⟩ := h5.at hy
   have hE := ihn y (by have := kid_lt hy; omega) (GoodL.iff.1 hg.all y (List.mem_of_getElem? hy)) d hyd
   have hdE : ∀ h, ds[i]'h = d := fun h => by rw [List.getElem?_eq_getElem h] at hd; simpa using hd
   have hi' : (i : Int) < x.kids.length := by omega
   have hII : inI ((i : Int) + 1) = true := inI_of (by omega) (by omega)
   obtain ⟨nl1_d, z1_d, nl2_d, z2_d, ds_d, hv_d, ha_d, hb_d, hc_d, hd_d, he_d⟩ := hyd.shape
   have hw_d := hv_d
   subst hw_d
   simp [c18t, hdl, hi, hi', hdE]
   refine ATT.callD Tryz.func18 60 (hE) (by simp) (by simp) (by simp) ?_
   simp [c18t, hII]
   refine ih (i + 1) (by first | ((try dsimp only); omega) | (simp [hdl, hi, hi', hd, hdE, hII] <;> omega)) (by (try dsimp only); exact hi) _ _ _ (by simp <;> omega) (by simp <;> omega) (by simp <;> omega)
  ·have hi' : ¬ (i : Int) < x.kids.length := by omega
   simp [c18t, hdl, hi']
   refine ATT.fin' hQ Tryz.func18 c18res ?_
   simp
   all_goals (first | omega | exact ⟨_, rfl⟩ | skip)
theorem parse_no {num : ByteArray → Bool} {m : Bool} {s : ByteArray} {a : Nat} {w : Int} (h : parseD num m s = .no a w) : w ≠ 0 := by
 unfold parseD at h
 split at h
 ·exact NN.big a w h
 ·split at h
  ·refine NN.then ?_ (fun p r => NN.then ((nz _).body _ _ _) fun _ _ => NN.ok) a w h
   unfold headS
   split
   ·exact patS_nn _ _
   ·exact NN.ok
  ·exact NN.syn a w h
set_option maxHeartbeats 1000000 in
theorem f7_ok (s : ByteArray) (hs : s.size ≤ 1048576) : DF Tryz.prog 7 [.str s] (.bool true) := by
 have hP := f8_ok hWhole s (by omega)
 have hM := f16_ok hWhole s (by omega)
 have hin := parseD_in numS false s
 have hin2 := parseD_in numS true s
 cases hr : parseD numS false s with
 | out => exact absurd hr hin
 | no a w =>
  have hw := parse_no hr
  rw [hr] at hP
  cases hr2 : parseD numS true s with
  | out => exact absurd hr2 hin2
  | no a2 w2 =>
   have hw2 := parse_no hr2
   rw [hr2] at hM
   refine AF.start' 60 Tryz.func7 rfl rfl c7call c7ok fun Q hQ => ?_
   simp [c7c, c7t]
   refine ATT.callE Tryz.func7 60 hP (by simp) (by simp) (by simp) fun v hv => ?_
   simp only [UnR] at hv
   subst hv
   simp [c7t]
   refine ATT.callE Tryz.func7 60 hM (by simp) (by simp) (by simp) fun v hv => ?_
   simp only [UnR] at hv
   subst hv
   simp [c7t, hw, hw2]
   refine ATT.callRD Tryz.func7 60 (f12_ok) (by simp) (by simp) (by simp) ?_
   simp
   refine ATT.fin' hQ Tryz.func7 c7res ?_
   simp
   all_goals (first | omega | exact ⟨_, rfl⟩ | skip)
  | ok x2 l2 =>
   obtain ⟨m1, m2, _, m4⟩ := parse_fits hr2
   have hA2 := f13_ok x2.t (by have := (m4 rfl).2; have := m1.one; unfold Good1 at this; omega)
   rw [(m4 rfl).1] at hA2
   rw [hr2] at hM
   refine AF.start' 60 Tryz.func7 rfl rfl c7call c7ok fun Q hQ => ?_
   simp [c7c, c7t]
   refine ATT.callE Tryz.func7 60 hP (by simp) (by simp) (by simp) fun v hv => ?_
   simp only [UnR] at hv
   subst hv
   simp [c7t]
   refine ATT.callE Tryz.func7 60 hM (by simp) (by simp) (by simp) fun v hv => ?_
   obtain ⟨u2, e, hu2⟩ := hv
   subst e
   have hu2' := hu2
   obtain ⟨nl1_u2, z1_u2, nl2_u2, z2_u2, ds_u2, hv_u2, ha_u2, hb_u2, hc_u2, hd_u2, he_u2⟩ := hu2.shape
   have hw_u2 := hv_u2
   subst hw_u2
   simp [c7t, hw, m2]
   refine ATT.callRD Tryz.func7 60 (hA2) (by simp) (by simp) (by simp) ?_
   simp
   refine ATT.callRD Tryz.func7 60 (f18_ok _ x2 (Nat.le_refl _) m1 _ hu2') (by simp) (by simp [m2]) (by simp) ?_
   simp
   refine ATT.callRD Tryz.func7 60 (f12_ok) (by simp) (by simp) (by simp) ?_
   simp
   refine ATT.fin' hQ Tryz.func7 c7res ?_
   simp
   all_goals (first | omega | exact ⟨_, rfl⟩ | skip)
 | ok x l =>
  obtain ⟨g1, g2, g3, _⟩ := parse_fits hr
  have g4 := g3 rfl
  rw [hr] at hP
  cases hr2 : parseD numS true s with
  | out => exact absurd hr2 hin2
  | no a2 w2 =>
   have hw2 := parse_no hr2
   rw [hr2] at hM
   refine AF.start' 60 Tryz.func7 rfl rfl c7call c7ok fun Q hQ => ?_
   simp [c7c, c7t]
   refine ATT.callE Tryz.func7 60 hP (by simp) (by simp) (by simp) fun v hv => ?_
   obtain ⟨u, e, hu⟩ := hv
   subst e
   have hu' := hu
   obtain ⟨nl1_u, z1_u, nl2_u, z2_u, ds_u, hv_u, ha_u, hb_u, hc_u, hd_u, he_u⟩ := hu.shape
   have hw_u := hv_u
   subst hw_u
   simp [c7t, g2, g4]
   refine ATT.callE Tryz.func7 60 hM (by simp) (by simp) (by simp) fun v hv => ?_
   simp only [UnR] at hv
   subst hv
   simp [c7t]
   refine ATT.callD Tryz.func7 60 (f18_ok _ x (Nat.le_refl _) g1 _ hu') (by simp) (by simp [g2, g4]) (by simp) ?_
   simp [hw2]
   refine ATT.callRD Tryz.func7 60 (f12_ok) (by simp) (by simp) (by simp) ?_
   simp
   refine ATT.fin' hQ Tryz.func7 c7res ?_
   simp
   all_goals (first | omega | exact ⟨_, rfl⟩ | skip)
  | ok x2 l2 =>
   obtain ⟨m1, m2, _, m4⟩ := parse_fits hr2
   have hA2 := f13_ok x2.t (by have := (m4 rfl).2; have := m1.one; unfold Good1 at this; omega)
   rw [(m4 rfl).1] at hA2
   rw [hr2] at hM
   refine AF.start' 60 Tryz.func7 rfl rfl c7call c7ok fun Q hQ => ?_
   simp [c7c, c7t]
   refine ATT.callE Tryz.func7 60 hP (by simp) (by simp) (by simp) fun v hv => ?_
   obtain ⟨u, e, hu⟩ := hv
   subst e
   have hu' := hu
   obtain ⟨nl1_u, z1_u, nl2_u, z2_u, ds_u, hv_u, ha_u, hb_u, hc_u, hd_u, he_u⟩ := hu.shape
   have hw_u := hv_u
   subst hw_u
   simp [c7t, g2, g4]
   refine ATT.callE Tryz.func7 60 hM (by simp) (by simp) (by simp) fun v hv => ?_
   obtain ⟨u2, e, hu2⟩ := hv
   subst e
   have hu2' := hu2
   obtain ⟨nl1_u2, z1_u2, nl2_u2, z2_u2, ds_u2, hv_u2, ha_u2, hb_u2, hc_u2, hd_u2, he_u2⟩ := hu2.shape
   have hw_u2 := hv_u2
   subst hw_u2
   simp [c7t, m2]
   refine ATT.callD Tryz.func7 60 (f18_ok _ x (Nat.le_refl _) g1 _ hu') (by simp) (by simp [g2, g4]) (by simp) ?_
   simp
   refine ATT.callRD Tryz.func7 60 (hA2) (by simp) (by simp) (by simp) ?_
   simp
   refine ATT.callRD Tryz.func7 60 (f18_ok _ x2 (Nat.le_refl _) m1 _ hu2') (by simp) (by simp [m2]) (by simp) ?_
   simp
   refine ATT.callRD Tryz.func7 60 (f12_ok) (by simp) (by simp) (by simp) ?_
   simp
   refine ATT.fin' hQ Tryz.func7 c7res ?_
   simp
   all_goals (first | omega | exact ⟨_, rfl⟩ | skip)
end Go.SL
namespace Go.Proofs.YtgggkjbdlddbkaaGreatDoor
open Go.ChangeShapes Go.WideShapes Go.ChangeAt Go.RowKit Go.ChangeMaps
namespace treeShape
theorem own : ownKnob Tryz.prog.godebug = none := by kernel_rfl
set_option maxRecDepth 100000 in
theorem contract (law : ∀ s : ByteArray, s.size ≤ 1048576 → SL.DF Tryz.prog 7 [.str s] (.bool true)) (H : Type) (enc : TypeId × Value → H) (W : World) (base : Nat) (args : Array Value) (ds gs : List (DataW H)) (before : List MemPlace)
  (hval : ∀ (j : Nat) t v, Tryz.f7.params[j]? = some t → args[j]? = some v → Value.okWide Tryz.prog W .any base t v)
  (hW : DataW.Whole enc Tryz.prog Tryz.f7.params.toList Rows.treeShapeSpec.vars false W args.toList ds gs before) (hk : Rows.uptoSmall H (ds ++ gs) = true) :
  Calls Tryz.prog 7 args W fun e W' => ∃ v, e = .returned v ∧ Rows.treeShapeSpec.post enc Tryz.prog Tryz.f7 false true false false W args v W' := by
 have hW' := hW
 obtain ⟨p, q, hA0, hV, rfl, hfz, hnd⟩ := hW
 have hA : DataW.TrodAll enc Tryz.prog W 0 (fun _ => true) true Tryz.f7.params.toList args.toList ds p := hA0
 rw [Tryz.params7] at hA hval
 obtain ⟨v0, vs0, d0, ds0, p0, q0, hargs, rfl, rfl, h0, r0⟩ := trodAll_cons hA
 obtain ⟨rfl, rfl, rfl⟩ := trodAll_nil r0
 obtain rfl : args = #[v0] := by cases args; simp_all
 obtain ⟨rfl, rfl⟩ := trodVars_none hV
 obtain ⟨s, rfl, rfl, rfl, hs⟩ := open_string Tryz.underlying9 (hval 0 9 v0 (by simp) (by simp)) h0
 clear hA0
 have hb : s.size ≤ 1048576 := by
  simp [Rows.uptoSmall, Rows.uptoBulkAll, Rows.uptoBulk] at hk
  have : s.data.toList.length = s.size := rfl
  simp at this
  omega
 refine ((law s hb).world (argv := [.string s]) (by simp [SL.VL, SL.VR, SL.DR])).mono fun e W' ⟨he, hg⟩ => ?_
 subst he
 simp only [List.append_nil] at hW'
 exact ⟨_, rfl, SL.post_plain hW' (fun _ _ _ => trodAll_cons_mk (SL.shut_boolP Tryz.underlying4 _) trodAll_mk0) (fun _ => trodAll_cons_mk (SL.shut_stringP Tryz.underlying9 hs) trodAll_mk0) (fun _ => rfl) hg (ok_one (by kernel_rfl) rfl (okWide_bool_mk Tryz.underlying4 _))⟩
theorem laid_met (os : Os) : laidMetH Tryz.prog Rows.treeShapeUptoRow.laid ((World.laidAll Tryz.prog os Rows.treeShapeUptoRow.laid).forCall (fun _ _ => 0) ⟨#[], #[.string ⟨#[]⟩], []⟩).memory := by
 rw [MakeChecks.laidMetH_plain _ _ _ (by kernel_rfl)]
 exact laidMet_laidAll _ (by kernel_rfl) (by kernel_rfl)
theorem reads (os : Os) {H : Type} (enc : TypeId × Value → H) : ∃ places, DataW.whole enc Tryz.prog ((World.laidAll Tryz.prog os Rows.treeShapeUptoRow.laid).forCall (fun _ _ => 0) ⟨#[], #[.string ⟨#[]⟩], []⟩).memory Tryz.f7.params.toList Rows.treeShapeSpec.vars false #[Value.string ⟨#[]⟩].toList 8 = some ([.lit (.string [])], [], places) :=
 ⟨[], by kernel_rfl⟩
set_option maxRecDepth 100000 in
theorem lifted (law : ∀ s : ByteArray, s.size ≤ 1048576 → SL.DF Tryz.prog 7 [.str s] (.bool true)) (os : Os) (started : os.Started) (H : Type) (enc : TypeId × Value → H) (F : Stop.Interp) :
  ReturnsInHanded {} Tryz.checked os 7 .any ((Rows.OpenSpec.upto Rows.treeShapeSpec).preRow enc Tryz.prog Tryz.f7 Rows.treeShapeUptoRow.domain false Rows.treeShapeUptoRow.laid) (((Rows.OpenSpec.upto Rows.treeShapeSpec).at F).post enc Tryz.prog Tryz.f7 false true false false) := by
 obtain ⟨places, hx⟩ := reads os enc
 refine returnsInHanded_of_row (C := Tryz.checked) (s := Rows.OpenSpec.upto Rows.treeShapeSpec) own started (by kernel_rfl) Tryz.func7
  (witness_row_at (enc := enc) (C := Tryz.checked) false (World.laidAll Tryz.prog os Rows.treeShapeUptoRow.laid) #[.string ⟨#[]⟩] (World.laidAll_os _ _ _) (by kernel_rfl) (by kernel_rfl) (by kernel_rfl)
   (OpenSpec.preRow_of_cond 8 hx (by kernel_rfl) (fun k hk => by cases hk; kernel_rfl) (by kernel_rfl) (laid_met os))) ?_
 intro W base args ds gs before hval hW _ hcond _ _ _ _
 exact contract law H enc W base args ds gs before hval hW (hcond _ rfl)
theorem saidUpto (law : ∀ s : ByteArray, s.size ≤ 1048576 → SL.DF Tryz.prog 7 [.str s] (.bool true)) : Rows.TreeShapeUptoSaid :=
 OpenClaim.holds_of_cond 7 Tryz.f7 rfl rfl rfl rfl rfl rfl rfl ⟨rfl, rfl, rfl, rfl, rfl⟩ rfl rfl rfl rfl rfl (by kernel_rfl) Tryz.func7 (by kernel_rfl)
  (of_decide_eq_true (by kernel_rfl)) (by unfold Func.isWrapper; first | (rw [if_pos (by decide +kernel)]; kernel_rfl) | (rw [if_neg (by decide +kernel)]; exact ⟨rfl, rfl⟩))
  (fun os started H enc _ F => by rw [OpenClaim.pre_eq_preRow]; exact lifted law os started H enc F)
theorem plain (f : FuncId) (fn : Func) (hf : Tryz.pinned.checked.prog.funcNamed "lapidary/lapidarylaw08.TreeShape" = some f) (hfn : Tryz.pinned.checked.prog.funcs[f]? = some fn) :
  true = Tryz.pinned.checked.prog.looks [] ∧ ∀ (j : Nat) t, fn.params[j]? = some t → Tryz.pinned.checked.prog.wantsStandIn t = false := by
 obtain rfl : f = 7 := Option.some.inj ((show Tryz.prog.funcNamed "lapidary/lapidarylaw08.TreeShape" = some 7 by kernel_rfl).symm.trans hf) |>.symm
 obtain rfl : fn = Tryz.f7 := (Option.some.inj (Tryz.func7.symm.trans hfn)).symm
 refine ⟨by kernel_rfl, fun j t ht => ?_⟩
 rw [Tryz.params7] at ht
 obtain rfl : t = 9 := by simpa using Array.mem_of_getElem? ht
 exact (show Tryz.prog.wantsStandIn 9 = false by kernel_rfl)
theorem cardUpto (law : ∀ s : ByteArray, s.size ≤ 1048576 → SL.DF Tryz.prog 7 [.str s] (.bool true)) : Rows.TreeShapeUptoCardSaid :=
 Claim7.holds_tied_plain_at .later [] _ _ _ _ (saidUpto law) (fun _ h => by cases h) (by kernel_rfl) (fun _ h => by cases h) treeShapeUpto_row_tie rfl ⟨rfl, rfl⟩ (by kernel_rfl) rfl plain (by kernel_rfl)
end treeShape
theorem treeShape_holds : Rows.TreeShapeUptoCardSaid := treeShape.cardUpto fun s hs => SL.f7_ok s hs
end Go.Proofs.YtgggkjbdlddbkaaGreatDoor
namespace Go.SL
open Go.Proofs
set_option maxRecDepth 10000
theorem drop_byte {s : ByteArray} {i : Nat} {c : UInt8} {r : List UInt8} (h : s.data.toList.drop i = c :: r) : i < s.size ∧ sbyte s i = c.toNat ∧ s.data.toList.drop (i + 1) = r := by
 have h1 : s.data.toList[i]? = some c := by
  have := congrArg List.head? h
  simpa [List.head?_drop] using this
 have h2 : s.data.toList.drop (i + 1) = r := by
  have := congrArg List.tail h
  simpa [List.tail_drop] using this
 refine ⟨?_, ?_, h2⟩
 ·obtain ⟨h3, _⟩ := List.getElem?_eq_some_iff.1 h1
  exact h3
 ·simp only [sbyte, Int.toNat_natCast, List.getD_eq_getElem?_getD, h1]; rfl
theorem drop_end {s : ByteArray} {i : Nat} (h : s.data.toList.drop i = []) : s.size ≤ i := by
 have := List.drop_eq_nil_iff.1 h
 exact this
def nxC : List UInt8 → Bool
 | [] => true
 | d :: r => d.toNat == 41 || d.toNat == 93 || (d.toNat == 58 && (match r with | e :: _ => e.toNat == 61 | [] => false))
def lexC (T : Nat → Nat → ByteArray) (z : Nat) : List UInt8 → Nat → Option (List Tk)
 | [], _ => some [⟨0, ⟨#[]⟩, z⟩]
 | c :: r, i =>
  if c.toNat = 40 then (lexC T z r (i + 1)).map (⟨8, T i (i + 1), i⟩ :: ·)
  else if c.toNat = 41 then (lexC T z r (i + 1)).map (⟨9, T i (i + 1), i⟩ :: ·)
  else if c.toNat = 91 then (lexC T z r (i + 1)).map (⟨10, T i (i + 1), i⟩ :: ·)
  else if c.toNat = 93 then (lexC T z r (i + 1)).map (⟨11, T i (i + 1), i⟩ :: ·)
  else if c.toNat = 120 then (if nxC r then (lexC T z r (i + 1)).map (⟨1, T i (i + 1), i⟩ :: ·) else none)
  else match r with
   | [] => none
   | d :: r' =>
    if c.toNat = 35 ∧ d.toNat = 40 then (lexC T z r' (i + 2)).map (⟨17, T i (i + 2), i⟩ :: ·)
    else if c.toNat = 58 ∧ d.toNat = 61 then (lexC T z r' (i + 2)).map (⟨7, T i (i + 2), i⟩ :: ·)
    else none
theorem lex_step {num : ByteArray → Bool} {s : ByteArray} {i e : Nat} {k : Int} {t : ByteArray} {l : List Tk} {o : Option (List Tk)} (hb : blankS (sbyte s i) = false) (hi : i < s.size) (hq : ¬ sbyte s i = 34) (hw : wordS num s i = some (k, t, e)) (he : i < e) (ih : ∀ l, o = some l → lexS num s e = .inl l) (h : o.map (⟨k, t, i⟩ :: ·) = some l) : lexS num s i = .inl l := by
 have hj : skipS blankS s i = i := skipS_no (by simp [hb])
 cases ho : o with
 | none => rw [ho] at h; simp at h
 | some m =>
  rw [ho] at h
  simp only [Option.map_some, Option.some.injEq] at h
  rw [lexS_eq, hj, if_pos hi, if_neg hq, hw]
  simp only [if_pos he, ih m ho]
  rw [← h]
theorem word_single {num : ByteArray → Bool} {s : ByteArray} {i : Nat} {c : Int} {k : Nat} (h : sbyte s i = c) (hs : placeL c signsT.data.toList 0 = -1) (hp : placeL c singlesT.data.toList 0 = (k : Int)) (hl : letterS c = false) (hd : digitS c = false) (h3 : ¬ c = 39) (h4 : ¬ c = 35) (h5 : ¬ c = 58) : wordS num s i = some (8 + (k : Int), subT s i (i + 1), i + 1) := by
 have g6 : signS c = false := by unfold signS; rw [placeS_L _ _ _ 0 rfl]; simp only [List.drop_zero, hs]; decide
 have hp' : placeS c singlesT 0 = (k : Int) := by rw [placeS_L _ _ _ 0 rfl]; simpa using hp
 unfold wordS
 rw [h, hl, hd, if_neg h3, if_neg h4, if_neg h5, g6, hp']
 simp
theorem lexC_ok {num : ByteArray → Bool} {s : ByteArray} : ∀ (n : Nat) (xs : List UInt8) (i : Nat) (l : List Tk), xs.length ≤ n → s.data.toList.drop i = xs → i ≤ s.size → lexC (subT s) s.size xs i = some l → lexS num s i = .inl l
 | n, [], i, l, _, hd, hi, h => by
  have := drop_end hd
  have e : i = s.size := by omega
  simp only [lexC, Option.some.injEq] at h
  rw [← h]
  exact lex_end (by rw [skipS_no (by simp [show ¬ i < s.size by omega])]; exact e)
 | 0, c :: r, i, l, hn, hd, hi, h => by simp at hn
 | n + 1, c :: r, i, l, hn, hd, hi, h => by
  obtain ⟨g1, g2, g3⟩ := drop_byte hd
  have hn' : r.length ≤ n := by simpa using hn
  have ih := fun l => lexC_ok (num := num) n r (i + 1) l hn' g3 (by omega)
  rw [lexC.eq_def] at h
  simp only at h
  split at h
  ·rename_i hc
   rw [hc] at g2
   exact lex_step (by rw [g2]; decide) g1 (by rw [g2]; decide) (word_single g2 (by decide) (k := 0) (by decide) (by decide) (by decide) (by decide) (by decide) (by decide)) (by omega) ih h
  split at h
  ·rename_i hc
   rw [hc] at g2
   exact lex_step (by rw [g2]; decide) g1 (by rw [g2]; decide) (word_single g2 (by decide) (k := 1) (by decide) (by decide) (by decide) (by decide) (by decide) (by decide)) (by omega) ih h
  split at h
  ·rename_i hc
   rw [hc] at g2
   exact lex_step (by rw [g2]; decide) g1 (by rw [g2]; decide) (word_single g2 (by decide) (k := 2) (by decide) (by decide) (by decide) (by decide) (by decide) (by decide)) (by omega) ih h
  split at h
  ·rename_i hc
   rw [hc] at g2
   exact lex_step (by rw [g2]; decide) g1 (by rw [g2]; decide) (word_single g2 (by decide) (k := 3) (by decide) (by decide) (by decide) (by decide) (by decide) (by decide)) (by omega) ih h
  split at h
  ·rename_i hc
   rw [hc] at g2
   split at h
   ·rename_i hx
    have hid : skipS identS s i = i + 1 ∧ colonS s (i + 1) = false := by
     rw [skipS_yes (by rw [g2]; simp [g1]; decide)]
     cases r with
     | nil =>
      have := drop_end g3
      exact ⟨skipS_no (by simp [show ¬ i + 1 < s.size by omega]), by simp [colonS, atS, show ¬ i + 1 < s.size by omega]⟩
     | cons d r =>
      obtain ⟨k1, k2, k3⟩ := drop_byte g3
      simp only [nxC, Bool.or_eq_true, beq_iff_eq, Bool.and_eq_true] at hx
      rcases hx with (hx | hx) | ⟨hx, hy⟩
      ·rw [hx] at k2
       exact ⟨skipS_no (by rw [k2, show identS ((41 : Nat) : Int) = false by decide, Bool.and_false]), by unfold colonS atS; rw [if_pos k1, k2]; rfl⟩
      ·rw [hx] at k2
       exact ⟨skipS_no (by rw [k2, show identS ((93 : Nat) : Int) = false by decide, Bool.and_false]), by unfold colonS atS; rw [if_pos k1, k2]; rfl⟩
      ·rw [hx] at k2
       refine ⟨skipS_no (by rw [k2, show identS ((58 : Nat) : Int) = false by decide, Bool.and_false]), ?_⟩
       cases r with
       | nil => simp at hy
       | cons e r =>
        obtain ⟨m1, m2, m3⟩ := drop_byte k3
        simp only [beq_iff_eq] at hy
        rw [hy] at m2
        unfold colonS atS
        rw [if_pos k1, k2, if_pos m1, m2]; decide
    have hnm : nameS s i = i + 1 := by unfold nameS; rw [if_pos (by rw [g2]; simp [g1]; decide)]; exact hid.1
    exact lex_step (by rw [g2]; decide) g1 (by rw [g2]; decide) (word_name (by rw [g2]; decide) hnm hid.2 rfl) (by omega) ih h
   ·simp at h
  split at h
  ·simp at h
  ·rename_i d r'
   obtain ⟨k1, k2, k3⟩ := drop_byte g3
   have ih2 := fun l => lexC_ok (num := num) n r' (i + 2) l (by simp at hn'; omega) k3 (by omega)
   split at h
   ·rename_i hc
    rw [hc.1] at g2
    rw [hc.2] at k2
    refine lex_step (by rw [g2]; decide) g1 (by rw [g2]; decide) ?_ (by omega) ih2 h
    unfold wordS atS
    rw [g2, if_pos k1, k2]; rfl
   split at h
   ·rename_i hc
    rw [hc.1] at g2
    rw [hc.2] at k2
    refine lex_step (by rw [g2]; decide) g1 (by rw [g2]; decide) ?_ (by omega) ih2 h
    unfold wordS atS
    rw [g2, if_pos k1, k2]; rfl
   ·simp at h
def repB (o a : ByteArray) : Nat → ByteArray
 | 0 => o
 | n + 1 => repB o a n ++ a
def deepS (k : Nat) (a b : ByteArray) : ByteArray := repB (repB ⟨#[]⟩ a k ++ ⟨#[120]⟩) b k
def repL (o a : List UInt8) : Nat → List UInt8
 | 0 => o
 | n + 1 => repL o a n ++ a
theorem repB_list (o a : ByteArray) : ∀ n, (repB o a n).data.toList = repL o.data.toList a.data.toList n
 | 0 => rfl
 | n + 1 => by simp only [repB, repL, ByteArray.data_append, Array.toList_append, repB_list o a n]
def deepL (k : Nat) (a b : List UInt8) : List UInt8 := repL (repL [] a k ++ [120]) b k
theorem deepS_list (k : Nat) (a b : ByteArray) : (deepS k a b).data.toList = deepL k a.data.toList b.data.toList := by
 simp only [deepS, repB_list, ByteArray.data_append, Array.toList_append]; rfl
def aS (i : Nat) : ByteArray := if i = 0 then ⟨#[40]⟩ else if i = 1 then ⟨#[91]⟩ else if i = 2 then ⟨#[35, 40]⟩ else ⟨#[120, 58, 61]⟩
def bS (i : Nat) : ByteArray := if i = 0 then ⟨#[41]⟩ else if i = 1 then ⟨#[93]⟩ else if i = 2 then ⟨#[41]⟩ else ⟨#[]⟩
def deepR (T : Nat → Nat → ByteArray) (l : List UInt8) : Option (Nat × Int) :=
 match lexC T l.length l 0 with
 | none => none
 | some l => match uniS (fuel l) (headS false) l with
  | .ok _ _ => some (0, 0)
  | .no a w => some (a, w)
  | .out => none
def okR (T : Nat → Nat → ByteArray) (k i : Nat) : Bool :=
 let l := deepL k (aS i).data.toList (bS i).data.toList
 decide (l.length ≤ 4096) && decide (deepR T l = some (if k ≤ 40 then (0, 0) else (40 * (aS i).size + (if i = 3 then 1 else 0), 3)))
theorem deep_parse {k i : Nat} (h : okR (subT (deepS k (aS i) (bS i))) k i = true) : atOf (parseD numS false (deepS k (aS i) (bS i))) = (if k ≤ 40 then 0 else 40 * (aS i).size + (if i = 3 then 1 else 0)) ∧ errOf (parseD numS false (deepS k (aS i) (bS i))) = (if k ≤ 40 then 0 else 3) := by
 generalize hs : deepS k (aS i) (bS i) = s at *
 have hl : s.data.toList = deepL k (aS i).data.toList (bS i).data.toList := by rw [← hs]; exact deepS_list _ _ _
 have hz : s.size = (deepL k (aS i).data.toList (bS i).data.toList).length := by rw [← hl]; rfl
 simp only [okR, Bool.and_eq_true, decide_eq_true_eq] at h
 obtain ⟨h1, h2⟩ := h
 rw [← hl] at h1 h2
 rw [← hl] at hz
 unfold deepR at h2
 rw [← hz] at h1 h2
 unfold parseD
 rw [if_neg (by omega)]
 split at h2
 ·simp at h2
 ·rename_i l hc
  rw [lexC_ok _ _ 0 l (Nat.le_refl _) (by simp) (Nat.zero_le _) hc]
  simp only
  split at h2
  ·rename_i e; rw [e]
   split at h2 <;> simp at h2 <;> simp [atOf, errOf, *]
  ·rename_i e; rw [e]
   split at h2 <;> simp at h2 <;> simp [atOf, errOf, *]
  ·simp at h2
end Go.SL
namespace Go.SL
open Go.Proofs
set_option maxRecDepth 100000
theorem all_ok (T : Nat → Nat → ByteArray) : ((List.range 61).all fun k => (List.range 4).all fun i => okR T k i) = true := by kernel_rfl
theorem ok_at (T : Nat → Nat → ByteArray) {k i : Nat} (hk : k ≤ 60) (hi : i < 4) : okR T k i = true :=
 List.all_eq_true.1 (List.all_eq_true.1 (all_ok T) k (by simp; omega)) i (by simp; omega)
set_option maxRecDepth 10000
theorem repB_size (o a : ByteArray) : ∀ n, (repB o a n).size = o.size + n * a.size
 | 0 => by simp [repB]
 | n + 1 => by simp only [repB, ByteArray.size_append, repB_size o a n, Nat.succ_mul]; omega
theorem deepS_size {k : Nat} {a b : ByteArray} (hk : k ≤ 60) (ha : a.size ≤ 3) (hb : b.size ≤ 1) : (deepS k a b).size ≤ 4096 := by
 have h0 : (⟨#[]⟩ : ByteArray).size = 0 := rfl
 have h1 : (⟨#[120]⟩ : ByteArray).size = 1 := rfl
 have h2 : k * a.size ≤ 60 * 3 := Nat.mul_le_mul hk ha
 have h3 : k * b.size ≤ 60 * 1 := Nat.mul_le_mul hk hb
 simp only [deepS, repB_size, ByteArray.size_append, h0, h1]
 omega
theorem repB_bd {o a : ByteArray} {n : Nat} (hn : n ≤ 60) (ho : o.size ≤ 200) (ha : a.size ≤ 3) : (repB o a n).size ≤ 380 := by
 have h2 : n * a.size ≤ 60 * 3 := Nat.mul_le_mul hn ha
 rw [repB_size]; omega
theorem f15_ok (k : Nat) (hk : k ≤ 60) (a b : ByteArray) (ha : a.size ≤ 3) (hb : b.size ≤ 1) : DF Tryz.prog 15 [.int .i64 k, .str a, .str b] (.str (deepS k a b)) := by
 have hr0 : ∀ o a, repB o a 0 = o := fun _ _ => rfl
 have e0 : (⟨#[]⟩ : ByteArray).size = 0 := rfl
 have e1 : (⟨#[120]⟩ : ByteArray).size = 1 := rfl
 refine AF.start' 60 Tryz.func15 rfl rfl c15call c15ok fun Q hQ => ?_
 simp [c15c, c15t]
 refine ATT.loopG 60 c15l6.eq_1 (fun (i : Nat) => k - i) (fun (i : Nat) => i ≤ k) (fun (i : Nat) => [(0, .d (.int .i64 k)), (1, .d (.str a)), (2, .d (.str b)), (7, .d (.str (repB ⟨#[]⟩ a i))), (8, .d (.int .i64 i))]) (fun (i : Nat) => []) (fun (i : Nat) => []) (0) (by (try dsimp only); exact Nat.zero_le _) (by simp <;> omega) (by simp [hr0]) (by simp) ?_
 intro i u w hI ih
 try simp only at hI ih
 by_cases hi : i < k
 ·have hi' : (i : Int) < k := by omega
  have hII : inI ((i : Int) + 1) = true := inI_of (by omega) (by omega)
  have hz : (repB ⟨#[]⟩ a i).size ≤ 380 := repB_bd (by omega) (by omega) ha
  have hr1 : repB ⟨#[]⟩ a i ++ a = repB ⟨#[]⟩ a (i + 1) := rfl
  simp [c15t, hi', hII, hr1]
  refine ih (i + 1) (by first | ((try dsimp only); omega) | (simp [hi, hi', hII, hr1] <;> omega)) (by (try dsimp only); exact hi) _ _ _ (by simp <;> omega) (by simp <;> omega) (by simp <;> omega)
 ·have hi' : ¬ (i : Int) < k := by omega
  have hie : i = k := by omega
  subst hie
  have hz : (repB ⟨#[]⟩ a i).size ≤ 180 := by have := Nat.mul_le_mul hk ha; rw [repB_size]; omega
  simp [c15t, hi']
  refine ATT.loopG 60 c15l12.eq_1 (fun (j : Nat) => i - j) (fun (j : Nat) => j ≤ i) (fun (j : Nat) => [(0, .d (.int .i64 i)), (2, .d (.str b)), (7, .d (.str (repB (repB ⟨#[]⟩ a i ++ ⟨#[120]⟩) b j))), (9, .d (.int .i64 j))]) (fun (j : Nat) => []) (fun (j : Nat) => []) (0) (by (try dsimp only); exact Nat.zero_le _) (by simp <;> omega) (by simp [hr0]) (by simp) ?_
  intro j u w hI ih
  try simp only at hI ih
  by_cases hj : j < i
  ·have hj' : (j : Int) < i := by omega
   have hII : inI ((j : Int) + 1) = true := inI_of (by omega) (by omega)
   have hz2 : (repB (repB ⟨#[]⟩ a i ++ ⟨#[120]⟩) b j).size ≤ 380 := repB_bd (by omega) (by rw [ByteArray.size_append]; omega) (by omega)
   have hr1 : repB (repB ⟨#[]⟩ a i ++ ⟨#[120]⟩) b j ++ b = repB (repB ⟨#[]⟩ a i ++ ⟨#[120]⟩) b (j + 1) := rfl
   simp [c15t, hj', hII, hr1]
   refine ih (j + 1) (by first | ((try dsimp only); omega) | (simp [hj, hj', hII, hr1] <;> omega)) (by (try dsimp only); exact hj) _ _ _ (by simp <;> omega) (by simp <;> omega) (by simp <;> omega)
  ·have hj' : ¬ (j : Int) < i := by omega
   have hje : j = i := by omega
   subst hje
   simp [c15t, hj']
   refine ATT.fin' hQ Tryz.func15 c15res ?_
   simp
   all_goals (first | omega | exact ⟨_, rfl⟩ | skip)
   rfl
set_option maxHeartbeats 1000000 in
theorem f5_ok (k : Int) (hk : inI k = true) : DF Tryz.prog 5 [.int .i64 k] (.bool true) := by
 by_cases h1 : k < 0
 ·obtain ⟨K, hK, e⟩ : ∃ K : Nat, K ≤ 60 ∧ (41 : Int) = K := ⟨41, by decide, rfl⟩
  refine AF.start' 60 Tryz.func5 rfl rfl c5call c5ok fun Q hQ => ?_
  simp [c5c, c5t, h1]
  rw [e]
  refine ATT.loopG 60 c5l18.eq_1 (fun (i : Nat) => 4 - i) (fun (i : Nat) => i ≤ 4) (fun (i : Nat) => [(0, .d (.int .i64 K)), (3, .d (.int .i64 i))]) (fun (i : Nat) => []) (fun (i : Nat) => []) (0) (by (try dsimp only); exact Nat.zero_le _) (by simp <;> omega) (by simp) (by simp) ?_
  intro i u w hI ih
  try simp only at hI ih
  by_cases hi : i < 4
  ·have hd : [V.d (.str ⟨#[40]⟩), .d (.str ⟨#[91]⟩), .d (.str ⟨#[35, 40]⟩), .d (.str ⟨#[120, 58, 61]⟩)][i]? = some (.d (.str (aS i))) := by rcases i with _ | _ | _ | _ | i <;> first | rfl | omega
   have hdE : ∀ h, [V.d (.str ⟨#[40]⟩), .d (.str ⟨#[91]⟩), .d (.str ⟨#[35, 40]⟩), .d (.str ⟨#[120, 58, 61]⟩)][i]'h = .d (.str (aS i)) := fun h => by rw [List.getElem?_eq_getElem h] at hd; simpa using hd
   have hg : [V.d (.str ⟨#[41]⟩), .d (.str ⟨#[93]⟩), .d (.str ⟨#[41]⟩), .d (.str ⟨#[]⟩)][i]? = some (.d (.str (bS i))) := by rcases i with _ | _ | _ | _ | i <;> first | rfl | omega
   have hgE : ∀ h, [V.d (.str ⟨#[41]⟩), .d (.str ⟨#[93]⟩), .d (.str ⟨#[41]⟩), .d (.str ⟨#[]⟩)][i]'h = .d (.str (bS i)) := fun h => by rw [List.getElem?_eq_getElem h] at hg; simpa using hg
   have ha : (aS i).size ≤ 3 := by unfold aS; split; decide; split; decide; split <;> decide
   have hb : (bS i).size ≤ 1 := by unfold bS; split; decide; split; decide; split <;> decide
   have hD := f15_ok K hK (aS i) (bS i) ha hb
   have hP := f8_ok hWhole (deepS K (aS i) (bS i)) (by have := deepS_size hK ha hb; omega)
   have hin := parseD_in numS false (deepS K (aS i) (bS i))
   obtain ⟨p1, p2⟩ := deep_parse (ok_at (subT (deepS K (aS i) (bS i))) hK hi)
   have hi' : (i : Int) < 4 := by omega
   have hII : inI ((i : Int) + 1) = true := inI_of (by omega) (by omega)
   have hI2 : inI (40 * ((aS i).size : Int)) = true := inI_of (by omega) (by omega)
   have hI3 : inI (40 * ((aS i).size : Int) + 1) = true := inI_of (by omega) (by omega)
   have hiR : inR (i : Int) 4 = true := inR_of (by omega) (by omega)
   simp [c5t, hdE, hgE, hi, hi', hiR]
   refine ATT.callD Tryz.func5 60 (hD) (by simp) (by simp) (by simp) ?_
   simp
   refine ATT.callE Tryz.func5 60 hP (by simp) (by simp) (by simp) fun v hv => ?_
   obtain ⟨u, e, hu⟩ := UnR.get hv hin
   rw [p1, p2] at e
   by_cases h40 : K ≤ 40
   ·have h40' : ¬ (40 : Int) < K := by omega
    rw [if_pos h40, if_pos h40] at e
    subst e
    obtain ⟨nl1_u, z1_u, nl2_u, z2_u, ds_u, hv_u, ha_u, hb_u, hc_u, hd_u, he_u⟩ := hu.shape
    have hw_u := hv_u
    subst hw_u
    simp [c5t, h40', hII]
    refine ih (i + 1) (by first | ((try dsimp only); omega) | (simp [h40', hII] <;> omega)) (by (try dsimp only); exact hi) _ _ _ (by simp <;> omega) (by simp <;> omega) (by simp <;> omega)
   ·have h40' : (40 : Int) < K := by omega
    rw [if_neg h40, if_neg h40] at e
    by_cases h3 : i = 3
    ·have h3' : (i : Int) = 3 := by omega
     rw [if_pos h3] at e
     subst e
     obtain ⟨nl1_u, z1_u, nl2_u, z2_u, ds_u, hv_u, ha_u, hb_u, hc_u, hd_u, he_u⟩ := hu.shape
     have hw_u := hv_u
     subst hw_u
     simp [c5t, h40', eq_true h3', hII, hI2, hI3]
     refine ih (i + 1) (by first | ((try dsimp only); omega) | (simp [h40', eq_true h3', hII, hI2, hI3] <;> omega)) (by (try dsimp only); exact hi) _ _ _ (by simp <;> omega) (by simp <;> omega) (by simp <;> omega)
    ·have h3' : ¬ (i : Int) = 3 := by omega
     rw [if_neg h3] at e
     subst e
     obtain ⟨nl1_u, z1_u, nl2_u, z2_u, ds_u, hv_u, ha_u, hb_u, hc_u, hd_u, he_u⟩ := hu.shape
     have hw_u := hv_u
     subst hw_u
     simp [c5t, h40', h3', hII, hI2]
     refine ih (i + 1) (by first | ((try dsimp only); omega) | (simp [h40', h3', hII, hI2, hI3] <;> omega)) (by (try dsimp only); exact hi) _ _ _ (by simp <;> omega) (by simp <;> omega) (by simp <;> omega)
  ·have hi' : ¬ (i : Int) < 4 := by omega
   simp [c5t, hi']
   refine ATT.callD Tryz.func5 60 (f12_ok) (by simp) (by simp) (by simp) ?_
   simp
   refine ATT.fin' hQ Tryz.func5 c5res ?_
   simp
   all_goals (first | omega | exact ⟨_, rfl⟩ | skip)
 by_cases h2 : 60 < k
 ·obtain ⟨K, hK, e⟩ : ∃ K : Nat, K ≤ 60 ∧ (41 : Int) = K := ⟨41, by decide, rfl⟩
  refine AF.start' 60 Tryz.func5 rfl rfl c5call c5ok fun Q hQ => ?_
  simp [c5c, c5t, h1, h2]
  rw [e]
  refine ATT.loopG 60 c5l18.eq_1 (fun (i : Nat) => 4 - i) (fun (i : Nat) => i ≤ 4) (fun (i : Nat) => [(0, .d (.int .i64 K)), (3, .d (.int .i64 i))]) (fun (i : Nat) => []) (fun (i : Nat) => []) (0) (by (try dsimp only); exact Nat.zero_le _) (by simp <;> omega) (by simp) (by simp) ?_
  intro i u w hI ih
  try simp only at hI ih
  by_cases hi : i < 4
  ·have hd : [V.d (.str ⟨#[40]⟩), .d (.str ⟨#[91]⟩), .d (.str ⟨#[35, 40]⟩), .d (.str ⟨#[120, 58, 61]⟩)][i]? = some (.d (.str (aS i))) := by rcases i with _ | _ | _ | _ | i <;> first | rfl | omega
   have hdE : ∀ h, [V.d (.str ⟨#[40]⟩), .d (.str ⟨#[91]⟩), .d (.str ⟨#[35, 40]⟩), .d (.str ⟨#[120, 58, 61]⟩)][i]'h = .d (.str (aS i)) := fun h => by rw [List.getElem?_eq_getElem h] at hd; simpa using hd
   have hg : [V.d (.str ⟨#[41]⟩), .d (.str ⟨#[93]⟩), .d (.str ⟨#[41]⟩), .d (.str ⟨#[]⟩)][i]? = some (.d (.str (bS i))) := by rcases i with _ | _ | _ | _ | i <;> first | rfl | omega
   have hgE : ∀ h, [V.d (.str ⟨#[41]⟩), .d (.str ⟨#[93]⟩), .d (.str ⟨#[41]⟩), .d (.str ⟨#[]⟩)][i]'h = .d (.str (bS i)) := fun h => by rw [List.getElem?_eq_getElem h] at hg; simpa using hg
   have ha : (aS i).size ≤ 3 := by unfold aS; split; decide; split; decide; split <;> decide
   have hb : (bS i).size ≤ 1 := by unfold bS; split; decide; split; decide; split <;> decide
   have hD := f15_ok K hK (aS i) (bS i) ha hb
   have hP := f8_ok hWhole (deepS K (aS i) (bS i)) (by have := deepS_size hK ha hb; omega)
   have hin := parseD_in numS false (deepS K (aS i) (bS i))
   obtain ⟨p1, p2⟩ := deep_parse (ok_at (subT (deepS K (aS i) (bS i))) hK hi)
   have hi' : (i : Int) < 4 := by omega
   have hII : inI ((i : Int) + 1) = true := inI_of (by omega) (by omega)
   have hI2 : inI (40 * ((aS i).size : Int)) = true := inI_of (by omega) (by omega)
   have hI3 : inI (40 * ((aS i).size : Int) + 1) = true := inI_of (by omega) (by omega)
   have hiR : inR (i : Int) 4 = true := inR_of (by omega) (by omega)
   simp [c5t, hdE, hgE, hi, hi', hiR]
   refine ATT.callD Tryz.func5 60 (hD) (by simp) (by simp) (by simp) ?_
   simp
   refine ATT.callE Tryz.func5 60 hP (by simp) (by simp) (by simp) fun v hv => ?_
   obtain ⟨u, e, hu⟩ := UnR.get hv hin
   rw [p1, p2] at e
   by_cases h40 : K ≤ 40
   ·have h40' : ¬ (40 : Int) < K := by omega
    rw [if_pos h40, if_pos h40] at e
    subst e
    obtain ⟨nl1_u, z1_u, nl2_u, z2_u, ds_u, hv_u, ha_u, hb_u, hc_u, hd_u, he_u⟩ := hu.shape
    have hw_u := hv_u
    subst hw_u
    simp [c5t, h40', hII]
    refine ih (i + 1) (by first | ((try dsimp only); omega) | (simp [h40', hII] <;> omega)) (by (try dsimp only); exact hi) _ _ _ (by simp <;> omega) (by simp <;> omega) (by simp <;> omega)
   ·have h40' : (40 : Int) < K := by omega
    rw [if_neg h40, if_neg h40] at e
    by_cases h3 : i = 3
    ·have h3' : (i : Int) = 3 := by omega
     rw [if_pos h3] at e
     subst e
     obtain ⟨nl1_u, z1_u, nl2_u, z2_u, ds_u, hv_u, ha_u, hb_u, hc_u, hd_u, he_u⟩ := hu.shape
     have hw_u := hv_u
     subst hw_u
     simp [c5t, h40', eq_true h3', hII, hI2, hI3]
     refine ih (i + 1) (by first | ((try dsimp only); omega) | (simp [h40', eq_true h3', hII, hI2, hI3] <;> omega)) (by (try dsimp only); exact hi) _ _ _ (by simp <;> omega) (by simp <;> omega) (by simp <;> omega)
    ·have h3' : ¬ (i : Int) = 3 := by omega
     rw [if_neg h3] at e
     subst e
     obtain ⟨nl1_u, z1_u, nl2_u, z2_u, ds_u, hv_u, ha_u, hb_u, hc_u, hd_u, he_u⟩ := hu.shape
     have hw_u := hv_u
     subst hw_u
     simp [c5t, h40', h3', hII, hI2]
     refine ih (i + 1) (by first | ((try dsimp only); omega) | (simp [h40', h3', hII, hI2, hI3] <;> omega)) (by (try dsimp only); exact hi) _ _ _ (by simp <;> omega) (by simp <;> omega) (by simp <;> omega)
  ·have hi' : ¬ (i : Int) < 4 := by omega
   simp [c5t, hi']
   refine ATT.callD Tryz.func5 60 (f12_ok) (by simp) (by simp) (by simp) ?_
   simp
   refine ATT.fin' hQ Tryz.func5 c5res ?_
   simp
   all_goals (first | omega | exact ⟨_, rfl⟩ | skip)
 obtain ⟨K, hK, e⟩ : ∃ K : Nat, K ≤ 60 ∧ k = K := ⟨k.toNat, by omega, by omega⟩
 subst e
 refine AF.start' 60 Tryz.func5 rfl rfl c5call c5ok fun Q hQ => ?_
 simp [c5c, c5t, h1, h2]
 refine ATT.loopG 60 c5l18.eq_1 (fun (i : Nat) => 4 - i) (fun (i : Nat) => i ≤ 4) (fun (i : Nat) => [(0, .d (.int .i64 K)), (3, .d (.int .i64 i))]) (fun (i : Nat) => []) (fun (i : Nat) => []) (0) (by (try dsimp only); exact Nat.zero_le _) (by simp <;> omega) (by simp) (by simp) ?_
 intro i u w hI ih
 try simp only at hI ih
 by_cases hi : i < 4
 ·have hd : [V.d (.str ⟨#[40]⟩), .d (.str ⟨#[91]⟩), .d (.str ⟨#[35, 40]⟩), .d (.str ⟨#[120, 58, 61]⟩)][i]? = some (.d (.str (aS i))) := by rcases i with _ | _ | _ | _ | i <;> first | rfl | omega
  have hdE : ∀ h, [V.d (.str ⟨#[40]⟩), .d (.str ⟨#[91]⟩), .d (.str ⟨#[35, 40]⟩), .d (.str ⟨#[120, 58, 61]⟩)][i]'h = .d (.str (aS i)) := fun h => by rw [List.getElem?_eq_getElem h] at hd; simpa using hd
  have hg : [V.d (.str ⟨#[41]⟩), .d (.str ⟨#[93]⟩), .d (.str ⟨#[41]⟩), .d (.str ⟨#[]⟩)][i]? = some (.d (.str (bS i))) := by rcases i with _ | _ | _ | _ | i <;> first | rfl | omega
  have hgE : ∀ h, [V.d (.str ⟨#[41]⟩), .d (.str ⟨#[93]⟩), .d (.str ⟨#[41]⟩), .d (.str ⟨#[]⟩)][i]'h = .d (.str (bS i)) := fun h => by rw [List.getElem?_eq_getElem h] at hg; simpa using hg
  have ha : (aS i).size ≤ 3 := by unfold aS; split; decide; split; decide; split <;> decide
  have hb : (bS i).size ≤ 1 := by unfold bS; split; decide; split; decide; split <;> decide
  have hD := f15_ok K hK (aS i) (bS i) ha hb
  have hP := f8_ok hWhole (deepS K (aS i) (bS i)) (by have := deepS_size hK ha hb; omega)
  have hin := parseD_in numS false (deepS K (aS i) (bS i))
  obtain ⟨p1, p2⟩ := deep_parse (ok_at (subT (deepS K (aS i) (bS i))) hK hi)
  have hi' : (i : Int) < 4 := by omega
  have hII : inI ((i : Int) + 1) = true := inI_of (by omega) (by omega)
  have hI2 : inI (40 * ((aS i).size : Int)) = true := inI_of (by omega) (by omega)
  have hI3 : inI (40 * ((aS i).size : Int) + 1) = true := inI_of (by omega) (by omega)
  have hiR : inR (i : Int) 4 = true := inR_of (by omega) (by omega)
  simp [c5t, hdE, hgE, hi, hi', hiR]
  refine ATT.callD Tryz.func5 60 (hD) (by simp) (by simp) (by simp) ?_
  simp
  refine ATT.callE Tryz.func5 60 hP (by simp) (by simp) (by simp) fun v hv => ?_
  obtain ⟨u, e, hu⟩ := UnR.get hv hin
  rw [p1, p2] at e
  by_cases h40 : K ≤ 40
  ·have h40' : ¬ (40 : Int) < K := by omega
   rw [if_pos h40, if_pos h40] at e
   subst e
   obtain ⟨nl1_u, z1_u, nl2_u, z2_u, ds_u, hv_u, ha_u, hb_u, hc_u, hd_u, he_u⟩ := hu.shape
   have hw_u := hv_u
   subst hw_u
   simp [c5t, h40', hII]
   refine ih (i + 1) (by first | ((try dsimp only); omega) | (simp [h40', hII] <;> omega)) (by (try dsimp only); exact hi) _ _ _ (by simp <;> omega) (by simp <;> omega) (by simp <;> omega)
  ·have h40' : (40 : Int) < K := by omega
   rw [if_neg h40, if_neg h40] at e
   by_cases h3 : i = 3
   ·have h3' : (i : Int) = 3 := by omega
    rw [if_pos h3] at e
    subst e
    obtain ⟨nl1_u, z1_u, nl2_u, z2_u, ds_u, hv_u, ha_u, hb_u, hc_u, hd_u, he_u⟩ := hu.shape
    have hw_u := hv_u
    subst hw_u
    simp [c5t, h40', eq_true h3', hII, hI2, hI3]
    refine ih (i + 1) (by first | ((try dsimp only); omega) | (simp [h40', eq_true h3', hII, hI2, hI3] <;> omega)) (by (try dsimp only); exact hi) _ _ _ (by simp <;> omega) (by simp <;> omega) (by simp <;> omega)
   ·have h3' : ¬ (i : Int) = 3 := by omega
    rw [if_neg h3] at e
    subst e
    obtain ⟨nl1_u, z1_u, nl2_u, z2_u, ds_u, hv_u, ha_u, hb_u, hc_u, hd_u, he_u⟩ := hu.shape
    have hw_u := hv_u
    subst hw_u
    simp [c5t, h40', h3', hII, hI2]
    refine ih (i + 1) (by first | ((try dsimp only); omega) | (simp [h40', h3', hII, hI2, hI3] <;> omega)) (by (try dsimp only); exact hi) _ _ _ (by simp <;> omega) (by simp <;> omega) (by simp <;> omega)
 ·have hi' : ¬ (i : Int) < 4 := by omega
  simp [c5t, hi']
  refine ATT.callD Tryz.func5 60 (f12_ok) (by simp) (by simp) (by simp) ?_
  simp
  refine ATT.fin' hQ Tryz.func5 c5res ?_
  simp
  all_goals (first | omega | exact ⟨_, rfl⟩ | skip)
end Go.SL
namespace Go.Proofs.YtgggkjbdlddbkaaGreatDoor
open Go.ChangeShapes Go.WideShapes Go.ChangeAt Go.RowKit Go.ChangeMaps
namespace treeDeep
theorem own : ownKnob Tryz.prog.godebug = none := by kernel_rfl
set_option maxRecDepth 100000 in
theorem contract (law : ∀ k : Int, SL.inI k = true → SL.DF Tryz.prog 5 [.int .i64 k] (.bool true)) (H : Type) (enc : TypeId × Value → H) (W : World) (base : Nat) (args : Array Value) (ds gs : List (DataW H)) (before : List MemPlace)
  (hval : ∀ (j : Nat) t v, Tryz.f5.params[j]? = some t → args[j]? = some v → Value.okWide Tryz.prog W .any base t v)
  (hW : DataW.Whole enc Tryz.prog Tryz.f5.params.toList Rows.treeDeepSpec.vars false W args.toList ds gs before) (hk : Rows.uptoSmall H (ds ++ gs) = true) :
  Calls Tryz.prog 5 args W fun e W' => ∃ v, e = .returned v ∧ Rows.treeDeepSpec.post enc Tryz.prog Tryz.f5 false true false false W args v W' := by
 have hW' := hW
 obtain ⟨p, q, hA0, hV, rfl, hfz, hnd⟩ := hW
 have hA : DataW.TrodAll enc Tryz.prog W 0 (fun _ => true) true Tryz.f5.params.toList args.toList ds p := hA0
 rw [Tryz.params5] at hA hval
 obtain ⟨v0, vs0, d0, ds0, p0, q0, hargs, rfl, rfl, h0, r0⟩ := trodAll_cons hA
 obtain ⟨rfl, rfl, rfl⟩ := trodAll_nil r0
 obtain rfl : args = #[v0] := by cases args; simp_all
 obtain ⟨rfl, rfl⟩ := trodVars_none hV
 obtain ⟨s, rfl, rfl, rfl, hs⟩ := open_int Tryz.underlying3 (hval 0 3 v0 (by simp) (by simp)) h0
 clear hA0
 have hb : SL.inI s = true := by
  simp [Lit.wf] at hs
  simp [SL.inI]
  exact ⟨hs.1, hs.2⟩
 refine ((law s hb).world (argv := [.int .i64 s]) (by simp [SL.VL, SL.VR, SL.DR])).mono fun e W' ⟨he, hg⟩ => ?_
 subst he
 simp only [List.append_nil] at hW'
 exact ⟨_, rfl, SL.post_plain hW' (fun _ _ _ => trodAll_cons_mk (SL.shut_boolP Tryz.underlying4 _) trodAll_mk0) (fun _ => trodAll_cons_mk (shut_int Tryz.underlying3 hs) trodAll_mk0) (fun _ => rfl) hg (ok_one (by kernel_rfl) rfl (okWide_bool_mk Tryz.underlying4 _))⟩
theorem laid_met (os : Os) : laidMetH Tryz.prog Rows.treeDeepUptoRow.laid ((World.laidAll Tryz.prog os Rows.treeDeepUptoRow.laid).forCall (fun _ _ => 0) ⟨#[], #[.int .i64 0], []⟩).memory := by
 rw [MakeChecks.laidMetH_plain _ _ _ (by kernel_rfl)]
 exact laidMet_laidAll _ (by kernel_rfl) (by kernel_rfl)
theorem reads (os : Os) {H : Type} (enc : TypeId × Value → H) : ∃ places, DataW.whole enc Tryz.prog ((World.laidAll Tryz.prog os Rows.treeDeepUptoRow.laid).forCall (fun _ _ => 0) ⟨#[], #[.int .i64 0], []⟩).memory Tryz.f5.params.toList Rows.treeDeepSpec.vars false #[Value.int .i64 0].toList 8 = some ([.lit (.int .i64 0)], [], places) :=
 ⟨[], by kernel_rfl⟩
set_option maxRecDepth 100000 in
theorem lifted (law : ∀ k : Int, SL.inI k = true → SL.DF Tryz.prog 5 [.int .i64 k] (.bool true)) (os : Os) (started : os.Started) (H : Type) (enc : TypeId × Value → H) (F : Stop.Interp) :
  ReturnsInHanded {} Tryz.checked os 5 .any ((Rows.OpenSpec.upto Rows.treeDeepSpec).preRow enc Tryz.prog Tryz.f5 Rows.treeDeepUptoRow.domain false Rows.treeDeepUptoRow.laid) (((Rows.OpenSpec.upto Rows.treeDeepSpec).at F).post enc Tryz.prog Tryz.f5 false true false false) := by
 obtain ⟨places, hx⟩ := reads os enc
 refine returnsInHanded_of_row (C := Tryz.checked) (s := Rows.OpenSpec.upto Rows.treeDeepSpec) own started (by kernel_rfl) Tryz.func5
  (witness_row_at (enc := enc) (C := Tryz.checked) false (World.laidAll Tryz.prog os Rows.treeDeepUptoRow.laid) #[.int .i64 0] (World.laidAll_os _ _ _) (by kernel_rfl) (by kernel_rfl) (by kernel_rfl)
   (OpenSpec.preRow_of_cond 8 hx (by kernel_rfl) (fun k hk => by cases hk; kernel_rfl) (by kernel_rfl) (laid_met os))) ?_
 intro W base args ds gs before hval hW _ hcond _ _ _ _
 exact contract law H enc W base args ds gs before hval hW (hcond _ rfl)
theorem saidUpto (law : ∀ k : Int, SL.inI k = true → SL.DF Tryz.prog 5 [.int .i64 k] (.bool true)) : Rows.TreeDeepUptoSaid :=
 OpenClaim.holds_of_cond 5 Tryz.f5 rfl rfl rfl rfl rfl rfl rfl ⟨rfl, rfl, rfl, rfl, rfl⟩ rfl rfl rfl rfl rfl (by kernel_rfl) Tryz.func5 (by kernel_rfl)
  (of_decide_eq_true (by kernel_rfl)) (by unfold Func.isWrapper; first | (rw [if_pos (by decide +kernel)]; kernel_rfl) | (rw [if_neg (by decide +kernel)]; exact ⟨rfl, rfl⟩))
  (fun os started H enc _ F => by rw [OpenClaim.pre_eq_preRow]; exact lifted law os started H enc F)
theorem plain (f : FuncId) (fn : Func) (hf : Tryz.pinned.checked.prog.funcNamed "lapidary/lapidarylaw08.TreeDeep" = some f) (hfn : Tryz.pinned.checked.prog.funcs[f]? = some fn) :
  true = Tryz.pinned.checked.prog.looks [] ∧ ∀ (j : Nat) t, fn.params[j]? = some t → Tryz.pinned.checked.prog.wantsStandIn t = false := by
 obtain rfl : f = 5 := Option.some.inj ((show Tryz.prog.funcNamed "lapidary/lapidarylaw08.TreeDeep" = some 5 by kernel_rfl).symm.trans hf) |>.symm
 obtain rfl : fn = Tryz.f5 := (Option.some.inj (Tryz.func5.symm.trans hfn)).symm
 refine ⟨by kernel_rfl, fun j t ht => ?_⟩
 rw [Tryz.params5] at ht
 obtain rfl : t = 3 := by simpa using Array.mem_of_getElem? ht
 exact (show Tryz.prog.wantsStandIn 3 = false by kernel_rfl)
theorem cardUpto (law : ∀ k : Int, SL.inI k = true → SL.DF Tryz.prog 5 [.int .i64 k] (.bool true)) : Rows.TreeDeepUptoCardSaid :=
 Claim7.holds_tied_plain_at .later [] _ _ _ _ (saidUpto law) (fun _ h => by cases h) (by kernel_rfl) (fun _ h => by cases h) treeDeepUpto_row_tie rfl ⟨rfl, rfl⟩ (by kernel_rfl) rfl plain (by kernel_rfl)
end treeDeep
theorem treeDeep_holds : Rows.TreeDeepUptoCardSaid := treeDeep.cardUpto fun k hk => SL.f5_ok k hk
end Go.Proofs.YtgggkjbdlddbkaaGreatDoor
