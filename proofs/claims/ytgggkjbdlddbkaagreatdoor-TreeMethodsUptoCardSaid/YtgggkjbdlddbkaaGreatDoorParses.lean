/- TreeParses and TreeMethods: any source to be run, and any source of a method, is the tree, or is none at the place, that the document says, for every source of bulk at most 1048576. -/
import Derived.Test.YtgggkjbdlddbkaaGreatDoorParses4
import Derived.Test.YtgggkjbdlddbkaaGreatDoorCards
import Derived.Test.YtgggkjbdlddbkaaGreatDoorTie
import Derived.ProofKit
import Derived.OpenShut
import Derived.LaidMore
import Derived.Lay
import Derived.OpenShut
import Derived.Deep.DeepHandedRow
namespace Go.SL
open Go.Proofs
set_option maxRecDepth 10000
@[simp] theorem take_two1 {α β γ : Type} (f : α → γ) (g : β → γ) (a : List α) (b : List β) (z : γ) : List.take (a.length + (b.length + 1)) (a.map f ++ z :: b.map g) = a.map f ++ z :: b.map g := List.take_of_length_le (by simp)
@[simp] theorem mapD_strs3 (h : H) (n : Nat) (a b : List ByteArray) (y : ByteArray) : mapD (toDv h n) ((a.map fun s => V.d (.str s)) ++ V.d (.str y) :: b.map fun s => V.d (.str s)) = some (a.map .str ++ .str y :: b.map .str) := by
 have := mapD_strs2 h n a (y :: b)
 simpa using this
theorem NdR.eq {x : Nd} {v w : D} (h : v = w) (hw : NdR x w) : NdR x v := h ▸ hw
set_option maxHeartbeats 2000000 in
theorem f150_ok (n : Nat) (ihE : ∀ m, m ≤ n → ExprR m) : BlockR (n + 1) := by
 intro L i d hd hL hl hk hin
 obtain ⟨t, r, hs⟩ := hl.cons
 have ht := (drop_at hs).1
 have hr := (drop_at hs).2
 have hLl := hL.2.2
 rw [hs] at hl hin hk ⊢
 rw [blockS_eq] at hin ⊢
 simp only [kd_cons, pl_cons, List.tail_cons] at hin hk ⊢
 have hk0 : ¬ t.k = 0 := by rw [hk]; decide
 refine AF.start' 60 Tryz.func150 rfl rfl c150call c150ok fun Q hQ => ?_
 simp [c150c, c150t]
 refine ATT.callM Tryz.func150 60 [0] (f128_ok L i d 0 0 t ht) rfl (by simp) (by simp) (by simp) (by simp) (by simp) ?_
 simp [c150t, tkD, tokD]
 by_cases h40 : d = 40
 ·simp only [eq_true h40, if_true] at hQ
  refine ATT.callM Tryz.func150 60 [0] (f84_bad L i d h40 0 t ht) rfl (by simp) (by simp) (by simp) (by simp) (by simp) ?_
  simp
  refine ATT.nilB 2 4 1 9 rfl rfl (by decide) (by simp) ?_
  simp
  refine ATT.loop 60 rfl ?_
  simp [c150l6, c150t]
  have h3 : (3 : Int) ≠ 0 := by decide
  refine ATT.callM Tryz.func150 60 [0] (f49_no L i (d + 1) 3 h3 t.a 16) rfl (by simp) (by simp) (by simp) (by simp) (by simp) ?_
  simp [c150t]
  have hd1 : ((d : Int) + 1 - 1) = d := by omega
  have hI : inI (d : Int) = true := inI_of (by omega) (by omega)
  have hi := at_lt ht
  refine ATT.callA Tryz.func150 60 [0, 2] [0] 0 0 (f31_no L i (d + 1) 3 h3 t.a (([] : List ByteArray)) (.int .i64 10) (.str ⟨#[]⟩) (.int .i64 t.a) (.int .i64 (([] : List ByteArray) : List ByteArray).length)) (by simp) (by simp) (by simp) (by simp) (by simp) fun out hC hE => ?_
  obtain ⟨b, c, e1, e2⟩ := hE
  subst e1 e2
  refine ⟨by simp, ?_⟩
  simp [c150t]
  refine ATT.callA Tryz.func150 60 [0, 2] [0] 0 1 (f32_no L i (d + 1) 11 3 h3 t.a (([] : List ByteArray)) (.int .i64 10) (.str ⟨#[]⟩) (.int .i64 t.a) (.int .i64 (([] : List ByteArray) : List ByteArray).length)) (by simp) (by simp) (by simp) (by simp) (by simp) fun out hC hE => ?_
  obtain ⟨b, c, e1, e2⟩ := hE
  subst e1 e2
  refine ⟨by simp, ?_⟩
  simp [c150t]
  refine ATT.callM Tryz.func150 60 [0] (f51_no L i (d + 1) 3 h3 t.a 11) rfl (by simp) (by simp) (by simp) (by simp) (by simp) ?_
  simp [c150t, hd1, hI]
  refine ATT.finz hQ Tryz.func150 c150res (by first | exact .inl rfl | exact .inr ⟨_, rfl⟩) ?_
  simp
  all_goals (first | omega | exact ⟨_, rfl⟩ | skip)
  exact ⟨_, _, _, _, _, rfl, rfl, hi, by omega, ⟨.mk 10 ⟨#[]⟩ t.a (([] : List ByteArray) : List ByteArray).length (([] : List ByteArray)) [], NdR.mk (by simp) (by simp) (by simp) (by simp) (by simp [NdRL])⟩, h3⟩
 ·rw [if_neg h40] at hQ hin
  have hwf2 := (hl.tail hk0).1
  simp only [List.tail_cons] at hwf2
  refine ATT.callM Tryz.func150 60 [0] (f84_ok L hLl i d (by omega) 0 t ht hk0) rfl (by simp) (by simp) (by simp) (by simp) (by simp) ?_
  simp
  obtain ⟨k, hnk⟩ : ∃ k, n = k + 1 := by
   cases n with
   | zero => exact absurd (by simp [blkS, argsS, Res.andThen]) hin
   | succ k => exact ⟨k, rfl⟩
  subst hnk
  have hinb : blkS (k + 1) (d + 1) r ≠ .out := fun e => hin (by rw [e]; rfl)
  have hin0 := blkS_args hinb
  refine ATT.nilB 2 4 1 9 rfl rfl (by decide) (by simp) ?_
  simp
  simp only [blkS] at hin hQ hinb
  generalize hR : argsS (k + 1) r = R at hQ hin hinb hin0
  refine ATT.loopG 60 c150l6.eq_1 (fun ((m, dn, i, d', e, a) : Nat × List ByteArray × Nat × Nat × Int × Nat) => m) (fun ((m, dn, i, d', e, a) : Nat × List ByteArray × Nat × Nat × Int × Nat) => dn.length ≤ 5000 ∧ ((e = 0 ∧ a = 0 ∧ d' = d + 1 ∧ WF (L.drop i) ∧ ((argsS m (L.drop i)).andThen fun x r => Res.ok (dn ++ x) r) = R ∧ dn.length + (L.drop i).length ≤ 5000) ∨ (e ≠ 0 ∧ R = .no a e ∧ i < L.length ∧ (d + 1 ≤ d' ∧ d' ≤ 41)))) (fun ((m, dn, i, d', e, a) : Nat × List ByteArray × Nat × Nat × Int × Nat) => [(0, .ptr 0 0), (2, .ptr 1 0), (3, .ptr 2 0)]) (fun ((m, dn, i, d', e, a) : Nat × List ByteArray × Nat × Nat × Int × Nat) => [RP L i d' e a, .cells [.d (.int .i64 0), .d (.str ⟨#[]⟩), .d (.int .i64 0), .d (.int .i64 0), .d (.sl true 0 []), .d (.sl true 0 [])] 31, .cells [.d (.int .i64 10), .d (.str ⟨#[]⟩), .d (.int .i64 t.a), .d (.int .i64 0), .vs 0 dn.length 0 dn.length, .d (.sl true 0 [])] 31]) (fun ((m, dn, i, d', e, a) : Nat × List ByteArray × Nat × Nat × Int × Nat) => [NS dn]) ((k + 1, [], i + 1, d + 1, 0, 0)) (by (try dsimp only); exact ⟨by simp, .inl ⟨rfl, rfl, rfl, by rw [hr]; exact hwf2, by rw [hr, ← hR]; cases argsS (k + 1) r <;> rfl, by rw [hr]; simpa using hwf2.2.2⟩⟩) (by simp <;> omega) (by simp) (by simp) ?_
  intro ⟨m, dn, i, d', e, a⟩ u w hI ih
  try simp only at hI ih
  obtain ⟨hdn, hmode⟩ := hI
  rcases hmode with ⟨e1, e2, e3, hwf, hRk, hnum⟩ | ⟨he, hRk, hi, hd'⟩
  ·subst e1 e2 e3
   cases m with
   | zero => exact absurd hRk.symm (by simpa [argsS, Res.andThen] using hin0)
   | succ m =>
    obtain ⟨t1, l1, hs1⟩ := hwf.cons
    have ht1 := (drop_at hs1).1
    have hl1 := (drop_at hs1).2
    rw [hs1] at hwf hRk hnum
    simp only [List.length_cons] at hnum
    simp [c150t]
    refine ATT.callM Tryz.func150 60 [0] (f49_ok L i (d + 1) 0 16 t1 ht1) rfl (by simp) (by simp) (by simp) (by simp) (by simp) ?_
    simp
    by_cases h16 : t1.k = 16
    ·have hw2 := (hwf.tail (by simp only [kd_cons, h16]; decide)).1
     simp only [List.tail_cons] at hw2
     obtain ⟨t2, l2, hq⟩ := hw2.cons
     subst hq
     have ht2 := (drop_at hl1).1
     have hl2 := (drop_at hl1).2
     simp only [argsS, kd_cons, eq_true h16, if_true, List.tail_cons, pl_cons, tx_cons] at hRk
     simp only [List.length_cons] at hnum
     have hmul : (dn.length + 1) * 16 ≤ 140737488355328 := by omega
     simp [c150t, eq_true h16]
     refine ATT.callM Tryz.func150 60 [0] (f50_ok L hLl i (d + 1) 0 t1 ht1 (by rw [h16]; decide)) rfl (by simp) (by simp) (by simp) (by simp) (by simp) ?_
     simp [tkD, tokD]
     by_cases h1 : t2.k = 1
     ·simp only [eq_true h1, if_true] at hRk
      have hw3 := (hw2.tail (by simp only [kd_cons, h1]; decide)).1
      simp only [List.tail_cons] at hw3
      refine ATT.callRM Tryz.func150 60 [0] (f51_ok L hLl (i + 1) (d + 1) 0 1 (by decide) t2 ht2 h1) rfl (by simp) (by simp) (by simp) (by simp) (by simp) ?_
      simp [tkD, tokD, hmul]
      refine ih (m, dn ++ [t2.t], i + 1 + 1, d + 1, 0, 0) (by first | ((try dsimp only); omega) | (simp [tkD, tokD] <;> omega)) (by (try dsimp only); exact ⟨by simp; omega, .inl ⟨rfl, rfl, rfl, by rw [hl2]; exact hw3, by rw [hl2, ← hRk]; cases argsS m l2 <;> simp [Res.andThen], by rw [hl2]; simp; omega⟩⟩) _ _ _ (by simp <;> omega) (by simp <;> omega) (by simp <;> omega)
     ·simp only [eq_false h1, if_false, Res.andThen] at hRk
      refine ATT.callRM Tryz.func150 60 [0] (f51_bad L (i + 1) (d + 1) 0 1 t2 ht2 h1) rfl (by simp) (by simp) (by simp) (by simp) (by simp) ?_
      simp [hmul]
      refine ih (m, dn ++ [⟨#[]⟩], i + 1, d + 1, 20, t2.a) (by first | ((try dsimp only); omega) | (simp [tkD, tokD] <;> omega)) (by (try dsimp only); exact ⟨by simp; omega, .inr ⟨by decide, hRk.symm, at_lt ht2, by omega⟩⟩) _ _ _ (by simp <;> omega) (by simp <;> omega) (by simp <;> omega)
    ·simp only [argsS, kd_cons, eq_false h16, if_false, Res.andThen, List.append_nil] at hRk
     subst hRk
     simp [c150t, h16]
     simp only [andThen_okE, kd_cons, List.tail_cons, pl_cons] at hQ hin hinb
     cases dn with
     | nil =>
      simp only [List.length_nil, ne_eq, not_true_eq_false, false_and, if_false] at hQ hin hinb
      simp [c150t]
      have hT := f31_ok L i (d + 1) hL (by rw [hs1]; exact hwf) (([] : List ByteArray)) hdn (.int .i64 10) (.str ⟨#[]⟩) (.int .i64 t.a) (.int .i64 (([] : List ByteArray) : List ByteArray).length)
      rw [hs1] at hT
      refine ATT.callA Tryz.func150 60 [0, 2] [0] 0 0 (hT) (by simp) (by simp) (by simp) (by simp) (by simp) fun out hC hE => ?_
      cases hres : tempsS (t1 :: l1) with
      | out => exact absurd hres (tempsS_in _)
      | no a2 w2 =>
       simp only [hres, TQ] at hE
       obtain ⟨b, c, i2, ts, e1, e2, g1, g4⟩ := hE
       subst e1 e2
       refine ⟨by simp, ?_⟩
       simp [c150t]
       simp only [bodyS, hres, andThen_noE] at hQ
       have hd1 : ((d : Int) + 1 - 1) = d := by omega
       have hI : inI (d : Int) = true := inI_of (by omega) (by omega)
       refine ATT.callA Tryz.func150 60 [0, 2] [0] 0 1 (f32_no L i2 (d + 1) 11 w2 g4 a2 ((([] : List ByteArray)) ++ ts) (.int .i64 10) (.str ⟨#[]⟩) (.int .i64 t.a) (.int .i64 (([] : List ByteArray) : List ByteArray).length)) (by simp) (by simp) (by simp) (by simp) (by simp) fun out hC hE => ?_
       obtain ⟨b, c, e1, e2⟩ := hE
       subst e1 e2
       refine ⟨by simp, ?_⟩
       simp [c150t]
       refine ATT.callM Tryz.func150 60 [0] (f51_no L i2 (d + 1) w2 g4 a2 11) rfl (by simp) (by simp) (by simp) (by simp) (by simp) ?_
       simp [c150t, hd1, hI]
       have h0 : NdRL [] ([] : List D) := by simp [NdRL]
       cases ts with
       | nil =>
        refine ATT.finz hQ Tryz.func150 c150res (by first | exact .inl rfl | exact .inr ⟨_, rfl⟩) ?_
        simp
        all_goals (first | omega | exact ⟨_, rfl⟩ | skip)
        exact ⟨_, _, _, _, _, rfl, rfl, g1, by omega, ⟨.mk 10 ⟨#[]⟩ t.a (([] : List ByteArray) : List ByteArray).length ((([] : List ByteArray)) ++ []) [], NdR.eq (by simp) (NdR.mk (nl1 := ((([] : List ByteArray)) ++ []).isEmpty) (z1 := 1) (nl2 := ([] : List D).isEmpty) (z2 := 6) (ds := ([] : List D)) (by simp) (by simp) (fun h => by first | (simp at h; done) | (have hl := h0.length; exact List.length_eq_zero_iff.mp hl.symm)) (by simp) h0)⟩, g4⟩
       | cons y yr =>
        refine ATT.finz hQ Tryz.func150 c150res (by first | exact .inl rfl | exact .inr ⟨_, rfl⟩) ?_
        simp
        all_goals (first | omega | exact ⟨_, rfl⟩ | skip)
        exact ⟨_, _, _, _, _, rfl, rfl, g1, by omega, ⟨.mk 10 ⟨#[]⟩ t.a (([] : List ByteArray) : List ByteArray).length ((([] : List ByteArray)) ++ (y :: yr)) [], NdR.eq (by simp) (NdR.mk (nl1 := ((([] : List ByteArray)) ++ (y :: yr)).isEmpty) (z1 := 1) (nl2 := ([] : List D).isEmpty) (z2 := 6) (ds := ([] : List D)) (by simp) (by simp) (fun h => by first | (simp at h; done) | (have hl := h0.length; exact List.length_eq_zero_iff.mp hl.symm)) (by simp) h0)⟩, g4⟩
      | ok ts l2 =>
       simp only [hres, TQ] at hE
       obtain ⟨b, c, i2, e1, e2, hl2⟩ := hE
       subst e1 e2
       refine ⟨by simp, ?_⟩
       simp [c150t]
       have hw2 := (tempsS_short hwf hres).1
       have hin3 : stmtsS k (d + 1) 11 [] l2 ≠ .out := fun e => hinb (by simp [bodyS, hres, e, Res.andThen])
       simp only [bodyS, hres, andThen_okE] at hQ
       have hSt := f32_ok k (fun m h => ihE m (by omega)) L i2 (d + 1) (by omega) hL (by rw [hl2]; exact hw2) 11 (by rw [hl2]; exact hin3) ((([] : List ByteArray)) ++ ts) (.int .i64 10) (.str ⟨#[]⟩) (.int .i64 t.a) (.int .i64 (([] : List ByteArray) : List ByteArray).length)
       rw [hl2] at hSt
       refine ATT.callA Tryz.func150 60 [0, 2] [0] 0 1 (hSt) (by simp) (by simp) (by simp) (by simp) (by simp) fun out hC hE => ?_
       cases hst : stmtsS k (d + 1) 11 [] l2 with
       | out => exact absurd hst hin3
       | no a2 w2 =>
        simp only [hst, SQ] at hE
        obtain ⟨b, c, i3, d2, ks, ds, e1, e2, g1, g2, hds, g4⟩ := hE
        subst e1 e2
        simp only [hst, andThen_noE] at hQ
        refine ⟨by simp, ?_⟩
        have hd1 : ((d2 : Int) - 1) = ((d2 - 1 : Nat) : Int) := by omega
        have hI : inI ((d2 - 1 : Nat) : Int) = true := inI_of (by omega) (by omega)
        simp [c150t]
        refine ATT.callM Tryz.func150 60 [0] (f51_no L i3 d2 w2 g4 a2 11) rfl (by simp) (by simp) (by simp) (by simp) (by simp) ?_
        simp [c150t, hd1, hI]
        cases ts with
        | nil =>
         cases ds with
         | nil =>
          refine ATT.finz hQ Tryz.func150 c150res (by first | exact .inl rfl | exact .inr ⟨_, rfl⟩) ?_
          simp
          all_goals (first | omega | exact ⟨_, rfl⟩ | skip)
          exact ⟨_, _, _, _, _, rfl, rfl, g1, by omega, ⟨.mk 10 ⟨#[]⟩ t.a (([] : List ByteArray) : List ByteArray).length ((([] : List ByteArray)) ++ []) ks, NdR.eq (by simp) (NdR.mk (nl1 := ((([] : List ByteArray)) ++ []).isEmpty) (z1 := 1) (nl2 := ([] : List D).isEmpty) (z2 := 6) (ds := ([] : List D)) (by simp) (by simp) (fun h => by first | (simp at h; done) | (have hl := hds.length; exact List.length_eq_zero_iff.mp hl.symm)) (by simp) hds)⟩, g4⟩
         | cons d0 ds =>
          refine ATT.finz hQ Tryz.func150 c150res (by first | exact .inl rfl | exact .inr ⟨_, rfl⟩) ?_
          simp
          all_goals (first | omega | exact ⟨_, rfl⟩ | skip)
          exact ⟨_, _, _, _, _, rfl, rfl, g1, by omega, ⟨.mk 10 ⟨#[]⟩ t.a (([] : List ByteArray) : List ByteArray).length ((([] : List ByteArray)) ++ []) ks, NdR.eq (by simp) (NdR.mk (nl1 := ((([] : List ByteArray)) ++ []).isEmpty) (z1 := 1) (nl2 := (d0 :: ds).isEmpty) (z2 := 6) (ds := (d0 :: ds)) (by simp) (by simp) (fun h => by first | (simp at h; done) | (have hl := hds.length; exact List.length_eq_zero_iff.mp hl.symm)) (by simp) hds)⟩, g4⟩
        | cons y yr =>
         cases ds with
         | nil =>
          refine ATT.finz hQ Tryz.func150 c150res (by first | exact .inl rfl | exact .inr ⟨_, rfl⟩) ?_
          simp
          all_goals (first | omega | exact ⟨_, rfl⟩ | skip)
          exact ⟨_, _, _, _, _, rfl, rfl, g1, by omega, ⟨.mk 10 ⟨#[]⟩ t.a (([] : List ByteArray) : List ByteArray).length ((([] : List ByteArray)) ++ (y :: yr)) ks, NdR.eq (by simp) (NdR.mk (nl1 := ((([] : List ByteArray)) ++ (y :: yr)).isEmpty) (z1 := 1) (nl2 := ([] : List D).isEmpty) (z2 := 6) (ds := ([] : List D)) (by simp) (by simp) (fun h => by first | (simp at h; done) | (have hl := hds.length; exact List.length_eq_zero_iff.mp hl.symm)) (by simp) hds)⟩, g4⟩
         | cons d0 ds =>
          refine ATT.finz hQ Tryz.func150 c150res (by first | exact .inl rfl | exact .inr ⟨_, rfl⟩) ?_
          simp
          all_goals (first | omega | exact ⟨_, rfl⟩ | skip)
          exact ⟨_, _, _, _, _, rfl, rfl, g1, by omega, ⟨.mk 10 ⟨#[]⟩ t.a (([] : List ByteArray) : List ByteArray).length ((([] : List ByteArray)) ++ (y :: yr)) ks, NdR.eq (by simp) (NdR.mk (nl1 := ((([] : List ByteArray)) ++ (y :: yr)).isEmpty) (z1 := 1) (nl2 := (d0 :: ds).isEmpty) (z2 := 6) (ds := (d0 :: ds)) (by simp) (by simp) (fun h => by first | (simp at h; done) | (have hl := hds.length; exact List.length_eq_zero_iff.mp hl.symm)) (by simp) hds)⟩, g4⟩
       | ok ks l3 =>
        simp only [hst, SQ] at hE
        obtain ⟨b, c, i3, ds, e1, e2, hl3, hds⟩ := hE
        subst e1 e2
        simp only [hst, andThen_okE] at hQ
        have hk3 := stmtsS_end _ _ _ _ _ _ _ hst
        obtain ⟨t8, l8, hq⟩ := ((pres k).stmts hw2 hst).1.1.cons
        subst hq
        have ht8 := (drop_at hl3).1
        have hl4 := (drop_at hl3).2
        refine ⟨by simp, ?_⟩
        have hd1 : ((d : Int) + 1 - 1) = d := by omega
        have hI : inI (d : Int) = true := inI_of (by omega) (by omega)
        simp [c150t]
        refine ATT.callM Tryz.func150 60 [0] (f51_ok L hLl i3 (d + 1) 0 11 (by decide) t8 ht8 hk3) rfl (by simp) (by simp) (by simp) (by simp) (by simp) ?_
        simp [c150t, tkD, tokD, hd1, hI]
        cases ts with
        | nil =>
         cases ds with
         | nil =>
          refine ATT.finz hQ Tryz.func150 c150res (by first | exact .inl rfl | exact .inr ⟨_, rfl⟩) ?_
          simp
          all_goals (first | omega | exact ⟨_, rfl⟩ | skip)
          exact ⟨_, _, _, _, rfl, rfl, hl4, NdR.eq (by simp) (NdR.mk (nl1 := ((([] : List ByteArray)) ++ []).isEmpty) (z1 := 1) (nl2 := ([] : List D).isEmpty) (z2 := 6) (ds := ([] : List D)) (by simp) (by simp) (fun h => by first | (simp at h; done) | (have hl := hds.length; exact List.length_eq_zero_iff.mp hl.symm)) (by simp) hds)⟩
         | cons d0 ds =>
          refine ATT.finz hQ Tryz.func150 c150res (by first | exact .inl rfl | exact .inr ⟨_, rfl⟩) ?_
          simp
          all_goals (first | omega | exact ⟨_, rfl⟩ | skip)
          exact ⟨_, _, _, _, rfl, rfl, hl4, NdR.eq (by simp) (NdR.mk (nl1 := ((([] : List ByteArray)) ++ []).isEmpty) (z1 := 1) (nl2 := (d0 :: ds).isEmpty) (z2 := 6) (ds := (d0 :: ds)) (by simp) (by simp) (fun h => by first | (simp at h; done) | (have hl := hds.length; exact List.length_eq_zero_iff.mp hl.symm)) (by simp) hds)⟩
        | cons y yr =>
         cases ds with
         | nil =>
          refine ATT.finz hQ Tryz.func150 c150res (by first | exact .inl rfl | exact .inr ⟨_, rfl⟩) ?_
          simp
          all_goals (first | omega | exact ⟨_, rfl⟩ | skip)
          exact ⟨_, _, _, _, rfl, rfl, hl4, NdR.eq (by simp) (NdR.mk (nl1 := ((([] : List ByteArray)) ++ (y :: yr)).isEmpty) (z1 := 1) (nl2 := ([] : List D).isEmpty) (z2 := 6) (ds := ([] : List D)) (by simp) (by simp) (fun h => by first | (simp at h; done) | (have hl := hds.length; exact List.length_eq_zero_iff.mp hl.symm)) (by simp) hds)⟩
         | cons d0 ds =>
          refine ATT.finz hQ Tryz.func150 c150res (by first | exact .inl rfl | exact .inr ⟨_, rfl⟩) ?_
          simp
          all_goals (first | omega | exact ⟨_, rfl⟩ | skip)
          exact ⟨_, _, _, _, rfl, rfl, hl4, NdR.eq (by simp) (NdR.mk (nl1 := ((([] : List ByteArray)) ++ (y :: yr)).isEmpty) (z1 := 1) (nl2 := (d0 :: ds).isEmpty) (z2 := 6) (ds := (d0 :: ds)) (by simp) (by simp) (fun h => by first | (simp at h; done) | (have hl := hds.length; exact List.length_eq_zero_iff.mp hl.symm)) (by simp) hds)⟩
     | cons n0 nr =>
      by_cases h11 : t1.k = 11
      ·simp only [eq_true h11, ne_eq, not_true_eq_false, and_false, if_false] at hQ hin hinb
       simp
       refine ATT.callM Tryz.func150 60 [0] (f49_ok L i (d + 1) 0 11 t1 ht1) rfl (by simp) (by simp) (by simp) (by simp) (by simp) ?_
       simp [c150t, eq_true h11]
       have hT := f31_ok L i (d + 1) hL (by rw [hs1]; exact hwf) ((n0 :: nr)) hdn (.int .i64 10) (.str ⟨#[]⟩) (.int .i64 t.a) (.int .i64 ((n0 :: nr) : List ByteArray).length)
       rw [hs1] at hT
       refine ATT.callA Tryz.func150 60 [0, 2] [0] 0 0 (hT) (by simp) (by simp) (by simp) (by simp) (by simp) fun out hC hE => ?_
       cases hres : tempsS (t1 :: l1) with
       | out => exact absurd hres (tempsS_in _)
       | no a2 w2 =>
        simp only [hres, TQ] at hE
        obtain ⟨b, c, i2, ts, e1, e2, g1, g4⟩ := hE
        subst e1 e2
        refine ⟨by simp, ?_⟩
        simp [c150t]
        simp only [bodyS, hres, andThen_noE] at hQ
        have hd1 : ((d : Int) + 1 - 1) = d := by omega
        have hI : inI (d : Int) = true := inI_of (by omega) (by omega)
        refine ATT.callA Tryz.func150 60 [0, 2] [0] 0 1 (f32_no L i2 (d + 1) 11 w2 g4 a2 (((n0 :: nr)) ++ ts) (.int .i64 10) (.str ⟨#[]⟩) (.int .i64 t.a) (.int .i64 ((n0 :: nr) : List ByteArray).length)) (by simp) (by simp) (by simp) (by simp) (by simp) fun out hC hE => ?_
        obtain ⟨b, c, e1, e2⟩ := hE
        subst e1 e2
        refine ⟨by simp, ?_⟩
        simp [c150t]
        refine ATT.callM Tryz.func150 60 [0] (f51_no L i2 (d + 1) w2 g4 a2 11) rfl (by simp) (by simp) (by simp) (by simp) (by simp) ?_
        simp [c150t, hd1, hI]
        have h0 : NdRL [] ([] : List D) := by simp [NdRL]
        cases ts with
        | nil =>
         refine ATT.finz hQ Tryz.func150 c150res (by first | exact .inl rfl | exact .inr ⟨_, rfl⟩) ?_
         simp
         all_goals (first | omega | exact ⟨_, rfl⟩ | skip)
         exact ⟨_, _, _, _, _, rfl, rfl, g1, by omega, ⟨.mk 10 ⟨#[]⟩ t.a ((n0 :: nr) : List ByteArray).length (((n0 :: nr)) ++ []) [], NdR.eq (by simp) (NdR.mk (nl1 := (((n0 :: nr)) ++ []).isEmpty) (z1 := 1) (nl2 := ([] : List D).isEmpty) (z2 := 6) (ds := ([] : List D)) (by simp) (by simp) (fun h => by first | (simp at h; done) | (have hl := h0.length; exact List.length_eq_zero_iff.mp hl.symm)) (by simp) h0)⟩, g4⟩
        | cons y yr =>
         refine ATT.finz hQ Tryz.func150 c150res (by first | exact .inl rfl | exact .inr ⟨_, rfl⟩) ?_
         simp
         all_goals (first | omega | exact ⟨_, rfl⟩ | skip)
         exact ⟨_, _, _, _, _, rfl, rfl, g1, by omega, ⟨.mk 10 ⟨#[]⟩ t.a ((n0 :: nr) : List ByteArray).length (((n0 :: nr)) ++ (y :: yr)) [], NdR.eq (by simp) (NdR.mk (nl1 := (((n0 :: nr)) ++ (y :: yr)).isEmpty) (z1 := 1) (nl2 := ([] : List D).isEmpty) (z2 := 6) (ds := ([] : List D)) (by simp) (by simp) (fun h => by first | (simp at h; done) | (have hl := h0.length; exact List.length_eq_zero_iff.mp hl.symm)) (by simp) h0)⟩, g4⟩
       | ok ts l2 =>
        simp only [hres, TQ] at hE
        obtain ⟨b, c, i2, e1, e2, hl2⟩ := hE
        subst e1 e2
        refine ⟨by simp, ?_⟩
        simp [c150t]
        have hw2 := (tempsS_short hwf hres).1
        have hin3 : stmtsS k (d + 1) 11 [] l2 ≠ .out := fun e => hinb (by simp [bodyS, hres, e, Res.andThen])
        simp only [bodyS, hres, andThen_okE] at hQ
        have hSt := f32_ok k (fun m h => ihE m (by omega)) L i2 (d + 1) (by omega) hL (by rw [hl2]; exact hw2) 11 (by rw [hl2]; exact hin3) (((n0 :: nr)) ++ ts) (.int .i64 10) (.str ⟨#[]⟩) (.int .i64 t.a) (.int .i64 ((n0 :: nr) : List ByteArray).length)
        rw [hl2] at hSt
        refine ATT.callA Tryz.func150 60 [0, 2] [0] 0 1 (hSt) (by simp) (by simp) (by simp) (by simp) (by simp) fun out hC hE => ?_
        cases hst : stmtsS k (d + 1) 11 [] l2 with
        | out => exact absurd hst hin3
        | no a2 w2 =>
         simp only [hst, SQ] at hE
         obtain ⟨b, c, i3, d2, ks, ds, e1, e2, g1, g2, hds, g4⟩ := hE
         subst e1 e2
         simp only [hst, andThen_noE] at hQ
         refine ⟨by simp, ?_⟩
         have hd1 : ((d2 : Int) - 1) = ((d2 - 1 : Nat) : Int) := by omega
         have hI : inI ((d2 - 1 : Nat) : Int) = true := inI_of (by omega) (by omega)
         simp [c150t]
         refine ATT.callM Tryz.func150 60 [0] (f51_no L i3 d2 w2 g4 a2 11) rfl (by simp) (by simp) (by simp) (by simp) (by simp) ?_
         simp [c150t, hd1, hI]
         cases ts with
         | nil =>
          cases ds with
          | nil =>
           refine ATT.finz hQ Tryz.func150 c150res (by first | exact .inl rfl | exact .inr ⟨_, rfl⟩) ?_
           simp
           all_goals (first | omega | exact ⟨_, rfl⟩ | skip)
           exact ⟨_, _, _, _, _, rfl, rfl, g1, by omega, ⟨.mk 10 ⟨#[]⟩ t.a ((n0 :: nr) : List ByteArray).length (((n0 :: nr)) ++ []) ks, NdR.eq (by simp) (NdR.mk (nl1 := (((n0 :: nr)) ++ []).isEmpty) (z1 := 1) (nl2 := ([] : List D).isEmpty) (z2 := 6) (ds := ([] : List D)) (by simp) (by simp) (fun h => by first | (simp at h; done) | (have hl := hds.length; exact List.length_eq_zero_iff.mp hl.symm)) (by simp) hds)⟩, g4⟩
          | cons d0 ds =>
           refine ATT.finz hQ Tryz.func150 c150res (by first | exact .inl rfl | exact .inr ⟨_, rfl⟩) ?_
           simp
           all_goals (first | omega | exact ⟨_, rfl⟩ | skip)
           exact ⟨_, _, _, _, _, rfl, rfl, g1, by omega, ⟨.mk 10 ⟨#[]⟩ t.a ((n0 :: nr) : List ByteArray).length (((n0 :: nr)) ++ []) ks, NdR.eq (by simp) (NdR.mk (nl1 := (((n0 :: nr)) ++ []).isEmpty) (z1 := 1) (nl2 := (d0 :: ds).isEmpty) (z2 := 6) (ds := (d0 :: ds)) (by simp) (by simp) (fun h => by first | (simp at h; done) | (have hl := hds.length; exact List.length_eq_zero_iff.mp hl.symm)) (by simp) hds)⟩, g4⟩
         | cons y yr =>
          cases ds with
          | nil =>
           refine ATT.finz hQ Tryz.func150 c150res (by first | exact .inl rfl | exact .inr ⟨_, rfl⟩) ?_
           simp
           all_goals (first | omega | exact ⟨_, rfl⟩ | skip)
           exact ⟨_, _, _, _, _, rfl, rfl, g1, by omega, ⟨.mk 10 ⟨#[]⟩ t.a ((n0 :: nr) : List ByteArray).length (((n0 :: nr)) ++ (y :: yr)) ks, NdR.eq (by simp) (NdR.mk (nl1 := (((n0 :: nr)) ++ (y :: yr)).isEmpty) (z1 := 1) (nl2 := ([] : List D).isEmpty) (z2 := 6) (ds := ([] : List D)) (by simp) (by simp) (fun h => by first | (simp at h; done) | (have hl := hds.length; exact List.length_eq_zero_iff.mp hl.symm)) (by simp) hds)⟩, g4⟩
          | cons d0 ds =>
           refine ATT.finz hQ Tryz.func150 c150res (by first | exact .inl rfl | exact .inr ⟨_, rfl⟩) ?_
           simp
           all_goals (first | omega | exact ⟨_, rfl⟩ | skip)
           exact ⟨_, _, _, _, _, rfl, rfl, g1, by omega, ⟨.mk 10 ⟨#[]⟩ t.a ((n0 :: nr) : List ByteArray).length (((n0 :: nr)) ++ (y :: yr)) ks, NdR.eq (by simp) (NdR.mk (nl1 := (((n0 :: nr)) ++ (y :: yr)).isEmpty) (z1 := 1) (nl2 := (d0 :: ds).isEmpty) (z2 := 6) (ds := (d0 :: ds)) (by simp) (by simp) (fun h => by first | (simp at h; done) | (have hl := hds.length; exact List.length_eq_zero_iff.mp hl.symm)) (by simp) hds)⟩, g4⟩
        | ok ks l3 =>
         simp only [hst, SQ] at hE
         obtain ⟨b, c, i3, ds, e1, e2, hl3, hds⟩ := hE
         subst e1 e2
         simp only [hst, andThen_okE] at hQ
         have hk3 := stmtsS_end _ _ _ _ _ _ _ hst
         obtain ⟨t8, l8, hq⟩ := ((pres k).stmts hw2 hst).1.1.cons
         subst hq
         have ht8 := (drop_at hl3).1
         have hl4 := (drop_at hl3).2
         refine ⟨by simp, ?_⟩
         have hd1 : ((d : Int) + 1 - 1) = d := by omega
         have hI : inI (d : Int) = true := inI_of (by omega) (by omega)
         simp [c150t]
         refine ATT.callM Tryz.func150 60 [0] (f51_ok L hLl i3 (d + 1) 0 11 (by decide) t8 ht8 hk3) rfl (by simp) (by simp) (by simp) (by simp) (by simp) ?_
         simp [c150t, tkD, tokD, hd1, hI]
         cases ts with
         | nil =>
          cases ds with
          | nil =>
           refine ATT.finz hQ Tryz.func150 c150res (by first | exact .inl rfl | exact .inr ⟨_, rfl⟩) ?_
           simp
           all_goals (first | omega | exact ⟨_, rfl⟩ | skip)
           exact ⟨_, _, _, _, rfl, rfl, hl4, NdR.eq (by simp) (NdR.mk (nl1 := (((n0 :: nr)) ++ []).isEmpty) (z1 := 1) (nl2 := ([] : List D).isEmpty) (z2 := 6) (ds := ([] : List D)) (by simp) (by simp) (fun h => by first | (simp at h; done) | (have hl := hds.length; exact List.length_eq_zero_iff.mp hl.symm)) (by simp) hds)⟩
          | cons d0 ds =>
           refine ATT.finz hQ Tryz.func150 c150res (by first | exact .inl rfl | exact .inr ⟨_, rfl⟩) ?_
           simp
           all_goals (first | omega | exact ⟨_, rfl⟩ | skip)
           exact ⟨_, _, _, _, rfl, rfl, hl4, NdR.eq (by simp) (NdR.mk (nl1 := (((n0 :: nr)) ++ []).isEmpty) (z1 := 1) (nl2 := (d0 :: ds).isEmpty) (z2 := 6) (ds := (d0 :: ds)) (by simp) (by simp) (fun h => by first | (simp at h; done) | (have hl := hds.length; exact List.length_eq_zero_iff.mp hl.symm)) (by simp) hds)⟩
         | cons y yr =>
          cases ds with
          | nil =>
           refine ATT.finz hQ Tryz.func150 c150res (by first | exact .inl rfl | exact .inr ⟨_, rfl⟩) ?_
           simp
           all_goals (first | omega | exact ⟨_, rfl⟩ | skip)
           exact ⟨_, _, _, _, rfl, rfl, hl4, NdR.eq (by simp) (NdR.mk (nl1 := (((n0 :: nr)) ++ (y :: yr)).isEmpty) (z1 := 1) (nl2 := ([] : List D).isEmpty) (z2 := 6) (ds := ([] : List D)) (by simp) (by simp) (fun h => by first | (simp at h; done) | (have hl := hds.length; exact List.length_eq_zero_iff.mp hl.symm)) (by simp) hds)⟩
          | cons d0 ds =>
           refine ATT.finz hQ Tryz.func150 c150res (by first | exact .inl rfl | exact .inr ⟨_, rfl⟩) ?_
           simp
           all_goals (first | omega | exact ⟨_, rfl⟩ | skip)
           exact ⟨_, _, _, _, rfl, rfl, hl4, NdR.eq (by simp) (NdR.mk (nl1 := (((n0 :: nr)) ++ (y :: yr)).isEmpty) (z1 := 1) (nl2 := (d0 :: ds).isEmpty) (z2 := 6) (ds := (d0 :: ds)) (by simp) (by simp) (fun h => by first | (simp at h; done) | (have hl := hds.length; exact List.length_eq_zero_iff.mp hl.symm)) (by simp) hds)⟩
      ·simp only [eq_false h11, List.length_cons, ne_eq, not_false_eq_true, and_true, Nat.add_one_ne_zero, if_true] at hQ hin hinb
       simp
       refine ATT.callM Tryz.func150 60 [0] (f49_ok L i (d + 1) 0 11 t1 ht1) rfl (by simp) (by simp) (by simp) (by simp) (by simp) ?_
       simp [c150t, h11]
       by_cases h12 : t1.k = 12
       ·simp only [eq_true h12, if_true] at hQ hin hinb
        have hwfB := (hwf.tail (by simp only [kd_cons, h12]; decide)).1
        simp only [List.tail_cons] at hwfB
        refine ATT.callM Tryz.func150 60 [0] (f51_ok L hLl i (d + 1) 0 12 (by decide) t1 ht1 h12) rfl (by simp) (by simp) (by simp) (by simp) (by simp) ?_
        simp [c150t, tkD, tokD]
        have hT := f31_ok L (i + 1) (d + 1) hL (by rw [hl1]; exact hwfB) ((n0 :: nr)) hdn (.int .i64 10) (.str ⟨#[]⟩) (.int .i64 t.a) (.int .i64 ((n0 :: nr) : List ByteArray).length)
        rw [hl1] at hT
        refine ATT.callA Tryz.func150 60 [0, 2] [0] 0 0 (hT) (by simp) (by simp) (by simp) (by simp) (by simp) fun out hC hE => ?_
        cases hres : tempsS (l1) with
        | out => exact absurd hres (tempsS_in _)
        | no a2 w2 =>
         simp only [hres, TQ] at hE
         obtain ⟨b, c, i2, ts, e1, e2, g1, g4⟩ := hE
         subst e1 e2
         refine ⟨by simp, ?_⟩
         simp [c150t]
         simp only [bodyS, hres, andThen_noE] at hQ
         have hd1 : ((d : Int) + 1 - 1) = d := by omega
         have hI : inI (d : Int) = true := inI_of (by omega) (by omega)
         refine ATT.callA Tryz.func150 60 [0, 2] [0] 0 1 (f32_no L i2 (d + 1) 11 w2 g4 a2 (((n0 :: nr)) ++ ts) (.int .i64 10) (.str ⟨#[]⟩) (.int .i64 t.a) (.int .i64 ((n0 :: nr) : List ByteArray).length)) (by simp) (by simp) (by simp) (by simp) (by simp) fun out hC hE => ?_
         obtain ⟨b, c, e1, e2⟩ := hE
         subst e1 e2
         refine ⟨by simp, ?_⟩
         simp [c150t]
         refine ATT.callM Tryz.func150 60 [0] (f51_no L i2 (d + 1) w2 g4 a2 11) rfl (by simp) (by simp) (by simp) (by simp) (by simp) ?_
         simp [c150t, hd1, hI]
         have h0 : NdRL [] ([] : List D) := by simp [NdRL]
         cases ts with
         | nil =>
          refine ATT.finz hQ Tryz.func150 c150res (by first | exact .inl rfl | exact .inr ⟨_, rfl⟩) ?_
          simp
          all_goals (first | omega | exact ⟨_, rfl⟩ | skip)
          exact ⟨_, _, _, _, _, rfl, rfl, g1, by omega, ⟨.mk 10 ⟨#[]⟩ t.a ((n0 :: nr) : List ByteArray).length (((n0 :: nr)) ++ []) [], NdR.eq (by simp) (NdR.mk (nl1 := (((n0 :: nr)) ++ []).isEmpty) (z1 := 1) (nl2 := ([] : List D).isEmpty) (z2 := 6) (ds := ([] : List D)) (by simp) (by simp) (fun h => by first | (simp at h; done) | (have hl := h0.length; exact List.length_eq_zero_iff.mp hl.symm)) (by simp) h0)⟩, g4⟩
         | cons y yr =>
          refine ATT.finz hQ Tryz.func150 c150res (by first | exact .inl rfl | exact .inr ⟨_, rfl⟩) ?_
          simp
          all_goals (first | omega | exact ⟨_, rfl⟩ | skip)
          exact ⟨_, _, _, _, _, rfl, rfl, g1, by omega, ⟨.mk 10 ⟨#[]⟩ t.a ((n0 :: nr) : List ByteArray).length (((n0 :: nr)) ++ (y :: yr)) [], NdR.eq (by simp) (NdR.mk (nl1 := (((n0 :: nr)) ++ (y :: yr)).isEmpty) (z1 := 1) (nl2 := ([] : List D).isEmpty) (z2 := 6) (ds := ([] : List D)) (by simp) (by simp) (fun h => by first | (simp at h; done) | (have hl := h0.length; exact List.length_eq_zero_iff.mp hl.symm)) (by simp) h0)⟩, g4⟩
        | ok ts l2 =>
         simp only [hres, TQ] at hE
         obtain ⟨b, c, i2, e1, e2, hl2⟩ := hE
         subst e1 e2
         refine ⟨by simp, ?_⟩
         simp [c150t]
         have hw2 := (tempsS_short hwfB hres).1
         have hin3 : stmtsS k (d + 1) 11 [] l2 ≠ .out := fun e => hinb (by simp [bodyS, hres, e, Res.andThen])
         simp only [bodyS, hres, andThen_okE] at hQ
         have hSt := f32_ok k (fun m h => ihE m (by omega)) L i2 (d + 1) (by omega) hL (by rw [hl2]; exact hw2) 11 (by rw [hl2]; exact hin3) (((n0 :: nr)) ++ ts) (.int .i64 10) (.str ⟨#[]⟩) (.int .i64 t.a) (.int .i64 ((n0 :: nr) : List ByteArray).length)
         rw [hl2] at hSt
         refine ATT.callA Tryz.func150 60 [0, 2] [0] 0 1 (hSt) (by simp) (by simp) (by simp) (by simp) (by simp) fun out hC hE => ?_
         cases hst : stmtsS k (d + 1) 11 [] l2 with
         | out => exact absurd hst hin3
         | no a2 w2 =>
          simp only [hst, SQ] at hE
          obtain ⟨b, c, i3, d2, ks, ds, e1, e2, g1, g2, hds, g4⟩ := hE
          subst e1 e2
          simp only [hst, andThen_noE] at hQ
          refine ⟨by simp, ?_⟩
          have hd1 : ((d2 : Int) - 1) = ((d2 - 1 : Nat) : Int) := by omega
          have hI : inI ((d2 - 1 : Nat) : Int) = true := inI_of (by omega) (by omega)
          simp [c150t]
          refine ATT.callM Tryz.func150 60 [0] (f51_no L i3 d2 w2 g4 a2 11) rfl (by simp) (by simp) (by simp) (by simp) (by simp) ?_
          simp [c150t, hd1, hI]
          cases ts with
          | nil =>
           cases ds with
           | nil =>
            refine ATT.finz hQ Tryz.func150 c150res (by first | exact .inl rfl | exact .inr ⟨_, rfl⟩) ?_
            simp
            all_goals (first | omega | exact ⟨_, rfl⟩ | skip)
            exact ⟨_, _, _, _, _, rfl, rfl, g1, by omega, ⟨.mk 10 ⟨#[]⟩ t.a ((n0 :: nr) : List ByteArray).length (((n0 :: nr)) ++ []) ks, NdR.eq (by simp) (NdR.mk (nl1 := (((n0 :: nr)) ++ []).isEmpty) (z1 := 1) (nl2 := ([] : List D).isEmpty) (z2 := 6) (ds := ([] : List D)) (by simp) (by simp) (fun h => by first | (simp at h; done) | (have hl := hds.length; exact List.length_eq_zero_iff.mp hl.symm)) (by simp) hds)⟩, g4⟩
           | cons d0 ds =>
            refine ATT.finz hQ Tryz.func150 c150res (by first | exact .inl rfl | exact .inr ⟨_, rfl⟩) ?_
            simp
            all_goals (first | omega | exact ⟨_, rfl⟩ | skip)
            exact ⟨_, _, _, _, _, rfl, rfl, g1, by omega, ⟨.mk 10 ⟨#[]⟩ t.a ((n0 :: nr) : List ByteArray).length (((n0 :: nr)) ++ []) ks, NdR.eq (by simp) (NdR.mk (nl1 := (((n0 :: nr)) ++ []).isEmpty) (z1 := 1) (nl2 := (d0 :: ds).isEmpty) (z2 := 6) (ds := (d0 :: ds)) (by simp) (by simp) (fun h => by first | (simp at h; done) | (have hl := hds.length; exact List.length_eq_zero_iff.mp hl.symm)) (by simp) hds)⟩, g4⟩
          | cons y yr =>
           cases ds with
           | nil =>
            refine ATT.finz hQ Tryz.func150 c150res (by first | exact .inl rfl | exact .inr ⟨_, rfl⟩) ?_
            simp
            all_goals (first | omega | exact ⟨_, rfl⟩ | skip)
            exact ⟨_, _, _, _, _, rfl, rfl, g1, by omega, ⟨.mk 10 ⟨#[]⟩ t.a ((n0 :: nr) : List ByteArray).length (((n0 :: nr)) ++ (y :: yr)) ks, NdR.eq (by simp) (NdR.mk (nl1 := (((n0 :: nr)) ++ (y :: yr)).isEmpty) (z1 := 1) (nl2 := ([] : List D).isEmpty) (z2 := 6) (ds := ([] : List D)) (by simp) (by simp) (fun h => by first | (simp at h; done) | (have hl := hds.length; exact List.length_eq_zero_iff.mp hl.symm)) (by simp) hds)⟩, g4⟩
           | cons d0 ds =>
            refine ATT.finz hQ Tryz.func150 c150res (by first | exact .inl rfl | exact .inr ⟨_, rfl⟩) ?_
            simp
            all_goals (first | omega | exact ⟨_, rfl⟩ | skip)
            exact ⟨_, _, _, _, _, rfl, rfl, g1, by omega, ⟨.mk 10 ⟨#[]⟩ t.a ((n0 :: nr) : List ByteArray).length (((n0 :: nr)) ++ (y :: yr)) ks, NdR.eq (by simp) (NdR.mk (nl1 := (((n0 :: nr)) ++ (y :: yr)).isEmpty) (z1 := 1) (nl2 := (d0 :: ds).isEmpty) (z2 := 6) (ds := (d0 :: ds)) (by simp) (by simp) (fun h => by first | (simp at h; done) | (have hl := hds.length; exact List.length_eq_zero_iff.mp hl.symm)) (by simp) hds)⟩, g4⟩
         | ok ks l3 =>
          simp only [hst, SQ] at hE
          obtain ⟨b, c, i3, ds, e1, e2, hl3, hds⟩ := hE
          subst e1 e2
          simp only [hst, andThen_okE] at hQ
          have hk3 := stmtsS_end _ _ _ _ _ _ _ hst
          obtain ⟨t8, l8, hq⟩ := ((pres k).stmts hw2 hst).1.1.cons
          subst hq
          have ht8 := (drop_at hl3).1
          have hl4 := (drop_at hl3).2
          refine ⟨by simp, ?_⟩
          have hd1 : ((d : Int) + 1 - 1) = d := by omega
          have hI : inI (d : Int) = true := inI_of (by omega) (by omega)
          simp [c150t]
          refine ATT.callM Tryz.func150 60 [0] (f51_ok L hLl i3 (d + 1) 0 11 (by decide) t8 ht8 hk3) rfl (by simp) (by simp) (by simp) (by simp) (by simp) ?_
          simp [c150t, tkD, tokD, hd1, hI]
          cases ts with
          | nil =>
           cases ds with
           | nil =>
            refine ATT.finz hQ Tryz.func150 c150res (by first | exact .inl rfl | exact .inr ⟨_, rfl⟩) ?_
            simp
            all_goals (first | omega | exact ⟨_, rfl⟩ | skip)
            exact ⟨_, _, _, _, rfl, rfl, hl4, NdR.eq (by simp) (NdR.mk (nl1 := (((n0 :: nr)) ++ []).isEmpty) (z1 := 1) (nl2 := ([] : List D).isEmpty) (z2 := 6) (ds := ([] : List D)) (by simp) (by simp) (fun h => by first | (simp at h; done) | (have hl := hds.length; exact List.length_eq_zero_iff.mp hl.symm)) (by simp) hds)⟩
           | cons d0 ds =>
            refine ATT.finz hQ Tryz.func150 c150res (by first | exact .inl rfl | exact .inr ⟨_, rfl⟩) ?_
            simp
            all_goals (first | omega | exact ⟨_, rfl⟩ | skip)
            exact ⟨_, _, _, _, rfl, rfl, hl4, NdR.eq (by simp) (NdR.mk (nl1 := (((n0 :: nr)) ++ []).isEmpty) (z1 := 1) (nl2 := (d0 :: ds).isEmpty) (z2 := 6) (ds := (d0 :: ds)) (by simp) (by simp) (fun h => by first | (simp at h; done) | (have hl := hds.length; exact List.length_eq_zero_iff.mp hl.symm)) (by simp) hds)⟩
          | cons y yr =>
           cases ds with
           | nil =>
            refine ATT.finz hQ Tryz.func150 c150res (by first | exact .inl rfl | exact .inr ⟨_, rfl⟩) ?_
            simp
            all_goals (first | omega | exact ⟨_, rfl⟩ | skip)
            exact ⟨_, _, _, _, rfl, rfl, hl4, NdR.eq (by simp) (NdR.mk (nl1 := (((n0 :: nr)) ++ (y :: yr)).isEmpty) (z1 := 1) (nl2 := ([] : List D).isEmpty) (z2 := 6) (ds := ([] : List D)) (by simp) (by simp) (fun h => by first | (simp at h; done) | (have hl := hds.length; exact List.length_eq_zero_iff.mp hl.symm)) (by simp) hds)⟩
           | cons d0 ds =>
            refine ATT.finz hQ Tryz.func150 c150res (by first | exact .inl rfl | exact .inr ⟨_, rfl⟩) ?_
            simp
            all_goals (first | omega | exact ⟨_, rfl⟩ | skip)
            exact ⟨_, _, _, _, rfl, rfl, hl4, NdR.eq (by simp) (NdR.mk (nl1 := (((n0 :: nr)) ++ (y :: yr)).isEmpty) (z1 := 1) (nl2 := (d0 :: ds).isEmpty) (z2 := 6) (ds := (d0 :: ds)) (by simp) (by simp) (fun h => by first | (simp at h; done) | (have hl := hds.length; exact List.length_eq_zero_iff.mp hl.symm)) (by simp) hds)⟩
       ·simp only [eq_false h12, if_false] at hQ
        refine ATT.callM Tryz.func150 60 [0] (f51_bad L i (d + 1) 0 12 t1 ht1 h12) rfl (by simp) (by simp) (by simp) (by simp) (by simp) ?_
        simp [c150t]
        have hd1 : ((d : Int) + 1 - 1) = d := by omega
        have hI : inI (d : Int) = true := inI_of (by omega) (by omega)
        have h20 : (20 : Int) ≠ 0 := by decide
        have hi := at_lt ht1
        refine ATT.callA Tryz.func150 60 [0, 2] [0] 0 0 (f31_no L i (d + 1) 20 h20 t1.a ((n0 :: nr)) (.int .i64 10) (.str ⟨#[]⟩) (.int .i64 t.a) (.int .i64 ((n0 :: nr) : List ByteArray).length)) (by simp) (by simp) (by simp) (by simp) (by simp) fun out hC hE => ?_
        obtain ⟨b, c, e1, e2⟩ := hE
        subst e1 e2
        refine ⟨by simp, ?_⟩
        simp [c150t]
        refine ATT.callA Tryz.func150 60 [0, 2] [0] 0 1 (f32_no L i (d + 1) 11 20 h20 t1.a ((n0 :: nr)) (.int .i64 10) (.str ⟨#[]⟩) (.int .i64 t.a) (.int .i64 ((n0 :: nr) : List ByteArray).length)) (by simp) (by simp) (by simp) (by simp) (by simp) fun out hC hE => ?_
        obtain ⟨b, c, e1, e2⟩ := hE
        subst e1 e2
        refine ⟨by simp, ?_⟩
        simp [c150t]
        refine ATT.callM Tryz.func150 60 [0] (f51_no L i (d + 1) 20 h20 t1.a 11) rfl (by simp) (by simp) (by simp) (by simp) (by simp) ?_
        simp [c150t, hd1, hI]
        refine ATT.finz hQ Tryz.func150 c150res (by first | exact .inl rfl | exact .inr ⟨_, rfl⟩) ?_
        simp
        all_goals (first | omega | exact ⟨_, rfl⟩ | skip)
        exact ⟨_, _, _, _, _, rfl, rfl, hi, by omega, ⟨.mk 10 ⟨#[]⟩ t.a ((n0 :: nr) : List ByteArray).length ((n0 :: nr)) [], NdR.mk (by simp) (by simp) (by simp) (by simp) (by simp [NdRL])⟩, h20⟩
  ·have hd1 : ((d' : Int) - 1) = ((d' - 1 : Nat) : Int) := by omega
   have hI : inI ((d' - 1 : Nat) : Int) = true := inI_of (by omega) (by omega)
   subst hRk
   simp [c150t]
   refine ATT.callM Tryz.func150 60 [0] (f49_no L i d' e he a 16) rfl (by simp) (by simp) (by simp) (by simp) (by simp) ?_
   simp [c150t]
   cases dn with
   | nil =>
    simp [c150t]
    refine ATT.callA Tryz.func150 60 [0, 2] [0] 0 0 (f31_no L i d' e he a (([] : List ByteArray)) (.int .i64 10) (.str ⟨#[]⟩) (.int .i64 t.a) (.int .i64 (([] : List ByteArray) : List ByteArray).length)) (by simp) (by simp) (by simp) (by simp) (by simp) fun out hC hE => ?_
    obtain ⟨b, c, e1, e2⟩ := hE
    subst e1 e2
    refine ⟨by simp, ?_⟩
    simp [c150t]
    refine ATT.callA Tryz.func150 60 [0, 2] [0] 0 1 (f32_no L i d' 11 e he a (([] : List ByteArray)) (.int .i64 10) (.str ⟨#[]⟩) (.int .i64 t.a) (.int .i64 (([] : List ByteArray) : List ByteArray).length)) (by simp) (by simp) (by simp) (by simp) (by simp) fun out hC hE => ?_
    obtain ⟨b, c, e1, e2⟩ := hE
    subst e1 e2
    refine ⟨by simp, ?_⟩
    simp [c150t]
    refine ATT.callM Tryz.func150 60 [0] (f51_no L i d' e he a 11) rfl (by simp) (by simp) (by simp) (by simp) (by simp) ?_
    simp [c150t, hd1, hI]
    refine ATT.finz hQ Tryz.func150 c150res (by first | exact .inl rfl | exact .inr ⟨_, rfl⟩) ?_
    simp
    all_goals (first | omega | exact ⟨_, rfl⟩ | skip)
    exact ⟨_, _, _, _, _, rfl, rfl, hi, by omega, ⟨.mk 10 ⟨#[]⟩ t.a (([] : List ByteArray) : List ByteArray).length (([] : List ByteArray)) [], NdR.mk (by simp) (by simp) (by simp) (by simp) (by simp [NdRL])⟩, he⟩
   | cons n0 nr =>
    simp
    refine ATT.callM Tryz.func150 60 [0] (f49_no L i d' e he a 11) rfl (by simp) (by simp) (by simp) (by simp) (by simp) ?_
    simp [c150t]
    refine ATT.callM Tryz.func150 60 [0] (f51_no L i d' e he a 12) rfl (by simp) (by simp) (by simp) (by simp) (by simp) ?_
    simp [c150t]
    refine ATT.callA Tryz.func150 60 [0, 2] [0] 0 0 (f31_no L i d' e he a ((n0 :: nr)) (.int .i64 10) (.str ⟨#[]⟩) (.int .i64 t.a) (.int .i64 ((n0 :: nr) : List ByteArray).length)) (by simp) (by simp) (by simp) (by simp) (by simp) fun out hC hE => ?_
    obtain ⟨b, c, e1, e2⟩ := hE
    subst e1 e2
    refine ⟨by simp, ?_⟩
    simp [c150t]
    refine ATT.callA Tryz.func150 60 [0, 2] [0] 0 1 (f32_no L i d' 11 e he a ((n0 :: nr)) (.int .i64 10) (.str ⟨#[]⟩) (.int .i64 t.a) (.int .i64 ((n0 :: nr) : List ByteArray).length)) (by simp) (by simp) (by simp) (by simp) (by simp) fun out hC hE => ?_
    obtain ⟨b, c, e1, e2⟩ := hE
    subst e1 e2
    refine ⟨by simp, ?_⟩
    simp [c150t]
    refine ATT.callM Tryz.func150 60 [0] (f51_no L i d' e he a 11) rfl (by simp) (by simp) (by simp) (by simp) (by simp) ?_
    simp [c150t, hd1, hI]
    refine ATT.finz hQ Tryz.func150 c150res (by first | exact .inl rfl | exact .inr ⟨_, rfl⟩) ?_
    simp
    all_goals (first | omega | exact ⟨_, rfl⟩ | skip)
    exact ⟨_, _, _, _, _, rfl, rfl, hi, by omega, ⟨.mk 10 ⟨#[]⟩ t.a ((n0 :: nr) : List ByteArray).length ((n0 :: nr)) [], NdR.mk (by simp) (by simp) (by simp) (by simp) (by simp [NdRL])⟩, he⟩
end Go.SL
namespace Go.SL
open Go.Proofs
set_option maxRecDepth 10000
set_option maxHeartbeats 1000000 in
theorem f53_ok (n : Nat) (ihE : ExprR n) (ihC : CascR n) : ExprR (n + 1) := by
 intro L i d hd hL hl hin
 obtain ⟨t, r, hs⟩ := hl.cons
 have ht := (drop_at hs).1
 have hr := (drop_at hs).2
 have hLl := hL.2.2
 have hl0 := hl
 rw [hs] at hl hin ⊢
 simp only [exprS, kd_cons, pl_cons, tx_cons, List.tail_cons] at hin ⊢
 by_cases h1 : t.k = 1
 ·have hw2 := (hl.tail (by simp only [kd_cons, h1]; decide)).1
  simp only [List.tail_cons] at hw2
  obtain ⟨t2, l2, hq⟩ := hw2.cons
  subst hq
  have ht2 := (drop_at hr).1
  have hr2 := (drop_at hr).2
  have hi2 := at_lt ht2
  have hR2 : inR ((i : Int) + 1) L.length = true := by have := at_inR ht2; simpa using this
  have hI2 : inI ((i : Int) + 1) = true := inI_of (by omega) (by omega)
  have h0i : (0 : Int) ≤ (i : Int) + 1 := by omega
  refine AF.start' 60 Tryz.func53 rfl rfl c53call c53ok fun Q hQ => ?_
  simp [c53c, c53t]
  refine ATT.callRM Tryz.func53 60 [0] (f49_ok L i d 0 1 t ht) rfl (by simp) (by simp) (by simp) (by simp) (by simp) ?_
  simp [eq_true h1, hI2, ht2, tkD, tokD, h0i]
  simp only [kd_cons, eq_true h1, true_and, pl_cons, List.tail_cons] at hQ hin
  have hd1 : ((d : Int) + 1 - 1) = d := by omega
  have hI : inI (d : Int) = true := inI_of (by omega) (by omega)
  by_cases h7 : t2.k = 7
  ·simp only [eq_true h7, if_true] at hQ hin
   simp [c53t, eq_true h7]
   refine ATT.callM Tryz.func53 60 [0] (f50_ok L hLl i d 0 t ht (by rw [h1]; decide)) rfl (by simp) (by simp) (by simp) (by simp) (by simp) ?_
   simp [c53t, tkD, tokD]
   by_cases h40 : d = 40
   ·simp only [eq_true h40, if_true] at hQ
    refine ATT.callM Tryz.func53 60 [0] (f84_bad L (i + 1) d h40 0 t2 ht2) rfl (by simp) (by simp) (by simp) (by simp) (by simp) ?_
    simp [c53t]
    refine ATT.callRA Tryz.func53 60 [0] [] 0 0 (f53_no L (i + 1) (d + 1) 3 t2.a hi2 (by decide)) (by simp) (by simp) (by simp) (by simp) (by simp) fun out hC hE => ?_
    obtain ⟨v, b, c, e1, e2, x, hx, _⟩ := hE
    subst e1 e2
    refine ⟨by simp, ?_⟩
    obtain ⟨nl1_v, z1_v, nl2_v, z2_v, ds_v, hv_v, ha_v, hb_v, hc_v, hd_v, he_v⟩ := hx.shape
    have hw_v := hv_v
    subst hw_v
    simp [c53t, hd1, hI]
    refine ATT.finz hQ Tryz.func53 c53res (by first | exact .inl rfl | exact .inr ⟨_, rfl⟩) ?_
    simp
    all_goals (first | omega | exact ⟨_, rfl⟩ | skip)
    exact ⟨_, _, _, _, _, rfl, rfl, hi2, by omega, ⟨_, NdR.kids (k := 6) (t := t.t) (a := t.a) (n := 0) (.one hx)⟩, by decide⟩
   ·rw [if_neg h40] at hQ hin
    have hw3 := (hw2.tail (by simp only [kd_cons, h7]; decide)).1
    simp only [List.tail_cons] at hw3
    have hin2 : exprS n (d + 1) l2 ≠ .out := fun e => hin (by rw [e]; rfl)
    have hE := ihE L (i + 1 + 1) (d + 1) (by omega) hL (by rw [hr2]; exact hw3) (by rw [hr2]; exact hin2)
    rw [hr2] at hE
    refine ATT.callM Tryz.func53 60 [0] (f84_ok L hLl (i + 1) d (by omega) 0 t2 ht2 (by rw [h7]; decide)) rfl (by simp) (by simp) (by simp) (by simp) (by simp) ?_
    simp [c53t]
    refine ATT.callRS Tryz.func53 60 0 hE hin2 (by simp) (by simp) (by simp) (by simp) (fun a wh v i' d2 e g1 g2 g3 g4 => ?_) fun y l' v i' e hl' hφ => ?_
    ·obtain ⟨y, hy⟩ := g3
     simp only [e, andThen_noE] at hQ
     have hd2 : ((d2 : Int) - 1) = ((d2 - 1 : Nat) : Int) := by omega
     have hI2 : inI ((d2 - 1 : Nat) : Int) = true := inI_of (by omega) (by omega)
     obtain ⟨nl1_v, z1_v, nl2_v, z2_v, ds_v, hv_v, ha_v, hb_v, hc_v, hd_v, he_v⟩ := hy.shape
     have hw_v := hv_v
     subst hw_v
     simp [c53t, hd2, hI2]
     refine ATT.finz hQ Tryz.func53 c53res (by first | exact .inl rfl | exact .inr ⟨_, rfl⟩) ?_
     simp
     all_goals (first | omega | exact ⟨_, rfl⟩ | skip)
     exact ⟨_, _, _, _, _, rfl, rfl, g1, by omega, ⟨_, NdR.kids (k := 6) (t := t.t) (a := t.a) (n := 0) (.one hy)⟩, g4⟩
    ·simp only [e, andThen_okE] at hQ
     obtain ⟨nl1_v, z1_v, nl2_v, z2_v, ds_v, hv_v, ha_v, hb_v, hc_v, hd_v, he_v⟩ := hφ.shape
     have hw_v := hv_v
     subst hw_v
     simp [c53t, hd1, hI]
     refine ATT.finz hQ Tryz.func53 c53res (by first | exact .inl rfl | exact .inr ⟨_, rfl⟩) ?_
     simp
     all_goals (first | omega | exact ⟨_, rfl⟩ | skip)
     exact ⟨_, _, _, _, rfl, rfl, hl', NdR.kids (.one hφ)⟩
  ·simp only [eq_false h7, if_false] at hQ hin
   simp [c53t, h7]
   have hC := ihC L i d hd hL hl0 (by rw [hs]; exact hin)
   rw [hs] at hC
   refine ATT.callS Tryz.func53 60 0 hC hin (by simp) (by simp) (by simp) (by simp) (fun a wh v i' d2 e g1 g2 g3 g4 => ?_) fun y l' v i' e hl' hφ => ?_
   ·obtain ⟨y, hy⟩ := g3
    simp only [e] at hQ
    obtain ⟨nl1_v, z1_v, nl2_v, z2_v, ds_v, hv_v, ha_v, hb_v, hc_v, hd_v, he_v⟩ := hy.shape
    have hw_v := hv_v
    subst hw_v
    simp
    refine ATT.fin' hQ Tryz.func53 c53res ?_
    exact ⟨by simp, _, _, _, _, _, rfl, rfl, g1, g2, ⟨_, hy⟩, g4⟩
   ·simp only [e] at hQ
    obtain ⟨nl1_v, z1_v, nl2_v, z2_v, ds_v, hv_v, ha_v, hb_v, hc_v, hd_v, he_v⟩ := hφ.shape
    have hw_v := hv_v
    subst hw_v
    simp
    refine ATT.fin' hQ Tryz.func53 c53res ?_
    exact ⟨by simp, _, _, _, _, rfl, rfl, hl', hφ⟩
 ·simp only [eq_false h1, false_and, if_false] at hin ⊢
  refine AF.start' 60 Tryz.func53 rfl rfl c53call c53ok fun Q hQ => ?_
  simp [c53c, c53t]
  refine ATT.callRM Tryz.func53 60 [0] (f49_ok L i d 0 1 t ht) rfl (by simp) (by simp) (by simp) (by simp) (by simp) ?_
  simp [c53t, h1]
  have hC := ihC L i d hd hL hl0 (by rw [hs]; exact hin)
  rw [hs] at hC
  refine ATT.callS Tryz.func53 60 0 hC hin (by simp) (by simp) (by simp) (by simp) (fun a wh v i' d2 e g1 g2 g3 g4 => ?_) fun y l' v i' e hl' hφ => ?_
  ·obtain ⟨y, hy⟩ := g3
   simp only [e] at hQ
   obtain ⟨nl1_v, z1_v, nl2_v, z2_v, ds_v, hv_v, ha_v, hb_v, hc_v, hd_v, he_v⟩ := hy.shape
   have hw_v := hv_v
   subst hw_v
   simp
   refine ATT.fin' hQ Tryz.func53 c53res ?_
   exact ⟨by simp, _, _, _, _, _, rfl, rfl, g1, g2, ⟨_, hy⟩, g4⟩
  ·simp only [e] at hQ
   obtain ⟨nl1_v, z1_v, nl2_v, z2_v, ds_v, hv_v, ha_v, hb_v, hc_v, hd_v, he_v⟩ := hφ.shape
   have hw_v := hv_v
   subst hw_v
   simp
   refine ATT.fin' hQ Tryz.func53 c53res ?_
   exact ⟨by simp, _, _, _, _, rfl, rfl, hl', hφ⟩
end Go.SL
namespace Go.SL
open Go.Proofs
set_option maxRecDepth 10000
theorem f112_ok (L : List Tk) (hL : L.length ≤ 5000) (i d : Nat) (hi : i ≤ L.length) (e : Int) (a j : Nat) (hj : j ≤ i) : MF Tryz.prog 112 [.ptr 0 0, .d (.int .i64 j)] [RP L i d e a] (.d (.bool (wholeS ((L.take i).drop j) 0))) [RP L i d e a] := by
 refine AF.start' 60 Tryz.func112 rfl rfl c112call c112ok fun Q hQ => ?_
 simp [c112c, c112t]
 generalize hR : wholeS ((L.take i).drop j) 0 = R at hQ
 refine ATT.loopG 60 c112l12.eq_1 (fun ((j, n) : Nat × Int) => i - j) (fun ((j, n) : Nat × Int) => wholeS ((L.take i).drop j) n = R ∧ j ≤ i ∧ n.natAbs ≤ j) (fun ((j, n) : Nat × Int) => [(0, .ptr 0 0), (5, .d (.int .i64 n)), (6, .d (.int .i64 j))]) (fun ((j, n) : Nat × Int) => [RP L i d e a]) (fun ((j, n) : Nat × Int) => []) ((j, 0)) (by (try dsimp only); exact ⟨hR, hj, by simp⟩) (by simp <;> omega) (by simp) (by simp) ?_
 intro ⟨j, n⟩ u w hI ih
 try simp only at hI ih
 obtain ⟨hw, hji, hn⟩ := hI
 have hIn : ∀ x : Int, x.natAbs ≤ 5001 → inI x = true := fun x hx => inI_of (by omega) (by omega)
 by_cases hlt : j < i
 ·have ht : L[j]? = some L[j] := List.getElem?_eq_getElem (by omega)
  have hdr : (L.take i).drop j = L[j] :: (L.take i).drop (j + 1) := by
   rw [List.drop_eq_getElem_cons (by simp; omega)]
   simp
  rw [hdr] at hw
  generalize L[j] = t at ht hw
  have hR2 := at_inR ht
  have hlt' : (j : Int) < i := by omega
  by_cases h8 : t.k = 8
  ·have n9 : ¬ t.k = 9 := by rw [h8]; decide
   simp only [wholeS, show depS t = 1 by simp [depS, h8]] at hw
   have hI := hIn (n + 1) (by omega)
   have hIi : inI ((i : Int) - 1) = true := hIn _ (by omega)
   have hIj : inI ((j : Int) + 1) = true := hIn _ (by omega)
   simp [c112t, ht, tkD, tokD, hlt', eq_true h8, n9, hI]
   by_cases hz : n + 1 = 0
   ·rw [if_pos (by omega)] at hw
    have hem : ((L.take i).drop (j + 1)).isEmpty = decide ((j : Int) = (i : Int) - 1) := by
     rw [Bool.eq_iff_iff]; simp only [List.isEmpty_iff, List.drop_eq_nil_iff, List.length_take, decide_eq_true_eq]; omega
    subst hw
    simp [c112t, hIi, eq_true hz]
    refine ATT.fin' hQ Tryz.func112 c112res ?_
    simp [hem]
    all_goals (first | omega | exact ⟨_, rfl⟩ | skip)
   ·rw [if_neg (by omega)] at hw
    simp [c112t, hIj, hz]
    refine ih (j + 1, n + 1) (by first | ((try dsimp only); omega) | (simp [ht, hR2, tkD, tokD, hlt', eq_true h8, n9, hI, hIi, hIj] <;> omega)) (by (try dsimp only); exact ⟨hw, by omega, by omega⟩) _ _ _ (by simp <;> omega) (by simp <;> omega) (by simp <;> omega)
  by_cases h17 : t.k = 17
  ·have n9 : ¬ t.k = 9 := by rw [h17]; decide
   simp only [wholeS, show depS t = 1 by simp [depS, h17]] at hw
   have hI := hIn (n + 1) (by omega)
   have hIi : inI ((i : Int) - 1) = true := hIn _ (by omega)
   have hIj : inI ((j : Int) + 1) = true := hIn _ (by omega)
   simp [c112t, ht, tkD, tokD, hlt', h8, eq_true h17, n9, hI]
   by_cases hz : n + 1 = 0
   ·rw [if_pos (by omega)] at hw
    have hem : ((L.take i).drop (j + 1)).isEmpty = decide ((j : Int) = (i : Int) - 1) := by
     rw [Bool.eq_iff_iff]; simp only [List.isEmpty_iff, List.drop_eq_nil_iff, List.length_take, decide_eq_true_eq]; omega
    subst hw
    simp [c112t, hIi, eq_true hz]
    refine ATT.fin' hQ Tryz.func112 c112res ?_
    simp [hem]
    all_goals (first | omega | exact ⟨_, rfl⟩ | skip)
   ·rw [if_neg (by omega)] at hw
    simp [c112t, hIj, hz]
    refine ih (j + 1, n + 1) (by first | ((try dsimp only); omega) | (simp [ht, hR2, tkD, tokD, hlt', h8, eq_true h17, n9, hI, hIi, hIj] <;> omega)) (by (try dsimp only); exact ⟨hw, by omega, by omega⟩) _ _ _ (by simp <;> omega) (by simp <;> omega) (by simp <;> omega)
  by_cases h9 : t.k = 9
  ·simp only [wholeS, show depS t = (-1) by simp [depS, h9]] at hw
   have hI := hIn (n - 1) (by omega)
   have hIi : inI ((i : Int) - 1) = true := hIn _ (by omega)
   have hIj : inI ((j : Int) + 1) = true := hIn _ (by omega)
   simp [c112t, ht, tkD, tokD, hlt', h8, h17, eq_true h9, hI]
   by_cases hz : n - 1 = 0
   ·rw [if_pos (by omega)] at hw
    have hem : ((L.take i).drop (j + 1)).isEmpty = decide ((j : Int) = (i : Int) - 1) := by
     rw [Bool.eq_iff_iff]; simp only [List.isEmpty_iff, List.drop_eq_nil_iff, List.length_take, decide_eq_true_eq]; omega
    subst hw
    simp [c112t, hIi, eq_true hz]
    refine ATT.fin' hQ Tryz.func112 c112res ?_
    simp [hem]
    all_goals (first | omega | exact ⟨_, rfl⟩ | skip)
   ·rw [if_neg (by omega)] at hw
    simp [c112t, hIj, hz]
    refine ih (j + 1, n + (-1)) (by first | ((try dsimp only); omega) | (simp [ht, hR2, tkD, tokD, hlt', h8, h17, eq_true h9, hI, hIi, hIj] <;> omega)) (by (try dsimp only); exact ⟨hw, by omega, by omega⟩) _ _ _ (by simp <;> omega) (by simp <;> omega) (by simp <;> omega)
  ·simp only [wholeS, show depS t = 0 by simp [depS, h8, h17, h9]] at hw
   have hI := hIn (n) (by omega)
   have hIi : inI ((i : Int) - 1) = true := hIn _ (by omega)
   have hIj : inI ((j : Int) + 1) = true := hIn _ (by omega)
   simp [c112t, ht, tkD, tokD, hlt', h8, h17, h9]
   by_cases hz : n = 0
   ·rw [if_pos (by omega)] at hw
    have hem : ((L.take i).drop (j + 1)).isEmpty = decide ((j : Int) = (i : Int) - 1) := by
     rw [Bool.eq_iff_iff]; simp only [List.isEmpty_iff, List.drop_eq_nil_iff, List.length_take, decide_eq_true_eq]; omega
    subst hw
    simp [c112t, hIi, eq_true hz]
    refine ATT.fin' hQ Tryz.func112 c112res ?_
    simp [hem]
    all_goals (first | omega | exact ⟨_, rfl⟩ | skip)
   ·rw [if_neg (by omega)] at hw
    simp [c112t, hIj, hz]
    refine ih (j + 1, n + 0) (by first | ((try dsimp only); omega) | (simp [ht, hR2, tkD, tokD, hlt', h8, h17, h9, hI, hIi, hIj] <;> omega)) (by (try dsimp only); exact ⟨hw, by omega, by omega⟩) _ _ _ (by simp <;> omega) (by simp <;> omega) (by simp <;> omega)
 ·have hlt' : ¬ (j : Int) < i := by omega
  have hnil : (L.take i).drop j = [] := List.drop_eq_nil_of_le (by simp; omega)
  rw [hnil] at hw
  simp only [wholeS] at hw
  subst hw
  simp [c112t, hlt']
  refine ATT.fin' hQ Tryz.func112 c112res ?_
  simp
  all_goals (first | omega | exact ⟨_, rfl⟩ | skip)
end Go.SL
namespace Go.SL
open Go.Proofs
set_option maxRecDepth 10000
theorem seg {L w l : List Tk} {i j : Nat} (h : L.drop i = w ++ l) (g : L.drop j = l) (hl : l ≠ []) : i ≤ j ∧ j ≤ L.length ∧ (L.take j).drop i = w := by
 have h1 := congrArg List.length h
 have h2 := congrArg List.length g
 have h3 := List.length_pos_iff.mpr hl
 simp only [List.length_drop, List.length_append] at h1 h2
 refine ⟨by omega, by omega, ?_⟩
 rw [List.drop_take, h, show j - i = w.length by omega]
 simp
set_option maxHeartbeats 1000000 in
theorem f85_semis (n : Nat) (ihM : ∀ m, m ≤ n → MsgR m) (L : List Tk) (i d : Nat) (hd : d ≤ 40) (hL : WF L) (x : Nd × Bool) (y : Nd) (ys : List Nd) (wv WD : D) (x2 : Bx) (v0 : Option Vec) (hys : x.1.kids = y :: ys) (hw : NdR y wv) (HM : NdR (.mk 9 x.1.t x.1.a 0 [] ys) (.agg [.int .i64 9, .str x.1.t, .int .i64 x.1.a, .int .i64 0, .sl true 0 [], WD]))
  (R : Res (List Nd)) (hwf : WF (L.drop i)) (hR : semisS n d [] (L.drop i) = R) (hin' : R ≠ .out) (Q : Out → H → Prop)
  (hQ : ∀ o h, RR GN NdR L d (R.andThen fun ms r' => .ok (.mk 8 ⟨#[]⟩ x.1.a 0 [] (x.1.kids.take 1 ++ .mk 9 x.1.t x.1.a 0 [] (x.1.kids.drop 1) :: ms)) r') o h → Q o h)
  {env : Env} {h : H} {ob : Bool} (ho : ob = true) (henv : subE env [(0, .ptr 0 0), (2, .ptr 1 0), (6, .ptr 3 0)]) (hh : ∃ u w, h = ⟨[RP L i d 0 0, .cells ZC 31, x2, .cells [.d (.int .i64 8), .d (.str ⟨#[]⟩), .d (.int .i64 x.1.a), .d (.int .i64 0), .d (.sl true 0 []), .vs 1 2 0 2] 31] ++ u, [v0, some ⟨false, 6, 0, [.d wv, .d (.agg [.int .i64 9, .str x.1.t, .int .i64 x.1.a, .int .i64 0, .sl true 0 [], WD])], 31⟩] ++ w⟩) :
  ATT Tryz.prog 87 (FD.of 85) Q ([.code (.loop c85l17), .blk 0, .code (.seq (.regT c85t 18) .ret)], env, h, ob) := by
 have hLl := hL.2.2
 refine ATT.loopG 60 c85l17.eq_1 (fun ((m, ms, dm, i, d', e, a) : Nat × List Nd × List D × Nat × Nat × Int × Nat) => m) (fun ((m, ms, dm, i, d', e, a) : Nat × List Nd × List D × Nat × Nat × Int × Nat) => NdRL ms dm ∧ m ≤ n ∧ ((e = 0 ∧ a = 0 ∧ d' = d ∧ WF (L.drop i) ∧ semisS m d ms (L.drop i) = R ∧ dm.length + (L.drop i).length ≤ 5000) ∨ (e ≠ 0 ∧ R = .no a e ∧ i < L.length ∧ (d ≤ d' ∧ d' ≤ 41) ∧ dm.length ≤ 5000))) (fun ((m, ms, dm, i, d', e, a) : Nat × List Nd × List D × Nat × Nat × Int × Nat) => [(0, .ptr 0 0), (2, .ptr 1 0), (6, .ptr 3 0)]) (fun ((m, ms, dm, i, d', e, a) : Nat × List Nd × List D × Nat × Nat × Int × Nat) => [RP L i d' e a, .cells ZC 31, x2, .cells [.d (.int .i64 8), .d (.str ⟨#[]⟩), .d (.int .i64 x.1.a), .d (.int .i64 0), .d (.sl true 0 []), .vs 1 (dm.length + 2) 0 (dm.length + 2)] 31]) (fun ((m, ms, dm, i, d', e, a) : Nat × List Nd × List D × Nat × Nat × Int × Nat) => [v0, some ⟨false, 6, 0, .d wv :: .d (.agg [.int .i64 9, .str x.1.t, .int .i64 x.1.a, .int .i64 0, .sl true 0 [], WD]) :: dm.map .d, 31⟩]) (n, [], [], i, d, 0, 0) (by (try dsimp only); exact ⟨by simp [NdRL], Nat.le_refl _, .inl ⟨rfl, rfl, rfl, hwf, hR, by simpa using hwf.2.2⟩⟩) ho henv hh ?_
 intro ⟨m, ms, dm, i, d', e, a⟩ u w hI ih
 try simp only at hI ih
 obtain ⟨hds, hmn, hmode⟩ := hI
 rcases hmode with ⟨e1, e2, e3, hwf, hRk, hnum⟩ | ⟨he, hRk, hi, hd', hnum⟩
 ·subst e1 e2 e3
  cases m with
  | zero => exact absurd hRk.symm (by simpa [semisS] using hin')
  | succ m =>
   obtain ⟨t2, l2, hs2⟩ := hwf.cons
   have ht2 := (drop_at hs2).1
   have hl2 := (drop_at hs2).2
   simp only [semisS] at hRk
   rw [hs2] at hwf hRk hnum
   simp only [kd_cons, List.tail_cons] at hRk
   simp [c85t]
   refine ATT.callM Tryz.func85 60 [0] (f49_ok L i d' 0 15 t2 ht2) rfl (by simp) (by simp) (by simp) (by simp) (by simp) ?_
   simp
   by_cases h15 : t2.k = 15
   ·have hwf2 := (hwf.tail (by simp only [kd_cons, h15]; decide)).1
    simp only [List.tail_cons] at hwf2
    simp only [eq_true h15, if_true] at hRk
    simp only [List.length_cons] at hnum
    have hin2 : msgS m d' l2 ≠ .out := fun e => hin' (by rw [← hRk, e]; rfl)
    have hM := ihM m (by omega) L (i + 1) d' hd hL (by rw [hl2]; exact hwf2) (by rw [hl2]; exact hin2)
    rw [hl2] at hM
    have hmul : (dm.length + 2 + 1) * 88 ≤ 140737488355328 := by omega
    simp [c85t, eq_true h15]
    refine ATT.callM Tryz.func85 60 [0] (f50_ok L hLl i d' 0 t2 ht2 (by rw [h15]; decide)) rfl (by simp) (by simp) (by simp) (by simp) (by simp) ?_
    simp
    refine ATT.callRS Tryz.func85 60 0 hM hin2 (by simp) (by simp) rfl (by simp) (fun a w v i' d2 e h1 h2 h3 h4 => ?_) fun z l' v i' e hl' hφ => ?_
    ·obtain ⟨z, hz, hzk⟩ := h3
     rw [e] at hRk
     obtain ⟨nl1_v, z1_v, nl2_v, z2_v, ds_v, hv_v, ha_v, hb_v, hc_v, hd_v, he_v⟩ := hz.shape
     have hw_v := hv_v
     subst hw_v
     simp [hmul]
     refine ih (m, ms ++ [z], dm ++ [_], i', d2, w, a) (by first | ((try dsimp only); omega) | (simp <;> omega)) (by (try dsimp only); exact ⟨hds.append (.one hz), by omega, .inr ⟨h4, hRk.symm, h1, h2, by simp; omega⟩⟩) _ _ _ (by simp <;> omega) (by simp <;> omega) (by simp <;> omega)
    ·rw [e] at hRk
     simp only [andThen_okE] at hRk
     have hsh := (pres m).msg hwf2 e
     have h2l := hsh.2
     obtain ⟨nl1_v, z1_v, nl2_v, z2_v, ds_v, hv_v, ha_v, hb_v, hc_v, hd_v, he_v⟩ := hφ.shape
     have hw_v := hv_v
     subst hw_v
     simp [hmul]
     refine ih (m, ms ++ [z], dm ++ [_], i', d', 0, 0) (by first | ((try dsimp only); omega) | (simp <;> omega)) (by (try dsimp only); exact ⟨hds.append (.one hφ), by omega, .inl ⟨rfl, rfl, rfl, by rw [hl']; exact hsh.1, by rw [hl']; exact hRk, by rw [hl']; simp; omega⟩⟩) _ _ _ (by simp <;> omega) (by simp <;> omega) (by simp <;> omega)
   ·simp only [eq_false h15, if_false] at hRk
    subst hRk
    simp [c85t, h15]
    refine ATT.finz hQ Tryz.func85 c85res (by first | exact .inl rfl | exact .inr ⟨_, rfl⟩) ?_
    simp
    all_goals (first | omega | exact ⟨_, rfl⟩ | skip)
    exact ⟨_, _, _, _, rfl, rfl, hs2, by rw [hys]; exact NdR.kids (NdRL.cons hw (NdRL.cons HM hds))⟩
 ·simp [c85t]
  refine ATT.callM Tryz.func85 60 [0] (f49_no L i d' e he a 15) rfl (by simp) (by simp) (by simp) (by simp) (by simp) ?_
  simp [c85t]
  subst hRk
  refine ATT.finz hQ Tryz.func85 c85res (by first | exact .inl rfl | exact .inr ⟨_, rfl⟩) ?_
  simp
  all_goals (first | omega | exact ⟨_, rfl⟩ | skip)
  exact ⟨_, _, _, _, _, rfl, rfl, hi, hd', ⟨.mk 8 ⟨#[]⟩ x.1.a 0 [] (y :: .mk 9 x.1.t x.1.a 0 [] (x.1.kids.drop 1) :: ms), by rw [hys]; exact NdR.kids (NdRL.cons hw (NdRL.cons HM hds))⟩, he⟩
set_option maxHeartbeats 2000000 in
theorem f85_ok (n : Nat) (ihK : KeyedR n) (ihM : ∀ m, m ≤ n → MsgR m) : CascR (n + 1) := by
 intro L i d hd hL hl hin
 obtain ⟨t, r, hs⟩ := hl.cons
 have ht := (drop_at hs).1
 have hLl := hL.2.2
 simp only [cascS] at hin ⊢
 have hin0 : keyedS n d (L.drop i) ≠ .out := fun e => hin (by rw [e]; rfl)
 refine AF.start' 60 Tryz.func85 rfl rfl c85call c85ok fun Q hQ => ?_
 simp [c85c, c85t]
 refine ATT.callM Tryz.func85 60 [0] (f49_ok L i d 0 8 t ht) rfl (by simp) (by simp) (by simp) (by simp) (by simp) ?_
 simp [c85t]
 refine ATT.callS Tryz.func85 60 0 (ihK L i d hd hL hl hin0) hin0 (by simp) (by simp) rfl (by simp) (fun a w v i' d' e h1 h2 h3 h4 => ?_) fun x l v i' e hl' hφ => ?_
 ·simp only [e, andThen_noE] at hQ
  obtain ⟨y, hy⟩ := h3
  obtain ⟨nl1_v, z1_v, nl2_v, z2_v, ds_v, hv_v, ha_v, hb_v, hc_v, hd_v, he_v⟩ := hy.shape
  have hw_v := hv_v
  subst hw_v
  simp [c85t]
  refine ATT.callM Tryz.func85 60 [0] (f49_no L i' d' w h4 a 15) rfl (by simp) (by simp) (by simp) (by simp) (by simp) ?_
  simp [c85t]
  refine ATT.fin' hQ Tryz.func85 c85res ?_
  exact ⟨by simp, _, _, _, _, _, rfl, rfl, h1, h2, ⟨y, hy⟩, h4⟩
 ·simp only [e, andThen_okE] at hQ hin
  have hwf := ((pres n).keyed hl e).1
  have hko := keyedS_KO hl e
  obtain ⟨w, hw1, hw2⟩ := keyedS_whole e
  have hu : NdR x.1 v := hφ
  obtain ⟨t1, l1, hs1⟩ := hwf.cons
  subst hs1
  have ht1 := (drop_at hl').1
  obtain ⟨hij, hi'L, hsg⟩ := seg hw1 hl' (by simp)
  have hWh := f112_ok L hLl i' d hi'L 0 0 i hij
  rw [hsg] at hWh
  have hk8 : kd (L.drop i) = 8 ↔ t.k = 8 := by rw [hs]; exact Iff.rfl
  rw [hk8] at hw2
  have hti := at_inR ht
  obtain ⟨nl1_v, z1_v, nl2_v, z2_v, ds_v, hv_v, ha_v, hb_v, hc_v, hd_v, he_v⟩ := hu.shape
  have hw_v := hv_v
  subst hw_v
  simp [c85t]
  simp only [kd_cons, pl_cons] at hQ hin
  by_cases h1 : t1.k = 15
  ·simp only [eq_true h1, if_true] at hQ hin
   by_cases h7 : x.1.k = 7
   ·cases hb : x.2 with
    | true =>
     obtain ⟨y, ys, hys, hyl⟩ := hko h7 hb
     simp only [eq_true h7, hb, and_self, if_true] at hQ hin
     have hnl : nl2_v = false := by
      cases nl2_v with
      | false => rfl
      | true => have := hc_v rfl; rw [hys] at this; simp at this
     subst hnl
     have hz := hd_v rfl
     subst hz
     rw [hys] at he_v
     obtain ⟨wd, ws, e0, hw, hws⟩ := he_v.inv
     subst e0
     obtain ⟨nl1_wd, z1_wd, nl2_wd, z2_wd, ds_wd, hv_wd, ha_wd, hb_wd, hc_wd, hd_wd, he_wd⟩ := hw.shape
     have hw_wd := hv_wd
     subst hw_wd
     have hwl := hws.length
     have hmul : ws.length * 88 ≤ 140737488355328 := by omega
     have hin' : semisS n d [] (t1 :: l1) ≠ .out := fun e => hin (by rw [e]; rfl)
     generalize hR : semisS n d [] (t1 :: l1) = R at hQ hin hin'
     by_cases h8 : t.k = 8
     ·have hWf : wholeS w 0 = false := by
       cases hW : wholeS w 0 with
       | false => rfl
       | true => have := hw2.mpr ⟨h8, hW⟩; rw [hb] at this; simp at this
      rw [hWf] at hWh
      refine ATT.callM Tryz.func85 60 [0] (f49_ok L i' d 0 15 t1 ht1) rfl (by simp) (by simp) (by simp) (by simp) (by simp) ?_
      simp [c85t, eq_true h1, eq_true h7, ht, tkD, tokD, eq_true h8]
      cases ws with
      | nil =>
       have hm : NdR (.mk 9 x.1.t x.1.a 0 [] ys) (.agg [.int .i64 9, .str x.1.t, .int .i64 x.1.a, .int .i64 0, .sl true 0 [], .sl true 6 []]) := by
        have : ys = [] := by cases ys <;> simp [NdRL] at hws ⊢
        subst this
        exact NdR.mk (fun _ => rfl) (by simp) (fun _ => rfl) (by simp) (by simp [NdRL])
       refine ATT.callM Tryz.func85 60 [0] (hWh) rfl (by simp) (by simp) (by simp) (by simp) (by simp) ?_
       simp [c85t]
       refine ATT.fz1 (2) (by simp) ?_
       simp
       exact f85_semis n ihM L i' d hd hL x y ys _ _ _ _ hys hw hm R (by rw [hl']; exact hwf) (by rw [hl']; exact hR) hin' Q hQ (by simp <;> omega) (by simp) ⟨_, _, rfl⟩
      | cons w0 ws =>
       simp only [List.length_cons] at hmul
       have htn : ((ws.length : Int) + 1 + 1).toNat = ws.length + 1 + 1 := by omega
       have hts : List.take ws.length (ws.map V.d) = ws.map V.d := List.take_of_length_le (by simp)
       have hm : NdR (.mk 9 x.1.t x.1.a 0 [] ys) (.agg [.int .i64 9, .str x.1.t, .int .i64 x.1.a, .int .i64 0, .sl true 0 [], .sl false 6 (w0 :: ws)]) := NdR.kids hws
       refine ATT.callM Tryz.func85 60 [0] (hWh) rfl (by simp) (by simp) (by simp) (by simp) (by simp) ?_
       simp [c85t, hmul, htn]
       refine ATT.fz1 (2) (by simp) ?_
       simp
       exact f85_semis n ihM L i' d hd hL x y ys _ _ _ _ hys hw hm R (by rw [hl']; exact hwf) (by rw [hl']; exact hR) hin' Q hQ (by simp <;> omega) (by simp) ⟨_, _, rfl⟩
     ·cases ws with
      | nil =>
       have hm : NdR (.mk 9 x.1.t x.1.a 0 [] ys) (.agg [.int .i64 9, .str x.1.t, .int .i64 x.1.a, .int .i64 0, .sl true 0 [], .sl true 6 []]) := by
        have : ys = [] := by cases ys <;> simp [NdRL] at hws ⊢
        subst this
        exact NdR.mk (fun _ => rfl) (by simp) (fun _ => rfl) (by simp) (by simp [NdRL])
       refine ATT.callM Tryz.func85 60 [0] (f49_ok L i' d 0 15 t1 ht1) rfl (by simp) (by simp) (by simp) (by simp) (by simp) ?_
       simp [c85t, eq_true h1, eq_true h7, h8]
       refine ATT.fz1 (2) (by simp) ?_
       simp
       exact f85_semis n ihM L i' d hd hL x y ys _ _ _ _ hys hw hm R (by rw [hl']; exact hwf) (by rw [hl']; exact hR) hin' Q hQ (by simp <;> omega) (by simp) ⟨_, _, rfl⟩
      | cons w0 ws =>
       simp only [List.length_cons] at hmul
       have htn : ((ws.length : Int) + 1 + 1).toNat = ws.length + 1 + 1 := by omega
       have hts : List.take ws.length (ws.map V.d) = ws.map V.d := List.take_of_length_le (by simp)
       have hm : NdR (.mk 9 x.1.t x.1.a 0 [] ys) (.agg [.int .i64 9, .str x.1.t, .int .i64 x.1.a, .int .i64 0, .sl true 0 [], .sl false 6 (w0 :: ws)]) := NdR.kids hws
       refine ATT.callM Tryz.func85 60 [0] (f49_ok L i' d 0 15 t1 ht1) rfl (by simp) (by simp) (by simp) (by simp) (by simp) ?_
       simp [c85t, eq_true h1, eq_true h7, h8, hmul, htn]
       refine ATT.fz1 (2) (by simp) ?_
       simp
       exact f85_semis n ihM L i' d hd hL x y ys _ _ _ _ hys hw hm R (by rw [hl']; exact hwf) (by rw [hl']; exact hR) hin' Q hQ (by simp <;> omega) (by simp) ⟨_, _, rfl⟩
    | false =>
     obtain ⟨h8, hWt⟩ := hw2.mp hb
     rw [hWt] at hWh
     refine ATT.callM Tryz.func85 60 [0] (f49_ok L i' d 0 15 t1 ht1) rfl (by simp) (by simp) (by simp) (by simp) (by simp) ?_
     simp [c85t, eq_true h1, eq_true h7, ht, tkD, tokD, eq_true h8]
     refine ATT.callM Tryz.func85 60 [0] (hWh) rfl (by simp) (by simp) (by simp) (by simp) (by simp) ?_
     simp [c85t]
     simp only [hb, Bool.false_eq_true, and_false, if_false] at hQ
     refine ATT.callM Tryz.func85 60 [0] (f52_ok L i' d 0 20 t1 ht1) rfl (by simp) (by simp) (by simp) (by simp) (by simp) ?_
     simp [c85t]
     refine ATT.fin' hQ Tryz.func85 c85res ?_
     exact ⟨by simp, _, _, _, _, _, rfl, rfl, at_lt ht1, by omega, ⟨_, hu⟩, by decide⟩
   ·refine ATT.callM Tryz.func85 60 [0] (f49_ok L i' d 0 15 t1 ht1) rfl (by simp) (by simp) (by simp) (by simp) (by simp) ?_
    simp [c85t, eq_true h1, h7]
    simp only [eq_false h7, false_and, if_false] at hQ
    refine ATT.callM Tryz.func85 60 [0] (f52_ok L i' d 0 20 t1 ht1) rfl (by simp) (by simp) (by simp) (by simp) (by simp) ?_
    simp [c85t]
    refine ATT.fin' hQ Tryz.func85 c85res ?_
    exact ⟨by simp, _, _, _, _, _, rfl, rfl, at_lt ht1, by omega, ⟨_, hu⟩, by decide⟩
  ·simp only [eq_false h1, if_false] at hQ hin
   refine ATT.callM Tryz.func85 60 [0] (f49_ok L i' d 0 15 t1 ht1) rfl (by simp) (by simp) (by simp) (by simp) (by simp) ?_
   simp [c85t, h1]
   refine ATT.fin' hQ Tryz.func85 c85res ?_
   exact ⟨by simp, _, _, _, _, rfl, rfl, hl', hu⟩
end Go.SL
namespace Go.SL
open Go.Proofs
set_option maxRecDepth 10000
structure AllR (n : Nat) : Prop where
 expr : ExprR n
 casc : CascR n
 msg : MsgR n
 keyed : KeyedR n
 binary : BinaryR n
 unary : UnaryR n
 prim : PrimR n
 list : ListR n
 block : BlockR n
theorem allR_le : ∀ n m, m ≤ n → AllR m
 | 0, 0, _ => by
  constructor <;> intro L i d <;> intros <;> rename_i h <;> exact absurd (by simp [exprS, cascS, msgS, keyedS, binaryS, unaryS, primS, listS, blockS]) h
 | 0, m + 1, h => absurd h (by omega)
 | n + 1, m, h => by
  rcases Nat.lt_or_ge m (n + 1) with h' | h'
  ·exact allR_le n m (by omega)
  ·have : m = n + 1 := by omega
   subst this
   have ih := allR_le n
   have i0 := ih n (Nat.le_refl _)
   exact {
    expr := f53_ok n i0.expr i0.casc
    casc := f85_ok n i0.keyed fun m h => (ih m h).msg
    msg := f113_ok n (fun m h => (ih m h).binary) i0.unary
    keyed := f111_ok n i0.msg i0.binary
    binary := f126_ok n (fun m h => (ih m h).msg) i0.unary
    unary := f129_ok n (fun m h => (ih m h).msg) i0.prim
    prim := f139_ok n i0.expr i0.list i0.block
    list := f149_ok n fun m h => (ih m h).list
    block := f150_ok n fun m h => (ih m h).expr }
theorem allR (n : Nat) : AllR n := allR_le n n (Nat.le_refl _)
abbrev NPb (s : ByteArray) (n m : Nat) : Bx := NO (.int .i64 12) (.str s) (.int .i64 0) (.int .i64 n) m (.d (.sl true 0 []))
def PatQ (L : List Tk) (r : Res (ByteArray × List ByteArray)) (o : Out) (h : H) : Prop := match r with
 | .ok x l => ∃ b c i, o = .ret (.d (.tup [])) ∧ h = ⟨RP L i 0 0 0 :: NPb x.1 x.2.length x.2.length :: b, NS x.2 :: c⟩ ∧ L.drop i = l
 | .no a w => ∃ b c i s ns, o = .ret (.d (.tup [])) ∧ h = ⟨RP L i 0 w a :: NPb s (ns : List ByteArray).length ns.length :: b, NS ns :: c⟩ ∧ i < L.length ∧ w ≠ 0
 | .out => True
theorem PatQ.ok {L : List Tk} {i : Nat} {s : ByteArray} {ns : List ByteArray} {l : List Tk} {x3 : Int} {x4 : V} {v0 : Option Vec} {b : List Bx} {c : List (Option Vec)} (hl : L.drop i = l) (h3 : x3 = ns.length) (h4 : x4 = .vs 0 ns.length 0 ns.length) (h0 : v0 = NS ns) :
  PatQ L (.ok (s, ns) l) (.ret (.d (.tup []))) ⟨RP L i 0 0 0 :: .cells [.d (.int .i64 12), .d (.str s), .d (.int .i64 0), .d (.int .i64 x3), x4, .d (.sl true 0 [])] 31 :: b, v0 :: c⟩ := by
 subst h3 h4 h0
 exact ⟨_, _, _, rfl, rfl, hl⟩
theorem PatQ.no {L : List Tk} {i a : Nat} {w : Int} {s : ByteArray} {ns : List ByteArray} {x3 : Int} {x4 : V} {v0 : Option Vec} {b : List Bx} {c : List (Option Vec)} (hi : i < L.length) (hw : w ≠ 0) (h3 : x3 = ns.length) (h4 : x4 = .vs 0 ns.length 0 ns.length) (h0 : v0 = NS ns) :
  PatQ L (.no a w) (.ret (.d (.tup []))) ⟨RP L i 0 w a :: .cells [.d (.int .i64 12), .d (.str s), .d (.int .i64 0), .d (.int .i64 x3), x4, .d (.sl true 0 [])] 31 :: b, v0 :: c⟩ := by
 subst h3 h4 h0
 exact ⟨_, _, _, _, _, rfl, rfl, hi, hw⟩
set_option maxHeartbeats 1000000 in
theorem f30_ok (n : Nat) (L : List Tk) (hL : WF L) (hn : L.length ≤ n) : AF Tryz.prog 30 [.ptr 0 0, .ptr 1 0] ⟨[RP L 0 0 0 0, NPb ⟨#[]⟩ 0 0], [NS []]⟩ (PatQ L (patS n L)) := by
 obtain ⟨t, r, hs⟩ := hL.cons
 have hLl := hL.2.2
 have ht : L[0]? = some t := by rw [hs]; rfl
 have hr : L.drop 1 = r := by rw [hs]; rfl
 have hp : patS n L = if t.k = 1 then .ok (t.t, []) r else if t.k = 3 then (if kd r = 1 then .ok (t.t, [tx r]) r.tail else .no (pl r) eSyn) else if t.k = 2 then patKeysS n ⟨#[]⟩ [] L else .no t.a eSyn := by rw [hs]; rfl
 rw [hp]
 have hwfT : ¬ t.k = 0 → WF r := fun h => by have := (hL.tail (by rw [hs]; exact h)).1; rw [hs] at this; exact this
 refine AF.start' 60 Tryz.func30 rfl rfl c30call c30ok fun Q hQ => ?_
 simp [c30c, c30t]
 refine ATT.callM Tryz.func30 60 [0] (f49_ok L 0 0 0 1 t ht) rfl (by simp) (by simp) (by simp) (by simp) (by simp) ?_
 simp
 by_cases h1 : t.k = 1
 ·simp only [eq_true h1, if_true] at hQ
  simp [c30t, eq_true h1]
  refine ATT.callM Tryz.func30 60 [0] (f50_ok L hLl 0 0 0 t ht (by rw [h1]; decide)) rfl (by simp) (by simp) (by simp) (by simp) (by simp) ?_
  simp [c30t, tkD, tokD]
  refine ATT.fin0' hQ Tryz.func30 c30res ?_
  exact ⟨by simp, PatQ.ok hr (by simp) (by simp) (by simp)⟩
 simp [c30t, h1]
 refine ATT.callM Tryz.func30 60 [0] (f49_ok L 0 0 0 3 t ht) rfl (by simp) (by simp) (by simp) (by simp) (by simp) ?_
 simp
 by_cases h3 : t.k = 3
 ·simp only [eq_false h1, eq_true h3, if_true, if_false] at hQ
  obtain ⟨t2, l2, hq⟩ := (hwfT (by rw [h3]; decide)).cons
  subst hq
  have ht2 := (drop_at hr).1
  have hl2 := (drop_at hr).2
  simp only [kd_cons, tx_cons, pl_cons, List.tail_cons] at hQ
  simp [c30t, eq_true h3]
  refine ATT.callM Tryz.func30 60 [0] (f50_ok L hLl 0 0 0 t ht (by rw [h3]; decide)) rfl (by simp) (by simp) (by simp) (by simp) (by simp) ?_
  simp [tkD, tokD]
  by_cases h2 : t2.k = 1
  ·simp only [eq_true h2, if_true] at hQ
   refine ATT.callRM Tryz.func30 60 [0] (f51_ok L hLl 1 0 0 1 (by decide) t2 ht2 h2) rfl (by simp) (by simp) (by simp) (by simp) (by simp) ?_
   simp [c30t, tkD, tokD]
   refine ATT.fin0' hQ Tryz.func30 c30res ?_
   exact ⟨by simp, PatQ.ok hl2 (by simp) (by simp) (by simp)⟩
  ·simp only [eq_false h2, if_false] at hQ
   refine ATT.callRM Tryz.func30 60 [0] (f51_bad L 1 0 0 1 t2 ht2 h2) rfl (by simp) (by simp) (by simp) (by simp) (by simp) ?_
   simp [c30t]
   refine ATT.fin0' hQ Tryz.func30 c30res ?_
   exact ⟨by simp, PatQ.no (ns := [⟨#[]⟩]) (at_lt ht2) (by decide) (by simp) (by simp) (by simp)⟩
 simp [c30t, h3]
 refine ATT.callM Tryz.func30 60 [0] (f49_ok L 0 0 0 2 t ht) rfl (by simp) (by simp) (by simp) (by simp) (by simp) ?_
 simp
 by_cases h2 : t.k = 2
 ·simp only [eq_false h1, eq_false h3, eq_true h2, if_true, if_false] at hQ
  have hin : patKeysS n ⟨#[]⟩ [] L ≠ .out := patKeysS_in hL hn
  generalize hR : patKeysS n ⟨#[]⟩ [] L = R at hQ hin
  simp [eq_true h2]
  refine ATT.loopG 60 c30l9.eq_1 (fun ((m, s, ns, i, e, a) : Nat × ByteArray × List ByteArray × Nat × Int × Nat) => m) (fun ((m, s, ns, i, e, a) : Nat × ByteArray × List ByteArray × Nat × Int × Nat) => (e = 0 ∧ a = 0 ∧ WF (L.drop i) ∧ patKeysS m s ns (L.drop i) = R ∧ ns.length + (L.drop i).length ≤ 5000 ∧ s.size + 1048576 * (L.drop i).length ≤ 5242880000) ∨ (e ≠ 0 ∧ R = .no a e ∧ i < L.length)) (fun ((m, s, ns, i, e, a) : Nat × ByteArray × List ByteArray × Nat × Int × Nat) => [(0, .ptr 0 0), (1, .ptr 1 0)]) (fun ((m, s, ns, i, e, a) : Nat × ByteArray × List ByteArray × Nat × Int × Nat) => [RP L i 0 e a, NPb s 0 ns.length]) (fun ((m, s, ns, i, e, a) : Nat × ByteArray × List ByteArray × Nat × Int × Nat) => [NS ns]) ((n, ⟨#[]⟩, [], 0, 0, 0)) (by (try dsimp only); exact .inl ⟨rfl, rfl, hL, hR, by simpa using hLl, by have h0 : (⟨#[]⟩ : ByteArray).size = 0 := rfl; simp only [h0, List.drop_zero]; omega⟩) (by simp <;> omega) (by simp) (by simp) ?_
  intro ⟨m, s, ns, i, e, a⟩ u w hI ih
  try simp only at hI ih
  rcases hI with ⟨e1, e2, hwf, hRk, hnum, hsz⟩ | ⟨he, hRk, hi⟩
  ·subst e1 e2
   cases m with
   | zero => exact absurd hRk.symm (by simpa [patKeysS] using hin)
   | succ m =>
    obtain ⟨t1, l1, hs1⟩ := hwf.cons
    have ht1 := (drop_at hs1).1
    have hl1 := (drop_at hs1).2
    rw [hs1] at hwf hRk hnum hsz
    simp only [patKeysS, kd_cons, tx_cons, List.tail_cons] at hRk
    simp [c30t]
    refine ATT.callM Tryz.func30 60 [0] (f49_ok L i 0 0 2 t1 ht1) rfl (by simp) (by simp) (by simp) (by simp) (by simp) ?_
    simp
    by_cases h12 : t1.k = 2
    ·have hwf2 := (hwf.tail (by simp only [kd_cons, h12]; decide)).1
     simp only [List.tail_cons] at hwf2
     obtain ⟨t2, l2, hq⟩ := hwf2.cons
     subst hq
     have ht2 := (drop_at hl1).1
     have hl2 := (drop_at hl1).2
     simp only [eq_true h12, if_true, kd_cons, tx_cons, pl_cons, List.tail_cons] at hRk
     have htz := hwf.2.1 t1 (by simp)
     simp only [List.length_cons] at hsz hnum
     have hcat : s.size + t1.t.size ≤ 9223372036854775807 := by omega
     have hmul : (ns.length + 1) * 16 ≤ 140737488355328 := by omega
     simp [eq_true h12]
     refine ATT.callRM Tryz.func30 60 [0] (f50_ok L hLl i 0 0 t1 ht1 (by rw [h12]; decide)) rfl (by simp) (by simp) (by simp) (by simp) (by simp) ?_
     simp [tkD, tokD, hcat]
     by_cases h21 : t2.k = 1
     ·simp only [eq_true h21, if_true] at hRk
      have hwf3 := (hwf2.tail (by simp only [kd_cons, h21]; decide)).1
      simp only [List.tail_cons] at hwf3
      refine ATT.callRM Tryz.func30 60 [0] (f51_ok L hLl (i + 1) 0 0 1 (by decide) t2 ht2 h21) rfl (by simp) (by simp) (by simp) (by simp) (by simp) ?_
      simp [tkD, tokD, hmul]
      refine ih (m, s ++ t1.t, ns ++ [t2.t], i + 1 + 1, 0, 0) (by first | ((try dsimp only); omega) | (simp [eq_true h12, tkD, tokD, hcat] <;> omega)) (by (try dsimp only); exact .inl ⟨rfl, rfl, by rw [hl2]; exact hwf3, by rw [hl2]; exact hRk, by rw [hl2]; simp; omega, by rw [hl2]; simp; omega⟩) _ _ _ (by simp <;> omega) (by simp <;> omega) (by simp <;> omega)
     ·simp only [eq_false h21, if_false] at hRk
      refine ATT.callRM Tryz.func30 60 [0] (f51_bad L (i + 1) 0 0 1 t2 ht2 h21) rfl (by simp) (by simp) (by simp) (by simp) (by simp) ?_
      simp [hmul]
      refine ih (m, s ++ t1.t, ns ++ [⟨#[]⟩], i + 1, 20, t2.a) (by first | ((try dsimp only); omega) | (simp [eq_true h12, tkD, tokD, hcat] <;> omega)) (by (try dsimp only); exact .inr ⟨by decide, hRk.symm, at_lt ht2⟩) _ _ _ (by simp <;> omega) (by simp <;> omega) (by simp <;> omega)
    ·simp only [eq_false h12, if_false] at hRk
     subst hRk
     simp [c30t, h12]
     refine ATT.fin0' hQ Tryz.func30 c30res ?_
     exact ⟨by simp, PatQ.ok hs1 (by simp) (by simp) (by simp)⟩
  ·simp [c30t]
   refine ATT.callM Tryz.func30 60 [0] (f49_no L i 0 e he a 2) rfl (by simp) (by simp) (by simp) (by simp) (by simp) ?_
   simp [c30t]
   subst hRk
   refine ATT.fin0' hQ Tryz.func30 c30res ?_
   exact ⟨by simp, PatQ.no (ns := ns) hi he (by simp) (by simp) (by simp)⟩
 ·simp only [eq_false h1, eq_false h3, eq_false h2, if_false] at hQ
  simp [c30t, h2]
  refine ATT.callM Tryz.func30 60 [0] (f52_ok L 0 0 0 20 t ht) rfl (by simp) (by simp) (by simp) (by simp) (by simp) ?_
  simp [c30t]
  refine ATT.fin0' hQ Tryz.func30 c30res ?_
  exact ⟨by simp, PatQ.no (ns := []) (at_lt ht) (by decide) (by simp) (by simp) (by simp)⟩
end Go.SL
namespace Go.SL
open Go.Proofs
set_option maxRecDepth 10000
set_option maxHeartbeats 1000000 in
theorem f21_plain {num : ByteArray → Bool} (hW : NumP 78 num) (s : ByteArray) (hs : s.size ≤ 1073741820) (l : List Tk) (hl : WF l) (hr : readD num s = .tup [.sl false 3 (l.map tkD), .int .i64 0, .int .i64 0]) (k : Nat) (hin : uniS (k + 1) (headS false) l ≠ .out) :
  DE Tryz.prog 21 [.str s, .bool false] (UnR (uniS (k + 1) (headS false) l)) := by
 have hR := f29_ok hW s hs
 rw [hr] at hR
 have hinb : bodyS (k + 1) 0 0 l ≠ .out := fun e => hin (by simp [uniS, headS, e, Res.andThen])
 simp only [uniS, headS, Bool.false_eq_true, if_false, andThen_okE] at hin ⊢
 refine AF.start' 60 Tryz.func21 rfl rfl c21call c21ok fun Q hQ => ?_
 simp [c21c, c21t]
 refine ATT.callD Tryz.func21 60 (hR) (by simp) (by simp) (by simp) ?_
 simp [c21t]
 refine ATT.nilB 2 4 1 9 rfl rfl (by decide) (by simp) ?_
 simp
 have hD : l.drop 0 = l := rfl
 have hN0 : ([] : List ByteArray).length ≤ 5000 := by decide
 have hT := f31_ok l 0 0 hl (by rw [hD]; exact hl) (([] : List ByteArray)) hN0 (.int .i64 12) (.str ⟨#[]⟩) (.int .i64 0) (.int .i64 (([] : List ByteArray) : List ByteArray).length)
 rw [hD] at hT
 refine ATT.callA Tryz.func21 60 [1, 2] [0] 0 0 (hT) (by simp) (by simp) (by simp) (by simp) (by simp) fun out hC hE => ?_
 cases hres : tempsS l with
 | out => exact absurd hres (tempsS_in _)
 | no a2 w2 =>
  simp only [hres, TQ] at hE
  obtain ⟨b, c, i2, ts, e1, e2, g1, g4⟩ := hE
  subst e1 e2
  simp only [bodyS, hres, andThen_noE] at hQ
  refine ⟨by simp, ?_⟩
  simp [c21t]
  refine ATT.callA Tryz.func21 60 [1, 2] [0] 0 1 (f32_no l i2 0 0 w2 g4 a2 ((([] : List ByteArray)) ++ ts) (.int .i64 12) (.str ⟨#[]⟩) (.int .i64 0) (.int .i64 (([] : List ByteArray) : List ByteArray).length)) (by simp) (by simp) (by simp) (by simp) (by simp) fun out hC hE => ?_
  obtain ⟨b, c, e1, e2⟩ := hE
  subst e1 e2
  refine ⟨by simp, ?_⟩
  simp [c21t, g4]
  refine ATT.fin' hQ Tryz.func21 c21res ?_
  exact ⟨by simp, _, rfl, rfl⟩
 | ok ts l2 =>
  simp only [hres, TQ] at hE
  obtain ⟨b, c, i2, e1, e2, hl2⟩ := hE
  subst e1 e2
  refine ⟨by simp, ?_⟩
  simp [c21t]
  have hw2 := (tempsS_short hl hres).1
  have hin3 : stmtsS k 0 0 [] l2 ≠ .out := fun e => hinb (by simp [bodyS, hres, e, Res.andThen])
  simp only [bodyS, hres, andThen_okE] at hQ
  have hSt := f32_ok k (fun m h => (allR m).expr) l i2 0 (by omega) hl (by rw [hl2]; exact hw2) 0 (by rw [hl2]; exact hin3) ((([] : List ByteArray)) ++ ts) (.int .i64 12) (.str ⟨#[]⟩) (.int .i64 0) (.int .i64 (([] : List ByteArray) : List ByteArray).length)
  rw [hl2] at hSt
  refine ATT.callA Tryz.func21 60 [1, 2] [0] 0 1 (hSt) (by simp) (by simp) (by simp) (by simp) (by simp) fun out hC hE => ?_
  cases hst : stmtsS k 0 0 [] l2 with
  | out => exact absurd hst hin3
  | no a2 w2 =>
   simp only [hst, SQ] at hE
   obtain ⟨b, c, i3, d2, ks, ds, e1, e2, g1, g2, hds, g4⟩ := hE
   subst e1 e2
   simp only [hst, andThen_noE] at hQ
   refine ⟨by simp, ?_⟩
   simp [c21t, g4]
   refine ATT.fin' hQ Tryz.func21 c21res ?_
   exact ⟨by simp, _, rfl, rfl⟩
  | ok ks l3 =>
   simp only [hst, SQ] at hE
   obtain ⟨b, c, i3, ds, e1, e2, hl3, hds⟩ := hE
   subst e1 e2
   simp only [hst, andThen_okE] at hQ
   refine ⟨by simp, ?_⟩
   simp [c21t]
   refine ATT.finz hQ Tryz.func21 c21res (by first | exact .inl rfl | exact .inr ⟨_, rfl⟩) ?_
   simp
   all_goals (first | omega | exact ⟨_, rfl⟩ | skip)
   exact ⟨_, rfl, NdR.eq (by simp) (NdR.mk (nl1 := ((([] : List ByteArray)) ++ ts).isEmpty) (z1 := 1) (nl2 := ds.isEmpty) (z2 := 6) (ds := ds) (by simp) (by simp) (fun h => by have hl := hds.length; simp at h; subst h; exact List.length_eq_zero_iff.mp hl.symm) (by simp) hds)⟩
set_option maxHeartbeats 1000000 in
theorem f21_method {num : ByteArray → Bool} (hW : NumP 78 num) (s : ByteArray) (hs : s.size ≤ 1073741820) (l : List Tk) (hl : WF l) (hr : readD num s = .tup [.sl false 3 (l.map tkD), .int .i64 0, .int .i64 0]) (k : Nat) (hin : uniS (k + 1) (headS true) l ≠ .out) :
  DE Tryz.prog 21 [.str s, .bool true] (UnR (uniS (k + 1) (headS true) l)) := by
 have hR := f29_ok hW s hs
 rw [hr] at hR
 have hP := f30_ok (fuel l) l hl (by unfold fuel; omega)
 simp only [uniS, headS, if_true] at hin ⊢
 refine AF.start' 60 Tryz.func21 rfl rfl c21call c21ok fun Q hQ => ?_
 simp [c21c, c21t]
 refine ATT.callD Tryz.func21 60 (hR) (by simp) (by simp) (by simp) ?_
 simp [c21t]
 refine ATT.nilB 2 4 1 9 rfl rfl (by decide) (by simp) ?_
 simp
 refine ATT.callA Tryz.func21 60 [1, 2] [0] 0 0 (hP) (by simp) (by simp) (by simp) (by simp) (by simp) fun out hC hE => ?_
 cases hh : patS (fuel l) l with
 | out => exact absurd hh (patS_in hl (by unfold fuel; omega))
 | no a w =>
  simp only [hh, PatQ] at hE
  obtain ⟨b, c, i, tx, ns, e1, e2, g1, g4⟩ := hE
  subst e1 e2
  simp only [hh, andThen_noE] at hQ
  refine ⟨by simp, ?_⟩
  simp [c21t]
  refine ATT.callA Tryz.func21 60 [1, 2] [0] 0 0 (f31_no l i 0 w g4 a (ns) (.int .i64 12) (.str tx) (.int .i64 0) (.int .i64 (ns : List ByteArray).length)) (by simp) (by simp) (by simp) (by simp) (by simp) fun out hC hE => ?_
  obtain ⟨b, c, e1, e2⟩ := hE
  subst e1 e2
  refine ⟨by simp, ?_⟩
  simp [c21t]
  refine ATT.callA Tryz.func21 60 [1, 2] [0] 0 1 (f32_no l i 0 0 w g4 a (ns) (.int .i64 12) (.str tx) (.int .i64 0) (.int .i64 (ns : List ByteArray).length)) (by simp) (by simp) (by simp) (by simp) (by simp) fun out hC hE => ?_
  obtain ⟨b, c, e1, e2⟩ := hE
  subst e1 e2
  refine ⟨by simp, ?_⟩
  simp [c21t, g4]
  refine ATT.fin' hQ Tryz.func21 c21res ?_
  exact ⟨by simp, _, rfl, rfl⟩
 | ok p l1 =>
  simp only [hh, PatQ] at hE
  obtain ⟨b, c, i, e1, e2, hl1⟩ := hE
  subst e1 e2
  simp only [hh, andThen_okE] at hQ hin
  have hinb : bodyS (k + 1) 0 0 l1 ≠ .out := fun e => hin (by simp [e, Res.andThen])
  obtain ⟨hw1, hpl⟩ := patS_wf hl hh
  obtain ⟨px, pn⟩ := p
  simp only at hQ hpl
  refine ⟨by simp, ?_⟩
  simp [c21t]
  have hT := f31_ok l i 0 hl (by rw [hl1]; exact hw1) (pn) hpl (.int .i64 12) (.str px) (.int .i64 0) (.int .i64 (pn : List ByteArray).length)
  rw [hl1] at hT
  refine ATT.callA Tryz.func21 60 [1, 2] [0] 0 0 (hT) (by simp) (by simp) (by simp) (by simp) (by simp) fun out hC hE => ?_
  cases hres : tempsS l1 with
  | out => exact absurd hres (tempsS_in _)
  | no a2 w2 =>
   simp only [hres, TQ] at hE
   obtain ⟨b, c, i2, ts, e1, e2, g1, g4⟩ := hE
   subst e1 e2
   simp only [bodyS, hres, andThen_noE] at hQ
   refine ⟨by simp, ?_⟩
   simp [c21t]
   refine ATT.callA Tryz.func21 60 [1, 2] [0] 0 1 (f32_no l i2 0 0 w2 g4 a2 ((pn) ++ ts) (.int .i64 12) (.str px) (.int .i64 0) (.int .i64 (pn : List ByteArray).length)) (by simp) (by simp) (by simp) (by simp) (by simp) fun out hC hE => ?_
   obtain ⟨b, c, e1, e2⟩ := hE
   subst e1 e2
   refine ⟨by simp, ?_⟩
   simp [c21t, g4]
   refine ATT.fin' hQ Tryz.func21 c21res ?_
   exact ⟨by simp, _, rfl, rfl⟩
  | ok ts l2 =>
   simp only [hres, TQ] at hE
   obtain ⟨b, c, i2, e1, e2, hl2⟩ := hE
   subst e1 e2
   refine ⟨by simp, ?_⟩
   simp [c21t]
   have hw2 := (tempsS_short hw1 hres).1
   have hin3 : stmtsS k 0 0 [] l2 ≠ .out := fun e => hinb (by simp [bodyS, hres, e, Res.andThen])
   simp only [bodyS, hres, andThen_okE] at hQ
   have hSt := f32_ok k (fun m h => (allR m).expr) l i2 0 (by omega) hl (by rw [hl2]; exact hw2) 0 (by rw [hl2]; exact hin3) ((pn) ++ ts) (.int .i64 12) (.str px) (.int .i64 0) (.int .i64 (pn : List ByteArray).length)
   rw [hl2] at hSt
   refine ATT.callA Tryz.func21 60 [1, 2] [0] 0 1 (hSt) (by simp) (by simp) (by simp) (by simp) (by simp) fun out hC hE => ?_
   cases hst : stmtsS k 0 0 [] l2 with
   | out => exact absurd hst hin3
   | no a2 w2 =>
    simp only [hst, SQ] at hE
    obtain ⟨b, c, i3, d2, ks, ds, e1, e2, g1, g2, hds, g4⟩ := hE
    subst e1 e2
    simp only [hst, andThen_noE] at hQ
    refine ⟨by simp, ?_⟩
    simp [c21t, g4]
    refine ATT.fin' hQ Tryz.func21 c21res ?_
    exact ⟨by simp, _, rfl, rfl⟩
   | ok ks l3 =>
    simp only [hst, SQ] at hE
    obtain ⟨b, c, i3, ds, e1, e2, hl3, hds⟩ := hE
    subst e1 e2
    simp only [hst, andThen_okE] at hQ
    refine ⟨by simp, ?_⟩
    simp [c21t]
    refine ATT.finz hQ Tryz.func21 c21res (by first | exact .inl rfl | exact .inr ⟨_, rfl⟩) ?_
    simp
    all_goals (first | omega | exact ⟨_, rfl⟩ | skip)
    exact ⟨_, rfl, NdR.eq (by simp) (NdR.mk (nl1 := ((pn) ++ ts).isEmpty) (z1 := 1) (nl2 := ds.isEmpty) (z2 := 6) (ds := ds) (by simp) (by simp) (fun h => by have hl := hds.length; simp at h; subst h; exact List.length_eq_zero_iff.mp hl.symm) (by simp) hds)⟩
theorem f21_no {num : ByteArray → Bool} (hW : NumP 78 num) (s : ByteArray) (hs : s.size ≤ 1073741820) (a : Nat) (w : Int) (hw : w ≠ 0) (hr : readD num s = .tup [.sl true 0 [], .int .i64 a, .int .i64 w]) (m : Bool) :
  DF Tryz.prog 21 [.str s, .bool m] (.tup [zeroN, .int .i64 a, .int .i64 w]) := by
 have hR := f29_ok hW s hs
 rw [hr] at hR
 refine AF.start' 60 Tryz.func21 rfl rfl c21call c21ok fun Q hQ => ?_
 simp [c21c, c21t]
 refine ATT.callD Tryz.func21 60 (hR) (by simp) (by simp) (by simp) ?_
 simp [c21t, hw]
 refine ATT.fin' hQ Tryz.func21 c21res ?_
 simp
 all_goals (first | omega | exact ⟨_, rfl⟩ | skip)
theorem f21_ok {num : ByteArray → Bool} (hW : NumP 78 num) (s : ByteArray) (hs : s.size ≤ 1073741820) (m : Bool) : DE Tryz.prog 21 [.str s, .bool m] (UnR (parseD num m s)) := by
 unfold parseD
 by_cases hz : 4096 < s.size
 ·rw [if_pos hz]
  have := f21_no hW s hs 0 3 (by decide) (by simp [readD, hz]) m
  exact this.mono fun o h e => ⟨_, e, rfl⟩
 ·rw [if_neg hz]
  cases hl : lexS num s 0 with
  | inr a =>
   have := f21_no hW s hs a 20 (by decide) (by simp [readD, hz, hl]) m
   exact this.mono fun o h e => ⟨_, e, rfl⟩
  | inl l =>
   have hwf := lexS_wf (by omega) hl
   have hin : uniS (fuel l) (headS m) l ≠ .out := uniS_in (headS_in hwf) fun p r e => ⟨(headS_wf hwf e).1, headS_le e⟩
   have hf : fuel l = (20 * l.length + 19) + 1 := rfl
   rw [hf] at hin
   cases m with
   | false => exact f21_plain hW s hs l hwf (by simp [readD, hz, hl]) _ hin
   | true => exact f21_method hW s hs l hwf (by simp [readD, hz, hl]) _ hin
theorem f9_ok {num : ByteArray → Bool} (hW : NumP 78 num) (s : ByteArray) (hs : s.size ≤ 1073741820) : DE Tryz.prog 9 [.str s] (UnR (parseD num false s)) := by
 have hU := f21_ok hW s hs false
 refine AF.start' 60 Tryz.func9 rfl rfl c9call c9ok fun Q hQ => ?_
 simp [c9c, c9t]
 refine ATT.callE Tryz.func9 60 hU (by simp) (by simp) (by simp) fun v hv => ?_
 cases hr : parseD num false s with
 | ok x l =>
  rw [hr] at hv hQ
  obtain ⟨u, e, hu⟩ := hv
  subst e
  obtain ⟨nl1_u, z1_u, nl2_u, z2_u, ds_u, hv_u, ha_u, hb_u, hc_u, hd_u, he_u⟩ := hu.shape
  have hw_u := hv_u
  subst hw_u
  simp
  refine ATT.fin' hQ Tryz.func9 c9res ?_
  exact ⟨by simp, _, rfl, _, rfl, hu⟩
 | no a w =>
  rw [hr] at hv hQ
  have e : v = _ := hv
  subst e
  simp
  refine ATT.fin' hQ Tryz.func9 c9res ?_
  exact ⟨by simp, _, rfl, rfl⟩
 | out => exact absurd hr (parseD_in _ _ _)
theorem f17_ok {num : ByteArray → Bool} (hW : NumP 78 num) (s : ByteArray) (hs : s.size ≤ 1073741820) : DE Tryz.prog 17 [.str s] (UnR (parseD num true s)) := by
 have hU := f21_ok hW s hs true
 refine AF.start' 60 Tryz.func17 rfl rfl c17call c17ok fun Q hQ => ?_
 simp [c17c, c17t]
 refine ATT.callE Tryz.func17 60 hU (by simp) (by simp) (by simp) fun v hv => ?_
 cases hr : parseD num true s with
 | ok x l =>
  rw [hr] at hv hQ
  obtain ⟨u, e, hu⟩ := hv
  subst e
  obtain ⟨nl1_u, z1_u, nl2_u, z2_u, ds_u, hv_u, ha_u, hb_u, hc_u, hd_u, he_u⟩ := hu.shape
  have hw_u := hv_u
  subst hw_u
  simp
  refine ATT.fin' hQ Tryz.func17 c17res ?_
  exact ⟨by simp, _, rfl, _, rfl, hu⟩
 | no a w =>
  rw [hr] at hv hQ
  have e : v = _ := hv
  subst e
  simp
  refine ATT.fin' hQ Tryz.func17 c17res ?_
  exact ⟨by simp, _, rfl, rfl⟩
 | out => exact absurd hr (parseD_in _ _ _)
end Go.SL
namespace Go.SL
open Go.Proofs
set_option maxRecDepth 10000
theorem NdRL.at : ∀ {ks : List Nd} {ds : List D} {i : Nat} {y : Nd}, NdRL ks ds → ks[i]? = some y → ∃ d, ds[i]? = some d ∧ NdR y d
 | x :: r, ds, 0, y, h, e => by
  simp only [NdRL] at h
  obtain ⟨d, l, e1, h1, h2⟩ := h
  subst e1
  simp at e; subst e
  exact ⟨d, rfl, h1⟩
 | x :: r, ds, i + 1, y, h, e => by
  simp only [NdRL] at h
  obtain ⟨d, l, e1, h1, h2⟩ := h
  subst e1
  obtain ⟨d2, g1, g2⟩ := h2.at (i := i) (by simpa using e)
  exact ⟨d2, by simpa using g1, g2⟩
theorem kid_lt {x y : Nd} {i : Nat} (h : x.kids[i]? = some y) : SizeOf.sizeOf y < SizeOf.sizeOf x := by
 cases x with
 | mk k t a n names kids =>
  have := List.sizeOf_lt_of_mem (List.mem_of_getElem? h)
  simp [Nd.kids] at this ⊢
  omega
set_option maxHeartbeats 1000000 in
theorem f11_ok {Q : ByteArray → Nat → Prop} : ∀ (m : Nat) (x : Nd), SizeOf.sizeOf x ≤ m → Good Q x → ∀ u, NdR x u → DE Tryz.prog 11 [u] (NdR x) := by
 intro m
 induction m with
 | zero => intro x h; cases x; simp at h
 | succ m ihn =>
  intro x hm hg u hu
  obtain ⟨nl1, z1, nl2, z2, ds, e, h1, h2, h3, h4, h5⟩ := hu.shape
  subst e
  have ho := hg.one
  have hl1 : x.names.length * 16 ≤ 140737488355328 := by have := ho.1; omega
  have hl2 : x.kids.length ≤ 10000 := ho.2.1
  have hdl := h5.length
  cases nl1 with
  | true =>
   have hn := h1 rfl
   refine AF.start' 60 Tryz.func11 rfl rfl c11call c11ok fun Q hQ => ?_
   simp [c11c, c11t, hn]
   refine ATT.nilB 2 5 6 31 rfl rfl (by decide) (by simp) ?_
   simp
   refine ATT.loopG 60 c11l7.eq_1 (fun ((i, acc) : Nat × List D) => x.kids.length - i) (fun ((i, acc) : Nat × List D) => i ≤ x.kids.length ∧ NdRL (x.kids.take i) acc ∧ acc.length = i) (fun ((i, acc) : Nat × List D) => [(1, .ptr 0 0), (2, .ptr 1 0), (3, .ptr 2 0), (4, .d (.int .i64 i))]) (fun ((i, acc) : Nat × List D) => [.cells [.d (.int .i64 x.k), .d (.str x.t), .d (.int .i64 x.a), .d (.int .i64 x.n), .d (.sl true z1 []), .d (.sl nl2 z2 ds)] 25, .cells [.d (.int .i64 0), .d (.str ⟨#[]⟩), .d (.int .i64 0), .d (.int .i64 0), .d (.sl true 0 []), .d (.sl true 0 [])] 31, .cells [.d (.int .i64 x.k), .d (.str x.t), .d (.int .i64 x.a), .d (.int .i64 x.n), .vs 0 x.names.length 0 x.names.length, .vs 1 acc.length 0 acc.length] 31]) (fun ((i, acc) : Nat × List D) => [NS x.names, NV 31 acc]) ((0, [])) (by (try dsimp only); exact ⟨Nat.zero_le _, by simp [NdRL], rfl⟩) (by simp <;> omega) (by simp) (by simp [hn]) ?_
   intro ⟨i, acc⟩ u w hI ih
   try simp only at hI ih
   obtain ⟨i1, i2, i3⟩ := hI
   by_cases hi : i < x.kids.length
   ·have hnl2 : nl2 = false := by cases nl2 with | false => rfl | true => (have := h3 rfl; rw [this] at hi; simp at hi)
    subst hnl2
    have := h4 rfl
    subst this
    obtain ⟨y, hy⟩ : ∃ y, x.kids[i]? = some y := ⟨_, List.getElem?_eq_getElem hi⟩
    obtain ⟨d, hd, hyd⟩ := h5.at hy
    have hE := ihn y (by have := kid_lt hy; omega) (GoodL.iff.1 hg.all y (List.mem_of_getElem? hy)) d hyd
    have hdE : ∀ h, ds[i]'h = d := fun h => by rw [List.getElem?_eq_getElem h] at hd; simpa using hd
    have hi' : (i : Int) < x.kids.length := by omega
    have hII : inI ((i : Int) + 1) = true := inI_of (by omega) (by omega)
    have hmul : (i + 1) * 88 ≤ 140737488355328 := by omega
    obtain ⟨nl1_d, z1_d, nl2_d, z2_d, ds_d, hv_d, ha_d, hb_d, hc_d, hd_d, he_d⟩ := hyd.shape
    have hw_d := hv_d
    subst hw_d
    simp [c11t, hdl, hi, hi', hdE, i3]
    refine ATT.callRE Tryz.func11 60 hE (by simp) (by simp) (by simp) fun v hv => ?_
    obtain ⟨nl1_v, z1_v, nl2_v, z2_v, ds_v, hv_v, ha_v, hb_v, hc_v, hd_v, he_v⟩ := hv.shape
    have hw_v := hv_v
    subst hw_v
    simp [c11t, hII, hmul, i3]
    refine ih (i + 1, acc ++ [_]) (by first | ((try dsimp only); omega) | (simp [hdl, hi, hi', hd, hdE, hII, hmul, i3] <;> omega)) (by (try dsimp only); exact ⟨hi, by rw [List.take_add_one, hy]; exact i2.append (.one hv), by simp [i3]⟩) _ _ _ (by simp <;> omega) (by simp <;> omega) (by simp [i3] <;> omega)
   ·have hie : i = x.kids.length := by omega
    have hi' : ¬ (i : Int) < x.kids.length := by omega
    rw [hie, List.take_length] at i2
    simp [c11t, hdl, hi']
    refine ATT.finz hQ Tryz.func11 c11res (by first | exact .inl rfl | exact .inr ⟨_, rfl⟩) ?_
    simp
    all_goals (first | omega | exact ⟨_, rfl⟩ | skip)
    exact NdR.of (by simp) (by simp) (by intro e; cases acc with | nil => exact (by cases hk : x.kids with | nil => rfl | cons _ _ => rw [hk] at i2; simp [NdRL] at i2) | cons _ _ => simp at e) (by simp) i2
  | false =>
   have := h2 rfl
   subst this
   refine AF.start' 60 Tryz.func11 rfl rfl c11call c11ok fun Q hQ => ?_
   simp [c11c, c11t, hl1]
   refine ATT.nilB 2 5 6 31 rfl rfl (by decide) (by simp) ?_
   simp
   refine ATT.loopG 60 c11l7.eq_1 (fun ((i, acc) : Nat × List D) => x.kids.length - i) (fun ((i, acc) : Nat × List D) => i ≤ x.kids.length ∧ NdRL (x.kids.take i) acc ∧ acc.length = i) (fun ((i, acc) : Nat × List D) => [(1, .ptr 0 0), (2, .ptr 1 0), (3, .ptr 2 0), (4, .d (.int .i64 i))]) (fun ((i, acc) : Nat × List D) => [.cells [.d (.int .i64 x.k), .d (.str x.t), .d (.int .i64 x.a), .d (.int .i64 x.n), .d (.sl false 1 (x.names.map .str)), .d (.sl nl2 z2 ds)] 25, .cells [.d (.int .i64 0), .d (.str ⟨#[]⟩), .d (.int .i64 0), .d (.int .i64 0), .d (.sl true 0 []), .d (.sl true 0 [])] 31, .cells [.d (.int .i64 x.k), .d (.str x.t), .d (.int .i64 x.a), .d (.int .i64 x.n), .vs 0 x.names.length 0 x.names.length, .vs 1 acc.length 0 acc.length] 31]) (fun ((i, acc) : Nat × List D) => [NS x.names, NV 31 acc]) ((0, [])) (by (try dsimp only); exact ⟨Nat.zero_le _, by simp [NdRL], rfl⟩) (by simp <;> omega) (by simp) (by simp) ?_
   intro ⟨i, acc⟩ u w hI ih
   try simp only at hI ih
   obtain ⟨i1, i2, i3⟩ := hI
   by_cases hi : i < x.kids.length
   ·have hnl2 : nl2 = false := by cases nl2 with | false => rfl | true => (have := h3 rfl; rw [this] at hi; simp at hi)
    subst hnl2
    have := h4 rfl
    subst this
    obtain ⟨y, hy⟩ : ∃ y, x.kids[i]? = some y := ⟨_, List.getElem?_eq_getElem hi⟩
    obtain ⟨d, hd, hyd⟩ := h5.at hy
    have hE := ihn y (by have := kid_lt hy; omega) (GoodL.iff.1 hg.all y (List.mem_of_getElem? hy)) d hyd
    have hdE : ∀ h, ds[i]'h = d := fun h => by rw [List.getElem?_eq_getElem h] at hd; simpa using hd
    have hi' : (i : Int) < x.kids.length := by omega
    have hII : inI ((i : Int) + 1) = true := inI_of (by omega) (by omega)
    have hmul : (i + 1) * 88 ≤ 140737488355328 := by omega
    obtain ⟨nl1_d, z1_d, nl2_d, z2_d, ds_d, hv_d, ha_d, hb_d, hc_d, hd_d, he_d⟩ := hyd.shape
    have hw_d := hv_d
    subst hw_d
    simp [c11t, hdl, hi, hi', hdE, i3]
    refine ATT.callRE Tryz.func11 60 hE (by simp) (by simp) (by simp) fun v hv => ?_
    obtain ⟨nl1_v, z1_v, nl2_v, z2_v, ds_v, hv_v, ha_v, hb_v, hc_v, hd_v, he_v⟩ := hv.shape
    have hw_v := hv_v
    subst hw_v
    simp [c11t, hII, hmul, i3]
    refine ih (i + 1, acc ++ [_]) (by first | ((try dsimp only); omega) | (simp [hdl, hi, hi', hd, hdE, hII, hmul, i3] <;> omega)) (by (try dsimp only); exact ⟨hi, by rw [List.take_add_one, hy]; exact i2.append (.one hv), by simp [i3]⟩) _ _ _ (by simp <;> omega) (by simp <;> omega) (by simp [i3] <;> omega)
   ·have hie : i = x.kids.length := by omega
    have hi' : ¬ (i : Int) < x.kids.length := by omega
    rw [hie, List.take_length] at i2
    simp [c11t, hdl, hi']
    refine ATT.finz hQ Tryz.func11 c11res (by first | exact .inl rfl | exact .inr ⟨_, rfl⟩) ?_
    simp
    all_goals (first | omega | exact ⟨_, rfl⟩ | skip)
    exact NdR.of (by simp) (by simp) (by intro e; cases acc with | nil => exact (by cases hk : x.kids with | nil => rfl | cons _ _ => rw [hk] at i2; simp [NdRL] at i2) | cons _ _ => simp at e) (by simp) i2
set_option maxHeartbeats 1000000 in
theorem f10_ok {Q : ByteArray → Nat → Prop} : ∀ (m : Nat) (x : Nd), SizeOf.sizeOf x ≤ m → Good Q x → ∀ u v, NdR x u → NdR x v → DF Tryz.prog 10 [u, v, .bool true] (.bool true) := by
 intro m
 induction m with
 | zero => intro x h; cases x; simp at h
 | succ m ihn =>
  intro x hm hg u v hu hv
  obtain ⟨nl1, z1, nl2, z2, ds, e, h1, h2, h3, h4, h5⟩ := hu.shape
  subst e
  obtain ⟨nl3, z3, nl4, z4, ds2, e, g1, g2, g3, g4, g5⟩ := hv.shape
  subst e
  have ho := hg.one
  have hl1 : x.names.length ≤ 10000 := ho.1
  have hl2 : x.kids.length ≤ 10000 := ho.2.1
  have hdl := h5.length
  have gdl := g5.length
  refine AF.start' 60 Tryz.func10 rfl rfl c10call c10ok fun Q hQ => ?_
  simp [c10c, c10t, hdl, gdl]
  refine ATT.loopG 60 c10l8.eq_1 (fun (i : Nat) => x.names.length - i) (fun (i : Nat) => i ≤ x.names.length) (fun (i : Nat) => [(2, .d (.bool true)), (3, .ptr 0 0), (4, .ptr 1 0), (7, .d (.int .i64 i))]) (fun (i : Nat) => [.cells [.d (.int .i64 x.k), .d (.str x.t), .d (.int .i64 x.a), .d (.int .i64 x.n), .d (.sl nl1 z1 (x.names.map .str)), .d (.sl nl2 z2 ds)] 31, .cells [.d (.int .i64 x.k), .d (.str x.t), .d (.int .i64 x.a), .d (.int .i64 x.n), .d (.sl nl3 z3 (x.names.map .str)), .d (.sl nl4 z4 ds2)] 31]) (fun (i : Nat) => []) (0) (by (try dsimp only); exact Nat.zero_le _) (by simp <;> omega) (by simp) (by simp) ?_
  intro i u w hI ih
  try simp only at hI ih
  by_cases hi : i < x.names.length
  ·have hnl1 : nl1 = false := by cases nl1 with | false => rfl | true => (have := h1 rfl; rw [this] at hi; simp at hi)
   subst hnl1
   have := h2 rfl
   subst this
   have hnl3 : nl3 = false := by cases nl3 with | false => rfl | true => (have := g1 rfl; rw [this] at hi; simp at hi)
   subst hnl3
   have := g2 rfl
   subst this
   obtain ⟨y, hy⟩ : ∃ y, x.names[i]? = some y := ⟨_, List.getElem?_eq_getElem hi⟩
   have hyE : ∀ h, x.names[i]'h = y := fun h => by rw [List.getElem?_eq_getElem h] at hy; simpa using hy
   have hi' : (i : Int) < x.names.length := by omega
   have hII : inI ((i : Int) + 1) = true := inI_of (by omega) (by omega)
   simp [c10t, hi, hi', hyE, hII]
   refine ih (i + 1) (by first | ((try dsimp only); omega) | (simp [hdl, gdl, hi, hi', hy, hyE, hII] <;> omega)) (by (try dsimp only); exact hi) _ _ _ (by simp <;> omega) (by simp <;> omega) (by simp <;> omega)
  ·have hi' : ¬ (i : Int) < x.names.length := by omega
   simp [c10t, hi']
   refine ATT.loopG 60 c10l14.eq_1 (fun (j : Nat) => x.kids.length - j) (fun (j : Nat) => j ≤ x.kids.length) (fun (j : Nat) => [(2, .d (.bool true)), (3, .ptr 0 0), (4, .ptr 1 0), (8, .d (.int .i64 j))]) (fun (j : Nat) => [.cells [.d (.int .i64 x.k), .d (.str x.t), .d (.int .i64 x.a), .d (.int .i64 x.n), .d (.sl nl1 z1 (x.names.map .str)), .d (.sl nl2 z2 ds)] 31, .cells [.d (.int .i64 x.k), .d (.str x.t), .d (.int .i64 x.a), .d (.int .i64 x.n), .d (.sl nl3 z3 (x.names.map .str)), .d (.sl nl4 z4 ds2)] 31]) (fun (j : Nat) => []) (0) (by (try dsimp only); exact Nat.zero_le _) (by simp <;> omega) (by simp) (by simp) ?_
   intro j u w hI ih
   try simp only at hI ih
   by_cases hj : j < x.kids.length
   ·have hnl2 : nl2 = false := by cases nl2 with | false => rfl | true => (have := h3 rfl; rw [this] at hj; simp at hj)
    subst hnl2
    have := h4 rfl
    subst this
    have hnl4 : nl4 = false := by cases nl4 with | false => rfl | true => (have := g3 rfl; rw [this] at hj; simp at hj)
    subst hnl4
    have := g4 rfl
    subst this
    obtain ⟨y, hy⟩ : ∃ y, x.kids[j]? = some y := ⟨_, List.getElem?_eq_getElem hj⟩
    obtain ⟨d, hd, hyd⟩ := h5.at hy
    obtain ⟨d2, hd2, hyd2⟩ := g5.at hy
    have hE := ihn y (by have := kid_lt hy; omega) (GoodL.iff.1 hg.all y (List.mem_of_getElem? hy)) d d2 hyd hyd2
    have hdE : ∀ h, ds[j]'h = d := fun h => by rw [List.getElem?_eq_getElem h] at hd; simpa using hd
    have hdE2 : ∀ h, ds2[j]'h = d2 := fun h => by rw [List.getElem?_eq_getElem h] at hd2; simpa using hd2
    have hj' : (j : Int) < x.kids.length := by omega
    have hII : inI ((j : Int) + 1) = true := inI_of (by omega) (by omega)
    obtain ⟨nl1_d, z1_d, nl2_d, z2_d, ds_d, hv_d, ha_d, hb_d, hc_d, hd_d, he_d⟩ := hyd.shape
    have hw_d := hv_d
    subst hw_d
    obtain ⟨nl1_d2, z1_d2, nl2_d2, z2_d2, ds_d2, hv_d2, ha_d2, hb_d2, hc_d2, hd_d2, he_d2⟩ := hyd2.shape
    have hw_d2 := hv_d2
    subst hw_d2
    simp [c10t, hdl, gdl, hj, hj', hdE, hdE2]
    refine ATT.callRD Tryz.func10 60 (hE) (by simp) (by simp) (by simp) ?_
    simp [c10t, hII]
    refine ih (j + 1) (by first | ((try dsimp only); omega) | (simp [hdl, gdl, hj, hj', hd, hdE, hd2, hdE2, hII] <;> omega)) (by (try dsimp only); exact hj) _ _ _ (by simp <;> omega) (by simp <;> omega) (by simp <;> omega)
   ·have hj' : ¬ (j : Int) < x.kids.length := by omega
    simp [c10t, hdl, hj']
    refine ATT.fin' hQ Tryz.func10 c10res ?_
    simp
    all_goals (first | omega | exact ⟨_, rfl⟩ | skip)
def nodeOf : Res Nd → Nd
 | .ok x _ => x
 | _ => .mk 0 ⟨#[]⟩ 0 0 [] []
def atOf : Res Nd → Nat
 | .no a _ => a
 | _ => 0
def errOf : Res Nd → Int
 | .no _ w => w
 | _ => 0
theorem UnR.get {r : Res Nd} {v : D} (h : UnR r v) (hr : r ≠ .out) : ∃ u, v = .tup [u, .int .i64 (atOf r), .int .i64 (errOf r)] ∧ NdR (nodeOf r) u := by
 cases r with
 | ok x l => obtain ⟨u, e, hu⟩ := h; exact ⟨u, e, hu⟩
 | no a w => exact ⟨zeroN, h, .leaf 0 ⟨#[]⟩ 0 0⟩
 | out => exact absurd rfl hr
theorem parse_wide (num : ByteArray → Bool) (m : Bool) (s : ByteArray) : Good (fun _ _ => True) (nodeOf (parseD num m s)) := by
 have hz : Good (fun _ _ => True) (.mk 0 ⟨#[]⟩ 0 0 [] []) := .leaf (by decide)
 unfold parseD
 split
 ·exact hz
 ·split
  ·rename_i hs l hl
   have hwf := lexS_wf (by omega) hl
   cases hu : uniS (fuel l) (headS m) l with
   | ok x r =>
    unfold uniS at hu
    obtain ⟨p, r1, e1, e2⟩ := andThen_ok hu
    obtain ⟨b, r2, e3, e4⟩ := andThen_ok e2
    simp only [Res.ok.injEq] at e4
    have h1 := headS_wf hwf e1
    have hg := (presG (Q := fun _ _ => True) (K := fun _ _ => True) trivial (fun _ _ _ _ => trivial) (fuel l)).body h1.1 (fun t _ => ⟨fun _ => trivial, fun _ => trivial, fun _ _ _ _ => trivial⟩) e3
    have h2 := h1.2
    simp only [nodeOf]
    rw [← e4.1]
    simp only [Good, Good1]
    exact ⟨⟨by simp; omega, by omega, by simp, fun e => by simp at e, fun e => by simp at e, fun e => by simp at e⟩, hg.1⟩
   | no a w => exact hz
   | out => exact hz
  ·exact hz
theorem f3_ok (s : ByteArray) (hs : s.size ≤ 1048576) : DF Tryz.prog 3 [.str s] (.bool true) := by
 have hP := f8_ok hWhole s (by omega)
 have hR := f9_ok hRef s (by omega)
 have hin := parseD_in numS false s
 have hgd := parse_wide numS false s
 refine AF.start' 60 Tryz.func3 rfl rfl c3call c3ok fun Q hQ => ?_
 simp [c3c, c3t]
 refine ATT.callE Tryz.func3 60 hP (by simp) (by simp) (by simp) fun v hv => ?_
 obtain ⟨u, e, hu⟩ := UnR.get hv hin
 subst e
 have hu' := hu
 obtain ⟨nl1_u, z1_u, nl2_u, z2_u, ds_u, hv_u, ha_u, hb_u, hc_u, hd_u, he_u⟩ := hu.shape
 have hw_u := hv_u
 subst hw_u
 simp [c3t]
 refine ATT.callE Tryz.func3 60 hR (by simp) (by simp) (by simp) fun w hw => ?_
 obtain ⟨u2, e, hu2⟩ := UnR.get hw hin
 subst e
 have hu2' := hu2
 obtain ⟨nl1_u2, z1_u2, nl2_u2, z2_u2, ds_u2, hv_u2, ha_u2, hb_u2, hc_u2, hd_u2, he_u2⟩ := hu2.shape
 have hw_u2 := hv_u2
 subst hw_u2
 simp
 refine ATT.callRE Tryz.func3 60 (f11_ok _ _ (Nat.le_refl _) hgd _ hu') (by simp) (by simp) (by simp) fun v3 hv3 => ?_
 simp
 refine ATT.callRD Tryz.func3 60 (f10_ok _ _ (Nat.le_refl _) hgd v3 _ hv3 hu2') (by simp) (by simp) (by simp) ?_
 simp
 refine ATT.callRD Tryz.func3 60 (f12_ok) (by simp) (by simp) (by simp) ?_
 simp
 refine ATT.fin' hQ Tryz.func3 c3res ?_
 simp
 all_goals (first | omega | exact ⟨_, rfl⟩ | skip)
theorem f6_ok (s : ByteArray) (hs : s.size ≤ 1048576) : DF Tryz.prog 6 [.str s] (.bool true) := by
 have hP := f16_ok hWhole s (by omega)
 have hR := f17_ok hRef s (by omega)
 have hin := parseD_in numS true s
 have hgd := parse_wide numS true s
 refine AF.start' 60 Tryz.func6 rfl rfl c6call c6ok fun Q hQ => ?_
 simp [c6c, c6t]
 refine ATT.callE Tryz.func6 60 hP (by simp) (by simp) (by simp) fun v hv => ?_
 obtain ⟨u, e, hu⟩ := UnR.get hv hin
 subst e
 have hu' := hu
 obtain ⟨nl1_u, z1_u, nl2_u, z2_u, ds_u, hv_u, ha_u, hb_u, hc_u, hd_u, he_u⟩ := hu.shape
 have hw_u := hv_u
 subst hw_u
 simp [c6t]
 refine ATT.callE Tryz.func6 60 hR (by simp) (by simp) (by simp) fun w hw => ?_
 obtain ⟨u2, e, hu2⟩ := UnR.get hw hin
 subst e
 have hu2' := hu2
 obtain ⟨nl1_u2, z1_u2, nl2_u2, z2_u2, ds_u2, hv_u2, ha_u2, hb_u2, hc_u2, hd_u2, he_u2⟩ := hu2.shape
 have hw_u2 := hv_u2
 subst hw_u2
 simp
 refine ATT.callRE Tryz.func6 60 (f11_ok _ _ (Nat.le_refl _) hgd _ hu') (by simp) (by simp) (by simp) fun v3 hv3 => ?_
 simp
 refine ATT.callRD Tryz.func6 60 (f10_ok _ _ (Nat.le_refl _) hgd v3 _ hv3 hu2') (by simp) (by simp) (by simp) ?_
 simp
 refine ATT.callRD Tryz.func6 60 (f12_ok) (by simp) (by simp) (by simp) ?_
 simp
 refine ATT.fin' hQ Tryz.func6 c6res ?_
 simp
 all_goals (first | omega | exact ⟨_, rfl⟩ | skip)
end Go.SL
namespace Go.Proofs.YtgggkjbdlddbkaaGreatDoor
open Go.ChangeShapes Go.WideShapes Go.ChangeAt Go.RowKit Go.ChangeMaps
namespace treeParses
theorem own : ownKnob Tryz.prog.godebug = none := by kernel_rfl
set_option maxRecDepth 100000 in
theorem contract (law : ∀ s : ByteArray, s.size ≤ 1048576 → SL.DF Tryz.prog 3 [.str s] (.bool true)) (H : Type) (enc : TypeId × Value → H) (W : World) (base : Nat) (args : Array Value) (ds gs : List (DataW H)) (before : List MemPlace)
  (hval : ∀ (j : Nat) t v, Tryz.f3.params[j]? = some t → args[j]? = some v → Value.okWide Tryz.prog W .any base t v)
  (hW : DataW.Whole enc Tryz.prog Tryz.f3.params.toList Rows.treeParsesSpec.vars false W args.toList ds gs before) (hk : Rows.uptoSmall H (ds ++ gs) = true) :
  Calls Tryz.prog 3 args W fun e W' => ∃ v, e = .returned v ∧ Rows.treeParsesSpec.post enc Tryz.prog Tryz.f3 false true false false W args v W' := by
 have hW' := hW
 obtain ⟨p, q, hA0, hV, rfl, hfz, hnd⟩ := hW
 have hA : DataW.TrodAll enc Tryz.prog W 0 (fun _ => true) true Tryz.f3.params.toList args.toList ds p := hA0
 rw [Tryz.params3] at hA hval
 obtain ⟨v0, vs0, d0, ds0, p0, q0, hargs, rfl, rfl, h0, r0⟩ := trodAll_cons hA
 obtain ⟨rfl, rfl, rfl⟩ := trodAll_nil r0
 obtain rfl : args = #[v0] := by cases args; simp_all
 obtain ⟨rfl, rfl⟩ := trodVars_none hV
 obtain ⟨s, rfl, rfl, rfl, hs⟩ := open_string Tryz.underlying9 (hval 0 9 v0 (by simp) (by simp)) h0
 clear hA0
 have hb : s.size ≤ 1048576 := by
  simp [Rows.uptoSmall, Rows.uptoBulkAll, Rows.uptoBulk] at hk
  have : s.data.toList.length = s.size := rfl
  simp at this
  omega
 refine ((law s hb).world (argv := [.string s]) (by simp [SL.VL, SL.VR, SL.DR])).mono fun e W' ⟨he, hg⟩ => ?_
 subst he
 simp only [List.append_nil] at hW'
 exact ⟨_, rfl, SL.post_plain hW' (fun _ _ _ => trodAll_cons_mk (SL.shut_boolP Tryz.underlying4 _) trodAll_mk0) (fun _ => trodAll_cons_mk (SL.shut_stringP Tryz.underlying9 hs) trodAll_mk0) (fun _ => rfl) hg (ok_one (by kernel_rfl) rfl (okWide_bool_mk Tryz.underlying4 _))⟩
theorem laid_met (os : Os) : laidMetH Tryz.prog Rows.treeParsesUptoRow.laid ((World.laidAll Tryz.prog os Rows.treeParsesUptoRow.laid).forCall (fun _ _ => 0) ⟨#[], #[.string ⟨#[]⟩], []⟩).memory := by
 rw [MakeChecks.laidMetH_plain _ _ _ (by kernel_rfl)]
 exact laidMet_laidAll _ (by kernel_rfl) (by kernel_rfl)
theorem reads (os : Os) {H : Type} (enc : TypeId × Value → H) : ∃ places, DataW.whole enc Tryz.prog ((World.laidAll Tryz.prog os Rows.treeParsesUptoRow.laid).forCall (fun _ _ => 0) ⟨#[], #[.string ⟨#[]⟩], []⟩).memory Tryz.f3.params.toList Rows.treeParsesSpec.vars false #[Value.string ⟨#[]⟩].toList 8 = some ([.lit (.string [])], [], places) :=
 ⟨[], by kernel_rfl⟩
set_option maxRecDepth 100000 in
theorem lifted (law : ∀ s : ByteArray, s.size ≤ 1048576 → SL.DF Tryz.prog 3 [.str s] (.bool true)) (os : Os) (started : os.Started) (H : Type) (enc : TypeId × Value → H) (F : Stop.Interp) :
  ReturnsInHanded {} Tryz.checked os 3 .any ((Rows.OpenSpec.upto Rows.treeParsesSpec).preRow enc Tryz.prog Tryz.f3 Rows.treeParsesUptoRow.domain false Rows.treeParsesUptoRow.laid) (((Rows.OpenSpec.upto Rows.treeParsesSpec).at F).post enc Tryz.prog Tryz.f3 false true false false) := by
 obtain ⟨places, hx⟩ := reads os enc
 refine returnsInHanded_of_row (C := Tryz.checked) (s := Rows.OpenSpec.upto Rows.treeParsesSpec) own started (by kernel_rfl) Tryz.func3
  (witness_row_at (enc := enc) (C := Tryz.checked) false (World.laidAll Tryz.prog os Rows.treeParsesUptoRow.laid) #[.string ⟨#[]⟩] (World.laidAll_os _ _ _) (by kernel_rfl) (by kernel_rfl) (by kernel_rfl)
   (OpenSpec.preRow_of_cond 8 hx (by kernel_rfl) (fun k hk => by cases hk; kernel_rfl) (by kernel_rfl) (laid_met os))) ?_
 intro W base args ds gs before hval hW _ hcond _ _ _ _
 exact contract law H enc W base args ds gs before hval hW (hcond _ rfl)
theorem saidUpto (law : ∀ s : ByteArray, s.size ≤ 1048576 → SL.DF Tryz.prog 3 [.str s] (.bool true)) : Rows.TreeParsesUptoSaid :=
 OpenClaim.holds_of_cond 3 Tryz.f3 rfl rfl rfl rfl rfl rfl rfl ⟨rfl, rfl, rfl, rfl, rfl⟩ rfl rfl rfl rfl rfl (by kernel_rfl) Tryz.func3 (by kernel_rfl)
  (of_decide_eq_true (by kernel_rfl)) (by unfold Func.isWrapper; first | (rw [if_pos (by decide +kernel)]; kernel_rfl) | (rw [if_neg (by decide +kernel)]; exact ⟨rfl, rfl⟩))
  (fun os started H enc _ F => by rw [OpenClaim.pre_eq_preRow]; exact lifted law os started H enc F)
theorem plain (f : FuncId) (fn : Func) (hf : Tryz.pinned.checked.prog.funcNamed "lapidary/lapidarylaw08.TreeParses" = some f) (hfn : Tryz.pinned.checked.prog.funcs[f]? = some fn) :
  true = Tryz.pinned.checked.prog.looks [] ∧ ∀ (j : Nat) t, fn.params[j]? = some t → Tryz.pinned.checked.prog.wantsStandIn t = false := by
 obtain rfl : f = 3 := Option.some.inj ((show Tryz.prog.funcNamed "lapidary/lapidarylaw08.TreeParses" = some 3 by kernel_rfl).symm.trans hf) |>.symm
 obtain rfl : fn = Tryz.f3 := (Option.some.inj (Tryz.func3.symm.trans hfn)).symm
 refine ⟨by kernel_rfl, fun j t ht => ?_⟩
 rw [Tryz.params3] at ht
 obtain rfl : t = 9 := by simpa using Array.mem_of_getElem? ht
 exact (show Tryz.prog.wantsStandIn 9 = false by kernel_rfl)
theorem cardUpto (law : ∀ s : ByteArray, s.size ≤ 1048576 → SL.DF Tryz.prog 3 [.str s] (.bool true)) : Rows.TreeParsesUptoCardSaid :=
 Claim7.holds_tied_plain_at .later [] _ _ _ _ (saidUpto law) (fun _ h => by cases h) (by kernel_rfl) (fun _ h => by cases h) treeParsesUpto_row_tie rfl ⟨rfl, rfl⟩ (by kernel_rfl) rfl plain (by kernel_rfl)
end treeParses
theorem treeParses_holds : Rows.TreeParsesUptoCardSaid := treeParses.cardUpto fun s hs => SL.f3_ok s hs
end Go.Proofs.YtgggkjbdlddbkaaGreatDoor
namespace Go.Proofs.YtgggkjbdlddbkaaGreatDoor
open Go.ChangeShapes Go.WideShapes Go.ChangeAt Go.RowKit Go.ChangeMaps
namespace treeMethods
theorem own : ownKnob Tryz.prog.godebug = none := by kernel_rfl
set_option maxRecDepth 100000 in
theorem contract (law : ∀ s : ByteArray, s.size ≤ 1048576 → SL.DF Tryz.prog 6 [.str s] (.bool true)) (H : Type) (enc : TypeId × Value → H) (W : World) (base : Nat) (args : Array Value) (ds gs : List (DataW H)) (before : List MemPlace)
  (hval : ∀ (j : Nat) t v, Tryz.f6.params[j]? = some t → args[j]? = some v → Value.okWide Tryz.prog W .any base t v)
  (hW : DataW.Whole enc Tryz.prog Tryz.f6.params.toList Rows.treeMethodsSpec.vars false W args.toList ds gs before) (hk : Rows.uptoSmall H (ds ++ gs) = true) :
  Calls Tryz.prog 6 args W fun e W' => ∃ v, e = .returned v ∧ Rows.treeMethodsSpec.post enc Tryz.prog Tryz.f6 false true false false W args v W' := by
 have hW' := hW
 obtain ⟨p, q, hA0, hV, rfl, hfz, hnd⟩ := hW
 have hA : DataW.TrodAll enc Tryz.prog W 0 (fun _ => true) true Tryz.f6.params.toList args.toList ds p := hA0
 rw [Tryz.params6] at hA hval
 obtain ⟨v0, vs0, d0, ds0, p0, q0, hargs, rfl, rfl, h0, r0⟩ := trodAll_cons hA
 obtain ⟨rfl, rfl, rfl⟩ := trodAll_nil r0
 obtain rfl : args = #[v0] := by cases args; simp_all
 obtain ⟨rfl, rfl⟩ := trodVars_none hV
 obtain ⟨s, rfl, rfl, rfl, hs⟩ := open_string Tryz.underlying9 (hval 0 9 v0 (by simp) (by simp)) h0
 clear hA0
 have hb : s.size ≤ 1048576 := by
  simp [Rows.uptoSmall, Rows.uptoBulkAll, Rows.uptoBulk] at hk
  have : s.data.toList.length = s.size := rfl
  simp at this
  omega
 refine ((law s hb).world (argv := [.string s]) (by simp [SL.VL, SL.VR, SL.DR])).mono fun e W' ⟨he, hg⟩ => ?_
 subst he
 simp only [List.append_nil] at hW'
 exact ⟨_, rfl, SL.post_plain hW' (fun _ _ _ => trodAll_cons_mk (SL.shut_boolP Tryz.underlying4 _) trodAll_mk0) (fun _ => trodAll_cons_mk (SL.shut_stringP Tryz.underlying9 hs) trodAll_mk0) (fun _ => rfl) hg (ok_one (by kernel_rfl) rfl (okWide_bool_mk Tryz.underlying4 _))⟩
theorem laid_met (os : Os) : laidMetH Tryz.prog Rows.treeMethodsUptoRow.laid ((World.laidAll Tryz.prog os Rows.treeMethodsUptoRow.laid).forCall (fun _ _ => 0) ⟨#[], #[.string ⟨#[]⟩], []⟩).memory := by
 rw [MakeChecks.laidMetH_plain _ _ _ (by kernel_rfl)]
 exact laidMet_laidAll _ (by kernel_rfl) (by kernel_rfl)
theorem reads (os : Os) {H : Type} (enc : TypeId × Value → H) : ∃ places, DataW.whole enc Tryz.prog ((World.laidAll Tryz.prog os Rows.treeMethodsUptoRow.laid).forCall (fun _ _ => 0) ⟨#[], #[.string ⟨#[]⟩], []⟩).memory Tryz.f6.params.toList Rows.treeMethodsSpec.vars false #[Value.string ⟨#[]⟩].toList 8 = some ([.lit (.string [])], [], places) :=
 ⟨[], by kernel_rfl⟩
set_option maxRecDepth 100000 in
theorem lifted (law : ∀ s : ByteArray, s.size ≤ 1048576 → SL.DF Tryz.prog 6 [.str s] (.bool true)) (os : Os) (started : os.Started) (H : Type) (enc : TypeId × Value → H) (F : Stop.Interp) :
  ReturnsInHanded {} Tryz.checked os 6 .any ((Rows.OpenSpec.upto Rows.treeMethodsSpec).preRow enc Tryz.prog Tryz.f6 Rows.treeMethodsUptoRow.domain false Rows.treeMethodsUptoRow.laid) (((Rows.OpenSpec.upto Rows.treeMethodsSpec).at F).post enc Tryz.prog Tryz.f6 false true false false) := by
 obtain ⟨places, hx⟩ := reads os enc
 refine returnsInHanded_of_row (C := Tryz.checked) (s := Rows.OpenSpec.upto Rows.treeMethodsSpec) own started (by kernel_rfl) Tryz.func6
  (witness_row_at (enc := enc) (C := Tryz.checked) false (World.laidAll Tryz.prog os Rows.treeMethodsUptoRow.laid) #[.string ⟨#[]⟩] (World.laidAll_os _ _ _) (by kernel_rfl) (by kernel_rfl) (by kernel_rfl)
   (OpenSpec.preRow_of_cond 8 hx (by kernel_rfl) (fun k hk => by cases hk; kernel_rfl) (by kernel_rfl) (laid_met os))) ?_
 intro W base args ds gs before hval hW _ hcond _ _ _ _
 exact contract law H enc W base args ds gs before hval hW (hcond _ rfl)
theorem saidUpto (law : ∀ s : ByteArray, s.size ≤ 1048576 → SL.DF Tryz.prog 6 [.str s] (.bool true)) : Rows.TreeMethodsUptoSaid :=
 OpenClaim.holds_of_cond 6 Tryz.f6 rfl rfl rfl rfl rfl rfl rfl ⟨rfl, rfl, rfl, rfl, rfl⟩ rfl rfl rfl rfl rfl (by kernel_rfl) Tryz.func6 (by kernel_rfl)
  (of_decide_eq_true (by kernel_rfl)) (by unfold Func.isWrapper; first | (rw [if_pos (by decide +kernel)]; kernel_rfl) | (rw [if_neg (by decide +kernel)]; exact ⟨rfl, rfl⟩))
  (fun os started H enc _ F => by rw [OpenClaim.pre_eq_preRow]; exact lifted law os started H enc F)
theorem plain (f : FuncId) (fn : Func) (hf : Tryz.pinned.checked.prog.funcNamed "lapidary/lapidarylaw08.TreeMethods" = some f) (hfn : Tryz.pinned.checked.prog.funcs[f]? = some fn) :
  true = Tryz.pinned.checked.prog.looks [] ∧ ∀ (j : Nat) t, fn.params[j]? = some t → Tryz.pinned.checked.prog.wantsStandIn t = false := by
 obtain rfl : f = 6 := Option.some.inj ((show Tryz.prog.funcNamed "lapidary/lapidarylaw08.TreeMethods" = some 6 by kernel_rfl).symm.trans hf) |>.symm
 obtain rfl : fn = Tryz.f6 := (Option.some.inj (Tryz.func6.symm.trans hfn)).symm
 refine ⟨by kernel_rfl, fun j t ht => ?_⟩
 rw [Tryz.params6] at ht
 obtain rfl : t = 9 := by simpa using Array.mem_of_getElem? ht
 exact (show Tryz.prog.wantsStandIn 9 = false by kernel_rfl)
theorem cardUpto (law : ∀ s : ByteArray, s.size ≤ 1048576 → SL.DF Tryz.prog 6 [.str s] (.bool true)) : Rows.TreeMethodsUptoCardSaid :=
 Claim7.holds_tied_plain_at .later [] _ _ _ _ (saidUpto law) (fun _ h => by cases h) (by kernel_rfl) (fun _ h => by cases h) treeMethodsUpto_row_tie rfl ⟨rfl, rfl⟩ (by kernel_rfl) rfl plain (by kernel_rfl)
end treeMethods
theorem treeMethods_holds : Rows.TreeMethodsUptoCardSaid := treeMethods.cardUpto fun s hs => SL.f6_ok s hs
end Go.Proofs.YtgggkjbdlddbkaaGreatDoor
