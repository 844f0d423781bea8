/- TreeArgs: how many arguments any message has is what the document says, for every source of bulk at most 1048576. -/
import Derived.Test.YtgggkjbdlddbkaaGreatDoorArgs3
import Derived.Test.YtgggkjbdlddbkaaGreatDoorCards
import Derived.Test.YtgggkjbdlddbkaaGreatDoorTie
import Derived.ProofKit
import Derived.OpenShut
import Derived.LaidMore
import Derived.Lay
import Derived.OpenShut
import Derived.Deep.DeepHandedRow
namespace Go.SL
open Go.Proofs
set_option maxRecDepth 10000
theorem upH_out {h hC : H} {rb rv : List Nat} {kb kv i : Nat} (hi : i ∉ rb) (hl : i < h.bx.length) : (upH h hC rb rv kb kv).bx[i]? = h.bx[i]? := by
  simp only [upH]
  rw [List.getElem?_append_left (by rw [setAll_length]; exact hl)]
  exact setAll_out _ _ _ _ hi
section
variable {N : Nat} {f : FD} {Q : Out → H → Prop}
theorem ATT.callPv {α : Type} {Φ : α → D → Prop} {fn : Func} (hf : Tryz.prog.funcs[f.fn]? = some fn) {ix : Nat} {dst : Option Nat} {g : Opd} {args : List Opd} {kill : List Nat} {r : List AI} {k : List AItem} {env : Env} {h : H} {ob : Bool} {fid : FuncId} {l : List Tk} {d : Nat} {res : Res α} {argsC : List V}
    (n j : Nat) (hAF : AF Tryz.prog fid argsC ⟨[PB l d], []⟩ (PR Φ d res)) (hr : res ≠ .out) (hc : calls (ev env g) (args.map (ev env)) = some (fid, rns [j] [] argsC)) (hsc : insc 1 0 argsC = true) (hj : h.bx[j]? = some (PB l d)) (ho : ob = true)
    (hno : ∀ a w, res = .no a w → ∀ h' : H, (∀ i, i ≠ j → h'.bx[i]? = h.bx[i]?) → h'.bx.length = h.bx.length → h.vc.length ≤ h'.vc.length → Q (.pan (stopV a w)) h')
    (hk : ∀ x l' v, res = .ok x l' → Φ x v → ATT Tryz.prog N f Q (goes n (.reg r :: k) (put (dels env kill) dst (.d v)) ⟨h.bx.set j (PB l' d), h.vc⟩ true)) (hkp : subE env f.keep := by exact True.intro) : ATT Tryz.prog N f Q (.reg (⟨ix, dst, .call g args, none, kill⟩ :: r) :: k, env, h, ob) := by
  refine ATT.callA hf n [j] [] 0 0 hAF trivial hc (by simp [hj]) hsc ho (fun out hC hE => ?_) hkp
  cases hres : res with
  | ok x l' =>
    rw [hres] at hE
    obtain ⟨v, b, c, e1, e2, hφ⟩ := hE
    subst e1 e2
    refine ⟨by simp, ?_⟩
    have := hk x l' v hres hφ
    simpa using this
  | no a w =>
    rw [hres] at hE
    obtain ⟨e1, e2⟩ := hE
    subst e1
    exact ⟨by simpa using e2, by simpa [stopV] using hno a w hres _ (fun i hi => by simp; exact setAll_out _ _ _ _ (by simpa using hi)) (by simp) (by simp)⟩
  | out => exact absurd hres hr
end
abbrev NS (l : List ByteArray) : Option Vec := some ⟨l.isEmpty, 1, 0, l.map fun s => .d (.str s), 9⟩
theorem strs_ds (l : List ByteArray) : (l.map fun s => V.d (.str s)) = (l.map D.str).map .d := by simp
@[simp] theorem rns_strs (rb rv : List Nat) (l : List ByteArray) : rns rb rv (l.map fun s => V.d (.str s)) = l.map fun s => V.d (.str s) := by rw [strs_ds]; exact rns_data rb rv _
@[simp] theorem insc_strs (n m : Nat) (l : List ByteArray) : insc n m (l.map fun s => V.d (.str s)) = true := by rw [strs_ds]; exact insc_data n m _
@[simp] theorem mapD_strs (h : H) (n : Nat) (l : List ByteArray) : mapD (toDv h n) (l.map fun s => V.d (.str s)) = some (l.map .str) := by rw [strs_ds]; exact mapD_d h n _
@[simp] theorem rns_app (rb rv : List Nat) : ∀ a b : List V, rns rb rv (a ++ b) = rns rb rv a ++ rns rb rv b
  | [], b => rfl
  | x :: a, b => by simp only [List.cons_append, rns]; rw [rns_app rb rv a b]
@[simp] theorem insc_app (n m : Nat) : ∀ a b : List V, insc n m (a ++ b) = (insc n m a && insc n m b)
  | [], b => rfl
  | x :: a, b => by simp only [List.cons_append, insc]; rw [insc_app n m a b, Bool.and_assoc]
@[simp] theorem mapD_strs2 (h : H) (n : Nat) (a b : List ByteArray) : mapD (toDv h n) ((a.map fun s => V.d (.str s)) ++ b.map fun s => V.d (.str s)) = some (a.map .str ++ b.map .str) := by
  rw [← List.map_append, mapD_strs, List.map_append]
@[simp] theorem take_two {α β γ : Type} (f : α → γ) (g : β → γ) (a : List α) (b : List β) : List.take (a.length + b.length) (a.map f ++ b.map g) = a.map f ++ b.map g := List.take_of_length_le (by simp)
def BR (names : List ByteArray) (a0 a1 a2 a3 : D) (d : Nat) (r : Res (List ByteArray × List Nd)) (o : Out) (h : H) : Prop := match r with
  | .ok x l => ∃ b c ds, o = .ret (.d (.tup [])) ∧ h = ⟨PB l d :: .cells [.d a0, .d a1, .d a2, .d a3, .vs 0 (names ++ x.1).length 0 (names ++ x.1).length, .vs 1 ds.length 0 ds.length] 25 :: b, NS (names ++ x.1) :: NV 25 ds :: c⟩ ∧ NdRL x.2 ds
  | .no a w => o = .pan (stopV a w) ∧ (∃ cs, h.bx[1]? = some (.cells cs 25) ∧ cs.length = 6) ∧ 2 ≤ h.bx.length ∧ 2 ≤ h.vc.length
  | .out => True
theorem BR.mk {names ts : List ByteArray} {a0 a1 a2 a3 : D} {d : Nat} {l : List Tk} {ks : List Nd} {ds : List D} {x4 x5 : V} {b : List Bx} {v0 v1 : Option Vec} {c : List (Option Vec)} (hds : NdRL ks ds)
    (h4 : x4 = .vs 0 (names ++ ts).length 0 (names ++ ts).length) (h5 : x5 = .vs 1 ds.length 0 ds.length) (h0 : v0 = NS (names ++ ts)) (h1 : v1 = NV 25 ds) :
    BR names a0 a1 a2 a3 d (.ok (ts, ks) l) (.ret (.d (.tup []))) ⟨PB l d :: .cells [.d a0, .d a1, .d a2, .d a3, x4, x5] 25 :: b, v0 :: v1 :: c⟩ := by
  subst h4 h5 h0 h1
  exact ⟨_, _, _, rfl, rfl, hds⟩
def BodyC (n : Nat) : Prop := ∀ d l e names a0 a1 a2 a3, d ≤ 40 → WF l → names.length ≤ 5000 → bodyS n d e l ≠ .out →
  AF Tryz.prog 28 [.ptr 0 0, .ptr 1 0, .d (.int .i64 e)] ⟨[PB l d, .cells [.d a0, .d a1, .d a2, .d a3, .vs 0 names.length 0 names.length, .d (.sl true 0 [])] 25], [NS names]⟩ (BR names a0 a1 a2 a3 d (bodyS n d e l))
def tempsE (P : List ByteArray × List Tk) : Res (List ByteArray) := if kd P.2 = 12 then .ok P.1 P.2.tail else .no (pl P.2) eSyn
theorem tempsS_12 {t : Tk} {l : List Tk} (h : t.k = 12) : tempsS (t :: l) = tempsE (namesS l) := by unfold tempsS tempsE; rw [if_pos (show kd (t :: l) = 12 from h)]; rfl
theorem tempsS_no {t : Tk} {l : List Tk} (h : ¬ t.k = 12) : tempsS (t :: l) = .ok [] (t :: l) := by unfold tempsS; rw [if_neg (show ¬ kd (t :: l) = 12 from h)]
set_option maxHeartbeats 2000000 in
theorem f28_ok (n : Nat) (ihS : ∀ m, m ≤ n → StmtC m) : BodyC (n + 1) := by
  intro d l e names a0 a1 a2 a3 hd hl hnl hin
  obtain ⟨t, r, he⟩ := hl.cons
  subst he
  simp only [bodyS] at hin ⊢
  refine AF.start' 60 Tryz.func28 rfl rfl c28call c28ok fun Q hQ => ?_
  simp [c28c, c28t]
  refine ATT.callM Tryz.func28 60 [0] (f40_ok t r d) rfl (by simp) (by simp) (by simp) (by simp) (by simp) ?_
  simp
  by_cases h12 : t.k = 12
  · obtain ⟨t2, l2, he, hl2⟩ := hl.two (by rw [h12]; decide)
    subst he
    have hT := f39_ok t (t2 :: l2) d
    rw [if_neg (by rw [h12]; decide)] at hT
    rw [tempsS_12 h12] at hin hQ
    simp [c28t, eq_true h12]
    refine ATT.callM Tryz.func28 60 [0] (hT) rfl (by simp) (by simp) (by simp) (by simp) (by simp) ?_
    simp
    refine ATT.nilB 1 5 6 25 rfl rfl (by decide) (by simp) ?_
    simp
    generalize hP : namesS (t2 :: l2) = P at hin hQ
    refine ATT.loopG 60 c28l4.eq_1 (fun ((dn, l) : List ByteArray × List Tk) => l.length) (fun ((dn, l) : List ByteArray × List Tk) => (dn ++ (namesS l).1, (namesS l).2) = P ∧ WF l ∧ dn.length + l.length ≤ 5000) (fun ((dn, l) : List ByteArray × List Tk) => [(0, .ptr 0 0), (1, .ptr 1 0), (2, .d (.int .i64 e))]) (fun ((dn, l) : List ByteArray × List Tk) => [PB l d, .cells [.d a0, .d a1, .d a2, .d a3, .vs 0 (names ++ dn).length 0 (names ++ dn).length, .vs 1 0 0 0] 25]) (fun ((dn, l) : List ByteArray × List Tk) => [NS (names ++ dn), NV 25 []]) (([], t2 :: l2)) (by (try dsimp only); exact ⟨by simpa using hP, hl2, by simpa using hl2.2.2⟩) (by simp <;> omega) (by simp) (by simp) ?_
    intro ⟨dn, l⟩ u w hI ih
    try simp only at hI ih
    obtain ⟨hRk, hwf, hnum⟩ := hI
    obtain ⟨t1, l1, he⟩ := hwf.cons
    subst he
    simp [c28t]
    refine ATT.callM Tryz.func28 60 [0] (f40_ok t1 l1 d) rfl (by simp) (by simp) (by simp) (by simp) (by simp) ?_
    simp
    by_cases h1 : t1.k = 1
    · obtain ⟨t3, l3, he, hl3⟩ := hwf.two (by rw [h1]; decide)
      subst he
      have hT := f39_ok t1 (t3 :: l3) d
      rw [if_neg (by rw [h1]; decide)] at hT
      rw [namesS, if_pos h1] at hRk
      simp only [List.length_cons] at hnum
      have hmul : (names.length + dn.length + 1) * 16 ≤ 140737488355328 := by omega
      simp [eq_true h1]
      refine ATT.callRM Tryz.func28 60 [0] (hT) rfl (by simp) (by simp) (by simp [tkD, tokD]) (by simp) (by simp) ?_
      simp [tkD, tokD, hmul]
      refine ih (dn ++ [t1.t], t3 :: l3) (by first | ((try dsimp only); omega) | (simp <;> omega)) (by (try dsimp only); exact ⟨by simpa using hRk, hl3, by simp; omega⟩) _ _ _ (by simp <;> omega) (by simp <;> omega) (by simp [tkD, tokD] <;> omega)
    · rw [namesS, if_neg h1] at hRk
      simp only [List.append_nil] at hRk
      subst hRk
      simp [c28t, h1]
      by_cases h2 : t1.k = 12
      · simp only [tempsE, kd_cons, eq_true h2, if_true, Res.andThen, List.tail_cons] at hin hQ
        refine ATT.callM Tryz.func28 60 [0] (f38_ok t1 l1 d 12 h2 (by decide)) rfl (by simp) (by simp) (by simp) (by simp) (by simp) ?_
        simp
        have hwf0 := (hwf.tail (by simp only [kd_cons, h2]; decide)).1
        simp only [List.tail_cons] at hwf0
        have hin' : stmtsS n d e [] l1 ≠ .out := fun e => hin (by simp [e])
        generalize hR : stmtsS n d e [] l1 = R at hin hQ hin'
        refine ATT.labelG 60 rfl rfl (fun ((m, acc, ds, l) : Nat × List Nd × List D × List Tk) => m) (fun ((m, acc, ds, l) : Nat × List Nd × List D × List Tk) => stmtsS m d e acc l = R ∧ NdRL acc ds ∧ WF l ∧ ds.length + l.length ≤ 5000 ∧ m ≤ n) (fun ((m, acc, ds, l) : Nat × List Nd × List D × List Tk) => [(0, .ptr 0 0), (1, .ptr 1 0), (2, .d (.int .i64 e))]) (fun ((m, acc, ds, l) : Nat × List Nd × List D × List Tk) => [PB l d, .cells [.d a0, .d a1, .d a2, .d a3, .vs 0 (names ++ dn).length 0 (names ++ dn).length, .vs 1 ds.length 0 ds.length] 25]) (fun ((m, acc, ds, l) : Nat × List Nd × List D × List Tk) => [NS (names ++ dn), NV 25 ds]) ((n, [], [], l1)) (by (try dsimp only); exact ⟨hR, by simp [NdRL], hwf0, by simpa using hwf0.2.2, Nat.le_refl _⟩) (by simp <;> omega) (by simp) (by simp) ?_
        intro ⟨m, acc, ds, l⟩ u w hI ih
        try simp only at hI ih
        obtain ⟨hRk, hds, hwf, hnum, hmn⟩ := hI
        obtain ⟨t3, l3, he⟩ := hwf.cons
        subst he
        cases m with
        | zero => exact absurd hRk.symm (by simpa [stmtsS] using hin')
        | succ m =>
          simp only [stmtsS, kd_cons] at hRk
          simp
          refine ATT.callM Tryz.func28 60 [0] (f40_ok t3 l3 d) rfl (by simp) (by simp) (by simp) (by simp) (by simp) ?_
          simp
          by_cases hend : t3.k = e
          · simp only [eq_true hend, if_true] at hRk
            subst hRk
            simp [eq_true hend]
            refine ATT.fin' hQ Tryz.func28 c28res ?_
            exact ⟨by simp, BR.mk hds (by simp) (by simp) (by simp) (by simp)⟩
          · simp only [eq_false hend, if_false] at hRk
            have hin2 : stmtS m d (t3 :: l3) ≠ .out := fun e => hin' (by rw [← hRk, e]; rfl)
            simp [c28t, hend]
            refine ATT.callPv Tryz.func28 60 0 (ihS m (by omega) d _ hd hwf hin2) hin2 (by simp) (by simp) rfl (by simp) (fun a w e h1 hi hh hv => hQ _ _ (by rw [← hRk, e]; exact ⟨rfl, ⟨_, by rw [hi 1 (by decide)]; rfl, rfl⟩, by rw [hh]; simp, by simp at hv ⊢; omega⟩)) fun x l' v hx hφ => ?_
            rw [hx] at hRk
            simp only [Res.andThen] at hRk
            obtain ⟨u0, he, hφ⟩ := hφ
            subst he
            obtain ⟨nl1_u0, z1_u0, nl2_u0, z2_u0, ds_u0, hv_u0, ha_u0, hb_u0, hc_u0, hd_u0, he_u0⟩ := hφ.shape
            have hw_u0 := hv_u0
            subst hw_u0
            have hsh := (pres m).stmt hwf hx
            have h2l := hsh.2
            simp only [List.length_cons] at h2l hnum
            have hmul : (ds.length + 1) * 88 ≤ 140737488355328 := by omega
            obtain ⟨t4, l4, he⟩ := hsh.1.cons
            subst he
            simp
            simp only [kd_cons, pl_cons, List.tail_cons] at hRk
            have hir : inR (ds.length : Int) (ds.length + 1) = true := by simp [inR]; omega
            refine ATT.ords 60 (by simp <;> omega) fun o ho => ?_
            simp only [List.mem_cons, List.mem_nil_iff, or_false] at ho
            rcases ho with ho | ho <;> subst ho
            simp [c28t, hir]
            · simp [hmul]
              refine ATT.callM Tryz.func28 60 [0] (f40_ok t4 l4 d) rfl (by simp) (by simp) (by simp) (by simp) (by simp) ?_
              simp
              by_cases h14 : t4.k = 14
              · obtain ⟨t5, l5, he, hl5⟩ := hsh.1.two (by rw [h14]; decide)
                subst he
                have hT := f39_ok t4 (t5 :: l5) d
                rw [if_neg (by rw [h14]; decide)] at hT
                simp only [eq_true h14, true_and, if_true, kd_cons, pl_cons] at hRk
                simp [c28t, eq_true h14]
                refine ATT.callM Tryz.func28 60 [0] (hT) rfl (by simp) (by simp) (by simp) (by simp) (by simp) ?_
                simp [c28t]
                cases hlast : x.2 with
                | false =>
                  simp only [hlast, if_true] at hRk
                  simp
                  refine ih (m, acc ++ [x.1], ds ++ [_], t5 :: l5) (by first | ((try dsimp only); omega) | (simp [hir] <;> omega)) (by (try dsimp only); exact ⟨hRk, hds.append (.one hφ), hl5, by simp at h2l ⊢; omega, by omega⟩) _ _ _ _ rfl (by simp <;> omega) (by simp <;> omega) (by simp <;> omega)
                | true =>
                  simp only [hlast, Bool.true_eq_false, if_false] at hRk
                  simp [c28t]
                  refine ATT.callM Tryz.func28 60 [0] (f40_ok t5 l5 d) rfl (by simp) (by simp) (by simp) (by simp) (by simp) ?_
                  simp
                  by_cases hE : t5.k = e
                  · simp only [eq_true hE, if_true] at hRk
                    subst hRk
                    simp [eq_true hE]
                    refine ATT.fin0' hQ Tryz.func28 c28res ?_
                    exact ⟨by simp, BR.mk (hds.append (.one hφ)) (by simp) (by simp) (by simp) (by simp)⟩
                  · simp only [eq_false hE, if_false] at hRk
                    subst hRk
                    simp [c28t, hE]
                    refine ATT.callA Tryz.func28 60 [0] [] 0 0 (f47_ok t5 l5 d 20) (by simp) (by simp) (by simp) (by simp) (by simp) fun out hC hE => ?_
                    obtain ⟨e1, e2⟩ := hE
                    subst e1
                    exact ⟨by simpa using e2, hQ _ _ ⟨by simp [stopV, eSyn], by exact ⟨[_, _, _, _, _, _], by rw [upH_out (by decide) (by simp)]; rfl, rfl⟩, by simp, by simp⟩⟩
              · simp only [eq_false h14, false_and, if_false] at hRk
                simp [c28t, h14]
                refine ATT.callM Tryz.func28 60 [0] (f40_ok t4 l4 d) rfl (by simp) (by simp) (by simp) (by simp) (by simp) ?_
                simp
                by_cases hE : t4.k = e
                · simp only [eq_true hE, if_true] at hRk
                  subst hRk
                  simp [eq_true hE]
                  refine ATT.fin0' hQ Tryz.func28 c28res ?_
                  exact ⟨by simp, BR.mk (hds.append (.one hφ)) (by simp) (by simp) (by simp) (by simp)⟩
                · simp only [eq_false hE, if_false] at hRk
                  subst hRk
                  simp [c28t, hE]
                  refine ATT.callA Tryz.func28 60 [0] [] 0 0 (f47_ok t4 l4 d 20) (by simp) (by simp) (by simp) (by simp) (by simp) fun out hC hE => ?_
                  obtain ⟨e1, e2⟩ := hE
                  subst e1
                  exact ⟨by simpa using e2, hQ _ _ ⟨by simp [stopV, eSyn], by exact ⟨[_, _, _, _, _, _], by rw [upH_out (by decide) (by simp)]; rfl, rfl⟩, by simp, by simp⟩⟩
            · simp [c28t, hmul]
              refine ATT.callM Tryz.func28 60 [0] (f40_ok t4 l4 d) rfl (by simp) (by simp) (by simp) (by simp) (by simp [hir]) ?_
              simp
              by_cases h14 : t4.k = 14
              · obtain ⟨t5, l5, he, hl5⟩ := hsh.1.two (by rw [h14]; decide)
                subst he
                have hT := f39_ok t4 (t5 :: l5) d
                rw [if_neg (by rw [h14]; decide)] at hT
                simp only [eq_true h14, true_and, if_true, kd_cons, pl_cons] at hRk
                simp [c28t, eq_true h14]
                refine ATT.callM Tryz.func28 60 [0] (hT) rfl (by simp) (by simp) (by simp) (by simp) (by simp) ?_
                simp [c28t]
                cases hlast : x.2 with
                | false =>
                  simp only [hlast, if_true] at hRk
                  simp
                  refine ih (m, acc ++ [x.1], ds ++ [_], t5 :: l5) (by first | ((try dsimp only); omega) | (simp [hir] <;> omega)) (by (try dsimp only); exact ⟨hRk, hds.append (.one hφ), hl5, by simp at h2l ⊢; omega, by omega⟩) _ _ _ _ rfl (by simp <;> omega) (by simp <;> omega) (by simp <;> omega)
                | true =>
                  simp only [hlast, Bool.true_eq_false, if_false] at hRk
                  simp [c28t]
                  refine ATT.callM Tryz.func28 60 [0] (f40_ok t5 l5 d) rfl (by simp) (by simp) (by simp) (by simp) (by simp) ?_
                  simp
                  by_cases hE : t5.k = e
                  · simp only [eq_true hE, if_true] at hRk
                    subst hRk
                    simp [eq_true hE]
                    refine ATT.fin0' hQ Tryz.func28 c28res ?_
                    exact ⟨by simp, BR.mk (hds.append (.one hφ)) (by simp) (by simp) (by simp) (by simp)⟩
                  · simp only [eq_false hE, if_false] at hRk
                    subst hRk
                    simp [c28t, hE]
                    refine ATT.callA Tryz.func28 60 [0] [] 0 0 (f47_ok t5 l5 d 20) (by simp) (by simp) (by simp) (by simp) (by simp) fun out hC hE => ?_
                    obtain ⟨e1, e2⟩ := hE
                    subst e1
                    exact ⟨by simpa using e2, hQ _ _ ⟨by simp [stopV, eSyn], by exact ⟨[_, _, _, _, _, _], by rw [upH_out (by decide) (by simp)]; rfl, rfl⟩, by simp, by simp⟩⟩
              · simp only [eq_false h14, false_and, if_false] at hRk
                simp [c28t, h14]
                refine ATT.callM Tryz.func28 60 [0] (f40_ok t4 l4 d) rfl (by simp) (by simp) (by simp) (by simp) (by simp) ?_
                simp
                by_cases hE : t4.k = e
                · simp only [eq_true hE, if_true] at hRk
                  subst hRk
                  simp [eq_true hE]
                  refine ATT.fin0' hQ Tryz.func28 c28res ?_
                  exact ⟨by simp, BR.mk (hds.append (.one hφ)) (by simp) (by simp) (by simp) (by simp)⟩
                · simp only [eq_false hE, if_false] at hRk
                  subst hRk
                  simp [c28t, hE]
                  refine ATT.callA Tryz.func28 60 [0] [] 0 0 (f47_ok t4 l4 d 20) (by simp) (by simp) (by simp) (by simp) (by simp) fun out hC hE => ?_
                  obtain ⟨e1, e2⟩ := hE
                  subst e1
                  exact ⟨by simpa using e2, hQ _ _ ⟨by simp [stopV, eSyn], by exact ⟨[_, _, _, _, _, _], by rw [upH_out (by decide) (by simp)]; rfl, rfl⟩, by simp, by simp⟩⟩
      · simp only [tempsE, kd_cons, pl_cons, eq_false h2, if_false, Res.andThen] at hQ
        refine ATT.callA Tryz.func28 60 [0] [] 0 0 (f38_no t1 l1 d 12 h2) (by simp) (by simp) (by simp) (by simp) (by simp) fun out hC hE => ?_
        obtain ⟨e1, e2⟩ := hE
        subst e1
        exact ⟨by simpa using e2, hQ _ _ ⟨by simp [stopV, eSyn], by exact ⟨[_, _, _, _, _, _], by rw [upH_out (by decide) (by simp)]; rfl, rfl⟩, by simp, by simp⟩⟩
  · simp only [tempsS_no h12, Res.andThen] at hin hQ
    simp [h12]
    refine ATT.nilB 1 5 6 25 rfl rfl (by decide) (by simp) ?_
    simp
    have hwf0 := hl
    have hin' : stmtsS n d e [] (t :: r) ≠ .out := fun e => hin (by simp [e])
    generalize hR : stmtsS n d e [] (t :: r) = R at hin hQ hin'
    refine ATT.labelG 60 rfl rfl (fun ((m, acc, ds, l) : Nat × List Nd × List D × List Tk) => m) (fun ((m, acc, ds, l) : Nat × List Nd × List D × List Tk) => stmtsS m d e acc l = R ∧ NdRL acc ds ∧ WF l ∧ ds.length + l.length ≤ 5000 ∧ m ≤ n) (fun ((m, acc, ds, l) : Nat × List Nd × List D × List Tk) => [(0, .ptr 0 0), (1, .ptr 1 0), (2, .d (.int .i64 e))]) (fun ((m, acc, ds, l) : Nat × List Nd × List D × List Tk) => [PB l d, .cells [.d a0, .d a1, .d a2, .d a3, .vs 0 (names).length 0 (names).length, .vs 1 ds.length 0 ds.length] 25]) (fun ((m, acc, ds, l) : Nat × List Nd × List D × List Tk) => [NS (names), NV 25 ds]) ((n, [], [], t :: r)) (by (try dsimp only); exact ⟨hR, by simp [NdRL], hwf0, by simpa using hwf0.2.2, Nat.le_refl _⟩) (by simp <;> omega) (by simp) (by simp) ?_
    intro ⟨m, acc, ds, l⟩ u w hI ih
    try simp only at hI ih
    obtain ⟨hRk, hds, hwf, hnum, hmn⟩ := hI
    obtain ⟨t3, l3, he⟩ := hwf.cons
    subst he
    cases m with
    | zero => exact absurd hRk.symm (by simpa [stmtsS] using hin')
    | succ m =>
      simp only [stmtsS, kd_cons] at hRk
      simp
      refine ATT.callM Tryz.func28 60 [0] (f40_ok t3 l3 d) rfl (by simp) (by simp) (by simp) (by simp) (by simp) ?_
      simp
      by_cases hend : t3.k = e
      · simp only [eq_true hend, if_true] at hRk
        subst hRk
        simp [eq_true hend]
        refine ATT.fin' hQ Tryz.func28 c28res ?_
        exact ⟨by simp, BR.mk hds (by simp) (by simp) (by simp) (by simp)⟩
      · simp only [eq_false hend, if_false] at hRk
        have hin2 : stmtS m d (t3 :: l3) ≠ .out := fun e => hin' (by rw [← hRk, e]; rfl)
        simp [c28t, hend]
        refine ATT.callPv Tryz.func28 60 0 (ihS m (by omega) d _ hd hwf hin2) hin2 (by simp) (by simp) rfl (by simp) (fun a w e h1 hi hh hv => hQ _ _ (by rw [← hRk, e]; exact ⟨rfl, ⟨_, by rw [hi 1 (by decide)]; rfl, rfl⟩, by rw [hh]; simp, by simp at hv ⊢; omega⟩)) fun x l' v hx hφ => ?_
        rw [hx] at hRk
        simp only [Res.andThen] at hRk
        obtain ⟨u0, he, hφ⟩ := hφ
        subst he
        obtain ⟨nl1_u0, z1_u0, nl2_u0, z2_u0, ds_u0, hv_u0, ha_u0, hb_u0, hc_u0, hd_u0, he_u0⟩ := hφ.shape
        have hw_u0 := hv_u0
        subst hw_u0
        have hsh := (pres m).stmt hwf hx
        have h2l := hsh.2
        simp only [List.length_cons] at h2l hnum
        have hmul : (ds.length + 1) * 88 ≤ 140737488355328 := by omega
        obtain ⟨t4, l4, he⟩ := hsh.1.cons
        subst he
        simp
        simp only [kd_cons, pl_cons, List.tail_cons] at hRk
        have hir : inR (ds.length : Int) (ds.length + 1) = true := by simp [inR]; omega
        refine ATT.ords 60 (by simp <;> omega) fun o ho => ?_
        simp only [List.mem_cons, List.mem_nil_iff, or_false] at ho
        rcases ho with ho | ho <;> subst ho
        simp [c28t, hir]
        · simp [hmul]
          refine ATT.callM Tryz.func28 60 [0] (f40_ok t4 l4 d) rfl (by simp) (by simp) (by simp) (by simp) (by simp) ?_
          simp
          by_cases h14 : t4.k = 14
          · obtain ⟨t5, l5, he, hl5⟩ := hsh.1.two (by rw [h14]; decide)
            subst he
            have hT := f39_ok t4 (t5 :: l5) d
            rw [if_neg (by rw [h14]; decide)] at hT
            simp only [eq_true h14, true_and, if_true, kd_cons, pl_cons] at hRk
            simp [c28t, eq_true h14]
            refine ATT.callM Tryz.func28 60 [0] (hT) rfl (by simp) (by simp) (by simp) (by simp) (by simp) ?_
            simp [c28t]
            cases hlast : x.2 with
            | false =>
              simp only [hlast, if_true] at hRk
              simp
              refine ih (m, acc ++ [x.1], ds ++ [_], t5 :: l5) (by first | ((try dsimp only); omega) | (simp [hir] <;> omega)) (by (try dsimp only); exact ⟨hRk, hds.append (.one hφ), hl5, by simp at h2l ⊢; omega, by omega⟩) _ _ _ _ rfl (by simp <;> omega) (by simp <;> omega) (by simp <;> omega)
            | true =>
              simp only [hlast, Bool.true_eq_false, if_false] at hRk
              simp [c28t]
              refine ATT.callM Tryz.func28 60 [0] (f40_ok t5 l5 d) rfl (by simp) (by simp) (by simp) (by simp) (by simp) ?_
              simp
              by_cases hE : t5.k = e
              · simp only [eq_true hE, if_true] at hRk
                subst hRk
                simp [eq_true hE]
                refine ATT.fin0' hQ Tryz.func28 c28res ?_
                exact ⟨by simp, BR.mk (hds.append (.one hφ)) (by simp) (by simp) (by simp) (by simp)⟩
              · simp only [eq_false hE, if_false] at hRk
                subst hRk
                simp [c28t, hE]
                refine ATT.callA Tryz.func28 60 [0] [] 0 0 (f47_ok t5 l5 d 20) (by simp) (by simp) (by simp) (by simp) (by simp) fun out hC hE => ?_
                obtain ⟨e1, e2⟩ := hE
                subst e1
                exact ⟨by simpa using e2, hQ _ _ ⟨by simp [stopV, eSyn], by exact ⟨[_, _, _, _, _, _], by rw [upH_out (by decide) (by simp)]; rfl, rfl⟩, by simp, by simp⟩⟩
          · simp only [eq_false h14, false_and, if_false] at hRk
            simp [c28t, h14]
            refine ATT.callM Tryz.func28 60 [0] (f40_ok t4 l4 d) rfl (by simp) (by simp) (by simp) (by simp) (by simp) ?_
            simp
            by_cases hE : t4.k = e
            · simp only [eq_true hE, if_true] at hRk
              subst hRk
              simp [eq_true hE]
              refine ATT.fin0' hQ Tryz.func28 c28res ?_
              exact ⟨by simp, BR.mk (hds.append (.one hφ)) (by simp) (by simp) (by simp) (by simp)⟩
            · simp only [eq_false hE, if_false] at hRk
              subst hRk
              simp [c28t, hE]
              refine ATT.callA Tryz.func28 60 [0] [] 0 0 (f47_ok t4 l4 d 20) (by simp) (by simp) (by simp) (by simp) (by simp) fun out hC hE => ?_
              obtain ⟨e1, e2⟩ := hE
              subst e1
              exact ⟨by simpa using e2, hQ _ _ ⟨by simp [stopV, eSyn], by exact ⟨[_, _, _, _, _, _], by rw [upH_out (by decide) (by simp)]; rfl, rfl⟩, by simp, by simp⟩⟩
        · simp [c28t, hmul]
          refine ATT.callM Tryz.func28 60 [0] (f40_ok t4 l4 d) rfl (by simp) (by simp) (by simp) (by simp) (by simp [hir]) ?_
          simp
          by_cases h14 : t4.k = 14
          · obtain ⟨t5, l5, he, hl5⟩ := hsh.1.two (by rw [h14]; decide)
            subst he
            have hT := f39_ok t4 (t5 :: l5) d
            rw [if_neg (by rw [h14]; decide)] at hT
            simp only [eq_true h14, true_and, if_true, kd_cons, pl_cons] at hRk
            simp [c28t, eq_true h14]
            refine ATT.callM Tryz.func28 60 [0] (hT) rfl (by simp) (by simp) (by simp) (by simp) (by simp) ?_
            simp [c28t]
            cases hlast : x.2 with
            | false =>
              simp only [hlast, if_true] at hRk
              simp
              refine ih (m, acc ++ [x.1], ds ++ [_], t5 :: l5) (by first | ((try dsimp only); omega) | (simp [hir] <;> omega)) (by (try dsimp only); exact ⟨hRk, hds.append (.one hφ), hl5, by simp at h2l ⊢; omega, by omega⟩) _ _ _ _ rfl (by simp <;> omega) (by simp <;> omega) (by simp <;> omega)
            | true =>
              simp only [hlast, Bool.true_eq_false, if_false] at hRk
              simp [c28t]
              refine ATT.callM Tryz.func28 60 [0] (f40_ok t5 l5 d) rfl (by simp) (by simp) (by simp) (by simp) (by simp) ?_
              simp
              by_cases hE : t5.k = e
              · simp only [eq_true hE, if_true] at hRk
                subst hRk
                simp [eq_true hE]
                refine ATT.fin0' hQ Tryz.func28 c28res ?_
                exact ⟨by simp, BR.mk (hds.append (.one hφ)) (by simp) (by simp) (by simp) (by simp)⟩
              · simp only [eq_false hE, if_false] at hRk
                subst hRk
                simp [c28t, hE]
                refine ATT.callA Tryz.func28 60 [0] [] 0 0 (f47_ok t5 l5 d 20) (by simp) (by simp) (by simp) (by simp) (by simp) fun out hC hE => ?_
                obtain ⟨e1, e2⟩ := hE
                subst e1
                exact ⟨by simpa using e2, hQ _ _ ⟨by simp [stopV, eSyn], by exact ⟨[_, _, _, _, _, _], by rw [upH_out (by decide) (by simp)]; rfl, rfl⟩, by simp, by simp⟩⟩
          · simp only [eq_false h14, false_and, if_false] at hRk
            simp [c28t, h14]
            refine ATT.callM Tryz.func28 60 [0] (f40_ok t4 l4 d) rfl (by simp) (by simp) (by simp) (by simp) (by simp) ?_
            simp
            by_cases hE : t4.k = e
            · simp only [eq_true hE, if_true] at hRk
              subst hRk
              simp [eq_true hE]
              refine ATT.fin0' hQ Tryz.func28 c28res ?_
              exact ⟨by simp, BR.mk (hds.append (.one hφ)) (by simp) (by simp) (by simp) (by simp)⟩
            · simp only [eq_false hE, if_false] at hRk
              subst hRk
              simp [c28t, hE]
              refine ATT.callA Tryz.func28 60 [0] [] 0 0 (f47_ok t4 l4 d 20) (by simp) (by simp) (by simp) (by simp) (by simp) fun out hC hE => ?_
              obtain ⟨e1, e2⟩ := hE
              subst e1
              exact ⟨by simpa using e2, hQ _ _ ⟨by simp [stopV, eSyn], by exact ⟨[_, _, _, _, _, _], by rw [upH_out (by decide) (by simp)]; rfl, rfl⟩, by simp, by simp⟩⟩
end Go.SL
namespace Go.SL
open Go.Proofs
set_option maxRecDepth 10000
theorem stmtsS_end : ∀ (n d : Nat) (e : Int) (acc : List Nd) (l : List Tk) (xs : List Nd) (r : List Tk), stmtsS n d e acc l = .ok xs r → kd r = e
  | 0, _, _, _, _, _, _, h => by simp [stmtsS] at h
  | n + 1, d, e, acc, l, xs, r, h => by
    simp only [stmtsS] at h
    split at h
    · rename_i h9
      simp only [Res.ok.injEq] at h; rw [← h.2]; exact h9
    · obtain ⟨m, r', _, e2⟩ := andThen_ok h
      split at e2
      · exact stmtsS_end n d _ _ _ _ _ e2
      split at e2
      · split at e2
        · rename_i h9
          simp only [Res.ok.injEq] at e2; rw [← e2.2]; exact h9
        · simp at e2
      split at e2
      · rename_i h9
        simp only [Res.ok.injEq] at e2; rw [← e2.2]; exact h9
      · simp at e2
theorem bodyS_end {n d : Nat} {e : Int} {l r : List Tk} {x : List ByteArray × List Nd} (h : bodyS n d e l = .ok x r) : kd r = e := by
  cases n with
  | zero => simp [bodyS] at h
  | succ n =>
    simp only [bodyS] at h
    obtain ⟨m, r', _, e2⟩ := andThen_ok h
    obtain ⟨m, r', e3, e4⟩ := andThen_ok e2
    simp only [Res.ok.injEq] at e4
    rw [← e4.2]; exact stmtsS_end _ _ _ _ _ _ _ e3
theorem andThen_okE {α β : Type} (x : α) (r : List Tk) (f : α → List Tk → Res β) : (Res.ok x r).andThen f = f x r := rfl
theorem andThen_noE {α β : Type} (a : Nat) (w : Int) (f : α → List Tk → Res β) : (Res.no a w).andThen f = .no a w := rfl
def blkS (n d : Nat) (l : List Tk) : Res (Nat × List ByteArray × List Nd) :=
  (argsS n l).andThen fun ns r =>
    if ns.length ≠ 0 ∧ kd r ≠ 11 then
      (if kd r = 12 then (bodyS n d 11 r.tail).andThen fun x r' => .ok (ns.length, ns ++ x.1, x.2) r'.tail else .no (pl r) eSyn)
    else (bodyS n d 11 r).andThen fun x r' => .ok (ns.length, ns ++ x.1, x.2) r'.tail
theorem blockS_eq (n d : Nat) (l : List Tk) : blockS (n + 1) d l = if d = 40 then .no (pl l) eSize else (blkS n (d + 1) l.tail).andThen fun x r => .ok (.mk 10 ⟨#[]⟩ (pl l) x.1 x.2.1 x.2.2) r := by
  simp only [blockS, blkS]
  split
  · rfl
  · cases argsS n l.tail with
    | ok ns r =>
      simp only [Res.andThen]
      split
      · split
        · cases bodyS n (d + 1) 11 r.tail <;> rfl
        · rfl
      · cases bodyS n (d + 1) 11 r <;> rfl
    | no a w => rfl
    | out => rfl
theorem blkS_args {n d : Nat} {l : List Tk} (h : blkS n d l ≠ .out) : argsS n l ≠ .out := fun e => h (by simp [blkS, e, Res.andThen])
theorem BKR.mk {S : Res (Nat × List ByteArray × List Nd)} {a0 a1 a2 : D} {d k : Nat} {nm : List ByteArray} {xk : List Nd} {lo : List Tk} {ds : List D} {x3 x4 x5 : V} {b : List Bx} {c : List (Option Vec)} (hS : S = .ok (k, nm, xk) lo) (hds : NdRL xk ds)
    (h3 : x3 = .d (.int .i64 k)) (h4 : x4 = .d (.sl nm.isEmpty 1 (nm.map .str))) (h5 : x5 = .d (.sl ds.isEmpty 6 ds)) :
    ∃ l' nd' b' c', Out.ret (.d (.tup [])) = .ret (.d (.tup [])) ∧ (⟨.cells [.d (.sl false 3 (lo.map tkD)), .d (.int .i64 d)] 55 :: PP :: .cells [.d a0, .d a1, .d a2, x3, x4, x5] 25 :: b, c⟩ : H) = ⟨PB l' d :: PP :: .cells (nd'.map .d) 25 :: b', c'⟩ ∧
      ∃ x n1 z1 n2 z2 ds, S = .ok x l' ∧ nd' = [a0, a1, a2, .int .i64 x.1, .sl n1 z1 (x.2.1.map .str), .sl n2 z2 ds] ∧
        (n1 = true → x.2.1 = []) ∧ (n1 = false → z1 = 1) ∧ (n2 = true → x.2.2 = []) ∧ (n2 = false → z2 = 6) ∧ NdRL x.2.2 ds := by
  subst h3 h4 h5
  refine ⟨lo, [a0, a1, a2, .int .i64 k, .sl nm.isEmpty 1 (nm.map .str), .sl ds.isEmpty 6 ds], b, c, rfl, rfl, (k, nm, xk), _, _, _, _, ds, hS, rfl, ?_, fun _ => rfl, ?_, fun _ => rfl, hds⟩
  · intro h; simpa using h
  · intro h
    have : ds = [] := by simpa using h
    have h2 := hds.length
    rw [this] at h2
    exact List.length_eq_zero_iff.mp h2.symm
set_option maxHeartbeats 2000000 in
theorem f161_ok (n : Nat) (ihB : BodyC n) (d : Nat) (l : List Tk) (hd : d ≤ 40) (hl : WF l) (hin : blkS n d l ≠ .out) (a0 a1 a2 : D) :
    AF Tryz.prog 161 [.ptr 1 0, .ptr 2 0] ⟨[PB l d, PP, .cells [.d a0, .d a1, .d a2, .d (.int .i64 0), .d (.sl true 0 []), .d (.sl true 0 [])] 25], []⟩ fun o h =>
      (∃ l' nd' b c, o = .ret (.d (.tup [])) ∧ h = ⟨PB l' d :: PP :: .cells (nd'.map .d) 25 :: b, c⟩ ∧ ∃ x n1 z1 n2 z2 ds, blkS n d l = .ok x l' ∧ nd' = [a0, a1, a2, .int .i64 x.1, .sl n1 z1 (x.2.1.map .str), .sl n2 z2 ds] ∧
        (n1 = true → x.2.1 = []) ∧ (n1 = false → z1 = 1) ∧ (n2 = true → x.2.2 = []) ∧ (n2 = false → z2 = 6) ∧ NdRL x.2.2 ds) ∨ (∃ a w, o = .pan (stopV a w) ∧ 3 ≤ h.bx.length ∧ blkS n d l = .no a w) := by
  refine AF.start' 60 Tryz.func161 rfl rfl c161call c161ok fun Q hQ => ?_
  simp [c161c]
  refine ATT.nilB 2 4 1 9 rfl rfl (by decide) (by simp) ?_
  simp
  have hin0 := blkS_args hin
  simp only [blkS] at hin hQ
  generalize hR : argsS n l = R at hQ hin hin0
  refine ATT.loopG 60 c161l3.eq_1 (fun ((m, dn, l) : Nat × List ByteArray × List Tk) => m) (fun ((m, dn, l) : Nat × List ByteArray × List Tk) => ((argsS m l).andThen fun x r => Res.ok (dn ++ x) r) = R ∧ WF l ∧ dn.length + l.length ≤ 5000) (fun ((m, dn, l) : Nat × List ByteArray × List Tk) => [(0, .ptr 1 0), (1, .ptr 2 0)]) (fun ((m, dn, l) : Nat × List ByteArray × List Tk) => [PB l d, PP, .cells [.d a0, .d a1, .d a2, .d (.int .i64 0), .vs 0 dn.length 0 dn.length, .d (.sl true 0 [])] 25]) (fun ((m, dn, l) : Nat × List ByteArray × List Tk) => [NS dn]) ((n, [], l)) (by (try dsimp only); exact ⟨by rw [← hR]; cases argsS n l <;> rfl, hl, by simpa using hl.2.2⟩) (by simp <;> omega) (by simp) (by simp) ?_
  intro ⟨m, dn, l⟩ u w hI ih
  try simp only at hI ih
  obtain ⟨hRk, hwf, hnum⟩ := hI
  obtain ⟨t1, l1, he⟩ := hwf.cons
  subst he
  cases m with
  | zero => exact absurd hRk.symm (by simpa [argsS, Res.andThen] using hin0)
  | succ m =>
    simp [c161t]
    refine ATT.callM Tryz.func161 60 [0] (f40_ok t1 l1 d) rfl (by simp) (by simp) (by simp) (by simp) (by simp) ?_
    simp
    by_cases h16 : t1.k = 16
    · obtain ⟨t2, l2, he, hl2⟩ := hwf.two (by rw [h16]; decide)
      subst he
      have hT := f39_ok t1 (t2 :: l2) d
      rw [if_neg (by rw [h16]; decide)] at hT
      simp only [argsS, kd_cons, eq_true h16, if_true, List.tail_cons, pl_cons, tx_cons] at hRk
      simp only [List.length_cons] at hnum
      simp [c161t, eq_true h16]
      refine ATT.callM Tryz.func161 60 [0] (hT) rfl (by simp) (by simp) (by simp) (by simp) (by simp) ?_
      simp
      by_cases h1 : t2.k = 1
      · have hmul : (dn.length + 1) * 16 ≤ 140737488355328 := by omega
        simp only [eq_true h1, if_true] at hRk
        have hw2 := (hl2.tail (by simp only [kd_cons, h1]; decide)).1
        simp only [List.tail_cons] at hw2
        refine ATT.callRM Tryz.func161 60 [0] (f38_ok t2 l2 d 1 h1 (by decide)) rfl (by simp) (by simp [tkD, tokD]) (by simp [tkD, tokD]) (by simp) (by simp) ?_
        simp [tkD, tokD, hmul]
        refine ih (m, dn ++ [t2.t], l2) (by first | ((try dsimp only); omega) | (simp [tkD, tokD] <;> omega)) (by (try dsimp only); exact ⟨by rw [← hRk]; cases argsS m l2 <;> simp [Res.andThen], hw2, by simp; omega⟩) _ _ _ (by simp <;> omega) (by simp <;> omega) (by simp <;> omega)
      · simp only [eq_false h1, if_false, Res.andThen] at hRk
        subst hRk
        refine ATT.callRA Tryz.func161 60 [0] [] 0 0 (f38_no t2 l2 d 1 h1) (by simp) (by simp) (by simp) (by simp) (by simp) fun out hC hE => ?_
        obtain ⟨e1, e2⟩ := hE
        subst e1
        exact ⟨by simpa using e2, hQ _ _ (.inr ⟨_, _, rfl, by simp, by simp [eSyn, Res.andThen]⟩)⟩
    · simp only [argsS, kd_cons, eq_false h16, if_false, Res.andThen, List.append_nil] at hRk
      subst hRk
      simp [c161t, h16]
      simp only [andThen_okE, kd_cons, List.tail_cons, pl_cons] at hQ hin
      cases dn with
      | nil =>
        have hwfB := hwf
        simp only [List.length_nil, ne_eq, not_true_eq_false, false_and, if_false] at hQ hin
        simp [c161t]
        have hinB : bodyS n d 11 (t1 :: l1) ≠ .out := fun e => hin (by rw [e]; rfl)
        have hC := ihB d (t1 :: l1) 11 (([] : List ByteArray)) a0 a1 a2 (.int .i64 (([] : List ByteArray) : List ByteArray).length) hd hwfB (by simp only [List.length_cons] at hnum ⊢; omega) hinB
        refine ATT.callA Tryz.func161 60 [0, 2] [0] 0 1 (hC) (by simp) (by simp) (by simp) (by simp) (by simp) fun out hC hE => ?_
        cases hres : bodyS n d 11 (t1 :: l1) with
        | ok x r =>
          simp only [hres, BR] at hE
          obtain ⟨b, c, ds, e1, e2, hds⟩ := hE
          subst e1 e2
          simp only [hres, andThen_okE] at hQ
          refine ⟨by simp, ?_⟩
          have hk := bodyS_end hres
          obtain ⟨t8, l8, he⟩ := ((pres n).body hwfB hres).1.1.cons
          subst he
          have hT := f39_ok t8 l8 d
          rw [if_neg (by rw [show t8.k = 11 from hk]; decide)] at hT
          simp [c161t]
          refine ATT.callM Tryz.func161 60 [0] (hT) rfl (by simp) (by simp) (by simp) (by simp) (by simp) ?_
          simp
          obtain ⟨xn, xk⟩ := x
          cases ds with
          | nil =>
            cases hxn : xn with
            | nil =>
              refine ATT.fz0 ?_
              simp
              refine ATT.fin0' hQ Tryz.func161 c161res ?_
              exact ⟨by simp, .inl (BKR.mk (nm := (([] : List ByteArray)) ++ []) (ds := []) (by rw [hxn]; rfl) hds (by simp) (by simp) (by simp))⟩
            | cons y yr =>
              refine ATT.fz0 ?_
              simp
              refine ATT.fin0' hQ Tryz.func161 c161res ?_
              exact ⟨by simp, .inl (BKR.mk (nm := (([] : List ByteArray)) ++ y :: yr) (ds := []) (by rw [hxn]; rfl) hds (by simp) (by simp) (by simp))⟩
          | cons d0 ds =>
            cases hxn : xn with
            | nil =>
              refine ATT.fz0 ?_
              simp
              refine ATT.fin0' hQ Tryz.func161 c161res ?_
              exact ⟨by simp, .inl (BKR.mk (nm := (([] : List ByteArray)) ++ []) (ds := d0 :: ds) (by rw [hxn]; rfl) hds (by simp) (by simp) (by simp))⟩
            | cons y yr =>
              refine ATT.fz0 ?_
              simp
              refine ATT.fin0' hQ Tryz.func161 c161res ?_
              exact ⟨by simp, .inl (BKR.mk (nm := (([] : List ByteArray)) ++ y :: yr) (ds := d0 :: ds) (by rw [hxn]; rfl) hds (by simp) (by simp) (by simp))⟩
        | no a w =>
          simp only [hres, BR] at hE
          obtain ⟨e1, _, e2, e3⟩ := hE
          subst e1
          simp only [hres, andThen_noE] at hQ
          exact ⟨by simp only [List.length_cons, List.length_nil]; omega, hQ _ _ (.inr ⟨_, _, by simp [stopV], by simp, rfl⟩)⟩
        | out => exact absurd hres hinB
      | cons n0 nr =>
        by_cases h11 : t1.k = 11
        · have hwfB := hwf
          simp only [eq_true h11, ne_eq, not_true_eq_false, and_false, if_false] at hQ hin
          simp
          refine ATT.callM Tryz.func161 60 [0] (f40_ok t1 l1 d) rfl (by simp) (by simp) (by simp) (by simp) (by simp) ?_
          simp [c161t, eq_true h11]
          have hinB : bodyS n d 11 (t1 :: l1) ≠ .out := fun e => hin (by rw [e]; rfl)
          have hC := ihB d (t1 :: l1) 11 ((n0 :: nr)) a0 a1 a2 (.int .i64 ((n0 :: nr) : List ByteArray).length) hd hwfB (by simp only [List.length_cons] at hnum ⊢; omega) hinB
          refine ATT.callA Tryz.func161 60 [0, 2] [0] 0 1 (hC) (by simp) (by simp) (by simp) (by simp) (by simp) fun out hC hE => ?_
          cases hres : bodyS n d 11 (t1 :: l1) with
          | ok x r =>
            simp only [hres, BR] at hE
            obtain ⟨b, c, ds, e1, e2, hds⟩ := hE
            subst e1 e2
            simp only [hres, andThen_okE] at hQ
            refine ⟨by simp, ?_⟩
            have hk := bodyS_end hres
            obtain ⟨t8, l8, he⟩ := ((pres n).body hwfB hres).1.1.cons
            subst he
            have hT := f39_ok t8 l8 d
            rw [if_neg (by rw [show t8.k = 11 from hk]; decide)] at hT
            simp [c161t]
            refine ATT.callM Tryz.func161 60 [0] (hT) rfl (by simp) (by simp) (by simp) (by simp) (by simp) ?_
            simp
            obtain ⟨xn, xk⟩ := x
            cases ds with
            | nil =>
              refine ATT.fz0 ?_
              simp
              refine ATT.fin0' hQ Tryz.func161 c161res ?_
              exact ⟨by simp, .inl (BKR.mk (nm := ((n0 :: nr)) ++ xn) (ds := []) rfl hds (by simp) (by simp) (by simp))⟩
            | cons d0 ds =>
              refine ATT.fz0 ?_
              simp
              refine ATT.fin0' hQ Tryz.func161 c161res ?_
              exact ⟨by simp, .inl (BKR.mk (nm := ((n0 :: nr)) ++ xn) (ds := d0 :: ds) rfl hds (by simp) (by simp) (by simp))⟩
          | no a w =>
            simp only [hres, BR] at hE
            obtain ⟨e1, _, e2, e3⟩ := hE
            subst e1
            simp only [hres, andThen_noE] at hQ
            exact ⟨by simp only [List.length_cons, List.length_nil]; omega, hQ _ _ (.inr ⟨_, _, by simp [stopV], by simp, rfl⟩)⟩
          | out => exact absurd hres hinB
        · simp only [eq_false h11, List.length_cons, ne_eq, not_false_eq_true, and_true, Nat.add_one_ne_zero, if_true] at hQ hin
          simp
          refine ATT.callM Tryz.func161 60 [0] (f40_ok t1 l1 d) rfl (by simp) (by simp) (by simp) (by simp) (by simp) ?_
          simp [c161t, h11]
          by_cases h12 : t1.k = 12
          · simp only [eq_true h12, if_true] at hQ hin
            have hwfB := (hwf.tail (by simp only [kd_cons, h12]; decide)).1
            simp only [List.tail_cons] at hwfB
            refine ATT.callM Tryz.func161 60 [0] (f38_ok t1 l1 d 12 h12 (by decide)) rfl (by simp) (by simp) (by simp) (by simp) (by simp) ?_
            simp [c161t]
            have hinB : bodyS n d 11 (l1) ≠ .out := fun e => hin (by rw [e]; rfl)
            have hC := ihB d (l1) 11 ((n0 :: nr)) a0 a1 a2 (.int .i64 ((n0 :: nr) : List ByteArray).length) hd hwfB (by simp only [List.length_cons] at hnum ⊢; omega) hinB
            refine ATT.callA Tryz.func161 60 [0, 2] [0] 0 1 (hC) (by simp) (by simp) (by simp) (by simp) (by simp) fun out hC hE => ?_
            cases hres : bodyS n d 11 (l1) with
            | ok x r =>
              simp only [hres, BR] at hE
              obtain ⟨b, c, ds, e1, e2, hds⟩ := hE
              subst e1 e2
              simp only [hres, andThen_okE] at hQ
              refine ⟨by simp, ?_⟩
              have hk := bodyS_end hres
              obtain ⟨t8, l8, he⟩ := ((pres n).body hwfB hres).1.1.cons
              subst he
              have hT := f39_ok t8 l8 d
              rw [if_neg (by rw [show t8.k = 11 from hk]; decide)] at hT
              simp [c161t]
              refine ATT.callM Tryz.func161 60 [0] (hT) rfl (by simp) (by simp) (by simp) (by simp) (by simp) ?_
              simp
              obtain ⟨xn, xk⟩ := x
              cases ds with
              | nil =>
                refine ATT.fz0 ?_
                simp
                refine ATT.fin0' hQ Tryz.func161 c161res ?_
                exact ⟨by simp, .inl (BKR.mk (nm := ((n0 :: nr)) ++ xn) (ds := []) rfl hds (by simp) (by simp) (by simp))⟩
              | cons d0 ds =>
                refine ATT.fz0 ?_
                simp
                refine ATT.fin0' hQ Tryz.func161 c161res ?_
                exact ⟨by simp, .inl (BKR.mk (nm := ((n0 :: nr)) ++ xn) (ds := d0 :: ds) rfl hds (by simp) (by simp) (by simp))⟩
            | no a w =>
              simp only [hres, BR] at hE
              obtain ⟨e1, _, e2, e3⟩ := hE
              subst e1
              simp only [hres, andThen_noE] at hQ
              exact ⟨by simp only [List.length_cons, List.length_nil]; omega, hQ _ _ (.inr ⟨_, _, by simp [stopV], by simp, rfl⟩)⟩
            | out => exact absurd hres hinB
          · simp only [eq_false h12, if_false] at hQ hin
            refine ATT.callA Tryz.func161 60 [0] [] 0 0 (f38_no t1 l1 d 12 h12) (by simp) (by simp) (by simp) (by simp) (by simp) fun out hC hE => ?_
            obtain ⟨e1, e2⟩ := hE
            subst e1
            exact ⟨by simpa using e2, hQ _ _ (.inr ⟨_, _, rfl, by simp, by simp [eSyn]⟩)⟩
end Go.SL
namespace Go.SL
open Go.Proofs
set_option maxRecDepth 10000
theorem f156_ok (n : Nat) (ihB : BodyC n) : BlockC (n + 1) := by
  intro d l hd hl hkl hin
  obtain ⟨t, r, e⟩ := hl.cons
  subst e
  rw [blockS_eq] at hin ⊢
  simp only [pl_cons, List.tail_cons] at hin ⊢
  have hk0 : t.k ≠ 0 := by
    intro h0
    simp only [kd_cons, h0] at hkl
    exact absurd hkl (by decide)
  obtain ⟨t2, l2, e, hl2⟩ := hl.two hk0
  subst e
  refine AF.start' 60 Tryz.func156 rfl rfl c156call c156ok fun Q hQ => ?_
  simp [c156c, c156t, tkD, tokD]
  by_cases h40 : d = 40
  · subst h40
    simp only [if_true] at hQ
    refine ATT.callA Tryz.func156 60 [0, 1, 3] [] 0 0 (f104_no t (t2 :: l2) [.int .i64 10, .str ⟨#[]⟩, .int .i64 t.a, .int .i64 0, .sl true 0 [], .sl true 0 []] 25 161 [.ptr 1 0, .ptr 2 0]) (by simp) (by simp) (by simp [tkD, tokD]) (by simp) (by simp) fun out hC hE => ?_
    obtain ⟨e1, e2⟩ := hE
    subst e1
    exact ⟨by simpa using e2, hQ _ _ ⟨by simp [stopV, eSize], by simp⟩⟩
  · rw [if_neg h40] at hQ hin
    have hin' : blkS n (d + 1) (t2 :: l2) ≠ .out := fun e => hin (by simp [e, Res.andThen])
    have hcl := f161_ok n ihB (d + 1) (t2 :: l2) (by omega) hl2 hin' (.int .i64 10) (.str ⟨#[]⟩) (.int .i64 t.a)
    have hW := f104_ok t hk0 (t2 :: l2) [.int .i64 10, .str ⟨#[]⟩, .int .i64 t.a, .int .i64 0, .sl true 0 [], .sl true 0 []] 25 d (by omega) 161 [.ptr 1 0, .ptr 2 0] rfl rfl _ _ hcl
    refine ATT.callA Tryz.func156 60 [0, 1, 3] [] 0 0 (hW) (by simp) (by simp) (by simp [tkD, tokD]) (by simp) (by simp) fun out hC hE => ?_
    rcases hE with ⟨l', nd', b, c, e1, e2, x, n1, z1, n2, z2, ds, hx, hnd, h1, h2, h3, h4, hds⟩ | ⟨a, w, e1, e2, hx⟩
    · subst e1 e2 hnd
      refine ⟨by simp, ?_⟩
      simp [c156t]
      simp only [hx, Res.andThen] at hQ
      refine ATT.fin' hQ Tryz.func156 c156res ?_
      exact ⟨by simp, _, _, _, rfl, rfl, NdR.mk h1 h2 h3 h4 hds⟩
    · subst e1
      simp only [hx, Res.andThen] at hQ
      exact ⟨by simpa using e2, hQ _ _ ⟨by simp [stopV], by simp⟩⟩
structure AllC (n : Nat) : Prop where
  expr : ExprC n
  casc : CascC n
  msg : MsgC n
  keyed : KeyedC n
  binary : BinaryC n
  unary : UnaryC n
  prim : PrimC n
  list : ListC n
  elem : ElemC n
  block : BlockC n
  stmt : StmtC n
  body : BodyC n
theorem allC_le : ∀ n m, m ≤ n → AllC m
  | 0, 0, _ => by
    constructor <;> intro d l <;> intros <;> rename_i h <;> exact absurd (by simp [exprS, cascS, msgS, keyedS, binaryS, unaryS, primS, listS, elemS, blockS, stmtS, bodyS]) h
  | 0, m + 1, h => absurd h (by omega)
  | n + 1, m, h => by
    rcases Nat.lt_or_ge m (n + 1) with h' | h'
    · exact allC_le n m (by omega)
    · have : m = n + 1 := by omega
      subst this
      have ih := allC_le n
      exact {
        expr := f76_ok n (ih n (Nat.le_refl _)).expr (ih n (Nat.le_refl _)).casc
        casc := f106_ok n (ih n (Nat.le_refl _)).keyed fun m h => (ih m h).msg
        msg := f122_ok n (fun m h => (ih m h).binary) (ih n (Nat.le_refl _)).unary
        keyed := f121_ok n (ih n (Nat.le_refl _)).msg (ih n (Nat.le_refl _)).binary
        binary := f137_ok n (fun m h => (ih m h).msg) (ih n (Nat.le_refl _)).unary
        unary := f138_ok n (fun m h => (ih m h).msg) (ih n (Nat.le_refl _)).prim
        prim := f148_ok n (ih n (Nat.le_refl _)).expr (ih n (Nat.le_refl _)).list (ih n (Nat.le_refl _)).block
        list := f155_ok n fun m h => (ih m h).elem
        elem := f160_ok n (ih n (Nat.le_refl _)).list
        block := f156_ok n (ih n (Nat.le_refl _)).body
        stmt := f46_ok n (ih n (Nat.le_refl _)).expr
        body := f28_ok n fun m h => (ih m h).stmt }
theorem allC (n : Nat) : AllC n := allC_le n n (Nat.le_refl _)
end Go.SL
namespace Go.SL
open Go.Proofs
set_option maxRecDepth 10000
abbrev UB (k : Int) (t : ByteArray) (n m : Nat) : Bx := .cells [.d (.int .i64 k), .d (.str t), .d (.int .i64 0), .d (.int .i64 n), .vs 0 m 0 m, .d (.sl true 0 [])] 25
def HR (d : Nat) (r : Res (ByteArray × List ByteArray)) (o : Out) (h : H) : Prop := match r with
  | .ok x l => ∃ b c, o = .ret (.d (.tup [])) ∧ h = ⟨PB l d :: UB 12 x.1 x.2.length x.2.length :: b, NS x.2 :: c⟩
  | .no a w => o = .pan (stopV a w) ∧ (∃ cs, h.bx[1]? = some (.cells cs 25) ∧ cs.length = 6) ∧ 2 ≤ h.bx.length ∧ 1 ≤ h.vc.length
  | .out => True
theorem HR.mk {d : Nat} {s : ByteArray} {nm : List ByteArray} {l : List Tk} {x0 x1 x2 x3 x4 x5 : V} {b : List Bx} {v0 : Option Vec} {c : List (Option Vec)}
    (h0 : x0 = .d (.int .i64 12)) (h1 : x1 = .d (.str s)) (h2 : x2 = .d (.int .i64 0)) (h3 : x3 = .d (.int .i64 nm.length)) (h4 : x4 = .vs 0 nm.length 0 nm.length) (h5 : x5 = .d (.sl true 0 [])) (hv : v0 = NS nm) :
    HR d (.ok (s, nm) l) (.ret (.d (.tup []))) ⟨PB l d :: .cells [x0, x1, x2, x3, x4, x5] 25 :: b, v0 :: c⟩ := by
  subst h0 h1 h2 h3 h4 h5 hv
  exact ⟨_, _, rfl, rfl⟩
abbrev UB0 : Bx := .cells [.d (.int .i64 12), .d (.str ⟨#[]⟩), .d (.int .i64 0), .d (.int .i64 0), .d (.sl true 0 []), .d (.sl true 0 [])] 25
section
variable {P : Program} {N : Nat} {f : FD} {Q : Out → H → Prop}
theorem ATT.nilB0 {env : Env} {h : H} {ob : Bool} (i j : Nat) {z : Nat} {cs : List V} {e : TypeId} (sz : Nat) (e' : TypeId) (hb : h.bx[i]? = some (.cells cs e)) (hc : cs[j]? = some (.d (.sl true z []))) (hz : 0 < sz)
    (k : ATT P N f Q ([], env, ⟨h.bx.set i (.cells (cs.set j (.vs h.vc.length 0 0 0)) e), h.vc ++ [some ⟨true, sz, 0, [], e'⟩]⟩, ob)) : ATT P N f Q ([], env, h, ob) :=
  ⟨k.1, AT.nilB hb hc sz hz e' k.2⟩
end
theorem f20_ok (l : List Tk) (d : Nat) : AF Tryz.prog 20 [.ptr 0 0, .ptr 1 0] ⟨[PB l d, UB0], []⟩ (HR d (.ok (⟨#[]⟩, []) l)) := by
  refine AF.start' 60 Tryz.func20 rfl rfl c20call c20ok fun Q hQ => ?_
  simp [c20c]
  refine ATT.nilB0 1 4 1 9 rfl rfl (by decide) ?_
  simp
  refine ATT.fin0' hQ Tryz.func20 c20res ?_
  exact ⟨by simp, HR.mk rfl rfl rfl rfl rfl rfl rfl⟩
end Go.SL
namespace Go.SL
open Go.Proofs
set_option maxRecDepth 10000
abbrev zeroN : D := .agg [.int .i64 0, .str ⟨#[]⟩, .int .i64 0, .int .i64 0, .sl true 0 [], .sl true 0 []]
abbrev ZC : List V := [.d (.int .i64 0), .d (.str ⟨#[]⟩), .d (.int .i64 0), .d (.int .i64 0), .d (.sl true 0 []), .d (.sl true 0 [])]
theorem f27_none (c0 c1 c2 c3 c4 c5 x1 x2 : V) (b : List Bx) (c : List (Option Vec)) :
    DCl Tryz.prog 27 [.ptr 0 0, .ptr 1 0, .ptr 2 0] none ⟨.cells [c0, c1, c2, c3, c4, c5] 25 :: .cells [x1] 3 :: .cells [x2] 26 :: b, c⟩ fun h => ∃ b c, h = ⟨.cells [c0, c1, c2, c3, c4, c5] 25 :: .cells [x1] 3 :: .cells [x2] 26 :: b, c⟩ := by
  refine DCl.of (ac := c27c) (ann := c27a) 60 Tryz.func27 rfl rfl c27call (fun _ _ => rfl) rfl rfl (by decide) c27ok ?_
  simp [c27c, c27t, recV]
  refine ATT.fin0' (fun _ _ h => h) Tryz.func27 c27res ?_
  exact ⟨by simp, ⟨_, rfl⟩, _, _, rfl⟩
theorem f27_some (a : Nat) (w : Int) (c0 c1 c2 c3 c4 c5 x1 x2 : V) (b : List Bx) (c : List (Option Vec)) :
    DCl Tryz.prog 27 [.ptr 0 0, .ptr 1 0, .ptr 2 0] (some (stopV a w)) ⟨.cells [c0, c1, c2, c3, c4, c5] 25 :: .cells [x1] 3 :: .cells [x2] 26 :: b, c⟩ fun h => ∃ b c, h = ⟨.cells ZC 25 :: .cells [.d (.int .i64 a)] 3 :: .cells [.d (.int .i64 w)] 26 :: b, c⟩ := by
  refine DCl.of (ac := c27c) (ann := c27a) 60 Tryz.func27 rfl rfl c27call (fun _ _ => rfl) rfl rfl (by decide) c27ok ?_
  simp [c27c, c27t, recV, stopV]
  refine ATT.fin0' (fun _ _ h => h) Tryz.func27 c27res ?_
  exact ⟨by simp, ⟨_, rfl⟩, _, _, rfl⟩
def UnR (r : Res Nd) (v : D) : Prop := match r with
  | .ok x _ => ∃ u, v = .tup [u, .int .i64 0, .int .i64 0] ∧ NdR x u
  | .no a w => v = .tup [zeroN, .int .i64 a, .int .i64 w]
  | .out => True
def uniS (n : Nat) (hd : List Tk → Res (ByteArray × List ByteArray)) (l : List Tk) : Res Nd :=
  (hd l).andThen fun p r => (bodyS n 0 0 r).andThen fun x r' => .ok (.mk 12 p.1 0 p.2.length (p.2 ++ x.1) x.2) r'
def UnQ (r : Res Nd) (o : Out) (h : H) : Prop := match r with
  | .ok x _ => ∃ c0 c1 c2 c3 c4 c5 b c, (∃ v, o = .ret v) ∧ h = ⟨.cells [.d c0, .d c1, .d c2, .d c3, .d c4, .d c5] 25 :: .cells [.d (.int .i64 0)] 3 :: .cells [.d (.int .i64 0)] 26 :: b, c⟩ ∧ NdR x (.agg [c0, c1, c2, c3, c4, c5])
  | .no a w => ∃ c0 c1 c2 c3 c4 c5 x1 x2 b c, o = .pan (stopV a w) ∧ h = ⟨.cells [c0, c1, c2, c3, c4, c5] 25 :: .cells [x1] 3 :: .cells [x2] 26 :: b, c⟩
  | .out => True
theorem six {cs : List V} (h : cs.length = 6) : ∃ c0 c1 c2 c3 c4 c5, cs = [c0, c1, c2, c3, c4, c5] := by
  match cs, h with
  | [c0, c1, c2, c3, c4, c5], _ => exact ⟨c0, c1, c2, c3, c4, c5, rfl⟩
theorem bx_two {l : List Bx} {b : Bx} (h : l[1]? = some b) : ∃ a r, l = a :: b :: r := by
  match l, h with
  | a :: x :: r, h => simp at h; subst h; exact ⟨a, r, rfl⟩
theorem upH_pan (x0 x1 x2 x3 b0 : Bx) (cs : List V) (e : TypeId) (br : List Bx) (v c : List (Option Vec)) (rv : List Nat) (kv : Nat) (hcs : cs.length = 6) :
    ∃ c0 c1 c2 c3 c4 c5 y c', upH ⟨[x0, x1, x2, x3], v⟩ ⟨b0 :: .cells cs e :: br, c⟩ [3, 0] rv 0 kv = ⟨.cells [c0, c1, c2, c3, c4, c5] e :: x1 :: x2 :: y, c'⟩ := by
  obtain ⟨c0, c1, c2, c3, c4, c5, h⟩ := six (cs := rns (upB [3, 0] 4 0) (upB rv v.length kv) cs) (by rw [rns_length]; exact hcs)
  refine ⟨c0, c1, c2, c3, c4, c5, [rnB (upB [3, 0] 4 0) (upB rv v.length kv) b0], (upH ⟨[x0, x1, x2, x3], v⟩ ⟨b0 :: .cells cs e :: br, c⟩ [3, 0] rv 0 kv).vc, ?_⟩
  rw [← h]
  simp [setAll, rnB]
theorem DCl.mono {P : Program} {g : FuncId} {a : List V} {u : Option V} {h0 : H} {R R' : H → Prop} (h : DCl P g a u h0 R) (k : ∀ h, R h → R' h) : DCl P g a u h0 R' :=
  ⟨h.1, fun κ w argv m r1 r2 r3 => (h.2 κ w argv m r1 r2 r3).mono fun e u w ⟨v, κ', h', t1, t2, t3, t4, t5⟩ => ⟨v, κ', h', t1, t2, t3, t4, k _ t5⟩⟩
theorem f19_no {num : ByteArray → Bool} (hW : NumP 71 num) (s : ByteArray) (hs : s.size ≤ 1073741820) (a : Nat) (w : Int) (hw : w ≠ 0) (hr : readD num s = .tup [.sl true 0 [], .int .i64 a, .int .i64 w]) (g : FuncId) :
    DF Tryz.prog 19 [.str s, .fn (.func g) [] []] (.tup [zeroN, .int .i64 a, .int .i64 w]) := by
  have hR := f26_ok hW s hs
  rw [hr] at hR
  refine AF.start' 60 Tryz.func19 rfl rfl c19call c19ok fun Q hQ => ?_
  simp [c19c, c19t]
  refine ATT.callD Tryz.func19 60 (hR) (by simp) (by simp) (by simp) ?_
  simp [c19t, hw]
  refine ATT.fin' hQ Tryz.func19 c19res ?_
  simp
  all_goals (first | omega | exact ⟨_, rfl⟩ | exact ⟨⟨_, rfl⟩, _, rfl⟩ | exact ⟨_, _, _, ⟨rfl, rfl, rfl⟩, _, rfl, rfl, rfl, rfl, rfl⟩ | exact ⟨_, _, _, ⟨rfl, rfl, rfl⟩, _, by omega, rfl, rfl, rfl, rfl⟩ | exact ⟨by omega, _, _, _, ⟨rfl, rfl, rfl⟩, _, by omega, rfl, rfl, rfl, rfl⟩ | skip)
theorem f19_yes {num : ByteArray → Bool} (hW : NumP 71 num) (s : ByteArray) (hs : s.size ≤ 1073741820) (l : List Tk) (hl : WF l) (hr : readD num s = .tup [.sl false 3 (l.map tkD), .int .i64 0, .int .i64 0]) (g : FuncId)
    (hd : List Tk → Res (ByteArray × List ByteArray)) (hH : AF Tryz.prog g [.ptr 0 0, .ptr 1 0] ⟨[PB l 0, UB0], []⟩ (HR 0 (hd l))) (hwf : ∀ p r, hd l = .ok p r → WF r ∧ p.2.length ≤ 5000) (n : Nat) (hin : uniS n hd l ≠ .out) :
    DE Tryz.prog 19 [.str s, .fn (.func g) [] []] (UnR (uniS n hd l)) := by
  have hR := f26_ok hW s hs
  rw [hr] at hR
  refine AF.start' 60 Tryz.func19 rfl rfl c19call c19ok fun Q hQ => ?_
  simp [c19c, c19t]
  refine ATT.callD Tryz.func19 60 (hR) (by simp) (by simp) (by simp) ?_
  simp [c19t]
  refine ATT.defer (UnQ (uniS n hd l)) Tryz.func19 60 [(4, .ptr 0 0), (5, .ptr 1 0), (6, .ptr 2 0)] (by simp; rfl) c27call c19res rfl ?_ ?_
  · simp [c19t]
    refine ATT.callA Tryz.func19 60 [3, 0] [] 0 1 hH (by simp) (by simp) (by simp) (by simp) (by simp) (fun out hC hE => ?_) (by simp)
    cases hh : hd l with
    | no a w =>
      rw [hh] at hE
      obtain ⟨e1, ⟨cs, e4, e5⟩, e2, e3⟩ := hE
      subst e1
      obtain ⟨hCb, hCc⟩ := hC
      simp only at e4 e2 e3
      obtain ⟨b0, br, hb⟩ := bx_two e4
      subst hb
      refine ⟨by simp; simpa using e3, ?_⟩
      simp only [uniS, hh, andThen_noE]
      obtain ⟨c0, c1, c2, c3, c4, c5, y, c', hu⟩ := upH_pan _ _ _ _ b0 cs 25 br _ hCc [] 1 e5
      rw [hu]
      exact ⟨_, _, _, _, _, _, _, _, _, _, by simp [stopV], rfl⟩
    | out => exact absurd hh (fun e => hin (by simp [uniS, e, Res.andThen]))
    | ok p r =>
      rw [hh] at hE
      obtain ⟨b, c, e1, e2⟩ := hE
      subst e1 e2
      refine ⟨by simp, ?_⟩
      simp [c19t]
      have hwl := hwf p r hh
      have hinB : bodyS n 0 0 r ≠ .out := fun e => hin (by simp [uniS, hh, e, Res.andThen])
      have hB := (allC n).body 0 r 0 p.2 (.int .i64 12) (.str p.1) (.int .i64 0) (.int .i64 p.2.length) (by omega) hwl.1 hwl.2 hinB
      refine ATT.callA Tryz.func19 60 [3, 0] [0] 0 1 hB (by simp) (by simp) (by simp) (by simp) (by simp) (fun out hC hE => ?_) (by simp)
      cases hres : bodyS n 0 0 r with
      | out => exact absurd hres hinB
      | no a w =>
        simp only [hres, BR] at hE
        obtain ⟨e1, ⟨cs, e4, e5⟩, e2, e3⟩ := hE
        subst e1
        obtain ⟨hCb, hCc⟩ := hC
        simp only at e4 e2 e3
        obtain ⟨b0, br, hb⟩ := bx_two e4
        subst hb
        refine ⟨by simp; simpa using e3, ?_⟩
        simp only [uniS, hh, hres, andThen_okE, andThen_noE]
        obtain ⟨c0, c1, c2, c3, c4, c5, y, c', hu⟩ := upH_pan _ _ _ _ b0 cs 25 br _ hCc [0] 1 e5
        rw [hu]
        exact ⟨_, _, _, _, _, _, _, _, _, _, by simp [stopV], rfl⟩
      | ok x r' =>
        simp only [hres, BR] at hE
        obtain ⟨b, c, ds, e1, e2, hds⟩ := hE
        subst e1 e2
        refine ⟨by simp, ?_⟩
        simp only [uniS, hh, hres, andThen_okE]
        simp [c19t]
        obtain ⟨xn, xk⟩ := x
        simp only
        cases hnm : p.2 ++ xn with
        | nil =>
          obtain ⟨h1, h2⟩ := List.append_eq_nil_iff.mp hnm
          simp only [h1, h2]
          cases ds with
          | nil =>
            refine ATT.fz (by simp) ?_
            simp
            refine ATT.finD Tryz.func19 (by simp) rfl (by simp) ?_
            exact ⟨_, _, _, _, _, _, _, _, ⟨_, rfl⟩, rfl, NdR.mk (by simp) (by simp) (fun h => by first | (simp at h; done) | (have := hds.length; exact List.length_eq_zero_iff.mp this.symm)) (by simp) hds⟩
          | cons d0 ds =>
            refine ATT.fz (by simp) ?_
            simp
            refine ATT.finD Tryz.func19 (by simp) rfl (by simp) ?_
            exact ⟨_, _, _, _, _, _, _, _, ⟨_, rfl⟩, rfl, NdR.mk (by simp) (by simp) (fun h => by first | (simp at h; done) | (have := hds.length; exact List.length_eq_zero_iff.mp this.symm)) (by simp) hds⟩
        | cons y yr =>
          have hlen : p.2.length + xn.length = (y :: yr).length := by rw [← hnm]; simp
          have hmm : (p.2.map fun s => V.d (.str s)) ++ (xn.map fun s => V.d (.str s)) = (y :: yr).map fun s => V.d (.str s) := by rw [← hnm]; simp
          simp only [hlen, hmm]
          cases ds with
          | nil =>
            refine ATT.fz (by simp) ?_
            simp
            refine ATT.finD Tryz.func19 (by simp) rfl (by simp) ?_
            exact ⟨_, _, _, _, _, _, _, _, ⟨_, rfl⟩, rfl, NdR.mk (by simp) (by simp) (fun h => by first | (simp at h; done) | (have := hds.length; exact List.length_eq_zero_iff.mp this.symm)) (by simp) hds⟩
          | cons d0 ds =>
            refine ATT.fz (by simp) ?_
            simp
            refine ATT.finD Tryz.func19 (by simp) rfl (by simp) ?_
            exact ⟨_, _, _, _, _, _, _, _, ⟨_, rfl⟩, rfl, NdR.mk (by simp) (by simp) (fun h => by first | (simp at h; done) | (have := hds.length; exact List.length_eq_zero_iff.mp this.symm)) (by simp) hds⟩
  · intro out h1 hq
    cases hr : uniS n hd l with
    | out => exact absurd hr hin
    | no a w =>
      rw [hr] at hq hQ
      obtain ⟨c0, c1, c2, c3, c4, c5, x1, x2, b, c, e1, e2⟩ := hq
      subst e1 e2
      refine (f27_some a w c0 c1 c2 c3 c4 c5 x1 x2 b c).mono fun h ⟨b', c', e⟩ => ?_
      subst e
      exact ⟨_, rfl, hQ _ _ ⟨_, rfl, rfl⟩⟩
    | ok x r =>
      rw [hr] at hq hQ
      obtain ⟨c0, c1, c2, c3, c4, c5, b, c, ⟨v, e1⟩, e2, hx⟩ := hq
      subst e1 e2
      refine (f27_none (.d c0) (.d c1) (.d c2) (.d c3) (.d c4) (.d c5) (.d (.int .i64 0)) (.d (.int .i64 0)) b c).mono fun h ⟨b', c', e⟩ => ?_
      subst e
      exact ⟨_, rfl, hQ _ _ ⟨_, rfl, _, rfl, hx⟩⟩
end Go.SL
namespace Go.SL
open Go.Proofs
set_option maxRecDepth 10000
theorem patKeysS_wf : ∀ {n : Nat} {s : ByteArray} {acc : List ByteArray} {l : List Tk} {x r}, WF l → patKeysS n s acc l = .ok x r → WF r ∧ x.2.length + r.length ≤ acc.length + l.length
  | 0, s, acc, l, x, r, h, e => by simp [patKeysS] at e
  | n + 1, s, acc, l, x, r, h, e => by
    simp only [patKeysS] at e
    split at e
    · rename_i hk
      have h1 := h.short hk (by decide)
      split at e
      · rename_i hk2
        have h2 := h1.1.short hk2 (by decide)
        have h3 := patKeysS_wf h2.1 e
        have := h1.2; have := h2.2
        exact ⟨h3.1, by have := h3.2; simp at this; omega⟩
      · simp at e
    · simp only [Res.ok.injEq] at e
      obtain ⟨e1, e2⟩ := e
      subst e1 e2
      exact ⟨h, Nat.le_refl _⟩
theorem patS_wf {n : Nat} {l : List Tk} {x r} (h : WF l) (e : patS n l = .ok x r) : WF r ∧ x.2.length ≤ 5000 := by
  have hl := h.2.2
  simp only [patS] at e
  split at e
  · rename_i hk
    have h1 := h.short hk (by decide)
    simp only [Res.ok.injEq] at e
    obtain ⟨e1, e2⟩ := e
    subst e1 e2
    exact ⟨h1.1, by simp⟩
  split at e
  · rename_i hk
    have h1 := h.short hk (by decide)
    split at e
    · rename_i hk2
      have h2 := h1.1.short hk2 (by decide)
      simp only [Res.ok.injEq] at e
      obtain ⟨e1, e2⟩ := e
      subst e1 e2
      exact ⟨h2.1, by simp⟩
    · simp at e
  split at e
  · have h3 := patKeysS_wf h e
    exact ⟨h3.1, by have := h3.2; simp at this; omega⟩
  · simp at e
theorem patKeysS_in : ∀ {n : Nat} {s : ByteArray} {acc : List ByteArray} {l : List Tk}, WF l → l.length ≤ n → patKeysS n s acc l ≠ .out
  | 0, s, acc, l, h, hn => by obtain ⟨t, r, e⟩ := h.cons; subst e; simp at hn
  | n + 1, s, acc, l, h, hn => by
    simp only [patKeysS]
    split
    · rename_i hk
      have h1 := h.short hk (by decide)
      split
      · rename_i hk2
        have h2 := h1.1.short hk2 (by decide)
        exact patKeysS_in h2.1 (by have := h1.2; have := h2.2; omega)
      · simp
    · simp
theorem patS_in {n : Nat} {l : List Tk} (h : WF l) (hn : l.length ≤ n) : patS n l ≠ .out := by
  simp only [patS]
  split
  · simp
  split
  · split <;> simp
  split
  · exact patKeysS_in h hn
  · simp
theorem subT_le (s : ByteArray) (i j : Nat) : (subT s i j).size ≤ s.size := by simp [subT]; omega
theorem wordS_text {num : ByteArray → Bool} {s : ByteArray} (hs : s.size ≤ 4096) {i : Nat} {k : Int} {t : ByteArray} {e : Nat} (h : wordS num s i = some (k, t, e)) : t.size ≤ 1048576 := by
  have sb : ∀ a b, (subT s a b).size ≤ 1048576 := fun a b => by have := subT_le s a b; omega
  have qb : ∀ q, quB q = true → (quT q).size ≤ 1048576 := fun q h => by
    cases q with
    | none => simp [quB] at h
    | some l =>
      simp only [quB, decide_eq_true_eq] at h
      show l.toArray.size ≤ 1048576
      simp; omega
  unfold wordS at h
  have key : ∀ {k' : Int} {t' : ByteArray} {e' : Nat}, some (k', t', e') = some (k, t, e) → t'.size ≤ 1048576 → t.size ≤ 1048576 := fun h1 h2 => by
    simp only [Option.some.injEq, Prod.mk.injEq] at h1
    rw [← h1.2.1]; exact h2
  split at h
  · split at h
    · exact key h (sb _ _)
    · exact key h (sb _ _)
  split at h
  · split at h
    · exact key h (sb _ _)
    · simp at h
  split at h
  · split at h
    · rename_i hq
      exact key h (qb _ hq)
    · simp at h
  split at h
  · split at h
    · exact key h (sb _ _)
    · split at h
      · rename_i hq
        refine key h ?_
        unfold symT
        unfold symB at hq
        split
        · exact sb _ _
        · rename_i hn
          rw [if_neg hn] at hq
          exact qb _ hq
      · simp at h
  split at h
  · split at h
    · exact key h (sb _ _)
    · exact key h (sb _ _)
  split at h
  · exact key h (sb _ _)
  split at h
  · exact key h (sb _ _)
  · simp at h
theorem lexS_wf0 {num : ByteArray → Bool} {s : ByteArray} (hs : s.size ≤ 4096) : ∀ m i l, s.size - i = m → i ≤ s.size → lexS num s i = .inl l → (∃ a t, l = a ++ [t] ∧ t.k = 0) ∧ (∀ t ∈ l, t.t.size ≤ 1048576) ∧ l.length ≤ s.size - i + 1 := by
  intro m
  induction m using Nat.strongRecOn with
  | ind m ih =>
    intro i l hm hi h
    rw [lexS_eq] at h
    have h1 := skipS_le blankS s _ i rfl
    split at h
    · rename_i hlt
      split at h
      · split at h
        · rename_i hq
          have h2 := skipS_le notQ s _ (skipS blankS s i + 1) rfl
          obtain ⟨g1, g2, g3⟩ := ih _ (by omega) _ _ rfl (by omega) h
          exact ⟨g1, g2, by omega⟩
        · simp at h
      · split at h
        · rename_i k t e hw
          have hwl := wordS_lt hlt hw
          rw [if_pos hwl.1] at h
          split at h
          · rename_i l' hl'
            simp only [Sum.inl.injEq] at h
            subst h
            obtain ⟨⟨a, t', g0, g1⟩, g2, g3⟩ := ih _ (by have := hwl.2; omega) _ _ rfl (by have := hwl.2; omega) hl'
            refine ⟨⟨⟨k, t, skipS blankS s i⟩ :: a, t', by rw [g0]; rfl, g1⟩, ?_, by have := hwl.1; have := hwl.2; simp only [List.length_cons]; omega⟩
            intro y hy
            simp only [List.mem_cons] at hy
            rcases hy with hy | hy
            · subst hy; exact wordS_text hs hw
            · exact g2 y hy
          · simp at h
        · simp at h
    · simp only [Sum.inl.injEq] at h
      subst h
      exact ⟨⟨[], _, rfl, rfl⟩, by intro y hy; simp at hy; subst hy; exact Nat.zero_le _, by simp⟩
theorem lexS_wf {num : ByteArray → Bool} {s : ByteArray} (hs : s.size ≤ 4096) {l : List Tk} (h : lexS num s 0 = .inl l) : WF l := by
  obtain ⟨g1, g2, g3⟩ := lexS_wf0 hs _ 0 l rfl (Nat.zero_le _) h
  exact ⟨g1, g2, by omega⟩
def fuel (l : List Tk) : Nat := 20 * l.length + 20
theorem uniS_in {hd : List Tk → Res (ByteArray × List ByteArray)} {l : List Tk} (h1 : hd l ≠ .out) (h2 : ∀ p r, hd l = .ok p r → WF r ∧ r.length ≤ l.length) : uniS (fuel l) hd l ≠ .out := by
  refine andThen_in h1 fun p r e => andThen_in ?_ fun _ _ _ => by simp
  have h3 := h2 p r e
  exact (enough (fuel l)).body h3.1 (by unfold fuel; have := h3.2; omega)
def headS (m : Bool) (l : List Tk) : Res (ByteArray × List ByteArray) := if m then patS (fuel l) l else .ok (⟨#[]⟩, []) l
def parseD (num : ByteArray → Bool) (m : Bool) (s : ByteArray) : Res Nd :=
  if 4096 < s.size then .no 0 3 else
  match lexS num s 0 with
  | .inl l => uniS (fuel l) (headS m) l
  | .inr a => .no a 20
theorem patKeysS_le : ∀ {n : Nat} {s : ByteArray} {acc : List ByteArray} {l : List Tk} {x r}, patKeysS n s acc l = .ok x r → r.length ≤ l.length
  | 0, s, acc, l, x, r, e => by simp [patKeysS] at e
  | n + 1, s, acc, l, x, r, e => by
    simp only [patKeysS] at e
    split at e
    · split at e
      · have h3 := patKeysS_le e
        simp at h3; omega
      · simp at e
    · simp only [Res.ok.injEq] at e
      rw [e.2]; exact Nat.le_refl _
theorem patS_le {n : Nat} {l : List Tk} {x r} (e : patS n l = .ok x r) : r.length ≤ l.length := by
  simp only [patS] at e
  split at e
  · simp only [Res.ok.injEq] at e; rw [← e.2]; simp
  split at e
  · split at e
    · simp only [Res.ok.injEq] at e; rw [← e.2]; simp; omega
    · simp at e
  split at e
  · exact patKeysS_le e
  · simp at e
theorem headS_wf {m : Bool} {l : List Tk} {x r} (h : WF l) (e : headS m l = .ok x r) : WF r ∧ x.2.length ≤ 5000 := by
  cases m with
  | true => exact patS_wf h e
  | false => simp only [headS, Bool.false_eq_true, if_false, Res.ok.injEq] at e; rw [← e.1, ← e.2]; exact ⟨h, by simp⟩
theorem headS_le {m : Bool} {l : List Tk} {x r} (e : headS m l = .ok x r) : r.length ≤ l.length := by
  cases m with
  | true => exact patS_le e
  | false => simp only [headS, Bool.false_eq_true, if_false, Res.ok.injEq] at e; rw [← e.2]; exact Nat.le_refl _
theorem headS_in {m : Bool} {l : List Tk} (h : WF l) : headS m l ≠ .out := by
  cases m with
  | true => exact patS_in h (by unfold fuel; omega)
  | false => simp [headS]
theorem parseD_in (num : ByteArray → Bool) (m : Bool) (s : ByteArray) : parseD num m s ≠ .out := by
  unfold parseD
  split
  · simp
  · split
    · rename_i hs l hl
      have hwf := lexS_wf (by omega) hl
      exact uniS_in (headS_in hwf) fun p r e => ⟨(headS_wf hwf e).1, headS_le e⟩
    · simp
theorem f19_ok {num : ByteArray → Bool} (hW : NumP 71 num) (s : ByteArray) (hs : s.size ≤ 1073741820) (m : Bool) (g : FuncId) (hH : ∀ l, WF l → AF Tryz.prog g [.ptr 0 0, .ptr 1 0] ⟨[PB l 0, UB0], []⟩ (HR 0 (headS m l))) :
    DE Tryz.prog 19 [.str s, .fn (.func g) [] []] (UnR (parseD num m s)) := by
  unfold parseD
  by_cases hz : 4096 < s.size
  · rw [if_pos hz]
    have := f19_no hW s hs 0 3 (by decide) (by simp [readD, hz]) g
    exact this.mono fun o h e => ⟨_, e, rfl⟩
  · rw [if_neg hz]
    cases hl : lexS num s 0 with
    | inr a =>
      have := f19_no hW s hs a 20 (by decide) (by simp [readD, hz, hl]) g
      exact this.mono fun o h e => ⟨_, e, rfl⟩
    | inl l =>
      have hwf := lexS_wf (by omega) hl
      exact f19_yes hW s hs l hwf (by simp [readD, hz, hl]) g (headS m) (hH l hwf) (fun p r e => headS_wf hwf e) (fuel l) (uniS_in (headS_in hwf) fun p r e => ⟨(headS_wf hwf e).1, headS_le e⟩)
theorem f8_ok {num : ByteArray → Bool} (hW : NumP 71 num) (s : ByteArray) (hs : s.size ≤ 1073741820) : DE Tryz.prog 8 [.str s] (UnR (parseD num false s)) := by
  have hU := f19_ok hW s hs false 20 fun l _ => f20_ok l 0
  refine AF.start' 60 Tryz.func8 rfl rfl c8call c8ok fun Q hQ => ?_
  simp [c8c, c8t]
  refine ATT.callE Tryz.func8 60 hU (by simp) (by simp) (by simp) fun v hv => ?_
  cases hr : parseD num false s with
  | ok x l =>
    rw [hr] at hv hQ
    obtain ⟨u, e, hu⟩ := hv
    subst e
    obtain ⟨nl1_u, z1_u, nl2_u, z2_u, ds_u, hv_u, ha_u, hb_u, hc_u, hd_u, he_u⟩ := hu.shape
    have hw_u := hv_u
    subst hw_u
    simp
    refine ATT.fin' hQ Tryz.func8 c8res ?_
    exact ⟨by simp, _, rfl, _, rfl, hu⟩
  | no a w =>
    rw [hr] at hv hQ
    have e : v = _ := hv
    subst e
    simp
    refine ATT.fin' hQ Tryz.func8 c8res ?_
    exact ⟨by simp, _, rfl, rfl⟩
  | out => exact absurd hr (parseD_in _ _ _)
end Go.SL
namespace Go.SL
open Go.Proofs
set_option maxRecDepth 10000
def cnt (s : ByteArray) : Nat → Nat
  | 0 => 0
  | i + 1 => cnt s i + (if sbyte s i = 58 then 1 else 0)
@[simp] theorem cnt_zero (s : ByteArray) : cnt s 0 = 0 := rfl
theorem cnt_no {s : ByteArray} {i : Nat} (h : 128 ≤ sbyte s i) : cnt s (i + 1) = cnt s i := by
  simp only [cnt]; rw [if_neg (by omega)]; rfl
theorem cnt_le (s : ByteArray) : ∀ i, cnt s i ≤ i
  | 0 => Nat.le_refl _
  | i + 1 => by have := cnt_le s i; simp only [cnt]; split <;> omega
theorem rune_of (s : ByteArray) (i : Nat) (h : i < s.size) : ∃ c w, Utf8.decode s i = (c, w) ∧ 0 < w ∧ i + w ≤ s.size ∧ cnt s (i + w) = cnt s i + (if (c : Int) = 58 then 1 else 0) := by
  have e0 := get_sbyte s _ h
  unfold Utf8.decode
  simp only [Nat.add_zero]
  split
  · rename_i h0
    refine ⟨_, 1, rfl, by omega, by omega, ?_⟩
    simp only [cnt, e0]
  rename_i h0
  have c1 : cnt s (i + 1) = cnt s i := cnt_no (by omega)
  have err : ∃ c w, (Utf8.runeError, 1) = (c, w) ∧ 0 < w ∧ i + w ≤ s.size ∧ cnt s (i + w) = cnt s i + (if (c : Int) = 58 then 1 else 0) := ⟨_, 1, rfl, by omega, by omega, by rw [c1, if_neg (by decide)]; rfl⟩
  split
  · rename_i h1
    simp only [Bool.and_eq_true, decide_eq_true_eq, beq_iff_eq] at h1
    split
    · rename_i h2
      have e1 := get_sbyte s _ h1.2.1
      have c2 : cnt s (i + 2) = cnt s (i + 1) := cnt_no (by omega)
      exact ⟨_, 2, rfl, by omega, by omega, by rw [c2, c1, if_neg (by omega)]; rfl⟩
    · exact err
  split
  · rename_i h1
    simp only [Bool.and_eq_true, decide_eq_true_eq, beq_iff_eq] at h1
    split
    · rename_i h2
      simp only [Bool.and_eq_true, decide_eq_true_eq] at h2
      have e1 := get_sbyte s _ h1.1.2.1
      have e2 := get_sbyte s _ h1.2.1
      have c2 : cnt s (i + 2) = cnt s (i + 1) := cnt_no (by omega)
      have c3 : cnt s (i + 3) = cnt s (i + 2) := cnt_no (by omega)
      exact ⟨_, 3, rfl, by omega, by omega, by rw [c3, c2, c1, if_neg (by omega)]; rfl⟩
    · exact err
  split
  · rename_i h1
    simp only [Bool.and_eq_true, decide_eq_true_eq, beq_iff_eq] at h1
    split
    · rename_i h2
      simp only [Bool.and_eq_true, decide_eq_true_eq] at h2
      have e1 := get_sbyte s _ h1.1.1.2.1
      have e2 := get_sbyte s _ h1.1.2.1
      have e3 := get_sbyte s _ h1.2.1
      have c2 : cnt s (i + 2) = cnt s (i + 1) := cnt_no (by omega)
      have c3 : cnt s (i + 3) = cnt s (i + 2) := cnt_no (by omega)
      have c4 : cnt s (i + 4) = cnt s (i + 3) := cnt_no (by omega)
      exact ⟨_, 4, rfl, by omega, by omega, by rw [c4, c3, c2, c1, if_neg (by omega)]; rfl⟩
    · exact err
  · exact err
def plainB (s : ByteArray) : Bool := decide (0 < s.size) && letterS (sbyte s 0) && decide (nameS s 0 = s.size)
def argsN (s : ByteArray) : Nat := if plainB s then 0 else if s.size = 0 ∨ plainB (s.extract 0 1) = true then cnt s s.size else 1
theorem f13_ok (s : ByteArray) (hs : s.size ≤ 1073741824) : DF Tryz.prog 13 [.str s] (.int .i64 (argsN s)) := by
  have hP := f23_ok s hs
  refine AF.start' 60 Tryz.func13 rfl rfl c13call c13ok fun Q hQ => ?_
  simp [c13c, c13t]
  refine ATT.loopG 60 c13l7.eq_1 (fun ((i, n) : Nat × Nat) => s.size - i) (fun ((i, n) : Nat × Nat) => i ≤ s.size ∧ n = cnt s i) (fun ((i, n) : Nat × Nat) => [(0, .d (.str s)), (3, .d (.int .i64 n)), (7, .ptr 0 0)]) (fun ((i, n) : Nat × Nat) => [.iter s i]) (fun ((i, n) : Nat × Nat) => []) ((0, 0)) (by (try dsimp only); exact ⟨Nat.zero_le _, rfl⟩) (by simp <;> omega) (by simp) (by simp) ?_
  intro ⟨i, n⟩ u w hI ih
  try simp only at hI ih
  obtain ⟨i1, i2⟩ := hI
  by_cases hi : i < s.size
  · obtain ⟨c, w', hdec, hw, hle, hc⟩ := rune_of s i hi
    have hcl := cnt_le s i
    have hII : inI ((n : Int) + 1) = true := inI_of (by omega) (by omega)
    by_cases h58 : (c : Int) = 58
    · rw [if_pos h58, ← i2] at hc
      simp [c13t, hi, hdec, eq_true h58, hII]
      refine ih (i + w', n + 1) (by first | ((try dsimp only); omega) | (simp [hi, hdec, eq_true h58, hII] <;> omega)) (by (try dsimp only); exact ⟨hle, hc.symm⟩) _ _ _ (by simp <;> omega) (by simp <;> omega) (by simp <;> omega)
    · rw [if_neg h58, Nat.add_zero, ← i2] at hc
      simp [c13t, hi, hdec, h58]
      refine ih (i + w', n) (by first | ((try dsimp only); omega) | (simp [hi, hdec, h58] <;> omega)) (by (try dsimp only); exact ⟨hle, hc.symm⟩) _ _ _ (by simp <;> omega) (by simp <;> omega) (by simp <;> omega)
  · have hie : i = s.size := by omega
    subst hie
    simp [c13t, hi]
    have hP' : DF Tryz.prog 23 [.str s] (.bool (plainB s)) := hP
    unfold argsN at hQ
    cases hb : plainB s with
    | true =>
      rw [hb] at hP'
      simp only [hb, if_true] at hQ
      refine ATT.callD Tryz.func13 60 (hP') (by simp) (by simp) (by simp) ?_
      simp [c13t]
      refine ATT.fin' hQ Tryz.func13 c13res ?_
      simp
      all_goals (first | omega | exact ⟨_, rfl⟩ | exact ⟨⟨_, rfl⟩, _, rfl⟩ | exact ⟨_, _, _, ⟨rfl, rfl, rfl⟩, _, rfl, rfl, rfl, rfl, rfl⟩ | exact ⟨_, _, _, ⟨rfl, rfl, rfl⟩, _, by omega, rfl, rfl, rfl, rfl⟩ | exact ⟨by omega, _, _, _, ⟨rfl, rfl, rfl⟩, _, by omega, rfl, rfl, rfl, rfl⟩ | skip)
    | false =>
      rw [hb] at hP'
      simp only [hb, Bool.false_eq_true, if_false] at hQ
      refine ATT.callD Tryz.func13 60 (hP') (by simp) (by simp) (by simp) ?_
      simp [c13t]
      by_cases h0 : s.size = 0
      · have he : s = ⟨#[]⟩ := by
          have : s.data.size = 0 := h0
          rcases s with ⟨d⟩
          simp at this
          rw [this]
        simp only [h0, true_or, if_true] at hQ
        simp [c13t, eq_true he]
        refine ATT.fin' hQ Tryz.func13 c13res ?_
        simp
        all_goals (first | omega | exact ⟨_, rfl⟩ | exact ⟨⟨_, rfl⟩, _, rfl⟩ | exact ⟨_, _, _, ⟨rfl, rfl, rfl⟩, _, rfl, rfl, rfl, rfl, rfl⟩ | exact ⟨_, _, _, ⟨rfl, rfl, rfl⟩, _, by omega, rfl, rfl, rfl, rfl⟩ | exact ⟨by omega, _, _, _, ⟨rfl, rfl, rfl⟩, _, by omega, rfl, rfl, rfl, rfl⟩ | skip)
        simp [i2, h0]
      · have he : ¬ s = ⟨#[]⟩ := fun e => h0 (by rw [e]; rfl)
        have h1 : (1 : Int) ≤ s.size := by omega
        have hP2 : DF Tryz.prog 23 [.str (s.extract 0 1)] (.bool (plainB (s.extract 0 1))) := f23_ok (s.extract 0 1) (by simp; omega)
        simp only [h0, false_or] at hQ
        simp [he, h1]
        cases hb2 : plainB (s.extract 0 1) with
        | true =>
          rw [hb2] at hP2
          simp only [hb2, if_true] at hQ
          refine ATT.callD Tryz.func13 60 (hP2) (by simp) (by simp) (by simp) ?_
          simp [c13t]
          refine ATT.fin' hQ Tryz.func13 c13res ?_
          simp
          all_goals (first | omega | exact ⟨_, rfl⟩ | exact ⟨⟨_, rfl⟩, _, rfl⟩ | exact ⟨_, _, _, ⟨rfl, rfl, rfl⟩, _, rfl, rfl, rfl, rfl, rfl⟩ | exact ⟨_, _, _, ⟨rfl, rfl, rfl⟩, _, by omega, rfl, rfl, rfl, rfl⟩ | exact ⟨by omega, _, _, _, ⟨rfl, rfl, rfl⟩, _, by omega, rfl, rfl, rfl, rfl⟩ | skip)
        | false =>
          rw [hb2] at hP2
          simp only [hb2, Bool.false_eq_true, if_false] at hQ
          refine ATT.callD Tryz.func13 60 (hP2) (by simp) (by simp) (by simp) ?_
          simp [c13t]
          refine ATT.fin' hQ Tryz.func13 c13res ?_
          simp
          all_goals (first | omega | exact ⟨_, rfl⟩ | exact ⟨⟨_, rfl⟩, _, rfl⟩ | exact ⟨_, _, _, ⟨rfl, rfl, rfl⟩, _, rfl, rfl, rfl, rfl, rfl⟩ | exact ⟨_, _, _, ⟨rfl, rfl, rfl⟩, _, by omega, rfl, rfl, rfl, rfl⟩ | exact ⟨by omega, _, _, _, ⟨rfl, rfl, rfl⟩, _, by omega, rfl, rfl, rfl, rfl⟩ | skip)
theorem r07_plain (s : ByteArray) : (decide (0 < s.size) && decide (nameS s 0 = s.size)) = plainB s := by
  unfold plainB
  have hg := nameS_gt s 0
  by_cases h : 0 < s.size
  · cases hl : letterS (sbyte s 0) with
    | true => simp [h]
    | false =>
      have : nameS s 0 = 0 := by unfold nameS; simp [hl]
      simp [this]
      omega
  · simp [h]
theorem f14_ok (s : ByteArray) (hs : s.size ≤ 1073741824) : DF Tryz.prog 14 [.str s] (.int .i64 (argsN s)) := by
  have hP : DF Tryz.prog 24 [.str s] (.bool (plainB s)) := by
    have := f24_ok s hs
    rwa [r07_plain] at this
  refine AF.start' 60 Tryz.func14 rfl rfl c14call c14ok fun Q hQ => ?_
  simp [c14c, c14t]
  unfold argsN at hQ
  cases hb : plainB s with
  | true =>
    rw [hb] at hP
    simp only [hb, if_true] at hQ
    refine ATT.callD Tryz.func14 60 (hP) (by simp) (by simp) (by simp) ?_
    simp [c14t]
    refine ATT.fin' hQ Tryz.func14 c14res ?_
    simp
    all_goals (first | omega | exact ⟨_, rfl⟩ | exact ⟨⟨_, rfl⟩, _, rfl⟩ | exact ⟨_, _, _, ⟨rfl, rfl, rfl⟩, _, rfl, rfl, rfl, rfl, rfl⟩ | exact ⟨_, _, _, ⟨rfl, rfl, rfl⟩, _, by omega, rfl, rfl, rfl, rfl⟩ | exact ⟨by omega, _, _, _, ⟨rfl, rfl, rfl⟩, _, by omega, rfl, rfl, rfl, rfl⟩ | skip)
  | false =>
    rw [hb] at hP
    simp only [hb, Bool.false_eq_true, if_false] at hQ
    refine ATT.callD Tryz.func14 60 (hP) (by simp) (by simp) (by simp) ?_
    simp [c14t]
    by_cases h0 : s.size = 0
    · simp only [h0, true_or, if_true] at hQ
      have he : s = ByteArray.empty := by
        have : s.data.size = 0 := h0
        rcases s with ⟨d⟩
        simp at this
        rw [this]
        rfl
      simp [c14t, eq_true he]
      refine ATT.loopG 60 c14l10.eq_1 (fun (i : Nat) => 0) (fun (i : Nat) => i ≤ 0) (fun (i : Nat) => [(0, .d (.str s)), (3, .d (.int .i64 0)), (4, .d (.int .i64 0))]) (fun (i : Nat) => []) (fun (i : Nat) => []) (0) (by (try dsimp only); exact Nat.le_refl _) (by simp <;> omega) (by simp) (by simp) ?_
      intro i u w hI ih
      try simp only at hI ih
      simp [c14t, h0]
      refine ATT.fin' hQ Tryz.func14 c14res ?_
      simp
      all_goals (first | omega | exact ⟨_, rfl⟩ | exact ⟨⟨_, rfl⟩, _, rfl⟩ | exact ⟨_, _, _, ⟨rfl, rfl, rfl⟩, _, rfl, rfl, rfl, rfl, rfl⟩ | exact ⟨_, _, _, ⟨rfl, rfl, rfl⟩, _, by omega, rfl, rfl, rfl, rfl⟩ | exact ⟨by omega, _, _, _, ⟨rfl, rfl, rfl⟩, _, by omega, rfl, rfl, rfl, rfl⟩ | skip)
    · have he : ¬ s = ByteArray.empty := fun e => h0 (by rw [e]; rfl)
      have h1 : (1 : Int) ≤ s.size := by omega
      have hP2 : DF Tryz.prog 24 [.str (s.extract 0 1)] (.bool (plainB (s.extract 0 1))) := by
        have := f24_ok (s.extract 0 1) (by simp; omega)
        rwa [r07_plain] at this
      simp only [h0, false_or] at hQ
      simp [he, h1]
      cases hb2 : plainB (s.extract 0 1) with
      | true =>
        rw [hb2] at hP2
        simp only [hb2, if_true] at hQ
        refine ATT.callD Tryz.func14 60 (hP2) (by simp) (by simp) (by simp) ?_
        simp [c14t]
        refine ATT.loopG 60 c14l10.eq_1 (fun (i : Nat) => s.size - i) (fun (i : Nat) => i ≤ s.size) (fun (i : Nat) => [(0, .d (.str s)), (3, .d (.int .i64 (cnt s i))), (4, .d (.int .i64 i))]) (fun (i : Nat) => []) (fun (i : Nat) => []) (0) (by (try dsimp only); exact Nat.zero_le _) (by simp <;> omega) (by simp) (by simp) ?_
        intro i u w hI ih
        try simp only at hI ih
        by_cases hi : i < s.size
        · have hi' : (i : Int) < s.size := by omega
          have hr : inR i s.size = true := inR_of (by omega) (by omega)
          have hI1 : inI ((i : Int) + 1) = true := inI_of (by omega) (by omega)
          have hcl := cnt_le s i
          have hI2 : inI ((cnt s i : Int) + 1) = true := inI_of (by omega) (by omega)
          by_cases h58 : sbyte s i = 58
          · have hc : cnt s (i + 1) = cnt s i + 1 := by simp only [cnt]; rw [if_pos h58]
            simp [c14t, hi', hr, hI1, hI2, eq_true h58]
            refine ih (i + 1) (by first | ((try dsimp only); omega) | (simp [hi', hi, hr, hI1, hI2, eq_true h58, hc] <;> omega)) (by (try dsimp only); exact hi) _ _ _ (by simp <;> omega) (by simp [hc] <;> omega) (by simp <;> omega)
          · have hc : cnt s (i + 1) = cnt s i := by simp only [cnt]; rw [if_neg h58]; rfl
            simp [c14t, hi', hr, hI1, h58]
            refine ih (i + 1) (by first | ((try dsimp only); omega) | (simp [hi', hi, hr, hI1, hI2, h58, hc] <;> omega)) (by (try dsimp only); exact hi) _ _ _ (by simp <;> omega) (by simp [hc] <;> omega) (by simp <;> omega)
        · have hie : i = s.size := by omega
          subst hie
          have hi' : ¬ (s.size : Int) < s.size := by omega
          simp [c14t, hi']
          refine ATT.fin' hQ Tryz.func14 c14res ?_
          simp
          all_goals (first | omega | exact ⟨_, rfl⟩ | exact ⟨⟨_, rfl⟩, _, rfl⟩ | exact ⟨_, _, _, ⟨rfl, rfl, rfl⟩, _, rfl, rfl, rfl, rfl, rfl⟩ | exact ⟨_, _, _, ⟨rfl, rfl, rfl⟩, _, by omega, rfl, rfl, rfl, rfl⟩ | exact ⟨by omega, _, _, _, ⟨rfl, rfl, rfl⟩, _, by omega, rfl, rfl, rfl, rfl⟩ | skip)
      | false =>
        rw [hb2] at hP2
        simp only [hb2, Bool.false_eq_true, if_false] at hQ
        refine ATT.callD Tryz.func14 60 (hP2) (by simp) (by simp) (by simp) ?_
        simp [c14t]
        refine ATT.fin' hQ Tryz.func14 c14res ?_
        simp
        all_goals (first | omega | exact ⟨_, rfl⟩ | exact ⟨⟨_, rfl⟩, _, rfl⟩ | exact ⟨_, _, _, ⟨rfl, rfl, rfl⟩, _, rfl, rfl, rfl, rfl, rfl⟩ | exact ⟨_, _, _, ⟨rfl, rfl, rfl⟩, _, by omega, rfl, rfl, rfl, rfl⟩ | exact ⟨by omega, _, _, _, ⟨rfl, rfl, rfl⟩, _, by omega, rfl, rfl, rfl, rfl⟩ | skip)
def numS (t : ByteArray) : Bool := !(decide (sbyte t 0 = 48) && decide (1 < t.size)) && decide (t.size ≤ 400) && decide (dval t t.size < 256 ^ 128)
theorem NumP_of {f : FuncId} (h : ∀ s, digs s → s.size ≤ 1073741824 → DE Tryz.prog f [.str s] (ReadQ s)) : NumP f numS := fun t hd ht => by
  refine AF.mono (h t hd ht) fun o h' hq => ?_
  obtain ⟨v, e, hv⟩ := hq
  refine ⟨v, e, ?_⟩
  unfold ReadQ at hv
  unfold numS
  split at hv
  · rename_i h0
    exact ⟨_, _, _, _, _, hv, by simp [h0.1, h0.2]⟩
  rename_i h0
  split at hv
  · rename_i h4
    exact ⟨_, _, _, _, _, hv, by simp; intro _ _; omega⟩
  rename_i h4
  have h0' : (decide (sbyte t 0 = 48) && decide (1 < t.size)) = false := by simpa using h0
  have h4' : t.size ≤ 400 := by omega
  split at hv
  · rename_i hn
    obtain ⟨u, e1, k, u', e2, nl, sz, l, e3, _⟩ := hv
    subst e2 e3
    exact ⟨_, _, _, _, _, e1, by simp only [h0', h4', hn]; simp⟩
  · rename_i hn
    exact ⟨_, _, _, _, _, hv, by simp only [h0', h4', hn]; simp⟩
theorem hWhole : NumP 71 numS := NumP_of f71_ok
end Go.SL
namespace Go.SL
open Go.Proofs
set_option maxRecDepth 10000
@[simp] theorem bsV_nil : bsV [] = [] := rfl
def boundN (s : ByteArray) : Nat := if plainB s then 2 else if plainB (s.extract 0 1) then 0 else 1
theorem f89_ok (s : ByteArray) (h0 : 0 < s.size) (hs : s.size ≤ 1073741824) : DF Tryz.prog 89 [.str s] (.int .i64 (boundN s)) := by
  have hP : DF Tryz.prog 23 [.str s] (.bool (plainB s)) := f23_ok s hs
  have hP2 : DF Tryz.prog 23 [.str (s.extract 0 1)] (.bool (plainB (s.extract 0 1))) := f23_ok (s.extract 0 1) (by simp; omega)
  have h1 : (1 : Int) ≤ s.size := by omega
  refine AF.start' 60 Tryz.func89 rfl rfl c89call c89ok fun Q hQ => ?_
  simp [c89c, c89t]
  unfold boundN at hQ
  cases hb : plainB s with
  | true =>
    rw [hb] at hP
    simp only [hb, if_true] at hQ
    refine ATT.callD Tryz.func89 60 (hP) (by simp) (by simp) (by simp) ?_
    simp [c89t]
    refine ATT.fin' hQ Tryz.func89 c89res ?_
    simp
    all_goals (first | omega | exact ⟨_, rfl⟩ | exact ⟨⟨_, rfl⟩, _, rfl⟩ | exact ⟨_, _, _, ⟨rfl, rfl, rfl⟩, _, rfl, rfl, rfl, rfl, rfl⟩ | exact ⟨_, _, _, ⟨rfl, rfl, rfl⟩, _, by omega, rfl, rfl, rfl, rfl⟩ | exact ⟨by omega, _, _, _, ⟨rfl, rfl, rfl⟩, _, by omega, rfl, rfl, rfl, rfl⟩ | skip)
  | false =>
    rw [hb] at hP
    simp only [hb, Bool.false_eq_true, if_false] at hQ
    refine ATT.callD Tryz.func89 60 (hP) (by simp) (by simp) (by simp) ?_
    simp [c89t, h1]
    cases hb2 : plainB (s.extract 0 1) with
    | true =>
      rw [hb2] at hP2
      simp only [hb2, if_true] at hQ
      refine ATT.callD Tryz.func89 60 (hP2) (by simp) (by simp) (by simp) ?_
      simp [c89t]
      refine ATT.fin' hQ Tryz.func89 c89res ?_
      simp
      all_goals (first | omega | exact ⟨_, rfl⟩ | exact ⟨⟨_, rfl⟩, _, rfl⟩ | exact ⟨_, _, _, ⟨rfl, rfl, rfl⟩, _, rfl, rfl, rfl, rfl, rfl⟩ | exact ⟨_, _, _, ⟨rfl, rfl, rfl⟩, _, by omega, rfl, rfl, rfl, rfl⟩ | exact ⟨by omega, _, _, _, ⟨rfl, rfl, rfl⟩, _, by omega, rfl, rfl, rfl, rfl⟩ | skip)
    | false =>
      rw [hb2] at hP2
      simp only [hb2, Bool.false_eq_true, if_false] at hQ
      refine ATT.callD Tryz.func89 60 (hP2) (by simp) (by simp) (by simp) ?_
      simp [c89t]
      refine ATT.fin' hQ Tryz.func89 c89res ?_
      simp
      all_goals (first | omega | exact ⟨_, rfl⟩ | exact ⟨⟨_, rfl⟩, _, rfl⟩ | exact ⟨_, _, _, ⟨rfl, rfl, rfl⟩, _, rfl, rfl, rfl, rfl, rfl⟩ | exact ⟨_, _, _, ⟨rfl, rfl, rfl⟩, _, by omega, rfl, rfl, rfl, rfl⟩ | exact ⟨by omega, _, _, _, ⟨rfl, rfl, rfl⟩, _, by omega, rfl, rfl, rfl, rfl⟩ | skip)
abbrev ND (k : Int) (t : ByteArray) (a : Nat) (m : Bool) (z : Nat) (ks : D) : D := .agg [.int .i64 k, .str t, .int .i64 a, .int .i64 0, .sl m z [], ks]
theorem f116_name (t : ByteArray) (a : Nat) (m : Bool) (z : Nat) (m2 : Bool) (z2 : Nat) (ds : List D) : DF Tryz.prog 116 [ND 5 t a m z (.sl m2 z2 ds)] (.int .i64 2) := by
  refine AF.start' 60 Tryz.func116 rfl rfl c116call c116ok fun Q hQ => ?_
  simp [c116c, c116t]
  refine ATT.fin' hQ Tryz.func116 c116res ?_
  simp
  all_goals (first | omega | exact ⟨_, rfl⟩ | exact ⟨⟨_, rfl⟩, _, rfl⟩ | exact ⟨_, _, _, ⟨rfl, rfl, rfl⟩, _, rfl, rfl, rfl, rfl, rfl⟩ | exact ⟨_, _, _, ⟨rfl, rfl, rfl⟩, _, by omega, rfl, rfl, rfl, rfl⟩ | exact ⟨by omega, _, _, _, ⟨rfl, rfl, rfl⟩, _, by omega, rfl, rfl, rfl, rfl⟩ | skip)
theorem f116_num (t : ByteArray) (a : Nat) (m : Bool) (z : Nat) (m2 : Bool) (z2 : Nat) (ds : List D) : DF Tryz.prog 116 [ND 1 t a m z (.sl m2 z2 ds)] (.int .i64 2) := by
  refine AF.start' 60 Tryz.func116 rfl rfl c116call c116ok fun Q hQ => ?_
  simp [c116c, c116t]
  refine ATT.fin' hQ Tryz.func116 c116res ?_
  simp
  all_goals (first | omega | exact ⟨_, rfl⟩ | exact ⟨⟨_, rfl⟩, _, rfl⟩ | exact ⟨_, _, _, ⟨rfl, rfl, rfl⟩, _, rfl, rfl, rfl, rfl, rfl⟩ | exact ⟨_, _, _, ⟨rfl, rfl, rfl⟩, _, by omega, rfl, rfl, rfl, rfl⟩ | exact ⟨by omega, _, _, _, ⟨rfl, rfl, rfl⟩, _, by omega, rfl, rfl, rfl, rfl⟩ | skip)
theorem f116_send (t : ByteArray) (a : Nat) (m : Bool) (z : Nat) (m2 : Bool) (z2 : Nat) (ds : List D) (h0 : 0 < t.size) (hs : t.size ≤ 1073741824) : DF Tryz.prog 116 [ND 7 t a m z (.sl m2 z2 ds)] (.int .i64 (boundN t)) := by
  refine AF.start' 60 Tryz.func116 rfl rfl c116call c116ok fun Q hQ => ?_
  simp [c116c, c116t]
  refine ATT.callD Tryz.func116 60 (f89_ok t h0 hs) (by simp) (by simp) (by simp) ?_
  simp
  refine ATT.fin' hQ Tryz.func116 c116res ?_
  simp
  all_goals (first | omega | exact ⟨_, rfl⟩ | exact ⟨⟨_, rfl⟩, _, rfl⟩ | exact ⟨_, _, _, ⟨rfl, rfl, rfl⟩, _, rfl, rfl, rfl, rfl, rfl⟩ | exact ⟨_, _, _, ⟨rfl, rfl, rfl⟩, _, by omega, rfl, rfl, rfl, rfl⟩ | exact ⟨by omega, _, _, _, ⟨rfl, rfl, rfl⟩, _, by omega, rfl, rfl, rfl, rfl⟩ | skip)
def WR (n : Nat) (f : FuncId) (args : List D) (txt : List UInt8) : Prop := n + txt.length ≤ 1000000 ∧ ∀ b l, l.length ≤ n → VF Tryz.prog f (.ptr 0 0 :: args.map .d) [BB 0 0 71 b l] [BV 5 0 l] (.d (.tup [])) [BB 0 0 71 true (l ++ txt)] [BV 5 0 (l ++ txt)]
theorem hTW : hasT bldL 71 2 = true := by decide
theorem f33_name (n : Nat) (t : ByteArray) (a : Nat) (m : Bool) (z : Nat) (m2 : Bool) (z2 : Nat) (ds : List D) (hn : n + t.size ≤ 1000000) : WR n 33 [ND 5 t a m z (.sl m2 z2 ds)] t.data.toList := by
  refine ⟨by simpa using hn, fun b l hl => ?_⟩
  refine AF.start' 60 Tryz.func33 rfl rfl c33call c33ok fun Q hQ => ?_
  simp [c33c, c33t]
  refine ATT.callRV Tryz.func33 60 [0] [0] (f54_ok 71 hTW b l t (by omega)) (by simp) (by simp) (by simp) (by simp) (by simp) (by simp) (by simp) ?_
  simp
  refine ATT.fin0' hQ Tryz.func33 c33res ?_
  simp
  all_goals (first | omega | exact ⟨_, rfl⟩ | exact ⟨⟨_, rfl⟩, _, rfl⟩ | exact ⟨_, _, _, ⟨rfl, rfl, rfl⟩, _, rfl, rfl, rfl, rfl, rfl⟩ | exact ⟨_, _, _, ⟨rfl, rfl, rfl⟩, _, by omega, rfl, rfl, rfl, rfl⟩ | exact ⟨by omega, _, _, _, ⟨rfl, rfl, rfl⟩, _, by omega, rfl, rfl, rfl, rfl⟩ | skip)
theorem f33_num (n : Nat) (t : ByteArray) (a : Nat) (m : Bool) (z : Nat) (m2 : Bool) (z2 : Nat) (ds : List D) (hn : n + t.size ≤ 1000000) : WR n 33 [ND 1 t a m z (.sl m2 z2 ds)] t.data.toList := by
  refine ⟨by simpa using hn, fun b l hl => ?_⟩
  refine AF.start' 60 Tryz.func33 rfl rfl c33call c33ok fun Q hQ => ?_
  simp [c33c, c33t]
  refine ATT.callRV Tryz.func33 60 [0] [0] (f54_ok 71 hTW b l t (by omega)) (by simp) (by simp) (by simp) (by simp) (by simp) (by simp) (by simp) ?_
  simp
  refine ATT.fin0' hQ Tryz.func33 c33res ?_
  simp
  all_goals (first | omega | exact ⟨_, rfl⟩ | exact ⟨⟨_, rfl⟩, _, rfl⟩ | exact ⟨_, _, _, ⟨rfl, rfl, rfl⟩, _, rfl, rfl, rfl, rfl, rfl⟩ | exact ⟨_, _, _, ⟨rfl, rfl, rfl⟩, _, by omega, rfl, rfl, rfl, rfl⟩ | exact ⟨by omega, _, _, _, ⟨rfl, rfl, rfl⟩, _, by omega, rfl, rfl, rfl, rfl⟩ | skip)
theorem f88_ok (n : Nat) (k : Int) (t : ByteArray) (a : Nat) (m : Bool) (z : Nat) (m2 : Bool) (z2 : Nat) (ds : List D) (lv le : Nat) (txt : List UInt8) (hl : DF Tryz.prog 116 [ND k t a m z (.sl m2 z2 ds)] (.int .i64 lv)) (hle : le ≤ lv) (hn : WR n 33 [ND k t a m z (.sl m2 z2 ds)] txt) :
    WR n 88 [ND k t a m z (.sl m2 z2 ds), .int .i64 le] txt := by
  refine ⟨hn.1, fun b l hlen => ?_⟩
  have hle' : (le : Int) ≤ lv := by omega
  refine AF.start' 60 Tryz.func88 rfl rfl c88call c88ok fun Q hQ => ?_
  simp [c88c, c88t]
  refine ATT.callD Tryz.func88 60 (hl) (by simp) (by simp) (by simp) ?_
  simp [c88t, hle']
  refine ATT.callV Tryz.func88 60 [0] [0] (hn.2 b l hlen) (by simp) (by simp) (by simp) (by simp) (by simp) (by simp) (by simp) ?_
  simp
  refine ATT.fin' hQ Tryz.func88 c88res ?_
  simp
  all_goals (first | omega | exact ⟨_, rfl⟩ | exact ⟨⟨_, rfl⟩, _, rfl⟩ | exact ⟨_, _, _, ⟨rfl, rfl, rfl⟩, _, rfl, rfl, rfl, rfl, rfl⟩ | exact ⟨_, _, _, ⟨rfl, rfl, rfl⟩, _, by omega, rfl, rfl, rfl, rfl⟩ | exact ⟨by omega, _, _, _, ⟨rfl, rfl, rfl⟩, _, by omega, rfl, rfl, rfl, rfl⟩ | skip)
theorem f59_ok (n : Nat) (k : Int) (t : ByteArray) (a : Nat) (m : Bool) (z : Nat) (m2 : Bool) (z2 : Nat) (ds : List D) (lv : Nat) (txt : List UInt8) (sel : ByteArray) (bn : Nat) (h0 : 0 < sel.size) (hs : sel.size ≤ 1000) (hb : boundN sel = bn)
    (hl : DF Tryz.prog 116 [ND k t a m z (.sl m2 z2 ds)] (.int .i64 lv)) (hle : max 1 bn ≤ lv) (hn : WR n 33 [ND k t a m z (.sl m2 z2 ds)] txt) :
    WR n 59 [ND k t a m z (.sl m2 z2 ds), .str sel] txt := by
  refine ⟨hn.1, fun b l hlen => ?_⟩
  have hN := (f88_ok n k t a m z m2 z2 ds lv (max 1 bn) txt hl hle hn).2 b l hlen
  have hB := f89_ok sel h0 (by omega)
  rw [hb] at hB
  have hmx : (if (1 : Int) < bn then (bn : Int) else 1) = ((max 1 bn : Nat) : Int) := by split <;> omega
  refine AF.start' 60 Tryz.func59 rfl rfl c59call c59ok fun Q hQ => ?_
  simp [c59c, c59t]
  refine ATT.callRD Tryz.func59 60 hB (by simp) (by simp) (by simp) ?_
  simp [hmx]
  refine ATT.callRV Tryz.func59 60 [0] [0] (hN) (by simp) (by simp) (by simp) (by simp) (by simp) (by simp) (by simp) ?_
  simp
  refine ATT.fin0' hQ Tryz.func59 c59res ?_
  simp
  all_goals (first | omega | exact ⟨_, rfl⟩ | exact ⟨⟨_, rfl⟩, _, rfl⟩ | exact ⟨_, _, _, ⟨rfl, rfl, rfl⟩, _, rfl, rfl, rfl, rfl, rfl⟩ | exact ⟨_, _, _, ⟨rfl, rfl, rfl⟩, _, by omega, rfl, rfl, rfl, rfl⟩ | exact ⟨by omega, _, _, _, ⟨rfl, rfl, rfl⟩, _, by omega, rfl, rfl, rfl, rfl⟩ | skip)
theorem f60_name (n : Nat) (sel : ByteArray) (m2 : Bool) (z2 : Nat) (ds : List D) (h0 : 0 < sel.size) (hb : boundN sel = 2) (hn : n + 1 + sel.size ≤ 1000000) : WR n 60 [.str sel, .sl m2 z2 ds] (32 :: sel.data.toList) := by
  refine ⟨by simp; have : sel.data.size = sel.size := rfl; omega, fun b l hlen => ?_⟩
  have hB := f89_ok sel h0 (by omega)
  rw [hb] at hB
  have h32 : (⟨#[32]⟩ : ByteArray).size = 1 := rfl
  have hz1 : 1 + sel.size ≤ 9223372036854775807 := by omega
  have hz2 : 1 + sel.size + 1 ≤ 9223372036854775807 := by omega
  refine AF.start' 60 Tryz.func60 rfl rfl c60call c60ok fun Q hQ => ?_
  simp [c60c, c60t]
  refine ATT.callD Tryz.func60 60 (hB) (by simp) (by simp) (by simp) ?_
  simp [c60t, h32, hz1]
  refine ATT.callV Tryz.func60 60 [0] [0] (f54_ok 71 hTW b l (⟨#[32]⟩ ++ sel) (by simp; have : (⟨#[32]⟩ : ByteArray).size = 1 := rfl; omega)) (by simp) (by simp) (by simp) (by simp) (by simp) (by simp) (by simp) ?_
  simp [h32]
  refine ATT.fin0' hQ Tryz.func60 c60res ?_
  simp
  all_goals (first | omega | exact ⟨_, rfl⟩ | exact ⟨⟨_, rfl⟩, _, rfl⟩ | exact ⟨_, _, _, ⟨rfl, rfl, rfl⟩, _, rfl, rfl, rfl, rfl, rfl⟩ | exact ⟨_, _, _, ⟨rfl, rfl, rfl⟩, _, by omega, rfl, rfl, rfl, rfl⟩ | exact ⟨by omega, _, _, _, ⟨rfl, rfl, rfl⟩, _, by omega, rfl, rfl, rfl, rfl⟩ | skip)
theorem f60_sign (n : Nat) (sel : ByteArray) (k : Int) (t : ByteArray) (a : Nat) (m : Bool) (z : Nat) (m2 : Bool) (z2 : Nat) (ds : List D) (txt : List UInt8) (h0 : 0 < sel.size) (hb : boundN sel = 1) (hn : n + 2 + sel.size ≤ 1000000)
    (hN : WR (n + 2 + sel.size) 88 [ND k t a m z (.sl m2 z2 ds), .int .i64 2] txt) : WR n 60 [.str sel, .sl false 6 [ND k t a m z (.sl m2 z2 ds)]] (32 :: sel.data.toList ++ 32 :: txt) := by
  have hsz : sel.data.size = sel.size := rfl
  refine ⟨by have := hN.1; simp; omega, fun b l hlen => ?_⟩
  have hB := f89_ok sel h0 (by omega)
  rw [hb] at hB
  have h32 : (⟨#[32]⟩ : ByteArray).size = 1 := rfl
  have hz1 : 1 + sel.size ≤ 9223372036854775807 := by omega
  have hz2 : 1 + sel.size + 1 ≤ 9223372036854775807 := by omega
  refine AF.start' 60 Tryz.func60 rfl rfl c60call c60ok fun Q hQ => ?_
  simp [c60c, c60t]
  refine ATT.callD Tryz.func60 60 (hB) (by simp) (by simp) (by simp) ?_
  simp [c60t, h32, hz1, hz2]
  refine ATT.callV Tryz.func60 60 [0] [0] (f54_ok 71 hTW b l (⟨#[32]⟩ ++ sel ++ ⟨#[32]⟩) (by simp; have : (⟨#[32]⟩ : ByteArray).size = 1 := rfl; omega)) (by simp) (by simp) (by simp) (by simp) (by simp) (by simp) (by simp) ?_
  simp [h32]
  refine ATT.callRV Tryz.func60 60 [0] [0] (hN.2 true (l ++ 32 :: (sel.data.toList ++ [32])) (by simp; omega)) (by simp) (by simp) (by simp) (by simp) (by simp) (by simp) (by simp) ?_
  simp
  refine ATT.fin0' hQ Tryz.func60 c60res ?_
  simp
  all_goals (first | omega | exact ⟨_, rfl⟩ | exact ⟨⟨_, rfl⟩, _, rfl⟩ | exact ⟨_, _, _, ⟨rfl, rfl, rfl⟩, _, rfl, rfl, rfl, rfl, rfl⟩ | exact ⟨_, _, _, ⟨rfl, rfl, rfl⟩, _, by omega, rfl, rfl, rfl, rfl⟩ | exact ⟨by omega, _, _, _, ⟨rfl, rfl, rfl⟩, _, by omega, rfl, rfl, rfl, rfl⟩ | skip)
theorem f91_ok (n : Nat) (k : Int) (t : ByteArray) (a : Nat) (m : Bool) (z : Nat) (m2 : Bool) (z2 : Nat) (ds : List D) (txt : List UInt8) (hN : WR n 88 [ND k t a m z (.sl m2 z2 ds), .int .i64 1] txt) (b : Bool) (l : List UInt8) (hl : l.length ≤ n) :
    VF Tryz.prog 91 [.d (.int .i64 0), .ptr 1 0, .ptr 2 0] [BB 0 0 71 b l, .cells [.ptr 0 0] 98, .cells [.d (.sl false 6 [ND k t a m z (.sl m2 z2 ds)])] 23] [BV 5 0 l] (.d (.tup [])) [BB 0 0 71 true (l ++ txt), .cells [.ptr 0 0] 98, .cells [.d (.sl false 6 [ND k t a m z (.sl m2 z2 ds)])] 23] [BV 5 0 (l ++ txt)] := by
  refine AF.start' 60 Tryz.func91 rfl rfl c91call c91ok fun Q hQ => ?_
  simp [c91c, c91t]
  refine ATT.callRV Tryz.func91 60 [0] [0] (hN.2 b l hl) (by simp) (by simp) (by simp) (by simp) (by simp) (by simp) (by simp) ?_
  simp
  refine ATT.fin0' hQ Tryz.func91 c91res ?_
  simp
  all_goals (first | omega | exact ⟨_, rfl⟩ | exact ⟨⟨_, rfl⟩, _, rfl⟩ | exact ⟨_, _, _, ⟨rfl, rfl, rfl⟩, _, rfl, rfl, rfl, rfl, rfl⟩ | exact ⟨_, _, _, ⟨rfl, rfl, rfl⟩, _, by omega, rfl, rfl, rfl, rfl⟩ | exact ⟨by omega, _, _, _, ⟨rfl, rfl, rfl⟩, _, by omega, rfl, rfl, rfl, rfl⟩ | skip)
theorem f90_one (n : Nat) (sel : ByteArray) (k : Int) (t : ByteArray) (a : Nat) (m : Bool) (z : Nat) (m2 : Bool) (z2 : Nat) (ds : List D) (txt : List UInt8) (h0 : 0 < sel.size) (hf : firstIdx sel 58 + 1 = (sel.size : Int)) (hn : n + 2 + sel.size ≤ 1000000)
    (hN : WR (n + 2 + sel.size) 88 [ND k t a m z (.sl m2 z2 ds), .int .i64 1] txt) (b : Bool) (l : List UInt8) (hl : l.length ≤ n) :
    VF Tryz.prog 90 [.ptr 0 0, .d (.str sel), .d (.str ⟨#[32]⟩), .d (.str ⟨#[]⟩), .fn (.func 91) [] [.ptr 1 0, .ptr 2 0]] [BB 0 0 71 b l, .cells [.ptr 0 0] 98, .cells [.d (.sl false 6 [ND k t a m z (.sl m2 z2 ds)])] 23] [BV 5 0 l] (.d (.tup [])) [BB 0 0 71 true (l ++ (32 :: sel.data.toList ++ 32 :: txt)), .cells [.ptr 0 0] 98, .cells [.d (.sl false 6 [ND k t a m z (.sl m2 z2 ds)])] 23] [BV 5 0 (l ++ (32 :: sel.data.toList ++ 32 :: txt))] := by
  have hsz : sel.data.size = sel.size := rfl
  have hs0 : ¬ sel = ⟨#[]⟩ := fun e => by rw [e] at h0; exact absurd h0 (by decide)
  have h32 : (⟨#[32]⟩ : ByteArray).size = 1 := rfl
  have hz1 : 1 + sel.size ≤ 9223372036854775807 := by omega
  have hz2 : 1 + sel.size + 1 ≤ 9223372036854775807 := by omega
  have hI1 : inI (sel.size : Int) = true := inI_of (by omega) (by omega)
  have hex : sel.extract 0 sel.size = sel := by simp
  have hex2 : sel.extract sel.size sel.size = ⟨#[]⟩ := by simp; rfl
  refine AF.start' 60 Tryz.func90 rfl rfl c90call c90ok fun Q hQ => ?_
  simp [c90c, c90t]
  refine ATT.loopG 60 c90l8.eq_1 (fun ((j, s, b', l') : Nat × ByteArray × Bool × List UInt8) => 1 - j) (fun ((j, s, b', l') : Nat × ByteArray × Bool × List UInt8) => (j = 0 ∧ s = sel ∧ b' = b ∧ l' = l) ∨ (j = 1 ∧ s = ByteArray.empty ∧ b' = true ∧ l' = l ++ (32 :: sel.data.toList ++ 32 :: txt))) (fun ((j, s, b', l') : Nat × ByteArray × Bool × List UInt8) => [(0, .ptr 0 0), (1, .d (.str s)), (2, .d (.str ⟨#[32]⟩)), (3, .d (.str ⟨#[]⟩)), (4, .fn (.func 91) [] [.ptr 1 0, .ptr 2 0]), (10, .d (.int .i64 j))]) (fun ((j, s, b', l') : Nat × ByteArray × Bool × List UInt8) => [BB 0 0 71 b' l', .cells [.ptr 0 0] 98, .cells [.d (.sl false 6 [ND k t a m z (.sl m2 z2 ds)])] 23]) (fun ((j, s, b', l') : Nat × ByteArray × Bool × List UInt8) => [BV 5 0 l']) ((0, sel, b, l)) (by (try dsimp only); exact .inl ⟨rfl, rfl, rfl, rfl⟩) (by simp <;> omega) (by simp) (by simp) ?_
  intro ⟨j, s, b', l'⟩ u w hI ih
  try simp only at hI ih
  rcases hI with ⟨e1, e2, e3, e4⟩ | ⟨e1, e2, e3, e4⟩
  · subst e1 e2 e3 e4
    have hI9 : inI 1 = true := rfl
    simp [c90t, hs0]
    refine ATT.callD Tryz.func90 60 (f44_ok s 58) (by simp) (by simp) (by simp) ?_
    simp [hf, h32, hz1, hz2, hI1, hex]
    refine ATT.callRV Tryz.func90 60 [0] [0] (f54_ok 71 hTW b' l' (⟨#[32]⟩ ++ s ++ ⟨#[32]⟩) (by simp; omega)) (by simp) (by simp) (by simp) (by simp) (by simp) (by simp) (by simp) ?_
    simp [c90t, h32]
    refine ATT.callV Tryz.func90 60 [0, 1, 2] [0] (f91_ok (n + 2 + s.size) k t a m z m2 z2 ds txt hN true (l' ++ 32 :: (s.data.toList ++ [32])) (by simp; omega)) (by simp) (by simp) (by simp) (by simp) (by simp) (by simp) (by simp) ?_
    simp [c90t]
    refine ATT.callV Tryz.func90 60 [0] [0] (f54_ok 71 hTW true (l' ++ 32 :: (s.data.toList ++ 32 :: txt)) ⟨#[]⟩ (by have := hN.1; have : (⟨#[]⟩ : ByteArray).size = 0 := rfl; simp; omega)) (by simp) (by simp) (by simp) (by simp) (by simp) (by simp) (by simp) ?_
    simp [c90t, hI9]
    refine ih (1, ByteArray.empty, true, l' ++ (32 :: s.data.toList ++ 32 :: txt)) (by dsimp only; omega) (.inr ⟨rfl, rfl, rfl, rfl⟩) _ _ _ (by simp) (by simp) (by simp)
  · subst e1 e2 e3 e4
    simp [c90t]
    refine ATT.fin0' hQ Tryz.func90 c90res ?_
    simp
    all_goals (first | omega | exact ⟨_, rfl⟩ | exact ⟨⟨_, rfl⟩, _, rfl⟩ | exact ⟨_, _, _, ⟨rfl, rfl, rfl⟩, _, rfl, rfl, rfl, rfl, rfl⟩ | exact ⟨_, _, _, ⟨rfl, rfl, rfl⟩, _, by omega, rfl, rfl, rfl, rfl⟩ | exact ⟨by omega, _, _, _, ⟨rfl, rfl, rfl⟩, _, by omega, rfl, rfl, rfl, rfl⟩ | skip)
theorem f60_key (n : Nat) (sel : ByteArray) (k : Int) (t : ByteArray) (a : Nat) (m : Bool) (z : Nat) (m2 : Bool) (z2 : Nat) (ds : List D) (txt : List UInt8) (h0 : 0 < sel.size) (hb : boundN sel = 0) (hf : firstIdx sel 58 + 1 = (sel.size : Int)) (hn : n + 2 + sel.size ≤ 1000000)
    (hN : WR (n + 2 + sel.size) 88 [ND k t a m z (.sl m2 z2 ds), .int .i64 1] txt) : WR n 60 [.str sel, .sl false 6 [ND k t a m z (.sl m2 z2 ds)]] (32 :: sel.data.toList ++ 32 :: txt) := by
  have hsz : sel.data.size = sel.size := rfl
  refine ⟨by have := hN.1; simp; omega, fun b l hlen => ?_⟩
  have hB := f89_ok sel h0 (by omega)
  rw [hb] at hB
  refine AF.start' 60 Tryz.func60 rfl rfl c60call c60ok fun Q hQ => ?_
  simp [c60c, c60t]
  refine ATT.callD Tryz.func60 60 (hB) (by simp) (by simp) (by simp) ?_
  simp [c60t]
  refine ATT.callV Tryz.func60 60 [0, 1, 2] [0] (f90_one n sel k t a m z m2 z2 ds txt h0 hf hn hN b l hlen) (by simp) (by simp) (by simp) (by simp) (by simp) (by simp) (by simp) ?_
  simp
  refine ATT.fin0' hQ Tryz.func60 c60res ?_
  simp
  all_goals (first | omega | exact ⟨_, rfl⟩ | exact ⟨⟨_, rfl⟩, _, rfl⟩ | exact ⟨_, _, _, ⟨rfl, rfl, rfl⟩, _, rfl, rfl, rfl, rfl, rfl⟩ | exact ⟨_, _, _, ⟨rfl, rfl, rfl⟩, _, by omega, rfl, rfl, rfl, rfl⟩ | exact ⟨by omega, _, _, _, ⟨rfl, rfl, rfl⟩, _, by omega, rfl, rfl, rfl, rfl⟩ | skip)
theorem f33_send (n : Nat) (t : ByteArray) (a : Nat) (m : Bool) (z : Nat) (k1 : Int) (t1 : ByteArray) (a1 : Nat) (m1 : Bool) (z1 : Nat) (m2 : Bool) (z2 : Nat) (ds1 ds : List D) (s1 s2 : List UInt8)
    (hT : WR n 59 [ND k1 t1 a1 m1 z1 (.sl m2 z2 ds1), .str t] s1) (hM : WR (n + s1.length) 60 [.str t, .sl false 6 ds] s2) : WR n 33 [ND 7 t a m z (.sl false 6 (ND k1 t1 a1 m1 z1 (.sl m2 z2 ds1) :: ds))] (s1 ++ s2) := by
  refine ⟨by have := hM.1; simp; omega, fun b l hlen => ?_⟩
  have h1 : (1 : Int) ≤ (ds.length : Int) + 1 := by omega
  refine AF.start' 60 Tryz.func33 rfl rfl c33call c33ok fun Q hQ => ?_
  simp [c33c, c33t]
  refine ATT.callRV Tryz.func33 60 [0] [0] (hT.2 b l hlen) (by simp) (by simp) (by simp) (by simp) (by simp) (by simp) (by simp) ?_
  simp [h1]
  refine ATT.callRV Tryz.func33 60 [0] [0] (hM.2 true (l ++ s1) (by simp; omega)) (by simp) (by simp) (by simp) (by simp) (by simp) (by simp) (by simp) ?_
  simp
  refine ATT.fin0' hQ Tryz.func33 c33res ?_
  simp
  all_goals (first | omega | exact ⟨_, rfl⟩ | exact ⟨⟨_, rfl⟩, _, rfl⟩ | exact ⟨_, _, _, ⟨rfl, rfl, rfl⟩, _, rfl, rfl, rfl, rfl, rfl⟩ | exact ⟨_, _, _, ⟨rfl, rfl, rfl⟩, _, by omega, rfl, rfl, rfl, rfl⟩ | exact ⟨by omega, _, _, _, ⟨rfl, rfl, rfl⟩, _, by omega, rfl, rfl, rfl, rfl⟩ | skip)
theorem f57_one (n : Nat) (k : Int) (t : ByteArray) (a : Nat) (m : Bool) (z : Nat) (m2 : Bool) (z2 : Nat) (ds : List D) (sep : ByteArray) (txt : List UInt8) (hN : WR n 33 [ND k t a m z (.sl m2 z2 ds)] txt) : WR n 57 [.sl false 6 [ND k t a m z (.sl m2 z2 ds)], .str sep] txt := by
  refine ⟨hN.1, fun b l hlen => ?_⟩
  refine AF.start' 60 Tryz.func57 rfl rfl c57call c57ok fun Q hQ => ?_
  simp [c57c, c57t]
  refine ATT.loopG 60 c57l7.eq_1 (fun ((j, b', l') : Nat × Bool × List UInt8) => 1 - j) (fun ((j, b', l') : Nat × Bool × List UInt8) => (j = 0 ∧ b' = b ∧ l' = l) ∨ (j = 1 ∧ b' = true ∧ l' = l ++ txt)) (fun ((j, b', l') : Nat × Bool × List UInt8) => [(0, .ptr 0 0), (2, .d (.str sep)), (8, .d (.sl false 6 [ND k t a m z (.sl m2 z2 ds)])), (9, .d (.int .i64 1)), (10, .d (.int .i64 j))]) (fun ((j, b', l') : Nat × Bool × List UInt8) => [BB 0 0 71 b' l']) (fun ((j, b', l') : Nat × Bool × List UInt8) => [BV 5 0 l']) ((0, b, l)) (by (try dsimp only); exact .inl ⟨rfl, rfl, rfl⟩) (by simp <;> omega) (by simp) (by simp) ?_
  intro ⟨j, b', l'⟩ u w hI ih
  try simp only at hI ih
  rcases hI with ⟨e1, e2, e3⟩ | ⟨e1, e2, e3⟩
  · subst e1 e2 e3
    have hI9 : inI 1 = true := rfl
    simp [c57t]
    refine ATT.callV Tryz.func57 60 [0] [0] (hN.2 b' l' hlen) (by simp) (by simp) (by simp) (by simp) (by simp) (by simp) (by simp) ?_
    simp [c57t, hI9]
    refine ih (1, true, l' ++ txt) (by first | ((try dsimp only); omega) | (simp [hI9] <;> omega)) (by (try dsimp only); exact .inr ⟨rfl, rfl, rfl⟩) _ _ _ (by simp <;> omega) (by simp <;> omega) (by simp [bsV] <;> omega)
  · subst e1 e2 e3
    simp [c57t]
    refine ATT.fin0' hQ Tryz.func57 c57res ?_
    simp
    all_goals (first | omega | exact ⟨_, rfl⟩ | exact ⟨⟨_, rfl⟩, _, rfl⟩ | exact ⟨_, _, _, ⟨rfl, rfl, rfl⟩, _, rfl, rfl, rfl, rfl, rfl⟩ | exact ⟨_, _, _, ⟨rfl, rfl, rfl⟩, _, by omega, rfl, rfl, rfl, rfl⟩ | exact ⟨by omega, _, _, _, ⟨rfl, rfl, rfl⟩, _, by omega, rfl, rfl, rfl, rfl⟩ | skip)
theorem f61_one (n : Nat) (a0 : Nat) (m0 : Bool) (z0 : Nat) (k : Int) (t : ByteArray) (a : Nat) (m : Bool) (z : Nat) (m2 : Bool) (z2 : Nat) (ds : List D) (txt : List UInt8) (hN : WR n 33 [ND k t a m z (.sl m2 z2 ds)] txt) : WR n 61 [ND 12 ⟨#[]⟩ a0 m0 z0 (.sl false 6 [ND k t a m z (.sl m2 z2 ds)])] txt := by
  refine ⟨hN.1, fun b l hlen => ?_⟩
  have hL := (f57_one n k t a m z m2 z2 ds ⟨#[46, 32]⟩ txt hN).2 b l hlen
  refine AF.start' 60 Tryz.func61 rfl rfl c61call c61ok fun Q hQ => ?_
  simp [c61c, c61t]
  refine ATT.callV Tryz.func61 60 [0] [0] (hL) (by simp) (by simp) (by simp) (by simp) (by simp) (by simp) (by simp) ?_
  simp
  refine ATT.fin0' hQ Tryz.func61 c61res ?_
  simp
  all_goals (first | omega | exact ⟨_, rfl⟩ | exact ⟨⟨_, rfl⟩, _, rfl⟩ | exact ⟨_, _, _, ⟨rfl, rfl, rfl⟩, _, rfl, rfl, rfl, rfl, rfl⟩ | exact ⟨_, _, _, ⟨rfl, rfl, rfl⟩, _, by omega, rfl, rfl, rfl, rfl⟩ | exact ⟨by omega, _, _, _, ⟨rfl, rfl, rfl⟩, _, by omega, rfl, rfl, rfl, rfl⟩ | skip)
theorem f62_no (a0 : Nat) (m0 : Bool) (z0 : Nat) (m2 : Bool) (z2 : Nat) (ds : List D) (b : Bool) (l : List UInt8) : VF Tryz.prog 62 [.ptr 0 0, .d (ND 12 ⟨#[]⟩ a0 m0 z0 (.sl m2 z2 ds))] [BB 0 0 71 b l] [BV 5 0 l] (.d (.tup [])) [BB 0 0 71 b l] [BV 5 0 l] := by
  refine AF.start' 60 Tryz.func62 rfl rfl c62call c62ok fun Q hQ => ?_
  simp [c62c, c62t]
  refine ATT.fin0' hQ Tryz.func62 c62res ?_
  simp
  all_goals (first | omega | exact ⟨_, rfl⟩ | exact ⟨⟨_, rfl⟩, _, rfl⟩ | exact ⟨_, _, _, ⟨rfl, rfl, rfl⟩, _, rfl, rfl, rfl, rfl, rfl⟩ | exact ⟨_, _, _, ⟨rfl, rfl, rfl⟩, _, by omega, rfl, rfl, rfl, rfl⟩ | exact ⟨by omega, _, _, _, ⟨rfl, rfl, rfl⟩, _, by omega, rfl, rfl, rfl, rfl⟩ | skip)
theorem f33_unit (n : Nat) (a0 : Nat) (m0 : Bool) (z0 : Nat) (k : Int) (t : ByteArray) (a : Nat) (m : Bool) (z : Nat) (m2 : Bool) (z2 : Nat) (ds : List D) (txt : List UInt8) (hN : WR n 33 [ND k t a m z (.sl m2 z2 ds)] txt) : WR n 33 [ND 12 ⟨#[]⟩ a0 m0 z0 (.sl false 6 [ND k t a m z (.sl m2 z2 ds)])] txt := by
  refine ⟨hN.1, fun b l hlen => ?_⟩
  have hL := (f61_one n a0 m0 z0 k t a m z m2 z2 ds txt hN).2 b l hlen
  refine AF.start' 60 Tryz.func33 rfl rfl c33call c33ok fun Q hQ => ?_
  simp [c33c, c33t]
  refine ATT.callV Tryz.func33 60 [0] [0] (f62_no a0 m0 z0 false 6 [ND k t a m z (.sl m2 z2 ds)] b l) (by simp) (by simp) (by simp) (by simp) (by simp) (by simp) (by simp) ?_
  simp [c33t]
  refine ATT.callV Tryz.func33 60 [0] [0] (hL) (by simp) (by simp) (by simp) (by simp) (by simp) (by simp) (by simp) ?_
  simp
  refine ATT.fin0' hQ Tryz.func33 c33res ?_
  simp
  all_goals (first | omega | exact ⟨_, rfl⟩ | exact ⟨⟨_, rfl⟩, _, rfl⟩ | exact ⟨_, _, _, ⟨rfl, rfl, rfl⟩, _, rfl, rfl, rfl, rfl, rfl⟩ | exact ⟨_, _, _, ⟨rfl, rfl, rfl⟩, _, by omega, rfl, rfl, rfl, rfl⟩ | exact ⟨by omega, _, _, _, ⟨rfl, rfl, rfl⟩, _, by omega, rfl, rfl, rfl, rfl⟩ | skip)
theorem f22_unit (a0 : Nat) (m0 : Bool) (z0 : Nat) (k : Int) (t : ByteArray) (a : Nat) (m : Bool) (z : Nat) (m2 : Bool) (z2 : Nat) (ds : List D) (txt : List UInt8) (hN : WR 0 33 [ND k t a m z (.sl m2 z2 ds)] txt) : DF Tryz.prog 22 [ND 12 ⟨#[]⟩ a0 m0 z0 (.sl false 6 [ND k t a m z (.sl m2 z2 ds)])] (.str ⟨txt.toArray⟩) := by
  have hL := (f33_unit 0 a0 m0 z0 k t a m z m2 z2 ds txt hN).2 false [] (by simp)
  refine AF.start' 60 Tryz.func22 rfl rfl c22call c22ok fun Q hQ => ?_
  simp [c22c, c22t]
  refine ATT.nilB 1 1 1 5 rfl rfl (by decide) (by simp) ?_
  simp
  refine ATT.callV Tryz.func22 60 [1] [0] (hL) (by simp) (by simp) (by simp) (by simp) (by simp) (by simp) (by simp) ?_
  simp [c22t]
  refine ATT.callV Tryz.func22 60 [1] [0] (f34_ok 71 true txt (by have := hN.1; omega)) (by simp) (by simp) (by simp) (by simp) (by simp) (by simp) (by simp) ?_
  simp
  refine ATT.fin' hQ Tryz.func22 c22res ?_
  simp
  all_goals (first | omega | exact ⟨_, rfl⟩ | exact ⟨⟨_, rfl⟩, _, rfl⟩ | exact ⟨_, _, _, ⟨rfl, rfl, rfl⟩, _, rfl, rfl, rfl, rfl, rfl⟩ | exact ⟨_, _, _, ⟨rfl, rfl, rfl⟩, _, by omega, rfl, rfl, rfl, rfl⟩ | exact ⟨by omega, _, _, _, ⟨rfl, rfl, rfl⟩, _, by omega, rfl, rfl, rfl, rfl⟩ | skip)
end Go.SL
namespace Go.SL
open Go.Proofs
set_option maxRecDepth 10000
def skipF (p : Int → Bool) (s : ByteArray) : Nat → Nat → Nat
  | 0, i => i
  | n + 1, i => if i < s.size then (if p (sbyte s i) then skipF p s n (i + 1) else i) else i
theorem skip_eq (p : Int → Bool) (s : ByteArray) : ∀ n i, s.size ≤ n + i → skipS p s i = skipF p s n i
  | 0, i, h => by rw [skipS, dif_neg (by omega)]; rfl
  | n + 1, i, h => by
    rw [skipS]
    simp only [skipF]
    split
    · split
      · exact skip_eq p s n (i + 1) (by omega)
      · rfl
    · rfl
theorem skip_is {p : Int → Bool} {s : ByteArray} {i j : Nat} (n : Nat) (h : s.size ≤ n + i) (e : skipF p s n i = j) : skipS p s i = j := (skip_eq p s n i h).trans e
theorem name_is {s : ByteArray} {i j : Nat} (n : Nat) (hl : (decide (i < s.size) && letterS (sbyte s i)) = true) (h : s.size ≤ n + i) (e : skipF identS s n i = j) : nameS s i = j := by
  unfold nameS; rw [if_pos hl]; exact skip_is n h e
theorem lex_word {num : ByteArray → Bool} {s : ByteArray} {i j k e : Nat} {t : ByteArray} {l : List Tk} (hj : skipS blankS s i = j) (hb : j < s.size) (hq : ¬ sbyte s j = 34) (hw : wordS num s j = some ((k : Int), t, e)) (he : j < e) (hl : lexS num s e = .inl l) : lexS num s i = .inl (⟨k, t, j⟩ :: l) := by
  rw [lexS_eq, hj, if_pos hb, if_neg hq, hw]
  simp only [if_pos he, hl]
theorem lex_end {num : ByteArray → Bool} {s : ByteArray} {i : Nat} (hj : skipS blankS s i = s.size) : lexS num s i = .inl [⟨0, ⟨#[]⟩, s.size⟩] := by
  rw [lexS_eq, hj, if_neg (Nat.lt_irrefl _)]
theorem word_name {num : ByteArray → Bool} {s : ByteArray} {i e : Nat} {t : ByteArray} (h : letterS (sbyte s i) = true) (hn : nameS s i = e) (hc : colonS s e = false) (ht : subT s i e = t) : wordS num s i = some (((1 : Nat) : Int), t, e) := by
  subst hn ht; simp [wordS, h, hc]
theorem word_key {num : ByteArray → Bool} {s : ByteArray} {i e : Nat} {t : ByteArray} (h : letterS (sbyte s i) = true) (hn : nameS s i = e) (hc : colonS s e = true) (ht : subT s i (e + 1) = t) : wordS num s i = some (((2 : Nat) : Int), t, e + 1) := by
  subst hn ht; simp [wordS, h, hc]
theorem word_num {num : ByteArray → Bool} {s : ByteArray} {i e : Nat} {t : ByteArray} (h : letterS (sbyte s i) = false) (h2 : digitS (sbyte s i) = true) (hn : skipS digitS s i = e) (ht : subT s i e = t) (hm : num t = true) : wordS num s i = some (((4 : Nat) : Int), t, e) := by
  subst hn ht; simp [wordS, h, h2, hm]
theorem word_sign {num : ByteArray → Bool} {s : ByteArray} {i e : Nat} {t : ByteArray} (h : letterS (sbyte s i) = false) (h2 : digitS (sbyte s i) = false) (h3 : ¬ sbyte s i = 39) (h4 : ¬ sbyte s i = 35) (h5 : ¬ sbyte s i = 58) (h6 : signS (sbyte s i) = true) (hn : signsS s i = e) (ht : subT s i e = t) : wordS num s i = some (((3 : Nat) : Int), t, e) := by
  subst hn ht; simp [wordS, h, h2, h3, h4, h5, h6]
theorem word_one {num : ByteArray → Bool} {s : ByteArray} {i k : Nat} {t : ByteArray} (h : letterS (sbyte s i) = false) (h2 : digitS (sbyte s i) = false) (h3 : ¬ sbyte s i = 39) (h4 : ¬ sbyte s i = 35) (h5 : ¬ sbyte s i = 58) (h6 : signS (sbyte s i) = false) (hp : placeS (sbyte s i) singlesT 0 = (k : Int)) (ht : subT s i (i + 1) = t) : wordS num s i = some (((8 + k : Nat) : Int), t, i + 1) := by
  subst ht; simp [wordS, h, h2, h3, h4, h5, h6, hp]
def src1 : ByteArray := ⟨#[97, 32, 98, 32, 43, 32, 50, 32, 102, 111, 111, 58, 32, 51]⟩
def src2 : ByteArray := ⟨#[97, 32, 93]⟩
theorem sg43 : signS (sbyte src1 (4 : Nat)) = true := by rw [show sbyte src1 (4 : Nat) = 43 by decide]; unfold signS; rw [placeS_L _ _ _ 0 rfl]; decide
theorem sg32 : signS (sbyte src1 (5 : Nat)) = false := by rw [show sbyte src1 (5 : Nat) = 32 by decide]; unfold signS; rw [placeS_L _ _ _ 0 rfl]; decide
theorem sg93 : signS (sbyte src2 (2 : Nat)) = false := by rw [show sbyte src2 (2 : Nat) = 93 by decide]; unfold signS; rw [placeS_L _ _ _ 0 rfl]; decide
theorem sgs : signsS src1 4 = 5 := by
  unfold signsS
  rw [sg43, show sbyte src1 (4 + 1 : Nat) = sbyte src1 (5 : Nat) from rfl, sg32]
  decide
theorem lex1 : lexS numS src1 0 = .inl [⟨1, ⟨#[97]⟩, 0⟩, ⟨1, ⟨#[98]⟩, 2⟩, ⟨3, ⟨#[43]⟩, 4⟩, ⟨4, ⟨#[50]⟩, 6⟩, ⟨2, ⟨#[102, 111, 111, 58]⟩, 8⟩, ⟨4, ⟨#[51]⟩, 13⟩, ⟨0, ⟨#[]⟩, 14⟩] :=
  lex_word (k := 1) (skip_is 20 (by decide) rfl) (by decide) (by decide) (word_name (by decide) (name_is 20 (by decide) (by decide) rfl) (by decide) rfl) (by decide)
  (lex_word (k := 1) (skip_is 20 (by decide) rfl) (by decide) (by decide) (word_name (by decide) (name_is 20 (by decide) (by decide) rfl) (by decide) rfl) (by decide)
  (lex_word (k := 3) (skip_is 20 (by decide) rfl) (by decide) (by decide) (word_sign (by decide) (by decide) (by decide) (by decide) (by decide) sg43 sgs rfl) (by decide)
  (lex_word (k := 4) (skip_is 20 (by decide) rfl) (by decide) (by decide) (word_num (by decide) (by decide) (skip_is 20 (by decide) rfl) rfl (by decide)) (by decide)
  (lex_word (k := 2) (skip_is 20 (by decide) rfl) (by decide) (by decide) (word_key (by decide) (name_is 20 (by decide) (by decide) rfl) (by decide) rfl) (by decide)
  (lex_word (k := 4) (skip_is 20 (by decide) rfl) (by decide) (by decide) (word_num (by decide) (by decide) (skip_is 20 (by decide) rfl) rfl (by decide)) (by decide)
  (lex_end (skip_is 20 (by decide) rfl)))))))
theorem pl1 : placeS (sbyte src2 (2 : Nat)) singlesT 0 = ((3 : Nat) : Int) := by
  rw [show sbyte src2 (2 : Nat) = 93 by decide, placeS_L _ _ _ 0 rfl]; decide
theorem lex2 : lexS numS src2 0 = .inl [⟨1, ⟨#[97]⟩, 0⟩, ⟨11, ⟨#[93]⟩, 2⟩, ⟨0, ⟨#[]⟩, 3⟩] :=
  lex_word (k := 1) (skip_is 20 (by decide) rfl) (by decide) (by decide) (word_name (by decide) (name_is 20 (by decide) (by decide) rfl) (by decide) rfl) (by decide)
  (lex_word (k := 11) (skip_is 20 (by decide) rfl) (by decide) (by decide) (word_one (k := 3) (by decide) (by decide) (by decide) (by decide) (by decide) sg93 pl1 rfl) (by decide)
  (lex_end (skip_is 20 (by decide) rfl)))
def nd1 : Nd := .mk 7 ⟨#[98]⟩ 2 0 [] [.mk 5 ⟨#[97]⟩ 0 0 [] []]
def nd2 : Nd := .mk 7 ⟨#[43]⟩ 4 0 [] [nd1, .mk 1 ⟨#[50]⟩ 6 0 [] []]
def nd3 : Nd := .mk 7 ⟨#[102, 111, 111, 58]⟩ 8 0 [] [nd2, .mk 1 ⟨#[51]⟩ 13 0 [] []]
theorem parse1 : ∃ l, parseD numS false src1 = .ok (.mk 12 ⟨#[]⟩ 0 0 [] [nd3]) l := by
  unfold parseD
  rw [if_neg (by decide), lex1]
  exact ⟨[⟨0, ⟨#[]⟩, 14⟩], by kernel_rfl⟩
theorem parse2 : parseD numS false src2 = .no 2 20 := by
  unfold parseD
  rw [if_neg (by decide), lex2]
  kernel_rfl
theorem NdR.nd {k : Int} {t : ByteArray} {a : Nat} {kids : List Nd} {u : D} (h : NdR (.mk k t a 0 [] kids) u) : ∃ m z m2 z2 ds, u = ND k t a m z (.sl m2 z2 ds) ∧ (m2 = true → kids = []) ∧ (m2 = false → z2 = 6) ∧ NdRL kids ds := by
  simp only [NdR] at h
  obtain ⟨nl1, z1, nl2, z2, ds, e, _, _, h3, h4, h5⟩ := h
  exact ⟨nl1, z1, nl2, z2, ds, e, h3, h4, h5⟩
theorem NdR.nd1 {k : Int} {t : ByteArray} {a : Nat} {x : Nd} {u : D} (h : NdR (.mk k t a 0 [] [x]) u) : ∃ m z d, u = ND k t a m z (.sl false 6 [d]) ∧ NdR x d := by
  obtain ⟨m, z, m2, z2, ds, e, h1, h2, h3⟩ := h.nd
  simp only [NdRL] at h3
  obtain ⟨d, l, e2, hx, e3⟩ := h3
  subst e2 e3
  cases m2 with
  | true => cases h1 rfl
  | false => have := h2 rfl; subst this; exact ⟨m, z, d, e, hx⟩
theorem NdR.nd2 {k : Int} {t : ByteArray} {a : Nat} {x y : Nd} {u : D} (h : NdR (.mk k t a 0 [] [x, y]) u) : ∃ m z d d2, u = ND k t a m z (.sl false 6 [d, d2]) ∧ NdR x d ∧ NdR y d2 := by
  obtain ⟨m, z, m2, z2, ds, e, h1, h2, h3⟩ := h.nd
  simp only [NdRL] at h3
  obtain ⟨d, l, e2, hx, d2, l2, e3, hy, e4⟩ := h3
  subst e2 e3 e4
  cases m2 with
  | true => cases h1 rfl
  | false => have := h2 rfl; subst this; exact ⟨m, z, d, d2, e, hx, hy⟩
theorem bb : boundN ⟨#[98]⟩ = 2 := by
  unfold boundN plainB
  rw [name_is (s := ⟨#[98]⟩) (i := 0) (j := 1) 20 (by decide) (by decide) rfl]; decide
theorem bp : boundN ⟨#[43]⟩ = 1 := by unfold boundN plainB; decide
theorem bf : boundN ⟨#[102, 111, 111, 58]⟩ = 0 := by
  unfold boundN plainB
  rw [name_is (s := ⟨#[102, 111, 111, 58]⟩) (i := 0) (j := 3) 20 (by decide) (by decide) rfl, name_is (s := ByteArray.extract ⟨#[102, 111, 111, 58]⟩ 0 1) (i := 0) (j := 1) 20 (by decide) (by decide) rfl]; decide
theorem text1 {u : D} (h : NdR (.mk 12 ⟨#[]⟩ 0 0 [] [nd3]) u) : DF Tryz.prog 22 [u] (.str src1) := by
  obtain ⟨m0, z0, d3, e, h3⟩ := h.nd1
  subst e
  unfold nd3 at h3
  obtain ⟨m3, z3, d2, e5, e, h2, h5⟩ := h3.nd2
  subst e
  unfold nd2 at h2
  obtain ⟨m2, z2, d1, e4, e, h1, h4⟩ := h2.nd2
  subst e
  unfold nd1 at h1
  obtain ⟨m1, z1, da, e, ha⟩ := h1.nd1
  subst e
  obtain ⟨ma, za, ma2, za2, dsa, e, _⟩ := ha.nd
  subst e
  obtain ⟨mb, zb, mb2, zb2, dsb, e, _⟩ := h4.nd
  subst e
  obtain ⟨mc, zc, mc2, zc2, dsc, e, _⟩ := h5.nd
  subst e
  have w1 : WR 0 33 [ND 7 ⟨#[98]⟩ 2 m1 z1 (.sl false 6 [ND 5 ⟨#[97]⟩ 0 ma za (.sl ma2 za2 dsa)])] ([97] ++ (32 :: [98])) :=
    f33_send 0 ⟨#[98]⟩ 2 m1 z1 5 ⟨#[97]⟩ 0 ma za ma2 za2 dsa [] _ _
      (f59_ok 0 5 ⟨#[97]⟩ 0 ma za ma2 za2 dsa 2 _ ⟨#[98]⟩ 2 (by decide) (by decide) bb (f116_name _ _ _ _ _ _ _) (by decide) (f33_name 0 ⟨#[97]⟩ 0 ma za ma2 za2 dsa (by decide)))
      (f60_name 1 ⟨#[98]⟩ false 6 [] (by decide) bb (by decide))
  have l1 := f116_send ⟨#[98]⟩ 2 m1 z1 false 6 [ND 5 ⟨#[97]⟩ 0 ma za (.sl ma2 za2 dsa)] (by decide) (by decide)
  rw [bb] at l1
  have w2 : WR 0 33 [ND 7 ⟨#[43]⟩ 4 m2 z2 (.sl false 6 [ND 7 ⟨#[98]⟩ 2 m1 z1 (.sl false 6 [ND 5 ⟨#[97]⟩ 0 ma za (.sl ma2 za2 dsa)]), ND 1 ⟨#[50]⟩ 6 mb zb (.sl mb2 zb2 dsb)])] (([97] ++ (32 :: [98])) ++ (32 :: [43] ++ 32 :: [50])) :=
    f33_send 0 ⟨#[43]⟩ 4 m2 z2 7 ⟨#[98]⟩ 2 m1 z1 false 6 _ _ _ _
      (f59_ok 0 7 ⟨#[98]⟩ 2 m1 z1 false 6 _ 2 _ ⟨#[43]⟩ 1 (by decide) (by decide) bp l1 (by decide) w1)
      (f60_sign 3 ⟨#[43]⟩ 1 ⟨#[50]⟩ 6 mb zb mb2 zb2 dsb _ (by decide) bp (by decide)
        (f88_ok _ 1 ⟨#[50]⟩ 6 mb zb mb2 zb2 dsb 2 2 _ (f116_num _ _ _ _ _ _ _) (by decide) (f33_num _ ⟨#[50]⟩ 6 mb zb mb2 zb2 dsb (by decide))))
  have l2 := f116_send ⟨#[43]⟩ 4 m2 z2 false 6 [ND 7 ⟨#[98]⟩ 2 m1 z1 (.sl false 6 [ND 5 ⟨#[97]⟩ 0 ma za (.sl ma2 za2 dsa)]), ND 1 ⟨#[50]⟩ 6 mb zb (.sl mb2 zb2 dsb)] (by decide) (by decide)
  rw [bp] at l2
  have w3 := f33_send 0 ⟨#[102, 111, 111, 58]⟩ 8 m3 z3 7 ⟨#[43]⟩ 4 m2 z2 false 6 _ _ _ _
      (f59_ok 0 7 ⟨#[43]⟩ 4 m2 z2 false 6 _ 1 _ ⟨#[102, 111, 111, 58]⟩ 0 (by decide) (by decide) bf l2 (by decide) w2)
      (f60_key 7 ⟨#[102, 111, 111, 58]⟩ 1 ⟨#[51]⟩ 13 mc zc mc2 zc2 dsc _ (by decide) bf (by decide) (by decide)
        (f88_ok _ 1 ⟨#[51]⟩ 13 mc zc mc2 zc2 dsc 2 1 _ (f116_num _ _ _ _ _ _ _) (by decide) (f33_num _ ⟨#[51]⟩ 13 mc zc mc2 zc2 dsc (by decide))))
  exact f22_unit 0 m0 z0 7 _ 8 m3 z3 false 6 _ _ w3
end Go.SL
namespace Go.SL
open Go.Proofs
set_option maxRecDepth 10000
theorem args1 : argsN ⟨#[97, 116, 58, 112, 117, 116, 58]⟩ = 2 := by
  unfold argsN plainB
  rw [name_is (s := ⟨#[97, 116, 58, 112, 117, 116, 58]⟩) (i := 0) (j := 2) 20 (by decide) (by decide) rfl, name_is (s := ByteArray.extract ⟨#[97, 116, 58, 112, 117, 116, 58]⟩ 0 1) (i := 0) (j := 1) 20 (by decide) (by decide) rfl]; decide
theorem args2 : argsN ⟨#[43]⟩ = 1 := by unfold argsN plainB; decide
theorem args3 : argsN ⟨#[102, 111, 111]⟩ = 0 := by
  unfold argsN plainB
  rw [name_is (s := ⟨#[102, 111, 111]⟩) (i := 0) (j := 3) 20 (by decide) (by decide) rfl]; decide
theorem f12_ok : DF Tryz.prog 12 [] (.bool true) := by
  have hP1 : DE Tryz.prog 8 [.str ⟨#[97, 32, 98, 32, 43, 32, 50, 32, 102, 111, 111, 58, 32, 51]⟩] (UnR (parseD numS false src1)) := f8_ok hWhole src1 (by decide)
  have hP2 : DE Tryz.prog 8 [.str ⟨#[97, 32, 93]⟩] (UnR (parseD numS false src2)) := f8_ok hWhole src2 (by decide)
  have hA1 := f13_ok ⟨#[97, 116, 58, 112, 117, 116, 58]⟩ (by decide)
  have hA2 := f13_ok ⟨#[43]⟩ (by decide)
  have hA3 := f13_ok ⟨#[102, 111, 111]⟩ (by decide)
  rw [args1] at hA1
  rw [args2] at hA2
  rw [args3] at hA3
  refine AF.start' 60 Tryz.func12 rfl rfl c12call c12ok fun Q hQ => ?_
  simp [c12c, c12t]
  refine ATT.callE Tryz.func12 60 hP1 (by simp) (by simp) (by simp) fun v hv => ?_
  obtain ⟨l, hp⟩ := parse1
  rw [hp] at hv
  obtain ⟨u, e, hu⟩ := hv
  subst e
  have hT : DF Tryz.prog 22 [u] (.str ⟨#[97, 32, 98, 32, 43, 32, 50, 32, 102, 111, 111, 58, 32, 51]⟩) := text1 hu
  obtain ⟨m, z, d, e, _⟩ := hu.nd1
  subst e
  simp [c12t]
  refine ATT.callE Tryz.func12 60 hP2 (by simp) (by simp) (by simp) fun v hv => ?_
  rw [parse2] at hv
  have hv' : v = _ := hv
  subst hv'
  simp [c12t]
  refine ATT.callD Tryz.func12 60 (hT) (by simp) (by simp) (by simp) ?_
  simp
  refine ATT.callD Tryz.func12 60 (hA1) (by simp) (by simp) (by simp) ?_
  simp
  refine ATT.callD Tryz.func12 60 (hA2) (by simp) (by simp) (by simp) ?_
  simp
  refine ATT.callD Tryz.func12 60 (hA3) (by simp) (by simp) (by simp) ?_
  simp
  refine ATT.fin' hQ Tryz.func12 c12res ?_
  simp
  all_goals (first | omega | exact ⟨_, rfl⟩ | exact ⟨⟨_, rfl⟩, _, rfl⟩ | exact ⟨_, _, _, ⟨rfl, rfl, rfl⟩, _, rfl, rfl, rfl, rfl, rfl⟩ | exact ⟨_, _, _, ⟨rfl, rfl, rfl⟩, _, by omega, rfl, rfl, rfl, rfl⟩ | exact ⟨by omega, _, _, _, ⟨rfl, rfl, rfl⟩, _, by omega, rfl, rfl, rfl, rfl⟩ | skip)
theorem f4_ok (s : ByteArray) (hs : s.size ≤ 1048576) : DF Tryz.prog 4 [.str s] (.bool true) := by
  refine AF.start' 60 Tryz.func4 rfl rfl c4call c4ok fun Q hQ => ?_
  simp [c4c, c4t]
  refine ATT.callD Tryz.func4 60 (f13_ok s (by omega)) (by simp) (by simp) (by simp) ?_
  simp
  refine ATT.callD Tryz.func4 60 (f14_ok s (by omega)) (by simp) (by simp) (by simp) ?_
  simp
  refine ATT.callD Tryz.func4 60 (f12_ok) (by simp) (by simp) (by simp) ?_
  simp
  refine ATT.fin' hQ Tryz.func4 c4res ?_
  simp
  all_goals (first | omega | exact ⟨_, rfl⟩ | exact ⟨⟨_, rfl⟩, _, rfl⟩ | exact ⟨_, _, _, ⟨rfl, rfl, rfl⟩, _, rfl, rfl, rfl, rfl, rfl⟩ | exact ⟨_, _, _, ⟨rfl, rfl, rfl⟩, _, by omega, rfl, rfl, rfl, rfl⟩ | exact ⟨by omega, _, _, _, ⟨rfl, rfl, rfl⟩, _, by omega, rfl, rfl, rfl, rfl⟩ | skip)
end Go.SL
namespace Go.Proofs.YtgggkjbdlddbkaaGreatDoor
open Go.ChangeShapes Go.WideShapes Go.ChangeAt Go.RowKit Go.ChangeMaps
namespace treeArgs
theorem own : ownKnob Tryz.prog.godebug = none := by kernel_rfl
set_option maxRecDepth 100000 in
theorem contract (law : ∀ s : ByteArray, s.size ≤ 1048576 → SL.DF Tryz.prog 4 [.str s] (.bool true)) (H : Type) (enc : TypeId × Value → H) (W : World) (base : Nat) (args : Array Value) (ds gs : List (DataW H)) (before : List MemPlace)
    (hval : ∀ (j : Nat) t v, Tryz.f4.params[j]? = some t → args[j]? = some v → Value.okWide Tryz.prog W .any base t v)
    (hW : DataW.Whole enc Tryz.prog Tryz.f4.params.toList Rows.treeArgsSpec.vars false W args.toList ds gs before) (hk : Rows.uptoSmall H (ds ++ gs) = true) :
    Calls Tryz.prog 4 args W fun e W' => ∃ v, e = .returned v ∧ Rows.treeArgsSpec.post enc Tryz.prog Tryz.f4 false true false false W args v W' := by
  have hW' := hW
  obtain ⟨p, q, hA0, hV, rfl, hfz, hnd⟩ := hW
  have hA : DataW.TrodAll enc Tryz.prog W 0 (fun _ => true) true Tryz.f4.params.toList args.toList ds p := hA0
  rw [Tryz.params4] at hA hval
  obtain ⟨v0, vs0, d0, ds0, p0, q0, hargs, rfl, rfl, h0, r0⟩ := trodAll_cons hA
  obtain ⟨rfl, rfl, rfl⟩ := trodAll_nil r0
  obtain rfl : args = #[v0] := by cases args; simp_all
  obtain ⟨rfl, rfl⟩ := trodVars_none hV
  obtain ⟨s, rfl, rfl, rfl, hs⟩ := open_string Tryz.underlying9 (hval 0 9 v0 (by simp) (by simp)) h0
  clear hA0
  have hb : s.size ≤ 1048576 := by
    simp [Rows.uptoSmall, Rows.uptoBulkAll, Rows.uptoBulk] at hk
    have : s.data.toList.length = s.size := rfl
    simp at this
    omega
  refine ((law s hb).world (argv := [.string s]) (by simp [SL.VL, SL.VR, SL.DR])).mono fun e W' ⟨he, hg⟩ => ?_
  subst he
  simp only [List.append_nil] at hW'
  exact ⟨_, rfl, SL.post_plain hW' (fun _ _ _ => trodAll_cons_mk (SL.shut_boolP Tryz.underlying4 _) trodAll_mk0) (fun _ => trodAll_cons_mk (SL.shut_stringP Tryz.underlying9 hs) trodAll_mk0) (fun _ => rfl) hg (ok_one (by kernel_rfl) rfl (okWide_bool_mk Tryz.underlying4 _))⟩
theorem laid_met (os : Os) : laidMetH Tryz.prog Rows.treeArgsUptoRow.laid ((World.laidAll Tryz.prog os Rows.treeArgsUptoRow.laid).forCall (fun _ _ => 0) ⟨#[], #[.string ⟨#[]⟩], []⟩).memory := by
  rw [MakeChecks.laidMetH_plain _ _ _ (by kernel_rfl)]
  exact laidMet_laidAll _ (by kernel_rfl) (by kernel_rfl)
theorem reads (os : Os) {H : Type} (enc : TypeId × Value → H) : ∃ places, DataW.whole enc Tryz.prog ((World.laidAll Tryz.prog os Rows.treeArgsUptoRow.laid).forCall (fun _ _ => 0) ⟨#[], #[.string ⟨#[]⟩], []⟩).memory Tryz.f4.params.toList Rows.treeArgsSpec.vars false #[Value.string ⟨#[]⟩].toList 8 = some ([.lit (.string [])], [], places) :=
  ⟨[], by kernel_rfl⟩
set_option maxRecDepth 100000 in
theorem lifted (law : ∀ s : ByteArray, s.size ≤ 1048576 → SL.DF Tryz.prog 4 [.str s] (.bool true)) (os : Os) (started : os.Started) (H : Type) (enc : TypeId × Value → H) (F : Stop.Interp) :
    ReturnsInHanded {} Tryz.checked os 4 .any ((Rows.OpenSpec.upto Rows.treeArgsSpec).preRow enc Tryz.prog Tryz.f4 Rows.treeArgsUptoRow.domain false Rows.treeArgsUptoRow.laid) (((Rows.OpenSpec.upto Rows.treeArgsSpec).at F).post enc Tryz.prog Tryz.f4 false true false false) := by
  obtain ⟨places, hx⟩ := reads os enc
  refine returnsInHanded_of_row (C := Tryz.checked) (s := Rows.OpenSpec.upto Rows.treeArgsSpec) own started (by kernel_rfl) Tryz.func4
    (witness_row_at (enc := enc) (C := Tryz.checked) false (World.laidAll Tryz.prog os Rows.treeArgsUptoRow.laid) #[.string ⟨#[]⟩] (World.laidAll_os _ _ _) (by kernel_rfl) (by kernel_rfl) (by kernel_rfl)
      (OpenSpec.preRow_of_cond 8 hx (by kernel_rfl) (fun k hk => by cases hk; kernel_rfl) (by kernel_rfl) (laid_met os))) ?_
  intro W base args ds gs before hval hW _ hcond _ _ _ _
  exact contract law H enc W base args ds gs before hval hW (hcond _ rfl)
theorem saidUpto (law : ∀ s : ByteArray, s.size ≤ 1048576 → SL.DF Tryz.prog 4 [.str s] (.bool true)) : Rows.TreeArgsUptoSaid :=
  OpenClaim.holds_of_cond 4 Tryz.f4 rfl rfl rfl rfl rfl rfl rfl ⟨rfl, rfl, rfl, rfl, rfl⟩ rfl rfl rfl rfl rfl (by kernel_rfl) Tryz.func4 (by kernel_rfl)
    (of_decide_eq_true (by kernel_rfl)) (by unfold Func.isWrapper; first | (rw [if_pos (by decide +kernel)]; kernel_rfl) | (rw [if_neg (by decide +kernel)]; exact ⟨rfl, rfl⟩))
    (fun os started H enc _ F => by rw [OpenClaim.pre_eq_preRow]; exact lifted law os started H enc F)
theorem plain (f : FuncId) (fn : Func) (hf : Tryz.pinned.checked.prog.funcNamed "lapidary/lapidarylaw08.TreeArgs" = some f) (hfn : Tryz.pinned.checked.prog.funcs[f]? = some fn) :
    true = Tryz.pinned.checked.prog.looks [] ∧ ∀ (j : Nat) t, fn.params[j]? = some t → Tryz.pinned.checked.prog.wantsStandIn t = false := by
  obtain rfl : f = 4 := Option.some.inj ((show Tryz.prog.funcNamed "lapidary/lapidarylaw08.TreeArgs" = some 4 by kernel_rfl).symm.trans hf) |>.symm
  obtain rfl : fn = Tryz.f4 := (Option.some.inj (Tryz.func4.symm.trans hfn)).symm
  refine ⟨by kernel_rfl, fun j t ht => ?_⟩
  rw [Tryz.params4] at ht
  obtain rfl : t = 9 := by simpa using Array.mem_of_getElem? ht
  exact (show Tryz.prog.wantsStandIn 9 = false by kernel_rfl)
theorem cardUpto (law : ∀ s : ByteArray, s.size ≤ 1048576 → SL.DF Tryz.prog 4 [.str s] (.bool true)) : Rows.TreeArgsUptoCardSaid :=
  Claim7.holds_tied_plain_at .later [] _ _ _ _ (saidUpto law) (fun _ h => by cases h) (by kernel_rfl) (fun _ h => by cases h) treeArgsUpto_row_tie rfl ⟨rfl, rfl⟩ (by kernel_rfl) rfl plain (by kernel_rfl)
end treeArgs
theorem treeArgs_holds : Rows.TreeArgsUptoCardSaid := treeArgs.cardUpto fun s hs => SL.f4_ok s hs
end Go.Proofs.YtgggkjbdlddbkaaGreatDoor
