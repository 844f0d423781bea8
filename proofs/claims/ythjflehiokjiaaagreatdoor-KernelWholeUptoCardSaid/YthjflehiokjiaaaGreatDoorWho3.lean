/- KernelWhole: the first commit can be, and names no object that it does not make: for every number. Part 4. -/
import Derived.Test.YthjflehiokjiaaaGreatDoorWho2
namespace Go.SL
open Go.Proofs
set_option maxRecDepth 10000
theorem upH_out {h hC : H} {rb rv : List Nat} {kb kv i : Nat} (hi : i ∉ rb) (hl : i < h.bx.length) : (upH h hC rb rv kb kv).bx[i]? = h.bx[i]? := by
 simp only [upH]
 rw [List.getElem?_append_left (by rw [setAll_length]; exact hl)]
 exact setAll_out _ _ _ _ hi
section
variable {N : Nat} {f : FD} {Q : Out → H → Prop}
theorem ATT.callPv {α : Type} {Φ : α → D → Prop} {fn : Func} (hf : Tryz.prog.funcs[f.fn]? = some fn) {ix : Nat} {dst : Option Nat} {g : Opd} {args : List Opd} {kill : List Nat} {r : List AI} {k : List AItem} {env : Env} {h : H} {ob : Bool} {fid : FuncId} {l : List Tk} {d : Nat} {res : Res α} {argsC : List V}
  (n j : Nat) (hAF : AF Tryz.prog fid argsC ⟨[PB l d], []⟩ (PR Φ d res)) (hr : res ≠ .out) (hc : calls (ev env g) (args.map (ev env)) = some (fid, rns [j] [] argsC)) (hsc : insc 1 0 argsC = true) (hj : h.bx[j]? = some (PB l d)) (ho : ob = true)
  (hno : ∀ a w, res = .no a w → ∀ h' : H, (∀ i, i ≠ j → h'.bx[i]? = h.bx[i]?) → h'.bx.length = h.bx.length → h.vc.length ≤ h'.vc.length → Q (.pan (stopV a w)) h')
  (hk : ∀ x l' v, res = .ok x l' → Φ x v → ATT Tryz.prog N f Q (goes n (.reg r :: k) (put (dels env kill) dst (.d v)) ⟨h.bx.set j (PB l' d), h.vc⟩ true)) (hkp : subE env f.keep := by exact True.intro) : ATT Tryz.prog N f Q (.reg (⟨ix, dst, .call g args, none, kill⟩ :: r) :: k, env, h, ob) := by
 refine ATT.callA hf n [j] [] 0 0 hAF trivial hc (by simp [hj]) hsc ho (fun out hC hE => ?_) hkp
 cases hres : res with
 | ok x l' =>
  rw [hres] at hE
  obtain ⟨v, b, c, e1, e2, hφ⟩ := hE
  subst e1 e2
  refine ⟨by simp, ?_⟩
  have := hk x l' v hres hφ
  simpa using this
 | no a w =>
  rw [hres] at hE
  obtain ⟨e1, e2⟩ := hE
  subst e1
  exact ⟨by simpa using e2, by simpa [stopV] using hno a w hres _ (fun i hi => by simp; exact setAll_out _ _ _ _ (by simpa using hi)) (by simp) (by simp)⟩
 | out => exact absurd hres hr
end
abbrev NS (l : List ByteArray) : Option Vec := some ⟨l.isEmpty, 1, 0, l.map fun s => .d (.str s), 9⟩
theorem strs_ds (l : List ByteArray) : (l.map fun s => V.d (.str s)) = (l.map D.str).map .d := by simp
@[simp] theorem rns_strs (rb rv : List Nat) (l : List ByteArray) : rns rb rv (l.map fun s => V.d (.str s)) = l.map fun s => V.d (.str s) := by rw [strs_ds]; exact rns_data rb rv _
@[simp] theorem insc_strs (n m : Nat) (l : List ByteArray) : insc n m (l.map fun s => V.d (.str s)) = true := by rw [strs_ds]; exact insc_data n m _
@[simp] theorem mapD_strs (h : H) (n : Nat) (l : List ByteArray) : mapD (toDv h n) (l.map fun s => V.d (.str s)) = some (l.map .str) := by rw [strs_ds]; exact mapD_d h n _
@[simp] theorem rns_app (rb rv : List Nat) : ∀ a b : List V, rns rb rv (a ++ b) = rns rb rv a ++ rns rb rv b
 | [], b => rfl
 | x :: a, b => by simp only [List.cons_append, rns]; rw [rns_app rb rv a b]
@[simp] theorem insc_app (n m : Nat) : ∀ a b : List V, insc n m (a ++ b) = (insc n m a && insc n m b)
 | [], b => rfl
 | x :: a, b => by simp only [List.cons_append, insc]; rw [insc_app n m a b, Bool.and_assoc]
@[simp] theorem mapD_strs2 (h : H) (n : Nat) (a b : List ByteArray) : mapD (toDv h n) ((a.map fun s => V.d (.str s)) ++ b.map fun s => V.d (.str s)) = some (a.map .str ++ b.map .str) := by
 rw [← List.map_append, mapD_strs, List.map_append]
@[simp] theorem take_two {α β γ : Type} (f : α → γ) (g : β → γ) (a : List α) (b : List β) : List.take (a.length + b.length) (a.map f ++ b.map g) = a.map f ++ b.map g := List.take_of_length_le (by simp)
def BR (names : List ByteArray) (a0 a1 a2 a3 : D) (d : Nat) (r : Res (List ByteArray × List Nd)) (o : Out) (h : H) : Prop := match r with
 | .ok x l => ∃ b c ds, o = .ret (.d (.tup [])) ∧ h = ⟨PB l d :: .cells [.d a0, .d a1, .d a2, .d a3, .vs 0 (names ++ x.1).length 0 (names ++ x.1).length, .vs 1 ds.length 0 ds.length] 75 :: b, NS (names ++ x.1) :: NV 75 ds :: c⟩ ∧ NdRL x.2 ds
 | .no a w => o = .pan (stopV a w) ∧ (∃ cs, h.bx[1]? = some (.cells cs 75) ∧ cs.length = 6) ∧ 2 ≤ h.bx.length ∧ 2 ≤ h.vc.length
 | .out => True
theorem BR.mk {names ts : List ByteArray} {a0 a1 a2 a3 : D} {d : Nat} {l : List Tk} {ks : List Nd} {ds : List D} {x4 x5 : V} {b : List Bx} {v0 v1 : Option Vec} {c : List (Option Vec)} (hds : NdRL ks ds)
  (h4 : x4 = .vs 0 (names ++ ts).length 0 (names ++ ts).length) (h5 : x5 = .vs 1 ds.length 0 ds.length) (h0 : v0 = NS (names ++ ts)) (h1 : v1 = NV 75 ds) :
  BR names a0 a1 a2 a3 d (.ok (ts, ks) l) (.ret (.d (.tup []))) ⟨PB l d :: .cells [.d a0, .d a1, .d a2, .d a3, x4, x5] 75 :: b, v0 :: v1 :: c⟩ := by
 subst h4 h5 h0 h1
 exact ⟨_, _, _, rfl, rfl, hds⟩
def BodyC (n : Nat) : Prop := ∀ d l e names a0 a1 a2 a3, d ≤ 40 → WF l → names.length ≤ 5000 → bodyS n d e l ≠ .out →
 AF Tryz.prog 66 [.ptr 0 0, .ptr 1 0, .d (.int .i64 e)] ⟨[PB l d, .cells [.d a0, .d a1, .d a2, .d a3, .vs 0 names.length 0 names.length, .d (.sl true 0 [])] 75], [NS names]⟩ (BR names a0 a1 a2 a3 d (bodyS n d e l))
def tempsE (P : List ByteArray × List Tk) : Res (List ByteArray) := if kd P.2 = 12 then .ok P.1 P.2.tail else .no (pl P.2) eSyn
theorem tempsS_12 {t : Tk} {l : List Tk} (h : t.k = 12) : tempsS (t :: l) = tempsE (namesS l) := by unfold tempsS tempsE; rw [if_pos (show kd (t :: l) = 12 from h)]; rfl
theorem tempsS_no {t : Tk} {l : List Tk} (h : ¬ t.k = 12) : tempsS (t :: l) = .ok [] (t :: l) := by unfold tempsS; rw [if_neg (show ¬ kd (t :: l) = 12 from h)]
set_option maxHeartbeats 2000000 in
theorem f66_ok (n : Nat) (ihS : ∀ m, m ≤ n → StmtC m) : BodyC (n + 1) := by
 intro d l e names a0 a1 a2 a3 hd hl hnl hin
 obtain ⟨t, r, he⟩ := hl.cons
 subst he
 simp only [bodyS] at hin ⊢
 refine AF.go Tryz.func66 [(3, [oD 13 [(6, [0, 1, 2, 3, 4]), (8, [0, 1, 2, 3, 4]), (9, [0])]]), (7, [[(0, []), (1, []), (2, []), (3, []), (4, []), (5, []), (6, [0, 1, 2, 3, 4, 5]), (7, []), (8, []), (10, []), (11, []), (9, [10, 11]), (12, [8])], [(0, []), (1, []), (2, []), (3, []), (4, []), (5, []), (6, [0, 1, 2, 3, 4, 5]), (7, []), (8, []), (10, []), (11, []), (12, [8]), (9, [10, 11])]])] fun tb TB Q hQ => ?_
 simp [TB]
 refine ATT.callM Tryz.func66 60 [0] (f70_ok t r d) rfl ?_ ?_ ?_ ?_ ?_ ?_
 iterate 5 · simp
 simp
 by_cases h12 : t.k = 12
 ·obtain ⟨t2, l2, he, hl2⟩ := hl.two (by rw [h12]; decide)
  subst he
  have hT := f69_ok t (t2 :: l2) d
  rw [if_neg (by rw [h12]; decide)] at hT
  rw [tempsS_12 h12] at hin hQ
  simp [TB, eq_true h12]
  refine ATT.callM Tryz.func66 60 [0] (hT) rfl ?_ ?_ ?_ ?_ ?_ ?_
  iterate 5 · simp
  simp
  refine ATT.nilB 1 5 6 75 rfl rfl (by decide) (by simp) ?_
  simp
  generalize hP : namesS (t2 :: l2) = P at hin hQ
  refine ATT.loopG 60 rfl (fun ((dn, l) : List ByteArray × List Tk) => l.length) (fun ((dn, l) : List ByteArray × List Tk) => (dn ++ (namesS l).1, (namesS l).2) = P ∧ WF l ∧ dn.length + l.length ≤ 5000) (fun ((dn, l) : List ByteArray × List Tk) => [(0, .ptr 0 0), (1, .ptr 1 0), (2, .d (.int .i64 e))]) (fun ((dn, l) : List ByteArray × List Tk) => [PB l d, .cells [.d a0, .d a1, .d a2, .d a3, .vs 0 (names ++ dn).length 0 (names ++ dn).length, .vs 1 0 0 0] 75]) (fun ((dn, l) : List ByteArray × List Tk) => [NS (names ++ dn), NV 75 []]) (([], t2 :: l2)) (by (try dsimp only); exact ⟨by simpa using hP, hl2, by simpa using hl2.2.2⟩) (by simp <;> omega) (by simp) (by simp) ?_
  intro ⟨dn, l⟩ u w hI ih
  try simp only at hI ih
  obtain ⟨hRk, hwf, hnum⟩ := hI
  obtain ⟨t1, l1, he⟩ := hwf.cons
  subst he
  simp [TB]
  refine ATT.callM Tryz.func66 60 [0] (f70_ok t1 l1 d) rfl ?_ ?_ ?_ ?_ ?_ ?_
  iterate 5 · simp
  simp
  by_cases h1 : t1.k = 1
  ·obtain ⟨t3, l3, he, hl3⟩ := hwf.two (by rw [h1]; decide)
   subst he
   have hT := f69_ok t1 (t3 :: l3) d
   rw [if_neg (by rw [h1]; decide)] at hT
   rw [namesS, if_pos h1] at hRk
   simp only [List.length_cons] at hnum
   have hmul : (names.length + dn.length + 1) * 16 ≤ 140737488355328 := by omega
   simp [eq_true h1]
   refine ATT.callRM Tryz.func66 60 [0] (hT) rfl ?_ ?_ ?_ ?_ ?_ ?_
   iterate 5 · simp [tkD, tokD]
   simp [tkD, tokD, hmul]
   refine ih (dn ++ [t1.t], t3 :: l3) (by first | ((try dsimp only); omega) | (simp <;> omega)) (by (try dsimp only); exact ⟨by simpa using hRk, hl3, by simp; omega⟩) _ _ _ (by simp <;> omega) (by simp <;> omega) (by simp [tkD, tokD] <;> omega)
  ·rw [namesS, if_neg h1] at hRk
   simp only [List.append_nil] at hRk
   subst hRk
   simp [TB, h1]
   by_cases h2 : t1.k = 12
   ·simp only [tempsE, kd_cons, eq_true h2, if_true, Res.andThen, List.tail_cons] at hin hQ
    refine ATT.callM Tryz.func66 60 [0] (f68_ok t1 l1 d 12 h2 (by decide)) rfl ?_ ?_ ?_ ?_ ?_ ?_
    iterate 5 · simp
    simp
    have hwf0 := (hwf.tail (by simp only [kd_cons, h2]; decide)).1
    simp only [List.tail_cons] at hwf0
    have hin' : stmtsS n d e [] l1 ≠ .out := fun e => hin (by simp [e])
    generalize hR : stmtsS n d e [] l1 = R at hin hQ hin'
    refine ATT.labelG 60 rfl rfl (fun ((m, acc, ds, l) : Nat × List Nd × List D × List Tk) => m) (fun ((m, acc, ds, l) : Nat × List Nd × List D × List Tk) => stmtsS m d e acc l = R ∧ NdRL acc ds ∧ WF l ∧ ds.length + l.length ≤ 5000 ∧ m ≤ n) (fun ((m, acc, ds, l) : Nat × List Nd × List D × List Tk) => [(0, .ptr 0 0), (1, .ptr 1 0), (2, .d (.int .i64 e))]) (fun ((m, acc, ds, l) : Nat × List Nd × List D × List Tk) => [PB l d, .cells [.d a0, .d a1, .d a2, .d a3, .vs 0 (names ++ dn).length 0 (names ++ dn).length, .vs 1 ds.length 0 ds.length] 75]) (fun ((m, acc, ds, l) : Nat × List Nd × List D × List Tk) => [NS (names ++ dn), NV 75 ds]) ((n, [], [], l1)) (by (try dsimp only); exact ⟨hR, by simp [NdRL], hwf0, by simpa using hwf0.2.2, Nat.le_refl _⟩) (by simp <;> omega) (by simp) (by simp) ?_
    intro ⟨m, acc, ds, l⟩ u w hI ih
    try simp only at hI ih
    simp only [SL.flat]
    obtain ⟨hRk, hds, hwf, hnum, hmn⟩ := hI
    obtain ⟨t3, l3, he⟩ := hwf.cons
    subst he
    cases m with
    | zero => exact absurd hRk.symm (by simpa [stmtsS] using hin')
    | succ m =>
     simp only [stmtsS, kd_cons] at hRk
     simp [TB]
     refine ATT.callM Tryz.func66 60 [0] (f70_ok t3 l3 d) rfl ?_ ?_ ?_ ?_ ?_ ?_
     iterate 5 · simp
     simp
     by_cases hend : t3.k = e
     ·simp only [eq_true hend, if_true] at hRk
      subst hRk
      simp [eq_true hend]
      refine ATT.fin2 hQ Tryz.func66 ?_
      exact ⟨by simp, BR.mk hds (by simp) (by simp) (by simp) (by simp)⟩
     ·simp only [eq_false hend, if_false] at hRk
      have hin2 : stmtS m d (t3 :: l3) ≠ .out := fun e => hin' (by rw [← hRk, e]; rfl)
      simp [TB, hend]
      refine ATT.callPv Tryz.func66 60 0 (ihS m (by omega) d _ hd hwf hin2) hin2 (by simp) (by simp) rfl (by simp) (fun a w e h1 hi hh hv => hQ _ _ (by rw [← hRk, e]; exact ⟨rfl, ⟨_, by rw [hi 1 (by decide)]; rfl, rfl⟩, by rw [hh]; simp, by simp at hv ⊢; omega⟩)) fun x l' v hx hφ => ?_
      rw [hx] at hRk
      simp only [Res.andThen] at hRk
      obtain ⟨u0, he, hφ⟩ := hφ
      subst he
      obtain ⟨nl1_u0, z1_u0, nl2_u0, z2_u0, ds_u0, hv_u0, ha_u0, hb_u0, hc_u0, hd_u0, he_u0⟩ := hφ.shape
      have hw_u0 := hv_u0
      subst hw_u0
      have hsh := (pres m).stmt hwf hx
      have h2l := hsh.2
      simp only [List.length_cons] at h2l hnum
      have hmul : (ds.length + 1) * 88 ≤ 140737488355328 := by omega
      obtain ⟨t4, l4, he⟩ := hsh.1.cons
      subst he
      simp
      simp only [kd_cons, pl_cons, List.tail_cons] at hRk
      have hir : inR (ds.length : Int) (ds.length + 1) = true := by simp [inR]; omega
      refine ATT.ords 60 (by simp <;> omega) fun o ho => ?_
      simp only [List.mem_cons, List.mem_nil_iff, or_false] at ho
      rcases ho with ho | ho <;> subst ho
      simp [TB, hir]
      ·simp [hmul]
       refine ATT.callM Tryz.func66 60 [0] (f70_ok t4 l4 d) rfl ?_ ?_ ?_ ?_ ?_ ?_
       iterate 5 · simp
       simp
       by_cases h14 : t4.k = 14
       ·obtain ⟨t5, l5, he, hl5⟩ := hsh.1.two (by rw [h14]; decide)
        subst he
        have hT := f69_ok t4 (t5 :: l5) d
        rw [if_neg (by rw [h14]; decide)] at hT
        simp only [eq_true h14, true_and, if_true, kd_cons, pl_cons] at hRk
        simp [TB, eq_true h14]
        refine ATT.callM Tryz.func66 60 [0] (hT) rfl ?_ ?_ ?_ ?_ ?_ ?_
        iterate 5 · simp
        simp [TB]
        cases hlast : x.2 with
        | false =>
         simp only [hlast, if_true] at hRk
         simp
         refine ih (m, acc ++ [x.1], ds ++ [_], t5 :: l5) (by first | ((try dsimp only); omega) | (simp [hir] <;> omega)) (by (try dsimp only); exact ⟨hRk, hds.append (.one hφ), hl5, by simp at h2l ⊢; omega, by omega⟩) _ _ _ _ rfl (by simp <;> omega) (by simp <;> omega) (by simp <;> omega)
        | true =>
         simp only [hlast, Bool.true_eq_false, if_false] at hRk
         simp [TB]
         refine ATT.callM Tryz.func66 60 [0] (f70_ok t5 l5 d) rfl ?_ ?_ ?_ ?_ ?_ ?_
         iterate 5 · simp
         simp
         by_cases hE : t5.k = e
         ·simp only [eq_true hE, if_true] at hRk
          subst hRk
          simp [eq_true hE]
          refine ATT.fin02 hQ Tryz.func66 ?_
          exact ⟨by simp, BR.mk (hds.append (.one hφ)) (by simp) (by simp) (by simp) (by simp)⟩
         ·simp only [eq_false hE, if_false] at hRk
          subst hRk
          simp [TB, hE]
          refine ATT.callA Tryz.func66 60 [0] [] 0 0 (f98_ok t5 l5 d 20) ?_ ?_ ?_ ?_ ?_ fun out hC hE => ?_
          iterate 5 · simp
          obtain ⟨e1, e2⟩ := hE
          subst e1
          exact ⟨by simpa using e2, hQ _ _ ⟨by simp [stopV, eSyn], by exact ⟨[_, _, _, _, _, _], by rw [upH_out (by decide) (by simp)]; rfl, rfl⟩, by simp, by simp⟩⟩
       ·simp only [eq_false h14, false_and, if_false] at hRk
        simp [TB, h14]
        refine ATT.callM Tryz.func66 60 [0] (f70_ok t4 l4 d) rfl ?_ ?_ ?_ ?_ ?_ ?_
        iterate 5 · simp
        simp
        by_cases hE : t4.k = e
        ·simp only [eq_true hE, if_true] at hRk
         subst hRk
         simp [eq_true hE]
         refine ATT.fin02 hQ Tryz.func66 ?_
         exact ⟨by simp, BR.mk (hds.append (.one hφ)) (by simp) (by simp) (by simp) (by simp)⟩
        ·simp only [eq_false hE, if_false] at hRk
         subst hRk
         simp [TB, hE]
         refine ATT.callA Tryz.func66 60 [0] [] 0 0 (f98_ok t4 l4 d 20) ?_ ?_ ?_ ?_ ?_ fun out hC hE => ?_
         iterate 5 · simp
         obtain ⟨e1, e2⟩ := hE
         subst e1
         exact ⟨by simpa using e2, hQ _ _ ⟨by simp [stopV, eSyn], by exact ⟨[_, _, _, _, _, _], by rw [upH_out (by decide) (by simp)]; rfl, rfl⟩, by simp, by simp⟩⟩
      ·simp [TB, hmul]
       refine ATT.callM Tryz.func66 60 [0] (f70_ok t4 l4 d) rfl ?_ ?_ ?_ ?_ ?_ ?_
       iterate 5 · simp [hir]
       simp
       by_cases h14 : t4.k = 14
       ·obtain ⟨t5, l5, he, hl5⟩ := hsh.1.two (by rw [h14]; decide)
        subst he
        have hT := f69_ok t4 (t5 :: l5) d
        rw [if_neg (by rw [h14]; decide)] at hT
        simp only [eq_true h14, true_and, if_true, kd_cons, pl_cons] at hRk
        simp [TB, eq_true h14]
        refine ATT.callM Tryz.func66 60 [0] (hT) rfl ?_ ?_ ?_ ?_ ?_ ?_
        iterate 5 · simp
        simp [TB]
        cases hlast : x.2 with
        | false =>
         simp only [hlast, if_true] at hRk
         simp
         refine ih (m, acc ++ [x.1], ds ++ [_], t5 :: l5) (by first | ((try dsimp only); omega) | (simp [hir] <;> omega)) (by (try dsimp only); exact ⟨hRk, hds.append (.one hφ), hl5, by simp at h2l ⊢; omega, by omega⟩) _ _ _ _ rfl (by simp <;> omega) (by simp <;> omega) (by simp <;> omega)
        | true =>
         simp only [hlast, Bool.true_eq_false, if_false] at hRk
         simp [TB]
         refine ATT.callM Tryz.func66 60 [0] (f70_ok t5 l5 d) rfl ?_ ?_ ?_ ?_ ?_ ?_
         iterate 5 · simp
         simp
         by_cases hE : t5.k = e
         ·simp only [eq_true hE, if_true] at hRk
          subst hRk
          simp [eq_true hE]
          refine ATT.fin02 hQ Tryz.func66 ?_
          exact ⟨by simp, BR.mk (hds.append (.one hφ)) (by simp) (by simp) (by simp) (by simp)⟩
         ·simp only [eq_false hE, if_false] at hRk
          subst hRk
          simp [TB, hE]
          refine ATT.callA Tryz.func66 60 [0] [] 0 0 (f98_ok t5 l5 d 20) ?_ ?_ ?_ ?_ ?_ fun out hC hE => ?_
          iterate 5 · simp
          obtain ⟨e1, e2⟩ := hE
          subst e1
          exact ⟨by simpa using e2, hQ _ _ ⟨by simp [stopV, eSyn], by exact ⟨[_, _, _, _, _, _], by rw [upH_out (by decide) (by simp)]; rfl, rfl⟩, by simp, by simp⟩⟩
       ·simp only [eq_false h14, false_and, if_false] at hRk
        simp [TB, h14]
        refine ATT.callM Tryz.func66 60 [0] (f70_ok t4 l4 d) rfl ?_ ?_ ?_ ?_ ?_ ?_
        iterate 5 · simp
        simp
        by_cases hE : t4.k = e
        ·simp only [eq_true hE, if_true] at hRk
         subst hRk
         simp [eq_true hE]
         refine ATT.fin02 hQ Tryz.func66 ?_
         exact ⟨by simp, BR.mk (hds.append (.one hφ)) (by simp) (by simp) (by simp) (by simp)⟩
        ·simp only [eq_false hE, if_false] at hRk
         subst hRk
         simp [TB, hE]
         refine ATT.callA Tryz.func66 60 [0] [] 0 0 (f98_ok t4 l4 d 20) ?_ ?_ ?_ ?_ ?_ fun out hC hE => ?_
         iterate 5 · simp
         obtain ⟨e1, e2⟩ := hE
         subst e1
         exact ⟨by simpa using e2, hQ _ _ ⟨by simp [stopV, eSyn], by exact ⟨[_, _, _, _, _, _], by rw [upH_out (by decide) (by simp)]; rfl, rfl⟩, by simp, by simp⟩⟩
   ·simp only [tempsE, kd_cons, pl_cons, eq_false h2, if_false, Res.andThen] at hQ
    refine ATT.callA Tryz.func66 60 [0] [] 0 0 (f68_no t1 l1 d 12 h2) ?_ ?_ ?_ ?_ ?_ fun out hC hE => ?_
    iterate 5 · simp
    obtain ⟨e1, e2⟩ := hE
    subst e1
    exact ⟨by simpa using e2, hQ _ _ ⟨by simp [stopV, eSyn], by exact ⟨[_, _, _, _, _, _], by rw [upH_out (by decide) (by simp)]; rfl, rfl⟩, by simp, by simp⟩⟩
 ·simp only [tempsS_no h12, Res.andThen] at hin hQ
  simp [h12]
  refine ATT.nilB 1 5 6 75 rfl rfl (by decide) (by simp) ?_
  simp
  have hwf0 := hl
  have hin' : stmtsS n d e [] (t :: r) ≠ .out := fun e => hin (by simp [e])
  generalize hR : stmtsS n d e [] (t :: r) = R at hin hQ hin'
  refine ATT.labelG 60 rfl rfl (fun ((m, acc, ds, l) : Nat × List Nd × List D × List Tk) => m) (fun ((m, acc, ds, l) : Nat × List Nd × List D × List Tk) => stmtsS m d e acc l = R ∧ NdRL acc ds ∧ WF l ∧ ds.length + l.length ≤ 5000 ∧ m ≤ n) (fun ((m, acc, ds, l) : Nat × List Nd × List D × List Tk) => [(0, .ptr 0 0), (1, .ptr 1 0), (2, .d (.int .i64 e))]) (fun ((m, acc, ds, l) : Nat × List Nd × List D × List Tk) => [PB l d, .cells [.d a0, .d a1, .d a2, .d a3, .vs 0 (names).length 0 (names).length, .vs 1 ds.length 0 ds.length] 75]) (fun ((m, acc, ds, l) : Nat × List Nd × List D × List Tk) => [NS (names), NV 75 ds]) ((n, [], [], t :: r)) (by (try dsimp only); exact ⟨hR, by simp [NdRL], hwf0, by simpa using hwf0.2.2, Nat.le_refl _⟩) (by simp <;> omega) (by simp) (by simp) ?_
  intro ⟨m, acc, ds, l⟩ u w hI ih
  try simp only at hI ih
  simp only [SL.flat]
  obtain ⟨hRk, hds, hwf, hnum, hmn⟩ := hI
  obtain ⟨t3, l3, he⟩ := hwf.cons
  subst he
  cases m with
  | zero => exact absurd hRk.symm (by simpa [stmtsS] using hin')
  | succ m =>
   simp only [stmtsS, kd_cons] at hRk
   simp [TB]
   refine ATT.callM Tryz.func66 60 [0] (f70_ok t3 l3 d) rfl ?_ ?_ ?_ ?_ ?_ ?_
   iterate 5 · simp
   simp
   by_cases hend : t3.k = e
   ·simp only [eq_true hend, if_true] at hRk
    subst hRk
    simp [eq_true hend]
    refine ATT.fin2 hQ Tryz.func66 ?_
    exact ⟨by simp, BR.mk hds (by simp) (by simp) (by simp) (by simp)⟩
   ·simp only [eq_false hend, if_false] at hRk
    have hin2 : stmtS m d (t3 :: l3) ≠ .out := fun e => hin' (by rw [← hRk, e]; rfl)
    simp [TB, hend]
    refine ATT.callPv Tryz.func66 60 0 (ihS m (by omega) d _ hd hwf hin2) hin2 (by simp) (by simp) rfl (by simp) (fun a w e h1 hi hh hv => hQ _ _ (by rw [← hRk, e]; exact ⟨rfl, ⟨_, by rw [hi 1 (by decide)]; rfl, rfl⟩, by rw [hh]; simp, by simp at hv ⊢; omega⟩)) fun x l' v hx hφ => ?_
    rw [hx] at hRk
    simp only [Res.andThen] at hRk
    obtain ⟨u0, he, hφ⟩ := hφ
    subst he
    obtain ⟨nl1_u0, z1_u0, nl2_u0, z2_u0, ds_u0, hv_u0, ha_u0, hb_u0, hc_u0, hd_u0, he_u0⟩ := hφ.shape
    have hw_u0 := hv_u0
    subst hw_u0
    have hsh := (pres m).stmt hwf hx
    have h2l := hsh.2
    simp only [List.length_cons] at h2l hnum
    have hmul : (ds.length + 1) * 88 ≤ 140737488355328 := by omega
    obtain ⟨t4, l4, he⟩ := hsh.1.cons
    subst he
    simp
    simp only [kd_cons, pl_cons, List.tail_cons] at hRk
    have hir : inR (ds.length : Int) (ds.length + 1) = true := by simp [inR]; omega
    refine ATT.ords 60 (by simp <;> omega) fun o ho => ?_
    simp only [List.mem_cons, List.mem_nil_iff, or_false] at ho
    rcases ho with ho | ho <;> subst ho
    simp [TB, hir]
    ·simp [hmul]
     refine ATT.callM Tryz.func66 60 [0] (f70_ok t4 l4 d) rfl ?_ ?_ ?_ ?_ ?_ ?_
     iterate 5 · simp
     simp
     by_cases h14 : t4.k = 14
     ·obtain ⟨t5, l5, he, hl5⟩ := hsh.1.two (by rw [h14]; decide)
      subst he
      have hT := f69_ok t4 (t5 :: l5) d
      rw [if_neg (by rw [h14]; decide)] at hT
      simp only [eq_true h14, true_and, if_true, kd_cons, pl_cons] at hRk
      simp [TB, eq_true h14]
      refine ATT.callM Tryz.func66 60 [0] (hT) rfl ?_ ?_ ?_ ?_ ?_ ?_
      iterate 5 · simp
      simp [TB]
      cases hlast : x.2 with
      | false =>
       simp only [hlast, if_true] at hRk
       simp
       refine ih (m, acc ++ [x.1], ds ++ [_], t5 :: l5) (by first | ((try dsimp only); omega) | (simp [hir] <;> omega)) (by (try dsimp only); exact ⟨hRk, hds.append (.one hφ), hl5, by simp at h2l ⊢; omega, by omega⟩) _ _ _ _ rfl (by simp <;> omega) (by simp <;> omega) (by simp <;> omega)
      | true =>
       simp only [hlast, Bool.true_eq_false, if_false] at hRk
       simp [TB]
       refine ATT.callM Tryz.func66 60 [0] (f70_ok t5 l5 d) rfl ?_ ?_ ?_ ?_ ?_ ?_
       iterate 5 · simp
       simp
       by_cases hE : t5.k = e
       ·simp only [eq_true hE, if_true] at hRk
        subst hRk
        simp [eq_true hE]
        refine ATT.fin02 hQ Tryz.func66 ?_
        exact ⟨by simp, BR.mk (hds.append (.one hφ)) (by simp) (by simp) (by simp) (by simp)⟩
       ·simp only [eq_false hE, if_false] at hRk
        subst hRk
        simp [TB, hE]
        refine ATT.callA Tryz.func66 60 [0] [] 0 0 (f98_ok t5 l5 d 20) ?_ ?_ ?_ ?_ ?_ fun out hC hE => ?_
        iterate 5 · simp
        obtain ⟨e1, e2⟩ := hE
        subst e1
        exact ⟨by simpa using e2, hQ _ _ ⟨by simp [stopV, eSyn], by exact ⟨[_, _, _, _, _, _], by rw [upH_out (by decide) (by simp)]; rfl, rfl⟩, by simp, by simp⟩⟩
     ·simp only [eq_false h14, false_and, if_false] at hRk
      simp [TB, h14]
      refine ATT.callM Tryz.func66 60 [0] (f70_ok t4 l4 d) rfl ?_ ?_ ?_ ?_ ?_ ?_
      iterate 5 · simp
      simp
      by_cases hE : t4.k = e
      ·simp only [eq_true hE, if_true] at hRk
       subst hRk
       simp [eq_true hE]
       refine ATT.fin02 hQ Tryz.func66 ?_
       exact ⟨by simp, BR.mk (hds.append (.one hφ)) (by simp) (by simp) (by simp) (by simp)⟩
      ·simp only [eq_false hE, if_false] at hRk
       subst hRk
       simp [TB, hE]
       refine ATT.callA Tryz.func66 60 [0] [] 0 0 (f98_ok t4 l4 d 20) ?_ ?_ ?_ ?_ ?_ fun out hC hE => ?_
       iterate 5 · simp
       obtain ⟨e1, e2⟩ := hE
       subst e1
       exact ⟨by simpa using e2, hQ _ _ ⟨by simp [stopV, eSyn], by exact ⟨[_, _, _, _, _, _], by rw [upH_out (by decide) (by simp)]; rfl, rfl⟩, by simp, by simp⟩⟩
    ·simp [TB, hmul]
     refine ATT.callM Tryz.func66 60 [0] (f70_ok t4 l4 d) rfl ?_ ?_ ?_ ?_ ?_ ?_
     iterate 5 · simp [hir]
     simp
     by_cases h14 : t4.k = 14
     ·obtain ⟨t5, l5, he, hl5⟩ := hsh.1.two (by rw [h14]; decide)
      subst he
      have hT := f69_ok t4 (t5 :: l5) d
      rw [if_neg (by rw [h14]; decide)] at hT
      simp only [eq_true h14, true_and, if_true, kd_cons, pl_cons] at hRk
      simp [TB, eq_true h14]
      refine ATT.callM Tryz.func66 60 [0] (hT) rfl ?_ ?_ ?_ ?_ ?_ ?_
      iterate 5 · simp
      simp [TB]
      cases hlast : x.2 with
      | false =>
       simp only [hlast, if_true] at hRk
       simp
       refine ih (m, acc ++ [x.1], ds ++ [_], t5 :: l5) (by first | ((try dsimp only); omega) | (simp [hir] <;> omega)) (by (try dsimp only); exact ⟨hRk, hds.append (.one hφ), hl5, by simp at h2l ⊢; omega, by omega⟩) _ _ _ _ rfl (by simp <;> omega) (by simp <;> omega) (by simp <;> omega)
      | true =>
       simp only [hlast, Bool.true_eq_false, if_false] at hRk
       simp [TB]
       refine ATT.callM Tryz.func66 60 [0] (f70_ok t5 l5 d) rfl ?_ ?_ ?_ ?_ ?_ ?_
       iterate 5 · simp
       simp
       by_cases hE : t5.k = e
       ·simp only [eq_true hE, if_true] at hRk
        subst hRk
        simp [eq_true hE]
        refine ATT.fin02 hQ Tryz.func66 ?_
        exact ⟨by simp, BR.mk (hds.append (.one hφ)) (by simp) (by simp) (by simp) (by simp)⟩
       ·simp only [eq_false hE, if_false] at hRk
        subst hRk
        simp [TB, hE]
        refine ATT.callA Tryz.func66 60 [0] [] 0 0 (f98_ok t5 l5 d 20) ?_ ?_ ?_ ?_ ?_ fun out hC hE => ?_
        iterate 5 · simp
        obtain ⟨e1, e2⟩ := hE
        subst e1
        exact ⟨by simpa using e2, hQ _ _ ⟨by simp [stopV, eSyn], by exact ⟨[_, _, _, _, _, _], by rw [upH_out (by decide) (by simp)]; rfl, rfl⟩, by simp, by simp⟩⟩
     ·simp only [eq_false h14, false_and, if_false] at hRk
      simp [TB, h14]
      refine ATT.callM Tryz.func66 60 [0] (f70_ok t4 l4 d) rfl ?_ ?_ ?_ ?_ ?_ ?_
      iterate 5 · simp
      simp
      by_cases hE : t4.k = e
      ·simp only [eq_true hE, if_true] at hRk
       subst hRk
       simp [eq_true hE]
       refine ATT.fin02 hQ Tryz.func66 ?_
       exact ⟨by simp, BR.mk (hds.append (.one hφ)) (by simp) (by simp) (by simp) (by simp)⟩
      ·simp only [eq_false hE, if_false] at hRk
       subst hRk
       simp [TB, hE]
       refine ATT.callA Tryz.func66 60 [0] [] 0 0 (f98_ok t4 l4 d 20) ?_ ?_ ?_ ?_ ?_ fun out hC hE => ?_
       iterate 5 · simp
       obtain ⟨e1, e2⟩ := hE
       subst e1
       exact ⟨by simpa using e2, hQ _ _ ⟨by simp [stopV, eSyn], by exact ⟨[_, _, _, _, _, _], by rw [upH_out (by decide) (by simp)]; rfl, rfl⟩, by simp, by simp⟩⟩
end Go.SL
namespace Go.SL
open Go.Proofs
set_option maxRecDepth 10000
theorem stmtsS_end : ∀ (n d : Nat) (e : Int) (acc : List Nd) (l : List Tk) (xs : List Nd) (r : List Tk), stmtsS n d e acc l = .ok xs r → kd r = e
 | 0, _, _, _, _, _, _, h => by simp [stmtsS] at h
 | n + 1, d, e, acc, l, xs, r, h => by
  simp only [stmtsS] at h
  split at h
  ·rename_i h9
   simp only [Res.ok.injEq] at h; rw [← h.2]; exact h9
  ·obtain ⟨m, r', _, e2⟩ := andThen_ok h
   split at e2
   ·exact stmtsS_end n d _ _ _ _ _ e2
   split at e2
   ·split at e2
    ·rename_i h9
     simp only [Res.ok.injEq] at e2; rw [← e2.2]; exact h9
    ·simp at e2
   split at e2
   ·rename_i h9
    simp only [Res.ok.injEq] at e2; rw [← e2.2]; exact h9
   ·simp at e2
theorem bodyS_end {n d : Nat} {e : Int} {l r : List Tk} {x : List ByteArray × List Nd} (h : bodyS n d e l = .ok x r) : kd r = e := by
 cases n with
 | zero => simp [bodyS] at h
 | succ n =>
  simp only [bodyS] at h
  obtain ⟨m, r', _, e2⟩ := andThen_ok h
  obtain ⟨m, r', e3, e4⟩ := andThen_ok e2
  simp only [Res.ok.injEq] at e4
  rw [← e4.2]; exact stmtsS_end _ _ _ _ _ _ _ e3
theorem andThen_okE {α β : Type} (x : α) (r : List Tk) (f : α → List Tk → Res β) : (Res.ok x r).andThen f = f x r := rfl
theorem andThen_noE {α β : Type} (a : Nat) (w : Int) (f : α → List Tk → Res β) : (Res.no a w).andThen f = .no a w := rfl
def blkS (n d : Nat) (l : List Tk) : Res (Nat × List ByteArray × List Nd) :=
 (argsS n l).andThen fun ns r =>
  if ns.length ≠ 0 ∧ kd r ≠ 11 then
   (if kd r = 12 then (bodyS n d 11 r.tail).andThen fun x r' => .ok (ns.length, ns ++ x.1, x.2) r'.tail else .no (pl r) eSyn)
  else (bodyS n d 11 r).andThen fun x r' => .ok (ns.length, ns ++ x.1, x.2) r'.tail
theorem blockS_eq (n d : Nat) (l : List Tk) : blockS (n + 1) d l = if d = 40 then .no (pl l) eSize else (blkS n (d + 1) l.tail).andThen fun x r => .ok (.mk 10 ⟨#[]⟩ (pl l) x.1 x.2.1 x.2.2) r := by
 simp only [blockS, blkS]
 split
 ·rfl
 ·cases argsS n l.tail with
  | ok ns r =>
   simp only [Res.andThen]
   split
   ·split
    ·cases bodyS n (d + 1) 11 r.tail <;> rfl
    ·rfl
   ·cases bodyS n (d + 1) 11 r <;> rfl
  | no a w => rfl
  | out => rfl
theorem blkS_args {n d : Nat} {l : List Tk} (h : blkS n d l ≠ .out) : argsS n l ≠ .out := fun e => h (by simp [blkS, e, Res.andThen])
theorem BKR.mk {S : Res (Nat × List ByteArray × List Nd)} {a0 a1 a2 : D} {d k : Nat} {nm : List ByteArray} {xk : List Nd} {lo : List Tk} {ds : List D} {x3 x4 x5 : V} {b : List Bx} {c : List (Option Vec)} (hS : S = .ok (k, nm, xk) lo) (hds : NdRL xk ds)
  (h3 : x3 = .d (.int .i64 k)) (h4 : x4 = .d (.sl nm.isEmpty 1 (nm.map .str))) (h5 : x5 = .d (.sl ds.isEmpty 6 ds)) :
  ∃ l' nd' b' c', Out.ret (.d (.tup [])) = .ret (.d (.tup [])) ∧ (⟨.cells [.d (.sl false 3 (lo.map tkD)), .d (.int .i64 d)] 131 :: PP :: .cells [.d a0, .d a1, .d a2, x3, x4, x5] 75 :: b, c⟩ : H) = ⟨PB l' d :: PP :: .cells (nd'.map .d) 75 :: b', c'⟩ ∧
   ∃ x n1 z1 n2 z2 ds, S = .ok x l' ∧ nd' = [a0, a1, a2, .int .i64 x.1, .sl n1 z1 (x.2.1.map .str), .sl n2 z2 ds] ∧
    (n1 = true → x.2.1 = []) ∧ (n1 = false → z1 = 1) ∧ (n2 = true → x.2.2 = []) ∧ (n2 = false → z2 = 6) ∧ NdRL x.2.2 ds := by
 subst h3 h4 h5
 refine ⟨lo, [a0, a1, a2, .int .i64 k, .sl nm.isEmpty 1 (nm.map .str), .sl ds.isEmpty 6 ds], b, c, rfl, rfl, (k, nm, xk), _, _, _, _, ds, hS, rfl, ?_, fun _ => rfl, ?_, fun _ => rfl, hds⟩
 ·intro h; simpa using h
 ·intro h
  have : ds = [] := by simpa using h
  have h2 := hds.length
  rw [this] at h2
  exact List.length_eq_zero_iff.mp h2.symm
set_option maxHeartbeats 2000000 in
theorem f245_ok (n : Nat) (ihB : BodyC n) (d : Nat) (l : List Tk) (hd : d ≤ 40) (hl : WF l) (hin : blkS n d l ≠ .out) (a0 a1 a2 : D) :
  AF Tryz.prog 245 [.ptr 1 0, .ptr 2 0] ⟨[PB l d, PP, .cells [.d a0, .d a1, .d a2, .d (.int .i64 0), .d (.sl true 0 []), .d (.sl true 0 [])] 75], []⟩ fun o h =>
   (∃ l' nd' b c, o = .ret (.d (.tup [])) ∧ h = ⟨PB l' d :: PP :: .cells (nd'.map .d) 75 :: b, c⟩ ∧ ∃ x n1 z1 n2 z2 ds, blkS n d l = .ok x l' ∧ nd' = [a0, a1, a2, .int .i64 x.1, .sl n1 z1 (x.2.1.map .str), .sl n2 z2 ds] ∧
    (n1 = true → x.2.1 = []) ∧ (n1 = false → z1 = 1) ∧ (n2 = true → x.2.2 = []) ∧ (n2 = false → z2 = 6) ∧ NdRL x.2.2 ds) ∨ (∃ a w, o = .pan (stopV a w) ∧ 3 ≤ h.bx.length ∧ blkS n d l = .no a w) := by
 refine AF.go Tryz.func245 [(2, [oD 9 [(3, [0, 1]), (5, [0, 1])]])] fun tb TB Q hQ => ?_
 simp
 refine ATT.nilB 2 4 1 9 rfl rfl (by decide) (by simp) ?_
 simp
 have hin0 := blkS_args hin
 simp only [blkS] at hin hQ
 generalize hR : argsS n l = R at hQ hin hin0
 refine ATT.loopG 60 rfl (fun ((m, dn, l) : Nat × List ByteArray × List Tk) => m) (fun ((m, dn, l) : Nat × List ByteArray × List Tk) => ((argsS m l).andThen fun x r => Res.ok (dn ++ x) r) = R ∧ WF l ∧ dn.length + l.length ≤ 5000) (fun ((m, dn, l) : Nat × List ByteArray × List Tk) => [(0, .ptr 1 0), (1, .ptr 2 0)]) (fun ((m, dn, l) : Nat × List ByteArray × List Tk) => [PB l d, PP, .cells [.d a0, .d a1, .d a2, .d (.int .i64 0), .vs 0 dn.length 0 dn.length, .d (.sl true 0 [])] 75]) (fun ((m, dn, l) : Nat × List ByteArray × List Tk) => [NS dn]) ((n, [], l)) (by (try dsimp only); exact ⟨by rw [← hR]; cases argsS n l <;> rfl, hl, by simpa using hl.2.2⟩) (by simp <;> omega) (by simp) (by simp) ?_
 intro ⟨m, dn, l⟩ u w hI ih
 try simp only at hI ih
 obtain ⟨hRk, hwf, hnum⟩ := hI
 obtain ⟨t1, l1, he⟩ := hwf.cons
 subst he
 cases m with
 | zero => exact absurd hRk.symm (by simpa [argsS, Res.andThen] using hin0)
 | succ m =>
  simp [TB]
  refine ATT.callM Tryz.func245 60 [0] (f70_ok t1 l1 d) rfl ?_ ?_ ?_ ?_ ?_ ?_
  iterate 5 · simp
  simp
  by_cases h16 : t1.k = 16
  ·obtain ⟨t2, l2, he, hl2⟩ := hwf.two (by rw [h16]; decide)
   subst he
   have hT := f69_ok t1 (t2 :: l2) d
   rw [if_neg (by rw [h16]; decide)] at hT
   simp only [argsS, kd_cons, eq_true h16, if_true, List.tail_cons, pl_cons, tx_cons] at hRk
   simp only [List.length_cons] at hnum
   simp [TB, eq_true h16]
   refine ATT.callM Tryz.func245 60 [0] (hT) rfl ?_ ?_ ?_ ?_ ?_ ?_
   iterate 5 · simp
   simp
   by_cases h1 : t2.k = 1
   ·have hmul : (dn.length + 1) * 16 ≤ 140737488355328 := by omega
    simp only [eq_true h1, if_true] at hRk
    have hw2 := (hl2.tail (by simp only [kd_cons, h1]; decide)).1
    simp only [List.tail_cons] at hw2
    refine ATT.callRM Tryz.func245 60 [0] (f68_ok t2 l2 d 1 h1 (by decide)) rfl ?_ ?_ ?_ ?_ ?_ ?_
    iterate 5 · simp [tkD, tokD]
    simp [tkD, tokD, hmul]
    refine ih (m, dn ++ [t2.t], l2) (by first | ((try dsimp only); omega) | (simp [tkD, tokD] <;> omega)) (by (try dsimp only); exact ⟨by rw [← hRk]; cases argsS m l2 <;> simp [Res.andThen], hw2, by simp; omega⟩) _ _ _ (by simp <;> omega) (by simp <;> omega) (by simp <;> omega)
   ·simp only [eq_false h1, if_false, Res.andThen] at hRk
    subst hRk
    refine ATT.callRA Tryz.func245 60 [0] [] 0 0 (f68_no t2 l2 d 1 h1) ?_ ?_ ?_ ?_ ?_ fun out hC hE => ?_
    iterate 5 · simp
    obtain ⟨e1, e2⟩ := hE
    subst e1
    exact ⟨by simpa using e2, hQ _ _ (.inr ⟨_, _, rfl, by simp, by simp [eSyn, Res.andThen]⟩)⟩
  ·simp only [argsS, kd_cons, eq_false h16, if_false, Res.andThen, List.append_nil] at hRk
   subst hRk
   simp [TB, h16]
   simp only [andThen_okE, kd_cons, List.tail_cons, pl_cons] at hQ hin
   cases dn with
   | nil =>
    have hwfB := hwf
    simp only [List.length_nil, ne_eq, not_true_eq_false, false_and, if_false] at hQ hin
    simp [TB]
    have hinB : bodyS n d 11 (t1 :: l1) ≠ .out := fun e => hin (by rw [e]; rfl)
    have hC := ihB d (t1 :: l1) 11 (([] : List ByteArray)) a0 a1 a2 (.int .i64 (([] : List ByteArray) : List ByteArray).length) hd hwfB (by simp only [List.length_cons] at hnum ⊢; omega) hinB
    refine ATT.callA Tryz.func245 60 [0, 2] [0] 0 1 (hC) ?_ ?_ ?_ ?_ ?_ fun out hC hE => ?_
    iterate 5 · simp
    cases hres : bodyS n d 11 (t1 :: l1) with
    | ok x r =>
     simp only [hres, BR] at hE
     obtain ⟨b, c, ds, e1, e2, hds⟩ := hE
     subst e1 e2
     simp only [hres, andThen_okE] at hQ
     refine ⟨by simp, ?_⟩
     have hk := bodyS_end hres
     obtain ⟨t8, l8, he⟩ := ((pres n).body hwfB hres).1.1.cons
     subst he
     have hT := f69_ok t8 l8 d
     rw [if_neg (by rw [show t8.k = 11 from hk]; decide)] at hT
     simp [TB]
     refine ATT.callM Tryz.func245 60 [0] (hT) rfl ?_ ?_ ?_ ?_ ?_ ?_
     iterate 5 · simp
     simp
     obtain ⟨xn, xk⟩ := x
     cases ds with
     | nil =>
      cases hxn : xn with
      | nil =>
       refine ATT.fz0 ?_
       simp
       refine ATT.fin02 hQ Tryz.func245 ?_
       exact ⟨by simp, .inl (BKR.mk (nm := (([] : List ByteArray)) ++ []) (ds := []) (by rw [hxn]; rfl) hds (by simp) (by simp) (by simp))⟩
      | cons y yr =>
       refine ATT.fz0 ?_
       simp
       refine ATT.fin02 hQ Tryz.func245 ?_
       exact ⟨by simp, .inl (BKR.mk (nm := (([] : List ByteArray)) ++ y :: yr) (ds := []) (by rw [hxn]; rfl) hds (by simp) (by simp) (by simp))⟩
     | cons d0 ds =>
      cases hxn : xn with
      | nil =>
       refine ATT.fz0 ?_
       simp
       refine ATT.fin02 hQ Tryz.func245 ?_
       exact ⟨by simp, .inl (BKR.mk (nm := (([] : List ByteArray)) ++ []) (ds := d0 :: ds) (by rw [hxn]; rfl) hds (by simp) (by simp) (by simp))⟩
      | cons y yr =>
       refine ATT.fz0 ?_
       simp
       refine ATT.fin02 hQ Tryz.func245 ?_
       exact ⟨by simp, .inl (BKR.mk (nm := (([] : List ByteArray)) ++ y :: yr) (ds := d0 :: ds) (by rw [hxn]; rfl) hds (by simp) (by simp) (by simp))⟩
    | no a w =>
     simp only [hres, BR] at hE
     obtain ⟨e1, _, e2, e3⟩ := hE
     subst e1
     simp only [hres, andThen_noE] at hQ
     exact ⟨by simp only [List.length_cons, List.length_nil]; omega, hQ _ _ (.inr ⟨_, _, by simp [stopV], by simp, rfl⟩)⟩
    | out => exact absurd hres hinB
   | cons n0 nr =>
    by_cases h11 : t1.k = 11
    ·have hwfB := hwf
     simp only [eq_true h11, ne_eq, not_true_eq_false, and_false, if_false] at hQ hin
     simp
     refine ATT.callM Tryz.func245 60 [0] (f70_ok t1 l1 d) rfl ?_ ?_ ?_ ?_ ?_ ?_
     iterate 5 · simp
     simp [TB, eq_true h11]
     have hinB : bodyS n d 11 (t1 :: l1) ≠ .out := fun e => hin (by rw [e]; rfl)
     have hC := ihB d (t1 :: l1) 11 ((n0 :: nr)) a0 a1 a2 (.int .i64 ((n0 :: nr) : List ByteArray).length) hd hwfB (by simp only [List.length_cons] at hnum ⊢; omega) hinB
     refine ATT.callA Tryz.func245 60 [0, 2] [0] 0 1 (hC) ?_ ?_ ?_ ?_ ?_ fun out hC hE => ?_
     iterate 5 · simp
     cases hres : bodyS n d 11 (t1 :: l1) with
     | ok x r =>
      simp only [hres, BR] at hE
      obtain ⟨b, c, ds, e1, e2, hds⟩ := hE
      subst e1 e2
      simp only [hres, andThen_okE] at hQ
      refine ⟨by simp, ?_⟩
      have hk := bodyS_end hres
      obtain ⟨t8, l8, he⟩ := ((pres n).body hwfB hres).1.1.cons
      subst he
      have hT := f69_ok t8 l8 d
      rw [if_neg (by rw [show t8.k = 11 from hk]; decide)] at hT
      simp [TB]
      refine ATT.callM Tryz.func245 60 [0] (hT) rfl ?_ ?_ ?_ ?_ ?_ ?_
      iterate 5 · simp
      simp
      obtain ⟨xn, xk⟩ := x
      cases ds with
      | nil =>
       refine ATT.fz0 ?_
       simp
       refine ATT.fin02 hQ Tryz.func245 ?_
       exact ⟨by simp, .inl (BKR.mk (nm := ((n0 :: nr)) ++ xn) (ds := []) rfl hds (by simp) (by simp) (by simp))⟩
      | cons d0 ds =>
       refine ATT.fz0 ?_
       simp
       refine ATT.fin02 hQ Tryz.func245 ?_
       exact ⟨by simp, .inl (BKR.mk (nm := ((n0 :: nr)) ++ xn) (ds := d0 :: ds) rfl hds (by simp) (by simp) (by simp))⟩
     | no a w =>
      simp only [hres, BR] at hE
      obtain ⟨e1, _, e2, e3⟩ := hE
      subst e1
      simp only [hres, andThen_noE] at hQ
      exact ⟨by simp only [List.length_cons, List.length_nil]; omega, hQ _ _ (.inr ⟨_, _, by simp [stopV], by simp, rfl⟩)⟩
     | out => exact absurd hres hinB
    ·simp only [eq_false h11, List.length_cons, ne_eq, not_false_eq_true, and_true, Nat.add_one_ne_zero, if_true] at hQ hin
     simp
     refine ATT.callM Tryz.func245 60 [0] (f70_ok t1 l1 d) rfl ?_ ?_ ?_ ?_ ?_ ?_
     iterate 5 · simp
     simp [TB, h11]
     by_cases h12 : t1.k = 12
     ·simp only [eq_true h12, if_true] at hQ hin
      have hwfB := (hwf.tail (by simp only [kd_cons, h12]; decide)).1
      simp only [List.tail_cons] at hwfB
      refine ATT.callM Tryz.func245 60 [0] (f68_ok t1 l1 d 12 h12 (by decide)) rfl ?_ ?_ ?_ ?_ ?_ ?_
      iterate 5 · simp
      simp [TB]
      have hinB : bodyS n d 11 (l1) ≠ .out := fun e => hin (by rw [e]; rfl)
      have hC := ihB d (l1) 11 ((n0 :: nr)) a0 a1 a2 (.int .i64 ((n0 :: nr) : List ByteArray).length) hd hwfB (by simp only [List.length_cons] at hnum ⊢; omega) hinB
      refine ATT.callA Tryz.func245 60 [0, 2] [0] 0 1 (hC) ?_ ?_ ?_ ?_ ?_ fun out hC hE => ?_
      iterate 5 · simp
      cases hres : bodyS n d 11 (l1) with
      | ok x r =>
       simp only [hres, BR] at hE
       obtain ⟨b, c, ds, e1, e2, hds⟩ := hE
       subst e1 e2
       simp only [hres, andThen_okE] at hQ
       refine ⟨by simp, ?_⟩
       have hk := bodyS_end hres
       obtain ⟨t8, l8, he⟩ := ((pres n).body hwfB hres).1.1.cons
       subst he
       have hT := f69_ok t8 l8 d
       rw [if_neg (by rw [show t8.k = 11 from hk]; decide)] at hT
       simp [TB]
       refine ATT.callM Tryz.func245 60 [0] (hT) rfl ?_ ?_ ?_ ?_ ?_ ?_
       iterate 5 · simp
       simp
       obtain ⟨xn, xk⟩ := x
       cases ds with
       | nil =>
        refine ATT.fz0 ?_
        simp
        refine ATT.fin02 hQ Tryz.func245 ?_
        exact ⟨by simp, .inl (BKR.mk (nm := ((n0 :: nr)) ++ xn) (ds := []) rfl hds (by simp) (by simp) (by simp))⟩
       | cons d0 ds =>
        refine ATT.fz0 ?_
        simp
        refine ATT.fin02 hQ Tryz.func245 ?_
        exact ⟨by simp, .inl (BKR.mk (nm := ((n0 :: nr)) ++ xn) (ds := d0 :: ds) rfl hds (by simp) (by simp) (by simp))⟩
      | no a w =>
       simp only [hres, BR] at hE
       obtain ⟨e1, _, e2, e3⟩ := hE
       subst e1
       simp only [hres, andThen_noE] at hQ
       exact ⟨by simp only [List.length_cons, List.length_nil]; omega, hQ _ _ (.inr ⟨_, _, by simp [stopV], by simp, rfl⟩)⟩
      | out => exact absurd hres hinB
     ·simp only [eq_false h12, if_false] at hQ hin
      refine ATT.callA Tryz.func245 60 [0] [] 0 0 (f68_no t1 l1 d 12 h12) ?_ ?_ ?_ ?_ ?_ fun out hC hE => ?_
      iterate 5 · simp
      obtain ⟨e1, e2⟩ := hE
      subst e1
      exact ⟨by simpa using e2, hQ _ _ (.inr ⟨_, _, rfl, by simp, by simp [eSyn]⟩)⟩
end Go.SL
namespace Go.SL
open Go.Proofs
set_option maxRecDepth 10000
theorem f236_ok (n : Nat) (ihB : BodyC n) : BlockC (n + 1) := by
 intro d l hd hl hkl hin
 obtain ⟨t, r, e⟩ := hl.cons
 subst e
 rw [blockS_eq] at hin ⊢
 simp only [pl_cons, List.tail_cons] at hin ⊢
 have hk0 : t.k ≠ 0 := by
  intro h0
  simp only [kd_cons, h0] at hkl
  exact absurd hkl (by decide)
 obtain ⟨t2, l2, e, hl2⟩ := hl.two hk0
 subst e
 refine AF.go Tryz.func236 [] fun tb TB Q hQ => ?_
 simp [TB, tkD, tokD]
 by_cases h40 : d = 40
 ·subst h40
  simp only [if_true] at hQ
  refine ATT.callA Tryz.func236 60 [0, 1, 3] [] 0 0 (f171_no t (t2 :: l2) [.int .i64 10, .str ⟨#[]⟩, .int .i64 t.a, .int .i64 0, .sl true 0 [], .sl true 0 []] 75 245 [.ptr 1 0, .ptr 2 0]) ?_ ?_ ?_ ?_ ?_ fun out hC hE => ?_
  iterate 5 · simp [tkD, tokD]
  obtain ⟨e1, e2⟩ := hE
  subst e1
  exact ⟨by simpa using e2, hQ _ _ ⟨by simp [stopV, eSize], by simp⟩⟩
 ·rw [if_neg h40] at hQ hin
  have hin' : blkS n (d + 1) (t2 :: l2) ≠ .out := fun e => hin (by simp [e, Res.andThen])
  have hcl := f245_ok n ihB (d + 1) (t2 :: l2) (by omega) hl2 hin' (.int .i64 10) (.str ⟨#[]⟩) (.int .i64 t.a)
  have hW := f171_ok t hk0 (t2 :: l2) [.int .i64 10, .str ⟨#[]⟩, .int .i64 t.a, .int .i64 0, .sl true 0 [], .sl true 0 []] 75 d (by omega) 245 [.ptr 1 0, .ptr 2 0] rfl rfl _ _ hcl
  refine ATT.callA Tryz.func236 60 [0, 1, 3] [] 0 0 (hW) ?_ ?_ ?_ ?_ ?_ fun out hC hE => ?_
  iterate 5 · simp [tkD, tokD]
  rcases hE with ⟨l', nd', b, c, e1, e2, x, n1, z1, n2, z2, ds, hx, hnd, h1, h2, h3, h4, hds⟩ | ⟨a, w, e1, e2, hx⟩
  ·subst e1 e2 hnd
   refine ⟨by simp, ?_⟩
   simp [TB]
   simp only [hx, Res.andThen] at hQ
   refine ATT.fin2 hQ Tryz.func236 ?_
   exact ⟨by simp, _, _, _, rfl, rfl, NdR.mk h1 h2 h3 h4 hds⟩
  ·subst e1
   simp only [hx, Res.andThen] at hQ
   exact ⟨by simpa using e2, hQ _ _ ⟨by simp [stopV], by simp⟩⟩
structure AllC (n : Nat) : Prop where
 expr : ExprC n
 casc : CascC n
 msg : MsgC n
 keyed : KeyedC n
 binary : BinaryC n
 unary : UnaryC n
 prim : PrimC n
 list : ListC n
 elem : ElemC n
 block : BlockC n
 stmt : StmtC n
 body : BodyC n
theorem allC_le : ∀ n m, m ≤ n → AllC m
 | 0, 0, _ => by
  constructor <;> intro d l <;> intros <;> rename_i h <;> exact absurd (by simp [exprS, cascS, msgS, keyedS, binaryS, unaryS, primS, listS, elemS, blockS, stmtS, bodyS]) h
 | 0, m + 1, h => absurd h (by omega)
 | n + 1, m, h => by
  rcases Nat.lt_or_ge m (n + 1) with h' | h'
  ·exact allC_le n m (by omega)
  ·have : m = n + 1 := by omega
   subst this
   have ih := allC_le n
   exact {
    expr := f135_ok n (ih n (Nat.le_refl _)).expr (ih n (Nat.le_refl _)).casc
    casc := f173_ok n (ih n (Nat.le_refl _)).keyed fun m h => (ih m h).msg
    msg := f198_ok n (fun m h => (ih m h).binary) (ih n (Nat.le_refl _)).unary
    keyed := f197_ok n (ih n (Nat.le_refl _)).msg (ih n (Nat.le_refl _)).binary
    binary := f217_ok n (fun m h => (ih m h).msg) (ih n (Nat.le_refl _)).unary
    unary := f218_ok n (fun m h => (ih m h).msg) (ih n (Nat.le_refl _)).prim
    prim := f227_ok n (ih n (Nat.le_refl _)).expr (ih n (Nat.le_refl _)).list (ih n (Nat.le_refl _)).block
    list := f235_ok n fun m h => (ih m h).elem
    elem := f244_ok n (ih n (Nat.le_refl _)).list
    block := f236_ok n (ih n (Nat.le_refl _)).body
    stmt := f97_ok n (ih n (Nat.le_refl _)).expr
    body := f66_ok n fun m h => (ih m h).stmt }
theorem allC (n : Nat) : AllC n := allC_le n n (Nat.le_refl _)
end Go.SL
namespace Go.SL
open Go.Proofs
set_option maxRecDepth 10000
abbrev NP : Bx := .cells [.ptr 1 0] 132
abbrev UB (k : Int) (t : ByteArray) (n m : Nat) : Bx := .cells [.d (.int .i64 k), .d (.str t), .d (.int .i64 0), .d (.int .i64 n), .vs 0 m 0 m, .d (.sl true 0 [])] 75
theorem bx_four {l : List Bx} {b : Bx} (h : l[1]? = some b) (h4 : 4 ≤ l.length) : ∃ a c d r, l = a :: b :: c :: d :: r := by
 match l, h, h4 with
 | a :: x :: c :: d :: r, h, _ => simp at h; subst h; exact ⟨a, c, d, r, rfl⟩
theorem f67_ok (t : Tk) (l : List Tk) (d : Nat) (h1 : t.k = 1) (k : Int) (s : ByteArray) (n : Nat) (nm : List ByteArray) (hn : nm.length ≤ 5000) :
  AF Tryz.prog 67 [.ptr 3 0, .ptr 2 0] ⟨[PB (t :: l) d, UB k s n nm.length, .cells [.ptr 0 0] 93, NP], [NS nm]⟩ fun o h =>
   ∃ b c, o = .ret (.d (.tup [])) ∧ h = ⟨PB l d :: UB k s n (nm.length + 1) :: .cells [.ptr 0 0] 93 :: NP :: b, NS (nm ++ [t.t]) :: c⟩ := by
 have hmul : (nm.length + 1) * 16 ≤ 140737488355328 := by omega
 refine AF.go Tryz.func67 [(0, [oD 13 [(6, [0, 1, 2, 3, 4]), (8, [0, 1, 2, 3, 4]), (9, [0])]])] fun tb TB Q hQ => ?_
 simp
 refine ATT.callRM Tryz.func67 60 [0] (f68_ok t l d 1 h1 (by decide)) rfl ?_ ?_ ?_ ?_ ?_ ?_
 iterate 5 · simp [tkD, tokD]
 simp [tkD, tokD, hmul]
 refine ATT.fin02 hQ Tryz.func67 ?_
 exact ⟨by simp, [], [some ⟨false, 1, 0, [.d (.str t.t)], 9⟩], rfl, by simp⟩
theorem f67_no (t : Tk) (l : List Tk) (d : Nat) (h1 : ¬ t.k = 1) (k : Int) (s : ByteArray) (n : Nat) (nm : List ByteArray) :
  AF Tryz.prog 67 [.ptr 3 0, .ptr 2 0] ⟨[PB (t :: l) d, UB k s n nm.length, .cells [.ptr 0 0] 93, NP], [NS nm]⟩ fun o h =>
   o = .pan (stopV t.a 20) ∧ (∃ cs, h.bx[1]? = some (.cells cs 75) ∧ cs.length = 6) ∧ 4 ≤ h.bx.length ∧ 1 ≤ h.vc.length := by
 refine AF.go Tryz.func67 [(0, [oD 13 [(6, [0, 1, 2, 3, 4]), (8, [0, 1, 2, 3, 4]), (9, [0])]])] fun tb TB Q hQ => ?_
 simp
 refine ATT.callRA Tryz.func67 60 [0] [] 0 0 (f68_no t l d 1 h1) ?_ ?_ ?_ ?_ ?_ fun out hC hE => ?_
 iterate 5 · simp [tkD, tokD]
 obtain ⟨e1, e2⟩ := hE
 subst e1
 exact ⟨by simpa using e2, hQ _ _ ⟨by simp [stopV], by exact ⟨[_, _, _, _, _, _], by rw [upH_out (by decide) (by simp)]; rfl, rfl⟩, by simp, by simp⟩⟩
def HR (d : Nat) (r : Res (ByteArray × List ByteArray)) (o : Out) (h : H) : Prop := match r with
 | .ok x l => ∃ b c, o = .ret (.d (.tup [])) ∧ h = ⟨PB l d :: UB 12 x.1 x.2.length x.2.length :: b, NS x.2 :: c⟩
 | .no a w => o = .pan (stopV a w) ∧ (∃ cs, h.bx[1]? = some (.cells cs 75) ∧ cs.length = 6) ∧ 2 ≤ h.bx.length ∧ 1 ≤ h.vc.length
 | .out => True
theorem HR.mk {d : Nat} {s : ByteArray} {nm : List ByteArray} {l : List Tk} {x0 x1 x2 x3 x4 x5 : V} {b : List Bx} {v0 : Option Vec} {c : List (Option Vec)}
  (h0 : x0 = .d (.int .i64 12)) (h1 : x1 = .d (.str s)) (h2 : x2 = .d (.int .i64 0)) (h3 : x3 = .d (.int .i64 nm.length)) (h4 : x4 = .vs 0 nm.length 0 nm.length) (h5 : x5 = .d (.sl true 0 [])) (hv : v0 = NS nm) :
  HR d (.ok (s, nm) l) (.ret (.d (.tup []))) ⟨PB l d :: .cells [x0, x1, x2, x3, x4, x5] 75 :: b, v0 :: c⟩ := by
 subst h0 h1 h2 h3 h4 h5 hv
 exact ⟨_, _, rfl, rfl⟩
abbrev UB0 : Bx := .cells [.d (.int .i64 12), .d (.str ⟨#[]⟩), .d (.int .i64 0), .d (.int .i64 0), .d (.sl true 0 []), .d (.sl true 0 [])] 75
section
variable {P : Program} {N : Nat} {f : FD} {Q : Out → H → Prop}
end
theorem nil_app (s : ByteArray) : (⟨#[]⟩ : ByteArray) ++ s = s := by
 apply ByteArray.ext
 simp
set_option maxHeartbeats 1000000 in
theorem f46_ok (n : Nat) (d : Nat) (l : List Tk) (hl : WF l) (hn : l.length ≤ n) : AF Tryz.prog 46 [.ptr 0 0, .ptr 1 0] ⟨[PB l d, UB0], []⟩ (HR d (patS n l)) := by
 obtain ⟨t, r, e⟩ := hl.cons
 subst e
 have htz := hl.2.1 t (by simp)
 simp only [patS, kd_cons, pl_cons, tx_cons, List.tail_cons]
 by_cases h0 : t.k = 0
 ·have hT := f69_ok t r d
  rw [if_pos h0] at hT
  have a1 : ¬ t.k = 1 := by rw [h0]; decide
  have a2 : ¬ t.k = 2 := by rw [h0]; decide
  have a3 : ¬ t.k = 3 := by rw [h0]; decide
  simp only [eq_false a1, eq_false a2, eq_false a3, if_false]
  refine AF.go Tryz.func46 [(14, [oD 11 [(5, [0, 1, 2, 3])]]), (16, [oD 9 []])] fun tb TB Q hQ => ?_
  simp [TB]
  refine ATT.nilB 1 4 1 9 rfl rfl (by decide) (by simp) ?_
  simp
  refine ATT.callM Tryz.func46 60 [0] (hT) rfl ?_ ?_ ?_ ?_ ?_ ?_
  iterate 5 · simp [tkD, tokD]
  simp [TB, a1, a2, a3, tkD, tokD]
  refine ATT.pan hQ Tryz.func46 (by simp; exact ⟨rfl, rfl⟩) ?_ ?_ ?_
  iterate 2 · simp
  try simp [a1, a2, a3, tkD, tokD]
  exact ⟨rfl, by exact ⟨[_, _, _, _, _, _], rfl, rfl⟩, by simp, by simp⟩
 obtain ⟨t2, l2, e, hl2⟩ := hl.two h0
 subst e
 have hT := f69_ok t (t2 :: l2) d
 rw [if_neg h0] at hT
 by_cases h1 : t.k = 1
 ·simp only [eq_true h1, if_true]
  refine AF.go Tryz.func46 [(14, [oD 11 [(5, [0, 1, 2, 3])]]), (16, [oD 9 []])] fun tb TB Q hQ => ?_
  simp [TB]
  refine ATT.nilB 1 4 1 9 rfl rfl (by decide) (by simp) ?_
  simp
  refine ATT.callM Tryz.func46 60 [0] (hT) rfl ?_ ?_ ?_ ?_ ?_ ?_
  iterate 5 · simp [tkD, tokD]
  simp [TB, eq_true h1, tkD, tokD]
  refine ATT.fin02 hQ Tryz.func46 ?_
  exact ⟨by simp, HR.mk rfl rfl rfl rfl rfl rfl rfl⟩
 by_cases h3 : t.k = 3
 ·simp only [eq_false h1, eq_true h3, if_true, if_false, kd_cons, pl_cons, tx_cons, List.tail_cons]
  refine AF.go Tryz.func46 [(14, [oD 11 [(5, [0, 1, 2, 3])]]), (16, [oD 9 []])] fun tb TB Q hQ => ?_
  simp [TB]
  refine ATT.nilB 1 4 1 9 rfl rfl (by decide) (by simp) ?_
  simp
  refine ATT.callM Tryz.func46 60 [0] (hT) rfl ?_ ?_ ?_ ?_ ?_ ?_
  iterate 5 · simp [tkD, tokD]
  simp [TB, h1, eq_true h3, tkD, tokD]
  by_cases hk1 : t2.k = 1
  ·simp only [eq_true hk1, if_true] at hQ
   refine ATT.callA Tryz.func46 60 [0, 1, 2, 3] [0] 0 0 (f67_ok t2 l2 d hk1 12 t.t 0 [] (by simp)) ?_ ?_ ?_ ?_ ?_ fun out hC hE => ?_
   iterate 5 · simp [tkD, tokD]
   obtain ⟨b, c, e1, e2⟩ := hE
   subst e1 e2
   refine ⟨by simp, ?_⟩
   simp
   refine ATT.fin02 hQ Tryz.func46 ?_
   exact ⟨by simp, HR.mk rfl rfl rfl rfl rfl rfl rfl⟩
  ·simp only [eq_false hk1, if_false] at hQ
   refine ATT.callA Tryz.func46 60 [0, 1, 2, 3] [0] 0 0 (f67_no t2 l2 d hk1 12 t.t 0 []) ?_ ?_ ?_ ?_ ?_ fun out hC hE => ?_
   iterate 5 · simp [tkD, tokD]
   obtain ⟨e1, ⟨cs, e4, e5⟩, e2, e3⟩ := hE
   subst e1
   exact ⟨by simp; omega, hQ _ _ ⟨by simp [stopV, eSyn], by (obtain ⟨b0, b2, b3, br, hb⟩ := bx_four e4 e2; exact ⟨rns [0, 1, 2, 3] [0] cs, by simp [hb, setAll, rnB], by rw [rns_length]; exact e5⟩), by simp, by simp⟩⟩
 by_cases h2 : t.k = 2
 ·simp only [eq_false h1, eq_true h2, eq_false h3, if_true, if_false]
  obtain ⟨m, hm⟩ : ∃ m, n = m + 1 := ⟨n - 1, by simp at hn; omega⟩
  subst hm
  simp only [patKeysS, kd_cons, eq_true h2, if_true, List.tail_cons, tx_cons, pl_cons, nil_app, List.nil_append]
  refine AF.go Tryz.func46 [(14, [oD 11 [(5, [0, 1, 2, 3])]]), (16, [oD 9 []])] fun tb TB Q hQ => ?_
  simp [TB]
  refine ATT.nilB 1 4 1 9 rfl rfl (by decide) (by simp) ?_
  simp
  refine ATT.callM Tryz.func46 60 [0] (hT) rfl ?_ ?_ ?_ ?_ ?_ ?_
  iterate 5 · simp [tkD, tokD]
  simp [TB, h1, h3, eq_true h2, tkD, tokD]
  by_cases hk1 : t2.k = 1
  ·simp only [eq_true hk1, if_true] at hQ
   refine ATT.callA Tryz.func46 60 [0, 1, 2, 3] [0] 0 0 (f67_ok t2 l2 d hk1 12 t.t 0 [] (by simp)) ?_ ?_ ?_ ?_ ?_ fun out hC hE => ?_
   iterate 5 · simp [tkD, tokD]
   obtain ⟨b, c, e1, e2⟩ := hE
   subst e1 e2
   refine ⟨by simp, ?_⟩
   simp
   have hw3 := (hl2.tail (by simp only [kd_cons, hk1]; decide)).1
   simp only [List.tail_cons] at hw3
   simp only [List.length_cons] at hn
   have hlen := hl.2.2
   simp only [List.length_cons] at hlen
   generalize hR : patKeysS m t.t [t2.t] l2 = R at hQ
   refine ATT.loopG 60 rfl (fun ((m, s, nm, l) : Nat × ByteArray × List ByteArray × List Tk) => m) (fun ((m, s, nm, l) : Nat × ByteArray × List ByteArray × List Tk) => patKeysS m s nm l = R ∧ WF l ∧ l.length ≤ m ∧ nm.length + l.length ≤ 5000 ∧ s.size + 1048576 * l.length ≤ 5242880000) (fun ((m, s, nm, l) : Nat × ByteArray × List ByteArray × List Tk) => [(2, .ptr 2 0), (3, .ptr 3 0), (4, .fn (.func 67) [] [.ptr 3 0, .ptr 2 0])]) (fun ((m, s, nm, l) : Nat × ByteArray × List ByteArray × List Tk) => [PB l d, .cells [.d (.int .i64 12), .d (.str s), .d (.int .i64 0), .d (.int .i64 0), .vs 0 nm.length 0 nm.length, .d (.sl true 0 [])] 75, .cells [.ptr 0 0] 93, NP]) (fun ((m, s, nm, l) : Nat × ByteArray × List ByteArray × List Tk) => [NS nm]) ((m, t.t, [t2.t], l2)) (by (try dsimp only); exact ⟨hR, hw3, by omega, by simp; omega, by omega⟩) (by simp <;> omega) (by simp) (by simp) ?_
   intro ⟨m, s, nm, l⟩ u w hI ih
   try simp only at hI ih
   obtain ⟨hRk, hwf, hlm, hnum, hsz⟩ := hI
   obtain ⟨t3, l3, e⟩ := hwf.cons
   subst e
   cases m with
   | zero => simp at hlm
   | succ m =>
    simp only [patKeysS, kd_cons, tx_cons, List.tail_cons] at hRk
    simp [TB]
    refine ATT.callM Tryz.func46 60 [0] (f70_ok t3 l3 d) rfl ?_ ?_ ?_ ?_ ?_ ?_
    iterate 5 · simp [tkD, tokD]
    simp [tkD, tokD]
    by_cases h3k : t3.k = 2
    ·obtain ⟨t4, l4, e, hl4⟩ := hwf.two (by rw [h3k]; decide)
     subst e
     have hT3 := f69_ok t3 (t4 :: l4) d
     rw [if_neg (by rw [h3k]; decide)] at hT3
     simp only [eq_true h3k, if_true, kd_cons, tx_cons, List.tail_cons, pl_cons] at hRk
     have htz3 := hwf.2.1 t3 (by simp)
     simp only [List.length_cons] at hsz hnum hlm
     have hcat : s.size + t3.t.size ≤ 9223372036854775807 := by omega
     simp [eq_true h3k, tkD, tokD]
     refine ATT.callRM Tryz.func46 60 [0] (hT3) rfl ?_ ?_ ?_ ?_ ?_ ?_
     iterate 5 · simp [tkD, tokD]
     simp [TB, tkD, tokD, hcat]
     by_cases hk4 : t4.k = 1
     ·simp only [eq_true hk4, if_true] at hRk
      refine ATT.callA Tryz.func46 60 [0, 1, 2, 3] [0] 0 0 (f67_ok t4 l4 d hk4 12 (s ++ t3.t) 0 nm (by omega)) ?_ ?_ ?_ ?_ ?_ fun out hC hE => ?_
      iterate 5 · simp [tkD, tokD]
      obtain ⟨b, c, e1, e2⟩ := hE
      subst e1 e2
      refine ⟨by simp, ?_⟩
      simp
      have hw4 := (hl4.tail (by simp only [kd_cons, hk4]; decide)).1
      simp only [List.tail_cons] at hw4
      refine ih (m, s ++ t3.t, nm ++ [t4.t], l4) (by first | ((try dsimp only); omega) | (simp [eq_true h3k, tkD, tokD, hcat] <;> omega)) (by (try dsimp only); exact ⟨hRk, hw4, by omega, by simp; omega, by simp; omega⟩) _ _ _ (by simp <;> omega) (by simp <;> omega) (by simp <;> omega)
     ·simp only [eq_false hk4, if_false] at hRk
      subst hRk
      refine ATT.callA Tryz.func46 60 [0, 1, 2, 3] [0] 0 0 (f67_no t4 l4 d hk4 12 (s ++ t3.t) 0 nm) ?_ ?_ ?_ ?_ ?_ fun out hC hE => ?_
      iterate 5 · simp [tkD, tokD]
      obtain ⟨e1, ⟨cs, e4, e5⟩, e2, e3⟩ := hE
      subst e1
      exact ⟨by simp; omega, hQ _ _ ⟨by simp [stopV, eSyn], by (obtain ⟨b0, b2, b3, br, hb⟩ := bx_four e4 e2; exact ⟨rns [0, 1, 2, 3] [0] cs, by simp [hb, setAll, rnB], by rw [rns_length]; exact e5⟩), by simp, by simp⟩⟩
    ·simp only [eq_false h3k, if_false] at hRk
     subst hRk
     simp [h3k]
     refine ATT.fin02 hQ Tryz.func46 ?_
     exact ⟨by simp, HR.mk rfl rfl rfl rfl rfl rfl rfl⟩
  ·simp only [eq_false hk1, if_false] at hQ
   refine ATT.callA Tryz.func46 60 [0, 1, 2, 3] [0] 0 0 (f67_no t2 l2 d hk1 12 t.t 0 []) ?_ ?_ ?_ ?_ ?_ fun out hC hE => ?_
   iterate 5 · simp [tkD, tokD]
   obtain ⟨e1, ⟨cs, e4, e5⟩, e2, e3⟩ := hE
   subst e1
   exact ⟨by simp; omega, hQ _ _ ⟨by simp [stopV, eSyn], by (obtain ⟨b0, b2, b3, br, hb⟩ := bx_four e4 e2; exact ⟨rns [0, 1, 2, 3] [0] cs, by simp [hb, setAll, rnB], by rw [rns_length]; exact e5⟩), by simp, by simp⟩⟩
 ·simp only [eq_false h1, eq_false h2, eq_false h3, if_false]
  refine AF.go Tryz.func46 [(14, [oD 11 [(5, [0, 1, 2, 3])]]), (16, [oD 9 []])] fun tb TB Q hQ => ?_
  simp [TB]
  refine ATT.nilB 1 4 1 9 rfl rfl (by decide) (by simp) ?_
  simp
  refine ATT.callM Tryz.func46 60 [0] (hT) rfl ?_ ?_ ?_ ?_ ?_ ?_
  iterate 5 · simp [tkD, tokD]
  simp [TB, h1, h2, h3, tkD, tokD]
  refine ATT.pan hQ Tryz.func46 (by simp; exact ⟨rfl, rfl⟩) ?_ ?_ ?_
  iterate 2 · simp
  try simp [h1, h2, h3, tkD, tokD]
  exact ⟨rfl, by exact ⟨[_, _, _, _, _, _], rfl, rfl⟩, by simp, by simp⟩
end Go.SL
namespace Go.SL
open Go.Proofs
set_option maxRecDepth 10000
abbrev zeroN : D := .agg [.int .i64 0, .str ⟨#[]⟩, .int .i64 0, .int .i64 0, .sl true 0 [], .sl true 0 []]
abbrev ZC : List V := [.d (.int .i64 0), .d (.str ⟨#[]⟩), .d (.int .i64 0), .d (.int .i64 0), .d (.sl true 0 []), .d (.sl true 0 [])]
theorem f65_none (c0 c1 c2 c3 c4 c5 x1 x2 : V) (b : List Bx) (c : List (Option Vec)) :
  DCl Tryz.prog 65 [.ptr 0 0, .ptr 1 0, .ptr 2 0] none ⟨.cells [c0, c1, c2, c3, c4, c5] 75 :: .cells [x1] 3 :: .cells [x2] 26 :: b, c⟩ fun h => ∃ b c, h = ⟨.cells [c0, c1, c2, c3, c4, c5] 75 :: .cells [x1] 3 :: .cells [x2] 26 :: b, c⟩ := by
 refine DCl.of (ac := c65c) (ann := c65a) 60 Tryz.func65 rfl rfl c65call (fun _ _ => rfl) rfl rfl (by decide) c65ok ?_
 simp [c65c, c65t, recV]
 refine ATT.fin0' (fun _ _ h => h) Tryz.func65 c65res ?_
 exact ⟨by simp, ⟨_, rfl⟩, _, _, rfl⟩
theorem f65_some (a : Nat) (w : Int) (c0 c1 c2 c3 c4 c5 x1 x2 : V) (b : List Bx) (c : List (Option Vec)) :
  DCl Tryz.prog 65 [.ptr 0 0, .ptr 1 0, .ptr 2 0] (some (stopV a w)) ⟨.cells [c0, c1, c2, c3, c4, c5] 75 :: .cells [x1] 3 :: .cells [x2] 26 :: b, c⟩ fun h => ∃ b c, h = ⟨.cells ZC 75 :: .cells [.d (.int .i64 a)] 3 :: .cells [.d (.int .i64 w)] 26 :: b, c⟩ := by
 refine DCl.of (ac := c65c) (ann := c65a) 60 Tryz.func65 rfl rfl c65call (fun _ _ => rfl) rfl rfl (by decide) c65ok ?_
 simp [c65c, c65t, recV, stopV]
 refine ATT.fin0' (fun _ _ h => h) Tryz.func65 c65res ?_
 exact ⟨by simp, ⟨_, rfl⟩, _, _, rfl⟩
def UnR (r : Res Nd) (v : D) : Prop := match r with
 | .ok x _ => ∃ u, v = .tup [u, .int .i64 0, .int .i64 0] ∧ NdR x u
 | .no a w => v = .tup [zeroN, .int .i64 a, .int .i64 w]
 | .out => True
def uniS (n : Nat) (hd : List Tk → Res (ByteArray × List ByteArray)) (l : List Tk) : Res Nd :=
 (hd l).andThen fun p r => (bodyS n 0 0 r).andThen fun x r' => .ok (.mk 12 p.1 0 p.2.length (p.2 ++ x.1) x.2) r'
def UnQ (r : Res Nd) (o : Out) (h : H) : Prop := match r with
 | .ok x _ => ∃ c0 c1 c2 c3 c4 c5 b c, (∃ v, o = .ret v) ∧ h = ⟨.cells [.d c0, .d c1, .d c2, .d c3, .d c4, .d c5] 75 :: .cells [.d (.int .i64 0)] 3 :: .cells [.d (.int .i64 0)] 26 :: b, c⟩ ∧ NdR x (.agg [c0, c1, c2, c3, c4, c5])
 | .no a w => ∃ c0 c1 c2 c3 c4 c5 x1 x2 b c, o = .pan (stopV a w) ∧ h = ⟨.cells [c0, c1, c2, c3, c4, c5] 75 :: .cells [x1] 3 :: .cells [x2] 26 :: b, c⟩
 | .out => True
theorem six {cs : List V} (h : cs.length = 6) : ∃ c0 c1 c2 c3 c4 c5, cs = [c0, c1, c2, c3, c4, c5] := by
 match cs, h with
 | [c0, c1, c2, c3, c4, c5], _ => exact ⟨c0, c1, c2, c3, c4, c5, rfl⟩
theorem bx_two {l : List Bx} {b : Bx} (h : l[1]? = some b) : ∃ a r, l = a :: b :: r := by
 match l, h with
 | a :: x :: r, h => simp at h; subst h; exact ⟨a, r, rfl⟩
theorem upH_pan (x0 x1 x2 x3 b0 : Bx) (cs : List V) (e : TypeId) (br : List Bx) (v c : List (Option Vec)) (rv : List Nat) (kv : Nat) (hcs : cs.length = 6) :
  ∃ c0 c1 c2 c3 c4 c5 y c', upH ⟨[x0, x1, x2, x3], v⟩ ⟨b0 :: .cells cs e :: br, c⟩ [3, 0] rv 0 kv = ⟨.cells [c0, c1, c2, c3, c4, c5] e :: x1 :: x2 :: y, c'⟩ := by
 obtain ⟨c0, c1, c2, c3, c4, c5, h⟩ := six (cs := rns (upB [3, 0] 4 0) (upB rv v.length kv) cs) (by rw [rns_length]; exact hcs)
 refine ⟨c0, c1, c2, c3, c4, c5, [rnB (upB [3, 0] 4 0) (upB rv v.length kv) b0], (upH ⟨[x0, x1, x2, x3], v⟩ ⟨b0 :: .cells cs e :: br, c⟩ [3, 0] rv 0 kv).vc, ?_⟩
 rw [← h]
 simp [setAll, rnB]
theorem DCl.mono {P : Program} {g : FuncId} {a : List V} {u : Option V} {h0 : H} {R R' : H → Prop} (h : DCl P g a u h0 R) (k : ∀ h, R h → R' h) : DCl P g a u h0 R' :=
 ⟨h.1, fun κ w argv m r1 r2 r3 => (h.2 κ w argv m r1 r2 r3).mono fun _e _u _w ⟨v, κ', h', t1, t2, t3, t4, t5⟩ => ⟨v, κ', h', t1, t2, t3, t4, k _ t5⟩⟩
theorem f45_no {num : ByteArray → Bool} (hW : NumP 130 num) (s : ByteArray) (hs : s.size ≤ 1073741820) (a : Nat) (w : Int) (hw : w ≠ 0) (hr : readD num s = .tup [.sl true 0 [], .int .i64 a, .int .i64 w]) (g : FuncId) :
  DF Tryz.prog 45 [.str s, .fn (.func g) [] []] (.tup [zeroN, .int .i64 a, .int .i64 w]) := by
 have hR := f64_ok hW s hs
 rw [hr] at hR
 refine AF.start' 60 Tryz.func45 rfl rfl c45call c45ok fun Q hQ => ?_
 simp [c45c, c45t]
 refine ATT.callD Tryz.func45 60 (hR) ?_ ?_ ?_ ?_
 iterate 3 · simp
 simp [c45t, hw]
 refine ATT.fin' hQ Tryz.func45 c45res ?_
 simp
 all_goals (first | omega | exact ⟨_, rfl⟩ | skip)
theorem f45_yes {num : ByteArray → Bool} (hW : NumP 130 num) (s : ByteArray) (hs : s.size ≤ 1073741820) (l : List Tk) (_hl : WF l) (hr : readD num s = .tup [.sl false 3 (l.map tkD), .int .i64 0, .int .i64 0]) (g : FuncId)
  (hd : List Tk → Res (ByteArray × List ByteArray)) (hH : AF Tryz.prog g [.ptr 0 0, .ptr 1 0] ⟨[PB l 0, UB0], []⟩ (HR 0 (hd l))) (hwf : ∀ p r, hd l = .ok p r → WF r ∧ p.2.length ≤ 5000) (n : Nat) (hin : uniS n hd l ≠ .out) :
  DE Tryz.prog 45 [.str s, .fn (.func g) [] []] (UnR (uniS n hd l)) := by
 have hR := f64_ok hW s hs
 rw [hr] at hR
 refine AF.start' 60 Tryz.func45 rfl rfl c45call c45ok fun Q hQ => ?_
 simp [c45c, c45t]
 refine ATT.callD Tryz.func45 60 (hR) ?_ ?_ ?_ ?_
 iterate 3 · simp
 simp [c45t]
 refine ATT.defer (UnQ (uniS n hd l)) Tryz.func45 60 [(4, .ptr 0 0), (5, .ptr 1 0), (6, .ptr 2 0)] (by simp; rfl) c65call c45res rfl ?_ ?_
 ·simp [c45t]
  refine ATT.callA Tryz.func45 60 [3, 0] [] 0 1 hH (by simp) (by simp) (by simp) (by simp) (by simp) (fun out hC hE => ?_) (by simp)
  cases hh : hd l with
  | no a w =>
   rw [hh] at hE
   obtain ⟨e1, ⟨cs, e4, e5⟩, e2, e3⟩ := hE
   subst e1
   obtain ⟨hCb, hCc⟩ := hC
   simp only at e4 e2 e3
   obtain ⟨b0, br, hb⟩ := bx_two e4
   subst hb
   refine ⟨by simp; simpa using e3, ?_⟩
   simp only [uniS, hh, andThen_noE]
   obtain ⟨c0, c1, c2, c3, c4, c5, y, c', hu⟩ := upH_pan _ _ _ _ b0 cs 75 br _ hCc [] 1 e5
   rw [hu]
   exact ⟨_, _, _, _, _, _, _, _, _, _, by simp [stopV], rfl⟩
  | out => exact absurd hh (fun e => hin (by simp [uniS, e, Res.andThen]))
  | ok p r =>
   rw [hh] at hE
   obtain ⟨b, c, e1, e2⟩ := hE
   subst e1 e2
   refine ⟨by simp, ?_⟩
   simp [c45t]
   have hwl := hwf p r hh
   have hinB : bodyS n 0 0 r ≠ .out := fun e => hin (by simp [uniS, hh, e, Res.andThen])
   have hB := (allC n).body 0 r 0 p.2 (.int .i64 12) (.str p.1) (.int .i64 0) (.int .i64 p.2.length) (by omega) hwl.1 hwl.2 hinB
   refine ATT.callA Tryz.func45 60 [3, 0] [0] 0 1 hB (by simp) (by simp) (by simp) (by simp) (by simp) (fun out hC hE => ?_) (by simp)
   cases hres : bodyS n 0 0 r with
   | out => exact absurd hres hinB
   | no a w =>
    simp only [hres, BR] at hE
    obtain ⟨e1, ⟨cs, e4, e5⟩, e2, e3⟩ := hE
    subst e1
    obtain ⟨hCb, hCc⟩ := hC
    simp only at e4 e2 e3
    obtain ⟨b0, br, hb⟩ := bx_two e4
    subst hb
    refine ⟨by simp; simpa using e3, ?_⟩
    simp only [uniS, hh, hres, andThen_okE, andThen_noE]
    obtain ⟨c0, c1, c2, c3, c4, c5, y, c', hu⟩ := upH_pan _ _ _ _ b0 cs 75 br _ hCc [0] 1 e5
    rw [hu]
    exact ⟨_, _, _, _, _, _, _, _, _, _, by simp [stopV], rfl⟩
   | ok x r' =>
    simp only [hres, BR] at hE
    obtain ⟨b, c, ds, e1, e2, hds⟩ := hE
    subst e1 e2
    refine ⟨by simp, ?_⟩
    simp only [uniS, hh, hres, andThen_okE]
    simp [c45t]
    obtain ⟨xn, xk⟩ := x
    simp only
    cases hnm : p.2 ++ xn with
    | nil =>
     obtain ⟨h1, h2⟩ := List.append_eq_nil_iff.mp hnm
     simp only [h1, h2]
     cases ds with
     | nil =>
      refine ATT.fz (by simp) ?_
      simp
      refine ATT.finD Tryz.func45 (by simp) rfl (by simp) ?_
      exact ⟨_, _, _, _, _, _, _, _, ⟨_, rfl⟩, rfl, NdR.mk (by simp) (by simp) (fun h => by first | (simp at h; done) | (have := hds.length; exact List.length_eq_zero_iff.mp this.symm)) (by simp) hds⟩
     | cons d0 ds =>
      refine ATT.fz (by simp) ?_
      simp
      refine ATT.finD Tryz.func45 (by simp) rfl (by simp) ?_
      exact ⟨_, _, _, _, _, _, _, _, ⟨_, rfl⟩, rfl, NdR.mk (by simp) (by simp) (fun h => by first | (simp at h; done) | (have := hds.length; exact List.length_eq_zero_iff.mp this.symm)) (by simp) hds⟩
    | cons y yr =>
     have hlen : p.2.length + xn.length = (y :: yr).length := by rw [← hnm]; simp
     have hmm : (p.2.map fun s => V.d (.str s)) ++ (xn.map fun s => V.d (.str s)) = (y :: yr).map fun s => V.d (.str s) := by rw [← hnm]; simp
     simp only [hlen, hmm]
     cases ds with
     | nil =>
      refine ATT.fz (by simp) ?_
      simp
      refine ATT.finD Tryz.func45 (by simp) rfl (by simp) ?_
      exact ⟨_, _, _, _, _, _, _, _, ⟨_, rfl⟩, rfl, NdR.mk (by simp) (by simp) (fun h => by first | (simp at h; done) | (have := hds.length; exact List.length_eq_zero_iff.mp this.symm)) (by simp) hds⟩
     | cons d0 ds =>
      refine ATT.fz (by simp) ?_
      simp
      refine ATT.finD Tryz.func45 (by simp) rfl (by simp) ?_
      exact ⟨_, _, _, _, _, _, _, _, ⟨_, rfl⟩, rfl, NdR.mk (by simp) (by simp) (fun h => by first | (simp at h; done) | (have := hds.length; exact List.length_eq_zero_iff.mp this.symm)) (by simp) hds⟩
 ·intro out h1 hq
  cases hr : uniS n hd l with
  | out => exact absurd hr hin
  | no a w =>
   rw [hr] at hq hQ
   obtain ⟨c0, c1, c2, c3, c4, c5, x1, x2, b, c, e1, e2⟩ := hq
   subst e1 e2
   refine (f65_some a w c0 c1 c2 c3 c4 c5 x1 x2 b c).mono fun h ⟨b', c', e⟩ => ?_
   subst e
   exact ⟨_, rfl, hQ _ _ ⟨_, rfl, rfl⟩⟩
  | ok x r =>
   rw [hr] at hq hQ
   obtain ⟨c0, c1, c2, c3, c4, c5, b, c, ⟨v, e1⟩, e2, hx⟩ := hq
   subst e1 e2
   refine (f65_none (.d c0) (.d c1) (.d c2) (.d c3) (.d c4) (.d c5) (.d (.int .i64 0)) (.d (.int .i64 0)) b c).mono fun h ⟨b', c', e⟩ => ?_
   subst e
   exact ⟨_, rfl, hQ _ _ ⟨_, rfl, _, rfl, hx⟩⟩
end Go.SL
namespace Go.SL
open Go.Proofs
set_option maxRecDepth 10000
theorem patKeysS_wf : ∀ {n : Nat} {s : ByteArray} {acc : List ByteArray} {l : List Tk} {x r}, WF l → patKeysS n s acc l = .ok x r → WF r ∧ x.2.length + r.length ≤ acc.length + l.length
 | 0, s, acc, l, x, r, h, e => by simp [patKeysS] at e
 | n + 1, s, acc, l, x, r, h, e => by
  simp only [patKeysS] at e
  split at e
  ·rename_i hk
   have h1 := h.short hk (by decide)
   split at e
   ·rename_i hk2
    have h2 := h1.1.short hk2 (by decide)
    have h3 := patKeysS_wf h2.1 e
    have := h1.2; have := h2.2
    exact ⟨h3.1, by have := h3.2; simp at this; omega⟩
   ·simp at e
  ·simp only [Res.ok.injEq] at e
   obtain ⟨e1, e2⟩ := e
   subst e1 e2
   exact ⟨h, Nat.le_refl _⟩
theorem patS_wf {n : Nat} {l : List Tk} {x r} (h : WF l) (e : patS n l = .ok x r) : WF r ∧ x.2.length ≤ 5000 := by
 have hl := h.2.2
 simp only [patS] at e
 split at e
 ·rename_i hk
  have h1 := h.short hk (by decide)
  simp only [Res.ok.injEq] at e
  obtain ⟨e1, e2⟩ := e
  subst e1 e2
  exact ⟨h1.1, by simp⟩
 split at e
 ·rename_i hk
  have h1 := h.short hk (by decide)
  split at e
  ·rename_i hk2
   have h2 := h1.1.short hk2 (by decide)
   simp only [Res.ok.injEq] at e
   obtain ⟨e1, e2⟩ := e
   subst e1 e2
   exact ⟨h2.1, by simp⟩
  ·simp at e
 split at e
 ·have h3 := patKeysS_wf h e
  exact ⟨h3.1, by have := h3.2; simp at this; omega⟩
 ·simp at e
theorem patKeysS_in : ∀ {n : Nat} {s : ByteArray} {acc : List ByteArray} {l : List Tk}, WF l → l.length ≤ n → patKeysS n s acc l ≠ .out
 | 0, s, acc, l, h, hn => by obtain ⟨t, r, e⟩ := h.cons; subst e; simp at hn
 | n + 1, s, acc, l, h, hn => by
  simp only [patKeysS]
  split
  ·rename_i hk
   have h1 := h.short hk (by decide)
   split
   ·rename_i hk2
    have h2 := h1.1.short hk2 (by decide)
    exact patKeysS_in h2.1 (by have := h1.2; have := h2.2; omega)
   ·simp
  ·simp
theorem patS_in {n : Nat} {l : List Tk} (h : WF l) (hn : l.length ≤ n) : patS n l ≠ .out := by
 simp only [patS]
 split
 ·simp
 split
 ·split <;> simp
 split
 ·exact patKeysS_in h hn
 ·simp
theorem subT_le (s : ByteArray) (i j : Nat) : (subT s i j).size ≤ s.size := by simp [subT]; omega
theorem wordS_text {num : ByteArray → Bool} {s : ByteArray} (hs : s.size ≤ 4096) {i : Nat} {k : Int} {t : ByteArray} {e : Nat} (h : wordS num s i = some (k, t, e)) : t.size ≤ 1048576 := by
 have sb : ∀ a b, (subT s a b).size ≤ 1048576 := fun a b => by have := subT_le s a b; omega
 have qb : ∀ q, quB q = true → (quT q).size ≤ 1048576 := fun q h => by
  cases q with
  | none => simp [quB] at h
  | some l =>
   simp only [quB, decide_eq_true_eq] at h
   show l.toArray.size ≤ 1048576
   simp; omega
 unfold wordS at h
 have key : ∀ {k' : Int} {t' : ByteArray} {e' : Nat}, some (k', t', e') = some (k, t, e) → t'.size ≤ 1048576 → t.size ≤ 1048576 := fun h1 h2 => by
  simp only [Option.some.injEq, Prod.mk.injEq] at h1
  rw [← h1.2.1]; exact h2
 split at h
 ·split at h
  ·exact key h (sb _ _)
  ·exact key h (sb _ _)
 split at h
 ·split at h
  ·exact key h (sb _ _)
  ·simp at h
 split at h
 ·split at h
  ·rename_i hq
   exact key h (qb _ hq)
  ·simp at h
 split at h
 ·split at h
  ·exact key h (sb _ _)
  ·split at h
   ·rename_i hq
    refine key h ?_
    unfold symT
    unfold symB at hq
    split
    ·exact sb _ _
    ·rename_i hn
     rw [if_neg hn] at hq
     exact qb _ hq
   ·simp at h
 split at h
 ·split at h
  ·exact key h (sb _ _)
  ·exact key h (sb _ _)
 split at h
 ·exact key h (sb _ _)
 split at h
 ·exact key h (sb _ _)
 ·simp at h
theorem lexS_wf0 {num : ByteArray → Bool} {s : ByteArray} (hs : s.size ≤ 4096) : ∀ m i l, s.size - i = m → i ≤ s.size → lexS num s i = .inl l → (∃ a t, l = a ++ [t] ∧ t.k = 0) ∧ (∀ t ∈ l, t.t.size ≤ 1048576) ∧ l.length ≤ s.size - i + 1 := by
 intro m
 induction m using Nat.strongRecOn with
 | ind m ih =>
  intro i l hm hi h
  rw [lexS_eq] at h
  have h1 := skipS_le blankS s _ i rfl
  split at h
  ·rename_i hlt
   split at h
   ·split at h
    ·rename_i hq
     have h2 := skipS_le notQ s _ (skipS blankS s i + 1) rfl
     obtain ⟨g1, g2, g3⟩ := ih _ (by omega) _ _ rfl (by omega) h
     exact ⟨g1, g2, by omega⟩
    ·simp at h
   ·split at h
    ·rename_i k t e hw
     have hwl := wordS_lt hlt hw
     rw [if_pos hwl.1] at h
     split at h
     ·rename_i l' hl'
      simp only [Sum.inl.injEq] at h
      subst h
      obtain ⟨⟨a, t', g0, g1⟩, g2, g3⟩ := ih _ (by have := hwl.2; omega) _ _ rfl (by have := hwl.2; omega) hl'
      refine ⟨⟨⟨k, t, skipS blankS s i⟩ :: a, t', by rw [g0]; rfl, g1⟩, ?_, by have := hwl.1; have := hwl.2; simp only [List.length_cons]; omega⟩
      intro y hy
      simp only [List.mem_cons] at hy
      rcases hy with hy | hy
      ·subst hy; exact wordS_text hs hw
      ·exact g2 y hy
     ·simp at h
    ·simp at h
  ·simp only [Sum.inl.injEq] at h
   subst h
   exact ⟨⟨[], _, rfl, rfl⟩, by intro y hy; simp at hy; subst hy; exact Nat.zero_le _, by simp⟩
theorem lexS_wf {num : ByteArray → Bool} {s : ByteArray} (hs : s.size ≤ 4096) {l : List Tk} (h : lexS num s 0 = .inl l) : WF l := by
 obtain ⟨g1, g2, g3⟩ := lexS_wf0 hs _ 0 l rfl (Nat.zero_le _) h
 exact ⟨g1, g2, by omega⟩
def fuel (l : List Tk) : Nat := 20 * l.length + 20
theorem uniS_in {hd : List Tk → Res (ByteArray × List ByteArray)} {l : List Tk} (h1 : hd l ≠ .out) (h2 : ∀ p r, hd l = .ok p r → WF r ∧ r.length ≤ l.length) : uniS (fuel l) hd l ≠ .out := by
 refine andThen_in h1 fun p r e => andThen_in ?_ fun _ _ _ => by simp
 have h3 := h2 p r e
 exact (enough (fuel l)).body h3.1 (by unfold fuel; have := h3.2; omega)
def headS (m : Bool) (l : List Tk) : Res (ByteArray × List ByteArray) := if m then patS (fuel l) l else .ok (⟨#[]⟩, []) l
def parseD (num : ByteArray → Bool) (m : Bool) (s : ByteArray) : Res Nd :=
 if 4096 < s.size then .no 0 3 else
 match lexS num s 0 with
 | .inl l => uniS (fuel l) (headS m) l
 | .inr a => .no a 20
theorem patKeysS_le : ∀ {n : Nat} {s : ByteArray} {acc : List ByteArray} {l : List Tk} {x r}, patKeysS n s acc l = .ok x r → r.length ≤ l.length
 | 0, s, acc, l, x, r, e => by simp [patKeysS] at e
 | n + 1, s, acc, l, x, r, e => by
  simp only [patKeysS] at e
  split at e
  ·split at e
   ·have h3 := patKeysS_le e
    simp at h3; omega
   ·simp at e
  ·simp only [Res.ok.injEq] at e
   rw [e.2]; exact Nat.le_refl _
theorem patS_le {n : Nat} {l : List Tk} {x r} (e : patS n l = .ok x r) : r.length ≤ l.length := by
 simp only [patS] at e
 split at e
 ·simp only [Res.ok.injEq] at e; rw [← e.2]; simp
 split at e
 ·split at e
  ·simp only [Res.ok.injEq] at e; rw [← e.2]; simp; omega
  ·simp at e
 split at e
 ·exact patKeysS_le e
 ·simp at e
theorem headS_wf {m : Bool} {l : List Tk} {x r} (h : WF l) (e : headS m l = .ok x r) : WF r ∧ x.2.length ≤ 5000 := by
 cases m with
 | true => exact patS_wf h e
 | false => simp only [headS, Bool.false_eq_true, if_false, Res.ok.injEq] at e; rw [← e.1, ← e.2]; exact ⟨h, by simp⟩
theorem headS_le {m : Bool} {l : List Tk} {x r} (e : headS m l = .ok x r) : r.length ≤ l.length := by
 cases m with
 | true => exact patS_le e
 | false => simp only [headS, Bool.false_eq_true, if_false, Res.ok.injEq] at e; rw [← e.2]; exact Nat.le_refl _
theorem headS_in {m : Bool} {l : List Tk} (h : WF l) : headS m l ≠ .out := by
 cases m with
 | true => exact patS_in h (by unfold fuel; omega)
 | false => simp [headS]
theorem parseD_in (num : ByteArray → Bool) (m : Bool) (s : ByteArray) : parseD num m s ≠ .out := by
 unfold parseD
 split
 ·simp
 ·split
  ·rename_i hs l hl
   have hwf := lexS_wf (by omega) hl
   exact uniS_in (headS_in hwf) fun p r e => ⟨(headS_wf hwf e).1, headS_le e⟩
  ·simp
theorem f45_ok {num : ByteArray → Bool} (hW : NumP 130 num) (s : ByteArray) (hs : s.size ≤ 1073741820) (m : Bool) (g : FuncId) (hH : ∀ l, WF l → AF Tryz.prog g [.ptr 0 0, .ptr 1 0] ⟨[PB l 0, UB0], []⟩ (HR 0 (headS m l))) :
  DE Tryz.prog 45 [.str s, .fn (.func g) [] []] (UnR (parseD num m s)) := by
 unfold parseD
 by_cases hz : 4096 < s.size
 ·rw [if_pos hz]
  have := f45_no hW s hs 0 3 (by decide) (by simp [readD, hz]) g
  exact this.mono fun o h e => ⟨_, e, rfl⟩
 ·rw [if_neg hz]
  cases hl : lexS num s 0 with
  | inr a =>
   have := f45_no hW s hs a 20 (by decide) (by simp [readD, hz, hl]) g
   exact this.mono fun o h e => ⟨_, e, rfl⟩
  | inl l =>
   have hwf := lexS_wf (by omega) hl
   exact f45_yes hW s hs l hwf (by simp [readD, hz, hl]) g (headS m) (hH l hwf) (fun p r e => headS_wf hwf e) (fuel l) (uniS_in (headS_in hwf) fun p r e => ⟨(headS_wf hwf e).1, headS_le e⟩)
theorem f35_ok {num : ByteArray → Bool} (hW : NumP 130 num) (s : ByteArray) (hs : s.size ≤ 1073741820) : DE Tryz.prog 35 [.str s] (UnR (parseD num true s)) := by
 have hU := f45_ok hW s hs true 46 fun l hl => f46_ok (fuel l) 0 l hl (by unfold fuel; omega)
 refine AF.go Tryz.func35 [] fun tb TB Q hQ => ?_
 simp [TB]
 refine ATT.callE Tryz.func35 60 hU ?_ ?_ ?_ fun v hv => ?_
 iterate 3 · simp
 cases hr : parseD num true s with
 | ok x l =>
  rw [hr] at hv hQ
  obtain ⟨u, e, hu⟩ := hv
  subst e
  obtain ⟨nl1_u, z1_u, nl2_u, z2_u, ds_u, hv_u, ha_u, hb_u, hc_u, hd_u, he_u⟩ := hu.shape
  have hw_u := hv_u
  subst hw_u
  simp
  refine ATT.fin2 hQ Tryz.func35 ?_
  exact ⟨by simp, _, rfl, _, rfl, hu⟩
 | no a w =>
  rw [hr] at hv hQ
  have e : v = _ := hv
  subst e
  simp
  refine ATT.fin2 hQ Tryz.func35 ?_
  exact ⟨by simp, _, rfl, rfl⟩
 | out => exact absurd hr (parseD_in _ _ _)
end Go.SL
namespace Go.SL
open Go.Proofs
set_option maxRecDepth 10000
def cnt (s : ByteArray) : Nat → Nat
 | 0 => 0
 | i + 1 => cnt s i + (if sbyte s i = 58 then 1 else 0)
@[simp] theorem cnt_zero (s : ByteArray) : cnt s 0 = 0 := rfl
def plainB (s : ByteArray) : Bool := decide (0 < s.size) && letterS (sbyte s 0) && decide (nameS s 0 = s.size)
def argsN (s : ByteArray) : Nat := if plainB s then 0 else if s.size = 0 ∨ plainB (s.extract 0 1) = true then cnt s s.size else 1
def numS (t : ByteArray) : Bool := !(decide (sbyte t 0 = 48) && decide (1 < t.size)) && decide (t.size ≤ 400) && decide (dval t t.size < 256 ^ 128)
theorem NumP_of {f : FuncId} (h : ∀ s, digs s → s.size ≤ 1073741824 → DE Tryz.prog f [.str s] (ReadQ s)) : NumP f numS := fun t hd ht => by
 refine AF.mono (h t hd ht) fun o h' hq => ?_
 obtain ⟨v, e, hv⟩ := hq
 refine ⟨v, e, ?_⟩
 unfold ReadQ at hv
 unfold numS
 split at hv
 ·rename_i h0
  exact ⟨_, _, _, _, _, hv, by simp [h0.1, h0.2]⟩
 rename_i h0
 split at hv
 ·rename_i h4
  exact ⟨_, _, _, _, _, hv, by simp; intro _ _; omega⟩
 rename_i h4
 have h0' : (decide (sbyte t 0 = 48) && decide (1 < t.size)) = false := by simpa using h0
 have h4' : t.size ≤ 400 := by omega
 split at hv
 ·rename_i hn
  obtain ⟨u, e1, k, u', e2, nl, sz, l, e3, _⟩ := hv
  subst e2 e3
  exact ⟨_, _, _, _, _, e1, by simp only [h0', h4', hn]; simp⟩
 ·rename_i hn
  exact ⟨_, _, _, _, _, hv, by simp only [h0', h4', hn]; simp⟩
theorem hWhole : NumP 130 numS := NumP_of f130_ok
end Go.SL
namespace Go.SL
def depS (t : Tk) : Int := if t.k = 8 ∨ t.k = 17 then 1 else if t.k = 9 then -1 else 0
def wholeS : List Tk → Int → Bool
 | [], _ => false
 | t :: r, n => if n + depS t = 0 then r.isEmpty else wholeS r (n + depS t)
def path : Int → List Tk → Prop
 | n, [] => n = 0
 | n, t :: r => 0 ≤ n + depS t ∧ path (n + depS t) r
theorem path.app : ∀ {a b : List Tk} {n : Int}, path n a → path 0 b → path n (a ++ b)
 | [], b, n, h, g => by simp only [path] at h; subst h; exact g
 | t :: r, b, n, h, g => ⟨h.1, path.app h.2 g⟩
theorem path.close : ∀ {a : List Tk} {n : Int} {t : Tk}, path n a → 0 ≤ n → depS t = -1 → path (n + 1) (a ++ [t])
 | [], n, t, h, h0, ht => by simp only [path] at h; subst h; simp [path, ht]
 | x :: r, n, t, h, h0, ht => by
  have e : n + 1 + depS x = n + depS x + 1 := by omega
  refine ⟨by rw [e]; have := h.1; omega, ?_⟩
  rw [e]
  exact path.close h.2 h.1 ht
theorem path.whole : ∀ {a : List Tk} {n : Int} {t : Tk} {b : List Tk}, path n a → 0 ≤ n → depS t = -1 → wholeS (a ++ t :: b) (n + 1) = b.isEmpty
 | [], n, t, b, h, h0, ht => by simp only [path] at h; subst h; simp [wholeS, ht]
 | x :: r, n, t, b, h, h0, ht => by
  have e : n + 1 + depS x = n + depS x + 1 := by omega
  have h1 := h.1
  simp only [List.cons_append, wholeS]
  rw [if_neg (by omega), e]
  exact path.whole h.2 h.1 ht
def BalE (l r : List Tk) : Prop := ∃ w, l = w ++ r ∧ path 0 w
def Bal (l r : List Tk) : Prop := ∃ w, l = w ++ r ∧ path 0 w ∧ w ≠ []
theorem BalE.rfl {l : List Tk} : BalE l l := ⟨[], by simp, by simp [path]⟩
theorem Bal.e {l r : List Tk} (h : Bal l r) : BalE l r := by obtain ⟨w, h1, h2, _⟩ := h; exact ⟨w, h1, h2⟩
theorem BalE.trans {a b c : List Tk} (h : BalE a b) (g : BalE b c) : BalE a c := by
 obtain ⟨w, h1, h2⟩ := h
 obtain ⟨v, g1, g2⟩ := g
 exact ⟨w ++ v, by rw [h1, g1]; simp, h2.app g2⟩
theorem Bal.trans {a b c : List Tk} (h : Bal a b) (g : BalE b c) : Bal a c := by
 obtain ⟨w, h1, h2, h3⟩ := h
 obtain ⟨v, g1, g2⟩ := g
 exact ⟨w ++ v, by rw [h1, g1]; simp, h2.app g2, by simp [h3]⟩
theorem Bal.one {l : List Tk} {k : Int} (hk : kd l = k) (h0 : k ≠ 0 ∧ k ≠ 8 ∧ k ≠ 17 ∧ k ≠ 9) : Bal l l.tail := by
 cases l with
 | nil => exact absurd hk (Ne.symm h0.1)
 | cons t r =>
  have hk' : t.k = k := hk
  refine ⟨[t], rfl, ?_, by simp⟩
  simp [path, depS, hk', h0.2.1, h0.2.2.1, h0.2.2.2]
theorem Bal.paren {l a : List Tk} (hk : kd l = 8 ∨ kd l = 17) (h : BalE l.tail a) (ha : kd a = 9) : Bal l a.tail := by
 cases l with
 | nil => simp [kd] at hk
 | cons t r =>
  obtain ⟨w, h1, h2⟩ := h
  cases a with
  | nil => simp [kd] at ha
  | cons t9 a =>
   have hk' : t.k = 8 ∨ t.k = 17 := hk
   have ha' : t9.k = 9 := ha
   have h1' : r = w ++ t9 :: a := h1
   refine ⟨t :: (w ++ [t9]), by rw [h1']; simp, ?_, by simp⟩
   have ht : depS t = 1 := by simp [depS, hk']
   have := h2.close (Int.le_refl 0) (show depS t9 = -1 by simp [depS, ha'])
   simp only [path, ht]
   exact ⟨by decide, this⟩
theorem namesS_bal : ∀ {l : List Tk}, BalE l (namesS l).2
 | [] => BalE.rfl
 | t :: r => by
  simp only [namesS]
  split
  ·rename_i hk
   exact (Bal.one (l := t :: r) (k := 1) hk (by decide)).e.trans namesS_bal
  ·exact BalE.rfl
theorem argsS_bal : ∀ {n : Nat} {l : List Tk} {x r}, argsS n l = .ok x r → BalE l r
 | 0, l, x, r, e => by simp [argsS] at e
 | n + 1, l, x, r, e => by
  simp only [argsS] at e
  split at e
  ·rename_i hk
   split at e
   ·rename_i hk2
    obtain ⟨a, r', e1, e2⟩ := andThen_ok e
    simp at e2
    obtain ⟨_, e2⟩ := e2
    subst e2
    exact (Bal.one hk (by decide)).e.trans ((Bal.one hk2 (by decide)).e.trans (argsS_bal e1))
   ·simp at e
  ·simp at e
   obtain ⟨_, e⟩ := e
   subst e
   exact BalE.rfl
theorem tempsS_bal {l : List Tk} {x r} (e : tempsS l = .ok x r) : BalE l r := by
 unfold tempsS at e
 split at e
 ·rename_i hk
  split at e
  ·rename_i hk2
   simp at e
   rw [← e.2]
   exact (Bal.one hk (by decide)).e.trans (namesS_bal.trans (Bal.one hk2 (by decide)).e)
  ·simp at e
 ·simp at e
  rw [← e.2]
  exact BalE.rfl
def KP (l : List Tk) (x : Nd × Bool) (r : List Tk) : Prop :=
 Bal l r ∧ (kd l ≠ 8 → x.2 = true) ∧ (kd l = 8 → ∃ t w t9 w2, l = t :: (w ++ t9 :: (w2 ++ r)) ∧ path 0 w ∧ depS t = 1 ∧ depS t9 = -1 ∧ (x.2 = true ↔ w2 ≠ []))
theorem KP.more {l : List Tk} {x y : Nd × Bool} {r r' : List Tk} (h : KP l x r) (g : Bal r r') (hy : y.2 = true) : KP l y r' := by
 refine ⟨h.1.trans g.e, fun _ => hy, fun hk => ?_⟩
 obtain ⟨t, w, t9, w2, h1, h2, h3, h4, h5⟩ := h.2.2 hk
 obtain ⟨v, g1, g2, g3⟩ := g
 exact ⟨t, w, t9, w2 ++ v, by rw [h1, g1]; simp, h2, h3, h4, by simp [hy, g3]⟩
theorem KP.of {l : List Tk} {x : Nd × Bool} {r : List Tk} (h : Bal l r) (hk : kd l ≠ 8) (hx : x.2 = true) : KP l x r := ⟨h, fun _ => hx, fun h => absurd h hk⟩
structure PresB (n : Nat) : Prop where
 expr : ∀ {d l x r}, exprS n d l = .ok x r → Bal l r
 casc : ∀ {d l x r}, cascS n d l = .ok x r → Bal l r
 semis : ∀ {d a l x r}, semisS n d a l = .ok x r → BalE l r
 msg : ∀ {d l x r}, msgS n d l = .ok x r → Bal l r
 keys : ∀ {d s a l x r}, keysS n d s a l = .ok x r → BalE l r ∧ (kd l = 2 → Bal l r)
 keyed : ∀ {d l x r}, keyedS n d l = .ok x r → KP l x r
 binary : ∀ {d l x r}, binaryS n d l = .ok x r → KP l x r
 unary : ∀ {d l x r}, unaryS n d l = .ok x r → KP l x r
 chain : ∀ {d c l0 y l x r}, KP l0 y l → chainS n d c y l = .ok x r → KP l0 x r
 prim : ∀ {d l x r}, primS n d l = .ok x r → KP l x r
 list : ∀ {d l x r}, (kd l = 17 ∨ kd l = 8) → listS n d l = .ok x r → Bal l r
 elems : ∀ {d a l x r}, elemsS n d a l = .ok x r → BalE l r ∧ kd r = 9
 elem : ∀ {d l x r}, elemS n d l = .ok x r → Bal l r
 block : ∀ {d l x r}, kd l = 10 → blockS n d l = .ok x r → Bal l r
 body : ∀ {d e l x r}, bodyS n d e l = .ok x r → BalE l r ∧ kd r = e
 stmts : ∀ {d e a l x r}, stmtsS n d e a l = .ok x r → BalE l r ∧ kd r = e
 stmt : ∀ {d l x r}, stmtS n d l = .ok x r → Bal l r
theorem presB : ∀ n, PresB n
 | 0 => by constructor <;> intros <;> simp_all [exprS, cascS, semisS, msgS, keysS, keyedS, binaryS, unaryS, chainS, primS, listS, elemsS, elemS, blockS, bodyS, stmtsS, stmtS]
 | n + 1 => by
  have ih := presB n
  constructor
  case expr =>
   intro d l x r e
   simp only [exprS] at e
   split at e
   ·rename_i hk
    split at e
    ·simp at e
    ·obtain ⟨a, r', e1, e2⟩ := andThen_ok e
     simp at e2
     rw [← e2.2]
     exact (Bal.one hk.1 (by decide)).trans ((Bal.one hk.2 (by decide)).e.trans (ih.expr e1).e)
   ·exact ih.casc e
  case casc =>
   intro d l x r e
   simp only [cascS] at e
   obtain ⟨a, r', e1, e2⟩ := andThen_ok e
   have h1 := (ih.keyed e1).1
   split at e2
   ·split at e2
    ·obtain ⟨b, r2, e3, e4⟩ := andThen_ok e2
     simp at e4
     rw [← e4.2]
     exact h1.trans (ih.semis e3)
    ·simp at e2
   ·simp at e2
    rw [← e2.2]; exact h1
  case semis =>
   intro d a l x r e
   simp only [semisS] at e
   split at e
   ·rename_i hk
    obtain ⟨b, r2, e3, e4⟩ := andThen_ok e
    exact (Bal.one hk (by decide)).e.trans ((ih.msg e3).e.trans (ih.semis e4))
   ·simp at e
    rw [← e.2]; exact BalE.rfl
  case msg =>
   intro d l x r e
   simp only [msgS] at e
   split at e
   ·rename_i hk
    simp at e
    rw [← e.2]; exact Bal.one hk (by decide)
   ·split at e
    ·rename_i hk
     obtain ⟨b, r2, e3, e4⟩ := andThen_ok e
     simp at e4
     rw [← e4.2]
     exact (Bal.one hk (by decide)).trans (ih.unary e3).1.e
    ·split at e
     ·rename_i hk
      obtain ⟨b, r2, e3, e4⟩ := andThen_ok e
      simp at e4
      rw [← e4.2]
      exact (ih.keys e3).2 hk
     ·simp at e
  case keys =>
   intro d s a l x r e
   simp only [keysS] at e
   split at e
   ·rename_i hk
    obtain ⟨b, r2, e3, e4⟩ := andThen_ok e
    have h := (Bal.one hk (by decide)).trans ((ih.binary e3).1.e.trans (ih.keys e4).1)
    exact ⟨h.e, fun _ => h⟩
   ·rename_i hk
    simp at e
    rw [← e.2]; exact ⟨BalE.rfl, fun h => absurd h hk⟩
  case keyed =>
   intro d l x r e
   simp only [keyedS] at e
   obtain ⟨b, r2, e3, e4⟩ := andThen_ok e
   have h1 := ih.binary e3
   split at e4
   ·obtain ⟨c, r3, e5, e6⟩ := andThen_ok e4
    simp at e6
    rw [← e6.2, ← e6.1]
    exact h1.more (ih.msg e5) rfl
   ·simp at e4
    rw [← e4.2, ← e4.1]; exact h1
  case binary =>
   intro d l x r e
   simp only [binaryS] at e
   obtain ⟨b, r2, e3, e4⟩ := andThen_ok e
   exact ih.chain (ih.unary e3) e4
  case unary =>
   intro d l x r e
   simp only [unaryS] at e
   obtain ⟨b, r2, e3, e4⟩ := andThen_ok e
   exact ih.chain (ih.prim e3) e4
  case chain =>
   intro d c l0 y l x r h e
   simp only [chainS] at e
   split at e
   ·obtain ⟨b, r2, e3, e4⟩ := andThen_ok e
    exact ih.chain (h.more (ih.msg e3) rfl) e4
   ·simp at e
    rw [← e.2, ← e.1]; exact h
  case prim =>
   intro d l x r e
   have t : ∀ {k : Int} {y : Nd}, kd l = k → (k ≠ 0 ∧ k ≠ 8 ∧ k ≠ 17 ∧ k ≠ 9) → Res.ok (y, true) l.tail = Res.ok x r → KP l x r := fun hk h0 e => by
    simp at e
    rw [← e.2, ← e.1]
    exact KP.of (Bal.one hk h0) (by rw [hk]; exact h0.2.1) rfl
   simp only [primS] at e
   split at e
   ·rename_i hk; exact t hk (by decide) e
   split at e
   ·rename_i hk; exact t hk (by decide) e
   split at e
   ·rename_i hk; exact t hk (by decide) e
   split at e
   ·rename_i hk; exact t hk (by decide) e
   split at e
   ·rename_i hk
    obtain ⟨b, r2, e3, e4⟩ := andThen_ok e
    simp at e4
    rw [← e4.2, ← e4.1]
    exact KP.of (ih.list (.inl hk) e3) (by rw [hk]; decide) rfl
   split at e
   ·rename_i hk
    obtain ⟨b, r2, e3, e4⟩ := andThen_ok e
    simp at e4
    rw [← e4.2, ← e4.1]
    exact KP.of (ih.block hk e3) (by rw [hk]; decide) rfl
   split at e
   ·rename_i hk
    split at e
    ·simp at e
    ·obtain ⟨b, r2, e3, e4⟩ := andThen_ok e
     have h2 := ih.expr e3
     split at e4
     ·rename_i hk2
      simp at e4
      rw [← e4.2, ← e4.1]
      refine ⟨Bal.paren (.inl hk) h2.e hk2, fun h => absurd hk h, fun _ => ?_⟩
      obtain ⟨w, g1, g2, g3⟩ := h2
      cases l with
      | nil => simp [kd] at hk
      | cons t8 l =>
       cases r2 with
       | nil => simp [kd] at hk2
       | cons t9 r2 =>
        have hk' : t8.k = 8 := hk
        have ha' : t9.k = 9 := hk2
        have g1' : l = w ++ t9 :: r2 := g1
        exact ⟨t8, w, t9, [], by rw [g1']; simp, g2, by simp [depS, hk'], by simp [depS, ha'], by simp⟩
     ·simp at e4
   ·simp at e
  case list =>
   intro d l x r hk e
   simp only [listS] at e
   split at e
   ·simp at e
   ·obtain ⟨b, r2, e3, e4⟩ := andThen_ok e
    simp at e4
    rw [← e4.2]
    have h2 := ih.elems e3
    exact Bal.paren hk.symm h2.1 h2.2
  case elems =>
   intro d a l x r e
   simp only [elemsS] at e
   split at e
   ·rename_i hk
    simp at e
    rw [← e.2]; exact ⟨BalE.rfl, hk⟩
   ·obtain ⟨b, r2, e3, e4⟩ := andThen_ok e
    have h1 := ih.elem e3
    have h2 := ih.elems e4
    exact ⟨h1.e.trans h2.1, h2.2⟩
  case elem =>
   intro d l x r e
   have t : ∀ {k : Int} {y : Nd}, kd l = k → (k ≠ 0 ∧ k ≠ 8 ∧ k ≠ 17 ∧ k ≠ 9) → Res.ok y l.tail = Res.ok x r → Bal l r := fun hk h0 e => by
    simp at e
    rw [← e.2]; exact Bal.one hk h0
   simp only [elemS] at e
   split at e
   ·rename_i hk; exact ih.list hk e
   split at e
   ·rename_i hk; exact t hk (by decide) e
   split at e
   ·rename_i hk; exact t hk (by decide) e
   split at e
   ·rename_i hk; exact t hk (by decide) e
   split at e
   ·rename_i hk
    rcases hk with hk | hk | hk <;> exact t hk (by decide) e
   ·simp at e
  case block =>
   intro d l x r hk e
   have h1 : Bal l l.tail := Bal.one hk (by decide)
   have t : ∀ {d l0 r0 ags}, Bal l l0 → ((bodyS n d 11 l0).andThen fun x r' => .ok (Nd.mk 10 ⟨#[]⟩ (pl l) (List.length ags) (ags ++ x.1) x.2) r'.tail) = Res.ok x r0 → Bal l r0 := fun h2 e => by
    obtain ⟨b, r2, e3, e4⟩ := andThen_ok e
    simp at e4
    rw [← e4.2]
    have h3 := ih.body e3
    exact h2.trans (h3.1.trans (Bal.one h3.2 (by decide)).e)
   simp only [blockS] at e
   split at e
   ·simp at e
   ·obtain ⟨b, r2, e3, e4⟩ := andThen_ok e
    have h2 := argsS_bal e3
    split at e4
    ·split at e4
     ·rename_i hk2
      exact t (h1.trans (h2.trans (Bal.one hk2 (by decide)).e)) e4
     ·simp at e4
    ·exact t (h1.trans h2) e4
  case body =>
   intro d e0 l x r e
   simp only [bodyS] at e
   obtain ⟨b, r2, e3, e4⟩ := andThen_ok e
   obtain ⟨c, r3, e5, e6⟩ := andThen_ok e4
   simp at e6
   rw [← e6.2]
   have h1 := tempsS_bal e3
   have h2 := ih.stmts e5
   exact ⟨h1.trans h2.1, h2.2⟩
  case stmts =>
   intro d e0 a l x r e
   simp only [stmtsS] at e
   split at e
   ·rename_i hk
    simp at e
    rw [← e.2]; exact ⟨BalE.rfl, hk⟩
   ·obtain ⟨b, r2, e3, e4⟩ := andThen_ok e
    have h1 := ih.stmt e3
    split at e4
    ·rename_i hk
     have h2 : Bal r2 r2.tail := Bal.one hk.1 (by decide)
     have h3 := ih.stmts e4
     exact ⟨h1.e.trans (h2.e.trans h3.1), h3.2⟩
    ·split at e4
     ·rename_i hk
      have h2 : Bal r2 r2.tail := Bal.one hk (by decide)
      split at e4
      ·rename_i hk2
       simp at e4
       rw [← e4.2]; exact ⟨h1.e.trans h2.e, hk2⟩
      ·simp at e4
     ·split at e4
      ·rename_i hk2
       simp at e4
       rw [← e4.2]; exact ⟨h1.e, hk2⟩
      ·simp at e4
  case stmt =>
   intro d l x r e
   simp only [stmtS] at e
   split at e
   ·rename_i hk
    obtain ⟨b, r2, e3, e4⟩ := andThen_ok e
    simp at e4
    rw [← e4.2]
    exact (Bal.one hk (by decide)).trans (ih.expr e3).e
   ·obtain ⟨b, r2, e3, e4⟩ := andThen_ok e
    simp at e4
    rw [← e4.2]
    exact ih.expr e3
end Go.SL
namespace Go.SL
def Good1 (Q : ByteArray → Nat → Prop) (k : Int) (t : ByteArray) (n : Nat) (names : List ByteArray) (m : Nat) : Prop :=
 names.length ≤ 10000 ∧ m ≤ 10000 ∧ n ≤ names.length ∧ (k = 7 → 1 ≤ m ∧ Q t (m - 1)) ∧ (k = 9 → Q t m) ∧ (k = 11 ∨ k = 6 → m = 1) ∧ (k = 1 ∨ k = 2 ∨ k = 3 ∨ k = 13 → t.size ≤ 1048576)
mutual
def Good (Q : ByteArray → Nat → Prop) : Nd → Prop
 | .mk k t _ n names kids => Good1 Q k t n names kids.length ∧ GoodL Q kids
def GoodL (Q : ByteArray → Nat → Prop) : List Nd → Prop
 | [] => True
 | x :: r => Good Q x ∧ GoodL Q r
end
section
variable {Q : ByteArray → Nat → Prop} {K : ByteArray → Nat → Prop}
theorem GoodL.iff : ∀ {l : List Nd}, GoodL Q l ↔ ∀ x ∈ l, Good Q x
 | [] => by simp [GoodL]
 | x :: r => by simp [GoodL, GoodL.iff (l := r)]
theorem Good.one {x : Nd} (h : Good Q x) : Good1 Q x.k x.t x.n x.names x.kids.length := by cases x; simp only [Good] at h; exact h.1
theorem Good.all {x : Nd} (h : Good Q x) : GoodL Q x.kids := by cases x; simp only [Good] at h; exact h.2
theorem GoodL.none : GoodL Q [] := by simp [GoodL]
theorem GoodL.app {a b : List Nd} (h : GoodL Q a) (g : GoodL Q b) : GoodL Q (a ++ b) := GoodL.iff.2 fun x hx => by
 rcases List.mem_append.1 hx with hx | hx
 ·exact GoodL.iff.1 h x hx
 ·exact GoodL.iff.1 g x hx
theorem GoodL.sub {a b : List Nd} (h : GoodL Q a) (g : ∀ x ∈ b, x ∈ a) : GoodL Q b := GoodL.iff.2 fun x hx => GoodL.iff.1 h x (g x hx)
theorem GoodL.single {x : Nd} (h : Good Q x) : GoodL Q [x] := by simp [GoodL, h]
theorem Good.leaf {k : Int} {t : ByteArray} {a : Nat} (h : k ≠ 7 ∧ k ≠ 9 ∧ k ≠ 11 ∧ k ≠ 6) (hz : t.size ≤ 1048576) : Good Q (.mk k t a 0 [] []) := by
 simp only [Good, GoodL, Good1, and_true]
 exact ⟨by simp, by simp, by simp, fun e => absurd e h.1, fun e => absurd e h.2.1, fun e => by rcases e with e | e; exact absurd e h.2.2.1; exact absurd e h.2.2.2, fun _ => hz⟩
theorem WF.tx {l : List Tk} (h : WF l) : (tx l).size ≤ 1048576 := by
 obtain ⟨t, r, e⟩ := h.cons
 subst e
 exact h.2.1 t (by simp)
def TF (Q K : ByteArray → Nat → Prop) (l : List Tk) : Prop := ∀ t ∈ l, (t.k = 1 → Q t.t 0) ∧ (t.k = 3 → Q t.t 1) ∧ (t.k = 2 → ∀ s n, K s n → K (s ++ t.t) (n + 1))
theorem TF.bal {l r : List Tk} (h : TF Q K l) (b : BalE l r) : TF Q K r := by
 obtain ⟨w, e, _⟩ := b
 intro t ht
 exact h t (by rw [e]; simp [ht])
theorem TF.tail {l : List Tk} (h : TF Q K l) : TF Q K l.tail := fun t ht => h t (List.mem_of_mem_tail ht)
theorem TF.at {l : List Tk} (h : TF Q K l) {k : Int} (hk : kd l = k) (h0 : k ≠ 0) : ∃ t r, l = t :: r ∧ t.k = k ∧ tx l = t.t ∧ (t.k = 1 → Q t.t 0) ∧ (t.k = 3 → Q t.t 1) ∧ (t.k = 2 → ∀ s n, K s n → K (s ++ t.t) (n + 1)) := by
 cases l with
 | nil => exact absurd hk (Ne.symm h0)
 | cons t r => exact ⟨t, r, rfl, hk, rfl, h t (by simp)⟩
theorem Good.sent {x m : Nd} (hx : Good Q x) (hm : Good Q m) (hk : m.k = 9) (hl : m.kids.length ≤ 5000) : Good Q (sentS x m) := by
 have h1 := hm.one
 simp only [sentS, Good, GoodL, Good1, List.length_cons, Nat.add_sub_cancel]
 exact ⟨⟨by simp, by omega, by simp, fun _ => ⟨by omega, h1.2.2.2.2.1 hk⟩, fun e => by simp at e, fun e => by simp at e, fun e => by simp at e⟩, hx, hm.all⟩
theorem namesS_num : ∀ l : List Tk, (namesS l).1.length ≤ l.length
 | [] => by simp [namesS]
 | t :: r => by
  have := namesS_num r
  simp only [namesS]
  split <;> simp <;> omega
theorem argsS_num : ∀ {n : Nat} {l : List Tk} {x r}, argsS n l = .ok x r → x.length ≤ l.length
 | 0, l, x, r, e => by simp [argsS] at e
 | n + 1, l, x, r, e => by
  simp only [argsS] at e
  split at e
  ·rename_i hk
   split at e
   ·obtain ⟨a, r', e1, e2⟩ := andThen_ok e
    simp at e2
    rw [← e2.1]
    have := argsS_num e1
    cases l with
    | nil => simp [kd] at hk
    | cons t l => simp at this ⊢; omega
   ·simp at e
  ·simp at e
   rw [e.1]; simp
theorem tempsS_num {l : List Tk} {x r} (e : tempsS l = .ok x r) : x.length ≤ l.length := by
 unfold tempsS at e
 split at e
 ·split at e
  ·simp at e
   rw [← e.1]
   have := namesS_num l.tail
   simp at this; omega
  ·simp at e
 ·simp at e
  rw [e.1]; simp
theorem msg_kind {n d : Nat} {l : List Tk} {x r} (e : msgS n d l = .ok x r) : x.k = 9 := by
 cases n with
 | zero => simp [msgS] at e
 | succ n =>
  simp only [msgS] at e
  split at e
  ·simp at e; rw [← e.1]; rfl
  ·split at e
   ·obtain ⟨b, r2, e3, e4⟩ := andThen_ok e
    simp at e4; rw [← e4.1]; rfl
   ·split at e
    ·obtain ⟨b, r2, e3, e4⟩ := andThen_ok e
     simp at e4
     rw [← e4.1]; rfl
    ·simp at e
structure PresG (Q K : ByteArray → Nat → Prop) (n : Nat) : Prop where
 expr : ∀ {d l x r}, WF l → TF Q K l → exprS n d l = .ok x r → Good Q x
 casc : ∀ {d l x r}, WF l → TF Q K l → cascS n d l = .ok x r → Good Q x
 semis : ∀ {d a l x r}, WF l → TF Q K l → GoodL Q a → semisS n d a l = .ok x r → GoodL Q x ∧ x.length + r.length ≤ a.length + l.length
 msg : ∀ {d l x r}, WF l → TF Q K l → msgS n d l = .ok x r → Good Q x
 keys : ∀ {d s a l x r}, WF l → TF Q K l → GoodL Q a → K s a.length → keysS n d s a l = .ok x r → GoodL Q x.2 ∧ K x.1 x.2.length ∧ a.length ≤ x.2.length ∧ (kd l = 2 → a.length < x.2.length)
 keyed : ∀ {d l x r}, WF l → TF Q K l → keyedS n d l = .ok x r → Good Q x.1
 binary : ∀ {d l x r}, WF l → TF Q K l → binaryS n d l = .ok x r → Good Q x.1
 unary : ∀ {d l x r}, WF l → TF Q K l → unaryS n d l = .ok x r → Good Q x.1
 chain : ∀ {d c y l x r}, WF l → TF Q K l → Good Q y.1 → chainS n d c y l = .ok x r → Good Q x.1
 prim : ∀ {d l x r}, WF l → TF Q K l → primS n d l = .ok x r → Good Q x.1
 list : ∀ {d l x r}, WF l → TF Q K l → (kd l = 17 ∨ kd l = 8) → listS n d l = .ok x r → Good Q x
 elems : ∀ {d a l x r}, WF l → TF Q K l → GoodL Q a → elemsS n d a l = .ok x r → GoodL Q x ∧ x.length + r.length ≤ a.length + l.length
 elem : ∀ {d l x r}, WF l → TF Q K l → elemS n d l = .ok x r → Good Q x
 block : ∀ {d l x r}, WF l → TF Q K l → kd l = 10 → blockS n d l = .ok x r → Good Q x
 body : ∀ {d e l x r}, WF l → TF Q K l → bodyS n d e l = .ok x r → GoodL Q x.2 ∧ x.1.length ≤ 5000 ∧ x.2.length ≤ 5000
 stmts : ∀ {d e a l x r}, WF l → TF Q K l → GoodL Q a → stmtsS n d e a l = .ok x r → GoodL Q x ∧ x.length + r.length ≤ a.length + l.length
 stmt : ∀ {d l x r}, WF l → TF Q K l → stmtS n d l = .ok x r → Good Q x.1
theorem presG (hK0 : K ⟨#[]⟩ 0) (hKQ : ∀ s n, 0 < n → K s n → Q s n) : ∀ n, PresG Q K n
 | 0 => by constructor <;> intros <;> simp_all [exprS, cascS, semisS, msgS, keysS, keyedS, binaryS, unaryS, chainS, primS, listS, elemsS, elemS, blockS, bodyS, stmtsS, stmtS]
 | n + 1 => by
  have ih := presG hK0 hKQ n
  have P := pres n
  have B := presB n
  constructor
  case expr =>
   intro d l x r h t e
   simp only [exprS] at e
   split at e
   ·rename_i hk
    have h1 := h.short hk.1 (by decide)
    have h2 := h1.1.short hk.2 (by decide)
    split at e
    ·simp at e
    ·obtain ⟨a, r', e1, e2⟩ := andThen_ok e
     simp at e2
     rw [← e2.1]
     have hg := ih.expr h2.1 t.tail.tail e1
     simp only [Good, GoodL, Good1]
     exact ⟨⟨by simp, by simp, by simp, fun e => by simp at e, fun e => by simp at e, fun _ => rfl, fun e => by simp at e⟩, hg, trivial⟩
   ·exact ih.casc h t e
  case casc =>
   intro d l x r h t e
   simp only [cascS] at e
   obtain ⟨a, r', e1, e2⟩ := andThen_ok e
   have hg := ih.keyed h t e1
   have h1 := P.keyed h e1
   have b1 := (B.keyed e1).1
   split at e2
   ·split at e2
    ·rename_i hk hk7
     obtain ⟨b, r2, e3, e4⟩ := andThen_ok e2
     simp at e4
     rw [← e4.1]
     have h2 := ih.semis h1.1 (t.bal b1.e) GoodL.none e3
     have ho := hg.one
     have hl := h1.1.2.2
     have h7 := ho.2.2.2.1 hk7.1
     have hn := h2.2
     simp only [List.length_nil] at hn
     simp only [Good, Good1]
     refine ⟨⟨by simp, by simp; omega, by simp, fun e => by simp at e, fun e => by simp at e, fun e => by simp at e, fun e => by simp at e⟩, ?_⟩
     refine GoodL.app (hg.all.sub fun y hy => List.mem_of_mem_take hy) ?_
     simp only [GoodL, Good, Good1]
     refine ⟨⟨⟨by simp, by simp; have := ho.2.1; omega, by simp, fun e => by simp at e, fun _ => by simpa using h7.2, fun e => by simp at e, fun e => by simp at e⟩, hg.all.sub fun y hy => List.mem_of_mem_tail hy⟩, h2.1⟩
    ·simp at e2
   ·simp at e2
    rw [← e2.1]; exact hg
  case semis =>
   intro d a l x r h t ha e
   simp only [semisS] at e
   split at e
   ·rename_i hk
    have h1 := h.short hk (by decide)
    obtain ⟨b, r2, e3, e4⟩ := andThen_ok e
    have h2 := P.msg h1.1 e3
    have hg := ih.msg h1.1 t.tail e3
    have h3 := ih.semis h2.1 (t.tail.bal (B.msg e3).e) (ha.app (.single hg)) e4
    refine ⟨h3.1, ?_⟩
    have := h3.2; have := h1.2; have := h2.2
    simp at *; omega
   ·simp at e
    rw [← e.1, ← e.2]; exact ⟨ha, Nat.le_refl _⟩
  case msg =>
   intro d l x r h t e
   simp only [msgS] at e
   split at e
   ·rename_i hk
    obtain ⟨w, l', el, hw, ht, q, _⟩ := t.at hk (by decide)
    simp at e
    rw [← e.1, ht]
    simp only [Good, GoodL, Good1]
    exact ⟨⟨by simp, by simp, by simp, fun e => by simp at e, fun _ => q hw, fun e => by simp at e, fun e => by simp at e⟩, trivial⟩
   ·split at e
    ·rename_i hk
     have h1 := h.short hk (by decide)
     obtain ⟨w, l', el, hw, ht, _, q, _⟩ := t.at hk (by decide)
     obtain ⟨b, r2, e3, e4⟩ := andThen_ok e
     simp at e4
     rw [← e4.1, ht]
     have hg := ih.unary h1.1 t.tail e3
     simp only [Good, GoodL, Good1]
     exact ⟨⟨by simp, by simp, by simp, fun e => by simp at e, fun _ => q hw, fun e => by simp at e, fun e => by simp at e⟩, hg, trivial⟩
    ·split at e
     ·rename_i hk
      obtain ⟨b, r2, e3, e4⟩ := andThen_ok e
      simp at e4
      rw [← e4.1]
      have h1 := ih.keys h t (a := []) trivial hK0 e3
      have h2 := keys_len h e3
      have := h.2.2
      simp at h2
      simp only [Good, Good1]
      exact ⟨⟨by simp, by omega, by simp, fun e => by simp at e, fun _ => hKQ _ _ (h1.2.2.2 hk) h1.2.1, fun e => by simp at e, fun e => by simp at e⟩, h1.1⟩
     ·simp at e
  case keys =>
   intro d s a l x r h t ha hK e
   simp only [keysS] at e
   split at e
   ·rename_i hk
    have h1 := h.short hk (by decide)
    obtain ⟨w, l', el, hw, ht, _, _, q⟩ := t.at hk (by decide)
    obtain ⟨b, r2, e3, e4⟩ := andThen_ok e
    have h2 := P.binary h1.1 e3
    have hg := ih.binary h1.1 t.tail e3
    have h3 := ih.keys h2.1 (t.tail.bal (B.binary e3).1.e) (ha.app (.single hg)) (by rw [ht]; simpa using q hw s _ hK) e4
    have := h3.2.2.1
    simp at this
    exact ⟨h3.1, h3.2.1, by omega, fun _ => by omega⟩
   ·rename_i hk
    simp at e
    rw [← e.1]; exact ⟨ha, hK, Nat.le_refl _, fun h => absurd h hk⟩
  case keyed =>
   intro d l x r h t e
   simp only [keyedS] at e
   obtain ⟨b, r2, e3, e4⟩ := andThen_ok e
   have h1 := P.binary h e3
   have hg := ih.binary h t e3
   split at e4
   ·obtain ⟨c, r3, e5, e6⟩ := andThen_ok e4
    simp at e6
    rw [← e6.1]
    exact hg.sent (ih.msg h1.1 (t.bal (B.binary e3).1.e) e5) (msg_kind e5) (msg_len h1.1 e5)
   ·simp at e4
    rw [← e4.1]; exact hg
  case binary =>
   intro d l x r h t e
   simp only [binaryS] at e
   obtain ⟨b, r2, e3, e4⟩ := andThen_ok e
   exact ih.chain (P.unary h e3).1 (t.bal (B.unary e3).1.e) (ih.unary h t e3) e4
  case unary =>
   intro d l x r h t e
   simp only [unaryS] at e
   obtain ⟨b, r2, e3, e4⟩ := andThen_ok e
   exact ih.chain (P.prim h e3).1 (t.bal (B.prim e3).1.e) (ih.prim h t e3) e4
  case chain =>
   intro d c y l x r h t hy e
   simp only [chainS] at e
   split at e
   ·obtain ⟨b, r2, e3, e4⟩ := andThen_ok e
    exact ih.chain (P.msg h e3).1 (t.bal (B.msg e3).e) (hy.sent (ih.msg h t e3) (msg_kind e3) (msg_len h e3)) e4
   ·simp at e
    rw [← e.1]; exact hy
  case prim =>
   intro d l x r h t e
   simp only [primS] at e
   split at e
   ·simp at e; rw [← e.1]; exact .leaf (by decide) h.tx
   split at e
   ·simp at e; rw [← e.1]; exact .leaf (by decide) h.tx
   split at e
   ·simp at e; rw [← e.1]; exact .leaf (by decide) h.tx
   split at e
   ·simp at e; rw [← e.1]; exact .leaf (by decide) h.tx
   split at e
   ·rename_i hk
    obtain ⟨b, r2, e3, e4⟩ := andThen_ok e
    simp at e4
    rw [← e4.1]
    exact ih.list h t (.inl hk) e3
   split at e
   ·rename_i hk
    obtain ⟨b, r2, e3, e4⟩ := andThen_ok e
    simp at e4
    rw [← e4.1]
    exact ih.block h t hk e3
   split at e
   ·rename_i hk
    have h1 := h.short hk (by decide)
    split at e
    ·simp at e
    ·obtain ⟨b, r2, e3, e4⟩ := andThen_ok e
     split at e4
     ·simp at e4
      rw [← e4.1]
      exact ih.expr h1.1 t.tail e3
     ·simp at e4
   ·simp at e
  case list =>
   intro d l x r h t hk e
   have h1 : Short l l.tail := by rcases hk with hk | hk <;> exact h.short hk (by decide)
   simp only [listS] at e
   split at e
   ·simp at e
   ·obtain ⟨b, r2, e3, e4⟩ := andThen_ok e
    simp at e4
    rw [← e4.1]
    have h2 := ih.elems h1.1 t.tail GoodL.none e3
    have := h1.1.2.2
    have := h2.2
    simp only [List.length_nil] at this
    simp only [Good, Good1]
    exact ⟨⟨by simp, by omega, by simp, fun e => by simp at e, fun e => by simp at e, fun e => by simp at e, fun e => by simp at e⟩, h2.1⟩
  case elems =>
   intro d a l x r h t ha e
   simp only [elemsS] at e
   split at e
   ·simp at e
    rw [← e.1, ← e.2]; exact ⟨ha, Nat.le_refl _⟩
   ·obtain ⟨b, r2, e3, e4⟩ := andThen_ok e
    have h1 := P.elem h e3
    have h2 := ih.elems h1.1 (t.bal (B.elem e3).e) (ha.app (.single (ih.elem h t e3))) e4
    refine ⟨h2.1, ?_⟩
    have := h2.2; have := h1.2
    simp at *; omega
  case elem =>
   intro d l x r h t e
   simp only [elemS] at e
   split at e
   ·rename_i hk; exact ih.list h t hk e
   split at e
   ·simp at e; rw [← e.1]; exact .leaf (by decide) h.tx
   split at e
   ·simp at e; rw [← e.1]; exact .leaf (by decide) h.tx
   split at e
   ·simp at e; rw [← e.1]; exact .leaf (by split <;> decide) h.tx
   split at e
   ·simp at e; rw [← e.1]; exact .leaf (by decide) h.tx
   ·simp at e
  case block =>
   intro d l x r h t hk e
   have h1 := h.short hk (by decide)
   have hl := h1.1.2.2
   have T : ∀ {d l0 r0 ags}, List.length ags ≤ 5000 → WF l0 → TF Q K l0 → ((bodyS n d 11 l0).andThen fun x r' => .ok (Nd.mk 10 ⟨#[]⟩ (pl l) (List.length ags) (ags ++ x.1) x.2) r'.tail) = Res.ok x r0 → Good Q x := fun hn h2 t2 e => by
    obtain ⟨b, r2, e3, e4⟩ := andThen_ok e
    simp at e4
    rw [← e4.1]
    have h3 := ih.body h2 t2 e3
    simp only [Good, Good1]
    exact ⟨⟨by simp; omega, by omega, by simp, fun e => by simp at e, fun e => by simp at e, fun e => by simp at e, fun e => by simp at e⟩, h3.1⟩
   simp only [blockS] at e
   split at e
   ·simp at e
   ·obtain ⟨b, r2, e3, e4⟩ := andThen_ok e
    have h2 := argsS_short h1.1 e3
    have hn := argsS_num e3
    have t2 := t.tail.bal (argsS_bal e3)
    split at e4
    ·split at e4
     ·rename_i hk2
      exact T (by omega) (h2.1.short hk2 (by decide)).1 t2.tail e4
     ·simp at e4
    ·exact T (by omega) h2.1 t2 e4
  case body =>
   intro d e0 l x r h t e
   simp only [bodyS] at e
   obtain ⟨b, r2, e3, e4⟩ := andThen_ok e
   obtain ⟨c, r3, e5, e6⟩ := andThen_ok e4
   simp at e6
   rw [← e6.1]
   have h1 := tempsS_short h e3
   have h2 := ih.stmts h1.1 (t.bal (tempsS_bal e3)) GoodL.none e5
   have := tempsS_num e3
   have := h.2.2
   have := h1.1.2.2
   have := h2.2
   simp only [List.length_nil] at this
   exact ⟨h2.1, by dsimp only; omega, by dsimp only; omega⟩
  case stmts =>
   intro d e0 a l x r h t ha e
   simp only [stmtsS] at e
   split at e
   ·simp at e
    rw [← e.1, ← e.2]; exact ⟨ha, Nat.le_refl _⟩
   ·obtain ⟨b, r2, e3, e4⟩ := andThen_ok e
    have h1 := P.stmt h e3
    have hg := ih.stmt h t e3
    have hl := h1.2
    split at e4
    ·rename_i hk
     have h2 := h1.1.short hk.1 (by decide)
     have h3 := ih.stmts h2.1 (t.bal (B.stmt e3).e).tail (ha.app (.single hg)) e4
     refine ⟨h3.1, ?_⟩
     have := h3.2; have := h2.2
     simp at *; omega
    ·split at e4
     ·split at e4
      ·simp at e4
       rw [← e4.1, ← e4.2]
       exact ⟨ha.app (.single hg), by simp; omega⟩
      ·simp at e4
     ·split at e4
      ·simp at e4
       rw [← e4.1, ← e4.2]
       exact ⟨ha.app (.single hg), by simp; omega⟩
      ·simp at e4
  case stmt =>
   intro d l x r h t e
   simp only [stmtS] at e
   split at e
   ·rename_i hk
    have h1 := h.short hk (by decide)
    obtain ⟨b, r2, e3, e4⟩ := andThen_ok e
    simp at e4
    rw [← e4.1]
    have hg := ih.expr h1.1 t.tail e3
    simp only [Good, GoodL, Good1]
    exact ⟨⟨by simp, by simp, by simp, fun e => by simp at e, fun e => by simp at e, fun _ => rfl, fun e => by simp at e⟩, hg, trivial⟩
   ·obtain ⟨b, r2, e3, e4⟩ := andThen_ok e
    simp at e4
    rw [← e4.1]
    exact ih.expr h t e3
end
end Go.SL
namespace Go.SL
def NN {α : Type} (r : Res α) : Prop := ∀ a w, r = .no a w → w ≠ 0
theorem NN.ok {α : Type} {x : α} {r : List Tk} : NN (.ok x r) := fun _ _ e => by simp at e
theorem NN.out {α : Type} : NN (.out : Res α) := fun _ _ e => by simp at e
theorem NN.syn {α : Type} {a : Nat} : NN (.no a eSyn : Res α) := fun _ _ e => by simp only [Res.no.injEq] at e; rw [← e.2]; decide
theorem NN.big {α : Type} {a : Nat} : NN (.no a eSize : Res α) := fun _ _ e => by simp only [Res.no.injEq] at e; rw [← e.2]; decide
theorem NN.then {α β : Type} {x : Res α} {f : α → List Tk → Res β} (h : NN x) (hf : ∀ a r, NN (f a r)) : NN (x.andThen f) := by
 cases x with
 | ok a r => exact hf a r
 | no a w => intro b v e; simp only [Res.andThen, Res.no.injEq] at e; rw [← e.2]; exact h a w rfl
 | out => exact NN.out
theorem argsS_nn : ∀ (n : Nat) (l : List Tk), NN (argsS n l)
 | 0, l => NN.out
 | n + 1, l => by
  simp only [argsS]
  repeat' (first | split | exact NN.ok | exact NN.syn | exact (argsS_nn n _).then fun _ _ => NN.ok)
theorem tempsS_nn (l : List Tk) : NN (tempsS l) := by
 unfold tempsS
 repeat' (first | split | exact NN.ok | exact NN.syn)
theorem patKeysS_nn : ∀ (n : Nat) (s : ByteArray) (a : List ByteArray) (l : List Tk), NN (patKeysS n s a l)
 | 0, s, a, l => NN.out
 | n + 1, s, a, l => by
  simp only [patKeysS]
  repeat' (first | split | exact NN.ok | exact NN.syn | exact patKeysS_nn n _ _ _)
theorem patS_nn (n : Nat) (l : List Tk) : NN (patS n l) := by
 unfold patS
 repeat' (first | split | exact NN.ok | exact NN.syn | exact patKeysS_nn n _ _ _)
structure NZ (n : Nat) : Prop where
 expr : ∀ d l, NN (exprS n d l)
 casc : ∀ d l, NN (cascS n d l)
 semis : ∀ d a l, NN (semisS n d a l)
 msg : ∀ d l, NN (msgS n d l)
 keys : ∀ d s a l, NN (keysS n d s a l)
 keyed : ∀ d l, NN (keyedS n d l)
 binary : ∀ d l, NN (binaryS n d l)
 unary : ∀ d l, NN (unaryS n d l)
 chain : ∀ d c y l, NN (chainS n d c y l)
 prim : ∀ d l, NN (primS n d l)
 list : ∀ d l, NN (listS n d l)
 elems : ∀ d a l, NN (elemsS n d a l)
 elem : ∀ d l, NN (elemS n d l)
 block : ∀ d l, NN (blockS n d l)
 body : ∀ d e l, NN (bodyS n d e l)
 stmts : ∀ d e a l, NN (stmtsS n d e a l)
 stmt : ∀ d l, NN (stmtS n d l)
theorem nz : ∀ n, NZ n
 | 0 => by constructor <;> intros <;> (simp only [exprS, cascS, semisS, msgS, keysS, keyedS, binaryS, unaryS, chainS, primS, listS, elemsS, elemS, blockS, bodyS, stmtsS, stmtS]; exact NN.out)
 | n + 1 => by
  have ih := nz n
  constructor <;> intros <;> simp only [exprS, cascS, semisS, msgS, keysS, keyedS, binaryS, unaryS, chainS, primS, listS, elemsS, elemS, blockS, bodyS, stmtsS, stmtS] <;>
   repeat' (first | split | exact NN.ok | exact NN.syn | exact NN.big | exact ih.expr _ _ | exact ih.casc _ _ | exact ih.semis _ _ _ | exact ih.msg _ _ | exact ih.keys _ _ _ _ | exact ih.keyed _ _ | exact ih.binary _ _ | exact ih.unary _ _ | exact ih.chain _ _ _ _ | exact ih.prim _ _ | exact ih.list _ _ | exact ih.elems _ _ _ | exact ih.elem _ _ | exact ih.block _ _ | exact ih.body _ _ _ | exact ih.stmts _ _ _ _ | exact ih.stmt _ _ | exact argsS_nn _ _ | exact tempsS_nn _ | (refine NN.then ?_ fun _ _ => ?_))
end Go.SL
namespace Go.SL
structure Us where
 a : Nat
 t : ByteArray
 k : Int
 d : Nat
 i : Nat
 w : Bool
def usD (u : Us) : D := .agg [.int .i64 u.a, .str u.t, .int .i64 u.k, .int .i64 u.d, .int .i64 u.i, .bool u.w]
def selfT : ByteArray := ⟨#[115, 101, 108, 102]⟩
def superT : ByteArray := ⟨#[115, 117, 112, 101, 114]⟩
def fixedS (t : ByteArray) : Option (Int × Nat) :=
 if t = selfT then some (0, 0) else if t = superT then some (1, 0) else if t = nilT then some (2, 0) else if t = falseT then some (2, 1) else if t = trueT then some (2, 2) else none
def idxS (t : ByteArray) : List ByteArray → Nat → Option Nat
 | [], _ => none
 | x :: r, k => if x = t then some k else idxS t r (k + 1)
abbrev Fr := List (List ByteArray × Nat)
def srchS (t : ByteArray) : Fr → Nat → Option (Nat × Nat × Bool)
 | [], _ => none
 | (l, n) :: r, d => match idxS t l 0 with
  | some k => some (d, k, decide (k < n))
  | none => srchS t r (d + 1)
def bigS (t : ByteArray) : Bool := decide (0 < t.size) && decide (65 ≤ sbyte t 0) && decide (sbyte t 0 ≤ 90)
def findS (sl : List ByteArray) (fr : Fr) (t : ByteArray) : Us × Bool :=
 match fixedS t with
 | some (k, i) => (⟨0, t, k, 0, i, false⟩, false)
 | none => match srchS t fr 0 with
  | some (d, k, g) => (⟨0, t, 3, d, k, false⟩, g)
  | none => match idxS t sl 0 with
   | some k => (⟨0, t, 4, 0, k, false⟩, false)
   | none => (⟨0, t, if bigS t then 5 else -1, 0, 0, false⟩, false)
def catU : List Us ⊕ Nat → List Us ⊕ Nat → List Us ⊕ Nat
 | .inl a, .inl b => .inl (a ++ b)
 | .inl _, .inr e => .inr e
 | .inr e, _ => .inr e
def oddS (pre : List ByteArray) : List ByteArray → Bool
 | [] => false
 | x :: r => (fixedS x).isSome || (idxS x pre 0).isSome || oddS (pre ++ [x]) r
mutual
def useP (sl : List ByteArray) : Fr → Bool → Nd → List Us ⊕ Nat
 | fr, to, .mk k t a n names kids =>
  if k = 5 then
   (if (findS sl fr t).1.k = -1 ∨ ((findS sl fr t).1.k = 1 ∧ to = false) then .inr a else .inl [{ (findS sl fr t).1 with a := a }])
  else if k = 6 then
   (if (findS sl fr t).2 = true ∨ ((findS sl fr t).1.k ≠ 3 ∧ (findS sl fr t).1.k ≠ 4) then .inr a else catU (.inl [{ (findS sl fr t).1 with a := a, w := true }]) (useL sl fr false kids))
  else if k = 10 then (if oddS [] names then .inr a else useL sl ((names, n) :: fr) false kids)
  else useL sl fr (decide (k = 7) || decide (k = 8)) kids
def useL (sl : List ByteArray) : Fr → Bool → List Nd → List Us ⊕ Nat
 | _, _, [] => .inl []
 | fr, to, x :: r => catU (useP sl fr to x) (useL sl fr false r)
end
def useU (sl : List ByteArray) (fr : Fr) (x : Nd) : List Us ⊕ Nat := if oddS [] x.names then .inr x.a else useL sl ((x.names, x.n) :: fr) false x.kids
end Go.SL
namespace Go.SL
mutual
def LitP : Nd → Prop
 | .mk k _ _ _ _ kids => (k = 1 ∨ k = 2 ∨ k = 3 ∨ k = 13 ∨ k = 4) ∧ LitL kids
def LitL : List Nd → Prop
 | [] => True
 | x :: r => LitP x ∧ LitL r
end
mutual
def Fine : Nd → Prop
 | .mk k _ _ _ _ kids => ((k = 8 → 2 ≤ kids.length ∧ ∀ y ∈ kids.tail, y.k = 9) ∧ (k = 10 ∨ k = 12 → ∀ y ∈ kids.dropLast, y.k ≠ 11)) ∧ (k = 7 → 1 ≤ kids.length) ∧ (k = 11 ∨ k = 6 → kids.length = 1) ∧ (k = 1 ∨ k = 2 ∨ k = 3 ∨ k = 4 → LitL kids) ∧ FineL kids
def FineL : List Nd → Prop
 | [] => True
 | x :: r => Fine x ∧ FineL r
end
mutual
def nds : Nd → Nat
 | .mk _ _ _ _ _ kids => 1 + ndL kids
def ndL : List Nd → Nat
 | [] => 0
 | x :: r => nds x + ndL r
end
theorem FineL.iff : ∀ {l : List Nd}, FineL l ↔ ∀ x ∈ l, Fine x
 | [] => by simp [FineL]
 | x :: r => by simp [FineL, FineL.iff (l := r)]
theorem LitL.iff : ∀ {l : List Nd}, LitL l ↔ ∀ x ∈ l, LitP x
 | [] => by simp [LitL]
 | x :: r => by simp [LitL, LitL.iff (l := r)]
theorem ndL_app : ∀ (a b : List Nd), ndL (a ++ b) = ndL a + ndL b
 | [], b => by simp [ndL]
 | x :: r, b => by simp [ndL, ndL_app r b]; omega
theorem FineL.app {a b : List Nd} (h : FineL a) (g : FineL b) : FineL (a ++ b) := FineL.iff.2 fun x hx => by
 rcases List.mem_append.1 hx with hx | hx
 ·exact FineL.iff.1 h x hx
 ·exact FineL.iff.1 g x hx
theorem FineL.sub {a b : List Nd} (h : FineL a) (g : ∀ x ∈ b, x ∈ a) : FineL b := FineL.iff.2 fun x hx => FineL.iff.1 h x (g x hx)
theorem LitL.snoc {a : List Nd} {x : Nd} (h : LitL a) (g : LitP x) : LitL (a ++ [x]) := LitL.iff.2 fun y hy => by
 rcases List.mem_append.1 hy with hy | hy
 ·exact LitL.iff.1 h y hy
 ·simp at hy; subst hy; exact g
mutual
theorem LitP.fine : ∀ {x : Nd}, LitP x → Fine x
 | .mk k t a n names kids, h => by
  simp only [LitP] at h
  simp only [Fine]
  exact ⟨⟨fun e => by omega, fun e => by omega⟩, fun e => by omega, fun e => by omega, fun _ => h.2, LitL.fine h.2⟩
theorem LitL.fine : ∀ {l : List Nd}, LitL l → FineL l
 | [], _ => by simp [FineL]
 | x :: r, h => by
  simp only [LitL] at h
  simp only [FineL]
  exact ⟨h.1.fine, h.2.fine⟩
end
def OkP {α : Type} (P : α → List Tk → Prop) (r : Res α) : Prop := ∀ x l, r = .ok x l → P x l
section
variable {α β : Type} {P : α → List Tk → Prop} {R : β → List Tk → Prop}
theorem OkP.ok {x : α} {l : List Tk} (h : P x l) : OkP P (.ok x l) := fun y m e => by simp only [Res.ok.injEq] at e; rw [← e.1, ← e.2]; exact h
theorem OkP.no {a : Nat} {w : Int} : OkP P (.no a w) := fun _ _ e => by simp at e
theorem OkP.out : OkP P .out := fun _ _ e => by simp at e
theorem OkP.then {x : Res α} {f : α → List Tk → Res β} (h : OkP P x) (hf : ∀ a r, P a r → OkP R (f a r)) : OkP R (x.andThen f) := by
 cases x with
 | ok a r => exact hf a r (h a r rfl)
 | no a w => exact OkP.no
 | out => exact OkP.out
end
theorem kd_len {l : List Tk} {c : Int} (h : kd l = c) (hc : c ≠ 0) : l.tail.length + 1 = l.length := by
 cases l with
 | nil => exact absurd h.symm hc
 | cons t r => simp
theorem tl_len (l : List Tk) : l.tail.length ≤ l.length := by simp
def FN (l : List Tk) (x : Nd) (r : List Tk) : Prop := Fine x ∧ x.k ≠ 11 ∧ nds x + r.length ≤ l.length
def FL (a : List Nd) (l : List Tk) (x : List Nd) (r : List Tk) : Prop := FineL x ∧ ndL x + r.length ≤ ndL a + l.length
def LL (a : List Nd) (l : List Tk) (x : List Nd) (r : List Tk) : Prop := LitL x ∧ ndL x + r.length ≤ ndL a + l.length
theorem FN.leaf {k : Int} {t : ByteArray} {a : Nat} {l : List Tk} {c : Int} (h : kd l = c) (hc : c ≠ 0) (hk : k ≠ 8 ∧ k ≠ 7 ∧ k ≠ 11 ∧ k ≠ 6) : FN l (.mk k t a 0 [] []) l.tail := by
 have := kd_len h hc
 exact ⟨by simp only [Fine, FineL, LitL]; exact ⟨⟨fun e => by omega, fun _ y hy => by simp at hy⟩, fun e => by omega, fun e => by omega, fun _ => trivial, trivial⟩, by simp only [Nd.k]; omega, by simp only [nds, ndL]; omega⟩
theorem Nd.fine {x : Nd} (h : Fine x) : FineL x.kids := by cases x; simp only [Fine] at h; exact h.2.2.2.2
theorem Nd.count (x : Nd) : nds x = 1 + ndL x.kids := by cases x; rfl
theorem FN.sent {l l' r : List Tk} {x m : Nd} (h : FN l x l') (g : FN l' m r) : FN l (sentS x m) r := by
 have := m.count
 refine ⟨?_, by simp [sentS, Nd.k], ?_⟩
 ·simp only [sentS, Fine, FineL]
  exact ⟨⟨fun e => by simp at e, fun e => by simp at e⟩, fun _ => by simp, fun e => by simp at e, fun e => by simp at e, h.1, Nd.fine g.1⟩
 ·simp only [sentS, nds, ndL]
  have h1 := h.2.2; have h2 := g.2.2
  omega
theorem argsS_le : ∀ (n : Nat) (l : List Tk), OkP (fun _ r => r.length ≤ l.length) (argsS n l)
 | 0, l => OkP.out
 | n + 1, l => by
  simp only [argsS]
  split
  ·split
   ·refine (argsS_le n _).then fun a r h => OkP.ok ?_
    have := tl_len l; have := tl_len l.tail; omega
   ·exact OkP.no
  ·exact OkP.ok (Nat.le_refl _)
theorem namesS_le : ∀ l : List Tk, (namesS l).2.length ≤ l.length
 | [] => by simp [namesS]
 | t :: r => by
  have := namesS_le r
  simp only [namesS]
  split <;> simp <;> omega
theorem tempsS_le (l : List Tk) : OkP (fun _ r => r.length ≤ l.length) (tempsS l) := by
 unfold tempsS
 split
 ·split
  ·refine OkP.ok ?_
   have := tl_len l; have := tl_len (namesS l.tail).2; have := namesS_le l.tail; omega
  ·exact OkP.no
 ·exact OkP.ok (Nat.le_refl _)
structure PresF (n : Nat) : Prop where
 expr : ∀ d l, OkP (FN l) (exprS n d l)
 casc : ∀ d l, OkP (FN l) (cascS n d l)
 semis : ∀ d a l, FineL a → (∀ y ∈ a, y.k = 9) → OkP (fun x r => (FL a l x r ∧ (kd l = 15 → ndL x + r.length + 1 ≤ ndL a + l.length)) ∧ ∀ y ∈ x, y.k = 9) (semisS n d a l)
 msg : ∀ d l, OkP (FN l) (msgS n d l)
 keys : ∀ d s a l, FineL a → OkP (fun x r => FL a l x.2 r ∧ (kd l = 2 → ndL x.2 + r.length + 1 ≤ ndL a + l.length)) (keysS n d s a l)
 keyed : ∀ d l, OkP (fun x => FN l x.1) (keyedS n d l)
 binary : ∀ d l, OkP (fun x => FN l x.1) (binaryS n d l)
 unary : ∀ d l, OkP (fun x => FN l x.1) (unaryS n d l)
 chain : ∀ d c y l l0, FN l0 y.1 l → OkP (fun x => FN l0 x.1) (chainS n d c y l)
 prim : ∀ d l, OkP (fun x => FN l x.1) (primS n d l)
 list : ∀ d l, 1 ≤ l.length → OkP (fun x r => LitP x ∧ nds x + r.length ≤ l.length) (listS n d l)
 elems : ∀ d a l, LitL a → OkP (LL a l) (elemsS n d a l)
 elem : ∀ d l, OkP (fun x r => LitP x ∧ nds x + r.length ≤ l.length) (elemS n d l)
 block : ∀ d l, 1 ≤ l.length → OkP (FN l) (blockS n d l)
 body : ∀ d e l, OkP (fun x r => FL [] l x.2 r ∧ ∀ y ∈ x.2.dropLast, y.k ≠ 11) (bodyS n d e l)
 stmts : ∀ d e a l, FineL a → (∀ y ∈ a, y.k ≠ 11) → OkP (fun x r => FL a l x r ∧ ∀ y ∈ x.dropLast, y.k ≠ 11) (stmtsS n d e a l)
 stmt : ∀ d l, OkP (fun x r => Fine x.1 ∧ (x.2 = false → x.1.k ≠ 11) ∧ nds x.1 + r.length ≤ l.length) (stmtS n d l)
theorem FL.snoc {a : List Nd} {l l' r : List Tk} {x : Nd} {y : List Nd} (ha : nds x + l'.length ≤ l.length) (h : FL (a ++ [x]) l' y r) : FL a l y r :=
 ⟨h.1, by have := h.2; rw [ndL_app] at this; simp only [ndL] at this; omega⟩
theorem FineL.snoc {a : List Nd} {x : Nd} (h : FineL a) (g : Fine x) : FineL (a ++ [x]) := h.app (by simp only [FineL]; exact ⟨g, trivial⟩)
theorem presF : ∀ n, PresF n
 | 0 => by constructor <;> intros <;> (simp only [exprS, cascS, semisS, msgS, keysS, keyedS, binaryS, unaryS, chainS, primS, listS, elemsS, elemS, blockS, bodyS, stmtsS, stmtS]; exact OkP.out)
 | n + 1 => by
  have ih := presF n
  constructor
  case expr =>
   intro d l
   simp only [exprS]
   split
   ·rename_i hk
    have := kd_len hk.1 (by decide); have := kd_len hk.2 (by decide)
    split
    ·exact OkP.no
    ·refine (ih.expr _ _).then fun x r h => OkP.ok ⟨?_, by simp [Nd.k], ?_⟩
     ·simp only [Fine, FineL]
      exact ⟨⟨fun e => by simp at e, fun e => by simp at e⟩, fun e => by simp at e, fun _ => rfl, fun e => by simp at e, h.1, trivial⟩
     ·simp only [nds, ndL]; have := h.2.2; omega
   ·exact ih.casc _ _
  case casc =>
   intro d l
   simp only [cascS]
   refine (ih.keyed _ _).then fun x r h => ?_
   split
   ·rename_i hk
    have hkl := kd_len hk (by decide)
    split
    ·rename_i h7
     refine (ih.semis d [] r (by simp [FineL]) (by simp)).then fun y r' g => OkP.ok ⟨?_, by simp [Nd.k], ?_⟩
     ·have hf := Nd.fine h.1
      have h1 : 1 ≤ x.1.kids.length := by
       have := h.1
       cases hx : x.1 with
       | mk k t a m names kids =>
        rw [hx] at this h7
        simp only [Fine] at this
        exact this.2.1 h7.1
      simp only [Fine]
      refine ⟨⟨fun _ => ⟨by simp; omega, fun z hz => ?_⟩, fun e => by simp at e⟩, fun e => by simp at e, fun e => by simp at e, fun e => by simp at e, ?_⟩
      ·obtain ⟨q, qs, hq⟩ : ∃ q qs, x.1.kids = q :: qs := by cases hx : x.1.kids with | nil => rw [hx] at h1; simp at h1 | cons q qs => exact ⟨q, qs, rfl⟩
       rw [hq] at hz
       simp at hz
       rcases hz with hz | hz
       ·rw [hz]; rfl
       ·exact g.2 z hz
      refine (hf.sub fun y hy => List.mem_of_mem_take hy).app ?_
      simp only [FineL, Fine]
      exact ⟨⟨⟨fun e => by simp at e, fun e => by simp at e⟩, fun e => by simp at e, fun e => by simp at e, fun e => by simp at e, hf.sub fun y hy => List.mem_of_mem_drop hy⟩, g.1.1.1⟩
     ·have h1 := x.1.count
      have h2 := ndL_app (x.1.kids.take 1) (x.1.kids.drop 1)
      rw [List.take_append_drop] at h2
      have h3 := g.1.2 hk
      have h4 := h.2.2
      simp only [nds, ndL_app, ndL] at h3 ⊢
      omega
    ·exact OkP.no
   ·exact OkP.ok h
  case semis =>
   intro d a l ha h9
   simp only [semisS]
   split
   ·rename_i hk
    have := kd_len hk (by decide)
    refine OkP.then (P := fun m r => FN l.tail m r ∧ m.k = 9) (fun m r e => ⟨ih.msg _ _ m r e, msg_kind e⟩) fun m r hm => ?_
    intro y r' e
    obtain ⟨⟨h1, _⟩, h4⟩ := ih.semis d (a ++ [m]) r (ha.snoc hm.1.1) (fun y hy => by simp at hy; rcases hy with hy | hy; exact h9 y hy; rw [hy]; exact hm.2) y r' e
    have h2 := h1.2
    have h3 := hm.1.2.2
    rw [ndL_app] at h2
    simp only [ndL] at h2
    exact ⟨⟨⟨h1.1, by omega⟩, fun _ => by omega⟩, h4⟩
   ·rename_i hk
    exact OkP.ok ⟨⟨⟨ha, Nat.le_refl _⟩, fun h => absurd h hk⟩, h9⟩
  case msg =>
   intro d l
   simp only [msgS]
   split
   ·rename_i hk; exact OkP.ok (FN.leaf hk (by decide) (by decide))
   split
   ·rename_i hk
    have := kd_len hk (by decide)
    refine (ih.unary _ _).then fun x r h => OkP.ok ⟨?_, by simp [Nd.k], ?_⟩
    ·simp only [Fine, FineL]
     exact ⟨⟨fun e => by simp at e, fun e => by simp at e⟩, fun e => by simp at e, fun e => by simp at e, fun e => by simp at e, h.1, trivial⟩
    ·simp only [nds, ndL]; have := h.2.2; omega
   split
   ·rename_i hk
    refine (ih.keys d _ [] l (by simp [FineL])).then fun x r h => OkP.ok ⟨?_, by simp [Nd.k], ?_⟩
    ·simp only [Fine]
     exact ⟨⟨fun e => by simp at e, fun e => by simp at e⟩, fun e => by simp at e, fun e => by simp at e, fun e => by simp at e, h.1.1⟩
    ·have := h.2 hk; simp only [nds, ndL] at this ⊢; omega
   ·exact OkP.no
  case keys =>
   intro d s a l ha
   simp only [keysS]
   split
   ·rename_i hk
    have := kd_len hk (by decide)
    refine (ih.binary _ _).then fun m r hm => ?_
    intro y r' e
    obtain ⟨h1, _⟩ := ih.keys d _ (a ++ [m.1]) r (ha.snoc hm.1) y r' e
    have h2 := h1.2
    have h3 := hm.2.2
    rw [ndL_app] at h2
    simp only [ndL] at h2
    exact ⟨⟨h1.1, by omega⟩, fun _ => by omega⟩
   ·rename_i hk
    exact OkP.ok ⟨⟨ha, Nat.le_refl _⟩, fun h => absurd h hk⟩
  case keyed =>
   intro d l
   simp only [keyedS]
   refine (ih.binary _ _).then fun x r h => ?_
   split
   ·exact (ih.msg _ _).then fun m r' g => OkP.ok (h.sent g)
   ·exact OkP.ok h
  case binary =>
   intro d l
   simp only [binaryS]
   exact (ih.unary _ _).then fun x r h => ih.chain _ _ _ _ _ h
  case unary =>
   intro d l
   simp only [unaryS]
   exact (ih.prim _ _).then fun x r h => ih.chain _ _ _ _ _ h
  case chain =>
   intro d c y l l0 hy
   simp only [chainS]
   split
   ·exact (ih.msg _ _).then fun m r g => ih.chain _ _ _ _ _ (hy.sent g)
   ·exact OkP.ok hy
  case prim =>
   intro d l
   simp only [primS]
   split
   ·rename_i hk; exact OkP.ok (FN.leaf hk (by decide) (by decide))
   split
   ·rename_i hk; exact OkP.ok (FN.leaf hk (by decide) (by decide))
   split
   ·rename_i hk; exact OkP.ok (FN.leaf hk (by decide) (by decide))
   split
   ·rename_i hk; exact OkP.ok (FN.leaf hk (by decide) (by decide))
   split
   ·rename_i hk
    have := kd_len hk (by decide)
    exact (ih.list _ _ (by omega)).then fun x r h => OkP.ok ⟨h.1.fine, by cases x; have := h.1; simp only [LitP] at this; simp only [Nd.k]; omega, h.2⟩
   split
   ·rename_i hk
    have := kd_len hk (by decide)
    exact (ih.block _ _ (by omega)).then fun x r h => OkP.ok h
   split
   ·rename_i hk
    have := kd_len hk (by decide)
    split
    ·exact OkP.no
    ·refine (ih.expr _ _).then fun x r h => ?_
     split
     ·refine OkP.ok ⟨h.1, h.2.1, ?_⟩
      have := h.2.2; have := tl_len r; simp only; omega
     ·exact OkP.no
   ·exact OkP.no
  case list =>
   intro d l hl
   simp only [listS]
   split
   ·exact OkP.no
   ·refine (ih.elems _ _ _ (by simp [LitL])).then fun x r h => OkP.ok ⟨?_, ?_⟩
    ·simp only [LitP]; exact ⟨by simp, h.1⟩
    ·have := h.2; have := tl_len r
     have e : l.tail.length + 1 = l.length := by rw [List.length_tail]; omega
     simp only [nds] at this ⊢
     have h2 := h.2
     simp only [ndL] at h2
     omega
  case elems =>
   intro d a l ha
   simp only [elemsS]
   split
   ·exact OkP.ok ⟨ha, Nat.le_refl _⟩
   ·refine (ih.elem _ _).then fun x r h => ?_
    intro y r' e
    have h1 := ih.elems d (a ++ [x]) r (ha.snoc h.1) y r' e
    have h2 := h1.2
    have h3 := h.2
    rw [ndL_app] at h2
    simp only [ndL] at h2
    exact ⟨h1.1, by omega⟩
  case elem =>
   intro d l
   have leaf : ∀ {k : Int} {t : ByteArray} {a : Nat} {c : Int}, kd l = c → c ≠ 0 → (k = 1 ∨ k = 2 ∨ k = 3 ∨ k = 13 ∨ k = 4) → LitP (.mk k t a 0 [] []) ∧ nds (.mk k t a 0 [] []) + l.tail.length ≤ l.length := fun hk hc h => by
    have := kd_len hk hc
    simp only [LitP, LitL, nds, ndL]
    exact ⟨⟨h, trivial⟩, by omega⟩
   simp only [elemS]
   split
   ·rename_i hk
    refine ih.list _ _ ?_
    rcases hk with hk | hk <;> (have := kd_len hk (by decide); omega)
   split
   ·rename_i hk; exact OkP.ok (leaf hk (by decide) (by decide))
   split
   ·rename_i hk; exact OkP.ok (leaf hk (by decide) (by decide))
   split
   ·rename_i hk; exact OkP.ok (leaf hk (by decide) (by split <;> simp))
   split
   ·rename_i hk
    rcases hk with hk | hk | hk <;> exact OkP.ok (leaf hk (by decide) (by decide))
   ·exact OkP.no
  case block =>
   intro d l hl
   have fin : ∀ {ags : List ByteArray} {x : List ByteArray × List Nd} {m r : List Tk}, m.length + 1 ≤ l.length → (FL [] m x.2 r ∧ ∀ y ∈ x.2.dropLast, y.k ≠ 11) → FN l (.mk 10 ⟨#[]⟩ (pl l) ags.length (ags ++ x.1) x.2) r.tail := fun hm h => by
    refine ⟨?_, by simp [Nd.k], ?_⟩
    ·simp only [Fine]
     exact ⟨⟨fun e => by simp at e, fun _ => h.2⟩, fun e => by simp at e, fun e => by simp at e, fun e => by simp at e, h.1.1⟩
    ·have h2 := h.1.2
     simp only [nds, ndL] at h2 ⊢
     rw [List.length_tail]; omega
   have e : l.tail.length + 1 = l.length := by rw [List.length_tail]; omega
   simp only [blockS]
   split
   ·exact OkP.no
   ·refine (argsS_le _ _).then fun ags r h => ?_
    split
    ·split
     ·refine (ih.body _ _ _).then fun x r' g => OkP.ok (fin ?_ g)
      have := tl_len r; omega
     ·exact OkP.no
    ·exact (ih.body _ _ _).then fun x r' g => OkP.ok (fin (by omega) g)
  case body =>
   intro d e l
   simp only [bodyS]
   refine (tempsS_le _).then fun ts r h => (ih.stmts _ _ _ _ (by simp [FineL]) (by simp)).then fun ks r' g => OkP.ok ⟨⟨g.1.1, ?_⟩, g.2⟩
   have := g.1.2; simp only [ndL] at this ⊢; omega
  case stmts =>
   intro d e a l ha h11
   simp only [stmtsS]
   split
   ·exact OkP.ok ⟨⟨ha, Nat.le_refl _⟩, fun y hy => h11 y ((List.dropLast_sublist _).mem hy)⟩
   ·refine (ih.stmt _ _).then fun x r h => ?_
    have fin : ∀ {m : List Tk}, m.length ≤ r.length → OkP (fun x r => FL a l x r ∧ ∀ y ∈ x.dropLast, y.k ≠ 11) (.ok (a ++ [x.1]) m) := fun hm => OkP.ok ⟨⟨ha.snoc h.1, by have := h.2.2; rw [ndL_app]; simp only [ndL]; omega⟩, by simpa using h11⟩
    split
    ·rename_i hq
     intro y r' e
     obtain ⟨h1, h4⟩ := ih.stmts d _ (a ++ [x.1]) r.tail (ha.snoc h.1) (fun y hy => by simp at hy; rcases hy with hy | hy; exact h11 y hy; rw [hy]; exact h.2.1 hq.2) y r' e
     have h2 := h1.2
     have h3 := h.2.2
     have := tl_len r
     rw [ndL_app] at h2
     simp only [ndL] at h2
     exact ⟨⟨h1.1, by omega⟩, h4⟩
    split
    ·split
     ·exact fin (tl_len r)
     ·exact OkP.no
    split
    ·exact fin (Nat.le_refl _)
    ·exact OkP.no
  case stmt =>
   intro d l
   simp only [stmtS]
   split
   ·rename_i hk
    have := kd_len hk (by decide)
    refine (ih.expr _ _).then fun x r h => OkP.ok ⟨?_, fun e => by simp at e, ?_⟩
    ·simp only [Fine, FineL]
     exact ⟨⟨fun e => by simp at e, fun e => by simp at e⟩, fun e => by simp at e, fun _ => rfl, fun e => by simp at e, h.1, trivial⟩
    ·simp only [nds, ndL]; have := h.2.2; omega
   ·exact (ih.expr _ _).then fun x r h => OkP.ok ⟨h.1, fun _ => h.2.1, h.2.2⟩
end Go.SL
namespace Go.SL
structure CU where
 a : Nat
 n : Nat
 ins : List (Nat × Nat × Nat)
structure CM where
 us : List CU
 lits : List ByteArray
 names : List ByteArray
 sels : List ByteArray
abbrev MS := CM × List Us
def onceS (l : List ByteArray) (t : ByteArray) : List ByteArray × Nat := match idxS t l 0 with
 | some k => (l, k)
 | none => (l ++ [t], l.length)
def addU (x : Nat × Nat × Nat) (y : CU) : CU := { y with ins := y.ins ++ [x] }
def addS (u : Nat) (x : Nat × Nat × Nat) (c : CM) : CM := { c with us := c.us.modify u (addU x) }
section
variable (lt : Nd → ByteArray)
def litS (u : Nat) (t : ByteArray) (c : CM) : CM := addS u (0, (onceS c.lits t).2, 0) { c with lits := (onceS c.lits t).1 }
def useS (u : Nat) (x : Us) (c : CM) : CM :=
 if x.k = 2 then addS u (7, x.i, 0) c
 else if x.k = 3 then addS u (1, x.d, x.i) c
 else if x.k = 4 then addS u (3, x.i, 0) c
 else if x.k = 5 then addS u (5, (onceS c.names x.t).2, 0) { c with names := (onceS c.names x.t).1 }
 else addS u (6, 0, 0) c
def setS (u : Nat) (x : Us) (c : CM) : CM := if x.k = 3 then addS u (2, x.d, x.i) c else addS u (4, x.i, 0) c
def sendC (u : Nat) (sup : Bool) (t : ByteArray) (n : Nat) (c : CM) : CM := addS u (if sup then 9 else 8, (onceS c.sels t).2, n) { c with sels := (onceS c.sels t).1 }
def supS (x : Nd) : Bool := decide (x.k = 5) && decide (x.t = superT)
def sup0 : List Nd → Bool
 | [] => false
 | x :: _ => supS x
def endS (u : Nat) (m : Bool) (k : Nat) (c : CM) : CM :=
 if m then addS u (14, 0, 0) (addS u (6, 0, 0) (if k = 0 then c else addS u (12, 0, 0) c))
 else addS u (13, 0, 0) (if k = 0 then addS u (7, 0, 0) c else c)
def newU (a n : Nat) (c : CM) : CM := { c with us := c.us ++ [⟨a, n, []⟩] }
def doneU (u : Nat) (m : Bool) (k : Nat) (s : MS × Bool) : CM := if s.2 then s.1.1 else endS u m k s.1.1
mutual
def mkP (u : Nat) : Nd → MS → Option MS
 | .mk k t a n names kids, (c, us) =>
  if k = 1 ∨ k = 2 ∨ k = 3 ∨ k = 4 then some (litS u (lt (.mk k t a n names kids)) c, us)
  else if k = 5 then (match us with | [] => none | x :: us' => some (useS u x c, us'))
  else if k = 6 then (match us with | [] => none | x :: us' => (mkH u kids (c, us')).map fun s => (setS u x s.1, s.2))
  else if k = 7 then (mkL u kids (c, us)).map fun s => (sendC u (sup0 kids) t (kids.length - 1) s.1, s.2)
  else if k = 8 then mkC u (sup0 kids) kids (c, us)
  else if k = 10 then (mkS c.us.length 0 kids (newU n names.length (addS u (10, c.us.length, 0) c), us)).map fun s => (doneU c.us.length false kids.length s, s.1.2)
  else some (c, us)
def mkH (u : Nat) : List Nd → MS → Option MS
 | [], _ => none
 | x :: _, s => mkP u x s
def mkL (u : Nat) : List Nd → MS → Option MS
 | [], s => some s
 | x :: r, s => (mkP u x s).bind fun s => mkL u r s
def mkC (u : Nat) (sup : Bool) : List Nd → MS → Option MS
 | [], _ => none
 | x :: r, s => (mkP u x s).bind fun s => mkD u sup r s
def mkD (u : Nat) (sup : Bool) : List Nd → MS → Option MS
 | [], _ => none
 | m :: r, s => match r with
  | [] => mkM u sup m s
  | _ :: _ => (mkM u sup m (addS u (11, 0, 0) s.1, s.2)).bind fun s => mkD u sup r (addS u (12, 0, 0) s.1, s.2)
def mkM (u : Nat) (sup : Bool) : Nd → MS → Option MS
 | .mk _ t _ _ _ kids, s => (mkL u kids s).map fun s => (sendC u sup t kids.length s.1, s.2)
def mkS (u : Nat) (i : Nat) : List Nd → MS → Option (MS × Bool)
 | [], s => some (s, false)
 | .mk k t a n names kids :: r, s =>
  if k = 11 then (mkH u kids (if i = 0 then s.1 else addS u (12, 0, 0) s.1, s.2)).map fun s => ((addS u (14, 0, 0) s.1, s.2), true)
  else (mkP u (.mk k t a n names kids) (if i = 0 then s.1 else addS u (12, 0, 0) s.1, s.2)).bind fun s => mkS u (i + 1) r s
end
def mkU (x : Nd) (c : CM) (us : List Us) : Option MS :=
 (mkS lt c.us.length 0 x.kids (newU x.n x.names.length c, us)).map fun s => (doneU c.us.length (decide (x.k = 12) && !decide (x.t = ⟨#[]⟩)) x.kids.length s, s.1.2)
end
end Go.SL
namespace Go.SL
section
variable {P : Program} {N : Nat} {chk : Array Oper → List (List AI) → Bool} {f : FD}
theorem AT.callT {Q : Out → H → Prop} {fn : Func} (hf : P.funcs[f.fn]? = some fn) {ai : AI} {r : List AI} {ks : List AItem} {env : Env} {h : H} {g : Opd} {args : List Opd} {fid : FuncId} {all : List V}
  (hop : ai.op = .call g args) (hg : gOk env ai.guard) (hc : calls (SL.ev env g) (args.map (SL.ev env)) = some (fid, all))
  {QC : Out → H → Prop}
  (hAF : AF P fid all h QC)
  (hk : ∀ out hC', QC out hC' → match out with
   | .ret v => AT P N chk f (.reg r :: ks) (put (dels env ai.kill) ai.dst v) hC' Q
   | .pan v => Q (.pan v) hC') (hkp : subE env f.keep) : AT P N chk f (.reg (ai :: r) :: ks) env h Q := by
 intro κ w a k cs hcs hr he hd
 cases k with
 | nil => simp [CS] at hcs
 | cons x0 k =>
  obtain ⟨y, t, e, h3, h4⟩ := hcs
  simp only [List.cons.injEq] at e
  obtain ⟨e1, e2⟩ := e
  subst e1 e2
  cases x0 <;> simp only [CI] at h3
  rename_i ops l
  cases l with
  | nil => simp [RG] at h3
  | cons i rest =>
   obtain ⟨kill, ai', tl, c1, c2, c3⟩ := h3
   simp only [List.cons.injEq] at c2
   obtain ⟨c2, c4⟩ := c2
   subst c2 c4
   obtain ⟨o, o1, o2, o3, o4, o5, o6, o7⟩ := cAI_inv c1
   have hw := gOk_wanted he o7 hg
   rw [hop] at o5
   have : ∃ ce : Call, ∃ g0, o.op = .call ce ∧ ce.callee = .value g0 ∧ opd g0 = some g ∧ opds ce.args.toList = some args := by
    cases ho : o.op <;> rw [ho] at o5 <;> simp only [copA] at o5
    case call ce =>
     split at o5
     ·rename_i g0 hce
      split at o5
      ·rename_i g1 l1 z1 z2
       simp only [Option.some.injEq, AOp.call.injEq] at o5
       obtain ⟨z3, z4⟩ := o5
       subst z3 z4
       exact ⟨ce, g0, rfl, hce, z1, z2⟩
      ·simp at o5
     ·split at o5 <;> simp at o5
    all_goals first | (split at o5 <;> simp at o5; done) | ((repeat' split at o5) <;> simp at o5)
   obtain ⟨ce, g0, p1, p2, p3, p4⟩ := this
   have hρ := SL.ev_sound he
   have hgv := hρ _ _ p3
   have hav := opds_sound (f := SL.ev env) (ρ := a.eval) hρ p4
   obtain ⟨hcall, hAF⟩ := hAF
   obtain ⟨d, av, q1, q2, q3⟩ := calls_sound (P := P) (w := w) (argv := ce.args.map a.eval) hc hgv (by simpa using hav) hcall
   have hrun : (execOp a.eval o).run P w = .ok (.enter fid ⟨av⟩) w := by
    simp [execOp, p1, resolve, p2, q1, q2]
   obtain ⟨e, w', fr, ⟨κ1, hC', out, r1, r2, r3, r4⟩, r5, r6, r7⟩ := hAF _ w av hr q3 ((baseOf f).atR a (.inRegion ops (i :: rest) :: k) :: cs)
   have hk := hk out hC' r1
   have hgo := stepG_opn (P := P) (b := baseOf f) (k := k) (cs := cs) (w := w) (rest := rest) o1 hw (by intro c; rw [p1]; simp)
   have henter : Go.step P (lone ((baseOf f).atR a (.inRegion ops (i :: rest) :: k)) cs w) = .next (lone (Frame.enter P fid ⟨av⟩ .normal) ((baseOf f).atR a (.inRegion ops (i :: rest) :: k) :: cs) w) :=
    step_lone_go (by rw [hgo]; simp [stepG.apply, hrun, Frame.atR])
   cases out with
   | ret v =>
    obtain ⟨x, s1, s2⟩ := r4
    subst s1
    have hfin : ((baseOf f).atR a (.inRegion ops (i :: rest) :: k)).finish x = (baseOf f).atR (a.put o.dst x) (.inRegion ops rest :: k) := by rw [Frame.finish_atR, o1]; rfl
    have hleave := step_leave_returned (c := (baseOf f).atR a (.inRegion ops (i :: rest) :: k)) (cs := cs) r7
    rw [hfin] at hleave
    refine Ends.of_steps (.head henter (Steps.trans r5 (.one hleave))) (Ends.le r2 (hk κ1 w' _ _ cs ⟨_, _, rfl, c3, h4⟩ r3 ?_ ?_))
    ·rw [o3]
     exact ((he.mono r2).dels ai.kill).putO o6 (s2)
    ·exact hd.put r2 _ _
   | pan v =>
    obtain ⟨x, s1, s2⟩ := r4
    subst s1
    have hleave := step_leave_panicked (c := (baseOf f).atR a (.inRegion ops (i :: rest) :: k)) (cs := cs) r7
    exact ⟨_, w', ((baseOf f).atR a (.inRegion ops (i :: rest) :: k)).raise [{ v := x, recovered := false }], κ1, _, .pan _, hk, r2, r3, ⟨x, rfl, s2⟩, .head henter (Steps.trans r5 (.one hleave)), rfl, rfl, fun _ => hd.mono r2, ⟨fn, hf⟩, rfl, (KeepR.of he hkp).mono r2⟩
theorem EV.callT {Q : Out → H → Prop} {Φ : V → H → Prop} {fn : Func} (hf : P.funcs[f.fn]? = some fn) {ai : AI} {env : Env} {h : H} {g : Opd} {args : List Opd} {fid : FuncId} {all : List V}
  (hop : ai.op = .call g args) (hg : gOk env ai.guard) (hc : calls (SL.ev env g) (args.map (SL.ev env)) = some (fid, all))
  {QC : Out → H → Prop}
  (hAF : AF P fid all h QC)
  (hk : ∀ out hC', QC out hC' → match out with
   | .ret v => Φ v hC'
   | .pan v => Q (.pan v) hC') (hk0 : f.keep = []) : EV P N f ai env h Q Φ := by
 intro κ w a k cs ops i rest o kill ho hcc hr he hd
 obtain ⟨o', o1, o2, o3, o4, o5, o6, o7⟩ := cAI_inv hcc
 rw [ho] at o1
 simp only [Option.some.injEq] at o1
 subst o1
 have hw := gOk_wanted he o7 hg
 rw [hop] at o5
 have : ∃ ce : Call, ∃ g0, o.op = .call ce ∧ ce.callee = .value g0 ∧ opd g0 = some g ∧ opds ce.args.toList = some args := by
  cases ho : o.op <;> rw [ho] at o5 <;> simp only [copA] at o5
  case call ce =>
   split at o5
   ·rename_i g0 hce
    split at o5
    ·rename_i g1 l1 z1 z2
     simp only [Option.some.injEq, AOp.call.injEq] at o5
     obtain ⟨z3, z4⟩ := o5
     subst z3 z4
     exact ⟨ce, g0, rfl, hce, z1, z2⟩
    ·simp at o5
   ·split at o5 <;> simp at o5
  all_goals first | (split at o5 <;> simp at o5; done) | ((repeat' split at o5) <;> simp at o5)
 obtain ⟨ce, g0, p1, p2, p3, p4⟩ := this
 have hρ := SL.ev_sound he
 have hgv := hρ _ _ p3
 have hav := opds_sound (f := SL.ev env) (ρ := a.eval) hρ p4
 obtain ⟨hcall, hAF⟩ := hAF
 obtain ⟨d, av, q1, q2, q3⟩ := calls_sound (P := P) (w := w) (argv := ce.args.map a.eval) hc hgv (by simpa using hav) hcall
 have hrun : (execOp a.eval o).run P w = .ok (.enter fid ⟨av⟩) w := by
  simp [execOp, p1, resolve, p2, q1, q2]
 obtain ⟨e, w', fr, ⟨κ1, hC', out, r1, r2, r3, r4⟩, r5, r6, r7⟩ := hAF _ w av hr q3 ((baseOf f).atR a (.inRegion ops (i :: rest) :: k) :: cs)
 have hk := hk out hC' r1
 have hgo := stepG_opn (P := P) (b := baseOf f) (k := k) (cs := cs) (w := w) (rest := rest) ho hw (by intro c; rw [p1]; simp)
 have henter : Go.step P (lone ((baseOf f).atR a (.inRegion ops (i :: rest) :: k)) cs w) = .next (lone (Frame.enter P fid ⟨av⟩ .normal) ((baseOf f).atR a (.inRegion ops (i :: rest) :: k) :: cs) w) :=
  step_lone_go (by rw [hgo]; simp [stepG.apply, hrun, Frame.atR])
 cases out with
 | ret v =>
  obtain ⟨x, s1, s2⟩ := r4
  subst s1
  have hfin : ((baseOf f).atR a (.inRegion ops (i :: rest) :: k)).finish x = (baseOf f).atR (a.put o.dst x) (.inRegion ops rest :: k) := by rw [Frame.finish_atR, ho]; rfl
  have hleave := step_leave_returned (c := (baseOf f).atR a (.inRegion ops (i :: rest) :: k)) (cs := cs) r7
  rw [hfin] at hleave
  exact .inr ⟨κ1, w', _, x, _, hk, r2, r3, s2, .head henter (Steps.trans r5 (.one hleave))⟩
 | pan v =>
  obtain ⟨x, s1, s2⟩ := r4
  subst s1
  have hleave := step_leave_panicked (c := (baseOf f).atR a (.inRegion ops (i :: rest) :: k)) (cs := cs) r7
  exact .inl ⟨_, w', ((baseOf f).atR a (.inRegion ops (i :: rest) :: k)).raise [{ v := x, recovered := false }], κ1, _, .pan _, hk, r2, r3, ⟨x, rfl, s2⟩, .head henter (Steps.trans r5 (.one hleave)), rfl, rfl, fun _ => hd.mono r2, ⟨fn, hf⟩, rfl, by rw [hk0]; intro p hp; simp at hp⟩
variable {Q : Out → H → Prop}
theorem ATT.callT {fn : Func} (hf : P.funcs[f.fn]? = some fn) {ix : Nat} {dst : Option Nat} {g : Opd} {args : List Opd} {guard : Option (Nat × Bool)} {kill : List Nat} {r : List AI} {k : List AItem} {env : Env} {h : H} {ob : Bool} {fid : FuncId} {all : List V}
  {QC : Out → H → Prop} (n : Nat) (hAF : AF P fid all h QC) (hg : gOk env guard) (hc : calls (SL.ev env g) (args.map (SL.ev env)) = some (fid, all)) (ho : ob = true)
  (hk : ∀ out hC', QC out hC' → match out with
   | .ret v => ATT P N f Q (goes n (.reg r :: k) (put (dels env kill) dst v) hC' true)
   | .pan v => Q (.pan v) hC') (hkp : subE env f.keep := by exact True.intro) : ATT P N f Q (.reg (⟨ix, dst, .call g args, guard, kill⟩ :: r) :: k, env, h, ob) := by
 refine ⟨ho, ?_⟩
 refine AT.callT (hkp := hkp) (ai := ⟨ix, dst, .call g args, guard, kill⟩) hf rfl hg hc hAF fun out hC' hq => ?_
 have h2 := hk out hC' hq
 cases out with
 | ret v => exact (goes_sound n _ _ _ _ h2).2.at
 | pan v => exact h2
theorem ATT.callRT {fn : Func} (hf : P.funcs[f.fn]? = some fn) {ix : Nat} {dst : Option Nat} {g : Opd} {args : List Opd} {guard : Option (Nat × Bool)} {kill : List Nat} {d r : List AI} {k : List AItem} {env : Env} {h : H} {ob : Bool} {fid : FuncId} {all : List V}
  {QC : Out → H → Prop} (n : Nat) (hAF : AF P fid all h QC) (hg : gOk env guard) (hc : calls (SL.ev env g) (args.map (SL.ev env)) = some (fid, all)) (ho : ob = true)
  (hk : ∀ out hC', QC out hC' → match out with
   | .ret v => ATT P N f Q (goes n (.regD (⟨ix, dst, .call g args, guard, kill⟩ :: d) r :: k) (put env dst v) hC' (rcB hC' (put env dst v) kill d))
   | .pan v => Q (.pan v) hC') (hk0 : f.keep = [] := by rfl) : ATT P N f Q (.regD d (⟨ix, dst, .call g args, guard, kill⟩ :: r) :: k, env, h, ob) := by
 refine ⟨ho, ?_⟩
 show ATD P N chkD f (k.map instI) Q d (⟨ix, dst, .call g args, guard, kill⟩ :: r) env h
 simp only [ATD, isRead]
 refine EV.mask fun env' he => ?_
 obtain ⟨c1, c2⟩ := calls_congr (ai := ⟨ix, dst, .call g args, guard, kill⟩) rfl he
 refine EV.callT (hk0 := hk0) (ai := ⟨ix, dst, .call g args, guard, kill⟩) hf rfl (gOk_congr he hg) (by rw [c1, c2]; exact hc) hAF fun out hC' hq => ?_
 have h2 := hk out hC' hq
 cases out with
 | ret v =>
  obtain ⟨q1, q2⟩ := goes_sound n _ _ _ _ h2
  exact ⟨rcB_sound q1, q2⟩
 | pan v => exact h2
end
end Go.SL
namespace Go.SL
open Go.Proofs
set_option maxRecDepth 10000
def fixU (t : ByteArray) : Us := match fixedS t with
 | some (k, i) => ⟨0, t, k, 0, i, false⟩
 | none => ⟨0, t, 0, 0, 0, false⟩
theorem f99_ok (t : ByteArray) : DF Tryz.prog 99 [.str t] (.tup [usD (fixU t), .bool (fixedS t).isSome]) := by
 by_cases h1 : t = ⟨#[115, 101, 108, 102]⟩
 ·have e : fixedS t = some (0, 0) := by unfold fixedS selfT; rw [if_pos h1]
  simp only [fixU, e, usD, Option.isSome_some]
  refine AF.go Tryz.func99 [] fun tb TB Q hQ => ?_
  simp [TB, eq_true h1]
  refine ATT.fin2 hQ Tryz.func99 ?_
  simp
  all_goals (first | omega | exact ⟨_, rfl⟩ | skip)
 by_cases h2 : t = ⟨#[115, 117, 112, 101, 114]⟩
 ·have e : fixedS t = some (1, 0) := by unfold fixedS selfT superT; rw [if_neg h1, if_pos h2]
  simp only [fixU, e, usD, Option.isSome_some]
  refine AF.go Tryz.func99 [] fun tb TB Q hQ => ?_
  simp [TB, h1, eq_true h2]
  refine ATT.fin2 hQ Tryz.func99 ?_
  simp
  all_goals (first | omega | exact ⟨_, rfl⟩ | skip)
 by_cases h3 : t = ⟨#[110, 105, 108]⟩
 ·have e : fixedS t = some (2, 0) := by unfold fixedS selfT superT nilT; rw [if_neg h1, if_neg h2, if_pos h3]
  simp only [fixU, e, usD, Option.isSome_some]
  refine AF.go Tryz.func99 [] fun tb TB Q hQ => ?_
  simp [TB, h1, h2, eq_true h3]
  refine ATT.fin2 hQ Tryz.func99 ?_
  simp
  all_goals (first | omega | exact ⟨_, rfl⟩ | skip)
 by_cases h4 : t = ⟨#[102, 97, 108, 115, 101]⟩
 ·have e : fixedS t = some (2, 1) := by unfold fixedS selfT superT nilT falseT; rw [if_neg h1, if_neg h2, if_neg h3, if_pos h4]
  simp only [fixU, e, usD, Option.isSome_some]
  refine AF.go Tryz.func99 [] fun tb TB Q hQ => ?_
  simp [TB, h1, h2, h3, eq_true h4]
  refine ATT.fin2 hQ Tryz.func99 ?_
  simp
  all_goals (first | omega | exact ⟨_, rfl⟩ | skip)
 by_cases h5 : t = ⟨#[116, 114, 117, 101]⟩
 ·have e : fixedS t = some (2, 2) := by unfold fixedS selfT superT nilT falseT trueT; rw [if_neg h1, if_neg h2, if_neg h3, if_neg h4, if_pos h5]
  simp only [fixU, e, usD, Option.isSome_some]
  refine AF.go Tryz.func99 [] fun tb TB Q hQ => ?_
  simp [TB, h1, h2, h3, h4, eq_true h5]
  refine ATT.fin2 hQ Tryz.func99 ?_
  simp
  all_goals (first | omega | exact ⟨_, rfl⟩ | skip)
 have e : fixedS t = none := by unfold fixedS selfT superT nilT falseT trueT; rw [if_neg h1, if_neg h2, if_neg h3, if_neg h4, if_neg h5]
 simp only [fixU, e, usD, Option.isSome_none]
 refine AF.go Tryz.func99 [] fun tb TB Q hQ => ?_
 simp [TB, h1, h2, h3, h4, h5]
 refine ATT.fin2 hQ Tryz.func99 ?_
 simp
 all_goals (first | omega | exact ⟨_, rfl⟩ | skip)
def idxI : Option Nat → Int
 | some k => k
 | none => -1
theorem idxS_step {t : ByteArray} {l : List ByteArray} {i : Nat} {x : ByteArray} (h : l[i]? = some x) (hx : ¬ x = t) : idxS t (l.drop i) i = idxS t (l.drop (i + 1)) (i + 1) := by
 have : l.drop i = x :: l.drop (i + 1) := by
  obtain ⟨h1, h2⟩ := List.getElem?_eq_some_iff.1 h
  rw [List.drop_eq_getElem_cons h1, h2]
 rw [this]
 simp only [idxS, if_neg hx]
theorem f38_ok (l : List ByteArray) (hl : l.length ≤ 9223372036854775000) (nl : Bool) (z : Nat) (hn : nl = true → l = []) (hz : nl = false → z = 1) (t : ByteArray) : DF Tryz.prog 38 [.sl nl z (l.map .str), .str t] (.int .i64 (idxI (idxS t l 0))) := by
 refine AF.go Tryz.func38 [] fun tb TB Q hQ => ?_
 simp [TB]
 refine ATT.loopG 60 rfl (fun (i : Nat) => l.length - i) (fun (i : Nat) => i ≤ l.length ∧ idxS t (l.drop i) i = idxS t l 0) (fun (i : Nat) => [(0, .d (.sl nl z (l.map .str))), (1, .d (.str t)), (7, .d (.int .i64 l.length)), (8, .d (.int .i64 i))]) (fun (i : Nat) => []) (fun (i : Nat) => []) (0) (by (try dsimp only); exact ⟨Nat.zero_le _, rfl⟩) (by simp <;> omega) (by simp) (by simp) ?_
 intro i u w hI ih
 try simp only at hI ih
 obtain ⟨i1, i2⟩ := hI
 by_cases hi : i < l.length
 ·have hnl : nl = false := by cases nl with | false => rfl | true => (have := hn rfl; rw [this] at hi; simp at hi)
  subst hnl
  have := hz rfl
  subst this
  obtain ⟨y, hy⟩ : ∃ y, l[i]? = some y := ⟨_, List.getElem?_eq_getElem hi⟩
  have hyE : ∀ h, l[i]'h = y := fun h => by rw [List.getElem?_eq_getElem h] at hy; simpa using hy
  have hi' : (i : Int) < l.length := by omega
  have hII : inI ((i : Int) + 1) = true := inI_of (by omega) (by omega)
  by_cases he : y = t
  ·have hd : l.drop i = y :: l.drop (i + 1) := by rw [List.drop_eq_getElem_cons hi, hyE]
   have h0 : idxS t l 0 = some i := by rw [← i2, hd]; simp only [idxS, if_pos he]
   rw [h0] at hQ
   subst he
   simp [TB, hi, hi', hyE]
   refine ATT.fin2 hQ Tryz.func38 ?_
   simp [idxI]
   all_goals (first | omega | exact ⟨_, rfl⟩ | skip)
  ·have he' : ¬ t = y := fun h => he h.symm
   simp [TB, hi, hi', hyE, hII, he']
   refine ih (i + 1) (by first | ((try dsimp only); omega) | (simp [hi, hi', hy, hyE, hII, he'] <;> omega)) (by (try dsimp only); exact ⟨hi, by rw [← i2]; exact (idxS_step hy he).symm⟩) _ _ _ (by simp <;> omega) (by simp <;> omega) (by simp <;> omega)
 ·have hi' : ¬ (i : Int) < l.length := by omega
  have h0 : idxS t l 0 = none := by rw [← i2, List.drop_eq_nil_of_le (by omega)]; rfl
  rw [h0] at hQ
  simp [TB, hi']
  refine ATT.fin2 hQ Tryz.func38 ?_
  simp [idxI]
  all_goals (first | omega | exact ⟨_, rfl⟩ | skip)
theorem f100_ok (l : List ByteArray) (hl : l.length ≤ 9223372036854775000) (nl : Bool) (z : Nat) (hn : nl = true → l = []) (hz : nl = false → z = 1) (t : ByteArray) : DF Tryz.prog 100 [.sl nl z (l.map .str), .str t] (.bool (idxS t l 0).isSome) := by
 have hI := f38_ok l hl nl z hn hz t
 cases h : idxS t l 0 with
 | none =>
  rw [h] at hI
  refine AF.go Tryz.func100 [] fun tb TB Q hQ => ?_
  simp [TB]
  refine ATT.callD Tryz.func100 60 (hI) ?_ ?_ ?_ ?_
  iterate 3 · simp
  simp [idxI]
  refine ATT.fin2 hQ Tryz.func100 ?_
  simp
  all_goals (first | omega | exact ⟨_, rfl⟩ | skip)
 | some k =>
  rw [h] at hI
  have hk : (0 : Int) ≤ k := by omega
  refine AF.go Tryz.func100 [] fun tb TB Q hQ => ?_
  simp [TB]
  refine ATT.callD Tryz.func100 60 (hI) ?_ ?_ ?_ ?_
  iterate 3 · simp
  simp [idxI, hk]
  refine ATT.fin2 hQ Tryz.func100 ?_
  simp
  all_goals (first | omega | exact ⟨_, rfl⟩ | skip)
end Go.SL
namespace Go.SL
open Go.Proofs
set_option maxRecDepth 10000
abbrev WK (sl : List ByteArray) (snl : Bool) (sz n : Nat) : Bx := .cells [.d (.sl snl sz (sl.map .str)), .vs 0 n 0 n] 143
abbrev WU (l : List Us) : Option Vec := some ⟨l.isEmpty, 6, 0, l.map fun u => .d (usD u), 189⟩
def Chn (b : List Bx) : V → Fr → Prop
 | p, [] => p = .d .nilP
 | p, (l, n) :: r => ∃ j q k t a nl z kd, p = .ptr (j + 1) 0 ∧ b[j]? = some (.cells [.d k, .d t, .d a, .d (.int .i64 n), .d (.sl nl z (l.map .str)), .d kd, q] 187) ∧ (nl = true → l = []) ∧ (nl = false → z = 1) ∧ l.length ≤ 10000 ∧ Chn b q r
theorem get_more {α : Type} {b : List α} {j : Nat} {x : α} (h : b[j]? = some x) (c : List α) : (b ++ c)[j]? = some x := by
 rw [List.getElem?_append_left (List.getElem?_eq_some_iff.1 h).1, h]
theorem Chn.more {b : List Bx} (c : List Bx) : ∀ {fr : Fr} {p : V}, Chn b p fr → Chn (b ++ c) p fr
 | [], _, h => h
 | (_l, _n) :: _r, _p, ⟨j, q, k, t, a, nl, z, kd, h1, h2, h3, h4, h5, h6⟩ => ⟨j, q, k, t, a, nl, z, kd, h1, get_more h2 c, h3, h4, h5, Chn.more c h6⟩
theorem Chn.one : ∀ {b : List Bx} {fr : Fr} {p : V}, Chn b p fr → p.one = true
 | _, [], _, h => by subst h; rfl
 | _, (l, n) :: r, p, ⟨j, q, k, t, a, nl, z, kd, h1, _⟩ => by subst h1; rfl
theorem gA {α : Type} (l r : List α) (k : Nat) : (l ++ r)[l.length + k]? = r[k]? := by rw [List.getElem?_append_right (Nat.le_add_right _ _), Nat.add_sub_cancel_left]
set_option maxHeartbeats 1000000 in
theorem f136_ok (sl : List ByteArray) (hsl : sl.length ≤ 1048576) (snl : Bool) (sz : Nat) (hs1 : snl = true → sl = []) (hs2 : snl = false → sz = 1) (n : Nat) (bs : List Bx) (cs : List (Option Vec)) (p : V) (fr : Fr) (hf : fr.length ≤ 1000000) (hC : Chn bs p fr) (t : ByteArray) :
  AF Tryz.prog 136 [.ptr 0 0, .d (.str t), p] ⟨WK sl snl sz n :: bs, cs⟩ fun o h => ∃ b c, o = .ret (.d (.tup [usD (findS sl fr t).1, .bool (findS sl fr t).2])) ∧ h = ⟨WK sl snl sz n :: (bs ++ b), cs ++ c⟩ := by
 have hF := f99_ok t
 have hIs := f38_ok sl (by omega) snl sz hs1 hs2 t
 cases hx : fixedS t with
 | some ki =>
  obtain ⟨k, i⟩ := ki
  have e : findS sl fr t = (⟨0, t, k, 0, i, false⟩, false) := by unfold findS; rw [hx]
  simp only [fixU, hx, Option.isSome_some, usD] at hF
  rw [e]
  refine AF.go Tryz.func136 [(10, [oD 10 [(8, [1, 2, 3, 4, 5, 6, 7])]]), (6, [oD 8 [(6, [2, 3, 4, 5])]])] fun tb TB Q hQ => ?_
  simp [TB]
  refine ATT.callD Tryz.func136 60 (hF) ?_ ?_ ?_ ?_
  iterate 3 · simp
  simp [TB]
  refine ATT.fin2 hQ Tryz.func136 ?_
  simp [usD]
  all_goals (first | omega | exact ⟨_, rfl⟩ | skip)
 | none =>
  simp only [fixU, hx, Option.isSome_none, usD] at hF
  refine AF.go Tryz.func136 [(10, [oD 10 [(8, [1, 2, 3, 4, 5, 6, 7])]]), (6, [oD 8 [(6, [2, 3, 4, 5])]])] fun tb TB Q hQ => ?_
  simp [TB]
  refine ATT.callD Tryz.func136 60 (hF) ?_ ?_ ?_ ?_
  iterate 3 · simp
  simp [TB]
  refine ATT.loopG 60 rfl (fun ((p', r, d) : V × Fr × Nat) => r.length) (fun ((p', r, d) : V × Fr × Nat) => Chn bs p' r ∧ srchS t r d = srchS t fr 0 ∧ d + r.length ≤ 1000000) (fun ((p', r, d) : V × Fr × Nat) => [(0, .ptr 0 0), (1, .d (.str t)), (2, p'), (6, .ptr (bs.length + 1) 0), (8, .ptr (bs.length + 1 + 1) 0), (10, .d (.int .i64 d))]) (fun ((p', r, d) : V × Fr × Nat) => WK sl snl sz n :: (bs ++ [.cells [.d (.int .i64 0), .d (.str ⟨#[]⟩), .d (.int .i64 0), .d (.int .i64 0), .d (.int .i64 0), .d (.bool false)] 189, .cells [.d (.int .i64 0), .d (.str t), .d (.int .i64 0), .d (.int .i64 0), .d (.int .i64 0), .d (.bool false)] 189])) (fun ((p', r, d) : V × Fr × Nat) => cs) ((p, fr, 0)) (by (try dsimp only); exact ⟨hC, rfl, by omega⟩) (by simp <;> omega) (by simp) (by simp) ?_
  intro ⟨p', r, d⟩ u w hI ih
  try simp only at hI ih
  obtain ⟨i1, i2, i3⟩ := hI
  cases r with
  | nil =>
   have i1 : p' = .d .nilP := i1
   subst i1
   have hs0 : srchS t fr 0 = none := i2.symm
   simp [TB]
   cases hI2 : idxS t sl 0 with
   | some k =>
    rw [hI2] at hIs
    have e : findS sl fr t = (⟨0, t, 4, 0, k, false⟩, false) := by unfold findS; rw [hx]; simp only [hs0, hI2]
    rw [e] at hQ
    have hk : (0 : Int) ≤ k := by omega
    refine ATT.callD Tryz.func136 60 (hIs) ?_ ?_ ?_ ?_
    iterate 3 · simp
    simp [TB, idxI, hk]
    refine ATT.fin2 hQ Tryz.func136 ?_
    simp [usD]
    all_goals (first | omega | exact ⟨_, rfl⟩ | skip)
   | none =>
    rw [hI2] at hIs
    cases hb : bigS t with
    | true =>
     have e : findS sl fr t = (⟨0, t, 5, 0, 0, false⟩, false) := by unfold findS; rw [hx]; simp only [hs0, hI2, hb, if_true]
     rw [e] at hQ
     unfold bigS at hb
     simp only [Bool.and_eq_true, decide_eq_true_eq] at hb
     have ht : ¬ t = ⟨#[]⟩ := fun e => by subst e; exact absurd hb.1.1 (by decide)
     have h0 : inR 0 t.size = true := inR_of (by omega) (by omega)
     have h65 := hb.1.2
     have h90 := hb.2
     refine ATT.callD Tryz.func136 60 (hIs) ?_ ?_ ?_ ?_
     iterate 3 · simp
     simp [TB, idxI, ht, h0, h65, h90]
     refine ATT.fin2 hQ Tryz.func136 ?_
     simp [usD]
     all_goals (first | omega | exact ⟨_, rfl⟩ | skip)
    | false =>
     have e : findS sl fr t = (⟨0, t, -1, 0, 0, false⟩, false) := by unfold findS; rw [hx]; simp only [hs0, hI2, hb]; rfl
     rw [e] at hQ
     unfold bigS at hb
     by_cases ht : t = ⟨#[]⟩
     ·skip
      refine ATT.callD Tryz.func136 60 (hIs) ?_ ?_ ?_ ?_
      iterate 3 · simp
      simp [TB, idxI, eq_true ht]
      refine ATT.fin2 hQ Tryz.func136 ?_
      simp [usD]
      all_goals (first | omega | exact ⟨_, rfl⟩ | skip)
     ·have hz : 0 < t.size := by
       rcases Nat.eq_zero_or_pos t.size with h | h
       ·exact absurd (by rcases t with ⟨d⟩; have : d.size = 0 := h; simp at this; rw [this]) ht
       ·exact h
      have h0 : inR 0 t.size = true := inR_of (by omega) (by omega)
      by_cases h65 : 65 ≤ sbyte t 0
      ·have h90 : ¬ sbyte t 0 ≤ 90 := fun h => by simp [hz, h65, h] at hb
       refine ATT.callD Tryz.func136 60 (hIs) ?_ ?_ ?_ ?_
       iterate 3 · simp
       simp [TB, idxI, ht, h0, h65, h90]
       refine ATT.fin2 hQ Tryz.func136 ?_
       simp [usD]
       all_goals (first | omega | exact ⟨_, rfl⟩ | skip)
      ·skip
       refine ATT.callD Tryz.func136 60 (hIs) ?_ ?_ ?_ ?_
       iterate 3 · simp
       simp [TB, idxI, ht, h0, h65]
       refine ATT.fin2 hQ Tryz.func136 ?_
       simp [usD]
       all_goals (first | omega | exact ⟨_, rfl⟩ | skip)
  | cons lm r =>
   obtain ⟨l, m⟩ := lm
   obtain ⟨j, q, k0, t0, a0, nl, z, kd, e1, e2, e3, e4, e5, e6⟩ := i1
   subst e1
   have hg := get_more e2
   have hIl := f38_ok l (by omega) nl z e3 e4 t
   have hII : inI ((d : Int) + 1) = true := inI_of (by simp at i3; omega) (by simp at i3; omega)
   cases hI2 : idxS t l 0 with
   | some k =>
    rw [hI2] at hIl
    have hs0 : srchS t fr 0 = some (d, k, decide (k < m)) := by rw [← i2]; simp only [srchS, hI2]
    have e : findS sl fr t = (⟨0, t, 3, d, k, false⟩, decide (k < m)) := by unfold findS; rw [hx]; simp only [hs0]
    rw [e] at hQ
    have hk : (0 : Int) ≤ k := by omega
    simp [TB, hg]
    refine ATT.callD Tryz.func136 60 (hIl) ?_ ?_ ?_ ?_
    iterate 3 · simp
    simp [TB, idxI, hk, hg]
    refine ATT.fin2 hQ Tryz.func136 ?_
    simp [usD]
    all_goals (first | omega | exact ⟨_, rfl⟩ | skip)
   | none =>
    rw [hI2] at hIl
    simp [TB, hg]
    refine ATT.callD Tryz.func136 60 (hIl) ?_ ?_ ?_ ?_
    iterate 3 · simp
    simp [TB, idxI, hg, hII]
    refine ih (q, r, d + 1) (by first | ((try dsimp only); omega) | (simp <;> omega)) (by (try dsimp only); exact ⟨e6, by rw [← i2]; simp only [srchS, hI2], by simp at i3; omega⟩) _ _ _ (by simp <;> omega) (by simp <;> omega) (by simp <;> omega)
end Go.SL
namespace Go.SL
open Go.Proofs
set_option maxRecDepth 10000
theorem NdRL.at : ∀ {ks : List Nd} {ds : List D} {i : Nat} {y : Nd}, NdRL ks ds → ks[i]? = some y → ∃ d, ds[i]? = some d ∧ NdR y d
 | x :: r, ds, 0, y, h, e => by
  simp only [NdRL] at h
  obtain ⟨d, l, e1, h1, h2⟩ := h
  subst e1
  simp at e; subst e
  exact ⟨d, rfl, h1⟩
 | x :: r, ds, i + 1, y, h, e => by
  simp only [NdRL] at h
  obtain ⟨d, l, e1, h1, h2⟩ := h
  subst e1
  obtain ⟨d2, g1, g2⟩ := h2.at (i := i) (by simpa using e)
  exact ⟨d2, by simpa using g1, g2⟩
theorem kid_lt {x y : Nd} {i : Nat} (h : x.kids[i]? = some y) : SizeOf.sizeOf y < SizeOf.sizeOf x := by
 cases x with
 | mk k t a n names kids =>
  have := List.sizeOf_lt_of_mem (List.mem_of_getElem? h)
  simp [Nd.kids] at this ⊢
  omega
mutual
theorem useP_len {sl : List ByteArray} : ∀ {x : Nd} {fr : Fr} {to : Bool} {us : List Us}, useP sl fr to x = .inl us → us.length ≤ nds x
 | .mk k t a n names kids, fr, to, us, h => by
  simp only [useP] at h
  simp only [nds]
  split at h
  ·split at h
   ·simp at h
   ·simp only [Sum.inl.injEq] at h; rw [← h]; simp
  split at h
  ·split at h
   ·simp at h
   ·cases hk : useL sl fr false kids with
    | inl r =>
     rw [hk] at h
     simp only [catU, Sum.inl.injEq] at h
     have := useL_len hk
     rw [← h]; simp; omega
    | inr e => rw [hk] at h; simp [catU] at h
  split at h
  ·split at h
   ·simp at h
   ·have := useL_len h; omega
  ·have := useL_len h; omega
theorem useL_len {sl : List ByteArray} : ∀ {l : List Nd} {fr : Fr} {to : Bool} {us : List Us}, useL sl fr to l = .inl us → us.length ≤ ndL l
 | [], fr, to, us, h => by simp only [useL, Sum.inl.injEq] at h; rw [← h]; simp
 | x :: r, fr, to, us, h => by
  simp only [useL] at h
  simp only [ndL]
  cases h1 : useP sl fr to x with
  | inr e => rw [h1] at h; simp [catU] at h
  | inl a =>
   cases h2 : useL sl fr false r with
   | inr e => rw [h1, h2] at h; simp [catU] at h
   | inl b =>
    rw [h1, h2] at h
    simp only [catU, Sum.inl.injEq] at h
    have := useP_len h1; have := useL_len h2
    rw [← h]; simp; omega
end
theorem catU_nil (r : List Us ⊕ Nat) : catU (.inl []) r = r := by cases r <;> rfl
theorem catU_end (a : List Us) : catU (.inl a) (.inl []) = .inl a := by simp [catU]
theorem catU_assoc (a b : List Us) (r : List Us ⊕ Nat) : catU (.inl a) (catU (.inl b) r) = catU (.inl (a ++ b)) r := by cases r <;> simp [catU]
theorem nd_drop {l : List Nd} {i : Nat} {y : Nd} (h : l[i]? = some y) : l.drop i = y :: l.drop (i + 1) := by
 obtain ⟨h1, h2⟩ := List.getElem?_eq_some_iff.1 h
 rw [List.drop_eq_getElem_cons h1, h2]
def stopW (a : Nat) : V := .d (.iface 140 (.agg [.int .i64 a]))
def WQ (sl : List ByteArray) (snl : Bool) (sz : Nat) (bs : List Bx) (cs : List (Option Vec)) (l : List Us) (r : List Us ⊕ Nat) (o : Out) (h : H) : Prop := match r with
 | .inl us => ∃ b c, o = .ret (.d (.tup [])) ∧ h = ⟨WK sl snl sz (l ++ us).length :: (bs ++ b), WU (l ++ us) :: (cs ++ c)⟩
 | .inr a => o = .pan (stopW a) ∧ 1 ≤ h.bx.length ∧ 1 ≤ h.vc.length
def PartC (sl : List ByteArray) (snl : Bool) (sz : Nat) (x : Nd) : Prop := ∀ (u : D), NdR x u → ∀ (l : List Us) (bs : List Bx) (cs : List (Option Vec)) (p : V) (fr : Fr) (to : Bool), fr.length + nds x ≤ 1000000 → l.length + nds x ≤ 1000000 → Chn bs p fr → ∀ (W0 : Bx) (V0 : Option Vec), W0 = WK sl snl sz l.length → V0 = WU l →
 AF Tryz.prog 101 [.ptr 0 0, .d u, p, .d (.bool to)] ⟨W0 :: bs, V0 :: cs⟩ (WQ sl snl sz bs cs l (useP sl fr to x))
def UnitC (sl : List ByteArray) (snl : Bool) (sz : Nat) (x : Nd) : Prop := ∀ (u : D), NdR x u → ∀ (l : List Us) (bs : List Bx) (cs : List (Option Vec)) (p : V) (fr : Fr), fr.length + nds x ≤ 1000000 → l.length + nds x ≤ 1000000 → Chn bs p fr → ∀ (W0 : Bx) (V0 : Option Vec), W0 = WK sl snl sz l.length → V0 = WU l →
 AF Tryz.prog 72 [.ptr 0 0, .d u, p] ⟨W0 :: bs, V0 :: cs⟩ (WQ sl snl sz bs cs l (useU sl fr x))
set_option maxHeartbeats 1000000 in
theorem f72_ok {sl : List ByteArray} {snl : Bool} {sz : Nat} {Q0 : ByteArray → Nat → Prop} (x : Nd) (hg : Good Q0 x) (hk : ∀ y ∈ x.kids, PartC sl snl sz y) : UnitC sl snl sz x := by
 intro u hu l bs cs p fr hfr hl hC W0 V0 eW eV
 subst eW eV
 obtain ⟨nl1, z1, nl2, z2, ds, e, h1, h2, h3, h4, h5⟩ := hu.shape
 subst e
 have ho := hg.one
 have hl1 : x.names.length ≤ 10000 := ho.1
 have hl2 : x.kids.length ≤ 10000 := ho.2.1
 have hdl := h5.length
 have hp1 := hC.one
 have hn := Nd.count x
 have rest : ∀ (Q : Out → H → Prop), (∀ o h, WQ sl snl sz bs cs l (useU sl fr x) o h → Q o h) → ∀ p : V, Chn bs p fr → ATT Tryz.prog 68 (FD.of 72) Q ([.code (.loop c72l9), .blk 0, .code (.seq (.regT c72t 10) (.block 2 (.loop c72l15)))], [(23, .d (.int .i64 0)), (22, .d (.int .i64 x.names.length)), (21, .d (.sl nl1 z1 (x.names.map .str))), (6, .ptr (bs.length + 1 + 1) 0), (0, .ptr 0 0)], ⟨WK sl snl sz l.length :: (bs ++ [.cells [.d (.int .i64 x.k), .d (.str x.t), .d (.int .i64 x.a), .d (.int .i64 x.n), .d (.sl nl1 z1 (x.names.map .str)), .d (.sl nl2 z2 ds)] 75, .cells [.d (.int .i64 x.k), .d (.str x.t), .d (.int .i64 x.a), .d (.int .i64 x.n), .d (.sl nl1 z1 (x.names.map .str)), .d (.sl nl2 z2 ds), p] 187]), WU l :: cs⟩, true) := by
  clear hC
  intro Q hQ p hC
  refine ATT.loopG 60 c72l9.eq_1 (fun (i : Nat) => x.names.length - i) (fun (i : Nat) => i ≤ x.names.length ∧ oddS [] x.names = oddS (x.names.take i) (x.names.drop i)) (fun (i : Nat) => [(0, .ptr 0 0), (6, .ptr (bs.length + 1 + 1) 0), (21, .d (.sl nl1 z1 (x.names.map .str))), (22, .d (.int .i64 x.names.length)), (23, .d (.int .i64 i))]) (fun (i : Nat) => WK sl snl sz l.length :: (bs ++ [.cells [.d (.int .i64 x.k), .d (.str x.t), .d (.int .i64 x.a), .d (.int .i64 x.n), .d (.sl nl1 z1 (x.names.map .str)), .d (.sl nl2 z2 ds)] 75, .cells [.d (.int .i64 x.k), .d (.str x.t), .d (.int .i64 x.a), .d (.int .i64 x.n), .d (.sl nl1 z1 (x.names.map .str)), .d (.sl nl2 z2 ds), p] 187])) (fun (i : Nat) => WU l :: cs) (0) (by (try dsimp only); exact ⟨Nat.zero_le _, rfl⟩) (by simp <;> omega) (by simp) (by simp) ?_
  intro i u w hI ih
  try simp only at hI ih
  obtain ⟨i1, i2⟩ := hI
  by_cases hi : i < x.names.length
  ·have hnl1 : nl1 = false := by cases nl1 with | false => rfl | true => (have := h1 rfl; rw [this] at hi; simp at hi)
   subst hnl1
   have := h2 rfl
   subst this
   obtain ⟨y, hy⟩ : ∃ y, x.names[i]? = some y := ⟨_, List.getElem?_eq_getElem hi⟩
   have hyE : ∀ h, x.names[i]'h = y := fun h => by rw [List.getElem?_eq_getElem h] at hy; simpa using hy
   have hyd : x.names.drop i = y :: x.names.drop (i + 1) := by rw [List.drop_eq_getElem_cons hi, hyE]
   rw [hyd] at i2
   simp only [oddS] at i2
   have hi' : (i : Int) < x.names.length := by omega
   have hle : (i : Int) ≤ x.names.length := by omega
   have hII : inI ((i : Int) + 1) = true := inI_of (by omega) (by omega)
   have hF := f99_ok y
   have hCt := f100_ok (x.names.take i) (by simp; omega) false 1 (fun h => by simp at h) (fun _ => rfl) y
   rw [List.map_take] at hCt
   cases hfx : (fixedS y).isSome with
   | true =>
    rw [hfx] at hF
    simp only [usD] at hF
    have hod : oddS [] x.names = true := by rw [i2, hfx]; simp
    simp only [useU, hod, if_true] at hQ
    simp [c72t, hi, hi', hyE]
    refine ATT.callD Tryz.func72 60 (hF) ?_ ?_ ?_ ?_
    iterate 3 · simp
    simp [c72t]
    refine ATT.pan hQ Tryz.func72 (by simp; exact ⟨rfl, rfl⟩) ?_ ?_ ?_
    iterate 2 · simp
    try simp [WQ, stopW]
   | false =>
    rw [hfx] at hF
    simp only [usD] at hF
    cases hct : (idxS y (x.names.take i) 0).isSome with
    | true =>
     rw [hct] at hCt
     have hod : oddS [] x.names = true := by rw [i2, hct]; simp
     simp only [useU, hod, if_true] at hQ
     simp [c72t, hi, hi', hyE]
     refine ATT.callD Tryz.func72 60 (hF) ?_ ?_ ?_ ?_
     iterate 3 · simp
     simp [c72t, hle]
     refine ATT.callD Tryz.func72 60 (hCt) ?_ ?_ ?_ ?_
     iterate 3 · simp
     simp [c72t]
     refine ATT.pan hQ Tryz.func72 (by simp; exact ⟨rfl, rfl⟩) ?_ ?_ ?_
     iterate 2 · simp
     try simp [WQ, stopW]
    | false =>
     rw [hct] at hCt
     have hod : oddS [] x.names = oddS (x.names.take (i + 1)) (x.names.drop (i + 1)) := by rw [i2, hfx, hct, List.take_add_one, hy]; simp
     simp [c72t, hi, hi', hyE]
     refine ATT.callD Tryz.func72 60 (hF) ?_ ?_ ?_ ?_
     iterate 3 · simp
     simp [c72t, hle]
     refine ATT.callD Tryz.func72 60 (hCt) ?_ ?_ ?_ ?_
     iterate 3 · simp
     simp [c72t, hII]
     refine ih (i + 1) (by first | ((try dsimp only); omega) | (simp [hi, hi', hy, hyE, hII, hle] <;> omega)) (by (try dsimp only); exact ⟨hi, hod⟩) _ _ _ (by simp <;> omega) (by simp <;> omega) (by simp <;> omega)
  ·have hi' : ¬ (i : Int) < x.names.length := by omega
   have hod : oddS [] x.names = false := by rw [i2, List.drop_eq_nil_of_le (by omega)]; rfl
   simp only [useU, hod, Bool.false_eq_true, if_false] at hQ
   simp [c72t, hi', hdl]
   refine ATT.loopG 60 c72l15.eq_1 (fun ((i, dn) : Nat × List Us) => x.kids.length - i) (fun ((i, dn) : Nat × List Us) => i ≤ x.kids.length ∧ useL sl ((x.names, x.n) :: fr) false x.kids = catU (.inl dn) (useL sl ((x.names, x.n) :: fr) false (x.kids.drop i)) ∧ dn.length + ndL (x.kids.drop i) ≤ ndL x.kids) (fun ((i, dn) : Nat × List Us) => [(0, .ptr 0 0), (6, .ptr (bs.length + 1 + 1) 0), (57, .d (.sl nl2 z2 ds)), (58, .d (.int .i64 x.kids.length)), (59, .d (.int .i64 i))]) (fun ((i, dn) : Nat × List Us) => WK sl snl sz (l ++ dn).length :: (bs ++ [.cells [.d (.int .i64 x.k), .d (.str x.t), .d (.int .i64 x.a), .d (.int .i64 x.n), .d (.sl nl1 z1 (x.names.map .str)), .d (.sl nl2 z2 ds)] 75, .cells [.d (.int .i64 x.k), .d (.str x.t), .d (.int .i64 x.a), .d (.int .i64 x.n), .d (.sl nl1 z1 (x.names.map .str)), .d (.sl nl2 z2 ds), p] 187])) (fun ((i, dn) : Nat × List Us) => WU (l ++ dn) :: cs) ((0, [])) (by (try dsimp only); exact ⟨Nat.zero_le _, by rw [catU_nil]; rfl, by simp⟩) (by simp <;> omega) (by simp) (by simp) ?_
   intro ⟨i, dn⟩ u w hI ih
   try simp only at hI ih
   obtain ⟨j1, j2, j3⟩ := hI
   by_cases hi : i < x.kids.length
   ·have hnl2 : nl2 = false := by cases nl2 with | false => rfl | true => (have := h3 rfl; rw [this] at hi; simp at hi)
    subst hnl2
    have := h4 rfl
    subst this
    obtain ⟨y, hy⟩ : ∃ y, x.kids[i]? = some y := ⟨_, List.getElem?_eq_getElem hi⟩
    obtain ⟨d, hd, hyd⟩ := h5.at hy
    have hdE : ∀ h, ds[i]'h = d := fun h => by rw [List.getElem?_eq_getElem h] at hd; simpa using hd
    have hi' : (i : Int) < x.kids.length := by omega
    have hII : inI ((i : Int) + 1) = true := inI_of (by omega) (by omega)
    rw [nd_drop hy] at j2 j3
    simp only [useL] at j2
    simp only [ndL] at j3
    have hyd' := hyd
    obtain ⟨nl1_d, z1_d, nl2_d, z2_d, ds_d, hv_d, ha_d, hb_d, hc_d, hd_d, he_d⟩ := hyd.shape
    have hw_d := hv_d
    subst hw_d
    simp [c72t, hdl, hi, hi', hdE]
    refine ATT.callT Tryz.func72 60 (hk y (List.mem_of_getElem? hy) _ hyd' (l ++ dn) _ _ _ ((x.names, x.n) :: fr) false (by simp; omega) (by simp; omega) ⟨bs.length + 1, p, _, _, _, nl1, z1, _, rfl, gA bs _ 1, h1, h2, hl1, hC.more _⟩ _ _ (by simp) (by simp)) (by simp) (by simp) (by simp) fun out hC hE => ?_
    cases hr : useP sl ((x.names, x.n) :: fr) false y with
    | inr a =>
     rw [hr] at hE j2
     obtain ⟨e1, e2, e3⟩ := hE
     subst e1
     rw [j2] at hQ
     exact hQ _ _ ⟨rfl, e2, e3⟩
    | inl us =>
     have hus := useP_len hr
     rw [hr, catU_assoc] at j2
     rw [hr] at hE
     obtain ⟨b, c, e1, e2⟩ := hE
     subst e1 e2
     simp [c72t, hII]
     refine ih (i + 1, dn ++ us) (by first | ((try dsimp only); omega) | (simp [hdl, hi, hi', hd, hdE, hII] <;> omega)) (by (try dsimp only); exact ⟨hi, j2, by simp; omega⟩) _ _ _ (by simp <;> omega) (by simp <;> omega) (by simp <;> omega)
   ·have hi' : ¬ (i : Int) < x.kids.length := by omega
    rw [List.drop_eq_nil_of_le (by omega)] at j2
    simp only [useL] at j2
    rw [catU_end] at j2
    rw [j2] at hQ
    simp [c72t, hi']
    refine ATT.fin0' hQ Tryz.func72 c72res ?_
    simp [WQ]
    all_goals (first | omega | exact ⟨_, rfl⟩ | skip)
 cases fr with
 | nil =>
  have hC' : p = .d .nilP := hC
  subst hC'
  refine AF.start' 60 Tryz.func72 rfl rfl c72call c72ok fun Q hQ => ?_
  simp [c72c, c72t]
  exact rest Q hQ _ hC
 | cons a b =>
  obtain ⟨j, q, k0, t0, a0, nl, z, kd, e1, e2⟩ := id hC
  subst e1
  refine AF.start' 60 Tryz.func72 rfl rfl c72call c72ok fun Q hQ => ?_
  simp [c72c, c72t]
  exact rest Q hQ _ hC
end Go.SL
namespace Go.SL
open Go.Proofs
set_option maxRecDepth 10000
theorem WQ.shift {sl : List ByteArray} {snl : Bool} {sz : Nat} {bs : List Bx} {cs : List (Option Vec)} {l : List Us} {u : Us} {r : List Us ⊕ Nat} {o : Out} {h : H} (q : WQ sl snl sz bs cs (l ++ [u]) r o h) : WQ sl snl sz bs cs l (catU (.inl [u]) r) o h := by
 cases r with
 | inl us =>
  obtain ⟨b, c, e1, e2⟩ := q
  exact ⟨b, c, e1, by rw [e2]; simp⟩
 | inr a => exact q
set_option maxHeartbeats 2000000 in
theorem f101_ok {sl : List ByteArray} (hsl : sl.length ≤ 1048576) {snl : Bool} {sz : Nat} (hs1 : snl = true → sl = []) (hs2 : snl = false → sz = 1) {Q0 : ByteArray → Nat → Prop} : ∀ (m : Nat) (x : Nd), SizeOf.sizeOf x ≤ m → Good Q0 x → PartC sl snl sz x := by
 intro m
 induction m with
 | zero => intro x h; cases x; simp at h
 | succ m ihn =>
  intro x hm hg u hu l bs cs p fr to hfr hl hC W0 V0 eW eV
  subst eW eV
  have hu0 := hu
  obtain ⟨nl1, z1, nl2, z2, ds, e, h1, h2, h3, h4, h5⟩ := hu.shape
  subst e
  have ho := hg.one
  have hl2 : x.kids.length ≤ 10000 := ho.2.1
  have hdl := h5.length
  have hn := Nd.count x
  obtain ⟨U, hU⟩ : ∃ U, findS sl fr x.t = U := ⟨_, rfl⟩
  obtain ⟨⟨a0, t0, k0, d0, i0, w0⟩, g0⟩ := U
  have hmul : (l.length + 1) * 56 ≤ 140737488355328 := by omega
  by_cases k5 : x.k = 5
  ·have e : useP sl fr to x = if k0 = -1 ∨ (k0 = 1 ∧ to = false) then .inr x.a else .inl [⟨x.a, t0, k0, d0, i0, w0⟩] := by
    cases x with
    | mk k t a n names kids =>
     simp only [Nd.k, Nd.t] at k5 hU
     simp only [useP, if_pos k5, hU, Nd.a]
   rw [e]
   refine AF.go Tryz.func101 [(7, [oD 11 [(6, [0, 1, 2, 3, 4]), (7, [0])]]), (13, [oD 11 [(6, [0, 1, 2, 3, 4]), (7, [0])]])] fun tb TB Q hQ => ?_
   simp [TB, k5]
   refine ATT.callT Tryz.func101 60 (f136_ok sl hsl snl sz hs1 hs2 l.length _ _ p fr (by omega) (hC.more _) x.t) ?_ ?_ ?_ fun out hC hE => ?_
   iterate 3 · simp
   obtain ⟨b, c, e1, e2⟩ := hE
   rw [hU] at e1
   simp only [usD] at e1
   subst e1 e2
   by_cases n1 : k0 = -1
   ·rw [if_pos (.inl n1)] at hQ
    simp [TB, eq_true n1]
    refine ATT.pan hQ Tryz.func101 (by simp; exact ⟨rfl, rfl⟩) ?_ ?_ ?_
    iterate 2 · simp
    try simp [WQ, stopW]
   by_cases n2 : k0 = 1
   ·cases to with
    | false =>
     rw [if_pos (.inr ⟨n2, rfl⟩)] at hQ
     simp [TB, n1, eq_true n2]
     refine ATT.pan hQ Tryz.func101 (by simp; exact ⟨rfl, rfl⟩) ?_ ?_ ?_
     iterate 2 · simp
     try simp [WQ, stopW]
    | true =>
     rw [if_neg (by simp [n1])] at hQ
     simp [TB, n1, eq_true n2, hmul]
     refine ATT.fin2 hQ Tryz.func101 ?_
     simp [WQ, usD]
     all_goals (first | omega | exact ⟨_, rfl⟩ | skip)
   ·rw [if_neg (by simp [n1, n2])] at hQ
    simp [TB, n1, n2, hmul]
    refine ATT.fin2 hQ Tryz.func101 ?_
    simp [WQ, usD]
    all_goals (first | omega | exact ⟨_, rfl⟩ | skip)
  by_cases k6 : x.k = 6
  ·have e : useP sl fr to x = if g0 = true ∨ (k0 ≠ 3 ∧ k0 ≠ 4) then .inr x.a else catU (.inl [⟨x.a, t0, k0, d0, i0, true⟩]) (useL sl fr false x.kids) := by
    cases x with
    | mk k t a n names kids =>
     simp only [Nd.k, Nd.t] at k5 k6 hU
     simp only [useP, if_neg k5, if_pos k6, hU, Nd.a, Nd.kids]
   rw [e]
   refine AF.go Tryz.func101 [(7, [oD 11 [(6, [0, 1, 2, 3, 4]), (7, [0])]]), (13, [oD 11 [(6, [0, 1, 2, 3, 4]), (7, [0])]])] fun tb TB Q hQ => ?_
   simp [TB, k6]
   refine ATT.callT Tryz.func101 60 (f136_ok sl hsl snl sz hs1 hs2 l.length _ _ p fr (by omega) (hC.more _) x.t) ?_ ?_ ?_ fun out hC hE => ?_
   iterate 3 · simp
   obtain ⟨b, c, e1, e2⟩ := hE
   rw [hU] at e1
   simp only [usD] at e1
   subst e1 e2
   cases g0 with
   | true =>
    rw [if_pos (.inl rfl)] at hQ
    simp [TB]
    refine ATT.pan hQ Tryz.func101 (by simp; exact ⟨rfl, rfl⟩) ?_ ?_ ?_
    iterate 2 · simp
    try simp [WQ, stopW]
   | false =>
    by_cases n3 : k0 = 3
    ·rw [if_neg (by simp [n3])] at hQ
     replace hQ := fun o h q => hQ o h (WQ.shift q)
     obtain ⟨U, hW⟩ : ∃ U : Us, (⟨x.a, t0, k0, d0, i0, true⟩ : Us) = U := ⟨_, rfl⟩
     rw [hW] at hQ
     have hwD : usD U = D.agg [.int .i64 x.a, .str t0, .int .i64 k0, .int .i64 d0, .int .i64 i0, .bool true] := by rw [← hW]; rfl
     simp [TB, hdl, eq_true n3, hmul]
     refine ATT.loopG 60 rfl (fun ((i, dn) : Nat × List Us) => x.kids.length - i) (fun ((i, dn) : Nat × List Us) => i ≤ x.kids.length ∧ useL sl fr false x.kids = catU (.inl dn) (useL sl fr (if i = 0 then false else false) (x.kids.drop i)) ∧ dn.length + ndL (x.kids.drop i) ≤ ndL x.kids) (fun ((i, dn) : Nat × List Us) => [(0, .ptr 0 0), (2, p), (5, .ptr (bs.length + 1) 0), (101, .d (.sl nl2 z2 ds)), (102, .d (.int .i64 x.kids.length)), (103, .d (.int .i64 i))]) (fun ((i, dn) : Nat × List Us) => WK sl snl sz ((l ++ [U]) ++ dn).length :: (bs ++ [.cells [.d (.int .i64 x.k), .d (.str x.t), .d (.int .i64 x.a), .d (.int .i64 x.n), .d (.sl nl1 z1 (x.names.map .str)), .d (.sl nl2 z2 ds)] 75])) (fun ((i, dn) : Nat × List Us) => WU ((l ++ [U]) ++ dn) :: cs) ((0, [])) (by (try dsimp only); exact ⟨Nat.zero_le _, by rw [catU_nil]; rfl, by simp⟩) (by simp <;> omega) (by simp) (by simp [k6, hwD]) ?_
     intro ⟨i, dn⟩ u w hI ih
     try simp only at hI ih
     obtain ⟨j1, j2, j3⟩ := hI
     by_cases hi : i < x.kids.length
     ·have hnl2 : nl2 = false := by cases nl2 with | false => rfl | true => (have := h3 rfl; rw [this] at hi; simp at hi)
      subst hnl2
      have := h4 rfl
      subst this
      obtain ⟨y, hy⟩ : ∃ y, x.kids[i]? = some y := ⟨_, List.getElem?_eq_getElem hi⟩
      obtain ⟨d, hd, hyd⟩ := h5.at hy
      have hdE : ∀ h, ds[i]'h = d := fun h => by rw [List.getElem?_eq_getElem h] at hd; simpa using hd
      have hi' : (i : Int) < x.kids.length := by omega
      have hII : inI ((i : Int) + 1) = true := inI_of (by omega) (by omega)
      have hcall := ihn y (by have := kid_lt hy; omega) (GoodL.iff.1 hg.all y (List.mem_of_getElem? hy)) d hyd ((l ++ [U]) ++ dn)
      rw [nd_drop hy] at j2 j3
      simp only [useL] at j2
      simp only [ndL] at j3
      obtain ⟨nl1_d, z1_d, nl2_d, z2_d, ds_d, hv_d, ha_d, hb_d, hc_d, hd_d, he_d⟩ := hyd.shape
      have hw_d := hv_d
      subst hw_d
      by_cases hi0 : i = 0
      ·have hi0' : (i : Int) = 0 := by omega
       simp only [if_pos hi0] at j2
       simp [TB, hdl, hi, hi', hdE, eq_true hi0, k6]
       refine ATT.callT Tryz.func101 60 (hcall _ _ p fr false (by omega) (by simp; omega) (hC.more _) _ _ (by simp) (by simp)) (by simp) (by simp) (by simp) fun out hC hE => ?_
       cases hr : useP sl fr false y with
       | inr a =>
        rw [hr] at hE j2
        obtain ⟨e1, e2, e3⟩ := hE
        subst e1
        rw [j2] at hQ
        exact hQ _ _ ⟨rfl, e2, e3⟩
       | inl us =>
        have hus := useP_len hr
        rw [hr, catU_assoc] at j2
        rw [hr] at hE
        obtain ⟨b, c, e1, e2⟩ := hE
        subst e1 e2
        simp [TB, hII]
        refine ih (i + 1, dn ++ us) (by first | ((try dsimp only); omega) | (simp [hdl, hi, hi', hd, hdE, hII, eq_true hi0, k6, hwD] <;> omega)) (by (try dsimp only); exact ⟨hi, by simpa using j2, by simp; omega⟩) _ _ _ (by simp <;> omega) (by simp <;> omega) (by simp [k6] <;> omega)
      ·have hi0' : ¬ (i : Int) = 0 := by omega
       simp only [if_neg hi0] at j2
       simp [TB, hdl, hi, hi', hdE, hi0, k6]
       refine ATT.callT Tryz.func101 60 (hcall _ _ p fr false (by omega) (by simp; omega) (hC.more _) _ _ (by simp) (by simp)) (by simp) (by simp) (by simp) fun out hC hE => ?_
       cases hr : useP sl fr false y with
       | inr a =>
        rw [hr] at hE j2
        obtain ⟨e1, e2, e3⟩ := hE
        subst e1
        rw [j2] at hQ
        exact hQ _ _ ⟨rfl, e2, e3⟩
       | inl us =>
        have hus := useP_len hr
        rw [hr, catU_assoc] at j2
        rw [hr] at hE
        obtain ⟨b, c, e1, e2⟩ := hE
        subst e1 e2
        simp [TB, hII]
        refine ih (i + 1, dn ++ us) (by first | ((try dsimp only); omega) | (simp [hdl, hi, hi', hd, hdE, hII, hi0, k6, hwD] <;> omega)) (by (try dsimp only); exact ⟨hi, by simpa using j2, by simp; omega⟩) _ _ _ (by simp <;> omega) (by simp <;> omega) (by simp [k6] <;> omega)
     ·have hi' : ¬ (i : Int) < x.kids.length := by omega
      rw [List.drop_eq_nil_of_le (by omega)] at j2
      simp only [useL] at j2
      rw [catU_end] at j2
      rw [j2] at hQ
      simp [TB, hi']
      refine ATT.fin02 hQ Tryz.func101 ?_
      simp [WQ]
      all_goals (first | omega | exact ⟨_, rfl⟩ | skip)
    by_cases n4 : k0 = 4
    ·rw [if_neg (by simp [n4])] at hQ
     replace hQ := fun o h q => hQ o h (WQ.shift q)
     obtain ⟨U, hW⟩ : ∃ U : Us, (⟨x.a, t0, k0, d0, i0, true⟩ : Us) = U := ⟨_, rfl⟩
     rw [hW] at hQ
     have hwD : usD U = D.agg [.int .i64 x.a, .str t0, .int .i64 k0, .int .i64 d0, .int .i64 i0, .bool true] := by rw [← hW]; rfl
     simp [TB, hdl, n3, eq_true n4, hmul]
     refine ATT.loopG 60 rfl (fun ((i, dn) : Nat × List Us) => x.kids.length - i) (fun ((i, dn) : Nat × List Us) => i ≤ x.kids.length ∧ useL sl fr false x.kids = catU (.inl dn) (useL sl fr (if i = 0 then false else false) (x.kids.drop i)) ∧ dn.length + ndL (x.kids.drop i) ≤ ndL x.kids) (fun ((i, dn) : Nat × List Us) => [(0, .ptr 0 0), (2, p), (5, .ptr (bs.length + 1) 0), (101, .d (.sl nl2 z2 ds)), (102, .d (.int .i64 x.kids.length)), (103, .d (.int .i64 i))]) (fun ((i, dn) : Nat × List Us) => WK sl snl sz ((l ++ [U]) ++ dn).length :: (bs ++ [.cells [.d (.int .i64 x.k), .d (.str x.t), .d (.int .i64 x.a), .d (.int .i64 x.n), .d (.sl nl1 z1 (x.names.map .str)), .d (.sl nl2 z2 ds)] 75])) (fun ((i, dn) : Nat × List Us) => WU ((l ++ [U]) ++ dn) :: cs) ((0, [])) (by (try dsimp only); exact ⟨Nat.zero_le _, by rw [catU_nil]; rfl, by simp⟩) (by simp <;> omega) (by simp) (by simp [k6, hwD]) ?_
     intro ⟨i, dn⟩ u w hI ih
     try simp only at hI ih
     obtain ⟨j1, j2, j3⟩ := hI
     by_cases hi : i < x.kids.length
     ·have hnl2 : nl2 = false := by cases nl2 with | false => rfl | true => (have := h3 rfl; rw [this] at hi; simp at hi)
      subst hnl2
      have := h4 rfl
      subst this
      obtain ⟨y, hy⟩ : ∃ y, x.kids[i]? = some y := ⟨_, List.getElem?_eq_getElem hi⟩
      obtain ⟨d, hd, hyd⟩ := h5.at hy
      have hdE : ∀ h, ds[i]'h = d := fun h => by rw [List.getElem?_eq_getElem h] at hd; simpa using hd
      have hi' : (i : Int) < x.kids.length := by omega
      have hII : inI ((i : Int) + 1) = true := inI_of (by omega) (by omega)
      have hcall := ihn y (by have := kid_lt hy; omega) (GoodL.iff.1 hg.all y (List.mem_of_getElem? hy)) d hyd ((l ++ [U]) ++ dn)
      rw [nd_drop hy] at j2 j3
      simp only [useL] at j2
      simp only [ndL] at j3
      obtain ⟨nl1_d, z1_d, nl2_d, z2_d, ds_d, hv_d, ha_d, hb_d, hc_d, hd_d, he_d⟩ := hyd.shape
      have hw_d := hv_d
      subst hw_d
      by_cases hi0 : i = 0
      ·have hi0' : (i : Int) = 0 := by omega
       simp only [if_pos hi0] at j2
       simp [TB, hdl, hi, hi', hdE, eq_true hi0, k6]
       refine ATT.callT Tryz.func101 60 (hcall _ _ p fr false (by omega) (by simp; omega) (hC.more _) _ _ (by simp) (by simp)) (by simp) (by simp) (by simp) fun out hC hE => ?_
       cases hr : useP sl fr false y with
       | inr a =>
        rw [hr] at hE j2
        obtain ⟨e1, e2, e3⟩ := hE
        subst e1
        rw [j2] at hQ
        exact hQ _ _ ⟨rfl, e2, e3⟩
       | inl us =>
        have hus := useP_len hr
        rw [hr, catU_assoc] at j2
        rw [hr] at hE
        obtain ⟨b, c, e1, e2⟩ := hE
        subst e1 e2
        simp [TB, hII]
        refine ih (i + 1, dn ++ us) (by first | ((try dsimp only); omega) | (simp [hdl, hi, hi', hd, hdE, hII, eq_true hi0, k6, hwD] <;> omega)) (by (try dsimp only); exact ⟨hi, by simpa using j2, by simp; omega⟩) _ _ _ (by simp <;> omega) (by simp <;> omega) (by simp [k6] <;> omega)
      ·have hi0' : ¬ (i : Int) = 0 := by omega
       simp only [if_neg hi0] at j2
       simp [TB, hdl, hi, hi', hdE, hi0, k6]
       refine ATT.callT Tryz.func101 60 (hcall _ _ p fr false (by omega) (by simp; omega) (hC.more _) _ _ (by simp) (by simp)) (by simp) (by simp) (by simp) fun out hC hE => ?_
       cases hr : useP sl fr false y with
       | inr a =>
        rw [hr] at hE j2
        obtain ⟨e1, e2, e3⟩ := hE
        subst e1
        rw [j2] at hQ
        exact hQ _ _ ⟨rfl, e2, e3⟩
       | inl us =>
        have hus := useP_len hr
        rw [hr, catU_assoc] at j2
        rw [hr] at hE
        obtain ⟨b, c, e1, e2⟩ := hE
        subst e1 e2
        simp [TB, hII]
        refine ih (i + 1, dn ++ us) (by first | ((try dsimp only); omega) | (simp [hdl, hi, hi', hd, hdE, hII, hi0, k6, hwD] <;> omega)) (by (try dsimp only); exact ⟨hi, by simpa using j2, by simp; omega⟩) _ _ _ (by simp <;> omega) (by simp <;> omega) (by simp [k6] <;> omega)
     ·have hi' : ¬ (i : Int) < x.kids.length := by omega
      rw [List.drop_eq_nil_of_le (by omega)] at j2
      simp only [useL] at j2
      rw [catU_end] at j2
      rw [j2] at hQ
      simp [TB, hi']
      refine ATT.fin02 hQ Tryz.func101 ?_
      simp [WQ]
      all_goals (first | omega | exact ⟨_, rfl⟩ | skip)
    rw [if_pos (.inr ⟨n3, n4⟩)] at hQ
    simp [TB, n3, n4]
    refine ATT.pan hQ Tryz.func101 (by simp; exact ⟨rfl, rfl⟩) ?_ ?_ ?_
    iterate 2 · simp
    try simp [WQ, stopW]
  by_cases k10 : x.k = 10
  ·have e : useP sl fr to x = useU sl fr x := by
    cases x with
    | mk k t a n names kids =>
     simp only [Nd.k] at k10
     subst k10
     simp only [useP]
     rw [if_pos trivial]
     rfl
   have hU := f72_ok (sl := sl) (snl := snl) (sz := sz) x hg (fun y hy => by obtain ⟨i, hi⟩ := List.mem_iff_getElem?.1 hy; exact ihn y (by have := kid_lt hi; omega) (GoodL.iff.1 hg.all y hy)) _ hu0 l
   rw [e]
   refine AF.go Tryz.func101 [(7, [oD 11 [(6, [0, 1, 2, 3, 4]), (7, [0])]]), (13, [oD 11 [(6, [0, 1, 2, 3, 4]), (7, [0])]])] fun tb TB Q hQ => ?_
   simp [TB, k10]
   refine ATT.callT Tryz.func101 60 (hU _ _ p fr hfr hl (hC.more _) _ _ (by simp) (by simp)) (by simp) (by simp [k10]) (by simp) fun out hC hE => ?_
   cases hr : useU sl fr x with
   | inr a =>
    rw [hr] at hE hQ
    obtain ⟨e1, e2, e3⟩ := hE
    subst e1
    exact hQ _ _ ⟨rfl, e2, e3⟩
   | inl us =>
    rw [hr] at hE hQ
    obtain ⟨b, c, e1, e2⟩ := hE
    subst e1 e2
    simp
    refine ATT.fin2 hQ Tryz.func101 ?_
    simp [WQ]
    all_goals (first | omega | exact ⟨_, rfl⟩ | skip)
  have e : useP sl fr to x = useL sl fr (decide (x.k = 7) || decide (x.k = 8)) x.kids := by
   cases x with
   | mk k t a n names kids =>
    simp only [Nd.k] at k5 k6 k10
    simp only [useP, if_neg k5, if_neg k6, if_neg k10]; rfl
  rw [e]
  obtain ⟨tk, htk⟩ : ∃ tk, (decide (x.k = 7) || decide (x.k = 8)) = tk := ⟨_, rfl⟩
  rw [htk]
  by_cases k7 : x.k = 7
  ·have ht : tk = true := by rw [← htk, k7]; rfl
   subst ht
   refine AF.go Tryz.func101 [(7, [oD 11 [(6, [0, 1, 2, 3, 4]), (7, [0])]]), (13, [oD 11 [(6, [0, 1, 2, 3, 4]), (7, [0])]])] fun tb TB Q hQ => ?_
   simp [TB, k7, hdl]
   refine ATT.loopG 60 rfl (fun ((i, dn) : Nat × List Us) => x.kids.length - i) (fun ((i, dn) : Nat × List Us) => i ≤ x.kids.length ∧ useL sl fr true x.kids = catU (.inl dn) (useL sl fr (if i = 0 then true else false) (x.kids.drop i)) ∧ dn.length + ndL (x.kids.drop i) ≤ ndL x.kids) (fun ((i, dn) : Nat × List Us) => [(0, .ptr 0 0), (2, p), (5, .ptr (bs.length + 1) 0), (101, .d (.sl nl2 z2 ds)), (102, .d (.int .i64 x.kids.length)), (103, .d (.int .i64 i))]) (fun ((i, dn) : Nat × List Us) => WK sl snl sz (l ++ dn).length :: (bs ++ [.cells [.d (.int .i64 x.k), .d (.str x.t), .d (.int .i64 x.a), .d (.int .i64 x.n), .d (.sl nl1 z1 (x.names.map .str)), .d (.sl nl2 z2 ds)] 75])) (fun ((i, dn) : Nat × List Us) => WU (l ++ dn) :: cs) ((0, [])) (by (try dsimp only); exact ⟨Nat.zero_le _, by rw [catU_nil]; rfl, by simp⟩) (by simp <;> omega) (by simp) (by simp [k7]) ?_
   intro ⟨i, dn⟩ u w hI ih
   try simp only at hI ih
   obtain ⟨j1, j2, j3⟩ := hI
   by_cases hi : i < x.kids.length
   ·have hnl2 : nl2 = false := by cases nl2 with | false => rfl | true => (have := h3 rfl; rw [this] at hi; simp at hi)
    subst hnl2
    have := h4 rfl
    subst this
    obtain ⟨y, hy⟩ : ∃ y, x.kids[i]? = some y := ⟨_, List.getElem?_eq_getElem hi⟩
    obtain ⟨d, hd, hyd⟩ := h5.at hy
    have hdE : ∀ h, ds[i]'h = d := fun h => by rw [List.getElem?_eq_getElem h] at hd; simpa using hd
    have hi' : (i : Int) < x.kids.length := by omega
    have hII : inI ((i : Int) + 1) = true := inI_of (by omega) (by omega)
    have hcall := ihn y (by have := kid_lt hy; omega) (GoodL.iff.1 hg.all y (List.mem_of_getElem? hy)) d hyd (l ++ dn)
    rw [nd_drop hy] at j2 j3
    simp only [useL] at j2
    simp only [ndL] at j3
    obtain ⟨nl1_d, z1_d, nl2_d, z2_d, ds_d, hv_d, ha_d, hb_d, hc_d, hd_d, he_d⟩ := hyd.shape
    have hw_d := hv_d
    subst hw_d
    by_cases hi0 : i = 0
    ·have hi0' : (i : Int) = 0 := by omega
     simp only [if_pos hi0] at j2
     simp [TB, hdl, hi, hi', hdE, eq_true hi0, k7]
     refine ATT.callT Tryz.func101 60 (hcall _ _ p fr true (by omega) (by simp; omega) (hC.more _) _ _ (by simp) (by simp)) (by simp) (by simp) (by simp) fun out hC hE => ?_
     cases hr : useP sl fr true y with
     | inr a =>
      rw [hr] at hE j2
      obtain ⟨e1, e2, e3⟩ := hE
      subst e1
      rw [j2] at hQ
      exact hQ _ _ ⟨rfl, e2, e3⟩
     | inl us =>
      have hus := useP_len hr
      rw [hr, catU_assoc] at j2
      rw [hr] at hE
      obtain ⟨b, c, e1, e2⟩ := hE
      subst e1 e2
      simp [TB, hII]
      refine ih (i + 1, dn ++ us) (by first | ((try dsimp only); omega) | (simp [hdl, hi, hi', hd, hdE, hII, eq_true hi0, k7] <;> omega)) (by (try dsimp only); exact ⟨hi, by simpa using j2, by simp; omega⟩) _ _ _ (by simp <;> omega) (by simp <;> omega) (by simp [k7] <;> omega)
    ·have hi0' : ¬ (i : Int) = 0 := by omega
     simp only [if_neg hi0] at j2
     simp [TB, hdl, hi, hi', hdE, hi0, k7]
     refine ATT.callT Tryz.func101 60 (hcall _ _ p fr false (by omega) (by simp; omega) (hC.more _) _ _ (by simp) (by simp)) (by simp) (by simp) (by simp) fun out hC hE => ?_
     cases hr : useP sl fr false y with
     | inr a =>
      rw [hr] at hE j2
      obtain ⟨e1, e2, e3⟩ := hE
      subst e1
      rw [j2] at hQ
      exact hQ _ _ ⟨rfl, e2, e3⟩
     | inl us =>
      have hus := useP_len hr
      rw [hr, catU_assoc] at j2
      rw [hr] at hE
      obtain ⟨b, c, e1, e2⟩ := hE
      subst e1 e2
      simp [TB, hII]
      refine ih (i + 1, dn ++ us) (by first | ((try dsimp only); omega) | (simp [hdl, hi, hi', hd, hdE, hII, hi0, k7] <;> omega)) (by (try dsimp only); exact ⟨hi, by simpa using j2, by simp; omega⟩) _ _ _ (by simp <;> omega) (by simp <;> omega) (by simp [k7] <;> omega)
   ·have hi' : ¬ (i : Int) < x.kids.length := by omega
    rw [List.drop_eq_nil_of_le (by omega)] at j2
    simp only [useL] at j2
    rw [catU_end] at j2
    rw [j2] at hQ
    simp [TB, hi']
    refine ATT.fin02 hQ Tryz.func101 ?_
    simp [WQ]
    all_goals (first | omega | exact ⟨_, rfl⟩ | skip)
  by_cases k8 : x.k = 8
  ·have ht : tk = true := by rw [← htk, k8]; rfl
   subst ht
   refine AF.go Tryz.func101 [(7, [oD 11 [(6, [0, 1, 2, 3, 4]), (7, [0])]]), (13, [oD 11 [(6, [0, 1, 2, 3, 4]), (7, [0])]])] fun tb TB Q hQ => ?_
   simp [TB, k8, hdl]
   refine ATT.loopG 60 rfl (fun ((i, dn) : Nat × List Us) => x.kids.length - i) (fun ((i, dn) : Nat × List Us) => i ≤ x.kids.length ∧ useL sl fr true x.kids = catU (.inl dn) (useL sl fr (if i = 0 then true else false) (x.kids.drop i)) ∧ dn.length + ndL (x.kids.drop i) ≤ ndL x.kids) (fun ((i, dn) : Nat × List Us) => [(0, .ptr 0 0), (2, p), (5, .ptr (bs.length + 1) 0), (101, .d (.sl nl2 z2 ds)), (102, .d (.int .i64 x.kids.length)), (103, .d (.int .i64 i))]) (fun ((i, dn) : Nat × List Us) => WK sl snl sz (l ++ dn).length :: (bs ++ [.cells [.d (.int .i64 x.k), .d (.str x.t), .d (.int .i64 x.a), .d (.int .i64 x.n), .d (.sl nl1 z1 (x.names.map .str)), .d (.sl nl2 z2 ds)] 75])) (fun ((i, dn) : Nat × List Us) => WU (l ++ dn) :: cs) ((0, [])) (by (try dsimp only); exact ⟨Nat.zero_le _, by rw [catU_nil]; rfl, by simp⟩) (by simp <;> omega) (by simp) (by simp [k8]) ?_
   intro ⟨i, dn⟩ u w hI ih
   try simp only at hI ih
   obtain ⟨j1, j2, j3⟩ := hI
   by_cases hi : i < x.kids.length
   ·have hnl2 : nl2 = false := by cases nl2 with | false => rfl | true => (have := h3 rfl; rw [this] at hi; simp at hi)
    subst hnl2
    have := h4 rfl
    subst this
    obtain ⟨y, hy⟩ : ∃ y, x.kids[i]? = some y := ⟨_, List.getElem?_eq_getElem hi⟩
    obtain ⟨d, hd, hyd⟩ := h5.at hy
    have hdE : ∀ h, ds[i]'h = d := fun h => by rw [List.getElem?_eq_getElem h] at hd; simpa using hd
    have hi' : (i : Int) < x.kids.length := by omega
    have hII : inI ((i : Int) + 1) = true := inI_of (by omega) (by omega)
    have hcall := ihn y (by have := kid_lt hy; omega) (GoodL.iff.1 hg.all y (List.mem_of_getElem? hy)) d hyd (l ++ dn)
    rw [nd_drop hy] at j2 j3
    simp only [useL] at j2
    simp only [ndL] at j3
    obtain ⟨nl1_d, z1_d, nl2_d, z2_d, ds_d, hv_d, ha_d, hb_d, hc_d, hd_d, he_d⟩ := hyd.shape
    have hw_d := hv_d
    subst hw_d
    by_cases hi0 : i = 0
    ·have hi0' : (i : Int) = 0 := by omega
     simp only [if_pos hi0] at j2
     simp [TB, hdl, hi, hi', hdE, eq_true hi0, k8]
     refine ATT.callT Tryz.func101 60 (hcall _ _ p fr true (by omega) (by simp; omega) (hC.more _) _ _ (by simp) (by simp)) (by simp) (by simp) (by simp) fun out hC hE => ?_
     cases hr : useP sl fr true y with
     | inr a =>
      rw [hr] at hE j2
      obtain ⟨e1, e2, e3⟩ := hE
      subst e1
      rw [j2] at hQ
      exact hQ _ _ ⟨rfl, e2, e3⟩
     | inl us =>
      have hus := useP_len hr
      rw [hr, catU_assoc] at j2
      rw [hr] at hE
      obtain ⟨b, c, e1, e2⟩ := hE
      subst e1 e2
      simp [TB, hII]
      refine ih (i + 1, dn ++ us) (by first | ((try dsimp only); omega) | (simp [hdl, hi, hi', hd, hdE, hII, eq_true hi0, k8] <;> omega)) (by (try dsimp only); exact ⟨hi, by simpa using j2, by simp; omega⟩) _ _ _ (by simp <;> omega) (by simp <;> omega) (by simp [k8] <;> omega)
    ·have hi0' : ¬ (i : Int) = 0 := by omega
     simp only [if_neg hi0] at j2
     simp [TB, hdl, hi, hi', hdE, hi0, k8]
     refine ATT.callT Tryz.func101 60 (hcall _ _ p fr false (by omega) (by simp; omega) (hC.more _) _ _ (by simp) (by simp)) (by simp) (by simp) (by simp) fun out hC hE => ?_
     cases hr : useP sl fr false y with
     | inr a =>
      rw [hr] at hE j2
      obtain ⟨e1, e2, e3⟩ := hE
      subst e1
      rw [j2] at hQ
      exact hQ _ _ ⟨rfl, e2, e3⟩
     | inl us =>
      have hus := useP_len hr
      rw [hr, catU_assoc] at j2
      rw [hr] at hE
      obtain ⟨b, c, e1, e2⟩ := hE
      subst e1 e2
      simp [TB, hII]
      refine ih (i + 1, dn ++ us) (by first | ((try dsimp only); omega) | (simp [hdl, hi, hi', hd, hdE, hII, hi0, k8] <;> omega)) (by (try dsimp only); exact ⟨hi, by simpa using j2, by simp; omega⟩) _ _ _ (by simp <;> omega) (by simp <;> omega) (by simp [k8] <;> omega)
   ·have hi' : ¬ (i : Int) < x.kids.length := by omega
    rw [List.drop_eq_nil_of_le (by omega)] at j2
    simp only [useL] at j2
    rw [catU_end] at j2
    rw [j2] at hQ
    simp [TB, hi']
    refine ATT.fin02 hQ Tryz.func101 ?_
    simp [WQ]
    all_goals (first | omega | exact ⟨_, rfl⟩ | skip)
  have ht : tk = false := by rw [← htk]; simp [k7, k8]
  subst ht
  refine AF.go Tryz.func101 [(7, [oD 11 [(6, [0, 1, 2, 3, 4]), (7, [0])]]), (13, [oD 11 [(6, [0, 1, 2, 3, 4]), (7, [0])]])] fun tb TB Q hQ => ?_
  simp [TB, k5, k6, k10, hdl]
  refine ATT.loopG 60 rfl (fun ((i, dn) : Nat × List Us) => x.kids.length - i) (fun ((i, dn) : Nat × List Us) => i ≤ x.kids.length ∧ useL sl fr false x.kids = catU (.inl dn) (useL sl fr (if i = 0 then false else false) (x.kids.drop i)) ∧ dn.length + ndL (x.kids.drop i) ≤ ndL x.kids) (fun ((i, dn) : Nat × List Us) => [(0, .ptr 0 0), (2, p), (5, .ptr (bs.length + 1) 0), (101, .d (.sl nl2 z2 ds)), (102, .d (.int .i64 x.kids.length)), (103, .d (.int .i64 i))]) (fun ((i, dn) : Nat × List Us) => WK sl snl sz (l ++ dn).length :: (bs ++ [.cells [.d (.int .i64 x.k), .d (.str x.t), .d (.int .i64 x.a), .d (.int .i64 x.n), .d (.sl nl1 z1 (x.names.map .str)), .d (.sl nl2 z2 ds)] 75])) (fun ((i, dn) : Nat × List Us) => WU (l ++ dn) :: cs) ((0, [])) (by (try dsimp only); exact ⟨Nat.zero_le _, by rw [catU_nil]; rfl, by simp⟩) (by simp <;> omega) (by simp) (by simp) ?_
  intro ⟨i, dn⟩ u w hI ih
  try simp only at hI ih
  obtain ⟨j1, j2, j3⟩ := hI
  by_cases hi : i < x.kids.length
  ·have hnl2 : nl2 = false := by cases nl2 with | false => rfl | true => (have := h3 rfl; rw [this] at hi; simp at hi)
   subst hnl2
   have := h4 rfl
   subst this
   obtain ⟨y, hy⟩ : ∃ y, x.kids[i]? = some y := ⟨_, List.getElem?_eq_getElem hi⟩
   obtain ⟨d, hd, hyd⟩ := h5.at hy
   have hdE : ∀ h, ds[i]'h = d := fun h => by rw [List.getElem?_eq_getElem h] at hd; simpa using hd
   have hi' : (i : Int) < x.kids.length := by omega
   have hII : inI ((i : Int) + 1) = true := inI_of (by omega) (by omega)
   have hcall := ihn y (by have := kid_lt hy; omega) (GoodL.iff.1 hg.all y (List.mem_of_getElem? hy)) d hyd (l ++ dn)
   rw [nd_drop hy] at j2 j3
   simp only [useL] at j2
   simp only [ndL] at j3
   obtain ⟨nl1_d, z1_d, nl2_d, z2_d, ds_d, hv_d, ha_d, hb_d, hc_d, hd_d, he_d⟩ := hyd.shape
   have hw_d := hv_d
   subst hw_d
   by_cases hi0 : i = 0
   ·have hi0' : (i : Int) = 0 := by omega
    simp only [if_pos hi0] at j2
    simp [TB, hdl, hi, hi', hdE, eq_true hi0, k7, k8]
    refine ATT.callT Tryz.func101 60 (hcall _ _ p fr false (by omega) (by simp; omega) (hC.more _) _ _ (by simp) (by simp)) (by simp) (by simp) (by simp) fun out hC hE => ?_
    cases hr : useP sl fr false y with
    | inr a =>
     rw [hr] at hE j2
     obtain ⟨e1, e2, e3⟩ := hE
     subst e1
     rw [j2] at hQ
     exact hQ _ _ ⟨rfl, e2, e3⟩
    | inl us =>
     have hus := useP_len hr
     rw [hr, catU_assoc] at j2
     rw [hr] at hE
     obtain ⟨b, c, e1, e2⟩ := hE
     subst e1 e2
     simp [TB, hII]
     refine ih (i + 1, dn ++ us) (by first | ((try dsimp only); omega) | (simp [hdl, hi, hi', hd, hdE, hII, eq_true hi0, k7, k8] <;> omega)) (by (try dsimp only); exact ⟨hi, by simpa using j2, by simp; omega⟩) _ _ _ (by simp <;> omega) (by simp <;> omega) (by simp <;> omega)
   ·have hi0' : ¬ (i : Int) = 0 := by omega
    simp only [if_neg hi0] at j2
    simp [TB, hdl, hi, hi', hdE, hi0]
    refine ATT.callT Tryz.func101 60 (hcall _ _ p fr false (by omega) (by simp; omega) (hC.more _) _ _ (by simp) (by simp)) (by simp) (by simp) (by simp) fun out hC hE => ?_
    cases hr : useP sl fr false y with
    | inr a =>
     rw [hr] at hE j2
     obtain ⟨e1, e2, e3⟩ := hE
     subst e1
     rw [j2] at hQ
     exact hQ _ _ ⟨rfl, e2, e3⟩
    | inl us =>
     have hus := useP_len hr
     rw [hr, catU_assoc] at j2
     rw [hr] at hE
     obtain ⟨b, c, e1, e2⟩ := hE
     subst e1 e2
     simp [TB, hII]
     refine ih (i + 1, dn ++ us) (by first | ((try dsimp only); omega) | (simp [hdl, hi, hi', hd, hdE, hII, hi0, k7, k8] <;> omega)) (by (try dsimp only); exact ⟨hi, by simpa using j2, by simp; omega⟩) _ _ _ (by simp <;> omega) (by simp <;> omega) (by simp <;> omega)
  ·have hi' : ¬ (i : Int) < x.kids.length := by omega
   rw [List.drop_eq_nil_of_le (by omega)] at j2
   simp only [useL] at j2
   rw [catU_end] at j2
   rw [j2] at hQ
   simp [TB, hi']
   refine ATT.fin02 hQ Tryz.func101 ?_
   simp [WQ]
   all_goals (first | omega | exact ⟨_, rfl⟩ | skip)
end Go.SL
namespace Go.SL
open Go.Proofs
set_option maxRecDepth 10000
theorem f71_none (nb : Bx) (c1 x1 x2 : V) (T : TypeId) (b : List Bx) (c : List (Option Vec)) :
  DCl Tryz.prog 71 [.ptr 1 0, .ptr 2 0, .ptr 3 0] none ⟨nb :: .cells [c1] T :: .cells [x1] 3 :: .cells [x2] 26 :: b, c⟩ fun h => ∃ b c, h = ⟨nb :: .cells [c1] T :: .cells [x1] 3 :: .cells [x2] 26 :: b, c⟩ := by
 refine DCl.of (ac := c71c) (ann := c71a) 60 Tryz.func71 rfl rfl c71call (fun _ _ => rfl) rfl rfl (by decide) c71ok ?_
 simp [c71c, c71t, recV]
 refine ATT.fin0' (fun _ _ h => h) Tryz.func71 c71res ?_
 exact ⟨by simp, ⟨_, rfl⟩, _, _, rfl⟩
theorem f71_some (a : Nat) (nb : Bx) (c1 x1 x2 : V) (T : TypeId) (b : List Bx) (c : List (Option Vec)) :
  DCl Tryz.prog 71 [.ptr 1 0, .ptr 2 0, .ptr 3 0] (some (stopW a)) ⟨nb :: .cells [c1] T :: .cells [x1] 3 :: .cells [x2] 26 :: b, c⟩ fun h => ∃ b c, h = ⟨nb :: .cells [.d (.sl true 0 [])] T :: .cells [.d (.int .i64 a)] 3 :: .cells [.d (.int .i64 21)] 26 :: b, c⟩ := by
 refine DCl.of (ac := c71c) (ann := c71a) 60 Tryz.func71 rfl rfl c71call (fun _ _ => rfl) rfl rfl (by decide) c71ok ?_
 simp [c71c, c71t, recV, stopW]
 refine ATT.fin0' (fun _ _ h => h) Tryz.func71 c71res ?_
 exact ⟨by simp, ⟨_, rfl⟩, _, _, rfl⟩
theorem mapD_c {α : Type} (h : H) (n : Nat) (g : α → D) (l : List α) : mapD (toDv h n) (l.map (V.d ∘ g)) = some (l.map g) := by
 rw [← List.map_map]; exact mapD_d h n _
def ReR (r : List Us ⊕ Nat) (v : D) : Prop := match r with
 | .inl us => v = .tup [.sl us.isEmpty 6 (us.map usD), .int .i64 0, .int .i64 0]
 | .inr a => v = .tup [.sl true 0 [], .int .i64 a, .int .i64 21]
def ReQ (T : TypeId) (r : List Us ⊕ Nat) (o : Out) (h : H) : Prop := match r with
 | .inl us => ∃ nb b c, (∃ v, o = .ret v) ∧ h = ⟨nb :: .cells [.d (.sl us.isEmpty 6 (us.map usD))] T :: .cells [.d (.int .i64 0)] 3 :: .cells [.d (.int .i64 0)] 26 :: b, c⟩
 | .inr a => ∃ nb c1 x1 x2 b c, o = .pan (stopW a) ∧ h = ⟨nb :: .cells [c1] T :: .cells [x1] 3 :: .cells [x2] 26 :: b, c⟩
set_option maxHeartbeats 1000000 in
theorem f47_ok {sl : List ByteArray} (hsl : sl.length ≤ 1048576) {snl : Bool} {sz : Nat} (hs1 : snl = true → sl = []) (hs2 : snl = false → sz = 1) {Q0 : ByteArray → Nat → Prop} (x : Nd) (hg : Good Q0 x) (hn : nds x ≤ 1000000) (u : D) (hu : NdR x u) :
  DE Tryz.prog 47 [u, .sl snl sz (sl.map .str)] (ReR (useU sl [] x)) := by
 have hU := f72_ok (sl := sl) (snl := snl) (sz := sz) x hg (fun y hy => f101_ok hsl hs1 hs2 _ y (Nat.le_refl _) (GoodL.iff.1 hg.all y hy)) u hu [] [] [] (.d .nilP) [] (by simpa using hn) (by simpa using hn) rfl _ _ rfl rfl
 obtain ⟨nl1, z1, nl2, z2, ds, e, h1, h2, h3, h4, h5⟩ := hu.shape
 subst e
 refine AF.start' 60 Tryz.func47 rfl rfl c47call c47ok fun Q hQ => ?_
 simp [c47c, c47t]
 refine ATT.defer (ReQ 94 (useU sl [] x)) Tryz.func47 60 [(4, .ptr 1 0), (5, .ptr 2 0), (6, .ptr 3 0)] (by simp; rfl) c71call c47res rfl ?_ ?_
 ·simp [c47t]
  refine ATT.nilB 4 1 6 189 rfl rfl (by decide) (by simp) ?_
  simp
  refine ATT.callA Tryz.func47 60 [4] [0] 0 0 hU (by simp) (by simp) (by simp) (by simp) (by simp) (fun out hC hE => ?_) (by simp)
  cases hr : useU sl [] x with
  | inr a =>
   rw [hr] at hE
   obtain ⟨e1, e2, e3⟩ := hE
   subst e1
   obtain ⟨hb, hc⟩ := hC
   cases hb with
   | nil => simp at e2
   | cons y yr =>
    cases hc with
    | nil => simp at e3
    | cons v vr =>
     refine ⟨by simp, ?_⟩
     simp [stopW]
     exact ⟨_, _, _, _, _, _, rfl, rfl⟩
  | inl us =>
   rw [hr] at hE
   obtain ⟨b, c, e1, e2⟩ := hE
   subst e1 e2
   refine ⟨by simp, ?_⟩
   simp [c47t]
   have hrn : rns [4] [0] (us.map fun u => V.d (usD u)) = (us.map usD).map .d := by
    rw [← rns_data [4] [0] (us.map usD), List.map_map]; rfl
   rw [hrn]
   refine ATT.fz (by simp) ?_
   simp [mapD_c]
   refine ATT.finD Tryz.func47 (by simp) rfl (by simp) ?_
   exact ⟨_, _, _, ⟨_, rfl⟩, rfl⟩
 ·intro out h1 hq
  cases hr : useU sl [] x with
  | inr a =>
   rw [hr] at hq hQ
   obtain ⟨nb, c1, x1, x2, b, c, e1, e2⟩ := hq
   subst e1 e2
   refine (f71_some a nb c1 x1 x2 94 b c).mono fun h ⟨b', c', e⟩ => ?_
   subst e
   exact ⟨_, rfl, hQ _ _ ⟨_, rfl, rfl⟩⟩
  | inl us =>
   rw [hr] at hq hQ
   obtain ⟨nb, b, c, ⟨v, e1⟩, e2⟩ := hq
   subst e1 e2
   refine (f71_none nb _ _ _ 94 b c).mono fun h ⟨b', c', e⟩ => ?_
   subst e
   exact ⟨_, rfl, hQ _ _ ⟨_, rfl, rfl⟩⟩
end Go.SL
namespace Go.SL
open Go.Proofs Go.RowKit
set_option maxRecDepth 10000
theorem DF.lib {f : FuncId} {ds : List D} {v : D} (hcal : callable Tryz.prog f = true)
  (h : ∀ (κ : K) (w : World) (argv : List Value) (m : Int), w.cell? ⟨mxB, 0, none⟩ = some (.int .i64 m) → VL κ (ds.map .d) argv → Calls Tryz.prog f ⟨argv⟩ w fun e w' => ∃ x, e = .returned x ∧ DR κ.S v x ∧ Below w.heap.size w w') : DF Tryz.prog f ds v := by
 refine ⟨hcal, fun κ w argv hr hv => ?_⟩
 obtain ⟨m, ty, fz, hm⟩ := κ.mx
 have hm2 : w.heap[mxB]? = some (.cells #[.int .i64 m] ty fz) := (hr.rest _ _ hm).2
 have lt : ∀ {b : Nat} {o : Obj}, w.heap[b]? = some o → b < w.heap.size := fun h => (Array.getElem?_eq_some_iff.1 h).1
 refine (h κ w argv m (by simp [World.cell?, hm2]) hv).mono fun e w' ⟨x, he, hx, hb⟩ => ⟨κ, ⟨[], []⟩, .ret (.d v), rfl, Le.refl κ, ?_, ⟨x, he, by simpa only [VR] using hx⟩⟩
 refine ⟨fun b o v e => ?_, hr.SO, hr.nb, hr.nv, fun i x hx => by simp at hx, fun i x hx => by simp at hx, fun b o e => ?_, hb.os.trans hr.os, hb.output.trans hr.out, hb.tape.trans hr.tape⟩
 ·have h1 := hr.S b o v e
  simp only [World.cell?] at h1 ⊢
  cases h2 : w.heap[b]? with
  | none => simp [h2] at h1
  | some ob =>
   rw [h2] at h1
   rw [hb.block b (lt h2), h2]
   exact h1
 ·have h1 := hr.rest b o e
  exact ⟨h1.1, (hb.block b (lt h1.2)).trans h1.2⟩
def replT (t : ByteArray) : ByteArray := ⟨(Lib.replaceAll t.data.toList [39] [39, 39]).toArray⟩
theorem f199_ok (t : ByteArray) (hs : t.size ≤ 1048576) : DF Tryz.prog 199 [.str t, .str ⟨#[39]⟩, .str ⟨#[39, 39]⟩] (.str (replT t)) := by
 refine DF.lib (by kernel_rfl) fun κ w argv m hm hv => ?_
 simp only [List.map_cons, List.map_nil, VL, VR, DR] at hv
 obtain ⟨_, _, e1, rfl, _, _, e2, rfl, _, _, e3, rfl, e4⟩ := hv
 subst e1 e2 e3 e4
 have hc := Lib.countB_mul_le ⟨#[39]⟩ (by decide) t.size t (Nat.le_refl _)
 have h1 : (⟨#[39]⟩ : ByteArray).size = 1 := rfl
 have h2 : (⟨#[39, 39]⟩ : ByteArray).size = 2 := rfl
 rw [h1] at hc
 refine (Tryz.strings_ReplaceAll t ⟨#[39]⟩ ⟨#[39, 39]⟩ m w (by omega) hm (by decide) (by rw [h2]; omega)).mono fun e w' ⟨he, hb⟩ => ⟨_, he, by simp only [DR]; rfl, hb⟩
theorem replK_len : ∀ (k : Nat) (s : List UInt8), (Lib.replaceK [39] [39, 39] k s).length ≤ s.length + 2 * k
 | 0, s => by simp [Lib.replaceK]
 | k + 1, s => by
  simp only [Lib.replaceK]
  split
  ·omega
  ·have := replK_len k (s.drop ((Lib.index s [39]).toNat + [39].length))
   simp only [List.length_append, List.length_take, List.length_drop, List.length_cons, List.length_nil] at this ⊢
   omega
theorem replT_size (t : ByteArray) : (replT t).size ≤ 3 * t.size := by
 have hc := Lib.countB_mul_le ⟨#[39]⟩ (by decide) t.size t (Nat.le_refl _)
 have h1 : (⟨#[39]⟩ : ByteArray).size = 1 := rfl
 rw [h1] at hc
 have e : replT t = ⟨(Lib.replaceK [39] [39, 39] (Lib.countB t ⟨#[39]⟩) t.data.toList).toArray⟩ := by
  unfold replT Lib.replaceAll Lib.replace
  rw [if_neg (by decide)]
  unfold Lib.replaceNum
  rw [if_pos (.inl (by decide))]
 rw [e]
 have := replK_len (Lib.countB t ⟨#[39]⟩) t.data.toList
 have h2 : t.data.toList.length = t.size := rfl
 show (List.toArray _).size ≤ _
 simp only [List.size_toArray]
 omega
def quoteT (t : ByteArray) : ByteArray := ⟨#[39]⟩ ++ replT t ++ ⟨#[39]⟩
theorem quoteT_size (t : ByteArray) : (quoteT t).size ≤ 3 * t.size + 2 := by
 have := replT_size t
 have h1 : (⟨#[39]⟩ : ByteArray).size = 1 := rfl
 simp only [quoteT, ByteArray.size_append, h1]
 omega
theorem f175_ok (t : ByteArray) (hs : t.size ≤ 1048576) : DF Tryz.prog 175 [.str t] (.str (quoteT t)) := by
 have hr := replT_size t
 have h1 : (⟨#[39]⟩ : ByteArray).size = 1 := rfl
 have h2 : 1 + (replT t).size ≤ 9223372036854775807 := by omega
 have h3 : 1 + (replT t).size + 1 ≤ 9223372036854775807 := by omega
 refine AF.go Tryz.func175 [] fun tb TB Q hQ => ?_
 simp [TB]
 refine ATT.callD Tryz.func175 60 (f199_ok t hs) ?_ ?_ ?_ ?_
 iterate 3 · simp
 simp [h1, h2, h3]
 refine ATT.fin2 hQ Tryz.func175 ?_
 simp [quoteT]
 all_goals (first | omega | exact ⟨_, rfl⟩ | skip)
def plainSym (t : ByteArray) : Bool := !decide (t = ⟨#[]⟩) && (!decide (sbyte t 0 = 39) && (symB t 0 && decide (symT t 0 = t)))
theorem f176_ok (t : ByteArray) (hs : t.size ≤ 1048576) : DF Tryz.prog 176 [.str t] (.bool (plainSym t)) := by
 have hS := f133_ok t (by omega) 0 (Nat.zero_le _)
 by_cases h0 : t = ⟨#[]⟩
 ·have e : plainSym t = false := by unfold plainSym; simp [h0]
  rw [e]
  refine AF.go Tryz.func176 [] fun tb TB Q hQ => ?_
  simp [TB, eq_true h0]
  refine ATT.fin2 hQ Tryz.func176 ?_
  simp
  all_goals (first | omega | exact ⟨_, rfl⟩ | skip)
 have hz : 0 < t.size := by
  rcases Nat.eq_zero_or_pos t.size with h | h
  ·exact absurd (by rcases t with ⟨d⟩; have : d.size = 0 := h; simp at this; rw [this]) h0
  ·exact h
 have hi : inR 0 t.size = true := inR_of (by omega) (by omega)
 by_cases h39 : sbyte t 0 = 39
 ·have e : plainSym t = false := by unfold plainSym; simp [h39]
  rw [e]
  refine AF.go Tryz.func176 [] fun tb TB Q hQ => ?_
  simp [TB, h0, hi, eq_true h39]
  refine ATT.fin2 hQ Tryz.func176 ?_
  simp
  all_goals (first | omega | exact ⟨_, rfl⟩ | skip)
 have e : plainSym t = (symB t 0 && decide (symT t 0 = t)) := by unfold plainSym; simp [h0, h39]
 rw [e]
 refine AF.go Tryz.func176 [] fun tb TB Q hQ => ?_
 simp [TB, h0, hi, h39]
 refine ATT.callM Tryz.func176 60 [0] (hS) rfl ?_ ?_ ?_ ?_ ?_ ?_
 iterate 5 · simp
 simp [TB]
 cases hb : symB t 0 with
 | true =>
  simp
  refine ATT.fin2 hQ Tryz.func176 ?_
  simp [hb]
  all_goals (first | omega | exact ⟨_, rfl⟩ | skip)
 | false =>
  simp
  refine ATT.fin2 hQ Tryz.func176 ?_
  simp [hb]
  all_goals (first | omega | exact ⟨_, rfl⟩ | skip)
end Go.SL
namespace Go.SL
open Go.Proofs
set_option maxRecDepth 10000
@[simp] theorem bsV_nil : bsV [] = [] := rfl
theorem hTW : hasT bldL 237 2 = true := by decide
mutual
def litT : Nd → List UInt8
 | .mk k t _ _ _ kids =>
  if k = 2 then (quoteT t).data.toList
  else if k = 3 then 35 :: (if plainSym t then t else quoteT t).data.toList
  else if k = 4 then 35 :: 40 :: (litTL true kids ++ [41])
  else t.data.toList
def litTL : Bool → List Nd → List UInt8
 | _, [] => []
 | f, x :: r => (if f then [] else [32]) ++ (litT x ++ litTL false r)
end
mutual
theorem litT_len {Q : ByteArray → Nat → Prop} : ∀ {x : Nd}, Good Q x → LitP x → (litT x).length + 1 ≤ nds x * 4000000
 | .mk k t a n names kids, hg, hl => by
  simp only [LitP] at hl
  have ho := hg.one.2.2.2.2.2.2
  simp only [Nd.k, Nd.t] at ho
  have hq := quoteT_size t
  have sz : ∀ b : ByteArray, b.data.toList.length = b.size := fun b => rfl
  simp only [litT, nds]
  split
  ·rename_i hk
   have := ho (by omega)
   rw [sz]; omega
  split
  ·rename_i hk
   have := ho (by omega)
   simp only [List.length_cons, sz]
   split <;> omega
  split
  ·have := litTL_len (f := true) hg.all hl.2
   simp only [List.length_cons, List.length_append, List.length_nil, Nd.kids] at this ⊢
   omega
  ·have := ho (by omega)
   rw [sz]; omega
theorem litTL_len {Q : ByteArray → Nat → Prop} : ∀ {f : Bool} {l : List Nd}, GoodL Q l → LitL l → (litTL f l).length ≤ ndL l * 4000000
 | f, [], _, _ => by simp [litTL]
 | f, x :: r, hg, hl => by
  simp only [GoodL] at hg
  simp only [LitL] at hl
  have h1 := litT_len hg.1 hl.1
  have h2 := litTL_len (f := false) hg.2 hl.2
  simp only [litTL, ndL, List.length_append]
  have : (if f = true then ([] : List UInt8) else [32]).length ≤ 1 := by split <;> simp
  omega
end
def NodeW (x : Nd) : Prop := ∀ u, NdR x u → ∀ (b : Bool) (l : List UInt8), l.length + (litT x).length ≤ 1000000000000 →
 VF Tryz.prog 137 [.ptr 0 0, .d u] [BB 0 0 237 b l] [BV 5 0 l] (.d (.tup [])) [BB 0 0 237 true (l ++ litT x)] [BV 5 0 (l ++ litT x)]
theorem f177_ok (kids : List Nd) (hk : ∀ y ∈ kids, NodeW y) (hn : kids.length ≤ 10000) (nl : Bool) (z : Nat) (ds : List D) (h3 : nl = true → kids = []) (h4 : nl = false → z = 6) (h5 : NdRL kids ds) (l : List UInt8) (hl : l.length + (litTL true kids).length ≤ 1000000000000) :
  VF Tryz.prog 177 [.ptr 0 0, .d (.sl nl z ds), .d (.str ⟨#[32]⟩)] [BB 0 0 237 true l] [BV 5 0 l] (.d (.tup [])) [BB 0 0 237 true (l ++ litTL true kids)] [BV 5 0 (l ++ litTL true kids)] := by
 have hdl := h5.length
 refine AF.go Tryz.func177 [] fun tb TB Q hQ => ?_
 simp [TB, hdl]
 refine ATT.loopG 60 rfl (fun ((i, c) : Nat × List UInt8) => kids.length - i) (fun ((i, c) : Nat × List UInt8) => i ≤ kids.length ∧ l ++ litTL true kids = c ++ litTL (decide (i = 0)) (kids.drop i)) (fun ((i, c) : Nat × List UInt8) => [(0, .ptr 0 0), (2, .d (.str ⟨#[32]⟩)), (8, .d (.sl nl z ds)), (9, .d (.int .i64 kids.length)), (10, .d (.int .i64 i))]) (fun ((i, c) : Nat × List UInt8) => [BB 0 0 237 true c]) (fun ((i, c) : Nat × List UInt8) => [BV 5 0 c]) ((0, l)) (by (try dsimp only); exact ⟨Nat.zero_le _, rfl⟩) (by simp <;> omega) (by simp) (by simp) ?_
 intro ⟨i, c⟩ u w hI ih
 try simp only at hI ih
 obtain ⟨i1, i2⟩ := hI
 by_cases hi : i < kids.length
 ·have hnl : nl = false := by cases nl with | false => rfl | true => (have := h3 rfl; rw [this] at hi; simp at hi)
  subst hnl
  have := h4 rfl
  subst this
  obtain ⟨y, hy⟩ : ∃ y, kids[i]? = some y := ⟨_, List.getElem?_eq_getElem hi⟩
  obtain ⟨d, hd, hyd⟩ := h5.at hy
  have hdE : ∀ h, ds[i]'h = d := fun h => by rw [List.getElem?_eq_getElem h] at hd; simpa using hd
  have hi' : (i : Int) < kids.length := by omega
  have hII : inI ((i : Int) + 1) = true := inI_of (by omega) (by omega)
  have hlen := congrArg List.length i2
  rw [nd_drop hy] at i2 hlen
  simp only [litTL, List.length_append] at i2 hlen
  have hN := hk y (List.mem_of_getElem? hy) d hyd
  obtain ⟨nl1_d, z1_d, nl2_d, z2_d, ds_d, hv_d, ha_d, hb_d, hc_d, hd_d, he_d⟩ := hyd.shape
  have hw_d := hv_d
  subst hw_d
  by_cases hi0 : i = 0
  ·rw [decide_eq_true hi0] at i2 hlen
   simp only [if_true, List.nil_append, List.length_nil] at i2 hlen
   have hi0' : ¬ 0 < i := by omega
   simp [TB, hdl, hi, hi', hdE, hi0']
   refine ATT.callV Tryz.func177 60 [0] [0] (hN true c (by omega)) ?_ ?_ ?_ ?_ ?_ ?_ ?_ ?_
   iterate 7 · simp
   simp [TB, hII]
   refine ih (i + 1, c ++ litT y) (by first | ((try dsimp only); omega) | (simp [hdl, hi, hi', hd, hdE, hII, hi0'] <;> omega)) (by (try dsimp only); exact ⟨hi, by rw [i2]; simp⟩) _ _ _ (by simp <;> omega) (by simp <;> omega) (by simp [bsV] <;> omega)
  ·rw [decide_eq_false hi0] at i2 hlen
   simp only [Bool.false_eq_true, if_false, List.length_cons, List.length_nil] at i2 hlen
   have hi0' : 0 < i := by omega
   have h32 : (⟨#[32]⟩ : ByteArray).size = 1 := rfl
   simp [TB, hdl, hi, hi', hdE, hi0']
   refine ATT.callV Tryz.func177 60 [0] [0] (f174_ok 237 hTW true c ⟨#[32]⟩ (by rw [h32]; omega)) ?_ ?_ ?_ ?_ ?_ ?_ ?_ ?_
   iterate 7 · simp
   simp [TB]
   refine ATT.callV Tryz.func177 60 [0] [0] (hN true (c ++ [32]) (by simp; omega)) ?_ ?_ ?_ ?_ ?_ ?_ ?_ ?_
   iterate 7 · simp
   simp [TB, hII]
   refine ih (i + 1, c ++ ([32] ++ litT y)) (by first | ((try dsimp only); omega) | (simp [hdl, hi, hi', hd, hdE, hII, hi0'] <;> omega)) (by (try dsimp only); exact ⟨hi, by rw [i2]; simp⟩) _ _ _ (by simp <;> omega) (by simp <;> omega) (by simp [bsV] <;> omega)
 ·have hi' : ¬ (i : Int) < kids.length := by omega
  rw [List.drop_eq_nil_of_le (by omega)] at i2
  simp only [litTL, List.append_nil] at i2
  rw [i2] at hQ
  simp [TB, hi']
  refine ATT.fin02 hQ Tryz.func177 ?_
  simp
  all_goals (first | omega | exact ⟨_, rfl⟩ | skip)
set_option maxHeartbeats 1000000 in
theorem f137_lit {Q0 : ByteArray → Nat → Prop} : ∀ (m : Nat) (x : Nd), SizeOf.sizeOf x ≤ m → Good Q0 x → LitP x → NodeW x := by
 intro m
 induction m with
 | zero => intro x h; cases x; simp at h
 | succ m ihn =>
  intro x hm hg hlit u hu b l hl
  obtain ⟨nl1, z1, nl2, z2, ds, e, h1, h2, h3, h4, h5⟩ := hu.shape
  subst e
  have ho := hg.one
  have hdl := h5.length
  have hlk : (x.k = 1 ∨ x.k = 2 ∨ x.k = 3 ∨ x.k = 13 ∨ x.k = 4) ∧ LitL x.kids := by cases x; simpa only [LitP, Nd.k, Nd.kids] using hlit
  have hsz := ho.2.2.2.2.2.2
  have sz : ∀ b : ByteArray, b.data.toList.length = b.size := fun b => rfl
  by_cases k2 : x.k = 2
  ·have ht := hsz (by omega)
   have e : litT x = (quoteT x.t).data.toList := by cases x; simp only [Nd.k] at k2; simp only [litT, if_pos k2, Nd.t]
   rw [e, sz] at hl
   rw [e]
   refine AF.go Tryz.func137 [(4, [oD 7 [(5, [0, 1, 2])]]), (15, [oD 7 []]), (18, [oD 8 []]), (19, [oD 7 []]), (21, [oD 11 []]), (2, [oD 6 []])] fun tb TB Q hQ => ?_
   simp [TB, k2]
   refine ATT.callRD Tryz.func137 60 (f175_ok x.t ht) ?_ ?_ ?_ ?_
   iterate 3 · simp
   simp
   refine ATT.callRV Tryz.func137 60 [0] [0] (f174_ok 237 hTW b l (quoteT x.t) (by omega)) ?_ ?_ ?_ ?_ ?_ ?_ ?_ ?_
   iterate 7 · simp
   simp
   refine ATT.fin02 hQ Tryz.func137 ?_
   simp
   all_goals (first | omega | exact ⟨_, rfl⟩ | skip)
  by_cases k3 : x.k = 3
  ·have ht := hsz (by omega)
   have e : litT x = 35 :: (if plainSym x.t then x.t else quoteT x.t).data.toList := by cases x; simp only [Nd.k] at k2 k3; simp only [litT, if_neg k2, if_pos k3, Nd.t]; rfl
   have hP := f176_ok x.t ht
   have hq := quoteT_size x.t
   have h35 : (⟨#[35]⟩ : ByteArray).size = 1 := rfl
   rw [e] at hl
   rw [e]
   simp only [List.length_cons, sz] at hl
   cases hp : plainSym x.t with
   | true =>
    rw [hp] at hP hl
    simp only [if_true] at hl ⊢
    have hb : 1 + x.t.size ≤ 9223372036854775807 := by omega
    refine AF.go Tryz.func137 [(4, [oD 7 [(5, [0, 1, 2])]]), (15, [oD 7 []]), (18, [oD 8 []]), (19, [oD 7 []]), (21, [oD 11 []]), (2, [oD 6 []])] fun tb TB Q hQ => ?_
    simp [TB, k3]
    refine ATT.callD Tryz.func137 60 (hP) ?_ ?_ ?_ ?_
    iterate 3 · simp
    simp [TB, h35, hb]
    refine ATT.callV Tryz.func137 60 [0] [0] (f174_ok 237 hTW b l (⟨#[35]⟩ ++ x.t) (by simp only [ByteArray.size_append, h35]; omega)) ?_ ?_ ?_ ?_ ?_ ?_ ?_ ?_
    iterate 7 · simp
    simp [h35]
    refine ATT.fin02 hQ Tryz.func137 ?_
    simp
    all_goals (first | omega | exact ⟨_, rfl⟩ | skip)
   | false =>
    rw [hp] at hP hl
    simp only [Bool.false_eq_true, if_false] at hl ⊢
    have hb : 1 + (quoteT x.t).size ≤ 9223372036854775807 := by omega
    refine AF.go Tryz.func137 [(4, [oD 7 [(5, [0, 1, 2])]]), (15, [oD 7 []]), (18, [oD 8 []]), (19, [oD 7 []]), (21, [oD 11 []]), (2, [oD 6 []])] fun tb TB Q hQ => ?_
    simp [TB, k3]
    refine ATT.callD Tryz.func137 60 (hP) ?_ ?_ ?_ ?_
    iterate 3 · simp
    simp [TB]
    refine ATT.callD Tryz.func137 60 (f175_ok x.t ht) ?_ ?_ ?_ ?_
    iterate 3 · simp
    simp [TB, h35, hb]
    refine ATT.callV Tryz.func137 60 [0] [0] (f174_ok 237 hTW b l (⟨#[35]⟩ ++ quoteT x.t) (by simp only [ByteArray.size_append, h35]; omega)) ?_ ?_ ?_ ?_ ?_ ?_ ?_ ?_
    iterate 7 · simp
    simp [h35]
    refine ATT.fin02 hQ Tryz.func137 ?_
    simp
    all_goals (first | omega | exact ⟨_, rfl⟩ | skip)
  by_cases k4 : x.k = 4
  ·have e : litT x = 35 :: 40 :: (litTL true x.kids ++ [41]) := by cases x; simp only [Nd.k] at k2 k3 k4; simp only [litT, if_neg k2, if_neg k3, if_pos k4, Nd.kids]
   have h2z : (⟨#[35, 40]⟩ : ByteArray).size = 2 := rfl
   rw [e] at hl
   rw [e]
   simp only [List.length_cons, List.length_append, List.length_nil] at hl
   have hL := f177_ok x.kids (fun y hy => by obtain ⟨i, hi⟩ := List.mem_iff_getElem?.1 hy; exact ihn y (by have := kid_lt hi; omega) (GoodL.iff.1 hg.all y hy) (LitL.iff.1 hlk.2 y hy)) ho.2.1 nl2 z2 ds h3 h4 h5 (l ++ [35, 40]) (by simp; omega)
   refine AF.go Tryz.func137 [(4, [oD 7 [(5, [0, 1, 2])]]), (15, [oD 7 []]), (18, [oD 8 []]), (19, [oD 7 []]), (21, [oD 11 []]), (2, [oD 6 []])] fun tb TB Q hQ => ?_
   simp [TB, k4]
   refine ATT.callV Tryz.func137 60 [0] [0] (f174_ok 237 hTW b l ⟨#[35, 40]⟩ (by rw [h2z]; omega)) ?_ ?_ ?_ ?_ ?_ ?_ ?_ ?_
   iterate 7 · simp
   simp [TB]
   refine ATT.callV Tryz.func137 60 [0] [0] (hL) ?_ ?_ ?_ ?_ ?_ ?_ ?_ ?_
   iterate 7 · simp
   simp [TB]
   refine ATT.callV Tryz.func137 60 [0] [0] (f169_ok 237 hTW true (l ++ ([35, 40] ++ litTL true x.kids)) (by simp; omega) 41) ?_ ?_ ?_ ?_ ?_ ?_ ?_ ?_
   iterate 7 · simp
   simp
   refine ATT.fin02 hQ Tryz.func137 ?_
   simp
   all_goals (first | omega | exact ⟨_, rfl⟩ | skip)
  have ht := hsz (by omega)
  have e : litT x = x.t.data.toList := by cases x; simp only [Nd.k] at k2 k3 k4; simp only [litT, if_neg k2, if_neg k3, if_neg k4, Nd.t]
  rw [e, sz] at hl
  rw [e]
  by_cases k1 : x.k = 1
  ·skip
   refine AF.go Tryz.func137 [(4, [oD 7 [(5, [0, 1, 2])]]), (15, [oD 7 []]), (18, [oD 8 []]), (19, [oD 7 []]), (21, [oD 11 []]), (2, [oD 6 []])] fun tb TB Q hQ => ?_
   simp [TB, k1]
   refine ATT.callRV Tryz.func137 60 [0] [0] (f174_ok 237 hTW b l x.t (by omega)) ?_ ?_ ?_ ?_ ?_ ?_ ?_ ?_
   iterate 7 · simp
   simp
   refine ATT.fin02 hQ Tryz.func137 ?_
   simp
   all_goals (first | omega | exact ⟨_, rfl⟩ | skip)
  ·have k13 : x.k = 13 := by omega
   refine AF.go Tryz.func137 [(4, [oD 7 [(5, [0, 1, 2])]]), (15, [oD 7 []]), (18, [oD 8 []]), (19, [oD 7 []]), (21, [oD 11 []]), (2, [oD 6 []])] fun tb TB Q hQ => ?_
   simp [TB, k13]
   refine ATT.callRV Tryz.func137 60 [0] [0] (f174_ok 237 hTW b l x.t (by omega)) ?_ ?_ ?_ ?_ ?_ ?_ ?_ ?_
   iterate 7 · simp
   simp
   refine ATT.fin02 hQ Tryz.func137 ?_
   simp
   all_goals (first | omega | exact ⟨_, rfl⟩ | skip)
def litB (x : Nd) : ByteArray := ⟨(litT x).toArray⟩
theorem f103_lit {Q0 : ByteArray → Nat → Prop} (x : Nd) (hg : Good Q0 x) (hlit : LitP x) (hn : nds x ≤ 200000) (u : D) (hu : NdR x u) : DF Tryz.prog 103 [u] (.str (litB x)) := by
 have hlen := litT_len hg hlit
 have hN := f137_lit _ x (Nat.le_refl _) hg hlit u hu false [] (by simp; omega)
 obtain ⟨nl1, z1, nl2, z2, ds, e, h1, h2, h3, h4, h5⟩ := hu.shape
 subst e
 refine AF.go Tryz.func103 [] fun tb TB Q hQ => ?_
 simp [TB]
 refine ATT.nilB 1 1 1 5 rfl rfl (by decide) (by simp) ?_
 simp
 refine ATT.callV Tryz.func103 60 [1] [0] (hN) ?_ ?_ ?_ ?_ ?_ ?_ ?_ ?_
 iterate 7 · simp
 simp [TB]
 refine ATT.callV Tryz.func103 60 [1] [0] (f138_ok 237 true (litT x) (by omega)) ?_ ?_ ?_ ?_ ?_ ?_ ?_ ?_
 iterate 7 · simp
 simp
 refine ATT.fin2 hQ Tryz.func103 ?_
 simp [litB]
 all_goals (first | omega | exact ⟨_, rfl⟩ | skip)
end Go.SL
namespace Go.SL
open Go.Proofs
set_option maxRecDepth 10000
theorem f38_vec (l : List ByteArray) (hl : l.length ≤ 1000000000) (t : ByteArray) : VF Tryz.prog 38 [.vs 0 l.length 0 l.length, .d (.str t)] [] [NS l] (.d (.int .i64 (idxI (idxS t l 0)))) [] [NS l] := by
 refine AF.go Tryz.func38 [] fun tb TB Q hQ => ?_
 simp [TB]
 refine ATT.loopG 60 rfl (fun (i : Nat) => l.length - i) (fun (i : Nat) => i ≤ l.length ∧ idxS t (l.drop i) i = idxS t l 0) (fun (i : Nat) => [(0, .vs 0 l.length 0 l.length), (1, .d (.str t)), (7, .d (.int .i64 l.length)), (8, .d (.int .i64 i))]) (fun (i : Nat) => []) (fun (i : Nat) => [NS l]) (0) (by (try dsimp only); exact ⟨Nat.zero_le _, rfl⟩) (by simp <;> omega) (by simp) (by simp) ?_
 intro i u w hI ih
 try simp only at hI ih
 obtain ⟨i1, i2⟩ := hI
 by_cases hi : i < l.length
 ·obtain ⟨y, hy⟩ : ∃ y, l[i]? = some y := ⟨_, List.getElem?_eq_getElem hi⟩
  have hyE : ∀ h, l[i]'h = y := fun h => by rw [List.getElem?_eq_getElem h] at hy; simpa using hy
  have hi' : (i : Int) < l.length := by omega
  have hII : inI ((i : Int) + 1) = true := inI_of (by omega) (by omega)
  have hiR : inR (i : Int) l.length = true := inR_of (by omega) (by omega)
  by_cases he : y = t
  ·have hd : l.drop i = y :: l.drop (i + 1) := by rw [List.drop_eq_getElem_cons hi, hyE]
   have h0 : idxS t l 0 = some i := by rw [← i2, hd]; simp only [idxS, if_pos he]
   rw [h0] at hQ
   subst he
   simp [TB, hi, hi', hyE, hiR]
   refine ATT.fin2 hQ Tryz.func38 ?_
   simp [idxI]
   all_goals (first | omega | exact ⟨_, rfl⟩ | skip)
  ·have he' : ¬ t = y := fun h => he h.symm
   simp [TB, hi, hi', hyE, hII, hiR, he']
   refine ih (i + 1) (by first | ((try dsimp only); omega) | (simp [hi, hi', hy, hyE, hII, hiR, he'] <;> omega)) (by (try dsimp only); exact ⟨hi, by rw [← i2]; exact (idxS_step hy he).symm⟩) _ _ _ (by simp <;> omega) (by simp <;> omega) (by simp <;> omega)
 ·have hi' : ¬ (i : Int) < l.length := by omega
  have h0 : idxS t l 0 = none := by rw [← i2, List.drop_eq_nil_of_le (by omega)]; rfl
  rw [h0] at hQ
  simp [TB, hi']
  refine ATT.fin2 hQ Tryz.func38 ?_
  simp [idxI]
  all_goals (first | omega | exact ⟨_, rfl⟩ | skip)
abbrev MB (sel : ByteArray) (nu nl nn ns : Nat) (uz : D) : Bx := .cells [.d (.str sel), .vs 0 nu 0 nu, .vs 1 nl 0 nl, .vs 2 nn 0 nn, .vs 3 ns 0 ns, .d uz] 99
theorem f102_lits (sel : ByteArray) (nu nn ns : Nat) (uz : D) (l : List ByteArray) (hl : l.length ≤ 100000000) (t : ByteArray) (bs : List Bx) (r0 r2 r3 : Option Vec) (cs : List (Option Vec)) :
  AF Tryz.prog 102 [.ptr 0 2, .d (.str t)] ⟨MB sel nu l.length nn ns uz :: bs, r0 :: NS l :: r2 :: r3 :: cs⟩ fun o h => ∃ b c, o = .ret (.d (.int .i64 (onceS l t).2)) ∧ h = ⟨MB sel nu (onceS l t).1.length nn ns uz :: (bs ++ b), r0 :: NS (onceS l t).1 :: r2 :: r3 :: (cs ++ c)⟩ := by
 have hI := f38_vec l (by omega) t
 have hmul : (l.length + 1) * 16 ≤ 140737488355328 := by omega
 cases h : idxS t l 0 with
 | some k =>
  have e : onceS l t = (l, k) := by unfold onceS; rw [h]
  rw [h] at hI
  rw [e]
  have hk : (0 : Int) ≤ k := by omega
  refine AF.go Tryz.func102 [] fun tb TB Q hQ => ?_
  simp [TB]
  refine ATT.callV Tryz.func102 60 [] [1] (hI) ?_ ?_ ?_ ?_ ?_ ?_ ?_ ?_
  iterate 7 · simp
  simp [TB, idxI, hk]
  refine ATT.fin2 hQ Tryz.func102 ?_
  simp
  all_goals (first | omega | exact ⟨_, rfl⟩ | skip)
 | none =>
  have e : onceS l t = (l ++ [t], l.length) := by unfold onceS; rw [h]
  rw [h] at hI
  rw [e]
  have hII : inI (l.length : Int) = true := inI_of (by omega) (by omega)
  refine AF.go Tryz.func102 [] fun tb TB Q hQ => ?_
  simp [TB]
  refine ATT.callV Tryz.func102 60 [] [1] (hI) ?_ ?_ ?_ ?_ ?_ ?_ ?_ ?_
  iterate 7 · simp
  simp [TB, idxI, hmul, hII]
  refine ATT.fin2 hQ Tryz.func102 ?_
  simp
  all_goals (first | omega | exact ⟨_, rfl⟩ | skip)
theorem f102_names (sel : ByteArray) (nu nl ns : Nat) (uz : D) (l : List ByteArray) (hl : l.length ≤ 100000000) (t : ByteArray) (bs : List Bx) (r0 r1 r3 : Option Vec) (cs : List (Option Vec)) :
  AF Tryz.prog 102 [.ptr 0 3, .d (.str t)] ⟨MB sel nu nl l.length ns uz :: bs, r0 :: r1 :: NS l :: r3 :: cs⟩ fun o h => ∃ b c, o = .ret (.d (.int .i64 (onceS l t).2)) ∧ h = ⟨MB sel nu nl (onceS l t).1.length ns uz :: (bs ++ b), r0 :: r1 :: NS (onceS l t).1 :: r3 :: (cs ++ c)⟩ := by
 have hI := f38_vec l (by omega) t
 have hmul : (l.length + 1) * 16 ≤ 140737488355328 := by omega
 cases h : idxS t l 0 with
 | some k =>
  have e : onceS l t = (l, k) := by unfold onceS; rw [h]
  rw [h] at hI
  rw [e]
  have hk : (0 : Int) ≤ k := by omega
  refine AF.go Tryz.func102 [] fun tb TB Q hQ => ?_
  simp [TB]
  refine ATT.callV Tryz.func102 60 [] [2] (hI) ?_ ?_ ?_ ?_ ?_ ?_ ?_ ?_
  iterate 7 · simp
  simp [TB, idxI, hk]
  refine ATT.fin2 hQ Tryz.func102 ?_
  simp
  all_goals (first | omega | exact ⟨_, rfl⟩ | skip)
 | none =>
  have e : onceS l t = (l ++ [t], l.length) := by unfold onceS; rw [h]
  rw [h] at hI
  rw [e]
  have hII : inI (l.length : Int) = true := inI_of (by omega) (by omega)
  refine AF.go Tryz.func102 [] fun tb TB Q hQ => ?_
  simp [TB]
  refine ATT.callV Tryz.func102 60 [] [2] (hI) ?_ ?_ ?_ ?_ ?_ ?_ ?_ ?_
  iterate 7 · simp
  simp [TB, idxI, hmul, hII]
  refine ATT.fin2 hQ Tryz.func102 ?_
  simp
  all_goals (first | omega | exact ⟨_, rfl⟩ | skip)
theorem f102_sels (sel : ByteArray) (nu nl nn : Nat) (uz : D) (l : List ByteArray) (hl : l.length ≤ 100000000) (t : ByteArray) (bs : List Bx) (r0 r1 r2 : Option Vec) (cs : List (Option Vec)) :
  AF Tryz.prog 102 [.ptr 0 4, .d (.str t)] ⟨MB sel nu nl nn l.length uz :: bs, r0 :: r1 :: r2 :: NS l :: cs⟩ fun o h => ∃ b c, o = .ret (.d (.int .i64 (onceS l t).2)) ∧ h = ⟨MB sel nu nl nn (onceS l t).1.length uz :: (bs ++ b), r0 :: r1 :: r2 :: NS (onceS l t).1 :: (cs ++ c)⟩ := by
 have hI := f38_vec l (by omega) t
 have hmul : (l.length + 1) * 16 ≤ 140737488355328 := by omega
 cases h : idxS t l 0 with
 | some k =>
  have e : onceS l t = (l, k) := by unfold onceS; rw [h]
  rw [h] at hI
  rw [e]
  have hk : (0 : Int) ≤ k := by omega
  refine AF.go Tryz.func102 [] fun tb TB Q hQ => ?_
  simp [TB]
  refine ATT.callV Tryz.func102 60 [] [3] (hI) ?_ ?_ ?_ ?_ ?_ ?_ ?_ ?_
  iterate 7 · simp
  simp [TB, idxI, hk]
  refine ATT.fin2 hQ Tryz.func102 ?_
  simp
  all_goals (first | omega | exact ⟨_, rfl⟩ | skip)
 | none =>
  have e : onceS l t = (l ++ [t], l.length) := by unfold onceS; rw [h]
  rw [h] at hI
  rw [e]
  have hII : inI (l.length : Int) = true := inI_of (by omega) (by omega)
  refine AF.go Tryz.func102 [] fun tb TB Q hQ => ?_
  simp [TB]
  refine ATT.callV Tryz.func102 60 [] [3] (hI) ?_ ?_ ?_ ?_ ?_ ?_ ?_ ?_
  iterate 7 · simp
  simp [TB, idxI, hmul, hII]
  refine ATT.fin2 hQ Tryz.func102 ?_
  simp
  all_goals (first | omega | exact ⟨_, rfl⟩ | skip)
theorem f105_ok (sel : ByteArray) (nu nl nn ns : Nat) (y : Us) (r : List Us) (bs : List Bx) (vc : List (Option Vec)) :
  AF Tryz.prog 105 [.ptr 0 0] ⟨MB sel nu nl nn ns (.sl false 6 (usD y :: r.map usD)) :: bs, vc⟩ fun o h => ∃ b, o = .ret (.d (usD y)) ∧ h = ⟨MB sel nu nl nn ns (.sl false 6 (r.map usD)) :: (bs ++ b), vc⟩ := by
 have h1 : (1 : Int) ≤ (r.length : Int) + 1 := by omega
 refine AF.go Tryz.func105 [] fun tb TB Q hQ => ?_
 simp [TB, usD, h1]
 refine ATT.fin2 hQ Tryz.func105 ?_
 simp [usD]
 all_goals (first | omega | exact ⟨_, rfl⟩ | skip)
def insD (x : Nat × Nat × Nat) : D := .agg [.int .i64 x.1, .int .i64 x.2.1, .int .i64 x.2.2]
abbrev IR (l : List (Nat × Nat × Nat)) : Option Vec := some ⟨false, 3, 0, l.map fun x => .d (insD x), 195⟩
def uv (x : CU) (j : Nat) : V := if x.ins = [] then .d (.agg [.int .i64 x.a, .int .i64 x.n, .sl true 0 []]) else .agg [.d (.int .i64 x.a), .d (.int .i64 x.n), .vs (j + 1 + 1 + 1 + 1) x.ins.length 0 x.ins.length]
abbrev UV (nl : Bool) (xs : List V) : Option Vec := some ⟨nl, 3, 0, xs, 147⟩
theorem f73_new (sel : ByteArray) (nu nl nn ns : Nat) (uz : D) (bs : List Bx) (unl : Bool) (xs : List V) (hxs : xs.length = nu) (u : Nat) (x : CU) (j : Nat) (hu : xs[u]? = some (uv x j)) (h0 : x.ins = []) (hnu : nu ≤ 100000000) (op a b : Nat) (r1 r2 r3 : Option Vec) (cs : List (Option Vec)) :
  AF Tryz.prog 73 [.ptr 0 0, .d (.int .i64 u), .d (.int .i64 op), .d (.int .i64 a), .d (.int .i64 b)] ⟨MB sel nu nl nn ns uz :: bs, UV unl xs :: r1 :: r2 :: r3 :: cs⟩
   fun o h => ∃ bb g, o = .ret (.d (.tup [])) ∧ h = ⟨MB sel nu nl nn ns uz :: (bs ++ bb), UV unl (xs.set u (uv (addU (op, a, b) x) (cs.length + 1))) :: r1 :: r2 :: r3 :: (cs ++ [g, IR (x.ins ++ [(op, a, b)])])⟩ := by
 have hul : u < xs.length := (List.getElem?_eq_some_iff.1 hu).1
 have hR : inR (u : Int) nu = true := inR_of (by omega) (by omega)
 have hy : ∀ h, xs[u]'h = uv x j := fun h => by rw [List.getElem?_eq_getElem h] at hu; simpa using hu
 have e : uv x j = .d (.agg [.int .i64 x.a, .int .i64 x.n, .sl true 0 []]) := by unfold uv; rw [if_pos h0]
 have e2 : uv (addU (op, a, b) x) (cs.length + 1) = .agg [.d (.int .i64 x.a), .d (.int .i64 x.n), .vs (cs.length + 1 + 1 + 1 + 1 + 1) 1 0 1] := by
  unfold uv addU
  rw [if_neg (by simp), h0]; rfl
 rw [e2, h0]
 rw [e] at hu hy
 subst hxs
 have b20 : Nat.beq 2 0 = false := rfl
 refine AF.go Tryz.func73 [(0, [oD 24 [(19, [0, 1, 2, 3, 4, 5, 6, 7, 8, 9, 10, 11, 12, 13, 14]), (20, [0, 1, 2, 3, 4, 5])]])] fun tb TB Q hQ => ?_
 simp [hR, hy, hul, b20]
 refine ATT.fin02 hQ Tryz.func73 ?_
 simp [insD]
 all_goals (first | omega | exact ⟨_, rfl⟩ | skip)
theorem f73_more (sel : ByteArray) (nu nl nn ns : Nat) (uz : D) (bs : List Bx) (unl : Bool) (xs : List V) (hxs : xs.length = nu) (u : Nat) (x : CU) (j : Nat) (hu : xs[u]? = some (uv x j)) (h0 : x.ins ≠ []) (hnu : nu ≤ 100000000) (hni : x.ins.length ≤ 100000000) (op a b : Nat) (r1 r2 r3 : Option Vec) (cs : List (Option Vec)) (hj : cs[j]? = some (IR x.ins)) :
  AF Tryz.prog 73 [.ptr 0 0, .d (.int .i64 u), .d (.int .i64 op), .d (.int .i64 a), .d (.int .i64 b)] ⟨MB sel nu nl nn ns uz :: bs, UV unl xs :: r1 :: r2 :: r3 :: cs⟩
   fun o h => ∃ bb g, o = .ret (.d (.tup [])) ∧ h = ⟨MB sel nu nl nn ns uz :: (bs ++ bb), UV unl (xs.set u (uv (addU (op, a, b) x) j)) :: r1 :: r2 :: r3 :: (cs.set j (IR (x.ins ++ [(op, a, b)])) ++ [g])⟩ := by
 have hul : u < xs.length := (List.getElem?_eq_some_iff.1 hu).1
 have hjl : j < cs.length := (List.getElem?_eq_some_iff.1 hj).1
 have hR : inR (u : Int) nu = true := inR_of (by omega) (by omega)
 have hy : ∀ h, xs[u]'h = uv x j := fun h => by rw [List.getElem?_eq_getElem h] at hu; simpa using hu
 have hjE : ∀ l : List (Option Vec), (cs ++ l)[j]? = some (IR x.ins) := get_more hj
 have hjS : ∀ (l : List (Option Vec)) (y : Option Vec), (cs ++ l).set j y = cs.set j y ++ l := fun l y => by rw [List.set_append_left _ _ hjl]
 have e : uv x j = .agg [.d (.int .i64 x.a), .d (.int .i64 x.n), .vs (j + 1 + 1 + 1 + 1) x.ins.length 0 x.ins.length] := by unfold uv; rw [if_neg h0]
 have e2 : uv (addU (op, a, b) x) j = .agg [.d (.int .i64 x.a), .d (.int .i64 x.n), .vs (j + 1 + 1 + 1 + 1) (x.ins.length + 1) 0 (x.ins.length + 1)] := by
  unfold uv addU
  rw [if_neg (by simp)]; simp
 rw [e2]
 rw [e] at hu hy
 subst hxs
 have b20 : Nat.beq 2 0 = false := rfl
 have hmul : (x.ins.length + 1) * 24 ≤ 140737488355328 := by omega
 refine AF.go Tryz.func73 [(0, [oD 24 [(19, [0, 1, 2, 3, 4, 5, 6, 7, 8, 9, 10, 11, 12, 13, 14]), (20, [0, 1, 2, 3, 4, 5])]])] fun tb TB Q hQ => ?_
 simp [hR, hy, hul, b20, hjE, hjS, hmul]
 refine ATT.fin02 hQ Tryz.func73 ?_
 simp [insD]
 all_goals (first | omega | exact ⟨_, rfl⟩ | skip)
 rw [IR, List.map_append]; rfl
end Go.SL
namespace Go.SL
def szC (c : CM) : Nat := c.us.length + (c.us.map fun x => x.ins.length).sum + c.lits.length + c.names.length + c.sels.length
theorem once_len (l : List ByteArray) (t : ByteArray) : l.length ≤ (onceS l t).1.length ∧ (onceS l t).1.length ≤ l.length + 1 := by
 unfold onceS
 split <;> simp
theorem modify_sum (x : Nat × Nat × Nat) : ∀ (l : List CU) (u : Nat), ((l.modify u (addU x)).map fun x => x.ins.length).sum ≤ (l.map fun x => x.ins.length).sum + 1
 | [], u => by simp
 | y :: r, 0 => by simp [addU]; omega
 | y :: r, u + 1 => by
  have := modify_sum x r u
  simp only [List.modify_succ_cons, List.map_cons, List.sum_cons] at this ⊢
  omega
def Gr (n : Nat) (c c' : CM) : Prop := c.us.length ≤ c'.us.length ∧ szC c' ≤ szC c + n
theorem Gr.refl (c : CM) : Gr 0 c c := ⟨Nat.le_refl _, Nat.le_refl _⟩
theorem Gr.trans {n m : Nat} {a b c : CM} (h : Gr n a b) (g : Gr m b c) : Gr (n + m) a c := ⟨Nat.le_trans h.1 g.1, by have := h.2; have := g.2; omega⟩
theorem Gr.up {n m : Nat} {a b : CM} (h : Gr n a b) (k : n ≤ m) : Gr m a b := ⟨h.1, by have := h.2; omega⟩
theorem addS_gr (u : Nat) (x : Nat × Nat × Nat) (c : CM) : Gr 1 c (addS u x c) := by
 refine ⟨by simp [addS], ?_⟩
 have := modify_sum x c.us u
 simp only [szC, addS, List.length_modify] at this ⊢
 omega
theorem litS_gr (u : Nat) (t : ByteArray) (c : CM) : Gr 2 c (litS u t c) := by
 have h := once_len c.lits t
 have g : Gr 1 c { c with lits := (onceS c.lits t).1 } := ⟨Nat.le_refl _, by simp only [szC]; omega⟩
 exact g.trans (addS_gr _ _ _)
theorem useS_gr (u : Nat) (x : Us) (c : CM) : Gr 2 c (useS u x c) := by
 unfold useS
 split
 ·exact (addS_gr _ _ _).up (by decide)
 split
 ·exact (addS_gr _ _ _).up (by decide)
 split
 ·exact (addS_gr _ _ _).up (by decide)
 split
 ·have h := once_len c.names x.t
  have g : Gr 1 c { c with names := (onceS c.names x.t).1 } := ⟨Nat.le_refl _, by simp only [szC]; omega⟩
  exact g.trans (addS_gr _ _ _)
 ·exact (addS_gr _ _ _).up (by decide)
theorem setS_gr (u : Nat) (x : Us) (c : CM) : Gr 1 c (setS u x c) := by
 unfold setS
 split <;> exact addS_gr _ _ _
theorem sendC_gr (u : Nat) (s : Bool) (t : ByteArray) (n : Nat) (c : CM) : Gr 2 c (sendC u s t n c) := by
 have h := once_len c.sels t
 have g : Gr 1 c { c with sels := (onceS c.sels t).1 } := ⟨Nat.le_refl _, by simp only [szC]; omega⟩
 exact g.trans (addS_gr _ _ _)
theorem newU_gr (a n : Nat) (c : CM) : Gr 1 c (newU a n c) := ⟨by simp [newU], by simp [szC, newU]; omega⟩
theorem endS_gr (u : Nat) (m : Bool) (k : Nat) (c : CM) : Gr 3 c (endS u m k c) := by
 unfold endS
 split
 ·split
  ·exact ((addS_gr _ _ _).trans (addS_gr _ _ _)).up (by decide)
  ·exact ((addS_gr _ _ _).trans ((addS_gr _ _ _).trans (addS_gr _ _ _))).up (by decide)
 ·split
  ·exact ((addS_gr _ _ _).trans (addS_gr _ _ _)).up (by decide)
  ·exact (addS_gr _ _ _).up (by decide)
theorem doneU_gr (u : Nat) (m : Bool) (k : Nat) (s : MS × Bool) : Gr 3 s.1.1 (doneU u m k s) := by
 unfold doneU
 split
 ·exact (Gr.refl _).up (by decide)
 ·exact endS_gr _ _ _ _
theorem pop_gr (u i : Nat) (c : CM) : Gr 1 c (if i = 0 then c else addS u (12, 0, 0) c) := by
 split
 ·exact (Gr.refl _).up (by decide)
 ·exact addS_gr _ _ _
section
variable {lt : Nd → ByteArray}
mutual
theorem mkP_gr {u : Nat} : ∀ {x : Nd} {s s' : MS}, mkP lt u x s = some s' → Gr (8 * nds x - 2) s.1 s'.1
 | .mk k t a n names kids, (c, us), s', h => by
  simp only [mkP] at h
  simp only [nds]
  split at h
  ·simp only [Option.some.injEq] at h; rw [← h]; exact (litS_gr _ _ _).up (by omega)
  split at h
  ·split at h
   ·simp at h
   ·simp only [Option.some.injEq] at h; rw [← h]; exact (useS_gr _ _ _).up (by omega)
  split at h
  ·split at h
   ·simp at h
   ·cases hk : mkH lt u kids (c, ‹List Us›) with
    | none => rw [hk] at h; simp at h
    | some s2 =>
     rw [hk] at h
     simp only [Option.map_some, Option.some.injEq] at h
     rw [← h]; exact ((mkH_gr hk).trans (setS_gr _ _ _)).up (by omega)
  split at h
  ·cases hk : mkL lt u kids (c, us) with
   | none => rw [hk] at h; simp at h
   | some s2 =>
    rw [hk] at h
    simp only [Option.map_some, Option.some.injEq] at h
    rw [← h]; exact ((mkL_gr hk).trans (sendC_gr _ _ _ _ _)).up (by omega)
  split at h
  ·exact (mkC_gr h).up (by omega)
  split at h
  ·cases hk : mkS lt c.us.length 0 kids (newU n names.length (addS u (10, c.us.length, 0) c), us) with
   | none => rw [hk] at h; simp at h
   | some s2 =>
    rw [hk] at h
    simp only [Option.map_some, Option.some.injEq] at h
    rw [← h]
    exact (((addS_gr _ _ _).trans (newU_gr _ _ _)).trans ((mkS_gr hk).trans (doneU_gr _ _ _ _))).up (by omega)
  ·simp only [Option.some.injEq] at h; rw [← h]; exact (Gr.refl _).up (by omega)
theorem mkH_gr {u : Nat} : ∀ {l : List Nd} {s s' : MS}, mkH lt u l s = some s' → Gr (8 * ndL l) s.1 s'.1
 | [], s, s', h => by simp [mkH] at h
 | x :: r, s, s', h => by
  simp only [mkH] at h
  simp only [ndL]
  exact (mkP_gr h).up (by omega)
theorem mkL_gr {u : Nat} : ∀ {l : List Nd} {s s' : MS}, mkL lt u l s = some s' → Gr (8 * ndL l) s.1 s'.1
 | [], s, s', h => by simp only [mkL, Option.some.injEq] at h; rw [← h]; exact Gr.refl _
 | x :: r, s, s', h => by
  simp only [mkL] at h
  simp only [ndL]
  cases hk : mkP lt u x s with
  | none => rw [hk] at h; simp at h
  | some s2 =>
   rw [hk] at h
   exact ((mkP_gr hk).trans (mkL_gr (s := s2) h)).up (by omega)
theorem mkC_gr {u : Nat} {sp : Bool} : ∀ {l : List Nd} {s s' : MS}, mkC lt u sp l s = some s' → Gr (8 * ndL l) s.1 s'.1
 | [], s, s', h => by simp [mkC] at h
 | x :: r, s, s', h => by
  simp only [mkC] at h
  simp only [ndL]
  cases hk : mkP lt u x s with
  | none => rw [hk] at h; simp at h
  | some s2 =>
   rw [hk] at h
   exact ((mkP_gr hk).trans (mkD_gr (s := s2) h)).up (by omega)
theorem mkD_gr {u : Nat} {sp : Bool} : ∀ {l : List Nd} {s s' : MS}, mkD lt u sp l s = some s' → Gr (8 * ndL l) s.1 s'.1
 | [], s, s', h => by simp [mkD] at h
 | [m], s, s', h => by
  simp only [mkD] at h
  simp only [ndL]
  exact (mkM_gr h).up (by have := m.count; omega)
 | m :: y :: r, s, s', h => by
  simp only [mkD] at h
  rw [ndL]
  cases hk : mkM lt u sp m (addS u (11, 0, 0) s.1, s.2) with
  | none => rw [hk] at h; simp at h
  | some s2 =>
   rw [hk] at h
   have h1 := (addS_gr u (11, 0, 0) s.1).trans (mkM_gr hk)
   have h2 := (addS_gr u (12, 0, 0) s2.1).trans (mkD_gr (l := y :: r) h)
   exact (h1.trans h2).up (by have := m.count; omega)
theorem mkM_gr {u : Nat} {sp : Bool} : ∀ {m : Nd} {s s' : MS}, mkM lt u sp m s = some s' → Gr (8 * nds m - 6) s.1 s'.1
 | .mk k t a n names kids, s, s', h => by
  simp only [mkM] at h
  simp only [nds]
  cases hk : mkL lt u kids s with
  | none => rw [hk] at h; simp at h
  | some s2 =>
   rw [hk] at h
   simp only [Option.map_some, Option.some.injEq] at h
   rw [← h]; exact ((mkL_gr hk).trans (sendC_gr _ _ _ _ _)).up (by omega)
theorem mkS_gr {u : Nat} : ∀ {l : List Nd} {i : Nat} {s : MS} {s' : MS × Bool}, mkS lt u i l s = some s' → Gr (8 * ndL l) s.1 s'.1.1
 | [], i, s, s', h => by simp only [mkS, Option.some.injEq] at h; rw [← h]; exact Gr.refl _
 | .mk k t a n names kids :: r, i, s, s', h => by
  simp only [mkS] at h
  simp only [ndL]
  split at h
  ·cases hk : mkH lt u kids (if i = 0 then s.1 else addS u (12, 0, 0) s.1, s.2) with
   | none => rw [hk] at h; simp at h
   | some s2 =>
    rw [hk] at h
    simp only [Option.map_some, Option.some.injEq] at h
    rw [← h]
    have h1 := (pop_gr u i s.1).trans (mkH_gr hk)
    simp only [nds]
    exact (h1.trans (addS_gr _ _ _)).up (by omega)
  ·cases hk : mkP lt u (.mk k t a n names kids) (if i = 0 then s.1 else addS u (12, 0, 0) s.1, s.2) with
   | none => rw [hk] at h; simp at h
   | some s2 =>
    rw [hk] at h
    have h1 := (pop_gr u i s.1).trans (mkP_gr hk)
    exact (h1.trans (mkS_gr (s := s2) h)).up (by simp only [nds]; omega)
end
end
end Go.SL
namespace Go.SL
open Go.Proofs
set_option maxRecDepth 10000
def InsOK (us : List CU) (js : List Nat) (cs : List (Option Vec)) : Prop :=
 js.length = us.length ∧ (∀ (u : Nat) (x : CU) (j : Nat), us[u]? = some x → js[u]? = some j → x.ins ≠ [] → cs[j]? = some (IR x.ins)) ∧
 (∀ (u v : Nat) (x y : CU) (j : Nat), us[u]? = some x → us[v]? = some y → js[u]? = some j → js[v]? = some j → x.ins ≠ [] → y.ins ≠ [] → u = v)
abbrev MK (sel : ByteArray) (c : CM) (uz : D) (js : List Nat) (bs : List Bx) (cs : List (Option Vec)) : H :=
 ⟨MB sel c.us.length c.lits.length c.names.length c.sels.length uz :: bs, UV c.us.isEmpty (List.zipWith uv c.us js) :: NS c.lits :: NS c.names :: NS c.sels :: cs⟩
def MkP (sel : ByteArray) (c : CM) (uz : D) (bs : List Bx) (o : Out) (h : H) : Prop := o = .ret (.d (.tup [])) ∧ ∃ js b cs, h = MK sel c uz js (bs ++ b) cs ∧ InsOK c.us js cs
theorem szC_at {c : CM} {u : Nat} {x : CU} (h : c.us[u]? = some x) : x.ins.length ≤ szC c := by
 have : ∀ (l : List CU) (u : Nat), l[u]? = some x → x.ins.length ≤ (l.map fun x => x.ins.length).sum := by
  intro l
  induction l with
  | nil => intro u h; simp at h
  | cons y r ih =>
   intro u h
   cases u with
   | zero => simp at h; subst h; simp
   | succ u => have := ih u (by simpa using h); simp; omega
 have := this c.us u h
 unfold szC; omega
theorem modify_at {α : Type} {l : List α} {u : Nat} {x : α} (f : α → α) (h : l[u]? = some x) : l.modify u f = l.set u (f x) := by
 apply List.ext_getElem?
 intro i
 rw [List.getElem?_modify, List.getElem?_set]
 by_cases e : u = i
 ·subst e
  have hl := (List.getElem?_eq_some_iff.1 h).1
  have hv := (List.getElem?_eq_some_iff.1 h).2
  simp [hl, hv]
 ·simp [e]
theorem zip_set {α β γ : Type} (f : α → β → γ) (l : List α) (m : List β) (u : Nat) (a : α) (b : β) : (List.zipWith f l m).set u (f a b) = List.zipWith f (l.set u a) (m.set u b) := by
 apply List.ext_getElem?
 intro i
 by_cases e : u = i
 ·subst e
  simp only [List.getElem?_set, List.getElem?_zipWith, List.length_zipWith]
  by_cases h1 : u < l.length <;> by_cases h2 : u < m.length <;> simp [h1, h2] <;> omega
 ·simp only [List.getElem?_set, List.getElem?_zipWith, if_neg e]
theorem set_same {α : Type} {l : List α} {u : Nat} {a : α} (h : l[u]? = some a) : l.set u a = l := by
 apply List.ext_getElem?
 intro i
 by_cases e : u = i
 ·subst e
  rw [List.getElem?_set_self (List.getElem?_eq_some_iff.1 h).1, h]
 ·rw [List.getElem?_set_ne e]
theorem zip_at {α β γ : Type} {f : α → β → γ} {l : List α} {m : List β} {u : Nat} {a : α} {b : β} (h : l[u]? = some a) (g : m[u]? = some b) : (List.zipWith f l m)[u]? = some (f a b) := by
 simp [List.getElem?_zipWith, h, g]
theorem isEmpty_set {α : Type} (l : List α) (u : Nat) (a : α) : (l.set u a).isEmpty = l.isEmpty := by cases l <;> cases u <;> rfl
theorem add_ok (sel : ByteArray) (c : CM) (uz : D) (js : List Nat) (bs : List Bx) (cs : List (Option Vec)) (hI : InsOK c.us js cs) (u : Nat) (hu : u < c.us.length) (hz : szC c ≤ 100000000) (op a b : Nat) :
  AF Tryz.prog 73 [.ptr 0 0, .d (.int .i64 u), .d (.int .i64 op), .d (.int .i64 a), .d (.int .i64 b)] (MK sel c uz js bs cs) (MkP sel (addS u (op, a, b) c) uz bs) := by
 obtain ⟨i1, i2, i3⟩ := hI
 obtain ⟨x, hx⟩ : ∃ x, c.us[u]? = some x := ⟨_, List.getElem?_eq_getElem hu⟩
 obtain ⟨j, hj⟩ : ∃ j, js[u]? = some j := ⟨_, List.getElem?_eq_getElem (by omega)⟩
 have hlen : (List.zipWith uv c.us js).length = c.us.length := by simp; omega
 have hnu : c.us.length ≤ 100000000 := by unfold szC at hz; omega
 have hm : (addS u (op, a, b) c).us = c.us.set u (addU (op, a, b) x) := modify_at _ hx
 have key : ∀ (v : Nat) (y : CU), (c.us.set u (addU (op, a, b) x))[v]? = some y → (v = u ∧ y = addU (op, a, b) x) ∨ (v ≠ u ∧ c.us[v]? = some y) := fun v y h => by
  by_cases e : v = u
  ·subst e
   rw [List.getElem?_set_self hu] at h
   simp only [Option.some.injEq] at h
   exact .inl ⟨rfl, h.symm⟩
  ·rw [List.getElem?_set_ne (fun q => e q.symm)] at h
   exact .inr ⟨e, h⟩
 by_cases h0 : x.ins = []
 ·refine (f73_new sel _ _ _ _ uz bs c.us.isEmpty _ hlen u x j (zip_at hx hj) h0 hnu op a b _ _ _ cs).mono fun o h ⟨bb, g, e1, e2⟩ => ⟨e1, js.set u (cs.length + 1), bb, cs ++ [g, IR (x.ins ++ [(op, a, b)])], ?_, ?_⟩
  ·rw [e2, zip_set, MK, hm, List.length_set, isEmpty_set]; rfl
  ·rw [hm]
   refine ⟨by simp [i1], fun v y k h1 h2 h3 => ?_, fun v w y z k h1 h2 h3 h4 h5 h6 => ?_⟩
   ·rcases key v y h1 with ⟨q1, q2⟩ | ⟨q1, q2⟩
    ·subst q1 q2
     rw [List.getElem?_set_self (by omega)] at h2
     simp only [Option.some.injEq] at h2
     subst h2
     rw [List.getElem?_append_right (by omega)]
     simp [addU]
    ·rw [List.getElem?_set_ne (fun e => q1 e.symm)] at h2
     exact get_more (i2 v y k q2 h2 h3) _
   ·rcases key v y h1 with ⟨q1, q2⟩ | ⟨q1, q2⟩ <;> rcases key w z h2 with ⟨p1, p2⟩ | ⟨p1, p2⟩
    ·omega
    ·subst q1 q2
     rw [List.getElem?_set_self (by omega)] at h3
     rw [List.getElem?_set_ne (fun e => p1 e.symm)] at h4
     simp only [Option.some.injEq] at h3
     have := (List.getElem?_eq_some_iff.1 (i2 w z k p2 h4 h6)).1
     omega
    ·subst p1 p2
     rw [List.getElem?_set_self (by omega)] at h4
     rw [List.getElem?_set_ne (fun e => q1 e.symm)] at h3
     simp only [Option.some.injEq] at h4
     have := (List.getElem?_eq_some_iff.1 (i2 v y k q2 h3 h5)).1
     omega
    ·rw [List.getElem?_set_ne (fun e => q1 e.symm)] at h3
     rw [List.getElem?_set_ne (fun e => p1 e.symm)] at h4
     exact i3 v w y z k q2 p2 h3 h4 h5 h6
 ·have hcj := i2 u x j hx hj h0
  refine (f73_more sel _ _ _ _ uz bs c.us.isEmpty _ hlen u x j (zip_at hx hj) h0 hnu (Nat.le_trans (szC_at hx) hz) op a b _ _ _ cs hcj).mono fun o h ⟨bb, g, e1, e2⟩ => ⟨e1, js, bb, cs.set j (IR (x.ins ++ [(op, a, b)])) ++ [g], ?_, ?_⟩
  ·rw [e2, zip_set, set_same hj, MK, hm, List.length_set, isEmpty_set]; rfl
  ·have hjl := (List.getElem?_eq_some_iff.1 hcj).1
   rw [hm]
   refine ⟨by simp [i1], fun v y k h1 h2 h3 => ?_, fun v w y z k h1 h2 h3 h4 h5 h6 => ?_⟩
   ·rcases key v y h1 with ⟨q1, q2⟩ | ⟨q1, q2⟩
    ·subst q1 q2
     rw [hj] at h2
     simp only [Option.some.injEq] at h2
     subst h2
     refine get_more ?_ _
     rw [List.getElem?_set_self hjl]; rfl
    ·refine get_more ?_ _
     rw [List.getElem?_set_ne (fun e => q1 (by subst e; exact i3 v u y x j q2 hx h2 hj h3 h0))]
     exact i2 v y k q2 h2 h3
   ·rcases key v y h1 with ⟨q1, q2⟩ | ⟨q1, q2⟩ <;> rcases key w z h2 with ⟨p1, p2⟩ | ⟨p1, p2⟩
    ·omega
    ·subst q1
     exact i3 v w x z k hx p2 h3 h4 h0 h6
    ·subst p1
     exact i3 v w y x k q2 hx h3 h4 h5 h0
    ·exact i3 v w y z k q2 p2 h3 h4 h5 h6
theorem InsOK.more {us : List CU} {js : List Nat} {cs : List (Option Vec)} (h : InsOK us js cs) (c : List (Option Vec)) : InsOK us js (cs ++ c) :=
 ⟨h.1, fun u x j h1 h2 h3 => get_more (h.2.1 u x j h1 h2 h3) c, h.2.2⟩
theorem f104_ok (sel : ByteArray) (c : CM) (y : Us) (r : List Us) (js : List Nat) (bs : List Bx) (cs : List (Option Vec)) (hI : InsOK c.us js cs) (u : Nat) (hu : u < c.us.length) (hz : szC c ≤ 999990) :
  AF Tryz.prog 104 [.ptr 0 0, .d (.int .i64 u)] (MK sel c (.sl false 6 (usD y :: r.map usD)) js bs cs) (MkP sel (useS u y c) (.sl false 6 (r.map usD)) bs) := by
 have hU := fun bs vc => f105_ok sel c.us.length c.lits.length c.names.length c.sels.length y r bs vc
 obtain ⟨a0, t0, k0, d0, i0, w0⟩ := y
 refine AF.go Tryz.func104 [(10, [oD 10 [(8, [0, 1])]])] fun tb TB Q hQ => ?_
 simp [TB]
 refine ATT.callT Tryz.func104 60 (hU _ _) ?_ ?_ ?_ fun out hC hE => ?_
 iterate 3 · simp
 obtain ⟨b, e1, e2⟩ := hE
 simp only [usD] at e1
 subst e1 e2
 by_cases h2 : k0 = 2
 ·subst h2
  have e : useS u ⟨a0, t0, 2, d0, i0, w0⟩ c = addS u (7, i0, 0) c := rfl
  rw [e] at hQ
  simp [TB]
  refine ATT.callT Tryz.func104 60 (add_ok sel c _ js _ cs hI u hu (by omega) 7 i0 0) ?_ ?_ ?_ fun out hC hE => ?_
  iterate 3 · simp
  obtain ⟨e1, js', b', cs', e2, hI'⟩ := hE
  subst e1 e2
  simp
  refine ATT.fin02 hQ Tryz.func104 ?_
  exact ⟨by simp, rfl, js', _, cs', rfl, hI'⟩
 by_cases h3 : k0 = 3
 ·subst h3
  have e : useS u ⟨a0, t0, 3, d0, i0, w0⟩ c = addS u (1, d0, i0) c := rfl
  rw [e] at hQ
  simp [TB]
  refine ATT.callT Tryz.func104 60 (add_ok sel c _ js _ cs hI u hu (by omega) 1 d0 i0) ?_ ?_ ?_ fun out hC hE => ?_
  iterate 3 · simp
  obtain ⟨e1, js', b', cs', e2, hI'⟩ := hE
  subst e1 e2
  simp
  refine ATT.fin02 hQ Tryz.func104 ?_
  exact ⟨by simp, rfl, js', _, cs', rfl, hI'⟩
 by_cases h4 : k0 = 4
 ·subst h4
  have e : useS u ⟨a0, t0, 4, d0, i0, w0⟩ c = addS u (3, i0, 0) c := rfl
  rw [e] at hQ
  simp [TB]
  refine ATT.callT Tryz.func104 60 (add_ok sel c _ js _ cs hI u hu (by omega) 3 i0 0) ?_ ?_ ?_ fun out hC hE => ?_
  iterate 3 · simp
  obtain ⟨e1, js', b', cs', e2, hI'⟩ := hE
  subst e1 e2
  simp
  refine ATT.fin02 hQ Tryz.func104 ?_
  exact ⟨by simp, rfl, js', _, cs', rfl, hI'⟩
 by_cases h5 : k0 = 5
 ·subst h5
  have e : useS u ⟨a0, t0, 5, d0, i0, w0⟩ c = addS u (5, (onceS c.names t0).2, 0) { c with names := (onceS c.names t0).1 } := rfl
  have hl := once_len c.names t0
  have hn : c.names.length ≤ szC c := by unfold szC; omega
  rw [e] at hQ
  simp [TB]
  refine ATT.callRT Tryz.func104 60 (f102_names sel c.us.length c.lits.length c.sels.length _ c.names (by omega) t0 _ _ _ _ cs) ?_ ?_ ?_ fun out hC hE => ?_
  iterate 3 · simp
  obtain ⟨b2, c2, e1, e2⟩ := hE
  subst e1 e2
  simp
  refine ATT.callRT Tryz.func104 60 (add_ok sel { c with names := (onceS c.names t0).1 } _ js _ (cs ++ c2) (hI.more c2) u hu (by unfold szC at hz ⊢; simp only; omega) 5 (onceS c.names t0).2 0) ?_ ?_ ?_ fun out hC hE => ?_
  iterate 3 · simp
  obtain ⟨e1, js', b', cs', e2, hI'⟩ := hE
  subst e1 e2
  simp
  refine ATT.fin02 hQ Tryz.func104 ?_
  exact ⟨by simp, rfl, js', _, cs', rfl, hI'⟩
 ·have e : useS u ⟨a0, t0, k0, d0, i0, w0⟩ c = addS u (6, 0, 0) c := by unfold useS; rw [if_neg h2, if_neg h3, if_neg h4, if_neg h5]
  rw [e] at hQ
  simp [TB, h2, h3, h4, h5]
  refine ATT.callT Tryz.func104 60 (add_ok sel c _ js _ cs hI u hu (by omega) 6 0 0) ?_ ?_ ?_ fun out hC hE => ?_
  iterate 3 · simp
  obtain ⟨e1, js', b', cs', e2, hI'⟩ := hE
  subst e1 e2
  simp
  refine ATT.fin02 hQ Tryz.func104 ?_
  exact ⟨by simp, rfl, js', _, cs', rfl, hI'⟩
end Go.SL
namespace Go.SL
open Go.Proofs
set_option maxRecDepth 10000
abbrev uzD (nl : Bool) (us : List Us) : D := .sl nl 6 (us.map usD)
def MkQ (sel : ByteArray) (s : MS) (bs : List Bx) (o : Out) (h : H) : Prop := ∃ nl, MkP sel s.1 (uzD nl s.2) bs o h ∧ (nl = true → s.2 = [])
def PartM (x : Nd) : Prop := ∀ (sel : ByteArray) (c : CM) (us : List Us) (nl : Bool) (js : List Nat) (bs : List Bx) (cs : List (Option Vec)) (un : Nat) (s' : MS) (ud : D), InsOK c.us js cs → un < c.us.length → szC c + 8 * nds x ≤ 999980 → (nl = true → us = []) →
 mkP litB un x (c, us) = some s' → NdR x ud → AF Tryz.prog 74 [.ptr 0 0, .d (.int .i64 un), .d ud] (MK sel c (uzD nl us) js bs cs) (MkQ sel s' bs)
set_option maxHeartbeats 1000000 in
theorem f106_ok (args : List Nd) (hk : ∀ y ∈ args, PartM y) (hn : args.length ≤ 10000) (sel : ByteArray) (c : CM) (us : List Us) (nl : Bool) (js : List Nat) (bs : List Bx) (cs : List (Option Vec)) (un : Nat) (s' : MS) (x : Nd) (xd : D) (t : ByteArray) (anl : Bool) (az : Nat) (ads : List D)
  (hI : InsOK c.us js cs) (hu : un < c.us.length) (hz : szC c + 8 * ndL args ≤ 999970) (hnl : nl = true → us = []) (hm : mkL litB un args (c, us) = some s') (hx : NdR x xd) (h3 : anl = true → args = []) (h4 : anl = false → az = 6) (h5 : NdRL args ads) :
  AF Tryz.prog 106 [.ptr 0 0, .d (.int .i64 un), .d xd, .d (.str t), .d (.sl anl az ads)] (MK sel c (uzD nl us) js bs cs) (MkQ sel (sendC un (supS x) t args.length s'.1, s'.2) bs) := by
 obtain ⟨nl1_x, z1_x, nl2_x, z2_x, ds_x, hv_x, ha_x, hb_x, hc_x, hd_x, he_x⟩ := hx.shape
 subst hv_x
 have hdl := h5.length
 refine AF.go Tryz.func106 [] fun tb TB Q hQ => ?_
 simp [TB, hdl]
 refine ATT.loopG 60 rfl (fun ((i, c1, us1, nl1, js1, cs1) : Nat × CM × List Us × Bool × List Nat × List (Option Vec)) => args.length - i) (fun ((i, c1, us1, nl1, js1, cs1) : Nat × CM × List Us × Bool × List Nat × List (Option Vec)) => i ≤ args.length ∧ mkL litB un (args.drop i) (c1, us1) = some s' ∧ szC c1 + 8 * ndL (args.drop i) ≤ 999970 ∧ InsOK c1.us js1 cs1 ∧ un < c1.us.length ∧ (nl1 = true → us1 = [])) (fun ((i, c1, us1, nl1, js1, cs1) : Nat × CM × List Us × Bool × List Nat × List (Option Vec)) => [(0, .ptr 0 0), (1, .d (.int .i64 un)), (3, .d (.str t)), (4, .d (.sl anl az ads)), (7, .ptr (bs.length + 1) 0), (13, .d (.sl anl az ads)), (14, .d (.int .i64 args.length)), (15, .d (.int .i64 i))]) (fun ((i, c1, us1, nl1, js1, cs1) : Nat × CM × List Us × Bool × List Nat × List (Option Vec)) => MB sel c1.us.length c1.lits.length c1.names.length c1.sels.length (uzD nl1 us1) :: (bs ++ [.cells [.d (.int .i64 x.k), .d (.str x.t), .d (.int .i64 x.a), .d (.int .i64 x.n), .d (.sl nl1_x z1_x (x.names.map .str)), .d (.sl nl2_x z2_x ds_x)] 75])) (fun ((i, c1, us1, nl1, js1, cs1) : Nat × CM × List Us × Bool × List Nat × List (Option Vec)) => UV c1.us.isEmpty (List.zipWith uv c1.us js1) :: NS c1.lits :: NS c1.names :: NS c1.sels :: cs1) ((0, c, us, nl, js, cs)) (by (try dsimp only); exact ⟨Nat.zero_le _, hm, hz, hI, hu, hnl⟩) (by simp <;> omega) (by simp) (by simp) ?_
 intro ⟨i, c1, us1, nl1, js1, cs1⟩ u w hI ih
 try simp only at hI ih
 obtain ⟨k1, k2, k3, k4, k5, k6⟩ := hI
 by_cases hi : i < args.length
 ·have hnl2 : anl = false := by cases anl with | false => rfl | true => (have := h3 rfl; rw [this] at hi; simp at hi)
  subst hnl2
  have := h4 rfl
  subst this
  obtain ⟨y, hy⟩ : ∃ y, args[i]? = some y := ⟨_, List.getElem?_eq_getElem hi⟩
  obtain ⟨d, hd, hyd⟩ := h5.at hy
  have hdE : ∀ h, ads[i]'h = d := fun h => by rw [List.getElem?_eq_getElem h] at hd; simpa using hd
  have hi' : (i : Int) < args.length := by omega
  have hII : inI ((i : Int) + 1) = true := inI_of (by omega) (by omega)
  rw [nd_drop hy] at k2 k3
  simp only [mkL] at k2
  simp only [ndL] at k3
  cases hp : mkP litB un y (c1, us1) with
  | none => rw [hp] at k2; simp at k2
  | some s2 =>
   rw [hp] at k2
   have hgr := mkP_gr hp
   have hcall := hk y (List.mem_of_getElem? hy) sel c1 us1 nl1 js1
   have hyd' := hyd
   obtain ⟨nl1_d, z1_d, nl2_d, z2_d, ds_d, hv_d, ha_d, hb_d, hc_d, hd_d, he_d⟩ := hyd.shape
   have hw_d := hv_d
   subst hw_d
   simp [TB, hdl, hi, hi', hdE]
   refine ATT.callT Tryz.func106 60 (hcall _ (cs1 ++ w) un s2 _ (k4.more w) k5 (by omega) k6 hp hyd') ?_ ?_ ?_ fun out hC hE => ?_
   iterate 3 · simp
   obtain ⟨nl', ⟨e1, js', b', cs', e2, hI'⟩, hn'⟩ := hE
   subst e1 e2
   simp [TB, hII]
   refine ih (i + 1, s2.1, s2.2, nl', js', cs') (by first | ((try dsimp only); omega) | (simp [hdl, hi, hi', hd, hdE, hII] <;> omega)) (by (try dsimp only); exact ⟨hi, k2, by have := hgr.2; simp only at this; omega, hI', Nat.lt_of_lt_of_le k5 hgr.1, hn'⟩) _ _ _ (by simp <;> omega) (by simp <;> omega) (by simp <;> omega)
 ·have hi' : ¬ (i : Int) < args.length := by omega
  rw [List.drop_eq_nil_of_le (by omega)] at k2
  simp only [mkL, Option.some.injEq] at k2
  subst k2
  by_cases x5 : x.k = 5
  ·by_cases xt : x.t = ⟨#[115, 117, 112, 101, 114]⟩
   ·have e : supS x = true := by unfold supS superT; rw [decide_eq_true x5, decide_eq_true xt]; rfl
    simp only [e, sendC, if_true] at hQ
    simp [TB, hi', eq_true x5, eq_true xt]
    refine ATT.callT Tryz.func106 60 (f102_sels sel c1.us.length c1.lits.length c1.names.length _ c1.sels (by unfold szC at k3; omega) t _ _ _ _ (cs1 ++ w)) ?_ ?_ ?_ fun out hC hE => ?_
    iterate 3 · simp
    obtain ⟨b2, c2, e1, e2⟩ := hE
    subst e1 e2
    simp [hdl]
    refine ATT.callT Tryz.func106 60 (add_ok sel { c1 with sels := (onceS c1.sels t).1 } (uzD nl1 us1) js1 _ (cs1 ++ (w ++ c2)) (k4.more (w ++ c2)) un k5 (by have := once_len c1.sels t; unfold szC at k3 ⊢; simp only; omega) 9 (onceS c1.sels t).2 args.length) ?_ ?_ ?_ fun out hC hE => ?_
    iterate 3 · simp
    obtain ⟨e1, js', b', cs', e2, hI'⟩ := hE
    subst e1 e2
    simp
    refine ATT.fin02 hQ Tryz.func106 ?_
    exact ⟨by simp, nl1, ⟨rfl, js', _, cs', rfl, hI'⟩, k6⟩
   ·have e : supS x = false := by unfold supS superT; rw [decide_eq_false xt]; simp
    simp only [e, sendC, Bool.false_eq_true, if_false] at hQ
    simp [TB, hi', eq_true x5, xt]
    refine ATT.callT Tryz.func106 60 (f102_sels sel c1.us.length c1.lits.length c1.names.length _ c1.sels (by unfold szC at k3; omega) t _ _ _ _ (cs1 ++ w)) ?_ ?_ ?_ fun out hC hE => ?_
    iterate 3 · simp
    obtain ⟨b2, c2, e1, e2⟩ := hE
    subst e1 e2
    simp [hdl]
    refine ATT.callT Tryz.func106 60 (add_ok sel { c1 with sels := (onceS c1.sels t).1 } (uzD nl1 us1) js1 _ (cs1 ++ (w ++ c2)) (k4.more (w ++ c2)) un k5 (by have := once_len c1.sels t; unfold szC at k3 ⊢; simp only; omega) 8 (onceS c1.sels t).2 args.length) ?_ ?_ ?_ fun out hC hE => ?_
    iterate 3 · simp
    obtain ⟨e1, js', b', cs', e2, hI'⟩ := hE
    subst e1 e2
    simp
    refine ATT.fin02 hQ Tryz.func106 ?_
    exact ⟨by simp, nl1, ⟨rfl, js', _, cs', rfl, hI'⟩, k6⟩
  ·have e : supS x = false := by unfold supS; rw [decide_eq_false x5]; rfl
   simp only [e, sendC, Bool.false_eq_true, if_false] at hQ
   simp [TB, hi', x5]
   refine ATT.callT Tryz.func106 60 (f102_sels sel c1.us.length c1.lits.length c1.names.length _ c1.sels (by unfold szC at k3; omega) t _ _ _ _ (cs1 ++ w)) ?_ ?_ ?_ fun out hC hE => ?_
   iterate 3 · simp
   obtain ⟨b2, c2, e1, e2⟩ := hE
   subst e1 e2
   simp [hdl]
   refine ATT.callT Tryz.func106 60 (add_ok sel { c1 with sels := (onceS c1.sels t).1 } (uzD nl1 us1) js1 _ (cs1 ++ (w ++ c2)) (k4.more (w ++ c2)) un k5 (by have := once_len c1.sels t; unfold szC at k3 ⊢; simp only; omega) 8 (onceS c1.sels t).2 args.length) ?_ ?_ ?_ fun out hC hE => ?_
   iterate 3 · simp
   obtain ⟨e1, js', b', cs', e2, hI'⟩ := hE
   subst e1 e2
   simp
   refine ATT.fin02 hQ Tryz.func106 ?_
   exact ⟨by simp, nl1, ⟨rfl, js', _, cs', rfl, hI'⟩, k6⟩
end Go.SL
namespace Go.SL
open Go.Proofs
set_option maxRecDepth 10000
theorem mkS_cons {lt : Nd → ByteArray} (un i : Nat) (y : Nd) (r : List Nd) (s : MS) : mkS lt un i (y :: r) s =
  if y.k = 11 then (mkH lt un y.kids (if i = 0 then s.1 else addS un (12, 0, 0) s.1, s.2)).map fun s => ((addS un (14, 0, 0) s.1, s.2), true)
  else (mkP lt un y (if i = 0 then s.1 else addS un (12, 0, 0) s.1, s.2)).bind fun s => mkS lt un (i + 1) r s := by
 cases y; rfl
theorem fine_ret {y : Nd} (h : Fine y) (k : y.k = 11) : ∃ z, y.kids = [z] := by
 cases y with
 | mk k t a n names kids =>
  simp only [Nd.k] at k
  simp only [Fine] at h
  have := h.2.2.1 (.inl k)
  match kids, this with
  | [z], _ => exact ⟨z, rfl⟩
def UnitM (x : Nd) : Prop := ∀ (sel : ByteArray) (c : CM) (us : List Us) (nl : Bool) (js : List Nat) (bs : List Bx) (cs : List (Option Vec)) (s : MS × Bool) (ud : D), InsOK c.us js cs → szC c + 8 * nds x ≤ 999982 → (nl = true → us = []) →
 mkS litB c.us.length 0 x.kids (newU x.n x.names.length c, us) = some s → NdR x ud → AF Tryz.prog 48 [.ptr 0 0, .d ud] (MK sel c (uzD nl us) js bs cs) (MkQ sel (doneU c.us.length (decide (x.k = 12) && !decide (x.t = ⟨#[]⟩)) x.kids.length s, s.1.2) bs)
theorem newU_ok {c : CM} {js : List Nat} {cs : List (Option Vec)} (h : InsOK c.us js cs) (a n : Nat) : InsOK (newU a n c).us (js ++ [0]) cs := by
 obtain ⟨h1, h2, h3⟩ := h
 have key : ∀ (v : Nat) (y : CU), (newU a n c).us[v]? = some y → y.ins ≠ [] → c.us[v]? = some y ∧ v < c.us.length := fun v y e hy => by
  simp only [newU] at e
  rcases Nat.lt_or_ge v c.us.length with hv | hv
  ·rw [List.getElem?_append_left hv] at e; exact ⟨e, hv⟩
  ·rw [List.getElem?_append_right hv] at e
   cases hq : v - c.us.length with
   | zero => rw [hq] at e; simp at e; subst e; simp at hy
   | succ q => rw [hq] at e; simp at e
 have kj : ∀ (v j : Nat), v < c.us.length → (js ++ [0])[v]? = some j → js[v]? = some j := fun v j hv e => by rw [List.getElem?_append_left (by omega)] at e; exact e
 refine ⟨by simp [newU, h1], fun v y j e1 e2 e3 => ?_, fun v w y z j e1 e2 e3 e4 e5 e6 => ?_⟩
 ·obtain ⟨q1, q2⟩ := key v y e1 e3
  exact h2 v y j q1 (kj v j q2 e2) e3
 ·obtain ⟨q1, q2⟩ := key v y e1 e5
  obtain ⟨p1, p2⟩ := key w z e2 e6
  exact h3 v w y z j q1 p1 (kj v j q2 e3) (kj w j p2 e4) e5 e6
theorem newU_row {c : CM} {js : List Nat} (h : js.length = c.us.length) (a n : Nat) : List.zipWith uv c.us js ++ [.d (.agg [.int .i64 a, .int .i64 n, .sl true 0 []])] = List.zipWith uv (newU a n c).us (js ++ [0]) := by
 simp only [newU]
 rw [List.zipWith_append h.symm]
 rfl
set_option maxHeartbeats 1000000 in
theorem f48_ok {Q0 : ByteArray → Nat → Prop} (x : Nd) (hg : Good Q0 x) (hf : Fine x) (hk : ∀ y, SizeOf.sizeOf y < SizeOf.sizeOf x → Good Q0 y → Fine y → PartM y) : UnitM x := by
 intro sel c us nl js bs cs s ud hI hz hnl hm hud
 obtain ⟨nl1, z1, nl2, z2, ds, e, h1, h2, h3, h4, h5⟩ := hud.shape
 subst e
 have ho := hg.one
 have hl2 : x.kids.length ≤ 10000 := ho.2.1
 have hdl := h5.length
 have hn := Nd.count x
 have hmul : (c.us.length + 1) * 40 ≤ 140737488355328 := by unfold szC at hz; omega
 have hrow := newU_row hI.1 x.n x.names.length
 have hmin : min c.us.length js.length = c.us.length := by have := hI.1; omega
 refine AF.go Tryz.func48 [(2, [oD 18 [(12, [0, 1, 2, 3, 4, 5]), (13, [0])]])] fun tb TB Q hQ => ?_
 simp [TB, hdl, hmul, hmin]
 rw [hrow]
 have g1 : (newU x.n x.names.length c).us.isEmpty = false := by simp [newU]
 have g2 : (newU x.n x.names.length c).us.length = c.us.length + 1 := by simp [newU]
 have g3 : (newU x.n x.names.length c).lits = c.lits := rfl
 have g4 : (newU x.n x.names.length c).names = c.names := rfl
 have g5 : (newU x.n x.names.length c).sels = c.sels := rfl
 have hgz := (newU_gr x.n x.names.length c).2
 refine ATT.loopG 60 rfl (fun ((i, c1, us1, nq, js1, cs1) : Nat × CM × List Us × Bool × List Nat × List (Option Vec)) => x.kids.length - i) (fun ((i, c1, us1, nq, js1, cs1) : Nat × CM × List Us × Bool × List Nat × List (Option Vec)) => i ≤ x.kids.length ∧ mkS litB c.us.length i (x.kids.drop i) (c1, us1) = some s ∧ szC c1 + 8 * ndL (x.kids.drop i) ≤ 999975 ∧ InsOK c1.us js1 cs1 ∧ c.us.length < c1.us.length ∧ (nq = true → us1 = [])) (fun ((i, c1, us1, nq, js1, cs1) : Nat × CM × List Us × Bool × List Nat × List (Option Vec)) => [(0, .ptr 0 0), (3, .ptr (bs.length + 1) 0), (4, .d (.int .i64 c.us.length)), (32, .d (.sl nl2 z2 ds)), (33, .d (.int .i64 x.kids.length)), (34, .d (.int .i64 i))]) (fun ((i, c1, us1, nq, js1, cs1) : Nat × CM × List Us × Bool × List Nat × List (Option Vec)) => MB sel c1.us.length c1.lits.length c1.names.length c1.sels.length (uzD nq us1) :: (bs ++ [.cells [.d (.int .i64 x.k), .d (.str x.t), .d (.int .i64 x.a), .d (.int .i64 x.n), .d (.sl nl1 z1 (x.names.map .str)), .d (.sl nl2 z2 ds)] 75])) (fun ((i, c1, us1, nq, js1, cs1) : Nat × CM × List Us × Bool × List Nat × List (Option Vec)) => UV c1.us.isEmpty (List.zipWith uv c1.us js1) :: NS c1.lits :: NS c1.names :: NS c1.sels :: cs1) ((0, newU x.n x.names.length c, us, nl, js ++ [0], cs)) (by (try dsimp only); exact ⟨Nat.zero_le _, hm, by simp; omega, newU_ok hI _ _, by simp [newU], hnl⟩) (by simp <;> omega) (by simp) (by simp [g1, g2, g3, g4, g5]) ?_
 intro ⟨i, c1, us1, nq, js1, cs1⟩ u w hI ih
 try simp only at hI ih
 obtain ⟨k1, k2, k3, k4, k5, k6⟩ := hI
 by_cases hi : i < x.kids.length
 ·have hnl2 : nl2 = false := by cases nl2 with | false => rfl | true => (have := h3 rfl; rw [this] at hi; simp at hi)
  subst hnl2
  have := h4 rfl
  subst this
  obtain ⟨y, hy⟩ : ∃ y, x.kids[i]? = some y := ⟨_, List.getElem?_eq_getElem hi⟩
  obtain ⟨d, hd, hyd⟩ := h5.at hy
  have hdE : ∀ h, ds[i]'h = d := fun h => by rw [List.getElem?_eq_getElem h] at hd; simpa using hd
  have hi' : (i : Int) < x.kids.length := by omega
  have hII : inI ((i : Int) + 1) = true := inI_of (by omega) (by omega)
  have hgy := GoodL.iff.1 hg.all y (List.mem_of_getElem? hy)
  have hfy := FineL.iff.1 (Nd.fine hf) y (List.mem_of_getElem? hy)
  rw [nd_drop hy] at k2 k3
  simp only [ndL] at k3
  have hny1 := Nd.count y
  have hyd' := hyd
  obtain ⟨nl1_d, z1_d, nl2_d, z2_d, ds_d, hv_d, ha_d, hb_d, hc_d, hd_d, he_d⟩ := hyd.shape
  have hw_d := hv_d
  subst hw_d
  by_cases hi0 : i = 0
  ·have hi0' : ¬ 0 < i := by omega
   by_cases y11 : y.k = 11
   ·obtain ⟨z, hz1⟩ := fine_ret hfy y11
    rw [mkS_cons, if_pos y11, hz1, if_pos hi0] at k2
    simp only [mkH] at k2
    cases hp : mkP litB c.us.length z (c1, us1) with
    | none => rw [hp] at k2; simp at k2
    | some s2 =>
     rw [hp] at k2
     simp only [Option.map_some, Option.some.injEq] at k2
     subst k2
     simp only [doneU, if_true] at hQ
     have hgr := mkP_gr hp
     have hny : nds y = 1 + nds z := by rw [Nd.count, hz1]; simp [ndL]
     have hzs : SizeOf.sizeOf z < SizeOf.sizeOf x := by have h1 := kid_lt hy; have h2 : SizeOf.sizeOf z < SizeOf.sizeOf y := kid_lt (i := 0) (by rw [hz1]; rfl); omega
     have hcz := hk z hzs (GoodL.iff.1 hgy.all z (by rw [hz1]; simp)) (FineL.iff.1 (Nd.fine hfy) z (by rw [hz1]; simp)) sel (c1) us1 nq js1
     obtain ⟨dz, hdz, hzd⟩ := he_d.at (i := 0) (y := z) (by rw [hz1]; rfl)
     have hnd : nl2_d = false := by cases nl2_d with | false => rfl | true => (have := hc_d rfl; rw [hz1] at this; simp at this)
     subst hnd
     have hz6 := hd_d rfl
     subst hz6
     have hdzE : ∀ h, ds_d[0]'h = dz := fun h => by rw [List.getElem?_eq_getElem h] at hdz; simpa using hdz
     have hzd' := hzd
     obtain ⟨nl1_dz, z1_dz, nl2_dz, z2_dz, ds_dz, hv_dz, ha_dz, hb_dz, hc_dz, hd_dz, he_dz⟩ := hzd.shape
     have hw_dz := hv_dz
     subst hw_dz
     simp [TB, hdl, hi, hi', hdE, hi0', eq_true y11, hdz]
     refine ATT.callT Tryz.func48 60 (hcz _ (cs1 ++ w) c.us.length s2 _ (k4.more w) k5 (by omega) k6 hp hzd') ?_ ?_ ?_ fun out hC hE => ?_
     iterate 3 · simp
     obtain ⟨nl', ⟨e1, js3, b3, cs3, e2, hI3⟩, hn3⟩ := hE
     subst e1 e2
     simp [TB]
     refine ATT.callT Tryz.func48 60 (add_ok sel s2.1 (uzD nl' s2.2) js3 _ cs3 hI3 c.us.length (Nat.lt_of_lt_of_le k5 hgr.1) (by have h9 := hgr.2; simp only at h9; omega) 14 0 0) ?_ ?_ ?_ fun out hC hE => ?_
     iterate 3 · simp
     obtain ⟨e1, js4, b4, cs4, e2, hI4⟩ := hE
     subst e1 e2
     simp
     refine ATT.fin2 hQ Tryz.func48 ?_
     exact ⟨by simp, nl', ⟨rfl, js4, _, cs4, rfl, hI4⟩, hn3⟩
   ·rw [mkS_cons, if_neg y11, if_pos hi0] at k2
    cases hp : mkP litB c.us.length y (c1, us1) with
    | none => rw [hp] at k2; simp at k2
    | some s2 =>
     rw [hp] at k2
     simp only [Option.bind_some] at k2
     have hgr := mkP_gr hp
     have hcy := hk y (kid_lt hy) hgy hfy sel (c1) us1 nq js1
     simp [TB, hdl, hi, hi', hdE, hi0', y11]
     refine ATT.callT Tryz.func48 60 (hcy _ (cs1 ++ w) c.us.length s2 _ (k4.more w) k5 (by omega) k6 hp hyd') ?_ ?_ ?_ fun out hC hE => ?_
     iterate 3 · simp
     obtain ⟨nl', ⟨e1, js3, b3, cs3, e2, hI3⟩, hn3⟩ := hE
     subst e1 e2
     simp [TB, hII]
     refine ih (i + 1, s2.1, s2.2, nl', js3, cs3) (by first | ((try dsimp only); omega) | (simp [hdl, hi, hi', hd, hdE, hII, hi0', y11] <;> omega)) (by (try dsimp only); exact ⟨hi, k2, by have h9 := hgr.2; simp only at h9; omega, hI3, Nat.lt_of_lt_of_le k5 hgr.1, hn3⟩) _ _ _ (by simp <;> omega) (by simp <;> omega) (by simp <;> omega)
  ·have hi0' : 0 < i := by omega
   have hpz := (addS_gr c.us.length (12, 0, 0) c1).2
   have hpl := (addS_gr c.us.length (12, 0, 0) c1).1
   simp [TB, hdl, hi, hi', hdE, hi0']
   refine ATT.callT Tryz.func48 60 (add_ok sel c1 (uzD nq us1) js1 _ (cs1 ++ w) (k4.more w) c.us.length k5 (by omega) 12 0 0) ?_ ?_ ?_ fun out hC hE => ?_
   iterate 3 · simp
   obtain ⟨e1, jp, bp, cp, e2, hIp⟩ := hE
   subst e1 e2
   by_cases y11 : y.k = 11
   ·obtain ⟨z, hz1⟩ := fine_ret hfy y11
    rw [mkS_cons, if_pos y11, hz1, if_neg hi0] at k2
    simp only [mkH] at k2
    cases hp : mkP litB c.us.length z ((addS c.us.length (12, 0, 0) c1), us1) with
    | none => rw [hp] at k2; simp at k2
    | some s2 =>
     rw [hp] at k2
     simp only [Option.map_some, Option.some.injEq] at k2
     subst k2
     simp only [doneU, if_true] at hQ
     have hgr := mkP_gr hp
     have hny : nds y = 1 + nds z := by rw [Nd.count, hz1]; simp [ndL]
     have hzs : SizeOf.sizeOf z < SizeOf.sizeOf x := by have h1 := kid_lt hy; have h2 : SizeOf.sizeOf z < SizeOf.sizeOf y := kid_lt (i := 0) (by rw [hz1]; rfl); omega
     have hcz := hk z hzs (GoodL.iff.1 hgy.all z (by rw [hz1]; simp)) (FineL.iff.1 (Nd.fine hfy) z (by rw [hz1]; simp)) sel ((addS c.us.length (12, 0, 0) c1)) us1 nq jp
     obtain ⟨dz, hdz, hzd⟩ := he_d.at (i := 0) (y := z) (by rw [hz1]; rfl)
     have hnd : nl2_d = false := by cases nl2_d with | false => rfl | true => (have := hc_d rfl; rw [hz1] at this; simp at this)
     subst hnd
     have hz6 := hd_d rfl
     subst hz6
     have hdzE : ∀ h, ds_d[0]'h = dz := fun h => by rw [List.getElem?_eq_getElem h] at hdz; simpa using hdz
     have hzd' := hzd
     obtain ⟨nl1_dz, z1_dz, nl2_dz, z2_dz, ds_dz, hv_dz, ha_dz, hb_dz, hc_dz, hd_dz, he_dz⟩ := hzd.shape
     have hw_dz := hv_dz
     subst hw_dz
     simp [TB, eq_true y11, hdz]
     refine ATT.callT Tryz.func48 60 (hcz _ cp c.us.length s2 _ hIp (Nat.lt_of_lt_of_le k5 hpl) (by omega) k6 hp hzd') ?_ ?_ ?_ fun out hC hE => ?_
     iterate 3 · simp
     obtain ⟨nl', ⟨e1, js3, b3, cs3, e2, hI3⟩, hn3⟩ := hE
     subst e1 e2
     simp [TB]
     refine ATT.callT Tryz.func48 60 (add_ok sel s2.1 (uzD nl' s2.2) js3 _ cs3 hI3 c.us.length (Nat.lt_of_lt_of_le (Nat.lt_of_lt_of_le k5 hpl) hgr.1) (by have h9 := hgr.2; simp only at h9; omega) 14 0 0) ?_ ?_ ?_ fun out hC hE => ?_
     iterate 3 · simp
     obtain ⟨e1, js4, b4, cs4, e2, hI4⟩ := hE
     subst e1 e2
     simp
     refine ATT.fin2 hQ Tryz.func48 ?_
     exact ⟨by simp, nl', ⟨rfl, js4, _, cs4, rfl, hI4⟩, hn3⟩
   ·rw [mkS_cons, if_neg y11, if_neg hi0] at k2
    cases hp : mkP litB c.us.length y ((addS c.us.length (12, 0, 0) c1), us1) with
    | none => rw [hp] at k2; simp at k2
    | some s2 =>
     rw [hp] at k2
     simp only [Option.bind_some] at k2
     have hgr := mkP_gr hp
     have hcy := hk y (kid_lt hy) hgy hfy sel ((addS c.us.length (12, 0, 0) c1)) us1 nq jp
     simp [TB, y11]
     refine ATT.callT Tryz.func48 60 (hcy _ cp c.us.length s2 _ hIp (Nat.lt_of_lt_of_le k5 hpl) (by omega) k6 hp hyd') ?_ ?_ ?_ fun out hC hE => ?_
     iterate 3 · simp
     obtain ⟨nl', ⟨e1, js3, b3, cs3, e2, hI3⟩, hn3⟩ := hE
     subst e1 e2
     simp [TB, hII]
     refine ih (i + 1, s2.1, s2.2, nl', js3, cs3) (by first | ((try dsimp only); omega) | (simp [hdl, hi, hi', hd, hdE, hII, hi0', y11] <;> omega)) (by (try dsimp only); exact ⟨hi, k2, by have h9 := hgr.2; simp only at h9; omega, hI3, Nat.lt_of_lt_of_le (Nat.lt_of_lt_of_le k5 hpl) hgr.1, hn3⟩) _ _ _ (by simp <;> omega) (by simp <;> omega) (by simp <;> omega)
 ·have hi' : ¬ (i : Int) < x.kids.length := by omega
  rw [List.drop_eq_nil_of_le (by omega)] at k2
  simp only [mkS, Option.some.injEq] at k2
  subst k2
  simp only [doneU, Bool.false_eq_true, if_false] at hQ
  by_cases hM : (decide (x.k = 12) && !decide (x.t = ⟨#[]⟩)) = true
  ·have hM2 := hM
   simp only [Bool.and_eq_true, decide_eq_true_eq, Bool.not_eq_true', decide_eq_false_iff_not] at hM2
   obtain ⟨k12, xt⟩ := hM2
   rw [hM] at hQ
   by_cases h0 : x.kids.length = 0
   ·have h0' : ¬ 0 < x.kids.length := by omega
    simp only [endS, if_true, if_pos h0] at hQ
    simp [TB, hi', hdl, eq_true k12, xt, h0']
    refine ATT.callT Tryz.func48 60 (add_ok sel (c1) (uzD nq us1) js1 _ (cs1 ++ w) (k4.more w) c.us.length (k5) (by omega) 6 0 0) ?_ ?_ ?_ fun out hC hE => ?_
    iterate 3 · simp
    obtain ⟨e1, j0, b0, x0, e2, i0⟩ := hE
    subst e1 e2
    have z0 := (addS_gr c.us.length (6, 0, 0) (c1)).2
    have l0 := Nat.lt_of_lt_of_le (k5) (addS_gr c.us.length (6, 0, 0) (c1)).1
    simp [TB]
    refine ATT.callT Tryz.func48 60 (add_ok sel (addS c.us.length (6, 0, 0) (c1)) (uzD nq us1) j0 _ x0 i0 c.us.length (l0) (by omega) 14 0 0) ?_ ?_ ?_ fun out hC hE => ?_
    iterate 3 · simp
    obtain ⟨e1, j1, b1, x1, e2, i1⟩ := hE
    subst e1 e2
    have z1 := (addS_gr c.us.length (14, 0, 0) (addS c.us.length (6, 0, 0) (c1))).2
    have l1 := Nat.lt_of_lt_of_le (l0) (addS_gr c.us.length (14, 0, 0) (addS c.us.length (6, 0, 0) (c1))).1
    simp
    refine ATT.fin2 hQ Tryz.func48 ?_
    exact ⟨by simp, nq, ⟨rfl, j1, _, x1, rfl, i1⟩, k6⟩
   ·have h0' : 0 < x.kids.length := by omega
    simp only [endS, if_true, if_neg h0] at hQ
    simp [TB, hi', hdl, eq_true k12, xt, h0']
    refine ATT.callT Tryz.func48 60 (add_ok sel (c1) (uzD nq us1) js1 _ (cs1 ++ w) (k4.more w) c.us.length (k5) (by omega) 12 0 0) ?_ ?_ ?_ fun out hC hE => ?_
    iterate 3 · simp
    obtain ⟨e1, j0, b0, x0, e2, i0⟩ := hE
    subst e1 e2
    have z0 := (addS_gr c.us.length (12, 0, 0) (c1)).2
    have l0 := Nat.lt_of_lt_of_le (k5) (addS_gr c.us.length (12, 0, 0) (c1)).1
    simp [TB]
    refine ATT.callT Tryz.func48 60 (add_ok sel (addS c.us.length (12, 0, 0) (c1)) (uzD nq us1) j0 _ x0 i0 c.us.length (l0) (by omega) 6 0 0) ?_ ?_ ?_ fun out hC hE => ?_
    iterate 3 · simp
    obtain ⟨e1, j1, b1, x1, e2, i1⟩ := hE
    subst e1 e2
    have z1 := (addS_gr c.us.length (6, 0, 0) (addS c.us.length (12, 0, 0) (c1))).2
    have l1 := Nat.lt_of_lt_of_le (l0) (addS_gr c.us.length (6, 0, 0) (addS c.us.length (12, 0, 0) (c1))).1
    simp [TB]
    refine ATT.callT Tryz.func48 60 (add_ok sel (addS c.us.length (6, 0, 0) (addS c.us.length (12, 0, 0) (c1))) (uzD nq us1) j1 _ x1 i1 c.us.length (l1) (by omega) 14 0 0) ?_ ?_ ?_ fun out hC hE => ?_
    iterate 3 · simp
    obtain ⟨e1, j2, b2, x2, e2, i2⟩ := hE
    subst e1 e2
    have z2 := (addS_gr c.us.length (14, 0, 0) (addS c.us.length (6, 0, 0) (addS c.us.length (12, 0, 0) (c1)))).2
    have l2 := Nat.lt_of_lt_of_le (l1) (addS_gr c.us.length (14, 0, 0) (addS c.us.length (6, 0, 0) (addS c.us.length (12, 0, 0) (c1)))).1
    simp
    refine ATT.fin2 hQ Tryz.func48 ?_
    exact ⟨by simp, nq, ⟨rfl, j2, _, x2, rfl, i2⟩, k6⟩
  ·have hM1 : (decide (x.k = 12) && !decide (x.t = ⟨#[]⟩)) = false := by simpa using hM
   rw [hM1] at hQ
   have hM2 : x.k = 12 → x.t = ⟨#[]⟩ := fun k => by simpa [k] using hM1
   by_cases k12 : x.k = 12
   ·have xt := hM2 k12
    by_cases h0 : x.kids.length = 0
    ·simp only [endS, Bool.false_eq_true, if_false, if_pos h0] at hQ
     have hke := List.length_eq_zero_iff.1 h0
     simp [TB, hi', hdl, eq_true k12, eq_true xt, eq_true hke]
     refine ATT.callT Tryz.func48 60 (add_ok sel (c1) (uzD nq us1) js1 _ (cs1 ++ w) (k4.more w) c.us.length (k5) (by omega) 7 0 0) ?_ ?_ ?_ fun out hC hE => ?_
     iterate 3 · simp
     obtain ⟨e1, j0, b0, x0, e2, i0⟩ := hE
     subst e1 e2
     have z0 := (addS_gr c.us.length (7, 0, 0) (c1)).2
     have l0 := Nat.lt_of_lt_of_le (k5) (addS_gr c.us.length (7, 0, 0) (c1)).1
     simp [TB]
     refine ATT.callT Tryz.func48 60 (add_ok sel (addS c.us.length (7, 0, 0) (c1)) (uzD nq us1) j0 _ x0 i0 c.us.length (l0) (by omega) 13 0 0) ?_ ?_ ?_ fun out hC hE => ?_
     iterate 3 · simp
     obtain ⟨e1, j1, b1, x1, e2, i1⟩ := hE
     subst e1 e2
     have z1 := (addS_gr c.us.length (13, 0, 0) (addS c.us.length (7, 0, 0) (c1))).2
     have l1 := Nat.lt_of_lt_of_le (l0) (addS_gr c.us.length (13, 0, 0) (addS c.us.length (7, 0, 0) (c1))).1
     simp
     refine ATT.fin02 hQ Tryz.func48 ?_
     exact ⟨by simp, nq, ⟨rfl, j1, _, x1, rfl, i1⟩, k6⟩
    ·simp only [endS, Bool.false_eq_true, if_false, if_neg h0] at hQ
     have hke : ¬ x.kids = [] := fun e => h0 (by rw [e]; rfl)
     simp [TB, hi', hdl, eq_true k12, eq_true xt, hke]
     refine ATT.callT Tryz.func48 60 (add_ok sel (c1) (uzD nq us1) js1 _ (cs1 ++ w) (k4.more w) c.us.length (k5) (by omega) 13 0 0) ?_ ?_ ?_ fun out hC hE => ?_
     iterate 3 · simp
     obtain ⟨e1, j0, b0, x0, e2, i0⟩ := hE
     subst e1 e2
     have z0 := (addS_gr c.us.length (13, 0, 0) (c1)).2
     have l0 := Nat.lt_of_lt_of_le (k5) (addS_gr c.us.length (13, 0, 0) (c1)).1
     simp
     refine ATT.fin02 hQ Tryz.func48 ?_
     exact ⟨by simp, nq, ⟨rfl, j0, _, x0, rfl, i0⟩, k6⟩
   ·by_cases h0 : x.kids.length = 0
    ·simp only [endS, Bool.false_eq_true, if_false, if_pos h0] at hQ
     have hke := List.length_eq_zero_iff.1 h0
     simp [TB, hi', hdl, k12, eq_true hke]
     refine ATT.callT Tryz.func48 60 (add_ok sel (c1) (uzD nq us1) js1 _ (cs1 ++ w) (k4.more w) c.us.length (k5) (by omega) 7 0 0) ?_ ?_ ?_ fun out hC hE => ?_
     iterate 3 · simp
     obtain ⟨e1, j0, b0, x0, e2, i0⟩ := hE
     subst e1 e2
     have z0 := (addS_gr c.us.length (7, 0, 0) (c1)).2
     have l0 := Nat.lt_of_lt_of_le (k5) (addS_gr c.us.length (7, 0, 0) (c1)).1
     simp [TB]
     refine ATT.callT Tryz.func48 60 (add_ok sel (addS c.us.length (7, 0, 0) (c1)) (uzD nq us1) j0 _ x0 i0 c.us.length (l0) (by omega) 13 0 0) ?_ ?_ ?_ fun out hC hE => ?_
     iterate 3 · simp
     obtain ⟨e1, j1, b1, x1, e2, i1⟩ := hE
     subst e1 e2
     have z1 := (addS_gr c.us.length (13, 0, 0) (addS c.us.length (7, 0, 0) (c1))).2
     have l1 := Nat.lt_of_lt_of_le (l0) (addS_gr c.us.length (13, 0, 0) (addS c.us.length (7, 0, 0) (c1))).1
     simp
     refine ATT.fin02 hQ Tryz.func48 ?_
     exact ⟨by simp, nq, ⟨rfl, j1, _, x1, rfl, i1⟩, k6⟩
    ·simp only [endS, Bool.false_eq_true, if_false, if_neg h0] at hQ
     have hke : ¬ x.kids = [] := fun e => h0 (by rw [e]; rfl)
     simp [TB, hi', hdl, k12, hke]
     refine ATT.callT Tryz.func48 60 (add_ok sel (c1) (uzD nq us1) js1 _ (cs1 ++ w) (k4.more w) c.us.length (k5) (by omega) 13 0 0) ?_ ?_ ?_ fun out hC hE => ?_
     iterate 3 · simp
     obtain ⟨e1, j0, b0, x0, e2, i0⟩ := hE
     subst e1 e2
     have z0 := (addS_gr c.us.length (13, 0, 0) (c1)).2
     have l0 := Nat.lt_of_lt_of_le (k5) (addS_gr c.us.length (13, 0, 0) (c1)).1
     simp
     refine ATT.fin02 hQ Tryz.func48 ?_
     exact ⟨by simp, nq, ⟨rfl, j0, _, x0, rfl, i0⟩, k6⟩
end Go.SL
