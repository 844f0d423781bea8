/- TreeParses and TreeMethods: any source to be run, and any source of a method, is the tree, or is none at the place, that the document says, for every source of bulk at most 1048576. Part 5. -/
import Derived.Test.YtgggkjbdlddbkaaGreatDoorParses3
namespace Go.SL
open Go.Proofs
set_option maxRecDepth 10000
theorem NdRL.inv {y : Nd} {ys : List Nd} {ds : List D} (h : NdRL (y :: ys) ds) : ∃ w ws, ds = w :: ws ∧ NdR y w ∧ NdRL ys ws := by
 simp only [NdRL] at h
 obtain ⟨d, l, e, h3, h4⟩ := h
 exact ⟨d, l, e, h3, h4⟩
theorem NdRL.cons {y : Nd} {ys : List Nd} {d : D} {ds : List D} (h : NdR y d) (h2 : NdRL ys ds) : NdRL (y :: ys) (d :: ds) := by
 simp only [NdRL]
 exact ⟨d, ds, rfl, h, h2⟩
def KO (x : Nd × Bool) : Prop := x.1.k = 7 → x.2 = true → ∃ y ys, x.1.kids = y :: ys ∧ ys.length ≤ 5000
theorem KO.sent {n d : Nat} {l r : List Tk} {m : Nd} (hl : WF l) (h : msgS n d l = .ok m r) (x : Nd) (b : Bool) : KO (sentS x m, b) := fun _ _ => ⟨_, _, rfl, msg_len hl h⟩
theorem listS_k {n d : Nat} {l r : List Tk} {x : Nd} (h : listS n d l = .ok x r) : x.k = 4 := by
 cases n with
 | zero => simp [listS] at h
 | succ n =>
  simp only [listS] at h
  split at h
  ·simp at h
  ·obtain ⟨y, r', _, e2⟩ := andThen_ok h
   simp only [Res.ok.injEq] at e2
   rw [← e2.1]; rfl
theorem blockS_k {n d : Nat} {l r : List Tk} {x : Nd} (h : blockS n d l = .ok x r) : x.k = 10 := by
 cases n with
 | zero => simp [blockS] at h
 | succ n =>
  simp only [blockS] at h
  split at h
  ·simp at h
  ·obtain ⟨y, r', _, e2⟩ := andThen_ok h
   split at e2
   ·split at e2
    ·obtain ⟨z, r2, _, e3⟩ := andThen_ok e2
     simp only [Res.ok.injEq] at e3
     rw [← e3.1]; rfl
    ·simp at e2
   ·obtain ⟨z, r2, _, e3⟩ := andThen_ok e2
    simp only [Res.ok.injEq] at e3
    rw [← e3.1]; rfl
theorem primS_KO {n d : Nat} {l r : List Tk} {x : Nd × Bool} (h : primS n d l = .ok x r) : KO x := by
 cases n with
 | zero => simp [primS] at h
 | succ n =>
  simp only [primS] at h
  intro h7 hb
  split at h
  ·simp only [Res.ok.injEq] at h; rw [← h.1] at h7; exact absurd h7 (by simp [Nd.k])
  split at h
  ·simp only [Res.ok.injEq] at h; rw [← h.1] at h7; exact absurd h7 (by simp [Nd.k])
  split at h
  ·simp only [Res.ok.injEq] at h; rw [← h.1] at h7; exact absurd h7 (by simp [Nd.k])
  split at h
  ·simp only [Res.ok.injEq] at h; rw [← h.1] at h7; exact absurd h7 (by simp [Nd.k])
  split at h
  ·obtain ⟨y, r', e1, e2⟩ := andThen_ok h
   simp only [Res.ok.injEq] at e2; rw [← e2.1] at h7; rw [listS_k e1] at h7; exact absurd h7 (by decide)
  split at h
  ·obtain ⟨y, r', e1, e2⟩ := andThen_ok h
   simp only [Res.ok.injEq] at e2; rw [← e2.1] at h7; rw [blockS_k e1] at h7; exact absurd h7 (by decide)
  split at h
  ·split at h
   ·simp at h
   ·obtain ⟨y, r', e1, e2⟩ := andThen_ok h
    split at e2
    ·simp only [Res.ok.injEq] at e2; rw [← e2.1] at hb; simp at hb
    ·simp at e2
  ·simp at h
theorem chainS_KO : ∀ (n d : Nat) (c : Int) (x : Nd × Bool) (l : List Tk) (y : Nd × Bool) (r : List Tk), WF l → KO x → chainS n d c x l = .ok y r → KO y
 | 0, _, _, _, _, _, _, _, _, h => by simp [chainS] at h
 | n + 1, d, c, x, l, y, r, hl, hx, h => by
  simp only [chainS] at h
  split at h
  ·obtain ⟨m, r', e1, e2⟩ := andThen_ok h
   exact chainS_KO n d c _ _ _ _ ((pres n).msg hl e1).1 (KO.sent hl e1 _ _) e2
  ·simp only [Res.ok.injEq] at h; rw [← h.1]; exact hx
theorem unaryS_KO {n d : Nat} {l r : List Tk} {x : Nd × Bool} (hl : WF l) (h : unaryS n d l = .ok x r) : KO x := by
 cases n with
 | zero => simp [unaryS] at h
 | succ n =>
  simp only [unaryS] at h
  obtain ⟨m, r', e1, e2⟩ := andThen_ok h
  exact chainS_KO _ _ _ _ _ _ _ ((pres n).prim hl e1).1 (primS_KO e1) e2
theorem binaryS_KO {n d : Nat} {l r : List Tk} {x : Nd × Bool} (hl : WF l) (h : binaryS n d l = .ok x r) : KO x := by
 cases n with
 | zero => simp [binaryS] at h
 | succ n =>
  simp only [binaryS] at h
  obtain ⟨m, r', e1, e2⟩ := andThen_ok h
  exact chainS_KO _ _ _ _ _ _ _ ((pres n).unary hl e1).1 (unaryS_KO hl e1) e2
theorem keyedS_KO {n d : Nat} {l r : List Tk} {x : Nd × Bool} (hl : WF l) (h : keyedS n d l = .ok x r) : KO x := by
 cases n with
 | zero => simp [keyedS] at h
 | succ n =>
  simp only [keyedS] at h
  obtain ⟨m, r', e1, e2⟩ := andThen_ok h
  split at e2
  ·obtain ⟨m, r', e3, e4⟩ := andThen_ok e2
   simp only [Res.ok.injEq] at e4; rw [← e4.1]; exact KO.sent ((pres n).binary hl e1).1 e3 _ _
  ·simp only [Res.ok.injEq] at e2; rw [← e2.1]; exact binaryS_KO hl e1
theorem f106_ok (n : Nat) (ihK : KeyedC n) (ihM : ∀ m, m ≤ n → MsgC m) : CascC (n + 1) := by
 intro d l hd hl hin
 simp only [cascS] at hin ⊢
 have hin0 : keyedS n d l ≠ .out := fun e => hin (by rw [e]; rfl)
 refine AF.start' 60 Tryz.func106 rfl rfl c106call c106ok fun Q hQ => ?_
 simp [c106c, c106t]
 refine ATT.callP Tryz.func106 60 0 (ihK d l hd hl hin0) (hin0) (by simp) (by simp) rfl (by simp) (fun a w e h1 hh => hQ _ _ (by rw [e]; exact ⟨rfl, by rw [hh]; simp⟩)) fun x l' v hx hφ => ?_
 rw [hx] at hQ hin
 try simp only [Res.andThen] at hQ hin
 have hwf := ((pres n).keyed hl hx).1
 have hko := keyedS_KO hl hx
 obtain ⟨u, e, hu⟩ := hφ
 subst e
 obtain ⟨nl1_u, z1_u, nl2_u, z2_u, ds_u, hv_u, ha_u, hb_u, hc_u, hd_u, he_u⟩ := hu.shape
 have hw_u := hv_u
 subst hw_u
 obtain ⟨t1, l1, e⟩ := hwf.cons
 subst e
 simp only [kd_cons, pl_cons] at hin hQ
 simp [c106t]
 refine ATT.callM Tryz.func106 60 [0] (f40_ok t1 l1 d) rfl (by simp) (by simp) (by simp) (by simp) (by simp) ?_
 simp
 by_cases h1 : t1.k = 15
 ·simp only [eq_true h1, if_true] at hQ hin
  by_cases h7 : x.1.k = 7
  ·cases hb : x.2 with
   | true =>
    obtain ⟨y, ys, hys, _⟩ := hko h7 hb
    simp only [eq_true h7, hb, and_self, if_true] at hQ hin
    have hnl : nl2_u = false := by
     cases nl2_u with
     | false => rfl
     | true => have := hc_u rfl; rw [hys] at this; simp at this
    subst hnl
    have hz := hd_u rfl
    subst hz
    rw [hys] at he_u
    obtain ⟨w, ws, e, hw, hws⟩ := he_u.inv
    subst e
    obtain ⟨nl1_w, z1_w, nl2_w, z2_w, ds_w, hv_w, ha_w, hb_w, hc_w, hd_w, he_w⟩ := hw.shape
    have hw_w := hv_w
    subst hw_w
    have hin' : semisS n d [] (t1 :: l1) ≠ .out := fun e => hin (by simp [e])
    generalize hR : semisS n d [] (t1 :: l1) = R at hQ hin hin'
    simp [c106t, eq_true h1, eq_true h7]
    refine ATT.ords 60 (by simp <;> omega) fun o ho => ?_
    simp only [List.mem_cons, List.mem_nil_iff, or_false] at ho
    rcases ho with ho | ho <;> subst ho
    simp
    all_goals try simp
    ·refine ATT.loopG 60 c106l12.eq_1 (fun ((m, ms, dm, l) : Nat × List Nd × List D × List Tk) => m) (fun ((m, ms, dm, l) : Nat × List Nd × List D × List Tk) => semisS m d ms l = R ∧ NdRL ms dm ∧ WF l ∧ dm.length + l.length ≤ 5000 ∧ m ≤ n) (fun ((m, ms, dm, l) : Nat × List Nd × List D × List Tk) => [(0, .ptr 0 0), (2, .ptr 1 0), (6, .ptr 4 0)]) (fun ((m, ms, dm, l) : Nat × List Nd × List D × List Tk) => [PB l d, .cells [.d (.int .i64 0), .d (.str ⟨#[]⟩), .d (.int .i64 0), .d (.int .i64 0), .d (.sl true 0 []), .d (.sl true 0 [])] 25, .cells [.d (.int .i64 x.1.k), .d (.str x.1.t), .d (.int .i64 x.1.a), .d (.int .i64 x.1.n), .d (.sl nl1_u z1_u (x.1.names.map .str)), .d (.sl false 6 (.agg [.int .i64 y.k, .str y.t, .int .i64 y.a, .int .i64 y.n, .sl nl1_w z1_w (y.names.map .str), .sl nl2_w z2_w ds_w] :: ws))] 25, .cells [.d (.int .i64 9), .d (.str x.1.t), .d (.int .i64 x.1.a), .d (.int .i64 0), .d (.sl true 0 []), .d (.sl false 6 ws)] 25, .cells [.d (.int .i64 8), .d (.str ⟨#[]⟩), .d (.int .i64 x.1.a), .d (.int .i64 0), .d (.sl true 0 []), .vs 0 (dm.length + 2) 0 (dm.length + 2)] 25]) (fun ((m, ms, dm, l) : Nat × List Nd × List D × List Tk) => [some ⟨false, 6, 0, .d (.agg [.int .i64 y.k, .str y.t, .int .i64 y.a, .int .i64 y.n, .sl nl1_w z1_w (y.names.map .str), .sl nl2_w z2_w ds_w]) :: .d (.agg [.int .i64 9, .str x.1.t, .int .i64 x.1.a, .int .i64 0, .sl true 0 [], .sl false 6 ws]) :: dm.map .d, 25⟩]) ((n, [], [], t1 :: l1)) (by (try dsimp only); exact ⟨hR, by simp [NdRL], hwf, by simpa using hwf.2.2, Nat.le_refl _⟩) (by simp <;> omega) (by simp) (by simp) ?_
     intro ⟨m, ms, dm, l⟩ u w hI ih
     try simp only at hI ih
     obtain ⟨hRk, hds, hwf, hnum, hmn⟩ := hI
     obtain ⟨t2, l2, e⟩ := hwf.cons
     subst e
     cases m with
     | zero => exact absurd hRk.symm (by simpa [semisS] using hin')
     | succ m =>
      simp only [semisS, kd_cons, List.tail_cons] at hRk
      simp [c106t]
      refine ATT.callM Tryz.func106 60 [0] (f40_ok t2 l2 d) rfl (by simp) (by simp) (by simp) (by simp) (by simp) ?_
      simp
      by_cases h15 : t2.k = 15
      ·obtain ⟨t3, l3, e, hl3⟩ := hwf.two (by rw [h15]; decide)
       subst e
       have hT := f39_ok t2 (t3 :: l3) d
       rw [if_neg (by rw [h15]; decide)] at hT
       simp only [eq_true h15, if_true] at hRk
       simp only [List.length_cons] at hnum
       simp [c106t, eq_true h15, tkD, tokD]
       refine ATT.callM Tryz.func106 60 [0] (hT) rfl (by simp) (by simp) (by simp [tkD, tokD]) (by simp) (by simp) ?_
       simp [tkD, tokD]
       have hin2 : msgS m d (t3 :: l3) ≠ .out := fun e => hin' (by rw [← hRk, e]; rfl)
       refine ATT.callRP Tryz.func106 60 0 (ihM m (by omega) d _ hd hl3 hin2) hin2 (by simp) (by simp) rfl (by simp) (fun a w e h1 hh => hQ _ _ (by rw [← hRk, e]; exact ⟨rfl, by rw [hh]; simp⟩)) fun z l' v hz hφ => ?_
       rw [hz] at hRk
       simp only [Res.andThen] at hRk
       obtain ⟨nl1_v, z1_v, nl2_v, z2_v, ds_v, hv_v, ha_v, hb_v, hc_v, hd_v, he_v⟩ := hφ.shape
       have hw_v := hv_v
       subst hw_v
       have hsh := (pres m).msg hl3 hz
       have h2l := hsh.2
       simp only [List.length_cons] at h2l
       have hmul : (dm.length + 2 + 1) * 88 ≤ 140737488355328 := by omega
       simp [hmul]
       refine ih (m, ms ++ [z], dm ++ [_], l') (by first | ((try dsimp only); omega) | (simp [eq_true h15, tkD, tokD] <;> omega)) (by (try dsimp only); exact ⟨hRk, hds.append (.one hφ), hsh.1, by simp; omega, by omega⟩) _ _ _ (by simp <;> omega) (by simp <;> omega) (by simp <;> omega)
      ·simp only [eq_false h15, if_false] at hRk
       subst hRk
       simp [c106t, h15]
       refine ATT.finz hQ Tryz.func106 c106res (by first | exact .inl rfl | exact .inr ⟨_, rfl⟩) ?_
       simp
       all_goals (first | omega | exact ⟨_, rfl⟩ | skip)
       exact ⟨_, _, _, rfl, rfl, by rw [hys]; exact NdR.kids (NdRL.cons hw (NdRL.cons (NdR.kids hws) hds))⟩
    ·refine ATT.loopG 60 c106l12.eq_1 (fun ((m, ms, dm, l) : Nat × List Nd × List D × List Tk) => m) (fun ((m, ms, dm, l) : Nat × List Nd × List D × List Tk) => semisS m d ms l = R ∧ NdRL ms dm ∧ WF l ∧ dm.length + l.length ≤ 5000 ∧ m ≤ n) (fun ((m, ms, dm, l) : Nat × List Nd × List D × List Tk) => [(0, .ptr 0 0), (2, .ptr 1 0), (6, .ptr 4 0)]) (fun ((m, ms, dm, l) : Nat × List Nd × List D × List Tk) => [PB l d, .cells [.d (.int .i64 0), .d (.str ⟨#[]⟩), .d (.int .i64 0), .d (.int .i64 0), .d (.sl true 0 []), .d (.sl true 0 [])] 25, .cells [.d (.int .i64 x.1.k), .d (.str x.1.t), .d (.int .i64 x.1.a), .d (.int .i64 x.1.n), .d (.sl nl1_u z1_u (x.1.names.map .str)), .d (.sl false 6 (.agg [.int .i64 y.k, .str y.t, .int .i64 y.a, .int .i64 y.n, .sl nl1_w z1_w (y.names.map .str), .sl nl2_w z2_w ds_w] :: ws))] 25, .cells [.d (.int .i64 9), .d (.str x.1.t), .d (.int .i64 x.1.a), .d (.int .i64 0), .d (.sl true 0 []), .d (.sl false 6 ws)] 25, .cells [.d (.int .i64 8), .d (.str ⟨#[]⟩), .d (.int .i64 x.1.a), .d (.int .i64 0), .d (.sl true 0 []), .vs 0 (dm.length + 2) 0 (dm.length + 2)] 25]) (fun ((m, ms, dm, l) : Nat × List Nd × List D × List Tk) => [some ⟨false, 6, 0, .d (.agg [.int .i64 y.k, .str y.t, .int .i64 y.a, .int .i64 y.n, .sl nl1_w z1_w (y.names.map .str), .sl nl2_w z2_w ds_w]) :: .d (.agg [.int .i64 9, .str x.1.t, .int .i64 x.1.a, .int .i64 0, .sl true 0 [], .sl false 6 ws]) :: dm.map .d, 25⟩]) ((n, [], [], t1 :: l1)) (by (try dsimp only); exact ⟨hR, by simp [NdRL], hwf, by simpa using hwf.2.2, Nat.le_refl _⟩) (by simp <;> omega) (by simp) (by simp) ?_
     intro ⟨m, ms, dm, l⟩ u w hI ih
     try simp only at hI ih
     obtain ⟨hRk, hds, hwf, hnum, hmn⟩ := hI
     obtain ⟨t2, l2, e⟩ := hwf.cons
     subst e
     cases m with
     | zero => exact absurd hRk.symm (by simpa [semisS] using hin')
     | succ m =>
      simp only [semisS, kd_cons, List.tail_cons] at hRk
      simp [c106t]
      refine ATT.callM Tryz.func106 60 [0] (f40_ok t2 l2 d) rfl (by simp) (by simp) (by simp) (by simp) (by simp) ?_
      simp
      by_cases h15 : t2.k = 15
      ·obtain ⟨t3, l3, e, hl3⟩ := hwf.two (by rw [h15]; decide)
       subst e
       have hT := f39_ok t2 (t3 :: l3) d
       rw [if_neg (by rw [h15]; decide)] at hT
       simp only [eq_true h15, if_true] at hRk
       simp only [List.length_cons] at hnum
       simp [c106t, eq_true h15, tkD, tokD]
       refine ATT.callM Tryz.func106 60 [0] (hT) rfl (by simp) (by simp) (by simp [tkD, tokD]) (by simp) (by simp) ?_
       simp [tkD, tokD]
       have hin2 : msgS m d (t3 :: l3) ≠ .out := fun e => hin' (by rw [← hRk, e]; rfl)
       refine ATT.callRP Tryz.func106 60 0 (ihM m (by omega) d _ hd hl3 hin2) hin2 (by simp) (by simp) rfl (by simp) (fun a w e h1 hh => hQ _ _ (by rw [← hRk, e]; exact ⟨rfl, by rw [hh]; simp⟩)) fun z l' v hz hφ => ?_
       rw [hz] at hRk
       simp only [Res.andThen] at hRk
       obtain ⟨nl1_v, z1_v, nl2_v, z2_v, ds_v, hv_v, ha_v, hb_v, hc_v, hd_v, he_v⟩ := hφ.shape
       have hw_v := hv_v
       subst hw_v
       have hsh := (pres m).msg hl3 hz
       have h2l := hsh.2
       simp only [List.length_cons] at h2l
       have hmul : (dm.length + 2 + 1) * 88 ≤ 140737488355328 := by omega
       simp [hmul]
       refine ih (m, ms ++ [z], dm ++ [_], l') (by first | ((try dsimp only); omega) | (simp [eq_true h15, tkD, tokD] <;> omega)) (by (try dsimp only); exact ⟨hRk, hds.append (.one hφ), hsh.1, by simp; omega, by omega⟩) _ _ _ (by simp <;> omega) (by simp <;> omega) (by simp <;> omega)
      ·simp only [eq_false h15, if_false] at hRk
       subst hRk
       simp [c106t, h15]
       refine ATT.finz hQ Tryz.func106 c106res (by first | exact .inl rfl | exact .inr ⟨_, rfl⟩) ?_
       simp
       all_goals (first | omega | exact ⟨_, rfl⟩ | skip)
       exact ⟨_, _, _, rfl, rfl, by rw [hys]; exact NdR.kids (NdRL.cons hw (NdRL.cons (NdR.kids hws) hds))⟩
   | false =>
    simp only [eq_true h7, hb] at hQ hin
    simp [c106t, eq_true h1, eq_true h7]
    refine ATT.callA Tryz.func106 60 [0] [] 0 0 (f47_ok t1 l1 d 20) (by simp) (by simp) (by simp) (by simp) (by simp) fun out hC hE => ?_
    obtain ⟨e1, e2⟩ := hE
    subst e1
    exact ⟨by simpa using e2, hQ _ _ ⟨by simp [stopV, eSyn], by simp⟩⟩
  ·simp only [eq_false h7, false_and, if_false] at hQ hin
   simp [c106t, eq_true h1, h7]
   refine ATT.callA Tryz.func106 60 [0] [] 0 0 (f47_ok t1 l1 d 20) (by simp) (by simp) (by simp) (by simp) (by simp) fun out hC hE => ?_
   obtain ⟨e1, e2⟩ := hE
   subst e1
   exact ⟨by simpa using e2, hQ _ _ ⟨by simp [stopV, eSyn], by simp⟩⟩
 ·simp only [eq_false h1, if_false] at hQ hin
  simp [c106t, h1]
  refine ATT.fin' hQ Tryz.func106 c106res ?_
  exact ⟨by simp, _, _, _, rfl, rfl, hu⟩
end Go.SL
namespace Go.SL
open Go.Proofs
set_option maxRecDepth 10000
theorem f159_ok (n : Nat) (ihE : ∀ m, m ≤ n → ElemC m) (d : Nat) (l : List Tk) (hd : d ≤ 40) (hl : WF l) (hin : elemsS n d [] l ≠ .out) (a0 a1 a2 a3 a4 : D) :
  AF Tryz.prog 159 [.ptr 1 0, .ptr 2 0] ⟨[PB l d, PP, .cells [.d a0, .d a1, .d a2, .d a3, .d a4, .d (.sl true 0 [])] 25], []⟩ fun o h =>
   (∃ l' nd' b c, o = .ret (.d (.tup [])) ∧ h = ⟨PB l' d :: PP :: .cells (nd'.map .d) 25 :: b, c⟩ ∧ ∃ xs r nl z ds, elemsS n d [] l = .ok xs r ∧ l' = r.tail ∧ nd' = [a0, a1, a2, a3, a4, .sl nl z ds] ∧ NdRL xs ds ∧ (nl = true → xs = []) ∧ (nl = false → z = 6)) ∨ (∃ a w, o = .pan (stopV a w) ∧ 3 ≤ h.bx.length ∧ elemsS n d [] l = .no a w) := by
 refine AF.start' 60 Tryz.func159 rfl rfl c159call c159ok fun Q hQ => ?_
 simp [c159c]
 refine ATT.nilB 2 5 6 25 rfl rfl (by decide) (by simp) ?_
 simp
 have hlen := hl.2.2
 generalize hR : elemsS n d [] l = R at hQ hin
 refine ATT.loopG 60 c159l5.eq_1 (fun ((m, acc, ds, l) : Nat × List Nd × List D × List Tk) => m) (fun ((m, acc, ds, l) : Nat × List Nd × List D × List Tk) => elemsS m d acc l = R ∧ NdRL acc ds ∧ WF l ∧ ds.length + l.length ≤ 5000 ∧ m ≤ n) (fun ((m, acc, ds, l) : Nat × List Nd × List D × List Tk) => [(0, .ptr 1 0), (1, .ptr 2 0)]) (fun ((m, acc, ds, l) : Nat × List Nd × List D × List Tk) => [PB l d, PP, .cells [.d a0, .d a1, .d a2, .d a3, .d a4, .vs 0 ds.length 0 ds.length] 25]) (fun ((m, acc, ds, l) : Nat × List Nd × List D × List Tk) => [NV 25 ds]) ((n, [], [], l)) (by (try dsimp only); exact ⟨hR, by simp [NdRL], hl, by simpa using hlen, Nat.le_refl _⟩) (by simp <;> omega) (by simp) (by simp) ?_
 intro ⟨m, acc, ds, l⟩ u w hI ih
 try simp only at hI ih
 obtain ⟨hRk, hds, hwf, hnum, hmn⟩ := hI
 obtain ⟨t1, l1, e⟩ := hwf.cons
 subst e
 cases m with
 | zero => exact absurd hRk.symm (by simpa [elemsS] using hin)
 | succ m =>
  simp only [elemsS, kd_cons] at hRk
  simp [c159t]
  refine ATT.callM Tryz.func159 60 [0] (f40_ok t1 l1 d) rfl (by simp) (by simp) (by simp) (by simp) (by simp) ?_
  simp
  by_cases h9 : t1.k = 9
  ·simp only [eq_true h9, if_true] at hRk
   subst hRk
   have hT := f39_ok t1 l1 d
   rw [if_neg (by rw [h9]; decide)] at hT
   simp [c159t, eq_true h9, tkD, tokD]
   refine ATT.callM Tryz.func159 60 [0] (hT) rfl (by simp) (by simp) (by simp [tkD, tokD]) (by simp) (by simp) ?_
   simp [tkD, tokD]
   cases ds with
   | nil =>
    have : acc = [] := by cases acc <;> simp [NdRL] at hds ⊢
    subst this
    refine ATT.fz0 ?_
    simp
    refine ATT.fin0' hQ Tryz.func159 c159res ?_
    exact ⟨by simp, .inl ⟨l1, [a0, a1, a2, a3, a4, .sl true 6 []], _, _, rfl, rfl, [], _, _, _, _, rfl, rfl, rfl, by simp [NdRL], fun _ => rfl, fun _ => rfl⟩⟩
   | cons d0 ds =>
    refine ATT.fz0 ?_
    simp
    refine ATT.fin0' hQ Tryz.func159 c159res ?_
    exact ⟨by simp, .inl ⟨l1, [a0, a1, a2, a3, a4, .sl false 6 (d0 :: ds)], _, _, rfl, rfl, acc, _, _, _, _, rfl, rfl, rfl, hds, by simp, fun _ => rfl⟩⟩
  ·simp only [eq_false h9, if_false] at hRk
   have hin2 : elemS m d (t1 :: l1) ≠ .out := fun e => hin (by rw [← hRk, e]; rfl)
   simp [h9]
   refine ATT.ords 60 (by simp <;> omega) fun o ho => ?_
   simp only [List.mem_cons, List.mem_nil_iff, or_false] at ho
   rcases ho with ho | ho | ho | ho <;> subst ho
   all_goals try simp
   ·refine ATT.callRP Tryz.func159 60 0 (ihE m (by omega) d _ hd hwf hin2) hin2 (by simp) (by simp) rfl (by simp) (fun a w e h1 hh => hQ _ _ (by rw [← hRk, e]; exact .inr ⟨_, _, rfl, by rw [hh]; simp, rfl⟩)) fun z l' v hz hφ => ?_
    rw [hz] at hRk
    simp only [Res.andThen] at hRk
    obtain ⟨nl1_v, z1_v, nl2_v, z2_v, ds_v, hv_v, ha_v, hb_v, hc_v, hd_v, he_v⟩ := hφ.shape
    have hw_v := hv_v
    subst hw_v
    have hsh := (pres m).elem hwf hz
    have h2l := hsh.2
    simp only [List.length_cons] at h2l hnum
    have hmul : (ds.length + 1) * 88 ≤ 140737488355328 := by omega
    simp [hmul]
    refine ih (m, acc ++ [z], ds ++ [_], l') (by first | ((try dsimp only); omega) | (simp [inR] <;> omega)) (by (try dsimp only); exact ⟨hRk, hds.append (.one hφ), hsh.1, by simp; omega, by omega⟩) _ _ _ (by simp [inR] <;> omega) (by simp <;> omega) (by simp <;> omega)
   ·refine ATT.callRP Tryz.func159 60 0 (ihE m (by omega) d _ hd hwf hin2) hin2 (by simp) (by simp) rfl (by simp) (fun a w e h1 hh => hQ _ _ (by rw [← hRk, e]; exact .inr ⟨_, _, rfl, by rw [hh]; simp, rfl⟩)) fun z l' v hz hφ => ?_
    rw [hz] at hRk
    simp only [Res.andThen] at hRk
    obtain ⟨nl1_v, z1_v, nl2_v, z2_v, ds_v, hv_v, ha_v, hb_v, hc_v, hd_v, he_v⟩ := hφ.shape
    have hw_v := hv_v
    subst hw_v
    have hsh := (pres m).elem hwf hz
    have h2l := hsh.2
    simp only [List.length_cons] at h2l hnum
    have hmul : (ds.length + 1) * 88 ≤ 140737488355328 := by omega
    simp [hmul]
    refine ih (m, acc ++ [z], ds ++ [_], l') (by first | ((try dsimp only); omega) | (simp [inR] <;> omega)) (by (try dsimp only); exact ⟨hRk, hds.append (.one hφ), hsh.1, by simp; omega, by omega⟩) _ _ _ (by simp [inR] <;> omega) (by simp <;> omega) (by simp <;> omega)
   ·refine ATT.callRP Tryz.func159 60 0 (ihE m (by omega) d _ hd hwf hin2) hin2 (by simp) (by simp) rfl (by simp) (fun a w e h1 hh => hQ _ _ (by rw [← hRk, e]; exact .inr ⟨_, _, rfl, by rw [hh]; simp, rfl⟩)) fun z l' v hz hφ => ?_
    rw [hz] at hRk
    simp only [Res.andThen] at hRk
    obtain ⟨nl1_v, z1_v, nl2_v, z2_v, ds_v, hv_v, ha_v, hb_v, hc_v, hd_v, he_v⟩ := hφ.shape
    have hw_v := hv_v
    subst hw_v
    have hsh := (pres m).elem hwf hz
    have h2l := hsh.2
    simp only [List.length_cons] at h2l hnum
    have hmul : (ds.length + 1) * 88 ≤ 140737488355328 := by omega
    simp [hmul]
    refine ih (m, acc ++ [z], ds ++ [_], l') (by first | ((try dsimp only); omega) | (simp [inR] <;> omega)) (by (try dsimp only); exact ⟨hRk, hds.append (.one hφ), hsh.1, by simp; omega, by omega⟩) _ _ _ (by simp [inR] <;> omega) (by simp <;> omega) (by simp <;> omega)
   ·refine ATT.callRP Tryz.func159 60 0 (ihE m (by omega) d _ hd hwf hin2) hin2 (by simp) (by simp) rfl (by simp) (fun a w e h1 hh => hQ _ _ (by rw [← hRk, e]; exact .inr ⟨_, _, rfl, by rw [hh]; simp, rfl⟩)) fun z l' v hz hφ => ?_
    rw [hz] at hRk
    simp only [Res.andThen] at hRk
    obtain ⟨nl1_v, z1_v, nl2_v, z2_v, ds_v, hv_v, ha_v, hb_v, hc_v, hd_v, he_v⟩ := hφ.shape
    have hw_v := hv_v
    subst hw_v
    have hsh := (pres m).elem hwf hz
    have h2l := hsh.2
    simp only [List.length_cons] at h2l hnum
    have hmul : (ds.length + 1) * 88 ≤ 140737488355328 := by omega
    simp [hmul]
    refine ih (m, acc ++ [z], ds ++ [_], l') (by first | ((try dsimp only); omega) | (simp [inR] <;> omega)) (by (try dsimp only); exact ⟨hRk, hds.append (.one hφ), hsh.1, by simp; omega, by omega⟩) _ _ _ (by simp [inR] <;> omega) (by simp <;> omega) (by simp <;> omega)
end Go.SL
namespace Go.SL
open Go.Proofs
set_option maxRecDepth 10000
theorem f155_ok (n : Nat) (ihE : ∀ m, m ≤ n → ElemC m) : ListC (n + 1) := by
 intro d l hd hl hkl hin
 obtain ⟨t, r, e⟩ := hl.cons
 subst e
 simp only [listS, pl_cons, List.tail_cons] at hin ⊢
 have hk0 : t.k ≠ 0 := by
  intro h0
  simp only [kd_cons, h0] at hkl
  exact absurd hkl (by decide)
 obtain ⟨t2, l2, e, hl2⟩ := hl.two hk0
 subst e
 refine AF.start' 60 Tryz.func155 rfl rfl c155call c155ok fun Q hQ => ?_
 simp [c155c, c155t, tkD, tokD]
 by_cases h40 : d = 40
 ·subst h40
  simp only [if_true] at hQ
  refine ATT.callA Tryz.func155 60 [0, 1, 3] [] 0 0 (f104_no t (t2 :: l2) [.int .i64 4, .str ⟨#[]⟩, .int .i64 t.a, .int .i64 0, .sl true 0 [], .sl true 0 []] 25 159 [.ptr 1 0, .ptr 2 0]) (by simp) (by simp) (by simp [tkD, tokD]) (by simp) (by simp) fun out hC hE => ?_
  obtain ⟨e1, e2⟩ := hE
  subst e1
  exact ⟨by simpa using e2, hQ _ _ ⟨by simp [stopV, eSize], by simp⟩⟩
 ·rw [if_neg h40] at hQ hin
  have hin' : elemsS n (d + 1) [] (t2 :: l2) ≠ .out := fun e => hin (by simp [e, Res.andThen])
  have hcl := f159_ok n ihE (d + 1) (t2 :: l2) (by omega) hl2 hin' (.int .i64 4) (.str ⟨#[]⟩) (.int .i64 t.a) (.int .i64 0) (.sl true 0 [])
  have hW := f104_ok t hk0 (t2 :: l2) [.int .i64 4, .str ⟨#[]⟩, .int .i64 t.a, .int .i64 0, .sl true 0 [], .sl true 0 []] 25 d (by omega) 159 [.ptr 1 0, .ptr 2 0] rfl rfl _ _ hcl
  refine ATT.callA Tryz.func155 60 [0, 1, 3] [] 0 0 (hW) (by simp) (by simp) (by simp [tkD, tokD]) (by simp) (by simp) fun out hC hE => ?_
  rcases hE with ⟨l', nd', b, c, e1, e2, xs, r, nl, z, ds, hx, hl', hnd, hxs, h1, h2⟩ | ⟨a, w, e1, e2, hx⟩
  ·subst e1 e2 hnd
   refine ⟨by simp, ?_⟩
   simp [c155t]
   simp only [hx, Res.andThen] at hQ
   subst hl'
   refine ATT.fin' hQ Tryz.func155 c155res ?_
   exact ⟨by simp, _, _, _, rfl, rfl, NdR.mk (fun _ => rfl) (by simp) h1 h2 hxs⟩
  ·subst e1
   simp only [hx, Res.andThen] at hQ
   exact ⟨by simpa using e2, hQ _ _ ⟨by simp [stopV], by simp⟩⟩
theorem f157_ok {n : Nat} (ih : ExprC n) (d : Nat) (l : List Tk) (hd : d ≤ 40) (hl : WF l) (hin : exprS n d l ≠ .out) (a0 a1 a2 a3 a4 a5 : D) :
  AF Tryz.prog 157 [.ptr 1 0, .ptr 2 0] ⟨[PB l d, PP, .cells [.d a0, .d a1, .d a2, .d a3, .d a4, .d a5] 25], []⟩ fun o h =>
   (∃ l' nd' b c, o = .ret (.d (.tup [])) ∧ h = ⟨PB l' d :: PP :: .cells (nd'.map .d) 25 :: b, c⟩ ∧ ∃ x, ((exprS n d l).andThen fun x r => if kd r = 9 then Res.ok (x, false) r.tail else .no (pl r) eSyn) = .ok (x, false) l' ∧ NdR x (.agg nd')) ∨
   (∃ a w, o = .pan (stopV a w) ∧ 3 ≤ h.bx.length ∧ ((exprS n d l).andThen fun x r => if kd r = 9 then Res.ok (x, false) r.tail else .no (pl r) eSyn) = .no a w) := by
 refine AF.start' 60 Tryz.func157 rfl rfl c157call c157ok fun Q hQ => ?_
 simp [c157c, c157t]
 refine ATT.callP Tryz.func157 60 0 (ih d l hd hl hin) hin (by simp) (by simp) rfl rfl (fun a w e h' hh => hQ _ _ (.inr ⟨a, w, rfl, by simp at hh; omega, by rw [e]; rfl⟩)) fun x l' v e hφ => ?_
 have hwf := ((pres n).expr hl e).1
 simp only [e, Res.andThen] at hQ
 obtain ⟨t1, l1, e⟩ := hwf.cons
 subst e
 obtain ⟨nl1_v, z1_v, nl2_v, z2_v, ds_v, hv_v, ha_v, hb_v, hc_v, hd_v, he_v⟩ := hφ.shape
 have hw_v := hv_v
 subst hw_v
 by_cases h9 : t1.k = 9
 ·simp only [kd_cons, eq_true h9, if_true] at hQ
  simp [c157t]
  refine ATT.callM Tryz.func157 60 [0] (f38_ok t1 l1 d 9 h9 (by decide)) rfl (by simp) (by simp) (by simp) (by simp) (by simp) ?_
  simp
  refine ATT.fz0 ?_
  simp
  refine ATT.fin0' hQ Tryz.func157 c157res ?_
  exact ⟨by simp, .inl ⟨l1, [.int .i64 x.k, .str x.t, .int .i64 x.a, .int .i64 x.n, .sl nl1_v z1_v (x.names.map .str), .sl nl2_v z2_v ds_v], _, _, rfl, rfl, x, rfl, hφ⟩⟩
 ·simp only [kd_cons, eq_false h9, if_false] at hQ
  simp [c157t]
  refine ATT.callA Tryz.func157 60 [0] [] 0 0 (f38_no t1 l1 d 9 h9) (by simp) (by simp) (by simp) (by simp) (by simp) fun out hC hE => ?_
  obtain ⟨e1, e2⟩ := hE
  subst e1
  exact ⟨by simpa using e2, hQ _ _ (.inr ⟨_, _, rfl, by simp, by simp [eSyn, pl]⟩)⟩
theorem f148_ok (n : Nat) (ihE : ExprC n) (ihL : ListC n) (ihB : BlockC n) : PrimC (n + 1) := by
 intro d l hd hl hin
 obtain ⟨t, r, e⟩ := hl.cons
 subst e
 simp only [primS, kd_cons, pl_cons, tx_cons, List.tail_cons] at hin ⊢
 by_cases h1 : t.k = 1
 ·have hT := f39_ok t r d
  rw [if_neg (by rw [h1]; decide)] at hT
  simp only [eq_true h1, if_true] at hin ⊢
  refine AF.start' 60 Tryz.func148 rfl rfl c148call c148ok fun Q hQ => ?_
  simp [c148c, c148t, eq_true h1, tkD, tokD]
  refine ATT.callM Tryz.func148 60 [0] (hT) rfl (by simp) (by simp) (by simp [tkD, tokD]) (by simp) (by simp) ?_
  simp [c148t, tkD, tokD]
  refine ATT.fin' hQ Tryz.func148 c148res ?_
  exact ⟨by simp, _, _, _, rfl, rfl, _, rfl, NdR.leaf _ _ _ 0⟩
 by_cases h4 : t.k = 4
 ·have hT := f39_ok t r d
  rw [if_neg (by rw [h4]; decide)] at hT
  simp only [eq_false h1, eq_true h4, if_true, if_false] at hin ⊢
  refine AF.start' 60 Tryz.func148 rfl rfl c148call c148ok fun Q hQ => ?_
  simp [c148c, c148t, h1, eq_true h4, tkD, tokD]
  refine ATT.callM Tryz.func148 60 [0] (hT) rfl (by simp) (by simp) (by simp [tkD, tokD]) (by simp) (by simp) ?_
  simp [c148t, tkD, tokD]
  refine ATT.fin' hQ Tryz.func148 c148res ?_
  exact ⟨by simp, _, _, _, rfl, rfl, _, rfl, NdR.leaf _ _ _ 0⟩
 by_cases h5 : t.k = 5
 ·have hT := f39_ok t r d
  rw [if_neg (by rw [h5]; decide)] at hT
  simp only [eq_false h1, eq_false h4, eq_true h5, if_true, if_false] at hin ⊢
  refine AF.start' 60 Tryz.func148 rfl rfl c148call c148ok fun Q hQ => ?_
  simp [c148c, c148t, h1, h4, eq_true h5, tkD, tokD]
  refine ATT.callM Tryz.func148 60 [0] (hT) rfl (by simp) (by simp) (by simp [tkD, tokD]) (by simp) (by simp) ?_
  simp [c148t, tkD, tokD]
  refine ATT.fin' hQ Tryz.func148 c148res ?_
  exact ⟨by simp, _, _, _, rfl, rfl, _, rfl, NdR.leaf _ _ _ 0⟩
 by_cases h6 : t.k = 6
 ·have hT := f39_ok t r d
  rw [if_neg (by rw [h6]; decide)] at hT
  simp only [eq_false h1, eq_false h4, eq_false h5, eq_true h6, if_true, if_false] at hin ⊢
  refine AF.start' 60 Tryz.func148 rfl rfl c148call c148ok fun Q hQ => ?_
  simp [c148c, c148t, h1, h4, h5, eq_true h6, tkD, tokD]
  refine ATT.callM Tryz.func148 60 [0] (hT) rfl (by simp) (by simp) (by simp [tkD, tokD]) (by simp) (by simp) ?_
  simp [c148t, tkD, tokD]
  refine ATT.fin' hQ Tryz.func148 c148res ?_
  exact ⟨by simp, _, _, _, rfl, rfl, _, rfl, NdR.leaf _ _ _ 0⟩
 by_cases h17 : t.k = 17
 ·simp only [eq_false h1, eq_false h4, eq_false h5, eq_false h6, eq_true h17, if_true, if_false] at hin ⊢
  have hin' : listS n d (t :: r) ≠ .out := fun e => hin (by simp [e, Res.andThen])
  refine AF.start' 60 Tryz.func148 rfl rfl c148call c148ok fun Q hQ => ?_
  simp [c148c, c148t, h1, h4, h5, h6, eq_true h17, tkD, tokD]
  refine ATT.callP Tryz.func148 60 0 (ihL d _ hd hl (.inl h17) hin') (hin') (by simp) (by simp) rfl (by simp) (fun a w e h1 hh => hQ _ _ (by rw [e]; exact ⟨rfl, by rw [hh]; simp⟩)) fun x l' v hx hφ => ?_
  rw [hx] at hQ hin
  try simp only [Res.andThen] at hQ hin
  obtain ⟨nl1_v, z1_v, nl2_v, z2_v, ds_v, hv_v, ha_v, hb_v, hc_v, hd_v, he_v⟩ := hφ.shape
  have hw_v := hv_v
  subst hw_v
  simp
  refine ATT.fin' hQ Tryz.func148 c148res ?_
  exact ⟨by simp, _, _, _, rfl, rfl, _, rfl, hφ⟩
 by_cases h10 : t.k = 10
 ·simp only [eq_false h1, eq_false h4, eq_false h5, eq_false h6, eq_false h17, eq_true h10, if_true, if_false] at hin ⊢
  have hin' : blockS n d (t :: r) ≠ .out := fun e => hin (by simp [e, Res.andThen])
  refine AF.start' 60 Tryz.func148 rfl rfl c148call c148ok fun Q hQ => ?_
  simp [c148c, c148t, h1, h4, h5, h6, h17, eq_true h10, tkD, tokD]
  refine ATT.callP Tryz.func148 60 0 (ihB d _ hd hl h10 hin') (hin') (by simp) (by simp) rfl (by simp) (fun a w e h1 hh => hQ _ _ (by rw [e]; exact ⟨rfl, by rw [hh]; simp⟩)) fun x l' v hx hφ => ?_
  rw [hx] at hQ hin
  try simp only [Res.andThen] at hQ hin
  obtain ⟨nl1_v, z1_v, nl2_v, z2_v, ds_v, hv_v, ha_v, hb_v, hc_v, hd_v, he_v⟩ := hφ.shape
  have hw_v := hv_v
  subst hw_v
  simp
  refine ATT.fin' hQ Tryz.func148 c148res ?_
  exact ⟨by simp, _, _, _, rfl, rfl, _, rfl, hφ⟩
 by_cases h8 : t.k = 8
 ·simp only [eq_false h1, eq_false h4, eq_false h5, eq_false h6, eq_false h17, eq_false h10, eq_true h8, if_true, if_false] at hin ⊢
  obtain ⟨t2, l2, e, hl2⟩ := hl.two (by rw [h8]; decide)
  subst e
  refine AF.start' 60 Tryz.func148 rfl rfl c148call c148ok fun Q hQ => ?_
  simp [c148c, c148t, h1, h4, h5, h6, h17, h10, eq_true h8, tkD, tokD]
  by_cases h40 : d = 40
  ·subst h40
   simp only [if_true] at hQ
   refine ATT.callA Tryz.func148 60 [0, 1, 4] [] 0 0 (f104_no t (t2 :: l2) [.int .i64 0, .str t.t, .int .i64 t.a, .int .i64 0, .sl true 0 [], .sl true 0 []] 25 157 [.ptr 1 0, .ptr 2 0]) (by simp) (by simp) (by simp [tkD, tokD]) (by simp) (by simp) fun out hC hE => ?_
   obtain ⟨e1, e2⟩ := hE
   subst e1
   exact ⟨by simpa using e2, hQ _ _ ⟨by simp [stopV, eSize], by simp⟩⟩
  ·rw [if_neg h40] at hQ hin
   have hin' : exprS n (d + 1) (t2 :: l2) ≠ .out := fun e => hin (by simp [e, Res.andThen])
   have hcl := f157_ok ihE (d + 1) (t2 :: l2) (by omega) hl2 hin' (.int .i64 0) (.str t.t) (.int .i64 t.a) (.int .i64 0) (.sl true 0 []) (.sl true 0 [])
   have hW := f104_ok t (by rw [h8]; decide) (t2 :: l2) [.int .i64 0, .str t.t, .int .i64 t.a, .int .i64 0, .sl true 0 [], .sl true 0 []] 25 d (by omega) 157 [.ptr 1 0, .ptr 2 0] rfl rfl _ _ hcl
   refine ATT.callA Tryz.func148 60 [0, 1, 4] [] 0 0 (hW) (by simp) (by simp) (by simp [tkD, tokD]) (by simp) (by simp) fun out hC hE => ?_
   rcases hE with ⟨l', nd', b, c, e1, e2, x, hx, hxv⟩ | ⟨a, w, e1, e2, hx⟩
   ·subst e1 e2
    obtain ⟨nl1, z1, nl2, z2, ds, hv, _⟩ := hxv.shape
    simp only [D.agg.injEq] at hv
    subst hv
    refine ⟨by simp, ?_⟩
    simp [c148t]
    simp only [hx] at hQ
    refine ATT.fin' hQ Tryz.func148 c148res ?_
    exact ⟨by simp, _, _, _, rfl, rfl, _, rfl, hxv⟩
   ·subst e1
    simp only [hx] at hQ
    exact ⟨by simpa using e2, hQ _ _ ⟨by simp [stopV], by simp⟩⟩
 ·simp only [eq_false h1, eq_false h4, eq_false h5, eq_false h6, eq_false h17, eq_false h10, eq_false h8, if_false] at hin ⊢
  refine AF.start' 60 Tryz.func148 rfl rfl c148call c148ok fun Q hQ => ?_
  simp [c148c, c148t, h1, h4, h5, h6, h17, h10, h8, tkD, tokD]
  refine ATT.callA Tryz.func148 60 [0] [] 0 0 (f47_ok t r d 20) (by simp) (by simp) (by simp [tkD, tokD]) (by simp) (by simp) fun out hC hE => ?_
  obtain ⟨e1, e2⟩ := hE
  subst e1
  exact ⟨by simpa using e2, hQ _ _ ⟨by simp [stopV, eSyn], by simp⟩⟩
end Go.SL
namespace Go.SL
open Go.Proofs
set_option maxRecDepth 10000
theorem upH_out {h hC : H} {rb rv : List Nat} {kb kv i : Nat} (hi : i ∉ rb) (hl : i < h.bx.length) : (upH h hC rb rv kb kv).bx[i]? = h.bx[i]? := by
 simp only [upH]
 rw [List.getElem?_append_left (by rw [setAll_length]; exact hl)]
 exact setAll_out _ _ _ _ hi
section
variable {N : Nat} {f : FD} {Q : Out → H → Prop}
theorem ATT.callPv {α : Type} {Φ : α → D → Prop} {fn : Func} (hf : Tryz.prog.funcs[f.fn]? = some fn) {ix : Nat} {dst : Option Nat} {g : Opd} {args : List Opd} {kill : List Nat} {r : List AI} {k : List AItem} {env : Env} {h : H} {ob : Bool} {fid : FuncId} {l : List Tk} {d : Nat} {res : Res α} {argsC : List V}
  (n j : Nat) (hAF : AF Tryz.prog fid argsC ⟨[PB l d], []⟩ (PR Φ d res)) (hr : res ≠ .out) (hc : calls (ev env g) (args.map (ev env)) = some (fid, rns [j] [] argsC)) (hsc : insc 1 0 argsC = true) (hj : h.bx[j]? = some (PB l d)) (ho : ob = true)
  (hno : ∀ a w, res = .no a w → ∀ h' : H, (∀ i, i ≠ j → h'.bx[i]? = h.bx[i]?) → h'.bx.length = h.bx.length → h.vc.length ≤ h'.vc.length → Q (.pan (stopV a w)) h')
  (hk : ∀ x l' v, res = .ok x l' → Φ x v → ATT Tryz.prog N f Q (goes n (.reg r :: k) (put (dels env kill) dst (.d v)) ⟨h.bx.set j (PB l' d), h.vc⟩ true)) (hkp : subE env f.keep := by exact True.intro) : ATT Tryz.prog N f Q (.reg (⟨ix, dst, .call g args, none, kill⟩ :: r) :: k, env, h, ob) := by
 refine ATT.callA hf n [j] [] 0 0 hAF trivial hc (by simp [hj]) hsc ho (fun out hC hE => ?_) hkp
 cases hres : res with
 | ok x l' =>
  rw [hres] at hE
  obtain ⟨v, b, c, e1, e2, hφ⟩ := hE
  subst e1 e2
  refine ⟨by simp, ?_⟩
  have := hk x l' v hres hφ
  simpa using this
 | no a w =>
  rw [hres] at hE
  obtain ⟨e1, e2⟩ := hE
  subst e1
  exact ⟨by simpa using e2, by simpa [stopV] using hno a w hres _ (fun i hi => by simp; exact setAll_out _ _ _ _ (by simpa using hi)) (by simp) (by simp)⟩
 | out => exact absurd hres hr
end
abbrev NS (l : List ByteArray) : Option Vec := some ⟨l.isEmpty, 1, 0, l.map fun s => .d (.str s), 9⟩
theorem strs_ds (l : List ByteArray) : (l.map fun s => V.d (.str s)) = (l.map D.str).map .d := by simp
@[simp] theorem rns_strs (rb rv : List Nat) (l : List ByteArray) : rns rb rv (l.map fun s => V.d (.str s)) = l.map fun s => V.d (.str s) := by rw [strs_ds]; exact rns_data rb rv _
@[simp] theorem insc_strs (n m : Nat) (l : List ByteArray) : insc n m (l.map fun s => V.d (.str s)) = true := by rw [strs_ds]; exact insc_data n m _
@[simp] theorem mapD_strs (h : H) (n : Nat) (l : List ByteArray) : mapD (toDv h n) (l.map fun s => V.d (.str s)) = some (l.map .str) := by rw [strs_ds]; exact mapD_d h n _
@[simp] theorem rns_app (rb rv : List Nat) : ∀ a b : List V, rns rb rv (a ++ b) = rns rb rv a ++ rns rb rv b
 | [], b => rfl
 | x :: a, b => by simp only [List.cons_append, rns]; rw [rns_app rb rv a b]
@[simp] theorem insc_app (n m : Nat) : ∀ a b : List V, insc n m (a ++ b) = (insc n m a && insc n m b)
 | [], b => rfl
 | x :: a, b => by simp only [List.cons_append, insc]; rw [insc_app n m a b, Bool.and_assoc]
@[simp] theorem mapD_strs2 (h : H) (n : Nat) (a b : List ByteArray) : mapD (toDv h n) ((a.map fun s => V.d (.str s)) ++ b.map fun s => V.d (.str s)) = some (a.map .str ++ b.map .str) := by
 rw [← List.map_append, mapD_strs, List.map_append]
@[simp] theorem take_two {α β γ : Type} (f : α → γ) (g : β → γ) (a : List α) (b : List β) : List.take (a.length + b.length) (a.map f ++ b.map g) = a.map f ++ b.map g := List.take_of_length_le (by simp)
def BR (names : List ByteArray) (a0 a1 a2 a3 : D) (d : Nat) (r : Res (List ByteArray × List Nd)) (o : Out) (h : H) : Prop := match r with
 | .ok x l => ∃ b c ds, o = .ret (.d (.tup [])) ∧ h = ⟨PB l d :: .cells [.d a0, .d a1, .d a2, .d a3, .vs 0 (names ++ x.1).length 0 (names ++ x.1).length, .vs 1 ds.length 0 ds.length] 25 :: b, NS (names ++ x.1) :: NV 25 ds :: c⟩ ∧ NdRL x.2 ds
 | .no a w => o = .pan (stopV a w) ∧ (∃ cs, h.bx[1]? = some (.cells cs 25) ∧ cs.length = 6) ∧ 2 ≤ h.bx.length ∧ 2 ≤ h.vc.length
 | .out => True
theorem BR.mk {names ts : List ByteArray} {a0 a1 a2 a3 : D} {d : Nat} {l : List Tk} {ks : List Nd} {ds : List D} {x4 x5 : V} {b : List Bx} {v0 v1 : Option Vec} {c : List (Option Vec)} (hds : NdRL ks ds)
  (h4 : x4 = .vs 0 (names ++ ts).length 0 (names ++ ts).length) (h5 : x5 = .vs 1 ds.length 0 ds.length) (h0 : v0 = NS (names ++ ts)) (h1 : v1 = NV 25 ds) :
  BR names a0 a1 a2 a3 d (.ok (ts, ks) l) (.ret (.d (.tup []))) ⟨PB l d :: .cells [.d a0, .d a1, .d a2, .d a3, x4, x5] 25 :: b, v0 :: v1 :: c⟩ := by
 subst h4 h5 h0 h1
 exact ⟨_, _, _, rfl, rfl, hds⟩
def BodyC (n : Nat) : Prop := ∀ d l e names a0 a1 a2 a3, d ≤ 40 → WF l → names.length ≤ 5000 → bodyS n d e l ≠ .out →
 AF Tryz.prog 28 [.ptr 0 0, .ptr 1 0, .d (.int .i64 e)] ⟨[PB l d, .cells [.d a0, .d a1, .d a2, .d a3, .vs 0 names.length 0 names.length, .d (.sl true 0 [])] 25], [NS names]⟩ (BR names a0 a1 a2 a3 d (bodyS n d e l))
def tempsE (P : List ByteArray × List Tk) : Res (List ByteArray) := if kd P.2 = 12 then .ok P.1 P.2.tail else .no (pl P.2) eSyn
theorem tempsS_12 {t : Tk} {l : List Tk} (h : t.k = 12) : tempsS (t :: l) = tempsE (namesS l) := by unfold tempsS tempsE; rw [if_pos (show kd (t :: l) = 12 from h)]; rfl
theorem tempsS_no {t : Tk} {l : List Tk} (h : ¬ t.k = 12) : tempsS (t :: l) = .ok [] (t :: l) := by unfold tempsS; rw [if_neg (show ¬ kd (t :: l) = 12 from h)]
set_option maxHeartbeats 2000000 in
theorem f28_ok (n : Nat) (ihS : ∀ m, m ≤ n → StmtC m) : BodyC (n + 1) := by
 intro d l e names a0 a1 a2 a3 hd hl hnl hin
 obtain ⟨t, r, he⟩ := hl.cons
 subst he
 simp only [bodyS] at hin ⊢
 refine AF.start' 60 Tryz.func28 rfl rfl c28call c28ok fun Q hQ => ?_
 simp [c28c, c28t]
 refine ATT.callM Tryz.func28 60 [0] (f40_ok t r d) rfl (by simp) (by simp) (by simp) (by simp) (by simp) ?_
 simp
 by_cases h12 : t.k = 12
 ·obtain ⟨t2, l2, he, hl2⟩ := hl.two (by rw [h12]; decide)
  subst he
  have hT := f39_ok t (t2 :: l2) d
  rw [if_neg (by rw [h12]; decide)] at hT
  rw [tempsS_12 h12] at hin hQ
  simp [c28t, eq_true h12]
  refine ATT.callM Tryz.func28 60 [0] (hT) rfl (by simp) (by simp) (by simp) (by simp) (by simp) ?_
  simp
  refine ATT.nilB 1 5 6 25 rfl rfl (by decide) (by simp) ?_
  simp
  generalize hP : namesS (t2 :: l2) = P at hin hQ
  refine ATT.loopG 60 c28l4.eq_1 (fun ((dn, l) : List ByteArray × List Tk) => l.length) (fun ((dn, l) : List ByteArray × List Tk) => (dn ++ (namesS l).1, (namesS l).2) = P ∧ WF l ∧ dn.length + l.length ≤ 5000) (fun ((dn, l) : List ByteArray × List Tk) => [(0, .ptr 0 0), (1, .ptr 1 0), (2, .d (.int .i64 e))]) (fun ((dn, l) : List ByteArray × List Tk) => [PB l d, .cells [.d a0, .d a1, .d a2, .d a3, .vs 0 (names ++ dn).length 0 (names ++ dn).length, .vs 1 0 0 0] 25]) (fun ((dn, l) : List ByteArray × List Tk) => [NS (names ++ dn), NV 25 []]) (([], t2 :: l2)) (by (try dsimp only); exact ⟨by simpa using hP, hl2, by simpa using hl2.2.2⟩) (by simp <;> omega) (by simp) (by simp) ?_
  intro ⟨dn, l⟩ u w hI ih
  try simp only at hI ih
  obtain ⟨hRk, hwf, hnum⟩ := hI
  obtain ⟨t1, l1, he⟩ := hwf.cons
  subst he
  simp [c28t]
  refine ATT.callM Tryz.func28 60 [0] (f40_ok t1 l1 d) rfl (by simp) (by simp) (by simp) (by simp) (by simp) ?_
  simp
  by_cases h1 : t1.k = 1
  ·obtain ⟨t3, l3, he, hl3⟩ := hwf.two (by rw [h1]; decide)
   subst he
   have hT := f39_ok t1 (t3 :: l3) d
   rw [if_neg (by rw [h1]; decide)] at hT
   rw [namesS, if_pos h1] at hRk
   simp only [List.length_cons] at hnum
   have hmul : (names.length + dn.length + 1) * 16 ≤ 140737488355328 := by omega
   simp [eq_true h1]
   refine ATT.callRM Tryz.func28 60 [0] (hT) rfl (by simp) (by simp) (by simp [tkD, tokD]) (by simp) (by simp) ?_
   simp [tkD, tokD, hmul]
   refine ih (dn ++ [t1.t], t3 :: l3) (by first | ((try dsimp only); omega) | (simp <;> omega)) (by (try dsimp only); exact ⟨by simpa using hRk, hl3, by simp; omega⟩) _ _ _ (by simp <;> omega) (by simp <;> omega) (by simp [tkD, tokD] <;> omega)
  ·rw [namesS, if_neg h1] at hRk
   simp only [List.append_nil] at hRk
   subst hRk
   simp [c28t, h1]
   by_cases h2 : t1.k = 12
   ·simp only [tempsE, kd_cons, eq_true h2, if_true, Res.andThen, List.tail_cons] at hin hQ
    refine ATT.callM Tryz.func28 60 [0] (f38_ok t1 l1 d 12 h2 (by decide)) rfl (by simp) (by simp) (by simp) (by simp) (by simp) ?_
    simp
    have hwf0 := (hwf.tail (by simp only [kd_cons, h2]; decide)).1
    simp only [List.tail_cons] at hwf0
    have hin' : stmtsS n d e [] l1 ≠ .out := fun e => hin (by simp [e])
    generalize hR : stmtsS n d e [] l1 = R at hin hQ hin'
    refine ATT.labelG 60 rfl rfl (fun ((m, acc, ds, l) : Nat × List Nd × List D × List Tk) => m) (fun ((m, acc, ds, l) : Nat × List Nd × List D × List Tk) => stmtsS m d e acc l = R ∧ NdRL acc ds ∧ WF l ∧ ds.length + l.length ≤ 5000 ∧ m ≤ n) (fun ((m, acc, ds, l) : Nat × List Nd × List D × List Tk) => [(0, .ptr 0 0), (1, .ptr 1 0), (2, .d (.int .i64 e))]) (fun ((m, acc, ds, l) : Nat × List Nd × List D × List Tk) => [PB l d, .cells [.d a0, .d a1, .d a2, .d a3, .vs 0 (names ++ dn).length 0 (names ++ dn).length, .vs 1 ds.length 0 ds.length] 25]) (fun ((m, acc, ds, l) : Nat × List Nd × List D × List Tk) => [NS (names ++ dn), NV 25 ds]) ((n, [], [], l1)) (by (try dsimp only); exact ⟨hR, by simp [NdRL], hwf0, by simpa using hwf0.2.2, Nat.le_refl _⟩) (by simp <;> omega) (by simp) (by simp) ?_
    intro ⟨m, acc, ds, l⟩ u w hI ih
    try simp only at hI ih
    obtain ⟨hRk, hds, hwf, hnum, hmn⟩ := hI
    obtain ⟨t3, l3, he⟩ := hwf.cons
    subst he
    cases m with
    | zero => exact absurd hRk.symm (by simpa [stmtsS] using hin')
    | succ m =>
     simp only [stmtsS, kd_cons] at hRk
     simp
     refine ATT.callM Tryz.func28 60 [0] (f40_ok t3 l3 d) rfl (by simp) (by simp) (by simp) (by simp) (by simp) ?_
     simp
     by_cases hend : t3.k = e
     ·simp only [eq_true hend, if_true] at hRk
      subst hRk
      simp [eq_true hend]
      refine ATT.fin' hQ Tryz.func28 c28res ?_
      exact ⟨by simp, BR.mk hds (by simp) (by simp) (by simp) (by simp)⟩
     ·simp only [eq_false hend, if_false] at hRk
      have hin2 : stmtS m d (t3 :: l3) ≠ .out := fun e => hin' (by rw [← hRk, e]; rfl)
      simp [c28t, hend]
      refine ATT.callPv Tryz.func28 60 0 (ihS m (by omega) d _ hd hwf hin2) hin2 (by simp) (by simp) rfl (by simp) (fun a w e h1 hi hh hv => hQ _ _ (by rw [← hRk, e]; exact ⟨rfl, ⟨_, by rw [hi 1 (by decide)]; rfl, rfl⟩, by rw [hh]; simp, by simp at hv ⊢; omega⟩)) fun x l' v hx hφ => ?_
      rw [hx] at hRk
      simp only [Res.andThen] at hRk
      obtain ⟨u0, he, hφ⟩ := hφ
      subst he
      obtain ⟨nl1_u0, z1_u0, nl2_u0, z2_u0, ds_u0, hv_u0, ha_u0, hb_u0, hc_u0, hd_u0, he_u0⟩ := hφ.shape
      have hw_u0 := hv_u0
      subst hw_u0
      have hsh := (pres m).stmt hwf hx
      have h2l := hsh.2
      simp only [List.length_cons] at h2l hnum
      have hmul : (ds.length + 1) * 88 ≤ 140737488355328 := by omega
      obtain ⟨t4, l4, he⟩ := hsh.1.cons
      subst he
      simp
      simp only [kd_cons, pl_cons, List.tail_cons] at hRk
      have hir : inR (ds.length : Int) (ds.length + 1) = true := by simp [inR]; omega
      refine ATT.ords 60 (by simp <;> omega) fun o ho => ?_
      simp only [List.mem_cons, List.mem_nil_iff, or_false] at ho
      rcases ho with ho | ho <;> subst ho
      simp [c28t, hir]
      ·simp [hmul]
       refine ATT.callM Tryz.func28 60 [0] (f40_ok t4 l4 d) rfl (by simp) (by simp) (by simp) (by simp) (by simp) ?_
       simp
       by_cases h14 : t4.k = 14
       ·obtain ⟨t5, l5, he, hl5⟩ := hsh.1.two (by rw [h14]; decide)
        subst he
        have hT := f39_ok t4 (t5 :: l5) d
        rw [if_neg (by rw [h14]; decide)] at hT
        simp only [eq_true h14, true_and, if_true, kd_cons, pl_cons] at hRk
        simp [c28t, eq_true h14]
        refine ATT.callM Tryz.func28 60 [0] (hT) rfl (by simp) (by simp) (by simp) (by simp) (by simp) ?_
        simp [c28t]
        cases hlast : x.2 with
        | false =>
         simp only [hlast, if_true] at hRk
         simp
         refine ih (m, acc ++ [x.1], ds ++ [_], t5 :: l5) (by first | ((try dsimp only); omega) | (simp [hir] <;> omega)) (by (try dsimp only); exact ⟨hRk, hds.append (.one hφ), hl5, by simp at h2l ⊢; omega, by omega⟩) _ _ _ _ rfl (by simp <;> omega) (by simp <;> omega) (by simp <;> omega)
        | true =>
         simp only [hlast, Bool.true_eq_false, if_false] at hRk
         simp [c28t]
         refine ATT.callM Tryz.func28 60 [0] (f40_ok t5 l5 d) rfl (by simp) (by simp) (by simp) (by simp) (by simp) ?_
         simp
         by_cases hE : t5.k = e
         ·simp only [eq_true hE, if_true] at hRk
          subst hRk
          simp [eq_true hE]
          refine ATT.fin0' hQ Tryz.func28 c28res ?_
          exact ⟨by simp, BR.mk (hds.append (.one hφ)) (by simp) (by simp) (by simp) (by simp)⟩
         ·simp only [eq_false hE, if_false] at hRk
          subst hRk
          simp [c28t, hE]
          refine ATT.callA Tryz.func28 60 [0] [] 0 0 (f47_ok t5 l5 d 20) (by simp) (by simp) (by simp) (by simp) (by simp) fun out hC hE => ?_
          obtain ⟨e1, e2⟩ := hE
          subst e1
          exact ⟨by simpa using e2, hQ _ _ ⟨by simp [stopV, eSyn], by exact ⟨[_, _, _, _, _, _], by rw [upH_out (by decide) (by simp)]; rfl, rfl⟩, by simp, by simp⟩⟩
       ·simp only [eq_false h14, false_and, if_false] at hRk
        simp [c28t, h14]
        refine ATT.callM Tryz.func28 60 [0] (f40_ok t4 l4 d) rfl (by simp) (by simp) (by simp) (by simp) (by simp) ?_
        simp
        by_cases hE : t4.k = e
        ·simp only [eq_true hE, if_true] at hRk
         subst hRk
         simp [eq_true hE]
         refine ATT.fin0' hQ Tryz.func28 c28res ?_
         exact ⟨by simp, BR.mk (hds.append (.one hφ)) (by simp) (by simp) (by simp) (by simp)⟩
        ·simp only [eq_false hE, if_false] at hRk
         subst hRk
         simp [c28t, hE]
         refine ATT.callA Tryz.func28 60 [0] [] 0 0 (f47_ok t4 l4 d 20) (by simp) (by simp) (by simp) (by simp) (by simp) fun out hC hE => ?_
         obtain ⟨e1, e2⟩ := hE
         subst e1
         exact ⟨by simpa using e2, hQ _ _ ⟨by simp [stopV, eSyn], by exact ⟨[_, _, _, _, _, _], by rw [upH_out (by decide) (by simp)]; rfl, rfl⟩, by simp, by simp⟩⟩
      ·simp [c28t, hmul]
       refine ATT.callM Tryz.func28 60 [0] (f40_ok t4 l4 d) rfl (by simp) (by simp) (by simp) (by simp) (by simp [hir]) ?_
       simp
       by_cases h14 : t4.k = 14
       ·obtain ⟨t5, l5, he, hl5⟩ := hsh.1.two (by rw [h14]; decide)
        subst he
        have hT := f39_ok t4 (t5 :: l5) d
        rw [if_neg (by rw [h14]; decide)] at hT
        simp only [eq_true h14, true_and, if_true, kd_cons, pl_cons] at hRk
        simp [c28t, eq_true h14]
        refine ATT.callM Tryz.func28 60 [0] (hT) rfl (by simp) (by simp) (by simp) (by simp) (by simp) ?_
        simp [c28t]
        cases hlast : x.2 with
        | false =>
         simp only [hlast, if_true] at hRk
         simp
         refine ih (m, acc ++ [x.1], ds ++ [_], t5 :: l5) (by first | ((try dsimp only); omega) | (simp [hir] <;> omega)) (by (try dsimp only); exact ⟨hRk, hds.append (.one hφ), hl5, by simp at h2l ⊢; omega, by omega⟩) _ _ _ _ rfl (by simp <;> omega) (by simp <;> omega) (by simp <;> omega)
        | true =>
         simp only [hlast, Bool.true_eq_false, if_false] at hRk
         simp [c28t]
         refine ATT.callM Tryz.func28 60 [0] (f40_ok t5 l5 d) rfl (by simp) (by simp) (by simp) (by simp) (by simp) ?_
         simp
         by_cases hE : t5.k = e
         ·simp only [eq_true hE, if_true] at hRk
          subst hRk
          simp [eq_true hE]
          refine ATT.fin0' hQ Tryz.func28 c28res ?_
          exact ⟨by simp, BR.mk (hds.append (.one hφ)) (by simp) (by simp) (by simp) (by simp)⟩
         ·simp only [eq_false hE, if_false] at hRk
          subst hRk
          simp [c28t, hE]
          refine ATT.callA Tryz.func28 60 [0] [] 0 0 (f47_ok t5 l5 d 20) (by simp) (by simp) (by simp) (by simp) (by simp) fun out hC hE => ?_
          obtain ⟨e1, e2⟩ := hE
          subst e1
          exact ⟨by simpa using e2, hQ _ _ ⟨by simp [stopV, eSyn], by exact ⟨[_, _, _, _, _, _], by rw [upH_out (by decide) (by simp)]; rfl, rfl⟩, by simp, by simp⟩⟩
       ·simp only [eq_false h14, false_and, if_false] at hRk
        simp [c28t, h14]
        refine ATT.callM Tryz.func28 60 [0] (f40_ok t4 l4 d) rfl (by simp) (by simp) (by simp) (by simp) (by simp) ?_
        simp
        by_cases hE : t4.k = e
        ·simp only [eq_true hE, if_true] at hRk
         subst hRk
         simp [eq_true hE]
         refine ATT.fin0' hQ Tryz.func28 c28res ?_
         exact ⟨by simp, BR.mk (hds.append (.one hφ)) (by simp) (by simp) (by simp) (by simp)⟩
        ·simp only [eq_false hE, if_false] at hRk
         subst hRk
         simp [c28t, hE]
         refine ATT.callA Tryz.func28 60 [0] [] 0 0 (f47_ok t4 l4 d 20) (by simp) (by simp) (by simp) (by simp) (by simp) fun out hC hE => ?_
         obtain ⟨e1, e2⟩ := hE
         subst e1
         exact ⟨by simpa using e2, hQ _ _ ⟨by simp [stopV, eSyn], by exact ⟨[_, _, _, _, _, _], by rw [upH_out (by decide) (by simp)]; rfl, rfl⟩, by simp, by simp⟩⟩
   ·simp only [tempsE, kd_cons, pl_cons, eq_false h2, if_false, Res.andThen] at hQ
    refine ATT.callA Tryz.func28 60 [0] [] 0 0 (f38_no t1 l1 d 12 h2) (by simp) (by simp) (by simp) (by simp) (by simp) fun out hC hE => ?_
    obtain ⟨e1, e2⟩ := hE
    subst e1
    exact ⟨by simpa using e2, hQ _ _ ⟨by simp [stopV, eSyn], by exact ⟨[_, _, _, _, _, _], by rw [upH_out (by decide) (by simp)]; rfl, rfl⟩, by simp, by simp⟩⟩
 ·simp only [tempsS_no h12, Res.andThen] at hin hQ
  simp [h12]
  refine ATT.nilB 1 5 6 25 rfl rfl (by decide) (by simp) ?_
  simp
  have hwf0 := hl
  have hin' : stmtsS n d e [] (t :: r) ≠ .out := fun e => hin (by simp [e])
  generalize hR : stmtsS n d e [] (t :: r) = R at hin hQ hin'
  refine ATT.labelG 60 rfl rfl (fun ((m, acc, ds, l) : Nat × List Nd × List D × List Tk) => m) (fun ((m, acc, ds, l) : Nat × List Nd × List D × List Tk) => stmtsS m d e acc l = R ∧ NdRL acc ds ∧ WF l ∧ ds.length + l.length ≤ 5000 ∧ m ≤ n) (fun ((m, acc, ds, l) : Nat × List Nd × List D × List Tk) => [(0, .ptr 0 0), (1, .ptr 1 0), (2, .d (.int .i64 e))]) (fun ((m, acc, ds, l) : Nat × List Nd × List D × List Tk) => [PB l d, .cells [.d a0, .d a1, .d a2, .d a3, .vs 0 (names).length 0 (names).length, .vs 1 ds.length 0 ds.length] 25]) (fun ((m, acc, ds, l) : Nat × List Nd × List D × List Tk) => [NS (names), NV 25 ds]) ((n, [], [], t :: r)) (by (try dsimp only); exact ⟨hR, by simp [NdRL], hwf0, by simpa using hwf0.2.2, Nat.le_refl _⟩) (by simp <;> omega) (by simp) (by simp) ?_
  intro ⟨m, acc, ds, l⟩ u w hI ih
  try simp only at hI ih
  obtain ⟨hRk, hds, hwf, hnum, hmn⟩ := hI
  obtain ⟨t3, l3, he⟩ := hwf.cons
  subst he
  cases m with
  | zero => exact absurd hRk.symm (by simpa [stmtsS] using hin')
  | succ m =>
   simp only [stmtsS, kd_cons] at hRk
   simp
   refine ATT.callM Tryz.func28 60 [0] (f40_ok t3 l3 d) rfl (by simp) (by simp) (by simp) (by simp) (by simp) ?_
   simp
   by_cases hend : t3.k = e
   ·simp only [eq_true hend, if_true] at hRk
    subst hRk
    simp [eq_true hend]
    refine ATT.fin' hQ Tryz.func28 c28res ?_
    exact ⟨by simp, BR.mk hds (by simp) (by simp) (by simp) (by simp)⟩
   ·simp only [eq_false hend, if_false] at hRk
    have hin2 : stmtS m d (t3 :: l3) ≠ .out := fun e => hin' (by rw [← hRk, e]; rfl)
    simp [c28t, hend]
    refine ATT.callPv Tryz.func28 60 0 (ihS m (by omega) d _ hd hwf hin2) hin2 (by simp) (by simp) rfl (by simp) (fun a w e h1 hi hh hv => hQ _ _ (by rw [← hRk, e]; exact ⟨rfl, ⟨_, by rw [hi 1 (by decide)]; rfl, rfl⟩, by rw [hh]; simp, by simp at hv ⊢; omega⟩)) fun x l' v hx hφ => ?_
    rw [hx] at hRk
    simp only [Res.andThen] at hRk
    obtain ⟨u0, he, hφ⟩ := hφ
    subst he
    obtain ⟨nl1_u0, z1_u0, nl2_u0, z2_u0, ds_u0, hv_u0, ha_u0, hb_u0, hc_u0, hd_u0, he_u0⟩ := hφ.shape
    have hw_u0 := hv_u0
    subst hw_u0
    have hsh := (pres m).stmt hwf hx
    have h2l := hsh.2
    simp only [List.length_cons] at h2l hnum
    have hmul : (ds.length + 1) * 88 ≤ 140737488355328 := by omega
    obtain ⟨t4, l4, he⟩ := hsh.1.cons
    subst he
    simp
    simp only [kd_cons, pl_cons, List.tail_cons] at hRk
    have hir : inR (ds.length : Int) (ds.length + 1) = true := by simp [inR]; omega
    refine ATT.ords 60 (by simp <;> omega) fun o ho => ?_
    simp only [List.mem_cons, List.mem_nil_iff, or_false] at ho
    rcases ho with ho | ho <;> subst ho
    simp [c28t, hir]
    ·simp [hmul]
     refine ATT.callM Tryz.func28 60 [0] (f40_ok t4 l4 d) rfl (by simp) (by simp) (by simp) (by simp) (by simp) ?_
     simp
     by_cases h14 : t4.k = 14
     ·obtain ⟨t5, l5, he, hl5⟩ := hsh.1.two (by rw [h14]; decide)
      subst he
      have hT := f39_ok t4 (t5 :: l5) d
      rw [if_neg (by rw [h14]; decide)] at hT
      simp only [eq_true h14, true_and, if_true, kd_cons, pl_cons] at hRk
      simp [c28t, eq_true h14]
      refine ATT.callM Tryz.func28 60 [0] (hT) rfl (by simp) (by simp) (by simp) (by simp) (by simp) ?_
      simp [c28t]
      cases hlast : x.2 with
      | false =>
       simp only [hlast, if_true] at hRk
       simp
       refine ih (m, acc ++ [x.1], ds ++ [_], t5 :: l5) (by first | ((try dsimp only); omega) | (simp [hir] <;> omega)) (by (try dsimp only); exact ⟨hRk, hds.append (.one hφ), hl5, by simp at h2l ⊢; omega, by omega⟩) _ _ _ _ rfl (by simp <;> omega) (by simp <;> omega) (by simp <;> omega)
      | true =>
       simp only [hlast, Bool.true_eq_false, if_false] at hRk
       simp [c28t]
       refine ATT.callM Tryz.func28 60 [0] (f40_ok t5 l5 d) rfl (by simp) (by simp) (by simp) (by simp) (by simp) ?_
       simp
       by_cases hE : t5.k = e
       ·simp only [eq_true hE, if_true] at hRk
        subst hRk
        simp [eq_true hE]
        refine ATT.fin0' hQ Tryz.func28 c28res ?_
        exact ⟨by simp, BR.mk (hds.append (.one hφ)) (by simp) (by simp) (by simp) (by simp)⟩
       ·simp only [eq_false hE, if_false] at hRk
        subst hRk
        simp [c28t, hE]
        refine ATT.callA Tryz.func28 60 [0] [] 0 0 (f47_ok t5 l5 d 20) (by simp) (by simp) (by simp) (by simp) (by simp) fun out hC hE => ?_
        obtain ⟨e1, e2⟩ := hE
        subst e1
        exact ⟨by simpa using e2, hQ _ _ ⟨by simp [stopV, eSyn], by exact ⟨[_, _, _, _, _, _], by rw [upH_out (by decide) (by simp)]; rfl, rfl⟩, by simp, by simp⟩⟩
     ·simp only [eq_false h14, false_and, if_false] at hRk
      simp [c28t, h14]
      refine ATT.callM Tryz.func28 60 [0] (f40_ok t4 l4 d) rfl (by simp) (by simp) (by simp) (by simp) (by simp) ?_
      simp
      by_cases hE : t4.k = e
      ·simp only [eq_true hE, if_true] at hRk
       subst hRk
       simp [eq_true hE]
       refine ATT.fin0' hQ Tryz.func28 c28res ?_
       exact ⟨by simp, BR.mk (hds.append (.one hφ)) (by simp) (by simp) (by simp) (by simp)⟩
      ·simp only [eq_false hE, if_false] at hRk
       subst hRk
       simp [c28t, hE]
       refine ATT.callA Tryz.func28 60 [0] [] 0 0 (f47_ok t4 l4 d 20) (by simp) (by simp) (by simp) (by simp) (by simp) fun out hC hE => ?_
       obtain ⟨e1, e2⟩ := hE
       subst e1
       exact ⟨by simpa using e2, hQ _ _ ⟨by simp [stopV, eSyn], by exact ⟨[_, _, _, _, _, _], by rw [upH_out (by decide) (by simp)]; rfl, rfl⟩, by simp, by simp⟩⟩
    ·simp [c28t, hmul]
     refine ATT.callM Tryz.func28 60 [0] (f40_ok t4 l4 d) rfl (by simp) (by simp) (by simp) (by simp) (by simp [hir]) ?_
     simp
     by_cases h14 : t4.k = 14
     ·obtain ⟨t5, l5, he, hl5⟩ := hsh.1.two (by rw [h14]; decide)
      subst he
      have hT := f39_ok t4 (t5 :: l5) d
      rw [if_neg (by rw [h14]; decide)] at hT
      simp only [eq_true h14, true_and, if_true, kd_cons, pl_cons] at hRk
      simp [c28t, eq_true h14]
      refine ATT.callM Tryz.func28 60 [0] (hT) rfl (by simp) (by simp) (by simp) (by simp) (by simp) ?_
      simp [c28t]
      cases hlast : x.2 with
      | false =>
       simp only [hlast, if_true] at hRk
       simp
       refine ih (m, acc ++ [x.1], ds ++ [_], t5 :: l5) (by first | ((try dsimp only); omega) | (simp [hir] <;> omega)) (by (try dsimp only); exact ⟨hRk, hds.append (.one hφ), hl5, by simp at h2l ⊢; omega, by omega⟩) _ _ _ _ rfl (by simp <;> omega) (by simp <;> omega) (by simp <;> omega)
      | true =>
       simp only [hlast, Bool.true_eq_false, if_false] at hRk
       simp [c28t]
       refine ATT.callM Tryz.func28 60 [0] (f40_ok t5 l5 d) rfl (by simp) (by simp) (by simp) (by simp) (by simp) ?_
       simp
       by_cases hE : t5.k = e
       ·simp only [eq_true hE, if_true] at hRk
        subst hRk
        simp [eq_true hE]
        refine ATT.fin0' hQ Tryz.func28 c28res ?_
        exact ⟨by simp, BR.mk (hds.append (.one hφ)) (by simp) (by simp) (by simp) (by simp)⟩
       ·simp only [eq_false hE, if_false] at hRk
        subst hRk
        simp [c28t, hE]
        refine ATT.callA Tryz.func28 60 [0] [] 0 0 (f47_ok t5 l5 d 20) (by simp) (by simp) (by simp) (by simp) (by simp) fun out hC hE => ?_
        obtain ⟨e1, e2⟩ := hE
        subst e1
        exact ⟨by simpa using e2, hQ _ _ ⟨by simp [stopV, eSyn], by exact ⟨[_, _, _, _, _, _], by rw [upH_out (by decide) (by simp)]; rfl, rfl⟩, by simp, by simp⟩⟩
     ·simp only [eq_false h14, false_and, if_false] at hRk
      simp [c28t, h14]
      refine ATT.callM Tryz.func28 60 [0] (f40_ok t4 l4 d) rfl (by simp) (by simp) (by simp) (by simp) (by simp) ?_
      simp
      by_cases hE : t4.k = e
      ·simp only [eq_true hE, if_true] at hRk
       subst hRk
       simp [eq_true hE]
       refine ATT.fin0' hQ Tryz.func28 c28res ?_
       exact ⟨by simp, BR.mk (hds.append (.one hφ)) (by simp) (by simp) (by simp) (by simp)⟩
      ·simp only [eq_false hE, if_false] at hRk
       subst hRk
       simp [c28t, hE]
       refine ATT.callA Tryz.func28 60 [0] [] 0 0 (f47_ok t4 l4 d 20) (by simp) (by simp) (by simp) (by simp) (by simp) fun out hC hE => ?_
       obtain ⟨e1, e2⟩ := hE
       subst e1
       exact ⟨by simpa using e2, hQ _ _ ⟨by simp [stopV, eSyn], by exact ⟨[_, _, _, _, _, _], by rw [upH_out (by decide) (by simp)]; rfl, rfl⟩, by simp, by simp⟩⟩
end Go.SL
namespace Go.SL
open Go.Proofs
set_option maxRecDepth 10000
theorem stmtsS_end : ∀ (n d : Nat) (e : Int) (acc : List Nd) (l : List Tk) (xs : List Nd) (r : List Tk), stmtsS n d e acc l = .ok xs r → kd r = e
 | 0, _, _, _, _, _, _, h => by simp [stmtsS] at h
 | n + 1, d, e, acc, l, xs, r, h => by
  simp only [stmtsS] at h
  split at h
  ·rename_i h9
   simp only [Res.ok.injEq] at h; rw [← h.2]; exact h9
  ·obtain ⟨m, r', _, e2⟩ := andThen_ok h
   split at e2
   ·exact stmtsS_end n d _ _ _ _ _ e2
   split at e2
   ·split at e2
    ·rename_i h9
     simp only [Res.ok.injEq] at e2; rw [← e2.2]; exact h9
    ·simp at e2
   split at e2
   ·rename_i h9
    simp only [Res.ok.injEq] at e2; rw [← e2.2]; exact h9
   ·simp at e2
theorem bodyS_end {n d : Nat} {e : Int} {l r : List Tk} {x : List ByteArray × List Nd} (h : bodyS n d e l = .ok x r) : kd r = e := by
 cases n with
 | zero => simp [bodyS] at h
 | succ n =>
  simp only [bodyS] at h
  obtain ⟨m, r', _, e2⟩ := andThen_ok h
  obtain ⟨m, r', e3, e4⟩ := andThen_ok e2
  simp only [Res.ok.injEq] at e4
  rw [← e4.2]; exact stmtsS_end _ _ _ _ _ _ _ e3
theorem andThen_okE {α β : Type} (x : α) (r : List Tk) (f : α → List Tk → Res β) : (Res.ok x r).andThen f = f x r := rfl
theorem andThen_noE {α β : Type} (a : Nat) (w : Int) (f : α → List Tk → Res β) : (Res.no a w).andThen f = .no a w := rfl
def blkS (n d : Nat) (l : List Tk) : Res (Nat × List ByteArray × List Nd) :=
 (argsS n l).andThen fun ns r =>
  if ns.length ≠ 0 ∧ kd r ≠ 11 then
   (if kd r = 12 then (bodyS n d 11 r.tail).andThen fun x r' => .ok (ns.length, ns ++ x.1, x.2) r'.tail else .no (pl r) eSyn)
  else (bodyS n d 11 r).andThen fun x r' => .ok (ns.length, ns ++ x.1, x.2) r'.tail
theorem blockS_eq (n d : Nat) (l : List Tk) : blockS (n + 1) d l = if d = 40 then .no (pl l) eSize else (blkS n (d + 1) l.tail).andThen fun x r => .ok (.mk 10 ⟨#[]⟩ (pl l) x.1 x.2.1 x.2.2) r := by
 simp only [blockS, blkS]
 split
 ·rfl
 ·cases argsS n l.tail with
  | ok ns r =>
   simp only [Res.andThen]
   split
   ·split
    ·cases bodyS n (d + 1) 11 r.tail <;> rfl
    ·rfl
   ·cases bodyS n (d + 1) 11 r <;> rfl
  | no a w => rfl
  | out => rfl
theorem blkS_args {n d : Nat} {l : List Tk} (h : blkS n d l ≠ .out) : argsS n l ≠ .out := fun e => h (by simp [blkS, e, Res.andThen])
theorem BKR.mk {S : Res (Nat × List ByteArray × List Nd)} {a0 a1 a2 : D} {d k : Nat} {nm : List ByteArray} {xk : List Nd} {lo : List Tk} {ds : List D} {x3 x4 x5 : V} {b : List Bx} {c : List (Option Vec)} (hS : S = .ok (k, nm, xk) lo) (hds : NdRL xk ds)
  (h3 : x3 = .d (.int .i64 k)) (h4 : x4 = .d (.sl nm.isEmpty 1 (nm.map .str))) (h5 : x5 = .d (.sl ds.isEmpty 6 ds)) :
  ∃ l' nd' b' c', Out.ret (.d (.tup [])) = .ret (.d (.tup [])) ∧ (⟨.cells [.d (.sl false 3 (lo.map tkD)), .d (.int .i64 d)] 55 :: PP :: .cells [.d a0, .d a1, .d a2, x3, x4, x5] 25 :: b, c⟩ : H) = ⟨PB l' d :: PP :: .cells (nd'.map .d) 25 :: b', c'⟩ ∧
   ∃ x n1 z1 n2 z2 ds, S = .ok x l' ∧ nd' = [a0, a1, a2, .int .i64 x.1, .sl n1 z1 (x.2.1.map .str), .sl n2 z2 ds] ∧
    (n1 = true → x.2.1 = []) ∧ (n1 = false → z1 = 1) ∧ (n2 = true → x.2.2 = []) ∧ (n2 = false → z2 = 6) ∧ NdRL x.2.2 ds := by
 subst h3 h4 h5
 refine ⟨lo, [a0, a1, a2, .int .i64 k, .sl nm.isEmpty 1 (nm.map .str), .sl ds.isEmpty 6 ds], b, c, rfl, rfl, (k, nm, xk), _, _, _, _, ds, hS, rfl, ?_, fun _ => rfl, ?_, fun _ => rfl, hds⟩
 ·intro h; simpa using h
 ·intro h
  have : ds = [] := by simpa using h
  have h2 := hds.length
  rw [this] at h2
  exact List.length_eq_zero_iff.mp h2.symm
set_option maxHeartbeats 2000000 in
theorem f161_ok (n : Nat) (ihB : BodyC n) (d : Nat) (l : List Tk) (hd : d ≤ 40) (hl : WF l) (hin : blkS n d l ≠ .out) (a0 a1 a2 : D) :
  AF Tryz.prog 161 [.ptr 1 0, .ptr 2 0] ⟨[PB l d, PP, .cells [.d a0, .d a1, .d a2, .d (.int .i64 0), .d (.sl true 0 []), .d (.sl true 0 [])] 25], []⟩ fun o h =>
   (∃ l' nd' b c, o = .ret (.d (.tup [])) ∧ h = ⟨PB l' d :: PP :: .cells (nd'.map .d) 25 :: b, c⟩ ∧ ∃ x n1 z1 n2 z2 ds, blkS n d l = .ok x l' ∧ nd' = [a0, a1, a2, .int .i64 x.1, .sl n1 z1 (x.2.1.map .str), .sl n2 z2 ds] ∧
    (n1 = true → x.2.1 = []) ∧ (n1 = false → z1 = 1) ∧ (n2 = true → x.2.2 = []) ∧ (n2 = false → z2 = 6) ∧ NdRL x.2.2 ds) ∨ (∃ a w, o = .pan (stopV a w) ∧ 3 ≤ h.bx.length ∧ blkS n d l = .no a w) := by
 refine AF.start' 60 Tryz.func161 rfl rfl c161call c161ok fun Q hQ => ?_
 simp [c161c]
 refine ATT.nilB 2 4 1 9 rfl rfl (by decide) (by simp) ?_
 simp
 have hin0 := blkS_args hin
 simp only [blkS] at hin hQ
 generalize hR : argsS n l = R at hQ hin hin0
 refine ATT.loopG 60 c161l3.eq_1 (fun ((m, dn, l) : Nat × List ByteArray × List Tk) => m) (fun ((m, dn, l) : Nat × List ByteArray × List Tk) => ((argsS m l).andThen fun x r => Res.ok (dn ++ x) r) = R ∧ WF l ∧ dn.length + l.length ≤ 5000) (fun ((m, dn, l) : Nat × List ByteArray × List Tk) => [(0, .ptr 1 0), (1, .ptr 2 0)]) (fun ((m, dn, l) : Nat × List ByteArray × List Tk) => [PB l d, PP, .cells [.d a0, .d a1, .d a2, .d (.int .i64 0), .vs 0 dn.length 0 dn.length, .d (.sl true 0 [])] 25]) (fun ((m, dn, l) : Nat × List ByteArray × List Tk) => [NS dn]) ((n, [], l)) (by (try dsimp only); exact ⟨by rw [← hR]; cases argsS n l <;> rfl, hl, by simpa using hl.2.2⟩) (by simp <;> omega) (by simp) (by simp) ?_
 intro ⟨m, dn, l⟩ u w hI ih
 try simp only at hI ih
 obtain ⟨hRk, hwf, hnum⟩ := hI
 obtain ⟨t1, l1, he⟩ := hwf.cons
 subst he
 cases m with
 | zero => exact absurd hRk.symm (by simpa [argsS, Res.andThen] using hin0)
 | succ m =>
  simp [c161t]
  refine ATT.callM Tryz.func161 60 [0] (f40_ok t1 l1 d) rfl (by simp) (by simp) (by simp) (by simp) (by simp) ?_
  simp
  by_cases h16 : t1.k = 16
  ·obtain ⟨t2, l2, he, hl2⟩ := hwf.two (by rw [h16]; decide)
   subst he
   have hT := f39_ok t1 (t2 :: l2) d
   rw [if_neg (by rw [h16]; decide)] at hT
   simp only [argsS, kd_cons, eq_true h16, if_true, List.tail_cons, pl_cons, tx_cons] at hRk
   simp only [List.length_cons] at hnum
   simp [c161t, eq_true h16]
   refine ATT.callM Tryz.func161 60 [0] (hT) rfl (by simp) (by simp) (by simp) (by simp) (by simp) ?_
   simp
   by_cases h1 : t2.k = 1
   ·have hmul : (dn.length + 1) * 16 ≤ 140737488355328 := by omega
    simp only [eq_true h1, if_true] at hRk
    have hw2 := (hl2.tail (by simp only [kd_cons, h1]; decide)).1
    simp only [List.tail_cons] at hw2
    refine ATT.callRM Tryz.func161 60 [0] (f38_ok t2 l2 d 1 h1 (by decide)) rfl (by simp) (by simp [tkD, tokD]) (by simp [tkD, tokD]) (by simp) (by simp) ?_
    simp [tkD, tokD, hmul]
    refine ih (m, dn ++ [t2.t], l2) (by first | ((try dsimp only); omega) | (simp [tkD, tokD] <;> omega)) (by (try dsimp only); exact ⟨by rw [← hRk]; cases argsS m l2 <;> simp [Res.andThen], hw2, by simp; omega⟩) _ _ _ (by simp <;> omega) (by simp <;> omega) (by simp <;> omega)
   ·simp only [eq_false h1, if_false, Res.andThen] at hRk
    subst hRk
    refine ATT.callRA Tryz.func161 60 [0] [] 0 0 (f38_no t2 l2 d 1 h1) (by simp) (by simp) (by simp) (by simp) (by simp) fun out hC hE => ?_
    obtain ⟨e1, e2⟩ := hE
    subst e1
    exact ⟨by simpa using e2, hQ _ _ (.inr ⟨_, _, rfl, by simp, by simp [eSyn, Res.andThen]⟩)⟩
  ·simp only [argsS, kd_cons, eq_false h16, if_false, Res.andThen, List.append_nil] at hRk
   subst hRk
   simp [c161t, h16]
   simp only [andThen_okE, kd_cons, List.tail_cons, pl_cons] at hQ hin
   cases dn with
   | nil =>
    have hwfB := hwf
    simp only [List.length_nil, ne_eq, not_true_eq_false, false_and, if_false] at hQ hin
    simp [c161t]
    have hinB : bodyS n d 11 (t1 :: l1) ≠ .out := fun e => hin (by rw [e]; rfl)
    have hC := ihB d (t1 :: l1) 11 (([] : List ByteArray)) a0 a1 a2 (.int .i64 (([] : List ByteArray) : List ByteArray).length) hd hwfB (by simp only [List.length_cons] at hnum ⊢; omega) hinB
    refine ATT.callA Tryz.func161 60 [0, 2] [0] 0 1 (hC) (by simp) (by simp) (by simp) (by simp) (by simp) fun out hC hE => ?_
    cases hres : bodyS n d 11 (t1 :: l1) with
    | ok x r =>
     simp only [hres, BR] at hE
     obtain ⟨b, c, ds, e1, e2, hds⟩ := hE
     subst e1 e2
     simp only [hres, andThen_okE] at hQ
     refine ⟨by simp, ?_⟩
     have hk := bodyS_end hres
     obtain ⟨t8, l8, he⟩ := ((pres n).body hwfB hres).1.1.cons
     subst he
     have hT := f39_ok t8 l8 d
     rw [if_neg (by rw [show t8.k = 11 from hk]; decide)] at hT
     simp [c161t]
     refine ATT.callM Tryz.func161 60 [0] (hT) rfl (by simp) (by simp) (by simp) (by simp) (by simp) ?_
     simp
     obtain ⟨xn, xk⟩ := x
     cases ds with
     | nil =>
      cases hxn : xn with
      | nil =>
       refine ATT.fz0 ?_
       simp
       refine ATT.fin0' hQ Tryz.func161 c161res ?_
       exact ⟨by simp, .inl (BKR.mk (nm := (([] : List ByteArray)) ++ []) (ds := []) (by rw [hxn]; rfl) hds (by simp) (by simp) (by simp))⟩
      | cons y yr =>
       refine ATT.fz0 ?_
       simp
       refine ATT.fin0' hQ Tryz.func161 c161res ?_
       exact ⟨by simp, .inl (BKR.mk (nm := (([] : List ByteArray)) ++ y :: yr) (ds := []) (by rw [hxn]; rfl) hds (by simp) (by simp) (by simp))⟩
     | cons d0 ds =>
      cases hxn : xn with
      | nil =>
       refine ATT.fz0 ?_
       simp
       refine ATT.fin0' hQ Tryz.func161 c161res ?_
       exact ⟨by simp, .inl (BKR.mk (nm := (([] : List ByteArray)) ++ []) (ds := d0 :: ds) (by rw [hxn]; rfl) hds (by simp) (by simp) (by simp))⟩
      | cons y yr =>
       refine ATT.fz0 ?_
       simp
       refine ATT.fin0' hQ Tryz.func161 c161res ?_
       exact ⟨by simp, .inl (BKR.mk (nm := (([] : List ByteArray)) ++ y :: yr) (ds := d0 :: ds) (by rw [hxn]; rfl) hds (by simp) (by simp) (by simp))⟩
    | no a w =>
     simp only [hres, BR] at hE
     obtain ⟨e1, _, e2, e3⟩ := hE
     subst e1
     simp only [hres, andThen_noE] at hQ
     exact ⟨by simp only [List.length_cons, List.length_nil]; omega, hQ _ _ (.inr ⟨_, _, by simp [stopV], by simp, rfl⟩)⟩
    | out => exact absurd hres hinB
   | cons n0 nr =>
    by_cases h11 : t1.k = 11
    ·have hwfB := hwf
     simp only [eq_true h11, ne_eq, not_true_eq_false, and_false, if_false] at hQ hin
     simp
     refine ATT.callM Tryz.func161 60 [0] (f40_ok t1 l1 d) rfl (by simp) (by simp) (by simp) (by simp) (by simp) ?_
     simp [c161t, eq_true h11]
     have hinB : bodyS n d 11 (t1 :: l1) ≠ .out := fun e => hin (by rw [e]; rfl)
     have hC := ihB d (t1 :: l1) 11 ((n0 :: nr)) a0 a1 a2 (.int .i64 ((n0 :: nr) : List ByteArray).length) hd hwfB (by simp only [List.length_cons] at hnum ⊢; omega) hinB
     refine ATT.callA Tryz.func161 60 [0, 2] [0] 0 1 (hC) (by simp) (by simp) (by simp) (by simp) (by simp) fun out hC hE => ?_
     cases hres : bodyS n d 11 (t1 :: l1) with
     | ok x r =>
      simp only [hres, BR] at hE
      obtain ⟨b, c, ds, e1, e2, hds⟩ := hE
      subst e1 e2
      simp only [hres, andThen_okE] at hQ
      refine ⟨by simp, ?_⟩
      have hk := bodyS_end hres
      obtain ⟨t8, l8, he⟩ := ((pres n).body hwfB hres).1.1.cons
      subst he
      have hT := f39_ok t8 l8 d
      rw [if_neg (by rw [show t8.k = 11 from hk]; decide)] at hT
      simp [c161t]
      refine ATT.callM Tryz.func161 60 [0] (hT) rfl (by simp) (by simp) (by simp) (by simp) (by simp) ?_
      simp
      obtain ⟨xn, xk⟩ := x
      cases ds with
      | nil =>
       refine ATT.fz0 ?_
       simp
       refine ATT.fin0' hQ Tryz.func161 c161res ?_
       exact ⟨by simp, .inl (BKR.mk (nm := ((n0 :: nr)) ++ xn) (ds := []) rfl hds (by simp) (by simp) (by simp))⟩
      | cons d0 ds =>
       refine ATT.fz0 ?_
       simp
       refine ATT.fin0' hQ Tryz.func161 c161res ?_
       exact ⟨by simp, .inl (BKR.mk (nm := ((n0 :: nr)) ++ xn) (ds := d0 :: ds) rfl hds (by simp) (by simp) (by simp))⟩
     | no a w =>
      simp only [hres, BR] at hE
      obtain ⟨e1, _, e2, e3⟩ := hE
      subst e1
      simp only [hres, andThen_noE] at hQ
      exact ⟨by simp only [List.length_cons, List.length_nil]; omega, hQ _ _ (.inr ⟨_, _, by simp [stopV], by simp, rfl⟩)⟩
     | out => exact absurd hres hinB
    ·simp only [eq_false h11, List.length_cons, ne_eq, not_false_eq_true, and_true, Nat.add_one_ne_zero, if_true] at hQ hin
     simp
     refine ATT.callM Tryz.func161 60 [0] (f40_ok t1 l1 d) rfl (by simp) (by simp) (by simp) (by simp) (by simp) ?_
     simp [c161t, h11]
     by_cases h12 : t1.k = 12
     ·simp only [eq_true h12, if_true] at hQ hin
      have hwfB := (hwf.tail (by simp only [kd_cons, h12]; decide)).1
      simp only [List.tail_cons] at hwfB
      refine ATT.callM Tryz.func161 60 [0] (f38_ok t1 l1 d 12 h12 (by decide)) rfl (by simp) (by simp) (by simp) (by simp) (by simp) ?_
      simp [c161t]
      have hinB : bodyS n d 11 (l1) ≠ .out := fun e => hin (by rw [e]; rfl)
      have hC := ihB d (l1) 11 ((n0 :: nr)) a0 a1 a2 (.int .i64 ((n0 :: nr) : List ByteArray).length) hd hwfB (by simp only [List.length_cons] at hnum ⊢; omega) hinB
      refine ATT.callA Tryz.func161 60 [0, 2] [0] 0 1 (hC) (by simp) (by simp) (by simp) (by simp) (by simp) fun out hC hE => ?_
      cases hres : bodyS n d 11 (l1) with
      | ok x r =>
       simp only [hres, BR] at hE
       obtain ⟨b, c, ds, e1, e2, hds⟩ := hE
       subst e1 e2
       simp only [hres, andThen_okE] at hQ
       refine ⟨by simp, ?_⟩
       have hk := bodyS_end hres
       obtain ⟨t8, l8, he⟩ := ((pres n).body hwfB hres).1.1.cons
       subst he
       have hT := f39_ok t8 l8 d
       rw [if_neg (by rw [show t8.k = 11 from hk]; decide)] at hT
       simp [c161t]
       refine ATT.callM Tryz.func161 60 [0] (hT) rfl (by simp) (by simp) (by simp) (by simp) (by simp) ?_
       simp
       obtain ⟨xn, xk⟩ := x
       cases ds with
       | nil =>
        refine ATT.fz0 ?_
        simp
        refine ATT.fin0' hQ Tryz.func161 c161res ?_
        exact ⟨by simp, .inl (BKR.mk (nm := ((n0 :: nr)) ++ xn) (ds := []) rfl hds (by simp) (by simp) (by simp))⟩
       | cons d0 ds =>
        refine ATT.fz0 ?_
        simp
        refine ATT.fin0' hQ Tryz.func161 c161res ?_
        exact ⟨by simp, .inl (BKR.mk (nm := ((n0 :: nr)) ++ xn) (ds := d0 :: ds) rfl hds (by simp) (by simp) (by simp))⟩
      | no a w =>
       simp only [hres, BR] at hE
       obtain ⟨e1, _, e2, e3⟩ := hE
       subst e1
       simp only [hres, andThen_noE] at hQ
       exact ⟨by simp only [List.length_cons, List.length_nil]; omega, hQ _ _ (.inr ⟨_, _, by simp [stopV], by simp, rfl⟩)⟩
      | out => exact absurd hres hinB
     ·simp only [eq_false h12, if_false] at hQ hin
      refine ATT.callA Tryz.func161 60 [0] [] 0 0 (f38_no t1 l1 d 12 h12) (by simp) (by simp) (by simp) (by simp) (by simp) fun out hC hE => ?_
      obtain ⟨e1, e2⟩ := hE
      subst e1
      exact ⟨by simpa using e2, hQ _ _ (.inr ⟨_, _, rfl, by simp, by simp [eSyn]⟩)⟩
end Go.SL
namespace Go.SL
open Go.Proofs
set_option maxRecDepth 10000
theorem f156_ok (n : Nat) (ihB : BodyC n) : BlockC (n + 1) := by
 intro d l hd hl hkl hin
 obtain ⟨t, r, e⟩ := hl.cons
 subst e
 rw [blockS_eq] at hin ⊢
 simp only [pl_cons, List.tail_cons] at hin ⊢
 have hk0 : t.k ≠ 0 := by
  intro h0
  simp only [kd_cons, h0] at hkl
  exact absurd hkl (by decide)
 obtain ⟨t2, l2, e, hl2⟩ := hl.two hk0
 subst e
 refine AF.start' 60 Tryz.func156 rfl rfl c156call c156ok fun Q hQ => ?_
 simp [c156c, c156t, tkD, tokD]
 by_cases h40 : d = 40
 ·subst h40
  simp only [if_true] at hQ
  refine ATT.callA Tryz.func156 60 [0, 1, 3] [] 0 0 (f104_no t (t2 :: l2) [.int .i64 10, .str ⟨#[]⟩, .int .i64 t.a, .int .i64 0, .sl true 0 [], .sl true 0 []] 25 161 [.ptr 1 0, .ptr 2 0]) (by simp) (by simp) (by simp [tkD, tokD]) (by simp) (by simp) fun out hC hE => ?_
  obtain ⟨e1, e2⟩ := hE
  subst e1
  exact ⟨by simpa using e2, hQ _ _ ⟨by simp [stopV, eSize], by simp⟩⟩
 ·rw [if_neg h40] at hQ hin
  have hin' : blkS n (d + 1) (t2 :: l2) ≠ .out := fun e => hin (by simp [e, Res.andThen])
  have hcl := f161_ok n ihB (d + 1) (t2 :: l2) (by omega) hl2 hin' (.int .i64 10) (.str ⟨#[]⟩) (.int .i64 t.a)
  have hW := f104_ok t hk0 (t2 :: l2) [.int .i64 10, .str ⟨#[]⟩, .int .i64 t.a, .int .i64 0, .sl true 0 [], .sl true 0 []] 25 d (by omega) 161 [.ptr 1 0, .ptr 2 0] rfl rfl _ _ hcl
  refine ATT.callA Tryz.func156 60 [0, 1, 3] [] 0 0 (hW) (by simp) (by simp) (by simp [tkD, tokD]) (by simp) (by simp) fun out hC hE => ?_
  rcases hE with ⟨l', nd', b, c, e1, e2, x, n1, z1, n2, z2, ds, hx, hnd, h1, h2, h3, h4, hds⟩ | ⟨a, w, e1, e2, hx⟩
  ·subst e1 e2 hnd
   refine ⟨by simp, ?_⟩
   simp [c156t]
   simp only [hx, Res.andThen] at hQ
   refine ATT.fin' hQ Tryz.func156 c156res ?_
   exact ⟨by simp, _, _, _, rfl, rfl, NdR.mk h1 h2 h3 h4 hds⟩
  ·subst e1
   simp only [hx, Res.andThen] at hQ
   exact ⟨by simpa using e2, hQ _ _ ⟨by simp [stopV], by simp⟩⟩
structure AllC (n : Nat) : Prop where
 expr : ExprC n
 casc : CascC n
 msg : MsgC n
 keyed : KeyedC n
 binary : BinaryC n
 unary : UnaryC n
 prim : PrimC n
 list : ListC n
 elem : ElemC n
 block : BlockC n
 stmt : StmtC n
 body : BodyC n
theorem allC_le : ∀ n m, m ≤ n → AllC m
 | 0, 0, _ => by
  constructor <;> intro d l <;> intros <;> rename_i h <;> exact absurd (by simp [exprS, cascS, msgS, keyedS, binaryS, unaryS, primS, listS, elemS, blockS, stmtS, bodyS]) h
 | 0, m + 1, h => absurd h (by omega)
 | n + 1, m, h => by
  rcases Nat.lt_or_ge m (n + 1) with h' | h'
  ·exact allC_le n m (by omega)
  ·have : m = n + 1 := by omega
   subst this
   have ih := allC_le n
   exact {
    expr := f76_ok n (ih n (Nat.le_refl _)).expr (ih n (Nat.le_refl _)).casc
    casc := f106_ok n (ih n (Nat.le_refl _)).keyed fun m h => (ih m h).msg
    msg := f122_ok n (fun m h => (ih m h).binary) (ih n (Nat.le_refl _)).unary
    keyed := f121_ok n (ih n (Nat.le_refl _)).msg (ih n (Nat.le_refl _)).binary
    binary := f137_ok n (fun m h => (ih m h).msg) (ih n (Nat.le_refl _)).unary
    unary := f138_ok n (fun m h => (ih m h).msg) (ih n (Nat.le_refl _)).prim
    prim := f148_ok n (ih n (Nat.le_refl _)).expr (ih n (Nat.le_refl _)).list (ih n (Nat.le_refl _)).block
    list := f155_ok n fun m h => (ih m h).elem
    elem := f160_ok n (ih n (Nat.le_refl _)).list
    block := f156_ok n (ih n (Nat.le_refl _)).body
    stmt := f46_ok n (ih n (Nat.le_refl _)).expr
    body := f28_ok n fun m h => (ih m h).stmt }
theorem allC (n : Nat) : AllC n := allC_le n n (Nat.le_refl _)
end Go.SL
namespace Go.SL
open Go.Proofs
set_option maxRecDepth 10000
abbrev NP : Bx := .cells [.ptr 1 0] 44
abbrev UB (k : Int) (t : ByteArray) (n m : Nat) : Bx := .cells [.d (.int .i64 k), .d (.str t), .d (.int .i64 0), .d (.int .i64 n), .vs 0 m 0 m, .d (.sl true 0 [])] 25
theorem bx_four {l : List Bx} {b : Bx} (h : l[1]? = some b) (h4 : 4 ≤ l.length) : ∃ a c d r, l = a :: b :: c :: d :: r := by
 match l, h, h4 with
 | a :: x :: c :: d :: r, h, _ => simp at h; subst h; exact ⟨a, c, d, r, rfl⟩
theorem f37_ok (t : Tk) (l : List Tk) (d : Nat) (h1 : t.k = 1) (k : Int) (s : ByteArray) (n : Nat) (nm : List ByteArray) (hn : nm.length ≤ 5000) :
  AF Tryz.prog 37 [.ptr 3 0, .ptr 2 0] ⟨[PB (t :: l) d, UB k s n nm.length, .cells [.ptr 0 0] 43, NP], [NS nm]⟩ fun o h =>
   ∃ b c, o = .ret (.d (.tup [])) ∧ h = ⟨PB l d :: UB k s n (nm.length + 1) :: .cells [.ptr 0 0] 43 :: NP :: b, NS (nm ++ [t.t]) :: c⟩ := by
 have hmul : (nm.length + 1) * 16 ≤ 140737488355328 := by omega
 refine AF.start' 60 Tryz.func37 rfl rfl c37call c37ok fun Q hQ => ?_
 simp [c37c, c37t]
 refine ATT.callRM Tryz.func37 60 [0] (f38_ok t l d 1 h1 (by decide)) rfl (by simp) (by simp) (by simp [tkD, tokD]) (by simp) (by simp) ?_
 simp [tkD, tokD, hmul]
 refine ATT.fin0' hQ Tryz.func37 c37res ?_
 exact ⟨by simp, [], [some ⟨false, 1, 0, [.d (.str t.t)], 9⟩], rfl, by simp⟩
theorem f37_no (t : Tk) (l : List Tk) (d : Nat) (h1 : ¬ t.k = 1) (k : Int) (s : ByteArray) (n : Nat) (nm : List ByteArray) :
  AF Tryz.prog 37 [.ptr 3 0, .ptr 2 0] ⟨[PB (t :: l) d, UB k s n nm.length, .cells [.ptr 0 0] 43, NP], [NS nm]⟩ fun o h =>
   o = .pan (stopV t.a 20) ∧ (∃ cs, h.bx[1]? = some (.cells cs 25) ∧ cs.length = 6) ∧ 4 ≤ h.bx.length ∧ 1 ≤ h.vc.length := by
 refine AF.start' 60 Tryz.func37 rfl rfl c37call c37ok fun Q hQ => ?_
 simp [c37c, c37t]
 refine ATT.callRA Tryz.func37 60 [0] [] 0 0 (f38_no t l d 1 h1) (by simp) (by simp) (by simp [tkD, tokD]) (by simp) (by simp) fun out hC hE => ?_
 obtain ⟨e1, e2⟩ := hE
 subst e1
 exact ⟨by simpa using e2, hQ _ _ ⟨by simp [stopV], by exact ⟨[_, _, _, _, _, _], by rw [upH_out (by decide) (by simp)]; rfl, rfl⟩, by simp, by simp⟩⟩
def HR (d : Nat) (r : Res (ByteArray × List ByteArray)) (o : Out) (h : H) : Prop := match r with
 | .ok x l => ∃ b c, o = .ret (.d (.tup [])) ∧ h = ⟨PB l d :: UB 12 x.1 x.2.length x.2.length :: b, NS x.2 :: c⟩
 | .no a w => o = .pan (stopV a w) ∧ (∃ cs, h.bx[1]? = some (.cells cs 25) ∧ cs.length = 6) ∧ 2 ≤ h.bx.length ∧ 1 ≤ h.vc.length
 | .out => True
theorem HR.mk {d : Nat} {s : ByteArray} {nm : List ByteArray} {l : List Tk} {x0 x1 x2 x3 x4 x5 : V} {b : List Bx} {v0 : Option Vec} {c : List (Option Vec)}
  (h0 : x0 = .d (.int .i64 12)) (h1 : x1 = .d (.str s)) (h2 : x2 = .d (.int .i64 0)) (h3 : x3 = .d (.int .i64 nm.length)) (h4 : x4 = .vs 0 nm.length 0 nm.length) (h5 : x5 = .d (.sl true 0 [])) (hv : v0 = NS nm) :
  HR d (.ok (s, nm) l) (.ret (.d (.tup []))) ⟨PB l d :: .cells [x0, x1, x2, x3, x4, x5] 25 :: b, v0 :: c⟩ := by
 subst h0 h1 h2 h3 h4 h5 hv
 exact ⟨_, _, rfl, rfl⟩
abbrev UB0 : Bx := .cells [.d (.int .i64 12), .d (.str ⟨#[]⟩), .d (.int .i64 0), .d (.int .i64 0), .d (.sl true 0 []), .d (.sl true 0 [])] 25
section
variable {P : Program} {N : Nat} {f : FD} {Q : Out → H → Prop}
theorem ATT.nilB0 {env : Env} {h : H} {ob : Bool} (i j : Nat) {z : Nat} {cs : List V} {e : TypeId} (sz : Nat) (e' : TypeId) (hb : h.bx[i]? = some (.cells cs e)) (hc : cs[j]? = some (.d (.sl true z []))) (hz : 0 < sz)
  (k : ATT P N f Q ([], env, ⟨h.bx.set i (.cells (cs.set j (.vs h.vc.length 0 0 0)) e), h.vc ++ [some ⟨true, sz, 0, [], e'⟩]⟩, ob)) : ATT P N f Q ([], env, h, ob) :=
 ⟨k.1, AT.nilB hb hc sz hz e' k.2⟩
end
theorem nil_app (s : ByteArray) : (⟨#[]⟩ : ByteArray) ++ s = s := by
 apply ByteArray.ext
 simp
theorem f20_ok (l : List Tk) (d : Nat) : AF Tryz.prog 20 [.ptr 0 0, .ptr 1 0] ⟨[PB l d, UB0], []⟩ (HR d (.ok (⟨#[]⟩, []) l)) := by
 refine AF.start' 60 Tryz.func20 rfl rfl c20call c20ok fun Q hQ => ?_
 simp [c20c]
 refine ATT.nilB0 1 4 1 9 rfl rfl (by decide) ?_
 simp
 refine ATT.fin0' hQ Tryz.func20 c20res ?_
 exact ⟨by simp, HR.mk rfl rfl rfl rfl rfl rfl rfl⟩
set_option maxHeartbeats 1000000 in
theorem f25_ok (n : Nat) (d : Nat) (l : List Tk) (hl : WF l) (hn : l.length ≤ n) : AF Tryz.prog 25 [.ptr 0 0, .ptr 1 0] ⟨[PB l d, UB0], []⟩ (HR d (patS n l)) := by
 obtain ⟨t, r, e⟩ := hl.cons
 subst e
 have htz := hl.2.1 t (by simp)
 simp only [patS, kd_cons, pl_cons, tx_cons, List.tail_cons]
 by_cases h0 : t.k = 0
 ·have hT := f39_ok t r d
  rw [if_pos h0] at hT
  have a1 : ¬ t.k = 1 := by rw [h0]; decide
  have a2 : ¬ t.k = 2 := by rw [h0]; decide
  have a3 : ¬ t.k = 3 := by rw [h0]; decide
  simp only [eq_false a1, eq_false a2, eq_false a3, if_false]
  refine AF.start' 60 Tryz.func25 rfl rfl c25call c25ok fun Q hQ => ?_
  simp [c25c, c25t]
  refine ATT.nilB 1 4 1 9 rfl rfl (by decide) (by simp) ?_
  simp
  refine ATT.callM Tryz.func25 60 [0] (hT) rfl (by simp) (by simp) (by simp [tkD, tokD]) (by simp) (by simp) ?_
  simp [c25t, a1, a2, a3, tkD, tokD]
  refine ATT.pan hQ Tryz.func25 (by simp; exact ⟨rfl, rfl⟩) (by simp) (by simp) ?_
  try simp [a1, a2, a3, tkD, tokD]
  exact ⟨rfl, by exact ⟨[_, _, _, _, _, _], rfl, rfl⟩, by simp, by simp⟩
 obtain ⟨t2, l2, e, hl2⟩ := hl.two h0
 subst e
 have hT := f39_ok t (t2 :: l2) d
 rw [if_neg h0] at hT
 by_cases h1 : t.k = 1
 ·simp only [eq_true h1, if_true]
  refine AF.start' 60 Tryz.func25 rfl rfl c25call c25ok fun Q hQ => ?_
  simp [c25c, c25t]
  refine ATT.nilB 1 4 1 9 rfl rfl (by decide) (by simp) ?_
  simp
  refine ATT.callM Tryz.func25 60 [0] (hT) rfl (by simp) (by simp) (by simp [tkD, tokD]) (by simp) (by simp) ?_
  simp [c25t, eq_true h1, tkD, tokD]
  refine ATT.fin0' hQ Tryz.func25 c25res ?_
  exact ⟨by simp, HR.mk rfl rfl rfl rfl rfl rfl rfl⟩
 by_cases h3 : t.k = 3
 ·simp only [eq_false h1, eq_true h3, if_true, if_false, kd_cons, pl_cons, tx_cons, List.tail_cons]
  refine AF.start' 60 Tryz.func25 rfl rfl c25call c25ok fun Q hQ => ?_
  simp [c25c, c25t]
  refine ATT.nilB 1 4 1 9 rfl rfl (by decide) (by simp) ?_
  simp
  refine ATT.callM Tryz.func25 60 [0] (hT) rfl (by simp) (by simp) (by simp [tkD, tokD]) (by simp) (by simp) ?_
  simp [c25t, h1, eq_true h3, tkD, tokD]
  by_cases hk1 : t2.k = 1
  ·simp only [eq_true hk1, if_true] at hQ
   refine ATT.callA Tryz.func25 60 [0, 1, 2, 3] [0] 0 0 (f37_ok t2 l2 d hk1 12 t.t 0 [] (by simp)) (by simp) (by simp) (by simp [tkD, tokD]) (by simp) (by simp) fun out hC hE => ?_
   obtain ⟨b, c, e1, e2⟩ := hE
   subst e1 e2
   refine ⟨by simp, ?_⟩
   simp
   refine ATT.fin0' hQ Tryz.func25 c25res ?_
   exact ⟨by simp, HR.mk rfl rfl rfl rfl rfl rfl rfl⟩
  ·simp only [eq_false hk1, if_false] at hQ
   refine ATT.callA Tryz.func25 60 [0, 1, 2, 3] [0] 0 0 (f37_no t2 l2 d hk1 12 t.t 0 []) (by simp) (by simp) (by simp [tkD, tokD]) (by simp) (by simp) fun out hC hE => ?_
   obtain ⟨e1, ⟨cs, e4, e5⟩, e2, e3⟩ := hE
   subst e1
   exact ⟨by simp; omega, hQ _ _ ⟨by simp [stopV, eSyn], by (obtain ⟨b0, b2, b3, br, hb⟩ := bx_four e4 e2; exact ⟨rns [0, 1, 2, 3] [0] cs, by simp [hb, setAll, rnB], by rw [rns_length]; exact e5⟩), by simp, by simp⟩⟩
 by_cases h2 : t.k = 2
 ·simp only [eq_false h1, eq_true h2, eq_false h3, if_true, if_false]
  obtain ⟨m, hm⟩ : ∃ m, n = m + 1 := ⟨n - 1, by simp at hn; omega⟩
  subst hm
  simp only [patKeysS, kd_cons, eq_true h2, if_true, List.tail_cons, tx_cons, pl_cons, nil_app, List.nil_append]
  refine AF.start' 60 Tryz.func25 rfl rfl c25call c25ok fun Q hQ => ?_
  simp [c25c, c25t]
  refine ATT.nilB 1 4 1 9 rfl rfl (by decide) (by simp) ?_
  simp
  refine ATT.callM Tryz.func25 60 [0] (hT) rfl (by simp) (by simp) (by simp [tkD, tokD]) (by simp) (by simp) ?_
  simp [c25t, h1, h3, eq_true h2, tkD, tokD]
  by_cases hk1 : t2.k = 1
  ·simp only [eq_true hk1, if_true] at hQ
   refine ATT.callA Tryz.func25 60 [0, 1, 2, 3] [0] 0 0 (f37_ok t2 l2 d hk1 12 t.t 0 [] (by simp)) (by simp) (by simp) (by simp [tkD, tokD]) (by simp) (by simp) fun out hC hE => ?_
   obtain ⟨b, c, e1, e2⟩ := hE
   subst e1 e2
   refine ⟨by simp, ?_⟩
   simp
   have hw3 := (hl2.tail (by simp only [kd_cons, hk1]; decide)).1
   simp only [List.tail_cons] at hw3
   simp only [List.length_cons] at hn
   have hlen := hl.2.2
   simp only [List.length_cons] at hlen
   generalize hR : patKeysS m t.t [t2.t] l2 = R at hQ
   refine ATT.loopG 60 c25l15.eq_1 (fun ((m, s, nm, l) : Nat × ByteArray × List ByteArray × List Tk) => m) (fun ((m, s, nm, l) : Nat × ByteArray × List ByteArray × List Tk) => patKeysS m s nm l = R ∧ WF l ∧ l.length ≤ m ∧ nm.length + l.length ≤ 5000 ∧ s.size + 1048576 * l.length ≤ 5242880000) (fun ((m, s, nm, l) : Nat × ByteArray × List ByteArray × List Tk) => [(2, .ptr 2 0), (3, .ptr 3 0), (4, .fn (.func 37) [] [.ptr 3 0, .ptr 2 0])]) (fun ((m, s, nm, l) : Nat × ByteArray × List ByteArray × List Tk) => [PB l d, .cells [.d (.int .i64 12), .d (.str s), .d (.int .i64 0), .d (.int .i64 0), .vs 0 nm.length 0 nm.length, .d (.sl true 0 [])] 25, .cells [.ptr 0 0] 43, NP]) (fun ((m, s, nm, l) : Nat × ByteArray × List ByteArray × List Tk) => [NS nm]) ((m, t.t, [t2.t], l2)) (by (try dsimp only); exact ⟨hR, hw3, by omega, by simp; omega, by omega⟩) (by simp <;> omega) (by simp) (by simp) ?_
   intro ⟨m, s, nm, l⟩ u w hI ih
   try simp only at hI ih
   obtain ⟨hRk, hwf, hlm, hnum, hsz⟩ := hI
   obtain ⟨t3, l3, e⟩ := hwf.cons
   subst e
   cases m with
   | zero => simp at hlm
   | succ m =>
    simp only [patKeysS, kd_cons, tx_cons, List.tail_cons] at hRk
    simp [c25t]
    refine ATT.callM Tryz.func25 60 [0] (f40_ok t3 l3 d) rfl (by simp) (by simp) (by simp [tkD, tokD]) (by simp) (by simp) ?_
    simp [tkD, tokD]
    by_cases h3k : t3.k = 2
    ·obtain ⟨t4, l4, e, hl4⟩ := hwf.two (by rw [h3k]; decide)
     subst e
     have hT3 := f39_ok t3 (t4 :: l4) d
     rw [if_neg (by rw [h3k]; decide)] at hT3
     simp only [eq_true h3k, if_true, kd_cons, tx_cons, List.tail_cons, pl_cons] at hRk
     have htz3 := hwf.2.1 t3 (by simp)
     simp only [List.length_cons] at hsz hnum hlm
     have hcat : s.size + t3.t.size ≤ 9223372036854775807 := by omega
     simp [eq_true h3k, tkD, tokD]
     refine ATT.callRM Tryz.func25 60 [0] (hT3) rfl (by simp) (by simp) (by simp [tkD, tokD]) (by simp) (by simp) ?_
     simp [c25t, tkD, tokD, hcat]
     by_cases hk4 : t4.k = 1
     ·simp only [eq_true hk4, if_true] at hRk
      refine ATT.callA Tryz.func25 60 [0, 1, 2, 3] [0] 0 0 (f37_ok t4 l4 d hk4 12 (s ++ t3.t) 0 nm (by omega)) (by simp) (by simp) (by simp [tkD, tokD]) (by simp) (by simp) fun out hC hE => ?_
      obtain ⟨b, c, e1, e2⟩ := hE
      subst e1 e2
      refine ⟨by simp, ?_⟩
      simp
      have hw4 := (hl4.tail (by simp only [kd_cons, hk4]; decide)).1
      simp only [List.tail_cons] at hw4
      refine ih (m, s ++ t3.t, nm ++ [t4.t], l4) (by first | ((try dsimp only); omega) | (simp [eq_true h3k, tkD, tokD, hcat] <;> omega)) (by (try dsimp only); exact ⟨hRk, hw4, by omega, by simp; omega, by simp; omega⟩) _ _ _ (by simp <;> omega) (by simp <;> omega) (by simp <;> omega)
     ·simp only [eq_false hk4, if_false] at hRk
      subst hRk
      refine ATT.callA Tryz.func25 60 [0, 1, 2, 3] [0] 0 0 (f37_no t4 l4 d hk4 12 (s ++ t3.t) 0 nm) (by simp) (by simp) (by simp [tkD, tokD]) (by simp) (by simp) fun out hC hE => ?_
      obtain ⟨e1, ⟨cs, e4, e5⟩, e2, e3⟩ := hE
      subst e1
      exact ⟨by simp; omega, hQ _ _ ⟨by simp [stopV, eSyn], by (obtain ⟨b0, b2, b3, br, hb⟩ := bx_four e4 e2; exact ⟨rns [0, 1, 2, 3] [0] cs, by simp [hb, setAll, rnB], by rw [rns_length]; exact e5⟩), by simp, by simp⟩⟩
    ·simp only [eq_false h3k, if_false] at hRk
     subst hRk
     simp [h3k]
     refine ATT.fin0' hQ Tryz.func25 c25res ?_
     exact ⟨by simp, HR.mk rfl rfl rfl rfl rfl rfl rfl⟩
  ·simp only [eq_false hk1, if_false] at hQ
   refine ATT.callA Tryz.func25 60 [0, 1, 2, 3] [0] 0 0 (f37_no t2 l2 d hk1 12 t.t 0 []) (by simp) (by simp) (by simp [tkD, tokD]) (by simp) (by simp) fun out hC hE => ?_
   obtain ⟨e1, ⟨cs, e4, e5⟩, e2, e3⟩ := hE
   subst e1
   exact ⟨by simp; omega, hQ _ _ ⟨by simp [stopV, eSyn], by (obtain ⟨b0, b2, b3, br, hb⟩ := bx_four e4 e2; exact ⟨rns [0, 1, 2, 3] [0] cs, by simp [hb, setAll, rnB], by rw [rns_length]; exact e5⟩), by simp, by simp⟩⟩
 ·simp only [eq_false h1, eq_false h2, eq_false h3, if_false]
  refine AF.start' 60 Tryz.func25 rfl rfl c25call c25ok fun Q hQ => ?_
  simp [c25c, c25t]
  refine ATT.nilB 1 4 1 9 rfl rfl (by decide) (by simp) ?_
  simp
  refine ATT.callM Tryz.func25 60 [0] (hT) rfl (by simp) (by simp) (by simp [tkD, tokD]) (by simp) (by simp) ?_
  simp [c25t, h1, h2, h3, tkD, tokD]
  refine ATT.pan hQ Tryz.func25 (by simp; exact ⟨rfl, rfl⟩) (by simp) (by simp) ?_
  try simp [h1, h2, h3, tkD, tokD]
  exact ⟨rfl, by exact ⟨[_, _, _, _, _, _], rfl, rfl⟩, by simp, by simp⟩
end Go.SL
namespace Go.SL
open Go.Proofs
set_option maxRecDepth 10000
abbrev zeroN : D := .agg [.int .i64 0, .str ⟨#[]⟩, .int .i64 0, .int .i64 0, .sl true 0 [], .sl true 0 []]
abbrev ZC : List V := [.d (.int .i64 0), .d (.str ⟨#[]⟩), .d (.int .i64 0), .d (.int .i64 0), .d (.sl true 0 []), .d (.sl true 0 [])]
theorem f27_none (c0 c1 c2 c3 c4 c5 x1 x2 : V) (b : List Bx) (c : List (Option Vec)) :
  DCl Tryz.prog 27 [.ptr 0 0, .ptr 1 0, .ptr 2 0] none ⟨.cells [c0, c1, c2, c3, c4, c5] 25 :: .cells [x1] 3 :: .cells [x2] 26 :: b, c⟩ fun h => ∃ b c, h = ⟨.cells [c0, c1, c2, c3, c4, c5] 25 :: .cells [x1] 3 :: .cells [x2] 26 :: b, c⟩ := by
 refine DCl.of (ac := c27c) (ann := c27a) 60 Tryz.func27 rfl rfl c27call (fun _ _ => rfl) rfl rfl (by decide) c27ok ?_
 simp [c27c, c27t, recV]
 refine ATT.fin0' (fun _ _ h => h) Tryz.func27 c27res ?_
 exact ⟨by simp, ⟨_, rfl⟩, _, _, rfl⟩
theorem f27_some (a : Nat) (w : Int) (c0 c1 c2 c3 c4 c5 x1 x2 : V) (b : List Bx) (c : List (Option Vec)) :
  DCl Tryz.prog 27 [.ptr 0 0, .ptr 1 0, .ptr 2 0] (some (stopV a w)) ⟨.cells [c0, c1, c2, c3, c4, c5] 25 :: .cells [x1] 3 :: .cells [x2] 26 :: b, c⟩ fun h => ∃ b c, h = ⟨.cells ZC 25 :: .cells [.d (.int .i64 a)] 3 :: .cells [.d (.int .i64 w)] 26 :: b, c⟩ := by
 refine DCl.of (ac := c27c) (ann := c27a) 60 Tryz.func27 rfl rfl c27call (fun _ _ => rfl) rfl rfl (by decide) c27ok ?_
 simp [c27c, c27t, recV, stopV]
 refine ATT.fin0' (fun _ _ h => h) Tryz.func27 c27res ?_
 exact ⟨by simp, ⟨_, rfl⟩, _, _, rfl⟩
def UnR (r : Res Nd) (v : D) : Prop := match r with
 | .ok x _ => ∃ u, v = .tup [u, .int .i64 0, .int .i64 0] ∧ NdR x u
 | .no a w => v = .tup [zeroN, .int .i64 a, .int .i64 w]
 | .out => True
def uniS (n : Nat) (hd : List Tk → Res (ByteArray × List ByteArray)) (l : List Tk) : Res Nd :=
 (hd l).andThen fun p r => (bodyS n 0 0 r).andThen fun x r' => .ok (.mk 12 p.1 0 p.2.length (p.2 ++ x.1) x.2) r'
def UnQ (r : Res Nd) (o : Out) (h : H) : Prop := match r with
 | .ok x _ => ∃ c0 c1 c2 c3 c4 c5 b c, (∃ v, o = .ret v) ∧ h = ⟨.cells [.d c0, .d c1, .d c2, .d c3, .d c4, .d c5] 25 :: .cells [.d (.int .i64 0)] 3 :: .cells [.d (.int .i64 0)] 26 :: b, c⟩ ∧ NdR x (.agg [c0, c1, c2, c3, c4, c5])
 | .no a w => ∃ c0 c1 c2 c3 c4 c5 x1 x2 b c, o = .pan (stopV a w) ∧ h = ⟨.cells [c0, c1, c2, c3, c4, c5] 25 :: .cells [x1] 3 :: .cells [x2] 26 :: b, c⟩
 | .out => True
theorem six {cs : List V} (h : cs.length = 6) : ∃ c0 c1 c2 c3 c4 c5, cs = [c0, c1, c2, c3, c4, c5] := by
 match cs, h with
 | [c0, c1, c2, c3, c4, c5], _ => exact ⟨c0, c1, c2, c3, c4, c5, rfl⟩
theorem bx_two {l : List Bx} {b : Bx} (h : l[1]? = some b) : ∃ a r, l = a :: b :: r := by
 match l, h with
 | a :: x :: r, h => simp at h; subst h; exact ⟨a, r, rfl⟩
theorem upH_pan (x0 x1 x2 x3 b0 : Bx) (cs : List V) (e : TypeId) (br : List Bx) (v c : List (Option Vec)) (rv : List Nat) (kv : Nat) (hcs : cs.length = 6) :
  ∃ c0 c1 c2 c3 c4 c5 y c', upH ⟨[x0, x1, x2, x3], v⟩ ⟨b0 :: .cells cs e :: br, c⟩ [3, 0] rv 0 kv = ⟨.cells [c0, c1, c2, c3, c4, c5] e :: x1 :: x2 :: y, c'⟩ := by
 obtain ⟨c0, c1, c2, c3, c4, c5, h⟩ := six (cs := rns (upB [3, 0] 4 0) (upB rv v.length kv) cs) (by rw [rns_length]; exact hcs)
 refine ⟨c0, c1, c2, c3, c4, c5, [rnB (upB [3, 0] 4 0) (upB rv v.length kv) b0], (upH ⟨[x0, x1, x2, x3], v⟩ ⟨b0 :: .cells cs e :: br, c⟩ [3, 0] rv 0 kv).vc, ?_⟩
 rw [← h]
 simp [setAll, rnB]
theorem DCl.mono {P : Program} {g : FuncId} {a : List V} {u : Option V} {h0 : H} {R R' : H → Prop} (h : DCl P g a u h0 R) (k : ∀ h, R h → R' h) : DCl P g a u h0 R' :=
 ⟨h.1, fun κ w argv m r1 r2 r3 => (h.2 κ w argv m r1 r2 r3).mono fun e u w ⟨v, κ', h', t1, t2, t3, t4, t5⟩ => ⟨v, κ', h', t1, t2, t3, t4, k _ t5⟩⟩
theorem f19_no {num : ByteArray → Bool} (hW : NumP 71 num) (s : ByteArray) (hs : s.size ≤ 1073741820) (a : Nat) (w : Int) (hw : w ≠ 0) (hr : readD num s = .tup [.sl true 0 [], .int .i64 a, .int .i64 w]) (g : FuncId) :
  DF Tryz.prog 19 [.str s, .fn (.func g) [] []] (.tup [zeroN, .int .i64 a, .int .i64 w]) := by
 have hR := f26_ok hW s hs
 rw [hr] at hR
 refine AF.start' 60 Tryz.func19 rfl rfl c19call c19ok fun Q hQ => ?_
 simp [c19c, c19t]
 refine ATT.callD Tryz.func19 60 (hR) (by simp) (by simp) (by simp) ?_
 simp [c19t, hw]
 refine ATT.fin' hQ Tryz.func19 c19res ?_
 simp
 all_goals (first | omega | exact ⟨_, rfl⟩ | skip)
theorem f19_yes {num : ByteArray → Bool} (hW : NumP 71 num) (s : ByteArray) (hs : s.size ≤ 1073741820) (l : List Tk) (hl : WF l) (hr : readD num s = .tup [.sl false 3 (l.map tkD), .int .i64 0, .int .i64 0]) (g : FuncId)
  (hd : List Tk → Res (ByteArray × List ByteArray)) (hH : AF Tryz.prog g [.ptr 0 0, .ptr 1 0] ⟨[PB l 0, UB0], []⟩ (HR 0 (hd l))) (hwf : ∀ p r, hd l = .ok p r → WF r ∧ p.2.length ≤ 5000) (n : Nat) (hin : uniS n hd l ≠ .out) :
  DE Tryz.prog 19 [.str s, .fn (.func g) [] []] (UnR (uniS n hd l)) := by
 have hR := f26_ok hW s hs
 rw [hr] at hR
 refine AF.start' 60 Tryz.func19 rfl rfl c19call c19ok fun Q hQ => ?_
 simp [c19c, c19t]
 refine ATT.callD Tryz.func19 60 (hR) (by simp) (by simp) (by simp) ?_
 simp [c19t]
 refine ATT.defer (UnQ (uniS n hd l)) Tryz.func19 60 [(4, .ptr 0 0), (5, .ptr 1 0), (6, .ptr 2 0)] (by simp; rfl) c27call c19res rfl ?_ ?_
 ·simp [c19t]
  refine ATT.callA Tryz.func19 60 [3, 0] [] 0 1 hH (by simp) (by simp) (by simp) (by simp) (by simp) (fun out hC hE => ?_) (by simp)
  cases hh : hd l with
  | no a w =>
   rw [hh] at hE
   obtain ⟨e1, ⟨cs, e4, e5⟩, e2, e3⟩ := hE
   subst e1
   obtain ⟨hCb, hCc⟩ := hC
   simp only at e4 e2 e3
   obtain ⟨b0, br, hb⟩ := bx_two e4
   subst hb
   refine ⟨by simp; simpa using e3, ?_⟩
   simp only [uniS, hh, andThen_noE]
   obtain ⟨c0, c1, c2, c3, c4, c5, y, c', hu⟩ := upH_pan _ _ _ _ b0 cs 25 br _ hCc [] 1 e5
   rw [hu]
   exact ⟨_, _, _, _, _, _, _, _, _, _, by simp [stopV], rfl⟩
  | out => exact absurd hh (fun e => hin (by simp [uniS, e, Res.andThen]))
  | ok p r =>
   rw [hh] at hE
   obtain ⟨b, c, e1, e2⟩ := hE
   subst e1 e2
   refine ⟨by simp, ?_⟩
   simp [c19t]
   have hwl := hwf p r hh
   have hinB : bodyS n 0 0 r ≠ .out := fun e => hin (by simp [uniS, hh, e, Res.andThen])
   have hB := (allC n).body 0 r 0 p.2 (.int .i64 12) (.str p.1) (.int .i64 0) (.int .i64 p.2.length) (by omega) hwl.1 hwl.2 hinB
   refine ATT.callA Tryz.func19 60 [3, 0] [0] 0 1 hB (by simp) (by simp) (by simp) (by simp) (by simp) (fun out hC hE => ?_) (by simp)
   cases hres : bodyS n 0 0 r with
   | out => exact absurd hres hinB
   | no a w =>
    simp only [hres, BR] at hE
    obtain ⟨e1, ⟨cs, e4, e5⟩, e2, e3⟩ := hE
    subst e1
    obtain ⟨hCb, hCc⟩ := hC
    simp only at e4 e2 e3
    obtain ⟨b0, br, hb⟩ := bx_two e4
    subst hb
    refine ⟨by simp; simpa using e3, ?_⟩
    simp only [uniS, hh, hres, andThen_okE, andThen_noE]
    obtain ⟨c0, c1, c2, c3, c4, c5, y, c', hu⟩ := upH_pan _ _ _ _ b0 cs 25 br _ hCc [0] 1 e5
    rw [hu]
    exact ⟨_, _, _, _, _, _, _, _, _, _, by simp [stopV], rfl⟩
   | ok x r' =>
    simp only [hres, BR] at hE
    obtain ⟨b, c, ds, e1, e2, hds⟩ := hE
    subst e1 e2
    refine ⟨by simp, ?_⟩
    simp only [uniS, hh, hres, andThen_okE]
    simp [c19t]
    obtain ⟨xn, xk⟩ := x
    simp only
    cases hnm : p.2 ++ xn with
    | nil =>
     obtain ⟨h1, h2⟩ := List.append_eq_nil_iff.mp hnm
     simp only [h1, h2]
     cases ds with
     | nil =>
      refine ATT.fz (by simp) ?_
      simp
      refine ATT.finD Tryz.func19 (by simp) rfl (by simp) ?_
      exact ⟨_, _, _, _, _, _, _, _, ⟨_, rfl⟩, rfl, NdR.mk (by simp) (by simp) (fun h => by first | (simp at h; done) | (have := hds.length; exact List.length_eq_zero_iff.mp this.symm)) (by simp) hds⟩
     | cons d0 ds =>
      refine ATT.fz (by simp) ?_
      simp
      refine ATT.finD Tryz.func19 (by simp) rfl (by simp) ?_
      exact ⟨_, _, _, _, _, _, _, _, ⟨_, rfl⟩, rfl, NdR.mk (by simp) (by simp) (fun h => by first | (simp at h; done) | (have := hds.length; exact List.length_eq_zero_iff.mp this.symm)) (by simp) hds⟩
    | cons y yr =>
     have hlen : p.2.length + xn.length = (y :: yr).length := by rw [← hnm]; simp
     have hmm : (p.2.map fun s => V.d (.str s)) ++ (xn.map fun s => V.d (.str s)) = (y :: yr).map fun s => V.d (.str s) := by rw [← hnm]; simp
     simp only [hlen, hmm]
     cases ds with
     | nil =>
      refine ATT.fz (by simp) ?_
      simp
      refine ATT.finD Tryz.func19 (by simp) rfl (by simp) ?_
      exact ⟨_, _, _, _, _, _, _, _, ⟨_, rfl⟩, rfl, NdR.mk (by simp) (by simp) (fun h => by first | (simp at h; done) | (have := hds.length; exact List.length_eq_zero_iff.mp this.symm)) (by simp) hds⟩
     | cons d0 ds =>
      refine ATT.fz (by simp) ?_
      simp
      refine ATT.finD Tryz.func19 (by simp) rfl (by simp) ?_
      exact ⟨_, _, _, _, _, _, _, _, ⟨_, rfl⟩, rfl, NdR.mk (by simp) (by simp) (fun h => by first | (simp at h; done) | (have := hds.length; exact List.length_eq_zero_iff.mp this.symm)) (by simp) hds⟩
 ·intro out h1 hq
  cases hr : uniS n hd l with
  | out => exact absurd hr hin
  | no a w =>
   rw [hr] at hq hQ
   obtain ⟨c0, c1, c2, c3, c4, c5, x1, x2, b, c, e1, e2⟩ := hq
   subst e1 e2
   refine (f27_some a w c0 c1 c2 c3 c4 c5 x1 x2 b c).mono fun h ⟨b', c', e⟩ => ?_
   subst e
   exact ⟨_, rfl, hQ _ _ ⟨_, rfl, rfl⟩⟩
  | ok x r =>
   rw [hr] at hq hQ
   obtain ⟨c0, c1, c2, c3, c4, c5, b, c, ⟨v, e1⟩, e2, hx⟩ := hq
   subst e1 e2
   refine (f27_none (.d c0) (.d c1) (.d c2) (.d c3) (.d c4) (.d c5) (.d (.int .i64 0)) (.d (.int .i64 0)) b c).mono fun h ⟨b', c', e⟩ => ?_
   subst e
   exact ⟨_, rfl, hQ _ _ ⟨_, rfl, _, rfl, hx⟩⟩
end Go.SL
namespace Go.SL
open Go.Proofs
set_option maxRecDepth 10000
theorem patKeysS_wf : ∀ {n : Nat} {s : ByteArray} {acc : List ByteArray} {l : List Tk} {x r}, WF l → patKeysS n s acc l = .ok x r → WF r ∧ x.2.length + r.length ≤ acc.length + l.length
 | 0, s, acc, l, x, r, h, e => by simp [patKeysS] at e
 | n + 1, s, acc, l, x, r, h, e => by
  simp only [patKeysS] at e
  split at e
  ·rename_i hk
   have h1 := h.short hk (by decide)
   split at e
   ·rename_i hk2
    have h2 := h1.1.short hk2 (by decide)
    have h3 := patKeysS_wf h2.1 e
    have := h1.2; have := h2.2
    exact ⟨h3.1, by have := h3.2; simp at this; omega⟩
   ·simp at e
  ·simp only [Res.ok.injEq] at e
   obtain ⟨e1, e2⟩ := e
   subst e1 e2
   exact ⟨h, Nat.le_refl _⟩
theorem patS_wf {n : Nat} {l : List Tk} {x r} (h : WF l) (e : patS n l = .ok x r) : WF r ∧ x.2.length ≤ 5000 := by
 have hl := h.2.2
 simp only [patS] at e
 split at e
 ·rename_i hk
  have h1 := h.short hk (by decide)
  simp only [Res.ok.injEq] at e
  obtain ⟨e1, e2⟩ := e
  subst e1 e2
  exact ⟨h1.1, by simp⟩
 split at e
 ·rename_i hk
  have h1 := h.short hk (by decide)
  split at e
  ·rename_i hk2
   have h2 := h1.1.short hk2 (by decide)
   simp only [Res.ok.injEq] at e
   obtain ⟨e1, e2⟩ := e
   subst e1 e2
   exact ⟨h2.1, by simp⟩
  ·simp at e
 split at e
 ·have h3 := patKeysS_wf h e
  exact ⟨h3.1, by have := h3.2; simp at this; omega⟩
 ·simp at e
theorem patKeysS_in : ∀ {n : Nat} {s : ByteArray} {acc : List ByteArray} {l : List Tk}, WF l → l.length ≤ n → patKeysS n s acc l ≠ .out
 | 0, s, acc, l, h, hn => by obtain ⟨t, r, e⟩ := h.cons; subst e; simp at hn
 | n + 1, s, acc, l, h, hn => by
  simp only [patKeysS]
  split
  ·rename_i hk
   have h1 := h.short hk (by decide)
   split
   ·rename_i hk2
    have h2 := h1.1.short hk2 (by decide)
    exact patKeysS_in h2.1 (by have := h1.2; have := h2.2; omega)
   ·simp
  ·simp
theorem patS_in {n : Nat} {l : List Tk} (h : WF l) (hn : l.length ≤ n) : patS n l ≠ .out := by
 simp only [patS]
 split
 ·simp
 split
 ·split <;> simp
 split
 ·exact patKeysS_in h hn
 ·simp
theorem subT_le (s : ByteArray) (i j : Nat) : (subT s i j).size ≤ s.size := by simp [subT]; omega
theorem wordS_text {num : ByteArray → Bool} {s : ByteArray} (hs : s.size ≤ 4096) {i : Nat} {k : Int} {t : ByteArray} {e : Nat} (h : wordS num s i = some (k, t, e)) : t.size ≤ 1048576 := by
 have sb : ∀ a b, (subT s a b).size ≤ 1048576 := fun a b => by have := subT_le s a b; omega
 have qb : ∀ q, quB q = true → (quT q).size ≤ 1048576 := fun q h => by
  cases q with
  | none => simp [quB] at h
  | some l =>
   simp only [quB, decide_eq_true_eq] at h
   show l.toArray.size ≤ 1048576
   simp; omega
 unfold wordS at h
 have key : ∀ {k' : Int} {t' : ByteArray} {e' : Nat}, some (k', t', e') = some (k, t, e) → t'.size ≤ 1048576 → t.size ≤ 1048576 := fun h1 h2 => by
  simp only [Option.some.injEq, Prod.mk.injEq] at h1
  rw [← h1.2.1]; exact h2
 split at h
 ·split at h
  ·exact key h (sb _ _)
  ·exact key h (sb _ _)
 split at h
 ·split at h
  ·exact key h (sb _ _)
  ·simp at h
 split at h
 ·split at h
  ·rename_i hq
   exact key h (qb _ hq)
  ·simp at h
 split at h
 ·split at h
  ·exact key h (sb _ _)
  ·split at h
   ·rename_i hq
    refine key h ?_
    unfold symT
    unfold symB at hq
    split
    ·exact sb _ _
    ·rename_i hn
     rw [if_neg hn] at hq
     exact qb _ hq
   ·simp at h
 split at h
 ·split at h
  ·exact key h (sb _ _)
  ·exact key h (sb _ _)
 split at h
 ·exact key h (sb _ _)
 split at h
 ·exact key h (sb _ _)
 ·simp at h
theorem lexS_wf0 {num : ByteArray → Bool} {s : ByteArray} (hs : s.size ≤ 4096) : ∀ m i l, s.size - i = m → i ≤ s.size → lexS num s i = .inl l → (∃ a t, l = a ++ [t] ∧ t.k = 0) ∧ (∀ t ∈ l, t.t.size ≤ 1048576) ∧ l.length ≤ s.size - i + 1 := by
 intro m
 induction m using Nat.strongRecOn with
 | ind m ih =>
  intro i l hm hi h
  rw [lexS_eq] at h
  have h1 := skipS_le blankS s _ i rfl
  split at h
  ·rename_i hlt
   split at h
   ·split at h
    ·rename_i hq
     have h2 := skipS_le notQ s _ (skipS blankS s i + 1) rfl
     obtain ⟨g1, g2, g3⟩ := ih _ (by omega) _ _ rfl (by omega) h
     exact ⟨g1, g2, by omega⟩
    ·simp at h
   ·split at h
    ·rename_i k t e hw
     have hwl := wordS_lt hlt hw
     rw [if_pos hwl.1] at h
     split at h
     ·rename_i l' hl'
      simp only [Sum.inl.injEq] at h
      subst h
      obtain ⟨⟨a, t', g0, g1⟩, g2, g3⟩ := ih _ (by have := hwl.2; omega) _ _ rfl (by have := hwl.2; omega) hl'
      refine ⟨⟨⟨k, t, skipS blankS s i⟩ :: a, t', by rw [g0]; rfl, g1⟩, ?_, by have := hwl.1; have := hwl.2; simp only [List.length_cons]; omega⟩
      intro y hy
      simp only [List.mem_cons] at hy
      rcases hy with hy | hy
      ·subst hy; exact wordS_text hs hw
      ·exact g2 y hy
     ·simp at h
    ·simp at h
  ·simp only [Sum.inl.injEq] at h
   subst h
   exact ⟨⟨[], _, rfl, rfl⟩, by intro y hy; simp at hy; subst hy; exact Nat.zero_le _, by simp⟩
theorem lexS_wf {num : ByteArray → Bool} {s : ByteArray} (hs : s.size ≤ 4096) {l : List Tk} (h : lexS num s 0 = .inl l) : WF l := by
 obtain ⟨g1, g2, g3⟩ := lexS_wf0 hs _ 0 l rfl (Nat.zero_le _) h
 exact ⟨g1, g2, by omega⟩
def fuel (l : List Tk) : Nat := 20 * l.length + 20
theorem uniS_in {hd : List Tk → Res (ByteArray × List ByteArray)} {l : List Tk} (h1 : hd l ≠ .out) (h2 : ∀ p r, hd l = .ok p r → WF r ∧ r.length ≤ l.length) : uniS (fuel l) hd l ≠ .out := by
 refine andThen_in h1 fun p r e => andThen_in ?_ fun _ _ _ => by simp
 have h3 := h2 p r e
 exact (enough (fuel l)).body h3.1 (by unfold fuel; have := h3.2; omega)
def headS (m : Bool) (l : List Tk) : Res (ByteArray × List ByteArray) := if m then patS (fuel l) l else .ok (⟨#[]⟩, []) l
def parseD (num : ByteArray → Bool) (m : Bool) (s : ByteArray) : Res Nd :=
 if 4096 < s.size then .no 0 3 else
 match lexS num s 0 with
 | .inl l => uniS (fuel l) (headS m) l
 | .inr a => .no a 20
theorem patKeysS_le : ∀ {n : Nat} {s : ByteArray} {acc : List ByteArray} {l : List Tk} {x r}, patKeysS n s acc l = .ok x r → r.length ≤ l.length
 | 0, s, acc, l, x, r, e => by simp [patKeysS] at e
 | n + 1, s, acc, l, x, r, e => by
  simp only [patKeysS] at e
  split at e
  ·split at e
   ·have h3 := patKeysS_le e
    simp at h3; omega
   ·simp at e
  ·simp only [Res.ok.injEq] at e
   rw [e.2]; exact Nat.le_refl _
theorem patS_le {n : Nat} {l : List Tk} {x r} (e : patS n l = .ok x r) : r.length ≤ l.length := by
 simp only [patS] at e
 split at e
 ·simp only [Res.ok.injEq] at e; rw [← e.2]; simp
 split at e
 ·split at e
  ·simp only [Res.ok.injEq] at e; rw [← e.2]; simp; omega
  ·simp at e
 split at e
 ·exact patKeysS_le e
 ·simp at e
theorem headS_wf {m : Bool} {l : List Tk} {x r} (h : WF l) (e : headS m l = .ok x r) : WF r ∧ x.2.length ≤ 5000 := by
 cases m with
 | true => exact patS_wf h e
 | false => simp only [headS, Bool.false_eq_true, if_false, Res.ok.injEq] at e; rw [← e.1, ← e.2]; exact ⟨h, by simp⟩
theorem headS_le {m : Bool} {l : List Tk} {x r} (e : headS m l = .ok x r) : r.length ≤ l.length := by
 cases m with
 | true => exact patS_le e
 | false => simp only [headS, Bool.false_eq_true, if_false, Res.ok.injEq] at e; rw [← e.2]; exact Nat.le_refl _
theorem headS_in {m : Bool} {l : List Tk} (h : WF l) : headS m l ≠ .out := by
 cases m with
 | true => exact patS_in h (by unfold fuel; omega)
 | false => simp [headS]
theorem parseD_in (num : ByteArray → Bool) (m : Bool) (s : ByteArray) : parseD num m s ≠ .out := by
 unfold parseD
 split
 ·simp
 ·split
  ·rename_i hs l hl
   have hwf := lexS_wf (by omega) hl
   exact uniS_in (headS_in hwf) fun p r e => ⟨(headS_wf hwf e).1, headS_le e⟩
  ·simp
theorem f19_ok {num : ByteArray → Bool} (hW : NumP 71 num) (s : ByteArray) (hs : s.size ≤ 1073741820) (m : Bool) (g : FuncId) (hH : ∀ l, WF l → AF Tryz.prog g [.ptr 0 0, .ptr 1 0] ⟨[PB l 0, UB0], []⟩ (HR 0 (headS m l))) :
  DE Tryz.prog 19 [.str s, .fn (.func g) [] []] (UnR (parseD num m s)) := by
 unfold parseD
 by_cases hz : 4096 < s.size
 ·rw [if_pos hz]
  have := f19_no hW s hs 0 3 (by decide) (by simp [readD, hz]) g
  exact this.mono fun o h e => ⟨_, e, rfl⟩
 ·rw [if_neg hz]
  cases hl : lexS num s 0 with
  | inr a =>
   have := f19_no hW s hs a 20 (by decide) (by simp [readD, hz, hl]) g
   exact this.mono fun o h e => ⟨_, e, rfl⟩
  | inl l =>
   have hwf := lexS_wf (by omega) hl
   exact f19_yes hW s hs l hwf (by simp [readD, hz, hl]) g (headS m) (hH l hwf) (fun p r e => headS_wf hwf e) (fuel l) (uniS_in (headS_in hwf) fun p r e => ⟨(headS_wf hwf e).1, headS_le e⟩)
theorem f8_ok {num : ByteArray → Bool} (hW : NumP 71 num) (s : ByteArray) (hs : s.size ≤ 1073741820) : DE Tryz.prog 8 [.str s] (UnR (parseD num false s)) := by
 have hU := f19_ok hW s hs false 20 fun l _ => f20_ok l 0
 refine AF.start' 60 Tryz.func8 rfl rfl c8call c8ok fun Q hQ => ?_
 simp [c8c, c8t]
 refine ATT.callE Tryz.func8 60 hU (by simp) (by simp) (by simp) fun v hv => ?_
 cases hr : parseD num false s with
 | ok x l =>
  rw [hr] at hv hQ
  obtain ⟨u, e, hu⟩ := hv
  subst e
  obtain ⟨nl1_u, z1_u, nl2_u, z2_u, ds_u, hv_u, ha_u, hb_u, hc_u, hd_u, he_u⟩ := hu.shape
  have hw_u := hv_u
  subst hw_u
  simp
  refine ATT.fin' hQ Tryz.func8 c8res ?_
  exact ⟨by simp, _, rfl, _, rfl, hu⟩
 | no a w =>
  rw [hr] at hv hQ
  have e : v = _ := hv
  subst e
  simp
  refine ATT.fin' hQ Tryz.func8 c8res ?_
  exact ⟨by simp, _, rfl, rfl⟩
 | out => exact absurd hr (parseD_in _ _ _)
theorem f16_ok {num : ByteArray → Bool} (hW : NumP 71 num) (s : ByteArray) (hs : s.size ≤ 1073741820) : DE Tryz.prog 16 [.str s] (UnR (parseD num true s)) := by
 have hU := f19_ok hW s hs true 25 fun l hl => f25_ok (fuel l) 0 l hl (by unfold fuel; omega)
 refine AF.start' 60 Tryz.func16 rfl rfl c16call c16ok fun Q hQ => ?_
 simp [c16c, c16t]
 refine ATT.callE Tryz.func16 60 hU (by simp) (by simp) (by simp) fun v hv => ?_
 cases hr : parseD num true s with
 | ok x l =>
  rw [hr] at hv hQ
  obtain ⟨u, e, hu⟩ := hv
  subst e
  obtain ⟨nl1_u, z1_u, nl2_u, z2_u, ds_u, hv_u, ha_u, hb_u, hc_u, hd_u, he_u⟩ := hu.shape
  have hw_u := hv_u
  subst hw_u
  simp
  refine ATT.fin' hQ Tryz.func16 c16res ?_
  exact ⟨by simp, _, rfl, _, rfl, hu⟩
 | no a w =>
  rw [hr] at hv hQ
  have e : v = _ := hv
  subst e
  simp
  refine ATT.fin' hQ Tryz.func16 c16res ?_
  exact ⟨by simp, _, rfl, rfl⟩
 | out => exact absurd hr (parseD_in _ _ _)
end Go.SL
namespace Go.SL
open Go.Proofs
set_option maxRecDepth 10000
def cnt (s : ByteArray) : Nat → Nat
 | 0 => 0
 | i + 1 => cnt s i + (if sbyte s i = 58 then 1 else 0)
@[simp] theorem cnt_zero (s : ByteArray) : cnt s 0 = 0 := rfl
theorem cnt_no {s : ByteArray} {i : Nat} (h : 128 ≤ sbyte s i) : cnt s (i + 1) = cnt s i := by
 simp only [cnt]; rw [if_neg (by omega)]; rfl
theorem cnt_le (s : ByteArray) : ∀ i, cnt s i ≤ i
 | 0 => Nat.le_refl _
 | i + 1 => by have := cnt_le s i; simp only [cnt]; split <;> omega
theorem rune_of (s : ByteArray) (i : Nat) (h : i < s.size) : ∃ c w, Utf8.decode s i = (c, w) ∧ 0 < w ∧ i + w ≤ s.size ∧ cnt s (i + w) = cnt s i + (if (c : Int) = 58 then 1 else 0) := by
 have e0 := get_sbyte s _ h
 unfold Utf8.decode
 simp only [Nat.add_zero]
 split
 ·rename_i h0
  refine ⟨_, 1, rfl, by omega, by omega, ?_⟩
  simp only [cnt, e0]
 rename_i h0
 have c1 : cnt s (i + 1) = cnt s i := cnt_no (by omega)
 have err : ∃ c w, (Utf8.runeError, 1) = (c, w) ∧ 0 < w ∧ i + w ≤ s.size ∧ cnt s (i + w) = cnt s i + (if (c : Int) = 58 then 1 else 0) := ⟨_, 1, rfl, by omega, by omega, by rw [c1, if_neg (by decide)]; rfl⟩
 split
 ·rename_i h1
  simp only [Bool.and_eq_true, decide_eq_true_eq, beq_iff_eq] at h1
  split
  ·rename_i h2
   have e1 := get_sbyte s _ h1.2.1
   have c2 : cnt s (i + 2) = cnt s (i + 1) := cnt_no (by omega)
   exact ⟨_, 2, rfl, by omega, by omega, by rw [c2, c1, if_neg (by omega)]; rfl⟩
  ·exact err
 split
 ·rename_i h1
  simp only [Bool.and_eq_true, decide_eq_true_eq, beq_iff_eq] at h1
  split
  ·rename_i h2
   simp only [Bool.and_eq_true, decide_eq_true_eq] at h2
   have e1 := get_sbyte s _ h1.1.2.1
   have e2 := get_sbyte s _ h1.2.1
   have c2 : cnt s (i + 2) = cnt s (i + 1) := cnt_no (by omega)
   have c3 : cnt s (i + 3) = cnt s (i + 2) := cnt_no (by omega)
   exact ⟨_, 3, rfl, by omega, by omega, by rw [c3, c2, c1, if_neg (by omega)]; rfl⟩
  ·exact err
 split
 ·rename_i h1
  simp only [Bool.and_eq_true, decide_eq_true_eq, beq_iff_eq] at h1
  split
  ·rename_i h2
   simp only [Bool.and_eq_true, decide_eq_true_eq] at h2
   have e1 := get_sbyte s _ h1.1.1.2.1
   have e2 := get_sbyte s _ h1.1.2.1
   have e3 := get_sbyte s _ h1.2.1
   have c2 : cnt s (i + 2) = cnt s (i + 1) := cnt_no (by omega)
   have c3 : cnt s (i + 3) = cnt s (i + 2) := cnt_no (by omega)
   have c4 : cnt s (i + 4) = cnt s (i + 3) := cnt_no (by omega)
   exact ⟨_, 4, rfl, by omega, by omega, by rw [c4, c3, c2, c1, if_neg (by omega)]; rfl⟩
  ·exact err
 ·exact err
def plainB (s : ByteArray) : Bool := decide (0 < s.size) && letterS (sbyte s 0) && decide (nameS s 0 = s.size)
def argsN (s : ByteArray) : Nat := if plainB s then 0 else if s.size = 0 ∨ plainB (s.extract 0 1) = true then cnt s s.size else 1
theorem f13_ok (s : ByteArray) (hs : s.size ≤ 1073741824) : DF Tryz.prog 13 [.str s] (.int .i64 (argsN s)) := by
 have hP := f23_ok s hs
 refine AF.start' 60 Tryz.func13 rfl rfl c13call c13ok fun Q hQ => ?_
 simp [c13c, c13t]
 refine ATT.loopG 60 c13l7.eq_1 (fun ((i, n) : Nat × Nat) => s.size - i) (fun ((i, n) : Nat × Nat) => i ≤ s.size ∧ n = cnt s i) (fun ((i, n) : Nat × Nat) => [(0, .d (.str s)), (3, .d (.int .i64 n)), (7, .ptr 0 0)]) (fun ((i, n) : Nat × Nat) => [.iter s i]) (fun ((i, n) : Nat × Nat) => []) ((0, 0)) (by (try dsimp only); exact ⟨Nat.zero_le _, rfl⟩) (by simp <;> omega) (by simp) (by simp) ?_
 intro ⟨i, n⟩ u w hI ih
 try simp only at hI ih
 obtain ⟨i1, i2⟩ := hI
 by_cases hi : i < s.size
 ·obtain ⟨c, w', hdec, hw, hle, hc⟩ := rune_of s i hi
  have hcl := cnt_le s i
  have hII : inI ((n : Int) + 1) = true := inI_of (by omega) (by omega)
  by_cases h58 : (c : Int) = 58
  ·rw [if_pos h58, ← i2] at hc
   simp [c13t, hi, hdec, eq_true h58, hII]
   refine ih (i + w', n + 1) (by first | ((try dsimp only); omega) | (simp [hi, hdec, eq_true h58, hII] <;> omega)) (by (try dsimp only); exact ⟨hle, hc.symm⟩) _ _ _ (by simp <;> omega) (by simp <;> omega) (by simp <;> omega)
  ·rw [if_neg h58, Nat.add_zero, ← i2] at hc
   simp [c13t, hi, hdec, h58]
   refine ih (i + w', n) (by first | ((try dsimp only); omega) | (simp [hi, hdec, h58] <;> omega)) (by (try dsimp only); exact ⟨hle, hc.symm⟩) _ _ _ (by simp <;> omega) (by simp <;> omega) (by simp <;> omega)
 ·have hie : i = s.size := by omega
  subst hie
  simp [c13t, hi]
  have hP' : DF Tryz.prog 23 [.str s] (.bool (plainB s)) := hP
  unfold argsN at hQ
  cases hb : plainB s with
  | true =>
   rw [hb] at hP'
   simp only [hb, if_true] at hQ
   refine ATT.callD Tryz.func13 60 (hP') (by simp) (by simp) (by simp) ?_
   simp [c13t]
   refine ATT.fin' hQ Tryz.func13 c13res ?_
   simp
   all_goals (first | omega | exact ⟨_, rfl⟩ | skip)
  | false =>
   rw [hb] at hP'
   simp only [hb, Bool.false_eq_true, if_false] at hQ
   refine ATT.callD Tryz.func13 60 (hP') (by simp) (by simp) (by simp) ?_
   simp [c13t]
   by_cases h0 : s.size = 0
   ·have he : s = ⟨#[]⟩ := by
     have : s.data.size = 0 := h0
     rcases s with ⟨d⟩
     simp at this
     rw [this]
    simp only [h0, true_or, if_true] at hQ
    simp [c13t, eq_true he]
    refine ATT.fin' hQ Tryz.func13 c13res ?_
    simp
    all_goals (first | omega | exact ⟨_, rfl⟩ | skip)
    simp [i2, h0]
   ·have he : ¬ s = ⟨#[]⟩ := fun e => h0 (by rw [e]; rfl)
    have h1 : (1 : Int) ≤ s.size := by omega
    have hP2 : DF Tryz.prog 23 [.str (s.extract 0 1)] (.bool (plainB (s.extract 0 1))) := f23_ok (s.extract 0 1) (by simp; omega)
    simp only [h0, false_or] at hQ
    simp [he, h1]
    cases hb2 : plainB (s.extract 0 1) with
    | true =>
     rw [hb2] at hP2
     simp only [hb2, if_true] at hQ
     refine ATT.callD Tryz.func13 60 (hP2) (by simp) (by simp) (by simp) ?_
     simp [c13t]
     refine ATT.fin' hQ Tryz.func13 c13res ?_
     simp
     all_goals (first | omega | exact ⟨_, rfl⟩ | skip)
    | false =>
     rw [hb2] at hP2
     simp only [hb2, Bool.false_eq_true, if_false] at hQ
     refine ATT.callD Tryz.func13 60 (hP2) (by simp) (by simp) (by simp) ?_
     simp [c13t]
     refine ATT.fin' hQ Tryz.func13 c13res ?_
     simp
     all_goals (first | omega | exact ⟨_, rfl⟩ | skip)
def numS (t : ByteArray) : Bool := !(decide (sbyte t 0 = 48) && decide (1 < t.size)) && decide (t.size ≤ 400) && decide (dval t t.size < 256 ^ 128)
theorem NumP_of {f : FuncId} (h : ∀ s, digs s → s.size ≤ 1073741824 → DE Tryz.prog f [.str s] (ReadQ s)) : NumP f numS := fun t hd ht => by
 refine AF.mono (h t hd ht) fun o h' hq => ?_
 obtain ⟨v, e, hv⟩ := hq
 refine ⟨v, e, ?_⟩
 unfold ReadQ at hv
 unfold numS
 split at hv
 ·rename_i h0
  exact ⟨_, _, _, _, _, hv, by simp [h0.1, h0.2]⟩
 rename_i h0
 split at hv
 ·rename_i h4
  exact ⟨_, _, _, _, _, hv, by simp; intro _ _; omega⟩
 rename_i h4
 have h0' : (decide (sbyte t 0 = 48) && decide (1 < t.size)) = false := by simpa using h0
 have h4' : t.size ≤ 400 := by omega
 split at hv
 ·rename_i hn
  obtain ⟨u, e1, k, u', e2, nl, sz, l, e3, _⟩ := hv
  subst e2 e3
  exact ⟨_, _, _, _, _, e1, by simp only [h0', h4', hn]; simp⟩
 ·rename_i hn
  exact ⟨_, _, _, _, _, hv, by simp only [h0', h4', hn]; simp⟩
theorem hWhole : NumP 71 numS := NumP_of f71_ok
theorem hRef : NumP 78 numS := NumP_of f78_ok
end Go.SL
namespace Go.SL
open Go.Proofs
set_option maxRecDepth 10000
@[simp] theorem bsV_nil : bsV [] = [] := rfl
def boundN (s : ByteArray) : Nat := if plainB s then 2 else if plainB (s.extract 0 1) then 0 else 1
theorem f89_ok (s : ByteArray) (h0 : 0 < s.size) (hs : s.size ≤ 1073741824) : DF Tryz.prog 89 [.str s] (.int .i64 (boundN s)) := by
 have hP : DF Tryz.prog 23 [.str s] (.bool (plainB s)) := f23_ok s hs
 have hP2 : DF Tryz.prog 23 [.str (s.extract 0 1)] (.bool (plainB (s.extract 0 1))) := f23_ok (s.extract 0 1) (by simp; omega)
 have h1 : (1 : Int) ≤ s.size := by omega
 refine AF.start' 60 Tryz.func89 rfl rfl c89call c89ok fun Q hQ => ?_
 simp [c89c, c89t]
 unfold boundN at hQ
 cases hb : plainB s with
 | true =>
  rw [hb] at hP
  simp only [hb, if_true] at hQ
  refine ATT.callD Tryz.func89 60 (hP) (by simp) (by simp) (by simp) ?_
  simp [c89t]
  refine ATT.fin' hQ Tryz.func89 c89res ?_
  simp
  all_goals (first | omega | exact ⟨_, rfl⟩ | skip)
 | false =>
  rw [hb] at hP
  simp only [hb, Bool.false_eq_true, if_false] at hQ
  refine ATT.callD Tryz.func89 60 (hP) (by simp) (by simp) (by simp) ?_
  simp [c89t, h1]
  cases hb2 : plainB (s.extract 0 1) with
  | true =>
   rw [hb2] at hP2
   simp only [hb2, if_true] at hQ
   refine ATT.callD Tryz.func89 60 (hP2) (by simp) (by simp) (by simp) ?_
   simp [c89t]
   refine ATT.fin' hQ Tryz.func89 c89res ?_
   simp
   all_goals (first | omega | exact ⟨_, rfl⟩ | skip)
  | false =>
   rw [hb2] at hP2
   simp only [hb2, Bool.false_eq_true, if_false] at hQ
   refine ATT.callD Tryz.func89 60 (hP2) (by simp) (by simp) (by simp) ?_
   simp [c89t]
   refine ATT.fin' hQ Tryz.func89 c89res ?_
   simp
   all_goals (first | omega | exact ⟨_, rfl⟩ | skip)
abbrev ND (k : Int) (t : ByteArray) (a : Nat) (m : Bool) (z : Nat) (ks : D) : D := .agg [.int .i64 k, .str t, .int .i64 a, .int .i64 0, .sl m z [], ks]
theorem f116_name (t : ByteArray) (a : Nat) (m : Bool) (z : Nat) (m2 : Bool) (z2 : Nat) (ds : List D) : DF Tryz.prog 116 [ND 5 t a m z (.sl m2 z2 ds)] (.int .i64 2) := by
 refine AF.start' 60 Tryz.func116 rfl rfl c116call c116ok fun Q hQ => ?_
 simp [c116c, c116t]
 refine ATT.fin' hQ Tryz.func116 c116res ?_
 simp
 all_goals (first | omega | exact ⟨_, rfl⟩ | skip)
theorem f116_num (t : ByteArray) (a : Nat) (m : Bool) (z : Nat) (m2 : Bool) (z2 : Nat) (ds : List D) : DF Tryz.prog 116 [ND 1 t a m z (.sl m2 z2 ds)] (.int .i64 2) := by
 refine AF.start' 60 Tryz.func116 rfl rfl c116call c116ok fun Q hQ => ?_
 simp [c116c, c116t]
 refine ATT.fin' hQ Tryz.func116 c116res ?_
 simp
 all_goals (first | omega | exact ⟨_, rfl⟩ | skip)
theorem f116_send (t : ByteArray) (a : Nat) (m : Bool) (z : Nat) (m2 : Bool) (z2 : Nat) (ds : List D) (h0 : 0 < t.size) (hs : t.size ≤ 1073741824) : DF Tryz.prog 116 [ND 7 t a m z (.sl m2 z2 ds)] (.int .i64 (boundN t)) := by
 refine AF.start' 60 Tryz.func116 rfl rfl c116call c116ok fun Q hQ => ?_
 simp [c116c, c116t]
 refine ATT.callD Tryz.func116 60 (f89_ok t h0 hs) (by simp) (by simp) (by simp) ?_
 simp
 refine ATT.fin' hQ Tryz.func116 c116res ?_
 simp
 all_goals (first | omega | exact ⟨_, rfl⟩ | skip)
def WR (n : Nat) (f : FuncId) (args : List D) (txt : List UInt8) : Prop := n + txt.length ≤ 1000000 ∧ ∀ b l, l.length ≤ n → VF Tryz.prog f (.ptr 0 0 :: args.map .d) [BB 0 0 71 b l] [BV 5 0 l] (.d (.tup [])) [BB 0 0 71 true (l ++ txt)] [BV 5 0 (l ++ txt)]
theorem hTW : hasT bldL 71 2 = true := by decide
theorem f33_name (n : Nat) (t : ByteArray) (a : Nat) (m : Bool) (z : Nat) (m2 : Bool) (z2 : Nat) (ds : List D) (hn : n + t.size ≤ 1000000) : WR n 33 [ND 5 t a m z (.sl m2 z2 ds)] t.data.toList := by
 refine ⟨by simpa using hn, fun b l hl => ?_⟩
 refine AF.start' 60 Tryz.func33 rfl rfl c33call c33ok fun Q hQ => ?_
 simp [c33c, c33t]
 refine ATT.callRV Tryz.func33 60 [0] [0] (f54_ok 71 hTW b l t (by omega)) (by simp) (by simp) (by simp) (by simp) (by simp) (by simp) (by simp) ?_
 simp
 refine ATT.fin0' hQ Tryz.func33 c33res ?_
 simp
 all_goals (first | omega | exact ⟨_, rfl⟩ | skip)
theorem f33_num (n : Nat) (t : ByteArray) (a : Nat) (m : Bool) (z : Nat) (m2 : Bool) (z2 : Nat) (ds : List D) (hn : n + t.size ≤ 1000000) : WR n 33 [ND 1 t a m z (.sl m2 z2 ds)] t.data.toList := by
 refine ⟨by simpa using hn, fun b l hl => ?_⟩
 refine AF.start' 60 Tryz.func33 rfl rfl c33call c33ok fun Q hQ => ?_
 simp [c33c, c33t]
 refine ATT.callRV Tryz.func33 60 [0] [0] (f54_ok 71 hTW b l t (by omega)) (by simp) (by simp) (by simp) (by simp) (by simp) (by simp) (by simp) ?_
 simp
 refine ATT.fin0' hQ Tryz.func33 c33res ?_
 simp
 all_goals (first | omega | exact ⟨_, rfl⟩ | skip)
theorem f88_ok (n : Nat) (k : Int) (t : ByteArray) (a : Nat) (m : Bool) (z : Nat) (m2 : Bool) (z2 : Nat) (ds : List D) (lv le : Nat) (txt : List UInt8) (hl : DF Tryz.prog 116 [ND k t a m z (.sl m2 z2 ds)] (.int .i64 lv)) (hle : le ≤ lv) (hn : WR n 33 [ND k t a m z (.sl m2 z2 ds)] txt) :
  WR n 88 [ND k t a m z (.sl m2 z2 ds), .int .i64 le] txt := by
 refine ⟨hn.1, fun b l hlen => ?_⟩
 have hle' : (le : Int) ≤ lv := by omega
 refine AF.start' 60 Tryz.func88 rfl rfl c88call c88ok fun Q hQ => ?_
 simp [c88c, c88t]
 refine ATT.callD Tryz.func88 60 (hl) (by simp) (by simp) (by simp) ?_
 simp [c88t, hle']
 refine ATT.callV Tryz.func88 60 [0] [0] (hn.2 b l hlen) (by simp) (by simp) (by simp) (by simp) (by simp) (by simp) (by simp) ?_
 simp
 refine ATT.fin' hQ Tryz.func88 c88res ?_
 simp
 all_goals (first | omega | exact ⟨_, rfl⟩ | skip)
theorem f59_ok (n : Nat) (k : Int) (t : ByteArray) (a : Nat) (m : Bool) (z : Nat) (m2 : Bool) (z2 : Nat) (ds : List D) (lv : Nat) (txt : List UInt8) (sel : ByteArray) (bn : Nat) (h0 : 0 < sel.size) (hs : sel.size ≤ 1000) (hb : boundN sel = bn)
  (hl : DF Tryz.prog 116 [ND k t a m z (.sl m2 z2 ds)] (.int .i64 lv)) (hle : max 1 bn ≤ lv) (hn : WR n 33 [ND k t a m z (.sl m2 z2 ds)] txt) :
  WR n 59 [ND k t a m z (.sl m2 z2 ds), .str sel] txt := by
 refine ⟨hn.1, fun b l hlen => ?_⟩
 have hN := (f88_ok n k t a m z m2 z2 ds lv (max 1 bn) txt hl hle hn).2 b l hlen
 have hB := f89_ok sel h0 (by omega)
 rw [hb] at hB
 have hmx : (if (1 : Int) < bn then (bn : Int) else 1) = ((max 1 bn : Nat) : Int) := by split <;> omega
 refine AF.start' 60 Tryz.func59 rfl rfl c59call c59ok fun Q hQ => ?_
 simp [c59c, c59t]
 refine ATT.callRD Tryz.func59 60 hB (by simp) (by simp) (by simp) ?_
 simp [hmx]
 refine ATT.callRV Tryz.func59 60 [0] [0] (hN) (by simp) (by simp) (by simp) (by simp) (by simp) (by simp) (by simp) ?_
 simp
 refine ATT.fin0' hQ Tryz.func59 c59res ?_
 simp
 all_goals (first | omega | exact ⟨_, rfl⟩ | skip)
theorem f60_name (n : Nat) (sel : ByteArray) (m2 : Bool) (z2 : Nat) (ds : List D) (h0 : 0 < sel.size) (hb : boundN sel = 2) (hn : n + 1 + sel.size ≤ 1000000) : WR n 60 [.str sel, .sl m2 z2 ds] (32 :: sel.data.toList) := by
 refine ⟨by simp; have : sel.data.size = sel.size := rfl; omega, fun b l hlen => ?_⟩
 have hB := f89_ok sel h0 (by omega)
 rw [hb] at hB
 have h32 : (⟨#[32]⟩ : ByteArray).size = 1 := rfl
 have hz1 : 1 + sel.size ≤ 9223372036854775807 := by omega
 have hz2 : 1 + sel.size + 1 ≤ 9223372036854775807 := by omega
 refine AF.start' 60 Tryz.func60 rfl rfl c60call c60ok fun Q hQ => ?_
 simp [c60c, c60t]
 refine ATT.callD Tryz.func60 60 (hB) (by simp) (by simp) (by simp) ?_
 simp [c60t, h32, hz1]
 refine ATT.callV Tryz.func60 60 [0] [0] (f54_ok 71 hTW b l (⟨#[32]⟩ ++ sel) (by simp; have : (⟨#[32]⟩ : ByteArray).size = 1 := rfl; omega)) (by simp) (by simp) (by simp) (by simp) (by simp) (by simp) (by simp) ?_
 simp [h32]
 refine ATT.fin0' hQ Tryz.func60 c60res ?_
 simp
 all_goals (first | omega | exact ⟨_, rfl⟩ | skip)
theorem f60_sign (n : Nat) (sel : ByteArray) (k : Int) (t : ByteArray) (a : Nat) (m : Bool) (z : Nat) (m2 : Bool) (z2 : Nat) (ds : List D) (txt : List UInt8) (h0 : 0 < sel.size) (hb : boundN sel = 1) (hn : n + 2 + sel.size ≤ 1000000)
  (hN : WR (n + 2 + sel.size) 88 [ND k t a m z (.sl m2 z2 ds), .int .i64 2] txt) : WR n 60 [.str sel, .sl false 6 [ND k t a m z (.sl m2 z2 ds)]] (32 :: sel.data.toList ++ 32 :: txt) := by
 have hsz : sel.data.size = sel.size := rfl
 refine ⟨by have := hN.1; simp; omega, fun b l hlen => ?_⟩
 have hB := f89_ok sel h0 (by omega)
 rw [hb] at hB
 have h32 : (⟨#[32]⟩ : ByteArray).size = 1 := rfl
 have hz1 : 1 + sel.size ≤ 9223372036854775807 := by omega
 have hz2 : 1 + sel.size + 1 ≤ 9223372036854775807 := by omega
 refine AF.start' 60 Tryz.func60 rfl rfl c60call c60ok fun Q hQ => ?_
 simp [c60c, c60t]
 refine ATT.callD Tryz.func60 60 (hB) (by simp) (by simp) (by simp) ?_
 simp [c60t, h32, hz1, hz2]
 refine ATT.callV Tryz.func60 60 [0] [0] (f54_ok 71 hTW b l (⟨#[32]⟩ ++ sel ++ ⟨#[32]⟩) (by simp; have : (⟨#[32]⟩ : ByteArray).size = 1 := rfl; omega)) (by simp) (by simp) (by simp) (by simp) (by simp) (by simp) (by simp) ?_
 simp [h32]
 refine ATT.callRV Tryz.func60 60 [0] [0] (hN.2 true (l ++ 32 :: (sel.data.toList ++ [32])) (by simp; omega)) (by simp) (by simp) (by simp) (by simp) (by simp) (by simp) (by simp) ?_
 simp
 refine ATT.fin0' hQ Tryz.func60 c60res ?_
 simp
 all_goals (first | omega | exact ⟨_, rfl⟩ | skip)
theorem f91_ok (n : Nat) (k : Int) (t : ByteArray) (a : Nat) (m : Bool) (z : Nat) (m2 : Bool) (z2 : Nat) (ds : List D) (txt : List UInt8) (hN : WR n 88 [ND k t a m z (.sl m2 z2 ds), .int .i64 1] txt) (b : Bool) (l : List UInt8) (hl : l.length ≤ n) :
  VF Tryz.prog 91 [.d (.int .i64 0), .ptr 1 0, .ptr 2 0] [BB 0 0 71 b l, .cells [.ptr 0 0] 98, .cells [.d (.sl false 6 [ND k t a m z (.sl m2 z2 ds)])] 23] [BV 5 0 l] (.d (.tup [])) [BB 0 0 71 true (l ++ txt), .cells [.ptr 0 0] 98, .cells [.d (.sl false 6 [ND k t a m z (.sl m2 z2 ds)])] 23] [BV 5 0 (l ++ txt)] := by
 refine AF.start' 60 Tryz.func91 rfl rfl c91call c91ok fun Q hQ => ?_
 simp [c91c, c91t]
 refine ATT.callRV Tryz.func91 60 [0] [0] (hN.2 b l hl) (by simp) (by simp) (by simp) (by simp) (by simp) (by simp) (by simp) ?_
 simp
 refine ATT.fin0' hQ Tryz.func91 c91res ?_
 simp
 all_goals (first | omega | exact ⟨_, rfl⟩ | skip)
theorem f90_one (n : Nat) (sel : ByteArray) (k : Int) (t : ByteArray) (a : Nat) (m : Bool) (z : Nat) (m2 : Bool) (z2 : Nat) (ds : List D) (txt : List UInt8) (h0 : 0 < sel.size) (hf : firstIdx sel 58 + 1 = (sel.size : Int)) (hn : n + 2 + sel.size ≤ 1000000)
  (hN : WR (n + 2 + sel.size) 88 [ND k t a m z (.sl m2 z2 ds), .int .i64 1] txt) (b : Bool) (l : List UInt8) (hl : l.length ≤ n) :
  VF Tryz.prog 90 [.ptr 0 0, .d (.str sel), .d (.str ⟨#[32]⟩), .d (.str ⟨#[]⟩), .fn (.func 91) [] [.ptr 1 0, .ptr 2 0]] [BB 0 0 71 b l, .cells [.ptr 0 0] 98, .cells [.d (.sl false 6 [ND k t a m z (.sl m2 z2 ds)])] 23] [BV 5 0 l] (.d (.tup [])) [BB 0 0 71 true (l ++ (32 :: sel.data.toList ++ 32 :: txt)), .cells [.ptr 0 0] 98, .cells [.d (.sl false 6 [ND k t a m z (.sl m2 z2 ds)])] 23] [BV 5 0 (l ++ (32 :: sel.data.toList ++ 32 :: txt))] := by
 have hsz : sel.data.size = sel.size := rfl
 have hs0 : ¬ sel = ⟨#[]⟩ := fun e => by rw [e] at h0; exact absurd h0 (by decide)
 have h32 : (⟨#[32]⟩ : ByteArray).size = 1 := rfl
 have hz1 : 1 + sel.size ≤ 9223372036854775807 := by omega
 have hz2 : 1 + sel.size + 1 ≤ 9223372036854775807 := by omega
 have hI1 : inI (sel.size : Int) = true := inI_of (by omega) (by omega)
 have hex : sel.extract 0 sel.size = sel := by simp
 have hex2 : sel.extract sel.size sel.size = ⟨#[]⟩ := by simp; rfl
 refine AF.start' 60 Tryz.func90 rfl rfl c90call c90ok fun Q hQ => ?_
 simp [c90c, c90t]
 refine ATT.loopG 60 c90l8.eq_1 (fun ((j, s, b', l') : Nat × ByteArray × Bool × List UInt8) => 1 - j) (fun ((j, s, b', l') : Nat × ByteArray × Bool × List UInt8) => (j = 0 ∧ s = sel ∧ b' = b ∧ l' = l) ∨ (j = 1 ∧ s = ByteArray.empty ∧ b' = true ∧ l' = l ++ (32 :: sel.data.toList ++ 32 :: txt))) (fun ((j, s, b', l') : Nat × ByteArray × Bool × List UInt8) => [(0, .ptr 0 0), (1, .d (.str s)), (2, .d (.str ⟨#[32]⟩)), (3, .d (.str ⟨#[]⟩)), (4, .fn (.func 91) [] [.ptr 1 0, .ptr 2 0]), (10, .d (.int .i64 j))]) (fun ((j, s, b', l') : Nat × ByteArray × Bool × List UInt8) => [BB 0 0 71 b' l', .cells [.ptr 0 0] 98, .cells [.d (.sl false 6 [ND k t a m z (.sl m2 z2 ds)])] 23]) (fun ((j, s, b', l') : Nat × ByteArray × Bool × List UInt8) => [BV 5 0 l']) ((0, sel, b, l)) (by (try dsimp only); exact .inl ⟨rfl, rfl, rfl, rfl⟩) (by simp <;> omega) (by simp) (by simp) ?_
 intro ⟨j, s, b', l'⟩ u w hI ih
 try simp only at hI ih
 rcases hI with ⟨e1, e2, e3, e4⟩ | ⟨e1, e2, e3, e4⟩
 ·subst e1 e2 e3 e4
  have hI9 : inI 1 = true := rfl
  simp [c90t, hs0]
  refine ATT.callD Tryz.func90 60 (f44_ok s 58) (by simp) (by simp) (by simp) ?_
  simp [hf, h32, hz1, hz2, hI1, hex]
  refine ATT.callRV Tryz.func90 60 [0] [0] (f54_ok 71 hTW b' l' (⟨#[32]⟩ ++ s ++ ⟨#[32]⟩) (by simp; omega)) (by simp) (by simp) (by simp) (by simp) (by simp) (by simp) (by simp) ?_
  simp [c90t, h32]
  refine ATT.callV Tryz.func90 60 [0, 1, 2] [0] (f91_ok (n + 2 + s.size) k t a m z m2 z2 ds txt hN true (l' ++ 32 :: (s.data.toList ++ [32])) (by simp; omega)) (by simp) (by simp) (by simp) (by simp) (by simp) (by simp) (by simp) ?_
  simp [c90t]
  refine ATT.callV Tryz.func90 60 [0] [0] (f54_ok 71 hTW true (l' ++ 32 :: (s.data.toList ++ 32 :: txt)) ⟨#[]⟩ (by have := hN.1; have : (⟨#[]⟩ : ByteArray).size = 0 := rfl; simp; omega)) (by simp) (by simp) (by simp) (by simp) (by simp) (by simp) (by simp) ?_
  simp [c90t, hI9]
  refine ih (1, ByteArray.empty, true, l' ++ (32 :: s.data.toList ++ 32 :: txt)) (by dsimp only; omega) (.inr ⟨rfl, rfl, rfl, rfl⟩) _ _ _ (by simp) (by simp) (by simp)
 ·subst e1 e2 e3 e4
  simp [c90t]
  refine ATT.fin0' hQ Tryz.func90 c90res ?_
  simp
  all_goals (first | omega | exact ⟨_, rfl⟩ | skip)
theorem f60_key (n : Nat) (sel : ByteArray) (k : Int) (t : ByteArray) (a : Nat) (m : Bool) (z : Nat) (m2 : Bool) (z2 : Nat) (ds : List D) (txt : List UInt8) (h0 : 0 < sel.size) (hb : boundN sel = 0) (hf : firstIdx sel 58 + 1 = (sel.size : Int)) (hn : n + 2 + sel.size ≤ 1000000)
  (hN : WR (n + 2 + sel.size) 88 [ND k t a m z (.sl m2 z2 ds), .int .i64 1] txt) : WR n 60 [.str sel, .sl false 6 [ND k t a m z (.sl m2 z2 ds)]] (32 :: sel.data.toList ++ 32 :: txt) := by
 have hsz : sel.data.size = sel.size := rfl
 refine ⟨by have := hN.1; simp; omega, fun b l hlen => ?_⟩
 have hB := f89_ok sel h0 (by omega)
 rw [hb] at hB
 refine AF.start' 60 Tryz.func60 rfl rfl c60call c60ok fun Q hQ => ?_
 simp [c60c, c60t]
 refine ATT.callD Tryz.func60 60 (hB) (by simp) (by simp) (by simp) ?_
 simp [c60t]
 refine ATT.callV Tryz.func60 60 [0, 1, 2] [0] (f90_one n sel k t a m z m2 z2 ds txt h0 hf hn hN b l hlen) (by simp) (by simp) (by simp) (by simp) (by simp) (by simp) (by simp) ?_
 simp
 refine ATT.fin0' hQ Tryz.func60 c60res ?_
 simp
 all_goals (first | omega | exact ⟨_, rfl⟩ | skip)
theorem f33_send (n : Nat) (t : ByteArray) (a : Nat) (m : Bool) (z : Nat) (k1 : Int) (t1 : ByteArray) (a1 : Nat) (m1 : Bool) (z1 : Nat) (m2 : Bool) (z2 : Nat) (ds1 ds : List D) (s1 s2 : List UInt8)
  (hT : WR n 59 [ND k1 t1 a1 m1 z1 (.sl m2 z2 ds1), .str t] s1) (hM : WR (n + s1.length) 60 [.str t, .sl false 6 ds] s2) : WR n 33 [ND 7 t a m z (.sl false 6 (ND k1 t1 a1 m1 z1 (.sl m2 z2 ds1) :: ds))] (s1 ++ s2) := by
 refine ⟨by have := hM.1; simp; omega, fun b l hlen => ?_⟩
 have h1 : (1 : Int) ≤ (ds.length : Int) + 1 := by omega
 refine AF.start' 60 Tryz.func33 rfl rfl c33call c33ok fun Q hQ => ?_
 simp [c33c, c33t]
 refine ATT.callRV Tryz.func33 60 [0] [0] (hT.2 b l hlen) (by simp) (by simp) (by simp) (by simp) (by simp) (by simp) (by simp) ?_
 simp [h1]
 refine ATT.callRV Tryz.func33 60 [0] [0] (hM.2 true (l ++ s1) (by simp; omega)) (by simp) (by simp) (by simp) (by simp) (by simp) (by simp) (by simp) ?_
 simp
 refine ATT.fin0' hQ Tryz.func33 c33res ?_
 simp
 all_goals (first | omega | exact ⟨_, rfl⟩ | skip)
theorem f57_one (n : Nat) (k : Int) (t : ByteArray) (a : Nat) (m : Bool) (z : Nat) (m2 : Bool) (z2 : Nat) (ds : List D) (sep : ByteArray) (txt : List UInt8) (hN : WR n 33 [ND k t a m z (.sl m2 z2 ds)] txt) : WR n 57 [.sl false 6 [ND k t a m z (.sl m2 z2 ds)], .str sep] txt := by
 refine ⟨hN.1, fun b l hlen => ?_⟩
 refine AF.start' 60 Tryz.func57 rfl rfl c57call c57ok fun Q hQ => ?_
 simp [c57c, c57t]
 refine ATT.loopG 60 c57l7.eq_1 (fun ((j, b', l') : Nat × Bool × List UInt8) => 1 - j) (fun ((j, b', l') : Nat × Bool × List UInt8) => (j = 0 ∧ b' = b ∧ l' = l) ∨ (j = 1 ∧ b' = true ∧ l' = l ++ txt)) (fun ((j, b', l') : Nat × Bool × List UInt8) => [(0, .ptr 0 0), (2, .d (.str sep)), (8, .d (.sl false 6 [ND k t a m z (.sl m2 z2 ds)])), (9, .d (.int .i64 1)), (10, .d (.int .i64 j))]) (fun ((j, b', l') : Nat × Bool × List UInt8) => [BB 0 0 71 b' l']) (fun ((j, b', l') : Nat × Bool × List UInt8) => [BV 5 0 l']) ((0, b, l)) (by (try dsimp only); exact .inl ⟨rfl, rfl, rfl⟩) (by simp <;> omega) (by simp) (by simp) ?_
 intro ⟨j, b', l'⟩ u w hI ih
 try simp only at hI ih
 rcases hI with ⟨e1, e2, e3⟩ | ⟨e1, e2, e3⟩
 ·subst e1 e2 e3
  have hI9 : inI 1 = true := rfl
  simp [c57t]
  refine ATT.callV Tryz.func57 60 [0] [0] (hN.2 b' l' hlen) (by simp) (by simp) (by simp) (by simp) (by simp) (by simp) (by simp) ?_
  simp [c57t, hI9]
  refine ih (1, true, l' ++ txt) (by first | ((try dsimp only); omega) | (simp [hI9] <;> omega)) (by (try dsimp only); exact .inr ⟨rfl, rfl, rfl⟩) _ _ _ (by simp <;> omega) (by simp <;> omega) (by simp [bsV] <;> omega)
 ·subst e1 e2 e3
  simp [c57t]
  refine ATT.fin0' hQ Tryz.func57 c57res ?_
  simp
  all_goals (first | omega | exact ⟨_, rfl⟩ | skip)
theorem f61_one (n : Nat) (a0 : Nat) (m0 : Bool) (z0 : Nat) (k : Int) (t : ByteArray) (a : Nat) (m : Bool) (z : Nat) (m2 : Bool) (z2 : Nat) (ds : List D) (txt : List UInt8) (hN : WR n 33 [ND k t a m z (.sl m2 z2 ds)] txt) : WR n 61 [ND 12 ⟨#[]⟩ a0 m0 z0 (.sl false 6 [ND k t a m z (.sl m2 z2 ds)])] txt := by
 refine ⟨hN.1, fun b l hlen => ?_⟩
 have hL := (f57_one n k t a m z m2 z2 ds ⟨#[46, 32]⟩ txt hN).2 b l hlen
 refine AF.start' 60 Tryz.func61 rfl rfl c61call c61ok fun Q hQ => ?_
 simp [c61c, c61t]
 refine ATT.callV Tryz.func61 60 [0] [0] (hL) (by simp) (by simp) (by simp) (by simp) (by simp) (by simp) (by simp) ?_
 simp
 refine ATT.fin0' hQ Tryz.func61 c61res ?_
 simp
 all_goals (first | omega | exact ⟨_, rfl⟩ | skip)
theorem f62_no (a0 : Nat) (m0 : Bool) (z0 : Nat) (m2 : Bool) (z2 : Nat) (ds : List D) (b : Bool) (l : List UInt8) : VF Tryz.prog 62 [.ptr 0 0, .d (ND 12 ⟨#[]⟩ a0 m0 z0 (.sl m2 z2 ds))] [BB 0 0 71 b l] [BV 5 0 l] (.d (.tup [])) [BB 0 0 71 b l] [BV 5 0 l] := by
 refine AF.start' 60 Tryz.func62 rfl rfl c62call c62ok fun Q hQ => ?_
 simp [c62c, c62t]
 refine ATT.fin0' hQ Tryz.func62 c62res ?_
 simp
 all_goals (first | omega | exact ⟨_, rfl⟩ | skip)
theorem f33_unit (n : Nat) (a0 : Nat) (m0 : Bool) (z0 : Nat) (k : Int) (t : ByteArray) (a : Nat) (m : Bool) (z : Nat) (m2 : Bool) (z2 : Nat) (ds : List D) (txt : List UInt8) (hN : WR n 33 [ND k t a m z (.sl m2 z2 ds)] txt) : WR n 33 [ND 12 ⟨#[]⟩ a0 m0 z0 (.sl false 6 [ND k t a m z (.sl m2 z2 ds)])] txt := by
 refine ⟨hN.1, fun b l hlen => ?_⟩
 have hL := (f61_one n a0 m0 z0 k t a m z m2 z2 ds txt hN).2 b l hlen
 refine AF.start' 60 Tryz.func33 rfl rfl c33call c33ok fun Q hQ => ?_
 simp [c33c, c33t]
 refine ATT.callV Tryz.func33 60 [0] [0] (f62_no a0 m0 z0 false 6 [ND k t a m z (.sl m2 z2 ds)] b l) (by simp) (by simp) (by simp) (by simp) (by simp) (by simp) (by simp) ?_
 simp [c33t]
 refine ATT.callV Tryz.func33 60 [0] [0] (hL) (by simp) (by simp) (by simp) (by simp) (by simp) (by simp) (by simp) ?_
 simp
 refine ATT.fin0' hQ Tryz.func33 c33res ?_
 simp
 all_goals (first | omega | exact ⟨_, rfl⟩ | skip)
theorem f22_unit (a0 : Nat) (m0 : Bool) (z0 : Nat) (k : Int) (t : ByteArray) (a : Nat) (m : Bool) (z : Nat) (m2 : Bool) (z2 : Nat) (ds : List D) (txt : List UInt8) (hN : WR 0 33 [ND k t a m z (.sl m2 z2 ds)] txt) : DF Tryz.prog 22 [ND 12 ⟨#[]⟩ a0 m0 z0 (.sl false 6 [ND k t a m z (.sl m2 z2 ds)])] (.str ⟨txt.toArray⟩) := by
 have hL := (f33_unit 0 a0 m0 z0 k t a m z m2 z2 ds txt hN).2 false [] (by simp)
 refine AF.start' 60 Tryz.func22 rfl rfl c22call c22ok fun Q hQ => ?_
 simp [c22c, c22t]
 refine ATT.nilB 1 1 1 5 rfl rfl (by decide) (by simp) ?_
 simp
 refine ATT.callV Tryz.func22 60 [1] [0] (hL) (by simp) (by simp) (by simp) (by simp) (by simp) (by simp) (by simp) ?_
 simp [c22t]
 refine ATT.callV Tryz.func22 60 [1] [0] (f34_ok 71 true txt (by have := hN.1; omega)) (by simp) (by simp) (by simp) (by simp) (by simp) (by simp) (by simp) ?_
 simp
 refine ATT.fin' hQ Tryz.func22 c22res ?_
 simp
 all_goals (first | omega | exact ⟨_, rfl⟩ | skip)
end Go.SL
namespace Go.SL
open Go.Proofs
set_option maxRecDepth 10000
def skipF (p : Int → Bool) (s : ByteArray) : Nat → Nat → Nat
 | 0, i => i
 | n + 1, i => if i < s.size then (if p (sbyte s i) then skipF p s n (i + 1) else i) else i
theorem skip_eq (p : Int → Bool) (s : ByteArray) : ∀ n i, s.size ≤ n + i → skipS p s i = skipF p s n i
 | 0, i, h => by rw [skipS, dif_neg (by omega)]; rfl
 | n + 1, i, h => by
  rw [skipS]
  simp only [skipF]
  split
  ·split
   ·exact skip_eq p s n (i + 1) (by omega)
   ·rfl
  ·rfl
theorem skip_is {p : Int → Bool} {s : ByteArray} {i j : Nat} (n : Nat) (h : s.size ≤ n + i) (e : skipF p s n i = j) : skipS p s i = j := (skip_eq p s n i h).trans e
theorem name_is {s : ByteArray} {i j : Nat} (n : Nat) (hl : (decide (i < s.size) && letterS (sbyte s i)) = true) (h : s.size ≤ n + i) (e : skipF identS s n i = j) : nameS s i = j := by
 unfold nameS; rw [if_pos hl]; exact skip_is n h e
theorem lex_word {num : ByteArray → Bool} {s : ByteArray} {i j k e : Nat} {t : ByteArray} {l : List Tk} (hj : skipS blankS s i = j) (hb : j < s.size) (hq : ¬ sbyte s j = 34) (hw : wordS num s j = some ((k : Int), t, e)) (he : j < e) (hl : lexS num s e = .inl l) : lexS num s i = .inl (⟨k, t, j⟩ :: l) := by
 rw [lexS_eq, hj, if_pos hb, if_neg hq, hw]
 simp only [if_pos he, hl]
theorem lex_end {num : ByteArray → Bool} {s : ByteArray} {i : Nat} (hj : skipS blankS s i = s.size) : lexS num s i = .inl [⟨0, ⟨#[]⟩, s.size⟩] := by
 rw [lexS_eq, hj, if_neg (Nat.lt_irrefl _)]
theorem word_name {num : ByteArray → Bool} {s : ByteArray} {i e : Nat} {t : ByteArray} (h : letterS (sbyte s i) = true) (hn : nameS s i = e) (hc : colonS s e = false) (ht : subT s i e = t) : wordS num s i = some (((1 : Nat) : Int), t, e) := by
 subst hn ht; simp [wordS, h, hc]
theorem word_key {num : ByteArray → Bool} {s : ByteArray} {i e : Nat} {t : ByteArray} (h : letterS (sbyte s i) = true) (hn : nameS s i = e) (hc : colonS s e = true) (ht : subT s i (e + 1) = t) : wordS num s i = some (((2 : Nat) : Int), t, e + 1) := by
 subst hn ht; simp [wordS, h, hc]
theorem word_num {num : ByteArray → Bool} {s : ByteArray} {i e : Nat} {t : ByteArray} (h : letterS (sbyte s i) = false) (h2 : digitS (sbyte s i) = true) (hn : skipS digitS s i = e) (ht : subT s i e = t) (hm : num t = true) : wordS num s i = some (((4 : Nat) : Int), t, e) := by
 subst hn ht; simp [wordS, h, h2, hm]
theorem word_sign {num : ByteArray → Bool} {s : ByteArray} {i e : Nat} {t : ByteArray} (h : letterS (sbyte s i) = false) (h2 : digitS (sbyte s i) = false) (h3 : ¬ sbyte s i = 39) (h4 : ¬ sbyte s i = 35) (h5 : ¬ sbyte s i = 58) (h6 : signS (sbyte s i) = true) (hn : signsS s i = e) (ht : subT s i e = t) : wordS num s i = some (((3 : Nat) : Int), t, e) := by
 subst hn ht; simp [wordS, h, h2, h3, h4, h5, h6]
theorem word_one {num : ByteArray → Bool} {s : ByteArray} {i k : Nat} {t : ByteArray} (h : letterS (sbyte s i) = false) (h2 : digitS (sbyte s i) = false) (h3 : ¬ sbyte s i = 39) (h4 : ¬ sbyte s i = 35) (h5 : ¬ sbyte s i = 58) (h6 : signS (sbyte s i) = false) (hp : placeS (sbyte s i) singlesT 0 = (k : Int)) (ht : subT s i (i + 1) = t) : wordS num s i = some (((8 + k : Nat) : Int), t, i + 1) := by
 subst ht; simp [wordS, h, h2, h3, h4, h5, h6, hp]
def src1 : ByteArray := ⟨#[97, 32, 98, 32, 43, 32, 50, 32, 102, 111, 111, 58, 32, 51]⟩
def src2 : ByteArray := ⟨#[97, 32, 93]⟩
theorem sg43 : signS (sbyte src1 (4 : Nat)) = true := by rw [show sbyte src1 (4 : Nat) = 43 by decide]; unfold signS; rw [placeS_L _ _ _ 0 rfl]; decide
theorem sg32 : signS (sbyte src1 (5 : Nat)) = false := by rw [show sbyte src1 (5 : Nat) = 32 by decide]; unfold signS; rw [placeS_L _ _ _ 0 rfl]; decide
theorem sg93 : signS (sbyte src2 (2 : Nat)) = false := by rw [show sbyte src2 (2 : Nat) = 93 by decide]; unfold signS; rw [placeS_L _ _ _ 0 rfl]; decide
theorem sgs : signsS src1 4 = 5 := by
 unfold signsS
 rw [sg43, show sbyte src1 (4 + 1 : Nat) = sbyte src1 (5 : Nat) from rfl, sg32]
 decide
theorem lex1 : lexS numS src1 0 = .inl [⟨1, ⟨#[97]⟩, 0⟩, ⟨1, ⟨#[98]⟩, 2⟩, ⟨3, ⟨#[43]⟩, 4⟩, ⟨4, ⟨#[50]⟩, 6⟩, ⟨2, ⟨#[102, 111, 111, 58]⟩, 8⟩, ⟨4, ⟨#[51]⟩, 13⟩, ⟨0, ⟨#[]⟩, 14⟩] :=
 lex_word (k := 1) (skip_is 20 (by decide) rfl) (by decide) (by decide) (word_name (by decide) (name_is 20 (by decide) (by decide) rfl) (by decide) rfl) (by decide)
 (lex_word (k := 1) (skip_is 20 (by decide) rfl) (by decide) (by decide) (word_name (by decide) (name_is 20 (by decide) (by decide) rfl) (by decide) rfl) (by decide)
 (lex_word (k := 3) (skip_is 20 (by decide) rfl) (by decide) (by decide) (word_sign (by decide) (by decide) (by decide) (by decide) (by decide) sg43 sgs rfl) (by decide)
 (lex_word (k := 4) (skip_is 20 (by decide) rfl) (by decide) (by decide) (word_num (by decide) (by decide) (skip_is 20 (by decide) rfl) rfl (by decide)) (by decide)
 (lex_word (k := 2) (skip_is 20 (by decide) rfl) (by decide) (by decide) (word_key (by decide) (name_is 20 (by decide) (by decide) rfl) (by decide) rfl) (by decide)
 (lex_word (k := 4) (skip_is 20 (by decide) rfl) (by decide) (by decide) (word_num (by decide) (by decide) (skip_is 20 (by decide) rfl) rfl (by decide)) (by decide)
 (lex_end (skip_is 20 (by decide) rfl)))))))
theorem pl1 : placeS (sbyte src2 (2 : Nat)) singlesT 0 = ((3 : Nat) : Int) := by
 rw [show sbyte src2 (2 : Nat) = 93 by decide, placeS_L _ _ _ 0 rfl]; decide
theorem lex2 : lexS numS src2 0 = .inl [⟨1, ⟨#[97]⟩, 0⟩, ⟨11, ⟨#[93]⟩, 2⟩, ⟨0, ⟨#[]⟩, 3⟩] :=
 lex_word (k := 1) (skip_is 20 (by decide) rfl) (by decide) (by decide) (word_name (by decide) (name_is 20 (by decide) (by decide) rfl) (by decide) rfl) (by decide)
 (lex_word (k := 11) (skip_is 20 (by decide) rfl) (by decide) (by decide) (word_one (k := 3) (by decide) (by decide) (by decide) (by decide) (by decide) sg93 pl1 rfl) (by decide)
 (lex_end (skip_is 20 (by decide) rfl)))
def nd1 : Nd := .mk 7 ⟨#[98]⟩ 2 0 [] [.mk 5 ⟨#[97]⟩ 0 0 [] []]
def nd2 : Nd := .mk 7 ⟨#[43]⟩ 4 0 [] [nd1, .mk 1 ⟨#[50]⟩ 6 0 [] []]
def nd3 : Nd := .mk 7 ⟨#[102, 111, 111, 58]⟩ 8 0 [] [nd2, .mk 1 ⟨#[51]⟩ 13 0 [] []]
theorem parse1 : ∃ l, parseD numS false src1 = .ok (.mk 12 ⟨#[]⟩ 0 0 [] [nd3]) l := by
 unfold parseD
 rw [if_neg (by decide), lex1]
 exact ⟨[⟨0, ⟨#[]⟩, 14⟩], by kernel_rfl⟩
theorem parse2 : parseD numS false src2 = .no 2 20 := by
 unfold parseD
 rw [if_neg (by decide), lex2]
 kernel_rfl
theorem NdR.nd {k : Int} {t : ByteArray} {a : Nat} {kids : List Nd} {u : D} (h : NdR (.mk k t a 0 [] kids) u) : ∃ m z m2 z2 ds, u = ND k t a m z (.sl m2 z2 ds) ∧ (m2 = true → kids = []) ∧ (m2 = false → z2 = 6) ∧ NdRL kids ds := by
 simp only [NdR] at h
 obtain ⟨nl1, z1, nl2, z2, ds, e, _, _, h3, h4, h5⟩ := h
 exact ⟨nl1, z1, nl2, z2, ds, e, h3, h4, h5⟩
theorem NdR.nd1 {k : Int} {t : ByteArray} {a : Nat} {x : Nd} {u : D} (h : NdR (.mk k t a 0 [] [x]) u) : ∃ m z d, u = ND k t a m z (.sl false 6 [d]) ∧ NdR x d := by
 obtain ⟨m, z, m2, z2, ds, e, h1, h2, h3⟩ := h.nd
 simp only [NdRL] at h3
 obtain ⟨d, l, e2, hx, e3⟩ := h3
 subst e2 e3
 cases m2 with
 | true => cases h1 rfl
 | false => have := h2 rfl; subst this; exact ⟨m, z, d, e, hx⟩
theorem NdR.nd2 {k : Int} {t : ByteArray} {a : Nat} {x y : Nd} {u : D} (h : NdR (.mk k t a 0 [] [x, y]) u) : ∃ m z d d2, u = ND k t a m z (.sl false 6 [d, d2]) ∧ NdR x d ∧ NdR y d2 := by
 obtain ⟨m, z, m2, z2, ds, e, h1, h2, h3⟩ := h.nd
 simp only [NdRL] at h3
 obtain ⟨d, l, e2, hx, d2, l2, e3, hy, e4⟩ := h3
 subst e2 e3 e4
 cases m2 with
 | true => cases h1 rfl
 | false => have := h2 rfl; subst this; exact ⟨m, z, d, d2, e, hx, hy⟩
theorem bb : boundN ⟨#[98]⟩ = 2 := by
 unfold boundN plainB
 rw [name_is (s := ⟨#[98]⟩) (i := 0) (j := 1) 20 (by decide) (by decide) rfl]; decide
theorem bp : boundN ⟨#[43]⟩ = 1 := by unfold boundN plainB; decide
theorem bf : boundN ⟨#[102, 111, 111, 58]⟩ = 0 := by
 unfold boundN plainB
 rw [name_is (s := ⟨#[102, 111, 111, 58]⟩) (i := 0) (j := 3) 20 (by decide) (by decide) rfl, name_is (s := ByteArray.extract ⟨#[102, 111, 111, 58]⟩ 0 1) (i := 0) (j := 1) 20 (by decide) (by decide) rfl]; decide
theorem text1 {u : D} (h : NdR (.mk 12 ⟨#[]⟩ 0 0 [] [nd3]) u) : DF Tryz.prog 22 [u] (.str src1) := by
 obtain ⟨m0, z0, d3, e, h3⟩ := h.nd1
 subst e
 unfold nd3 at h3
 obtain ⟨m3, z3, d2, e5, e, h2, h5⟩ := h3.nd2
 subst e
 unfold nd2 at h2
 obtain ⟨m2, z2, d1, e4, e, h1, h4⟩ := h2.nd2
 subst e
 unfold nd1 at h1
 obtain ⟨m1, z1, da, e, ha⟩ := h1.nd1
 subst e
 obtain ⟨ma, za, ma2, za2, dsa, e, _⟩ := ha.nd
 subst e
 obtain ⟨mb, zb, mb2, zb2, dsb, e, _⟩ := h4.nd
 subst e
 obtain ⟨mc, zc, mc2, zc2, dsc, e, _⟩ := h5.nd
 subst e
 have w1 : WR 0 33 [ND 7 ⟨#[98]⟩ 2 m1 z1 (.sl false 6 [ND 5 ⟨#[97]⟩ 0 ma za (.sl ma2 za2 dsa)])] ([97] ++ (32 :: [98])) :=
  f33_send 0 ⟨#[98]⟩ 2 m1 z1 5 ⟨#[97]⟩ 0 ma za ma2 za2 dsa [] _ _
   (f59_ok 0 5 ⟨#[97]⟩ 0 ma za ma2 za2 dsa 2 _ ⟨#[98]⟩ 2 (by decide) (by decide) bb (f116_name _ _ _ _ _ _ _) (by decide) (f33_name 0 ⟨#[97]⟩ 0 ma za ma2 za2 dsa (by decide)))
   (f60_name 1 ⟨#[98]⟩ false 6 [] (by decide) bb (by decide))
 have l1 := f116_send ⟨#[98]⟩ 2 m1 z1 false 6 [ND 5 ⟨#[97]⟩ 0 ma za (.sl ma2 za2 dsa)] (by decide) (by decide)
 rw [bb] at l1
 have w2 : WR 0 33 [ND 7 ⟨#[43]⟩ 4 m2 z2 (.sl false 6 [ND 7 ⟨#[98]⟩ 2 m1 z1 (.sl false 6 [ND 5 ⟨#[97]⟩ 0 ma za (.sl ma2 za2 dsa)]), ND 1 ⟨#[50]⟩ 6 mb zb (.sl mb2 zb2 dsb)])] (([97] ++ (32 :: [98])) ++ (32 :: [43] ++ 32 :: [50])) :=
  f33_send 0 ⟨#[43]⟩ 4 m2 z2 7 ⟨#[98]⟩ 2 m1 z1 false 6 _ _ _ _
   (f59_ok 0 7 ⟨#[98]⟩ 2 m1 z1 false 6 _ 2 _ ⟨#[43]⟩ 1 (by decide) (by decide) bp l1 (by decide) w1)
   (f60_sign 3 ⟨#[43]⟩ 1 ⟨#[50]⟩ 6 mb zb mb2 zb2 dsb _ (by decide) bp (by decide)
    (f88_ok _ 1 ⟨#[50]⟩ 6 mb zb mb2 zb2 dsb 2 2 _ (f116_num _ _ _ _ _ _ _) (by decide) (f33_num _ ⟨#[50]⟩ 6 mb zb mb2 zb2 dsb (by decide))))
 have l2 := f116_send ⟨#[43]⟩ 4 m2 z2 false 6 [ND 7 ⟨#[98]⟩ 2 m1 z1 (.sl false 6 [ND 5 ⟨#[97]⟩ 0 ma za (.sl ma2 za2 dsa)]), ND 1 ⟨#[50]⟩ 6 mb zb (.sl mb2 zb2 dsb)] (by decide) (by decide)
 rw [bp] at l2
 have w3 := f33_send 0 ⟨#[102, 111, 111, 58]⟩ 8 m3 z3 7 ⟨#[43]⟩ 4 m2 z2 false 6 _ _ _ _
   (f59_ok 0 7 ⟨#[43]⟩ 4 m2 z2 false 6 _ 1 _ ⟨#[102, 111, 111, 58]⟩ 0 (by decide) (by decide) bf l2 (by decide) w2)
   (f60_key 7 ⟨#[102, 111, 111, 58]⟩ 1 ⟨#[51]⟩ 13 mc zc mc2 zc2 dsc _ (by decide) bf (by decide) (by decide)
    (f88_ok _ 1 ⟨#[51]⟩ 13 mc zc mc2 zc2 dsc 2 1 _ (f116_num _ _ _ _ _ _ _) (by decide) (f33_num _ ⟨#[51]⟩ 13 mc zc mc2 zc2 dsc (by decide))))
 exact f22_unit 0 m0 z0 7 _ 8 m3 z3 false 6 _ _ w3
end Go.SL
namespace Go.SL
open Go.Proofs
set_option maxRecDepth 10000
theorem args1 : argsN ⟨#[97, 116, 58, 112, 117, 116, 58]⟩ = 2 := by
 unfold argsN plainB
 rw [name_is (s := ⟨#[97, 116, 58, 112, 117, 116, 58]⟩) (i := 0) (j := 2) 20 (by decide) (by decide) rfl, name_is (s := ByteArray.extract ⟨#[97, 116, 58, 112, 117, 116, 58]⟩ 0 1) (i := 0) (j := 1) 20 (by decide) (by decide) rfl]; decide
theorem args2 : argsN ⟨#[43]⟩ = 1 := by unfold argsN plainB; decide
theorem args3 : argsN ⟨#[102, 111, 111]⟩ = 0 := by
 unfold argsN plainB
 rw [name_is (s := ⟨#[102, 111, 111]⟩) (i := 0) (j := 3) 20 (by decide) (by decide) rfl]; decide
theorem f12_ok : DF Tryz.prog 12 [] (.bool true) := by
 have hP1 : DE Tryz.prog 8 [.str ⟨#[97, 32, 98, 32, 43, 32, 50, 32, 102, 111, 111, 58, 32, 51]⟩] (UnR (parseD numS false src1)) := f8_ok hWhole src1 (by decide)
 have hP2 : DE Tryz.prog 8 [.str ⟨#[97, 32, 93]⟩] (UnR (parseD numS false src2)) := f8_ok hWhole src2 (by decide)
 have hA1 := f13_ok ⟨#[97, 116, 58, 112, 117, 116, 58]⟩ (by decide)
 have hA2 := f13_ok ⟨#[43]⟩ (by decide)
 have hA3 := f13_ok ⟨#[102, 111, 111]⟩ (by decide)
 rw [args1] at hA1
 rw [args2] at hA2
 rw [args3] at hA3
 refine AF.start' 60 Tryz.func12 rfl rfl c12call c12ok fun Q hQ => ?_
 simp [c12c, c12t]
 refine ATT.callE Tryz.func12 60 hP1 (by simp) (by simp) (by simp) fun v hv => ?_
 obtain ⟨l, hp⟩ := parse1
 rw [hp] at hv
 obtain ⟨u, e, hu⟩ := hv
 subst e
 have hT : DF Tryz.prog 22 [u] (.str ⟨#[97, 32, 98, 32, 43, 32, 50, 32, 102, 111, 111, 58, 32, 51]⟩) := text1 hu
 obtain ⟨m, z, d, e, _⟩ := hu.nd1
 subst e
 simp [c12t]
 refine ATT.callE Tryz.func12 60 hP2 (by simp) (by simp) (by simp) fun v hv => ?_
 rw [parse2] at hv
 have hv' : v = _ := hv
 subst hv'
 simp [c12t]
 refine ATT.callD Tryz.func12 60 (hT) (by simp) (by simp) (by simp) ?_
 simp
 refine ATT.callD Tryz.func12 60 (hA1) (by simp) (by simp) (by simp) ?_
 simp
 refine ATT.callD Tryz.func12 60 (hA2) (by simp) (by simp) (by simp) ?_
 simp
 refine ATT.callD Tryz.func12 60 (hA3) (by simp) (by simp) (by simp) ?_
 simp
 refine ATT.fin' hQ Tryz.func12 c12res ?_
 simp
 all_goals (first | omega | exact ⟨_, rfl⟩ | skip)
end Go.SL
namespace Go.SL
open Go.Proofs
set_option maxRecDepth 10000
abbrev RP (L : List Tk) (i d : Nat) (e : Int) (a : Nat) : Bx := .cells [.d (.sl false 3 (L.map tkD)), .d (.int .i64 i), .d (.int .i64 d), .d (.int .i64 e), .d (.int .i64 a)] 62
theorem at_lt {L : List Tk} {i : Nat} {t : Tk} (ht : L[i]? = some t) : i < L.length := (List.getElem?_eq_some_iff.1 ht).1
theorem at_inR {L : List Tk} {i : Nat} {t : Tk} (ht : L[i]? = some t) : inR (i : Int) L.length = true := inR_of (by omega) (by have := at_lt ht; omega)
theorem f49_ok (L : List Tk) (i d : Nat) (a : Nat) (k : Int) (t : Tk) (ht : L[i]? = some t) : MF Tryz.prog 49 [.ptr 0 0, .d (.int .i64 k)] [RP L i d 0 a] (.d (.bool (decide (t.k = k)))) [RP L i d 0 a] := by
 have hR := at_inR ht
 refine AF.start' 60 Tryz.func49 rfl rfl c49call c49ok fun Q hQ => ?_
 simp [c49c, c49t, ht, tkD, tokD]
 refine ATT.fin' hQ Tryz.func49 c49res ?_
 simp
 all_goals (first | omega | exact ⟨_, rfl⟩ | skip)
theorem f49_no (L : List Tk) (i d : Nat) (e : Int) (he : e ≠ 0) (a : Nat) (k : Int) : MF Tryz.prog 49 [.ptr 0 0, .d (.int .i64 k)] [RP L i d e a] (.d (.bool false)) [RP L i d e a] := by
 refine AF.start' 60 Tryz.func49 rfl rfl c49call c49ok fun Q hQ => ?_
 simp [c49c, c49t, he]
 refine ATT.fin' hQ Tryz.func49 c49res ?_
 simp
 all_goals (first | omega | exact ⟨_, rfl⟩ | skip)
theorem f128_ok (L : List Tk) (i d : Nat) (e : Int) (a : Nat) (t : Tk) (ht : L[i]? = some t) : MF Tryz.prog 128 [.ptr 0 0] [RP L i d e a] (.d (tkD t)) [RP L i d e a] := by
 have hR := at_inR ht
 refine AF.start' 60 Tryz.func128 rfl rfl c128call c128ok fun Q hQ => ?_
 simp [c128c, c128t, ht, tkD, tokD]
 refine ATT.fin' hQ Tryz.func128 c128res ?_
 simp [tkD, tokD]
 all_goals (first | omega | exact ⟨_, rfl⟩ | skip)
theorem f50_ok (L : List Tk) (hL : L.length ≤ 5000) (i d : Nat) (a : Nat) (t : Tk) (ht : L[i]? = some t) (h0 : ¬ t.k = 0) : MF Tryz.prog 50 [.ptr 0 0] [RP L i d 0 a] (.d (tkD t)) [RP L (i + 1) d 0 a] := by
 have hR := at_inR ht
 have hi := at_lt ht
 have hI : inI ((i : Int) + 1) = true := inI_of (by omega) (by omega)
 refine AF.start' 60 Tryz.func50 rfl rfl c50call c50ok fun Q hQ => ?_
 simp [c50c, c50t, ht, tkD, tokD, h0, hI]
 refine ATT.fin' hQ Tryz.func50 c50res ?_
 simp [tkD, tokD]
 all_goals (first | omega | exact ⟨_, rfl⟩ | skip)
theorem f50_no (L : List Tk) (i d : Nat) (e : Int) (he : e ≠ 0) (a : Nat) (t : Tk) (ht : L[i]? = some t) : MF Tryz.prog 50 [.ptr 0 0] [RP L i d e a] (.d (tkD t)) [RP L i d e a] := by
 have hR := at_inR ht
 refine AF.start' 60 Tryz.func50 rfl rfl c50call c50ok fun Q hQ => ?_
 simp [c50c, c50t, ht, tkD, tokD, he]
 refine ATT.fin' hQ Tryz.func50 c50res ?_
 simp [tkD, tokD]
 all_goals (first | omega | exact ⟨_, rfl⟩ | skip)
theorem f52_ok (L : List Tk) (i d : Nat) (a : Nat) (w : Int) (t : Tk) (ht : L[i]? = some t) : MF Tryz.prog 52 [.ptr 0 0, .d (.int .i64 w)] [RP L i d 0 a] (.d (.tup [])) [RP L i d w t.a] := by
 have hR := at_inR ht
 refine AF.start' 60 Tryz.func52 rfl rfl c52call c52ok fun Q hQ => ?_
 simp [c52c, c52t, ht, tkD, tokD]
 refine ATT.fin0' hQ Tryz.func52 c52res ?_
 simp
 all_goals (first | omega | exact ⟨_, rfl⟩ | skip)
theorem f52_no (L : List Tk) (i d : Nat) (e : Int) (he : e ≠ 0) (a : Nat) (w : Int) : MF Tryz.prog 52 [.ptr 0 0, .d (.int .i64 w)] [RP L i d e a] (.d (.tup [])) [RP L i d e a] := by
 refine AF.start' 60 Tryz.func52 rfl rfl c52call c52ok fun Q hQ => ?_
 simp [c52c, c52t, he]
 refine ATT.fin0' hQ Tryz.func52 c52res ?_
 simp
 all_goals (first | omega | exact ⟨_, rfl⟩ | skip)
abbrev zeroT : D := .agg [.int .i64 0, .str ⟨#[]⟩, .int .i64 0]
theorem f51_ok (L : List Tk) (hL : L.length ≤ 5000) (i d : Nat) (a : Nat) (k : Int) (h0 : k ≠ 0) (t : Tk) (ht : L[i]? = some t) (hk : t.k = k) : MF Tryz.prog 51 [.ptr 0 0, .d (.int .i64 k)] [RP L i d 0 a] (.d (tkD t)) [RP L (i + 1) d 0 a] := by
 refine AF.start' 60 Tryz.func51 rfl rfl c51call c51ok fun Q hQ => ?_
 simp [c51c, c51t]
 refine ATT.callM Tryz.func51 60 [0] (f49_ok L i d a k t ht) rfl (by simp) (by simp) (by simp) (by simp) (by simp) ?_
 simp [c51t, hk]
 refine ATT.callM Tryz.func51 60 [0] (f50_ok L hL i d a t ht (by rw [hk]; exact h0)) rfl (by simp) (by simp) (by simp) (by simp) (by simp) ?_
 simp [tkD, tokD]
 refine ATT.fin' hQ Tryz.func51 c51res ?_
 simp [tkD, tokD]
 all_goals (first | omega | exact ⟨_, rfl⟩ | skip)
theorem f51_bad (L : List Tk) (i d : Nat) (a : Nat) (k : Int) (t : Tk) (ht : L[i]? = some t) (hk : ¬ t.k = k) : MF Tryz.prog 51 [.ptr 0 0, .d (.int .i64 k)] [RP L i d 0 a] (.d zeroT) [RP L i d 20 t.a] := by
 refine AF.start' 60 Tryz.func51 rfl rfl c51call c51ok fun Q hQ => ?_
 simp [c51c, c51t]
 refine ATT.callM Tryz.func51 60 [0] (f49_ok L i d a k t ht) rfl (by simp) (by simp) (by simp) (by simp) (by simp) ?_
 simp [c51t, hk]
 refine ATT.callM Tryz.func51 60 [0] (f52_ok L i d a 20 t ht) rfl (by simp) (by simp) (by simp) (by simp) (by simp) ?_
 simp [c51t]
 refine ATT.fin' hQ Tryz.func51 c51res ?_
 simp
 all_goals (first | omega | exact ⟨_, rfl⟩ | skip)
theorem f51_no (L : List Tk) (i d : Nat) (e : Int) (he : e ≠ 0) (a : Nat) (k : Int) : MF Tryz.prog 51 [.ptr 0 0, .d (.int .i64 k)] [RP L i d e a] (.d zeroT) [RP L i d e a] := by
 refine AF.start' 60 Tryz.func51 rfl rfl c51call c51ok fun Q hQ => ?_
 simp [c51c, c51t]
 refine ATT.callM Tryz.func51 60 [0] (f49_no L i d e he a k) rfl (by simp) (by simp) (by simp) (by simp) (by simp) ?_
 simp [c51t]
 refine ATT.callM Tryz.func51 60 [0] (f52_no L i d e he a 20) rfl (by simp) (by simp) (by simp) (by simp) (by simp) ?_
 simp [c51t]
 refine ATT.fin' hQ Tryz.func51 c51res ?_
 simp
 all_goals (first | omega | exact ⟨_, rfl⟩ | skip)
theorem f84_ok (L : List Tk) (hL : L.length ≤ 5000) (i d : Nat) (hd : d < 40) (a : Nat) (t : Tk) (ht : L[i]? = some t) (h0 : ¬ t.k = 0) : MF Tryz.prog 84 [.ptr 0 0] [RP L i d 0 a] (.d (.tup [])) [RP L (i + 1) (d + 1) 0 a] := by
 have hI : inI ((d : Int) + 1) = true := inI_of (by omega) (by omega)
 have hd' : ¬ (40 : Int) ≤ d := by omega
 refine AF.start' 60 Tryz.func84 rfl rfl c84call c84ok fun Q hQ => ?_
 simp [c84c, c84t, hI, hd']
 refine ATT.callM Tryz.func84 60 [0] (f50_ok L hL i (d + 1) a t ht h0) rfl (by simp) (by simp) (by simp) (by simp) (by simp) ?_
 simp
 refine ATT.fin0' hQ Tryz.func84 c84res ?_
 simp
 all_goals (first | omega | exact ⟨_, rfl⟩ | skip)
theorem f84_bad (L : List Tk) (i d : Nat) (hd : d = 40) (a : Nat) (t : Tk) (ht : L[i]? = some t) : MF Tryz.prog 84 [.ptr 0 0] [RP L i d 0 a] (.d (.tup [])) [RP L i (d + 1) 3 t.a] := by
 have hI : inI ((d : Int) + 1) = true := inI_of (by omega) (by omega)
 have hd' : (40 : Int) ≤ d := by omega
 refine AF.start' 60 Tryz.func84 rfl rfl c84call c84ok fun Q hQ => ?_
 simp [c84c, c84t, hd']
 refine ATT.callM Tryz.func84 60 [0] (f52_ok L i d a 3 t ht) rfl (by simp) (by simp) (by simp) (by simp) (by simp) ?_
 simp [c84t, hI]
 refine ATT.callM Tryz.func84 60 [0] (f50_no L i (d + 1) 3 (by decide) t.a t ht) rfl (by simp) (by simp) (by simp) (by simp) (by simp) ?_
 simp
 refine ATT.fin0' hQ Tryz.func84 c84res ?_
 simp
 all_goals (first | omega | exact ⟨_, rfl⟩ | skip)
theorem f127_ok (x m : Nd) (hxm : m.kids.length ≤ 5000) (u v : D) (hu : NdR x u) (hv : NdR m v) : DE Tryz.prog 127 [u, v] (NdR (sentS x m)) := by
 obtain ⟨nl1_u, z1_u, nl2_u, z2_u, ds_u, hv_u, ha_u, hb_u, hc_u, hd_u, he_u⟩ := hu.shape
 have hw_u := hv_u
 subst hw_u
 obtain ⟨nl1_v, z1_v, nl2_v, z2_v, ds_v, hv_v, ha_v, hb_v, hc_v, hd_v, he_v⟩ := hv.shape
 have hw_v := hv_v
 subst hw_v
 have hdl := he_v.length
 have hmul : (1 + m.kids.length) * 88 ≤ 140737488355328 := by omega
 rw [← hdl] at hmul
 cases nl2_v with
 | true =>
  have hk := hc_v rfl
  rw [hk] at he_v
  simp only [NdRL] at he_v
  subst he_v
  refine AF.start' 60 Tryz.func127 rfl rfl c127call c127ok fun Q hQ => ?_
  simp [c127c, c127t]
  refine ATT.finz hQ Tryz.func127 c127res (by first | exact .inl rfl | exact .inr ⟨_, rfl⟩) ?_
  simp
  all_goals (first | omega | exact ⟨_, rfl⟩ | skip)
  simp only [sentS, hk]; exact NdR.kids (.one hu)
 | false =>
  have hz := hd_v rfl
  subst hz
  refine AF.start' 60 Tryz.func127 rfl rfl c127call c127ok fun Q hQ => ?_
  simp [c127c, c127t, hmul]
  refine ATT.finz hQ Tryz.func127 c127res (by first | exact .inl rfl | exact .inr ⟨_, rfl⟩) ?_
  simp
  all_goals (first | omega | exact ⟨_, rfl⟩ | skip)
  simp only [sentS]; exact NdR.kids (NdRL.append (.one hu) he_v)
end Go.SL
namespace Go.SL
open Go.Proofs
set_option maxRecDepth 10000
def Gd (v : D) : Prop := ∃ x : Nd, NdR x v ∧ x.kids.length ≤ 5000
theorem Gd.leaf (k : Int) (t : ByteArray) (a n : Nat) : Gd (.agg [.int .i64 k, .str t, .int .i64 a, .int .i64 n, .sl true 0 [], .sl true 0 []]) := ⟨_, NdR.leaf k t a n, by simp [Nd.kids]⟩
def BQ (L : List Tk) (i d : Nat) (e : Int) (a : Nat) (o : Out) (h : H) : Prop := ∃ v b c, o = .ret (.d v) ∧ h = ⟨RP L i d e a :: b, c⟩ ∧ Gd v
def BadR (f : FuncId) : Prop := ∀ L i d e a, i < L.length → e ≠ 0 → AF Tryz.prog f [.ptr 0 0] ⟨[RP L i d e a], []⟩ (BQ L i d e a)
section
variable {N : Nat} {f : FD} {Q : Out → H → Prop}
theorem ATT.callB {fn : Func} (hf : Tryz.prog.funcs[f.fn]? = some fn) {ix : Nat} {dst : Option Nat} {g : Opd} {args : List Opd} {kill : List Nat} {r : List AI} {k : List AItem} {env : Env} {h : H} {ob : Bool} {fid : FuncId} {L : List Tk} {i d : Nat} {e : Int} {a : Nat} {argsC : List V}
  (n j : Nat) (hAF : AF Tryz.prog fid argsC ⟨[RP L i d e a], []⟩ (BQ L i d e a)) (hc : calls (ev env g) (args.map (ev env)) = some (fid, rns [j] [] argsC)) (hsc : insc 1 0 argsC = true) (hj : h.bx[j]? = some (RP L i d e a)) (ho : ob = true)
  (hk : ∀ v, Gd v → ATT Tryz.prog N f Q (goes n (.reg r :: k) (put (dels env kill) dst (.d v)) ⟨h.bx.set j (RP L i d e a), h.vc⟩ true)) (hkp : subE env f.keep := by exact True.intro) : ATT Tryz.prog N f Q (.reg (⟨ix, dst, .call g args, none, kill⟩ :: r) :: k, env, h, ob) := by
 refine ATT.callA hf n [j] [] 0 0 hAF trivial hc (by simp [hj]) hsc ho (fun out hC hE => ?_) hkp
 obtain ⟨v, b, c, e1, e2, hφ⟩ := hE
 subst e1 e2
 refine ⟨by simp, ?_⟩
 have := hk v hφ
 simpa using this
end
theorem f139_no : BadR 139 := by
 intro L i d e a hi he
 have ht : L[i]? = some L[i] := List.getElem?_eq_getElem hi
 generalize L[i] = t at ht
 refine AF.start' 60 Tryz.func139 rfl rfl c139call c139ok fun Q hQ => ?_
 simp [c139c, c139t]
 refine ATT.callM Tryz.func139 60 [0] (f128_ok L i d e a t ht) rfl (by simp) (by simp) (by simp) (by simp) (by simp) ?_
 simp [c139t, tkD, tokD]
 refine ATT.callM Tryz.func139 60 [0] (f49_no L i d e he a 1) rfl (by simp) (by simp) (by simp) (by simp) (by simp) ?_
 simp [c139t]
 refine ATT.callM Tryz.func139 60 [0] (f49_no L i d e he a 4) rfl (by simp) (by simp) (by simp) (by simp) (by simp) ?_
 simp [c139t]
 refine ATT.callM Tryz.func139 60 [0] (f49_no L i d e he a 5) rfl (by simp) (by simp) (by simp) (by simp) (by simp) ?_
 simp [c139t]
 refine ATT.callM Tryz.func139 60 [0] (f49_no L i d e he a 6) rfl (by simp) (by simp) (by simp) (by simp) (by simp) ?_
 simp [c139t]
 refine ATT.callM Tryz.func139 60 [0] (f49_no L i d e he a 17) rfl (by simp) (by simp) (by simp) (by simp) (by simp) ?_
 simp [c139t]
 refine ATT.callM Tryz.func139 60 [0] (f49_no L i d e he a 10) rfl (by simp) (by simp) (by simp) (by simp) (by simp) ?_
 simp [c139t]
 refine ATT.callM Tryz.func139 60 [0] (f49_no L i d e he a 8) rfl (by simp) (by simp) (by simp) (by simp) (by simp) ?_
 simp [c139t]
 refine ATT.callM Tryz.func139 60 [0] (f52_no L i d e he a 20) rfl (by simp) (by simp) (by simp) (by simp) (by simp) ?_
 simp [c139t]
 refine ATT.callM Tryz.func139 60 [0] (f50_no L i d e he a t ht) rfl (by simp) (by simp) (by simp) (by simp) (by simp) ?_
 simp [c139t]
 refine ATT.fin' hQ Tryz.func139 c139res ?_
 exact ⟨by simp, _, _, _, rfl, rfl, Gd.leaf _ _ _ 0⟩
theorem f129_no : BadR 129 := by
 intro L i d e a hi he
 refine AF.start' 60 Tryz.func129 rfl rfl c129call c129ok fun Q hQ => ?_
 simp [c129c, c129t]
 refine ATT.callB Tryz.func129 60 0 (f139_no L i d e a hi he) (by simp) (by simp) (by simp) (by simp) fun v hv => ?_
 obtain ⟨x, hx, hxk⟩ := hv
 obtain ⟨nl1_v, z1_v, nl2_v, z2_v, ds_v, hv_v, ha_v, hb_v, hc_v, hd_v, he_v⟩ := hx.shape
 have hw_v := hv_v
 subst hw_v
 simp
 refine ATT.loop 60 rfl ?_
 simp [c129l4, c129t]
 refine ATT.callM Tryz.func129 60 [0] (f49_no L i d e he a 1) rfl (by simp) (by simp) (by simp) (by simp) (by simp) ?_
 simp [c129t]
 refine ATT.fin' hQ Tryz.func129 c129res ?_
 exact ⟨by simp, _, _, _, rfl, rfl, x, hx, hxk⟩
theorem f126_no : BadR 126 := by
 intro L i d e a hi he
 refine AF.start' 60 Tryz.func126 rfl rfl c126call c126ok fun Q hQ => ?_
 simp [c126c, c126t]
 refine ATT.callB Tryz.func126 60 0 (f129_no L i d e a hi he) (by simp) (by simp) (by simp) (by simp) fun v hv => ?_
 obtain ⟨x, hx, hxk⟩ := hv
 obtain ⟨nl1_v, z1_v, nl2_v, z2_v, ds_v, hv_v, ha_v, hb_v, hc_v, hd_v, he_v⟩ := hx.shape
 have hw_v := hv_v
 subst hw_v
 simp
 refine ATT.loop 60 rfl ?_
 simp [c126l4, c126t]
 refine ATT.callM Tryz.func126 60 [0] (f49_no L i d e he a 3) rfl (by simp) (by simp) (by simp) (by simp) (by simp) ?_
 simp [c126t]
 refine ATT.fin' hQ Tryz.func126 c126res ?_
 exact ⟨by simp, _, _, _, rfl, rfl, x, hx, hxk⟩
theorem f111_no : BadR 111 := by
 intro L i d e a hi he
 refine AF.start' 60 Tryz.func111 rfl rfl c111call c111ok fun Q hQ => ?_
 simp [c111c, c111t]
 refine ATT.callB Tryz.func111 60 0 (f126_no L i d e a hi he) (by simp) (by simp) (by simp) (by simp) fun v hv => ?_
 obtain ⟨x, hx, hxk⟩ := hv
 obtain ⟨nl1_v, z1_v, nl2_v, z2_v, ds_v, hv_v, ha_v, hb_v, hc_v, hd_v, he_v⟩ := hx.shape
 have hw_v := hv_v
 subst hw_v
 simp [c111t]
 refine ATT.callM Tryz.func111 60 [0] (f49_no L i d e he a 2) rfl (by simp) (by simp) (by simp) (by simp) (by simp) ?_
 simp [c111t]
 refine ATT.fin' hQ Tryz.func111 c111res ?_
 exact ⟨by simp, _, _, _, rfl, rfl, x, hx, hxk⟩
theorem f85_no : BadR 85 := by
 intro L i d e a hi he
 refine AF.start' 60 Tryz.func85 rfl rfl c85call c85ok fun Q hQ => ?_
 simp [c85c, c85t]
 refine ATT.callM Tryz.func85 60 [0] (f49_no L i d e he a 8) rfl (by simp) (by simp) (by simp) (by simp) (by simp) ?_
 simp [c85t]
 refine ATT.callB Tryz.func85 60 0 (f111_no L i d e a hi he) (by simp) (by simp) (by simp) (by simp) fun v hv => ?_
 obtain ⟨x, hx, hxk⟩ := hv
 obtain ⟨nl1_v, z1_v, nl2_v, z2_v, ds_v, hv_v, ha_v, hb_v, hc_v, hd_v, he_v⟩ := hx.shape
 have hw_v := hv_v
 subst hw_v
 simp [c85t]
 refine ATT.callM Tryz.func85 60 [0] (f49_no L i d e he a 15) rfl (by simp) (by simp) (by simp) (by simp) (by simp) ?_
 simp [c85t]
 refine ATT.fin' hQ Tryz.func85 c85res ?_
 exact ⟨by simp, _, _, _, rfl, rfl, x, hx, hxk⟩
theorem f53_no : BadR 53 := by
 intro L i d e a hi he
 refine AF.start' 60 Tryz.func53 rfl rfl c53call c53ok fun Q hQ => ?_
 simp [c53c, c53t]
 refine ATT.callRM Tryz.func53 60 [0] (f49_no L i d e he a 1) rfl (by simp) (by simp) (by simp) (by simp) (by simp) ?_
 simp [c53t]
 refine ATT.callB Tryz.func53 60 0 (f85_no L i d e a hi he) (by simp) (by simp) (by simp) (by simp) fun v hv => ?_
 obtain ⟨x, hx, hxk⟩ := hv
 obtain ⟨nl1_v, z1_v, nl2_v, z2_v, ds_v, hv_v, ha_v, hb_v, hc_v, hd_v, he_v⟩ := hx.shape
 have hw_v := hv_v
 subst hw_v
 simp
 refine ATT.fin' hQ Tryz.func53 c53res ?_
 exact ⟨by simp, _, _, _, rfl, rfl, x, hx, hxk⟩
def RR {α : Type} (G : D → Prop) (Φ : α → D → Prop) (L : List Tk) (d : Nat) (r : Res α) (o : Out) (h : H) : Prop := match r with
 | .ok x l => ∃ v b c i, o = .ret (.d v) ∧ h = ⟨RP L i d 0 0 :: b, c⟩ ∧ L.drop i = l ∧ Φ x v
 | .no a w => ∃ v b c i d', o = .ret (.d v) ∧ h = ⟨RP L i d' w a :: b, c⟩ ∧ i < L.length ∧ (d ≤ d' ∧ d' ≤ 41) ∧ G v ∧ w ≠ 0
 | .out => True
theorem drop_at {L : List Tk} {i : Nat} {t : Tk} {r : List Tk} (h : L.drop i = t :: r) : L[i]? = some t ∧ L.drop (i + 1) = r := by
 constructor
 ·have := congrArg List.head? h
  simpa [List.head?_drop] using this
 ·have := congrArg List.tail h
  simpa [List.tail_drop] using this
section
variable {N : Nat} {f : FD} {Q : Out → H → Prop}
theorem ATT.callS {α : Type} {G : D → Prop} {Φ : α → D → Prop} {fn : Func} (hf : Tryz.prog.funcs[f.fn]? = some fn) {ix : Nat} {dst : Option Nat} {g : Opd} {args : List Opd} {kill : List Nat} {r : List AI} {k : List AItem} {env : Env} {h : H} {ob : Bool} {fid : FuncId} {L : List Tk} {i d : Nat} {res : Res α} {argsC : List V}
  (n j : Nat) (hAF : AF Tryz.prog fid argsC ⟨[RP L i d 0 0], []⟩ (RR G Φ L d res)) (hr : res ≠ .out) (hc : calls (ev env g) (args.map (ev env)) = some (fid, rns [j] [] argsC)) (hsc : insc 1 0 argsC = true) (hj : h.bx[j]? = some (RP L i d 0 0)) (ho : ob = true)
  (hno : ∀ a w v i' d', res = .no a w → i' < L.length → (d ≤ d' ∧ d' ≤ 41) → G v → w ≠ 0 → ATT Tryz.prog N f Q (goes n (.reg r :: k) (put (dels env kill) dst (.d v)) ⟨h.bx.set j (RP L i' d' w a), h.vc⟩ true))
  (hk : ∀ x l v i', res = .ok x l → L.drop i' = l → Φ x v → ATT Tryz.prog N f Q (goes n (.reg r :: k) (put (dels env kill) dst (.d v)) ⟨h.bx.set j (RP L i' d 0 0), h.vc⟩ true)) (hkp : subE env f.keep := by exact True.intro) : ATT Tryz.prog N f Q (.reg (⟨ix, dst, .call g args, none, kill⟩ :: r) :: k, env, h, ob) := by
 refine ATT.callA hf n [j] [] 0 0 hAF trivial hc (by simp [hj]) hsc ho (fun out hC hE => ?_) hkp
 cases hres : res with
 | ok x l =>
  rw [hres] at hE
  obtain ⟨v, b, c, i', e1, e2, e3, hφ⟩ := hE
  subst e1 e2
  refine ⟨by simp, ?_⟩
  have := hk x l v i' hres e3 hφ
  simpa [RP] using this
 | no a w =>
  rw [hres] at hE
  obtain ⟨v, b, c, i', d', e1, e2, e3, e4, e5, e6⟩ := hE
  subst e1 e2
  refine ⟨by simp, ?_⟩
  have := hno a w v i' d' hres e3 e4 e5 e6
  simpa [RP] using this
 | out => exact absurd hres hr
theorem ATT.callRS {α : Type} {G : D → Prop} {Φ : α → D → Prop} {fn : Func} (hf : Tryz.prog.funcs[f.fn]? = some fn) {ix : Nat} {dst : Option Nat} {g : Opd} {args : List Opd} {kill : List Nat} {dn r : List AI} {k : List AItem} {env : Env} {h : H} {ob : Bool} {fid : FuncId} {L : List Tk} {i d : Nat} {res : Res α} {argsC : List V}
  (n j : Nat) (hAF : AF Tryz.prog fid argsC ⟨[RP L i d 0 0], []⟩ (RR G Φ L d res)) (hr : res ≠ .out) (hc : calls (ev env g) (args.map (ev env)) = some (fid, rns [j] [] argsC)) (hsc : insc 1 0 argsC = true) (hj : h.bx[j]? = some (RP L i d 0 0)) (ho : ob = true)
  (hno : ∀ a w v i' d', res = .no a w → i' < L.length → (d ≤ d' ∧ d' ≤ 41) → G v → w ≠ 0 → ATT Tryz.prog N f Q (goes n (.regD (⟨ix, dst, .call g args, none, kill⟩ :: dn) r :: k) (put env dst (.d v)) ⟨h.bx.set j (RP L i' d' w a), h.vc⟩ (rcB ⟨h.bx.set j (RP L i' d' w a), h.vc⟩ (put env dst (.d v)) kill dn)))
  (hk : ∀ x l v i', res = .ok x l → L.drop i' = l → Φ x v → ATT Tryz.prog N f Q (goes n (.regD (⟨ix, dst, .call g args, none, kill⟩ :: dn) r :: k) (put env dst (.d v)) ⟨h.bx.set j (RP L i' d 0 0), h.vc⟩ (rcB ⟨h.bx.set j (RP L i' d 0 0), h.vc⟩ (put env dst (.d v)) kill dn))) (hk0 : f.keep = [] := by rfl) :
  ATT Tryz.prog N f Q (.regD dn (⟨ix, dst, .call g args, none, kill⟩ :: r) :: k, env, h, ob) := by
 refine ATT.callRA hf n [j] [] 0 0 hAF trivial hc (by simp [hj]) hsc ho (fun out hC hE => ?_) hk0
 cases hres : res with
 | ok x l =>
  rw [hres] at hE
  obtain ⟨v, b, c, i', e1, e2, e3, hφ⟩ := hE
  subst e1 e2
  refine ⟨by simp, ?_⟩
  have := hk x l v i' hres e3 hφ
  simpa [RP] using this
 | no a w =>
  rw [hres] at hE
  obtain ⟨v, b, c, i', d', e1, e2, e3, e4, e5, e6⟩ := hE
  subst e1 e2
  refine ⟨by simp, ?_⟩
  have := hno a w v i' d' hres e3 e4 e5 e6
  simpa [RP] using this
 | out => exact absurd hres hr
end
def NdA (x : Nd × Bool) (v : D) : Prop := NdR x.1 v
def GN (v : D) : Prop := ∃ x : Nd, NdR x v
def RfC {α : Type} (f : FuncId) (G : D → Prop) (Φ : α → D → Prop) (S : Nat → List Tk → Res α) : Prop := ∀ L i d, d ≤ 40 → WF L → WF (L.drop i) → S d (L.drop i) ≠ .out → AF Tryz.prog f [.ptr 0 0] ⟨[RP L i d 0 0], []⟩ (RR G Φ L d (S d (L.drop i)))
def ExprR (n : Nat) : Prop := RfC 53 GN NdR (exprS n)
def CascR (n : Nat) : Prop := RfC 85 GN NdR (cascS n)
def MsgR (n : Nat) : Prop := RfC 113 Gd NdR (msgS n)
def KeyedR (n : Nat) : Prop := RfC 111 GN NdA (keyedS n)
def BinaryR (n : Nat) : Prop := RfC 126 GN NdA (binaryS n)
def UnaryR (n : Nat) : Prop := RfC 129 GN NdA (unaryS n)
def PrimR (n : Nat) : Prop := RfC 139 GN NdA (primS n)
end Go.SL
namespace Go.SL
open Go.Proofs
set_option maxRecDepth 10000
theorem f129_ok (n : Nat) (ihM : ∀ m, m ≤ n → MsgR m) (ihP : PrimR n) : UnaryR (n + 1) := by
 intro L i d hd hL hl hin
 simp only [unaryS] at hin ⊢
 have hin0 : primS n d (L.drop i) ≠ .out := fun e => hin (by rw [e]; rfl)
 refine AF.start' 60 Tryz.func129 rfl rfl c129call c129ok fun Q hQ => ?_
 simp [c129c, c129t]
 refine ATT.callS Tryz.func129 60 0 (ihP L i d hd hL hl hin0) hin0 (by simp) (by simp) rfl rfl (fun a w v i' d' e h1 h2 h3 h4 => ?_) fun x l v i' e hl' hφ => ?_
 ·simp only [e, andThen_noE] at hQ
  obtain ⟨y, hy⟩ := h3
  obtain ⟨nl1_v, z1_v, nl2_v, z2_v, ds_v, hv_v, ha_v, hb_v, hc_v, hd_v, he_v⟩ := hy.shape
  have hw_v := hv_v
  subst hw_v
  simp
  refine ATT.loop 60 rfl ?_
  simp [c129l4, c129t]
  refine ATT.callM Tryz.func129 60 [0] (f49_no L i' d' w h4 a 1) rfl (by simp) (by simp) (by simp) (by simp) (by simp) ?_
  simp [c129t]
  refine ATT.fin' hQ Tryz.func129 c129res ?_
  exact ⟨by simp, _, _, _, _, _, rfl, rfl, h1, h2, ⟨y, hy⟩, h4⟩
 ·simp only [e, andThen_okE] at hQ hin
  have hwf := ((pres n).prim hl e).1
  have hu : NdR x.1 v := hφ
  subst hl'
  obtain ⟨nl1_v, z1_v, nl2_v, z2_v, ds_v, hv_v, ha_v, hb_v, hc_v, hd_v, he_v⟩ := hu.shape
  have hw_v := hv_v
  subst hw_v
  simp
  generalize hR : chainS n d 1 x (L.drop i') = R at hQ hin
  refine ATT.loopG 60 c129l4.eq_1 (fun ((m, x, nl1, z1, nl2, z2, ds, i, d', e, a) : Nat × (Nd × Bool) × Bool × Nat × Bool × Nat × List D × Nat × Nat × Int × Nat) => m) (fun ((m, x, nl1, z1, nl2, z2, ds, i, d', e, a) : Nat × (Nd × Bool) × Bool × Nat × Bool × Nat × List D × Nat × Nat × Int × Nat) => NdR x.1 (.agg [.int .i64 x.1.k, .str x.1.t, .int .i64 x.1.a, .int .i64 x.1.n, .sl nl1 z1 (x.1.names.map .str), .sl nl2 z2 ds]) ∧ m ≤ n ∧ ((e = 0 ∧ a = 0 ∧ d' = d ∧ WF (L.drop i) ∧ chainS m d 1 x (L.drop i) = R) ∨ (e ≠ 0 ∧ R = .no a e ∧ i < L.length ∧ (d ≤ d' ∧ d' ≤ 41)))) (fun ((m, x, nl1, z1, nl2, z2, ds, i, d', e, a) : Nat × (Nd × Bool) × Bool × Nat × Bool × Nat × List D × Nat × Nat × Int × Nat) => [(0, .ptr 0 0), (2, .ptr 1 0), (3, .ptr 2 0)]) (fun ((m, x, nl1, z1, nl2, z2, ds, i, d', e, a) : Nat × (Nd × Bool) × Bool × Nat × Bool × Nat × List D × Nat × Nat × Int × Nat) => [RP L i d' e a, .cells [.d (.int .i64 0), .d (.str ⟨#[]⟩), .d (.int .i64 0), .d (.int .i64 0), .d (.sl true 0 []), .d (.sl true 0 [])] 31, .cells [.d (.int .i64 x.1.k), .d (.str x.1.t), .d (.int .i64 x.1.a), .d (.int .i64 x.1.n), .d (.sl nl1 z1 (x.1.names.map .str)), .d (.sl nl2 z2 ds)] 31]) (fun ((m, x, nl1, z1, nl2, z2, ds, i, d', e, a) : Nat × (Nd × Bool) × Bool × Nat × Bool × Nat × List D × Nat × Nat × Int × Nat) => []) ((n, x, nl1_v, z1_v, nl2_v, z2_v, ds_v, i', d, 0, 0)) (by (try dsimp only); exact ⟨hu, Nat.le_refl _, .inl ⟨rfl, rfl, rfl, hwf, hR⟩⟩) (by simp <;> omega) (by simp) (by simp) ?_
  intro ⟨m, x, nl1, z1, nl2, z2, ds, i, d', e, a⟩ u w hI ih
  try simp only at hI ih
  obtain ⟨hx, hmn, hmode⟩ := hI
  rcases hmode with ⟨e1, e2, e3, hwf, hRk⟩ | ⟨he, hRk, hi, hd'⟩
  ·subst e1 e2 e3
   cases m with
   | zero => exact absurd hRk.symm (by simpa [chainS] using hin)
   | succ m =>
    obtain ⟨t1, l1, hs⟩ := hwf.cons
    have ht := (drop_at hs).1
    simp only [chainS] at hRk
    rw [hs] at hwf
    simp [c129t]
    refine ATT.callM Tryz.func129 60 [0] (f49_ok L i d' 0 1 t1 ht) rfl (by simp) (by simp) (by simp) (by simp) (by simp) ?_
    simp
    by_cases h1 : t1.k = 1
    ·rw [hs] at hRk
     simp only [kd_cons, eq_true h1, if_true] at hRk
     have hin2 : msgS m d' (t1 :: l1) ≠ .out := fun e => hin (by rw [← hRk, e]; rfl)
     have hM := ihM m (by omega) L i d' hd hL (by rw [hs]; exact hwf) (by rw [hs]; exact hin2)
     rw [hs] at hM
     simp [eq_true h1]
     refine ATT.callRS Tryz.func129 60 0 hM hin2 (by simp) (by simp) rfl (by simp) (fun a w v i' d2 e h1 h2 h3 h4 => ?_) fun y l' v i' e hl' hφ => ?_
     ·obtain ⟨y, hy, hyk⟩ := h3
      rw [e] at hRk
      simp
      refine ATT.callRE Tryz.func129 60 (f127_ok x.1 y hyk _ v hx hy) (by simp) (by simp) (by simp) fun s hsn => ?_
      obtain ⟨nl1_s, z1_s, nl2_s, z2_s, ds_s, hv_s, ha_s, hb_s, hc_s, hd_s, he_s⟩ := hsn.shape
      have hw_s := hv_s
      subst hw_s
      simp
      refine ih (m, (sentS x.1 y, true), nl1_s, z1_s, nl2_s, z2_s, ds_s, i', d2, w, a) (by first | ((try dsimp only); omega) | (simp <;> omega)) (by (try dsimp only); exact ⟨hsn, by omega, .inr ⟨h4, hRk.symm, h1, h2⟩⟩) _ _ _ (by simp <;> omega) (by simp <;> omega) (by simp <;> omega)
     ·rw [e] at hRk
      simp only [andThen_okE] at hRk
      simp
      have hsh := (pres m).msg hwf e
      refine ATT.callRE Tryz.func129 60 (f127_ok x.1 y (msg_len hwf e) _ v hx hφ) (by simp) (by simp) (by simp) fun s hsn => ?_
      obtain ⟨nl1_s, z1_s, nl2_s, z2_s, ds_s, hv_s, ha_s, hb_s, hc_s, hd_s, he_s⟩ := hsn.shape
      have hw_s := hv_s
      subst hw_s
      simp
      refine ih (m, (sentS x.1 y, true), nl1_s, z1_s, nl2_s, z2_s, ds_s, i', d', 0, 0) (by first | ((try dsimp only); omega) | (simp <;> omega)) (by (try dsimp only); exact ⟨hsn, by omega, .inl ⟨rfl, rfl, rfl, by rw [hl']; exact hsh.1, by rw [hl']; exact hRk⟩⟩) _ _ _ (by simp <;> omega) (by simp <;> omega) (by simp <;> omega)
    ·rw [hs] at hRk
     simp only [kd_cons, eq_false h1, if_false] at hRk
     subst hRk
     simp [c129t, h1]
     refine ATT.fin' hQ Tryz.func129 c129res ?_
     exact ⟨by simp, _, _, _, _, rfl, rfl, hs, hx⟩
  ·simp [c129t]
   refine ATT.callM Tryz.func129 60 [0] (f49_no L i d' e he a 1) rfl (by simp) (by simp) (by simp) (by simp) (by simp) ?_
   simp [c129t]
   subst hRk
   refine ATT.fin' hQ Tryz.func129 c129res ?_
   exact ⟨by simp, _, _, _, _, _, rfl, rfl, hi, hd', ⟨_, hx⟩, he⟩
theorem f126_ok (n : Nat) (ihM : ∀ m, m ≤ n → MsgR m) (ihP : UnaryR n) : BinaryR (n + 1) := by
 intro L i d hd hL hl hin
 simp only [binaryS] at hin ⊢
 have hin0 : unaryS n d (L.drop i) ≠ .out := fun e => hin (by rw [e]; rfl)
 refine AF.start' 60 Tryz.func126 rfl rfl c126call c126ok fun Q hQ => ?_
 simp [c126c, c126t]
 refine ATT.callS Tryz.func126 60 0 (ihP L i d hd hL hl hin0) hin0 (by simp) (by simp) rfl rfl (fun a w v i' d' e h1 h2 h3 h4 => ?_) fun x l v i' e hl' hφ => ?_
 ·simp only [e, andThen_noE] at hQ
  obtain ⟨y, hy⟩ := h3
  obtain ⟨nl1_v, z1_v, nl2_v, z2_v, ds_v, hv_v, ha_v, hb_v, hc_v, hd_v, he_v⟩ := hy.shape
  have hw_v := hv_v
  subst hw_v
  simp
  refine ATT.loop 60 rfl ?_
  simp [c126l4, c126t]
  refine ATT.callM Tryz.func126 60 [0] (f49_no L i' d' w h4 a 3) rfl (by simp) (by simp) (by simp) (by simp) (by simp) ?_
  simp [c126t]
  refine ATT.fin' hQ Tryz.func126 c126res ?_
  exact ⟨by simp, _, _, _, _, _, rfl, rfl, h1, h2, ⟨y, hy⟩, h4⟩
 ·simp only [e, andThen_okE] at hQ hin
  have hwf := ((pres n).unary hl e).1
  have hu : NdR x.1 v := hφ
  subst hl'
  obtain ⟨nl1_v, z1_v, nl2_v, z2_v, ds_v, hv_v, ha_v, hb_v, hc_v, hd_v, he_v⟩ := hu.shape
  have hw_v := hv_v
  subst hw_v
  simp
  generalize hR : chainS n d 3 x (L.drop i') = R at hQ hin
  refine ATT.loopG 60 c126l4.eq_1 (fun ((m, x, nl1, z1, nl2, z2, ds, i, d', e, a) : Nat × (Nd × Bool) × Bool × Nat × Bool × Nat × List D × Nat × Nat × Int × Nat) => m) (fun ((m, x, nl1, z1, nl2, z2, ds, i, d', e, a) : Nat × (Nd × Bool) × Bool × Nat × Bool × Nat × List D × Nat × Nat × Int × Nat) => NdR x.1 (.agg [.int .i64 x.1.k, .str x.1.t, .int .i64 x.1.a, .int .i64 x.1.n, .sl nl1 z1 (x.1.names.map .str), .sl nl2 z2 ds]) ∧ m ≤ n ∧ ((e = 0 ∧ a = 0 ∧ d' = d ∧ WF (L.drop i) ∧ chainS m d 3 x (L.drop i) = R) ∨ (e ≠ 0 ∧ R = .no a e ∧ i < L.length ∧ (d ≤ d' ∧ d' ≤ 41)))) (fun ((m, x, nl1, z1, nl2, z2, ds, i, d', e, a) : Nat × (Nd × Bool) × Bool × Nat × Bool × Nat × List D × Nat × Nat × Int × Nat) => [(0, .ptr 0 0), (2, .ptr 1 0), (3, .ptr 2 0)]) (fun ((m, x, nl1, z1, nl2, z2, ds, i, d', e, a) : Nat × (Nd × Bool) × Bool × Nat × Bool × Nat × List D × Nat × Nat × Int × Nat) => [RP L i d' e a, .cells [.d (.int .i64 0), .d (.str ⟨#[]⟩), .d (.int .i64 0), .d (.int .i64 0), .d (.sl true 0 []), .d (.sl true 0 [])] 31, .cells [.d (.int .i64 x.1.k), .d (.str x.1.t), .d (.int .i64 x.1.a), .d (.int .i64 x.1.n), .d (.sl nl1 z1 (x.1.names.map .str)), .d (.sl nl2 z2 ds)] 31]) (fun ((m, x, nl1, z1, nl2, z2, ds, i, d', e, a) : Nat × (Nd × Bool) × Bool × Nat × Bool × Nat × List D × Nat × Nat × Int × Nat) => []) ((n, x, nl1_v, z1_v, nl2_v, z2_v, ds_v, i', d, 0, 0)) (by (try dsimp only); exact ⟨hu, Nat.le_refl _, .inl ⟨rfl, rfl, rfl, hwf, hR⟩⟩) (by simp <;> omega) (by simp) (by simp) ?_
  intro ⟨m, x, nl1, z1, nl2, z2, ds, i, d', e, a⟩ u w hI ih
  try simp only at hI ih
  obtain ⟨hx, hmn, hmode⟩ := hI
  rcases hmode with ⟨e1, e2, e3, hwf, hRk⟩ | ⟨he, hRk, hi, hd'⟩
  ·subst e1 e2 e3
   cases m with
   | zero => exact absurd hRk.symm (by simpa [chainS] using hin)
   | succ m =>
    obtain ⟨t1, l1, hs⟩ := hwf.cons
    have ht := (drop_at hs).1
    simp only [chainS] at hRk
    rw [hs] at hwf
    simp [c126t]
    refine ATT.callM Tryz.func126 60 [0] (f49_ok L i d' 0 3 t1 ht) rfl (by simp) (by simp) (by simp) (by simp) (by simp) ?_
    simp
    by_cases h1 : t1.k = 3
    ·rw [hs] at hRk
     simp only [kd_cons, eq_true h1, if_true] at hRk
     have hin2 : msgS m d' (t1 :: l1) ≠ .out := fun e => hin (by rw [← hRk, e]; rfl)
     have hM := ihM m (by omega) L i d' hd hL (by rw [hs]; exact hwf) (by rw [hs]; exact hin2)
     rw [hs] at hM
     simp [eq_true h1]
     refine ATT.callRS Tryz.func126 60 0 hM hin2 (by simp) (by simp) rfl (by simp) (fun a w v i' d2 e h1 h2 h3 h4 => ?_) fun y l' v i' e hl' hφ => ?_
     ·obtain ⟨y, hy, hyk⟩ := h3
      rw [e] at hRk
      simp
      refine ATT.callRE Tryz.func126 60 (f127_ok x.1 y hyk _ v hx hy) (by simp) (by simp) (by simp) fun s hsn => ?_
      obtain ⟨nl1_s, z1_s, nl2_s, z2_s, ds_s, hv_s, ha_s, hb_s, hc_s, hd_s, he_s⟩ := hsn.shape
      have hw_s := hv_s
      subst hw_s
      simp
      refine ih (m, (sentS x.1 y, true), nl1_s, z1_s, nl2_s, z2_s, ds_s, i', d2, w, a) (by first | ((try dsimp only); omega) | (simp <;> omega)) (by (try dsimp only); exact ⟨hsn, by omega, .inr ⟨h4, hRk.symm, h1, h2⟩⟩) _ _ _ (by simp <;> omega) (by simp <;> omega) (by simp <;> omega)
     ·rw [e] at hRk
      simp only [andThen_okE] at hRk
      simp
      have hsh := (pres m).msg hwf e
      refine ATT.callRE Tryz.func126 60 (f127_ok x.1 y (msg_len hwf e) _ v hx hφ) (by simp) (by simp) (by simp) fun s hsn => ?_
      obtain ⟨nl1_s, z1_s, nl2_s, z2_s, ds_s, hv_s, ha_s, hb_s, hc_s, hd_s, he_s⟩ := hsn.shape
      have hw_s := hv_s
      subst hw_s
      simp
      refine ih (m, (sentS x.1 y, true), nl1_s, z1_s, nl2_s, z2_s, ds_s, i', d', 0, 0) (by first | ((try dsimp only); omega) | (simp <;> omega)) (by (try dsimp only); exact ⟨hsn, by omega, .inl ⟨rfl, rfl, rfl, by rw [hl']; exact hsh.1, by rw [hl']; exact hRk⟩⟩) _ _ _ (by simp <;> omega) (by simp <;> omega) (by simp <;> omega)
    ·rw [hs] at hRk
     simp only [kd_cons, eq_false h1, if_false] at hRk
     subst hRk
     simp [c126t, h1]
     refine ATT.fin' hQ Tryz.func126 c126res ?_
     exact ⟨by simp, _, _, _, _, rfl, rfl, hs, hx⟩
  ·simp [c126t]
   refine ATT.callM Tryz.func126 60 [0] (f49_no L i d' e he a 3) rfl (by simp) (by simp) (by simp) (by simp) (by simp) ?_
   simp [c126t]
   subst hRk
   refine ATT.fin' hQ Tryz.func126 c126res ?_
   exact ⟨by simp, _, _, _, _, _, rfl, rfl, hi, hd', ⟨_, hx⟩, he⟩
theorem f111_ok (n : Nat) (ihM : MsgR n) (ihB : BinaryR n) : KeyedR (n + 1) := by
 intro L i d hd hL hl hin
 simp only [keyedS] at hin ⊢
 have hin0 : binaryS n d (L.drop i) ≠ .out := fun e => hin (by rw [e]; rfl)
 refine AF.start' 60 Tryz.func111 rfl rfl c111call c111ok fun Q hQ => ?_
 simp [c111c, c111t]
 refine ATT.callS Tryz.func111 60 0 (ihB L i d hd hL hl hin0) hin0 (by simp) (by simp) rfl rfl (fun a w v i' d' e h1 h2 h3 h4 => ?_) fun x l v i' e hl' hφ => ?_
 ·simp only [e, andThen_noE] at hQ
  obtain ⟨y, hy⟩ := h3
  obtain ⟨nl1_v, z1_v, nl2_v, z2_v, ds_v, hv_v, ha_v, hb_v, hc_v, hd_v, he_v⟩ := hy.shape
  have hw_v := hv_v
  subst hw_v
  simp [c111t]
  refine ATT.callM Tryz.func111 60 [0] (f49_no L i' d' w h4 a 2) rfl (by simp) (by simp) (by simp) (by simp) (by simp) ?_
  simp [c111t]
  refine ATT.fin' hQ Tryz.func111 c111res ?_
  exact ⟨by simp, _, _, _, _, _, rfl, rfl, h1, h2, ⟨y, hy⟩, h4⟩
 ·simp only [e, andThen_okE] at hQ hin
  have hwf := ((pres n).binary hl e).1
  have hu : NdR x.1 v := hφ
  obtain ⟨nl1_v, z1_v, nl2_v, z2_v, ds_v, hv_v, ha_v, hb_v, hc_v, hd_v, he_v⟩ := hu.shape
  have hw_v := hv_v
  subst hw_v
  obtain ⟨t1, l1, hs⟩ := hwf.cons
  subst hs
  have ht := (drop_at hl').1
  simp [c111t]
  refine ATT.callM Tryz.func111 60 [0] (f49_ok L i' d 0 2 t1 ht) rfl (by simp) (by simp) (by simp) (by simp) (by simp) ?_
  simp
  by_cases h1 : t1.k = 2
  ·simp only [kd_cons, eq_true h1, if_true] at hQ hin
   have hin2 : msgS n d (t1 :: l1) ≠ .out := fun e => hin (by rw [e]; rfl)
   have hM := ihM L i' d hd hL (by rw [hl']; exact hwf) (by rw [hl']; exact hin2)
   rw [hl'] at hM
   simp [eq_true h1]
   refine ATT.callRS Tryz.func111 60 0 hM hin2 (by simp) (by simp) rfl (by simp) (fun a w v i' d2 e h1 h2 h3 h4 => ?_) fun y l' v i' e hl' hφ => ?_
   ·obtain ⟨y, hy, hyk⟩ := h3
    simp only [e, andThen_noE] at hQ
    simp
    refine ATT.callRE Tryz.func111 60 (f127_ok x.1 y hyk _ v hu hy) (by simp) (by simp) (by simp) fun s hsn => ?_
    obtain ⟨nl1_s, z1_s, nl2_s, z2_s, ds_s, hv_s, ha_s, hb_s, hc_s, hd_s, he_s⟩ := hsn.shape
    have hw_s := hv_s
    subst hw_s
    simp [c111t]
    refine ATT.fin' hQ Tryz.func111 c111res ?_
    exact ⟨by simp, _, _, _, _, _, rfl, rfl, h1, h2, ⟨_, hsn⟩, h4⟩
   ·simp only [e, andThen_okE] at hQ
    simp
    refine ATT.callRE Tryz.func111 60 (f127_ok x.1 y (msg_len hwf e) _ v hu hφ) (by simp) (by simp) (by simp) fun s hsn => ?_
    obtain ⟨nl1_s, z1_s, nl2_s, z2_s, ds_s, hv_s, ha_s, hb_s, hc_s, hd_s, he_s⟩ := hsn.shape
    have hw_s := hv_s
    subst hw_s
    simp [c111t]
    refine ATT.fin' hQ Tryz.func111 c111res ?_
    exact ⟨by simp, _, _, _, _, rfl, rfl, hl', hsn⟩
  ·simp only [kd_cons, eq_false h1, if_false] at hQ hin
   simp [c111t, h1]
   refine ATT.fin' hQ Tryz.func111 c111res ?_
   exact ⟨by simp, _, _, _, _, rfl, rfl, hl', hu⟩
set_option maxHeartbeats 1000000 in
theorem f113_ok (n : Nat) (ihB : ∀ m, m ≤ n → BinaryR m) (ihU : UnaryR n) : MsgR (n + 1) := by
 intro L i d hd hL hl hin
 obtain ⟨t, r, hs⟩ := hl.cons
 have ht := (drop_at hs).1
 have hr := (drop_at hs).2
 rw [hs] at hl hin ⊢
 simp only [msgS, kd_cons, pl_cons, tx_cons, List.tail_cons] at hin ⊢
 have hLl := hL.2.2
 refine AF.start' 60 Tryz.func113 rfl rfl c113call c113ok fun Q hQ => ?_
 simp [c113c, c113t]
 refine ATT.callM Tryz.func113 60 [0] (f128_ok L i d 0 0 t ht) rfl (by simp) (by simp) (by simp) (by simp) (by simp) ?_
 simp [c113t, tkD, tokD]
 refine ATT.callM Tryz.func113 60 [0] (f49_ok L i d 0 1 t ht) rfl (by simp) (by simp) (by simp) (by simp) (by simp) ?_
 simp
 by_cases h1 : t.k = 1
 ·simp only [eq_true h1, if_true] at hQ hin
  simp [c113t, eq_true h1]
  refine ATT.callM Tryz.func113 60 [0] (f50_ok L hLl i d 0 t ht (by rw [h1]; decide)) rfl (by simp) (by simp) (by simp) (by simp) (by simp) ?_
  simp [c113t, tkD, tokD]
  refine ATT.fin' hQ Tryz.func113 c113res ?_
  exact ⟨by simp, _, _, _, _, rfl, rfl, hr, NdR.leaf _ _ _ 0⟩
 simp [c113t, h1]
 refine ATT.callM Tryz.func113 60 [0] (f49_ok L i d 0 3 t ht) rfl (by simp) (by simp) (by simp) (by simp) (by simp) ?_
 simp
 by_cases h3 : t.k = 3
 ·simp only [eq_false h1, eq_true h3, if_true, if_false] at hQ hin
  have hwf2 := (hl.tail (by simp only [kd_cons, h3]; decide)).1
  simp only [List.tail_cons] at hwf2
  have hin' : unaryS n d r ≠ .out := fun e => hin (by simp [e, Res.andThen])
  have hU := ihU L (i + 1) d hd hL (by rw [hr]; exact hwf2) (by rw [hr]; exact hin')
  rw [hr] at hU
  simp [c113t, eq_true h3]
  refine ATT.callM Tryz.func113 60 [0] (f50_ok L hLl i d 0 t ht (by rw [h3]; decide)) rfl (by simp) (by simp) (by simp) (by simp) (by simp) ?_
  simp [tkD, tokD]
  refine ATT.callRS Tryz.func113 60 0 hU hin' (by simp) (by simp) rfl (by simp) (fun a w v i' d2 e h1 h2 h3 h4 => ?_) fun y l' v i' e hl' hφ => ?_
  ·obtain ⟨y, hy⟩ := h3
   simp only [e, andThen_noE] at hQ
   obtain ⟨nl1_v, z1_v, nl2_v, z2_v, ds_v, hv_v, ha_v, hb_v, hc_v, hd_v, he_v⟩ := hy.shape
   have hw_v := hv_v
   subst hw_v
   simp [c113t]
   refine ATT.finz hQ Tryz.func113 c113res (by first | exact .inl rfl | exact .inr ⟨_, rfl⟩) ?_
   simp
   all_goals (first | omega | exact ⟨_, rfl⟩ | skip)
   exact ⟨_, _, _, _, _, rfl, rfl, h1, h2, ⟨_, NdR.kids (.one hy), by simp [Nd.kids]⟩, h4⟩
  ·simp only [e, andThen_okE] at hQ
   have hu : NdR y.1 v := hφ
   obtain ⟨nl1_v, z1_v, nl2_v, z2_v, ds_v, hv_v, ha_v, hb_v, hc_v, hd_v, he_v⟩ := hu.shape
   have hw_v := hv_v
   subst hw_v
   simp [c113t]
   refine ATT.finz hQ Tryz.func113 c113res (by first | exact .inl rfl | exact .inr ⟨_, rfl⟩) ?_
   simp
   all_goals (first | omega | exact ⟨_, rfl⟩ | skip)
   exact ⟨_, _, _, _, rfl, rfl, hl', NdR.kids (.one hu)⟩
 simp [c113t, h3]
 refine ATT.callM Tryz.func113 60 [0] (f49_ok L i d 0 2 t ht) rfl (by simp) (by simp) (by simp) (by simp) (by simp) ?_
 simp
 by_cases h2 : t.k = 2
 ·simp only [eq_false h1, eq_false h3, eq_true h2, if_true, if_false] at hQ hin
  simp [eq_true h2]
  refine ATT.nilB 3 5 6 31 rfl rfl (by decide) (by simp) ?_
  simp
  have hin' : keysS n d ⟨#[]⟩ [] (t :: r) ≠ .out := fun e => hin (by simp [e, Res.andThen])
  generalize hR : keysS n d ⟨#[]⟩ [] (t :: r) = R at hQ hin hin'
  have hlen := hl.2.2
  refine ATT.loopG 60 c113l16.eq_1 (fun ((m, s, acc, ds, i, d', e, a) : Nat × ByteArray × List Nd × List D × Nat × Nat × Int × Nat) => m) (fun ((m, s, acc, ds, i, d', e, a) : Nat × ByteArray × List Nd × List D × Nat × Nat × Int × Nat) => NdRL acc ds ∧ m ≤ n ∧ ((e = 0 ∧ a = 0 ∧ d' = d ∧ WF (L.drop i) ∧ keysS m d s acc (L.drop i) = R ∧ ds.length + (L.drop i).length ≤ 5000 ∧ s.size + 1048576 * (L.drop i).length ≤ 5242880000) ∨ (e ≠ 0 ∧ R = .no a e ∧ i < L.length ∧ (d ≤ d' ∧ d' ≤ 41) ∧ ds.length ≤ 5000))) (fun ((m, s, acc, ds, i, d', e, a) : Nat × ByteArray × List Nd × List D × Nat × Nat × Int × Nat) => [(0, .ptr 0 0), (2, .ptr 1 0), (4, .ptr 3 0)]) (fun ((m, s, acc, ds, i, d', e, a) : Nat × ByteArray × List Nd × List D × Nat × Nat × Int × Nat) => [RP L i d' e a, .cells [.d (.int .i64 0), .d (.str ⟨#[]⟩), .d (.int .i64 0), .d (.int .i64 0), .d (.sl true 0 []), .d (.sl true 0 [])] 31, .cells [.d (.int .i64 t.k), .d (.str t.t), .d (.int .i64 t.a)] 92, .cells [.d (.int .i64 9), .d (.str s), .d (.int .i64 t.a), .d (.int .i64 0), .d (.sl true 0 []), .vs 0 ds.length 0 ds.length] 31]) (fun ((m, s, acc, ds, i, d', e, a) : Nat × ByteArray × List Nd × List D × Nat × Nat × Int × Nat) => [NV 31 ds]) ((n, ⟨#[]⟩, [], [], i, d, 0, 0)) (by (try dsimp only); exact ⟨by simp [NdRL], Nat.le_refl _, .inl ⟨rfl, rfl, rfl, by rw [hs]; exact hl, by rw [hs]; exact hR, by rw [hs]; simpa using hlen, by rw [hs]; have h0 : (⟨#[]⟩ : ByteArray).size = 0 := rfl; simp only [List.length_cons] at hlen; simp only [h0, List.length_cons]; omega⟩⟩) (by simp <;> omega) (by simp) (by simp) ?_
  intro ⟨m, s, acc, ds, i, d', e, a⟩ u w hI ih
  try simp only at hI ih
  obtain ⟨hds, hmn, hmode⟩ := hI
  rcases hmode with ⟨e1, e2, e3, hwf, hRk, hnum, hsz⟩ | ⟨he, hRk, hi, hd', hnum⟩
  ·subst e1 e2 e3
   cases m with
   | zero => exact absurd hRk.symm (by simpa [keysS] using hin')
   | succ m =>
    obtain ⟨t1, l1, hs⟩ := hwf.cons
    have ht := (drop_at hs).1
    have hl1 := (drop_at hs).2
    simp only [keysS] at hRk
    rw [hs] at hwf hRk hnum hsz
    simp only [kd_cons, tx_cons, List.tail_cons] at hRk
    simp [c113t]
    refine ATT.callM Tryz.func113 60 [0] (f49_ok L i d' 0 2 t1 ht) rfl (by simp) (by simp) (by simp) (by simp) (by simp) ?_
    simp
    by_cases h1k : t1.k = 2
    ·have hwf2 := (hwf.tail (by simp only [kd_cons, h1k]; decide)).1
     simp only [List.tail_cons] at hwf2
     simp only [eq_true h1k, if_true] at hRk
     have htz := hwf.2.1 t1 (by simp)
     simp only [List.length_cons] at hsz hnum
     have hcat : s.size + t1.t.size ≤ 9223372036854775807 := by omega
     have hin2 : binaryS m d' l1 ≠ .out := fun e => hin' (by rw [← hRk, e]; rfl)
     have hB := ihB m (by omega) L (i + 1) d' hd hL (by rw [hl1]; exact hwf2) (by rw [hl1]; exact hin2)
     rw [hl1] at hB
     simp [eq_true h1k]
     refine ATT.callRM Tryz.func113 60 [0] (f50_ok L hLl i d' 0 t1 ht (by rw [h1k]; decide)) rfl (by simp) (by simp) (by simp) (by simp) (by simp) ?_
     simp [tkD, tokD, hcat]
     have hmul : (ds.length + 1) * 88 ≤ 140737488355328 := by omega
     refine ATT.callRS Tryz.func113 60 0 hB hin2 (by simp) (by simp) rfl (by simp) (fun a w v i' d2 e h1 h2 h3 h4 => ?_) fun y l' v i' e hl' hφ => ?_
     ·obtain ⟨y, hy⟩ := h3
      rw [e] at hRk
      obtain ⟨nl1_v, z1_v, nl2_v, z2_v, ds_v, hv_v, ha_v, hb_v, hc_v, hd_v, he_v⟩ := hy.shape
      have hw_v := hv_v
      subst hw_v
      simp [hmul]
      refine ih (m, s ++ t1.t, acc ++ [y], ds ++ [_], i', d2, w, a) (by first | ((try dsimp only); omega) | (simp [eq_true h1k, tkD, tokD, hcat] <;> omega)) (by (try dsimp only); exact ⟨hds.append (.one hy), by omega, .inr ⟨h4, hRk.symm, h1, h2, by simp; omega⟩⟩) _ _ _ (by simp <;> omega) (by simp <;> omega) (by simp <;> omega)
     ·rw [e] at hRk
      simp only [andThen_okE] at hRk
      have hu : NdR y.1 v := hφ
      have hsh := (pres m).binary hwf2 e
      have h2l := hsh.2
      obtain ⟨nl1_v, z1_v, nl2_v, z2_v, ds_v, hv_v, ha_v, hb_v, hc_v, hd_v, he_v⟩ := hu.shape
      have hw_v := hv_v
      subst hw_v
      simp [hmul]
      refine ih (m, s ++ t1.t, acc ++ [y.1], ds ++ [_], i', d', 0, 0) (by first | ((try dsimp only); omega) | (simp [eq_true h1k, tkD, tokD, hcat] <;> omega)) (by (try dsimp only); exact ⟨hds.append (.one hu), by omega, .inl ⟨rfl, rfl, rfl, by rw [hl']; exact hsh.1, by rw [hl']; exact hRk, by rw [hl']; simp; omega, by rw [hl']; simp; omega⟩⟩) _ _ _ (by simp <;> omega) (by simp <;> omega) (by simp <;> omega)
    ·simp only [eq_false h1k, if_false] at hRk
     subst hRk
     simp [c113t, h1k]
     cases ds with
     | nil =>
      have : acc = [] := by cases acc <;> simp [NdRL] at hds ⊢
      subst this
      refine ATT.finz hQ Tryz.func113 c113res (by first | exact .inl rfl | exact .inr ⟨_, rfl⟩) ?_
      simp
      all_goals (first | omega | exact ⟨_, rfl⟩ | skip)
      exact ⟨_, _, _, _, rfl, rfl, hs, NdR.mk (fun _ => rfl) (by simp) (fun _ => rfl) (by simp) (by simp [NdRL])⟩
     | cons d0 ds =>
      refine ATT.finz hQ Tryz.func113 c113res (by first | exact .inl rfl | exact .inr ⟨_, rfl⟩) ?_
      simp
      all_goals (first | omega | exact ⟨_, rfl⟩ | skip)
      exact ⟨_, _, _, _, rfl, rfl, hs, NdR.kids hds⟩
  ·simp [c113t]
   refine ATT.callM Tryz.func113 60 [0] (f49_no L i d' e he a 2) rfl (by simp) (by simp) (by simp) (by simp) (by simp) ?_
   simp [c113t]
   subst hRk
   have hal := hds.length
   cases ds with
   | nil =>
    have : acc = [] := by cases acc <;> simp [NdRL] at hds ⊢
    subst this
    refine ATT.finz hQ Tryz.func113 c113res (by first | exact .inl rfl | exact .inr ⟨_, rfl⟩) ?_
    simp
    all_goals (first | omega | exact ⟨_, rfl⟩ | skip)
    exact ⟨_, _, _, _, _, rfl, rfl, hi, hd', ⟨.mk 9 s t.a 0 [] [], NdR.mk (fun _ => rfl) (by simp) (fun _ => rfl) (by simp) (by simp [NdRL]), by simp [Nd.kids]⟩, he⟩
   | cons d0 ds =>
    refine ATT.finz hQ Tryz.func113 c113res (by first | exact .inl rfl | exact .inr ⟨_, rfl⟩) ?_
    simp
    all_goals (first | omega | exact ⟨_, rfl⟩ | skip)
    exact ⟨_, _, _, _, _, rfl, rfl, hi, hd', ⟨.mk 9 s t.a 0 [] acc, NdR.kids hds, by show acc.length ≤ 5000; omega⟩, he⟩
 ·simp only [eq_false h1, eq_false h3, eq_false h2, if_false] at hQ hin
  simp [c113t, h2]
  refine ATT.callM Tryz.func113 60 [0] (f52_ok L i d 0 20 t ht) rfl (by simp) (by simp) (by simp) (by simp) (by simp) ?_
  simp [c113t]
  refine ATT.fin' hQ Tryz.func113 c113res ?_
  exact ⟨by simp, _, _, _, _, _, rfl, rfl, at_lt ht, by omega, Gd.leaf _ _ _ 0, by decide⟩
end Go.SL
namespace Go.SL
open Go.Proofs
set_option maxRecDepth 10000
def ListR (n : Nat) : Prop := ∀ L i d, d ≤ 40 → WF L → WF (L.drop i) → (kd (L.drop i) = 17 ∨ kd (L.drop i) = 8) → listS n d (L.drop i) ≠ .out → AF Tryz.prog 149 [.ptr 0 0, .d (.int .i64 (pl (L.drop i)))] ⟨[RP L i d 0 0], []⟩ (RR GN NdR L d (listS n d (L.drop i)))
set_option maxHeartbeats 2000000 in
theorem f149_ok (n : Nat) (ihL : ∀ m, m ≤ n → ListR m) : ListR (n + 1) := by
 intro L i d hd hL hl hk hin
 obtain ⟨t, r, hs⟩ := hl.cons
 have ht := (drop_at hs).1
 have hr := (drop_at hs).2
 rw [hs] at hl hin hk ⊢
 simp only [listS, kd_cons, pl_cons, List.tail_cons] at hin hk ⊢
 have hLl := hL.2.2
 have hk0 : ¬ t.k = 0 := by intro h0; rw [h0] at hk; exact absurd hk (by decide)
 refine AF.start' 60 Tryz.func149 rfl rfl c149call c149ok fun Q hQ => ?_
 simp [c149c, c149t]
 by_cases h40 : d = 40
 ·simp only [eq_true h40, if_true] at hQ
  refine ATT.callM Tryz.func149 60 [0] (f84_bad L i d h40 0 t ht) rfl (by simp) (by simp) (by simp) (by simp) (by simp) ?_
  simp
  refine ATT.loop 60 rfl ?_
  simp [c149l26, c149t]
  refine ATT.callM Tryz.func149 60 [0] (f49_no L i (d + 1) 3 (by decide) t.a 9) rfl (by simp) (by simp) (by simp) (by simp) (by simp) ?_
  simp [c149t]
  have hd1 : ((d : Int) + 1 - 1) = d := by omega
  have hI : inI (d : Int) = true := inI_of (by omega) (by omega)
  refine ATT.callM Tryz.func149 60 [0] (f51_no L i (d + 1) 3 (by decide) t.a 9) rfl (by simp) (by simp) (by simp) (by simp) (by simp) ?_
  simp [c149t, hd1, hI]
  refine ATT.fin' hQ Tryz.func149 c149res ?_
  exact ⟨by simp, _, _, _, _, _, rfl, rfl, at_lt ht, by omega, ⟨_, NdR.leaf _ _ _ 0⟩, by decide⟩
 ·rw [if_neg h40] at hQ hin
  have hwf2 := (hl.tail hk0).1
  simp only [List.tail_cons] at hwf2
  refine ATT.callM Tryz.func149 60 [0] (f84_ok L hLl i d (by omega) 0 t ht hk0) rfl (by simp) (by simp) (by simp) (by simp) (by simp) ?_
  simp
  have hin0 : elemsS n (d + 1) [] r ≠ .out := fun e => hin (by rw [e]; rfl)
  refine ATT.nilB 2 5 6 31 rfl rfl (by decide) (by simp) ?_
  simp
  generalize hR : elemsS n (d + 1) [] r = R at hQ hin hin0
  refine ATT.loopG 60 c149l26.eq_1 (fun ((m, acc, ds, i, d', e, a) : Nat × List Nd × List D × Nat × Nat × Int × Nat) => m) (fun ((m, acc, ds, i, d', e, a) : Nat × List Nd × List D × Nat × Nat × Int × Nat) => NdRL acc ds ∧ m ≤ n ∧ ((e = 0 ∧ a = 0 ∧ d' = d + 1 ∧ WF (L.drop i) ∧ elemsS m (d + 1) acc (L.drop i) = R ∧ ds.length + (L.drop i).length ≤ 5000) ∨ (e ≠ 0 ∧ R = .no a e ∧ i < L.length ∧ (d + 1 ≤ d' ∧ d' ≤ 41)))) (fun ((m, acc, ds, i, d', e, a) : Nat × List Nd × List D × Nat × Nat × Int × Nat) => [(0, .ptr 0 0), (4, .ptr 1 0), (5, .ptr 2 0)]) (fun ((m, acc, ds, i, d', e, a) : Nat × List Nd × List D × Nat × Nat × Int × Nat) => [RP L i d' e a, .cells [.d (.int .i64 0), .d (.str ⟨#[]⟩), .d (.int .i64 0), .d (.int .i64 0), .d (.sl true 0 []), .d (.sl true 0 [])] 31, .cells [.d (.int .i64 4), .d (.str ⟨#[]⟩), .d (.int .i64 t.a), .d (.int .i64 0), .d (.sl true 0 []), .vs 0 ds.length 0 ds.length] 31]) (fun ((m, acc, ds, i, d', e, a) : Nat × List Nd × List D × Nat × Nat × Int × Nat) => [NV 31 ds]) ((n, [], [], i + 1, d + 1, 0, 0)) (by (try dsimp only); exact ⟨by simp [NdRL], Nat.le_refl _, .inl ⟨rfl, rfl, rfl, by rw [hr]; exact hwf2, by rw [hr]; exact hR, by rw [hr]; simpa using hwf2.2.2⟩⟩) (by simp <;> omega) (by simp) (by simp) ?_
  intro ⟨m, acc, ds, i, d', e, a⟩ u w hI ih
  try simp only at hI ih
  obtain ⟨hds, hmn, hmode⟩ := hI
  rcases hmode with ⟨e1, e2, e3, hwf, hRk, hnum⟩ | ⟨he, hRk, hi, hd'⟩
  ·subst e1 e2 e3
   cases m with
   | zero => exact absurd hRk.symm (by simpa [elemsS] using hin0)
   | succ m =>
    obtain ⟨t1, l1, hs1⟩ := hwf.cons
    have ht := (drop_at hs1).1
    have hl1 := (drop_at hs1).2
    rw [hs1] at hwf hRk hnum
    simp only [elemsS, kd_cons] at hRk
    have hwfT : t1.k ≠ 0 → WF l1 := fun h => (hwf.tail h).1
    simp only [List.length_cons] at hnum
    have hmul : (ds.length + 1) * 88 ≤ 140737488355328 := by omega
    simp [c149t]
    refine ATT.callM Tryz.func149 60 [0] (f49_ok L i (d + 1) 0 9 t1 ht) rfl (by simp) (by simp) (by simp) (by simp) (by simp) ?_
    simp
    by_cases h9 : t1.k = 9
    ·simp only [eq_true h9, if_true] at hRk
     subst hRk
     simp only [andThen_okE, List.tail_cons] at hQ
     simp [c149t, eq_true h9]
     have hd1 : ((d : Int) + 1 - 1) = d := by omega
     have hI : inI (d : Int) = true := inI_of (by omega) (by omega)
     refine ATT.callM Tryz.func149 60 [0] (f51_ok L hLl i (d + 1) 0 9 (by decide) t1 ht h9) rfl (by simp) (by simp) (by simp) (by simp) (by simp) ?_
     simp [c149t, hd1, hI]
     cases ds with
     | nil =>
      have : acc = [] := by cases acc <;> simp [NdRL] at hds ⊢
      subst this
      refine ATT.finz hQ Tryz.func149 c149res (by first | exact .inl rfl | exact .inr ⟨_, rfl⟩) ?_
      simp
      all_goals (first | omega | exact ⟨_, rfl⟩ | skip)
      exact ⟨_, _, _, _, rfl, rfl, hl1, NdR.mk (fun _ => rfl) (by simp) (fun _ => rfl) (by simp) (by simp [NdRL])⟩
     | cons d0 ds =>
      refine ATT.finz hQ Tryz.func149 c149res (by first | exact .inl rfl | exact .inr ⟨_, rfl⟩) ?_
      simp
      all_goals (first | omega | exact ⟨_, rfl⟩ | skip)
      exact ⟨_, _, _, _, rfl, rfl, hl1, NdR.kids hds⟩
    ·simp only [eq_false h9, if_false] at hRk
     simp [c149t, h9]
     refine ATT.callM Tryz.func149 60 [0] (f128_ok L i (d + 1) 0 0 t1 ht) rfl (by simp) (by simp) (by simp) (by simp) (by simp) ?_
     simp [c149t, tkD, tokD]
     cases m with
     | zero => exact absurd hRk.symm (by simpa [elemS, Res.andThen] using hin0)
     | succ m =>
      simp only [elemS, kd_cons, pl_cons, tx_cons, List.tail_cons] at hRk
      by_cases h4 : t1.k = 4
      ·have n17 : ¬ t1.k = 17 := by rw [h4]; decide
       have n8 : ¬ t1.k = 8 := by rw [h4]; decide
       have n5 : ¬ t1.k = 5 := by rw [h4]; decide
       have n1 : ¬ t1.k = 1 := by rw [h4]; decide
       have n2 : ¬ t1.k = 2 := by rw [h4]; decide
       have n3 : ¬ t1.k = 3 := by rw [h4]; decide
       have n6 : ¬ t1.k = 6 := by rw [h4]; decide
       simp only [eq_false n17, eq_false n8, eq_true h4, or_self, if_true, if_false, andThen_okE] at hRk
       simp [c149t, eq_true h4]
       refine ATT.callM Tryz.func149 60 [0] (f50_ok L hLl i (d + 1) 0 t1 ht (by rw [h4]; decide)) rfl (by simp) (by simp) (by simp) (by simp) (by simp) ?_
       simp [c149t, tkD, tokD, hmul]
       refine ih (m + 1, acc ++ [.mk 1 t1.t t1.a 0 [] []], ds ++ [_], i + 1, d + 1, 0, 0) (by first | ((try dsimp only); omega) | (simp [eq_true h4, tkD, tokD, hmul] <;> omega)) (by (try dsimp only); exact ⟨hds.append (.one (NdR.leaf _ _ _ 0)), by omega, .inl ⟨rfl, rfl, rfl, by rw [hl1]; exact hwfT (by rw [h4]; decide), by rw [hl1]; exact hRk, by rw [hl1]; simp; omega⟩⟩) _ _ _ (by simp <;> omega) (by simp <;> omega) (by simp <;> omega)
      by_cases h5 : t1.k = 5
      ·have n17 : ¬ t1.k = 17 := by rw [h5]; decide
       have n8 : ¬ t1.k = 8 := by rw [h5]; decide
       have n4 : ¬ t1.k = 4 := by rw [h5]; decide
       have n1 : ¬ t1.k = 1 := by rw [h5]; decide
       have n2 : ¬ t1.k = 2 := by rw [h5]; decide
       have n3 : ¬ t1.k = 3 := by rw [h5]; decide
       have n6 : ¬ t1.k = 6 := by rw [h5]; decide
       simp only [eq_false n17, eq_false n8, eq_false n4, eq_true h5, or_self, if_true, if_false, andThen_okE] at hRk
       simp [c149t, n4, eq_true h5]
       refine ATT.callM Tryz.func149 60 [0] (f50_ok L hLl i (d + 1) 0 t1 ht (by rw [h5]; decide)) rfl (by simp) (by simp) (by simp) (by simp) (by simp) ?_
       simp [c149t, tkD, tokD, hmul]
       refine ih (m + 1, acc ++ [.mk 2 t1.t t1.a 0 [] []], ds ++ [_], i + 1, d + 1, 0, 0) (by first | ((try dsimp only); omega) | (simp [n4, eq_true h5, tkD, tokD, hmul] <;> omega)) (by (try dsimp only); exact ⟨hds.append (.one (NdR.leaf _ _ _ 0)), by omega, .inl ⟨rfl, rfl, rfl, by rw [hl1]; exact hwfT (by rw [h5]; decide), by rw [hl1]; exact hRk, by rw [hl1]; simp; omega⟩⟩) _ _ _ (by simp <;> omega) (by simp <;> omega) (by simp <;> omega)
      by_cases h1 : t1.k = 1
      ·have n17 : ¬ t1.k = 17 := by rw [h1]; decide
       have n8 : ¬ t1.k = 8 := by rw [h1]; decide
       have n4 : ¬ t1.k = 4 := by rw [h1]; decide
       have n5 : ¬ t1.k = 5 := by rw [h1]; decide
       have n2 : ¬ t1.k = 2 := by rw [h1]; decide
       have n3 : ¬ t1.k = 3 := by rw [h1]; decide
       have n6 : ¬ t1.k = 6 := by rw [h1]; decide
       by_cases bt : t1.t = trueT
       ·have bt2 : t1.t = ⟨#[116, 114, 117, 101]⟩ := bt
        simp only [eq_false n17, eq_false n8, eq_false n4, eq_false n5, eq_true h1, eq_true bt, true_or, or_self, if_true, if_false, andThen_okE] at hRk
        simp [c149t, n4, n5, eq_true h1, eq_true bt2]
        refine ATT.callM Tryz.func149 60 [0] (f50_ok L hLl i (d + 1) 0 t1 ht (by rw [h1]; decide)) rfl (by simp) (by simp) (by simp) (by simp) (by simp) ?_
        simp [c149t, tkD, tokD, hmul]
        refine ih (m + 1, acc ++ [.mk 13 t1.t t1.a 0 [] []], ds ++ [_], i + 1, d + 1, 0, 0) (by first | ((try dsimp only); omega) | (simp [n4, n5, eq_true h1, eq_true bt2, tkD, tokD, hmul] <;> omega)) (by (try dsimp only); exact ⟨hds.append (.one (NdR.leaf _ _ _ 0)), by omega, .inl ⟨rfl, rfl, rfl, by rw [hl1]; exact hwfT (by rw [h1]; decide), by rw [hl1]; exact hRk, by rw [hl1]; simp; omega⟩⟩) _ _ _ (by simp <;> omega) (by simp <;> omega) (by simp <;> omega)
       have bt2 : ¬ t1.t = ⟨#[116, 114, 117, 101]⟩ := bt
       by_cases bf : t1.t = falseT
       ·have bf2 : t1.t = ⟨#[102, 97, 108, 115, 101]⟩ := bf
        simp only [eq_false n17, eq_false n8, eq_false n4, eq_false n5, eq_true h1, eq_false bt, eq_true bf, or_true, true_or, or_self, if_true, if_false, andThen_okE] at hRk
        simp [c149t, n4, n5, eq_true h1, bt2, eq_true bf2]
        refine ATT.callM Tryz.func149 60 [0] (f50_ok L hLl i (d + 1) 0 t1 ht (by rw [h1]; decide)) rfl (by simp) (by simp) (by simp) (by simp) (by simp) ?_
        simp [c149t, tkD, tokD, hmul]
        refine ih (m + 1, acc ++ [.mk 13 t1.t t1.a 0 [] []], ds ++ [_], i + 1, d + 1, 0, 0) (by first | ((try dsimp only); omega) | (simp [n4, n5, eq_true h1, bt2, eq_true bf2, tkD, tokD, hmul] <;> omega)) (by (try dsimp only); exact ⟨hds.append (.one (NdR.leaf _ _ _ 0)), by omega, .inl ⟨rfl, rfl, rfl, by rw [hl1]; exact hwfT (by rw [h1]; decide), by rw [hl1]; exact hRk, by rw [hl1]; simp; omega⟩⟩) _ _ _ (by simp <;> omega) (by simp <;> omega) (by simp <;> omega)
       have bf2 : ¬ t1.t = ⟨#[102, 97, 108, 115, 101]⟩ := bf
       by_cases bn : t1.t = nilT
       ·have bn2 : t1.t = ⟨#[110, 105, 108]⟩ := bn
        simp only [eq_false n17, eq_false n8, eq_false n4, eq_false n5, eq_true h1, eq_false bt, eq_false bf, eq_true bn, or_true, or_self, if_true, if_false, andThen_okE] at hRk
        simp [c149t, n4, n5, eq_true h1, bt2, bf2, eq_true bn2]
        refine ATT.callM Tryz.func149 60 [0] (f50_ok L hLl i (d + 1) 0 t1 ht (by rw [h1]; decide)) rfl (by simp) (by simp) (by simp) (by simp) (by simp) ?_
        simp [c149t, tkD, tokD, hmul]
        refine ih (m + 1, acc ++ [.mk 13 t1.t t1.a 0 [] []], ds ++ [_], i + 1, d + 1, 0, 0) (by first | ((try dsimp only); omega) | (simp [n4, n5, eq_true h1, bt2, bf2, eq_true bn2, tkD, tokD, hmul] <;> omega)) (by (try dsimp only); exact ⟨hds.append (.one (NdR.leaf _ _ _ 0)), by omega, .inl ⟨rfl, rfl, rfl, by rw [hl1]; exact hwfT (by rw [h1]; decide), by rw [hl1]; exact hRk, by rw [hl1]; simp; omega⟩⟩) _ _ _ (by simp <;> omega) (by simp <;> omega) (by simp <;> omega)
       have bn2 : ¬ t1.t = ⟨#[110, 105, 108]⟩ := bn
       simp only [eq_false n17, eq_false n8, eq_false n4, eq_false n5, eq_true h1, eq_false bt, eq_false bf, eq_false bn, or_self, if_true, if_false, andThen_okE] at hRk
       simp [c149t, n4, n5, eq_true h1, bt2, bf2, bn2]
       refine ATT.callM Tryz.func149 60 [0] (f50_ok L hLl i (d + 1) 0 t1 ht (by rw [h1]; decide)) rfl (by simp) (by simp) (by simp) (by simp) (by simp) ?_
       simp [c149t, tkD, tokD, hmul]
       refine ih (m + 1, acc ++ [.mk 3 t1.t t1.a 0 [] []], ds ++ [_], i + 1, d + 1, 0, 0) (by first | ((try dsimp only); omega) | (simp [n4, n5, eq_true h1, bt2, bf2, bn2, tkD, tokD, hmul] <;> omega)) (by (try dsimp only); exact ⟨hds.append (.one (NdR.leaf _ _ _ 0)), by omega, .inl ⟨rfl, rfl, rfl, by rw [hl1]; exact hwfT (by rw [h1]; decide), by rw [hl1]; exact hRk, by rw [hl1]; simp; omega⟩⟩) _ _ _ (by simp <;> omega) (by simp <;> omega) (by simp <;> omega)
      by_cases h2 : t1.k = 2
      ·have n17 : ¬ t1.k = 17 := by rw [h2]; decide
       have n8 : ¬ t1.k = 8 := by rw [h2]; decide
       have n4 : ¬ t1.k = 4 := by rw [h2]; decide
       have n5 : ¬ t1.k = 5 := by rw [h2]; decide
       have n1 : ¬ t1.k = 1 := by rw [h2]; decide
       have n3 : ¬ t1.k = 3 := by rw [h2]; decide
       have n6 : ¬ t1.k = 6 := by rw [h2]; decide
       simp only [eq_false n17, eq_false n8, eq_false n4, eq_false n5, eq_false n1, eq_false n6, eq_false n3, eq_true h2, or_false, or_true, or_self, if_true, if_false, andThen_okE] at hRk
       simp [c149t, n4, n5, n1, eq_true h2]
       refine ATT.callM Tryz.func149 60 [0] (f50_ok L hLl i (d + 1) 0 t1 ht (by rw [h2]; decide)) rfl (by simp) (by simp) (by simp) (by simp) (by simp) ?_
       simp [c149t, tkD, tokD, hmul]
       refine ih (m + 1, acc ++ [.mk 3 t1.t t1.a 0 [] []], ds ++ [_], i + 1, d + 1, 0, 0) (by first | ((try dsimp only); omega) | (simp [n4, n5, n1, eq_true h2, tkD, tokD, hmul] <;> omega)) (by (try dsimp only); exact ⟨hds.append (.one (NdR.leaf _ _ _ 0)), by omega, .inl ⟨rfl, rfl, rfl, by rw [hl1]; exact hwfT (by rw [h2]; decide), by rw [hl1]; exact hRk, by rw [hl1]; simp; omega⟩⟩) _ _ _ (by simp <;> omega) (by simp <;> omega) (by simp <;> omega)
      by_cases h3 : t1.k = 3
      ·have n17 : ¬ t1.k = 17 := by rw [h3]; decide
       have n8 : ¬ t1.k = 8 := by rw [h3]; decide
       have n4 : ¬ t1.k = 4 := by rw [h3]; decide
       have n5 : ¬ t1.k = 5 := by rw [h3]; decide
       have n1 : ¬ t1.k = 1 := by rw [h3]; decide
       have n2 : ¬ t1.k = 2 := by rw [h3]; decide
       have n6 : ¬ t1.k = 6 := by rw [h3]; decide
       simp only [eq_false n17, eq_false n8, eq_false n4, eq_false n5, eq_false n1, eq_false n6, eq_false n2, eq_true h3, or_true, or_self, if_true, if_false, andThen_okE] at hRk
       simp [c149t, n4, n5, n1, n2, eq_true h3]
       refine ATT.callM Tryz.func149 60 [0] (f50_ok L hLl i (d + 1) 0 t1 ht (by rw [h3]; decide)) rfl (by simp) (by simp) (by simp) (by simp) (by simp) ?_
       simp [c149t, tkD, tokD, hmul]
       refine ih (m + 1, acc ++ [.mk 3 t1.t t1.a 0 [] []], ds ++ [_], i + 1, d + 1, 0, 0) (by first | ((try dsimp only); omega) | (simp [n4, n5, n1, n2, eq_true h3, tkD, tokD, hmul] <;> omega)) (by (try dsimp only); exact ⟨hds.append (.one (NdR.leaf _ _ _ 0)), by omega, .inl ⟨rfl, rfl, rfl, by rw [hl1]; exact hwfT (by rw [h3]; decide), by rw [hl1]; exact hRk, by rw [hl1]; simp; omega⟩⟩) _ _ _ (by simp <;> omega) (by simp <;> omega) (by simp <;> omega)
      by_cases h6 : t1.k = 6
      ·have n17 : ¬ t1.k = 17 := by rw [h6]; decide
       have n8 : ¬ t1.k = 8 := by rw [h6]; decide
       have n4 : ¬ t1.k = 4 := by rw [h6]; decide
       have n5 : ¬ t1.k = 5 := by rw [h6]; decide
       have n1 : ¬ t1.k = 1 := by rw [h6]; decide
       have n2 : ¬ t1.k = 2 := by rw [h6]; decide
       have n3 : ¬ t1.k = 3 := by rw [h6]; decide
       simp only [eq_false n17, eq_false n8, eq_false n4, eq_false n5, eq_false n1, eq_false n2, eq_false n3, eq_true h6, or_false, or_self, if_true, if_false, andThen_okE] at hRk
       simp [c149t, n4, n5, n1, n2, n3, eq_true h6]
       refine ATT.callM Tryz.func149 60 [0] (f50_ok L hLl i (d + 1) 0 t1 ht (by rw [h6]; decide)) rfl (by simp) (by simp) (by simp) (by simp) (by simp) ?_
       simp [c149t, tkD, tokD, hmul]
       refine ih (m + 1, acc ++ [.mk 3 t1.t t1.a 0 [] []], ds ++ [_], i + 1, d + 1, 0, 0) (by first | ((try dsimp only); omega) | (simp [n4, n5, n1, n2, n3, eq_true h6, tkD, tokD, hmul] <;> omega)) (by (try dsimp only); exact ⟨hds.append (.one (NdR.leaf _ _ _ 0)), by omega, .inl ⟨rfl, rfl, rfl, by rw [hl1]; exact hwfT (by rw [h6]; decide), by rw [hl1]; exact hRk, by rw [hl1]; simp; omega⟩⟩) _ _ _ (by simp <;> omega) (by simp <;> omega) (by simp <;> omega)
      by_cases h8 : t1.k = 8
      ·simp only [eq_true h8, or_true, if_true] at hRk
       simp [c149t, h4, h5, h1, h2, h3, h6, eq_true h8]
       have hin2 : listS m (d + 1) (t1 :: l1) ≠ .out := fun e => hin0 (by rw [← hRk, e]; rfl)
       have hLs := ihL m (by omega) L i (d + 1) (by omega) hL (by rw [hs1]; exact hwf) (by rw [hs1]; exact (.inr h8)) (by rw [hs1]; exact hin2)
       rw [hs1] at hLs
       refine ATT.callS Tryz.func149 60 0 hLs hin2 (by simp; rfl) (by simp) (by simp) (by simp) (fun a w v i' d2 e g1 g2 g3 g4 => ?_) fun y l' v i' e hl' hφ => ?_
       ·obtain ⟨y, hy⟩ := g3
        rw [e] at hRk
        simp only [andThen_noE] at hRk
        obtain ⟨nl1_v, z1_v, nl2_v, z2_v, ds_v, hv_v, ha_v, hb_v, hc_v, hd_v, he_v⟩ := hy.shape
        have hw_v := hv_v
        subst hw_v
        simp [c149t, hmul]
        refine ih (m + 1, acc ++ [y], ds ++ [_], i', d2, w, a) (by first | ((try dsimp only); omega) | (simp [h4, h5, h1, h2, h3, h6, eq_true h8] <;> omega)) (by (try dsimp only); exact ⟨hds.append (.one hy), by omega, .inr ⟨g4, hRk.symm, g1, g2⟩⟩) _ _ _ (by simp <;> omega) (by simp <;> omega) (by simp <;> omega)
       ·rw [e] at hRk
        simp only [andThen_okE] at hRk
        have hsh := (pres m).list hwf (.inr h8) e
        have h2l := hsh.2
        simp only [List.length_cons] at h2l
        obtain ⟨nl1_v, z1_v, nl2_v, z2_v, ds_v, hv_v, ha_v, hb_v, hc_v, hd_v, he_v⟩ := hφ.shape
        have hw_v := hv_v
        subst hw_v
        simp [c149t, hmul]
        refine ih (m + 1, acc ++ [y], ds ++ [_], i', d + 1, 0, 0) (by first | ((try dsimp only); omega) | (simp [h4, h5, h1, h2, h3, h6, eq_true h8] <;> omega)) (by (try dsimp only); exact ⟨hds.append (.one hφ), by omega, .inl ⟨rfl, rfl, rfl, by rw [hl']; exact hsh.1, by rw [hl']; exact hRk, by rw [hl']; simp; omega⟩⟩) _ _ _ (by simp <;> omega) (by simp <;> omega) (by simp <;> omega)
      by_cases h17 : t1.k = 17
      ·simp only [eq_true h17, true_or, if_true] at hRk
       simp [c149t, h4, h5, h1, h2, h3, h6, h8, eq_true h17]
       have hin2 : listS m (d + 1) (t1 :: l1) ≠ .out := fun e => hin0 (by rw [← hRk, e]; rfl)
       have hLs := ihL m (by omega) L i (d + 1) (by omega) hL (by rw [hs1]; exact hwf) (by rw [hs1]; exact (.inl h17)) (by rw [hs1]; exact hin2)
       rw [hs1] at hLs
       refine ATT.callS Tryz.func149 60 0 hLs hin2 (by simp; rfl) (by simp) (by simp) (by simp) (fun a w v i' d2 e g1 g2 g3 g4 => ?_) fun y l' v i' e hl' hφ => ?_
       ·obtain ⟨y, hy⟩ := g3
        rw [e] at hRk
        simp only [andThen_noE] at hRk
        obtain ⟨nl1_v, z1_v, nl2_v, z2_v, ds_v, hv_v, ha_v, hb_v, hc_v, hd_v, he_v⟩ := hy.shape
        have hw_v := hv_v
        subst hw_v
        simp [c149t, hmul]
        refine ih (m + 1, acc ++ [y], ds ++ [_], i', d2, w, a) (by first | ((try dsimp only); omega) | (simp [h4, h5, h1, h2, h3, h6, h8, eq_true h17] <;> omega)) (by (try dsimp only); exact ⟨hds.append (.one hy), by omega, .inr ⟨g4, hRk.symm, g1, g2⟩⟩) _ _ _ (by simp <;> omega) (by simp <;> omega) (by simp <;> omega)
       ·rw [e] at hRk
        simp only [andThen_okE] at hRk
        have hsh := (pres m).list hwf (.inl h17) e
        have h2l := hsh.2
        simp only [List.length_cons] at h2l
        obtain ⟨nl1_v, z1_v, nl2_v, z2_v, ds_v, hv_v, ha_v, hb_v, hc_v, hd_v, he_v⟩ := hφ.shape
        have hw_v := hv_v
        subst hw_v
        simp [c149t, hmul]
        refine ih (m + 1, acc ++ [y], ds ++ [_], i', d + 1, 0, 0) (by first | ((try dsimp only); omega) | (simp [h4, h5, h1, h2, h3, h6, h8, eq_true h17] <;> omega)) (by (try dsimp only); exact ⟨hds.append (.one hφ), by omega, .inl ⟨rfl, rfl, rfl, by rw [hl']; exact hsh.1, by rw [hl']; exact hRk, by rw [hl']; simp; omega⟩⟩) _ _ _ (by simp <;> omega) (by simp <;> omega) (by simp <;> omega)
      simp only [eq_false h17, eq_false h8, eq_false h4, eq_false h5, eq_false h1, eq_false h6, eq_false h2, eq_false h3, or_self, if_false, andThen_noE] at hRk
      simp [c149t, h4, h5, h1, h2, h3, h6, h8, h17]
      refine ATT.callM Tryz.func149 60 [0] (f52_ok L i (d + 1) 0 20 t1 ht) rfl (by simp) (by simp) (by simp) (by simp) (by simp) ?_
      simp [c149t, hmul]
      refine ih (m + 1, acc ++ [.mk 3 t1.t t1.a 0 [] []], ds ++ [_], i, d + 1, 20, t1.a) (by first | ((try dsimp only); omega) | (simp [h4, h5, h1, h2, h3, h6, h8, h17, hmul] <;> omega)) (by (try dsimp only); exact ⟨hds.append (.one (NdR.leaf _ _ _ 0)), by omega, .inr ⟨by decide, hRk.symm, at_lt ht, by omega⟩⟩) _ _ _ (by simp <;> omega) (by simp <;> omega) (by simp <;> omega)
  ·simp [c149t]
   refine ATT.callM Tryz.func149 60 [0] (f49_no L i d' e he a 9) rfl (by simp) (by simp) (by simp) (by simp) (by simp) ?_
   simp [c149t, he]
   have hd1 : ((d' : Int) - 1) = ((d' - 1 : Nat) : Int) := by omega
   have hI : inI ((d' - 1 : Nat) : Int) = true := inI_of (by omega) (by omega)
   refine ATT.callM Tryz.func149 60 [0] (f51_no L i d' e he a 9) rfl (by simp) (by simp) (by simp) (by simp) (by simp) ?_
   simp [c149t, hd1, hI]
   subst hRk
   cases ds with
   | nil =>
    have : acc = [] := by cases acc <;> simp [NdRL] at hds ⊢
    subst this
    refine ATT.finz hQ Tryz.func149 c149res (by first | exact .inl rfl | exact .inr ⟨_, rfl⟩) ?_
    simp
    all_goals (first | omega | exact ⟨_, rfl⟩ | skip)
    exact ⟨_, _, _, _, _, rfl, rfl, hi, by omega, ⟨.mk 4 ⟨#[]⟩ t.a 0 [] [], NdR.mk (fun _ => rfl) (by simp) (fun _ => rfl) (by simp) (by simp [NdRL])⟩, he⟩
   | cons d0 ds =>
    refine ATT.finz hQ Tryz.func149 c149res (by first | exact .inl rfl | exact .inr ⟨_, rfl⟩) ?_
    simp
    all_goals (first | omega | exact ⟨_, rfl⟩ | skip)
    exact ⟨_, _, _, _, _, rfl, rfl, hi, by omega, ⟨.mk 4 ⟨#[]⟩ t.a 0 [] acc, NdR.kids hds⟩, he⟩
end Go.SL
namespace Go.SL
open Go.Proofs
set_option maxRecDepth 10000
abbrev NO (a0 a1 a2 a3 : D) (m : Nat) (x : V) : Bx := .cells [.d a0, .d a1, .d a2, .d a3, .vs 0 m 0 m, x] 31
def TQ (L : List Tk) (d : Nat) (names : List ByteArray) (a0 a1 a2 a3 : D) (r : Res (List ByteArray)) (o : Out) (h : H) : Prop := match r with
 | .ok ts l => ∃ b c i, o = .ret (.d (.tup [])) ∧ h = ⟨RP L i d 0 0 :: NO a0 a1 a2 a3 (names ++ ts).length (.d (.sl true 0 [])) :: b, NS (names ++ ts) :: c⟩ ∧ L.drop i = l
 | .no a w => ∃ b c i ts, o = .ret (.d (.tup [])) ∧ h = ⟨RP L i d w a :: NO a0 a1 a2 a3 (names ++ ts).length (.d (.sl true 0 [])) :: b, NS (names ++ ts) :: c⟩ ∧ i < L.length ∧ w ≠ 0
 | .out => True
theorem TQ.ok {L : List Tk} {d : Nat} {names ts : List ByteArray} {a0 a1 a2 a3 : D} {l : List Tk} {i : Nat} {x4 : V} {v0 : Option Vec} {b : List Bx} {c : List (Option Vec)} (hl : L.drop i = l) (h4 : x4 = .vs 0 (names ++ ts).length 0 (names ++ ts).length) (h0 : v0 = NS (names ++ ts)) :
  TQ L d names a0 a1 a2 a3 (.ok ts l) (.ret (.d (.tup []))) ⟨RP L i d 0 0 :: .cells [.d a0, .d a1, .d a2, .d a3, x4, .d (.sl true 0 [])] 31 :: b, v0 :: c⟩ := by
 subst h4 h0
 exact ⟨_, _, _, rfl, rfl, hl⟩
theorem TQ.no {L : List Tk} {d : Nat} {names ts : List ByteArray} {a0 a1 a2 a3 : D} {i a : Nat} {w : Int} {x4 : V} {v0 : Option Vec} {b : List Bx} {c : List (Option Vec)} (hi : i < L.length) (hw : w ≠ 0) (h4 : x4 = .vs 0 (names ++ ts).length 0 (names ++ ts).length) (h0 : v0 = NS (names ++ ts)) :
  TQ L d names a0 a1 a2 a3 (.no a w) (.ret (.d (.tup []))) ⟨RP L i d w a :: .cells [.d a0, .d a1, .d a2, .d a3, x4, .d (.sl true 0 [])] 31 :: b, v0 :: c⟩ := by
 subst h4 h0
 exact ⟨_, _, _, _, rfl, rfl, hi, hw⟩
theorem f31_no (L : List Tk) (i d : Nat) (e : Int) (he : e ≠ 0) (a : Nat) (names : List ByteArray) (a0 a1 a2 a3 : D) :
  AF Tryz.prog 31 [.ptr 0 0, .ptr 1 0] ⟨[RP L i d e a, NO a0 a1 a2 a3 names.length (.d (.sl true 0 []))], [NS names]⟩ fun o h => ∃ b c, o = .ret (.d (.tup [])) ∧ h = ⟨RP L i d e a :: NO a0 a1 a2 a3 names.length (.d (.sl true 0 [])) :: b, NS names :: c⟩ := by
 refine AF.start' 60 Tryz.func31 rfl rfl c31call c31ok fun Q hQ => ?_
 simp [c31c, c31t]
 refine ATT.callM Tryz.func31 60 [0] (f49_no L i d e he a 12) rfl (by simp) (by simp) (by simp) (by simp) (by simp) ?_
 simp
 refine ATT.fin' hQ Tryz.func31 c31res ?_
 exact ⟨by simp, _, _, rfl, rfl⟩
theorem f31_ok (L : List Tk) (i d : Nat) (hL : WF L) (hl : WF (L.drop i)) (names : List ByteArray) (hn : names.length ≤ 5000) (a0 a1 a2 a3 : D) :
  AF Tryz.prog 31 [.ptr 0 0, .ptr 1 0] ⟨[RP L i d 0 0, NO a0 a1 a2 a3 names.length (.d (.sl true 0 []))], [NS names]⟩ (TQ L d names a0 a1 a2 a3 (tempsS (L.drop i))) := by
 obtain ⟨t, r, hs⟩ := hl.cons
 have ht := (drop_at hs).1
 have hr := (drop_at hs).2
 have hLl := hL.2.2
 rw [hs] at hl ⊢
 refine AF.start' 60 Tryz.func31 rfl rfl c31call c31ok fun Q hQ => ?_
 simp [c31c, c31t]
 refine ATT.callM Tryz.func31 60 [0] (f49_ok L i d 0 12 t ht) rfl (by simp) (by simp) (by simp) (by simp) (by simp) ?_
 simp
 by_cases h12 : t.k = 12
 ·rw [tempsS_12 h12] at hQ
  have hwf2 := (hl.tail (by simp only [kd_cons, h12]; decide)).1
  simp only [List.tail_cons] at hwf2
  simp [c31t, eq_true h12]
  refine ATT.callM Tryz.func31 60 [0] (f50_ok L hLl i d 0 t ht (by rw [h12]; decide)) rfl (by simp) (by simp) (by simp) (by simp) (by simp) ?_
  simp
  generalize hP : namesS r = P at hQ
  refine ATT.loopG 60 c31l4.eq_1 (fun ((dn, i) : List ByteArray × Nat) => L.length - i) (fun ((dn, i) : List ByteArray × Nat) => (dn ++ (namesS (L.drop i)).1, (namesS (L.drop i)).2) = P ∧ WF (L.drop i) ∧ dn.length + (L.drop i).length ≤ 5000) (fun ((dn, i) : List ByteArray × Nat) => [(0, .ptr 0 0), (1, .ptr 1 0)]) (fun ((dn, i) : List ByteArray × Nat) => [RP L i d 0 0, .cells [.d a0, .d a1, .d a2, .d a3, .vs 0 (names ++ dn).length 0 (names ++ dn).length, .d (.sl true 0 [])] 31]) (fun ((dn, i) : List ByteArray × Nat) => [NS (names ++ dn)]) (([], i + 1)) (by (try dsimp only); exact ⟨by rw [hr]; simpa using hP, by rw [hr]; exact hwf2, by rw [hr]; simpa using hwf2.2.2⟩) (by simp <;> omega) (by simp) (by simp) ?_
  intro ⟨dn, i⟩ u w hI ih
  try simp only at hI ih
  obtain ⟨hRk, hwf, hnum⟩ := hI
  obtain ⟨t1, l1, hs1⟩ := hwf.cons
  have ht1 := (drop_at hs1).1
  have hl1 := (drop_at hs1).2
  have hi1 := at_lt ht1
  rw [hs1] at hwf hRk hnum
  simp [c31t]
  refine ATT.callM Tryz.func31 60 [0] (f49_ok L i d 0 1 t1 ht1) rfl (by simp) (by simp) (by simp) (by simp) (by simp) ?_
  simp
  by_cases h1 : t1.k = 1
  ·have hwf3 := (hwf.tail (by simp only [kd_cons, h1]; decide)).1
   simp only [List.tail_cons] at hwf3
   rw [namesS, if_pos h1] at hRk
   simp only [List.length_cons] at hnum
   have hmul : (names.length + dn.length + 1) * 16 ≤ 140737488355328 := by omega
   simp [eq_true h1]
   refine ATT.callRM Tryz.func31 60 [0] (f50_ok L hLl i d 0 t1 ht1 (by rw [h1]; decide)) rfl (by simp) (by simp) (by simp) (by simp) (by simp) ?_
   simp [tkD, tokD, hmul]
   refine ih (dn ++ [t1.t], i + 1) (by first | ((try dsimp only); omega) | (simp [tkD, tokD] <;> omega)) (by (try dsimp only); exact ⟨by rw [hl1]; simpa using hRk, by rw [hl1]; exact hwf3, by rw [hl1]; simp; omega⟩) _ _ _ (by simp <;> omega) (by simp <;> omega) (by simp <;> omega)
  ·rw [namesS, if_neg h1] at hRk
   simp only [List.append_nil] at hRk
   subst hRk
   simp [c31t, h1]
   by_cases h2 : t1.k = 12
   ·simp only [tempsE, kd_cons, eq_true h2, if_true, List.tail_cons] at hQ
    refine ATT.callM Tryz.func31 60 [0] (f51_ok L hLl i d 0 12 (by decide) t1 ht1 h2) rfl (by simp) (by simp) (by simp) (by simp) (by simp) ?_
    simp
    refine ATT.fin0' hQ Tryz.func31 c31res ?_
    exact ⟨by simp, TQ.ok hl1 (by simp) (by simp)⟩
   ·simp only [tempsE, kd_cons, pl_cons, eq_false h2, if_false] at hQ
    refine ATT.callM Tryz.func31 60 [0] (f51_bad L i d 0 12 t1 ht1 h2) rfl (by simp) (by simp) (by simp) (by simp) (by simp) ?_
    simp
    refine ATT.fin0' hQ Tryz.func31 c31res ?_
    exact ⟨by simp, TQ.no (ts := dn) hi1 (by decide) (by simp) (by simp)⟩
 ·simp only [tempsS_no h12] at hQ
  simp [h12]
  refine ATT.fin' hQ Tryz.func31 c31res ?_
  exact ⟨by simp, TQ.ok (ts := []) hs (by simp) (by simp)⟩
abbrev NK (a0 a1 a2 a3 : D) (m k : Nat) : Bx := .cells [.d a0, .d a1, .d a2, .d a3, .vs 0 m 0 m, .vs 1 k 0 k] 31
def SQ (L : List Tk) (d : Nat) (names : List ByteArray) (a0 a1 a2 a3 : D) (r : Res (List Nd)) (o : Out) (h : H) : Prop := match r with
 | .ok ks l => ∃ b c i ds, o = .ret (.d (.tup [])) ∧ h = ⟨RP L i d 0 0 :: NK a0 a1 a2 a3 names.length ds.length :: b, NS names :: NV 31 ds :: c⟩ ∧ L.drop i = l ∧ NdRL ks ds
 | .no a w => ∃ b c i d' ks ds, o = .ret (.d (.tup [])) ∧ h = ⟨RP L i d' w a :: NK a0 a1 a2 a3 names.length ds.length :: b, NS names :: NV 31 ds :: c⟩ ∧ i < L.length ∧ (d ≤ d' ∧ d' ≤ 41) ∧ NdRL ks ds ∧ w ≠ 0
 | .out => True
theorem SQ.ok {L : List Tk} {d : Nat} {names : List ByteArray} {a0 a1 a2 a3 : D} {l : List Tk} {i : Nat} {ks : List Nd} {ds : List D} {x5 : V} {v1 : Option Vec} {b : List Bx} {c : List (Option Vec)} (hds : NdRL ks ds) (hl : L.drop i = l) (h5 : x5 = .vs 1 ds.length 0 ds.length) (h1 : v1 = NV 31 ds) :
  SQ L d names a0 a1 a2 a3 (.ok ks l) (.ret (.d (.tup []))) ⟨RP L i d 0 0 :: .cells [.d a0, .d a1, .d a2, .d a3, .vs 0 names.length 0 names.length, x5] 31 :: b, NS names :: v1 :: c⟩ := by
 subst h5 h1
 exact ⟨_, _, _, _, rfl, rfl, hl, hds⟩
theorem SQ.no {L : List Tk} {d d' : Nat} {names : List ByteArray} {a0 a1 a2 a3 : D} {i a : Nat} {w : Int} {ks : List Nd} {ds : List D} {x5 : V} {v1 : Option Vec} {b : List Bx} {c : List (Option Vec)} (hds : NdRL ks ds) (hi : i < L.length) (hd : d ≤ d' ∧ d' ≤ 41) (hw : w ≠ 0) (h5 : x5 = .vs 1 ds.length 0 ds.length) (h1 : v1 = NV 31 ds) :
  SQ L d names a0 a1 a2 a3 (.no a w) (.ret (.d (.tup []))) ⟨RP L i d' w a :: .cells [.d a0, .d a1, .d a2, .d a3, .vs 0 names.length 0 names.length, x5] 31 :: b, NS names :: v1 :: c⟩ := by
 subst h5 h1
 exact ⟨_, _, _, _, _, _, rfl, rfl, hi, hd, hds, hw⟩
theorem f32_no (L : List Tk) (i d : Nat) (en : Int) (e : Int) (he : e ≠ 0) (a : Nat) (names : List ByteArray) (a0 a1 a2 a3 : D) :
  AF Tryz.prog 32 [.ptr 0 0, .ptr 1 0, .d (.int .i64 en)] ⟨[RP L i d e a, NO a0 a1 a2 a3 names.length (.d (.sl true 0 []))], [NS names]⟩ fun o h => ∃ b c, o = .ret (.d (.tup [])) ∧ h = ⟨RP L i d e a :: NK a0 a1 a2 a3 names.length 0 :: b, NS names :: NV 31 [] :: c⟩ := by
 refine AF.start' 60 Tryz.func32 rfl rfl c32call c32ok fun Q hQ => ?_
 simp [c32c]
 refine ATT.nilB 1 5 6 31 rfl rfl (by decide) (by simp) ?_
 simp
 refine ATT.loop 60 rfl ?_
 simp [c32l12, c32t]
 refine ATT.callM Tryz.func32 60 [0] (f49_no L i d e he a en) rfl (by simp) (by simp) (by simp) (by simp) (by simp) ?_
 simp [c32t, he]
 refine ATT.callM Tryz.func32 60 [0] (f49_no L i d e he a en) rfl (by simp) (by simp) (by simp) (by simp) (by simp) ?_
 simp [c32t]
 refine ATT.callM Tryz.func32 60 [0] (f52_no L i d e he a 20) rfl (by simp) (by simp) (by simp) (by simp) (by simp) ?_
 simp
 refine ATT.fin0' hQ Tryz.func32 c32res ?_
 exact ⟨by simp, _, _, rfl, rfl⟩
theorem f32_ok (n : Nat) (ihE : ∀ m, m ≤ n → ExprR m) (L : List Tk) (i d : Nat) (hd : d ≤ 40) (hL : WF L) (hl : WF (L.drop i)) (en : Int) (hin : stmtsS n d en [] (L.drop i) ≠ .out) (names : List ByteArray) (a0 a1 a2 a3 : D) :
  AF Tryz.prog 32 [.ptr 0 0, .ptr 1 0, .d (.int .i64 en)] ⟨[RP L i d 0 0, NO a0 a1 a2 a3 names.length (.d (.sl true 0 []))], [NS names]⟩ (SQ L d names a0 a1 a2 a3 (stmtsS n d en [] (L.drop i))) := by
 have hLl := hL.2.2
 refine AF.start' 60 Tryz.func32 rfl rfl c32call c32ok fun Q hQ => ?_
 simp [c32c]
 refine ATT.nilB 1 5 6 31 rfl rfl (by decide) (by simp) ?_
 simp
 generalize hR : stmtsS n d en [] (L.drop i) = R at hin hQ
 refine ATT.loopG 60 c32l12.eq_1 (fun ((m, acc, ds, i, d', e, a) : Nat × List Nd × List D × Nat × Nat × Int × Nat) => m) (fun ((m, acc, ds, i, d', e, a) : Nat × List Nd × List D × Nat × Nat × Int × Nat) => NdRL acc ds ∧ m ≤ n ∧ ((e = 0 ∧ a = 0 ∧ d' = d ∧ WF (L.drop i) ∧ stmtsS m d en acc (L.drop i) = R ∧ ds.length + (L.drop i).length ≤ 5000) ∨ (e ≠ 0 ∧ R = .no a e ∧ i < L.length ∧ (d ≤ d' ∧ d' ≤ 41)))) (fun ((m, acc, ds, i, d', e, a) : Nat × List Nd × List D × Nat × Nat × Int × Nat) => [(0, .ptr 0 0), (1, .ptr 1 0), (2, .d (.int .i64 en))]) (fun ((m, acc, ds, i, d', e, a) : Nat × List Nd × List D × Nat × Nat × Int × Nat) => [RP L i d' e a, .cells [.d a0, .d a1, .d a2, .d a3, .vs 0 names.length 0 names.length, .vs 1 ds.length 0 ds.length] 31]) (fun ((m, acc, ds, i, d', e, a) : Nat × List Nd × List D × Nat × Nat × Int × Nat) => [NS names, NV 31 ds]) ((n, [], [], i, d, 0, 0)) (by (try dsimp only); exact ⟨by simp [NdRL], Nat.le_refl _, .inl ⟨rfl, rfl, rfl, hl, hR, by simpa using hl.2.2⟩⟩) (by simp <;> omega) (by simp) (by simp) ?_
 intro ⟨m, acc, ds, i, d', e, a⟩ u w hI ih
 try simp only at hI ih
 obtain ⟨hds, hmn, hmode⟩ := hI
 rcases hmode with ⟨e1, e2, e3, hwf, hRk, hnum⟩ | ⟨he, hRk, hi, hd'⟩
 ·subst e1 e2 e3
  cases m with
  | zero => exact absurd hRk.symm (by simpa [stmtsS] using hin)
  | succ m =>
   obtain ⟨t1, l1, hs⟩ := hwf.cons
   have ht := (drop_at hs).1
   have hl1 := (drop_at hs).2
   rw [hs] at hwf hRk hnum
   simp only [stmtsS, kd_cons] at hRk
   simp [c32t]
   refine ATT.callM Tryz.func32 60 [0] (f49_ok L i d' 0 en t1 ht) rfl (by simp) (by simp) (by simp) (by simp) (by simp) ?_
   simp
   by_cases hend : t1.k = en
   ·simp only [eq_true hend, if_true] at hRk
    subst hRk
    simp [c32t, eq_true hend]
    refine ATT.callM Tryz.func32 60 [0] (f49_ok L i d' 0 en t1 ht) rfl (by simp) (by simp) (by simp) (by simp) (by simp) ?_
    simp [eq_true hend]
    refine ATT.fin0' hQ Tryz.func32 c32res ?_
    exact ⟨by simp, SQ.ok hds hs (by simp) (by simp)⟩
   ·simp only [eq_false hend, if_false] at hRk
    simp [c32t, hend]
    refine ATT.callM Tryz.func32 60 [0] (f49_ok L i d' 0 13 t1 ht) rfl (by simp) (by simp) (by simp) (by simp) (by simp) ?_
    simp [c32t]
    cases m with
    | zero => exact absurd hRk.symm (by simpa [stmtS, Res.andThen] using hin)
    | succ m =>
     simp only [stmtS, kd_cons, pl_cons, List.tail_cons] at hRk
     by_cases h13 : t1.k = 13
     ·simp only [eq_true h13, if_true] at hRk
      have hwf2 := (hwf.tail (by simp only [kd_cons, h13]; decide)).1
      simp only [List.tail_cons] at hwf2
      have hin2 : exprS m d' l1 ≠ .out := fun e => hin (by rw [← hRk, e]; rfl)
      have hE := ihE m (by omega) L (i + 1) d' hd hL (by rw [hl1]; exact hwf2) (by rw [hl1]; exact hin2)
      rw [hl1] at hE
      simp only [List.length_cons] at hnum
      have hmul : (ds.length + 1) * 88 ≤ 140737488355328 := by omega
      have hir : inR (ds.length : Int) (ds.length + 1) = true := by simp [inR]; omega
      simp [c32t, eq_true h13]
      refine ATT.callM Tryz.func32 60 [0] (f50_ok L hLl i d' 0 t1 ht (by rw [h13]; decide)) rfl (by simp) (by simp) (by simp) (by simp) (by simp) ?_
      simp [tkD, tokD]
      refine ATT.callRS Tryz.func32 60 0 hE hin2 (by simp) (by simp) rfl (by simp) (fun a wh v i' d2 e g1 g2 g3 g4 => ?_) fun y l' v i' e hl' hφ => ?_
      ·obtain ⟨y, hy⟩ := g3
       rw [e] at hRk
       obtain ⟨nl1_v, z1_v, nl2_v, z2_v, ds_v, hv_v, ha_v, hb_v, hc_v, hd_v, he_v⟩ := hy.shape
       have hw_v := hv_v
       subst hw_v
       simp
       refine ATT.fz1 (w.length + 1 + 1 + 1) (by simp) ?_
       simp
       simp only [andThen_noE] at hRk
       refine ATT.ords 60 (by simp <;> omega) fun o ho => ?_
       simp only [List.mem_cons, List.mem_nil_iff, or_false] at ho
       rcases ho with ho | ho <;> subst ho
       simp [c32t, hmul, hir]
       ·try simp [c32t, hmul]
        refine ATT.callM Tryz.func32 60 [0] (f49_no L i' d2 wh g4 a 14) rfl (by simp) (by simp) (by simp) (by simp) (by simp) ?_
        simp [c32t]
        refine ATT.callM Tryz.func32 60 [0] (f49_no L i' d2 wh g4 a en) rfl (by simp) (by simp) (by simp) (by simp) (by simp) ?_
        simp [c32t]
        refine ATT.callM Tryz.func32 60 [0] (f52_no L i' d2 wh g4 a 20) rfl (by simp) (by simp) (by simp) (by simp) (by simp) ?_
        simp
        subst hRk
        refine ATT.fin0' hQ Tryz.func32 c32res ?_
        exact ⟨by simp, SQ.no (ds := ds ++ [_]) (hds.append (.one (NdR.kids (k := 11) (t := ⟨#[]⟩) (a := t1.a) (n := 0) (.one hy)))) g1 g2 g4 (by simp) (by simp)⟩
       ·try simp [c32t, hmul]
        refine ATT.callM Tryz.func32 60 [0] (f49_no L i' d2 wh g4 a 14) rfl (by simp) (by simp) (by simp) (by simp) (by simp [hir]) ?_
        simp [c32t]
        refine ATT.callM Tryz.func32 60 [0] (f49_no L i' d2 wh g4 a en) rfl (by simp) (by simp) (by simp) (by simp) (by simp) ?_
        simp [c32t]
        refine ATT.callM Tryz.func32 60 [0] (f52_no L i' d2 wh g4 a 20) rfl (by simp) (by simp) (by simp) (by simp) (by simp) ?_
        simp
        subst hRk
        refine ATT.fin0' hQ Tryz.func32 c32res ?_
        exact ⟨by simp, SQ.no (ds := ds ++ [_]) (hds.append (.one (NdR.kids (k := 11) (t := ⟨#[]⟩) (a := t1.a) (n := 0) (.one hy)))) g1 g2 g4 (by simp) (by simp)⟩
      ·rw [e] at hRk
       obtain ⟨nl1_v, z1_v, nl2_v, z2_v, ds_v, hv_v, ha_v, hb_v, hc_v, hd_v, he_v⟩ := hφ.shape
       have hw_v := hv_v
       subst hw_v
       simp
       refine ATT.fz1 (w.length + 1 + 1 + 1) (by simp) ?_
       simp
       simp only [andThen_okE] at hRk
       have hsh := (pres m).expr hwf2 e
       have h2l := hsh.2
       obtain ⟨t4, l4, hq4⟩ := hsh.1.cons
       subst hq4
       have hs4 := hl'
       have hw4 := hsh.1
       have ht4 := (drop_at hs4).1
       have hl4 := (drop_at hs4).2
       simp only [kd_cons, pl_cons, List.tail_cons] at hRk
       simp only [List.length_cons] at h2l
       refine ATT.ords 60 (by simp <;> omega) fun o ho => ?_
       simp only [List.mem_cons, List.mem_nil_iff, or_false] at ho
       rcases ho with ho | ho <;> subst ho
       simp [c32t, hmul, hir]
       ·try simp [c32t, hmul]
        refine ATT.callM Tryz.func32 60 [0] (f49_ok L i' d' 0 14 t4 ht4) rfl (by simp) (by simp) (by simp) (by simp) (by simp) ?_
        simp
        by_cases h14 : t4.k = 14
        ·simp only [eq_true h14, true_and, if_true, Bool.true_eq_false, if_false] at hRk
         have hw5 := (hw4.tail (by simp only [kd_cons, h14]; decide)).1
         simp only [List.tail_cons] at hw5
         simp [c32t, eq_true h14]
         refine ATT.callM Tryz.func32 60 [0] (f50_ok L hLl i' d' 0 t4 ht4 (by rw [h14]; decide)) rfl (by simp) (by simp) (by simp) (by simp) (by simp) ?_
         simp [c32t, tkD, tokD]
         obtain ⟨t5, l5, hs5⟩ := hw5.cons
         have ht5 : L[i' + 1]? = some t5 := (drop_at (by rw [hl4]; exact hs5)).1
         have hl5 : L.drop (i' + 1) = t5 :: l5 := by rw [hl4]; exact hs5
         rw [hs5] at hRk
         simp only [kd_cons, pl_cons] at hRk
         refine ATT.callM Tryz.func32 60 [0] (f49_ok L (i' + 1) d' 0 en t5 ht5) rfl (by simp) (by simp) (by simp) (by simp) (by simp) ?_
         simp
         by_cases hEn : t5.k = en
         ·simp only [eq_true hEn, if_true] at hRk
          subst hRk
          simp [eq_true hEn]
          refine ATT.fin0' hQ Tryz.func32 c32res ?_
          exact ⟨by simp, SQ.ok (ds := ds ++ [_]) (hds.append (.one (NdR.kids (k := 11) (t := ⟨#[]⟩) (a := t1.a) (n := 0) (.one hφ)))) hl5 (by simp) (by simp)⟩
         ·simp only [eq_false hEn, if_false] at hRk
          subst hRk
          simp [c32t, hEn]
          refine ATT.callM Tryz.func32 60 [0] (f52_ok L (i' + 1) d' 0 20 t5 ht5) rfl (by simp) (by simp) (by simp) (by simp) (by simp) ?_
          simp
          refine ATT.fin0' hQ Tryz.func32 c32res ?_
          exact ⟨by simp, SQ.no (ds := ds ++ [_]) (hds.append (.one (NdR.kids (k := 11) (t := ⟨#[]⟩) (a := t1.a) (n := 0) (.one hφ)))) (at_lt ht5) (by omega) (by decide) (by simp) (by simp)⟩
        ·simp only [eq_false h14, false_and, if_false] at hRk
         simp [c32t, h14]
         refine ATT.callM Tryz.func32 60 [0] (f49_ok L i' d' 0 en t4 ht4) rfl (by simp) (by simp) (by simp) (by simp) (by simp) ?_
         simp
         by_cases hEn : t4.k = en
         ·simp only [eq_true hEn, if_true] at hRk
          subst hRk
          simp [eq_true hEn]
          refine ATT.fin0' hQ Tryz.func32 c32res ?_
          exact ⟨by simp, SQ.ok (ds := ds ++ [_]) (hds.append (.one (NdR.kids (k := 11) (t := ⟨#[]⟩) (a := t1.a) (n := 0) (.one hφ)))) hs4 (by simp) (by simp)⟩
         ·simp only [eq_false hEn, if_false] at hRk
          subst hRk
          simp [c32t, hEn]
          refine ATT.callM Tryz.func32 60 [0] (f52_ok L i' d' 0 20 t4 ht4) rfl (by simp) (by simp) (by simp) (by simp) (by simp) ?_
          simp
          refine ATT.fin0' hQ Tryz.func32 c32res ?_
          exact ⟨by simp, SQ.no (ds := ds ++ [_]) (hds.append (.one (NdR.kids (k := 11) (t := ⟨#[]⟩) (a := t1.a) (n := 0) (.one hφ)))) (at_lt ht4) (by omega) (by decide) (by simp) (by simp)⟩
       ·try simp [c32t, hmul]
        refine ATT.callM Tryz.func32 60 [0] (f49_ok L i' d' 0 14 t4 ht4) rfl (by simp) (by simp) (by simp) (by simp) (by simp [hir]) ?_
        simp
        by_cases h14 : t4.k = 14
        ·simp only [eq_true h14, true_and, if_true, Bool.true_eq_false, if_false] at hRk
         have hw5 := (hw4.tail (by simp only [kd_cons, h14]; decide)).1
         simp only [List.tail_cons] at hw5
         simp [c32t, eq_true h14]
         refine ATT.callM Tryz.func32 60 [0] (f50_ok L hLl i' d' 0 t4 ht4 (by rw [h14]; decide)) rfl (by simp) (by simp) (by simp) (by simp) (by simp) ?_
         simp [c32t, tkD, tokD]
         obtain ⟨t5, l5, hs5⟩ := hw5.cons
         have ht5 : L[i' + 1]? = some t5 := (drop_at (by rw [hl4]; exact hs5)).1
         have hl5 : L.drop (i' + 1) = t5 :: l5 := by rw [hl4]; exact hs5
         rw [hs5] at hRk
         simp only [kd_cons, pl_cons] at hRk
         refine ATT.callM Tryz.func32 60 [0] (f49_ok L (i' + 1) d' 0 en t5 ht5) rfl (by simp) (by simp) (by simp) (by simp) (by simp) ?_
         simp
         by_cases hEn : t5.k = en
         ·simp only [eq_true hEn, if_true] at hRk
          subst hRk
          simp [eq_true hEn]
          refine ATT.fin0' hQ Tryz.func32 c32res ?_
          exact ⟨by simp, SQ.ok (ds := ds ++ [_]) (hds.append (.one (NdR.kids (k := 11) (t := ⟨#[]⟩) (a := t1.a) (n := 0) (.one hφ)))) hl5 (by simp) (by simp)⟩
         ·simp only [eq_false hEn, if_false] at hRk
          subst hRk
          simp [c32t, hEn]
          refine ATT.callM Tryz.func32 60 [0] (f52_ok L (i' + 1) d' 0 20 t5 ht5) rfl (by simp) (by simp) (by simp) (by simp) (by simp) ?_
          simp
          refine ATT.fin0' hQ Tryz.func32 c32res ?_
          exact ⟨by simp, SQ.no (ds := ds ++ [_]) (hds.append (.one (NdR.kids (k := 11) (t := ⟨#[]⟩) (a := t1.a) (n := 0) (.one hφ)))) (at_lt ht5) (by omega) (by decide) (by simp) (by simp)⟩
        ·simp only [eq_false h14, false_and, if_false] at hRk
         simp [c32t, h14]
         refine ATT.callM Tryz.func32 60 [0] (f49_ok L i' d' 0 en t4 ht4) rfl (by simp) (by simp) (by simp) (by simp) (by simp) ?_
         simp
         by_cases hEn : t4.k = en
         ·simp only [eq_true hEn, if_true] at hRk
          subst hRk
          simp [eq_true hEn]
          refine ATT.fin0' hQ Tryz.func32 c32res ?_
          exact ⟨by simp, SQ.ok (ds := ds ++ [_]) (hds.append (.one (NdR.kids (k := 11) (t := ⟨#[]⟩) (a := t1.a) (n := 0) (.one hφ)))) hs4 (by simp) (by simp)⟩
         ·simp only [eq_false hEn, if_false] at hRk
          subst hRk
          simp [c32t, hEn]
          refine ATT.callM Tryz.func32 60 [0] (f52_ok L i' d' 0 20 t4 ht4) rfl (by simp) (by simp) (by simp) (by simp) (by simp) ?_
          simp
          refine ATT.fin0' hQ Tryz.func32 c32res ?_
          exact ⟨by simp, SQ.no (ds := ds ++ [_]) (hds.append (.one (NdR.kids (k := 11) (t := ⟨#[]⟩) (a := t1.a) (n := 0) (.one hφ)))) (at_lt ht4) (by omega) (by decide) (by simp) (by simp)⟩
     ·simp only [eq_false h13, if_false] at hRk
      have hin2 : exprS m d' (t1 :: l1) ≠ .out := fun e => hin (by rw [← hRk, e]; rfl)
      have hE := ihE m (by omega) L i d' hd hL (by rw [hs]; exact hwf) (by rw [hs]; exact hin2)
      rw [hs] at hE
      simp only [List.length_cons] at hnum
      have hmul : (ds.length + 1) * 88 ≤ 140737488355328 := by omega
      have hir : inR (ds.length : Int) (ds.length + 1) = true := by simp [inR]; omega
      simp [c32t, h13]
      refine ATT.callS Tryz.func32 60 0 hE hin2 (by simp) (by simp) rfl (by simp) (fun a wh v i' d2 e g1 g2 g3 g4 => ?_) fun y l' v i' e hl' hφ => ?_
      ·obtain ⟨y, hy⟩ := g3
       rw [e] at hRk
       simp only [andThen_noE] at hRk
       obtain ⟨nl1_v, z1_v, nl2_v, z2_v, ds_v, hv_v, ha_v, hb_v, hc_v, hd_v, he_v⟩ := hy.shape
       have hw_v := hv_v
       subst hw_v
       simp
       refine ATT.ords 60 (by simp <;> omega) fun o ho => ?_
       simp only [List.mem_cons, List.mem_nil_iff, or_false] at ho
       rcases ho with ho | ho <;> subst ho
       simp [c32t, hmul, hir]
       ·try simp [c32t, hmul]
        refine ATT.callM Tryz.func32 60 [0] (f49_no L i' d2 wh g4 a 14) rfl (by simp) (by simp) (by simp) (by simp) (by simp) ?_
        simp [c32t]
        refine ATT.callM Tryz.func32 60 [0] (f49_no L i' d2 wh g4 a en) rfl (by simp) (by simp) (by simp) (by simp) (by simp) ?_
        simp [c32t]
        refine ATT.callM Tryz.func32 60 [0] (f52_no L i' d2 wh g4 a 20) rfl (by simp) (by simp) (by simp) (by simp) (by simp) ?_
        simp
        subst hRk
        refine ATT.fin0' hQ Tryz.func32 c32res ?_
        exact ⟨by simp, SQ.no (ds := ds ++ [_]) (hds.append (.one hy)) g1 g2 g4 (by simp) (by simp)⟩
       ·try simp [c32t, hmul]
        refine ATT.callM Tryz.func32 60 [0] (f49_no L i' d2 wh g4 a 14) rfl (by simp) (by simp) (by simp) (by simp) (by simp [hir]) ?_
        simp [c32t]
        refine ATT.callM Tryz.func32 60 [0] (f49_no L i' d2 wh g4 a en) rfl (by simp) (by simp) (by simp) (by simp) (by simp) ?_
        simp [c32t]
        refine ATT.callM Tryz.func32 60 [0] (f52_no L i' d2 wh g4 a 20) rfl (by simp) (by simp) (by simp) (by simp) (by simp) ?_
        simp
        subst hRk
        refine ATT.fin0' hQ Tryz.func32 c32res ?_
        exact ⟨by simp, SQ.no (ds := ds ++ [_]) (hds.append (.one hy)) g1 g2 g4 (by simp) (by simp)⟩
      ·rw [e] at hRk
       simp only [andThen_okE] at hRk
       obtain ⟨nl1_v, z1_v, nl2_v, z2_v, ds_v, hv_v, ha_v, hb_v, hc_v, hd_v, he_v⟩ := hφ.shape
       have hw_v := hv_v
       subst hw_v
       simp
       have hsh := (pres m).expr hwf e
       have h2l := hsh.2
       obtain ⟨t4, l4, hq4⟩ := hsh.1.cons
       subst hq4
       have hs4 := hl'
       have hw4 := hsh.1
       have ht4 := (drop_at hs4).1
       have hl4 := (drop_at hs4).2
       simp only [kd_cons, pl_cons, List.tail_cons] at hRk
       simp only [List.length_cons] at h2l
       refine ATT.ords 60 (by simp <;> omega) fun o ho => ?_
       simp only [List.mem_cons, List.mem_nil_iff, or_false] at ho
       rcases ho with ho | ho <;> subst ho
       simp [c32t, hmul, hir]
       ·try simp [c32t, hmul]
        refine ATT.callM Tryz.func32 60 [0] (f49_ok L i' d' 0 14 t4 ht4) rfl (by simp) (by simp) (by simp) (by simp) (by simp) ?_
        simp
        by_cases h14 : t4.k = 14
        ·simp only [eq_true h14, true_and, if_true] at hRk
         have hw5 := (hw4.tail (by simp only [kd_cons, h14]; decide)).1
         simp only [List.tail_cons] at hw5
         simp [c32t, eq_true h14]
         refine ATT.callM Tryz.func32 60 [0] (f50_ok L hLl i' d' 0 t4 ht4 (by rw [h14]; decide)) rfl (by simp) (by simp) (by simp) (by simp) (by simp) ?_
         simp [c32t]
         refine ih (m + 1, acc ++ [y], ds ++ [_], i' + 1, d', 0, 0) (by first | ((try dsimp only); omega) | (simp [h13, hmul, hir] <;> omega)) (by (try dsimp only); exact ⟨hds.append (.one hφ), by omega, .inl ⟨rfl, rfl, rfl, by rw [hl4]; exact hw5, by rw [hl4]; exact hRk, by rw [hl4]; simp at h2l ⊢; omega⟩⟩) _ _ _ (by simp <;> omega) (by simp <;> omega) (by simp <;> omega)
        ·simp only [eq_false h14, false_and, if_false] at hRk
         simp [c32t, h14]
         refine ATT.callM Tryz.func32 60 [0] (f49_ok L i' d' 0 en t4 ht4) rfl (by simp) (by simp) (by simp) (by simp) (by simp) ?_
         simp
         by_cases hEn : t4.k = en
         ·simp only [eq_true hEn, if_true] at hRk
          subst hRk
          simp [eq_true hEn]
          refine ATT.fin0' hQ Tryz.func32 c32res ?_
          exact ⟨by simp, SQ.ok (ds := ds ++ [_]) (hds.append (.one hφ)) hs4 (by simp) (by simp)⟩
         ·simp only [eq_false hEn, if_false] at hRk
          subst hRk
          simp [c32t, hEn]
          refine ATT.callM Tryz.func32 60 [0] (f52_ok L i' d' 0 20 t4 ht4) rfl (by simp) (by simp) (by simp) (by simp) (by simp) ?_
          simp
          refine ATT.fin0' hQ Tryz.func32 c32res ?_
          exact ⟨by simp, SQ.no (ds := ds ++ [_]) (hds.append (.one hφ)) (at_lt ht4) (by omega) (by decide) (by simp) (by simp)⟩
       ·try simp [c32t, hmul]
        refine ATT.callM Tryz.func32 60 [0] (f49_ok L i' d' 0 14 t4 ht4) rfl (by simp) (by simp) (by simp) (by simp) (by simp [hir]) ?_
        simp
        by_cases h14 : t4.k = 14
        ·simp only [eq_true h14, true_and, if_true] at hRk
         have hw5 := (hw4.tail (by simp only [kd_cons, h14]; decide)).1
         simp only [List.tail_cons] at hw5
         simp [c32t, eq_true h14]
         refine ATT.callM Tryz.func32 60 [0] (f50_ok L hLl i' d' 0 t4 ht4 (by rw [h14]; decide)) rfl (by simp) (by simp) (by simp) (by simp) (by simp) ?_
         simp [c32t]
         refine ih (m + 1, acc ++ [y], ds ++ [_], i' + 1, d', 0, 0) (by first | ((try dsimp only); omega) | (simp [h13, hmul, hir] <;> omega)) (by (try dsimp only); exact ⟨hds.append (.one hφ), by omega, .inl ⟨rfl, rfl, rfl, by rw [hl4]; exact hw5, by rw [hl4]; exact hRk, by rw [hl4]; simp at h2l ⊢; omega⟩⟩) _ _ _ (by simp <;> omega) (by simp <;> omega) (by simp <;> omega)
        ·simp only [eq_false h14, false_and, if_false] at hRk
         simp [c32t, h14]
         refine ATT.callM Tryz.func32 60 [0] (f49_ok L i' d' 0 en t4 ht4) rfl (by simp) (by simp) (by simp) (by simp) (by simp) ?_
         simp
         by_cases hEn : t4.k = en
         ·simp only [eq_true hEn, if_true] at hRk
          subst hRk
          simp [eq_true hEn]
          refine ATT.fin0' hQ Tryz.func32 c32res ?_
          exact ⟨by simp, SQ.ok (ds := ds ++ [_]) (hds.append (.one hφ)) hs4 (by simp) (by simp)⟩
         ·simp only [eq_false hEn, if_false] at hRk
          subst hRk
          simp [c32t, hEn]
          refine ATT.callM Tryz.func32 60 [0] (f52_ok L i' d' 0 20 t4 ht4) rfl (by simp) (by simp) (by simp) (by simp) (by simp) ?_
          simp
          refine ATT.fin0' hQ Tryz.func32 c32res ?_
          exact ⟨by simp, SQ.no (ds := ds ++ [_]) (hds.append (.one hφ)) (at_lt ht4) (by omega) (by decide) (by simp) (by simp)⟩
 ·simp [c32t]
  refine ATT.callM Tryz.func32 60 [0] (f49_no L i d' e he a en) rfl (by simp) (by simp) (by simp) (by simp) (by simp) ?_
  simp [c32t, he]
  refine ATT.callM Tryz.func32 60 [0] (f49_no L i d' e he a en) rfl (by simp) (by simp) (by simp) (by simp) (by simp) ?_
  simp [c32t]
  refine ATT.callM Tryz.func32 60 [0] (f52_no L i d' e he a 20) rfl (by simp) (by simp) (by simp) (by simp) (by simp) ?_
  simp
  subst hRk
  refine ATT.fin0' hQ Tryz.func32 c32res ?_
  exact ⟨by simp, SQ.no hds hi hd' he (by simp) (by simp)⟩
end Go.SL
namespace Go.SL
open Go.Proofs
set_option maxRecDepth 10000
def BlockR (n : Nat) : Prop := ∀ L i d, d ≤ 40 → WF L → WF (L.drop i) → kd (L.drop i) = 10 → blockS n d (L.drop i) ≠ .out → AF Tryz.prog 150 [.ptr 0 0] ⟨[RP L i d 0 0], []⟩ (RR GN NdR L d (blockS n d (L.drop i)))
set_option maxHeartbeats 2000000 in
theorem f139_ok (n : Nat) (ihE : ExprR n) (ihL : ListR n) (ihB : BlockR n) : PrimR (n + 1) := by
 intro L i d hd hL hl hin
 obtain ⟨t, r, hs⟩ := hl.cons
 have ht := (drop_at hs).1
 have hr := (drop_at hs).2
 have hLl := hL.2.2
 have hl0 := hl
 rw [hs] at hl hin ⊢
 simp only [primS, kd_cons, pl_cons, tx_cons, List.tail_cons] at hin ⊢
 refine AF.start' 60 Tryz.func139 rfl rfl c139call c139ok fun Q hQ => ?_
 simp [c139c, c139t]
 refine ATT.callM Tryz.func139 60 [0] (f128_ok L i d 0 0 t ht) rfl (by simp) (by simp) (by simp) (by simp) (by simp) ?_
 simp [c139t, tkD, tokD]
 refine ATT.callM Tryz.func139 60 [0] (f49_ok L i d 0 1 t ht) rfl (by simp) (by simp) (by simp) (by simp) (by simp) ?_
 simp
 by_cases h1 : t.k = 1
 ·simp only [eq_true h1, if_true] at hQ hin
  simp [c139t, eq_true h1]
  refine ATT.callM Tryz.func139 60 [0] (f50_ok L hLl i d 0 t ht (by rw [h1]; decide)) rfl (by simp) (by simp) (by simp) (by simp) (by simp) ?_
  simp [c139t, tkD, tokD]
  refine ATT.fin' hQ Tryz.func139 c139res ?_
  exact ⟨by simp, _, _, _, _, rfl, rfl, hr, NdR.leaf _ _ _ 0⟩
 simp [c139t, h1]
 refine ATT.callM Tryz.func139 60 [0] (f49_ok L i d 0 4 t ht) rfl (by simp) (by simp) (by simp) (by simp) (by simp) ?_
 simp
 by_cases h4 : t.k = 4
 ·simp only [eq_false h1, eq_true h4, if_true, if_false] at hQ hin
  simp [c139t, eq_true h4]
  refine ATT.callM Tryz.func139 60 [0] (f50_ok L hLl i d 0 t ht (by rw [h4]; decide)) rfl (by simp) (by simp) (by simp) (by simp) (by simp) ?_
  simp [c139t, tkD, tokD]
  refine ATT.fin' hQ Tryz.func139 c139res ?_
  exact ⟨by simp, _, _, _, _, rfl, rfl, hr, NdR.leaf _ _ _ 0⟩
 simp [c139t, h4]
 refine ATT.callM Tryz.func139 60 [0] (f49_ok L i d 0 5 t ht) rfl (by simp) (by simp) (by simp) (by simp) (by simp) ?_
 simp
 by_cases h5 : t.k = 5
 ·simp only [eq_false h1, eq_false h4, eq_true h5, if_true, if_false] at hQ hin
  simp [c139t, eq_true h5]
  refine ATT.callM Tryz.func139 60 [0] (f50_ok L hLl i d 0 t ht (by rw [h5]; decide)) rfl (by simp) (by simp) (by simp) (by simp) (by simp) ?_
  simp [c139t, tkD, tokD]
  refine ATT.fin' hQ Tryz.func139 c139res ?_
  exact ⟨by simp, _, _, _, _, rfl, rfl, hr, NdR.leaf _ _ _ 0⟩
 simp [c139t, h5]
 refine ATT.callM Tryz.func139 60 [0] (f49_ok L i d 0 6 t ht) rfl (by simp) (by simp) (by simp) (by simp) (by simp) ?_
 simp
 by_cases h6 : t.k = 6
 ·simp only [eq_false h1, eq_false h4, eq_false h5, eq_true h6, if_true, if_false] at hQ hin
  simp [c139t, eq_true h6]
  refine ATT.callM Tryz.func139 60 [0] (f50_ok L hLl i d 0 t ht (by rw [h6]; decide)) rfl (by simp) (by simp) (by simp) (by simp) (by simp) ?_
  simp [c139t, tkD, tokD]
  refine ATT.fin' hQ Tryz.func139 c139res ?_
  exact ⟨by simp, _, _, _, _, rfl, rfl, hr, NdR.leaf _ _ _ 0⟩
 simp [c139t, h6]
 refine ATT.callM Tryz.func139 60 [0] (f49_ok L i d 0 17 t ht) rfl (by simp) (by simp) (by simp) (by simp) (by simp) ?_
 simp
 by_cases h17 : t.k = 17
 ·simp only [eq_false h1, eq_false h4, eq_false h5, eq_false h6, eq_true h17, if_true, if_false] at hQ hin
  have hin2 : listS n d (t :: r) ≠ .out := fun e => hin (by rw [e]; rfl)
  have hS := ihL L i d hd hL hl0 (.inl (by rw [hs]; exact h17)) (by rw [hs]; exact hin2)
  rw [hs] at hS
  simp [c139t, eq_true h17]
  refine ATT.callS Tryz.func139 60 0 hS hin2 (by simp; rfl) (by simp) (by simp) (by simp) (fun a wh v i' d2 e g1 g2 g3 g4 => ?_) fun y l' v i' e hl' hφ => ?_
  ·obtain ⟨y, hy⟩ := g3
   simp only [e, andThen_noE] at hQ
   obtain ⟨nl1_v, z1_v, nl2_v, z2_v, ds_v, hv_v, ha_v, hb_v, hc_v, hd_v, he_v⟩ := hy.shape
   have hw_v := hv_v
   subst hw_v
   simp
   refine ATT.fin' hQ Tryz.func139 c139res ?_
   exact ⟨by simp, _, _, _, _, _, rfl, rfl, g1, g2, ⟨_, hy⟩, g4⟩
  ·simp only [e, andThen_okE] at hQ
   obtain ⟨nl1_v, z1_v, nl2_v, z2_v, ds_v, hv_v, ha_v, hb_v, hc_v, hd_v, he_v⟩ := hφ.shape
   have hw_v := hv_v
   subst hw_v
   simp
   refine ATT.fin' hQ Tryz.func139 c139res ?_
   exact ⟨by simp, _, _, _, _, rfl, rfl, hl', hφ⟩
 simp [c139t, h17]
 refine ATT.callM Tryz.func139 60 [0] (f49_ok L i d 0 10 t ht) rfl (by simp) (by simp) (by simp) (by simp) (by simp) ?_
 simp
 by_cases h10 : t.k = 10
 ·simp only [eq_false h1, eq_false h4, eq_false h5, eq_false h6, eq_false h17, eq_true h10, if_true, if_false] at hQ hin
  have hin2 : blockS n d (t :: r) ≠ .out := fun e => hin (by rw [e]; rfl)
  have hS := ihB L i d hd hL hl0 (by rw [hs]; exact h10) (by rw [hs]; exact hin2)
  rw [hs] at hS
  simp [c139t, eq_true h10]
  refine ATT.callS Tryz.func139 60 0 hS hin2 (by simp) (by simp) (by simp) (by simp) (fun a wh v i' d2 e g1 g2 g3 g4 => ?_) fun y l' v i' e hl' hφ => ?_
  ·obtain ⟨y, hy⟩ := g3
   simp only [e, andThen_noE] at hQ
   obtain ⟨nl1_v, z1_v, nl2_v, z2_v, ds_v, hv_v, ha_v, hb_v, hc_v, hd_v, he_v⟩ := hy.shape
   have hw_v := hv_v
   subst hw_v
   simp
   refine ATT.fin' hQ Tryz.func139 c139res ?_
   exact ⟨by simp, _, _, _, _, _, rfl, rfl, g1, g2, ⟨_, hy⟩, g4⟩
  ·simp only [e, andThen_okE] at hQ
   obtain ⟨nl1_v, z1_v, nl2_v, z2_v, ds_v, hv_v, ha_v, hb_v, hc_v, hd_v, he_v⟩ := hφ.shape
   have hw_v := hv_v
   subst hw_v
   simp
   refine ATT.fin' hQ Tryz.func139 c139res ?_
   exact ⟨by simp, _, _, _, _, rfl, rfl, hl', hφ⟩
 simp [c139t, h10]
 refine ATT.callM Tryz.func139 60 [0] (f49_ok L i d 0 8 t ht) rfl (by simp) (by simp) (by simp) (by simp) (by simp) ?_
 simp
 by_cases h8 : t.k = 8
 ·simp only [eq_false h1, eq_false h4, eq_false h5, eq_false h6, eq_false h17, eq_false h10, eq_true h8, if_true, if_false] at hQ hin
  have hwf2 := (hl.tail (by simp only [kd_cons, h8]; decide)).1
  simp only [List.tail_cons] at hwf2
  simp [c139t, eq_true h8]
  by_cases h40 : d = 40
  ·simp only [eq_true h40, if_true] at hQ
   refine ATT.callM Tryz.func139 60 [0] (f84_bad L i d h40 0 t ht) rfl (by simp) (by simp) (by simp) (by simp) (by simp) ?_
   simp [c139t]
   refine ATT.callB Tryz.func139 60 0 (f53_no L i (d + 1) 3 t.a (at_lt ht) (by decide)) (by simp) (by simp) (by simp) (by simp) fun v hv => ?_
   obtain ⟨x, hx, hxk⟩ := hv
   have hd1 : ((d : Int) + 1 - 1) = d := by omega
   have hI : inI (d : Int) = true := inI_of (by omega) (by omega)
   obtain ⟨nl1_v, z1_v, nl2_v, z2_v, ds_v, hv_v, ha_v, hb_v, hc_v, hd_v, he_v⟩ := hx.shape
   have hw_v := hv_v
   subst hw_v
   simp [c139t]
   refine ATT.callM Tryz.func139 60 [0] (f51_no L i (d + 1) 3 (by decide) t.a 9) rfl (by simp) (by simp) (by simp) (by simp) (by simp) ?_
   simp [c139t, hd1, hI]
   refine ATT.fin' hQ Tryz.func139 c139res ?_
   exact ⟨by simp, _, _, _, _, _, rfl, rfl, at_lt ht, by omega, ⟨_, hx⟩, by decide⟩
  ·rw [if_neg h40] at hQ hin
   have hin2 : exprS n (d + 1) r ≠ .out := fun e => hin (by rw [e]; rfl)
   have hE := ihE L (i + 1) (d + 1) (by omega) hL (by rw [hr]; exact hwf2) (by rw [hr]; exact hin2)
   rw [hr] at hE
   refine ATT.callM Tryz.func139 60 [0] (f84_ok L hLl i d (by omega) 0 t ht (by rw [h8]; decide)) rfl (by simp) (by simp) (by simp) (by simp) (by simp) ?_
   simp [c139t]
   refine ATT.callS Tryz.func139 60 0 hE hin2 (by simp) (by simp) (by simp) (by simp) (fun a wh v i' d2 e g1 g2 g3 g4 => ?_) fun y l' v i' e hl' hφ => ?_
   ·obtain ⟨y, hy⟩ := g3
    simp only [e, andThen_noE] at hQ
    have hd1 : ((d2 : Int) - 1) = ((d2 - 1 : Nat) : Int) := by omega
    have hI : inI ((d2 - 1 : Nat) : Int) = true := inI_of (by omega) (by omega)
    obtain ⟨nl1_v, z1_v, nl2_v, z2_v, ds_v, hv_v, ha_v, hb_v, hc_v, hd_v, he_v⟩ := hy.shape
    have hw_v := hv_v
    subst hw_v
    simp [c139t]
    refine ATT.callM Tryz.func139 60 [0] (f51_no L i' d2 wh g4 a 9) rfl (by simp) (by simp) (by simp) (by simp) (by simp) ?_
    simp [c139t, hd1, hI]
    refine ATT.fin' hQ Tryz.func139 c139res ?_
    exact ⟨by simp, _, _, _, _, _, rfl, rfl, g1, by omega, ⟨_, hy⟩, g4⟩
   ·simp only [e, andThen_okE] at hQ
    obtain ⟨t1, l1, hq⟩ := ((pres n).expr hwf2 e).1.cons
    subst hq
    have ht1 := (drop_at hl').1
    have hl1 := (drop_at hl').2
    simp only [kd_cons, pl_cons, List.tail_cons] at hQ
    have hd1 : ((d : Int) + 1 - 1) = d := by omega
    have hI : inI (d : Int) = true := inI_of (by omega) (by omega)
    obtain ⟨nl1_v, z1_v, nl2_v, z2_v, ds_v, hv_v, ha_v, hb_v, hc_v, hd_v, he_v⟩ := hφ.shape
    have hw_v := hv_v
    subst hw_v
    simp [c139t]
    by_cases h9 : t1.k = 9
    ·simp only [eq_true h9, if_true] at hQ
     refine ATT.callM Tryz.func139 60 [0] (f51_ok L hLl i' (d + 1) 0 9 (by decide) t1 ht1 h9) rfl (by simp) (by simp) (by simp) (by simp) (by simp) ?_
     simp [c139t, tkD, tokD, hd1, hI]
     refine ATT.fin' hQ Tryz.func139 c139res ?_
     exact ⟨by simp, _, _, _, _, rfl, rfl, hl1, hφ⟩
    ·simp only [eq_false h9, if_false] at hQ
     refine ATT.callM Tryz.func139 60 [0] (f51_bad L i' (d + 1) 0 9 t1 ht1 h9) rfl (by simp) (by simp) (by simp) (by simp) (by simp) ?_
     simp [c139t, hd1, hI]
     refine ATT.fin' hQ Tryz.func139 c139res ?_
     exact ⟨by simp, _, _, _, _, _, rfl, rfl, at_lt ht1, by omega, ⟨_, hφ⟩, by decide⟩
 simp [c139t, h8]
 simp only [eq_false h1, eq_false h4, eq_false h5, eq_false h6, eq_false h17, eq_false h10, eq_false h8, if_false] at hQ hin
 refine ATT.callM Tryz.func139 60 [0] (f52_ok L i d 0 20 t ht) rfl (by simp) (by simp) (by simp) (by simp) (by simp) ?_
 simp [c139t]
 refine ATT.callM Tryz.func139 60 [0] (f50_no L i d 20 (by decide) t.a t ht) rfl (by simp) (by simp) (by simp) (by simp) (by simp) ?_
 simp [c139t, tkD, tokD]
 refine ATT.fin' hQ Tryz.func139 c139res ?_
 exact ⟨by simp, _, _, _, _, _, rfl, rfl, at_lt ht, by omega, ⟨_, NdR.leaf _ _ _ 0⟩, by decide⟩
end Go.SL
