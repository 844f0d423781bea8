/- TreeShape and TreeDeep: in the tree of any source each message has as many arguments as its selector says; brackets go as deep as they may, and not deeper; for every source of bulk at most 1048576, and every number. Part 2. -/
import Derived.Test.YtgggkjbdlddbkaaGreatDoorShape0
import Derived.ChangeSame
import Derived.ChangeMaps5
import Derived.RowKit3
import Derived.Recover
namespace Go.SL
section
variable (P : Program)
def callable (f : FuncId) : Bool := match P.funcs[f]? with
 | some fn => !(fn.name == "runtime.NumGoroutine") && fn.body.isSome
 | none => false
def AF (f : FuncId) (args : List V) (h : H) (Q : Out → H → Prop) : Prop :=
 callable P f = true ∧ ∀ κ w argv, Rel κ h w → VL κ args argv → Calls P f ⟨argv⟩ w fun e w' => ∃ κ' h' out, Q out h' ∧ Le κ κ' ∧ Rel κ' h' w' ∧ OutR κ' out e
end
inductive ARes where
 | tmp (t : Nat)
 | cell (a : Nat) (agg : Bool) (sz : Nat)
def cRes (P : Program) : ResultVar → Option ARes
 | .tmp t => some (.tmp t)
 | .cell a t => match aggOf P t, szOf P t with
  | some g, some n => some (.cell a g n)
  | _, _ => none
def cRess (P : Program) : List ResultVar → Option (List ARes)
 | [] => some []
 | x :: r => match cRes P x, cRess P r with
  | some y, some l => some (y :: l)
  | _, _ => none
def ares (h : H) (env : Env) : ARes → Option V
 | .tmp t => some (get env t)
 | .cell a g n => xload h g n (get env a)
def aress (h : H) (env : Env) : List ARes → Option (List V)
 | [] => some []
 | x :: r => match ares h env x, aress h env r with
  | some y, some l => some (y :: l)
  | _, _ => none
def mkTup (l : List V) : V := match closeL l with
 | some ds => .d (.tup ds)
 | none => .tup l
def outV : List V → V
 | [v] => v
 | l => mkTup l
def mapD (f : V → Option D) : List V → Option (List D)
 | [] => some []
 | x :: r => match f x, mapD f r with
  | some y, some l => some (y :: l)
  | _, _ => none
def toDv (h : H) : Nat → V → Option D
 | _, .d x => some x
 | n + 1, .vs i m off len => match h.vc[i]? with
  | some (some v) => match Nat.beq v.xs.length m && Nat.ble (off + len) m with
   | true => match mapD (toDv h n) ((v.xs.drop off).take len) with
    | some ds => some (.sl v.nil v.sz ds)
    | none => none
   | false => none
  | _ => none
 | n + 1, .agg xs => match mapD (toDv h n) xs with
  | some ds => some (.agg ds)
  | none => none
 | n + 1, .tup xs => match mapD (toDv h n) xs with
  | some ds => some (.tup ds)
  | none => none
 | n + 1, .iface t x => match toDv h n x with
  | some d => some (.iface t d)
  | none => none
 | _, _ => none
def fzV (h : H) (v : V) : V := match toDv h 12 v with
 | some d => .d d
 | none => v
def fzH (h : H) : H := { h with vc := h.vc.map fun _ => none }
def fzK (κ : K) (h : H) (w : World) : K := { κ with
 S := fun b o => match κ.S b o with
  | some v => some v
  | none => match κ.who b with
   | .vec i => match h.vc[i]?, κ.vb i with
    | some (some v), some (b', _, _) => if b' = b ∧ o < v.xs.length * v.sz then w.cell? ⟨b, o, none⟩ else none
    | _, _ => none
   | _ => none
 vn := fun _ => none
 who := fun b => match κ.who b with
  | .vec _ => .free
  | o => o }
theorem fz_le {κ : K} {h : H} {w : World} : Le κ (fzK κ h w) := ⟨fun b o v e => by simp only [fzK, e], Nat.le_refl _, fun _ _ => rfl, Nat.le_refl _, fun i _ m e => by simp [fzK] at e, rfl, rfl, rfl, rfl⟩
theorem fz_rel {κ : K} {h : H} {w : World} (r : Rel κ h w) : Rel (fzK κ h w) (fzH h) w where
 S := fun b o v e => by
  simp only [fzK] at e
  split at e
  ·rename_i v' hv
   simp only [Option.some.injEq] at e
   subst e
   exact r.S b o _ hv
  ·split at e
   ·split at e
    ·split at e
     ·exact e
     ·simp at e
    ·simp at e
   ·simp at e
 SO := fun b o v e => by
  simp only [fzK] at e ⊢
  split at e
  ·rename_i v' hv
   rw [r.SO b o _ hv]
  ·split at e
   ·rename_i i hi
    rfl
   ·simp at e
 nb := r.nb
 nv := by simp only [fzH, List.length_map]; exact r.nv
 bx := fun i x hx => (r.bx i x hx).of fz_le rfl fun o hg ho => ⟨ho, by
  have : κ.who (κ.bl i) = .box i := by
   have := r.bx i x hx
   cases x with
   | cells => exact this.1
   | iter => exact this.1
   | raw => exact this.1
   | gone => exact absurd rfl hg
  simp only [fzK, this]⟩
 vc := fun i x hx => by
  simp only [fzH, List.getElem?_map] at hx
  cases hv : h.vc[i]? with
  | none => simp [hv] at hx
  | some y => simp only [hv, Option.map_some, Option.some.injEq] at hx; subst hx; rfl
 rest := fun b o e => by
  have := r.rest b o e
  exact ⟨by simp only [fzK, this.1], this.2⟩
 os := r.os
 out := r.out
 tape := r.tape
theorem mapD_sound {S : Sealed} {κ : K} {f : V → Option D} (hf : ∀ x d v, f x = some d → VR κ x v → DR S d v) : ∀ {xs : List V} {ds : List D} {ys : List Value}, mapD f xs = some ds → VL κ xs ys → DL S ds ys
 | [], ds, ys, h, r => by simp only [mapD, Option.some.injEq] at h; subst h; simpa [VL, DL] using r
 | x :: xs, ds, ys, h, r => by
  simp only [mapD] at h
  split at h
  case h_2 => simp at h
  rename_i y l e1 e2
  simp only [Option.some.injEq] at h
  subst h
  simp only [VL] at r
  obtain ⟨v, t, e, r1, r2⟩ := r
  simp only [DL]
  exact ⟨v, t, e, hf x y v e1 r1, mapD_sound hf e2 r2⟩
theorem mapD_d (h : H) (n : Nat) : ∀ ds : List D, mapD (toDv h n) (ds.map .d) = some ds
 | [] => rfl
 | x :: ds => by
  have : toDv h n (.d x) = some x := by cases n <;> rfl
  simp [mapD, this, mapD_d h n ds]
theorem cellsD {S : Sealed} {κ : K} {b : Nat} {f : V → Option D} : ∀ (cs : List V) (ds : List D) (c : List Value) (o : Nat), mapD f cs = some ds → VC κ cs c →
  (∀ (j : Nat) z, c[j]? = some z → S b (o + j) = some z) → (∀ x' d' v', f x' = some d' → VR κ x' v' → DR S d' v') → DC S ds b o ∧ ds.length = c.length
 | [], ds, c, o, a1, a2, _, _ => by
  simp only [mapD, Option.some.injEq] at a1; subst a1; have := VL.length a2.1; simp at this; simp [DC, this]
 | x' :: cs, ds, c, o, a1, a2, a3, a4 => by
  simp only [mapD] at a1
  split at a1
  case h_2 => simp at a1
  rename_i y' l' b1 b2
  simp only [Option.some.injEq] at a1
  subst a1
  have a5 := a2.1
  simp only [VL] at a5
  obtain ⟨v', t', b3, b4, b5⟩ := a5
  subst b3
  have := cellsD cs l' t' (o + 1) b2 ⟨b5, fun z hz => a2.2 z (List.mem_cons_of_mem _ hz)⟩ (fun j z hj => by
   have := a3 (j + 1) z (by simpa using hj)
   rwa [show o + (j + 1) = o + 1 + j by omega] at this) a4
  simp only [DC]
  exact ⟨⟨⟨v', by have := a3 0 v' (by simp); simpa using this, a2.2 v' (by simp), a4 x' y' v' b1 b4⟩, this.1⟩, by simp [this.2]⟩
theorem toDv_sound {κ : K} {h : H} {w : World} (r : Rel κ h w) : ∀ (n : Nat) (x : V) (d : D) (v : Value), toDv h n x = some d → VR κ x v → DR (fzK κ h w).S d v
 | n, .d x, d, v, e, hx => by
  have : toDv h n (.d x) = some x := by cases n <;> rfl
  rw [this] at e
  simp only [Option.some.injEq] at e
  subst e
  simp only [VR] at hx
  exact hx.mono fz_le.S
 | n + 1, .vs i m off len, d, v, e, hx => by
  simp only [toDv] at e
  split at e
  case h_2 => simp at e
  rename_i vc hv
  split at e
  case h_2 => simp at e
  rename_i hc
  simp only [Bool.and_eq_true] at hc
  have c1 := Nat.eq_of_beq_eq_true hc.1
  have c2 := Nat.le_of_ble_eq_true hc.2
  obtain ⟨g1, g2, g3⟩ := r.vc i _ hv
  simp only [VR] at hx
  have h3 := (hx.2.2 _ g1).2 c1.symm
  split at e
  case h_2 => simp at e
  rename_i ds hds
  simp only [Option.some.injEq] at e
  rcases g3 with ⟨h4, hxs, g4⟩ | ⟨h4, b, cap, vs, sp, fz, g4, g5, g6, g7, g8, _⟩
  ·rw [hxs] at hds
   simp only [List.drop_nil, List.take_nil, mapD, Option.some.injEq] at hds
   subst hds
   rw [h4] at e
   subst e
   simp only [link, g4] at h3
   simp only [DR]
   exact .inl ⟨trivial, trivial, h3.1⟩
  ·rw [h4] at e
   subst e
   simp only [link, g4] at h3
   obtain ⟨k1, k2⟩ := h3
   have hlen : ds.length = len := by
    have : ∀ {xs : List V} {ds : List D}, mapD (toDv h n) xs = some ds → ds.length = xs.length := by
     intro xs
     induction xs with
     | nil => intro ds h; simp only [mapD, Option.some.injEq] at h; subst h; rfl
     | cons x xs ih =>
      intro ds h
      simp only [mapD] at h
      split at h
      case h_2 => simp at h
      simp only [Option.some.injEq] at h
      subst h
      rename_i e2
      simp [ih e2]
    rw [this hds]; simp; omega
   simp only [DR]
   refine .inr ⟨trivial, b, off * vc.sz, cap - off, by rw [hlen]; exact k2, by rw [hlen]; omega, ?_⟩
   have hvl := g8.length
   have hS : ∀ o y, o < vc.xs.length * vc.sz → vs[o]? = some y → (fzK κ h w).S b o = some y := fun o y ho hy => by
    simp only [fzK]
    have hn : κ.S b o = none := by
     cases hq : κ.S b o with
     | none => rfl
     | some z => have := r.SO b o z hq; rw [g5] at this; simp at this
    have hcell : w.cell? ⟨b, o, none⟩ = some y := by
     have := at_row (pre := []) (vs := vs) (post := sp) (by simpa using g6)
     simpa using this o y hy
    simp only [hn, g5, hv, g4]
    simp [ho, hcell]
   have key : ∀ (k : Nat) (xs : List V) (ds : List D) (o : Nat), mapD (toDv h n) xs = some ds → VX κ vc.sz xs ((vs.drop o).take (xs.length * vc.sz)) →
     o + xs.length * vc.sz ≤ vc.xs.length * vc.sz → DX (fzK κ h w).S vc.sz ds b o := by
    intro k xs
    induction xs with
    | nil => intro ds o h1 _ _; simp only [mapD, Option.some.injEq] at h1; subst h1; simp [DX]
    | cons x xs ih =>
     intro ds o h1 h2 h3
     simp only [mapD] at h1
     split at h1
     case h_2 => simp at h1
     rename_i y l e1 e2
     simp only [Option.some.injEq] at h1
     subst h1
     obtain ⟨c, t, f1, f2, f3, f4⟩ := h2
     have hmul : (x :: xs).length * vc.sz = vc.sz + xs.length * vc.sz := by simp [Nat.add_mul]; omega
     rw [hmul] at f1 h3
     have hc : c = (vs.drop o).take vc.sz := by
      have := congrArg (·.take vc.sz) f1
      simp only [List.take_take] at this
      rw [Nat.min_eq_left (by omega)] at this
      rw [this, ← f2, List.take_left]
     have ht : t = (vs.drop (o + vc.sz)).take (xs.length * vc.sz) := by
      have := congrArg (·.drop vc.sz) f1
      simp only [List.drop_take, List.drop_drop] at this
      rw [← f2, List.drop_left, f2] at this
      rw [← this]; congr 1; omega
     rw [ht] at f4
     have ih' := ih l (o + vc.sz) e2 f4 (by omega)
     have hSc : ∀ (j : Nat) z, c[j]? = some z → (fzK κ h w).S b (o + j) = some z := fun j z hj => by
      have hj2 := (List.getElem?_eq_some_iff.1 hj).1
      rw [hc, List.getElem?_take] at hj
      split at hj
      ·rw [List.getElem?_drop] at hj
       exact hS (o + j) z (by omega) hj
      ·simp at hj
     have rec1 : ∀ x' d' v', toDv h n x' = some d' → VR κ x' v' → DR (fzK κ h w).S d' v' := fun x' d' v' a1 a2 => toDv_sound r n x' d' v' a1 a2
     have a4 : ∀ x' d' v', toDv h (n - 1) x' = some d' → VR κ x' v' → DR (fzK κ h w).S d' v' := fun x' d' v' b1 b2 => toDv_sound r (n - 1) x' d' v' b1 b2
     have one : ∀ z, x.cells = [x] → (∀ cs, y ≠ .agg cs) → c = [z] → vc.sz = 1 ∧ ∃ q, (fzK κ h w).S b o = some q ∧ q.oneCell' = true ∧ DR (fzK κ h w).S y q := fun z hx1 _ hz => by
      subst hz
      rw [hx1] at f3
      have f5 := f3.1
      simp only [VL] at f5
      obtain ⟨q, _, f6, f7, _⟩ := f5
      simp only [List.cons.injEq] at f6
      obtain ⟨f6, _⟩ := f6
      subst f6
      exact ⟨by simpa using f2.symm, z, by have := hSc 0 z (by simp); simpa using this, f3.2 z (by simp), rec1 x y z e1 f7⟩
     have single : x.cells = [x] → ∃ z, c = [z] := fun hx1 => by
      rw [hx1] at f3
      have f5 := f3.1
      simp only [VL] at f5
      obtain ⟨q, t', f6, _, f8⟩ := f5
      exact ⟨q, by rw [f6, f8]⟩
     cases x with
     | agg xs' =>
      cases n with
      | zero => simp [toDv] at e1
      | succ n' =>
       simp only [toDv] at e1
       split at e1
       case h_2 => simp at e1
       rename_i ds' hds'
       simp only [Option.some.injEq] at e1
       subst e1
       have q := cellsD (f := toDv h n') xs' ds' c o hds' f3 hSc a4
       simp only [DX]
       exact ⟨⟨by rw [q.2, f2], q.1⟩, ih'⟩
     | d x0 =>
      have hy : x0 = y := by
       have : toDv h n (.d x0) = some x0 := by cases n <;> rfl
       rw [this] at e1; simpa using e1
      subst hy
      cases x0 with
      | agg ds0 =>
       have q := cellsD (f := toDv h n) (ds0.map .d) ds0 c o (mapD_d h n ds0) f3 hSc rec1
       simp only [DX]
       exact ⟨⟨by rw [q.2, f2], q.1⟩, ih'⟩
      | _ =>
       obtain ⟨z, hz⟩ := single rfl
       simp only [DX]
       exact ⟨one z rfl (by simp) hz, ih'⟩
     | vs i' m' o' l' =>
      cases n with
      | zero => simp [toDv] at e1
      | succ n' =>
       obtain ⟨z, hz⟩ := single rfl
       have hy : ∃ a1 a2 a3, y = .sl a1 a2 a3 := by
        simp only [toDv] at e1
        (repeat' split at e1) <;> simp only [Option.some.injEq, reduceCtorEq] at e1 <;> exact ⟨_, _, _, e1.symm⟩
       obtain ⟨a1, a2, a3, hy⟩ := hy
       have := one z rfl (by rw [hy]; simp) hz
       subst hy
       simp only [DX]
       exact ⟨this, ih'⟩
     | tup xs' =>
      cases n with
      | zero => simp [toDv] at e1
      | succ n' =>
       obtain ⟨z, hz⟩ := single rfl
       have hy : ∃ a1, y = .tup a1 := by
        simp only [toDv] at e1
        (repeat' split at e1) <;> simp only [Option.some.injEq, reduceCtorEq] at e1 <;> exact ⟨_, e1.symm⟩
       obtain ⟨a1, hy⟩ := hy
       have := one z rfl (by rw [hy]; simp) hz
       subst hy
       simp only [DX]
       exact ⟨this, ih'⟩
     | iface t' x' =>
      cases n with
      | zero => simp [toDv] at e1
      | succ n' =>
       obtain ⟨z, hz⟩ := single rfl
       have hy : ∃ a1 a2, y = .iface a1 a2 := by
        simp only [toDv] at e1
        (repeat' split at e1) <;> simp only [Option.some.injEq, reduceCtorEq] at e1 <;> exact ⟨_, _, e1.symm⟩
       obtain ⟨a1, a2, hy⟩ := hy
       have := one z rfl (by rw [hy]; simp) hz
       subst hy
       simp only [DX]
       exact ⟨this, ih'⟩
     | _ => cases n <;> simp [toDv] at e1
   exact key 0 _ ds (off * vc.sz) hds (by
    have h9 := (g8.drop off).take len
    have h10 : ((vc.xs.drop off).take len).length = len := by simp; omega
    rw [h10]; exact h9) (by
    have h10 : ((vc.xs.drop off).take len).length = len := by simp; omega
    rw [h10, ← Nat.add_mul]
    exact Nat.mul_le_mul_right _ (by omega))
 | n + 1, .agg xs, d, v, e, hx => by
  simp only [toDv] at e
  split at e
  case h_2 => simp at e
  rename_i ds hds
  simp only [Option.some.injEq] at e
  subst e
  simp only [VR] at hx
  obtain ⟨ys, e1, r1, r2⟩ := hx
  simp only [DR]
  exact ⟨ys, e1, mapD_sound (fun x d v a b => toDv_sound r n x d v a b) hds r1, r2⟩
 | n + 1, .tup xs, d, v, e, hx => by
  simp only [toDv] at e
  split at e
  case h_2 => simp at e
  rename_i ds hds
  simp only [Option.some.injEq] at e
  subst e
  simp only [VR] at hx
  obtain ⟨ys, e1, r1⟩ := hx
  simp only [DR]
  exact ⟨ys, e1, mapD_sound (fun x d v a b => toDv_sound r n x d v a b) hds r1⟩
 | n + 1, .iface t x, d, v, e, hx => by
  simp only [toDv] at e
  split at e
  case h_2 => simp at e
  rename_i dd hd
  simp only [Option.some.injEq] at e
  subst e
  simp only [VR] at hx
  obtain ⟨y, e1, r1⟩ := hx
  simp only [DR]
  exact ⟨y, e1, toDv_sound r n x dd y hd r1⟩
 | 0, .vs .., _, _, e, _ | 0, .agg _, _, _, e, _ | 0, .tup _, _, _, e, _ | 0, .iface .., _, _, e, _ => by simp [toDv] at e
 | 0, .dead, _, _, e, _ | 0, .ptr .., _, _, e, _ | 0, .vptr .., _, _, e, _ | 0, .fn .., _, _, e, _ => by simp [toDv] at e
 | _ + 1, .dead, _, _, e, _ | _ + 1, .ptr .., _, _, e, _ | _ + 1, .vptr .., _, _, e, _ | _ + 1, .fn .., _, _, e, _ => by simp [toDv] at e
termination_by n => n
decreasing_by all_goals omega
end Go.SL
namespace Go.SL
section
variable {P : Program} {N : Nat} {chk : Array Oper → List (List AI) → Bool} {f : FD}
def run (go : Bool) : Nat → List AItem → Env → H → Bool → Option (List AItem × Env × H × Bool)
 | 0, ks, env, h, ob => some (ks, env, h, ob)
 | n + 1, ks, env, h, ob => match step1 go ks env h with
  | some (ks', env', h', o) => run go n ks' env' h' (ob && o)
  | none => some (ks, env, h, ob)
theorem AT.run {go ob ob' : Bool} {Q : Out → H → Prop} : ∀ (n : Nat) {ks ks' : List AItem} {env env' : Env} {h h' : H}, SL.run go n ks env h ob = some (ks', env', h', ob') → ob' = true →
  (ob = true) ∧ (AT P N chk f ks' env' h' Q → AT P N chk f ks env h Q)
 | 0, ks, ks', env, env', h, h', e, ho => by
  simp only [SL.run, Option.some.injEq, Prod.mk.injEq] at e
  obtain ⟨e1, e2, e3, e4⟩ := e
  subst e1 e2 e3 e4
  exact ⟨ho, id⟩
 | n + 1, ks, ks', env, env', h, h', e, ho => by
  simp only [SL.run] at e
  split at e
  ·rename_i k1 env1 h1 o1 hs
   obtain ⟨g1, g2⟩ := AT.run n e ho
   simp only [Bool.and_eq_true] at g1
   exact ⟨g1.1, fun k => AT.step hs g1.2 (g2 k)⟩
  ·simp only [Option.some.injEq, Prod.mk.injEq] at e
   obtain ⟨e1, e2, e3, e4⟩ := e
   subst e1 e2 e3 e4
   exact ⟨ho, id⟩
def Aft (P : Program) (N : Nat) (chk : Array Oper → List (List AI) → Bool) (f : FD) (Q : Out → H → Prop) : Option (List AItem × Env × H × Bool) → Prop
 | some (ks, env, h, ob) => ob = true ∧ AT P N chk f ks env h Q
 | none => False
theorem AT.go {Q : Out → H → Prop} (go : Bool) (n : Nat) {ks : List AItem} {env : Env} {h : H} (k : Aft P N chk f Q (SL.run go n ks env h true)) : AT P N chk f ks env h Q := by
 cases hr : SL.run go n ks env h true with
 | none => rw [hr] at k; exact k.elim
 | some x =>
  obtain ⟨ks', env', h', ob⟩ := x
  rw [hr] at k
  exact (AT.run n hr k.1).2 k.2
theorem AT.weak {Q : Out → H → Prop} {ks : List AItem} {env env' : Env} {h : H} (hw : ∀ t, get env' t = .dead ∨ get env' t = get env t) (k : AT P N chk f ks env' h Q) : AT P N chk f ks env h Q := by
 intro κ w a k' cs h1 h2 h3 h4
 refine k κ w a k' cs h1 h2 ⟨h3.1, fun t => ?_⟩ h4
 rcases hw t with e | e
 ·rw [e]; simp [VR]
 ·rw [e]; exact h3.2 t
theorem load_of_at {t : TypeId} {v y : Value} {w : World} (h : (Instr.loadAt t v).run P w = .ok y w) : ∃ a, v = .pointer (some a) ∧ (loadVar t a).run P w = .ok y w := by
 cases v with
 | pointer a =>
  cases a with
  | none => simp [Instr.loadAt, Instr.sureAddr] at h
  | some a => exact ⟨a, rfl, by simpa [Instr.loadAt, Instr.sureAddr] using h⟩
 | _ => simp [Instr.loadAt, Instr.sureAddr] at h
theorem aress_sound {κ : K} {h : H} {w : World} (r : Rel κ h w) {env : Env} {tmps : Array Value} (he : ER N κ env tmps) : ∀ {l : List ResultVar} {rs : List ARes} {vs : List V},
  cRess P l = some rs → aress h env rs = some vs →
  ∃ ys, (l.mapM (fun x : ResultVar => (match x with | .tmp t => pure (tmps.getD t undef) | .cell a t => do loadVar t (← asAddr (tmps.getD a undef)) : Sem Value))).run P w = .ok ys w ∧ VL κ vs ys
 | [], rs, vs, h1, h2 => by
  simp only [cRess, Option.some.injEq] at h1
  subst h1
  simp only [aress, Option.some.injEq] at h2
  subst h2
  exact ⟨[], by simp, by simp [VL]⟩
 | x :: l, rs, vs, h1, h2 => by
  simp only [cRess] at h1
  split at h1
  case h_2 => simp at h1
  rename_i y l' e1 e2
  simp only [Option.some.injEq] at h1
  subst h1
  simp only [aress] at h2
  split at h2
  case h_2 => simp at h2
  rename_i v vs' e3 e4
  simp only [Option.some.injEq] at h2
  subst h2
  obtain ⟨ys, g1, g2⟩ := aress_sound r he e2 e4
  cases x with
  | tmp t =>
   simp only [cRes, Option.some.injEq] at e1
   subst e1
   simp only [ares, Option.some.injEq] at e3
   subst e3
   refine ⟨tmps.getD t undef :: ys, ?_, by simp only [VL]; exact ⟨_, _, rfl, he.2 t, g2⟩⟩
   simp only [List.mapM_cons, Sem.run_bind, Sem.run_pure, Result.andThen_ok, g1]
  | cell a t =>
   simp only [cRes] at e1
   split at e1
   case h_2 => simp at e1
   rename_i ag n q1 q2
   simp only [Option.some.injEq] at e1
   subst e1
   simp only [ares] at e3
   obtain ⟨z, k1, k2⟩ := xload_sound (P := P) r q1 q2 (he.2 a) e3
   obtain ⟨ad, k3, k4⟩ := load_of_at k1
   refine ⟨z :: ys, ?_, by simp only [VL]; exact ⟨_, _, rfl, k2, g2⟩⟩
   have hA : (asAddr (tmps.getD a undef) : Sem Addr) = pure ad := by rw [k3]; rfl
   simp only [List.mapM_cons, Sem.run_bind, hA, Sem.run_pure, Result.andThen_ok, k4, g1]
theorem outV_sound {κ : K} {vs : List V} {ys : List Value} (h : VL κ vs ys) : VR κ (outV vs) (if h : ys.toArray.size = 1 then ys.toArray[0] else .tuple ys.toArray) := by
 have hl := VL.length h
 have tup : VR κ (mkTup vs) (.tuple ys.toArray) := by
  unfold mkTup
  split
  ·rename_i ds hd
   simp only [VR, DR]
   exact ⟨ys, rfl, DL.ofV hd h⟩
  ·simp only [VR]
   exact ⟨ys, rfl, h⟩
 unfold outV
 split
 ·rename_i v
  simp only [VL] at h
  obtain ⟨y, t, e, h1, h2⟩ := h
  subst e h2
  simpa using h1
 ·rename_i hne
  have : ¬ (ys.toArray.size = 1) := by
   simp only [List.size_toArray]
   intro e
   rw [hl] at e
   cases vs with
   | nil => simp at e
   | cons v r =>
    cases r with
    | nil => exact hne v rfl
    | cons _ _ => simp at e
  rw [dif_neg this]
  exact tup
theorem results_sound {κ : K} {h : H} {w : World} (r : Rel κ h w) {env : Env} {tmps : Array Value} (he : ER N κ env tmps) {fn : Func} {rs : List ARes} {vs : List V}
  (h1 : cRess P fn.results.toList = some rs) (h2 : aress h env rs = some vs) : ∃ v, (results fn tmps).run P w = .ok v w ∧ VR κ (outV vs) v := by
 obtain ⟨ys, g1, g2⟩ := aress_sound r he h1 h2
 refine ⟨_, ?_, outV_sound g2⟩
 unfold results
 simp only [Sem.run_bind]
 rw [Array.mapM_eq_mapM_toList]
 simp only [Sem.run_map, Sem.run_pure]
 generalize hM : Sem.run P (List.mapM _ fn.results.toList) w = M
 have : M = .ok ys w := by rw [← hM]; exact g1
 rw [this]
 simp only [Result.andThen_ok]
theorem AT.ret {Q : Out → H → Prop} {fn : Func} (hf : P.funcs[f.fn]? = some fn) {rs : List ARes} (h1 : cRess P fn.results.toList = some rs) {ks : List AItem} {env : Env} {h : H} {vs : List V} (z : Bool)
  (hks : ks = [] ∨ ∃ k, ks = .code .ret :: k) (h2 : aress h env rs = some vs) (hQ : match z with | true => Q (.ret (fzV h (outV vs))) (fzH h) | false => Q (.ret (outV vs)) h) (hpl : f.pln = true) : AT P N chk f ks env h Q := by
 intro κ w a k cs hcs hr he hd
 have hleave : ∀ (κ' : K) (fr : Frame) (v : Value), Le κ κ' → fr.mode = .returning → fr.defers = a.defers → fr.kind = f.kind → fr.fn = f.fn → (results fn fr.tmps).run P w = .ok v w → f.leave P κ' fr w (.returned v) := fun κ' fr v ml m1 m2 m3 m4 m5 => by
  have hpl' := hpl
  simp only [FD.pln, Bool.and_eq_true, Option.isNone_iff_eq_none] at hpl'
  simp only [FD.leave, hpl'.2]
  exact ⟨m1, by rw [m2, DV.base_eq hpl'.1.2]; exact hd.mono ml, m3, fn, by rw [m4]; exact hf, by rw [hpl'.1.1]; exact m5⟩
 have hrn : (baseOf f).roundOf = none := by
  simp only [FD.pln, Bool.and_eq_true, Option.isNone_iff_eq_none] at hpl
  exact hpl.2
 obtain ⟨v, g1, g2⟩ := results_sound hr he h1 h2
 have fin : ∀ fr : Frame, fr.fn = f.fn → fr.mode = .returning → fr.defers = a.defers → fr.kind = f.kind → fr.tmps = a.tmps → Steps P (lone ((baseOf f).atR a k) cs w) (lone fr cs w) → Ends P f (lone ((baseOf f).atR a k) cs w) cs κ Q := by
  intro fr f1 f2 f3 f4 f5 f6
  have hl : ∀ κ', Le κ κ' → f.leave P κ' fr w (.returned v) := fun κ' ml => hleave κ' fr v ml f2 f3 f4 f1 (by rw [f5]; exact g1)
  cases z with
  | false => exact ⟨.returned v, w, fr, κ, h, _, hQ, Le.refl κ, hr, ⟨v, rfl, g2⟩, f6, f1, hl _ (Le.refl κ)⟩
  | true =>
   refine ⟨.returned v, w, fr, fzK κ h w, fzH h, _, hQ, fz_le, fz_rel hr, ⟨v, rfl, ?_⟩, f6, f1, hl _ fz_le⟩
   unfold fzV
   split
   ·rename_i d hdv
    simp only [VR]
    exact toDv_sound hr _ _ _ _ hdv g2
   ·exact g2.mono fz_le
 rcases hks with e | ⟨k0, e⟩
 ·subst e
  cases k with
  | nil => exact fin { (baseOf f).atR a [] with mode := .returning } rfl rfl rfl rfl rfl (.one (stepR_end hrn))
  | cons x k => obtain ⟨y, t, e, _⟩ := hcs; simp at e
 ·subst e
  cases k with
  | nil => simp [CS] at hcs
  | cons x k =>
   obtain ⟨y, t, e, h3, h4⟩ := hcs
   simp only [List.cons.injEq] at e
   obtain ⟨e1, e2⟩ := e
   subst e1 e2
   cases x <;> simp only [CI] at h3
   rename_i c
   obtain ⟨ann, hc⟩ := h3
   have : c = .ret := by
    cases c <;> simp only [comp] at hc <;> first | rfl | (simp at hc; done) | ((repeat' split at hc) <;> simp at hc)
   subst this
   exact fin { (baseOf f).atR a (.code .ret :: k) with mode := .returning } rfl rfl rfl rfl rfl (.one (stepR_ret hrn))
def gOk (env : Env) : Option (Nat × Bool) → Prop
 | none => True
 | some (t, want) => get env t = .d (.bool want)
theorem gOk_wanted {κ : K} {env : Env} {a : Act} {ops : Array Oper} {o : Oper} {ai : AI} (he : ER N κ env a.tmps)
  (o7 : (o.guard = none ∧ ai.guard = none) ∨ ∃ j want t, o.guard = some (j, want) ∧ ai.guard = some (t, want) ∧ (ops[j]?).bind (·.dst) = some t ∧ t < N) (hg : gOk env ai.guard) :
  Region.wanted o (yielded ops a.tmps) = true := by
 rcases o7 with ⟨h1, _⟩ | ⟨j, want, t, h1, h2, h3, h4⟩
 ·simp [Region.wanted, h1]
 ·rw [h2] at hg
  rw [wanted_of he h1 h3 h4 hg]; simp
theorem AT.panic {Q : Out → H → Prop} {fn : Func} (hf : P.funcs[f.fn]? = some fn) {ai : AI} {r : List AI} {ks : List AItem} {env : Env} {h : H} {x : Opd} {v : V}
  (hop : ai.op = .panic x) (hg : gOk env ai.guard) (hv : ev env x = v) (hi : (∃ t y, v = .iface t y) ∨ ∃ t y, v = .d (.iface t y)) (hQ : Q (.pan v) h) (hkp : subE env f.keep) : AT P N chk f (.reg (ai :: r) :: ks) env h Q := by
 intro κ w a k cs hcs hr he hd
 cases k with
 | nil => simp [CS] at hcs
 | cons x0 k =>
  obtain ⟨y, t, e, h3, h4⟩ := hcs
  simp only [List.cons.injEq] at e
  obtain ⟨e1, e2⟩ := e
  subst e1 e2
  cases x0 <;> simp only [CI] at h3
  rename_i ops l
  cases l with
  | nil => simp [RG] at h3
  | cons i rest =>
   obtain ⟨kill, ai', tl, c1, c2, c3⟩ := h3
   simp only [List.cons.injEq] at c2
   obtain ⟨c2, c4⟩ := c2
   subst c2 c4
   obtain ⟨o, o1, o2, o3, o4, o5, o6, o7⟩ := cAI_inv c1
   have hw := gOk_wanted he o7 hg
   rw [hop] at o5
   have : ∃ x1, o.op = .panic x1 ∧ opd x1 = some x := by
    cases ho : o.op <;> rw [ho] at o5 <;> simp only [copA] at o5
    case panic x1 =>
     split at o5
     ·rename_i x2 e
      simp only [Option.some.injEq, AOp.panic.injEq] at o5
      subst o5
      exact ⟨x1, rfl, e⟩
     ·simp at o5
    case call c =>
     split at o5
     ·split at o5 <;> simp at o5
     ·split at o5 <;> simp at o5
    all_goals first | (split at o5 <;> simp at o5; done) | ((repeat' split at o5) <;> simp at o5)
   obtain ⟨x1, p1, p2⟩ := this
   have hval := ev_sound he _ _ p2
   rw [hv] at hval
   have hif : ∃ t y, a.eval x1 = .iface t y := by
    rcases hi with ⟨t, y, e⟩ | ⟨t, y, e⟩
    ·rw [e] at hval; simp only [VR] at hval; obtain ⟨z, e2, _⟩ := hval; exact ⟨_, _, e2⟩
    ·rw [e] at hval; simp only [VR, DR] at hval; obtain ⟨z, e2, _⟩ := hval; exact ⟨_, _, e2⟩
   obtain ⟨ti, yi, hif⟩ := hif
   have hrun : (execOp a.eval o).run P w = .halt (.panic (a.eval x1)) w := by
    simp [execOp, p1, Instr.panic, hif]
   have hst : Go.step P (lone ((baseOf f).atR a (.inRegion ops (i :: rest) :: k)) cs w) = .next (lone (((baseOf f).atR a (.inRegion ops (i :: rest) :: k)).raise [{ v := a.eval x1, recovered := false }]) cs w) := by
    have hg' := stepG_opn (P := P) (b := baseOf f) (k := k) (cs := cs) (w := w) (rest := rest) o1 hw (by intro c; rw [p1]; simp)
    exact step_lone_go (by rw [hg']; simp [stepG.apply, hrun])
   refine ⟨.panicked [{ v := a.eval x1, recovered := false }], w, ((baseOf f).atR a (.inRegion ops (i :: rest) :: k)).raise [{ v := a.eval x1, recovered := false }], κ, h, .pan v, hQ, Le.refl κ, hr, ⟨_, rfl, hval⟩, .one hst, rfl, ?_⟩
   exact ⟨rfl, fun _ => hd, ⟨fn, hf⟩, rfl, KeepR.of he hkp⟩
def calls (g : V) (args : List V) : Option (FuncId × List V) :=
 match g with
 | .d (.fn (.func f) a c) => some (f, a.map .d ++ args ++ c.map .d)
 | .fn (.func f) a c => some (f, a ++ args ++ c)
 | _ => none
theorem calls_sound {κ : K} {w : World} {g : V} {args : List V} {fid : FuncId} {all : List V} {gv : Value} {argv : Array Value} (h : calls g args = some (fid, all)) (hg : VR κ g gv) (ha : VL κ args argv.toList)
  (hc : callable P fid = true) : ∃ d av, Deferred.ofValue gv argv = pure d ∧ (invoke d.target d.args).run P w = .ok (.enter fid ⟨av⟩) w ∧ VL κ all av := by
 have inv : ∀ a' c' : List Value, (invoke (.fn (.func fid) ⟨c'⟩) (⟨a'⟩ ++ argv)).run P w = .ok (.enter fid ⟨a' ++ argv.toList ++ c'⟩) w := fun a' c' => by
  unfold callable at hc
  split at hc
  case h_2 => simp at hc
  rename_i fn hf
  simp only [Bool.and_eq_true, Bool.not_eq_true'] at hc
  obtain ⟨h1, h2⟩ := hc
  have h3 : ¬ fn.body = none := by cases hb : fn.body <;> simp_all
  have h1 : ¬ fn.name = "runtime.NumGoroutine" := by simpa using h1
  simp [invoke, callFunc, hf, h1, h3]
 unfold calls at h
 split at h
 ·rename_i f a c
  simp only [Option.some.injEq, Prod.mk.injEq] at h
  obtain ⟨e1, e2⟩ := h
  subst e1 e2
  simp only [VR, DR] at hg
  obtain ⟨a', c', e, h1, h2⟩ := hg
  subst e
  exact ⟨_, _, rfl, inv a' c', ((VL.ofD h1).append ha).append (VL.ofD h2)⟩
 ·rename_i f a c
  simp only [Option.some.injEq, Prod.mk.injEq] at h
  obtain ⟨e1, e2⟩ := h
  subst e1 e2
  simp only [VR] at hg
  obtain ⟨a', c', e, h1, h2⟩ := hg
  subst e
  exact ⟨_, _, rfl, inv a' c', (h1.append ha).append h2⟩
 ·simp at h
theorem AT.call {Q : Out → H → Prop} {fn : Func} (hf : P.funcs[f.fn]? = some fn) {ai : AI} {r : List AI} {ks : List AItem} {env : Env} {h : H} {g : Opd} {args : List Opd} {fid : FuncId} {all : List V}
  (hop : ai.op = .call g args) (hg : gOk env ai.guard) (hc : calls (ev env g) (args.map (ev env)) = some (fid, all))
  (rb rv : List Nat) (kb kv : Nat) {hC : H} {argsC : List V} {QC : Out → H → Prop} (hs : Sub h hC rb rv) (hsc : insc rb.length rv.length argsC = true) (hargs : rns rb rv argsC = all)
  (hAF : AF P fid argsC hC QC)
  (hk : ∀ out hC', QC out hC' → (rb.length + kb ≤ hC'.bx.length ∧ rv.length + kv ≤ hC'.vc.length) ∧ match out with
   | .ret v => AT P N chk f (.reg r :: ks) (put (dels env ai.kill) ai.dst (rn (upB rb h.bx.length kb) (upB rv h.vc.length kv) v)) (upH h hC' rb rv kb kv) Q
   | .pan v => Q (.pan (rn (upB rb h.bx.length kb) (upB rv h.vc.length kv) v)) (upH h hC' rb rv kb kv)) (hkp : subE env f.keep) : AT P N chk f (.reg (ai :: r) :: ks) env h Q := by
 intro κ w a k cs hcs hr he hd
 cases k with
 | nil => simp [CS] at hcs
 | cons x0 k =>
  obtain ⟨y, t, e, h3, h4⟩ := hcs
  simp only [List.cons.injEq] at e
  obtain ⟨e1, e2⟩ := e
  subst e1 e2
  cases x0 <;> simp only [CI] at h3
  rename_i ops l
  cases l with
  | nil => simp [RG] at h3
  | cons i rest =>
   obtain ⟨kill, ai', tl, c1, c2, c3⟩ := h3
   simp only [List.cons.injEq] at c2
   obtain ⟨c2, c4⟩ := c2
   subst c2 c4
   obtain ⟨o, o1, o2, o3, o4, o5, o6, o7⟩ := cAI_inv c1
   have hw := gOk_wanted he o7 hg
   rw [hop] at o5
   have : ∃ ce : Call, ∃ g0, o.op = .call ce ∧ ce.callee = .value g0 ∧ opd g0 = some g ∧ opds ce.args.toList = some args := by
    cases ho : o.op <;> rw [ho] at o5 <;> simp only [copA] at o5
    case call ce =>
     split at o5
     ·rename_i g0 hce
      split at o5
      ·rename_i g1 l1 z1 z2
       simp only [Option.some.injEq, AOp.call.injEq] at o5
       obtain ⟨z3, z4⟩ := o5
       subst z3 z4
       exact ⟨ce, g0, rfl, hce, z1, z2⟩
      ·simp at o5
     ·split at o5 <;> simp at o5
    all_goals first | (split at o5 <;> simp at o5; done) | ((repeat' split at o5) <;> simp at o5)
   obtain ⟨ce, g0, p1, p2, p3, p4⟩ := this
   have hρ := ev_sound he
   have hgv := hρ _ _ p3
   have hav := opds_sound (f := ev env) (ρ := a.eval) hρ p4
   have hdn := down_dn hr hs
   have hrel := down_rel hr hs
   obtain ⟨hcall, hAF⟩ := hAF
   obtain ⟨d, av, q1, q2, q3⟩ := calls_sound (P := P) (w := w) (argv := ce.args.map a.eval) hc hgv (by simpa using hav) hcall
   have hrun : (execOp a.eval o).run P w = .ok (.enter fid ⟨av⟩) w := by
    simp [execOp, p1, resolve, p2, q1, q2]
   have hvl : VL (downK κ w rb rv) argsC av := VL.down hdn argsC av hsc (by rw [hargs]; exact q3)
   obtain ⟨e, w', fr, ⟨κ1, hC', out, r1, r2, r3, r4⟩, r5, r6, r7⟩ := hAF _ w av hrel hvl ((baseOf f).atR a (.inRegion ops (i :: rest) :: k) :: cs)
   obtain ⟨⟨lkb, lkv⟩, hk⟩ := hk out hC' r1
   obtain ⟨κ', u1, u2, u3⟩ := up_all hr hs r3 r2 lkb lkv
   have hgo := stepG_opn (P := P) (b := baseOf f) (k := k) (cs := cs) (w := w) (rest := rest) o1 hw (by intro c; rw [p1]; simp)
   have henter : Go.step P (lone ((baseOf f).atR a (.inRegion ops (i :: rest) :: k)) cs w) = .next (lone (Frame.enter P fid ⟨av⟩ .normal) ((baseOf f).atR a (.inRegion ops (i :: rest) :: k) :: cs) w) :=
    step_lone_go (by rw [hgo]; simp [stepG.apply, hrun, Frame.atR])
   cases out with
   | ret v =>
    obtain ⟨x, s1, s2⟩ := r4
    subst s1
    have hfin : ((baseOf f).atR a (.inRegion ops (i :: rest) :: k)).finish x = (baseOf f).atR (a.put o.dst x) (.inRegion ops rest :: k) := by rw [Frame.finish_atR, o1]; rfl
    have hleave := step_leave_returned (c := (baseOf f).atR a (.inRegion ops (i :: rest) :: k)) (cs := cs) r7
    rw [hfin] at hleave
    refine Ends.of_steps (.head henter (Steps.trans r5 (.one hleave))) (Ends.le u2 (hk κ' w' _ _ cs ⟨_, _, rfl, c3, h4⟩ u1 ?_ ?_))
    ·rw [o3]
     exact ((he.mono u2).dels ai.kill).putO o6 (VR.up u3 _ _ s2)
    ·exact hd.put u2 _ _
   | pan v =>
    obtain ⟨x, s1, s2⟩ := r4
    subst s1
    have hleave := step_leave_panicked (c := (baseOf f).atR a (.inRegion ops (i :: rest) :: k)) (cs := cs) r7
    exact ⟨_, w', ((baseOf f).atR a (.inRegion ops (i :: rest) :: k)).raise [{ v := x, recovered := false }], κ', _, .pan _, hk, u2, u1, ⟨x, rfl, VR.up u3 _ _ s2⟩, .head henter (Steps.trans r5 (.one hleave)), rfl, rfl, fun _ => hd.mono u2, ⟨fn, hf⟩, rfl, (KeepR.of he hkp).mono u2⟩
def env0 : Nat → List V → Env
 | _, [] => []
 | n, v :: r => (n, v) :: env0 (n + 1) r
theorem get_env0 : ∀ (l : List V) (n t : Nat), get (env0 n l) t = if n ≤ t then l.getD (t - n) .dead else .dead
 | [], n, t => by simp [env0, get]
 | v :: r, n, t => by
  simp only [env0, get]
  by_cases h : n = t
  ·subst h; rw [Nat.beq_refl]; simp
  ·rw [beq_ne h]
   simp only [get_env0 r]
   by_cases h2 : n ≤ t
   ·rw [if_pos (by omega), if_pos h2]
    have : t - n = (t - (n + 1)) + 1 := by omega
    rw [this]; simp [List.getD]
   ·rw [if_neg (by omega), if_neg h2]
theorem AF.of {f : FuncId} {Q : Out → H → Prop} {fn : Func} {c : Code} {ac : AC} {ann : Ann} {args : List V} {h : H} (hf : P.funcs[f]? = some fn) (hb : fn.body = some c) (hn : fn.ntmps = N) (hcal : callable P f = true)
  (hc : comp P N ann chk c = some ac) (k : AT P N chk (.of f) [.code ac] (env0 0 args) h Q) : AF P f args h Q := by
 refine ⟨hcal, fun κ w argv hr hv cs => ?_⟩
 let a : Act := { tmps := ⟨argv⟩ ++ Array.replicate (fn.ntmps - argv.length) undef, defers := [] }
 have henter : Frame.enter P f ⟨argv⟩ .normal = (baseOf (.of f)).atR a [.code c] := by
  simp [Frame.enter, Frame.atR, hf, hb, baseOf, a]
 have he : ER N κ (env0 0 args) a.tmps := by
  refine ⟨?_, fun t => ?_⟩
  ·simp only [a, Array.size_append, Array.size_replicate]
   show N ≤ argv.length + (fn.ntmps - argv.length)
   omega
  ·rw [get_env0, if_pos (Nat.zero_le _), Nat.sub_zero]
   cases hx : args[t]? with
   | none => simp [List.getD, hx, VR]
   | some x =>
    obtain ⟨y, h1, h2⟩ := VL.get hv t x hx
    have hlt := (List.getElem?_eq_some_iff.1 h1).1
    simp only [List.getD, hx, Option.getD_some]
    have : a.tmps.getD t undef = y := by
     simp only [a, Array.getD_eq_getD_getElem?]
     rw [Array.getElem?_append_left (by simpa using hlt)]
     simp [h1]
    rw [this]; exact h2
 obtain ⟨e, w', fr, κ', h', out, g1, g2, g3, g4, g5, g6, g7⟩ := k κ w a [.code c] cs ⟨_, _, rfl, ⟨ann, hc⟩, rfl⟩ hr he rfl
 rw [← henter] at g5
 refine ⟨e, w', fr, ⟨κ', h', out, g1, g2, g3, g4⟩, g5, g6, ?_⟩
 cases e with
 | returned v =>
  obtain ⟨m1, m2, m3, fn', m4, m5⟩ := g7
  exact ⟨m1, m2, m3, fn', m4, m5⟩
 | panicked ch =>
  obtain ⟨m1, m2, m3, _⟩ := g7
  exact ⟨m1, m2 rfl, m3⟩
 | outgrown => cases out <;> (obtain ⟨_, e1, _⟩ := g4; simp at e1)
theorem AF.mono {f : FuncId} {Q Q' : Out → H → Prop} {args : List V} {h : H} (k : AF P f args h Q) (hq : ∀ o h, Q o h → Q' o h) : AF P f args h Q' :=
 ⟨k.1, fun κ w argv hr hv => (k.2 κ w argv hr hv).mono fun _ _ ⟨κ', h', out, g1, g2⟩ => ⟨κ', h', out, hq _ _ g1, g2⟩⟩
end
end Go.SL
namespace Go.SL
def edges (ops : Array Oper) (i : Nat) : List Nat := match ops[i]? with
 | some o => (o.after.toList.filter (Region.binds .any ·)).map (·.on)
 | none => []
structure Topo (ops : Array Oper) (L : List Nat) : Prop where
 nodup : L.Nodup
 mem : ∀ i, i ∈ L ↔ i < ops.size
 ord : ∀ A i B, L = A ++ i :: B → ∀ e ∈ edges ops i, e ∈ A
def Ranked (m : Region.Mode) (ops : Array Oper) (rk : Nat → Nat) : Prop :=
 ∀ i o, ops[i]? = some o → ∀ e ∈ o.after.toList, Region.binds m e = true → e.on < ops.size ∧ rk e.on < rk i
theorem any_binds {m : Region.Mode} {e : Edge} (h : Region.binds .any e = true) : Region.binds m e = true := by
 unfold Region.binds at h ⊢
 cases hg : e.ground <;> simp_all
theorem full_of {n : Nat} : ∀ (L : List Nat), L.Nodup → (∀ i ∈ L, i < n) → L.length = n → ∀ i, i < n → i ∈ L := by
 intro L hn hb hl i hi
 have h1 : L ⊆ List.range n := fun x hx => List.mem_range.2 (hb x hx)
 have h2 : (List.range n).length ≤ L.length := by simp [hl]
 have key : ∀ (A B : List Nat), A.Nodup → A ⊆ B → B.length ≤ A.length → B.Nodup → B ⊆ A := by
  intro A
  induction A with
  | nil => intro B _ _ h _; simp at h; subst h; exact fun _ h => h
  | cons a A ih =>
   intro B hA hAB hlen hB x hx
   by_cases hxa : x = a
   ·subst hxa; simp
   ·have ha : a ∈ B := hAB (by simp)
    have hsub : A ⊆ B.erase a := fun y hy => (List.Nodup.mem_erase_iff hB).2 ⟨fun e => by subst e; exact (List.nodup_cons.1 hA).1 hy, hAB (by simp [hy])⟩
    have hle : (B.erase a).length ≤ A.length := by rw [List.length_erase_of_mem ha]; simp at hlen; omega
    exact List.mem_cons_of_mem _ (ih (B.erase a) (List.nodup_cons.1 hA).2 hsub hle (hB.erase a) ((List.Nodup.mem_erase_iff hB).2 ⟨hxa, hx⟩))
 exact key L (List.range n) hn h1 h2 List.nodup_range (List.mem_range.2 hi)
theorem least {n : Nat} (rk : Nat → Nat) (p : Nat → Prop) (h : ∃ i, i < n ∧ p i) : ∃ i, i < n ∧ p i ∧ ∀ j, j < n → p j → rk i ≤ rk j := by
 obtain ⟨i, hi, hp⟩ := h
 suffices H : ∀ r i, rk i = r → i < n → p i → ∃ i, i < n ∧ p i ∧ ∀ j, j < n → p j → rk i ≤ rk j from H _ i rfl hi hp
 intro r
 induction r using Nat.strongRecOn with
 | _ r ih =>
  intro i hr hi hp
  by_cases hex : ∃ j, j < n ∧ p j ∧ rk j < r
  ·obtain ⟨j, h1, h2, h3⟩ := hex
   exact ih (rk j) h3 j rfl h1 h2
  ·refine ⟨i, hi, hp, fun j h1 h2 => ?_⟩
   by_cases h3 : rk j < r
   ·exact absurd ⟨j, h1, h2, h3⟩ hex
   ·omega
theorem lin_go {m : Region.Mode} {ops : Array Oper} {rk : Nat → Nat} (hr : Ranked m ops rk) : ∀ (fuel t : Nat) (listed : Array Bool) (acc : List Nat),
  listed.size = ops.size → (∀ i, i < ops.size → (listed.getD i true = true ↔ i ∈ acc)) → acc.Nodup → (∀ i ∈ acc, i < ops.size) → acc.length + fuel = ops.size →
  (∀ A i B, acc.reverse = A ++ i :: B → ∀ e ∈ edges ops i, e ∈ A) → Topo ops (Region.linearise.go m ops fuel t listed acc)
 | 0, t, listed, acc, h1, h2, h3, h4, h5, h6 => by
  simp only [Region.linearise.go]
  refine ⟨by unfold List.Nodup; rw [List.pairwise_reverse]; exact h3.imp Ne.symm, fun i => ?_, h6⟩
  rw [List.mem_reverse]
  exact ⟨h4 i, full_of acc h3 h4 (by simpa using h5) i⟩
 | fuel + 1, t, listed, acc, h1, h2, h3, h4, h5, h6 => by
  simp only [Region.linearise.go]
  generalize hrs : (List.range ops.size).filter (fun i => !listed.getD i true && ((ops[i]?).map (·.after.all fun e => !Region.binds m e || listed.getD e.on false)).getD false) = rs
  have hmem : ∀ i, i ∈ rs ↔ i < ops.size ∧ i ∉ acc ∧ ∃ o, ops[i]? = some o ∧ ∀ e ∈ o.after.toList, Region.binds m e = true → listed.getD e.on false = true := by
   intro i
   rw [← hrs, List.mem_filter, List.mem_range, Bool.and_eq_true]
   constructor
   ·rintro ⟨a, b, c⟩
    refine ⟨a, fun hi => by rw [(h2 i a).2 hi] at b; simp at b, ?_⟩
    rw [Array.getElem?_eq_getElem a] at c ⊢
    refine ⟨_, rfl, fun e he hb => ?_⟩
    simp only [Option.map_some, Option.getD_some, Array.all_eq_true', Bool.or_eq_true, Bool.not_eq_true'] at c
    rcases c e (by simpa using he) with c | c
    ·rw [hb] at c; simp at c
    ·exact c
   ·rintro ⟨a, b, o, ho, c⟩
    refine ⟨a, ?_, ?_⟩
    ·cases hl : listed.getD i true with
     | false => rfl
     | true => exact absurd ((h2 i a).1 hl) b
    ·rw [ho]
     simp only [Option.map_some, Option.getD_some, Array.all_eq_true', Bool.or_eq_true, Bool.not_eq_true']
     intro e he
     cases hb : Region.binds m e with
     | false => exact .inl rfl
     | true => exact .inr (c e (by simpa using he) hb)
  have hne : rs ≠ [] := by
   have : ∃ i, i < ops.size ∧ i ∉ acc := by
    apply Classical.byContradiction
    intro hno
    have hall : ∀ i, i < ops.size → i ∈ acc := fun i hi => Classical.byContradiction fun h => hno ⟨i, hi, h⟩
    have hsub : List.range ops.size ⊆ acc := fun i hi => hall i (List.mem_range.1 hi)
    have := List.Nodup.length_le_of_subset List.nodup_range hsub
    simp at this
    omega
   obtain ⟨i, hi, hp, hmin⟩ := least rk (· ∉ acc) this
   have : i ∈ rs := (hmem i).2 ⟨hi, hp, ops[i], by simp [hi], fun e he hb => by
    obtain ⟨q1, q2⟩ := hr i ops[i] (by simp [hi]) e he hb
    have : e.on ∈ acc := Classical.byContradiction fun hn => by
     have := hmin e.on q1 hn
     omega
    have := (h2 e.on q1).2 this
    rw [Array.getD_eq_getD_getElem?, Array.getElem?_eq_getElem (by omega)] at this ⊢
    simpa using this⟩
   intro e; rw [e] at this; simp at this
  have hlt : t % rs.length < rs.length := Nat.mod_lt _ (List.length_pos_iff.2 hne)
  rw [List.getElem?_eq_getElem hlt]
  simp only []
  obtain ⟨i1, i2, o, i3, i4⟩ := (hmem _).1 (List.getElem_mem hlt)
  generalize rs[t % rs.length] = i at i1 i2 i3 i4 ⊢
  refine lin_go hr fuel _ _ _ (by simpa using h1) (fun j hj => ?_) (List.nodup_cons.2 ⟨i2, h3⟩) (fun j hj => ?_) (by simp; omega) ?_
  ·rw [List.mem_cons, ← h2 j hj, Array.getD_eq_getD_getElem?, Array.getD_eq_getD_getElem?, Array.getElem?_setIfInBounds]
   by_cases hji : i = j
   ·subst hji; simp [h1, i1]
   ·simp [hji, Ne.symm hji]
  ·rcases List.mem_cons.1 hj with e | hj
   ·subst e; exact i1
   ·exact h4 j hj
  ·intro A j B e x hx
   rw [List.reverse_cons] at e
   rcases List.append_eq_append_iff.1 e with ⟨C, e1, e2⟩ | ⟨C, e1, e2⟩
   ·cases C with
    | nil =>
     simp only [List.append_nil, List.nil_append] at e1 e2
     simp only [List.cons.injEq] at e2
     obtain ⟨e2, e3⟩ := e2
     subst e2
     rw [e1, List.mem_reverse]
     unfold edges at hx
     rw [i3] at hx
     simp only [List.mem_map, List.mem_filter] at hx
     obtain ⟨ed, ⟨x1, x2⟩, x3⟩ := hx
     have hl := i4 ed x1 (any_binds x2)
     rw [x3] at hl
     by_cases hxs : x < ops.size
     ·refine (h2 x hxs).1 ?_
      rw [Array.getD_eq_getD_getElem?, Array.getElem?_eq_getElem (by omega)] at hl ⊢
      simpa using hl
     ·rw [Array.getD_eq_getD_getElem?, Array.getElem?_eq_none (by omega)] at hl
      simp at hl
    | cons c C =>
     have := congrArg List.length e2
     simp at this
   ·cases C with
    | nil =>
     simp only [List.append_nil, List.nil_append, List.cons.injEq] at e1 e2
     obtain ⟨e2, e3⟩ := e2
     subst e2
     rw [← e1, List.mem_reverse]
     unfold edges at hx
     rw [i3] at hx
     simp only [List.mem_map, List.mem_filter] at hx
     obtain ⟨ed, ⟨x1, x2⟩, x3⟩ := hx
     have hl := i4 ed x1 (any_binds x2)
     rw [x3] at hl
     by_cases hxs : x < ops.size
     ·refine (h2 x hxs).1 ?_
      rw [Array.getD_eq_getD_getElem?, Array.getElem?_eq_getElem (by omega)] at hl ⊢
      simpa using hl
     ·rw [Array.getD_eq_getD_getElem?, Array.getElem?_eq_none (by omega)] at hl
      simp at hl
    | cons c C =>
     simp only [List.cons_append, List.cons.injEq] at e2
     obtain ⟨e2, e3⟩ := e2
     subst e2
     exact h6 A j C e1 x hx
theorem lin_topo {m : Region.Mode} {ops : Array Oper} {rk : Nat → Nat} (hr : Ranked m ops rk) (t : Nat) : Topo ops (Region.linearise m ops t) := by
 unfold Region.linearise
 refine lin_go hr _ _ _ _ (by simp) (fun i hi => ?_) List.nodup_nil (by simp) (by simp) ?_
 ·simp [Array.getD_eq_getD_getElem?, hi]
 ·intro A i B e
  have := congrArg List.length e
  simp at this
def rankB (m : Region.Mode) (ops : Array Oper) (rk : Nat → Nat) : Bool :=
 (List.range ops.size).all fun i => match ops[i]? with
  | some o => o.after.toList.all fun e => !Region.binds m e || (decide (e.on < ops.size) && decide (rk e.on < rk i))
  | none => true
theorem rankB_sound {m : Region.Mode} {ops : Array Oper} {rk : Nat → Nat} (h : rankB m ops rk = true) : Ranked m ops rk := by
 intro i o ho e he hb
 unfold rankB at h
 rw [List.all_eq_true] at h
 have hi : i < ops.size := by
  rcases Nat.lt_or_ge i ops.size with h | h
  ·exact h
  ·rw [Array.getElem?_eq_none h] at ho; simp at ho
 have := h i (List.mem_range.2 hi)
 rw [ho] at this
 simp only [List.all_eq_true] at this
 have := this e he
 rw [hb] at this
 simpa using this
def edgesOk (ops : Array Oper) : Bool :=
 rankB .text ops (fun i => i) && (let l := Region.linearise .gc ops 0; rankB .gc ops (fun i => l.idxOf i))
theorem sched_topo {ops : Array Oper} (h : edgesOk ops = true) (mixed : Bool) (t : Nat) : Topo ops (Region.schedule mixed ops t) := by
 unfold edgesOk at h
 simp only [Bool.and_eq_true] at h
 obtain ⟨h1, h2⟩ := h
 have r1 := rankB_sound h1
 have r2 := rankB_sound h2
 unfold Region.schedule
 split
 ·exact lin_topo (rk := fun i => i) (fun i o ho e he hb => r1 i o ho e he (any_binds hb)) t
 ·split
  ·exact lin_topo r1 _
  ·exact lin_topo r2 _
end Go.SL
namespace Go.SL
def slO : Opd → List Nat
 | .tmp t => [t]
 | .cst _ => []
def slOO : Option Opd → List Nat
 | some x => slO x
 | none => []
def slL : List Opd → List Nat
 | [] => []
 | x :: r => slO x ++ slL r
def slP : List (Nat × Nat × Opd) → List Nat
 | [] => []
 | (_, _, x) :: r => slO x ++ slP r
def slA : AO → List Nat
 | .move x => slO x
 | .asg x => slO x
 | .pick c a b => slO c ++ (slO a ++ slO b)
 | .alloc _ _ => []
 | .box _ x => slO x
 | .build _ ps => slP ps
 | .bslice _ _ _ _ _ ps => slP ps
 | .load _ _ x => slO x
 | .store _ x y => slO x ++ slO y
 | .nilc x => slO x
 | .faddr _ x => slO x
 | .iaddr _ x i => slO x ++ slO i
 | .index x i => slO x ++ slO i
 | .field _ _ _ x => slO x
 | .extract x _ => slO x
 | .ibin _ x y => slO x ++ slO y
 | .icmp _ x y => slO x ++ slO y
 | .sbin _ x y => slO x ++ slO y
 | .bbin _ x y => slO x ++ slO y
 | .shift _ x y => slO x ++ slO y
 | .eqnil _ _ x => slO x
 | .not x => slO x
 | .neg x => slO x
 | .conv _ x => slO x
 | .same x => slO x
 | .mkfn _ a c => slL a ++ slL c
 | .mkif _ x => slO x
 | .tass _ _ x => slO x
 | .sslice x lo hi => slO x ++ (slOO lo ++ slOO hi)
 | .lslice _ x lo hi => slO x ++ (slOO lo ++ slOO hi)
 | .aslice _ x => slO x
 | .len _ x => slO x
 | .append _ _ _ _ x y => slO x ++ slO y
 | .range x => slO x
 | .next x => slO x
 | .mx _ x y => slO x ++ slO y
 | .peq _ x y => slO x ++ slO y
 | .b2s x => slO x
 | .s2b x => slO x
 | .mks _ _ _ n => slO n
 | .p2u x => slO x
 | .u2p _ x => slO x
 | .usd x => slO x
 | .ustr _ x n => slO x ++ slO n
def slI (i : AI) : List Nat :=
 (match i.op with
  | .o a => slA a
  | .call g l => slO g ++ slL l
  | .panic x => slO x
  | .defer g l => slO g ++ slL l) ++
 (match i.guard with
  | some (t, _) => [t]
  | none => [])
theorem congO {f g : Opd → V} (hc : ∀ d, f (.cst d) = g (.cst d)) {x : Opd} (h : ∀ t ∈ slO x, f (.tmp t) = g (.tmp t)) : f x = g x := by
 cases x with
 | tmp t => exact h t (by simp [slO])
 | cst d => exact hc d
theorem congL {f g : Opd → V} (hc : ∀ d, f (.cst d) = g (.cst d)) : ∀ {l : List Opd}, (∀ t ∈ slL l, f (.tmp t) = g (.tmp t)) → l.map f = l.map g
 | [], _ => rfl
 | x :: r, h => by
  simp only [slL, List.mem_append] at h
  simp only [List.map_cons]
  rw [congO hc fun t ht => h t (.inl ht), congL hc fun t ht => h t (.inr ht)]
theorem congB {f g : Opd → V} (hc : ∀ d, f (.cst d) = g (.cst d)) (n : Int) {x : Option Opd} (h : ∀ t ∈ slOO x, f (.tmp t) = g (.tmp t)) : sbnd f n x = sbnd g n x := by
 cases x with
 | none => rfl
 | some x => simp only [sbnd]; rw [congO hc h]
theorem congP {f g : Opd → V} (hc : ∀ d, f (.cst d) = g (.cst d)) : ∀ {l : List (Nat × Nat × Opd)} {cs : List V}, (∀ t ∈ slP l, f (.tmp t) = g (.tmp t)) → fillR f cs l = fillR g cs l
 | [], _, _ => rfl
 | (o, s, x) :: r, cs, h => by
  simp only [slP, List.mem_append] at h
  simp only [fillR]
  rw [congO hc fun t ht => h t (.inl ht)]
  split
  ·rw [congP hc fun t ht => h t (.inr ht)]
  ·rfl
theorem xop_congr {f g : Opd → V} (hc : ∀ d, f (.cst d) = g (.cst d)) (h : H) (a : AO) (hs : ∀ t ∈ slA a, f (.tmp t) = g (.tmp t)) : xop h f a = xop h g a := by
 cases a <;> simp only [slA, List.mem_append] at hs <;> simp only [xop]
 case pick c a b => rw [congO hc fun t ht => hs t (.inl ht), congO hc fun t ht => hs t (.inr (.inl ht)), congO hc fun t ht => hs t (.inr (.inr ht))]
 case build z ps => rw [congP hc hs]
 case bslice => rw [congP hc hs]
 case mkfn => rw [congL hc fun t ht => hs t (.inl ht), congL hc fun t ht => hs t (.inr ht)]
 case sslice =>
  rw [congO hc fun t ht => hs t (.inl ht), congB hc 0 fun t ht => hs t (.inr (.inl ht))]
  split
  ·rw [congB hc _ fun t ht => hs t (.inr (.inr ht))]
  ·rfl
 case lslice =>
  rw [congO hc fun t ht => hs t (.inl ht)]
  simp only [congB hc _ fun t ht => hs t (.inr (.inl ht)), congB hc _ fun t ht => hs t (.inr (.inr ht))]
 all_goals first
  | rfl
  | rw [congO hc hs]
  | rw [congO hc fun t ht => hs t (.inl ht), congO hc fun t ht => hs t (.inr ht)]
def isRead (i : AI) : Bool := match i.op with
 | .o a => match a with
  | .asg _ | .alloc _ _ | .box _ _ | .bslice _ _ _ _ _ _ | .store _ _ _ | .append _ _ _ _ _ _ | .range _ | .next _ | .mks _ _ _ _ | .ustr _ _ _ | .aslice _ _ => false
  | _ => true
 | _ => false
theorem val_h {h h' : H} {v v' : V} {b : Bool} (e : val h v = some (v', h', b)) : h' = h := by
 simp only [val, Option.some.injEq, Prod.mk.injEq] at e
 exact e.2.1.symm
theorem quiet {i : AI} {a : AO} (hr : isRead i = true) (ha : i.op = .o a) {h h' : H} {f : Opd → V} {v : V} {b : Bool} (e : xop h f a = some (v, h', b)) : h' = h := by
 unfold isRead at hr
 rw [ha] at hr
 cases a <;> simp only [xop] at e hr
 all_goals first
  | (simp at hr; done)
  | exact val_h e
  | ((repeat' split at e) <;> first
    | (simp at e; done)
    | exact val_h e
    | (simp only [Option.some.injEq, Prod.mk.injEq] at e; exact e.2.1.symm))
def xai (h : H) (env : Env) (i : AI) : Option (V × H × Bool) := match i.guard with
 | none => match i.op with
  | .o a => xop h (ev env) a
  | _ => none
 | some (t, want) => match get env t with
  | .d (.bool b) => match b == want with
   | true => match i.op with
    | .o a => xop h (ev env) a
    | _ => none
   | false => some (skp, h, true)
  | .d (.tup []) => some (skp, h, true)
  | _ => none
theorem xai_congr {env env' : Env} (h : H) (i : AI) (hs : ∀ t ∈ slI i, get env t = get env' t) : xai h env i = xai h env' i := by
 unfold slI at hs
 simp only [List.mem_append] at hs
 have ho : ∀ a, i.op = .o a → xop h (ev env) a = xop h (ev env') a := fun a ha => by
  rw [ha] at hs
  exact xop_congr (f := ev env) (g := ev env') (fun _ => rfl) h a fun t ht => hs t (.inl ht)
 unfold xai
 cases hop : i.op with
 | o a =>
  simp only [ho a hop]
  cases hg : i.guard with
  | none => rfl
  | some p =>
   obtain ⟨t, w⟩ := p
   rw [hg] at hs
   simp only [hs t (.inr (by simp))]
 | _ =>
  cases hg : i.guard with
  | none => rfl
  | some p =>
   obtain ⟨t, w⟩ := p
   rw [hg] at hs
   simp only [hs t (.inr (by simp))]
theorem xai_quiet {i : AI} (hr : isRead i = true) {h h' : H} {env : Env} {v : V} {b : Bool} (e : xai h env i = some (v, h', b)) : h' = h := by
 unfold xai at e
 repeat' split at e
 all_goals first
  | (simp at e; done)
  | (rename_i ha; exact quiet hr ha e)
  | (simp only [Option.some.injEq, Prod.mk.injEq] at e; exact e.2.1.symm)
def mask (S : List Nat) (env : Env) : Env := env.filter fun p => S.contains p.1
theorem get_mask (S : List Nat) : ∀ (env : Env) (t : Nat), get (mask S env) t = if t ∈ S then get env t else .dead
 | [], t => by simp [mask, get]
 | (k, v) :: r, t => by
  have ih := get_mask S r t
  unfold mask at ih ⊢
  simp only [List.filter_cons]
  by_cases hk : k ∈ S
  ·rw [if_pos (by simpa using hk)]
   simp only [get]
   by_cases hkt : k = t
   ·subst hkt; simp [hk]
   ·rw [beq_ne hkt]; exact ih
  ·rw [if_neg (by simpa using hk)]
   rw [ih]
   by_cases hkt : k = t
   ·subst hkt; simp [hk]
   ·simp only [get]; rw [beq_ne hkt]
section
variable {P : Program} {N : Nat} {f : FD}
def EV (P : Program) (N : Nat) (f : FD) (ai : AI) (env : Env) (h : H) (Q : Out → H → Prop) (Φ : V → H → Prop) : Prop :=
 ∀ (κ : K) (w : World) (a : Act) (k : List Item) (cs : List Frame) (ops : Array Oper) (i : Nat) (rest : List Nat) (o : Oper) (kill : List Nat),
  ops[i]? = some o → cAI P N ops i kill = some ai → Rel κ h w → ER N κ env a.tmps → DefR κ f.dv a.defers →
  Ends P f (lone ((baseOf f).atR a (.inRegion ops (i :: rest) :: k)) cs w) cs κ Q ∨
  ∃ κ' w' v x h', Φ v h' ∧ Le κ κ' ∧ Rel κ' h' w' ∧ VR κ' v x ∧
   Steps P (lone ((baseOf f).atR a (.inRegion ops (i :: rest) :: k)) cs w) (lone ((baseOf f).atR (a.put o.dst x) (.inRegion ops rest :: k)) cs w')
theorem EV.o {ai : AI} {env : Env} {h h' : H} {Q : Out → H → Prop} {Φ : V → H → Prop} {v : V} {ob : Bool} (hx : xai h env ai = some (v, h', ob)) (hob : ob = true) (hΦ : Φ v h') : EV P N f ai env h Q Φ := by
 intro κ w a k cs ops i rest o kill ho hc hr he hd
 refine .inr ?_
 obtain ⟨o', o1, o2, o3, o4, o5, o6, o7⟩ := cAI_inv hc
 rw [ho] at o1
 simp only [Option.some.injEq] at o1
 subst o1
 have run : ∀ {a0 : AO}, ai.op = .o a0 → xop h (ev env) a0 = some (v, h', ob) → Region.wanted o (yielded ops a.tmps) = true →
   ∃ κ' w' v x h', Φ v h' ∧ Le κ κ' ∧ Rel κ' h' w' ∧ VR κ' v x ∧
   Steps P (lone ((baseOf f).atR a (.inRegion ops (i :: rest) :: k)) cs w) (lone ((baseOf f).atR (a.put o.dst x) (.inRegion ops rest :: k)) cs w') := by
  intro a0 e hx hw
  obtain ⟨w', κ', r1, r2, r3⟩ := xop_sound hr (ev_sound he) o (fun d => rfl) (copA_o (by rw [o5, e])) hx hob
  rcases r3 with ⟨y, r3, r4⟩ | ⟨r3, r4⟩
  ·exact ⟨κ', w', v, y, h', hΦ, r2, r1, r4, .one (step_op_value ho hw (cop_nd (copA_o (by rw [o5, e]))) rfl (.inl r3))⟩
  ·exact ⟨κ', w', v, undef, h', hΦ, r2, r1, by rw [r4]; simp [VR], .one (step_op_value ho hw (cop_nd (copA_o (by rw [o5, e]))) rfl (.inr ⟨r3, rfl⟩))⟩
 unfold xai at hx
 split at hx
 ·rename_i hg
  split at hx
  case h_2 => simp at hx
  rename_i a0 e
  refine run e hx ?_
  rcases o7 with ⟨o7, _⟩ | ⟨j, want, t, _, o7, _⟩
  ·simp [Region.wanted, o7]
  ·rw [hg] at o7; simp at o7
 ·rename_i t want hg
  have skip : Region.wanted o (yielded ops a.tmps) = false → v = skp → h' = h → ∃ κ' w' v x h', Φ v h' ∧ Le κ κ' ∧ Rel κ' h' w' ∧ VR κ' v x ∧
   Steps P (lone ((baseOf f).atR a (.inRegion ops (i :: rest) :: k)) cs w) (lone ((baseOf f).atR (a.put o.dst x) (.inRegion ops rest :: k)) cs w') := by
   intro hwant e1 e2
   subst e1 e2
   have hst := stepR_op_skip (P := P) (b := baseOf f) (a := a) (k := k) (cs := cs) (w := w) (ops := ops) (i := i) (rest := rest) (by simp [ho, hwant])
   simp only [ho, Option.bind_some] at hst
   exact ⟨κ, w, skp, undef, _, hΦ, Le.refl κ, hr, skp_undef, .one hst⟩
  split at hx
  case h_3 => simp at hx
  case h_2 =>
   rename_i hv
   simp only [Option.some.injEq, Prod.mk.injEq] at hx
   refine skip ?_ hx.1.symm hx.2.1.symm
   rcases o7 with ⟨_, o7⟩ | ⟨j, want', t', o7, o8, o9, o10⟩
   ·rw [hg] at o7; simp at o7
   ·rw [hg] at o8
    simp only [Option.some.injEq, Prod.mk.injEq] at o8
    obtain ⟨e1, e2⟩ := o8
    subst e1 e2
    exact wanted_skp he o7 o9 o10 hv
  rename_i bv hv
  have hwant : Region.wanted o (yielded ops a.tmps) = (bv == want) := by
   rcases o7 with ⟨_, o7⟩ | ⟨j, want', t', o7, o8, o9, o10⟩
   ·rw [hg] at o7; simp at o7
   ·rw [hg] at o8
    simp only [Option.some.injEq, Prod.mk.injEq] at o8
    obtain ⟨e1, e2⟩ := o8
    subst e1 e2
    exact wanted_of he o7 o9 o10 hv
  split at hx
  ·rename_i hbw
   split at hx
   case h_2 => simp at hx
   rename_i a0 e
   exact run e hx (by rw [hwant]; exact hbw)
  ·rename_i hbw
   simp only [Option.some.injEq, Prod.mk.injEq] at hx
   exact skip (by rw [hwant]; simpa using hbw) hx.1.symm hx.2.1.symm
theorem EV.panic {Q : Out → H → Prop} {Φ : V → H → Prop} {fn : Func} (hf : P.funcs[f.fn]? = some fn) {ai : AI} {env : Env} {h : H} {x : Opd} {v : V}
  (hop : ai.op = .panic x) (hg : gOk env ai.guard) (hv : ev env x = v) (hi : (∃ t y, v = .iface t y) ∨ ∃ t y, v = .d (.iface t y)) (hQ : Q (.pan v) h) (hk0 : f.keep = []) : EV P N f ai env h Q Φ := by
 intro κ w a k cs ops i rest o kill ho hc hr he hd
 obtain ⟨o', o1, o2, o3, o4, o5, o6, o7⟩ := cAI_inv hc
 rw [ho] at o1
 simp only [Option.some.injEq] at o1
 subst o1
 have hw := gOk_wanted he o7 hg
 rw [hop] at o5
 have : ∃ x1, o.op = .panic x1 ∧ opd x1 = some x := by
  cases ho : o.op <;> rw [ho] at o5 <;> simp only [copA] at o5
  case panic x1 =>
   split at o5
   ·rename_i x2 e
    simp only [Option.some.injEq, AOp.panic.injEq] at o5
    subst o5
    exact ⟨x1, rfl, e⟩
   ·simp at o5
  case call c =>
   split at o5
   ·split at o5 <;> simp at o5
   ·split at o5 <;> simp at o5
  all_goals first | (split at o5 <;> simp at o5; done) | ((repeat' split at o5) <;> simp at o5)
 obtain ⟨x1, p1, p2⟩ := this
 have hval := ev_sound he _ _ p2
 rw [hv] at hval
 have hif : ∃ t y, a.eval x1 = .iface t y := by
  rcases hi with ⟨t, y, e⟩ | ⟨t, y, e⟩
  ·rw [e] at hval; simp only [VR] at hval; obtain ⟨z, e2, _⟩ := hval; exact ⟨_, _, e2⟩
  ·rw [e] at hval; simp only [VR, DR] at hval; obtain ⟨z, e2, _⟩ := hval; exact ⟨_, _, e2⟩
 obtain ⟨ti, yi, hif⟩ := hif
 have hrun : (execOp a.eval o).run P w = .halt (.panic (a.eval x1)) w := by
  simp [execOp, p1, Instr.panic, hif]
 have hst : Go.step P (lone ((baseOf f).atR a (.inRegion ops (i :: rest) :: k)) cs w) = .next (lone (((baseOf f).atR a (.inRegion ops (i :: rest) :: k)).raise [{ v := a.eval x1, recovered := false }]) cs w) := by
  have hg' := stepG_opn (P := P) (b := baseOf f) (k := k) (cs := cs) (w := w) (rest := rest) ho hw (by intro c; rw [p1]; simp)
  exact step_lone_go (by rw [hg']; simp [stepG.apply, hrun])
 refine .inl ⟨.panicked [{ v := a.eval x1, recovered := false }], w, ((baseOf f).atR a (.inRegion ops (i :: rest) :: k)).raise [{ v := a.eval x1, recovered := false }], κ, h, .pan v, hQ, Le.refl κ, hr, ⟨_, rfl, hval⟩, .one hst, rfl, ?_⟩
 exact ⟨rfl, fun _ => hd, ⟨fn, hf⟩, rfl, by rw [hk0]; intro p hp; simp at hp⟩
theorem EV.call {Q : Out → H → Prop} {Φ : V → H → Prop} {fn : Func} (hf : P.funcs[f.fn]? = some fn) {ai : AI} {env : Env} {h : H} {g : Opd} {args : List Opd} {fid : FuncId} {all : List V}
  (hop : ai.op = .call g args) (hg : gOk env ai.guard) (hc : calls (ev env g) (args.map (ev env)) = some (fid, all))
  (rb rv : List Nat) (kb kv : Nat) {hC : H} {argsC : List V} {QC : Out → H → Prop} (hs : Sub h hC rb rv) (hsc : insc rb.length rv.length argsC = true) (hargs : rns rb rv argsC = all)
  (hAF : AF P fid argsC hC QC)
  (hk : ∀ out hC', QC out hC' → (rb.length + kb ≤ hC'.bx.length ∧ rv.length + kv ≤ hC'.vc.length) ∧ match out with
   | .ret v => Φ (rn (upB rb h.bx.length kb) (upB rv h.vc.length kv) v) (upH h hC' rb rv kb kv)
   | .pan v => Q (.pan (rn (upB rb h.bx.length kb) (upB rv h.vc.length kv) v)) (upH h hC' rb rv kb kv)) (hk0 : f.keep = []) : EV P N f ai env h Q Φ := by
 intro κ w a k cs ops i rest o kill ho hcc hr he hd
 obtain ⟨o', o1, o2, o3, o4, o5, o6, o7⟩ := cAI_inv hcc
 rw [ho] at o1
 simp only [Option.some.injEq] at o1
 subst o1
 have hw := gOk_wanted he o7 hg
 rw [hop] at o5
 have : ∃ ce : Call, ∃ g0, o.op = .call ce ∧ ce.callee = .value g0 ∧ opd g0 = some g ∧ opds ce.args.toList = some args := by
  cases ho : o.op <;> rw [ho] at o5 <;> simp only [copA] at o5
  case call ce =>
   split at o5
   ·rename_i g0 hce
    split at o5
    ·rename_i g1 l1 z1 z2
     simp only [Option.some.injEq, AOp.call.injEq] at o5
     obtain ⟨z3, z4⟩ := o5
     subst z3 z4
     exact ⟨ce, g0, rfl, hce, z1, z2⟩
    ·simp at o5
   ·split at o5 <;> simp at o5
  all_goals first | (split at o5 <;> simp at o5; done) | ((repeat' split at o5) <;> simp at o5)
 obtain ⟨ce, g0, p1, p2, p3, p4⟩ := this
 have hρ := ev_sound he
 have hgv := hρ _ _ p3
 have hav := opds_sound (f := ev env) (ρ := a.eval) hρ p4
 have hdn := down_dn hr hs
 have hrel := down_rel hr hs
 obtain ⟨hcall, hAF⟩ := hAF
 obtain ⟨d, av, q1, q2, q3⟩ := calls_sound (P := P) (w := w) (argv := ce.args.map a.eval) hc hgv (by simpa using hav) hcall
 have hrun : (execOp a.eval o).run P w = .ok (.enter fid ⟨av⟩) w := by
  simp [execOp, p1, resolve, p2, q1, q2]
 have hvl : VL (downK κ w rb rv) argsC av := VL.down hdn argsC av hsc (by rw [hargs]; exact q3)
 obtain ⟨e, w', fr, ⟨κ1, hC', out, r1, r2, r3, r4⟩, r5, r6, r7⟩ := hAF _ w av hrel hvl ((baseOf f).atR a (.inRegion ops (i :: rest) :: k) :: cs)
 obtain ⟨⟨lkb, lkv⟩, hk⟩ := hk out hC' r1
 obtain ⟨κ', u1, u2, u3⟩ := up_all hr hs r3 r2 lkb lkv
 have hgo := stepG_opn (P := P) (b := baseOf f) (k := k) (cs := cs) (w := w) (rest := rest) ho hw (by intro c; rw [p1]; simp)
 have henter : Go.step P (lone ((baseOf f).atR a (.inRegion ops (i :: rest) :: k)) cs w) = .next (lone (Frame.enter P fid ⟨av⟩ .normal) ((baseOf f).atR a (.inRegion ops (i :: rest) :: k) :: cs) w) :=
  step_lone_go (by rw [hgo]; simp [stepG.apply, hrun, Frame.atR])
 cases out with
 | ret v =>
  obtain ⟨x, s1, s2⟩ := r4
  subst s1
  have hfin : ((baseOf f).atR a (.inRegion ops (i :: rest) :: k)).finish x = (baseOf f).atR (a.put o.dst x) (.inRegion ops rest :: k) := by rw [Frame.finish_atR, ho]; rfl
  have hleave := step_leave_returned (c := (baseOf f).atR a (.inRegion ops (i :: rest) :: k)) (cs := cs) r7
  rw [hfin] at hleave
  exact .inr ⟨κ', w', _, x, _, hk, u2, u1, VR.up u3 _ _ s2, .head henter (Steps.trans r5 (.one hleave))⟩
 | pan v =>
  obtain ⟨x, s1, s2⟩ := r4
  subst s1
  have hleave := step_leave_panicked (c := (baseOf f).atR a (.inRegion ops (i :: rest) :: k)) (cs := cs) r7
  exact .inl ⟨_, w', ((baseOf f).atR a (.inRegion ops (i :: rest) :: k)).raise [{ v := x, recovered := false }], κ', _, .pan _, hk, u2, u1, ⟨x, rfl, VR.up u3 _ _ s2⟩, .head henter (Steps.trans r5 (.one hleave)), rfl, rfl, fun _ => hd.mono u2, ⟨fn, hf⟩, rfl, by rw [hk0]; intro p hp; simp at hp⟩
def XF (P : Program) (fid : FuncId) (args : List V) (v : V) : Prop := ∀ (κ : K) (w : World) (argv : List Value), VL κ args argv → ∃ y, (callFunc fid ⟨argv⟩).run P w = .ok (.value y) w ∧ VR κ v y
theorem calls_ext {κ : K} {w : World} {g : V} {args : List V} {fid : FuncId} {all : List V} {gv : Value} {argv : Array Value} (h : calls g args = some (fid, all)) (hg : VR κ g gv) (ha : VL κ args argv.toList) :
  ∃ d av, Deferred.ofValue gv argv = pure d ∧ (invoke d.target d.args).run P w = (callFunc fid ⟨av⟩).run P w ∧ VL κ all av := by
 unfold calls at h
 split at h
 ·rename_i f a c
  simp only [Option.some.injEq, Prod.mk.injEq] at h
  obtain ⟨e1, e2⟩ := h
  subst e1 e2
  simp only [VR, DR] at hg
  obtain ⟨a', c', e, h1, h2⟩ := hg
  subst e
  have : (⟨a'⟩ ++ argv ++ ⟨c'⟩ : Array Value) = ⟨a' ++ argv.toList ++ c'⟩ := by apply Array.ext'; simp
  exact ⟨_, a' ++ argv.toList ++ c', rfl, by rw [← this]; rfl, ((VL.ofD h1).append ha).append (VL.ofD h2)⟩
 ·rename_i f a c
  simp only [Option.some.injEq, Prod.mk.injEq] at h
  obtain ⟨e1, e2⟩ := h
  subst e1 e2
  simp only [VR] at hg
  obtain ⟨a', c', e, h1, h2⟩ := hg
  subst e
  have : (⟨a'⟩ ++ argv ++ ⟨c'⟩ : Array Value) = ⟨a' ++ argv.toList ++ c'⟩ := by apply Array.ext'; simp
  exact ⟨_, a' ++ argv.toList ++ c', rfl, by rw [← this]; rfl, (h1.append ha).append h2⟩
 ·simp at h
theorem EV.ext {Q : Out → H → Prop} {Φ : V → H → Prop} {ai : AI} {env : Env} {h : H} {g : Opd} {args : List Opd} {fid : FuncId} {all : List V} {v : V}
  (hop : ai.op = .call g args) (hg : gOk env ai.guard) (hc : calls (ev env g) (args.map (ev env)) = some (fid, all)) (hX : XF P fid all v) (hΦ : Φ v h) : EV P N f ai env h Q Φ := by
 intro κ w a k cs ops i rest o kill ho hcc hr he hd
 obtain ⟨o', o1, o2, o3, o4, o5, o6, o7⟩ := cAI_inv hcc
 rw [ho] at o1
 simp only [Option.some.injEq] at o1
 subst o1
 have hw := gOk_wanted he o7 hg
 rw [hop] at o5
 have : ∃ ce : Call, ∃ g0, o.op = .call ce ∧ ce.callee = .value g0 ∧ opd g0 = some g ∧ opds ce.args.toList = some args := by
  cases ho : o.op <;> rw [ho] at o5 <;> simp only [copA] at o5
  case call ce =>
   split at o5
   ·rename_i g0 hce
    split at o5
    ·rename_i g1 l1 z1 z2
     simp only [Option.some.injEq, AOp.call.injEq] at o5
     obtain ⟨z3, z4⟩ := o5
     subst z3 z4
     exact ⟨ce, g0, rfl, hce, z1, z2⟩
    ·simp at o5
   ·split at o5 <;> simp at o5
  all_goals first | (split at o5 <;> simp at o5; done) | ((repeat' split at o5) <;> simp at o5)
 obtain ⟨ce, g0, p1, p2, p3, p4⟩ := this
 have hρ := ev_sound he
 have hgv := hρ _ _ p3
 have hav := opds_sound (f := ev env) (ρ := a.eval) hρ p4
 obtain ⟨d, av, q1, q2, q3⟩ := calls_ext (P := P) (w := w) (argv := ce.args.map a.eval) hc hgv (by simpa using hav)
 obtain ⟨y, y1, y2⟩ := hX κ w av q3
 have hrun : (execOp a.eval o).run P w = .ok (.value y) w := by
  simp [execOp, p1, resolve, p2, q1, q2, y1]
 exact .inr ⟨κ, w, v, y, h, hΦ, Le.refl κ, hr, y2, .one (step_op_value ho hw (by intro c; rw [p1]; simp) rfl (.inl hrun))⟩
theorem AT.ev {chk : Array Oper → List (List AI) → Bool} {Q : Out → H → Prop} {Φ : V → H → Prop} {ai : AI} {r : List AI} {ks : List AItem} {env : Env} {h : H} (he : EV P N f ai env h Q Φ)
  (hk : ∀ v h', Φ v h' → AT P N chk f (.reg r :: ks) (put (dels env ai.kill) ai.dst v) h' Q) : AT P N chk f (.reg (ai :: r) :: ks) env h Q := by
 intro κ w a k cs hcs hr hE hd
 cases k with
 | nil => simp [CS] at hcs
 | cons x0 k =>
  obtain ⟨y, t, e, h3, h4⟩ := hcs
  simp only [List.cons.injEq] at e
  obtain ⟨e1, e2⟩ := e
  subst e1 e2
  cases x0 <;> simp only [CI] at h3
  rename_i ops l
  cases l with
  | nil => simp [RG] at h3
  | cons i rest =>
   obtain ⟨kill, ai', tl, c1, c2, c3⟩ := h3
   simp only [List.cons.injEq] at c2
   obtain ⟨c2, c4⟩ := c2
   subst c2 c4
   obtain ⟨o, o1, o2, o3, o4, o5, o6, o7⟩ := cAI_inv c1
   rcases he κ w a k cs ops i rest o kill o1 c1 hr hE hd with q | ⟨κ', w', v, x, h', q1, q2, q3, q4, q5⟩
   ·exact q
   ·refine Ends.of_steps q5 (Ends.le q2 (hk v h' q1 κ' w' _ _ cs ⟨_, _, rfl, c3, h4⟩ q3 ?_ ?_))
    ·rw [o3]
     exact ((hE.mono q2).dels ai.kill).putO o6 q4
    ·exact hd.put q2 _ _
end
end Go.SL
namespace Go.SL
def Before (ops : Array Oper) (a i : Nat) : Prop := ∀ L A B, Topo ops L → L = A ++ i :: B → a ∈ A
theorem Before.edge {ops : Array Oper} {a i : Nat} (h : a ∈ edges ops i) : Before ops a i := fun _ A B t e => t.ord A i B e a h
theorem Before.trans {ops : Array Oper} {a b i : Nat} (h : Before ops a b) (h2 : Before ops b i) : Before ops a i := by
 intro L A B t e
 obtain ⟨A1, A2, e2⟩ := List.append_of_mem (h2 L A B t e)
 have := h L A1 (A2 ++ i :: B) t (by rw [e, e2]; simp)
 rw [e2]; simp [this]
def addAll (l : List Nat) : List Nat → List Nat
 | [] => l
 | x :: r => match l.contains x with
  | true => addAll l r
  | false => addAll (x :: l) r
theorem mem_addAll : ∀ (r l : List Nat) (x : Nat), x ∈ addAll l r → x ∈ l ∨ x ∈ r
 | [], l, x, h => .inl h
 | y :: r, l, x, h => by
  simp only [addAll] at h
  split at h
  ·rcases mem_addAll r l x h with h | h
   ·exact .inl h
   ·exact .inr (by simp [h])
  ·rcases mem_addAll r _ x h with h | h
   ·rcases List.mem_cons.1 h with h | h
    ·exact .inr (by simp [h])
    ·exact .inl h
   ·exact .inr (by simp [h])
def look : List (Nat × List Nat) → Nat → List Nat
 | [], _ => []
 | (k, v) :: r, i => match Nat.beq k i with
  | true => v
  | false => look r i
def ups (T : List (Nat × List Nat)) : List Nat → List Nat → List Nat
 | acc, [] => acc
 | acc, e :: r => ups T (addAll acc (e :: look T e)) r
def ancT (ops : Array Oper) : List Nat → List (Nat × List Nat) → List (Nat × List Nat)
 | [], T => T
 | i :: r, T => ancT ops r ((i, ups T [] (edges ops i)) :: T)
def TOk (ops : Array Oper) (T : List (Nat × List Nat)) : Prop := ∀ i, ∀ a ∈ look T i, Before ops a i
theorem ups_ok {ops : Array Oper} {T : List (Nat × List Nat)} (hT : TOk ops T) {i : Nat} : ∀ (l acc : List Nat), (∀ a ∈ acc, Before ops a i) → (∀ e ∈ l, Before ops e i) → ∀ a ∈ ups T acc l, Before ops a i
 | [], acc, h, _, a, ha => h a ha
 | e :: r, acc, h, hl, a, ha => by
  refine ups_ok hT r _ (fun x hx => ?_) (fun e he => hl e (by simp [he])) a ha
  have he := hl e (by simp)
  rcases mem_addAll _ _ _ hx with hx | hx
  ·exact h x hx
  ·rcases List.mem_cons.1 hx with hx | hx
   ·rw [hx]; exact he
   ·exact (hT e x hx).trans he
theorem ancT_ok {ops : Array Oper} : ∀ (l : List Nat) (T : List (Nat × List Nat)), TOk ops T → TOk ops (ancT ops l T)
 | [], T, h => h
 | i :: r, T, h => by
  refine ancT_ok r _ fun j a ha => ?_
  simp only [look] at ha
  split at ha
  ·rename_i hb
   have := Nat.eq_of_beq_eq_true hb
   subst this
   exact ups_ok h (edges ops i) [] (by simp) (fun e he => .edge he) a ha
  ·exact h j a ha
def enum (T : List (Nat × List Nat)) : Nat → List Nat → List (List Nat)
 | 0, _ => [[]]
 | n + 1, R => match R with
  | [] => [[]]
  | R => (R.filter fun e => R.all fun x => !(look T e).contains x).flatMap fun e => (enum T n (R.filter fun x => !(Nat.beq x e))).map (e :: ·)
theorem enum_mem {ops : Array Oper} {T : List (Nat × List Nat)} (hT : TOk ops T) {L : List Nat} (hL : Topo ops L) (isE : Nat → Bool) : ∀ (L' M : List Nat) (n : Nat) (R : List Nat), L = M ++ L' → (∀ x, x ∈ R ↔ x ∈ L' ∧ isE x = true) → R.length ≤ n →
  L'.filter isE ∈ enum T n R
 | [], M, n, R, e, hR, hn => by
  have : R = [] := List.eq_nil_iff_forall_not_mem.2 fun x hx => by simpa using (hR x).1 hx
  subst this
  cases n <;> simp [enum]
 | i :: L', M, n, R, e, hR, hn => by
  have e' : L = (M ++ [i]) ++ L' := by rw [e]; simp
  by_cases hi : isE i = true
  ·have hiR : i ∈ R := (hR i).2 ⟨by simp, hi⟩
   cases n with
   | zero => have : R = [] := List.eq_nil_of_length_eq_zero (by omega)
             rw [this] at hiR; simp at hiR
   | succ n =>
    have hnd : (i :: L').Nodup := by
     have := hL.nodup
     rw [e] at this
     exact (List.nodup_append.1 this).2.1
    rw [List.filter_cons_of_pos hi]
    cases R with
    | nil => simp at hiR
    | cons y R =>
     simp only [enum]
     rw [List.mem_flatMap]
     refine ⟨i, ?_, ?_⟩
     ·rw [List.mem_filter]
      refine ⟨hiR, ?_⟩
      rw [List.all_eq_true]
      intro x hx
      cases hc : (look T i).contains x with
      | false => rfl
      | true =>
       have hb := hT i x (by simpa using hc) L M L' hL e
       have hx2 := ((hR x).1 hx).1
       have := hL.nodup
       rw [e] at this
       exact absurd rfl ((List.nodup_append.1 this).2.2 x hb x hx2)
     ·rw [List.mem_map]
      refine ⟨_, enum_mem hT hL isE L' (M ++ [i]) n _ e' (fun x => ?_) ?_, rfl⟩
      ·rw [List.mem_filter, hR x]
       simp only [List.mem_cons]
       constructor
       ·rintro ⟨⟨h1, h2⟩, h3⟩
        refine ⟨?_, h2⟩
        rcases h1 with h1 | h1
        ·subst h1; simp at h3
        ·exact h1
       ·rintro ⟨h1, h2⟩
        refine ⟨⟨.inr h1, h2⟩, ?_⟩
        rw [beq_ne (fun he => by subst he; exact (List.nodup_cons.1 hnd).1 h1)]; rfl
      ·have hlt : ((y :: R).filter fun x => !(Nat.beq x i)).length < (y :: R).length := by
        rw [List.length_filter_lt_length_iff_exists]
        exact ⟨i, hiR, by simp⟩
       omega
  ·rw [List.filter_cons_of_neg hi]
   refine enum_mem hT hL isE L' (M ++ [i]) n R e' (fun x => ?_) hn
   rw [hR x]
   simp only [List.mem_cons]
   constructor
   ·rintro ⟨h1 | h1, h2⟩
    ·subst h1; exact absurd h2 hi
    ·exact ⟨h1, h2⟩
   ·rintro ⟨h1, h2⟩
    exact ⟨.inr h1, h2⟩
def ixs (l : List AI) : List Nat := l.map (·.ix)
def evL (l : List AI) : List Nat := ixs (l.filter fun a => !isRead a)
structure OK (P : Program) (N : Nat) (ops : Array Oper) (ord : List AI) : Prop where
 topo : Topo ops (ixs ord)
 ce : ∀ a ∈ ord, ∃ kill, cAI P N ops a.ix kill = some a
 asap : ∀ A r B, ord = A ++ r :: B → isRead r = true → ∀ A1 e A2, A = A1 ++ e :: A2 → isRead e = false → ∃ x ∈ edges ops r.ix, x ∈ ixs (e :: A2)
 slots : ∀ a ∈ ord, ∀ t ∈ slI a, ∀ b ∈ ord, b.dst = some t → b.ix ∈ edges ops a.ix ∨ (isRead b = false ∧ Before ops a.ix b.ix)
 dsts : ∀ a ∈ ord, ∀ b ∈ ord, ∀ d, a.dst = some d → b.dst = some d → a.ix = b.ix
 pend : ∀ A e B, ord = A ++ e :: B → isRead e = false → ∀ r ∈ A, isRead r = true → r.ix ∈ e.kill ∨ Before ops r.ix e.ix
theorem OK.inj {P : Program} {N : Nat} {ops : Array Oper} {ord : List AI} (h : OK P N ops ord) {a b : AI} (ha : a ∈ ord) (hb : b ∈ ord) (e : a.ix = b.ix) : a = b := by
 have hn := h.topo.nodup
 unfold ixs at hn
 obtain ⟨i, hi, e1⟩ := List.getElem_of_mem ha
 obtain ⟨j, hj, e2⟩ := List.getElem_of_mem hb
 have : i = j := (List.getElem_inj hn (h₀ := by simpa using hi) (h₁ := by simpa using hj)).1 (by simp [e1, e2, e])
 subst this
 rw [← e1, ← e2]
def RDok (h : H) (E : Env) (r : AI) : Prop := ∃ v, xai h E r = some (v, h, true) ∧ ∀ d, r.dst = some d → get E d = v
def RC (h : H) (E : Env) (done : List AI) (kill : List Nat) : Prop := ∀ r ∈ done, r.ix ∈ kill → isRead r = true → RDok h E r
section
variable (P : Program) (N : Nat) (chk : Array Oper → List (List AI) → Bool) (f : FD) (ks : List AItem) (Q : Out → H → Prop)
def ATD : List AI → List AI → Env → H → Prop
 | _, [], env, h => AT P N chk f ks env h Q
 | done, r :: l, env, h => match isRead r with
  | true => ∃ v, xai h env r = some (v, h, true) ∧ ATD (r :: done) l (put env r.dst v) h
  | false => EV P N f r (mask (slI r) env) h Q (fun v h' => RC h' (put env r.dst v) done r.kill ∧ ATD (r :: done) l (put env r.dst v) h')
end
theorem get_put (env : Env) (d : Option Nat) (v : V) (t : Nat) : get (put env d v) t = if d = some t then v else get env t := by
 cases d with
 | none => simp [put]
 | some d =>
  simp only [put, get]
  by_cases h : d = t
  ·subst h; rw [Nat.beq_refl]; simp
  ·rw [beq_ne h, get_del]
   have h' : ¬ t = d := fun e => h e.symm
   simp [h, h']
theorem tmps_put (a : Act) (d : Option Nat) (x : Value) (t : Nat) (ht : ∀ k, d = some k → k < a.tmps.size) : (a.put d x).tmps.getD t undef = if d = some t then x else a.tmps.getD t undef := by
 cases d with
 | none => simp [Act.put]
 | some d =>
  have := ht d rfl
  simp only [Act.put, Array.getD_eq_getD_getElem?, Array.getElem?_setIfInBounds, Option.some.injEq]
  by_cases h : d = t
  ·subst h; simp [this]
  ·simp [h]
theorem size_put (a : Act) (d : Option Nat) (x : Value) : (a.put d x).tmps.size = a.tmps.size := by cases d <;> simp [Act.put]
end Go.SL
namespace Go.SL
section
variable {P : Program} {N : Nat} {chk : Array Oper → List (List AI) → Bool} {f : FD} {ks : List AItem} {Q : Out → H → Prop}
theorem mem_ixs {l : List AI} {i : Nat} : i ∈ ixs l ↔ ∃ a ∈ l, a.ix = i := by simp [ixs]
theorem ER.masked {κ : K} {env : Env} {tmps : Array Value} {S : List Nat} (hN : N ≤ tmps.size) (h : ∀ t ∈ S, VR κ (get env t) (tmps.getD t undef)) : ER N κ (mask S env) tmps := by
 refine ⟨hN, fun t => ?_⟩
 rw [get_mask]
 split
 ·rename_i ht; exact h t ht
 ·simp [VR]
theorem drawn_run {ops : Array Oper} {ord : List AI} (hok : OK P N ops ord) {L : List Nat} (hL : Topo ops L) (isE : Nat → Bool) (hE : ∀ a ∈ ord, isE a.ix = !isRead a) :
  ∀ (n : Nat) (l A : List AI) (M L' : List Nat) (env : Env) (h : H) (κ : K) (w : World) (a : Act) (k : List Item) (cs : List Frame),
   l.length + L'.length ≤ n → ord = A.reverse ++ l → L = M ++ L' → (∀ i ∈ M, ∃ r ∈ A, r.ix = i) → L'.filter isE = evL l → ATD P N chk f ks Q A l env h → Rel κ h w →
   N ≤ a.tmps.size → (∀ t, (∀ r ∈ A, r.dst = some t → r.ix ∈ M) → VR κ (get env t) (a.tmps.getD t undef)) → CS P N chk k ks → DefR κ f.dv a.defers →
   (∀ r ∈ A, r.ix ∉ M → isRead r = true ∧ RDok h env r) → Ends P f (lone ((baseOf f).atR a (.inRegion ops L' :: k)) cs w) cs κ Q := by
 intro n
 induction n with
 | zero =>
  intro l A M L' env h κ w a k cs hn ho hLM hMA hev hatd hr hN hv hcs hd hrd
  have hl : l = [] := List.eq_nil_of_length_eq_zero (by omega)
  have hl' : L' = [] := List.eq_nil_of_length_eq_zero (by omega)
  subst hl hl'
  simp only [ATD] at hatd
  refine Ends.of_steps (.one stepR_region_end) (hatd κ w a k cs hcs hr ⟨hN, fun t => hv t fun r hrA _ => ?_⟩ hd)
  have : r.ix ∈ ixs ord := mem_ixs.2 ⟨r, by rw [ho]; simp [hrA], rfl⟩
  have := (hL.mem r.ix).2 ((hok.topo.mem _).1 this)
  rw [hLM] at this; simpa using this
 | succ n ih =>
  intro l A M L' env h κ w a k cs hn ho hLM hMA hev hatd hr hN hv hcs hd hrd
  have hnd : (ixs ord).Nodup := hok.topo.nodup
  have hsplit : ixs ord = ixs A.reverse ++ ixs l := by rw [ho]; simp [ixs]
  have hAl : ∀ r ∈ A, ∀ b ∈ l, r.ix ≠ b.ix := by
   intro r hr b hb e
   rw [hsplit] at hnd
   exact (List.nodup_append.1 hnd).2.2 r.ix (mem_ixs.2 ⟨r, by simpa using hr, rfl⟩) b.ix (mem_ixs.2 ⟨b, hb, rfl⟩) e
  have hAo : ∀ r ∈ A, r ∈ ord := fun r hr => by rw [ho]; simp [hr]
  have hlo : ∀ r ∈ l, r ∈ ord := fun r hr => by rw [ho]; simp [hr]
  have hmask : ∀ (b : AI), b ∈ ord → ∀ L'', L' = b.ix :: L'' → ER N κ (mask (slI b) env) a.tmps := by
   intro b hb L'' hL''
   refine ER.masked hN fun t ht => hv t fun r hrA hdst => ?_
   rcases hok.slots b hb t ht r (hAo r hrA) hdst with hed | ⟨hev', _⟩
   ·exact hL.ord M b.ix L'' (by rw [hLM, hL'']) _ hed
   ·apply Classical.byContradiction
    intro hnm
    have := (hrd r hrA hnm).1
    rw [hev'] at this
    simp at this
  cases L' with
  | nil =>
   cases l with
   | nil =>
    simp only [ATD] at hatd
    refine Ends.of_steps (.one stepR_region_end) (hatd κ w a k cs hcs hr ⟨hN, fun t => hv t fun r hrA _ => ?_⟩ hd)
    have : r.ix ∈ ixs ord := mem_ixs.2 ⟨r, hAo r hrA, rfl⟩
    have := (hL.mem r.ix).2 ((hok.topo.mem _).1 this)
    rw [hLM] at this; simpa using this
   | cons b l =>
    exfalso
    have : b.ix ∈ ixs ord := mem_ixs.2 ⟨b, hlo b (by simp), rfl⟩
    have := (hL.mem b.ix).2 ((hok.topo.mem _).1 this)
    rw [hLM] at this
    obtain ⟨r, h1, h2⟩ := hMA b.ix (by simpa using this)
    exact hAl r h1 b (by simp) h2
  | cons i L'' =>
   have hLM' : L = (M ++ [i]) ++ L'' := by rw [hLM]; simp
   have hiM : i ∉ M := by
    have := hL.nodup
    rw [hLM] at this
    exact fun hi => (List.nodup_append.1 this).2.2 i hi i (by simp) rfl
   by_cases hA : ∃ r ∈ A, r.ix = i
   ·
    obtain ⟨r, hrA, hri⟩ := hA
    subst hri
    obtain ⟨hread, v, hx, hdv⟩ := hrd r hrA hiM
    obtain ⟨kill, hce⟩ := hok.ce r (hAo r hrA)
    obtain ⟨o, o1, o2, o3, o4, o5, o6, o7⟩ := cAI_inv hce
    have hx' : xai h (mask (slI r) env) r = some (v, h, true) := by
     rw [← hx]
     exact xai_congr h r fun t ht => by rw [get_mask, if_pos ht]
    rcases EV.o (Q := Q) (Φ := fun v' h' => v' = v ∧ h' = h) (f := f) hx' rfl ⟨rfl, rfl⟩ κ w a k cs ops r.ix L'' o kill o1 hce hr (hmask r (hAo r hrA) L'' rfl) hd with he | ⟨κ', w', v', x, h', ⟨e1, e2⟩, r2, r3, r4, r5⟩
    ·exact he
    ·subst e1 e2
     have hd6 : ∀ k, o.dst = some k → k < a.tmps.size := fun k e => Nat.lt_of_lt_of_le (o6 k e) hN
     refine Ends.of_steps r5 (Ends.le r2 ?_)
     refine ih l A (M ++ [r.ix]) L'' env h' κ' w' (a.put o.dst x) k cs (by simp at hn; omega) ho hLM' (fun j hj => ?_) ?_ hatd r3 (by rw [size_put]; exact hN) (fun t ht => ?_) hcs (hd.put r2 _ _) (fun r' hr' hn' => hrd r' hr' (fun hm => hn' (by simp [hm])))
     ·rcases List.mem_append.1 hj with hj | hj
      ·exact hMA j hj
      ·exact ⟨r, hrA, (List.mem_singleton.1 hj).symm⟩
     ·rw [List.filter_cons_of_neg (by rw [hE r (hAo r hrA), hread]; simp)] at hev
      exact hev
     ·rw [tmps_put _ _ _ _ hd6]
      by_cases hdt : o.dst = some t
      ·rw [if_pos hdt, hdv t (by rw [o3]; exact hdt)]; exact r4
      ·rw [if_neg hdt]
       refine (hv t fun r' hr' hdst => ?_).mono r2
       rcases List.mem_append.1 (ht r' hr' hdst) with hm | hm
       ·exact hm
       ·have : r' = r := hok.inj (hAo r' hr') (hAo r hrA) (by simpa using hm)
        subst this
        rw [o3] at hdst
        exact absurd hdst hdt
   ·
    have hi : i ∈ ixs ord := (hok.topo.mem i).2 ((hL.mem i).1 (by rw [hLM]; simp))
    obtain ⟨b, hb, hbi⟩ := mem_ixs.1 hi
    have hbl : b ∈ l := by
     rw [ho] at hb
     rcases List.mem_append.1 hb with hb | hb
     ·exact absurd ⟨b, by simpa using hb, hbi⟩ hA
     ·exact hb
    cases l with
    | nil => simp at hbl
    | cons j l =>
     have hjo : j ∈ ord := hlo j (by simp)
     have ho' : ord = (j :: A).reverse ++ l := by rw [ho]; simp
     have hjM : j.ix ∉ M := fun hm => by
      obtain ⟨r, h1, h2⟩ := hMA _ hm
      exact hAl r h1 j (by simp) h2
     have hjA : j.ix ∉ ixs A.reverse := fun hm => by
      obtain ⟨r, h1, h2⟩ := mem_ixs.1 hm
      exact hAl r (by simpa using h1) j (by simp) h2
     have hno : ∀ r ∈ A, j.ix ∉ edges ops r.ix := by
      intro r hrA he
      obtain ⟨C, D, e⟩ := List.append_of_mem (show r ∈ A.reverse by simpa using hrA)
      have := hok.topo.ord (ixs C) r.ix (ixs D ++ ixs (j :: l)) (by rw [hsplit, e]; simp [ixs]) j.ix he
      exact hjA (by rw [e]; simp only [ixs, List.map_append, List.mem_append]; exact .inl this)
     have hnj : j.ix ∉ edges ops j.ix := by
      intro he
      have := hok.topo.ord (ixs A.reverse) j.ix (ixs l) (by rw [hsplit]; simp [ixs]) j.ix he
      exact hjA this
     cases hread : isRead j with
     | true =>
      simp only [ATD, hread] at hatd
      obtain ⟨v, hx, hatd⟩ := hatd
      have hkeep : ∀ r ∈ ord, j.ix ∉ edges ops r.ix → xai h (put env j.dst v) r = xai h env r := by
       intro r hro hne
       refine xai_congr h r fun t ht => ?_
       rw [get_put, if_neg]
       intro e
       rcases hok.slots r hro t ht j hjo e with hed | ⟨hev', _⟩
       ·exact hne hed
       ·rw [hread] at hev'; simp at hev'
      refine ih l (j :: A) M (i :: L'') (put env j.dst v) h κ w a k cs (by simp at hn ⊢; omega) ho' hLM (fun i hi => ?_) ?_ hatd hr hN (fun t ht => ?_) hcs hd ?_
      ·obtain ⟨r, h1, h2⟩ := hMA i hi
       exact ⟨r, by simp [h1], h2⟩
      ·rw [hev]; simp [evL, hread]
      ·rw [get_put, if_neg (fun e => hjM (ht j (by simp) e))]
       exact hv t fun r hrA hdst => ht r (by simp [hrA]) hdst
      ·intro r hrA hrM
       rcases List.mem_cons.1 hrA with e | hrA
       ·subst e
        refine ⟨hread, v, by rw [hkeep r hjo hnj]; exact hx, fun d hd => by rw [get_put, if_pos hd]⟩
       ·obtain ⟨q1, v', q2, q3⟩ := hrd r hrA hrM
        refine ⟨q1, v', by rw [hkeep r (hAo r hrA) (hno r hrA)]; exact q2, fun d hd => ?_⟩
        rw [get_put, if_neg]
        ·exact q3 d hd
        ·intro e
         exact hAl r hrA j (by simp) (hok.dsts r (hAo r hrA) j hjo d hd e)
     | false =>
      have hij : i = j.ix := by
       rcases List.mem_cons.1 hbl with e | hbl'
       ·rw [← hbi, e]
       ·cases hbr : isRead b with
        | true =>
         obtain ⟨C, D, e⟩ := List.append_of_mem hbl'
         obtain ⟨x, x1, x2⟩ := hok.asap (A.reverse ++ j :: C) b D (by rw [ho, e]; simp) hbr A.reverse j C rfl hread
         rw [hbi] at x1
         have hxM := hL.ord M i L'' hLM x x1
         obtain ⟨r, h1, h2⟩ := hMA x hxM
         obtain ⟨c, c1, c2⟩ := mem_ixs.1 x2
         refine absurd (h2.trans c2.symm) (hAl r h1 c ?_)
         rw [e]
         rcases List.mem_cons.1 c1 with c1 | c1
         ·simp [c1]
         ·simp [c1]
        | false =>
         rw [List.filter_cons_of_pos (by rw [← hbi, hE b (hlo b hbl), hbr]; rfl)] at hev
         have : evL (j :: l) = j.ix :: evL l := by simp [evL, hread, ixs]
         rw [this] at hev
         simp only [List.cons.injEq] at hev
         exact hev.1
      subst hij
      simp only [ATD, hread] at hatd
      obtain ⟨kill, hce⟩ := hok.ce j hjo
      obtain ⟨o, o1, o2, o3, o4, o5, o6, o7⟩ := cAI_inv hce
      rcases hatd κ w a k cs ops j.ix L'' o kill o1 hce hr (hmask j hjo L'' rfl) hd with he | ⟨κ', w', v, x, h', ⟨hrc, hatd⟩, r2, r3, r4, r5⟩
      ·exact he
      ·have hd6 : ∀ k, o.dst = some k → k < a.tmps.size := fun k e => Nat.lt_of_lt_of_le (o6 k e) hN
       refine Ends.of_steps r5 (Ends.le r2 ?_)
       refine ih l (j :: A) (M ++ [j.ix]) L'' (put env j.dst v) h' κ' w' (a.put o.dst x) k cs (by simp at hn; omega) ho' hLM' (fun i hi => ?_) ?_ hatd r3 (by rw [size_put]; exact hN) (fun t ht => ?_) hcs (hd.put r2 _ _) ?_
       ·rcases List.mem_append.1 hi with hi | hi
        ·obtain ⟨r, h1, h2⟩ := hMA i hi
         exact ⟨r, by simp [h1], h2⟩
        ·exact ⟨j, by simp, (List.mem_singleton.1 hi).symm⟩
       ·rw [List.filter_cons_of_pos (by rw [hE j hjo, hread]; rfl)] at hev
        have : evL (j :: l) = j.ix :: evL l := by simp [evL, hread, ixs]
        rw [this] at hev
        simp only [List.cons.injEq] at hev
        exact hev.2
       ·rw [tmps_put _ _ _ _ hd6, get_put, o3]
        by_cases hdt : o.dst = some t
        ·rw [if_pos hdt, if_pos hdt]; exact r4
        ·rw [if_neg hdt, if_neg hdt]
         refine (hv t fun r' hr' hdst => ?_).mono r2
         rcases List.mem_append.1 (ht r' (by simp [hr']) hdst) with hm | hm
         ·exact hm
         ·exact absurd (by simpa using hm) (hAl r' hr' j (by simp))
       ·intro r hrA hrM
        rcases List.mem_cons.1 hrA with e | hrA
        ·subst e; simp at hrM
        ·have hrM' : r.ix ∉ M := fun hm => hrM (by simp [hm])
         obtain ⟨q1, _⟩ := hrd r hrA hrM'
         refine ⟨q1, ?_⟩
         rcases hok.pend A.reverse j l ho hread r (by simpa using hrA) q1 with hk | hb
         ·exact hrc r hrA hk q1
         ·exact absurd (hb L M L'' hL hLM) hrM'
end
end Go.SL
namespace Go.SL
def eqL : List Nat → List Nat → Bool
 | [], [] => true
 | a :: l, b :: r => Nat.beq a b && eqL l r
 | _, _ => false
theorem eqL_eq : ∀ {l r : List Nat}, eqL l r = true → l = r
 | [], [], _ => rfl
 | a :: l, b :: r, h => by
  simp only [eqL, Bool.and_eq_true] at h
  rw [Nat.eq_of_beq_eq_true h.1, eqL_eq h.2]
 | [], _ :: _, h => by simp [eqL] at h
 | _ :: _, [], h => by simp [eqL] at h
def hasN : List Nat → Nat → Bool
 | [], _ => false
 | a :: l, x => match Nat.beq a x with
  | true => true
  | false => hasN l x
theorem hasN_iff : ∀ {l : List Nat} {x : Nat}, hasN l x = true ↔ x ∈ l
 | [], x => by simp [hasN]
 | a :: l, x => by
  simp only [hasN]
  by_cases h : a = x
  ·subst h; rw [Nat.beq_refl]; simp
  ·rw [beq_ne h]
   have h' : ¬ x = a := fun e => h e.symm
   simp [hasN_iff, h']
def respB (ops : Array Oper) : List Nat → List Nat → Bool
 | _, [] => true
 | seen, i :: r => !hasN seen i && Nat.blt i ops.size && (edges ops i).all (hasN seen) && respB ops (i :: seen) r
theorem respB_sound {ops : Array Oper} : ∀ (l seen : List Nat), respB ops seen l = true → l.Nodup ∧ (∀ i ∈ l, i < ops.size ∧ i ∉ seen) ∧ ∀ A i B, l = A ++ i :: B → ∀ e ∈ edges ops i, e ∈ A ∨ e ∈ seen
 | [], seen, h => ⟨List.nodup_nil, by simp, fun A i B e => by have := congrArg List.length e; simp at this⟩
 | j :: r, seen, h => by
  simp only [respB, Bool.and_eq_true, Bool.not_eq_true', Nat.blt_eq] at h
  obtain ⟨⟨⟨h1, h2⟩, h3⟩, h4⟩ := h
  obtain ⟨g1, g2, g3⟩ := respB_sound r _ h4
  have hj : j ∉ seen := fun hm => by rw [hasN_iff.2 hm] at h1; simp at h1
  refine ⟨List.nodup_cons.2 ⟨fun hm => (g2 j hm).2 (by simp), g1⟩, fun i hi => ?_, fun A i B e x hx => ?_⟩
  ·rcases List.mem_cons.1 hi with e | hi
   ·subst e; exact ⟨h2, hj⟩
   ·exact ⟨(g2 i hi).1, fun hm => (g2 i hi).2 (by simp [hm])⟩
  ·cases A with
   | nil =>
    simp only [List.nil_append, List.cons.injEq] at e
    obtain ⟨e, _⟩ := e
    subst e
    rw [List.all_eq_true] at h3
    exact .inr (hasN_iff.1 (h3 x hx))
   | cons c A =>
    simp only [List.cons_append, List.cons.injEq] at e
    obtain ⟨e1, e2⟩ := e
    subst e1
    rcases g3 A i B e2 x hx with h | h
    ·exact .inl (by simp [h])
    ·rcases List.mem_cons.1 h with h | h
     ·exact .inl (by simp [h])
     ·exact .inr h
def asapB (ops : Array Oper) : List Nat → List AI → Bool
 | _, [] => true
 | S, a :: l => match isRead a with
  | true => match S with
   | [] => asapB ops [] l
   | x :: S => (edges ops a.ix).any (hasN (x :: S)) && asapB ops (a.ix :: x :: S) l
  | false => asapB ops [a.ix] l
def AsapI (A : List AI) (S : List Nat) : Prop := ∀ A1 e A2, A = A1 ++ e :: A2 → isRead e = false → S ≠ [] ∧ ∀ x ∈ S, x ∈ ixs (e :: A2)
theorem snoc_split {α : Type} {A A1 A2 : List α} {a e : α} (h : A ++ [a] = A1 ++ e :: A2) : (A1 = A ∧ e = a ∧ A2 = []) ∨ ∃ A3, A2 = A3 ++ [a] ∧ A = A1 ++ e :: A3 := by
 rcases List.eq_nil_or_concat A2 with e1 | ⟨A3, z, e1⟩
 ·subst e1
  have := List.append_inj' h rfl
  simp only [List.cons.injEq, and_true] at this
  exact .inl ⟨this.1.symm, this.2.symm, rfl⟩
 ·subst e1
  have h' : A ++ [a] = (A1 ++ e :: A3) ++ [z] := by rw [h]; simp
  have := List.append_inj' h' rfl
  simp only [List.cons.injEq, and_true] at this
  exact .inr ⟨A3, by rw [this.2]; simp, this.1⟩
theorem asapB_sound {ops : Array Oper} : ∀ (l A : List AI) (S : List Nat), asapB ops S l = true → AsapI A S →
  ∀ A' r B, A ++ l = A' ++ r :: B → A.length ≤ A'.length → isRead r = true → ∀ A1 e A2, A' = A1 ++ e :: A2 → isRead e = false → ∃ x ∈ edges ops r.ix, x ∈ ixs (e :: A2)
 | [], A, S, h, hI, A', r, B, e, hl, _, _, _, _, _, _ => by
  have := congrArg List.length e
  simp at this; omega
 | a :: l, A, S, h, hI, A', r, B, e, hl, hr, A1, ev, A2, hA', hev => by
  have e' : (A ++ [a]) ++ l = A' ++ r :: B := by rw [← e]; simp
  by_cases hlen : A.length = A'.length
  ·obtain ⟨e1, e2⟩ := List.append_inj e hlen
   simp only [List.cons.injEq] at e2
   obtain ⟨e2, e3⟩ := e2
   subst e1 e2
   obtain ⟨q1, q2⟩ := hI A1 ev A2 hA' hev
   simp only [asapB, hr] at h
   cases S with
   | nil => exact absurd rfl q1
   | cons x S =>
    simp only [Bool.and_eq_true] at h
    obtain ⟨y, y1, y2⟩ := List.any_eq_true.1 h.1
    exact ⟨y, y1, q2 y (hasN_iff.1 y2)⟩
  ·have hl2 : (A ++ [a]).length ≤ A'.length := by simp; omega
   simp only [asapB] at h
   split at h
   ·rename_i hra
    split at h
    ·refine asapB_sound l (A ++ [a]) [] h (fun B1 e0 B2 q1 q2 => ?_) A' r B e' hl2 hr A1 ev A2 hA' hev
     rcases snoc_split q1 with ⟨_, e1, _⟩ | ⟨A3, _, e1⟩
     ·subst e1; rw [hra] at q2; simp at q2
     ·exact absurd rfl (hI B1 e0 A3 e1 q2).1
    ·rename_i x S
     simp only [Bool.and_eq_true] at h
     refine asapB_sound l (A ++ [a]) _ h.2 (fun B1 e0 B2 q1 q2 => ⟨by simp, fun y hy => ?_⟩) A' r B e' hl2 hr A1 ev A2 hA' hev
     rcases snoc_split q1 with ⟨_, e1, _⟩ | ⟨A3, e0', e1⟩
     ·subst e1; rw [hra] at q2; simp at q2
     ·subst e0'
      rcases List.mem_cons.1 hy with hy | hy
      ·subst hy; simp [ixs]
      ·have := (hI B1 e0 A3 e1 q2).2 y hy
       simp only [ixs, List.map_cons, List.map_append, List.mem_cons, List.mem_append] at this ⊢
       rcases this with h | h
       ·exact .inl h
       ·exact .inr (.inl h)
   ·refine asapB_sound l (A ++ [a]) _ h (fun B1 e0 B2 q1 q2 => ⟨by simp, fun y hy => ?_⟩) A' r B e' hl2 hr A1 ev A2 hA' hev
    have hy : y = a.ix := by simpa using hy
    subst hy
    rcases snoc_split q1 with ⟨_, e1, _⟩ | ⟨A3, e0', e1⟩
    ·subst e1; simp [ixs]
    ·subst e0'; simp [ixs]
def slotsB (ops : Array Oper) (T : List (Nat × List Nat)) (ord : List AI) : Bool :=
 ord.all fun a => (slI a).all fun t => ord.all fun b => match b.dst with
  | some d => match Nat.beq d t with
   | true => hasN (edges ops a.ix) b.ix || (!isRead b && hasN (look T b.ix) a.ix)
   | false => true
  | none => true
def dstsB (ord : List AI) : Bool :=
 ord.all fun a => match a.dst with
  | some d => ord.all fun b => match b.dst with
   | some e => match Nat.beq d e with
    | true => Nat.beq a.ix b.ix
    | false => true
   | none => true
  | none => true
def pendB (T : List (Nat × List Nat)) : List AI → List AI → Bool
 | _, [] => true
 | done, e :: l => (match isRead e with
  | true => true
  | false => done.all fun r => match isRead r with
   | true => hasN e.kill r.ix || hasN (look T e.ix) r.ix
   | false => true) && pendB T (e :: done) l
theorem pendB_sound {T : List (Nat × List Nat)} : ∀ (l done : List AI), pendB T done l = true → ∀ A e B, l = A ++ e :: B → isRead e = false → ∀ r, (r ∈ A ∨ r ∈ done) → isRead r = true → r.ix ∈ e.kill ∨ r.ix ∈ look T e.ix
 | [], done, h, A, e, B, he => by have := congrArg List.length he; simp at this
 | j :: l, done, h, A, e, B, he => by
  intro hev r hr hrr
  simp only [pendB, Bool.and_eq_true] at h
  cases A with
  | nil =>
   simp only [List.nil_append, List.cons.injEq] at he
   obtain ⟨e1, e2⟩ := he
   subst e1
   rw [hev] at h
   have hm : r ∈ done := by simpa using hr
   have := List.all_eq_true.1 h.1 r hm
   rw [hrr] at this
   simp only [Bool.or_eq_true] at this
   rcases this with h | h
   ·exact .inl (hasN_iff.1 h)
   ·exact .inr (hasN_iff.1 h)
  | cons c A =>
   simp only [List.cons_append, List.cons.injEq] at he
   obtain ⟨e1, e2⟩ := he
   subst e1
   refine pendB_sound l (j :: done) h.2 A e B e2 hev r ?_ hrr
   rcases hr with hr | hr
   ·rcases List.mem_cons.1 hr with hr | hr
    ·exact .inr (by simp [hr])
    ·exact .inl hr
   ·exact .inr (by simp [hr])
def ordB (ops : Array Oper) (T : List (Nat × List Nat)) (E0 : List Nat) (ord : List AI) : Bool :=
 Nat.beq ord.length ops.size && respB ops [] (ixs ord) && asapB ops [] ord && slotsB ops T ord && dstsB ord && pendB T [] ord && ord.all (fun a => match isRead a with
  | true => !hasN E0 a.ix
  | false => hasN E0 a.ix)
def chkD (ops : Array Oper) : List (List AI) → Bool
 | [] => false
 | o :: os => edgesOk ops && (let T := ancT ops (ixs o) []
  let E0 := evL o
  (o :: os).all (ordB ops T E0) && (enum T E0.length E0).all fun s => (o :: os).any fun o => eqL (evL o) s)
section
variable {P : Program} {N : Nat} {f : FD} {Q : Out → H → Prop}
theorem cAIs_mem {ops : Array Oper} : ∀ {l : List (Nat × List Nat)} {r : List AI}, cAIs P N ops l = some r → ∀ a ∈ r, ∃ kill, cAI P N ops a.ix kill = some a
 | [], r, h, a, ha => by simp only [cAIs, Option.some.injEq] at h; subst h; simp at ha
 | (ix, kill) :: l, r, h, a, ha => by
  simp only [cAIs] at h
  split at h
  ·rename_i a0 l0 h1 h2
   simp only [Option.some.injEq] at h
   subst h
   rcases List.mem_cons.1 ha with e | ha
   ·subst e
    obtain ⟨o, o1, o2, _⟩ := cAI_inv h1
    exact ⟨kill, by rw [o2]; exact h1⟩
   ·exact cAIs_mem h2 a ha
  ·simp at h
theorem cOrds_mem {ops : Array Oper} : ∀ {l : List (List (Nat × List Nat))} {r : List (List AI)}, cOrds P N ops l = some r → ∀ o ∈ r, ∀ a ∈ o, ∃ kill, cAI P N ops a.ix kill = some a
 | [], r, h, o, ho => by simp only [cOrds, Option.some.injEq] at h; subst h; simp at ho
 | x :: l, r, h, o, ho => by
  simp only [cOrds] at h
  split at h
  ·rename_i a0 l0 h1 h2
   simp only [Option.some.injEq] at h
   subst h
   rcases List.mem_cons.1 ho with e | ho
   ·subst e; exact cAIs_mem h1
   ·exact cOrds_mem h2 o ho
  ·simp at h
theorem ordB_ok {ops : Array Oper} {T : List (Nat × List Nat)} (hT : TOk ops T) {E0 : List Nat} {ord : List AI} (hce : ∀ a ∈ ord, ∃ kill, cAI P N ops a.ix kill = some a) (h : ordB ops T E0 ord = true) :
  OK P N ops ord ∧ ∀ a ∈ ord, hasN E0 a.ix = !isRead a := by
 unfold ordB at h
 simp only [Bool.and_eq_true] at h
 obtain ⟨⟨⟨⟨⟨⟨h1, h2⟩, h3⟩, h4⟩, h5⟩, h6⟩, h7⟩ := h
 obtain ⟨g1, g2, g3⟩ := respB_sound _ _ h2
 refine ⟨⟨⟨g1, fun i => ⟨fun hi => (g2 i hi).1, full_of _ g1 (fun i hi => (g2 i hi).1) (by rw [← Nat.eq_of_beq_eq_true h1]; simp [ixs]) i⟩, fun A i B e x hx => ?_⟩, hce, ?_, ?_, ?_, ?_⟩, ?_⟩
 ·rcases g3 A i B e x hx with h | h
  ·exact h
  ·simp at h
 ·intro A r B e hr
  exact asapB_sound ord [] [] h3 (fun A1 e A2 q => by have := congrArg List.length q; simp at this) A r B (by simpa using e) (by simp) hr
 ·intro a ha t ht b hb hd
  have := List.all_eq_true.1 (List.all_eq_true.1 (List.all_eq_true.1 h4 a ha) t ht) b hb
  rw [hd] at this
  simp only [Nat.beq_refl, Bool.or_eq_true, Bool.and_eq_true, Bool.not_eq_true'] at this
  rcases this with h | ⟨h, h'⟩
  ·exact .inl (hasN_iff.1 h)
  ·exact .inr ⟨h, hT _ _ (hasN_iff.1 h')⟩
 ·intro a ha b hb d e1 e2
  have := List.all_eq_true.1 h5 a ha
  rw [e1] at this
  have := List.all_eq_true.1 this b hb
  rw [e2] at this
  simp only [Nat.beq_refl] at this
  exact Nat.eq_of_beq_eq_true this
 ·intro A e B he hev r hr hrr
  rcases pendB_sound ord [] h6 A e B he hev r (.inl hr) hrr with h | h
  ·exact .inl h
  ·exact .inr (hT _ _ h)
 ·intro a ha
  have := List.all_eq_true.1 h7 a ha
  cases hr : isRead a with
  | true => rw [hr] at this; simpa using this
  | false => rw [hr] at this; simpa using this
theorem Rel.drew {κ : K} {h : H} {w : World} (hr : Rel κ h w) (n : Nat) : Rel κ h { w with drawn := n } :=
 ⟨hr.S, hr.SO, hr.nb, hr.nv, hr.bx, hr.vc, hr.rest, hr.os, hr.out, hr.tape⟩
theorem AT.regD {ks : List AItem} {env : Env} {h : H} {ords : List (List AI)} (k : ∀ o ∈ ords, ATD P N chkD f ks Q [] o env h) : AT P N chkD f (.code (.regD ords) :: ks) env h Q := by
 intro κ w a k0 cs hcs hr he hd
 cases k0 with
 | nil => simp [CS] at hcs
 | cons x0 k0 =>
  obtain ⟨y, t, e, h3, h4⟩ := hcs
  simp only [List.cons.injEq] at e
  obtain ⟨e1, e2⟩ := e
  subst e1 e2
  cases x0 <;> simp only [CI] at h3
  rename_i c
  obtain ⟨ann, hc⟩ := h3
  cases c <;> simp only [comp] at hc
  case region id ops draw =>
   cases draw with
   | false =>
    simp only at hc
    (repeat' split at hc) <;> simp at hc
   | true =>
    simp only at hc
    split at hc
    case h_2 => simp at hc
    rename_i ls hls
    split at hc
    case h_2 => simp at hc
    rename_i hchk
    simp only [Option.some.injEq, AC.regD.injEq] at hc
    subst hc
    have hce := cOrds_mem hls
    cases ls with
    | nil => simp [chkD] at hchk
    | cons o os =>
     simp only [chkD, Bool.and_eq_true] at hchk
     obtain ⟨c1, c2, c3⟩ := hchk
     have hT : TOk ops (ancT ops (ixs o) []) := ancT_ok _ _ fun i a ha => by simp [look] at ha
     have hst := stepR_region_draw (P := P) (b := baseOf f) (a := a) (k := k0) (cs := cs) (w := w) (ops := ops) (id := id)
     have hL := sched_topo c1 (P.follows .mixedOrders) (w.tape w.drawn (.order (baseOf f).fn id))
     generalize Region.schedule (P.follows .mixedOrders) ops (w.tape w.drawn (.order (baseOf f).fn id)) = L at hst hL
     rw [List.all_eq_true] at c2 c3
     have ho := ordB_ok hT (hce o (by simp)) (c2 o (by simp))
     have hmem := enum_mem hT hL (hasN (evL o)) L [] (evL o).length (evL o) rfl (fun x => ?_) (Nat.le_refl _)
     ·obtain ⟨o', o1, o2⟩ := List.any_eq_true.1 (c3 _ hmem)
      have ho' := ordB_ok hT (hce o' o1) (c2 o' o1)
      refine Ends.of_steps (.one hst) ?_
      exact drawn_run ho'.1 hL (hasN (evL o)) ho'.2 _ o' [] [] L env h κ _ a k0 cs (Nat.le_refl _) (by simp) rfl (by simp) (eqL_eq o2).symm (k o' o1) (hr.drew _) he.1 (fun t _ => he.2 t) h4 hd (by simp)
     ·constructor
      ·intro hx
       rw [hL.mem, ← ho.1.topo.mem]
       refine ⟨?_, hasN_iff.2 hx⟩
       unfold evL at hx
       obtain ⟨b, b1, b2⟩ := mem_ixs.1 hx
       exact mem_ixs.2 ⟨b, (List.mem_filter.1 b1).1, b2⟩
      ·intro hx
       exact hasN_iff.1 hx.2
  all_goals ((repeat' split at hc) <;> simp at hc)
end
end Go.SL
namespace Go.SL
universe u
def inst : AC → AC
 | .regT t i => .reg (t i)
 | .seq a b => .seq (inst a) (inst b)
 | .cond c a b => .cond c (inst a) (inst b)
 | .block id b => .block id (inst b)
 | .loop b => .loop (inst b)
 | .scope b => .scope (inst b)
 | .rangeF f ps a b => .rangeF f ps (inst a) (inst b)
 | c => c
def instI : AItem → AItem
 | .code c => .code (inst c)
 | .lp b => .lp (inst b)
 | .scp b => .scp (inst b)
 | x => x
def bc {α : Sort u} (b : Bool) (x y : α) : α := match b with
 | true => x
 | false => y
@[simp] theorem bc_true {α : Sort u} (x y : α) : bc true x y = x := rfl
@[simp] theorem bc_false {α : Sort u} (x y : α) : bc false x y = y := rfl
@[simp] theorem bc_not {α : Sort u} (b : Bool) (x y : α) : bc (!b) x y = bc b y x := by cases b <;> rfl
abbrev St := List AItem × Env × H × Bool
def xregs (k : List AItem) (c : Env → H → Bool → St) : List AI → Env → H → Bool → St
 | [], env, h, ob => c env h ob
 | i :: r, env, h, ob => match i.guard with
  | none => match i.op with
   | .o a => match xop h (ev env) a with
    | some (v, h', o) => xregs k c r (put (dels env i.kill) i.dst v) h' (ob && o)
    | none => (.reg (i :: r) :: k, env, h, ob)
   | .call _ _ => (.reg (i :: r) :: k, env, h, ob)
   | .panic _ => (.reg (i :: r) :: k, env, h, ob)
   | .defer _ _ => (.reg (i :: r) :: k, env, h, ob)
  | some (t, want) => match get env t with
   | .d (.bool b) => bc (b == want) (match i.op with
     | .o a => match xop h (ev env) a with
      | some (v, h', o) => xregs k c r (put (dels env i.kill) i.dst v) h' (ob && o)
      | none => (.reg (i :: r) :: k, env, h, ob)
     | .call _ _ => (.reg (i :: r) :: k, env, h, ob)
     | .panic _ => (.reg (i :: r) :: k, env, h, ob)
     | .defer _ _ => (.reg (i :: r) :: k, env, h, ob))
    (xregs k c r (put (dels env i.kill) i.dst skp) h ob)
   | .d (.tup []) => xregs k c r (put (dels env i.kill) i.dst skp) h ob
   | _ => (.reg (i :: r) :: k, env, h, ob)
noncomputable def sameV (a b : V) : Bool := @decide (a = b) (Classical.propDecidable _)
@[simp] theorem sameV_self (a : V) : sameV a a = true := by simp [sameV]
theorem sameV_eq {a b : V} (h : sameV a b = true) : a = b := by simpa [sameV] using h
noncomputable def rdB (h : H) (env : Env) (r : AI) : Bool := match xai h env r with
 | some (v, _, o) => match r.dst with
  | some d => o && sameV (get env d) v
  | none => o
 | none => false
noncomputable def rcB (h : H) (env : Env) (kill : List Nat) : List AI → Bool
 | [] => true
 | r :: l => match hasN kill r.ix && isRead r with
  | true => rdB h env r && rcB h env kill l
  | false => rcB h env kill l
noncomputable def xregD (k : List AItem) (c : Env → H → Bool → St) : List AI → List AI → Env → H → Bool → St
 | _, [], env, h, ob => c env h ob
 | done, r :: l, env, h, ob => match r.guard with
  | none => match r.op with
   | .o a => match xop h (ev env) a with
    | some (v, h', o) => match isRead r with
     | true => xregD k c (r :: done) l (put env r.dst v) h (ob && o)
     | false => match r.kill with
      | [] => xregD k c (r :: done) l (put env r.dst v) h' (ob && o)
      | x :: xs => xregD k c (r :: done) l (put env r.dst v) h' (ob && o && rcB h' (put env r.dst v) (x :: xs) done)
    | none => (.regD done (r :: l) :: k, env, h, ob)
   | .call _ _ => (.regD done (r :: l) :: k, env, h, ob)
   | .panic _ => (.regD done (r :: l) :: k, env, h, ob)
   | .defer _ _ => (.regD done (r :: l) :: k, env, h, ob)
  | some (t, want) => match get env t with
   | .d (.bool b) => bc (b == want) (match r.op with
     | .o a => match xop h (ev env) a with
      | some (v, h', o) => match isRead r with
       | true => xregD k c (r :: done) l (put env r.dst v) h (ob && o)
       | false => match r.kill with
        | [] => xregD k c (r :: done) l (put env r.dst v) h' (ob && o)
        | x :: xs => xregD k c (r :: done) l (put env r.dst v) h' (ob && o && rcB h' (put env r.dst v) (x :: xs) done)
      | none => (.regD done (r :: l) :: k, env, h, ob)
     | .call _ _ => (.regD done (r :: l) :: k, env, h, ob)
     | .panic _ => (.regD done (r :: l) :: k, env, h, ob)
     | .defer _ _ => (.regD done (r :: l) :: k, env, h, ob))
    (match isRead r with
     | true => xregD k c (r :: done) l (put env r.dst skp) h ob
     | false => match r.kill with
      | [] => xregD k c (r :: done) l (put env r.dst skp) h ob
      | x :: xs => xregD k c (r :: done) l (put env r.dst skp) h (ob && rcB h (put env r.dst skp) (x :: xs) done))
   | .d (.tup []) => match isRead r with
     | true => xregD k c (r :: done) l (put env r.dst skp) h ob
     | false => match r.kill with
      | [] => xregD k c (r :: done) l (put env r.dst skp) h ob
      | x :: xs => xregD k c (r :: done) l (put env r.dst skp) h (ob && rcB h (put env r.dst skp) (x :: xs) done)
   | _ => (.regD done (r :: l) :: k, env, h, ob)
noncomputable def goes : Nat → List AItem → Env → H → Bool → St
 | 0, ks, env, h, ob => (ks, env, h, ob)
 | n + 1, .code .skip :: k, env, h, ob => goes n k env h ob
 | n + 1, .blk _ :: k, env, h, ob => goes n k env h ob
 | n + 1, .scp _ :: k, env, h, ob => goes n k env h ob
 | n + 1, .code (.seq a b) :: k, env, h, ob => goes n (.code a :: .code b :: k) env h ob
 | n + 1, .code (.cond c a b) :: k, env, h, ob => match ev env c with
  | .d (.bool t) => bc t (goes n (.code a :: k) env h ob) (goes n (.code b :: k) env h ob)
  | _ => (.code (.cond c a b) :: k, env, h, ob)
 | n + 1, .code (.block id b) :: k, env, h, ob => goes n (.code b :: .blk id :: k) env h ob
 | n + 1, .code (.scope b) :: k, env, h, ob => goes n (.code b :: .scp b :: k) env h ob
 | n + 1, .code (.exit id) :: k, env, h, ob => match aexit id k with
  | some k' => goes n k' env h ob
  | none => (.code (.exit id) :: k, env, h, ob)
 | n + 1, .code (.regT t i) :: k, env, h, ob => xregs k (goes n k) (t i) env h ob
 | n + 1, .reg l :: k, env, h, ob => xregs k (goes n k) l env h ob
 | n + 1, .code (.regD [o]) :: k, env, h, ob => xregD k (goes n k) [] o env h ob
 | n + 1, .regD d l :: k, env, h, ob => xregD k (goes n k) d l env h ob
 | _ + 1, ks, env, h, ob => (ks, env, h, ob)
section
variable {P : Program} {N : Nat} {f : FD} {Q : Out → H → Prop}
def ATX (P : Program) (N : Nat) (f : FD) (Q : Out → H → Prop) : List AItem → Env → H → Prop
 | .regD done l :: k, env, h => ATD P N chkD f k Q done l env h
 | ks, env, h => AT P N chkD f ks env h Q
def ATT (P : Program) (N : Nat) (f : FD) (Q : Out → H → Prop) : List AItem × Env × H × Bool → Prop
 | (ks, env, h, ob) => ob = true ∧ ATX P N f Q (ks.map instI) env h
theorem ATX.at {ks : List AItem} {env : Env} {h : H} (k : ATX P N f Q ks env h) : AT P N chkD f ks env h Q := by
 unfold ATX at k
 split at k
 ·intro κ w a k0 cs hcs
  cases k0 with
  | nil => simp [CS] at hcs
  | cons x k0 =>
   obtain ⟨y, t, e, h1, _⟩ := hcs
   simp only [List.cons.injEq] at e
   rw [← e.1] at h1
   cases x <;> simp [CI] at h1
 ·exact k
theorem ATX.of {x : AItem} {ks : List AItem} {env : Env} {h : H} (hx : ∀ d l, x ≠ .regD d l) (k : AT P N chkD f (x :: ks) env h Q) : ATX P N f Q (x :: ks) env h := by
 unfold ATX
 split
 ·rename_i e
  simp only [List.cons.injEq] at e
  exact absurd e.1 (hx _ _)
 ·exact k
theorem rdB_sound {h : H} {env : Env} {r : AI} (e : rdB h env r = true) (hr : isRead r = true) : RDok h env r := by
 unfold rdB at e
 split at e
 ·rename_i v h' o hx
  have := xai_quiet hr hx
  subst this
  split at e
  ·rename_i d hd
   simp only [Bool.and_eq_true] at e
   obtain ⟨e1, e2⟩ := e
   subst e1
   exact ⟨v, hx, fun d' hd' => by rw [hd] at hd'; simp only [Option.some.injEq] at hd'; subst hd'; exact sameV_eq e2⟩
  ·rename_i hd
   subst e
   exact ⟨v, hx, fun d' hd' => by rw [hd] at hd'; simp at hd'⟩
 ·simp at e
theorem rcB_sound {h : H} {env : Env} {kill : List Nat} : ∀ {l : List AI}, rcB h env kill l = true → RC h env l kill
 | [], _ => fun r hr => by simp at hr
 | r :: l, e => by
  have rd : rdB h env r = true → isRead r = true → RDok h env r := rdB_sound
  simp only [rcB] at e
  split at e
  ·rename_i hk
   simp only [Bool.and_eq_true] at e hk
   intro r' hr' hm hrr
   rcases List.mem_cons.1 hr' with e' | hr'
   ·subst e'; exact rd e.1 hrr
   ·exact rcB_sound e.2 r' hr' hm hrr
  ·rename_i hk
   intro r' hr' hm hrr
   rcases List.mem_cons.1 hr' with e' | hr'
   ·subst e'
    rw [hasN_iff.2 hm, hrr] at hk; simp at hk
   ·exact rcB_sound e r' hr' hm hrr
theorem xai_mask {h : H} {env : Env} {i : AI} : xai h (mask (slI i) env) i = xai h env i :=
 xai_congr h i fun t ht => by rw [get_mask, if_pos ht]
theorem ATT.bc {b : Bool} {x y : St} (h1 : b = true → ATT P N f Q x) (h2 : b = false → ATT P N f Q y) : ATT P N f Q (bc b x y) := by
 cases b with
 | true => exact h1 rfl
 | false => exact h2 rfl
theorem xregD_sound {k : List AItem} {c : Env → H → Bool → St} (hc : ∀ env h ob, ATT P N f Q (c env h ob) → ob = true ∧ AT P N chkD f (k.map instI) env h Q) : ∀ (l done : List AI) (env : Env) (h : H) (ob : Bool),
  ATT P N f Q (xregD k c done l env h ob) → ob = true ∧ ATD P N chkD f (k.map instI) Q done l env h
 | [], done, env, h, ob, e => by
  simp only [xregD] at e
  exact hc _ _ _ e
 | r :: l, done, env, h, ob, e => by
  have stop : ATT P N f Q (.regD done (r :: l) :: k, env, h, ob) → ob = true ∧ ATD P N chkD f (k.map instI) Q done (r :: l) env h := id
  have on : ∀ {v : V} {h' : H} {o : Bool}, xai h env r = some (v, h', o) → ATT P N f Q (match isRead r with
     | true => xregD k c (r :: done) l (put env r.dst v) h (ob && o)
     | false => match r.kill with
      | [] => xregD k c (r :: done) l (put env r.dst v) h' (ob && o)
      | x :: xs => xregD k c (r :: done) l (put env r.dst v) h' (ob && o && rcB h' (put env r.dst v) (x :: xs) done)) → ob = true ∧ ATD P N chkD f (k.map instI) Q done (r :: l) env h := by
   intro v h1 o hx e
   split at e
   ·rename_i hr
    obtain ⟨g1, g2⟩ := xregD_sound hc l _ _ _ _ e
    simp only [Bool.and_eq_true] at g1
    obtain ⟨g1, g3⟩ := g1
    subst g3
    have := xai_quiet hr hx
    subst this
    refine ⟨g1, ?_⟩
    simp only [ATD, hr]
    exact ⟨v, hx, g2⟩
   ·rename_i hr
    have fin : ∀ (hob : ob = true ∧ o = true) (hrc : RC h1 (put env r.dst v) done r.kill) (g2 : ATD P N chkD f (k.map instI) Q (r :: done) l (put env r.dst v) h1),
      ob = true ∧ ATD P N chkD f (k.map instI) Q done (r :: l) env h := fun hob hrc g2 => by
     refine ⟨hob.1, ?_⟩
     simp only [ATD, hr]
     exact EV.o (by rw [xai_mask]; exact hx) hob.2 ⟨hrc, g2⟩
    split at e
    ·rename_i hk
     obtain ⟨g1, g2⟩ := xregD_sound hc l _ _ _ _ e
     simp only [Bool.and_eq_true] at g1
     exact fin g1 (by rw [hk]; intro r' _ hm; simp at hm) g2
    ·rename_i k0 ks0 hk
     obtain ⟨g1, g2⟩ := xregD_sound hc l _ _ _ _ e
     simp only [Bool.and_eq_true] at g1
     exact fin g1.1 (by rw [hk]; exact rcB_sound g1.2) g2
  simp only [xregD] at e
  split at e
  ·rename_i hg
   split at e
   ·rename_i a hop
    split at e
    ·rename_i v h1 o hx
     exact on (by simp only [xai, hg, hop]; exact hx) e
    ·exact stop e
   ·exact stop e
   ·exact stop e
   ·exact stop e
  ·rename_i t want hg
   split at e
   ·rename_i b hb
    cases hbw : b == want with
    | true =>
     rw [hbw, bc_true] at e
     split at e
     ·rename_i a hop
      split at e
      ·rename_i v h1 o hx
       exact on (by simp only [xai, hg, hop, hb, hbw]; exact hx) e
      ·exact stop e
     ·exact stop e
     ·exact stop e
     ·exact stop e
    | false =>
     rw [hbw, bc_false] at e
     exact on (v := skp) (h' := h) (o := true) (by simp only [xai, hg, hb, hbw]) (by simpa only [Bool.and_true] using e)
   ·rename_i hb
    exact on (v := skp) (h' := h) (o := true) (by simp only [xai, hg, hb]) (by simpa only [Bool.and_true] using e)
   ·exact stop e
theorem exit_inst (id : Nat) : ∀ (k k' : List AItem), aexit id k = some k' → aexit id (k.map instI) = some (k'.map instI)
 | [], k', h => by simp [aexit] at h
 | x :: k, k', h => by
  cases x with
  | blk id' =>
   simp only [aexit, List.map_cons, instI] at h ⊢
   split at h
   ·simp only [Option.some.injEq] at h; subst h; rfl
   ·exact exit_inst id k k' h
  | _ => simp only [aexit, List.map_cons, instI] at h ⊢; exact exit_inst id k k' h
theorem xregs_sound {k : List AItem} {c : Env → H → Bool → St} (hc : ∀ env h ob, ATT P N f Q (c env h ob) → ob = true ∧ AT P N chkD f (k.map instI) env h Q) : ∀ (l : List AI) (env : Env) (h : H) (ob : Bool),
  ATT P N f Q (xregs k c l env h ob) → ob = true ∧ AT P N chkD f (.reg l :: k.map instI) env h Q
 | [], env, h, ob, e => by
  simp only [xregs] at e
  obtain ⟨g1, g2⟩ := hc _ _ _ e
  exact ⟨g1, AT.step (go := false) (by simp only [step1]) rfl g2⟩
 | i :: r, env, h, ob, e => by
  have stop : ATT P N f Q (.reg (i :: r) :: k, env, h, ob) → ob = true ∧ AT P N chkD f (.reg (i :: r) :: k.map instI) env h Q := id
  have on : ∀ {v : V} {h1 : H} {o : Bool}, step1 false (.reg (i :: r) :: k.map instI) env h = some (.reg r :: k.map instI, put (dels env i.kill) i.dst v, h1, o) →
    ATT P N f Q (xregs k c r (put (dels env i.kill) i.dst v) h1 (ob && o)) → ob = true ∧ AT P N chkD f (.reg (i :: r) :: k.map instI) env h Q := fun {v h1 o} s e => by
   obtain ⟨g1, g2⟩ := xregs_sound hc r _ _ _ e
   simp only [Bool.and_eq_true] at g1
   exact ⟨g1.1, AT.step s g1.2 g2⟩
  simp only [xregs] at e
  split at e
  ·rename_i hg
   split at e
   ·rename_i a hop
    split at e
    ·rename_i v h1 o hx
     exact on (by simp only [step1, hg, hop, hx]) e
    ·exact stop e
   ·exact stop e
   ·exact stop e
   ·exact stop e
  ·rename_i t want hg
   split at e
   ·rename_i b hb
    cases hbw : b == want with
    | true =>
     rw [hbw, bc_true] at e
     split at e
     ·rename_i a hop
      split at e
      ·rename_i v h1 o hx
       exact on (by simp only [step1, hg, hop, hx, hb, hbw]) e
      ·exact stop e
     ·exact stop e
     ·exact stop e
     ·exact stop e
    | false =>
     rw [hbw, bc_false] at e
     exact on (v := skp) (h1 := h) (o := true) (by simp only [step1, hg, hb, hbw]) (by simpa only [Bool.and_true] using e)
   ·rename_i hb
    exact on (v := skp) (h1 := h) (o := true) (by simp only [step1, hg, hb]) (by simpa only [Bool.and_true] using e)
   ·exact stop e
theorem goes_sound : ∀ (n : Nat) (ks : List AItem) (env : Env) (h : H) (ob : Bool), ATT P N f Q (goes n ks env h ob) → ATT P N f Q (ks, env, h, ob)
 | 0, ks, env, h, ob, k => by simpa only [goes] using k
 | n + 1, ks, env, h, ob, k => by
  have on : ∀ {ks' : List AItem}, (∀ (hh : AT P N chkD f (ks'.map instI) env h Q), AT P N chkD f (ks.map instI) env h Q) → (AT P N chkD f (ks.map instI) env h Q → ATX P N f Q (ks.map instI) env h) → ATT P N f Q (goes n ks' env h ob) → ATT P N f Q (ks, env, h, ob) := fun {ks'} hs hX k => by
   have := goes_sound n ks' env h ob k
   exact ⟨this.1, hX (hs this.2.at)⟩
  have hc : ∀ (k : List AItem) (env : Env) (h : H) (ob : Bool), ATT P N f Q (goes n k env h ob) → ob = true ∧ AT P N chkD f (k.map instI) env h Q := fun k env h ob e => by
   have := goes_sound n k env h ob e
   exact ⟨this.1, this.2.at⟩
  cases ks with
  | nil => simpa only [goes] using k
  | cons x ks =>
   cases x with
   | blk id => exact on (fun hh => AT.step (go := false) (by simp only [List.map_cons, instI, step1]; rfl) rfl hh) (fun hh => hh) (by simpa only [goes] using k)
   | scp b => exact on (fun hh => AT.step (go := false) (by simp only [List.map_cons, instI, step1]; rfl) rfl hh) (fun hh => hh) (by simpa only [goes] using k)
   | lp b => simpa only [goes] using k
   | begin => simpa only [goes] using k
   | regD done l => exact xregD_sound (hc ks) l done env h ob (by simpa only [goes] using k)
   | reg l => exact xregs_sound (hc ks) l env h ob (by simpa only [goes] using k)
   | code c =>
    cases c with
    | skip => exact on (fun hh => AT.step (go := false) (by simp only [List.map_cons, instI, inst, step1]; rfl) rfl hh) (fun hh => hh) (by simpa only [goes] using k)
    | seq a b => exact on (ks' := .code a :: .code b :: ks) (fun hh => AT.step (go := false) (by simp only [List.map_cons, instI, inst, step1]) rfl hh) (fun hh => hh) (by simpa only [goes] using k)
    | block id b => exact on (ks' := .code b :: .blk id :: ks) (fun hh => AT.step (go := false) (by simp only [List.map_cons, instI, inst, step1]) rfl hh) (fun hh => hh) (by simpa only [goes] using k)
    | scope b => exact on (ks' := .code b :: .scp b :: ks) (fun hh => AT.step (go := false) (by simp only [List.map_cons, instI, inst, step1]) rfl hh) (fun hh => hh) (by simpa only [goes] using k)
    | cond c a b =>
     simp only [goes] at k
     split at k
     ·rename_i t ht
      cases t with
      | true => exact on (ks' := .code a :: ks) (fun hh => AT.step (go := false) (by simp only [List.map_cons, instI, inst, step1, ht]) rfl hh) (fun hh => hh) k
      | false => exact on (ks' := .code b :: ks) (fun hh => AT.step (go := false) (by simp only [List.map_cons, instI, inst, step1, ht]) rfl hh) (fun hh => hh) k
     ·exact k
    | exit id =>
     simp only [goes] at k
     split at k
     ·rename_i k' hx
      exact on (fun hh => AT.step (go := false) (by simp only [List.map_cons, instI, inst, step1, exit_inst _ _ _ hx]) rfl hh) (fun hh => hh) k
     ·exact k
    | regT t i =>
     obtain ⟨g1, g2⟩ := xregs_sound (hc ks) (t i) env h ob (by simpa only [goes] using k)
     exact ⟨g1, AT.step (go := false) (by simp only [instI, inst, step1]) rfl g2⟩
    | regD ords =>
     cases ords with
     | nil => simpa only [goes] using k
     | cons o os =>
      cases os with
      | cons _ _ => simpa only [goes] using k
      | nil =>
       obtain ⟨g1, g2⟩ := xregD_sound (hc ks) o [] env h ob (by simpa only [goes] using k)
       exact ⟨g1, AT.regD fun o' ho => by
        have : o' = o := by simpa using ho
        subst this
        exact g2⟩
    | _ => simpa only [goes] using k
theorem AF.start {f : FuncId} {fn : Func} {c : Code} {ac : AC} {ann : Ann} {args : List V} {h : H} (n : Nat) (hf : P.funcs[f]? = some fn) (hb : fn.body = some c) (hn : fn.ntmps = N) (hcal : callable P f = true)
  (hc : comp P N ann chkD c = some (inst ac)) (k : ATT P N (.of f) Q (goes n [.code ac] (env0 0 args) h true)) : AF P f args h Q :=
 AF.of hf hb hn hcal hc (goes_sound n _ _ _ _ k).2.at
theorem AT.goes {ks : List AItem} {env : Env} {h : H} (n : Nat) (k : ATT P N f Q (goes n ks env h true)) : AT P N chkD f (ks.map instI) env h Q := (goes_sound n _ _ _ _ k).2.at
end
end Go.SL
namespace Go.SL
attribute [simp] env0 xop xai xload xstore ev get put dels del val getR putR mkAgg closeL V.cells D.cells ones V.one lget sbnd SL.icmp fillR groups aexit agoto alabel instI inst hasN isRead rdB rcB cur vsz szOk elems xappend
def orK (k : IntKind) (a b : Int) : Int := k.wrap (BitVec.ofInt k.bits a ||| BitVec.ofInt k.bits b).toNat
@[simp] theorem iop_or (k : IntKind) (a b : Int) : iop .or k a b = some (orK k a b, true) := rfl
@[simp] theorem iop_rem (k : IntKind) (a b : Int) : iop .rem k a b = some (a.tmod b, !decide (b = 0)) := rfl
@[simp] theorem iop_add_i64 (a b : Int) : iop .add .i64 a b = some (a + b, inI (a + b)) := rfl
@[simp] theorem iop_sub_i64 (a b : Int) : iop .sub .i64 a b = some (a - b, inI (a - b)) := rfl
@[simp] theorem iop_mul_i64 (a b : Int) : iop .mul .i64 a b = some (a * b, inI (a * b)) := rfl
@[simp] theorem iop_quo_i64 (a b : Int) : iop .quo .i64 a b = some (a.tdiv b, !decide (b = 0) && inI (a.tdiv b)) := rfl
@[simp] theorem iop_add_u8 (a b : Int) : iop .add .u8 a b = some (IntKind.u8.wrap (a + b), true) := rfl
@[simp] theorem iop_sub_u8 (a b : Int) : iop .sub .u8 a b = some (IntKind.u8.wrap (a - b), true) := rfl
@[simp] theorem iop_mul_u8 (a b : Int) : iop .mul .u8 a b = some (IntKind.u8.wrap (a * b), true) := rfl
@[simp] theorem iop_quo_u8 (a b : Int) : iop .quo .u8 a b = some (IntKind.u8.wrap (a.tdiv b), !decide (b = 0)) := rfl
@[simp] theorem iop_add_u16 (a b : Int) : iop .add .u16 a b = some (IntKind.u16.wrap (a + b), true) := rfl
@[simp] theorem iop_sub_u16 (a b : Int) : iop .sub .u16 a b = some (IntKind.u16.wrap (a - b), true) := rfl
@[simp] theorem iop_mul_u16 (a b : Int) : iop .mul .u16 a b = some (IntKind.u16.wrap (a * b), true) := rfl
@[simp] theorem iop_quo_u16 (a b : Int) : iop .quo .u16 a b = some (IntKind.u16.wrap (a.tdiv b), !decide (b = 0)) := rfl
@[simp] theorem iop_add_u32 (a b : Int) : iop .add .u32 a b = some (IntKind.u32.wrap (a + b), true) := rfl
@[simp] theorem iop_sub_u32 (a b : Int) : iop .sub .u32 a b = some (IntKind.u32.wrap (a - b), true) := rfl
@[simp] theorem iop_mul_u32 (a b : Int) : iop .mul .u32 a b = some (IntKind.u32.wrap (a * b), true) := rfl
@[simp] theorem iop_quo_u32 (a b : Int) : iop .quo .u32 a b = some (IntKind.u32.wrap (a.tdiv b), !decide (b = 0)) := rfl
@[simp] theorem iop_add_u64 (a b : Int) : iop .add .u64 a b = some (IntKind.u64.wrap (a + b), true) := rfl
@[simp] theorem iop_sub_u64 (a b : Int) : iop .sub .u64 a b = some (IntKind.u64.wrap (a - b), true) := rfl
@[simp] theorem iop_mul_u64 (a b : Int) : iop .mul .u64 a b = some (IntKind.u64.wrap (a * b), true) := rfl
@[simp] theorem iop_quo_u64 (a b : Int) : iop .quo .u64 a b = some (IntKind.u64.wrap (a.tdiv b), !decide (b = 0)) := rfl
@[simp] theorem iop_add_i32 (a b : Int) : iop .add .i32 a b = some (IntKind.i32.wrap (a + b), true) := rfl
@[simp] theorem iop_sub_i32 (a b : Int) : iop .sub .i32 a b = some (IntKind.i32.wrap (a - b), true) := rfl
@[simp] theorem iop_mul_i32 (a b : Int) : iop .mul .i32 a b = some (IntKind.i32.wrap (a * b), true) := rfl
@[simp] theorem iop_quo_i32 (a b : Int) : iop .quo .i32 a b = some (IntKind.i32.wrap (a.tdiv b), !decide (b = 0)) := rfl
theorem inI_of {a : Int} (h : -9223372036854775808 ≤ a) (h' : a ≤ 9223372036854775807) : inI a = true := by simp [inI, h, h']
theorem inR_of {a : Int} {n : Nat} (h : 0 ≤ a) (h' : a < n) : inR a n = true := by simp [inR, h, h']
noncomputable def xR (n : Nat) (k : List AItem) (l : List AI) (env : Env) (h : H) (ob : Bool) : St := xregs k (goes n k) l env h ob
noncomputable def xD (n : Nat) (k : List AItem) (done l : List AI) (env : Env) (h : H) (ob : Bool) : St := xregD k (goes n k) done l env h ob
noncomputable def stC (b : Bool) (n : Nat) (k : List AItem) (i : AI) (r : List AI) (env : Env) (h : H) (ob : Bool) : St :=
 bc b (match i.op with
  | .o a => match xop h (ev env) a with
   | some (v, h', o) => xR n k r (put (dels env i.kill) i.dst v) h' (ob && o)
   | none => (.reg (i :: r) :: k, env, h, ob)
  | .call _ _ => (.reg (i :: r) :: k, env, h, ob)
  | .panic _ => (.reg (i :: r) :: k, env, h, ob)
  | .defer _ _ => (.reg (i :: r) :: k, env, h, ob)) (xR n k r (put (dels env i.kill) i.dst skp) h ob)
noncomputable def stE (b : Bool) (n : Nat) (k : List AItem) (done : List AI) (r : AI) (l : List AI) (env : Env) (h : H) (ob : Bool) : St :=
 bc b (match r.op with
     | .o a => match xop h (ev env) a with
      | some (v, h', o) => match isRead r with
       | true => xD n k (r :: done) l (put env r.dst v) h (ob && o)
       | false => match r.kill with
        | [] => xD n k (r :: done) l (put env r.dst v) h' (ob && o)
        | x :: xs => xD n k (r :: done) l (put env r.dst v) h' (ob && o && rcB h' (put env r.dst v) (x :: xs) done)
      | none => (.regD done (r :: l) :: k, env, h, ob)
     | .call _ _ => (.regD done (r :: l) :: k, env, h, ob)
     | .panic _ => (.regD done (r :: l) :: k, env, h, ob)
     | .defer _ _ => (.regD done (r :: l) :: k, env, h, ob))
    (match isRead r with
     | true => xD n k (r :: done) l (put env r.dst skp) h ob
     | false => match r.kill with
      | [] => xD n k (r :: done) l (put env r.dst skp) h ob
      | x :: xs => xD n k (r :: done) l (put env r.dst skp) h (ob && rcB h (put env r.dst skp) (x :: xs) done))
noncomputable def stD (t : Bool) (n : Nat) (k : List AItem) (a b : AC) (env : Env) (h : H) (ob : Bool) : St := bc t (goes n (.code a :: k) env h ob) (goes n (.code b :: k) env h ob)
section
variable (n ix : Nat) (k : List AItem) (r l d : List AI) (env : Env) (h : H) (ob : Bool) (dst : Option Nat) (kill : List Nat) (t : Nat) (want : Bool) (a b : AC) (c : Opd) (id : Nat) (i : AI)
@[simp] theorem goes_zero (ks : List AItem) : goes 0 ks env h ob = (ks, env, h, ob) := by simp only [goes]
@[simp] theorem goes_skip : goes (n + 1) (.code .skip :: k) env h ob = goes n k env h ob := by simp only [goes]
@[simp] theorem goes_label : goes (n + 1) (.code (.label t) :: k) env h ob = (.code (.label t) :: k, env, h, ob) := by simp only [goes]
@[simp] theorem goes_blk : goes (n + 1) (.blk id :: k) env h ob = goes n k env h ob := by simp only [goes]
@[simp] theorem goes_scp : goes (n + 1) (.scp a :: k) env h ob = goes n k env h ob := by simp only [goes]
@[simp] theorem goes_seq : goes (n + 1) (.code (.seq a b) :: k) env h ob = goes n (.code a :: .code b :: k) env h ob := by simp only [goes]
@[simp] theorem goes_cond : goes (n + 1) (.code (.cond c a b) :: k) env h ob = match ev env c with
  | .d (.bool t) => stD t n k a b env h ob
  | _ => (.code (.cond c a b) :: k, env, h, ob) := by simp only [goes] <;> rfl
@[simp] theorem stD_true : stD true n k a b env h ob = goes n (.code a :: k) env h ob := rfl
@[simp] theorem stD_false : stD false n k a b env h ob = goes n (.code b :: k) env h ob := rfl
@[simp] theorem goes_block : goes (n + 1) (.code (.block id b) :: k) env h ob = goes n (.code b :: .blk id :: k) env h ob := by simp only [goes]
@[simp] theorem goes_scope : goes (n + 1) (.code (.scope b) :: k) env h ob = goes n (.code b :: .scp b :: k) env h ob := by simp only [goes]
@[simp] theorem goes_exit : goes (n + 1) (.code (.exit id) :: k) env h ob = match aexit id k with
  | some k' => goes n k' env h ob
  | none => (.code (.exit id) :: k, env, h, ob) := by simp only [goes] <;> rfl
@[simp] theorem goes_regT (f : Nat → List AI) : goes (n + 1) (.code (.regT f t) :: k) env h ob = xR n k (f t) env h ob := by simp only [goes] <;> rfl
@[simp] theorem goes_reg : goes (n + 1) (.reg l :: k) env h ob = xR n k l env h ob := by simp only [goes] <;> rfl
@[simp] theorem goes_regD : goes (n + 1) (.code (.regD [l]) :: k) env h ob = xD n k [] l env h ob := by simp only [goes] <;> rfl
@[simp] theorem goes_regD2 : goes (n + 1) (.regD d l :: k) env h ob = xD n k d l env h ob := by simp only [goes] <;> rfl
@[simp] theorem goes_loop : goes (n + 1) (.code (.loop b) :: k) env h ob = (.code (.loop b) :: k, env, h, ob) := by simp only [goes]
@[simp] theorem goes_lp : goes (n + 1) (.lp b :: k) env h ob = (.lp b :: k, env, h, ob) := by simp only [goes]
@[simp] theorem goes_ret : goes (n + 1) (.code .ret :: k) env h ob = (.code .ret :: k, env, h, ob) := by simp only [goes]
@[simp] theorem goes_goto : goes (n + 1) (.code (.goto t) :: k) env h ob = (.code (.goto t) :: k, env, h, ob) := by simp only [goes]
@[simp] theorem goes_nil : goes (n + 1) [] env h ob = ([], env, h, ob) := by simp only [goes]
@[simp] theorem goes_regDs (o1 o2 : List AI) (os : List (List AI)) : goes (n + 1) (.code (.regD (o1 :: o2 :: os)) :: k) env h ob = (.code (.regD (o1 :: o2 :: os)) :: k, env, h, ob) := by simp only [goes]
@[simp] theorem xR_nil : xR n k [] env h ob = goes n k env h ob := by simp only [xR, xregs]
@[simp] theorem xR_o (o : AO) : xR n k (⟨ix, dst, .o o, none, kill⟩ :: r) env h ob = match xop h (ev env) o with
  | some (v, h', q) => xR n k r (put (dels env kill) dst v) h' (ob && q)
  | none => (.reg (⟨ix, dst, .o o, none, kill⟩ :: r) :: k, env, h, ob) := by simp only [xR, xregs] <;> rfl
@[simp] theorem xR_call (g : Opd) (ags : List Opd) : xR n k (⟨ix, dst, .call g ags, none, kill⟩ :: r) env h ob = (.reg (⟨ix, dst, .call g ags, none, kill⟩ :: r) :: k, env, h, ob) := by simp only [xR, xregs]
@[simp] theorem xR_panic (g : Opd) : xR n k (⟨ix, dst, .panic g, none, kill⟩ :: r) env h ob = (.reg (⟨ix, dst, .panic g, none, kill⟩ :: r) :: k, env, h, ob) := by simp only [xR, xregs]
@[simp] theorem xR_defer (g : Opd) (ags : List Opd) : xR n k (⟨ix, dst, .defer g ags, none, kill⟩ :: r) env h ob = (.reg (⟨ix, dst, .defer g ags, none, kill⟩ :: r) :: k, env, h, ob) := by simp only [xR, xregs]
@[simp] theorem xR_g (o : AOp) : xR n k (⟨ix, dst, o, some (t, want), kill⟩ :: r) env h ob = match get env t with
  | .d (.bool b) => stC (b == want) n k ⟨ix, dst, o, some (t, want), kill⟩ r env h ob
  | .d (.tup []) => xR n k r (put (dels env kill) dst skp) h ob
  | _ => (.reg (⟨ix, dst, o, some (t, want), kill⟩ :: r) :: k, env, h, ob) := by simp only [xR, xregs] <;> rfl
@[simp] theorem stC_o (o : AO) (g : Option (Nat × Bool)) : stC true n k ⟨ix, dst, .o o, g, kill⟩ r env h ob = match xop h (ev env) o with
  | some (v, h', q) => xR n k r (put (dels env kill) dst v) h' (ob && q)
  | none => (.reg (⟨ix, dst, .o o, g, kill⟩ :: r) :: k, env, h, ob) := by simp only [stC, bc]
@[simp] theorem stC_call (g : Opd) (ags : List Opd) (gd : Option (Nat × Bool)) : stC true n k ⟨ix, dst, .call g ags, gd, kill⟩ r env h ob = (.reg (⟨ix, dst, .call g ags, gd, kill⟩ :: r) :: k, env, h, ob) := by simp only [stC, bc]
@[simp] theorem stC_panic (g : Opd) (gd : Option (Nat × Bool)) : stC true n k ⟨ix, dst, .panic g, gd, kill⟩ r env h ob = (.reg (⟨ix, dst, .panic g, gd, kill⟩ :: r) :: k, env, h, ob) := by simp only [stC, bc]
@[simp] theorem stC_no (o : AOp) (g : Option (Nat × Bool)) : stC false n k ⟨ix, dst, o, g, kill⟩ r env h ob = xR n k r (put (dels env kill) dst skp) h ob := by simp only [stC, bc]
@[simp] theorem xD_nil : xD n k d [] env h ob = goes n k env h ob := by simp only [xD, xregD]
@[simp] theorem xD_o (o : AO) : xD n k d (⟨ix, dst, .o o, none, kill⟩ :: r) env h ob = match xop h (ev env) o with
  | some (v, h', q) => match isRead ⟨ix, dst, .o o, none, kill⟩ with
   | true => xD n k (⟨ix, dst, .o o, none, kill⟩ :: d) r (put env dst v) h (ob && q)
   | false => match kill with
    | [] => xD n k (⟨ix, dst, .o o, none, kill⟩ :: d) r (put env dst v) h' (ob && q)
    | x :: xs => xD n k (⟨ix, dst, .o o, none, kill⟩ :: d) r (put env dst v) h' (ob && q && rcB h' (put env dst v) (x :: xs) d)
  | none => (.regD d (⟨ix, dst, .o o, none, kill⟩ :: r) :: k, env, h, ob) := by simp only [xD, xregD] <;> rfl
@[simp] theorem xD_call (g : Opd) (ags : List Opd) : xD n k d (⟨ix, dst, .call g ags, none, kill⟩ :: r) env h ob = (.regD d (⟨ix, dst, .call g ags, none, kill⟩ :: r) :: k, env, h, ob) := by simp only [xD, xregD]
@[simp] theorem xD_panic (g : Opd) : xD n k d (⟨ix, dst, .panic g, none, kill⟩ :: r) env h ob = (.regD d (⟨ix, dst, .panic g, none, kill⟩ :: r) :: k, env, h, ob) := by simp only [xD, xregD]
@[simp] theorem xD_g (o : AOp) : xD n k d (⟨ix, dst, o, some (t, want), kill⟩ :: r) env h ob = match get env t with
  | .d (.bool b) => stE (b == want) n k d ⟨ix, dst, o, some (t, want), kill⟩ r env h ob
  | .d (.tup []) => stE false n k d ⟨ix, dst, o, some (t, want), kill⟩ r env h ob
  | _ => (.regD d (⟨ix, dst, o, some (t, want), kill⟩ :: r) :: k, env, h, ob) := by simp only [xD, xregD] <;> rfl
@[simp] theorem stE_o (o : AO) (g : Option (Nat × Bool)) : stE true n k d ⟨ix, dst, .o o, g, kill⟩ r env h ob = match xop h (ev env) o with
  | some (v, h', q) => match isRead ⟨ix, dst, .o o, g, kill⟩ with
   | true => xD n k (⟨ix, dst, .o o, g, kill⟩ :: d) r (put env dst v) h (ob && q)
   | false => match kill with
    | [] => xD n k (⟨ix, dst, .o o, g, kill⟩ :: d) r (put env dst v) h' (ob && q)
    | x :: xs => xD n k (⟨ix, dst, .o o, g, kill⟩ :: d) r (put env dst v) h' (ob && q && rcB h' (put env dst v) (x :: xs) d)
  | none => (.regD d (⟨ix, dst, .o o, g, kill⟩ :: r) :: k, env, h, ob) := by simp only [stE, bc]
@[simp] theorem stE_call (g : Opd) (ags : List Opd) (gd : Option (Nat × Bool)) : stE true n k d ⟨ix, dst, .call g ags, gd, kill⟩ r env h ob = (.regD d (⟨ix, dst, .call g ags, gd, kill⟩ :: r) :: k, env, h, ob) := by simp only [stE, bc]
@[simp] theorem stE_panic (g : Opd) (gd : Option (Nat × Bool)) : stE true n k d ⟨ix, dst, .panic g, gd, kill⟩ r env h ob = (.regD d (⟨ix, dst, .panic g, gd, kill⟩ :: r) :: k, env, h, ob) := by simp only [stE, bc]
@[simp] theorem stE_no (o : AOp) (g : Option (Nat × Bool)) : stE false n k d ⟨ix, dst, o, g, kill⟩ r env h ob = match isRead ⟨ix, dst, o, g, kill⟩ with
  | true => xD n k (⟨ix, dst, o, g, kill⟩ :: d) r (put env dst skp) h ob
  | false => match kill with
   | [] => xD n k (⟨ix, dst, o, g, kill⟩ :: d) r (put env dst skp) h ob
   | x :: xs => xD n k (⟨ix, dst, o, g, kill⟩ :: d) r (put env dst skp) h (ob && rcB h (put env dst skp) (x :: xs) d) := by simp only [stE, bc]
end
section
variable {P : Program} {N : Nat} {f : FD} {Q : Out → H → Prop}
theorem ATT.cC {p : Prop} [Decidable p] {n : Nat} {k : List AItem} {i : AI} {r : List AI} {env : Env} {h : H} {ob : Bool} (h1 : p → ATT P N f Q (stC true n k i r env h ob)) (h2 : ¬p → ATT P N f Q (stC false n k i r env h ob)) : ATT P N f Q (stC (decide p) n k i r env h ob) := by
 by_cases hp : p
 ·rw [decide_eq_true hp]; exact h1 hp
 ·rw [decide_eq_false hp]; exact h2 hp
theorem ATT.cE {p : Prop} [Decidable p] {n : Nat} {k : List AItem} {d : List AI} {i : AI} {r : List AI} {env : Env} {h : H} {ob : Bool} (h1 : p → ATT P N f Q (stE true n k d i r env h ob)) (h2 : ¬p → ATT P N f Q (stE false n k d i r env h ob)) : ATT P N f Q (stE (decide p) n k d i r env h ob) := by
 by_cases hp : p
 ·rw [decide_eq_true hp]; exact h1 hp
 ·rw [decide_eq_false hp]; exact h2 hp
theorem ATT.cD {p : Prop} [Decidable p] {n : Nat} {k : List AItem} {a b : AC} {env : Env} {h : H} {ob : Bool} (h1 : p → ATT P N f Q (stD true n k a b env h ob)) (h2 : ¬p → ATT P N f Q (stD false n k a b env h ob)) : ATT P N f Q (stD (decide p) n k a b env h ob) := by
 by_cases hp : p
 ·rw [decide_eq_true hp]; exact h1 hp
 ·rw [decide_eq_false hp]; exact h2 hp
theorem ATT.ret {fn : Func} (hf : P.funcs[f.fn]? = some fn) {rs : List ARes} (h1 : cRess P fn.results.toList = some rs) (z : Bool) {ks : List AItem} (hks : ks = [] ∨ ∃ k, ks = .code .ret :: k) {env : Env} {h : H} {ob : Bool} {vs : List V} (h2 : aress h env rs = some vs)
  (ho : ob = true) (hQ : match z with | true => Q (.ret (fzV h (outV vs))) (fzH h) | false => Q (.ret (outV vs)) h) (hdv : f.pln = true := by rfl) : ATT P N f Q (ks, env, h, ob) := by
 refine ⟨ho, ?_⟩
 have key : AT P N chkD f (ks.map instI) env h Q := AT.ret hf h1 z (by
  rcases hks with e | ⟨k, e⟩
  ·subst e; exact .inl rfl
  ·subst e; exact .inr ⟨k.map instI, rfl⟩) h2 hQ hdv
 rcases hks with e | ⟨k, e⟩
 ·subst e; exact key
 ·subst e; exact key
theorem ATT.fin {fn : Func} (hf : P.funcs[f.fn]? = some fn) {rs : List ARes} (h1 : cRess P fn.results.toList = some rs) {k : List AItem} {env : Env} {h : H} {ob : Bool}
  (hq : ob = true ∧ match aress h env rs with | some vs => Q (.ret (outV vs)) h | none => False) (hdv : f.pln = true := by rfl) : ATT P N f Q (.code .ret :: k, env, h, ob) := by
 obtain ⟨ho, hq⟩ := hq
 split at hq
 ·rename_i vs e
  exact ATT.ret hf h1 false (.inr ⟨k, rfl⟩) e ho hq hdv
 ·exact hq.elim
theorem ATT.fin0 {fn : Func} (hf : P.funcs[f.fn]? = some fn) {rs : List ARes} (h1 : cRess P fn.results.toList = some rs) {env : Env} {h : H} {ob : Bool}
  (hq : ob = true ∧ match aress h env rs with | some vs => Q (.ret (outV vs)) h | none => False) (hdv : f.pln = true := by rfl) : ATT P N f Q ([], env, h, ob) := by
 obtain ⟨ho, hq⟩ := hq
 split at hq
 ·rename_i vs e
  exact ATT.ret hf h1 false (.inl rfl) e ho hq hdv
 ·exact hq.elim
def DF (P : Program) (f : FuncId) (args : List D) (v : D) : Prop := AF P f (args.map .d) ⟨[], []⟩ fun o _ => o = .ret (.d v)
@[simp] theorem rns_data (rb rv : List Nat) : ∀ l : List D, rns rb rv (l.map .d) = l.map .d
 | [] => rfl
 | x :: l => by simp [rns, rn, rns_data rb rv l]
@[simp] theorem insc_data (n m : Nat) : ∀ l : List D, insc n m (l.map .d) = true
 | [] => rfl
 | x :: l => by simp [insc, isin, insc_data n m l]
@[simp] theorem upH_nil (h hc : H) : upH h hc [] [] 0 0 = h := by
 simp [upH, setAll]
theorem sub_nil (h : H) : Sub h ⟨[], []⟩ [] [] := by simp [Sub]
theorem EV.mask {ai : AI} {env : Env} {h : H} {Φ : V → H → Prop} (k : ∀ env', (∀ t ∈ slI ai, get env' t = get env t) → EV P N f ai env' h Q Φ) : EV P N f ai (mask (slI ai) env) h Q Φ :=
 k _ fun t ht => by rw [get_mask, if_pos ht]
theorem gOk_congr {env env' : Env} {ai : AI} (he : ∀ t ∈ slI ai, get env' t = get env t) (h : gOk env ai.guard) : gOk env' ai.guard := by
 unfold slI at he
 unfold gOk at h ⊢
 cases hg : ai.guard with
 | none => trivial
 | some p =>
  obtain ⟨t, w⟩ := p
  rw [hg] at he h
  simp only at h ⊢
  rw [he t (by simp)]
  exact h
theorem calls_congr {env env' : Env} {ai : AI} {g : Opd} {args : List Opd} (hop : ai.op = .call g args) (he : ∀ t ∈ slI ai, get env' t = get env t) : ev env' g = ev env g ∧ args.map (ev env') = args.map (ev env) := by
 unfold slI at he
 rw [hop] at he
 simp only [List.mem_append] at he
 exact ⟨congO (f := ev env') (g := ev env) (fun _ => rfl) fun t ht => he t (.inl (.inl ht)), congL (f := ev env') (g := ev env) (fun _ => rfl) fun t ht => he t (.inl (.inr ht))⟩
theorem ATT.call {fn : Func} (hf : P.funcs[f.fn]? = some fn) {ix : Nat} {dst : Option Nat} {g : Opd} {args : List Opd} {guard : Option (Nat × Bool)} {kill : List Nat} {r : List AI} {k : List AItem} {env : Env} {h : H} {ob : Bool} {fid : FuncId} {all : List V}
  (hg : gOk env guard) (hc : calls (ev env g) (args.map (ev env)) = some (fid, all))
  (rb rv : List Nat) (kb kv : Nat) {hC : H} {argsC : List V} {QC : Out → H → Prop} (n : Nat) (hAF : AF P fid argsC hC QC) (hs : Sub h hC rb rv) (hsc : insc rb.length rv.length argsC = true) (hargs : rns rb rv argsC = all) (ho : ob = true)
  (hk : ∀ out hC', QC out hC' → (rb.length + kb ≤ hC'.bx.length ∧ rv.length + kv ≤ hC'.vc.length) ∧ match out with
   | .ret v => ATT P N f Q (goes n (.reg r :: k) (put (dels env kill) dst (rn (upB rb h.bx.length kb) (upB rv h.vc.length kv) v)) (upH h hC' rb rv kb kv) true)
   | .pan v => Q (.pan (rn (upB rb h.bx.length kb) (upB rv h.vc.length kv) v)) (upH h hC' rb rv kb kv)) (hkp : subE env f.keep := by exact True.intro) : ATT P N f Q (.reg (⟨ix, dst, .call g args, guard, kill⟩ :: r) :: k, env, h, ob) := by
 refine ⟨ho, ?_⟩
 refine AT.call (hkp := hkp) (ai := ⟨ix, dst, .call g args, guard, kill⟩) hf rfl hg hc rb rv kb kv hs hsc hargs hAF fun out hC' hq => ?_
 obtain ⟨h1, h2⟩ := hk out hC' hq
 refine ⟨h1, ?_⟩
 cases out with
 | ret v => exact (goes_sound n _ _ _ _ h2).2.at
 | pan v => exact h2
theorem ATT.callR {fn : Func} (hf : P.funcs[f.fn]? = some fn) {ix : Nat} {dst : Option Nat} {g : Opd} {args : List Opd} {guard : Option (Nat × Bool)} {kill : List Nat} {d r : List AI} {k : List AItem} {env : Env} {h : H} {ob : Bool} {fid : FuncId} {all : List V}
  (hg : gOk env guard) (hc : calls (ev env g) (args.map (ev env)) = some (fid, all))
  (rb rv : List Nat) (kb kv : Nat) {hC : H} {argsC : List V} {QC : Out → H → Prop} (n : Nat) (hAF : AF P fid argsC hC QC) (hs : Sub h hC rb rv) (hsc : insc rb.length rv.length argsC = true) (hargs : rns rb rv argsC = all) (ho : ob = true)
  (hk : ∀ out hC', QC out hC' → (rb.length + kb ≤ hC'.bx.length ∧ rv.length + kv ≤ hC'.vc.length) ∧ match out with
   | .ret v => ATT P N f Q (goes n (.regD (⟨ix, dst, .call g args, guard, kill⟩ :: d) r :: k) (put env dst (rn (upB rb h.bx.length kb) (upB rv h.vc.length kv) v)) (upH h hC' rb rv kb kv)
     (rcB (upH h hC' rb rv kb kv) (put env dst (rn (upB rb h.bx.length kb) (upB rv h.vc.length kv) v)) kill d))
   | .pan v => Q (.pan (rn (upB rb h.bx.length kb) (upB rv h.vc.length kv) v)) (upH h hC' rb rv kb kv)) (hk0 : f.keep = [] := by rfl) : ATT P N f Q (.regD d (⟨ix, dst, .call g args, guard, kill⟩ :: r) :: k, env, h, ob) := by
 refine ⟨ho, ?_⟩
 show ATD P N chkD f (k.map instI) Q d (⟨ix, dst, .call g args, guard, kill⟩ :: r) env h
 simp only [ATD, isRead]
 refine EV.mask fun env' he => ?_
 obtain ⟨c1, c2⟩ := calls_congr (ai := ⟨ix, dst, .call g args, guard, kill⟩) rfl he
 refine EV.call (hk0 := hk0) (ai := ⟨ix, dst, .call g args, guard, kill⟩) hf rfl (gOk_congr he hg) (by rw [c1, c2]; exact hc) rb rv kb kv hs hsc hargs hAF fun out hC' hq => ?_
 obtain ⟨h1, h2⟩ := hk out hC' hq
 refine ⟨h1, ?_⟩
 cases out with
 | ret v =>
  obtain ⟨q1, q2⟩ := goes_sound n _ _ _ _ h2
  exact ⟨rcB_sound q1, q2⟩
 | pan v => exact h2
theorem ATT.callD {fn : Func} (hf : P.funcs[f.fn]? = some fn) {ix : Nat} {dst : Option Nat} {g : Opd} {args : List Opd} {guard : Option (Nat × Bool)} {kill : List Nat} {r : List AI} {k : List AItem} {env : Env} {h : H} {ob : Bool} {fid : FuncId} {ds : List D} {v : D}
  (n : Nat) (hAF : DF P fid ds v) (hg : gOk env guard) (hc : calls (ev env g) (args.map (ev env)) = some (fid, ds.map .d)) (ho : ob = true)
  (hk : ATT P N f Q (goes n (.reg r :: k) (put (dels env kill) dst (.d v)) h true)) (hkp : subE env f.keep := by exact True.intro) : ATT P N f Q (.reg (⟨ix, dst, .call g args, guard, kill⟩ :: r) :: k, env, h, ob) := by
 refine ATT.call (hkp := hkp) hf hg hc [] [] 0 0 n hAF (sub_nil h) (insc_data _ _ _) (rns_data _ _ _) ho fun out hC' hq => ⟨by simp, ?_⟩
 subst hq
 simp only [rn, upH_nil]
 exact hk
theorem ATT.callRD {fn : Func} (hf : P.funcs[f.fn]? = some fn) {ix : Nat} {dst : Option Nat} {g : Opd} {args : List Opd} {guard : Option (Nat × Bool)} {kill : List Nat} {d r : List AI} {k : List AItem} {env : Env} {h : H} {ob : Bool} {fid : FuncId} {ds : List D} {v : D}
  (n : Nat) (hAF : DF P fid ds v) (hg : gOk env guard) (hc : calls (ev env g) (args.map (ev env)) = some (fid, ds.map .d)) (ho : ob = true)
  (hk : ATT P N f Q (goes n (.regD (⟨ix, dst, .call g args, guard, kill⟩ :: d) r :: k) (put env dst (.d v)) h (rcB h (put env dst (.d v)) kill d))) (hk0 : f.keep = [] := by rfl) : ATT P N f Q (.regD d (⟨ix, dst, .call g args, guard, kill⟩ :: r) :: k, env, h, ob) := by
 refine ATT.callR (hk0 := hk0) hf hg hc [] [] 0 0 n hAF (sub_nil h) (insc_data _ _ _) (rns_data _ _ _) ho fun out hC' hq => ⟨by simp, ?_⟩
 subst hq
 simp only [rn, upH_nil]
 exact hk
def MF (P : Program) (f : FuncId) (args : List V) (b : List Bx) (v : V) (b' : List Bx) : Prop := AF P f args ⟨b, []⟩ fun o h => o = .ret v ∧ ∃ r w, h = ⟨b' ++ r, w⟩
theorem setAll_app {α : Type} : ∀ (r : List Nat) (l xs ys : List α), xs.length = r.length → setAll l r (xs ++ ys) = setAll l r xs
 | [], l, xs, ys, h => by cases xs <;> simp_all [setAll]
 | i :: r, l, [], ys, h => by simp at h
 | i :: r, l, x :: xs, ys, h => by
  simp only [List.cons_append, setAll]
  exact setAll_app r _ xs ys (by simpa using h)
theorem upH_keep {h : H} {b' r : List Bx} {w : List (Option Vec)} {rb : List Nat} (hl : b'.length = rb.length) : upH h ⟨b' ++ r, w⟩ rb [] 0 0 = ⟨setAll h.bx rb (b'.map (rnB rb [])), h.vc⟩ := by
 unfold upH upB
 simp only [List.range_zero, List.map_nil, List.append_nil, List.take_zero, List.map_append]
 rw [setAll_app _ _ _ _ (by simpa using hl)]
 cases w <;> simp [setAll]
theorem ATT.callM {fn : Func} (hf : P.funcs[f.fn]? = some fn) {ix : Nat} {dst : Option Nat} {g : Opd} {args : List Opd} {guard : Option (Nat × Bool)} {kill : List Nat} {r : List AI} {k : List AItem} {env : Env} {h : H} {ob : Bool} {fid : FuncId} {argsC : List V} {b b' : List Bx} {v : V}
  (n : Nat) (rb : List Nat) (hM : MF P fid argsC b v b') (hl : b'.length = rb.length) (hg : gOk env guard) (hc : calls (ev env g) (args.map (ev env)) = some (fid, rns rb [] argsC)) (hs : Sub h ⟨b, []⟩ rb []) (hsc : insc rb.length 0 argsC = true) (ho : ob = true)
  (hk : ATT P N f Q (goes n (.reg r :: k) (put (dels env kill) dst (rn rb [] v)) ⟨setAll h.bx rb (b'.map (rnB rb [])), h.vc⟩ true)) (hkp : subE env f.keep := by exact True.intro) : ATT P N f Q (.reg (⟨ix, dst, .call g args, guard, kill⟩ :: r) :: k, env, h, ob) := by
 refine ATT.call (hkp := hkp) hf hg hc rb [] 0 0 n hM hs hsc rfl ho fun out hC' hq => ?_
 obtain ⟨e1, r', w', e2⟩ := hq
 subst e1 e2
 refine ⟨by simp [hl], ?_⟩
 simp only [upH_keep hl, upB, List.range_zero, List.map_nil, List.append_nil]
 exact hk
theorem ATT.callRM {fn : Func} (hf : P.funcs[f.fn]? = some fn) {ix : Nat} {dst : Option Nat} {g : Opd} {args : List Opd} {guard : Option (Nat × Bool)} {kill : List Nat} {d r : List AI} {k : List AItem} {env : Env} {h : H} {ob : Bool} {fid : FuncId} {argsC : List V} {b b' : List Bx} {v : V}
  (n : Nat) (rb : List Nat) (hM : MF P fid argsC b v b') (hl : b'.length = rb.length) (hg : gOk env guard) (hc : calls (ev env g) (args.map (ev env)) = some (fid, rns rb [] argsC)) (hs : Sub h ⟨b, []⟩ rb []) (hsc : insc rb.length 0 argsC = true) (ho : ob = true)
  (hk : ATT P N f Q (goes n (.regD (⟨ix, dst, .call g args, guard, kill⟩ :: d) r :: k) (put env dst (rn rb [] v)) ⟨setAll h.bx rb (b'.map (rnB rb [])), h.vc⟩ (rcB ⟨setAll h.bx rb (b'.map (rnB rb [])), h.vc⟩ (put env dst (rn rb [] v)) kill d))) (hk0 : f.keep = [] := by rfl) :
  ATT P N f Q (.regD d (⟨ix, dst, .call g args, guard, kill⟩ :: r) :: k, env, h, ob) := by
 refine ATT.callR (hk0 := hk0) hf hg hc rb [] 0 0 n hM hs hsc rfl ho fun out hC' hq => ?_
 obtain ⟨e1, r', w', e2⟩ := hq
 subst e1 e2
 refine ⟨by simp [hl], ?_⟩
 simp only [upH_keep hl, upB, List.range_zero, List.map_nil, List.append_nil]
 exact hk
attribute [simp] setAll rn rns rnB isin insc inscB calls gOk Sub aress ares outV mkTup
theorem ATT.callX {ix : Nat} {dst : Option Nat} {g : Opd} {args : List Opd} {guard : Option (Nat × Bool)} {kill : List Nat} {r : List AI} {k : List AItem} {env : Env} {h : H} {ob : Bool} {fid : FuncId} {all : List V} {v : V}
  (n : Nat) (hX : XF P fid all v) (hg : gOk env guard) (hc : calls (ev env g) (args.map (ev env)) = some (fid, all)) (ho : ob = true)
  (hk : ATT P N f Q (goes n (.reg r :: k) (put (dels env kill) dst v) h true)) : ATT P N f Q (.reg (⟨ix, dst, .call g args, guard, kill⟩ :: r) :: k, env, h, ob) := by
 refine ⟨ho, ?_⟩
 refine AT.ev (ai := ⟨ix, dst, .call g args, guard, kill⟩) (Φ := fun v' h' => v' = v ∧ h' = h) (EV.ext rfl hg hc hX ⟨rfl, rfl⟩) fun v' h' ⟨e1, e2⟩ => ?_
 subst e1 e2
 exact (goes_sound n _ _ _ _ hk).2.at
theorem ATT.loop {b : AC} {k : List AItem} {env : Env} {h : H} {ob : Bool} (n : Nat) (ho : ob = true) (hk : ATT P N f Q (goes n (.code b :: .lp b :: k) env h true)) : ATT P N f Q (.code (.loop b) :: k, env, h, ob) :=
 ⟨ho, AT.step (go := true) (by simp only [List.map_cons, instI, inst, step1]) rfl (goes_sound n _ _ _ _ hk).2.at⟩
theorem ATT.again {b : AC} {k : List AItem} {env : Env} {h : H} {ob : Bool} (n : Nat) (ho : ob = true) (hk : ATT P N f Q (goes n (.code b :: .lp b :: k) env h true)) : ATT P N f Q (.lp b :: k, env, h, ob) :=
 ⟨ho, AT.step (go := true) (by simp only [List.map_cons, instI, step1]) rfl (goes_sound n _ _ _ _ hk).2.at⟩
theorem subE_weak {e : Env} : ∀ {e' : Env}, subE e e' → ∀ t, get e' t = .dead ∨ get e' t = get e t
 | [], _, t => .inl rfl
 | (k, v) :: r, h, t => by
  simp only [get]
  by_cases hk : k = t
  ·subst hk; rw [Nat.beq_refl]; exact .inr h.1.symm
  ·rw [beq_ne hk]; exact subE_weak h.2 t
attribute [simp] subE
def LP (P : Program) (N : Nat) (f : FD) (Q : Out → H → Prop) (b : AC) (k : List AItem) (env : Env) (h : H) : Prop := AT P N chkD f ((.code b :: .lp b :: k).map instI) env h Q
theorem ATT.loop' {b : AC} {k : List AItem} {env : Env} {h : H} {ob : Bool} (env' : Env) (ho : ob = true) (he : subE env env') (hk : LP P N f Q b k env' h) : ATT P N f Q (.code (.loop b) :: k, env, h, ob) :=
 ⟨ho, AT.step (go := true) (by simp only [List.map_cons, instI, inst, step1]) rfl (AT.weak (subE_weak he) hk)⟩
theorem ATT.again' {b : AC} {k : List AItem} {env : Env} {h : H} {ob : Bool} (env' : Env) (ho : ob = true) (he : subE env env') (hk : LP P N f Q b k env' h) : ATT P N f Q (.lp b :: k, env, h, ob) :=
 ⟨ho, AT.step (go := true) (by simp only [List.map_cons, instI, step1]) rfl (AT.weak (subE_weak he) hk)⟩
theorem LP.of {b c : AC} {k : List AItem} {env : Env} {h : H} (n : Nat) (hb : b = c) (hk : ATT P N f Q (goes n (.code c :: .lp b :: k) env h true)) : LP P N f Q b k env h := by
 subst hb
 exact AT.goes n hk
theorem alabel_inst : ∀ (c : AC) (l : Nat), alabel (inst c) l = (alabel c l).map inst := by
 intro c
 induction c with
 | seq a b iha ihb =>
  intro l
  simp only [inst, alabel, iha, ihb]
  cases alabel a l <;> rfl
 | label l' => intro l; simp only [inst, alabel]; split <;> rfl
 | _ => intro l; rfl
theorem agoto_inst (l : Nat) : ∀ k : List AItem, agoto l (k.map instI) = (agoto l k).map (List.map instI)
 | [] => rfl
 | x :: k => by
  cases x with
  | scp b =>
   simp only [List.map_cons, instI, agoto, alabel_inst]
   cases alabel b l with
   | none => exact agoto_inst l k
   | some r => rfl
  | _ => simp only [List.map_cons, instI, agoto]; exact agoto_inst l k
theorem ATT.goto {l : Nat} {k k' : List AItem} {env : Env} {h : H} {ob : Bool} (env' : Env) (ho : ob = true) (hk' : agoto l k = some k') (he : subE env env') (hk : AT P N chkD f (k'.map instI) env' h Q) : ATT P N f Q (.code (.goto l) :: k, env, h, ob) :=
 ⟨ho, AT.step (go := true) (by simp only [instI, inst, step1, agoto_inst, hk', Option.map_some]) rfl (AT.weak (subE_weak he) hk)⟩
end
end Go.SL
namespace Go.SL
section
variable {P : Program} {N : Nat} {f : FD} {Q : Out → H → Prop}
theorem ATT.cCn {p : Prop} [Decidable p] {n : Nat} {k : List AItem} {i : AI} {r : List AI} {env : Env} {h : H} {ob : Bool} (h1 : p → ATT P N f Q (stC false n k i r env h ob)) (h2 : ¬p → ATT P N f Q (stC true n k i r env h ob)) : ATT P N f Q (stC (!decide p) n k i r env h ob) := by
 by_cases hp : p
 ·rw [decide_eq_true hp]; exact h1 hp
 ·rw [decide_eq_false hp]; exact h2 hp
theorem ATT.cEn {p : Prop} [Decidable p] {n : Nat} {k : List AItem} {d : List AI} {i : AI} {r : List AI} {env : Env} {h : H} {ob : Bool} (h1 : p → ATT P N f Q (stE false n k d i r env h ob)) (h2 : ¬p → ATT P N f Q (stE true n k d i r env h ob)) : ATT P N f Q (stE (!decide p) n k d i r env h ob) := by
 by_cases hp : p
 ·rw [decide_eq_true hp]; exact h1 hp
 ·rw [decide_eq_false hp]; exact h2 hp
theorem ATT.cDn {p : Prop} [Decidable p] {n : Nat} {k : List AItem} {a b : AC} {env : Env} {h : H} {ob : Bool} (h1 : p → ATT P N f Q (stD false n k a b env h ob)) (h2 : ¬p → ATT P N f Q (stD true n k a b env h ob)) : ATT P N f Q (stD (!decide p) n k a b env h ob) := by
 by_cases hp : p
 ·rw [decide_eq_true hp]; exact h1 hp
 ·rw [decide_eq_false hp]; exact h2 hp
theorem ATT.loopI {b c : AC} {k : List AItem} {env : Env} {h : H} {ob : Bool} {ι : Type} (n : Nat) (hb : b = c) (m : ι → Nat) (I : ι → Prop) (E : ι → Env) (Hh : ι → H) (x0 : ι) (h0 : I x0)
  (ho : ob = true) (he : subE env (E x0)) (hh : h = Hh x0)
  (body : ∀ x, I x → (∀ y, m y < m x → I y → ∀ env h ob, ob = true → subE env (E y) → h = Hh y → ATT P N f Q (.lp b :: k, env, h, ob)) →
   ATT P N f Q (goes n (.code c :: .lp b :: k) (E x) (Hh x) true)) : ATT P N f Q (.code (.loop b) :: k, env, h, ob) := by
 have key : ∀ j x, m x = j → I x → LP P N f Q b k (E x) (Hh x) := by
  intro j
  induction j using Nat.strongRecOn with
  | ind j ih =>
   intro x hx hI
   subst hb
   refine LP.of n rfl (body x hI fun y hy hIy env h ob ho he hh => ?_)
   subst hh
   exact ATT.again' (E y) ho he (ih (m y) (hx ▸ hy) y rfl hIy)
 subst hh
 exact ATT.loop' (E x0) ho he (key _ x0 rfl h0)
def flat : Nat → List AItem → List AItem
 | 0, k => k
 | n + 1, .code (.seq a b) :: k => flat n (.code a :: .code b :: k)
 | n + 1, .code .skip :: k => flat n k
 | n + 1, .code (.label _) :: k => flat n k
 | _ + 1, k => k
theorem AT.flat : ∀ (n : Nat) (k : List AItem) {env : Env} {h : H}, AT P N chkD f ((SL.flat n k).map instI) env h Q → AT P N chkD f (k.map instI) env h Q
 | 0, _, _, _, g => g
 | n + 1, k, env, h, g => by
  cases k with
  | nil => exact g
  | cons x k =>
   cases x with
   | code c =>
    cases c with
    | seq a b => exact AT.step (go := false) (by simp only [List.map_cons, instI, inst, step1]) rfl (AT.flat n (.code a :: .code b :: k) g)
    | skip => exact AT.step (go := false) (by simp only [List.map_cons, instI, inst, step1]) rfl (AT.flat n k g)
    | label l => exact AT.step (go := false) (by simp only [List.map_cons, instI, inst, step1]) rfl (AT.flat n k g)
    | _ => exact g
   | _ => exact g
theorem ATT.pass {l : Nat} {k : List AItem} {env : Env} {h : H} {ob : Bool} (n : Nat) (ho : ob = true) (hk : ATT P N f Q (goes n k env h true)) : ATT P N f Q (.code (.label l) :: k, env, h, ob) :=
 ⟨ho, AT.step (go := false) (by simp only [instI, inst, step1]) rfl (AT.goes n hk)⟩
theorem ATT.jump {l : Nat} {k k' : List AItem} {env : Env} {h : H} {ob : Bool} (n : Nat) (ho : ob = true) (hk' : agoto l k = some k') (hk : ATT P N f Q (goes n k' env h true)) : ATT P N f Q (.code (.goto l) :: k, env, h, ob) :=
 ⟨ho, AT.step (go := true) (by simp only [instI, inst, step1, agoto_inst, hk', Option.map_some]) rfl (AT.goes n hk)⟩
theorem ATT.labelI {l : Nat} {k k' : List AItem} {env : Env} {h : H} {ob : Bool} {ι : Type} (n : Nat) (hl : agoto l k = some k') (hk : SL.flat 20 k' = SL.flat 20 k) (m : ι → Nat) (I : ι → Prop) (E : ι → Env) (Hh : ι → H) (x0 : ι) (h0 : I x0)
  (ho : ob = true) (he : subE env (E x0)) (hh : h = Hh x0)
  (body : ∀ x, I x → (∀ y, m y < m x → I y → ∀ k1 env h ob, agoto l k1 = some k' → ob = true → subE env (E y) → h = Hh y → ATT P N f Q (.code (.goto l) :: k1, env, h, ob)) →
   ATT P N f Q (goes n (SL.flat 20 k) (E x) (Hh x) true)) : ATT P N f Q (.code (.label l) :: k, env, h, ob) := by
 have key : ∀ j x, m x = j → I x → AT P N chkD f ((SL.flat 20 k).map instI) (E x) (Hh x) Q := by
  intro j
  induction j using Nat.strongRecOn with
  | ind j ih =>
   intro x hx hI
   refine AT.goes n (body x hI fun y hy hIy k1 env h ob hk1 ho he hh => ?_)
   subst hh
   exact ATT.goto (E y) ho hk1 he (AT.flat 20 k' (by rw [hk]; exact ih (m y) (hx ▸ hy) y rfl hIy))
 subst hh
 exact ⟨ho, AT.step (go := false) (by simp only [instI, inst, step1]) rfl (AT.flat 20 k (AT.weak (subE_weak he) (key _ x0 rfl h0)))⟩
end
end Go.SL
namespace Go.SL
section
variable {P : Program} {N : Nat} {f : FD} {Q : Out → H → Prop}
theorem VL.setv {κ : K} : ∀ {xs : List V} {ys : List Value} {j : Nat} {x : V} {y : Value}, VL κ xs ys → ys[j]? = some y → VR κ x y → VL κ (xs.set j x) ys
 | [], ys, j, x, y, r, e, _ => by simp only [VL] at r; subst r; simp at e
 | z :: xs, ys, j, x, y, r, e, hx => by
  simp only [VL] at r
  obtain ⟨y', t, e1, r1, r2⟩ := r
  subst e1
  cases j with
  | zero =>
   simp at e; subst e
   simp only [List.set_cons_zero, VL]
   exact ⟨_, _, rfl, hx, r2⟩
  | succ j =>
   simp only [List.set_cons_succ, VL]
   exact ⟨_, _, rfl, r1, VL.setv r2 (by simpa using e) hx⟩
theorem nil_slice {κ : K} {z : Nat} {v : Value} (h : VR κ (.d (.sl true z [])) v) : v = .slice none 0 0 := by
 simp only [VR, DR] at h
 rcases h with ⟨_, _, h⟩ | ⟨h, _⟩
 ·exact h
 ·simp at h
theorem AT.nilB {chk : Array Oper → List (List AI) → Bool} {ks : List AItem} {env : Env} {h : H} {i j z : Nat} {cs : List V} {e : TypeId} (hb : h.bx[i]? = some (.cells cs e)) (hc : cs[j]? = some (.d (.sl true z []))) (sz : Nat) (hz : 0 < sz) (e' : TypeId)
  (k : AT P N chk f ks env ⟨h.bx.set i (.cells (cs.set j (.vs h.vc.length 0 0 0)) e), h.vc ++ [some ⟨true, sz, 0, [], e'⟩]⟩ Q) : AT P N chk f ks env h Q := by
 intro κ w a k0 cs0 hcs hr he hd
 obtain ⟨κ', r1, l1, r2⟩ := hr.nilVec ⟨true, sz, 0, [], e'⟩ rfl rfl hz
 have hbx := r1.bx i _ hb
 obtain ⟨g1, vs, g2, g3⟩ := hbx
 obtain ⟨y, g4, g5⟩ := VL.get g3.1 j _ hc
 have := nil_slice g5
 subst this
 have r3 := r1.setBox (w' := w) hb (by simp) (fun _ _ => rfl) rfl rfl rfl (x := .cells (cs.set j (.vs h.vc.length 0 0 0)) e) ⟨g1, vs, g2, VL.setv g3.1 g4 r2, g3.2⟩
 exact (k κ' w a k0 cs0 hcs r3 (he.mono l1) (hd.mono l1)).le l1
theorem AT.nilE {chk : Array Oper → List (List AI) → Bool} {ks : List AItem} {env : Env} {h : H} {t z : Nat} (hc : get env t = .d (.sl true z [])) (sz : Nat) (hz : 0 < sz) (e' : TypeId)
  (k : AT P N chk f ks (put env (some t) (.vs h.vc.length 0 0 0)) ⟨h.bx, h.vc ++ [some ⟨true, sz, 0, [], e'⟩]⟩ Q) : AT P N chk f ks env h Q := by
 intro κ w a k0 cs0 hcs hr he hd
 obtain ⟨κ', r1, l1, r2⟩ := hr.nilVec ⟨true, sz, 0, [], e'⟩ rfl rfl hz
 have he' := he.mono l1
 refine (k κ' w a k0 cs0 hcs r1 ⟨he'.1, fun t' => ?_⟩ (hd.mono l1)).le l1
 simp only [SL.put, get]
 by_cases ht : t = t'
 ·subst ht
  rw [Nat.beq_refl]
  have h1 := he'.2 t
  rw [hc] at h1
  have := nil_slice h1
  rw [this]
  exact r2
 ·rw [beq_ne ht]
  simp only [get_del, if_neg (Ne.symm ht)]
  exact he'.2 t'
theorem fzV_sound {κ : K} {h : H} {w : World} (r : Rel κ h w) {x : V} {v : Value} (hx : VR κ x v) : VR (fzK κ h w) (fzV h x) v := by
 unfold fzV
 split
 ·rename_i d hd
  simp only [VR]
  exact toDv_sound r _ _ _ _ hd hx
 ·exact hx.mono fz_le
def fzB (h : H) : Bx → Bx
 | .cells cs e => .cells (cs.map (fzV h)) e
 | b => b
theorem VL.fz {κ : K} {h : H} {w : World} (r : Rel κ h w) : ∀ {xs : List V} {ys : List Value}, VL κ xs ys → VL (fzK κ h w) (xs.map (fzV h)) ys
 | [], _, e => by simpa only [VL, List.map_nil] using e
 | x :: xs, ys, e => by
  simp only [VL, List.map_cons] at e ⊢
  obtain ⟨y, t, e1, r1, r2⟩ := e
  exact ⟨y, t, e1, fzV_sound r r1, VL.fz r r2⟩
def fzE (h : H) (env : Env) : Env := env.map fun p => (p.1, fzV h p.2)
theorem get_fzE (h : H) : ∀ (env : Env) (t : Nat), get (fzE h env) t = fzV h (get env t)
 | [], t => by simp [fzE, get, fzV, toDv]
 | (k, v) :: r, t => by
  have ih := get_fzE h r t
  simp only [fzE, List.map_cons, get] at ih ⊢
  split
  ·rfl
  ·exact ih
def fzA (h : H) : H := ⟨h.bx.map (fzB h), h.vc.map fun _ => none⟩
theorem AT.fz {chk : Array Oper → List (List AI) → Bool} {ks : List AItem} {env : Env} {h : H} (k : AT P N chk f ks (fzE h env) (fzA h) Q) : AT P N chk f ks env h Q := by
 intro κ w a k0 cs0 hcs hr he hd
 have hf := fz_rel hr
 have hF : Rel (fzK κ h w) (fzA h) w := ⟨hf.S, hf.SO, by have := hr.nb; show κ.nb = (h.bx.map (fzB h)).length; simpa using this, hf.nv, fun i x hx => by
  simp only [fzA, List.getElem?_map] at hx
  cases hb : h.bx[i]? with
  | none => rw [hb] at hx; simp at hx
  | some b =>
   rw [hb] at hx
   simp only [Option.map_some, Option.some.injEq] at hx
   subst hx
   have h1 := hf.bx i b hb
   cases b with
   | cells cs e =>
    obtain ⟨g1, vs, g2, g3⟩ := h1
    obtain ⟨_, vs', q2, q3⟩ := hr.bx i _ hb
    have q2' : w.heap[(fzK κ h w).bl i]? = some (.cells ⟨vs'⟩ e (0, 0)) := q2
    rw [g2] at q2'
    simp at q2'
    subst q2'
    exact ⟨g1, vs, g2, VL.fz hr q3.1, q3.2⟩
   | iter s p => exact h1
   | raw => exact h1
   | gone => exact h1, hf.vc, hf.rest, hf.os, hf.out, hf.tape⟩
 refine (k (fzK κ h w) w a k0 cs0 hcs hF ⟨he.1, fun t => ?_⟩ (hd.mono fz_le)).le fz_le
 rw [get_fzE]
 exact fzV_sound hr (he.2 t)
theorem ATT.nilB {x : AItem} {ks : List AItem} {env : Env} {h : H} {ob : Bool} (i j : Nat) {z : Nat} {cs : List V} {e : TypeId} (sz : Nat) (e' : TypeId) (hb : h.bx[i]? = some (.cells cs e)) (hc : cs[j]? = some (.d (.sl true z []))) (hz : 0 < sz) (hx : ∀ d l, x ≠ .regD d l)
  (k : ATT P N f Q (x :: ks, env, ⟨h.bx.set i (.cells (cs.set j (.vs h.vc.length 0 0 0)) e), h.vc ++ [some ⟨true, sz, 0, [], e'⟩]⟩, ob)) : ATT P N f Q (x :: ks, env, h, ob) := by
 refine ⟨k.1, ATX.of (x := instI x) (fun d l => ?_) (AT.nilB hb hc sz hz e' k.2.at)⟩
 cases x <;> simp [instI]
 exact fun h1 => absurd (by rw [h1]) (hx _ _)
theorem ATT.nilE {x : AItem} {ks : List AItem} {env : Env} {h : H} {ob : Bool} (t : Nat) {z : Nat} (sz : Nat) (e' : TypeId) (hc : get env t = .d (.sl true z [])) (hz : 0 < sz) (hx : ∀ d l, x ≠ .regD d l)
  (k : ATT P N f Q (x :: ks, put env (some t) (.vs h.vc.length 0 0 0), ⟨h.bx, h.vc ++ [some ⟨true, sz, 0, [], e'⟩]⟩, ob)) : ATT P N f Q (x :: ks, env, h, ob) := by
 refine ⟨k.1, ATX.of (x := instI x) (fun d l => ?_) (AT.nilE hc sz hz e' k.2.at)⟩
 cases x <;> simp [instI]
 exact fun h1 => absurd (by rw [h1]) (hx _ _)
theorem ATT.fz {x : AItem} {ks : List AItem} {env : Env} {h : H} {ob : Bool} (hx : ∀ d l, x ≠ .regD d l)
  (k : ATT P N f Q (x :: ks, fzE h env, fzA h, ob)) : ATT P N f Q (x :: ks, env, h, ob) := by
 refine ⟨k.1, ATX.of (x := instI x) (fun d l => ?_) (AT.fz k.2.at)⟩
 cases x <;> simp [instI]
 exact fun h1 => absurd (by rw [h1]) (hx _ _)
theorem ATT.fz0 {env : Env} {h : H} {ob : Bool} (k : ATT P N f Q ([], fzE h env, fzA h, ob)) : ATT P N f Q ([], env, h, ob) :=
 ⟨k.1, AT.fz k.2⟩
theorem ATT.ords {l : List (List AI)} {k : List AItem} {env : Env} {h : H} {ob : Bool} (n : Nat) (ho : ob = true) (hk : ∀ o ∈ l, ATT P N f Q (xD n k [] o env h true)) : ATT P N f Q (.code (.regD l) :: k, env, h, ob) :=
 ⟨ho, AT.regD fun o' ho' => (xregD_sound (k := k) (c := goes n k) (fun env h ob e => by
  have := goes_sound n k env h ob e
  exact ⟨this.1, this.2.at⟩) o' [] env h true (hk o' ho')).2⟩
def DE (P : Program) (f : FuncId) (args : List D) (Φ : D → Prop) : Prop := AF P f (args.map .d) ⟨[], []⟩ fun o _ => ∃ v, o = .ret (.d v) ∧ Φ v
theorem ATT.callE {fn : Func} (hf : P.funcs[f.fn]? = some fn) {ix : Nat} {dst : Option Nat} {g : Opd} {args : List Opd} {guard : Option (Nat × Bool)} {kill : List Nat} {r : List AI} {k : List AItem} {env : Env} {h : H} {ob : Bool} {fid : FuncId} {ds : List D} {Φ : D → Prop}
  (n : Nat) (hAF : DE P fid ds Φ) (hg : gOk env guard) (hc : calls (ev env g) (args.map (ev env)) = some (fid, ds.map .d)) (ho : ob = true)
  (hk : ∀ v, Φ v → ATT P N f Q (goes n (.reg r :: k) (put (dels env kill) dst (.d v)) h true)) (hkp : subE env f.keep := by exact True.intro) : ATT P N f Q (.reg (⟨ix, dst, .call g args, guard, kill⟩ :: r) :: k, env, h, ob) := by
 refine ATT.call (hkp := hkp) hf hg hc [] [] 0 0 n hAF (sub_nil h) (insc_data _ _ _) (rns_data _ _ _) ho fun out hC' hq => ⟨by simp, ?_⟩
 obtain ⟨v, e, hv⟩ := hq
 subst e
 simp only [rn, upH_nil]
 exact hk v hv
theorem ATT.callRE {fn : Func} (hf : P.funcs[f.fn]? = some fn) {ix : Nat} {dst : Option Nat} {g : Opd} {args : List Opd} {guard : Option (Nat × Bool)} {kill : List Nat} {d r : List AI} {k : List AItem} {env : Env} {h : H} {ob : Bool} {fid : FuncId} {ds : List D} {Φ : D → Prop}
  (n : Nat) (hAF : DE P fid ds Φ) (hg : gOk env guard) (hc : calls (ev env g) (args.map (ev env)) = some (fid, ds.map .d)) (ho : ob = true)
  (hk : ∀ v, Φ v → ATT P N f Q (goes n (.regD (⟨ix, dst, .call g args, guard, kill⟩ :: d) r :: k) (put env dst (.d v)) h (rcB h (put env dst (.d v)) kill d))) (hk0 : f.keep = [] := by rfl) : ATT P N f Q (.regD d (⟨ix, dst, .call g args, guard, kill⟩ :: r) :: k, env, h, ob) := by
 refine ATT.callR (hk0 := hk0) hf hg hc [] [] 0 0 n hAF (sub_nil h) (insc_data _ _ _) (rns_data _ _ _) ho fun out hC' hq => ⟨by simp, ?_⟩
 obtain ⟨v, e, hv⟩ := hq
 subst e
 simp only [rn, upH_nil]
 exact hk v hv
theorem AF.start' {f : FuncId} {fn : Func} {c : Code} {ac : AC} {ann : Ann} {args : List V} {h : H} {Q : Out → H → Prop} (n : Nat) (hf : P.funcs[f]? = some fn) (hb : fn.body = some c) (hn : fn.ntmps = N) (hcal : callable P f = true)
  (hc : comp P N ann chkD c = some (inst ac)) (k : ∀ Q' : Out → H → Prop, (∀ o h, Q o h → Q' o h) → ATT P N (.of f) Q' (goes n [.code ac] (env0 0 args) h true)) : AF P f args h Q :=
 AF.start n hf hb hn hcal hc (k Q fun _ _ h => h)
theorem ATT.fin' {Q Q' : Out → H → Prop} (hQ : ∀ o h, Q o h → Q' o h) {fn : Func} (hf : P.funcs[f.fn]? = some fn) {rs : List ARes} (h1 : cRess P fn.results.toList = some rs) {k : List AItem} {env : Env} {h : H} {ob : Bool}
  (hq : ob = true ∧ match aress h env rs with | some vs => Q (.ret (outV vs)) h | none => False) (hdv : f.pln = true := by rfl) : ATT P N f Q' (.code .ret :: k, env, h, ob) :=
 ATT.fin hf h1 ⟨hq.1, by have := hq.2; split at this <;> rename_i e <;> (try rw [e]) <;> first | exact hQ _ _ this | exact this.elim⟩ hdv
theorem ATT.pan {Q Q' : Out → H → Prop} (hQ : ∀ o h, Q o h → Q' o h) {fn : Func} (hf : P.funcs[f.fn]? = some fn) {ix : Nat} {dst : Option Nat} {x : Opd} {guard : Option (Nat × Bool)} {kill : List Nat} {r : List AI} {k : List AItem} {env : Env} {h : H} {ob : Bool} {t : TypeId} {y : D}
  (hv : ev env x = .d (.iface t y)) (hg : gOk env guard) (ho : ob = true) (hq : Q (.pan (.d (.iface t y))) h) (hkp : subE env f.keep := by exact True.intro) : ATT P N f Q' (.reg (⟨ix, dst, .panic x, guard, kill⟩ :: r) :: k, env, h, ob) :=
 ⟨ho, AT.panic (ai := ⟨ix, dst, .panic x, guard, kill⟩) hf rfl hg hv (.inr ⟨t, y, rfl⟩) (hQ _ _ hq) hkp⟩
theorem ATT.callA {fn : Func} (hf : P.funcs[f.fn]? = some fn) {ix : Nat} {dst : Option Nat} {g : Opd} {args : List Opd} {guard : Option (Nat × Bool)} {kill : List Nat} {r : List AI} {k : List AItem} {env : Env} {h : H} {ob : Bool} {fid : FuncId}
  (n : Nat) (rb rv : List Nat) (kb kv : Nat) {hC : H} {argsC : List V} {QC : Out → H → Prop} (hAF : AF P fid argsC hC QC) (hg : gOk env guard) (hc : calls (ev env g) (args.map (ev env)) = some (fid, rns rb rv argsC)) (hs : Sub h hC rb rv) (hsc : insc rb.length rv.length argsC = true) (ho : ob = true)
  (hk : ∀ out hC', QC out hC' → (rb.length + kb ≤ hC'.bx.length ∧ rv.length + kv ≤ hC'.vc.length) ∧ match out with
   | .ret v => ATT P N f Q (goes n (.reg r :: k) (put (dels env kill) dst (rn (upB rb h.bx.length kb) (upB rv h.vc.length kv) v)) (upH h hC' rb rv kb kv) true)
   | .pan v => Q (.pan (rn (upB rb h.bx.length kb) (upB rv h.vc.length kv) v)) (upH h hC' rb rv kb kv)) (hkp : subE env f.keep := by exact True.intro) : ATT P N f Q (.reg (⟨ix, dst, .call g args, guard, kill⟩ :: r) :: k, env, h, ob) :=
 ATT.call (hkp := hkp) hf hg hc rb rv kb kv n hAF hs hsc rfl ho hk
theorem ATT.callRA {fn : Func} (hf : P.funcs[f.fn]? = some fn) {ix : Nat} {dst : Option Nat} {g : Opd} {args : List Opd} {guard : Option (Nat × Bool)} {kill : List Nat} {d r : List AI} {k : List AItem} {env : Env} {h : H} {ob : Bool} {fid : FuncId}
  (n : Nat) (rb rv : List Nat) (kb kv : Nat) {hC : H} {argsC : List V} {QC : Out → H → Prop} (hAF : AF P fid argsC hC QC) (hg : gOk env guard) (hc : calls (ev env g) (args.map (ev env)) = some (fid, rns rb rv argsC)) (hs : Sub h hC rb rv) (hsc : insc rb.length rv.length argsC = true) (ho : ob = true)
  (hk : ∀ out hC', QC out hC' → (rb.length + kb ≤ hC'.bx.length ∧ rv.length + kv ≤ hC'.vc.length) ∧ match out with
   | .ret v => ATT P N f Q (goes n (.regD (⟨ix, dst, .call g args, guard, kill⟩ :: d) r :: k) (put env dst (rn (upB rb h.bx.length kb) (upB rv h.vc.length kv) v)) (upH h hC' rb rv kb kv)
     (rcB (upH h hC' rb rv kb kv) (put env dst (rn (upB rb h.bx.length kb) (upB rv h.vc.length kv) v)) kill d))
   | .pan v => Q (.pan (rn (upB rb h.bx.length kb) (upB rv h.vc.length kv) v)) (upH h hC' rb rv kb kv)) (hk0 : f.keep = [] := by rfl) : ATT P N f Q (.regD d (⟨ix, dst, .call g args, guard, kill⟩ :: r) :: k, env, h, ob) :=
 ATT.callR (hk0 := hk0) hf hg hc rb rv kb kv n hAF hs hsc rfl ho hk
theorem ATT.finz {Q Q' : Out → H → Prop} (hQ : ∀ o h, Q o h → Q' o h) {fn : Func} (hf : P.funcs[f.fn]? = some fn) {rs : List ARes} (h1 : cRess P fn.results.toList = some rs) {ks : List AItem} (hks : ks = [] ∨ ∃ k, ks = .code .ret :: k) {env : Env} {h : H} {ob : Bool}
  (hq : ob = true ∧ match aress h env rs with | some vs => Q (.ret (fzV h (outV vs))) (fzH h) | none => False) (hdv : f.pln = true := by rfl) : ATT P N f Q' (ks, env, h, ob) := by
 obtain ⟨ho, hq⟩ := hq
 split at hq
 ·rename_i vs e
  exact ATT.ret hf h1 true hks e ho (hQ _ _ hq) hdv
 ·exact hq.elim
theorem ATT.fin0' {Q Q' : Out → H → Prop} (hQ : ∀ o h, Q o h → Q' o h) {fn : Func} (hf : P.funcs[f.fn]? = some fn) {rs : List ARes} (h1 : cRess P fn.results.toList = some rs) {env : Env} {h : H} {ob : Bool}
  (hq : ob = true ∧ match aress h env rs with | some vs => Q (.ret (outV vs)) h | none => False) (hdv : f.pln = true := by rfl) : ATT P N f Q' ([], env, h, ob) :=
 ATT.fin0 hf h1 ⟨hq.1, by have := hq.2; split at this <;> rename_i e <;> (try rw [e]) <;> first | exact hQ _ _ this | exact this.elim⟩ hdv
theorem ATT.loopG {b c : AC} {k : List AItem} {env : Env} {h : H} {ob : Bool} {ι : Type} (n : Nat) (hb : b = c) (m : ι → Nat) (I : ι → Prop) (E : ι → Env) (B : ι → List Bx) (C : ι → List (Option Vec)) (x0 : ι) (h0 : I x0)
  (ho : ob = true) (he : subE env (E x0)) (hh : ∃ u w, h = ⟨B x0 ++ u, C x0 ++ w⟩)
  (body : ∀ x u w, I x → (∀ y, m y < m x → I y → ∀ env h ob, ob = true → subE env (E y) → (∃ u w, h = ⟨B y ++ u, C y ++ w⟩) → ATT P N f Q (.lp b :: k, env, h, ob)) →
   ATT P N f Q (goes n (.code c :: .lp b :: k) (E x) ⟨B x ++ u, C x ++ w⟩ true)) : ATT P N f Q (.code (.loop b) :: k, env, h, ob) := by
 obtain ⟨u0, w0, hh⟩ := hh
 refine ATT.loopI n hb (fun x : ι × List Bx × List (Option Vec) => m x.1) (fun x => I x.1) (fun x => E x.1) (fun x => ⟨B x.1 ++ x.2.1, C x.1 ++ x.2.2⟩) (x0, u0, w0) h0 ho he hh ?_
 intro ⟨x, u, w⟩ hI ih
 exact body x u w hI fun y hy hIy env h ob ho he ⟨u', w', hh⟩ => ih (y, u', w') hy hIy env h ob ho he hh
theorem ATT.labelG {l : Nat} {k k' : List AItem} {env : Env} {h : H} {ob : Bool} {ι : Type} (n : Nat) (hl : agoto l k = some k') (hk : SL.flat 20 k' = SL.flat 20 k) (m : ι → Nat) (I : ι → Prop) (E : ι → Env) (B : ι → List Bx) (C : ι → List (Option Vec)) (x0 : ι) (h0 : I x0)
  (ho : ob = true) (he : subE env (E x0)) (hh : ∃ u w, h = ⟨B x0 ++ u, C x0 ++ w⟩)
  (body : ∀ x u w, I x → (∀ y, m y < m x → I y → ∀ k1 env h ob, agoto l k1 = some k' → ob = true → subE env (E y) → (∃ u w, h = ⟨B y ++ u, C y ++ w⟩) → ATT P N f Q (.code (.goto l) :: k1, env, h, ob)) →
   ATT P N f Q (goes n (SL.flat 20 k) (E x) ⟨B x ++ u, C x ++ w⟩ true)) : ATT P N f Q (.code (.label l) :: k, env, h, ob) := by
 obtain ⟨u0, w0, hh⟩ := hh
 refine ATT.labelI n hl hk (fun x : ι × List Bx × List (Option Vec) => m x.1) (fun x => I x.1) (fun x => E x.1) (fun x => ⟨B x.1 ++ x.2.1, C x.1 ++ x.2.2⟩) (x0, u0, w0) h0 ho he hh ?_
 intro ⟨x, u, w⟩ hI ih
 exact body x u w hI fun y hy hIy k1 env h ob hk1 ho he ⟨u', w', hh⟩ => ih (y, u', w') hy hIy k1 env h ob hk1 ho he hh
def VF (P : Program) (f : FuncId) (args : List V) (b : List Bx) (c : List (Option Vec)) (v : V) (b' : List Bx) (c' : List (Option Vec)) : Prop :=
 AF P f args ⟨b, c⟩ fun o h => o = .ret v ∧ ∃ r w, h = ⟨b' ++ r, c' ++ w⟩
theorem upH_app {h : H} {b' r : List Bx} {c' w : List (Option Vec)} {rb rv : List Nat} {kb kv : Nat} (hb : b'.length = rb.length + kb) (hv : c'.length = rv.length + kv) : upH h ⟨b' ++ r, c' ++ w⟩ rb rv kb kv = upH h ⟨b', c'⟩ rb rv kb kv := by
 unfold upH
 have s1 : ∀ {α : Type} (l : List α) (rs : List Nat) (xs ys : List α), rs.length ≤ xs.length → setAll l rs (xs ++ ys) = setAll l rs xs := by
  intro α l rs
  induction rs generalizing l with
  | nil => intro xs ys _; cases xs <;> cases ys <;> simp [setAll]
  | cons i rs ih =>
   intro xs ys hx
   cases xs with
   | nil => simp at hx
   | cons x xs => simp only [List.cons_append, setAll]; exact ih _ xs ys (by simpa using hx)
 have s2 : ∀ {α : Type} (xs ys : List α) (a k : Nat), xs.length = a + k → ((xs ++ ys).drop a).take k = (xs.drop a).take k := by
  intro α xs ys a k hx
  rw [List.drop_append_of_le_length (by omega), List.take_append_of_le_length (by simp; omega)]
 simp only [List.map_append]
 rw [s1 _ _ _ _ (by simp; omega), s1 _ _ _ _ (by simp; omega), s2 _ _ _ _ hb, s2 _ _ _ _ hv]
theorem ATT.callV {fn : Func} (hf : P.funcs[f.fn]? = some fn) {ix : Nat} {dst : Option Nat} {g : Opd} {args : List Opd} {guard : Option (Nat × Bool)} {kill : List Nat} {r : List AI} {k : List AItem} {env : Env} {h : H} {ob : Bool} {fid : FuncId} {argsC : List V} {b b' : List Bx} {c c' : List (Option Vec)} {v : V}
  (n : Nat) (rb rv : List Nat) (hM : VF P fid argsC b c v b' c') (hlb : b'.length = rb.length + (b'.length - rb.length)) (hlv : c'.length = rv.length + (c'.length - rv.length)) (hg : gOk env guard) (hc : calls (ev env g) (args.map (ev env)) = some (fid, rns rb rv argsC)) (hs : Sub h ⟨b, c⟩ rb rv) (hsc : insc rb.length rv.length argsC = true) (ho : ob = true)
  (hk : ATT P N f Q (goes n (.reg r :: k) (put (dels env kill) dst (rn (upB rb h.bx.length (b'.length - rb.length)) (upB rv h.vc.length (c'.length - rv.length)) v)) (upH h ⟨b', c'⟩ rb rv (b'.length - rb.length) (c'.length - rv.length)) true)) (hkp : subE env f.keep := by exact True.intro) : ATT P N f Q (.reg (⟨ix, dst, .call g args, guard, kill⟩ :: r) :: k, env, h, ob) := by
 refine ATT.call (hkp := hkp) hf hg hc rb rv (b'.length - rb.length) (c'.length - rv.length) n hM hs hsc rfl ho fun out hC' hq => ?_
 obtain ⟨e1, r', w', e2⟩ := hq
 subst e1 e2
 refine ⟨by simp; omega, ?_⟩
 rw [upH_app hlb hlv]
 exact hk
theorem ATT.callRV {fn : Func} (hf : P.funcs[f.fn]? = some fn) {ix : Nat} {dst : Option Nat} {g : Opd} {args : List Opd} {guard : Option (Nat × Bool)} {kill : List Nat} {d r : List AI} {k : List AItem} {env : Env} {h : H} {ob : Bool} {fid : FuncId} {argsC : List V} {b b' : List Bx} {c c' : List (Option Vec)} {v : V}
  (n : Nat) (rb rv : List Nat) (hM : VF P fid argsC b c v b' c') (hlb : b'.length = rb.length + (b'.length - rb.length)) (hlv : c'.length = rv.length + (c'.length - rv.length)) (hg : gOk env guard) (hc : calls (ev env g) (args.map (ev env)) = some (fid, rns rb rv argsC)) (hs : Sub h ⟨b, c⟩ rb rv) (hsc : insc rb.length rv.length argsC = true) (ho : ob = true)
  (hk : ATT P N f Q (goes n (.regD (⟨ix, dst, .call g args, guard, kill⟩ :: d) r :: k) (put env dst (rn (upB rb h.bx.length (b'.length - rb.length)) (upB rv h.vc.length (c'.length - rv.length)) v)) (upH h ⟨b', c'⟩ rb rv (b'.length - rb.length) (c'.length - rv.length))
   (rcB (upH h ⟨b', c'⟩ rb rv (b'.length - rb.length) (c'.length - rv.length)) (put env dst (rn (upB rb h.bx.length (b'.length - rb.length)) (upB rv h.vc.length (c'.length - rv.length)) v)) kill d))) (hk0 : f.keep = [] := by rfl) : ATT P N f Q (.regD d (⟨ix, dst, .call g args, guard, kill⟩ :: r) :: k, env, h, ob) := by
 refine ATT.callR (hk0 := hk0) hf hg hc rb rv (b'.length - rb.length) (c'.length - rv.length) n hM hs hsc rfl ho fun out hC' hq => ?_
 obtain ⟨e1, r', w', e2⟩ := hq
 subst e1 e2
 refine ⟨by simp; omega, ?_⟩
 rw [upH_app hlb hlv]
 exact hk
theorem MF.of {fid : FuncId} {args : List V} {b b' : List Bx} {v : V} {c' : List (Option Vec)} (h : VF P fid args b [] v b' c') : MF P fid args b v b' :=
 AF.mono h fun o hh ⟨e, r, w, e2⟩ => ⟨e, r, c' ++ w, e2⟩
attribute [simp] setAll_length upH upB rnV inscV fzE fzB fzV fzA fzH toDv mapD
@[simp] theorem mapD_ds (h : H) (n : Nat) (ds : List D) : mapD (toDv h n) (ds.map .d) = some ds := mapD_d h n ds
@[simp] theorem blt_zero (n : Nat) : Nat.blt 0 (n + 1) = true := rfl
@[simp] theorem ble_zero (n : Nat) : Nat.ble 0 n = true := rfl
@[simp] theorem ble_self (n : Nat) : Nat.ble n n = true := by simp [Nat.ble_eq]
@[simp] theorem take_map_len {α β : Type} (f : α → β) (l : List α) : (l.map f).take l.length = l.map f := List.take_of_length_le (by simp)
@[simp] theorem beq_comm1 (n : Nat) : Nat.beq (n + 1) (1 + n) = true := by rw [Nat.add_comm]; exact Nat.beq_refl _
@[simp] theorem ble_comm1 (n : Nat) : Nat.ble (1 + n) (n + 1) = true := by rw [Nat.add_comm]; exact ble_self _
@[simp] theorem take_comm1 {α : Type} (a : α) (l : List α) : (a :: l).take (1 + l.length) = a :: l := List.take_of_length_le (by simp; omega)
@[simp] theorem take_comm2 {α β : Type} (f : α → β) (a : β) (l : List α) : (a :: l.map f).take (1 + l.length) = a :: l.map f := List.take_of_length_le (by simp; omega)
def bsV (l : List UInt8) : List V := l.map fun x => .d (.int .u8 (x.toNat : Int))
def bsD (l : List UInt8) : List D := l.map fun x => .int .u8 (x.toNat : Int)
@[simp] theorem bsV_append (a b : List UInt8) : bsV a ++ bsV b = bsV (a ++ b) := by simp [bsV]
@[simp] theorem bsV_push (a : List UInt8) (x : UInt8) : bsV a ++ [.d (.int .u8 (x.toNat : Int))] = bsV (a ++ [x]) := by simp [bsV]
@[simp] theorem take_bsV (n : Nat) (l : List UInt8) : (bsV l).take n = bsV (l.take n) := by simp [bsV]
@[simp] theorem isEmpty_app (l : List UInt8) (s : ByteArray) : (l ++ s.data.toList).isEmpty = (l.isEmpty && s.data.isEmpty) := by
 cases l with
 | nil => cases h : s.data with | mk l => cases l <;> simp
 | cons => simp
def bA (i : Nat) (b : Bool) : V := match b with
 | true => .ptr i 0
 | false => .d .nilP
@[simp] theorem bA_true (i : Nat) : bA i true = .ptr i 0 := rfl
@[simp] theorem bA_false (i : Nat) : bA i false = .d .nilP := rfl
@[simp] theorem rn_bA0 (j : Nat) (r rv : List Nat) (b : Bool) : rn (j :: r) rv (bA 0 b) = bA j b := by cases b <;> simp
@[simp] theorem rn_bA1 (k j : Nat) (r rv : List Nat) (b : Bool) : rn (k :: j :: r) rv (bA 1 b) = bA j b := by cases b <;> simp
@[simp] theorem rn_bA2 (k l j : Nat) (r rv : List Nat) (b : Bool) : rn (k :: l :: j :: r) rv (bA 2 b) = bA j b := by cases b <;> simp
@[simp] theorem isin_bA0 (n m : Nat) (b : Bool) : isin (n + 1) m (bA 0 b) = true := by cases b <;> simp [Nat.blt]
@[simp] theorem isin_bA1 (n m : Nat) (b : Bool) : isin (n + 2) m (bA 1 b) = true := by cases b <;> simp [Nat.blt]
@[simp] theorem isin_bA2 (n m : Nat) (b : Bool) : isin (n + 3) m (bA 2 b) = true := by cases b <;> simp [Nat.blt]
@[simp] theorem one_bA (i : Nat) (b : Bool) : (bA i b).one = true := by cases b <;> simp
abbrev BB (i v : Nat) (T : TypeId) (b : Bool) (l : List UInt8) : Bx := .cells [bA i b, .vs v l.length 0 l.length] T
abbrev BV (t : TypeId) (z : Nat) (l : List UInt8) : Option Vec := some ⟨l.isEmpty, 1, z, bsV l, t⟩
@[simp] theorem bsV_length (a : List UInt8) : (bsV a).length = a.length := by simp [bsV]
@[simp] theorem bsV_isEmpty (a : List UInt8) : (bsV a).isEmpty = a.isEmpty := by cases a <;> simp [bsV]
@[simp] theorem rns_bsV (rb rv : List Nat) (l : List UInt8) : rns rb rv (bsV l) = bsV l := by
 have : bsV l = (bsD l).map .d := by simp [bsV, bsD]
 rw [this, rns_data]
@[simp] theorem insc_bsV (n m : Nat) (l : List UInt8) : insc n m (bsV l) = true := by
 have : bsV l = (bsD l).map .d := by simp [bsV, bsD]
 rw [this, insc_data]
@[simp] theorem intsV_bsV : ∀ l : List UInt8, intsV (bsV l) = some (l.map fun x => (x.toNat : Int))
 | [] => rfl
 | x :: l => by
  have ih := intsV_bsV l
  simp only [bsV, List.map_cons] at ih ⊢
  simp [intsV, ih]
@[simp] theorem byteL_bs : ∀ l : List UInt8, byteL (l.map fun x => (x.toNat : Int)) = true
 | [] => rfl
 | x :: l => by
  have := x.toNat_lt
  simp [byteL, byteL_bs l]
  omega
@[simp] theorem bytesI_bs (l : List UInt8) : bytesI (l.map fun x => (x.toNat : Int)) = ⟨l.toArray⟩ := by
 simp [bytesI, Function.comp_def]
@[simp] theorem str_bsV (s : ByteArray) : (s.data.toList.map fun b => (.d (.int .u8 (b.toNat : Int)) : V)) = bsV s.data.toList := rfl
end
end Go.SL
namespace Go.SL
section
variable {P : Program} {N : Nat} {f : FD} {Q : Out → H → Prop}
def one (h : H) (j : Nat) : H := ⟨h.bx, h.vc.mapIdx fun i x => if i = j then x else none⟩
def fzX (h : H) : V → V
 | .agg xs => match mapD (toDv h 12) xs with
  | some ds => .d (.agg ds)
  | none => .agg xs
 | x => x
def fzR (h : H) : Option Vec → Option Vec
 | some v => some { v with xs := v.xs.map (fzX h) }
 | none => none
theorem fzA_rel {κ : K} {h : H} {w : World} (hr : Rel κ h w) : Rel (fzK κ h w) (fzA h) w := by
 have hf := fz_rel hr
 exact ⟨hf.S, hf.SO, by have := hr.nb; show κ.nb = (h.bx.map (fzB h)).length; simpa using this, hf.nv, fun i x hx => by
  simp only [fzA, List.getElem?_map] at hx
  cases hb : h.bx[i]? with
  | none => rw [hb] at hx; simp at hx
  | some b =>
   rw [hb] at hx
   simp only [Option.map_some, Option.some.injEq] at hx
   subst hx
   have h1 := hf.bx i b hb
   cases b with
   | cells cs e =>
    obtain ⟨g1, vs, g2, g3⟩ := h1
    obtain ⟨_, vs', q2, q3⟩ := hr.bx i _ hb
    have q2' : w.heap[(fzK κ h w).bl i]? = some (.cells ⟨vs'⟩ e (0, 0)) := q2
    rw [g2] at q2'
    simp at q2'
    subst q2'
    exact ⟨g1, vs, g2, VL.fz hr q3.1, q3.2⟩
   | iter s p => exact h1
   | raw => exact h1
   | gone => exact h1, hf.vc, hf.rest, hf.os, hf.out, hf.tape⟩
theorem AF.fz {g : FuncId} {args : List V} {h : H} {Q : Out → H → Prop} (k : AF P g (args.map (fzV h)) (fzA h) Q) : AF P g args h Q := by
 refine ⟨k.1, fun κ w argv hr hv cs => ?_⟩
 obtain ⟨e, w', fr, ⟨κ', h', out, g1, g2, g3, g4⟩, g5, g6, g7⟩ := k.2 _ w argv (fzA_rel hr) (VL.fz hr hv) cs
 exact ⟨e, w', fr, ⟨κ', h', out, g1, fz_le.trans g2, g3, g4⟩, g5, g6, g7⟩
theorem DE.up {g : FuncId} {ds : List D} {Φ : D → Prop} (k : DE P g ds Φ) (h : H) : AF P g (ds.map .d) h fun o h' => ∃ v, o = .ret (.d v) ∧ Φ v ∧ h' = h := by
 refine ⟨k.1, fun κ w argv hr hv cs => ?_⟩
 have hs := sub_nil h
 have hvl : VL (downK κ w [] []) (ds.map .d) argv := VL.down (down_dn hr hs) _ argv (insc_data _ _ _) (by rw [rns_data]; exact hv)
 obtain ⟨e, w', fr, ⟨κ1, hC', out, ⟨v, r1, rv⟩, r2, r3, r4⟩, r5, r6, r7⟩ := k.2 _ w argv (down_rel hr hs) hvl cs
 obtain ⟨κ', u1, u2, u3⟩ := up_all (kb := 0) (kv := 0) hr hs r3 r2 (by simp) (by simp)
 subst r1
 obtain ⟨x, s1, s2⟩ := r4
 refine ⟨e, w', fr, ⟨κ', h, .ret (.d v), ⟨v, rfl, rv, rfl⟩, u2, by simpa using u1, ⟨x, s1, ?_⟩⟩, r5, r6, r7⟩
 have := VR.up u3 _ _ s2
 simpa [rn] using this
end
attribute [simp] one fzR fzX
end Go.SL
namespace Go.SL
open Go.ChangeShapes Go.WideShapes
def K.of (W : World) : K := ⟨fun _ _ => none, 0, fun _ => 0, 0, fun _ => none, fun _ => none, fun b => if b < W.heap.size then .rest else .free, fun b => W.heap[b]?, W.os, W.output, W.tape⟩
theorem K.of_rel (W : World) : Rel (K.of W) ⟨[], []⟩ W where
 S := fun _ _ _ h => by cases h
 SO := fun _ _ _ h => by cases h
 nb := rfl
 nv := rfl
 bx := fun _ _ h => by simp at h
 vc := fun _ _ h => by simp at h
 rest := fun b o h => by
  have h' : W.heap[b]? = some o := h
  exact ⟨if_pos (Array.getElem?_eq_some_iff.1 h').1, h'⟩
 os := rfl
 out := rfl
 tape := rfl
theorem DF.world {P : Program} {f : FuncId} {ds : List D} {b : Bool} (k : DF P f ds (.bool b)) {W : World} {argv : List Value} (ha : VL (K.of W) (ds.map .d) argv) :
  Calls P f ⟨argv⟩ W fun e W' => e = .returned (.bool b) ∧ W.keptBut W' (fun _ => False) :=
 (k.2 _ W argv (K.of_rel W) ha).mono fun e W' ⟨κ', h', out, q, le, hr, ho⟩ => by
  subst q
  obtain ⟨x, e1, e2⟩ := ho
  simp only [VR, DR] at e2
  subst e2
  refine ⟨e1, hr.os.trans le.os, hr.out.trans le.out, fun i hi => ?_⟩
  have h1 : (K.of W).rest i = some W.heap[i] := Array.getElem?_eq_getElem hi
  rw [← le.rest] at h1
  rw [(hr.rest _ _ h1).2, Array.getElem?_eq_getElem hi]
  cases W.heap[i] <;> simp
section
variable {H : Type} {enc : TypeId × Value → H} {P : Program}
theorem post_plain {f : Func} {s : ChangeSpec} {apart fresh handsOn again : Bool} {W W' : World} {args : Array Value} {v : Value} {ds gs : List (DataW H)}
  (hW : DataW.Whole enc P f.params.toList s.vars apart W args.toList ds gs [])
  (hres : ∀ (b : Nat) (sp : Nat → Bool) (hd : Bool), DataW.TrodAll enc P W' b sp hd f.resultTypes.toList (v.resultList f.resultTypes.size) (s.fn H (ds ++ gs)).results [])
  (hargs : ∀ sp : Nat → Bool, DataW.TrodAll enc P W' 0 sp true f.params.toList args.toList (s.fn H (ds ++ gs)).args [])
  (hvars : ∀ sp : Nat → Bool, DataW.TrodVars enc P W' sp s.vars (s.fn H (ds ++ gs)).vars [])
  (hk : W.keptBut W' (fun _ => False))
  (hok : ∀ (j : Nat) (t : TypeId) (r : Value), f.resultTypes[j]? = some t → (v.resultList f.resultTypes.size)[j]? = some r → Value.okWide P W' .any 0 t r) :
  s.post enc P f apart fresh handsOn again W args v W' := by
 refine ⟨ds, gs, [], [], [], [], hW, hres _ _ _, hargs _, hvars _, World.keptBut_mono (fun p hp => hp.elim) hk, fun _ => ?_⟩
 refine ⟨hok, _, _, [], ⟨[], [], trodAll_append (hargs _) (hres _ _ _), hvars _, rfl, ?_, ?_⟩, ?_⟩
 ·intro b off hp
  cases hp
 ·intro _
  exact List.nodup_nil
 ·intro p hp
  cases hp
theorem shut_boolP {t : TypeId} {W : World} {b0 : Nat} {sp : Nat → Bool} {hd : Bool} (ht : P.underlying t = some .bool) (b : Bool) : DataW.Trod enc P W b0 sp hd t (.bool b) (.lit (.bool b)) [] := ⟨1, by simp [DataW.trod, Value.cells, ht]⟩
theorem shut_stringP {t : TypeId} {W : World} {b0 : Nat} {sp : Nat → Bool} {hd : Bool} {s : ByteArray} (ht : P.underlying t = some .string) (hs : s.size ≤ maxLen) : DataW.Trod enc P W b0 sp hd t (.string s) (.lit (.string s.data.toList)) [] := ⟨1, by simp [DataW.trod, Value.cells, ht, hs]⟩
end
end Go.SL
namespace Go.SL
structure Tk where
 k : Int
 t : ByteArray
 a : Nat
 deriving DecidableEq
inductive Nd where
 | mk (k : Int) (t : ByteArray) (a : Nat) (n : Nat) (names : List ByteArray) (kids : List Nd)
namespace Nd
def k : Nd → Int | .mk k _ _ _ _ _ => k
def t : Nd → ByteArray | .mk _ t _ _ _ _ => t
def a : Nd → Nat | .mk _ _ a _ _ _ => a
def n : Nd → Nat | .mk _ _ _ n _ _ => n
def names : Nd → List ByteArray | .mk _ _ _ _ l _ => l
def kids : Nd → List Nd | .mk _ _ _ _ _ l => l
end Nd
inductive Res (α : Type) where
 | ok (x : α) (r : List Tk)
 | no (a : Nat) (why : Int)
 | out
def Res.andThen {α β : Type} : Res α → (α → List Tk → Res β) → Res β
 | .ok x r, f => f x r
 | .no a w, _ => .no a w
 | .out, _ => .out
def kd : List Tk → Int
 | [] => 0
 | t :: _ => t.k
def pl : List Tk → Nat
 | [] => 0
 | t :: _ => t.a
def tx : List Tk → ByteArray
 | [] => ⟨#[]⟩
 | t :: _ => t.t
def eSyn : Int := 20
def eSize : Int := 3
def trueT : ByteArray := ⟨#[116, 114, 117, 101]⟩
def falseT : ByteArray := ⟨#[102, 97, 108, 115, 101]⟩
def nilT : ByteArray := ⟨#[110, 105, 108]⟩
def sentS (x m : Nd) : Nd := .mk 7 m.t m.a 0 [] (x :: m.kids)
def namesS : List Tk → List ByteArray × List Tk
 | [] => ([], [])
 | t :: r => if t.k = 1 then (t.t :: (namesS r).1, (namesS r).2) else ([], t :: r)
def argsS : Nat → List Tk → Res (List ByteArray)
 | 0, _ => .out
 | n + 1, l => if kd l = 16 then (if kd l.tail = 1 then (argsS n l.tail.tail).andThen fun x r => .ok (tx l.tail :: x) r else .no (pl l.tail) eSyn) else .ok [] l
def tempsS (l : List Tk) : Res (List ByteArray) :=
 if kd l = 12 then (if kd (namesS l.tail).2 = 12 then .ok (namesS l.tail).1 (namesS l.tail).2.tail else .no (pl (namesS l.tail).2) eSyn) else .ok [] l
mutual
def exprS : Nat → Nat → List Tk → Res Nd
 | 0, _, _ => .out
 | n + 1, d, l =>
  if kd l = 1 ∧ kd l.tail = 7 then
   (if d = 40 then .no (pl l.tail) eSize else (exprS n (d + 1) l.tail.tail).andThen fun x r => .ok (.mk 6 (tx l) (pl l) 0 [] [x]) r)
  else cascS n d l
def cascS : Nat → Nat → List Tk → Res Nd
 | 0, _, _ => .out
 | n + 1, d, l => (keyedS n d l).andThen fun x r =>
  if kd r = 15 then
   (if x.1.k = 7 ∧ x.2 = true then
    (semisS n d [] r).andThen fun ms r' => .ok (.mk 8 ⟨#[]⟩ x.1.a 0 [] (x.1.kids.take 1 ++ .mk 9 x.1.t x.1.a 0 [] (x.1.kids.drop 1) :: ms)) r'
   else .no (pl r) eSyn)
  else .ok x.1 r
def semisS : Nat → Nat → List Nd → List Tk → Res (List Nd)
 | 0, _, _, _ => .out
 | n + 1, d, acc, l => if kd l = 15 then (msgS n d l.tail).andThen fun m r => semisS n d (acc ++ [m]) r else .ok acc l
def msgS : Nat → Nat → List Tk → Res Nd
 | 0, _, _ => .out
 | n + 1, d, l =>
  if kd l = 1 then .ok (.mk 9 (tx l) (pl l) 0 [] []) l.tail
  else if kd l = 3 then (unaryS n d l.tail).andThen fun x r => .ok (.mk 9 (tx l) (pl l) 0 [] [x.1]) r
  else if kd l = 2 then (keysS n d ⟨#[]⟩ [] l).andThen fun x r => .ok (.mk 9 x.1 (pl l) 0 [] x.2) r
  else .no (pl l) eSyn
def keysS : Nat → Nat → ByteArray → List Nd → List Tk → Res (ByteArray × List Nd)
 | 0, _, _, _, _ => .out
 | n + 1, d, s, acc, l => if kd l = 2 then (binaryS n d l.tail).andThen fun x r => keysS n d (s ++ tx l) (acc ++ [x.1]) r else .ok (s, acc) l
def keyedS : Nat → Nat → List Tk → Res (Nd × Bool)
 | 0, _, _ => .out
 | n + 1, d, l => (binaryS n d l).andThen fun x r => if kd r = 2 then (msgS n d r).andThen fun m r' => .ok (sentS x.1 m, true) r' else .ok x r
def binaryS : Nat → Nat → List Tk → Res (Nd × Bool)
 | 0, _, _ => .out
 | n + 1, d, l => (unaryS n d l).andThen fun x r => chainS n d 3 x r
def unaryS : Nat → Nat → List Tk → Res (Nd × Bool)
 | 0, _, _ => .out
 | n + 1, d, l => (primS n d l).andThen fun x r => chainS n d 1 x r
def chainS : Nat → Nat → Int → Nd × Bool → List Tk → Res (Nd × Bool)
 | 0, _, _, _, _ => .out
 | n + 1, d, c, x, l => if kd l = c then (msgS n d l).andThen fun m r => chainS n d c (sentS x.1 m, true) r else .ok x l
def primS : Nat → Nat → List Tk → Res (Nd × Bool)
 | 0, _, _ => .out
 | n + 1, d, l =>
  if kd l = 1 then .ok (.mk 5 (tx l) (pl l) 0 [] [], true) l.tail
  else if kd l = 4 then .ok (.mk 1 (tx l) (pl l) 0 [] [], true) l.tail
  else if kd l = 5 then .ok (.mk 2 (tx l) (pl l) 0 [] [], true) l.tail
  else if kd l = 6 then .ok (.mk 3 (tx l) (pl l) 0 [] [], true) l.tail
  else if kd l = 17 then (listS n d l).andThen fun x r => .ok (x, true) r
  else if kd l = 10 then (blockS n d l).andThen fun x r => .ok (x, true) r
  else if kd l = 8 then
   (if d = 40 then .no (pl l) eSize else (exprS n (d + 1) l.tail).andThen fun x r => if kd r = 9 then .ok (x, false) r.tail else .no (pl r) eSyn)
  else .no (pl l) eSyn
def listS : Nat → Nat → List Tk → Res Nd
 | 0, _, _ => .out
 | n + 1, d, l => if d = 40 then .no (pl l) eSize else (elemsS n (d + 1) [] l.tail).andThen fun x r => .ok (.mk 4 ⟨#[]⟩ (pl l) 0 [] x) r.tail
def elemsS : Nat → Nat → List Nd → List Tk → Res (List Nd)
 | 0, _, _, _ => .out
 | n + 1, d, acc, l => if kd l = 9 then .ok acc l else (elemS n d l).andThen fun x r => elemsS n d (acc ++ [x]) r
def elemS : Nat → Nat → List Tk → Res Nd
 | 0, _, _ => .out
 | n + 1, d, l =>
  if kd l = 17 ∨ kd l = 8 then listS n d l
  else if kd l = 4 then .ok (.mk 1 (tx l) (pl l) 0 [] []) l.tail
  else if kd l = 5 then .ok (.mk 2 (tx l) (pl l) 0 [] []) l.tail
  else if kd l = 1 then .ok (.mk (if tx l = trueT ∨ tx l = falseT ∨ tx l = nilT then 13 else 3) (tx l) (pl l) 0 [] []) l.tail
  else if kd l = 6 ∨ kd l = 2 ∨ kd l = 3 then .ok (.mk 3 (tx l) (pl l) 0 [] []) l.tail
  else .no (pl l) eSyn
def blockS : Nat → Nat → List Tk → Res Nd
 | 0, _, _ => .out
 | n + 1, d, l =>
  if d = 40 then .no (pl l) eSize else
  (argsS n l.tail).andThen fun ags r =>
   if ags.length ≠ 0 ∧ kd r ≠ 11 then
    (if kd r = 12 then (bodyS n (d + 1) 11 r.tail).andThen fun x r' => .ok (.mk 10 ⟨#[]⟩ (pl l) ags.length (ags ++ x.1) x.2) r'.tail else .no (pl r) eSyn)
   else (bodyS n (d + 1) 11 r).andThen fun x r' => .ok (.mk 10 ⟨#[]⟩ (pl l) ags.length (ags ++ x.1) x.2) r'.tail
def bodyS : Nat → Nat → Int → List Tk → Res (List ByteArray × List Nd)
 | 0, _, _, _ => .out
 | n + 1, d, e, l => (tempsS l).andThen fun ts r => (stmtsS n d e [] r).andThen fun ks r' => .ok (ts, ks) r'
def stmtsS : Nat → Nat → Int → List Nd → List Tk → Res (List Nd)
 | 0, _, _, _, _ => .out
 | n + 1, d, e, acc, l =>
  if kd l = e then .ok acc l else
  (stmtS n d l).andThen fun x r =>
   if kd r = 14 ∧ x.2 = false then stmtsS n d e (acc ++ [x.1]) r.tail
   else if kd r = 14 then (if kd r.tail = e then .ok (acc ++ [x.1]) r.tail else .no (pl r.tail) eSyn)
   else if kd r = e then .ok (acc ++ [x.1]) r else .no (pl r) eSyn
def stmtS : Nat → Nat → List Tk → Res (Nd × Bool)
 | 0, _, _ => .out
 | n + 1, d, l => if kd l = 13 then (exprS n d l.tail).andThen fun x r => .ok (.mk 11 ⟨#[]⟩ (pl l) 0 [] [x], true) r else (exprS n d l).andThen fun x r => .ok (x, false) r
end
def patKeysS : Nat → ByteArray → List ByteArray → List Tk → Res (ByteArray × List ByteArray)
 | 0, _, _, _ => .out
 | n + 1, s, acc, l => if kd l = 2 then (if kd l.tail = 1 then patKeysS n (s ++ tx l) (acc ++ [tx l.tail]) l.tail.tail else .no (pl l.tail) eSyn) else .ok (s, acc) l
def patS (n : Nat) (l : List Tk) : Res (ByteArray × List ByteArray) :=
 if kd l = 1 then .ok (tx l, []) l.tail
 else if kd l = 3 then (if kd l.tail = 1 then .ok (tx l, [tx l.tail]) l.tail.tail else .no (pl l.tail) eSyn)
 else if kd l = 2 then patKeysS n ⟨#[]⟩ [] l
 else .no (pl l) eSyn
end Go.SL
namespace Go.SL
def WF (l : List Tk) : Prop := (∃ i t, l = i ++ [t] ∧ t.k = 0) ∧ (∀ t ∈ l, t.t.size ≤ 1048576) ∧ l.length ≤ 5000
theorem WF.tail {l : List Tk} (h : WF l) (hk : kd l ≠ 0) : WF l.tail ∧ l.tail.length < l.length := by
 obtain ⟨⟨i, t, e, ht⟩, h2, h3⟩ := h
 cases i with
 | nil => subst e; simp [kd, ht] at hk
 | cons x i =>
  subst e
  exact ⟨⟨⟨i, t, rfl, ht⟩, fun y hy => h2 y (by simp at hy ⊢; exact .inr hy), by simp at h3 ⊢; omega⟩, by simp⟩
theorem WF.cons {l : List Tk} (h : WF l) : ∃ t r, l = t :: r := by
 obtain ⟨⟨i, t, e, ht⟩, _⟩ := h
 cases i with
 | nil => exact ⟨t, [], by simpa using e⟩
 | cons x i => exact ⟨x, i ++ [t], by simpa using e⟩
theorem andThen_ok {α β : Type} {x : Res α} {f : α → List Tk → Res β} {b : β} {r : List Tk} (h : x.andThen f = .ok b r) : ∃ a r', x = .ok a r' ∧ f a r' = .ok b r := by
 cases x with
 | ok a r' => exact ⟨a, r', rfl, h⟩
 | no a w => simp [Res.andThen] at h
 | out => simp [Res.andThen] at h
def Short (l r : List Tk) : Prop := WF r ∧ r.length < l.length
def ShortE (l r : List Tk) : Prop := WF r ∧ r.length ≤ l.length
theorem Short.trans {a b c : List Tk} (h : Short a b) (g : ShortE b c) : Short a c := ⟨g.1, by have := h.2; have := g.2; omega⟩
theorem Short.e {a b : List Tk} (h : Short a b) : ShortE a b := ⟨h.1, by have := h.2; omega⟩
theorem ShortE.trans {a b c : List Tk} (h : ShortE a b) (g : ShortE b c) : ShortE a c := ⟨g.1, by have := h.2; have := g.2; omega⟩
theorem ShortE.short {a b c : List Tk} (h : ShortE a b) (g : Short b c) : Short a c := ⟨g.1, by have := h.2; have := g.2; omega⟩
theorem WF.short {l : List Tk} (h : WF l) {k : Int} (hk : kd l = k) (h0 : k ≠ 0) : Short l l.tail := h.tail (by rw [hk]; exact h0)
theorem namesS_short : ∀ {l : List Tk}, WF l → ShortE l (namesS l).2
 | [], h => absurd h.cons (by simp)
 | t :: r, h => by
  simp only [namesS]
  split
  ·rename_i hk
   have h1 := h.short (k := 1) hk (by decide)
   exact h1.e.trans (namesS_short h1.1)
  ·exact ⟨h, Nat.le_refl _⟩
theorem argsS_short : ∀ {n : Nat} {l : List Tk} {x r}, WF l → argsS n l = .ok x r → ShortE l r
 | 0, l, x, r, h, e => by simp [argsS] at e
 | n + 1, l, x, r, h, e => by
  simp only [argsS] at e
  split at e
  ·rename_i hk
   have h1 := h.short hk (by decide)
   split at e
   ·rename_i hk2
    have h2 := h1.1.short hk2 (by decide)
    obtain ⟨a, r', e1, e2⟩ := andThen_ok e
    simp at e2
    obtain ⟨_, e2⟩ := e2
    subst e2
    exact h1.e.trans (h2.e.trans (argsS_short h2.1 e1))
   ·simp at e
  ·simp at e
   obtain ⟨_, e⟩ := e
   subst e
   exact ⟨h, Nat.le_refl _⟩
theorem tempsS_short {l : List Tk} {x r} (h : WF l) (e : tempsS l = .ok x r) : ShortE l r := by
 unfold tempsS at e
 split at e
 ·rename_i hk
  have h1 := h.short hk (by decide)
  split at e
  ·rename_i hk2
   have h2 := namesS_short h1.1
   have h3 := h2.1.short hk2 (by decide)
   simp at e
   rw [← e.2]
   exact h1.e.trans (h2.trans h3.e)
  ·simp at e
 ·simp at e
  rw [← e.2]
  exact ⟨h, Nat.le_refl _⟩
structure Pres (n : Nat) : Prop where
 expr : ∀ {d l x r}, WF l → exprS n d l = .ok x r → Short l r
 casc : ∀ {d l x r}, WF l → cascS n d l = .ok x r → Short l r
 semis : ∀ {d a l x r}, WF l → semisS n d a l = .ok x r → ShortE l r
 msg : ∀ {d l x r}, WF l → msgS n d l = .ok x r → Short l r
 keys : ∀ {d s a l x r}, WF l → keysS n d s a l = .ok x r → ShortE l r ∧ (kd l = 2 → r.length < l.length)
 keyed : ∀ {d l x r}, WF l → keyedS n d l = .ok x r → Short l r
 binary : ∀ {d l x r}, WF l → binaryS n d l = .ok x r → Short l r
 unary : ∀ {d l x r}, WF l → unaryS n d l = .ok x r → Short l r
 chain : ∀ {d c y l x r}, WF l → chainS n d c y l = .ok x r → ShortE l r
 prim : ∀ {d l x r}, WF l → primS n d l = .ok x r → Short l r
 list : ∀ {d l x r}, WF l → (kd l = 17 ∨ kd l = 8) → listS n d l = .ok x r → Short l r
 elems : ∀ {d a l x r}, WF l → elemsS n d a l = .ok x r → ShortE l r ∧ kd r = 9
 elem : ∀ {d l x r}, WF l → elemS n d l = .ok x r → Short l r
 block : ∀ {d l x r}, WF l → kd l = 10 → blockS n d l = .ok x r → Short l r
 body : ∀ {d e l x r}, WF l → bodyS n d e l = .ok x r → ShortE l r ∧ kd r = e
 stmts : ∀ {d e a l x r}, WF l → stmtsS n d e a l = .ok x r → ShortE l r ∧ kd r = e
 stmt : ∀ {d l x r}, WF l → stmtS n d l = .ok x r → Short l r
theorem pres : ∀ n, Pres n
 | 0 => by constructor <;> intros <;> simp_all [exprS, cascS, semisS, msgS, keysS, keyedS, binaryS, unaryS, chainS, primS, listS, elemsS, elemS, blockS, bodyS, stmtsS, stmtS]
 | n + 1 => by
  have ih := pres n
  constructor
  case expr =>
   intro d l x r h e
   simp only [exprS] at e
   split at e
   ·rename_i hk
    have h1 := h.short hk.1 (by decide)
    have h2 := h1.1.short hk.2 (by decide)
    split at e
    ·simp at e
    ·obtain ⟨a, r', e1, e2⟩ := andThen_ok e
     simp at e2
     rw [← e2.2]
     exact h1.trans (h2.trans (ih.expr h2.1 e1).e).e
   ·exact ih.casc h e
  case casc =>
   intro d l x r h e
   simp only [cascS] at e
   obtain ⟨a, r', e1, e2⟩ := andThen_ok e
   have h1 := ih.keyed h e1
   split at e2
   ·split at e2
    ·obtain ⟨b, r2, e3, e4⟩ := andThen_ok e2
     simp at e4
     rw [← e4.2]
     exact h1.trans (ih.semis h1.1 e3)
    ·simp at e2
   ·simp at e2
    rw [← e2.2]; exact h1
  case semis =>
   intro d a l x r h e
   simp only [semisS] at e
   split at e
   ·rename_i hk
    have h1 := h.short hk (by decide)
    obtain ⟨b, r2, e3, e4⟩ := andThen_ok e
    have h2 := ih.msg h1.1 e3
    exact h1.e.trans (h2.e.trans (ih.semis h2.1 e4))
   ·simp at e
    rw [← e.2]; exact ⟨h, Nat.le_refl _⟩
  case msg =>
   intro d l x r h e
   simp only [msgS] at e
   split at e
   ·rename_i hk
    have h1 := h.short hk (by decide)
    simp at e
    rw [← e.2]; exact h1
   ·split at e
    ·rename_i hk
     have h1 := h.short hk (by decide)
     obtain ⟨b, r2, e3, e4⟩ := andThen_ok e
     simp at e4
     rw [← e4.2]
     exact h1.trans (ih.unary h1.1 e3).e
    ·split at e
     ·rename_i hk
      obtain ⟨b, r2, e3, e4⟩ := andThen_ok e
      simp at e4
      rw [← e4.2]
      have := ih.keys h e3
      exact ⟨this.1.1, this.2 hk⟩
     ·simp at e
  case keys =>
   intro d s a l x r h e
   simp only [keysS] at e
   split at e
   ·rename_i hk
    have h1 := h.short hk (by decide)
    obtain ⟨b, r2, e3, e4⟩ := andThen_ok e
    have h2 := ih.binary h1.1 e3
    have h3 := (ih.keys h2.1 e4).1
    have h4 := h1.trans (h2.trans h3).e
    exact ⟨h4.e, fun _ => h4.2⟩
   ·rename_i hk
    simp at e
    rw [← e.2]; exact ⟨⟨h, Nat.le_refl _⟩, fun h => absurd h hk⟩
  case keyed =>
   intro d l x r h e
   simp only [keyedS] at e
   obtain ⟨b, r2, e3, e4⟩ := andThen_ok e
   have h1 := ih.binary h e3
   split at e4
   ·obtain ⟨c, r3, e5, e6⟩ := andThen_ok e4
    simp at e6
    rw [← e6.2]
    exact h1.trans (ih.msg h1.1 e5).e
   ·simp at e4
    rw [← e4.2]; exact h1
  case binary =>
   intro d l x r h e
   simp only [binaryS] at e
   obtain ⟨b, r2, e3, e4⟩ := andThen_ok e
   have h1 := ih.unary h e3
   exact h1.trans (ih.chain h1.1 e4)
  case unary =>
   intro d l x r h e
   simp only [unaryS] at e
   obtain ⟨b, r2, e3, e4⟩ := andThen_ok e
   have h1 := ih.prim h e3
   exact h1.trans (ih.chain h1.1 e4)
  case chain =>
   intro d c y l x r h e
   simp only [chainS] at e
   split at e
   ·obtain ⟨b, r2, e3, e4⟩ := andThen_ok e
    have h1 := ih.msg h e3
    exact h1.e.trans (ih.chain h1.1 e4)
   ·simp at e
    rw [← e.2]; exact ⟨h, Nat.le_refl _⟩
  case prim =>
   intro d l x r h e
   have t : ∀ {k : Int} {y : Nd × Bool}, kd l = k → k ≠ 0 → Res.ok y l.tail = Res.ok x r → Short l r := fun hk h0 e => by
    simp at e
    rw [← e.2]; exact h.short hk h0
   simp only [primS] at e
   split at e
   ·rename_i hk; exact t hk (by decide) e
   split at e
   ·rename_i hk; exact t hk (by decide) e
   split at e
   ·rename_i hk; exact t hk (by decide) e
   split at e
   ·rename_i hk; exact t hk (by decide) e
   split at e
   ·rename_i hk
    obtain ⟨b, r2, e3, e4⟩ := andThen_ok e
    simp at e4
    rw [← e4.2]
    exact ih.list h (.inl hk) e3
   split at e
   ·rename_i hk
    obtain ⟨b, r2, e3, e4⟩ := andThen_ok e
    simp at e4
    rw [← e4.2]
    exact ih.block h hk e3
   split at e
   ·rename_i hk
    have h1 := h.short hk (by decide)
    split at e
    ·simp at e
    ·obtain ⟨b, r2, e3, e4⟩ := andThen_ok e
     have h2 := ih.expr h1.1 e3
     split at e4
     ·rename_i hk2
      simp at e4
      rw [← e4.2]
      exact h1.trans (h2.trans (h2.1.short hk2 (by decide)).e).e
     ·simp at e4
   ·simp at e
  case list =>
   intro d l x r h hk e
   have h1 : Short l l.tail := by rcases hk with hk | hk <;> exact h.short hk (by decide)
   simp only [listS] at e
   split at e
   ·simp at e
   ·obtain ⟨b, r2, e3, e4⟩ := andThen_ok e
    simp at e4
    rw [← e4.2]
    have h2 := ih.elems h1.1 e3
    exact h1.trans (h2.1.trans (h2.1.1.short h2.2 (by decide)).e)
  case elems =>
   intro d a l x r h e
   simp only [elemsS] at e
   split at e
   ·rename_i hk
    simp at e
    rw [← e.2]; exact ⟨⟨h, Nat.le_refl _⟩, hk⟩
   ·obtain ⟨b, r2, e3, e4⟩ := andThen_ok e
    have h1 := ih.elem h e3
    have h2 := ih.elems h1.1 e4
    exact ⟨h1.e.trans h2.1, h2.2⟩
  case elem =>
   intro d l x r h e
   have t : ∀ {k : Int} {y : Nd}, kd l = k → k ≠ 0 → Res.ok y l.tail = Res.ok x r → Short l r := fun hk h0 e => by
    simp at e
    rw [← e.2]; exact h.short hk h0
   simp only [elemS] at e
   split at e
   ·rename_i hk; exact ih.list h hk e
   split at e
   ·rename_i hk; exact t hk (by decide) e
   split at e
   ·rename_i hk; exact t hk (by decide) e
   split at e
   ·rename_i hk; exact t hk (by decide) e
   split at e
   ·rename_i hk
    rcases hk with hk | hk | hk <;> exact t hk (by decide) e
   ·simp at e
  case block =>
   intro d l x r h hk e
   have h1 := h.short hk (by decide)
   have t : ∀ {d l0 r0 ags}, Short l l0 → ((bodyS n d 11 l0).andThen fun x r' => .ok (Nd.mk 10 ⟨#[]⟩ (pl l) (List.length ags) (ags ++ x.1) x.2) r'.tail) = Res.ok x r0 → Short l r0 := fun h2 e => by
    obtain ⟨b, r2, e3, e4⟩ := andThen_ok e
    simp at e4
    rw [← e4.2]
    have h3 := ih.body h2.1 e3
    exact h2.trans (h3.1.trans (h3.1.1.short h3.2 (by decide)).e)
   simp only [blockS] at e
   split at e
   ·simp at e
   ·obtain ⟨b, r2, e3, e4⟩ := andThen_ok e
    have h2 := argsS_short h1.1 e3
    split at e4
    ·split at e4
     ·rename_i hk2
      exact t (h1.trans (h2.trans (h2.1.short hk2 (by decide)).e)) e4
     ·simp at e4
    ·exact t (h1.trans h2) e4
  case body =>
   intro d e0 l x r h e
   simp only [bodyS] at e
   obtain ⟨b, r2, e3, e4⟩ := andThen_ok e
   obtain ⟨c, r3, e5, e6⟩ := andThen_ok e4
   simp at e6
   rw [← e6.2]
   have h1 := tempsS_short h e3
   have h2 := ih.stmts h1.1 e5
   exact ⟨h1.trans h2.1, h2.2⟩
  case stmts =>
   intro d e0 a l x r h e
   simp only [stmtsS] at e
   split at e
   ·rename_i hk
    simp at e
    rw [← e.2]; exact ⟨⟨h, Nat.le_refl _⟩, hk⟩
   ·obtain ⟨b, r2, e3, e4⟩ := andThen_ok e
    have h1 := ih.stmt h e3
    split at e4
    ·rename_i hk
     have h2 := h1.1.short hk.1 (by decide)
     have h3 := ih.stmts h2.1 e4
     exact ⟨h1.e.trans (h2.e.trans h3.1), h3.2⟩
    ·split at e4
     ·rename_i hk
      have h2 := h1.1.short hk (by decide)
      split at e4
      ·rename_i hk2
       simp at e4
       rw [← e4.2]; exact ⟨h1.e.trans h2.e, hk2⟩
      ·simp at e4
     ·split at e4
      ·rename_i hk2
       simp at e4
       rw [← e4.2]; exact ⟨h1.e, hk2⟩
      ·simp at e4
  case stmt =>
   intro d l x r h e
   simp only [stmtS] at e
   split at e
   ·rename_i hk
    have h1 := h.short hk (by decide)
    obtain ⟨b, r2, e3, e4⟩ := andThen_ok e
    simp at e4
    rw [← e4.2]
    exact h1.trans (ih.expr h1.1 e3).e
   ·obtain ⟨b, r2, e3, e4⟩ := andThen_ok e
    simp at e4
    rw [← e4.2]
    exact ih.expr h e3
theorem keys_len : ∀ {n d : Nat} {s : ByteArray} {a : List Nd} {l : List Tk} {x r}, WF l → keysS n d s a l = .ok x r → x.2.length + r.length ≤ a.length + l.length
 | 0, d, s, a, l, x, r, h, e => by simp [keysS] at e
 | n + 1, d, s, a, l, x, r, h, e => by
  simp only [keysS] at e
  split at e
  ·rename_i hk
   have h1 := h.short hk (by decide)
   obtain ⟨b, r2, e3, e4⟩ := andThen_ok e
   have h2 := (pres n).binary h1.1 e3
   have h3 := keys_len h2.1 e4
   have := h1.2; have := h2.2
   simp at h3
   omega
  ·simp at e
   rw [← e.1, ← e.2]; simp
theorem msg_len {n d : Nat} {l : List Tk} {x r} (h : WF l) (e : msgS n d l = .ok x r) : x.kids.length ≤ 5000 := by
 cases n with
 | zero => simp [msgS] at e
 | succ n =>
  simp only [msgS] at e
  split at e
  ·simp at e; rw [← e.1]; simp [Nd.kids]
  ·split at e
   ·obtain ⟨b, r2, e3, e4⟩ := andThen_ok e
    simp at e4; rw [← e4.1]; simp [Nd.kids]
   ·split at e
    ·obtain ⟨b, r2, e3, e4⟩ := andThen_ok e
     simp at e4
     rw [← e4.1]
     have := keys_len h e3
     have := h.2.2
     simp [Nd.kids] at *
     omega
    ·simp at e
end Go.SL
namespace Go.SL
theorem andThen_in {α β : Type} {x : Res α} {f : α → List Tk → Res β} (h : x ≠ .out) (hf : ∀ a r, x = .ok a r → f a r ≠ .out) : x.andThen f ≠ .out := by
 cases x with
 | ok a r => exact hf a r rfl
 | no a w => simp [Res.andThen]
 | out => exact absurd rfl h
theorem argsS_in : ∀ {n : Nat} {l : List Tk}, WF l → l.length ≤ n → argsS n l ≠ .out
 | 0, l, h, hn => by obtain ⟨t, r, e⟩ := h.cons; subst e; simp at hn
 | n + 1, l, h, hn => by
  simp only [argsS]
  split
  ·rename_i hk
   have h1 := h.short hk (by decide)
   split
   ·rename_i hk2
    have h2 := h1.1.short hk2 (by decide)
    exact andThen_in (argsS_in h2.1 (by have := h1.2; have := h2.2; omega)) fun _ _ _ => by simp
   ·simp
  ·simp
theorem tempsS_in (l : List Tk) : tempsS l ≠ .out := by
 unfold tempsS
 split
 ·split <;> simp
 ·simp
structure Enough (n : Nat) : Prop where
 expr : ∀ {d l}, WF l → 20 * l.length + 7 ≤ n → exprS n d l ≠ .out
 casc : ∀ {d l}, WF l → 20 * l.length + 6 ≤ n → cascS n d l ≠ .out
 semis : ∀ {d a l}, WF l → 20 * l.length + 1 ≤ n → semisS n d a l ≠ .out
 msg : ∀ {d l}, WF l → 20 * l.length + 2 ≤ n → msgS n d l ≠ .out
 keys : ∀ {d s a l}, WF l → 20 * l.length + 1 ≤ n → keysS n d s a l ≠ .out
 keyed : ∀ {d l}, WF l → 20 * l.length + 5 ≤ n → keyedS n d l ≠ .out
 binary : ∀ {d l}, WF l → 20 * l.length + 4 ≤ n → binaryS n d l ≠ .out
 unary : ∀ {d l}, WF l → 20 * l.length + 3 ≤ n → unaryS n d l ≠ .out
 chain : ∀ {d c y l}, WF l → 20 * l.length + 3 ≤ n → chainS n d c y l ≠ .out
 prim : ∀ {d l}, WF l → 20 * l.length + 2 ≤ n → primS n d l ≠ .out
 list : ∀ {d l}, WF l → (kd l = 17 ∨ kd l = 8) → 20 * l.length + 1 ≤ n → listS n d l ≠ .out
 elems : ∀ {d a l}, WF l → 20 * l.length + 3 ≤ n → elemsS n d a l ≠ .out
 elem : ∀ {d l}, WF l → 20 * l.length + 2 ≤ n → elemS n d l ≠ .out
 block : ∀ {d l}, WF l → kd l = 10 → 20 * l.length + 1 ≤ n → blockS n d l ≠ .out
 body : ∀ {d e l}, WF l → 20 * l.length + 10 ≤ n → bodyS n d e l ≠ .out
 stmts : ∀ {d e a l}, WF l → 20 * l.length + 9 ≤ n → stmtsS n d e a l ≠ .out
 stmt : ∀ {d l}, WF l → 20 * l.length + 8 ≤ n → stmtS n d l ≠ .out
theorem enough : ∀ n, Enough n
 | 0 => by constructor <;> intros <;> omega
 | n + 1 => by
  have ih := enough n
  have pr := pres n
  constructor
  case expr =>
   intro d l h hn
   simp only [exprS]
   split
   ·rename_i hk
    have h1 := h.short hk.1 (by decide)
    have h2 := h1.1.short hk.2 (by decide)
    have := h1.2; have := h2.2
    split
    ·simp
    ·exact andThen_in (ih.expr h2.1 (by omega)) fun _ _ _ => by simp
   ·exact ih.casc h (by omega)
  case casc =>
   intro d l h hn
   simp only [cascS]
   refine andThen_in (ih.keyed h (by omega)) fun a r e => ?_
   have h1 := pr.keyed h e
   have := h1.2
   split
   ·split
    ·exact andThen_in (ih.semis h1.1 (by omega)) fun _ _ _ => by simp
    ·simp
   ·simp
  case semis =>
   intro d a l h hn
   simp only [semisS]
   split
   ·rename_i hk
    have h1 := h.short hk (by decide)
    have := h1.2
    refine andThen_in (ih.msg h1.1 (by omega)) fun a r e => ?_
    have h2 := pr.msg h1.1 e
    have := h2.2
    exact ih.semis h2.1 (by omega)
   ·simp
  case msg =>
   intro d l h hn
   simp only [msgS]
   split
   ·simp
   ·split
    ·rename_i hk
     have h1 := h.short hk (by decide)
     have := h1.2
     exact andThen_in (ih.unary h1.1 (by omega)) fun _ _ _ => by simp
    ·split
     ·exact andThen_in (ih.keys h (by omega)) fun _ _ _ => by simp
     ·simp
  case keys =>
   intro d s a l h hn
   simp only [keysS]
   split
   ·rename_i hk
    have h1 := h.short hk (by decide)
    have := h1.2
    refine andThen_in (ih.binary h1.1 (by omega)) fun a r e => ?_
    have h2 := pr.binary h1.1 e
    have := h2.2
    exact ih.keys h2.1 (by omega)
   ·simp
  case keyed =>
   intro d l h hn
   simp only [keyedS]
   refine andThen_in (ih.binary h (by omega)) fun a r e => ?_
   have h1 := pr.binary h e
   have := h1.2
   split
   ·exact andThen_in (ih.msg h1.1 (by omega)) fun _ _ _ => by simp
   ·simp
  case binary =>
   intro d l h hn
   simp only [binaryS]
   refine andThen_in (ih.unary h (by omega)) fun a r e => ?_
   have h1 := pr.unary h e
   have := h1.2
   exact ih.chain h1.1 (by omega)
  case unary =>
   intro d l h hn
   simp only [unaryS]
   refine andThen_in (ih.prim h (by omega)) fun a r e => ?_
   have h1 := pr.prim h e
   have := h1.2
   exact ih.chain h1.1 (by omega)
  case chain =>
   intro d c y l h hn
   simp only [chainS]
   split
   ·refine andThen_in (ih.msg h (by omega)) fun a r e => ?_
    have h1 := pr.msg h e
    have := h1.2
    exact ih.chain h1.1 (by omega)
   ·simp
  case prim =>
   intro d l h hn
   simp only [primS]
   split; · simp
   split; · simp
   split; · simp
   split; · simp
   split
   ·rename_i hk; exact andThen_in (ih.list h (.inl hk) (by omega)) fun _ _ _ => by simp
   split
   ·rename_i hk; exact andThen_in (ih.block h hk (by omega)) fun _ _ _ => by simp
   split
   ·rename_i hk
    have h1 := h.short hk (by decide)
    have := h1.2
    split
    ·simp
    ·refine andThen_in (ih.expr h1.1 (by omega)) fun _ _ _ => ?_
     split <;> simp
   ·simp
  case list =>
   intro d l h hk hn
   have h1 : Short l l.tail := by rcases hk with hk | hk <;> exact h.short hk (by decide)
   have := h1.2
   simp only [listS]
   split
   ·simp
   ·exact andThen_in (ih.elems h1.1 (by omega)) fun _ _ _ => by simp
  case elems =>
   intro d a l h hn
   simp only [elemsS]
   split
   ·simp
   ·refine andThen_in (ih.elem h (by omega)) fun a r e => ?_
    have h1 := pr.elem h e
    have := h1.2
    exact ih.elems h1.1 (by omega)
  case elem =>
   intro d l h hn
   simp only [elemS]
   split
   ·rename_i hk; exact ih.list h hk (by omega)
   split; · simp
   split; · simp
   split; · simp
   split; · simp
   ·simp
  case block =>
   intro d l h hk hn
   have h1 := h.short hk (by decide)
   have := h1.2
   simp only [blockS]
   split
   ·simp
   ·refine andThen_in (argsS_in h1.1 (by omega)) fun a r e => ?_
    have h2 := argsS_short h1.1 e
    have := h2.2
    split
    ·split
     ·rename_i hk2
      have h3 := h2.1.short hk2 (by decide)
      have := h3.2
      exact andThen_in (ih.body h3.1 (by omega)) fun _ _ _ => by simp
     ·simp
    ·exact andThen_in (ih.body h2.1 (by omega)) fun _ _ _ => by simp
  case body =>
   intro d e0 l h hn
   simp only [bodyS]
   refine andThen_in (tempsS_in l) fun a r e => ?_
   have h1 := tempsS_short h e
   have := h1.2
   exact andThen_in (ih.stmts h1.1 (by omega)) fun _ _ _ => by simp
  case stmts =>
   intro d e0 a l h hn
   simp only [stmtsS]
   split
   ·simp
   ·refine andThen_in (ih.stmt h (by omega)) fun a r e => ?_
    have h1 := pr.stmt h e
    have := h1.2
    split
    ·rename_i hk
     have h2 := h1.1.short hk.1 (by decide)
     have := h2.2
     exact ih.stmts h2.1 (by omega)
    ·split
     ·split <;> simp
     ·split <;> simp
  case stmt =>
   intro d l h hn
   simp only [stmtS]
   split
   ·rename_i hk
    have h1 := h.short hk (by decide)
    have := h1.2
    exact andThen_in (ih.expr h1.1 (by omega)) fun _ _ _ => by simp
   ·exact andThen_in (ih.expr h (by omega)) fun _ _ _ => by simp
end Go.SL
namespace Go.SL
def depS (t : Tk) : Int := if t.k = 8 ∨ t.k = 17 then 1 else if t.k = 9 then -1 else 0
def wholeS : List Tk → Int → Bool
 | [], _ => false
 | t :: r, n => if n + depS t = 0 then r.isEmpty else wholeS r (n + depS t)
def path : Int → List Tk → Prop
 | n, [] => n = 0
 | n, t :: r => 0 ≤ n + depS t ∧ path (n + depS t) r
theorem path.app : ∀ {a b : List Tk} {n : Int}, path n a → path 0 b → path n (a ++ b)
 | [], b, n, h, g => by simp only [path] at h; subst h; exact g
 | t :: r, b, n, h, g => ⟨h.1, path.app h.2 g⟩
theorem path.close : ∀ {a : List Tk} {n : Int} {t : Tk}, path n a → 0 ≤ n → depS t = -1 → path (n + 1) (a ++ [t])
 | [], n, t, h, h0, ht => by simp only [path] at h; subst h; simp [path, ht]
 | x :: r, n, t, h, h0, ht => by
  have e : n + 1 + depS x = n + depS x + 1 := by omega
  refine ⟨by rw [e]; have := h.1; omega, ?_⟩
  rw [e]
  exact path.close h.2 h.1 ht
theorem path.whole : ∀ {a : List Tk} {n : Int} {t : Tk} {b : List Tk}, path n a → 0 ≤ n → depS t = -1 → wholeS (a ++ t :: b) (n + 1) = b.isEmpty
 | [], n, t, b, h, h0, ht => by simp only [path] at h; subst h; simp [wholeS, ht]
 | x :: r, n, t, b, h, h0, ht => by
  have e : n + 1 + depS x = n + depS x + 1 := by omega
  have h1 := h.1
  simp only [List.cons_append, wholeS]
  rw [if_neg (by omega), e]
  exact path.whole h.2 h.1 ht
def BalE (l r : List Tk) : Prop := ∃ w, l = w ++ r ∧ path 0 w
def Bal (l r : List Tk) : Prop := ∃ w, l = w ++ r ∧ path 0 w ∧ w ≠ []
theorem BalE.rfl {l : List Tk} : BalE l l := ⟨[], by simp, by simp [path]⟩
theorem Bal.e {l r : List Tk} (h : Bal l r) : BalE l r := by obtain ⟨w, h1, h2, _⟩ := h; exact ⟨w, h1, h2⟩
theorem BalE.trans {a b c : List Tk} (h : BalE a b) (g : BalE b c) : BalE a c := by
 obtain ⟨w, h1, h2⟩ := h
 obtain ⟨v, g1, g2⟩ := g
 exact ⟨w ++ v, by rw [h1, g1]; simp, h2.app g2⟩
theorem Bal.trans {a b c : List Tk} (h : Bal a b) (g : BalE b c) : Bal a c := by
 obtain ⟨w, h1, h2, h3⟩ := h
 obtain ⟨v, g1, g2⟩ := g
 exact ⟨w ++ v, by rw [h1, g1]; simp, h2.app g2, by simp [h3]⟩
theorem Bal.one {l : List Tk} {k : Int} (hk : kd l = k) (h0 : k ≠ 0 ∧ k ≠ 8 ∧ k ≠ 17 ∧ k ≠ 9) : Bal l l.tail := by
 cases l with
 | nil => exact absurd hk (Ne.symm h0.1)
 | cons t r =>
  have hk' : t.k = k := hk
  refine ⟨[t], rfl, ?_, by simp⟩
  simp [path, depS, hk', h0.2.1, h0.2.2.1, h0.2.2.2]
theorem Bal.paren {l a : List Tk} (hk : kd l = 8 ∨ kd l = 17) (h : BalE l.tail a) (ha : kd a = 9) : Bal l a.tail := by
 cases l with
 | nil => simp [kd] at hk
 | cons t r =>
  obtain ⟨w, h1, h2⟩ := h
  cases a with
  | nil => simp [kd] at ha
  | cons t9 a =>
   have hk' : t.k = 8 ∨ t.k = 17 := hk
   have ha' : t9.k = 9 := ha
   have h1' : r = w ++ t9 :: a := h1
   refine ⟨t :: (w ++ [t9]), by rw [h1']; simp, ?_, by simp⟩
   have ht : depS t = 1 := by simp [depS, hk']
   have := h2.close (Int.le_refl 0) (show depS t9 = -1 by simp [depS, ha'])
   simp only [path, ht]
   exact ⟨by decide, this⟩
theorem namesS_bal : ∀ {l : List Tk}, BalE l (namesS l).2
 | [] => BalE.rfl
 | t :: r => by
  simp only [namesS]
  split
  ·rename_i hk
   exact (Bal.one (l := t :: r) (k := 1) hk (by decide)).e.trans namesS_bal
  ·exact BalE.rfl
theorem argsS_bal : ∀ {n : Nat} {l : List Tk} {x r}, argsS n l = .ok x r → BalE l r
 | 0, l, x, r, e => by simp [argsS] at e
 | n + 1, l, x, r, e => by
  simp only [argsS] at e
  split at e
  ·rename_i hk
   split at e
   ·rename_i hk2
    obtain ⟨a, r', e1, e2⟩ := andThen_ok e
    simp at e2
    obtain ⟨_, e2⟩ := e2
    subst e2
    exact (Bal.one hk (by decide)).e.trans ((Bal.one hk2 (by decide)).e.trans (argsS_bal e1))
   ·simp at e
  ·simp at e
   obtain ⟨_, e⟩ := e
   subst e
   exact BalE.rfl
theorem tempsS_bal {l : List Tk} {x r} (e : tempsS l = .ok x r) : BalE l r := by
 unfold tempsS at e
 split at e
 ·rename_i hk
  split at e
  ·rename_i hk2
   simp at e
   rw [← e.2]
   exact (Bal.one hk (by decide)).e.trans (namesS_bal.trans (Bal.one hk2 (by decide)).e)
  ·simp at e
 ·simp at e
  rw [← e.2]
  exact BalE.rfl
def KP (l : List Tk) (x : Nd × Bool) (r : List Tk) : Prop :=
 Bal l r ∧ (kd l ≠ 8 → x.2 = true) ∧ (kd l = 8 → ∃ t w t9 w2, l = t :: (w ++ t9 :: (w2 ++ r)) ∧ path 0 w ∧ depS t = 1 ∧ depS t9 = -1 ∧ (x.2 = true ↔ w2 ≠ []))
theorem KP.more {l : List Tk} {x y : Nd × Bool} {r r' : List Tk} (h : KP l x r) (g : Bal r r') (hy : y.2 = true) : KP l y r' := by
 refine ⟨h.1.trans g.e, fun _ => hy, fun hk => ?_⟩
 obtain ⟨t, w, t9, w2, h1, h2, h3, h4, h5⟩ := h.2.2 hk
 obtain ⟨v, g1, g2, g3⟩ := g
 exact ⟨t, w, t9, w2 ++ v, by rw [h1, g1]; simp, h2, h3, h4, by simp [hy, g3]⟩
theorem KP.of {l : List Tk} {x : Nd × Bool} {r : List Tk} (h : Bal l r) (hk : kd l ≠ 8) (hx : x.2 = true) : KP l x r := ⟨h, fun _ => hx, fun h => absurd h hk⟩
structure PresB (n : Nat) : Prop where
 expr : ∀ {d l x r}, exprS n d l = .ok x r → Bal l r
 casc : ∀ {d l x r}, cascS n d l = .ok x r → Bal l r
 semis : ∀ {d a l x r}, semisS n d a l = .ok x r → BalE l r
 msg : ∀ {d l x r}, msgS n d l = .ok x r → Bal l r
 keys : ∀ {d s a l x r}, keysS n d s a l = .ok x r → BalE l r ∧ (kd l = 2 → Bal l r)
 keyed : ∀ {d l x r}, keyedS n d l = .ok x r → KP l x r
 binary : ∀ {d l x r}, binaryS n d l = .ok x r → KP l x r
 unary : ∀ {d l x r}, unaryS n d l = .ok x r → KP l x r
 chain : ∀ {d c l0 y l x r}, KP l0 y l → chainS n d c y l = .ok x r → KP l0 x r
 prim : ∀ {d l x r}, primS n d l = .ok x r → KP l x r
 list : ∀ {d l x r}, (kd l = 17 ∨ kd l = 8) → listS n d l = .ok x r → Bal l r
 elems : ∀ {d a l x r}, elemsS n d a l = .ok x r → BalE l r ∧ kd r = 9
 elem : ∀ {d l x r}, elemS n d l = .ok x r → Bal l r
 block : ∀ {d l x r}, kd l = 10 → blockS n d l = .ok x r → Bal l r
 body : ∀ {d e l x r}, bodyS n d e l = .ok x r → BalE l r ∧ kd r = e
 stmts : ∀ {d e a l x r}, stmtsS n d e a l = .ok x r → BalE l r ∧ kd r = e
 stmt : ∀ {d l x r}, stmtS n d l = .ok x r → Bal l r
theorem presB : ∀ n, PresB n
 | 0 => by constructor <;> intros <;> simp_all [exprS, cascS, semisS, msgS, keysS, keyedS, binaryS, unaryS, chainS, primS, listS, elemsS, elemS, blockS, bodyS, stmtsS, stmtS]
 | n + 1 => by
  have ih := presB n
  constructor
  case expr =>
   intro d l x r e
   simp only [exprS] at e
   split at e
   ·rename_i hk
    split at e
    ·simp at e
    ·obtain ⟨a, r', e1, e2⟩ := andThen_ok e
     simp at e2
     rw [← e2.2]
     exact (Bal.one hk.1 (by decide)).trans ((Bal.one hk.2 (by decide)).e.trans (ih.expr e1).e)
   ·exact ih.casc e
  case casc =>
   intro d l x r e
   simp only [cascS] at e
   obtain ⟨a, r', e1, e2⟩ := andThen_ok e
   have h1 := (ih.keyed e1).1
   split at e2
   ·split at e2
    ·obtain ⟨b, r2, e3, e4⟩ := andThen_ok e2
     simp at e4
     rw [← e4.2]
     exact h1.trans (ih.semis e3)
    ·simp at e2
   ·simp at e2
    rw [← e2.2]; exact h1
  case semis =>
   intro d a l x r e
   simp only [semisS] at e
   split at e
   ·rename_i hk
    obtain ⟨b, r2, e3, e4⟩ := andThen_ok e
    exact (Bal.one hk (by decide)).e.trans ((ih.msg e3).e.trans (ih.semis e4))
   ·simp at e
    rw [← e.2]; exact BalE.rfl
  case msg =>
   intro d l x r e
   simp only [msgS] at e
   split at e
   ·rename_i hk
    simp at e
    rw [← e.2]; exact Bal.one hk (by decide)
   ·split at e
    ·rename_i hk
     obtain ⟨b, r2, e3, e4⟩ := andThen_ok e
     simp at e4
     rw [← e4.2]
     exact (Bal.one hk (by decide)).trans (ih.unary e3).1.e
    ·split at e
     ·rename_i hk
      obtain ⟨b, r2, e3, e4⟩ := andThen_ok e
      simp at e4
      rw [← e4.2]
      exact (ih.keys e3).2 hk
     ·simp at e
  case keys =>
   intro d s a l x r e
   simp only [keysS] at e
   split at e
   ·rename_i hk
    obtain ⟨b, r2, e3, e4⟩ := andThen_ok e
    have h := (Bal.one hk (by decide)).trans ((ih.binary e3).1.e.trans (ih.keys e4).1)
    exact ⟨h.e, fun _ => h⟩
   ·rename_i hk
    simp at e
    rw [← e.2]; exact ⟨BalE.rfl, fun h => absurd h hk⟩
  case keyed =>
   intro d l x r e
   simp only [keyedS] at e
   obtain ⟨b, r2, e3, e4⟩ := andThen_ok e
   have h1 := ih.binary e3
   split at e4
   ·obtain ⟨c, r3, e5, e6⟩ := andThen_ok e4
    simp at e6
    rw [← e6.2, ← e6.1]
    exact h1.more (ih.msg e5) rfl
   ·simp at e4
    rw [← e4.2, ← e4.1]; exact h1
  case binary =>
   intro d l x r e
   simp only [binaryS] at e
   obtain ⟨b, r2, e3, e4⟩ := andThen_ok e
   exact ih.chain (ih.unary e3) e4
  case unary =>
   intro d l x r e
   simp only [unaryS] at e
   obtain ⟨b, r2, e3, e4⟩ := andThen_ok e
   exact ih.chain (ih.prim e3) e4
  case chain =>
   intro d c l0 y l x r h e
   simp only [chainS] at e
   split at e
   ·obtain ⟨b, r2, e3, e4⟩ := andThen_ok e
    exact ih.chain (h.more (ih.msg e3) rfl) e4
   ·simp at e
    rw [← e.2, ← e.1]; exact h
  case prim =>
   intro d l x r e
   have t : ∀ {k : Int} {y : Nd}, kd l = k → (k ≠ 0 ∧ k ≠ 8 ∧ k ≠ 17 ∧ k ≠ 9) → Res.ok (y, true) l.tail = Res.ok x r → KP l x r := fun hk h0 e => by
    simp at e
    rw [← e.2, ← e.1]
    exact KP.of (Bal.one hk h0) (by rw [hk]; exact h0.2.1) rfl
   simp only [primS] at e
   split at e
   ·rename_i hk; exact t hk (by decide) e
   split at e
   ·rename_i hk; exact t hk (by decide) e
   split at e
   ·rename_i hk; exact t hk (by decide) e
   split at e
   ·rename_i hk; exact t hk (by decide) e
   split at e
   ·rename_i hk
    obtain ⟨b, r2, e3, e4⟩ := andThen_ok e
    simp at e4
    rw [← e4.2, ← e4.1]
    exact KP.of (ih.list (.inl hk) e3) (by rw [hk]; decide) rfl
   split at e
   ·rename_i hk
    obtain ⟨b, r2, e3, e4⟩ := andThen_ok e
    simp at e4
    rw [← e4.2, ← e4.1]
    exact KP.of (ih.block hk e3) (by rw [hk]; decide) rfl
   split at e
   ·rename_i hk
    split at e
    ·simp at e
    ·obtain ⟨b, r2, e3, e4⟩ := andThen_ok e
     have h2 := ih.expr e3
     split at e4
     ·rename_i hk2
      simp at e4
      rw [← e4.2, ← e4.1]
      refine ⟨Bal.paren (.inl hk) h2.e hk2, fun h => absurd hk h, fun _ => ?_⟩
      obtain ⟨w, g1, g2, g3⟩ := h2
      cases l with
      | nil => simp [kd] at hk
      | cons t8 l =>
       cases r2 with
       | nil => simp [kd] at hk2
       | cons t9 r2 =>
        have hk' : t8.k = 8 := hk
        have ha' : t9.k = 9 := hk2
        have g1' : l = w ++ t9 :: r2 := g1
        exact ⟨t8, w, t9, [], by rw [g1']; simp, g2, by simp [depS, hk'], by simp [depS, ha'], by simp⟩
     ·simp at e4
   ·simp at e
  case list =>
   intro d l x r hk e
   simp only [listS] at e
   split at e
   ·simp at e
   ·obtain ⟨b, r2, e3, e4⟩ := andThen_ok e
    simp at e4
    rw [← e4.2]
    have h2 := ih.elems e3
    exact Bal.paren hk.symm h2.1 h2.2
  case elems =>
   intro d a l x r e
   simp only [elemsS] at e
   split at e
   ·rename_i hk
    simp at e
    rw [← e.2]; exact ⟨BalE.rfl, hk⟩
   ·obtain ⟨b, r2, e3, e4⟩ := andThen_ok e
    have h1 := ih.elem e3
    have h2 := ih.elems e4
    exact ⟨h1.e.trans h2.1, h2.2⟩
  case elem =>
   intro d l x r e
   have t : ∀ {k : Int} {y : Nd}, kd l = k → (k ≠ 0 ∧ k ≠ 8 ∧ k ≠ 17 ∧ k ≠ 9) → Res.ok y l.tail = Res.ok x r → Bal l r := fun hk h0 e => by
    simp at e
    rw [← e.2]; exact Bal.one hk h0
   simp only [elemS] at e
   split at e
   ·rename_i hk; exact ih.list hk e
   split at e
   ·rename_i hk; exact t hk (by decide) e
   split at e
   ·rename_i hk; exact t hk (by decide) e
   split at e
   ·rename_i hk; exact t hk (by decide) e
   split at e
   ·rename_i hk
    rcases hk with hk | hk | hk <;> exact t hk (by decide) e
   ·simp at e
  case block =>
   intro d l x r hk e
   have h1 : Bal l l.tail := Bal.one hk (by decide)
   have t : ∀ {d l0 r0 ags}, Bal l l0 → ((bodyS n d 11 l0).andThen fun x r' => .ok (Nd.mk 10 ⟨#[]⟩ (pl l) (List.length ags) (ags ++ x.1) x.2) r'.tail) = Res.ok x r0 → Bal l r0 := fun h2 e => by
    obtain ⟨b, r2, e3, e4⟩ := andThen_ok e
    simp at e4
    rw [← e4.2]
    have h3 := ih.body e3
    exact h2.trans (h3.1.trans (Bal.one h3.2 (by decide)).e)
   simp only [blockS] at e
   split at e
   ·simp at e
   ·obtain ⟨b, r2, e3, e4⟩ := andThen_ok e
    have h2 := argsS_bal e3
    split at e4
    ·split at e4
     ·rename_i hk2
      exact t (h1.trans (h2.trans (Bal.one hk2 (by decide)).e)) e4
     ·simp at e4
    ·exact t (h1.trans h2) e4
  case body =>
   intro d e0 l x r e
   simp only [bodyS] at e
   obtain ⟨b, r2, e3, e4⟩ := andThen_ok e
   obtain ⟨c, r3, e5, e6⟩ := andThen_ok e4
   simp at e6
   rw [← e6.2]
   have h1 := tempsS_bal e3
   have h2 := ih.stmts e5
   exact ⟨h1.trans h2.1, h2.2⟩
  case stmts =>
   intro d e0 a l x r e
   simp only [stmtsS] at e
   split at e
   ·rename_i hk
    simp at e
    rw [← e.2]; exact ⟨BalE.rfl, hk⟩
   ·obtain ⟨b, r2, e3, e4⟩ := andThen_ok e
    have h1 := ih.stmt e3
    split at e4
    ·rename_i hk
     have h2 : Bal r2 r2.tail := Bal.one hk.1 (by decide)
     have h3 := ih.stmts e4
     exact ⟨h1.e.trans (h2.e.trans h3.1), h3.2⟩
    ·split at e4
     ·rename_i hk
      have h2 : Bal r2 r2.tail := Bal.one hk (by decide)
      split at e4
      ·rename_i hk2
       simp at e4
       rw [← e4.2]; exact ⟨h1.e.trans h2.e, hk2⟩
      ·simp at e4
     ·split at e4
      ·rename_i hk2
       simp at e4
       rw [← e4.2]; exact ⟨h1.e, hk2⟩
      ·simp at e4
  case stmt =>
   intro d l x r e
   simp only [stmtS] at e
   split at e
   ·rename_i hk
    obtain ⟨b, r2, e3, e4⟩ := andThen_ok e
    simp at e4
    rw [← e4.2]
    exact (Bal.one hk (by decide)).trans (ih.expr e3).e
   ·obtain ⟨b, r2, e3, e4⟩ := andThen_ok e
    simp at e4
    rw [← e4.2]
    exact ih.expr e3
end Go.SL
namespace Go.SL
def Good1 (Q : ByteArray → Nat → Prop) (k : Int) (t : ByteArray) (n : Nat) (names : List ByteArray) (m : Nat) : Prop :=
 names.length ≤ 10000 ∧ m ≤ 10000 ∧ n ≤ names.length ∧ (k = 7 → 1 ≤ m ∧ Q t (m - 1)) ∧ (k = 9 → Q t m) ∧ (k = 11 ∨ k = 6 → m = 1)
mutual
def Good (Q : ByteArray → Nat → Prop) : Nd → Prop
 | .mk k t _ n names kids => Good1 Q k t n names kids.length ∧ GoodL Q kids
def GoodL (Q : ByteArray → Nat → Prop) : List Nd → Prop
 | [] => True
 | x :: r => Good Q x ∧ GoodL Q r
end
section
variable {Q : ByteArray → Nat → Prop} {K : ByteArray → Nat → Prop}
theorem GoodL.iff : ∀ {l : List Nd}, GoodL Q l ↔ ∀ x ∈ l, Good Q x
 | [] => by simp [GoodL]
 | x :: r => by simp [GoodL, GoodL.iff (l := r)]
theorem Good.one {x : Nd} (h : Good Q x) : Good1 Q x.k x.t x.n x.names x.kids.length := by cases x; simp only [Good] at h; exact h.1
theorem Good.all {x : Nd} (h : Good Q x) : GoodL Q x.kids := by cases x; simp only [Good] at h; exact h.2
theorem GoodL.none : GoodL Q [] := by simp [GoodL]
theorem GoodL.app {a b : List Nd} (h : GoodL Q a) (g : GoodL Q b) : GoodL Q (a ++ b) := GoodL.iff.2 fun x hx => by
 rcases List.mem_append.1 hx with hx | hx
 ·exact GoodL.iff.1 h x hx
 ·exact GoodL.iff.1 g x hx
theorem GoodL.sub {a b : List Nd} (h : GoodL Q a) (g : ∀ x ∈ b, x ∈ a) : GoodL Q b := GoodL.iff.2 fun x hx => GoodL.iff.1 h x (g x hx)
theorem GoodL.single {x : Nd} (h : Good Q x) : GoodL Q [x] := by simp [GoodL, h]
theorem Good.leaf {k : Int} {t : ByteArray} {a : Nat} (h : k ≠ 7 ∧ k ≠ 9 ∧ k ≠ 11 ∧ k ≠ 6) : Good Q (.mk k t a 0 [] []) := by
 simp only [Good, GoodL, Good1, and_true]
 exact ⟨by simp, by simp, by simp, fun e => absurd e h.1, fun e => absurd e h.2.1, fun e => by rcases e with e | e; exact absurd e h.2.2.1; exact absurd e h.2.2.2⟩
def TF (Q K : ByteArray → Nat → Prop) (l : List Tk) : Prop := ∀ t ∈ l, (t.k = 1 → Q t.t 0) ∧ (t.k = 3 → Q t.t 1) ∧ (t.k = 2 → ∀ s n, K s n → K (s ++ t.t) (n + 1))
theorem TF.bal {l r : List Tk} (h : TF Q K l) (b : BalE l r) : TF Q K r := by
 obtain ⟨w, e, _⟩ := b
 intro t ht
 exact h t (by rw [e]; simp [ht])
theorem TF.tail {l : List Tk} (h : TF Q K l) : TF Q K l.tail := fun t ht => h t (List.mem_of_mem_tail ht)
theorem TF.at {l : List Tk} (h : TF Q K l) {k : Int} (hk : kd l = k) (h0 : k ≠ 0) : ∃ t r, l = t :: r ∧ t.k = k ∧ tx l = t.t ∧ (t.k = 1 → Q t.t 0) ∧ (t.k = 3 → Q t.t 1) ∧ (t.k = 2 → ∀ s n, K s n → K (s ++ t.t) (n + 1)) := by
 cases l with
 | nil => exact absurd hk (Ne.symm h0)
 | cons t r => exact ⟨t, r, rfl, hk, rfl, h t (by simp)⟩
theorem Good.sent {x m : Nd} (hx : Good Q x) (hm : Good Q m) (hk : m.k = 9) (hl : m.kids.length ≤ 5000) : Good Q (sentS x m) := by
 have h1 := hm.one
 simp only [sentS, Good, GoodL, Good1, List.length_cons, Nat.add_sub_cancel]
 exact ⟨⟨by simp, by omega, by simp, fun _ => ⟨by omega, h1.2.2.2.2.1 hk⟩, fun e => by simp at e, fun e => by simp at e⟩, hx, hm.all⟩
theorem namesS_num : ∀ l : List Tk, (namesS l).1.length ≤ l.length
 | [] => by simp [namesS]
 | t :: r => by
  have := namesS_num r
  simp only [namesS]
  split <;> simp <;> omega
theorem argsS_num : ∀ {n : Nat} {l : List Tk} {x r}, argsS n l = .ok x r → x.length ≤ l.length
 | 0, l, x, r, e => by simp [argsS] at e
 | n + 1, l, x, r, e => by
  simp only [argsS] at e
  split at e
  ·rename_i hk
   split at e
   ·obtain ⟨a, r', e1, e2⟩ := andThen_ok e
    simp at e2
    rw [← e2.1]
    have := argsS_num e1
    cases l with
    | nil => simp [kd] at hk
    | cons t l => simp at this ⊢; omega
   ·simp at e
  ·simp at e
   rw [e.1]; simp
theorem tempsS_num {l : List Tk} {x r} (e : tempsS l = .ok x r) : x.length ≤ l.length := by
 unfold tempsS at e
 split at e
 ·split at e
  ·simp at e
   rw [← e.1]
   have := namesS_num l.tail
   simp at this; omega
  ·simp at e
 ·simp at e
  rw [e.1]; simp
theorem msg_kind {n d : Nat} {l : List Tk} {x r} (e : msgS n d l = .ok x r) : x.k = 9 := by
 cases n with
 | zero => simp [msgS] at e
 | succ n =>
  simp only [msgS] at e
  split at e
  ·simp at e; rw [← e.1]; rfl
  ·split at e
   ·obtain ⟨b, r2, e3, e4⟩ := andThen_ok e
    simp at e4; rw [← e4.1]; rfl
   ·split at e
    ·obtain ⟨b, r2, e3, e4⟩ := andThen_ok e
     simp at e4
     rw [← e4.1]; rfl
    ·simp at e
structure PresG (Q K : ByteArray → Nat → Prop) (n : Nat) : Prop where
 expr : ∀ {d l x r}, WF l → TF Q K l → exprS n d l = .ok x r → Good Q x
 casc : ∀ {d l x r}, WF l → TF Q K l → cascS n d l = .ok x r → Good Q x
 semis : ∀ {d a l x r}, WF l → TF Q K l → GoodL Q a → semisS n d a l = .ok x r → GoodL Q x ∧ x.length + r.length ≤ a.length + l.length
 msg : ∀ {d l x r}, WF l → TF Q K l → msgS n d l = .ok x r → Good Q x
 keys : ∀ {d s a l x r}, WF l → TF Q K l → GoodL Q a → K s a.length → keysS n d s a l = .ok x r → GoodL Q x.2 ∧ K x.1 x.2.length ∧ a.length ≤ x.2.length ∧ (kd l = 2 → a.length < x.2.length)
 keyed : ∀ {d l x r}, WF l → TF Q K l → keyedS n d l = .ok x r → Good Q x.1
 binary : ∀ {d l x r}, WF l → TF Q K l → binaryS n d l = .ok x r → Good Q x.1
 unary : ∀ {d l x r}, WF l → TF Q K l → unaryS n d l = .ok x r → Good Q x.1
 chain : ∀ {d c y l x r}, WF l → TF Q K l → Good Q y.1 → chainS n d c y l = .ok x r → Good Q x.1
 prim : ∀ {d l x r}, WF l → TF Q K l → primS n d l = .ok x r → Good Q x.1
 list : ∀ {d l x r}, WF l → TF Q K l → (kd l = 17 ∨ kd l = 8) → listS n d l = .ok x r → Good Q x
 elems : ∀ {d a l x r}, WF l → TF Q K l → GoodL Q a → elemsS n d a l = .ok x r → GoodL Q x ∧ x.length + r.length ≤ a.length + l.length
 elem : ∀ {d l x r}, WF l → TF Q K l → elemS n d l = .ok x r → Good Q x
 block : ∀ {d l x r}, WF l → TF Q K l → kd l = 10 → blockS n d l = .ok x r → Good Q x
 body : ∀ {d e l x r}, WF l → TF Q K l → bodyS n d e l = .ok x r → GoodL Q x.2 ∧ x.1.length ≤ 5000 ∧ x.2.length ≤ 5000
 stmts : ∀ {d e a l x r}, WF l → TF Q K l → GoodL Q a → stmtsS n d e a l = .ok x r → GoodL Q x ∧ x.length + r.length ≤ a.length + l.length
 stmt : ∀ {d l x r}, WF l → TF Q K l → stmtS n d l = .ok x r → Good Q x.1
theorem presG (hK0 : K ⟨#[]⟩ 0) (hKQ : ∀ s n, 0 < n → K s n → Q s n) : ∀ n, PresG Q K n
 | 0 => by constructor <;> intros <;> simp_all [exprS, cascS, semisS, msgS, keysS, keyedS, binaryS, unaryS, chainS, primS, listS, elemsS, elemS, blockS, bodyS, stmtsS, stmtS]
 | n + 1 => by
  have ih := presG hK0 hKQ n
  have P := pres n
  have B := presB n
  constructor
  case expr =>
   intro d l x r h t e
   simp only [exprS] at e
   split at e
   ·rename_i hk
    have h1 := h.short hk.1 (by decide)
    have h2 := h1.1.short hk.2 (by decide)
    split at e
    ·simp at e
    ·obtain ⟨a, r', e1, e2⟩ := andThen_ok e
     simp at e2
     rw [← e2.1]
     have hg := ih.expr h2.1 t.tail.tail e1
     simp only [Good, GoodL, Good1]
     exact ⟨⟨by simp, by simp, by simp, fun e => by simp at e, fun e => by simp at e, fun _ => rfl⟩, hg, trivial⟩
   ·exact ih.casc h t e
  case casc =>
   intro d l x r h t e
   simp only [cascS] at e
   obtain ⟨a, r', e1, e2⟩ := andThen_ok e
   have hg := ih.keyed h t e1
   have h1 := P.keyed h e1
   have b1 := (B.keyed e1).1
   split at e2
   ·split at e2
    ·rename_i hk hk7
     obtain ⟨b, r2, e3, e4⟩ := andThen_ok e2
     simp at e4
     rw [← e4.1]
     have h2 := ih.semis h1.1 (t.bal b1.e) GoodL.none e3
     have ho := hg.one
     have hl := h1.1.2.2
     have h7 := ho.2.2.2.1 hk7.1
     have hn := h2.2
     simp only [List.length_nil] at hn
     simp only [Good, Good1]
     refine ⟨⟨by simp, by simp; omega, by simp, fun e => by simp at e, fun e => by simp at e, fun e => by simp at e⟩, ?_⟩
     refine GoodL.app (hg.all.sub fun y hy => List.mem_of_mem_take hy) ?_
     simp only [GoodL, Good, Good1]
     refine ⟨⟨⟨by simp, by simp; have := ho.2.1; omega, by simp, fun e => by simp at e, fun _ => by simpa using h7.2, fun e => by simp at e⟩, hg.all.sub fun y hy => List.mem_of_mem_tail hy⟩, h2.1⟩
    ·simp at e2
   ·simp at e2
    rw [← e2.1]; exact hg
  case semis =>
   intro d a l x r h t ha e
   simp only [semisS] at e
   split at e
   ·rename_i hk
    have h1 := h.short hk (by decide)
    obtain ⟨b, r2, e3, e4⟩ := andThen_ok e
    have h2 := P.msg h1.1 e3
    have hg := ih.msg h1.1 t.tail e3
    have h3 := ih.semis h2.1 (t.tail.bal (B.msg e3).e) (ha.app (.single hg)) e4
    refine ⟨h3.1, ?_⟩
    have := h3.2; have := h1.2; have := h2.2
    simp at *; omega
   ·simp at e
    rw [← e.1, ← e.2]; exact ⟨ha, Nat.le_refl _⟩
  case msg =>
   intro d l x r h t e
   simp only [msgS] at e
   split at e
   ·rename_i hk
    obtain ⟨w, l', el, hw, ht, q, _⟩ := t.at hk (by decide)
    simp at e
    rw [← e.1, ht]
    simp only [Good, GoodL, Good1]
    exact ⟨⟨by simp, by simp, by simp, fun e => by simp at e, fun _ => q hw, fun e => by simp at e⟩, trivial⟩
   ·split at e
    ·rename_i hk
     have h1 := h.short hk (by decide)
     obtain ⟨w, l', el, hw, ht, _, q, _⟩ := t.at hk (by decide)
     obtain ⟨b, r2, e3, e4⟩ := andThen_ok e
     simp at e4
     rw [← e4.1, ht]
     have hg := ih.unary h1.1 t.tail e3
     simp only [Good, GoodL, Good1]
     exact ⟨⟨by simp, by simp, by simp, fun e => by simp at e, fun _ => q hw, fun e => by simp at e⟩, hg, trivial⟩
    ·split at e
     ·rename_i hk
      obtain ⟨b, r2, e3, e4⟩ := andThen_ok e
      simp at e4
      rw [← e4.1]
      have h1 := ih.keys h t (a := []) trivial hK0 e3
      have h2 := keys_len h e3
      have := h.2.2
      simp at h2
      simp only [Good, Good1]
      exact ⟨⟨by simp, by omega, by simp, fun e => by simp at e, fun _ => hKQ _ _ (h1.2.2.2 hk) h1.2.1, fun e => by simp at e⟩, h1.1⟩
     ·simp at e
  case keys =>
   intro d s a l x r h t ha hK e
   simp only [keysS] at e
   split at e
   ·rename_i hk
    have h1 := h.short hk (by decide)
    obtain ⟨w, l', el, hw, ht, _, _, q⟩ := t.at hk (by decide)
    obtain ⟨b, r2, e3, e4⟩ := andThen_ok e
    have h2 := P.binary h1.1 e3
    have hg := ih.binary h1.1 t.tail e3
    have h3 := ih.keys h2.1 (t.tail.bal (B.binary e3).1.e) (ha.app (.single hg)) (by rw [ht]; simpa using q hw s _ hK) e4
    have := h3.2.2.1
    simp at this
    exact ⟨h3.1, h3.2.1, by omega, fun _ => by omega⟩
   ·rename_i hk
    simp at e
    rw [← e.1]; exact ⟨ha, hK, Nat.le_refl _, fun h => absurd h hk⟩
  case keyed =>
   intro d l x r h t e
   simp only [keyedS] at e
   obtain ⟨b, r2, e3, e4⟩ := andThen_ok e
   have h1 := P.binary h e3
   have hg := ih.binary h t e3
   split at e4
   ·obtain ⟨c, r3, e5, e6⟩ := andThen_ok e4
    simp at e6
    rw [← e6.1]
    exact hg.sent (ih.msg h1.1 (t.bal (B.binary e3).1.e) e5) (msg_kind e5) (msg_len h1.1 e5)
   ·simp at e4
    rw [← e4.1]; exact hg
  case binary =>
   intro d l x r h t e
   simp only [binaryS] at e
   obtain ⟨b, r2, e3, e4⟩ := andThen_ok e
   exact ih.chain (P.unary h e3).1 (t.bal (B.unary e3).1.e) (ih.unary h t e3) e4
  case unary =>
   intro d l x r h t e
   simp only [unaryS] at e
   obtain ⟨b, r2, e3, e4⟩ := andThen_ok e
   exact ih.chain (P.prim h e3).1 (t.bal (B.prim e3).1.e) (ih.prim h t e3) e4
  case chain =>
   intro d c y l x r h t hy e
   simp only [chainS] at e
   split at e
   ·obtain ⟨b, r2, e3, e4⟩ := andThen_ok e
    exact ih.chain (P.msg h e3).1 (t.bal (B.msg e3).e) (hy.sent (ih.msg h t e3) (msg_kind e3) (msg_len h e3)) e4
   ·simp at e
    rw [← e.1]; exact hy
  case prim =>
   intro d l x r h t e
   simp only [primS] at e
   split at e
   ·simp at e; rw [← e.1]; exact .leaf (by decide)
   split at e
   ·simp at e; rw [← e.1]; exact .leaf (by decide)
   split at e
   ·simp at e; rw [← e.1]; exact .leaf (by decide)
   split at e
   ·simp at e; rw [← e.1]; exact .leaf (by decide)
   split at e
   ·rename_i hk
    obtain ⟨b, r2, e3, e4⟩ := andThen_ok e
    simp at e4
    rw [← e4.1]
    exact ih.list h t (.inl hk) e3
   split at e
   ·rename_i hk
    obtain ⟨b, r2, e3, e4⟩ := andThen_ok e
    simp at e4
    rw [← e4.1]
    exact ih.block h t hk e3
   split at e
   ·rename_i hk
    have h1 := h.short hk (by decide)
    split at e
    ·simp at e
    ·obtain ⟨b, r2, e3, e4⟩ := andThen_ok e
     split at e4
     ·simp at e4
      rw [← e4.1]
      exact ih.expr h1.1 t.tail e3
     ·simp at e4
   ·simp at e
  case list =>
   intro d l x r h t hk e
   have h1 : Short l l.tail := by rcases hk with hk | hk <;> exact h.short hk (by decide)
   simp only [listS] at e
   split at e
   ·simp at e
   ·obtain ⟨b, r2, e3, e4⟩ := andThen_ok e
    simp at e4
    rw [← e4.1]
    have h2 := ih.elems h1.1 t.tail GoodL.none e3
    have := h1.1.2.2
    have := h2.2
    simp only [List.length_nil] at this
    simp only [Good, Good1]
    exact ⟨⟨by simp, by omega, by simp, fun e => by simp at e, fun e => by simp at e, fun e => by simp at e⟩, h2.1⟩
  case elems =>
   intro d a l x r h t ha e
   simp only [elemsS] at e
   split at e
   ·simp at e
    rw [← e.1, ← e.2]; exact ⟨ha, Nat.le_refl _⟩
   ·obtain ⟨b, r2, e3, e4⟩ := andThen_ok e
    have h1 := P.elem h e3
    have h2 := ih.elems h1.1 (t.bal (B.elem e3).e) (ha.app (.single (ih.elem h t e3))) e4
    refine ⟨h2.1, ?_⟩
    have := h2.2; have := h1.2
    simp at *; omega
  case elem =>
   intro d l x r h t e
   simp only [elemS] at e
   split at e
   ·rename_i hk; exact ih.list h t hk e
   split at e
   ·simp at e; rw [← e.1]; exact .leaf (by decide)
   split at e
   ·simp at e; rw [← e.1]; exact .leaf (by decide)
   split at e
   ·simp at e; rw [← e.1]; exact .leaf (by split <;> decide)
   split at e
   ·simp at e; rw [← e.1]; exact .leaf (by decide)
   ·simp at e
  case block =>
   intro d l x r h t hk e
   have h1 := h.short hk (by decide)
   have hl := h1.1.2.2
   have T : ∀ {d l0 r0 ags}, List.length ags ≤ 5000 → WF l0 → TF Q K l0 → ((bodyS n d 11 l0).andThen fun x r' => .ok (Nd.mk 10 ⟨#[]⟩ (pl l) (List.length ags) (ags ++ x.1) x.2) r'.tail) = Res.ok x r0 → Good Q x := fun hn h2 t2 e => by
    obtain ⟨b, r2, e3, e4⟩ := andThen_ok e
    simp at e4
    rw [← e4.1]
    have h3 := ih.body h2 t2 e3
    simp only [Good, Good1]
    exact ⟨⟨by simp; omega, by omega, by simp, fun e => by simp at e, fun e => by simp at e, fun e => by simp at e⟩, h3.1⟩
   simp only [blockS] at e
   split at e
   ·simp at e
   ·obtain ⟨b, r2, e3, e4⟩ := andThen_ok e
    have h2 := argsS_short h1.1 e3
    have hn := argsS_num e3
    have t2 := t.tail.bal (argsS_bal e3)
    split at e4
    ·split at e4
     ·rename_i hk2
      exact T (by omega) (h2.1.short hk2 (by decide)).1 t2.tail e4
     ·simp at e4
    ·exact T (by omega) h2.1 t2 e4
  case body =>
   intro d e0 l x r h t e
   simp only [bodyS] at e
   obtain ⟨b, r2, e3, e4⟩ := andThen_ok e
   obtain ⟨c, r3, e5, e6⟩ := andThen_ok e4
   simp at e6
   rw [← e6.1]
   have h1 := tempsS_short h e3
   have h2 := ih.stmts h1.1 (t.bal (tempsS_bal e3)) GoodL.none e5
   have := tempsS_num e3
   have := h.2.2
   have := h1.1.2.2
   have := h2.2
   simp only [List.length_nil] at this
   exact ⟨h2.1, by dsimp only; omega, by dsimp only; omega⟩
  case stmts =>
   intro d e0 a l x r h t ha e
   simp only [stmtsS] at e
   split at e
   ·simp at e
    rw [← e.1, ← e.2]; exact ⟨ha, Nat.le_refl _⟩
   ·obtain ⟨b, r2, e3, e4⟩ := andThen_ok e
    have h1 := P.stmt h e3
    have hg := ih.stmt h t e3
    have hl := h1.2
    split at e4
    ·rename_i hk
     have h2 := h1.1.short hk.1 (by decide)
     have h3 := ih.stmts h2.1 (t.bal (B.stmt e3).e).tail (ha.app (.single hg)) e4
     refine ⟨h3.1, ?_⟩
     have := h3.2; have := h2.2
     simp at *; omega
    ·split at e4
     ·split at e4
      ·simp at e4
       rw [← e4.1, ← e4.2]
       exact ⟨ha.app (.single hg), by simp; omega⟩
      ·simp at e4
     ·split at e4
      ·simp at e4
       rw [← e4.1, ← e4.2]
       exact ⟨ha.app (.single hg), by simp; omega⟩
      ·simp at e4
  case stmt =>
   intro d l x r h t e
   simp only [stmtS] at e
   split at e
   ·rename_i hk
    have h1 := h.short hk (by decide)
    obtain ⟨b, r2, e3, e4⟩ := andThen_ok e
    simp at e4
    rw [← e4.1]
    have hg := ih.expr h1.1 t.tail e3
    simp only [Good, GoodL, Good1]
    exact ⟨⟨by simp, by simp, by simp, fun e => by simp at e, fun e => by simp at e, fun _ => rfl⟩, hg, trivial⟩
   ·obtain ⟨b, r2, e3, e4⟩ := andThen_ok e
    simp at e4
    rw [← e4.1]
    exact ih.expr h t e3
end
end Go.SL
namespace Go.SL
section
variable {P : Program} {N : Nat} {chk : Array Oper → List (List AI) → Bool}
theorem KeepR.er {κ : K} {tmps : Array Value} : ∀ {keep : Env}, KeepR κ keep tmps → ER 0 κ keep tmps
 | [], _ => ⟨Nat.zero_le _, fun t => by simp [get, VR]⟩
 | (k, v) :: r, h => ⟨Nat.zero_le _, fun t => by
  simp only [get]
  by_cases hk : k = t
  ·subst hk
   rw [Nat.beq_refl]
   exact h (k, v) (by simp)
  ·rw [beq_ne hk]
   exact (KeepR.er fun p hp => h p (List.mem_cons_of_mem _ hp)).2 t⟩
theorem calls_fn (P : Program) {κ : K} {w : World} {g : V} {args : List V} {fid : FuncId} {all : List V} {gv : Value} {argv : Array Value} {d : Deferred} (h : calls g args = some (fid, all)) (hg : VR κ g gv) (hd : Deferred.ofValue gv argv = pure d) : ∃ fv cap, d.target = .fn fv cap := by
 have key : ∀ (f : Fn) (a c : Array Value), gv = .func f a c → ∃ fv cap, d.target = .fn fv cap := fun f a c e => by
  subst e
  have := congrArg (fun s => Sem.run P s w) hd
  simp only [Deferred.ofValue, Sem.run_pure, Result.ok.injEq, and_true] at this
  exact ⟨f, c, by rw [← this]⟩
 unfold calls at h
 split at h
 ·simp only [VR, DR] at hg
  obtain ⟨a', c', e, _⟩ := hg
  exact key _ _ _ e
 ·simp only [VR] at hg
  obtain ⟨a', c', e, _⟩ := hg
  exact key _ _ _ e
 ·simp at h
def UR (κ : K) : Option V → FrameMode → Prop
 | none, m => m = .returning
 | some v, m => ∃ x, m = .panicking [{ v := x, recovered := false }] ∧ VR κ v x
def recV : Option V → V
 | none => .d .nilI
 | some v => v
def outU : Out → Option V
 | .ret _ => none
 | .pan v => some v
def DCl (P : Program) (g : FuncId) (args : List V) (u : Option V) (h : H) (R : H → Prop) : Prop :=
 callable P g = true ∧ ∀ κ w argv m, Rel κ h w → VL κ args argv → UR κ u m → CallsD P g ⟨argv⟩ m w fun e u' w' => ∃ v κ' h', e = .returned v ∧ settle u' = .returning ∧ Le κ κ' ∧ Rel κ' h' w' ∧ R h'
theorem step_op_defer {b : Frame} {a : Act} {k : List Item} {cs : List Frame} {w w' : World} {ops : Array Oper} {i : Nat} {rest : List Nat} {o : Oper} {d : Deferred} (hb : b.roundOf = none) (ho : ops[i]? = some o)
  (hw : Region.wanted o (yielded ops a.tmps) = true) (hr : (execOp a.eval o).run P w = .ok (.defer d) w') :
  Go.step P (lone (b.atR a (.inRegion ops (i :: rest) :: k)) cs w) = .next (lone (b.atR ({ a with defers := d :: a.defers }.put o.dst undef) (.inRegion ops rest :: k)) cs w') := by
 have hg := stepGR_op (P := P) (b := b) (k := k) (cs := cs) (w := w) (rest := rest) ho hw
 refine step_lone_go ?_
 have : ({ b.atR a (.inRegion ops (i :: rest) :: k) with defers := d :: a.defers } : Frame).finish undef =
   b.atR ({ a with defers := d :: a.defers }.put o.dst undef) (.inRegion ops rest :: k) := by
  have := Frame.finish_atR b { a with defers := d :: a.defers } ops i rest k undef
  rw [ho] at this; exact this
 rw [hg, hb, Oper.semAt_none]; simp only [stepG.apply, Sem.runT_eq, hr, GStep.bare_after]
 exact congrArg (fun fr => GStep.go { frame := fr, callers := cs, status := .running, dying := none } w') this
theorem AT.defer {f : FuncId} {Q Q1 : Out → H → Prop} {fn : Func} (hf : P.funcs[f]? = some fn) {ix : Nat} {dst : Option Nat} {g : Opd} {args : List Opd} {kill : List Nat} {r : List AI} {ks : List AItem} {env : Env} {h : H} {fid : FuncId} {all : List V} {rs : List ARes} (keep : Env)
  (hc : calls (SL.ev env g) (args.map (SL.ev env)) = some (fid, all)) (hcal : callable P fid = true) (hrs : cRess P fn.results.toList = some rs)
  (hk : AT P N chk ⟨f, .normal, .one (SL.ev env g) (args.map (SL.ev env)), keep, none⟩ (.reg r :: ks) (put (dels env kill) dst .dead) h Q1)
  (hD : ∀ out h1, Q1 out h1 → DCl P fid all (outU out) h1 fun h2 => ∃ vs, aress h2 keep rs = some vs ∧ Q (.ret (outV vs)) h2) :
  AT P N chk (.of f) (.reg (⟨ix, dst, .defer g args, none, kill⟩ :: r) :: ks) env h Q := by
 intro κ w a k cs hcs hr he hd
 cases k with
 | nil => simp [CS] at hcs
 | cons x0 k =>
  obtain ⟨y, t, e, h3, h4⟩ := hcs
  simp only [List.cons.injEq] at e
  obtain ⟨e1, e2⟩ := e
  subst e1 e2
  cases x0 <;> simp only [CI] at h3
  rename_i ops l
  cases l with
  | nil => simp [RG] at h3
  | cons i rest =>
   obtain ⟨kill', ai', tl, c1, c2, c3⟩ := h3
   simp only [List.cons.injEq] at c2
   obtain ⟨c2, c4⟩ := c2
   subst c2 c4
   obtain ⟨o, o1, o2, o3, o4, o5, o6, o7⟩ := cAI_inv c1
   have hw : Region.wanted o (yielded ops a.tmps) = true := gOk_wanted he o7 trivial
   simp only at o5
   have : ∃ ce : Call, ∃ g0, o.op = .defer ce ∧ ce.callee = .value g0 ∧ opd g0 = some g ∧ opds ce.args.toList = some args := by
    cases ho : o.op <;> rw [ho] at o5 <;> simp only [copA] at o5
    case defer ce =>
     split at o5
     ·rename_i g0 hce
      split at o5
      ·rename_i g1 l1 z1 z2
       simp only [Option.some.injEq, AOp.defer.injEq] at o5
       obtain ⟨z3, z4⟩ := o5
       subst z3 z4
       exact ⟨ce, g0, rfl, hce, z1, z2⟩
      ·simp at o5
     ·simp at o5
    all_goals first | (split at o5 <;> simp at o5; done) | ((repeat' split at o5) <;> simp at o5)
   obtain ⟨ce, g0, p1, p2, p3, p4⟩ := this
   have hρ := ev_sound he
   have hgv := hρ _ _ p3
   have hav := opds_sound (f := SL.ev env) (ρ := a.eval) hρ p4
   obtain ⟨d, av, q1, q2, q3⟩ := calls_sound (P := P) (w := w) (argv := ce.args.map a.eval) hc hgv (by simpa using hav) hcal
   have hrun : (execOp a.eval o).run P w = .ok (.defer d) w := by
    simp [execOp, p1, resolve, p2, q1]
   have hst := step_op_defer (P := P) (b := baseOf (.of f)) (a := a) (k := k) (cs := cs) (rest := rest) rfl o1 hw hrun
   have hd0 : a.defers = [] := hd
   rw [hd0] at hst
   have hdef : DefR κ (.one (SL.ev env g) (args.map (SL.ev env))) [d] := ⟨d, a.eval g0, ce.args.map a.eval, rfl, q1, hgv, by simpa using hav⟩
   obtain ⟨e, w', fr, κ', h', out, g1, g2, g3, g4, g5, g6, g7⟩ := hk κ w ({ a with defers := [d] }.put o.dst undef) (.inRegion ops rest :: k) cs ⟨_, _, rfl, c3, h4⟩ hr (by
     have h1 : ER N κ (dels env kill) ({ a with defers := [d] } : Act).tmps := he.dels kill
     have := h1.putO (a := { a with defers := [d] }) o6 (x := .dead) (v := undef) (by simp [VR])
     simp only at o3
     rw [o3]
     exact this) (hdef.put (a := { a with defers := [d] }) (Le.refl κ) _ _)
   have g5 : Comes P (lone ((baseOf (.of f)).atR ({ a with defers := [d] }.put o.dst undef) (.inRegion ops rest :: k)) cs w) (lone fr cs w') e := g5
   obtain ⟨_, hD2⟩ := hD out h' g1
   have fin : ∀ (m : FrameMode), fr.mode = m → m ≠ .run → DefR κ' (.one (SL.ev env g) (args.map (SL.ev env))) fr.defers → fr.kind = .normal → KeepR κ' keep fr.tmps →
     UR κ' (outU out) m → Steps P (lone ((baseOf (.of f)).atR ({ a with defers := [d] }.put o.dst undef) (.inRegion ops rest :: k)) cs w) (lone fr cs w') →
     Ends P (.of f) (lone ((baseOf (.of f)).atR a (.inRegion ops (i :: rest) :: k)) cs w) cs κ Q := by
    intro m f1 f2 f3 f4 f5 f6 f7
    obtain ⟨d', gv', argv', d1, d2, d3, d4⟩ := f3
    obtain ⟨d'', av', r1, r2, r3⟩ := calls_sound (P := P) (w := w') (argv := argv') hc d3 d4 hcal
    rw [d2] at r1
    have r1 : d' = d'' := by
     have := congrArg (fun s => Sem.run P s w') r1
     simpa using this
    subst r1
    have hfv := calls_fn P (w := w) hc d3 d2
    obtain ⟨fv, cap, hfv⟩ := hfv
    obtain ⟨e', w'', fr', s1, s2, s3, s4⟩ := leaves_steps (P := P) (fn := fn) (tmps := fr.tmps) (R := fun e w'' => ∃ v κ2 h2 out2, e = Ending.returned v ∧ Q out2 h2 ∧ Le κ κ2 ∧ Rel κ2 h2 w'' ∧ OutR κ2 out2 e) [d'] m w' fr cs f1 d1 rfl (by rw [g6]; exact hf) f4
     ⟨f2, fv, cap, fid, ⟨av'⟩, hfv, r2, (hD2 κ' w' av' m g3 r3 f6).mono fun e2 u2 w2 ⟨v2, κ2, h2, t1, t2, t3, t4, vs, t5, t6⟩ => by
      subst t1
      simp only
      rw [t2]
      obtain ⟨y, y1, y2⟩ := results_sound (P := P) t4 ((f5.mono t3).er) hrs t5
      exact ⟨y, y1, y, κ2, h2, _, rfl, t6, g2.trans t3, t4, ⟨y, rfl, y2⟩⟩⟩
    obtain ⟨v2, κ2, h2, out2, z1, z2, z3, z4, z5⟩ := s1
    subst z1
    refine ⟨.returned v2, w'', fr', κ2, h2, out2, z2, z3, z4, z5, .head hst (Steps.trans f7 s2), by rw [s3]; exact g6, ?_⟩
    obtain ⟨l1, l2, l3, fn', l4, l5⟩ := s4
    exact ⟨l1, l2, l3, fn', l4, l5⟩
   cases e with
   | returned v =>
    obtain ⟨m1, m2, m3, fn', m4, m5⟩ := g7
    refine fin .returning m1 (by simp) m2 m3 m5 ?_ g5
    cases out with
    | ret _ => rfl
    | pan _ => obtain ⟨_, e1, _⟩ := g4; simp at e1
   | panicked ch =>
    obtain ⟨m1, m2, m3, m4, m5⟩ := g7
    cases out with
    | ret _ => obtain ⟨_, e1, _⟩ := g4; simp at e1
    | pan v =>
     obtain ⟨x, e1, e2⟩ := g4
     simp only [Ending.panicked.injEq] at e1
     subst e1
     exact fin _ m1 (by simp) (m2 rfl) m4 m5 ⟨x, rfl, e2⟩ g5
   | outgrown => cases out <;> (obtain ⟨_, e1, _⟩ := g4; simp at e1)
theorem DCl.of {g : FuncId} {fn : Func} {id : Nat} {o : Oper} {t : Nat} {c : Code} {ac : AC} {ann : Ann} {args : List V} {u : Option V} {h : H} {R : H → Prop} (n : Nat) (hf : P.funcs[g]? = some fn)
  (hb : fn.body = some (.seq (.region id #[o] false) c)) (hn : fn.ntmps = N) (hcal : callable P g = true) (ho : ∀ ρ w, (execOp ρ o).run P w = .ok .recover w) (hg : o.guard = none) (hd : o.dst = some t) (ht : t < N)
  (hc : comp P N ann chkD c = some (inst ac))
  (hk : ATT P N ⟨g, .deferred, .no, [], none⟩ (fun out h' => (∃ v, out = .ret v) ∧ R h') (goes n [.code ac] (put (env0 0 args) (some t) (recV u)) h true)) : DCl P g args u h R := by
 refine ⟨hcal, fun κ w argv m hr hv hu c0 cs hm => ?_⟩
 let f : FD := ⟨g, .deferred, .no, [], none⟩
 let a : Act := { tmps := ⟨argv⟩ ++ Array.replicate (fn.ntmps - argv.length) undef, defers := [] }
 have henter : Frame.enter P g ⟨argv⟩ .deferred = (baseOf f).atR a [.code (.seq (.region id #[o] false) c)] := by
  simp [Frame.enter, Frame.atR, hf, hb, baseOf, a, f]
 have he : ER N κ (env0 0 args) a.tmps := by
  refine ⟨?_, fun t => ?_⟩
  ·simp only [a, Array.size_append, Array.size_replicate]
   show N ≤ argv.length + (fn.ntmps - argv.length)
   omega
  ·rw [get_env0, if_pos (Nat.zero_le _), Nat.sub_zero]
   cases hx : args[t]? with
   | none => simp [List.getD, hx, VR]
   | some x =>
    obtain ⟨y, h1, h2⟩ := VL.get hv t x hx
    have hlt := (List.getElem?_eq_some_iff.1 h1).1
    simp only [List.getD, hx, Option.getD_some]
    have : a.tmps.getD t undef = y := by
     simp only [a, Array.getD_eq_getD_getElem?]
     rw [Array.getElem?_append_left (by simpa using hlt)]
     simp [h1]
    rw [this]; exact h2
 have hops : (#[o] : Array Oper)[0]? = some o := by simp
 have hw : Region.wanted o (yielded #[o] a.tmps) = true := by simp [Region.wanted, hg]
 have pre : ∀ (cs' : List Frame) (x : Value), (match recoverD (c0 :: cs) with | some (v, cs2) => cs' = cs2 ∧ x = v | none => cs' = c0 :: cs ∧ x = .nilIface) →
   Steps P (lone (Frame.enter P g ⟨argv⟩ .deferred) (c0 :: cs) w) (lone ((baseOf f).atR (a.put o.dst x) [.code c]) cs' w) := by
  intro cs' x hx
  rw [henter]
  refine .head stepR_seq (.head stepR_region ?_)
  have hl : List.range (#[o] : Array Oper).size = [0] := rfl
  rw [hl]
  have hg' := stepGR_op (P := P) (b := baseOf f) (a := a) (k := [.code c]) (cs := c0 :: cs) (w := w) (rest := []) hops hw
  rw [show (baseOf f).roundOf = none from rfl, Oper.semAt_none] at hg'
  have hk' : ((baseOf f).atR a (.inRegion #[o] (0 :: []) :: [.code c])).kind = .deferred := rfl
  have htr := tryRecover_deferred hk' (c0 :: cs)
  have hfin : ∀ v, ((baseOf f).atR a (.inRegion #[o] (0 :: []) :: [.code c])).finish v = (baseOf f).atR (a.put o.dst v) (.inRegion #[o] [] :: [.code c]) := by
   intro v; rw [Frame.finish_atR, hops]; rfl
  have hrun := ho a.eval w
  refine .head (step_lone_go (fr' := (baseOf f).atR (a.put o.dst x) (.inRegion #[o] [] :: [.code c])) (cs' := cs') ?_) (.one stepR_region_end)
  rw [hg', ← hfin]
  split at hx
  ·rename_i v cs2 hrec
   obtain ⟨x1, x2⟩ := hx
   subst x1 x2
   have hro : (baseOf f).roundOf = none := rfl
   simp only [Frame.atR] at htr ⊢
   simp only [hro] at htr ⊢
   simp [stepG.apply, hrun, htr, hrec]
  ·rename_i hrec
   obtain ⟨x1, x2⟩ := hx
   subst x1 x2
   have hro : (baseOf f).roundOf = none := rfl
   simp only [Frame.atR] at htr ⊢
   simp only [hro] at htr ⊢
   simp [stepG.apply, hrun, htr, hrec]
 have main : ∀ (cs' : List Frame) (x : Value), VR κ (recV u) x →
   ∃ e w' fr κ' h', (∃ v, e = Ending.returned v) ∧ R h' ∧ Le κ κ' ∧ Rel κ' h' w' ∧ Comes P (lone ((baseOf f).atR (a.put o.dst x) [.code c]) cs' w) (lone fr cs' w') e ∧ fr.fn = g ∧ f.leave P κ' fr w' e := by
  intro cs' x hx
  have hAT : AT P N chkD f [.code (inst ac)] (put (env0 0 args) (some t) (recV u)) h (fun out h' => (∃ v, out = .ret v) ∧ R h') := (goes_sound n _ _ _ _ hk).2.at
  obtain ⟨e, w', fr, κ', h', out, g1, g2, g3, g4, g5, g6, g7⟩ := hAT κ w (a.put o.dst x) [.code c] cs' ⟨_, _, rfl, ⟨ann, hc⟩, rfl⟩ hr (by rw [hd]; exact he.put ht hx) (by rw [hd]; rfl)
  obtain ⟨⟨v, e1⟩, hR⟩ := g1
  subst e1
  obtain ⟨y, e2, e3⟩ := g4
  exact ⟨e, w', fr, κ', h', ⟨y, e2⟩, hR, g2, g3, g5, g6, g7⟩
 cases u with
 | none =>
  have hmm : c0.mode = .returning := hm.trans hu
  have hrec : recoverD (c0 :: cs) = none := by simp [recoverD, hmm]
  obtain ⟨e, w', fr, κ', h', ⟨v, e1⟩, hR, g2, g3, g5, g6, g7⟩ := main (c0 :: cs) .nilIface (by simp [VR, DR, recV])
  subst e1
  obtain ⟨m1, m2, m3, fn', m4, m5⟩ := g7
  have hc0 : ({ c0 with mode := m } : Frame) = c0 := by subst hm; rfl
  refine ⟨.returned v, m, w', fr, ⟨v, κ', h', rfl, by rw [hu]; rfl, g2, g3, hR⟩, ?_, m3, m1, m2, fn', m4, m5⟩
  rw [hc0]
  exact Steps.trans (pre _ _ (by rw [hrec]; exact ⟨rfl, rfl⟩)) g5
 | some v0 =>
  obtain ⟨x, hu1, hu2⟩ := hu
  have hmm : c0.mode = .panicking [{ v := x, recovered := false }] := hm.trans hu1
  have hrec : recoverD (c0 :: cs) = some (x, { c0 with mode := .panicking [{ v := x, recovered := true }] } :: cs) := by simp [recoverD, hmm]
  obtain ⟨e, w', fr, κ', h', ⟨v, e1⟩, hR, g2, g3, g5, g6, g7⟩ := main ({ c0 with mode := .panicking [{ v := x, recovered := true }] } :: cs) x hu2
  subst e1
  obtain ⟨m1, m2, m3, fn', m4, m5⟩ := g7
  refine ⟨.returned v, .panicking [{ v := x, recovered := true }], w', fr, ⟨v, κ', h', rfl, by simp [settle], g2, g3, hR⟩, ?_, m3, m1, m2, fn', m4, m5⟩
  exact Steps.trans (pre _ _ (by rw [hrec]; exact ⟨rfl, rfl⟩)) g5
theorem ATT.defer {f : FuncId} {Q : Out → H → Prop} (Q1 : Out → H → Prop) {fn : Func} (hf : P.funcs[f]? = some fn) {ix : Nat} {dst : Option Nat} {g : Opd} {args : List Opd} {kill : List Nat} {r : List AI} {k : List AItem} {env : Env} {h : H} {ob : Bool} {fid : FuncId} {all : List V} {rs : List ARes} (n : Nat) (keep : Env)
  (hc : calls (ev env g) (args.map (ev env)) = some (fid, all)) (hcal : callable P fid = true) (hrs : cRess P fn.results.toList = some rs) (ho : ob = true)
  (hk : ATT P N ⟨f, .normal, .one (ev env g) (args.map (ev env)), keep, none⟩ Q1 (goes n (.reg r :: k) (put (dels env kill) dst .dead) h true))
  (hD : ∀ out h1, Q1 out h1 → DCl P fid all (outU out) h1 fun h2 => ∃ vs, aress h2 keep rs = some vs ∧ Q (.ret (outV vs)) h2) :
  ATT P N (.of f) Q (.reg (⟨ix, dst, .defer g args, none, kill⟩ :: r) :: k, env, h, ob) :=
 ⟨ho, AT.defer hf keep hc hcal hrs (goes_sound n _ _ _ _ hk).2.at hD⟩
theorem AT.retD {f : FD} {Q : Out → H → Prop} {fn : Func} (hf : P.funcs[f.fn]? = some fn) {ks : List AItem} {env : Env} {h : H} (hks : ks = [] ∨ ∃ k, ks = .code .ret :: k) (hdv : f.dv.plain = false) (hkp : subE env f.keep) (hQ : Q (.ret .dead) h) (hrn : f.rnd = none := by rfl) (hnc : f.dv.nocol = true := by rfl) : AT P N chk f ks env h Q := by
 intro κ w a k cs hcs hr he hd
 have fin : ∀ fr : Frame, fr.fn = f.fn → fr.mode = .returning → fr.defers = a.defers → fr.kind = f.kind → fr.tmps = a.tmps → Steps P (lone ((baseOf f).atR a k) cs w) (lone fr cs w) → Ends P f (lone ((baseOf f).atR a k) cs w) cs κ Q := by
  intro fr f1 f2 f3 f4 f5 f6
  refine ⟨.returned undef, w, fr, κ, h, .ret .dead, hQ, Le.refl κ, hr, ⟨undef, rfl, by simp [VR]⟩, f6, f1, ?_⟩
  simp only [FD.leave, hrn]
  refine ⟨f2, by rw [f3, DV.base_eq hnc]; exact hd, f4, fn, by rw [f1]; exact hf, ?_⟩
  rw [hdv, f5]; exact KeepR.of he hkp
 rcases hks with e | ⟨k0, e⟩
 ·subst e
  cases k with
  | nil => exact fin { (baseOf f).atR a [] with mode := .returning } rfl rfl rfl rfl rfl (.one (stepR_end hrn))
  | cons x k => obtain ⟨y, t, e, _⟩ := hcs; simp at e
 ·subst e
  cases k with
  | nil => simp [CS] at hcs
  | cons x k =>
   obtain ⟨y, t, e, h3, h4⟩ := hcs
   simp only [List.cons.injEq] at e
   obtain ⟨e1, e2⟩ := e
   subst e1 e2
   cases x <;> simp only [CI] at h3
   rename_i c
   obtain ⟨ann, hc⟩ := h3
   have : c = .ret := by
    cases c <;> simp only [comp] at hc <;> first | rfl | (simp at hc; done) | ((repeat' split at hc) <;> simp at hc)
   subst this
   exact fin { (baseOf f).atR a (.code .ret :: k) with mode := .returning } rfl rfl rfl rfl rfl (.one (stepR_ret hrn))
theorem ATT.finD {f : FD} {Q : Out → H → Prop} {fn : Func} (hf : P.funcs[f.fn]? = some fn) {k : List AItem} {env : Env} {h : H} {ob : Bool} (ho : ob = true) (hdv : f.dv.plain = false) (hkp : subE env f.keep) (hQ : Q (.ret .dead) h) (hrn : f.rnd = none := by rfl) (hnc : f.dv.nocol = true := by rfl) : ATT P N f Q (.code .ret :: k, env, h, ob) :=
 ⟨ho, AT.retD hf (.inr ⟨k.map instI, rfl⟩) hdv hkp hQ hrn hnc⟩
end
end Go.SL
