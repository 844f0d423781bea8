/- KernelWhole: the first commit can be, and names no object that it does not make: for every number. Part 2. -/
import Derived.Test.YthjflehiokjiaaaGreatDoorWho0
import Derived.ChangeSame
import Derived.ChangeMaps5
import Derived.RowKit3
import Derived.SliceStrings
import Derived.Carry
import Derived.Shelf.Vars
import Derived.OpenShut
import Derived.Shelf.Strings.Replace
import Derived.Test.YthjflehiokjiaaaGreatDoorChecked
import Derived.Recover
import Derived.RangeFuncRecord
namespace Go.SL
def Sub (h hc : H) (rb rv : List Nat) : Prop :=
 rb.Nodup ∧ rv.Nodup ∧ rb.map (h.bx[·]?) = (hc.bx.map (rnB rb rv)).map some ∧ rv.map (h.vc[·]?) = (hc.vc.map (rnV rb rv)).map some ∧
  (hc.bx.all (inscB rb.length rv.length)) = true ∧ (hc.vc.all (inscV rb.length rv.length)) = true
def downK (κ : K) (w : World) (rb rv : List Nat) : K where
 S := κ.S
 nb := rb.length
 bl := fun j => κ.bl (rb.getD j 0)
 nv := rv.length
 vn := fun j => κ.vn (rv.getD j 0)
 vb := fun j => κ.vb (rv.getD j 0)
 who := fun b => match κ.who b with
  | .box i => match idx rb i with
   | some j => .box j
   | none => .rest
  | .vec i => match idx rv i with
   | some j => .vec j
   | none => .rest
  | .rest => .rest
  | .free => .free
 rest := fun b => match κ.rest b with
  | some o => some o
  | none => match κ.who b with
   | .box i => match idx rb i with
    | some _ => none
    | none => w.heap[b]?
   | .vec i => match idx rv i with
    | some _ => none
    | none => w.heap[b]?
   | _ => none
 os := κ.os
 out := κ.out
 tape := κ.tape
 mx := by
  obtain ⟨m, e, fz, h⟩ := κ.mx
  exact ⟨m, e, fz, by rw [h]⟩
 kp := κ.kp
 kr := fun b h => by
  obtain ⟨o, e⟩ := κ.kr b h
  exact ⟨o, by rw [e]⟩
 gs := κ.gs
theorem down_rest {κ : K} {w : World} {rb rv : List Nat} {b : Nat} {o : Obj} (h : κ.rest b = some o) : (downK κ w rb rv).rest b = some o := by simp only [downK, h]
theorem own_rest {κ : K} {h : H} {w : World} (r : Rel κ h w) {b : Nat} (hw : κ.who b ≠ .rest) : κ.rest b = none := by
 cases e : κ.rest b with
 | none => rfl
 | some o => exact absurd (r.rest b o e).1 hw
theorem Sub.bx {h hc : H} {rb rv : List Nat} (s : Sub h hc rb rv) {j : Nat} {x : Bx} (hx : hc.bx[j]? = some x) : ∃ i, rb[j]? = some i ∧ h.bx[i]? = some (rnB rb rv x) ∧ inscB rb.length rv.length x = true := by
 obtain ⟨_, _, h3, _, h5, _⟩ := s
 have hj := congrArg (·[j]?) h3
 simp only [List.getElem?_map, hx, Option.map_some] at hj
 cases hi : rb[j]? with
 | none => simp [hi] at hj
 | some i =>
  simp [hi] at hj
  exact ⟨i, rfl, hj, by simpa using List.all_eq_true.1 h5 x (List.mem_of_getElem? hx)⟩
theorem Sub.vc {h hc : H} {rb rv : List Nat} (s : Sub h hc rb rv) {j : Nat} {x : Option Vec} (hx : hc.vc[j]? = some x) : ∃ i, rv[j]? = some i ∧ h.vc[i]? = some (rnV rb rv x) ∧ inscV rb.length rv.length x = true := by
 obtain ⟨_, _, _, h4, _, h6⟩ := s
 have hj := congrArg (·[j]?) h4
 simp only [List.getElem?_map, hx, Option.map_some] at hj
 cases hi : rv[j]? with
 | none => simp [hi] at hj
 | some i =>
  simp [hi] at hj
  exact ⟨i, rfl, hj, by simpa using List.all_eq_true.1 h6 x (List.mem_of_getElem? hx)⟩
theorem Sub.lenb {h hc : H} {rb rv : List Nat} (s : Sub h hc rb rv) : hc.bx.length = rb.length := by
 have := congrArg List.length s.2.2.1
 simpa using this.symm
theorem Sub.lenv {h hc : H} {rb rv : List Nat} (s : Sub h hc rb rv) : hc.vc.length = rv.length := by
 have := congrArg List.length s.2.2.2.1
 simpa using this.symm
theorem Sub.ltb {h hc : H} {rb rv : List Nat} (s : Sub h hc rb rv) {j i : Nat} (hi : rb[j]? = some i) : i < h.bx.length := by
 have hj : j < hc.bx.length := by rw [s.lenb]; exact (List.getElem?_eq_some_iff.1 hi).1
 obtain ⟨i', h1, h2, _⟩ := s.bx (List.getElem?_eq_getElem hj)
 rw [hi] at h1
 simp only [Option.some.injEq] at h1
 subst h1
 exact (List.getElem?_eq_some_iff.1 h2).1
theorem Sub.ltv {h hc : H} {rb rv : List Nat} (s : Sub h hc rb rv) {j i : Nat} (hi : rv[j]? = some i) : i < h.vc.length := by
 have hj : j < hc.vc.length := by rw [s.lenv]; exact (List.getElem?_eq_some_iff.1 hi).1
 obtain ⟨i', h1, h2, _⟩ := s.vc (List.getElem?_eq_getElem hj)
 rw [hi] at h1
 simp only [Option.some.injEq] at h1
 subst h1
 exact (List.getElem?_eq_some_iff.1 h2).1
theorem down_dn {κ : K} {h hc : H} {w : World} (r : Rel κ h w) {rb rv : List Nat} (s : Sub h hc rb rv) : Dn κ (downK κ w rb rv) rb rv where
 S := rfl
 nb := rfl
 nv := rfl
 bl := fun j i hi => ⟨by simp [downK, List.getD, hi], by rw [r.nb]; exact s.ltb hi⟩
 vn := fun j i hi => ⟨by simp [downK, List.getD, hi], by simp [downK, List.getD, hi], by rw [r.nv]; exact s.ltv hi⟩
theorem down_rel {κ : K} {h hc : H} {w : World} (r : Rel κ h w) {rb rv : List Nat} (s : Sub h hc rb rv) : Rel (downK κ w rb rv) hc w where
 S := r.S
 SO := fun b o v e => by
  rcases r.SO b o v e with q | q
  ·exact .inl (by simp only [downK]; rw [q])
  ·exact .inr q
 nb := s.lenb.symm
 nv := s.lenv.symm
 bx := fun j x hx => by
  obtain ⟨i, h1, h2, h3⟩ := s.bx hx
  have hb := r.bx i _ h2
  have d := down_dn r s
  have hbl := (d.bl j i h1).1
  cases x with
  | cells cs e =>
   obtain ⟨g1, vs, g2, g3⟩ := hb
   refine ⟨?_, vs, by rw [hbl]; exact g2, VL.down d _ _ h3 g3.1, g3.2⟩
   rw [hbl]; simp only [downK]; rw [g1]; simp only [idx_of s.1 h1]
  | iter q p =>
   obtain ⟨g1, g2⟩ := hb
   refine ⟨?_, by rw [hbl]; exact g2⟩
   rw [hbl]; simp only [downK]; rw [g1]; simp only [idx_of s.1 h1]
  | raw R => simp [inscB] at h3
  | gone => trivial
 vc := fun j x hx => by
  obtain ⟨i, h1, h2, h3⟩ := s.vc hx
  have hb := r.vc i _ h2
  have d := down_dn r s
  obtain ⟨hvn, hvb, _⟩ := d.vn j i h1
  cases x with
  | none => exact hvn.trans hb
  | some v =>
   obtain ⟨g1, g2, g3⟩ := hb
   refine ⟨by rw [hvn, g1]; simp [rns_length], g2, ?_⟩
   rcases g3 with ⟨a, b, c⟩ | ⟨a, b, cap, vs, sp, fz, e1, e2, e3, e4, e5, e6⟩
   ·refine .inl ⟨a, ?_, by rw [hvb]; exact c⟩
    have : (rns rb rv v.xs).length = 0 := by have b' : rns rb rv v.xs = [] := b; rw [b']; rfl
    rw [rns_length] at this
    exact List.length_eq_zero_iff.1 this
   ·refine .inr ⟨a, b, cap, vs, sp, fz, by rw [hvb]; exact e1, ?_, e3, e4, VX.down d _ _ h3 e5, e6⟩
    simp only [downK]; rw [e2]; simp only [idx_of s.2.1 h1]
 rest := fun b o e => by
  simp only [downK] at e ⊢
  split at e
  ·rename_i o' ho
   have h1 := r.rest b o' ho
   rw [h1.1]
   exact ⟨rfl, h1.2.trans e⟩
  ·split at e
   ·rename_i i hw
    rw [hw]
    split at e
    ·simp at e
    ·rename_i hi
     simp only [hi]
     exact ⟨trivial, e⟩
   ·rename_i i hw
    rw [hw]
    split at e
    ·simp at e
    ·rename_i hi
     simp only [hi]
     exact ⟨trivial, e⟩
   ·simp at e
 os := r.os
 out := r.out
 tape := r.tape
def upB (rb : List Nat) (n k : Nat) : List Nat := rb ++ (List.range k).map (n + ·)
def setAll {α : Type} : List α → List Nat → List α → List α
 | l, i :: r, x :: xs => setAll (l.set i x) r xs
 | l, _, _ => l
def upH (h hc' : H) (rb rv : List Nat) (kb kv : Nat) : H where
 bx := setAll h.bx rb (hc'.bx.map (rnB (upB rb h.bx.length kb) (upB rv h.vc.length kv))) ++ ((hc'.bx.drop rb.length).take kb).map (rnB (upB rb h.bx.length kb) (upB rv h.vc.length kv))
 vc := setAll h.vc rv (hc'.vc.map (rnV (upB rb h.bx.length kb) (upB rv h.vc.length kv))) ++ ((hc'.vc.drop rv.length).take kv).map (rnV (upB rb h.bx.length kb) (upB rv h.vc.length kv))
theorem setAll_length {α : Type} : ∀ (r : List Nat) (l xs : List α), (setAll l r xs).length = l.length
 | [], l, xs => by cases xs <;> simp [setAll]
 | i :: r, l, [] => by simp [setAll]
 | i :: r, l, x :: xs => by simp only [setAll]; rw [setAll_length]; simp
theorem setAll_out {α : Type} : ∀ (r : List Nat) (l xs : List α) (i : Nat), i ∉ r → (setAll l r xs)[i]? = l[i]?
 | [], l, xs, i, _ => by cases xs <;> simp [setAll]
 | k :: r, l, [], i, _ => by simp [setAll]
 | k :: r, l, x :: xs, i, h => by
  simp only [List.mem_cons, not_or] at h
  simp only [setAll]
  rw [setAll_out r _ xs i h.2, List.getElem?_set_ne (Ne.symm h.1)]
theorem setAll_in {α : Type} : ∀ (r : List Nat) (l xs : List α) (j i : Nat), r.Nodup → r[j]? = some i → i < l.length → j < xs.length → (setAll l r xs)[i]? = xs[j]?
 | [], l, xs, j, i, _, h, _, _ => by simp at h
 | k :: r, l, [], j, i, _, _, _, h => by simp at h
 | k :: r, l, x :: xs, 0, i, hn, h, hl, _ => by
  simp at h
  subst h
  simp only [setAll]
  simp only [List.nodup_cons] at hn
  rw [setAll_out r _ xs k hn.1, List.getElem?_set_self hl]
  simp
 | k :: r, l, x :: xs, j + 1, i, hn, h, hl, hx => by
  simp at h hx
  simp only [setAll]
  simp only [List.nodup_cons] at hn
  rw [setAll_in r _ xs j i hn.2 h (by simpa using hl) hx]
  simp
theorem upB_lt {rb : List Nat} {n k j : Nat} (h : j < rb.length) : (upB rb n k)[j]? = rb[j]? := by
 unfold upB; rw [List.getElem?_append_left h]
theorem upB_ge {rb : List Nat} {n k j i : Nat} (h : rb.length ≤ j) (hi : (upB rb n k)[j]? = some i) : i = n + (j - rb.length) ∧ j - rb.length < k := by
 unfold upB at hi
 rw [List.getElem?_append_right h] at hi
 simp only [List.getElem?_map] at hi
 by_cases hk : j - rb.length < k
 ·rw [List.getElem?_range hk] at hi
  simp at hi
  exact ⟨hi.symm, hk⟩
 ·rw [List.getElem?_eq_none (by simp; omega)] at hi
  simp at hi
theorem upB_nodup {rb : List Nat} {n k : Nat} (h : rb.Nodup) (hl : ∀ i ∈ rb, i < n) : (upB rb n k).Nodup := by
 unfold upB
 rw [List.nodup_append]
 refine ⟨h, ?_, ?_⟩
 ·exact List.pairwise_map.2 (List.nodup_range.imp fun h e => h (by omega))
 ·intro a ha b hb e
  subst e
  simp at hb
  obtain ⟨c, _, e⟩ := hb
  have := hl a ha
  omega
def upK (κ κc : K) (n m : Nat) (rb rv : List Nat) (kb kv : Nat) : K where
 S := κc.S
 nb := κ.nb + kb
 bl := fun i => match idx (upB rb n kb) i with
  | some j => κc.bl j
  | none => κ.bl i
 nv := κ.nv + kv
 vn := fun i => match idx (upB rv m kv) i with
  | some j => κc.vn j
  | none => κ.vn i
 vb := fun i => match idx (upB rv m kv) i with
  | some j => κc.vb j
  | none => κ.vb i
 who := fun b => match κc.rest b with
  | some _ => κ.who b
  | none => match κc.who b with
   | .box j => match (upB rb n kb)[j]? with
    | some i => .box i
    | none => .free
   | .vec j => match (upB rv m kv)[j]? with
    | some i => .vec i
    | none => .free
   | _ => .free
 rest := κ.rest
 os := κ.os
 out := κ.out
 tape := κ.tape
 mx := κ.mx
 kp := κ.kp
 kr := κ.kr
 gs := κc.gs
theorem up_all {κ κc' : K} {h hc hc' : H} {w w' : World} (r : Rel κ h w) {rb rv : List Nat} (s : Sub h hc rb rv) (rc : Rel κc' hc' w') (l : Le (downK κ w rb rv) κc')
  {kb kv : Nat} (hkb : rb.length + kb ≤ hc'.bx.length) (hkv : rv.length + kv ≤ hc'.vc.length) :
  ∃ κ', Rel κ' (upH h hc' rb rv kb kv) w' ∧ Le κ κ' ∧ Up κc' κ' (upB rb h.bx.length kb) (upB rv h.vc.length kv) := by
 let n := h.bx.length
 let m := h.vc.length
 have hnb : (upB rb n kb).Nodup := upB_nodup s.1 fun i hi => by obtain ⟨j, hj⟩ := List.mem_iff_getElem?.1 hi; exact s.ltb hj
 have hnv : (upB rv m kv).Nodup := upB_nodup s.2.1 fun i hi => by obtain ⟨j, hj⟩ := List.mem_iff_getElem?.1 hi; exact s.ltv hj
 let κ' := upK κ κc' n m rb rv kb kv
 have hlb : κ.nb = n := r.nb
 have hlv : κ.nv = m := r.nv
 have d := down_dn r s
 have lnb : (downK κ w rb rv).nb = rb.length := rfl
 have lnv : (downK κ w rb rv).nv = rv.length := rfl
 have placeb : ∀ j i, (upB rb n kb)[j]? = some i → i < n + kb ∧ (i < n → j < rb.length ∧ rb[j]? = some i) := fun j i hi => by
  rcases Nat.lt_or_ge j rb.length with hj | hj
  ·rw [upB_lt hj] at hi
   have := s.ltb hi
   exact ⟨by omega, fun _ => ⟨hj, hi⟩⟩
  ·obtain ⟨h1, h2⟩ := upB_ge hj hi
   exact ⟨by omega, fun h3 => by omega⟩
 have placev : ∀ j i, (upB rv m kv)[j]? = some i → i < m + kv ∧ (i < m → j < rv.length ∧ rv[j]? = some i) := fun j i hi => by
  rcases Nat.lt_or_ge j rv.length with hj | hj
  ·rw [upB_lt hj] at hi
   have := s.ltv hi
   exact ⟨by omega, fun _ => ⟨hj, hi⟩⟩
  ·obtain ⟨h1, h2⟩ := upB_ge hj hi
   exact ⟨by omega, fun h3 => by omega⟩
 have hle : Le κ κ' := {
  S := l.S
  nb := Nat.le_add_right _ _
  bl := fun i hi => by
   show (match idx (upB rb n kb) i with | some j => κc'.bl j | none => κ.bl i) = κ.bl i
   cases hx : idx (upB rb n kb) i with
   | none => rfl
   | some j =>
    obtain ⟨h1, h2⟩ := (placeb j i (idx_some hx)).2 (by omega)
    exact (l.bl j (by rw [lnb]; exact h1)).trans (d.bl j i h2).1
  nv := Nat.le_add_right _ _
  vn := fun i hi m' e => by
   have e' : (match idx (upB rv m kv) i with | some j => κc'.vn j | none => κ.vn i) = some m' := e
   show ∃ m, κ.vn i = some m ∧ m ≤ m' ∧ (m = m' → (match idx (upB rv h.vc.length kv) i with | some j => κc'.vb j | none => κ.vb i) = κ.vb i)
   cases hx : idx (upB rv m kv) i with
   | none => rw [hx] at e'; exact ⟨m', e', Nat.le_refl _, fun _ => rfl⟩
   | some j =>
    rw [hx] at e'
    obtain ⟨h1, h2⟩ := (placev j i (idx_some hx)).2 (by omega)
    obtain ⟨q, g1, g2, g3⟩ := l.vn j (by rw [lnv]; exact h1) m' e'
    obtain ⟨k1, k2, _⟩ := d.vn j i h2
    exact ⟨q, by rw [← k1]; exact g1, g2, fun e5 => (g3 e5).trans k2⟩
  rest := rfl
  os := rfl
  out := rfl
  tape := rfl }
 have up : Up κc' κ' (upB rb n kb) (upB rv m kv) := {
  S := rfl
  bl := fun j i hi hj => ⟨by show (match idx (upB rb n kb) i with | some j => κc'.bl j | none => κ.bl i) = κc'.bl j; rw [idx_of hnb hi], by
   have := (placeb j i hi).1; show i < κ.nb + kb; omega⟩
  vn := fun j i hi hj => ⟨by show (match idx (upB rv m kv) i with | some j => κc'.vn j | none => κ.vn i) = κc'.vn j; rw [idx_of hnv hi],
   by show (match idx (upB rv m kv) i with | some j => κc'.vb j | none => κ.vb i) = κc'.vb j; rw [idx_of hnv hi], by
   have := (placev j i hi).1; show i < κ.nv + kv; omega⟩ }
 have hrest : κc'.rest = (downK κ w rb rv).rest := l.rest
 have other : ∀ b o, (downK κ w rb rv).rest b = some o → w'.heap[b]? = some o ∧ κ'.who b = κ.who b := fun b o e => by
  have h1 := rc.rest b o (by rw [hrest]; exact e)
  refine ⟨h1.2, ?_⟩
  show (match κc'.rest b with | some _ => κ.who b | none => _) = κ.who b
  rw [hrest, e]
 have mine : ∀ b, κc'.who b ≠ .rest → κc'.rest b = none := fun b e => by
  cases hx : κc'.rest b with
  | none => rfl
  | some o => exact absurd (rc.rest b o hx).1 e
 have ownb : ∀ b j i, κc'.who b = .box j → (upB rb n kb)[j]? = some i → κ'.who b = .box i := fun b j i e hi => by
  show (match κc'.rest b with | some _ => κ.who b | none => match κc'.who b with
   | .box j => match (upB rb n kb)[j]? with | some i => .box i | none => .free
   | .vec j => match (upB rv m kv)[j]? with | some i => .vec i | none => .free
   | _ => .free) = Own.box i
  rw [mine b (by rw [e]; simp), e]
  simp only [hi]
 have ownv : ∀ b j i, κc'.who b = .vec j → (upB rv m kv)[j]? = some i → κ'.who b = .vec i := fun b j i e hi => by
  show (match κc'.rest b with | some _ => κ.who b | none => match κc'.who b with
   | .box j => match (upB rb n kb)[j]? with | some i => .box i | none => .free
   | .vec j => match (upB rv m kv)[j]? with | some i => .vec i | none => .free
   | _ => .free) = Own.vec i
  rw [mine b (by rw [e]; simp), e]
  simp only [hi]
 have boxUp : ∀ j i x, hc'.bx[j]? = some x → (upB rb n kb)[j]? = some i → BxR κ' w' i (rnB (upB rb n kb) (upB rv m kv) x) := fun j i x hx hi => by
  have hb := rc.bx j x hx
  have hj : j < κc'.nb := by rw [rc.nb]; exact (List.getElem?_eq_some_iff.1 hx).1
  obtain ⟨hbl, _⟩ := up.bl j i hi hj
  cases x with
  | cells cs e =>
   obtain ⟨g1, vs, g2, g3⟩ := hb
   exact ⟨by rw [hbl]; exact ownb _ j i g1 hi, vs, by rw [hbl]; exact g2, VL.up up _ _ g3.1, g3.2⟩
  | iter q p =>
   obtain ⟨g1, g2⟩ := hb
   exact ⟨by rw [hbl]; exact ownb _ j i g1 hi, by rw [hbl]; exact g2⟩
  | raw R => trivial
  | gone => trivial
 have vecUp : ∀ j i x, hc'.vc[j]? = some x → (upB rv m kv)[j]? = some i → VcR κ' w' i (rnV (upB rb n kb) (upB rv m kv) x) := fun j i x hx hi => by
  have hb := rc.vc j x hx
  have hj : j < κc'.nv := by rw [rc.nv]; exact (List.getElem?_eq_some_iff.1 hx).1
  obtain ⟨hvn, hvb, _⟩ := up.vn j i hi hj
  cases x with
  | none => exact hvn.trans hb
  | some v =>
   obtain ⟨g1, g2, g3⟩ := hb
   refine ⟨by rw [hvn, g1]; simp [rns_length], g2, ?_⟩
   rcases g3 with ⟨a, b, c⟩ | ⟨a, b, cap, vs, sp, fz, e1, e2, e3, e4, e5, e6⟩
   ·exact .inl ⟨a, by simp only [b]; rfl, by rw [hvb]; exact c⟩
   ·exact .inr ⟨a, b, cap, vs, sp, fz, by rw [hvb]; exact e1, ownv _ j i e2 hi, e3, e4, VX.up up _ _ e5, e6⟩
 refine ⟨κ', ⟨rc.S, fun b o v e => ?_, ?_, ?_, fun i x hx => ?_, fun i x hx => ?_, fun b o e => ?_, ?_, ?_, ?_⟩, hle, up⟩
 ·rcases rc.SO b o v e with h1 | h1
  case inr =>
   have e2 : κc'.kp = (downK κ w rb rv).kp := congrArg Prod.snd l.tape
   rw [e2] at h1
   exact .inr h1
  refine .inl ?_
  show (match κc'.rest b with | some _ => κ.who b | none => match κc'.who b with
   | .box j => match (upB rb n kb)[j]? with | some i => .box i | none => .free
   | .vec j => match (upB rv m kv)[j]? with | some i => .vec i | none => .free
   | _ => .free) = Own.free
  rw [mine b (by rw [h1]; simp), h1]
 ·show κ.nb + kb = (upH h hc' rb rv kb kv).bx.length
  simp only [upH, List.length_append, setAll_length, List.length_map, List.length_take, List.length_drop]
  omega
 ·show κ.nv + kv = (upH h hc' rb rv kb kv).vc.length
  simp only [upH, List.length_append, setAll_length, List.length_map, List.length_take, List.length_drop]
  omega
 ·simp only [upH] at hx
  rcases Nat.lt_or_ge i h.bx.length with hi | hi
  ·rw [List.getElem?_append_left (by rw [setAll_length]; exact hi)] at hx
   cases hix : idx rb i with
   | some j =>
    have hj := idx_some hix
    have hj2 := (List.getElem?_eq_some_iff.1 hj).1
    rw [setAll_in rb _ _ j i s.1 hj hi (by simp; omega)] at hx
    simp only [List.getElem?_map] at hx
    cases hy : hc'.bx[j]? with
    | none => simp [hy] at hx
    | some y =>
     simp only [hy, Option.map_some, Option.some.injEq] at hx
     subst hx
     exact boxUp j i y hy (by rw [upB_lt hj2]; exact hj)
   | none =>
    have hni := idx_none hix
    rw [setAll_out rb _ _ i hni] at hx
    have hb := r.bx i x hx
    have hbl : κ'.bl i = κ.bl i := hle.bl i (by omega)
    refine hb.of hle hbl fun o hg ho => ?_
    have hwho : κ.who (κ.bl i) = .box i := by
     cases x with
     | cells => exact hb.1
     | iter => exact hb.1
     | raw => exact hb.1
     | gone => exact absurd rfl hg
    exact other _ o (by simp only [downK, own_rest r (b := κ.bl i) (by rw [hwho]; simp), hwho, hix]; exact ho)
  ·rw [List.getElem?_append_right (by rw [setAll_length]; exact hi), setAll_length] at hx
   simp only [List.getElem?_map] at hx
   have hk : i - h.bx.length < kb := by
    rcases Nat.lt_or_ge (i - h.bx.length) kb with h1 | h1
    ·exact h1
    ·rw [List.getElem?_eq_none (by simp; omega)] at hx; simp at hx
   rw [List.getElem?_take, if_pos hk, List.getElem?_drop] at hx
   cases hy : hc'.bx[rb.length + (i - h.bx.length)]? with
   | none => simp [hy] at hx
   | some y =>
    simp only [hy, Option.map_some, Option.some.injEq] at hx
    subst hx
    refine boxUp _ i y hy ?_
    unfold upB
    rw [List.getElem?_append_right (by omega)]
    simp only [List.getElem?_map]
    rw [List.getElem?_range (by omega)]
    simp only [Option.map_some, Option.some.injEq]
    show h.bx.length + (rb.length + (i - h.bx.length) - rb.length) = i
    omega
 ·simp only [upH] at hx
  rcases Nat.lt_or_ge i h.vc.length with hi | hi
  ·rw [List.getElem?_append_left (by rw [setAll_length]; exact hi)] at hx
   cases hix : idx rv i with
   | some j =>
    have hj := idx_some hix
    have hj2 := (List.getElem?_eq_some_iff.1 hj).1
    rw [setAll_in rv _ _ j i s.2.1 hj hi (by simp; omega)] at hx
    simp only [List.getElem?_map] at hx
    cases hy : hc'.vc[j]? with
    | none => simp [hy] at hx
    | some y =>
     simp only [hy, Option.map_some, Option.some.injEq] at hx
     subst hx
     exact vecUp j i y hy (by rw [upB_lt hj2]; exact hj)
   | none =>
    have hni := idx_none hix
    rw [setAll_out rv _ _ i hni] at hx
    have hb := r.vc i x hx
    have hnu : idx (upB rv m kv) i = none := by
     cases hq : idx (upB rv m kv) i with
     | none => rfl
     | some j =>
      have := (placev j i (idx_some hq)).2 hi
      exact absurd (List.mem_of_getElem? this.2) hni
    refine hb.of hle ?_ ?_ fun o b c z h1 h2 h3 => ?_
    ·show (match idx (upB rv m kv) i with | some j => κc'.vn j | none => κ.vn i) = κ.vn i
     rw [hnu]
    ·show (match idx (upB rv m kv) i with | some j => κc'.vb j | none => κ.vb i) = κ.vb i
     rw [hnu]
    ·exact other _ o (by simp only [downK, own_rest r (b := b) (by rw [h2]; simp), h2, hix]; exact h3)
  ·rw [List.getElem?_append_right (by rw [setAll_length]; exact hi), setAll_length] at hx
   simp only [List.getElem?_map] at hx
   have hk : i - h.vc.length < kv := by
    rcases Nat.lt_or_ge (i - h.vc.length) kv with h1 | h1
    ·exact h1
    ·rw [List.getElem?_eq_none (by simp; omega)] at hx; simp at hx
   rw [List.getElem?_take, if_pos hk, List.getElem?_drop] at hx
   cases hy : hc'.vc[rv.length + (i - h.vc.length)]? with
   | none => simp [hy] at hx
   | some y =>
    simp only [hy, Option.map_some, Option.some.injEq] at hx
    subst hx
    refine vecUp _ i y hy ?_
    unfold upB
    rw [List.getElem?_append_right (by omega)]
    simp only [List.getElem?_map]
    rw [List.getElem?_range (by omega)]
    simp only [Option.map_some, Option.some.injEq]
    show h.vc.length + (rv.length + (i - h.vc.length) - rv.length) = i
    omega
 ·have h1 := r.rest b o e
  have h2 : (downK κ w rb rv).rest b = some o := down_rest e
  have h3 := other b o h2
  exact ⟨h3.2.trans h1.1, h3.1⟩
 ·exact rc.os.trans l.os
 ·exact rc.out.trans l.out
 ·exact rc.tape.trans (congrArg Prod.fst l.tape)
end Go.SL
namespace Go.SL
section
variable (P : Program)
def callable (f : FuncId) : Bool := match P.funcs[f]? with
 | some fn => !(fn.name == "runtime.NumGoroutine") && fn.body.isSome
 | none => false
def AF (f : FuncId) (args : List V) (h : H) (Q : Out → H → Prop) : Prop :=
 callable P f = true ∧ ∀ κ w argv, Rel κ h w → VL κ args argv → Calls P f ⟨argv⟩ w fun e w' => ∃ κ' h' out, Q out h' ∧ Le κ κ' ∧ Rel κ' h' w' ∧ OutR κ' out e
end
inductive ARes where
 | tmp (t : Nat)
 | cell (a : Nat) (agg : Bool) (sz : Nat)
def cRes (P : Program) : ResultVar → Option ARes
 | .tmp t => some (.tmp t)
 | .cell a t => match aggOf P t, szOf P t with
  | some g, some n => some (.cell a g n)
  | _, _ => none
def cRess (P : Program) : List ResultVar → Option (List ARes)
 | [] => some []
 | x :: r => match cRes P x, cRess P r with
  | some y, some l => some (y :: l)
  | _, _ => none
def ares (h : H) (env : Env) : ARes → Option V
 | .tmp t => some (get env t)
 | .cell a g n => xload h g n (get env a)
def aress (h : H) (env : Env) : List ARes → Option (List V)
 | [] => some []
 | x :: r => match ares h env x, aress h env r with
  | some y, some l => some (y :: l)
  | _, _ => none
def mkTup (l : List V) : V := match closeL l with
 | some ds => .d (.tup ds)
 | none => .tup l
def outV : List V → V
 | [v] => v
 | l => mkTup l
def mapD (f : V → Option D) : List V → Option (List D)
 | [] => some []
 | x :: r => match f x, mapD f r with
  | some y, some l => some (y :: l)
  | _, _ => none
def toDv (h : H) : Nat → V → Option D
 | _, .d x => some x
 | n + 1, .vs i m off len => match h.vc[i]? with
  | some (some v) => match Nat.beq v.xs.length m && Nat.ble (off + len) m with
   | true => match mapD (toDv h n) ((v.xs.drop off).take len) with
    | some ds => some (.sl v.nil v.sz ds)
    | none => none
   | false => none
  | _ => none
 | n + 1, .agg xs => match mapD (toDv h n) xs with
  | some ds => some (.agg ds)
  | none => none
 | n + 1, .tup xs => match mapD (toDv h n) xs with
  | some ds => some (.tup ds)
  | none => none
 | n + 1, .iface t x => match toDv h n x with
  | some d => some (.iface t d)
  | none => none
 | _, _ => none
def fzV (h : H) (v : V) : V := match toDv h 12 v with
 | some d => .d d
 | none => v
def fzH (h : H) : H := { h with vc := h.vc.map fun _ => none }
def fzK (κ : K) (h : H) (w : World) : K := { κ with
 S := fun b o => match κ.S b o with
  | some v => some v
  | none => match κ.who b with
   | .vec i => match h.vc[i]?, κ.vb i with
    | some (some v), some (b', _, _) => if b' = b ∧ o < v.xs.length * v.sz then w.cell? ⟨b, o, none⟩ else none
    | _, _ => none
   | _ => none
 vn := fun _ => none
 who := fun b => match κ.who b with
  | .vec _ => .free
  | o => o
 gs := fun p hp => DC.mono (fun b o v e => by simp only [e]) _ _ _ (κ.gs p hp) }
theorem fz_le {κ : K} {h : H} {w : World} : Le κ (fzK κ h w) := ⟨fun b o v e => by simp only [fzK, e], Nat.le_refl _, fun _ _ => rfl, Nat.le_refl _, fun i _ m e => by simp [fzK] at e, rfl, rfl, rfl, rfl⟩
theorem fz_rel {κ : K} {h : H} {w : World} (r : Rel κ h w) : Rel (fzK κ h w) (fzH h) w where
 S := fun b o v e => by
  simp only [fzK] at e
  split at e
  ·rename_i v' hv
   simp only [Option.some.injEq] at e
   subst e
   exact r.S b o _ hv
  ·split at e
   ·split at e
    ·split at e
     ·exact e
     ·simp at e
    ·simp at e
   ·simp at e
 SO := fun b o v e => by
  simp only [fzK] at e ⊢
  split at e
  ·rename_i v' hv
   rcases r.SO b o _ hv with q | q
   ·exact .inl (by rw [q])
   ·exact .inr q
  ·split at e
   ·rename_i i hi
    exact .inl rfl
   ·simp at e
 nb := r.nb
 nv := by simp only [fzH, List.length_map]; exact r.nv
 bx := fun i x hx => (r.bx i x hx).of fz_le rfl fun o hg ho => ⟨ho, by
  have : κ.who (κ.bl i) = .box i := by
   have := r.bx i x hx
   cases x with
   | cells => exact this.1
   | iter => exact this.1
   | raw => exact this.1
   | gone => exact absurd rfl hg
  simp only [fzK, this]⟩
 vc := fun i x hx => by
  simp only [fzH, List.getElem?_map] at hx
  cases hv : h.vc[i]? with
  | none => simp [hv] at hx
  | some y => simp only [hv, Option.map_some, Option.some.injEq] at hx; subst hx; rfl
 rest := fun b o e => by
  have := r.rest b o e
  exact ⟨by simp only [fzK, this.1], this.2⟩
 os := r.os
 out := r.out
 tape := r.tape
theorem mapD_sound {S : Sealed} {κ : K} {f : V → Option D} (hf : ∀ x d v, f x = some d → VR κ x v → DR S d v) : ∀ {xs : List V} {ds : List D} {ys : List Value}, mapD f xs = some ds → VL κ xs ys → DL S ds ys
 | [], ds, ys, h, r => by simp only [mapD, Option.some.injEq] at h; subst h; simpa [VL, DL] using r
 | x :: xs, ds, ys, h, r => by
  simp only [mapD] at h
  split at h
  case h_2 => simp at h
  rename_i y l e1 e2
  simp only [Option.some.injEq] at h
  subst h
  simp only [VL] at r
  obtain ⟨v, t, e, r1, r2⟩ := r
  simp only [DL]
  exact ⟨v, t, e, hf x y v e1 r1, mapD_sound hf e2 r2⟩
theorem mapD_d (h : H) (n : Nat) : ∀ ds : List D, mapD (toDv h n) (ds.map .d) = some ds
 | [] => rfl
 | x :: ds => by
  have : toDv h n (.d x) = some x := by cases n <;> rfl
  simp [mapD, this, mapD_d h n ds]
theorem cellsD {S : Sealed} {κ : K} {b : Nat} {f : V → Option D} : ∀ (cs : List V) (ds : List D) (c : List Value) (o : Nat), mapD f cs = some ds → VC κ cs c →
  (∀ (j : Nat) z, c[j]? = some z → S b (o + j) = some z) → (∀ x' d' v', f x' = some d' → VR κ x' v' → DR S d' v') → DC S ds b o ∧ ds.length = c.length
 | [], ds, c, o, a1, a2, _, _ => by
  simp only [mapD, Option.some.injEq] at a1; subst a1; have := VL.length a2.1; simp at this; simp [DC, this]
 | x' :: cs, ds, c, o, a1, a2, a3, a4 => by
  simp only [mapD] at a1
  split at a1
  case h_2 => simp at a1
  rename_i y' l' b1 b2
  simp only [Option.some.injEq] at a1
  subst a1
  have a5 := a2.1
  simp only [VL] at a5
  obtain ⟨v', t', b3, b4, b5⟩ := a5
  subst b3
  have := cellsD cs l' t' (o + 1) b2 ⟨b5, fun z hz => a2.2 z (List.mem_cons_of_mem _ hz)⟩ (fun j z hj => by
   have := a3 (j + 1) z (by simpa using hj)
   rwa [show o + (j + 1) = o + 1 + j by omega] at this) a4
  simp only [DC]
  exact ⟨⟨⟨v', by have := a3 0 v' (by simp); simpa using this, a2.2 v' (by simp), a4 x' y' v' b1 b4⟩, this.1⟩, by simp [this.2]⟩
theorem toDv_sound {κ : K} {h : H} {w : World} (r : Rel κ h w) : ∀ (n : Nat) (x : V) (d : D) (v : Value), toDv h n x = some d → VR κ x v → DR (fzK κ h w).S d v
 | n, .d x, d, v, e, hx => by
  have : toDv h n (.d x) = some x := by cases n <;> rfl
  rw [this] at e
  simp only [Option.some.injEq] at e
  subst e
  simp only [VR] at hx
  exact hx.mono fz_le.S
 | n + 1, .vs i m off len, d, v, e, hx => by
  simp only [toDv] at e
  split at e
  case h_2 => simp at e
  rename_i vc hv
  split at e
  case h_2 => simp at e
  rename_i hc
  simp only [Bool.and_eq_true] at hc
  have c1 := Nat.eq_of_beq_eq_true hc.1
  have c2 := Nat.le_of_ble_eq_true hc.2
  obtain ⟨g1, g2, g3⟩ := r.vc i _ hv
  simp only [VR] at hx
  have h3 := (hx.2.2 _ g1).2 c1.symm
  split at e
  case h_2 => simp at e
  rename_i ds hds
  simp only [Option.some.injEq] at e
  rcases g3 with ⟨h4, hxs, g4⟩ | ⟨h4, b, cap, vs, sp, fz, g4, g5, g6, g7, g8, _⟩
  ·rw [hxs] at hds
   simp only [List.drop_nil, List.take_nil, mapD, Option.some.injEq] at hds
   subst hds
   rw [h4] at e
   subst e
   simp only [link, g4] at h3
   simp only [DR]
   exact .inl ⟨trivial, trivial, h3.1⟩
  ·rw [h4] at e
   subst e
   simp only [link, g4] at h3
   obtain ⟨k1, k2⟩ := h3
   have hlen : ds.length = len := by
    have : ∀ {xs : List V} {ds : List D}, mapD (toDv h n) xs = some ds → ds.length = xs.length := by
     intro xs
     induction xs with
     | nil => intro ds h; simp only [mapD, Option.some.injEq] at h; subst h; rfl
     | cons x xs ih =>
      intro ds h
      simp only [mapD] at h
      split at h
      case h_2 => simp at h
      simp only [Option.some.injEq] at h
      subst h
      rename_i e2
      simp [ih e2]
    rw [this hds]; simp; omega
   simp only [DR]
   refine .inr ⟨trivial, b, off * vc.sz, cap - off, by rw [hlen]; exact k2, by rw [hlen]; omega, ?_⟩
   have hvl := g8.length
   have hS : ∀ o y, o < vc.xs.length * vc.sz → vs[o]? = some y → (fzK κ h w).S b o = some y := fun o y ho hy => by
    simp only [fzK]
    have hn : κ.S b o = none := by
     cases hq : κ.S b o with
     | none => rfl
     | some z => have := r.own hq; rw [g5] at this; simp at this
    have hcell : w.cell? ⟨b, o, none⟩ = some y := by
     have := at_row (pre := []) (vs := vs) (post := sp) (by simpa using g6)
     simpa using this o y hy
    simp only [hn, g5, hv, g4]
    simp [ho, hcell]
   have key : ∀ (k : Nat) (xs : List V) (ds : List D) (o : Nat), mapD (toDv h n) xs = some ds → VX κ vc.sz xs ((vs.drop o).take (xs.length * vc.sz)) →
     o + xs.length * vc.sz ≤ vc.xs.length * vc.sz → DX (fzK κ h w).S vc.sz ds b o := by
    intro k xs
    induction xs with
    | nil => intro ds o h1 _ _; simp only [mapD, Option.some.injEq] at h1; subst h1; simp [DX]
    | cons x xs ih =>
     intro ds o h1 h2 h3
     simp only [mapD] at h1
     split at h1
     case h_2 => simp at h1
     rename_i y l e1 e2
     simp only [Option.some.injEq] at h1
     subst h1
     obtain ⟨c, t, f1, f2, f3, f4⟩ := h2
     have hmul : (x :: xs).length * vc.sz = vc.sz + xs.length * vc.sz := by simp [Nat.add_mul]; omega
     rw [hmul] at f1 h3
     have hc : c = (vs.drop o).take vc.sz := by
      have := congrArg (·.take vc.sz) f1
      simp only [List.take_take] at this
      rw [Nat.min_eq_left (by omega)] at this
      rw [this, ← f2, List.take_left]
     have ht : t = (vs.drop (o + vc.sz)).take (xs.length * vc.sz) := by
      have := congrArg (·.drop vc.sz) f1
      simp only [List.drop_take, List.drop_drop] at this
      rw [← f2, List.drop_left, f2] at this
      rw [← this]; congr 1; omega
     rw [ht] at f4
     have ih' := ih l (o + vc.sz) e2 f4 (by omega)
     have hSc : ∀ (j : Nat) z, c[j]? = some z → (fzK κ h w).S b (o + j) = some z := fun j z hj => by
      have hj2 := (List.getElem?_eq_some_iff.1 hj).1
      rw [hc, List.getElem?_take] at hj
      split at hj
      ·rw [List.getElem?_drop] at hj
       exact hS (o + j) z (by omega) hj
      ·simp at hj
     have rec1 : ∀ x' d' v', toDv h n x' = some d' → VR κ x' v' → DR (fzK κ h w).S d' v' := fun x' d' v' a1 a2 => toDv_sound r n x' d' v' a1 a2
     have a4 : ∀ x' d' v', toDv h (n - 1) x' = some d' → VR κ x' v' → DR (fzK κ h w).S d' v' := fun x' d' v' b1 b2 => toDv_sound r (n - 1) x' d' v' b1 b2
     have one : ∀ z, x.cells = [x] → (∀ cs, y ≠ .agg cs) → c = [z] → vc.sz = 1 ∧ ∃ q, (fzK κ h w).S b o = some q ∧ q.oneCell' = true ∧ DR (fzK κ h w).S y q := fun z hx1 _ hz => by
      subst hz
      rw [hx1] at f3
      have f5 := f3.1
      simp only [VL] at f5
      obtain ⟨q, _, f6, f7, _⟩ := f5
      simp only [List.cons.injEq] at f6
      obtain ⟨f6, _⟩ := f6
      subst f6
      exact ⟨by simpa using f2.symm, z, by have := hSc 0 z (by simp); simpa using this, f3.2 z (by simp), rec1 x y z e1 f7⟩
     have single : x.cells = [x] → ∃ z, c = [z] := fun hx1 => by
      rw [hx1] at f3
      have f5 := f3.1
      simp only [VL] at f5
      obtain ⟨q, t', f6, _, f8⟩ := f5
      exact ⟨q, by rw [f6, f8]⟩
     cases x with
     | agg xs' =>
      cases n with
      | zero => simp [toDv] at e1
      | succ n' =>
       simp only [toDv] at e1
       split at e1
       case h_2 => simp at e1
       rename_i ds' hds'
       simp only [Option.some.injEq] at e1
       subst e1
       have q := cellsD (f := toDv h n') xs' ds' c o hds' f3 hSc a4
       simp only [DX]
       exact ⟨⟨by rw [q.2, f2], q.1⟩, ih'⟩
     | d x0 =>
      have hy : x0 = y := by
       have : toDv h n (.d x0) = some x0 := by cases n <;> rfl
       rw [this] at e1; simpa using e1
      subst hy
      cases x0 with
      | agg ds0 =>
       have q := cellsD (f := toDv h n) (ds0.map .d) ds0 c o (mapD_d h n ds0) f3 hSc rec1
       simp only [DX]
       exact ⟨⟨by rw [q.2, f2], q.1⟩, ih'⟩
      | _ =>
       obtain ⟨z, hz⟩ := single rfl
       simp only [DX]
       exact ⟨one z rfl (by simp) hz, ih'⟩
     | vs i' m' o' l' =>
      cases n with
      | zero => simp [toDv] at e1
      | succ n' =>
       obtain ⟨z, hz⟩ := single rfl
       have hy : ∃ a1 a2 a3, y = .sl a1 a2 a3 := by
        simp only [toDv] at e1
        (repeat' split at e1) <;> simp only [Option.some.injEq, reduceCtorEq] at e1 <;> exact ⟨_, _, _, e1.symm⟩
       obtain ⟨a1, a2, a3, hy⟩ := hy
       have := one z rfl (by rw [hy]; simp) hz
       subst hy
       simp only [DX]
       exact ⟨this, ih'⟩
     | tup xs' =>
      cases n with
      | zero => simp [toDv] at e1
      | succ n' =>
       obtain ⟨z, hz⟩ := single rfl
       have hy : ∃ a1, y = .tup a1 := by
        simp only [toDv] at e1
        (repeat' split at e1) <;> simp only [Option.some.injEq, reduceCtorEq] at e1 <;> exact ⟨_, e1.symm⟩
       obtain ⟨a1, hy⟩ := hy
       have := one z rfl (by rw [hy]; simp) hz
       subst hy
       simp only [DX]
       exact ⟨this, ih'⟩
     | iface t' x' =>
      cases n with
      | zero => simp [toDv] at e1
      | succ n' =>
       obtain ⟨z, hz⟩ := single rfl
       have hy : ∃ a1 a2, y = .iface a1 a2 := by
        simp only [toDv] at e1
        (repeat' split at e1) <;> simp only [Option.some.injEq, reduceCtorEq] at e1 <;> exact ⟨_, _, e1.symm⟩
       obtain ⟨a1, a2, hy⟩ := hy
       have := one z rfl (by rw [hy]; simp) hz
       subst hy
       simp only [DX]
       exact ⟨this, ih'⟩
     | _ => cases n <;> simp [toDv] at e1
   exact key 0 _ ds (off * vc.sz) hds (by
    have h9 := (g8.drop off).take len
    have h10 : ((vc.xs.drop off).take len).length = len := by simp; omega
    rw [h10]; exact h9) (by
    have h10 : ((vc.xs.drop off).take len).length = len := by simp; omega
    rw [h10, ← Nat.add_mul]
    exact Nat.mul_le_mul_right _ (by omega))
 | n + 1, .agg xs, d, v, e, hx => by
  simp only [toDv] at e
  split at e
  case h_2 => simp at e
  rename_i ds hds
  simp only [Option.some.injEq] at e
  subst e
  simp only [VR] at hx
  obtain ⟨ys, e1, r1, r2⟩ := hx
  simp only [DR]
  exact ⟨ys, e1, mapD_sound (fun x d v a b => toDv_sound r n x d v a b) hds r1, r2⟩
 | n + 1, .tup xs, d, v, e, hx => by
  simp only [toDv] at e
  split at e
  case h_2 => simp at e
  rename_i ds hds
  simp only [Option.some.injEq] at e
  subst e
  simp only [VR] at hx
  obtain ⟨ys, e1, r1⟩ := hx
  simp only [DR]
  exact ⟨ys, e1, mapD_sound (fun x d v a b => toDv_sound r n x d v a b) hds r1⟩
 | n + 1, .iface t x, d, v, e, hx => by
  simp only [toDv] at e
  split at e
  case h_2 => simp at e
  rename_i dd hd
  simp only [Option.some.injEq] at e
  subst e
  simp only [VR] at hx
  obtain ⟨y, e1, r1⟩ := hx
  simp only [DR]
  exact ⟨y, e1, toDv_sound r n x dd y hd r1⟩
 | 0, .vs .., _, _, e, _ | 0, .agg _, _, _, e, _ | 0, .tup _, _, _, e, _ | 0, .iface .., _, _, e, _ => by simp [toDv] at e
 | 0, .dead, _, _, e, _ | 0, .ptr .., _, _, e, _ | 0, .vptr .., _, _, e, _ | 0, .fn .., _, _, e, _ => by simp [toDv] at e
 | _ + 1, .dead, _, _, e, _ | _ + 1, .ptr .., _, _, e, _ | _ + 1, .vptr .., _, _, e, _ | _ + 1, .fn .., _, _, e, _ => by simp [toDv] at e
termination_by n => n
decreasing_by all_goals omega
end Go.SL
namespace Go.SL
section
variable {P : Program} {N : Nat} {chk : Array Oper → List (List AI) → Bool} {f : FD}
def run (go : Bool) : Nat → List AItem → Env → H → Bool → Option (List AItem × Env × H × Bool)
 | 0, ks, env, h, ob => some (ks, env, h, ob)
 | n + 1, ks, env, h, ob => match step1 go ks env h with
  | some (ks', env', h', o) => run go n ks' env' h' (ob && o)
  | none => some (ks, env, h, ob)
theorem AT.run {go ob ob' : Bool} {Q : Out → H → Prop} : ∀ (n : Nat) {ks ks' : List AItem} {env env' : Env} {h h' : H}, SL.run go n ks env h ob = some (ks', env', h', ob') → ob' = true →
  (ob = true) ∧ (AT P N chk f ks' env' h' Q → AT P N chk f ks env h Q)
 | 0, ks, ks', env, env', h, h', e, ho => by
  simp only [SL.run, Option.some.injEq, Prod.mk.injEq] at e
  obtain ⟨e1, e2, e3, e4⟩ := e
  subst e1 e2 e3 e4
  exact ⟨ho, id⟩
 | n + 1, ks, ks', env, env', h, h', e, ho => by
  simp only [SL.run] at e
  split at e
  ·rename_i k1 env1 h1 o1 hs
   obtain ⟨g1, g2⟩ := AT.run n e ho
   simp only [Bool.and_eq_true] at g1
   exact ⟨g1.1, fun k => AT.step hs g1.2 (g2 k)⟩
  ·simp only [Option.some.injEq, Prod.mk.injEq] at e
   obtain ⟨e1, e2, e3, e4⟩ := e
   subst e1 e2 e3 e4
   exact ⟨ho, id⟩
def Aft (P : Program) (N : Nat) (chk : Array Oper → List (List AI) → Bool) (f : FD) (Q : Out → H → Prop) : Option (List AItem × Env × H × Bool) → Prop
 | some (ks, env, h, ob) => ob = true ∧ AT P N chk f ks env h Q
 | none => False
theorem AT.go {Q : Out → H → Prop} (go : Bool) (n : Nat) {ks : List AItem} {env : Env} {h : H} (k : Aft P N chk f Q (SL.run go n ks env h true)) : AT P N chk f ks env h Q := by
 cases hr : SL.run go n ks env h true with
 | none => rw [hr] at k; exact k.elim
 | some x =>
  obtain ⟨ks', env', h', ob⟩ := x
  rw [hr] at k
  exact (AT.run n hr k.1).2 k.2
theorem AT.weak {Q : Out → H → Prop} {ks : List AItem} {env env' : Env} {h : H} (hw : ∀ t, get env' t = .dead ∨ get env' t = get env t) (k : AT P N chk f ks env' h Q) : AT P N chk f ks env h Q := by
 intro κ w a k' cs h1 h2 h3 h4
 refine k κ w a k' cs h1 h2 ⟨h3.1, fun t => ?_⟩ h4
 rcases hw t with e | e
 ·rw [e]; simp [VR]
 ·rw [e]; exact h3.2 t
theorem load_of_at {t : TypeId} {v y : Value} {w : World} (h : (Instr.loadAt t v).run P w = .ok y w) : ∃ a, v = .pointer (some a) ∧ (loadVar t a).run P w = .ok y w := by
 cases v with
 | pointer a =>
  cases a with
  | none => simp [Instr.loadAt, Instr.sureAddr] at h
  | some a => exact ⟨a, rfl, by simpa [Instr.loadAt, Instr.sureAddr] using h⟩
 | _ => simp [Instr.loadAt, Instr.sureAddr] at h
theorem aress_sound {κ : K} {h : H} {w : World} (r : Rel κ h w) {env : Env} {tmps : Array Value} (he : ER N κ env tmps) : ∀ {l : List ResultVar} {rs : List ARes} {vs : List V},
  cRess P l = some rs → aress h env rs = some vs →
  ∃ ys, (l.mapM (fun x : ResultVar => (match x with | .tmp t => pure (tmps.getD t undef) | .cell a t => do loadVar t (← asAddr (tmps.getD a undef)) : Sem Value))).run P w = .ok ys w ∧ VL κ vs ys
 | [], rs, vs, h1, h2 => by
  simp only [cRess, Option.some.injEq] at h1
  subst h1
  simp only [aress, Option.some.injEq] at h2
  subst h2
  exact ⟨[], by simp, by simp [VL]⟩
 | x :: l, rs, vs, h1, h2 => by
  simp only [cRess] at h1
  split at h1
  case h_2 => simp at h1
  rename_i y l' e1 e2
  simp only [Option.some.injEq] at h1
  subst h1
  simp only [aress] at h2
  split at h2
  case h_2 => simp at h2
  rename_i v vs' e3 e4
  simp only [Option.some.injEq] at h2
  subst h2
  obtain ⟨ys, g1, g2⟩ := aress_sound r he e2 e4
  cases x with
  | tmp t =>
   simp only [cRes, Option.some.injEq] at e1
   subst e1
   simp only [ares, Option.some.injEq] at e3
   subst e3
   refine ⟨tmps.getD t undef :: ys, ?_, by simp only [VL]; exact ⟨_, _, rfl, he.2 t, g2⟩⟩
   simp only [List.mapM_cons, Sem.run_bind, Sem.run_pure, Result.andThen_ok, g1]
  | cell a t =>
   simp only [cRes] at e1
   split at e1
   case h_2 => simp at e1
   rename_i ag n q1 q2
   simp only [Option.some.injEq] at e1
   subst e1
   simp only [ares] at e3
   obtain ⟨z, k1, k2⟩ := xload_sound (P := P) r q1 q2 (he.2 a) e3
   obtain ⟨ad, k3, k4⟩ := load_of_at k1
   refine ⟨z :: ys, ?_, by simp only [VL]; exact ⟨_, _, rfl, k2, g2⟩⟩
   have hA : (asAddr (tmps.getD a undef) : Sem Addr) = pure ad := by rw [k3]; rfl
   simp only [List.mapM_cons, Sem.run_bind, hA, Sem.run_pure, Result.andThen_ok, k4, g1]
theorem outV_sound {κ : K} {vs : List V} {ys : List Value} (h : VL κ vs ys) : VR κ (outV vs) (if h : ys.toArray.size = 1 then ys.toArray[0] else .tuple ys.toArray) := by
 have hl := VL.length h
 have tup : VR κ (mkTup vs) (.tuple ys.toArray) := by
  unfold mkTup
  split
  ·rename_i ds hd
   simp only [VR, DR]
   exact ⟨ys, rfl, DL.ofV hd h⟩
  ·simp only [VR]
   exact ⟨ys, rfl, h⟩
 unfold outV
 split
 ·rename_i v
  simp only [VL] at h
  obtain ⟨y, t, e, h1, h2⟩ := h
  subst e h2
  simpa using h1
 ·rename_i hne
  have : ¬ (ys.toArray.size = 1) := by
   simp only [List.size_toArray]
   intro e
   rw [hl] at e
   cases vs with
   | nil => simp at e
   | cons v r =>
    cases r with
    | nil => exact hne v rfl
    | cons _ _ => simp at e
  rw [dif_neg this]
  exact tup
theorem results_sound {κ : K} {h : H} {w : World} (r : Rel κ h w) {env : Env} {tmps : Array Value} (he : ER N κ env tmps) {fn : Func} {rs : List ARes} {vs : List V}
  (h1 : cRess P fn.results.toList = some rs) (h2 : aress h env rs = some vs) : ∃ v, (results fn tmps).run P w = .ok v w ∧ VR κ (outV vs) v := by
 obtain ⟨ys, g1, g2⟩ := aress_sound r he h1 h2
 refine ⟨_, ?_, outV_sound g2⟩
 unfold results
 simp only [Sem.run_bind]
 rw [Array.mapM_eq_mapM_toList]
 simp only [Sem.run_map, Sem.run_pure]
 generalize hM : Sem.run P (List.mapM _ fn.results.toList) w = M
 have : M = .ok ys w := by rw [← hM]; exact g1
 rw [this]
 simp only [Result.andThen_ok]
theorem AT.ret {Q : Out → H → Prop} {fn : Func} (hf : P.funcs[f.fn]? = some fn) {rs : List ARes} (h1 : cRess P fn.results.toList = some rs) {ks : List AItem} {env : Env} {h : H} {vs : List V} (z : Bool)
  (hks : ks = [] ∨ ∃ k, ks = .code .ret :: k) (h2 : aress h env rs = some vs) (hQ : match z with | true => Q (.ret (fzV h (outV vs))) (fzH h) | false => Q (.ret (outV vs)) h) (hpl : f.pln = true) : AT P N chk f ks env h Q := by
 intro κ w a k cs hcs hr he hd
 have hleave : ∀ (κ' : K) (fr : Frame) (v : Value), Le κ κ' → fr.mode = .returning → fr.defers = a.defers → fr.kind = f.kind → fr.fn = f.fn → (results fn fr.tmps).run P w = .ok v w → f.leave P κ' fr w (.returned v) := fun κ' fr v ml m1 m2 m3 m4 m5 => by
  have hpl' := hpl
  simp only [FD.pln, Bool.and_eq_true, Option.isNone_iff_eq_none] at hpl'
  simp only [FD.leave, hpl'.2]
  exact ⟨m1, by rw [m2, DV.base_eq hpl'.1.2]; exact hd.mono ml, m3, fn, by rw [m4]; exact hf, by rw [hpl'.1.1]; exact m5⟩
 have hrn : (baseOf f).roundOf = none := by
  simp only [FD.pln, Bool.and_eq_true, Option.isNone_iff_eq_none] at hpl
  exact hpl.2
 obtain ⟨v, g1, g2⟩ := results_sound hr he h1 h2
 have fin : ∀ fr : Frame, fr.fn = f.fn → fr.mode = .returning → fr.defers = a.defers → fr.kind = f.kind → fr.tmps = a.tmps → Steps P (lone ((baseOf f).atR a k) cs w) (lone fr cs w) → Ends P f (lone ((baseOf f).atR a k) cs w) cs κ Q := by
  intro fr f1 f2 f3 f4 f5 f6
  have hl : ∀ κ', Le κ κ' → f.leave P κ' fr w (.returned v) := fun κ' ml => hleave κ' fr v ml f2 f3 f4 f1 (by rw [f5]; exact g1)
  cases z with
  | false => exact ⟨.returned v, w, fr, κ, h, _, hQ, Le.refl κ, hr, ⟨v, rfl, g2⟩, f6, f1, hl _ (Le.refl κ)⟩
  | true =>
   refine ⟨.returned v, w, fr, fzK κ h w, fzH h, _, hQ, fz_le, fz_rel hr, ⟨v, rfl, ?_⟩, f6, f1, hl _ fz_le⟩
   unfold fzV
   split
   ·rename_i d hdv
    simp only [VR]
    exact toDv_sound hr _ _ _ _ hdv g2
   ·exact g2.mono fz_le
 rcases hks with e | ⟨k0, e⟩
 ·subst e
  cases k with
  | nil => exact fin { (baseOf f).atR a [] with mode := .returning } rfl rfl rfl rfl rfl (.one (stepR_end hrn))
  | cons x k => obtain ⟨y, t, e, _⟩ := hcs; simp at e
 ·subst e
  cases k with
  | nil => simp [CS] at hcs
  | cons x k =>
   obtain ⟨y, t, e, h3, h4⟩ := hcs
   simp only [List.cons.injEq] at e
   obtain ⟨e1, e2⟩ := e
   subst e1 e2
   cases x <;> simp only [CI] at h3
   rename_i c
   obtain ⟨ann, hc⟩ := h3
   have : c = .ret := by
    cases c <;> simp only [comp] at hc <;> first | rfl | (simp at hc; done) | ((repeat' split at hc) <;> simp at hc)
   subst this
   exact fin { (baseOf f).atR a (.code .ret :: k) with mode := .returning } rfl rfl rfl rfl rfl (.one (stepR_ret hrn))
def gOk (env : Env) : Option (Nat × Bool) → Prop
 | none => True
 | some (t, want) => get env t = .d (.bool want)
theorem gOk_wanted {κ : K} {env : Env} {a : Act} {ops : Array Oper} {o : Oper} {ai : AI} (he : ER N κ env a.tmps)
  (o7 : (o.guard = none ∧ ai.guard = none) ∨ ∃ j want t, o.guard = some (j, want) ∧ ai.guard = some (t, want) ∧ (ops[j]?).bind (·.dst) = some t ∧ t < N) (hg : gOk env ai.guard) :
  Region.wanted o (yielded ops a.tmps) = true := by
 rcases o7 with ⟨h1, _⟩ | ⟨j, want, t, h1, h2, h3, h4⟩
 ·simp [Region.wanted, h1]
 ·rw [h2] at hg
  rw [wanted_of he h1 h3 h4 hg]; simp
theorem AT.panic {Q : Out → H → Prop} {fn : Func} (hf : P.funcs[f.fn]? = some fn) {ai : AI} {r : List AI} {ks : List AItem} {env : Env} {h : H} {x : Opd} {v : V}
  (hop : ai.op = .panic x) (hg : gOk env ai.guard) (hv : ev env x = v) (hi : (∃ t y, v = .iface t y) ∨ ∃ t y, v = .d (.iface t y)) (hQ : Q (.pan v) h) (hkp : subE env f.keep) : AT P N chk f (.reg (ai :: r) :: ks) env h Q := by
 intro κ w a k cs hcs hr he hd
 cases k with
 | nil => simp [CS] at hcs
 | cons x0 k =>
  obtain ⟨y, t, e, h3, h4⟩ := hcs
  simp only [List.cons.injEq] at e
  obtain ⟨e1, e2⟩ := e
  subst e1 e2
  cases x0 <;> simp only [CI] at h3
  rename_i ops l
  cases l with
  | nil => simp [RG] at h3
  | cons i rest =>
   obtain ⟨kill, ai', tl, c1, c2, c3⟩ := h3
   simp only [List.cons.injEq] at c2
   obtain ⟨c2, c4⟩ := c2
   subst c2 c4
   obtain ⟨o, o1, o2, o3, o4, o5, o6, o7⟩ := cAI_inv c1
   have hw := gOk_wanted he o7 hg
   rw [hop] at o5
   have : ∃ x1, o.op = .panic x1 ∧ opd x1 = some x := by
    cases ho : o.op <;> rw [ho] at o5 <;> simp only [copA] at o5
    case panic x1 =>
     split at o5
     ·rename_i x2 e
      simp only [Option.some.injEq, AOp.panic.injEq] at o5
      subst o5
      exact ⟨x1, rfl, e⟩
     ·simp at o5
    case call c =>
     split at o5
     ·split at o5 <;> simp at o5
     ·split at o5 <;> simp at o5
    all_goals first | (split at o5 <;> simp at o5; done) | ((repeat' split at o5) <;> simp at o5)
   obtain ⟨x1, p1, p2⟩ := this
   have hval := ev_sound he _ _ p2
   rw [hv] at hval
   have hif : ∃ t y, a.eval x1 = .iface t y := by
    rcases hi with ⟨t, y, e⟩ | ⟨t, y, e⟩
    ·rw [e] at hval; simp only [VR] at hval; obtain ⟨z, e2, _⟩ := hval; exact ⟨_, _, e2⟩
    ·rw [e] at hval; simp only [VR, DR] at hval; obtain ⟨z, e2, _⟩ := hval; exact ⟨_, _, e2⟩
   obtain ⟨ti, yi, hif⟩ := hif
   have hrun : (execOp a.eval o).run P w = .halt (.panic (a.eval x1)) w := by
    simp [execOp, p1, Instr.panic, hif]
   have hst : Go.step P (lone ((baseOf f).atR a (.inRegion ops (i :: rest) :: k)) cs w) = .next (lone (((baseOf f).atR a (.inRegion ops (i :: rest) :: k)).raise [{ v := a.eval x1, recovered := false }]) cs w) := by
    have hg' := stepG_opn (P := P) (b := baseOf f) (k := k) (cs := cs) (w := w) (rest := rest) o1 hw (by intro c; rw [p1]; simp)
    exact step_lone_go (by rw [hg']; simp [stepG.apply, hrun])
   refine ⟨.panicked [{ v := a.eval x1, recovered := false }], w, ((baseOf f).atR a (.inRegion ops (i :: rest) :: k)).raise [{ v := a.eval x1, recovered := false }], κ, h, .pan v, hQ, Le.refl κ, hr, ⟨_, rfl, hval⟩, .one hst, rfl, ?_⟩
   exact ⟨rfl, fun _ => hd, ⟨fn, hf⟩, rfl, KeepR.of he hkp⟩
def calls (g : V) (args : List V) : Option (FuncId × List V) :=
 match g with
 | .d (.fn (.func f) a c) => some (f, a.map .d ++ args ++ c.map .d)
 | .fn (.func f) a c => some (f, a ++ args ++ c)
 | _ => none
theorem calls_sound {κ : K} {w : World} {g : V} {args : List V} {fid : FuncId} {all : List V} {gv : Value} {argv : Array Value} (h : calls g args = some (fid, all)) (hg : VR κ g gv) (ha : VL κ args argv.toList)
  (hc : callable P fid = true) : ∃ d av, Deferred.ofValue gv argv = pure d ∧ (invoke d.target d.args).run P w = .ok (.enter fid ⟨av⟩) w ∧ VL κ all av := by
 have inv : ∀ a' c' : List Value, (invoke (.fn (.func fid) ⟨c'⟩) (⟨a'⟩ ++ argv)).run P w = .ok (.enter fid ⟨a' ++ argv.toList ++ c'⟩) w := fun a' c' => by
  unfold callable at hc
  split at hc
  case h_2 => simp at hc
  rename_i fn hf
  simp only [Bool.and_eq_true, Bool.not_eq_true'] at hc
  obtain ⟨h1, h2⟩ := hc
  have h3 : ¬ fn.body = none := by cases hb : fn.body <;> simp_all
  have h1 : ¬ fn.name = "runtime.NumGoroutine" := by simpa using h1
  simp [invoke, callFunc, hf, h1, h3]
 unfold calls at h
 split at h
 ·rename_i f a c
  simp only [Option.some.injEq, Prod.mk.injEq] at h
  obtain ⟨e1, e2⟩ := h
  subst e1 e2
  simp only [VR, DR] at hg
  obtain ⟨a', c', e, h1, h2⟩ := hg
  subst e
  exact ⟨_, _, rfl, inv a' c', ((VL.ofD h1).append ha).append (VL.ofD h2)⟩
 ·rename_i f a c
  simp only [Option.some.injEq, Prod.mk.injEq] at h
  obtain ⟨e1, e2⟩ := h
  subst e1 e2
  simp only [VR] at hg
  obtain ⟨a', c', e, h1, h2⟩ := hg
  subst e
  exact ⟨_, _, rfl, inv a' c', (h1.append ha).append h2⟩
 ·simp at h
theorem AT.call {Q : Out → H → Prop} {fn : Func} (hf : P.funcs[f.fn]? = some fn) {ai : AI} {r : List AI} {ks : List AItem} {env : Env} {h : H} {g : Opd} {args : List Opd} {fid : FuncId} {all : List V}
  (hop : ai.op = .call g args) (hg : gOk env ai.guard) (hc : calls (ev env g) (args.map (ev env)) = some (fid, all))
  (rb rv : List Nat) (kb kv : Nat) {hC : H} {argsC : List V} {QC : Out → H → Prop} (hs : Sub h hC rb rv) (hsc : insc rb.length rv.length argsC = true) (hargs : rns rb rv argsC = all)
  (hAF : AF P fid argsC hC QC)
  (hk : ∀ out hC', QC out hC' → (rb.length + kb ≤ hC'.bx.length ∧ rv.length + kv ≤ hC'.vc.length) ∧ match out with
   | .ret v => AT P N chk f (.reg r :: ks) (put (dels env ai.kill) ai.dst (rn (upB rb h.bx.length kb) (upB rv h.vc.length kv) v)) (upH h hC' rb rv kb kv) Q
   | .pan v => Q (.pan (rn (upB rb h.bx.length kb) (upB rv h.vc.length kv) v)) (upH h hC' rb rv kb kv)) (hkp : subE env f.keep) : AT P N chk f (.reg (ai :: r) :: ks) env h Q := by
 intro κ w a k cs hcs hr he hd
 cases k with
 | nil => simp [CS] at hcs
 | cons x0 k =>
  obtain ⟨y, t, e, h3, h4⟩ := hcs
  simp only [List.cons.injEq] at e
  obtain ⟨e1, e2⟩ := e
  subst e1 e2
  cases x0 <;> simp only [CI] at h3
  rename_i ops l
  cases l with
  | nil => simp [RG] at h3
  | cons i rest =>
   obtain ⟨kill, ai', tl, c1, c2, c3⟩ := h3
   simp only [List.cons.injEq] at c2
   obtain ⟨c2, c4⟩ := c2
   subst c2 c4
   obtain ⟨o, o1, o2, o3, o4, o5, o6, o7⟩ := cAI_inv c1
   have hw := gOk_wanted he o7 hg
   rw [hop] at o5
   have : ∃ ce : Call, ∃ g0, o.op = .call ce ∧ ce.callee = .value g0 ∧ opd g0 = some g ∧ opds ce.args.toList = some args := by
    cases ho : o.op <;> rw [ho] at o5 <;> simp only [copA] at o5
    case call ce =>
     split at o5
     ·rename_i g0 hce
      split at o5
      ·rename_i g1 l1 z1 z2
       simp only [Option.some.injEq, AOp.call.injEq] at o5
       obtain ⟨z3, z4⟩ := o5
       subst z3 z4
       exact ⟨ce, g0, rfl, hce, z1, z2⟩
      ·simp at o5
     ·split at o5 <;> simp at o5
    all_goals first | (split at o5 <;> simp at o5; done) | ((repeat' split at o5) <;> simp at o5)
   obtain ⟨ce, g0, p1, p2, p3, p4⟩ := this
   have hρ := ev_sound he
   have hgv := hρ _ _ p3
   have hav := opds_sound (f := ev env) (ρ := a.eval) hρ p4
   have hdn := down_dn hr hs
   have hrel := down_rel hr hs
   obtain ⟨hcall, hAF⟩ := hAF
   obtain ⟨d, av, q1, q2, q3⟩ := calls_sound (P := P) (w := w) (argv := ce.args.map a.eval) hc hgv (by simpa using hav) hcall
   have hrun : (execOp a.eval o).run P w = .ok (.enter fid ⟨av⟩) w := by
    simp [execOp, p1, resolve, p2, q1, q2]
   have hvl : VL (downK κ w rb rv) argsC av := VL.down hdn argsC av hsc (by rw [hargs]; exact q3)
   obtain ⟨e, w', fr, ⟨κ1, hC', out, r1, r2, r3, r4⟩, r5, r6, r7⟩ := hAF _ w av hrel hvl ((baseOf f).atR a (.inRegion ops (i :: rest) :: k) :: cs)
   obtain ⟨⟨lkb, lkv⟩, hk⟩ := hk out hC' r1
   obtain ⟨κ', u1, u2, u3⟩ := up_all hr hs r3 r2 lkb lkv
   have hgo := stepG_opn (P := P) (b := baseOf f) (k := k) (cs := cs) (w := w) (rest := rest) o1 hw (by intro c; rw [p1]; simp)
   have henter : Go.step P (lone ((baseOf f).atR a (.inRegion ops (i :: rest) :: k)) cs w) = .next (lone (Frame.enter P fid ⟨av⟩ .normal) ((baseOf f).atR a (.inRegion ops (i :: rest) :: k) :: cs) w) :=
    step_lone_go (by rw [hgo]; simp [stepG.apply, hrun, Frame.atR])
   cases out with
   | ret v =>
    obtain ⟨x, s1, s2⟩ := r4
    subst s1
    have hfin : ((baseOf f).atR a (.inRegion ops (i :: rest) :: k)).finish x = (baseOf f).atR (a.put o.dst x) (.inRegion ops rest :: k) := by rw [Frame.finish_atR, o1]; rfl
    have hleave := step_leave_returned (c := (baseOf f).atR a (.inRegion ops (i :: rest) :: k)) (cs := cs) r7
    rw [hfin] at hleave
    refine Ends.of_steps (.head henter (Steps.trans r5 (.one hleave))) (Ends.le u2 (hk κ' w' _ _ cs ⟨_, _, rfl, c3, h4⟩ u1 ?_ ?_))
    ·rw [o3]
     exact ((he.mono u2).dels ai.kill).putO o6 (VR.up u3 _ _ s2)
    ·exact hd.put u2 _ _
   | pan v =>
    obtain ⟨x, s1, s2⟩ := r4
    subst s1
    have hleave := step_leave_panicked (c := (baseOf f).atR a (.inRegion ops (i :: rest) :: k)) (cs := cs) r7
    exact ⟨_, w', ((baseOf f).atR a (.inRegion ops (i :: rest) :: k)).raise [{ v := x, recovered := false }], κ', _, .pan _, hk, u2, u1, ⟨x, rfl, VR.up u3 _ _ s2⟩, .head henter (Steps.trans r5 (.one hleave)), rfl, rfl, fun _ => hd.mono u2, ⟨fn, hf⟩, rfl, (KeepR.of he hkp).mono u2⟩
def env0 : Nat → List V → Env
 | _, [] => []
 | n, v :: r => (n, v) :: env0 (n + 1) r
theorem get_env0 : ∀ (l : List V) (n t : Nat), get (env0 n l) t = if n ≤ t then l.getD (t - n) .dead else .dead
 | [], n, t => by simp [env0, get]
 | v :: r, n, t => by
  simp only [env0, get]
  by_cases h : n = t
  ·subst h; rw [Nat.beq_refl]; simp
  ·rw [beq_ne h]
   simp only [get_env0 r]
   by_cases h2 : n ≤ t
   ·rw [if_pos (by omega), if_pos h2]
    have : t - n = (t - (n + 1)) + 1 := by omega
    rw [this]; simp [List.getD]
   ·rw [if_neg (by omega), if_neg h2]
theorem AF.of {f : FuncId} {Q : Out → H → Prop} {fn : Func} {c : Code} {ac : AC} {ann : Ann} {args : List V} {h : H} (hf : P.funcs[f]? = some fn) (hb : fn.body = some c) (hn : fn.ntmps = N) (hcal : callable P f = true)
  (hc : comp P N ann chk c = some ac) (k : AT P N chk (.of f) [.code ac] (env0 0 args) h Q) : AF P f args h Q := by
 refine ⟨hcal, fun κ w argv hr hv cs => ?_⟩
 let a : Act := { tmps := ⟨argv⟩ ++ Array.replicate (fn.ntmps - argv.length) undef, defers := [] }
 have henter : Frame.enter P f ⟨argv⟩ .normal = (baseOf (.of f)).atR a [.code c] := by
  simp [Frame.enter, Frame.atR, hf, hb, baseOf, a]
 have he : ER N κ (env0 0 args) a.tmps := by
  refine ⟨?_, fun t => ?_⟩
  ·simp only [a, Array.size_append, Array.size_replicate]
   show N ≤ argv.length + (fn.ntmps - argv.length)
   omega
  ·rw [get_env0, if_pos (Nat.zero_le _), Nat.sub_zero]
   cases hx : args[t]? with
   | none => simp [List.getD, hx, VR]
   | some x =>
    obtain ⟨y, h1, h2⟩ := VL.get hv t x hx
    have hlt := (List.getElem?_eq_some_iff.1 h1).1
    simp only [List.getD, hx, Option.getD_some]
    have : a.tmps.getD t undef = y := by
     simp only [a, Array.getD_eq_getD_getElem?]
     rw [Array.getElem?_append_left (by simpa using hlt)]
     simp [h1]
    rw [this]; exact h2
 obtain ⟨e, w', fr, κ', h', out, g1, g2, g3, g4, g5, g6, g7⟩ := k κ w a [.code c] cs ⟨_, _, rfl, ⟨ann, hc⟩, rfl⟩ hr he rfl
 rw [← henter] at g5
 refine ⟨e, w', fr, ⟨κ', h', out, g1, g2, g3, g4⟩, g5, g6, ?_⟩
 cases e with
 | returned v =>
  obtain ⟨m1, m2, m3, fn', m4, m5⟩ := g7
  exact ⟨m1, m2, m3, fn', m4, m5⟩
 | panicked ch =>
  obtain ⟨m1, m2, m3, _⟩ := g7
  exact ⟨m1, m2 rfl, m3⟩
 | outgrown => cases out <;> (obtain ⟨_, e1, _⟩ := g4; simp at e1)
theorem AF.mono {f : FuncId} {Q Q' : Out → H → Prop} {args : List V} {h : H} (k : AF P f args h Q) (hq : ∀ o h, Q o h → Q' o h) : AF P f args h Q' :=
 ⟨k.1, fun κ w argv hr hv => (k.2 κ w argv hr hv).mono fun _ _ ⟨κ', h', out, g1, g2⟩ => ⟨κ', h', out, hq _ _ g1, g2⟩⟩
end
end Go.SL
namespace Go.SL
def edges (ops : Array Oper) (i : Nat) : List Nat := match ops[i]? with
 | some o => (o.after.toList.filter (Region.binds .any ·)).map (·.on)
 | none => []
structure Topo (ops : Array Oper) (L : List Nat) : Prop where
 nodup : L.Nodup
 mem : ∀ i, i ∈ L ↔ i < ops.size
 ord : ∀ A i B, L = A ++ i :: B → ∀ e ∈ edges ops i, e ∈ A
def Ranked (m : Region.Mode) (ops : Array Oper) (rk : Nat → Nat) : Prop :=
 ∀ i o, ops[i]? = some o → ∀ e ∈ o.after.toList, Region.binds m e = true → e.on < ops.size ∧ rk e.on < rk i
theorem any_binds {m : Region.Mode} {e : Edge} (h : Region.binds .any e = true) : Region.binds m e = true := by
 unfold Region.binds at h ⊢
 cases hg : e.ground <;> simp_all
theorem full_of {n : Nat} : ∀ (L : List Nat), L.Nodup → (∀ i ∈ L, i < n) → L.length = n → ∀ i, i < n → i ∈ L := by
 intro L hn hb hl i hi
 have h1 : L ⊆ List.range n := fun x hx => List.mem_range.2 (hb x hx)
 have h2 : (List.range n).length ≤ L.length := by simp [hl]
 have key : ∀ (A B : List Nat), A.Nodup → A ⊆ B → B.length ≤ A.length → B.Nodup → B ⊆ A := by
  intro A
  induction A with
  | nil => intro B _ _ h _; simp at h; subst h; exact fun _ h => h
  | cons a A ih =>
   intro B hA hAB hlen hB x hx
   by_cases hxa : x = a
   ·subst hxa; simp
   ·have ha : a ∈ B := hAB (by simp)
    have hsub : A ⊆ B.erase a := fun y hy => (List.Nodup.mem_erase_iff hB).2 ⟨fun e => by subst e; exact (List.nodup_cons.1 hA).1 hy, hAB (by simp [hy])⟩
    have hle : (B.erase a).length ≤ A.length := by rw [List.length_erase_of_mem ha]; simp at hlen; omega
    exact List.mem_cons_of_mem _ (ih (B.erase a) (List.nodup_cons.1 hA).2 hsub hle (hB.erase a) ((List.Nodup.mem_erase_iff hB).2 ⟨hxa, hx⟩))
 exact key L (List.range n) hn h1 h2 List.nodup_range (List.mem_range.2 hi)
theorem least {n : Nat} (rk : Nat → Nat) (p : Nat → Prop) (h : ∃ i, i < n ∧ p i) : ∃ i, i < n ∧ p i ∧ ∀ j, j < n → p j → rk i ≤ rk j := by
 obtain ⟨i, hi, hp⟩ := h
 suffices H : ∀ r i, rk i = r → i < n → p i → ∃ i, i < n ∧ p i ∧ ∀ j, j < n → p j → rk i ≤ rk j from H _ i rfl hi hp
 intro r
 induction r using Nat.strongRecOn with
 | _ r ih =>
  intro i hr hi hp
  by_cases hex : ∃ j, j < n ∧ p j ∧ rk j < r
  ·obtain ⟨j, h1, h2, h3⟩ := hex
   exact ih (rk j) h3 j rfl h1 h2
  ·refine ⟨i, hi, hp, fun j h1 h2 => ?_⟩
   by_cases h3 : rk j < r
   ·exact absurd ⟨j, h1, h2, h3⟩ hex
   ·omega
theorem lin_go {m : Region.Mode} {ops : Array Oper} {rk : Nat → Nat} (hr : Ranked m ops rk) : ∀ (fuel t : Nat) (listed : Array Bool) (acc : List Nat),
  listed.size = ops.size → (∀ i, i < ops.size → (listed.getD i true = true ↔ i ∈ acc)) → acc.Nodup → (∀ i ∈ acc, i < ops.size) → acc.length + fuel = ops.size →
  (∀ A i B, acc.reverse = A ++ i :: B → ∀ e ∈ edges ops i, e ∈ A) → Topo ops (Region.linearise.go m ops fuel t listed acc)
 | 0, t, listed, acc, h1, h2, h3, h4, h5, h6 => by
  simp only [Region.linearise.go]
  refine ⟨by unfold List.Nodup; rw [List.pairwise_reverse]; exact h3.imp Ne.symm, fun i => ?_, h6⟩
  rw [List.mem_reverse]
  exact ⟨h4 i, full_of acc h3 h4 (by simpa using h5) i⟩
 | fuel + 1, t, listed, acc, h1, h2, h3, h4, h5, h6 => by
  simp only [Region.linearise.go]
  generalize hrs : (List.range ops.size).filter (fun i => !listed.getD i true && ((ops[i]?).map (·.after.all fun e => !Region.binds m e || listed.getD e.on false)).getD false) = rs
  have hmem : ∀ i, i ∈ rs ↔ i < ops.size ∧ i ∉ acc ∧ ∃ o, ops[i]? = some o ∧ ∀ e ∈ o.after.toList, Region.binds m e = true → listed.getD e.on false = true := by
   intro i
   rw [← hrs, List.mem_filter, List.mem_range, Bool.and_eq_true]
   constructor
   ·rintro ⟨a, b, c⟩
    refine ⟨a, fun hi => by rw [(h2 i a).2 hi] at b; simp at b, ?_⟩
    rw [Array.getElem?_eq_getElem a] at c ⊢
    refine ⟨_, rfl, fun e he hb => ?_⟩
    simp only [Option.map_some, Option.getD_some, Array.all_eq_true', Bool.or_eq_true, Bool.not_eq_true'] at c
    rcases c e (by simpa using he) with c | c
    ·rw [hb] at c; simp at c
    ·exact c
   ·rintro ⟨a, b, o, ho, c⟩
    refine ⟨a, ?_, ?_⟩
    ·cases hl : listed.getD i true with
     | false => rfl
     | true => exact absurd ((h2 i a).1 hl) b
    ·rw [ho]
     simp only [Option.map_some, Option.getD_some, Array.all_eq_true', Bool.or_eq_true, Bool.not_eq_true']
     intro e he
     cases hb : Region.binds m e with
     | false => exact .inl rfl
     | true => exact .inr (c e (by simpa using he) hb)
  have hne : rs ≠ [] := by
   have : ∃ i, i < ops.size ∧ i ∉ acc := by
    apply Classical.byContradiction
    intro hno
    have hall : ∀ i, i < ops.size → i ∈ acc := fun i hi => Classical.byContradiction fun h => hno ⟨i, hi, h⟩
    have hsub : List.range ops.size ⊆ acc := fun i hi => hall i (List.mem_range.1 hi)
    have := List.Nodup.length_le_of_subset List.nodup_range hsub
    simp at this
    omega
   obtain ⟨i, hi, hp, hmin⟩ := least rk (· ∉ acc) this
   have : i ∈ rs := (hmem i).2 ⟨hi, hp, ops[i], by simp [hi], fun e he hb => by
    obtain ⟨q1, q2⟩ := hr i ops[i] (by simp [hi]) e he hb
    have : e.on ∈ acc := Classical.byContradiction fun hn => by
     have := hmin e.on q1 hn
     omega
    have := (h2 e.on q1).2 this
    rw [Array.getD_eq_getD_getElem?, Array.getElem?_eq_getElem (by omega)] at this ⊢
    simpa using this⟩
   intro e; rw [e] at this; simp at this
  have hlt : t % rs.length < rs.length := Nat.mod_lt _ (List.length_pos_iff.2 hne)
  rw [List.getElem?_eq_getElem hlt]
  simp only []
  obtain ⟨i1, i2, o, i3, i4⟩ := (hmem _).1 (List.getElem_mem hlt)
  generalize rs[t % rs.length] = i at i1 i2 i3 i4 ⊢
  refine lin_go hr fuel _ _ _ (by simpa using h1) (fun j hj => ?_) (List.nodup_cons.2 ⟨i2, h3⟩) (fun j hj => ?_) (by simp; omega) ?_
  ·rw [List.mem_cons, ← h2 j hj, Array.getD_eq_getD_getElem?, Array.getD_eq_getD_getElem?, Array.getElem?_setIfInBounds]
   by_cases hji : i = j
   ·subst hji; simp [h1, i1]
   ·simp [hji, Ne.symm hji]
  ·rcases List.mem_cons.1 hj with e | hj
   ·subst e; exact i1
   ·exact h4 j hj
  ·intro A j B e x hx
   rw [List.reverse_cons] at e
   rcases List.append_eq_append_iff.1 e with ⟨C, e1, e2⟩ | ⟨C, e1, e2⟩
   ·cases C with
    | nil =>
     simp only [List.append_nil, List.nil_append] at e1 e2
     simp only [List.cons.injEq] at e2
     obtain ⟨e2, e3⟩ := e2
     subst e2
     rw [e1, List.mem_reverse]
     unfold edges at hx
     rw [i3] at hx
     simp only [List.mem_map, List.mem_filter] at hx
     obtain ⟨ed, ⟨x1, x2⟩, x3⟩ := hx
     have hl := i4 ed x1 (any_binds x2)
     rw [x3] at hl
     by_cases hxs : x < ops.size
     ·refine (h2 x hxs).1 ?_
      rw [Array.getD_eq_getD_getElem?, Array.getElem?_eq_getElem (by omega)] at hl ⊢
      simpa using hl
     ·rw [Array.getD_eq_getD_getElem?, Array.getElem?_eq_none (by omega)] at hl
      simp at hl
    | cons c C =>
     have := congrArg List.length e2
     simp at this
   ·cases C with
    | nil =>
     simp only [List.append_nil, List.nil_append, List.cons.injEq] at e1 e2
     obtain ⟨e2, e3⟩ := e2
     subst e2
     rw [← e1, List.mem_reverse]
     unfold edges at hx
     rw [i3] at hx
     simp only [List.mem_map, List.mem_filter] at hx
     obtain ⟨ed, ⟨x1, x2⟩, x3⟩ := hx
     have hl := i4 ed x1 (any_binds x2)
     rw [x3] at hl
     by_cases hxs : x < ops.size
     ·refine (h2 x hxs).1 ?_
      rw [Array.getD_eq_getD_getElem?, Array.getElem?_eq_getElem (by omega)] at hl ⊢
      simpa using hl
     ·rw [Array.getD_eq_getD_getElem?, Array.getElem?_eq_none (by omega)] at hl
      simp at hl
    | cons c C =>
     simp only [List.cons_append, List.cons.injEq] at e2
     obtain ⟨e2, e3⟩ := e2
     subst e2
     exact h6 A j C e1 x hx
theorem lin_topo {m : Region.Mode} {ops : Array Oper} {rk : Nat → Nat} (hr : Ranked m ops rk) (t : Nat) : Topo ops (Region.linearise m ops t) := by
 unfold Region.linearise
 refine lin_go hr _ _ _ _ (by simp) (fun i hi => ?_) List.nodup_nil (by simp) (by simp) ?_
 ·simp [Array.getD_eq_getD_getElem?, hi]
 ·intro A i B e
  have := congrArg List.length e
  simp at this
def rankB (m : Region.Mode) (ops : Array Oper) (rk : Nat → Nat) : Bool :=
 (List.range ops.size).all fun i => match ops[i]? with
  | some o => o.after.toList.all fun e => !Region.binds m e || (decide (e.on < ops.size) && decide (rk e.on < rk i))
  | none => true
theorem rankB_sound {m : Region.Mode} {ops : Array Oper} {rk : Nat → Nat} (h : rankB m ops rk = true) : Ranked m ops rk := by
 intro i o ho e he hb
 unfold rankB at h
 rw [List.all_eq_true] at h
 have hi : i < ops.size := by
  rcases Nat.lt_or_ge i ops.size with h | h
  ·exact h
  ·rw [Array.getElem?_eq_none h] at ho; simp at ho
 have := h i (List.mem_range.2 hi)
 rw [ho] at this
 simp only [List.all_eq_true] at this
 have := this e he
 rw [hb] at this
 simpa using this
def edgesOk (ops : Array Oper) : Bool :=
 rankB .text ops (fun i => i) && (let l := Region.linearise .gc ops 0; rankB .gc ops (fun i => l.idxOf i))
theorem sched_topo {ops : Array Oper} (h : edgesOk ops = true) (mixed : Bool) (t : Nat) : Topo ops (Region.schedule mixed ops t) := by
 unfold edgesOk at h
 simp only [Bool.and_eq_true] at h
 obtain ⟨h1, h2⟩ := h
 have r1 := rankB_sound h1
 have r2 := rankB_sound h2
 unfold Region.schedule
 split
 ·exact lin_topo (rk := fun i => i) (fun i o ho e he hb => r1 i o ho e he (any_binds hb)) t
 ·split
  ·exact lin_topo r1 _
  ·exact lin_topo r2 _
end Go.SL
namespace Go.SL
def slO : Opd → List Nat
 | .tmp t => [t]
 | .cst _ => []
def slOO : Option Opd → List Nat
 | some x => slO x
 | none => []
def slL : List Opd → List Nat
 | [] => []
 | x :: r => slO x ++ slL r
def slP : List (Nat × Nat × Opd) → List Nat
 | [] => []
 | (_, _, x) :: r => slO x ++ slP r
def slA : AO → List Nat
 | .move x => slO x
 | .asg x => slO x
 | .pick c a b => slO c ++ (slO a ++ slO b)
 | .alloc _ _ => []
 | .box _ x => slO x
 | .build _ ps => slP ps
 | .bslice _ _ _ _ _ ps => slP ps
 | .load _ _ x => slO x
 | .store _ x y => slO x ++ slO y
 | .nilc x => slO x
 | .faddr _ x => slO x
 | .iaddr _ x i => slO x ++ slO i
 | .paddr _ _ x i => slO x ++ slO i
 | .index x i => slO x ++ slO i
 | .field _ _ _ x => slO x
 | .extract x _ => slO x
 | .ibin _ x y => slO x ++ slO y
 | .icmp _ x y => slO x ++ slO y
 | .sbin _ x y => slO x ++ slO y
 | .bbin _ x y => slO x ++ slO y
 | .shift _ x y => slO x ++ slO y
 | .eqnil _ _ x => slO x
 | .not x => slO x
 | .neg x => slO x
 | .conv _ x => slO x
 | .same x => slO x
 | .mkfn _ a c => slL a ++ slL c
 | .mkif _ x => slO x
 | .tass _ _ x => slO x
 | .sslice x lo hi => slO x ++ (slOO lo ++ slOO hi)
 | .lslice _ x lo hi => slO x ++ (slOO lo ++ slOO hi)
 | .aslice _ x => slO x
 | .len _ x => slO x
 | .append _ _ _ _ x y => slO x ++ slO y
 | .range x => slO x
 | .next x => slO x
 | .mx _ x y => slO x ++ slO y
 | .peq _ x y => slO x ++ slO y
 | .b2s x => slO x
 | .s2b x => slO x
 | .mks _ _ _ n => slO n
 | .p2u x => slO x
 | .u2p _ x => slO x
 | .usd x => slO x
 | .aeq _ x y => slO x ++ slO y
 | .ustr _ x n => slO x ++ slO n
def slI (i : AI) : List Nat :=
 (match i.op with
  | .o a => slA a
  | .call g l => slO g ++ slL l
  | .panic x => slO x
  | .defer g l => slO g ++ slL l) ++
 (match i.guard with
  | some (t, _) => [t]
  | none => [])
theorem congO {f g : Opd → V} (hc : ∀ d, f (.cst d) = g (.cst d)) {x : Opd} (h : ∀ t ∈ slO x, f (.tmp t) = g (.tmp t)) : f x = g x := by
 cases x with
 | tmp t => exact h t (by simp [slO])
 | cst d => exact hc d
theorem congL {f g : Opd → V} (hc : ∀ d, f (.cst d) = g (.cst d)) : ∀ {l : List Opd}, (∀ t ∈ slL l, f (.tmp t) = g (.tmp t)) → l.map f = l.map g
 | [], _ => rfl
 | x :: r, h => by
  simp only [slL, List.mem_append] at h
  simp only [List.map_cons]
  rw [congO hc fun t ht => h t (.inl ht), congL hc fun t ht => h t (.inr ht)]
theorem congB {f g : Opd → V} (hc : ∀ d, f (.cst d) = g (.cst d)) (n : Int) {x : Option Opd} (h : ∀ t ∈ slOO x, f (.tmp t) = g (.tmp t)) : sbnd f n x = sbnd g n x := by
 cases x with
 | none => rfl
 | some x => simp only [sbnd]; rw [congO hc h]
theorem congP {f g : Opd → V} (hc : ∀ d, f (.cst d) = g (.cst d)) : ∀ {l : List (Nat × Nat × Opd)} {cs : List V}, (∀ t ∈ slP l, f (.tmp t) = g (.tmp t)) → fillR f cs l = fillR g cs l
 | [], _, _ => rfl
 | (o, s, x) :: r, cs, h => by
  simp only [slP, List.mem_append] at h
  simp only [fillR]
  rw [congO hc fun t ht => h t (.inl ht)]
  split
  ·rw [congP hc fun t ht => h t (.inr ht)]
  ·rfl
theorem xop_congr {f g : Opd → V} (hc : ∀ d, f (.cst d) = g (.cst d)) (h : H) (a : AO) (hs : ∀ t ∈ slA a, f (.tmp t) = g (.tmp t)) : xop h f a = xop h g a := by
 cases a <;> simp only [slA, List.mem_append] at hs <;> simp only [xop]
 case pick c a b => rw [congO hc fun t ht => hs t (.inl ht), congO hc fun t ht => hs t (.inr (.inl ht)), congO hc fun t ht => hs t (.inr (.inr ht))]
 case build z ps => rw [congP hc hs]
 case bslice => rw [congP hc hs]
 case mkfn => rw [congL hc fun t ht => hs t (.inl ht), congL hc fun t ht => hs t (.inr ht)]
 case sslice =>
  rw [congO hc fun t ht => hs t (.inl ht), congB hc 0 fun t ht => hs t (.inr (.inl ht))]
  split
  ·rw [congB hc _ fun t ht => hs t (.inr (.inr ht))]
  ·rfl
 case lslice =>
  rw [congO hc fun t ht => hs t (.inl ht)]
  simp only [congB hc _ fun t ht => hs t (.inr (.inl ht)), congB hc _ fun t ht => hs t (.inr (.inr ht))]
 all_goals first
  | rfl
  | rw [congO hc hs]
  | rw [congO hc fun t ht => hs t (.inl ht), congO hc fun t ht => hs t (.inr ht)]
def isRead (i : AI) : Bool := match i.op with
 | .o a => match a with
  | .asg _ | .alloc _ _ | .box _ _ | .bslice _ _ _ _ _ _ | .store _ _ _ | .append _ _ _ _ _ _ | .range _ | .next _ | .mks _ _ _ _ | .ustr _ _ _ | .aslice _ _ => false
  | _ => true
 | _ => false
theorem val_h {h h' : H} {v v' : V} {b : Bool} (e : val h v = some (v', h', b)) : h' = h := by
 simp only [val, Option.some.injEq, Prod.mk.injEq] at e
 exact e.2.1.symm
theorem quiet {i : AI} {a : AO} (hr : isRead i = true) (ha : i.op = .o a) {h h' : H} {f : Opd → V} {v : V} {b : Bool} (e : xop h f a = some (v, h', b)) : h' = h := by
 unfold isRead at hr
 rw [ha] at hr
 cases a <;> simp only [xop] at e hr
 all_goals first
  | (simp at hr; done)
  | exact val_h e
  | ((repeat' split at e) <;> first
    | (simp at e; done)
    | exact val_h e
    | (simp only [Option.some.injEq, Prod.mk.injEq] at e; exact e.2.1.symm))
def xai (h : H) (env : Env) (i : AI) : Option (V × H × Bool) := match i.guard with
 | none => match i.op with
  | .o a => xop h (ev env) a
  | _ => none
 | some (t, want) => match get env t with
  | .d (.bool b) => match b == want with
   | true => match i.op with
    | .o a => xop h (ev env) a
    | _ => none
   | false => some (skp, h, true)
  | .d (.tup []) => some (skp, h, true)
  | _ => none
theorem xai_congr {env env' : Env} (h : H) (i : AI) (hs : ∀ t ∈ slI i, get env t = get env' t) : xai h env i = xai h env' i := by
 unfold slI at hs
 simp only [List.mem_append] at hs
 have ho : ∀ a, i.op = .o a → xop h (ev env) a = xop h (ev env') a := fun a ha => by
  rw [ha] at hs
  exact xop_congr (f := ev env) (g := ev env') (fun _ => rfl) h a fun t ht => hs t (.inl ht)
 unfold xai
 cases hop : i.op with
 | o a =>
  simp only [ho a hop]
  cases hg : i.guard with
  | none => rfl
  | some p =>
   obtain ⟨t, w⟩ := p
   rw [hg] at hs
   simp only [hs t (.inr (by simp))]
 | _ =>
  cases hg : i.guard with
  | none => rfl
  | some p =>
   obtain ⟨t, w⟩ := p
   rw [hg] at hs
   simp only [hs t (.inr (by simp))]
theorem xai_quiet {i : AI} (hr : isRead i = true) {h h' : H} {env : Env} {v : V} {b : Bool} (e : xai h env i = some (v, h', b)) : h' = h := by
 unfold xai at e
 repeat' split at e
 all_goals first
  | (simp at e; done)
  | (rename_i ha; exact quiet hr ha e)
  | (simp only [Option.some.injEq, Prod.mk.injEq] at e; exact e.2.1.symm)
def mask (S : List Nat) (env : Env) : Env := env.filter fun p => S.contains p.1
theorem get_mask (S : List Nat) : ∀ (env : Env) (t : Nat), get (mask S env) t = if t ∈ S then get env t else .dead
 | [], t => by simp [mask, get]
 | (k, v) :: r, t => by
  have ih := get_mask S r t
  unfold mask at ih ⊢
  simp only [List.filter_cons]
  by_cases hk : k ∈ S
  ·rw [if_pos (by simpa using hk)]
   simp only [get]
   by_cases hkt : k = t
   ·subst hkt; simp [hk]
   ·rw [beq_ne hkt]; exact ih
  ·rw [if_neg (by simpa using hk)]
   rw [ih]
   by_cases hkt : k = t
   ·subst hkt; simp [hk]
   ·simp only [get]; rw [beq_ne hkt]
section
variable {P : Program} {N : Nat} {f : FD}
def EV (P : Program) (N : Nat) (f : FD) (ai : AI) (env : Env) (h : H) (Q : Out → H → Prop) (Φ : V → H → Prop) : Prop :=
 ∀ (κ : K) (w : World) (a : Act) (k : List Item) (cs : List Frame) (ops : Array Oper) (i : Nat) (rest : List Nat) (o : Oper) (kill : List Nat),
  ops[i]? = some o → cAI P N ops i kill = some ai → Rel κ h w → ER N κ env a.tmps → DefR κ f.dv a.defers →
  Ends P f (lone ((baseOf f).atR a (.inRegion ops (i :: rest) :: k)) cs w) cs κ Q ∨
  ∃ κ' w' v x h', Φ v h' ∧ Le κ κ' ∧ Rel κ' h' w' ∧ VR κ' v x ∧
   Steps P (lone ((baseOf f).atR a (.inRegion ops (i :: rest) :: k)) cs w) (lone ((baseOf f).atR (a.put o.dst x) (.inRegion ops rest :: k)) cs w')
theorem EV.o {ai : AI} {env : Env} {h h' : H} {Q : Out → H → Prop} {Φ : V → H → Prop} {v : V} {ob : Bool} (hx : xai h env ai = some (v, h', ob)) (hob : ob = true) (hΦ : Φ v h') : EV P N f ai env h Q Φ := by
 intro κ w a k cs ops i rest o kill ho hc hr he hd
 refine .inr ?_
 obtain ⟨o', o1, o2, o3, o4, o5, o6, o7⟩ := cAI_inv hc
 rw [ho] at o1
 simp only [Option.some.injEq] at o1
 subst o1
 have run : ∀ {a0 : AO}, ai.op = .o a0 → xop h (ev env) a0 = some (v, h', ob) → Region.wanted o (yielded ops a.tmps) = true →
   ∃ κ' w' v x h', Φ v h' ∧ Le κ κ' ∧ Rel κ' h' w' ∧ VR κ' v x ∧
   Steps P (lone ((baseOf f).atR a (.inRegion ops (i :: rest) :: k)) cs w) (lone ((baseOf f).atR (a.put o.dst x) (.inRegion ops rest :: k)) cs w') := by
  intro a0 e hx hw
  obtain ⟨w', κ', r1, r2, r3⟩ := xop_sound hr (ev_sound he) o (fun d => rfl) (copA_o (by rw [o5, e])) hx hob
  rcases r3 with ⟨y, r3, r4⟩ | ⟨r3, r4⟩
  ·exact ⟨κ', w', v, y, h', hΦ, r2, r1, r4, .one (step_op_value ho hw (cop_nd (copA_o (by rw [o5, e]))) rfl (.inl r3))⟩
  ·exact ⟨κ', w', v, undef, h', hΦ, r2, r1, by rw [r4]; simp [VR], .one (step_op_value ho hw (cop_nd (copA_o (by rw [o5, e]))) rfl (.inr ⟨r3, rfl⟩))⟩
 unfold xai at hx
 split at hx
 ·rename_i hg
  split at hx
  case h_2 => simp at hx
  rename_i a0 e
  refine run e hx ?_
  rcases o7 with ⟨o7, _⟩ | ⟨j, want, t, _, o7, _⟩
  ·simp [Region.wanted, o7]
  ·rw [hg] at o7; simp at o7
 ·rename_i t want hg
  have skip : Region.wanted o (yielded ops a.tmps) = false → v = skp → h' = h → ∃ κ' w' v x h', Φ v h' ∧ Le κ κ' ∧ Rel κ' h' w' ∧ VR κ' v x ∧
   Steps P (lone ((baseOf f).atR a (.inRegion ops (i :: rest) :: k)) cs w) (lone ((baseOf f).atR (a.put o.dst x) (.inRegion ops rest :: k)) cs w') := by
   intro hwant e1 e2
   subst e1 e2
   have hst := stepR_op_skip (P := P) (b := baseOf f) (a := a) (k := k) (cs := cs) (w := w) (ops := ops) (i := i) (rest := rest) (by simp [ho, hwant])
   simp only [ho, Option.bind_some] at hst
   exact ⟨κ, w, skp, undef, _, hΦ, Le.refl κ, hr, skp_undef, .one hst⟩
  split at hx
  case h_3 => simp at hx
  case h_2 =>
   rename_i hv
   simp only [Option.some.injEq, Prod.mk.injEq] at hx
   refine skip ?_ hx.1.symm hx.2.1.symm
   rcases o7 with ⟨_, o7⟩ | ⟨j, want', t', o7, o8, o9, o10⟩
   ·rw [hg] at o7; simp at o7
   ·rw [hg] at o8
    simp only [Option.some.injEq, Prod.mk.injEq] at o8
    obtain ⟨e1, e2⟩ := o8
    subst e1 e2
    exact wanted_skp he o7 o9 o10 hv
  rename_i bv hv
  have hwant : Region.wanted o (yielded ops a.tmps) = (bv == want) := by
   rcases o7 with ⟨_, o7⟩ | ⟨j, want', t', o7, o8, o9, o10⟩
   ·rw [hg] at o7; simp at o7
   ·rw [hg] at o8
    simp only [Option.some.injEq, Prod.mk.injEq] at o8
    obtain ⟨e1, e2⟩ := o8
    subst e1 e2
    exact wanted_of he o7 o9 o10 hv
  split at hx
  ·rename_i hbw
   split at hx
   case h_2 => simp at hx
   rename_i a0 e
   exact run e hx (by rw [hwant]; exact hbw)
  ·rename_i hbw
   simp only [Option.some.injEq, Prod.mk.injEq] at hx
   exact skip (by rw [hwant]; simpa using hbw) hx.1.symm hx.2.1.symm
theorem EV.panic {Q : Out → H → Prop} {Φ : V → H → Prop} {fn : Func} (hf : P.funcs[f.fn]? = some fn) {ai : AI} {env : Env} {h : H} {x : Opd} {v : V}
  (hop : ai.op = .panic x) (hg : gOk env ai.guard) (hv : ev env x = v) (hi : (∃ t y, v = .iface t y) ∨ ∃ t y, v = .d (.iface t y)) (hQ : Q (.pan v) h) (hk0 : f.keep = []) : EV P N f ai env h Q Φ := by
 intro κ w a k cs ops i rest o kill ho hc hr he hd
 obtain ⟨o', o1, o2, o3, o4, o5, o6, o7⟩ := cAI_inv hc
 rw [ho] at o1
 simp only [Option.some.injEq] at o1
 subst o1
 have hw := gOk_wanted he o7 hg
 rw [hop] at o5
 have : ∃ x1, o.op = .panic x1 ∧ opd x1 = some x := by
  cases ho : o.op <;> rw [ho] at o5 <;> simp only [copA] at o5
  case panic x1 =>
   split at o5
   ·rename_i x2 e
    simp only [Option.some.injEq, AOp.panic.injEq] at o5
    subst o5
    exact ⟨x1, rfl, e⟩
   ·simp at o5
  case call c =>
   split at o5
   ·split at o5 <;> simp at o5
   ·split at o5 <;> simp at o5
  all_goals first | (split at o5 <;> simp at o5; done) | ((repeat' split at o5) <;> simp at o5)
 obtain ⟨x1, p1, p2⟩ := this
 have hval := ev_sound he _ _ p2
 rw [hv] at hval
 have hif : ∃ t y, a.eval x1 = .iface t y := by
  rcases hi with ⟨t, y, e⟩ | ⟨t, y, e⟩
  ·rw [e] at hval; simp only [VR] at hval; obtain ⟨z, e2, _⟩ := hval; exact ⟨_, _, e2⟩
  ·rw [e] at hval; simp only [VR, DR] at hval; obtain ⟨z, e2, _⟩ := hval; exact ⟨_, _, e2⟩
 obtain ⟨ti, yi, hif⟩ := hif
 have hrun : (execOp a.eval o).run P w = .halt (.panic (a.eval x1)) w := by
  simp [execOp, p1, Instr.panic, hif]
 have hst : Go.step P (lone ((baseOf f).atR a (.inRegion ops (i :: rest) :: k)) cs w) = .next (lone (((baseOf f).atR a (.inRegion ops (i :: rest) :: k)).raise [{ v := a.eval x1, recovered := false }]) cs w) := by
  have hg' := stepG_opn (P := P) (b := baseOf f) (k := k) (cs := cs) (w := w) (rest := rest) ho hw (by intro c; rw [p1]; simp)
  exact step_lone_go (by rw [hg']; simp [stepG.apply, hrun])
 refine .inl ⟨.panicked [{ v := a.eval x1, recovered := false }], w, ((baseOf f).atR a (.inRegion ops (i :: rest) :: k)).raise [{ v := a.eval x1, recovered := false }], κ, h, .pan v, hQ, Le.refl κ, hr, ⟨_, rfl, hval⟩, .one hst, rfl, ?_⟩
 exact ⟨rfl, fun _ => hd, ⟨fn, hf⟩, rfl, by rw [hk0]; intro p hp; simp at hp⟩
theorem EV.call {Q : Out → H → Prop} {Φ : V → H → Prop} {fn : Func} (hf : P.funcs[f.fn]? = some fn) {ai : AI} {env : Env} {h : H} {g : Opd} {args : List Opd} {fid : FuncId} {all : List V}
  (hop : ai.op = .call g args) (hg : gOk env ai.guard) (hc : calls (ev env g) (args.map (ev env)) = some (fid, all))
  (rb rv : List Nat) (kb kv : Nat) {hC : H} {argsC : List V} {QC : Out → H → Prop} (hs : Sub h hC rb rv) (hsc : insc rb.length rv.length argsC = true) (hargs : rns rb rv argsC = all)
  (hAF : AF P fid argsC hC QC)
  (hk : ∀ out hC', QC out hC' → (rb.length + kb ≤ hC'.bx.length ∧ rv.length + kv ≤ hC'.vc.length) ∧ match out with
   | .ret v => Φ (rn (upB rb h.bx.length kb) (upB rv h.vc.length kv) v) (upH h hC' rb rv kb kv)
   | .pan v => Q (.pan (rn (upB rb h.bx.length kb) (upB rv h.vc.length kv) v)) (upH h hC' rb rv kb kv)) (hk0 : f.keep = []) : EV P N f ai env h Q Φ := by
 intro κ w a k cs ops i rest o kill ho hcc hr he hd
 obtain ⟨o', o1, o2, o3, o4, o5, o6, o7⟩ := cAI_inv hcc
 rw [ho] at o1
 simp only [Option.some.injEq] at o1
 subst o1
 have hw := gOk_wanted he o7 hg
 rw [hop] at o5
 have : ∃ ce : Call, ∃ g0, o.op = .call ce ∧ ce.callee = .value g0 ∧ opd g0 = some g ∧ opds ce.args.toList = some args := by
  cases ho : o.op <;> rw [ho] at o5 <;> simp only [copA] at o5
  case call ce =>
   split at o5
   ·rename_i g0 hce
    split at o5
    ·rename_i g1 l1 z1 z2
     simp only [Option.some.injEq, AOp.call.injEq] at o5
     obtain ⟨z3, z4⟩ := o5
     subst z3 z4
     exact ⟨ce, g0, rfl, hce, z1, z2⟩
    ·simp at o5
   ·split at o5 <;> simp at o5
  all_goals first | (split at o5 <;> simp at o5; done) | ((repeat' split at o5) <;> simp at o5)
 obtain ⟨ce, g0, p1, p2, p3, p4⟩ := this
 have hρ := ev_sound he
 have hgv := hρ _ _ p3
 have hav := opds_sound (f := ev env) (ρ := a.eval) hρ p4
 have hdn := down_dn hr hs
 have hrel := down_rel hr hs
 obtain ⟨hcall, hAF⟩ := hAF
 obtain ⟨d, av, q1, q2, q3⟩ := calls_sound (P := P) (w := w) (argv := ce.args.map a.eval) hc hgv (by simpa using hav) hcall
 have hrun : (execOp a.eval o).run P w = .ok (.enter fid ⟨av⟩) w := by
  simp [execOp, p1, resolve, p2, q1, q2]
 have hvl : VL (downK κ w rb rv) argsC av := VL.down hdn argsC av hsc (by rw [hargs]; exact q3)
 obtain ⟨e, w', fr, ⟨κ1, hC', out, r1, r2, r3, r4⟩, r5, r6, r7⟩ := hAF _ w av hrel hvl ((baseOf f).atR a (.inRegion ops (i :: rest) :: k) :: cs)
 obtain ⟨⟨lkb, lkv⟩, hk⟩ := hk out hC' r1
 obtain ⟨κ', u1, u2, u3⟩ := up_all hr hs r3 r2 lkb lkv
 have hgo := stepG_opn (P := P) (b := baseOf f) (k := k) (cs := cs) (w := w) (rest := rest) ho hw (by intro c; rw [p1]; simp)
 have henter : Go.step P (lone ((baseOf f).atR a (.inRegion ops (i :: rest) :: k)) cs w) = .next (lone (Frame.enter P fid ⟨av⟩ .normal) ((baseOf f).atR a (.inRegion ops (i :: rest) :: k) :: cs) w) :=
  step_lone_go (by rw [hgo]; simp [stepG.apply, hrun, Frame.atR])
 cases out with
 | ret v =>
  obtain ⟨x, s1, s2⟩ := r4
  subst s1
  have hfin : ((baseOf f).atR a (.inRegion ops (i :: rest) :: k)).finish x = (baseOf f).atR (a.put o.dst x) (.inRegion ops rest :: k) := by rw [Frame.finish_atR, ho]; rfl
  have hleave := step_leave_returned (c := (baseOf f).atR a (.inRegion ops (i :: rest) :: k)) (cs := cs) r7
  rw [hfin] at hleave
  exact .inr ⟨κ', w', _, x, _, hk, u2, u1, VR.up u3 _ _ s2, .head henter (Steps.trans r5 (.one hleave))⟩
 | pan v =>
  obtain ⟨x, s1, s2⟩ := r4
  subst s1
  have hleave := step_leave_panicked (c := (baseOf f).atR a (.inRegion ops (i :: rest) :: k)) (cs := cs) r7
  exact .inl ⟨_, w', ((baseOf f).atR a (.inRegion ops (i :: rest) :: k)).raise [{ v := x, recovered := false }], κ', _, .pan _, hk, u2, u1, ⟨x, rfl, VR.up u3 _ _ s2⟩, .head henter (Steps.trans r5 (.one hleave)), rfl, rfl, fun _ => hd.mono u2, ⟨fn, hf⟩, rfl, by rw [hk0]; intro p hp; simp at hp⟩
def XF (P : Program) (fid : FuncId) (args : List V) (v : V) : Prop := ∀ (κ : K) (w : World) (argv : List Value), VL κ args argv → ∃ y, (callFunc fid ⟨argv⟩).run P w = .ok (.value y) w ∧ VR κ v y
theorem calls_ext {κ : K} {w : World} {g : V} {args : List V} {fid : FuncId} {all : List V} {gv : Value} {argv : Array Value} (h : calls g args = some (fid, all)) (hg : VR κ g gv) (ha : VL κ args argv.toList) :
  ∃ d av, Deferred.ofValue gv argv = pure d ∧ (invoke d.target d.args).run P w = (callFunc fid ⟨av⟩).run P w ∧ VL κ all av := by
 unfold calls at h
 split at h
 ·rename_i f a c
  simp only [Option.some.injEq, Prod.mk.injEq] at h
  obtain ⟨e1, e2⟩ := h
  subst e1 e2
  simp only [VR, DR] at hg
  obtain ⟨a', c', e, h1, h2⟩ := hg
  subst e
  have : (⟨a'⟩ ++ argv ++ ⟨c'⟩ : Array Value) = ⟨a' ++ argv.toList ++ c'⟩ := by apply Array.ext'; simp
  exact ⟨_, a' ++ argv.toList ++ c', rfl, by rw [← this]; rfl, ((VL.ofD h1).append ha).append (VL.ofD h2)⟩
 ·rename_i f a c
  simp only [Option.some.injEq, Prod.mk.injEq] at h
  obtain ⟨e1, e2⟩ := h
  subst e1 e2
  simp only [VR] at hg
  obtain ⟨a', c', e, h1, h2⟩ := hg
  subst e
  have : (⟨a'⟩ ++ argv ++ ⟨c'⟩ : Array Value) = ⟨a' ++ argv.toList ++ c'⟩ := by apply Array.ext'; simp
  exact ⟨_, a' ++ argv.toList ++ c', rfl, by rw [← this]; rfl, (h1.append ha).append h2⟩
 ·simp at h
theorem EV.ext {Q : Out → H → Prop} {Φ : V → H → Prop} {ai : AI} {env : Env} {h : H} {g : Opd} {args : List Opd} {fid : FuncId} {all : List V} {v : V}
  (hop : ai.op = .call g args) (hg : gOk env ai.guard) (hc : calls (ev env g) (args.map (ev env)) = some (fid, all)) (hX : XF P fid all v) (hΦ : Φ v h) : EV P N f ai env h Q Φ := by
 intro κ w a k cs ops i rest o kill ho hcc hr he hd
 obtain ⟨o', o1, o2, o3, o4, o5, o6, o7⟩ := cAI_inv hcc
 rw [ho] at o1
 simp only [Option.some.injEq] at o1
 subst o1
 have hw := gOk_wanted he o7 hg
 rw [hop] at o5
 have : ∃ ce : Call, ∃ g0, o.op = .call ce ∧ ce.callee = .value g0 ∧ opd g0 = some g ∧ opds ce.args.toList = some args := by
  cases ho : o.op <;> rw [ho] at o5 <;> simp only [copA] at o5
  case call ce =>
   split at o5
   ·rename_i g0 hce
    split at o5
    ·rename_i g1 l1 z1 z2
     simp only [Option.some.injEq, AOp.call.injEq] at o5
     obtain ⟨z3, z4⟩ := o5
     subst z3 z4
     exact ⟨ce, g0, rfl, hce, z1, z2⟩
    ·simp at o5
   ·split at o5 <;> simp at o5
  all_goals first | (split at o5 <;> simp at o5; done) | ((repeat' split at o5) <;> simp at o5)
 obtain ⟨ce, g0, p1, p2, p3, p4⟩ := this
 have hρ := ev_sound he
 have hgv := hρ _ _ p3
 have hav := opds_sound (f := ev env) (ρ := a.eval) hρ p4
 obtain ⟨d, av, q1, q2, q3⟩ := calls_ext (P := P) (w := w) (argv := ce.args.map a.eval) hc hgv (by simpa using hav)
 obtain ⟨y, y1, y2⟩ := hX κ w av q3
 have hrun : (execOp a.eval o).run P w = .ok (.value y) w := by
  simp [execOp, p1, resolve, p2, q1, q2, y1]
 exact .inr ⟨κ, w, v, y, h, hΦ, Le.refl κ, hr, y2, .one (step_op_value ho hw (by intro c; rw [p1]; simp) rfl (.inl hrun))⟩
theorem AT.ev {chk : Array Oper → List (List AI) → Bool} {Q : Out → H → Prop} {Φ : V → H → Prop} {ai : AI} {r : List AI} {ks : List AItem} {env : Env} {h : H} (he : EV P N f ai env h Q Φ)
  (hk : ∀ v h', Φ v h' → AT P N chk f (.reg r :: ks) (put (dels env ai.kill) ai.dst v) h' Q) : AT P N chk f (.reg (ai :: r) :: ks) env h Q := by
 intro κ w a k cs hcs hr hE hd
 cases k with
 | nil => simp [CS] at hcs
 | cons x0 k =>
  obtain ⟨y, t, e, h3, h4⟩ := hcs
  simp only [List.cons.injEq] at e
  obtain ⟨e1, e2⟩ := e
  subst e1 e2
  cases x0 <;> simp only [CI] at h3
  rename_i ops l
  cases l with
  | nil => simp [RG] at h3
  | cons i rest =>
   obtain ⟨kill, ai', tl, c1, c2, c3⟩ := h3
   simp only [List.cons.injEq] at c2
   obtain ⟨c2, c4⟩ := c2
   subst c2 c4
   obtain ⟨o, o1, o2, o3, o4, o5, o6, o7⟩ := cAI_inv c1
   rcases he κ w a k cs ops i rest o kill o1 c1 hr hE hd with q | ⟨κ', w', v, x, h', q1, q2, q3, q4, q5⟩
   ·exact q
   ·refine Ends.of_steps q5 (Ends.le q2 (hk v h' q1 κ' w' _ _ cs ⟨_, _, rfl, c3, h4⟩ q3 ?_ ?_))
    ·rw [o3]
     exact ((hE.mono q2).dels ai.kill).putO o6 q4
    ·exact hd.put q2 _ _
end
end Go.SL
namespace Go.SL
def Before (ops : Array Oper) (a i : Nat) : Prop := ∀ L A B, Topo ops L → L = A ++ i :: B → a ∈ A
theorem Before.edge {ops : Array Oper} {a i : Nat} (h : a ∈ edges ops i) : Before ops a i := fun _ A B t e => t.ord A i B e a h
theorem Before.trans {ops : Array Oper} {a b i : Nat} (h : Before ops a b) (h2 : Before ops b i) : Before ops a i := by
 intro L A B t e
 obtain ⟨A1, A2, e2⟩ := List.append_of_mem (h2 L A B t e)
 have := h L A1 (A2 ++ i :: B) t (by rw [e, e2]; simp)
 rw [e2]; simp [this]
def addAll (l : List Nat) : List Nat → List Nat
 | [] => l
 | x :: r => match l.contains x with
  | true => addAll l r
  | false => addAll (x :: l) r
theorem mem_addAll : ∀ (r l : List Nat) (x : Nat), x ∈ addAll l r → x ∈ l ∨ x ∈ r
 | [], l, x, h => .inl h
 | y :: r, l, x, h => by
  simp only [addAll] at h
  split at h
  ·rcases mem_addAll r l x h with h | h
   ·exact .inl h
   ·exact .inr (by simp [h])
  ·rcases mem_addAll r _ x h with h | h
   ·rcases List.mem_cons.1 h with h | h
    ·exact .inr (by simp [h])
    ·exact .inl h
   ·exact .inr (by simp [h])
def look : List (Nat × List Nat) → Nat → List Nat
 | [], _ => []
 | (k, v) :: r, i => match Nat.beq k i with
  | true => v
  | false => look r i
def ups (T : List (Nat × List Nat)) : List Nat → List Nat → List Nat
 | acc, [] => acc
 | acc, e :: r => ups T (addAll acc (e :: look T e)) r
def ancT (ops : Array Oper) : List Nat → List (Nat × List Nat) → List (Nat × List Nat)
 | [], T => T
 | i :: r, T => ancT ops r ((i, ups T [] (edges ops i)) :: T)
def TOk (ops : Array Oper) (T : List (Nat × List Nat)) : Prop := ∀ i, ∀ a ∈ look T i, Before ops a i
theorem ups_ok {ops : Array Oper} {T : List (Nat × List Nat)} (hT : TOk ops T) {i : Nat} : ∀ (l acc : List Nat), (∀ a ∈ acc, Before ops a i) → (∀ e ∈ l, Before ops e i) → ∀ a ∈ ups T acc l, Before ops a i
 | [], acc, h, _, a, ha => h a ha
 | e :: r, acc, h, hl, a, ha => by
  refine ups_ok hT r _ (fun x hx => ?_) (fun e he => hl e (by simp [he])) a ha
  have he := hl e (by simp)
  rcases mem_addAll _ _ _ hx with hx | hx
  ·exact h x hx
  ·rcases List.mem_cons.1 hx with hx | hx
   ·rw [hx]; exact he
   ·exact (hT e x hx).trans he
theorem ancT_ok {ops : Array Oper} : ∀ (l : List Nat) (T : List (Nat × List Nat)), TOk ops T → TOk ops (ancT ops l T)
 | [], T, h => h
 | i :: r, T, h => by
  refine ancT_ok r _ fun j a ha => ?_
  simp only [look] at ha
  split at ha
  ·rename_i hb
   have := Nat.eq_of_beq_eq_true hb
   subst this
   exact ups_ok h (edges ops i) [] (by simp) (fun e he => .edge he) a ha
  ·exact h j a ha
def enum (T : List (Nat × List Nat)) : Nat → List Nat → List (List Nat)
 | 0, _ => [[]]
 | n + 1, R => match R with
  | [] => [[]]
  | R => (R.filter fun e => R.all fun x => !(look T e).contains x).flatMap fun e => (enum T n (R.filter fun x => !(Nat.beq x e))).map (e :: ·)
theorem enum_mem {ops : Array Oper} {T : List (Nat × List Nat)} (hT : TOk ops T) {L : List Nat} (hL : Topo ops L) (isE : Nat → Bool) : ∀ (L' M : List Nat) (n : Nat) (R : List Nat), L = M ++ L' → (∀ x, x ∈ R ↔ x ∈ L' ∧ isE x = true) → R.length ≤ n →
  L'.filter isE ∈ enum T n R
 | [], M, n, R, e, hR, hn => by
  have : R = [] := List.eq_nil_iff_forall_not_mem.2 fun x hx => by simpa using (hR x).1 hx
  subst this
  cases n <;> simp [enum]
 | i :: L', M, n, R, e, hR, hn => by
  have e' : L = (M ++ [i]) ++ L' := by rw [e]; simp
  by_cases hi : isE i = true
  ·have hiR : i ∈ R := (hR i).2 ⟨by simp, hi⟩
   cases n with
   | zero => have : R = [] := List.eq_nil_of_length_eq_zero (by omega)
             rw [this] at hiR; simp at hiR
   | succ n =>
    have hnd : (i :: L').Nodup := by
     have := hL.nodup
     rw [e] at this
     exact (List.nodup_append.1 this).2.1
    rw [List.filter_cons_of_pos hi]
    cases R with
    | nil => simp at hiR
    | cons y R =>
     simp only [enum]
     rw [List.mem_flatMap]
     refine ⟨i, ?_, ?_⟩
     ·rw [List.mem_filter]
      refine ⟨hiR, ?_⟩
      rw [List.all_eq_true]
      intro x hx
      cases hc : (look T i).contains x with
      | false => rfl
      | true =>
       have hb := hT i x (by simpa using hc) L M L' hL e
       have hx2 := ((hR x).1 hx).1
       have := hL.nodup
       rw [e] at this
       exact absurd rfl ((List.nodup_append.1 this).2.2 x hb x hx2)
     ·rw [List.mem_map]
      refine ⟨_, enum_mem hT hL isE L' (M ++ [i]) n _ e' (fun x => ?_) ?_, rfl⟩
      ·rw [List.mem_filter, hR x]
       simp only [List.mem_cons]
       constructor
       ·rintro ⟨⟨h1, h2⟩, h3⟩
        refine ⟨?_, h2⟩
        rcases h1 with h1 | h1
        ·subst h1; simp at h3
        ·exact h1
       ·rintro ⟨h1, h2⟩
        refine ⟨⟨.inr h1, h2⟩, ?_⟩
        rw [beq_ne (fun he => by subst he; exact (List.nodup_cons.1 hnd).1 h1)]; rfl
      ·have hlt : ((y :: R).filter fun x => !(Nat.beq x i)).length < (y :: R).length := by
        rw [List.length_filter_lt_length_iff_exists]
        exact ⟨i, hiR, by simp⟩
       omega
  ·rw [List.filter_cons_of_neg hi]
   refine enum_mem hT hL isE L' (M ++ [i]) n R e' (fun x => ?_) hn
   rw [hR x]
   simp only [List.mem_cons]
   constructor
   ·rintro ⟨h1 | h1, h2⟩
    ·subst h1; exact absurd h2 hi
    ·exact ⟨h1, h2⟩
   ·rintro ⟨h1, h2⟩
    exact ⟨.inr h1, h2⟩
def ixs (l : List AI) : List Nat := l.map (·.ix)
def evL (l : List AI) : List Nat := ixs (l.filter fun a => !isRead a)
structure OK (P : Program) (N : Nat) (ops : Array Oper) (ord : List AI) : Prop where
 topo : Topo ops (ixs ord)
 ce : ∀ a ∈ ord, ∃ kill, cAI P N ops a.ix kill = some a
 asap : ∀ A r B, ord = A ++ r :: B → isRead r = true → ∀ A1 e A2, A = A1 ++ e :: A2 → isRead e = false → ∃ x ∈ edges ops r.ix, x ∈ ixs (e :: A2)
 slots : ∀ a ∈ ord, ∀ t ∈ slI a, ∀ b ∈ ord, b.dst = some t → b.ix ∈ edges ops a.ix ∨ (isRead b = false ∧ Before ops a.ix b.ix)
 dsts : ∀ a ∈ ord, ∀ b ∈ ord, ∀ d, a.dst = some d → b.dst = some d → a.ix = b.ix
 pend : ∀ A e B, ord = A ++ e :: B → isRead e = false → ∀ r ∈ A, isRead r = true → r.ix ∈ e.kill ∨ Before ops r.ix e.ix
theorem OK.inj {P : Program} {N : Nat} {ops : Array Oper} {ord : List AI} (h : OK P N ops ord) {a b : AI} (ha : a ∈ ord) (hb : b ∈ ord) (e : a.ix = b.ix) : a = b := by
 have hn := h.topo.nodup
 unfold ixs at hn
 obtain ⟨i, hi, e1⟩ := List.getElem_of_mem ha
 obtain ⟨j, hj, e2⟩ := List.getElem_of_mem hb
 have : i = j := (List.getElem_inj hn (h₀ := by simpa using hi) (h₁ := by simpa using hj)).1 (by simp [e1, e2, e])
 subst this
 rw [← e1, ← e2]
def RDok (h : H) (E : Env) (r : AI) : Prop := ∃ v, xai h E r = some (v, h, true) ∧ ∀ d, r.dst = some d → get E d = v
def RC (h : H) (E : Env) (done : List AI) (kill : List Nat) : Prop := ∀ r ∈ done, r.ix ∈ kill → isRead r = true → RDok h E r
section
variable (P : Program) (N : Nat) (chk : Array Oper → List (List AI) → Bool) (f : FD) (ks : List AItem) (Q : Out → H → Prop)
def ATD : List AI → List AI → Env → H → Prop
 | _, [], env, h => AT P N chk f ks env h Q
 | done, r :: l, env, h => match isRead r with
  | true => ∃ v, xai h env r = some (v, h, true) ∧ ATD (r :: done) l (put env r.dst v) h
  | false => EV P N f r (mask (slI r) env) h Q (fun v h' => RC h' (put env r.dst v) done r.kill ∧ ATD (r :: done) l (put env r.dst v) h')
end
theorem get_put (env : Env) (d : Option Nat) (v : V) (t : Nat) : get (put env d v) t = if d = some t then v else get env t := by
 cases d with
 | none => simp [put]
 | some d =>
  simp only [put, get]
  by_cases h : d = t
  ·subst h; rw [Nat.beq_refl]; simp
  ·rw [beq_ne h, get_del]
   have h' : ¬ t = d := fun e => h e.symm
   simp [h, h']
theorem tmps_put (a : Act) (d : Option Nat) (x : Value) (t : Nat) (ht : ∀ k, d = some k → k < a.tmps.size) : (a.put d x).tmps.getD t undef = if d = some t then x else a.tmps.getD t undef := by
 cases d with
 | none => simp [Act.put]
 | some d =>
  have := ht d rfl
  simp only [Act.put, Array.getD_eq_getD_getElem?, Array.getElem?_setIfInBounds, Option.some.injEq]
  by_cases h : d = t
  ·subst h; simp [this]
  ·simp [h]
theorem size_put (a : Act) (d : Option Nat) (x : Value) : (a.put d x).tmps.size = a.tmps.size := by cases d <;> simp [Act.put]
end Go.SL
namespace Go.SL
section
variable {P : Program} {N : Nat} {chk : Array Oper → List (List AI) → Bool} {f : FD} {ks : List AItem} {Q : Out → H → Prop}
theorem mem_ixs {l : List AI} {i : Nat} : i ∈ ixs l ↔ ∃ a ∈ l, a.ix = i := by simp [ixs]
theorem ER.masked {κ : K} {env : Env} {tmps : Array Value} {S : List Nat} (hN : N ≤ tmps.size) (h : ∀ t ∈ S, VR κ (get env t) (tmps.getD t undef)) : ER N κ (mask S env) tmps := by
 refine ⟨hN, fun t => ?_⟩
 rw [get_mask]
 split
 ·rename_i ht; exact h t ht
 ·simp [VR]
theorem drawn_run {ops : Array Oper} {ord : List AI} (hok : OK P N ops ord) {L : List Nat} (hL : Topo ops L) (isE : Nat → Bool) (hE : ∀ a ∈ ord, isE a.ix = !isRead a) :
  ∀ (n : Nat) (l A : List AI) (M L' : List Nat) (env : Env) (h : H) (κ : K) (w : World) (a : Act) (k : List Item) (cs : List Frame),
   l.length + L'.length ≤ n → ord = A.reverse ++ l → L = M ++ L' → (∀ i ∈ M, ∃ r ∈ A, r.ix = i) → L'.filter isE = evL l → ATD P N chk f ks Q A l env h → Rel κ h w →
   N ≤ a.tmps.size → (∀ t, (∀ r ∈ A, r.dst = some t → r.ix ∈ M) → VR κ (get env t) (a.tmps.getD t undef)) → CS P N chk k ks → DefR κ f.dv a.defers →
   (∀ r ∈ A, r.ix ∉ M → isRead r = true ∧ RDok h env r) → Ends P f (lone ((baseOf f).atR a (.inRegion ops L' :: k)) cs w) cs κ Q := by
 intro n
 induction n with
 | zero =>
  intro l A M L' env h κ w a k cs hn ho hLM hMA hev hatd hr hN hv hcs hd hrd
  have hl : l = [] := List.eq_nil_of_length_eq_zero (by omega)
  have hl' : L' = [] := List.eq_nil_of_length_eq_zero (by omega)
  subst hl hl'
  simp only [ATD] at hatd
  refine Ends.of_steps (.one stepR_region_end) (hatd κ w a k cs hcs hr ⟨hN, fun t => hv t fun r hrA _ => ?_⟩ hd)
  have : r.ix ∈ ixs ord := mem_ixs.2 ⟨r, by rw [ho]; simp [hrA], rfl⟩
  have := (hL.mem r.ix).2 ((hok.topo.mem _).1 this)
  rw [hLM] at this; simpa using this
 | succ n ih =>
  intro l A M L' env h κ w a k cs hn ho hLM hMA hev hatd hr hN hv hcs hd hrd
  have hnd : (ixs ord).Nodup := hok.topo.nodup
  have hsplit : ixs ord = ixs A.reverse ++ ixs l := by rw [ho]; simp [ixs]
  have hAl : ∀ r ∈ A, ∀ b ∈ l, r.ix ≠ b.ix := by
   intro r hr b hb e
   rw [hsplit] at hnd
   exact (List.nodup_append.1 hnd).2.2 r.ix (mem_ixs.2 ⟨r, by simpa using hr, rfl⟩) b.ix (mem_ixs.2 ⟨b, hb, rfl⟩) e
  have hAo : ∀ r ∈ A, r ∈ ord := fun r hr => by rw [ho]; simp [hr]
  have hlo : ∀ r ∈ l, r ∈ ord := fun r hr => by rw [ho]; simp [hr]
  have hmask : ∀ (b : AI), b ∈ ord → ∀ L'', L' = b.ix :: L'' → ER N κ (mask (slI b) env) a.tmps := by
   intro b hb L'' hL''
   refine ER.masked hN fun t ht => hv t fun r hrA hdst => ?_
   rcases hok.slots b hb t ht r (hAo r hrA) hdst with hed | ⟨hev', _⟩
   ·exact hL.ord M b.ix L'' (by rw [hLM, hL'']) _ hed
   ·apply Classical.byContradiction
    intro hnm
    have := (hrd r hrA hnm).1
    rw [hev'] at this
    simp at this
  cases L' with
  | nil =>
   cases l with
   | nil =>
    simp only [ATD] at hatd
    refine Ends.of_steps (.one stepR_region_end) (hatd κ w a k cs hcs hr ⟨hN, fun t => hv t fun r hrA _ => ?_⟩ hd)
    have : r.ix ∈ ixs ord := mem_ixs.2 ⟨r, hAo r hrA, rfl⟩
    have := (hL.mem r.ix).2 ((hok.topo.mem _).1 this)
    rw [hLM] at this; simpa using this
   | cons b l =>
    exfalso
    have : b.ix ∈ ixs ord := mem_ixs.2 ⟨b, hlo b (by simp), rfl⟩
    have := (hL.mem b.ix).2 ((hok.topo.mem _).1 this)
    rw [hLM] at this
    obtain ⟨r, h1, h2⟩ := hMA b.ix (by simpa using this)
    exact hAl r h1 b (by simp) h2
  | cons i L'' =>
   have hLM' : L = (M ++ [i]) ++ L'' := by rw [hLM]; simp
   have hiM : i ∉ M := by
    have := hL.nodup
    rw [hLM] at this
    exact fun hi => (List.nodup_append.1 this).2.2 i hi i (by simp) rfl
   by_cases hA : ∃ r ∈ A, r.ix = i
   ·
    obtain ⟨r, hrA, hri⟩ := hA
    subst hri
    obtain ⟨hread, v, hx, hdv⟩ := hrd r hrA hiM
    obtain ⟨kill, hce⟩ := hok.ce r (hAo r hrA)
    obtain ⟨o, o1, o2, o3, o4, o5, o6, o7⟩ := cAI_inv hce
    have hx' : xai h (mask (slI r) env) r = some (v, h, true) := by
     rw [← hx]
     exact xai_congr h r fun t ht => by rw [get_mask, if_pos ht]
    rcases EV.o (Q := Q) (Φ := fun v' h' => v' = v ∧ h' = h) (f := f) hx' rfl ⟨rfl, rfl⟩ κ w a k cs ops r.ix L'' o kill o1 hce hr (hmask r (hAo r hrA) L'' rfl) hd with he | ⟨κ', w', v', x, h', ⟨e1, e2⟩, r2, r3, r4, r5⟩
    ·exact he
    ·subst e1 e2
     have hd6 : ∀ k, o.dst = some k → k < a.tmps.size := fun k e => Nat.lt_of_lt_of_le (o6 k e) hN
     refine Ends.of_steps r5 (Ends.le r2 ?_)
     refine ih l A (M ++ [r.ix]) L'' env h' κ' w' (a.put o.dst x) k cs (by simp at hn; omega) ho hLM' (fun j hj => ?_) ?_ hatd r3 (by rw [size_put]; exact hN) (fun t ht => ?_) hcs (hd.put r2 _ _) (fun r' hr' hn' => hrd r' hr' (fun hm => hn' (by simp [hm])))
     ·rcases List.mem_append.1 hj with hj | hj
      ·exact hMA j hj
      ·exact ⟨r, hrA, (List.mem_singleton.1 hj).symm⟩
     ·rw [List.filter_cons_of_neg (by rw [hE r (hAo r hrA), hread]; simp)] at hev
      exact hev
     ·rw [tmps_put _ _ _ _ hd6]
      by_cases hdt : o.dst = some t
      ·rw [if_pos hdt, hdv t (by rw [o3]; exact hdt)]; exact r4
      ·rw [if_neg hdt]
       refine (hv t fun r' hr' hdst => ?_).mono r2
       rcases List.mem_append.1 (ht r' hr' hdst) with hm | hm
       ·exact hm
       ·have : r' = r := hok.inj (hAo r' hr') (hAo r hrA) (by simpa using hm)
        subst this
        rw [o3] at hdst
        exact absurd hdst hdt
   ·
    have hi : i ∈ ixs ord := (hok.topo.mem i).2 ((hL.mem i).1 (by rw [hLM]; simp))
    obtain ⟨b, hb, hbi⟩ := mem_ixs.1 hi
    have hbl : b ∈ l := by
     rw [ho] at hb
     rcases List.mem_append.1 hb with hb | hb
     ·exact absurd ⟨b, by simpa using hb, hbi⟩ hA
     ·exact hb
    cases l with
    | nil => simp at hbl
    | cons j l =>
     have hjo : j ∈ ord := hlo j (by simp)
     have ho' : ord = (j :: A).reverse ++ l := by rw [ho]; simp
     have hjM : j.ix ∉ M := fun hm => by
      obtain ⟨r, h1, h2⟩ := hMA _ hm
      exact hAl r h1 j (by simp) h2
     have hjA : j.ix ∉ ixs A.reverse := fun hm => by
      obtain ⟨r, h1, h2⟩ := mem_ixs.1 hm
      exact hAl r (by simpa using h1) j (by simp) h2
     have hno : ∀ r ∈ A, j.ix ∉ edges ops r.ix := by
      intro r hrA he
      obtain ⟨C, D, e⟩ := List.append_of_mem (show r ∈ A.reverse by simpa using hrA)
      have := hok.topo.ord (ixs C) r.ix (ixs D ++ ixs (j :: l)) (by rw [hsplit, e]; simp [ixs]) j.ix he
      exact hjA (by rw [e]; simp only [ixs, List.map_append, List.mem_append]; exact .inl this)
     have hnj : j.ix ∉ edges ops j.ix := by
      intro he
      have := hok.topo.ord (ixs A.reverse) j.ix (ixs l) (by rw [hsplit]; simp [ixs]) j.ix he
      exact hjA this
     cases hread : isRead j with
     | true =>
      simp only [ATD, hread] at hatd
      obtain ⟨v, hx, hatd⟩ := hatd
      have hkeep : ∀ r ∈ ord, j.ix ∉ edges ops r.ix → xai h (put env j.dst v) r = xai h env r := by
       intro r hro hne
       refine xai_congr h r fun t ht => ?_
       rw [get_put, if_neg]
       intro e
       rcases hok.slots r hro t ht j hjo e with hed | ⟨hev', _⟩
       ·exact hne hed
       ·rw [hread] at hev'; simp at hev'
      refine ih l (j :: A) M (i :: L'') (put env j.dst v) h κ w a k cs (by simp at hn ⊢; omega) ho' hLM (fun i hi => ?_) ?_ hatd hr hN (fun t ht => ?_) hcs hd ?_
      ·obtain ⟨r, h1, h2⟩ := hMA i hi
       exact ⟨r, by simp [h1], h2⟩
      ·rw [hev]; simp [evL, hread]
      ·rw [get_put, if_neg (fun e => hjM (ht j (by simp) e))]
       exact hv t fun r hrA hdst => ht r (by simp [hrA]) hdst
      ·intro r hrA hrM
       rcases List.mem_cons.1 hrA with e | hrA
       ·subst e
        refine ⟨hread, v, by rw [hkeep r hjo hnj]; exact hx, fun d hd => by rw [get_put, if_pos hd]⟩
       ·obtain ⟨q1, v', q2, q3⟩ := hrd r hrA hrM
        refine ⟨q1, v', by rw [hkeep r (hAo r hrA) (hno r hrA)]; exact q2, fun d hd => ?_⟩
        rw [get_put, if_neg]
        ·exact q3 d hd
        ·intro e
         exact hAl r hrA j (by simp) (hok.dsts r (hAo r hrA) j hjo d hd e)
     | false =>
      have hij : i = j.ix := by
       rcases List.mem_cons.1 hbl with e | hbl'
       ·rw [← hbi, e]
       ·cases hbr : isRead b with
        | true =>
         obtain ⟨C, D, e⟩ := List.append_of_mem hbl'
         obtain ⟨x, x1, x2⟩ := hok.asap (A.reverse ++ j :: C) b D (by rw [ho, e]; simp) hbr A.reverse j C rfl hread
         rw [hbi] at x1
         have hxM := hL.ord M i L'' hLM x x1
         obtain ⟨r, h1, h2⟩ := hMA x hxM
         obtain ⟨c, c1, c2⟩ := mem_ixs.1 x2
         refine absurd (h2.trans c2.symm) (hAl r h1 c ?_)
         rw [e]
         rcases List.mem_cons.1 c1 with c1 | c1
         ·simp [c1]
         ·simp [c1]
        | false =>
         rw [List.filter_cons_of_pos (by rw [← hbi, hE b (hlo b hbl), hbr]; rfl)] at hev
         have : evL (j :: l) = j.ix :: evL l := by simp [evL, hread, ixs]
         rw [this] at hev
         simp only [List.cons.injEq] at hev
         exact hev.1
      subst hij
      simp only [ATD, hread] at hatd
      obtain ⟨kill, hce⟩ := hok.ce j hjo
      obtain ⟨o, o1, o2, o3, o4, o5, o6, o7⟩ := cAI_inv hce
      rcases hatd κ w a k cs ops j.ix L'' o kill o1 hce hr (hmask j hjo L'' rfl) hd with he | ⟨κ', w', v, x, h', ⟨hrc, hatd⟩, r2, r3, r4, r5⟩
      ·exact he
      ·have hd6 : ∀ k, o.dst = some k → k < a.tmps.size := fun k e => Nat.lt_of_lt_of_le (o6 k e) hN
       refine Ends.of_steps r5 (Ends.le r2 ?_)
       refine ih l (j :: A) (M ++ [j.ix]) L'' (put env j.dst v) h' κ' w' (a.put o.dst x) k cs (by simp at hn; omega) ho' hLM' (fun i hi => ?_) ?_ hatd r3 (by rw [size_put]; exact hN) (fun t ht => ?_) hcs (hd.put r2 _ _) ?_
       ·rcases List.mem_append.1 hi with hi | hi
        ·obtain ⟨r, h1, h2⟩ := hMA i hi
         exact ⟨r, by simp [h1], h2⟩
        ·exact ⟨j, by simp, (List.mem_singleton.1 hi).symm⟩
       ·rw [List.filter_cons_of_pos (by rw [hE j hjo, hread]; rfl)] at hev
        have : evL (j :: l) = j.ix :: evL l := by simp [evL, hread, ixs]
        rw [this] at hev
        simp only [List.cons.injEq] at hev
        exact hev.2
       ·rw [tmps_put _ _ _ _ hd6, get_put, o3]
        by_cases hdt : o.dst = some t
        ·rw [if_pos hdt, if_pos hdt]; exact r4
        ·rw [if_neg hdt, if_neg hdt]
         refine (hv t fun r' hr' hdst => ?_).mono r2
         rcases List.mem_append.1 (ht r' (by simp [hr']) hdst) with hm | hm
         ·exact hm
         ·exact absurd (by simpa using hm) (hAl r' hr' j (by simp))
       ·intro r hrA hrM
        rcases List.mem_cons.1 hrA with e | hrA
        ·subst e; simp at hrM
        ·have hrM' : r.ix ∉ M := fun hm => hrM (by simp [hm])
         obtain ⟨q1, _⟩ := hrd r hrA hrM'
         refine ⟨q1, ?_⟩
         rcases hok.pend A.reverse j l ho hread r (by simpa using hrA) q1 with hk | hb
         ·exact hrc r hrA hk q1
         ·exact absurd (hb L M L'' hL hLM) hrM'
end
end Go.SL
namespace Go.SL
def eqL : List Nat → List Nat → Bool
 | [], [] => true
 | a :: l, b :: r => Nat.beq a b && eqL l r
 | _, _ => false
theorem eqL_eq : ∀ {l r : List Nat}, eqL l r = true → l = r
 | [], [], _ => rfl
 | a :: l, b :: r, h => by
  simp only [eqL, Bool.and_eq_true] at h
  rw [Nat.eq_of_beq_eq_true h.1, eqL_eq h.2]
 | [], _ :: _, h => by simp [eqL] at h
 | _ :: _, [], h => by simp [eqL] at h
def hasN : List Nat → Nat → Bool
 | [], _ => false
 | a :: l, x => match Nat.beq a x with
  | true => true
  | false => hasN l x
theorem hasN_iff : ∀ {l : List Nat} {x : Nat}, hasN l x = true ↔ x ∈ l
 | [], x => by simp [hasN]
 | a :: l, x => by
  simp only [hasN]
  by_cases h : a = x
  ·subst h; rw [Nat.beq_refl]; simp
  ·rw [beq_ne h]
   have h' : ¬ x = a := fun e => h e.symm
   simp [hasN_iff, h']
def respB (ops : Array Oper) : List Nat → List Nat → Bool
 | _, [] => true
 | seen, i :: r => !hasN seen i && Nat.blt i ops.size && (edges ops i).all (hasN seen) && respB ops (i :: seen) r
theorem respB_sound {ops : Array Oper} : ∀ (l seen : List Nat), respB ops seen l = true → l.Nodup ∧ (∀ i ∈ l, i < ops.size ∧ i ∉ seen) ∧ ∀ A i B, l = A ++ i :: B → ∀ e ∈ edges ops i, e ∈ A ∨ e ∈ seen
 | [], seen, h => ⟨List.nodup_nil, by simp, fun A i B e => by have := congrArg List.length e; simp at this⟩
 | j :: r, seen, h => by
  simp only [respB, Bool.and_eq_true, Bool.not_eq_true', Nat.blt_eq] at h
  obtain ⟨⟨⟨h1, h2⟩, h3⟩, h4⟩ := h
  obtain ⟨g1, g2, g3⟩ := respB_sound r _ h4
  have hj : j ∉ seen := fun hm => by rw [hasN_iff.2 hm] at h1; simp at h1
  refine ⟨List.nodup_cons.2 ⟨fun hm => (g2 j hm).2 (by simp), g1⟩, fun i hi => ?_, fun A i B e x hx => ?_⟩
  ·rcases List.mem_cons.1 hi with e | hi
   ·subst e; exact ⟨h2, hj⟩
   ·exact ⟨(g2 i hi).1, fun hm => (g2 i hi).2 (by simp [hm])⟩
  ·cases A with
   | nil =>
    simp only [List.nil_append, List.cons.injEq] at e
    obtain ⟨e, _⟩ := e
    subst e
    rw [List.all_eq_true] at h3
    exact .inr (hasN_iff.1 (h3 x hx))
   | cons c A =>
    simp only [List.cons_append, List.cons.injEq] at e
    obtain ⟨e1, e2⟩ := e
    subst e1
    rcases g3 A i B e2 x hx with h | h
    ·exact .inl (by simp [h])
    ·rcases List.mem_cons.1 h with h | h
     ·exact .inl (by simp [h])
     ·exact .inr h
def asapB (ops : Array Oper) : List Nat → List AI → Bool
 | _, [] => true
 | S, a :: l => match isRead a with
  | true => match S with
   | [] => asapB ops [] l
   | x :: S => (edges ops a.ix).any (hasN (x :: S)) && asapB ops (a.ix :: x :: S) l
  | false => asapB ops [a.ix] l
def AsapI (A : List AI) (S : List Nat) : Prop := ∀ A1 e A2, A = A1 ++ e :: A2 → isRead e = false → S ≠ [] ∧ ∀ x ∈ S, x ∈ ixs (e :: A2)
theorem snoc_split {α : Type} {A A1 A2 : List α} {a e : α} (h : A ++ [a] = A1 ++ e :: A2) : (A1 = A ∧ e = a ∧ A2 = []) ∨ ∃ A3, A2 = A3 ++ [a] ∧ A = A1 ++ e :: A3 := by
 rcases List.eq_nil_or_concat A2 with e1 | ⟨A3, z, e1⟩
 ·subst e1
  have := List.append_inj' h rfl
  simp only [List.cons.injEq, and_true] at this
  exact .inl ⟨this.1.symm, this.2.symm, rfl⟩
 ·subst e1
  have h' : A ++ [a] = (A1 ++ e :: A3) ++ [z] := by rw [h]; simp
  have := List.append_inj' h' rfl
  simp only [List.cons.injEq, and_true] at this
  exact .inr ⟨A3, by rw [this.2]; simp, this.1⟩
theorem asapB_sound {ops : Array Oper} : ∀ (l A : List AI) (S : List Nat), asapB ops S l = true → AsapI A S →
  ∀ A' r B, A ++ l = A' ++ r :: B → A.length ≤ A'.length → isRead r = true → ∀ A1 e A2, A' = A1 ++ e :: A2 → isRead e = false → ∃ x ∈ edges ops r.ix, x ∈ ixs (e :: A2)
 | [], A, S, h, hI, A', r, B, e, hl, _, _, _, _, _, _ => by
  have := congrArg List.length e
  simp at this; omega
 | a :: l, A, S, h, hI, A', r, B, e, hl, hr, A1, ev, A2, hA', hev => by
  have e' : (A ++ [a]) ++ l = A' ++ r :: B := by rw [← e]; simp
  by_cases hlen : A.length = A'.length
  ·obtain ⟨e1, e2⟩ := List.append_inj e hlen
   simp only [List.cons.injEq] at e2
   obtain ⟨e2, e3⟩ := e2
   subst e1 e2
   obtain ⟨q1, q2⟩ := hI A1 ev A2 hA' hev
   simp only [asapB, hr] at h
   cases S with
   | nil => exact absurd rfl q1
   | cons x S =>
    simp only [Bool.and_eq_true] at h
    obtain ⟨y, y1, y2⟩ := List.any_eq_true.1 h.1
    exact ⟨y, y1, q2 y (hasN_iff.1 y2)⟩
  ·have hl2 : (A ++ [a]).length ≤ A'.length := by simp; omega
   simp only [asapB] at h
   split at h
   ·rename_i hra
    split at h
    ·refine asapB_sound l (A ++ [a]) [] h (fun B1 e0 B2 q1 q2 => ?_) A' r B e' hl2 hr A1 ev A2 hA' hev
     rcases snoc_split q1 with ⟨_, e1, _⟩ | ⟨A3, _, e1⟩
     ·subst e1; rw [hra] at q2; simp at q2
     ·exact absurd rfl (hI B1 e0 A3 e1 q2).1
    ·rename_i x S
     simp only [Bool.and_eq_true] at h
     refine asapB_sound l (A ++ [a]) _ h.2 (fun B1 e0 B2 q1 q2 => ⟨by simp, fun y hy => ?_⟩) A' r B e' hl2 hr A1 ev A2 hA' hev
     rcases snoc_split q1 with ⟨_, e1, _⟩ | ⟨A3, e0', e1⟩
     ·subst e1; rw [hra] at q2; simp at q2
     ·subst e0'
      rcases List.mem_cons.1 hy with hy | hy
      ·subst hy; simp [ixs]
      ·have := (hI B1 e0 A3 e1 q2).2 y hy
       simp only [ixs, List.map_cons, List.map_append, List.mem_cons, List.mem_append] at this ⊢
       rcases this with h | h
       ·exact .inl h
       ·exact .inr (.inl h)
   ·refine asapB_sound l (A ++ [a]) _ h (fun B1 e0 B2 q1 q2 => ⟨by simp, fun y hy => ?_⟩) A' r B e' hl2 hr A1 ev A2 hA' hev
    have hy : y = a.ix := by simpa using hy
    subst hy
    rcases snoc_split q1 with ⟨_, e1, _⟩ | ⟨A3, e0', e1⟩
    ·subst e1; simp [ixs]
    ·subst e0'; simp [ixs]
def slotsB (ops : Array Oper) (T : List (Nat × List Nat)) (ord : List AI) : Bool :=
 ord.all fun a => (slI a).all fun t => ord.all fun b => match b.dst with
  | some d => match Nat.beq d t with
   | true => hasN (edges ops a.ix) b.ix || (!isRead b && hasN (look T b.ix) a.ix)
   | false => true
  | none => true
def dstsB (ord : List AI) : Bool :=
 ord.all fun a => match a.dst with
  | some d => ord.all fun b => match b.dst with
   | some e => match Nat.beq d e with
    | true => Nat.beq a.ix b.ix
    | false => true
   | none => true
  | none => true
def pendB (T : List (Nat × List Nat)) : List AI → List AI → Bool
 | _, [] => true
 | done, e :: l => (match isRead e with
  | true => true
  | false => done.all fun r => match isRead r with
   | true => hasN e.kill r.ix || hasN (look T e.ix) r.ix
   | false => true) && pendB T (e :: done) l
theorem pendB_sound {T : List (Nat × List Nat)} : ∀ (l done : List AI), pendB T done l = true → ∀ A e B, l = A ++ e :: B → isRead e = false → ∀ r, (r ∈ A ∨ r ∈ done) → isRead r = true → r.ix ∈ e.kill ∨ r.ix ∈ look T e.ix
 | [], done, h, A, e, B, he => by have := congrArg List.length he; simp at this
 | j :: l, done, h, A, e, B, he => by
  intro hev r hr hrr
  simp only [pendB, Bool.and_eq_true] at h
  cases A with
  | nil =>
   simp only [List.nil_append, List.cons.injEq] at he
   obtain ⟨e1, e2⟩ := he
   subst e1
   rw [hev] at h
   have hm : r ∈ done := by simpa using hr
   have := List.all_eq_true.1 h.1 r hm
   rw [hrr] at this
   simp only [Bool.or_eq_true] at this
   rcases this with h | h
   ·exact .inl (hasN_iff.1 h)
   ·exact .inr (hasN_iff.1 h)
  | cons c A =>
   simp only [List.cons_append, List.cons.injEq] at he
   obtain ⟨e1, e2⟩ := he
   subst e1
   refine pendB_sound l (j :: done) h.2 A e B e2 hev r ?_ hrr
   rcases hr with hr | hr
   ·rcases List.mem_cons.1 hr with hr | hr
    ·exact .inr (by simp [hr])
    ·exact .inl hr
   ·exact .inr (by simp [hr])
def ordB (ops : Array Oper) (T : List (Nat × List Nat)) (E0 : List Nat) (ord : List AI) : Bool :=
 Nat.beq ord.length ops.size && respB ops [] (ixs ord) && asapB ops [] ord && slotsB ops T ord && dstsB ord && pendB T [] ord && ord.all (fun a => match isRead a with
  | true => !hasN E0 a.ix
  | false => hasN E0 a.ix)
def chkD (ops : Array Oper) : List (List AI) → Bool
 | [] => false
 | o :: os => edgesOk ops && (let T := ancT ops (ixs o) []
  let E0 := evL o
  (o :: os).all (ordB ops T E0) && (enum T E0.length E0).all fun s => (o :: os).any fun o => eqL (evL o) s)
section
variable {P : Program} {N : Nat} {f : FD} {Q : Out → H → Prop}
theorem cAIs_mem {ops : Array Oper} : ∀ {l : List (Nat × List Nat)} {r : List AI}, cAIs P N ops l = some r → ∀ a ∈ r, ∃ kill, cAI P N ops a.ix kill = some a
 | [], r, h, a, ha => by simp only [cAIs, Option.some.injEq] at h; subst h; simp at ha
 | (ix, kill) :: l, r, h, a, ha => by
  simp only [cAIs] at h
  split at h
  ·rename_i a0 l0 h1 h2
   simp only [Option.some.injEq] at h
   subst h
   rcases List.mem_cons.1 ha with e | ha
   ·subst e
    obtain ⟨o, o1, o2, _⟩ := cAI_inv h1
    exact ⟨kill, by rw [o2]; exact h1⟩
   ·exact cAIs_mem h2 a ha
  ·simp at h
theorem cOrds_mem {ops : Array Oper} : ∀ {l : List (List (Nat × List Nat))} {r : List (List AI)}, cOrds P N ops l = some r → ∀ o ∈ r, ∀ a ∈ o, ∃ kill, cAI P N ops a.ix kill = some a
 | [], r, h, o, ho => by simp only [cOrds, Option.some.injEq] at h; subst h; simp at ho
 | x :: l, r, h, o, ho => by
  simp only [cOrds] at h
  split at h
  ·rename_i a0 l0 h1 h2
   simp only [Option.some.injEq] at h
   subst h
   rcases List.mem_cons.1 ho with e | ho
   ·subst e; exact cAIs_mem h1
   ·exact cOrds_mem h2 o ho
  ·simp at h
theorem ordB_ok {ops : Array Oper} {T : List (Nat × List Nat)} (hT : TOk ops T) {E0 : List Nat} {ord : List AI} (hce : ∀ a ∈ ord, ∃ kill, cAI P N ops a.ix kill = some a) (h : ordB ops T E0 ord = true) :
  OK P N ops ord ∧ ∀ a ∈ ord, hasN E0 a.ix = !isRead a := by
 unfold ordB at h
 simp only [Bool.and_eq_true] at h
 obtain ⟨⟨⟨⟨⟨⟨h1, h2⟩, h3⟩, h4⟩, h5⟩, h6⟩, h7⟩ := h
 obtain ⟨g1, g2, g3⟩ := respB_sound _ _ h2
 refine ⟨⟨⟨g1, fun i => ⟨fun hi => (g2 i hi).1, full_of _ g1 (fun i hi => (g2 i hi).1) (by rw [← Nat.eq_of_beq_eq_true h1]; simp [ixs]) i⟩, fun A i B e x hx => ?_⟩, hce, ?_, ?_, ?_, ?_⟩, ?_⟩
 ·rcases g3 A i B e x hx with h | h
  ·exact h
  ·simp at h
 ·intro A r B e hr
  exact asapB_sound ord [] [] h3 (fun A1 e A2 q => by have := congrArg List.length q; simp at this) A r B (by simpa using e) (by simp) hr
 ·intro a ha t ht b hb hd
  have := List.all_eq_true.1 (List.all_eq_true.1 (List.all_eq_true.1 h4 a ha) t ht) b hb
  rw [hd] at this
  simp only [Nat.beq_refl, Bool.or_eq_true, Bool.and_eq_true, Bool.not_eq_true'] at this
  rcases this with h | ⟨h, h'⟩
  ·exact .inl (hasN_iff.1 h)
  ·exact .inr ⟨h, hT _ _ (hasN_iff.1 h')⟩
 ·intro a ha b hb d e1 e2
  have := List.all_eq_true.1 h5 a ha
  rw [e1] at this
  have := List.all_eq_true.1 this b hb
  rw [e2] at this
  simp only [Nat.beq_refl] at this
  exact Nat.eq_of_beq_eq_true this
 ·intro A e B he hev r hr hrr
  rcases pendB_sound ord [] h6 A e B he hev r (.inl hr) hrr with h | h
  ·exact .inl h
  ·exact .inr (hT _ _ h)
 ·intro a ha
  have := List.all_eq_true.1 h7 a ha
  cases hr : isRead a with
  | true => rw [hr] at this; simpa using this
  | false => rw [hr] at this; simpa using this
theorem Rel.drew {κ : K} {h : H} {w : World} (hr : Rel κ h w) (n : Nat) : Rel κ h { w with drawn := n } :=
 ⟨hr.S, hr.SO, hr.nb, hr.nv, hr.bx, hr.vc, hr.rest, hr.os, hr.out, hr.tape⟩
theorem AT.regD {ks : List AItem} {env : Env} {h : H} {ords : List (List AI)} (k : ∀ o ∈ ords, ATD P N chkD f ks Q [] o env h) : AT P N chkD f (.code (.regD ords) :: ks) env h Q := by
 intro κ w a k0 cs hcs hr he hd
 cases k0 with
 | nil => simp [CS] at hcs
 | cons x0 k0 =>
  obtain ⟨y, t, e, h3, h4⟩ := hcs
  simp only [List.cons.injEq] at e
  obtain ⟨e1, e2⟩ := e
  subst e1 e2
  cases x0 <;> simp only [CI] at h3
  rename_i c
  obtain ⟨ann, hc⟩ := h3
  cases c <;> simp only [comp] at hc
  case region id ops draw =>
   cases draw with
   | false =>
    simp only at hc
    (repeat' split at hc) <;> simp at hc
   | true =>
    simp only at hc
    split at hc
    case h_2 => simp at hc
    rename_i ls hls
    split at hc
    case h_2 => simp at hc
    rename_i hchk
    simp only [Option.some.injEq, AC.regD.injEq] at hc
    subst hc
    have hce := cOrds_mem hls
    cases ls with
    | nil => simp [chkD] at hchk
    | cons o os =>
     simp only [chkD, Bool.and_eq_true] at hchk
     obtain ⟨c1, c2, c3⟩ := hchk
     have hT : TOk ops (ancT ops (ixs o) []) := ancT_ok _ _ fun i a ha => by simp [look] at ha
     have hst := stepR_region_draw (P := P) (b := baseOf f) (a := a) (k := k0) (cs := cs) (w := w) (ops := ops) (id := id)
     have hL := sched_topo c1 (P.follows .mixedOrders) (w.tape w.drawn (.order (baseOf f).fn id))
     generalize Region.schedule (P.follows .mixedOrders) ops (w.tape w.drawn (.order (baseOf f).fn id)) = L at hst hL
     rw [List.all_eq_true] at c2 c3
     have ho := ordB_ok hT (hce o (by simp)) (c2 o (by simp))
     have hmem := enum_mem hT hL (hasN (evL o)) L [] (evL o).length (evL o) rfl (fun x => ?_) (Nat.le_refl _)
     ·obtain ⟨o', o1, o2⟩ := List.any_eq_true.1 (c3 _ hmem)
      have ho' := ordB_ok hT (hce o' o1) (c2 o' o1)
      refine Ends.of_steps (.one hst) ?_
      exact drawn_run ho'.1 hL (hasN (evL o)) ho'.2 _ o' [] [] L env h κ _ a k0 cs (Nat.le_refl _) (by simp) rfl (by simp) (eqL_eq o2).symm (k o' o1) (hr.drew _) he.1 (fun t _ => he.2 t) h4 hd (by simp)
     ·constructor
      ·intro hx
       rw [hL.mem, ← ho.1.topo.mem]
       refine ⟨?_, hasN_iff.2 hx⟩
       unfold evL at hx
       obtain ⟨b, b1, b2⟩ := mem_ixs.1 hx
       exact mem_ixs.2 ⟨b, (List.mem_filter.1 b1).1, b2⟩
      ·intro hx
       exact hasN_iff.1 hx.2
  all_goals ((repeat' split at hc) <;> simp at hc)
end
end Go.SL
namespace Go.SL
universe u
def inst : AC → AC
 | .regT t i => .reg (t i)
 | .seq a b => .seq (inst a) (inst b)
 | .cond c a b => .cond c (inst a) (inst b)
 | .block id b => .block id (inst b)
 | .loop b => .loop (inst b)
 | .scope b => .scope (inst b)
 | .rangeF f ps a b => .rangeF f ps (inst a) (inst b)
 | c => c
def instI : AItem → AItem
 | .code c => .code (inst c)
 | .lp b => .lp (inst b)
 | .scp b => .scp (inst b)
 | x => x
def bc {α : Sort u} (b : Bool) (x y : α) : α := match b with
 | true => x
 | false => y
@[simp] theorem bc_true {α : Sort u} (x y : α) : bc true x y = x := (rfl)
@[simp] theorem bc_false {α : Sort u} (x y : α) : bc false x y = y := (rfl)
@[simp] theorem bc_not {α : Sort u} (b : Bool) (x y : α) : bc (!b) x y = bc b y x := by cases b <;> rfl
abbrev St := List AItem × Env × H × Bool
def xregs (k : List AItem) (c : Env → H → Bool → St) : List AI → Env → H → Bool → St
 | [], env, h, ob => c env h ob
 | i :: r, env, h, ob => match i.guard with
  | none => match i.op with
   | .o a => match xop h (ev env) a with
    | some (v, h', o) => xregs k c r (put (dels env i.kill) i.dst v) h' (ob && o)
    | none => (.reg (i :: r) :: k, env, h, ob)
   | .call _ _ => (.reg (i :: r) :: k, env, h, ob)
   | .panic _ => (.reg (i :: r) :: k, env, h, ob)
   | .defer _ _ => (.reg (i :: r) :: k, env, h, ob)
  | some (t, want) => match get env t with
   | .d (.bool b) => bc (b == want) (match i.op with
     | .o a => match xop h (ev env) a with
      | some (v, h', o) => xregs k c r (put (dels env i.kill) i.dst v) h' (ob && o)
      | none => (.reg (i :: r) :: k, env, h, ob)
     | .call _ _ => (.reg (i :: r) :: k, env, h, ob)
     | .panic _ => (.reg (i :: r) :: k, env, h, ob)
     | .defer _ _ => (.reg (i :: r) :: k, env, h, ob))
    (xregs k c r (put (dels env i.kill) i.dst skp) h ob)
   | .d (.tup []) => xregs k c r (put (dels env i.kill) i.dst skp) h ob
   | _ => (.reg (i :: r) :: k, env, h, ob)
noncomputable def sameV (a b : V) : Bool := @decide (a = b) (Classical.propDecidable _)
@[simp] theorem sameV_self (a : V) : sameV a a = true := by simp [sameV]
theorem sameV_eq {a b : V} (h : sameV a b = true) : a = b := by simpa [sameV] using h
noncomputable def rdB (h : H) (env : Env) (r : AI) : Bool := match xai h env r with
 | some (v, _, o) => match r.dst with
  | some d => o && sameV (get env d) v
  | none => o
 | none => false
noncomputable def rcB (h : H) (env : Env) (kill : List Nat) : List AI → Bool
 | [] => true
 | r :: l => match hasN kill r.ix && isRead r with
  | true => rdB h env r && rcB h env kill l
  | false => rcB h env kill l
noncomputable def xregD (k : List AItem) (c : Env → H → Bool → St) : List AI → List AI → Env → H → Bool → St
 | _, [], env, h, ob => c env h ob
 | done, r :: l, env, h, ob => match r.guard with
  | none => match r.op with
   | .o a => match xop h (ev env) a with
    | some (v, h', o) => match isRead r with
     | true => xregD k c (r :: done) l (put env r.dst v) h (ob && o)
     | false => match r.kill with
      | [] => xregD k c (r :: done) l (put env r.dst v) h' (ob && o)
      | x :: xs => xregD k c (r :: done) l (put env r.dst v) h' (ob && o && rcB h' (put env r.dst v) (x :: xs) done)
    | none => (.regD done (r :: l) :: k, env, h, ob)
   | .call _ _ => (.regD done (r :: l) :: k, env, h, ob)
   | .panic _ => (.regD done (r :: l) :: k, env, h, ob)
   | .defer _ _ => (.regD done (r :: l) :: k, env, h, ob)
  | some (t, want) => match get env t with
   | .d (.bool b) => bc (b == want) (match r.op with
     | .o a => match xop h (ev env) a with
      | some (v, h', o) => match isRead r with
       | true => xregD k c (r :: done) l (put env r.dst v) h (ob && o)
       | false => match r.kill with
        | [] => xregD k c (r :: done) l (put env r.dst v) h' (ob && o)
        | x :: xs => xregD k c (r :: done) l (put env r.dst v) h' (ob && o && rcB h' (put env r.dst v) (x :: xs) done)
      | none => (.regD done (r :: l) :: k, env, h, ob)
     | .call _ _ => (.regD done (r :: l) :: k, env, h, ob)
     | .panic _ => (.regD done (r :: l) :: k, env, h, ob)
     | .defer _ _ => (.regD done (r :: l) :: k, env, h, ob))
    (match isRead r with
     | true => xregD k c (r :: done) l (put env r.dst skp) h ob
     | false => match r.kill with
      | [] => xregD k c (r :: done) l (put env r.dst skp) h ob
      | x :: xs => xregD k c (r :: done) l (put env r.dst skp) h (ob && rcB h (put env r.dst skp) (x :: xs) done))
   | .d (.tup []) => match isRead r with
     | true => xregD k c (r :: done) l (put env r.dst skp) h ob
     | false => match r.kill with
      | [] => xregD k c (r :: done) l (put env r.dst skp) h ob
      | x :: xs => xregD k c (r :: done) l (put env r.dst skp) h (ob && rcB h (put env r.dst skp) (x :: xs) done)
   | _ => (.regD done (r :: l) :: k, env, h, ob)
noncomputable def goes : Nat → List AItem → Env → H → Bool → St
 | 0, ks, env, h, ob => (ks, env, h, ob)
 | n + 1, .code .skip :: k, env, h, ob => goes n k env h ob
 | n + 1, .blk _ :: k, env, h, ob => goes n k env h ob
 | n + 1, .scp _ :: k, env, h, ob => goes n k env h ob
 | n + 1, .code (.seq a b) :: k, env, h, ob => goes n (.code a :: .code b :: k) env h ob
 | n + 1, .code (.cond c a b) :: k, env, h, ob => match ev env c with
  | .d (.bool t) => bc t (goes n (.code a :: k) env h ob) (goes n (.code b :: k) env h ob)
  | _ => (.code (.cond c a b) :: k, env, h, ob)
 | n + 1, .code (.block id b) :: k, env, h, ob => goes n (.code b :: .blk id :: k) env h ob
 | n + 1, .code (.scope b) :: k, env, h, ob => goes n (.code b :: .scp b :: k) env h ob
 | n + 1, .code (.exit id) :: k, env, h, ob => match aexit id k with
  | some k' => goes n k' env h ob
  | none => (.code (.exit id) :: k, env, h, ob)
 | n + 1, .code (.regT t i) :: k, env, h, ob => xregs k (goes n k) (t i) env h ob
 | n + 1, .reg l :: k, env, h, ob => xregs k (goes n k) l env h ob
 | n + 1, .code (.regD [o]) :: k, env, h, ob => xregD k (goes n k) [] o env h ob
 | n + 1, .regD d l :: k, env, h, ob => xregD k (goes n k) d l env h ob
 | _ + 1, ks, env, h, ob => (ks, env, h, ob)
section
variable {P : Program} {N : Nat} {f : FD} {Q : Out → H → Prop}
def ATX (P : Program) (N : Nat) (f : FD) (Q : Out → H → Prop) : List AItem → Env → H → Prop
 | .regD done l :: k, env, h => ATD P N chkD f k Q done l env h
 | ks, env, h => AT P N chkD f ks env h Q
def ATT (P : Program) (N : Nat) (f : FD) (Q : Out → H → Prop) : List AItem × Env × H × Bool → Prop
 | (ks, env, h, ob) => ob = true ∧ ATX P N f Q (ks.map instI) env h
theorem ATX.at {ks : List AItem} {env : Env} {h : H} (k : ATX P N f Q ks env h) : AT P N chkD f ks env h Q := by
 unfold ATX at k
 split at k
 ·intro κ w a k0 cs hcs
  cases k0 with
  | nil => simp [CS] at hcs
  | cons x k0 =>
   obtain ⟨y, t, e, h1, _⟩ := hcs
   simp only [List.cons.injEq] at e
   rw [← e.1] at h1
   cases x <;> simp [CI] at h1
 ·exact k
theorem ATX.of {x : AItem} {ks : List AItem} {env : Env} {h : H} (hx : ∀ d l, x ≠ .regD d l) (k : AT P N chkD f (x :: ks) env h Q) : ATX P N f Q (x :: ks) env h := by
 unfold ATX
 split
 ·rename_i e
  simp only [List.cons.injEq] at e
  exact absurd e.1 (hx _ _)
 ·exact k
theorem rdB_sound {h : H} {env : Env} {r : AI} (e : rdB h env r = true) (hr : isRead r = true) : RDok h env r := by
 unfold rdB at e
 split at e
 ·rename_i v h' o hx
  have := xai_quiet hr hx
  subst this
  split at e
  ·rename_i d hd
   simp only [Bool.and_eq_true] at e
   obtain ⟨e1, e2⟩ := e
   subst e1
   exact ⟨v, hx, fun d' hd' => by rw [hd] at hd'; simp only [Option.some.injEq] at hd'; subst hd'; exact sameV_eq e2⟩
  ·rename_i hd
   subst e
   exact ⟨v, hx, fun d' hd' => by rw [hd] at hd'; simp at hd'⟩
 ·simp at e
theorem rcB_sound {h : H} {env : Env} {kill : List Nat} : ∀ {l : List AI}, rcB h env kill l = true → RC h env l kill
 | [], _ => fun r hr => by simp at hr
 | r :: l, e => by
  have rd : rdB h env r = true → isRead r = true → RDok h env r := rdB_sound
  simp only [rcB] at e
  split at e
  ·rename_i hk
   simp only [Bool.and_eq_true] at e hk
   intro r' hr' hm hrr
   rcases List.mem_cons.1 hr' with e' | hr'
   ·subst e'; exact rd e.1 hrr
   ·exact rcB_sound e.2 r' hr' hm hrr
  ·rename_i hk
   intro r' hr' hm hrr
   rcases List.mem_cons.1 hr' with e' | hr'
   ·subst e'
    rw [hasN_iff.2 hm, hrr] at hk; simp at hk
   ·exact rcB_sound e r' hr' hm hrr
theorem xai_mask {h : H} {env : Env} {i : AI} : xai h (mask (slI i) env) i = xai h env i :=
 xai_congr h i fun t ht => by rw [get_mask, if_pos ht]
theorem ATT.bc {b : Bool} {x y : St} (h1 : b = true → ATT P N f Q x) (h2 : b = false → ATT P N f Q y) : ATT P N f Q (bc b x y) := by
 cases b with
 | true => exact h1 rfl
 | false => exact h2 rfl
theorem xregD_sound {k : List AItem} {c : Env → H → Bool → St} (hc : ∀ env h ob, ATT P N f Q (c env h ob) → ob = true ∧ AT P N chkD f (k.map instI) env h Q) : ∀ (l done : List AI) (env : Env) (h : H) (ob : Bool),
  ATT P N f Q (xregD k c done l env h ob) → ob = true ∧ ATD P N chkD f (k.map instI) Q done l env h
 | [], done, env, h, ob, e => by
  simp only [xregD] at e
  exact hc _ _ _ e
 | r :: l, done, env, h, ob, e => by
  have stop : ATT P N f Q (.regD done (r :: l) :: k, env, h, ob) → ob = true ∧ ATD P N chkD f (k.map instI) Q done (r :: l) env h := id
  have on : ∀ {v : V} {h' : H} {o : Bool}, xai h env r = some (v, h', o) → ATT P N f Q (match isRead r with
     | true => xregD k c (r :: done) l (put env r.dst v) h (ob && o)
     | false => match r.kill with
      | [] => xregD k c (r :: done) l (put env r.dst v) h' (ob && o)
      | x :: xs => xregD k c (r :: done) l (put env r.dst v) h' (ob && o && rcB h' (put env r.dst v) (x :: xs) done)) → ob = true ∧ ATD P N chkD f (k.map instI) Q done (r :: l) env h := by
   intro v h1 o hx e
   split at e
   ·rename_i hr
    obtain ⟨g1, g2⟩ := xregD_sound hc l _ _ _ _ e
    simp only [Bool.and_eq_true] at g1
    obtain ⟨g1, g3⟩ := g1
    subst g3
    have := xai_quiet hr hx
    subst this
    refine ⟨g1, ?_⟩
    simp only [ATD, hr]
    exact ⟨v, hx, g2⟩
   ·rename_i hr
    have fin : ∀ (hob : ob = true ∧ o = true) (hrc : RC h1 (put env r.dst v) done r.kill) (g2 : ATD P N chkD f (k.map instI) Q (r :: done) l (put env r.dst v) h1),
      ob = true ∧ ATD P N chkD f (k.map instI) Q done (r :: l) env h := fun hob hrc g2 => by
     refine ⟨hob.1, ?_⟩
     simp only [ATD, hr]
     exact EV.o (by rw [xai_mask]; exact hx) hob.2 ⟨hrc, g2⟩
    split at e
    ·rename_i hk
     obtain ⟨g1, g2⟩ := xregD_sound hc l _ _ _ _ e
     simp only [Bool.and_eq_true] at g1
     exact fin g1 (by rw [hk]; intro r' _ hm; simp at hm) g2
    ·rename_i k0 ks0 hk
     obtain ⟨g1, g2⟩ := xregD_sound hc l _ _ _ _ e
     simp only [Bool.and_eq_true] at g1
     exact fin g1.1 (by rw [hk]; exact rcB_sound g1.2) g2
  simp only [xregD] at e
  split at e
  ·rename_i hg
   split at e
   ·rename_i a hop
    split at e
    ·rename_i v h1 o hx
     exact on (by simp only [xai, hg, hop]; exact hx) e
    ·exact stop e
   ·exact stop e
   ·exact stop e
   ·exact stop e
  ·rename_i t want hg
   split at e
   ·rename_i b hb
    cases hbw : b == want with
    | true =>
     rw [hbw, bc_true] at e
     split at e
     ·rename_i a hop
      split at e
      ·rename_i v h1 o hx
       exact on (by simp only [xai, hg, hop, hb, hbw]; exact hx) e
      ·exact stop e
     ·exact stop e
     ·exact stop e
     ·exact stop e
    | false =>
     rw [hbw, bc_false] at e
     exact on (v := skp) (h' := h) (o := true) (by simp only [xai, hg, hb, hbw]) (by simpa only [Bool.and_true] using e)
   ·rename_i hb
    exact on (v := skp) (h' := h) (o := true) (by simp only [xai, hg, hb]) (by simpa only [Bool.and_true] using e)
   ·exact stop e
theorem exit_inst (id : Nat) : ∀ (k k' : List AItem), aexit id k = some k' → aexit id (k.map instI) = some (k'.map instI)
 | [], k', h => by simp [aexit] at h
 | x :: k, k', h => by
  cases x with
  | blk id' =>
   simp only [aexit, List.map_cons, instI] at h ⊢
   split at h
   ·simp only [Option.some.injEq] at h; subst h; rfl
   ·exact exit_inst id k k' h
  | _ => simp only [aexit, List.map_cons, instI] at h ⊢; exact exit_inst id k k' h
theorem xregs_sound {k : List AItem} {c : Env → H → Bool → St} (hc : ∀ env h ob, ATT P N f Q (c env h ob) → ob = true ∧ AT P N chkD f (k.map instI) env h Q) : ∀ (l : List AI) (env : Env) (h : H) (ob : Bool),
  ATT P N f Q (xregs k c l env h ob) → ob = true ∧ AT P N chkD f (.reg l :: k.map instI) env h Q
 | [], env, h, ob, e => by
  simp only [xregs] at e
  obtain ⟨g1, g2⟩ := hc _ _ _ e
  exact ⟨g1, AT.step (go := false) (by simp only [step1]) rfl g2⟩
 | i :: r, env, h, ob, e => by
  have stop : ATT P N f Q (.reg (i :: r) :: k, env, h, ob) → ob = true ∧ AT P N chkD f (.reg (i :: r) :: k.map instI) env h Q := id
  have on : ∀ {v : V} {h1 : H} {o : Bool}, step1 false (.reg (i :: r) :: k.map instI) env h = some (.reg r :: k.map instI, put (dels env i.kill) i.dst v, h1, o) →
    ATT P N f Q (xregs k c r (put (dels env i.kill) i.dst v) h1 (ob && o)) → ob = true ∧ AT P N chkD f (.reg (i :: r) :: k.map instI) env h Q := fun {v h1 o} s e => by
   obtain ⟨g1, g2⟩ := xregs_sound hc r _ _ _ e
   simp only [Bool.and_eq_true] at g1
   exact ⟨g1.1, AT.step s g1.2 g2⟩
  simp only [xregs] at e
  split at e
  ·rename_i hg
   split at e
   ·rename_i a hop
    split at e
    ·rename_i v h1 o hx
     exact on (by simp only [step1, hg, hop, hx]) e
    ·exact stop e
   ·exact stop e
   ·exact stop e
   ·exact stop e
  ·rename_i t want hg
   split at e
   ·rename_i b hb
    cases hbw : b == want with
    | true =>
     rw [hbw, bc_true] at e
     split at e
     ·rename_i a hop
      split at e
      ·rename_i v h1 o hx
       exact on (by simp only [step1, hg, hop, hx, hb, hbw]) e
      ·exact stop e
     ·exact stop e
     ·exact stop e
     ·exact stop e
    | false =>
     rw [hbw, bc_false] at e
     exact on (v := skp) (h1 := h) (o := true) (by simp only [step1, hg, hb, hbw]) (by simpa only [Bool.and_true] using e)
   ·rename_i hb
    exact on (v := skp) (h1 := h) (o := true) (by simp only [step1, hg, hb]) (by simpa only [Bool.and_true] using e)
   ·exact stop e
theorem goes_sound : ∀ (n : Nat) (ks : List AItem) (env : Env) (h : H) (ob : Bool), ATT P N f Q (goes n ks env h ob) → ATT P N f Q (ks, env, h, ob)
 | 0, ks, env, h, ob, k => by simpa only [goes] using k
 | n + 1, ks, env, h, ob, k => by
  have on : ∀ {ks' : List AItem}, (∀ (hh : AT P N chkD f (ks'.map instI) env h Q), AT P N chkD f (ks.map instI) env h Q) → (AT P N chkD f (ks.map instI) env h Q → ATX P N f Q (ks.map instI) env h) → ATT P N f Q (goes n ks' env h ob) → ATT P N f Q (ks, env, h, ob) := fun {ks'} hs hX k => by
   have := goes_sound n ks' env h ob k
   exact ⟨this.1, hX (hs this.2.at)⟩
  have hc : ∀ (k : List AItem) (env : Env) (h : H) (ob : Bool), ATT P N f Q (goes n k env h ob) → ob = true ∧ AT P N chkD f (k.map instI) env h Q := fun k env h ob e => by
   have := goes_sound n k env h ob e
   exact ⟨this.1, this.2.at⟩
  cases ks with
  | nil => simpa only [goes] using k
  | cons x ks =>
   cases x with
   | blk id => exact on (fun hh => AT.step (go := false) (by simp only [List.map_cons, instI, step1]; rfl) rfl hh) (fun hh => hh) (by simpa only [goes] using k)
   | scp b => exact on (fun hh => AT.step (go := false) (by simp only [List.map_cons, instI, step1]; rfl) rfl hh) (fun hh => hh) (by simpa only [goes] using k)
   | lp b => simpa only [goes] using k
   | begin => simpa only [goes] using k
   | regD done l => exact xregD_sound (hc ks) l done env h ob (by simpa only [goes] using k)
   | reg l => exact xregs_sound (hc ks) l env h ob (by simpa only [goes] using k)
   | code c =>
    cases c with
    | skip => exact on (fun hh => AT.step (go := false) (by simp only [List.map_cons, instI, inst, step1]; rfl) rfl hh) (fun hh => hh) (by simpa only [goes] using k)
    | seq a b => exact on (ks' := .code a :: .code b :: ks) (fun hh => AT.step (go := false) (by simp only [List.map_cons, instI, inst, step1]) rfl hh) (fun hh => hh) (by simpa only [goes] using k)
    | block id b => exact on (ks' := .code b :: .blk id :: ks) (fun hh => AT.step (go := false) (by simp only [List.map_cons, instI, inst, step1]) rfl hh) (fun hh => hh) (by simpa only [goes] using k)
    | scope b => exact on (ks' := .code b :: .scp b :: ks) (fun hh => AT.step (go := false) (by simp only [List.map_cons, instI, inst, step1]) rfl hh) (fun hh => hh) (by simpa only [goes] using k)
    | cond c a b =>
     simp only [goes] at k
     split at k
     ·rename_i t ht
      cases t with
      | true => exact on (ks' := .code a :: ks) (fun hh => AT.step (go := false) (by simp only [List.map_cons, instI, inst, step1, ht]) rfl hh) (fun hh => hh) k
      | false => exact on (ks' := .code b :: ks) (fun hh => AT.step (go := false) (by simp only [List.map_cons, instI, inst, step1, ht]) rfl hh) (fun hh => hh) k
     ·exact k
    | exit id =>
     simp only [goes] at k
     split at k
     ·rename_i k' hx
      exact on (fun hh => AT.step (go := false) (by simp only [List.map_cons, instI, inst, step1, exit_inst _ _ _ hx]) rfl hh) (fun hh => hh) k
     ·exact k
    | regT t i =>
     obtain ⟨g1, g2⟩ := xregs_sound (hc ks) (t i) env h ob (by simpa only [goes] using k)
     exact ⟨g1, AT.step (go := false) (by simp only [instI, inst, step1]) rfl g2⟩
    | regD ords =>
     cases ords with
     | nil => simpa only [goes] using k
     | cons o os =>
      cases os with
      | cons _ _ => simpa only [goes] using k
      | nil =>
       obtain ⟨g1, g2⟩ := xregD_sound (hc ks) o [] env h ob (by simpa only [goes] using k)
       exact ⟨g1, AT.regD fun o' ho => by
        have : o' = o := by simpa using ho
        subst this
        exact g2⟩
    | _ => simpa only [goes] using k
theorem AF.start {f : FuncId} {fn : Func} {c : Code} {ac : AC} {ann : Ann} {args : List V} {h : H} (n : Nat) (hf : P.funcs[f]? = some fn) (hb : fn.body = some c) (hn : fn.ntmps = N) (hcal : callable P f = true)
  (hc : comp P N ann chkD c = some (inst ac)) (k : ATT P N (.of f) Q (goes n [.code ac] (env0 0 args) h true)) : AF P f args h Q :=
 AF.of hf hb hn hcal hc (goes_sound n _ _ _ _ k).2.at
theorem AT.goes {ks : List AItem} {env : Env} {h : H} (n : Nat) (k : ATT P N f Q (goes n ks env h true)) : AT P N chkD f (ks.map instI) env h Q := (goes_sound n _ _ _ _ k).2.at
end
end Go.SL
namespace Go.SL
attribute [simp] env0 xop xai xload xstore putV ev get put dels del val getR putR mkAgg closeL V.cells D.cells ones V.one lget sbnd SL.icmp fillR groups aexit agoto alabel instI inst hasN isRead rdB rcB cur vsz szOk elems xappend
def orK (k : IntKind) (a b : Int) : Int := k.wrap (BitVec.ofInt k.bits a ||| BitVec.ofInt k.bits b).toNat
@[simp] theorem iop_or (k : IntKind) (a b : Int) : iop .or k a b = some (orK k a b, true) := rfl
@[simp] theorem iop_rem (k : IntKind) (a b : Int) : iop .rem k a b = some (a.tmod b, !decide (b = 0)) := rfl
@[simp] theorem iop_add_i64 (a b : Int) : iop .add .i64 a b = some (a + b, inI (a + b)) := rfl
@[simp] theorem iop_sub_i64 (a b : Int) : iop .sub .i64 a b = some (a - b, inI (a - b)) := rfl
@[simp] theorem iop_mul_i64 (a b : Int) : iop .mul .i64 a b = some (a * b, inI (a * b)) := rfl
@[simp] theorem iop_quo_i64 (a b : Int) : iop .quo .i64 a b = some (a.tdiv b, !decide (b = 0) && inI (a.tdiv b)) := rfl
@[simp] theorem iop_add_u8 (a b : Int) : iop .add .u8 a b = some (IntKind.u8.wrap (a + b), true) := rfl
@[simp] theorem iop_sub_u8 (a b : Int) : iop .sub .u8 a b = some (IntKind.u8.wrap (a - b), true) := rfl
@[simp] theorem iop_mul_u8 (a b : Int) : iop .mul .u8 a b = some (IntKind.u8.wrap (a * b), true) := rfl
@[simp] theorem iop_quo_u8 (a b : Int) : iop .quo .u8 a b = some (IntKind.u8.wrap (a.tdiv b), !decide (b = 0)) := rfl
@[simp] theorem iop_add_u16 (a b : Int) : iop .add .u16 a b = some (IntKind.u16.wrap (a + b), true) := rfl
@[simp] theorem iop_sub_u16 (a b : Int) : iop .sub .u16 a b = some (IntKind.u16.wrap (a - b), true) := rfl
@[simp] theorem iop_mul_u16 (a b : Int) : iop .mul .u16 a b = some (IntKind.u16.wrap (a * b), true) := rfl
@[simp] theorem iop_quo_u16 (a b : Int) : iop .quo .u16 a b = some (IntKind.u16.wrap (a.tdiv b), !decide (b = 0)) := rfl
@[simp] theorem iop_add_u32 (a b : Int) : iop .add .u32 a b = some (IntKind.u32.wrap (a + b), true) := rfl
@[simp] theorem iop_sub_u32 (a b : Int) : iop .sub .u32 a b = some (IntKind.u32.wrap (a - b), true) := rfl
@[simp] theorem iop_mul_u32 (a b : Int) : iop .mul .u32 a b = some (IntKind.u32.wrap (a * b), true) := rfl
@[simp] theorem iop_quo_u32 (a b : Int) : iop .quo .u32 a b = some (IntKind.u32.wrap (a.tdiv b), !decide (b = 0)) := rfl
@[simp] theorem iop_add_u64 (a b : Int) : iop .add .u64 a b = some (IntKind.u64.wrap (a + b), true) := rfl
@[simp] theorem iop_sub_u64 (a b : Int) : iop .sub .u64 a b = some (IntKind.u64.wrap (a - b), true) := rfl
@[simp] theorem iop_mul_u64 (a b : Int) : iop .mul .u64 a b = some (IntKind.u64.wrap (a * b), true) := rfl
@[simp] theorem iop_quo_u64 (a b : Int) : iop .quo .u64 a b = some (IntKind.u64.wrap (a.tdiv b), !decide (b = 0)) := rfl
@[simp] theorem iop_add_i32 (a b : Int) : iop .add .i32 a b = some (IntKind.i32.wrap (a + b), true) := rfl
@[simp] theorem iop_sub_i32 (a b : Int) : iop .sub .i32 a b = some (IntKind.i32.wrap (a - b), true) := rfl
@[simp] theorem iop_mul_i32 (a b : Int) : iop .mul .i32 a b = some (IntKind.i32.wrap (a * b), true) := rfl
@[simp] theorem iop_quo_i32 (a b : Int) : iop .quo .i32 a b = some (IntKind.i32.wrap (a.tdiv b), !decide (b = 0)) := rfl
theorem inI_of {a : Int} (h : -9223372036854775808 ≤ a) (h' : a ≤ 9223372036854775807) : inI a = true := by simp [inI, h, h']
theorem inR_of {a : Int} {n : Nat} (h : 0 ≤ a) (h' : a < n) : inR a n = true := by simp [inR, h, h']
noncomputable def xR (n : Nat) (k : List AItem) (l : List AI) (env : Env) (h : H) (ob : Bool) : St := xregs k (goes n k) l env h ob
noncomputable def xD (n : Nat) (k : List AItem) (done l : List AI) (env : Env) (h : H) (ob : Bool) : St := xregD k (goes n k) done l env h ob
noncomputable def stC (b : Bool) (n : Nat) (k : List AItem) (i : AI) (r : List AI) (env : Env) (h : H) (ob : Bool) : St :=
 bc b (match i.op with
  | .o a => match xop h (ev env) a with
   | some (v, h', o) => xR n k r (put (dels env i.kill) i.dst v) h' (ob && o)
   | none => (.reg (i :: r) :: k, env, h, ob)
  | .call _ _ => (.reg (i :: r) :: k, env, h, ob)
  | .panic _ => (.reg (i :: r) :: k, env, h, ob)
  | .defer _ _ => (.reg (i :: r) :: k, env, h, ob)) (xR n k r (put (dels env i.kill) i.dst skp) h ob)
noncomputable def stE (b : Bool) (n : Nat) (k : List AItem) (done : List AI) (r : AI) (l : List AI) (env : Env) (h : H) (ob : Bool) : St :=
 bc b (match r.op with
     | .o a => match xop h (ev env) a with
      | some (v, h', o) => match isRead r with
       | true => xD n k (r :: done) l (put env r.dst v) h (ob && o)
       | false => match r.kill with
        | [] => xD n k (r :: done) l (put env r.dst v) h' (ob && o)
        | x :: xs => xD n k (r :: done) l (put env r.dst v) h' (ob && o && rcB h' (put env r.dst v) (x :: xs) done)
      | none => (.regD done (r :: l) :: k, env, h, ob)
     | .call _ _ => (.regD done (r :: l) :: k, env, h, ob)
     | .panic _ => (.regD done (r :: l) :: k, env, h, ob)
     | .defer _ _ => (.regD done (r :: l) :: k, env, h, ob))
    (match isRead r with
     | true => xD n k (r :: done) l (put env r.dst skp) h ob
     | false => match r.kill with
      | [] => xD n k (r :: done) l (put env r.dst skp) h ob
      | x :: xs => xD n k (r :: done) l (put env r.dst skp) h (ob && rcB h (put env r.dst skp) (x :: xs) done))
noncomputable def stD (t : Bool) (n : Nat) (k : List AItem) (a b : AC) (env : Env) (h : H) (ob : Bool) : St := bc t (goes n (.code a :: k) env h ob) (goes n (.code b :: k) env h ob)
section
variable (n ix : Nat) (k : List AItem) (r l d : List AI) (env : Env) (h : H) (ob : Bool) (dst : Option Nat) (kill : List Nat) (t : Nat) (want : Bool) (a b : AC) (c : Opd) (id : Nat) (i : AI)
@[simp] theorem goes_zero (ks : List AItem) : goes 0 ks env h ob = (ks, env, h, ob) := by simp only [goes]
@[simp] theorem goes_skip : goes (n + 1) (.code .skip :: k) env h ob = goes n k env h ob := by simp only [goes]
@[simp] theorem goes_label : goes (n + 1) (.code (.label t) :: k) env h ob = (.code (.label t) :: k, env, h, ob) := by simp only [goes]
@[simp] theorem goes_blk : goes (n + 1) (.blk id :: k) env h ob = goes n k env h ob := by simp only [goes]
@[simp] theorem goes_scp : goes (n + 1) (.scp a :: k) env h ob = goes n k env h ob := by simp only [goes]
@[simp] theorem goes_seq : goes (n + 1) (.code (.seq a b) :: k) env h ob = goes n (.code a :: .code b :: k) env h ob := by simp only [goes]
@[simp] theorem goes_cond : goes (n + 1) (.code (.cond c a b) :: k) env h ob = match ev env c with
  | .d (.bool t) => stD t n k a b env h ob
  | _ => (.code (.cond c a b) :: k, env, h, ob) := by simp only [goes] <;> rfl
@[simp] theorem stD_true : stD true n k a b env h ob = goes n (.code a :: k) env h ob := (rfl)
@[simp] theorem stD_false : stD false n k a b env h ob = goes n (.code b :: k) env h ob := (rfl)
@[simp] theorem goes_block : goes (n + 1) (.code (.block id b) :: k) env h ob = goes n (.code b :: .blk id :: k) env h ob := by simp only [goes]
@[simp] theorem goes_scope : goes (n + 1) (.code (.scope b) :: k) env h ob = goes n (.code b :: .scp b :: k) env h ob := by simp only [goes]
@[simp] theorem goes_exit : goes (n + 1) (.code (.exit id) :: k) env h ob = match aexit id k with
  | some k' => goes n k' env h ob
  | none => (.code (.exit id) :: k, env, h, ob) := by simp only [goes] <;> rfl
@[simp] theorem goes_regT (f : Nat → List AI) : goes (n + 1) (.code (.regT f t) :: k) env h ob = xR n k (f t) env h ob := by simp only [goes] <;> rfl
@[simp] theorem goes_reg : goes (n + 1) (.reg l :: k) env h ob = xR n k l env h ob := by simp only [goes] <;> rfl
@[simp] theorem goes_regD : goes (n + 1) (.code (.regD [l]) :: k) env h ob = xD n k [] l env h ob := by simp only [goes] <;> rfl
@[simp] theorem goes_regD2 : goes (n + 1) (.regD d l :: k) env h ob = xD n k d l env h ob := by simp only [goes] <;> rfl
@[simp] theorem goes_loop : goes (n + 1) (.code (.loop b) :: k) env h ob = (.code (.loop b) :: k, env, h, ob) := by simp only [goes]
@[simp] theorem goes_lp : goes (n + 1) (.lp b :: k) env h ob = (.lp b :: k, env, h, ob) := by simp only [goes]
@[simp] theorem goes_ret : goes (n + 1) (.code .ret :: k) env h ob = (.code .ret :: k, env, h, ob) := by simp only [goes]
@[simp] theorem goes_goto : goes (n + 1) (.code (.goto t) :: k) env h ob = (.code (.goto t) :: k, env, h, ob) := by simp only [goes]
@[simp] theorem goes_nil : goes (n + 1) [] env h ob = ([], env, h, ob) := by simp only [goes]
@[simp] theorem goes_regDs (o1 o2 : List AI) (os : List (List AI)) : goes (n + 1) (.code (.regD (o1 :: o2 :: os)) :: k) env h ob = (.code (.regD (o1 :: o2 :: os)) :: k, env, h, ob) := by simp only [goes]
@[simp] theorem xR_nil : xR n k [] env h ob = goes n k env h ob := by simp only [xR, xregs]
@[simp] theorem xR_o (o : AO) : xR n k (⟨ix, dst, .o o, none, kill⟩ :: r) env h ob = match xop h (ev env) o with
  | some (v, h', q) => xR n k r (put (dels env kill) dst v) h' (ob && q)
  | none => (.reg (⟨ix, dst, .o o, none, kill⟩ :: r) :: k, env, h, ob) := by simp only [xR, xregs] <;> rfl
@[simp] theorem xR_call (g : Opd) (ags : List Opd) : xR n k (⟨ix, dst, .call g ags, none, kill⟩ :: r) env h ob = (.reg (⟨ix, dst, .call g ags, none, kill⟩ :: r) :: k, env, h, ob) := by simp only [xR, xregs]
@[simp] theorem xR_panic (g : Opd) : xR n k (⟨ix, dst, .panic g, none, kill⟩ :: r) env h ob = (.reg (⟨ix, dst, .panic g, none, kill⟩ :: r) :: k, env, h, ob) := by simp only [xR, xregs]
@[simp] theorem xR_defer (g : Opd) (ags : List Opd) : xR n k (⟨ix, dst, .defer g ags, none, kill⟩ :: r) env h ob = (.reg (⟨ix, dst, .defer g ags, none, kill⟩ :: r) :: k, env, h, ob) := by simp only [xR, xregs]
@[simp] theorem xR_g (o : AOp) : xR n k (⟨ix, dst, o, some (t, want), kill⟩ :: r) env h ob = match get env t with
  | .d (.bool b) => stC (b == want) n k ⟨ix, dst, o, some (t, want), kill⟩ r env h ob
  | .d (.tup []) => xR n k r (put (dels env kill) dst skp) h ob
  | _ => (.reg (⟨ix, dst, o, some (t, want), kill⟩ :: r) :: k, env, h, ob) := by simp only [xR, xregs] <;> rfl
@[simp] theorem stC_o (o : AO) (g : Option (Nat × Bool)) : stC true n k ⟨ix, dst, .o o, g, kill⟩ r env h ob = match xop h (ev env) o with
  | some (v, h', q) => xR n k r (put (dels env kill) dst v) h' (ob && q)
  | none => (.reg (⟨ix, dst, .o o, g, kill⟩ :: r) :: k, env, h, ob) := by simp only [stC, bc]
@[simp] theorem stC_call (g : Opd) (ags : List Opd) (gd : Option (Nat × Bool)) : stC true n k ⟨ix, dst, .call g ags, gd, kill⟩ r env h ob = (.reg (⟨ix, dst, .call g ags, gd, kill⟩ :: r) :: k, env, h, ob) := by simp only [stC, bc]
@[simp] theorem stC_panic (g : Opd) (gd : Option (Nat × Bool)) : stC true n k ⟨ix, dst, .panic g, gd, kill⟩ r env h ob = (.reg (⟨ix, dst, .panic g, gd, kill⟩ :: r) :: k, env, h, ob) := by simp only [stC, bc]
@[simp] theorem stC_no (o : AOp) (g : Option (Nat × Bool)) : stC false n k ⟨ix, dst, o, g, kill⟩ r env h ob = xR n k r (put (dels env kill) dst skp) h ob := by simp only [stC, bc]
@[simp] theorem xD_nil : xD n k d [] env h ob = goes n k env h ob := by simp only [xD, xregD]
@[simp] theorem xD_o (o : AO) : xD n k d (⟨ix, dst, .o o, none, kill⟩ :: r) env h ob = match xop h (ev env) o with
  | some (v, h', q) => match isRead ⟨ix, dst, .o o, none, kill⟩ with
   | true => xD n k (⟨ix, dst, .o o, none, kill⟩ :: d) r (put env dst v) h (ob && q)
   | false => match kill with
    | [] => xD n k (⟨ix, dst, .o o, none, kill⟩ :: d) r (put env dst v) h' (ob && q)
    | x :: xs => xD n k (⟨ix, dst, .o o, none, kill⟩ :: d) r (put env dst v) h' (ob && q && rcB h' (put env dst v) (x :: xs) d)
  | none => (.regD d (⟨ix, dst, .o o, none, kill⟩ :: r) :: k, env, h, ob) := by simp only [xD, xregD] <;> rfl
@[simp] theorem xD_call (g : Opd) (ags : List Opd) : xD n k d (⟨ix, dst, .call g ags, none, kill⟩ :: r) env h ob = (.regD d (⟨ix, dst, .call g ags, none, kill⟩ :: r) :: k, env, h, ob) := by simp only [xD, xregD]
@[simp] theorem xD_panic (g : Opd) : xD n k d (⟨ix, dst, .panic g, none, kill⟩ :: r) env h ob = (.regD d (⟨ix, dst, .panic g, none, kill⟩ :: r) :: k, env, h, ob) := by simp only [xD, xregD]
@[simp] theorem xD_g (o : AOp) : xD n k d (⟨ix, dst, o, some (t, want), kill⟩ :: r) env h ob = match get env t with
  | .d (.bool b) => stE (b == want) n k d ⟨ix, dst, o, some (t, want), kill⟩ r env h ob
  | .d (.tup []) => stE false n k d ⟨ix, dst, o, some (t, want), kill⟩ r env h ob
  | _ => (.regD d (⟨ix, dst, o, some (t, want), kill⟩ :: r) :: k, env, h, ob) := by simp only [xD, xregD] <;> rfl
@[simp] theorem stE_o (o : AO) (g : Option (Nat × Bool)) : stE true n k d ⟨ix, dst, .o o, g, kill⟩ r env h ob = match xop h (ev env) o with
  | some (v, h', q) => match isRead ⟨ix, dst, .o o, g, kill⟩ with
   | true => xD n k (⟨ix, dst, .o o, g, kill⟩ :: d) r (put env dst v) h (ob && q)
   | false => match kill with
    | [] => xD n k (⟨ix, dst, .o o, g, kill⟩ :: d) r (put env dst v) h' (ob && q)
    | x :: xs => xD n k (⟨ix, dst, .o o, g, kill⟩ :: d) r (put env dst v) h' (ob && q && rcB h' (put env dst v) (x :: xs) d)
  | none => (.regD d (⟨ix, dst, .o o, g, kill⟩ :: r) :: k, env, h, ob) := by simp only [stE, bc]
@[simp] theorem stE_call (g : Opd) (ags : List Opd) (gd : Option (Nat × Bool)) : stE true n k d ⟨ix, dst, .call g ags, gd, kill⟩ r env h ob = (.regD d (⟨ix, dst, .call g ags, gd, kill⟩ :: r) :: k, env, h, ob) := by simp only [stE, bc]
@[simp] theorem stE_panic (g : Opd) (gd : Option (Nat × Bool)) : stE true n k d ⟨ix, dst, .panic g, gd, kill⟩ r env h ob = (.regD d (⟨ix, dst, .panic g, gd, kill⟩ :: r) :: k, env, h, ob) := by simp only [stE, bc]
@[simp] theorem stE_no (o : AOp) (g : Option (Nat × Bool)) : stE false n k d ⟨ix, dst, o, g, kill⟩ r env h ob = match isRead ⟨ix, dst, o, g, kill⟩ with
  | true => xD n k (⟨ix, dst, o, g, kill⟩ :: d) r (put env dst skp) h ob
  | false => match kill with
   | [] => xD n k (⟨ix, dst, o, g, kill⟩ :: d) r (put env dst skp) h ob
   | x :: xs => xD n k (⟨ix, dst, o, g, kill⟩ :: d) r (put env dst skp) h (ob && rcB h (put env dst skp) (x :: xs) d) := by simp only [stE, bc]
end
section
variable {P : Program} {N : Nat} {f : FD} {Q : Out → H → Prop}
theorem ATT.cC {p : Prop} [Decidable p] {n : Nat} {k : List AItem} {i : AI} {r : List AI} {env : Env} {h : H} {ob : Bool} (h1 : p → ATT P N f Q (stC true n k i r env h ob)) (h2 : ¬p → ATT P N f Q (stC false n k i r env h ob)) : ATT P N f Q (stC (decide p) n k i r env h ob) := by
 by_cases hp : p
 ·rw [decide_eq_true hp]; exact h1 hp
 ·rw [decide_eq_false hp]; exact h2 hp
theorem ATT.cE {p : Prop} [Decidable p] {n : Nat} {k : List AItem} {d : List AI} {i : AI} {r : List AI} {env : Env} {h : H} {ob : Bool} (h1 : p → ATT P N f Q (stE true n k d i r env h ob)) (h2 : ¬p → ATT P N f Q (stE false n k d i r env h ob)) : ATT P N f Q (stE (decide p) n k d i r env h ob) := by
 by_cases hp : p
 ·rw [decide_eq_true hp]; exact h1 hp
 ·rw [decide_eq_false hp]; exact h2 hp
theorem ATT.cD {p : Prop} [Decidable p] {n : Nat} {k : List AItem} {a b : AC} {env : Env} {h : H} {ob : Bool} (h1 : p → ATT P N f Q (stD true n k a b env h ob)) (h2 : ¬p → ATT P N f Q (stD false n k a b env h ob)) : ATT P N f Q (stD (decide p) n k a b env h ob) := by
 by_cases hp : p
 ·rw [decide_eq_true hp]; exact h1 hp
 ·rw [decide_eq_false hp]; exact h2 hp
theorem ATT.ret {fn : Func} (hf : P.funcs[f.fn]? = some fn) {rs : List ARes} (h1 : cRess P fn.results.toList = some rs) (z : Bool) {ks : List AItem} (hks : ks = [] ∨ ∃ k, ks = .code .ret :: k) {env : Env} {h : H} {ob : Bool} {vs : List V} (h2 : aress h env rs = some vs)
  (ho : ob = true) (hQ : match z with | true => Q (.ret (fzV h (outV vs))) (fzH h) | false => Q (.ret (outV vs)) h) (hdv : f.pln = true := by rfl) : ATT P N f Q (ks, env, h, ob) := by
 refine ⟨ho, ?_⟩
 have key : AT P N chkD f (ks.map instI) env h Q := AT.ret hf h1 z (by
  rcases hks with e | ⟨k, e⟩
  ·subst e; exact .inl rfl
  ·subst e; exact .inr ⟨k.map instI, rfl⟩) h2 hQ hdv
 rcases hks with e | ⟨k, e⟩
 ·subst e; exact key
 ·subst e; exact key
theorem ATT.fin {fn : Func} (hf : P.funcs[f.fn]? = some fn) {rs : List ARes} (h1 : cRess P fn.results.toList = some rs) {k : List AItem} {env : Env} {h : H} {ob : Bool}
  (hq : ob = true ∧ match aress h env rs with | some vs => Q (.ret (outV vs)) h | none => False) (hdv : f.pln = true := by rfl) : ATT P N f Q (.code .ret :: k, env, h, ob) := by
 obtain ⟨ho, hq⟩ := hq
 split at hq
 ·rename_i vs e
  exact ATT.ret hf h1 false (.inr ⟨k, rfl⟩) e ho hq hdv
 ·exact hq.elim
theorem ATT.fin0 {fn : Func} (hf : P.funcs[f.fn]? = some fn) {rs : List ARes} (h1 : cRess P fn.results.toList = some rs) {env : Env} {h : H} {ob : Bool}
  (hq : ob = true ∧ match aress h env rs with | some vs => Q (.ret (outV vs)) h | none => False) (hdv : f.pln = true := by rfl) : ATT P N f Q ([], env, h, ob) := by
 obtain ⟨ho, hq⟩ := hq
 split at hq
 ·rename_i vs e
  exact ATT.ret hf h1 false (.inl rfl) e ho hq hdv
 ·exact hq.elim
def DF (P : Program) (f : FuncId) (args : List D) (v : D) : Prop := AF P f (args.map .d) ⟨[], []⟩ fun o _ => o = .ret (.d v)
@[simp] theorem rns_data (rb rv : List Nat) : ∀ l : List D, rns rb rv (l.map .d) = l.map .d
 | [] => rfl
 | x :: l => by simp [rns, rn, rns_data rb rv l]
@[simp] theorem insc_data (n m : Nat) : ∀ l : List D, insc n m (l.map .d) = true
 | [] => rfl
 | x :: l => by simp [insc, isin, insc_data n m l]
@[simp] theorem upH_nil (h hc : H) : upH h hc [] [] 0 0 = h := by
 simp [upH, setAll]
theorem sub_nil (h : H) : Sub h ⟨[], []⟩ [] [] := by simp [Sub]
theorem EV.mask {ai : AI} {env : Env} {h : H} {Φ : V → H → Prop} (k : ∀ env', (∀ t ∈ slI ai, get env' t = get env t) → EV P N f ai env' h Q Φ) : EV P N f ai (mask (slI ai) env) h Q Φ :=
 k _ fun t ht => by rw [get_mask, if_pos ht]
theorem gOk_congr {env env' : Env} {ai : AI} (he : ∀ t ∈ slI ai, get env' t = get env t) (h : gOk env ai.guard) : gOk env' ai.guard := by
 unfold slI at he
 unfold gOk at h ⊢
 cases hg : ai.guard with
 | none => trivial
 | some p =>
  obtain ⟨t, w⟩ := p
  rw [hg] at he h
  simp only at h ⊢
  rw [he t (by simp)]
  exact h
theorem calls_congr {env env' : Env} {ai : AI} {g : Opd} {args : List Opd} (hop : ai.op = .call g args) (he : ∀ t ∈ slI ai, get env' t = get env t) : ev env' g = ev env g ∧ args.map (ev env') = args.map (ev env) := by
 unfold slI at he
 rw [hop] at he
 simp only [List.mem_append] at he
 exact ⟨congO (f := ev env') (g := ev env) (fun _ => rfl) fun t ht => he t (.inl (.inl ht)), congL (f := ev env') (g := ev env) (fun _ => rfl) fun t ht => he t (.inl (.inr ht))⟩
theorem ATT.call {fn : Func} (hf : P.funcs[f.fn]? = some fn) {ix : Nat} {dst : Option Nat} {g : Opd} {args : List Opd} {guard : Option (Nat × Bool)} {kill : List Nat} {r : List AI} {k : List AItem} {env : Env} {h : H} {ob : Bool} {fid : FuncId} {all : List V}
  (hg : gOk env guard) (hc : calls (ev env g) (args.map (ev env)) = some (fid, all))
  (rb rv : List Nat) (kb kv : Nat) {hC : H} {argsC : List V} {QC : Out → H → Prop} (n : Nat) (hAF : AF P fid argsC hC QC) (hs : Sub h hC rb rv) (hsc : insc rb.length rv.length argsC = true) (hargs : rns rb rv argsC = all) (ho : ob = true)
  (hk : ∀ out hC', QC out hC' → (rb.length + kb ≤ hC'.bx.length ∧ rv.length + kv ≤ hC'.vc.length) ∧ match out with
   | .ret v => ATT P N f Q (goes n (.reg r :: k) (put (dels env kill) dst (rn (upB rb h.bx.length kb) (upB rv h.vc.length kv) v)) (upH h hC' rb rv kb kv) true)
   | .pan v => Q (.pan (rn (upB rb h.bx.length kb) (upB rv h.vc.length kv) v)) (upH h hC' rb rv kb kv)) (hkp : subE env f.keep := by exact True.intro) : ATT P N f Q (.reg (⟨ix, dst, .call g args, guard, kill⟩ :: r) :: k, env, h, ob) := by
 refine ⟨ho, ?_⟩
 refine AT.call (hkp := hkp) (ai := ⟨ix, dst, .call g args, guard, kill⟩) hf rfl hg hc rb rv kb kv hs hsc hargs hAF fun out hC' hq => ?_
 obtain ⟨h1, h2⟩ := hk out hC' hq
 refine ⟨h1, ?_⟩
 cases out with
 | ret v => exact (goes_sound n _ _ _ _ h2).2.at
 | pan v => exact h2
theorem ATT.callR {fn : Func} (hf : P.funcs[f.fn]? = some fn) {ix : Nat} {dst : Option Nat} {g : Opd} {args : List Opd} {guard : Option (Nat × Bool)} {kill : List Nat} {d r : List AI} {k : List AItem} {env : Env} {h : H} {ob : Bool} {fid : FuncId} {all : List V}
  (hg : gOk env guard) (hc : calls (ev env g) (args.map (ev env)) = some (fid, all))
  (rb rv : List Nat) (kb kv : Nat) {hC : H} {argsC : List V} {QC : Out → H → Prop} (n : Nat) (hAF : AF P fid argsC hC QC) (hs : Sub h hC rb rv) (hsc : insc rb.length rv.length argsC = true) (hargs : rns rb rv argsC = all) (ho : ob = true)
  (hk : ∀ out hC', QC out hC' → (rb.length + kb ≤ hC'.bx.length ∧ rv.length + kv ≤ hC'.vc.length) ∧ match out with
   | .ret v => ATT P N f Q (goes n (.regD (⟨ix, dst, .call g args, guard, kill⟩ :: d) r :: k) (put env dst (rn (upB rb h.bx.length kb) (upB rv h.vc.length kv) v)) (upH h hC' rb rv kb kv)
     (rcB (upH h hC' rb rv kb kv) (put env dst (rn (upB rb h.bx.length kb) (upB rv h.vc.length kv) v)) kill d))
   | .pan v => Q (.pan (rn (upB rb h.bx.length kb) (upB rv h.vc.length kv) v)) (upH h hC' rb rv kb kv)) (hk0 : f.keep = [] := by rfl) : ATT P N f Q (.regD d (⟨ix, dst, .call g args, guard, kill⟩ :: r) :: k, env, h, ob) := by
 refine ⟨ho, ?_⟩
 show ATD P N chkD f (k.map instI) Q d (⟨ix, dst, .call g args, guard, kill⟩ :: r) env h
 simp only [ATD, isRead]
 refine EV.mask fun env' he => ?_
 obtain ⟨c1, c2⟩ := calls_congr (ai := ⟨ix, dst, .call g args, guard, kill⟩) rfl he
 refine EV.call (hk0 := hk0) (ai := ⟨ix, dst, .call g args, guard, kill⟩) hf rfl (gOk_congr he hg) (by rw [c1, c2]; exact hc) rb rv kb kv hs hsc hargs hAF fun out hC' hq => ?_
 obtain ⟨h1, h2⟩ := hk out hC' hq
 refine ⟨h1, ?_⟩
 cases out with
 | ret v =>
  obtain ⟨q1, q2⟩ := goes_sound n _ _ _ _ h2
  exact ⟨rcB_sound q1, q2⟩
 | pan v => exact h2
theorem ATT.callD {fn : Func} (hf : P.funcs[f.fn]? = some fn) {ix : Nat} {dst : Option Nat} {g : Opd} {args : List Opd} {guard : Option (Nat × Bool)} {kill : List Nat} {r : List AI} {k : List AItem} {env : Env} {h : H} {ob : Bool} {fid : FuncId} {ds : List D} {v : D}
  (n : Nat) (hAF : DF P fid ds v) (hg : gOk env guard) (hc : calls (ev env g) (args.map (ev env)) = some (fid, ds.map .d)) (ho : ob = true)
  (hk : ATT P N f Q (goes n (.reg r :: k) (put (dels env kill) dst (.d v)) h true)) (hkp : subE env f.keep := by exact True.intro) : ATT P N f Q (.reg (⟨ix, dst, .call g args, guard, kill⟩ :: r) :: k, env, h, ob) := by
 refine ATT.call (hkp := hkp) hf hg hc [] [] 0 0 n hAF (sub_nil h) (insc_data _ _ _) (rns_data _ _ _) ho fun out hC' hq => ⟨by simp, ?_⟩
 subst hq
 simp only [rn, upH_nil]
 exact hk
theorem ATT.callRD {fn : Func} (hf : P.funcs[f.fn]? = some fn) {ix : Nat} {dst : Option Nat} {g : Opd} {args : List Opd} {guard : Option (Nat × Bool)} {kill : List Nat} {d r : List AI} {k : List AItem} {env : Env} {h : H} {ob : Bool} {fid : FuncId} {ds : List D} {v : D}
  (n : Nat) (hAF : DF P fid ds v) (hg : gOk env guard) (hc : calls (ev env g) (args.map (ev env)) = some (fid, ds.map .d)) (ho : ob = true)
  (hk : ATT P N f Q (goes n (.regD (⟨ix, dst, .call g args, guard, kill⟩ :: d) r :: k) (put env dst (.d v)) h (rcB h (put env dst (.d v)) kill d))) (hk0 : f.keep = [] := by rfl) : ATT P N f Q (.regD d (⟨ix, dst, .call g args, guard, kill⟩ :: r) :: k, env, h, ob) := by
 refine ATT.callR (hk0 := hk0) hf hg hc [] [] 0 0 n hAF (sub_nil h) (insc_data _ _ _) (rns_data _ _ _) ho fun out hC' hq => ⟨by simp, ?_⟩
 subst hq
 simp only [rn, upH_nil]
 exact hk
def MF (P : Program) (f : FuncId) (args : List V) (b : List Bx) (v : V) (b' : List Bx) : Prop := AF P f args ⟨b, []⟩ fun o h => o = .ret v ∧ ∃ r w, h = ⟨b' ++ r, w⟩
theorem setAll_app {α : Type} : ∀ (r : List Nat) (l xs ys : List α), xs.length = r.length → setAll l r (xs ++ ys) = setAll l r xs
 | [], l, xs, ys, h => by cases xs <;> simp_all [setAll]
 | i :: r, l, [], ys, h => by simp at h
 | i :: r, l, x :: xs, ys, h => by
  simp only [List.cons_append, setAll]
  exact setAll_app r _ xs ys (by simpa using h)
theorem upH_keep {h : H} {b' r : List Bx} {w : List (Option Vec)} {rb : List Nat} (hl : b'.length = rb.length) : upH h ⟨b' ++ r, w⟩ rb [] 0 0 = ⟨setAll h.bx rb (b'.map (rnB rb [])), h.vc⟩ := by
 unfold upH upB
 simp only [List.range_zero, List.map_nil, List.append_nil, List.take_zero, List.map_append]
 rw [setAll_app _ _ _ _ (by simpa using hl)]
 cases w <;> simp [setAll]
theorem ATT.callM {fn : Func} (hf : P.funcs[f.fn]? = some fn) {ix : Nat} {dst : Option Nat} {g : Opd} {args : List Opd} {guard : Option (Nat × Bool)} {kill : List Nat} {r : List AI} {k : List AItem} {env : Env} {h : H} {ob : Bool} {fid : FuncId} {argsC : List V} {b b' : List Bx} {v : V}
  (n : Nat) (rb : List Nat) (hM : MF P fid argsC b v b') (hl : b'.length = rb.length) (hg : gOk env guard) (hc : calls (ev env g) (args.map (ev env)) = some (fid, rns rb [] argsC)) (hs : Sub h ⟨b, []⟩ rb []) (hsc : insc rb.length 0 argsC = true) (ho : ob = true)
  (hk : ATT P N f Q (goes n (.reg r :: k) (put (dels env kill) dst (rn rb [] v)) ⟨setAll h.bx rb (b'.map (rnB rb [])), h.vc⟩ true)) (hkp : subE env f.keep := by exact True.intro) : ATT P N f Q (.reg (⟨ix, dst, .call g args, guard, kill⟩ :: r) :: k, env, h, ob) := by
 refine ATT.call (hkp := hkp) hf hg hc rb [] 0 0 n hM hs hsc rfl ho fun out hC' hq => ?_
 obtain ⟨e1, r', w', e2⟩ := hq
 subst e1 e2
 refine ⟨by simp [hl], ?_⟩
 simp only [upH_keep hl, upB, List.range_zero, List.map_nil, List.append_nil]
 exact hk
theorem ATT.callRM {fn : Func} (hf : P.funcs[f.fn]? = some fn) {ix : Nat} {dst : Option Nat} {g : Opd} {args : List Opd} {guard : Option (Nat × Bool)} {kill : List Nat} {d r : List AI} {k : List AItem} {env : Env} {h : H} {ob : Bool} {fid : FuncId} {argsC : List V} {b b' : List Bx} {v : V}
  (n : Nat) (rb : List Nat) (hM : MF P fid argsC b v b') (hl : b'.length = rb.length) (hg : gOk env guard) (hc : calls (ev env g) (args.map (ev env)) = some (fid, rns rb [] argsC)) (hs : Sub h ⟨b, []⟩ rb []) (hsc : insc rb.length 0 argsC = true) (ho : ob = true)
  (hk : ATT P N f Q (goes n (.regD (⟨ix, dst, .call g args, guard, kill⟩ :: d) r :: k) (put env dst (rn rb [] v)) ⟨setAll h.bx rb (b'.map (rnB rb [])), h.vc⟩ (rcB ⟨setAll h.bx rb (b'.map (rnB rb [])), h.vc⟩ (put env dst (rn rb [] v)) kill d))) (hk0 : f.keep = [] := by rfl) :
  ATT P N f Q (.regD d (⟨ix, dst, .call g args, guard, kill⟩ :: r) :: k, env, h, ob) := by
 refine ATT.callR (hk0 := hk0) hf hg hc rb [] 0 0 n hM hs hsc rfl ho fun out hC' hq => ?_
 obtain ⟨e1, r', w', e2⟩ := hq
 subst e1 e2
 refine ⟨by simp [hl], ?_⟩
 simp only [upH_keep hl, upB, List.range_zero, List.map_nil, List.append_nil]
 exact hk
attribute [simp] setAll rn rns rnB isin insc inscB calls gOk Sub aress ares outV mkTup
theorem ATT.callX {ix : Nat} {dst : Option Nat} {g : Opd} {args : List Opd} {guard : Option (Nat × Bool)} {kill : List Nat} {r : List AI} {k : List AItem} {env : Env} {h : H} {ob : Bool} {fid : FuncId} {all : List V} {v : V}
  (n : Nat) (hX : XF P fid all v) (hg : gOk env guard) (hc : calls (ev env g) (args.map (ev env)) = some (fid, all)) (ho : ob = true)
  (hk : ATT P N f Q (goes n (.reg r :: k) (put (dels env kill) dst v) h true)) : ATT P N f Q (.reg (⟨ix, dst, .call g args, guard, kill⟩ :: r) :: k, env, h, ob) := by
 refine ⟨ho, ?_⟩
 refine AT.ev (ai := ⟨ix, dst, .call g args, guard, kill⟩) (Φ := fun v' h' => v' = v ∧ h' = h) (EV.ext rfl hg hc hX ⟨rfl, rfl⟩) fun v' h' ⟨e1, e2⟩ => ?_
 subst e1 e2
 exact (goes_sound n _ _ _ _ hk).2.at
theorem ATT.loop {b : AC} {k : List AItem} {env : Env} {h : H} {ob : Bool} (n : Nat) (ho : ob = true) (hk : ATT P N f Q (goes n (.code b :: .lp b :: k) env h true)) : ATT P N f Q (.code (.loop b) :: k, env, h, ob) :=
 ⟨ho, AT.step (go := true) (by simp only [List.map_cons, instI, inst, step1]) rfl (goes_sound n _ _ _ _ hk).2.at⟩
theorem ATT.again {b : AC} {k : List AItem} {env : Env} {h : H} {ob : Bool} (n : Nat) (ho : ob = true) (hk : ATT P N f Q (goes n (.code b :: .lp b :: k) env h true)) : ATT P N f Q (.lp b :: k, env, h, ob) :=
 ⟨ho, AT.step (go := true) (by simp only [List.map_cons, instI, step1]) rfl (goes_sound n _ _ _ _ hk).2.at⟩
theorem subE_weak {e : Env} : ∀ {e' : Env}, subE e e' → ∀ t, get e' t = .dead ∨ get e' t = get e t
 | [], _, t => .inl rfl
 | (k, v) :: r, h, t => by
  simp only [get]
  by_cases hk : k = t
  ·subst hk; rw [Nat.beq_refl]; exact .inr h.1.symm
  ·rw [beq_ne hk]; exact subE_weak h.2 t
attribute [simp] subE
def LP (P : Program) (N : Nat) (f : FD) (Q : Out → H → Prop) (b : AC) (k : List AItem) (env : Env) (h : H) : Prop := AT P N chkD f ((.code b :: .lp b :: k).map instI) env h Q
theorem ATT.loop' {b : AC} {k : List AItem} {env : Env} {h : H} {ob : Bool} (env' : Env) (ho : ob = true) (he : subE env env') (hk : LP P N f Q b k env' h) : ATT P N f Q (.code (.loop b) :: k, env, h, ob) :=
 ⟨ho, AT.step (go := true) (by simp only [List.map_cons, instI, inst, step1]) rfl (AT.weak (subE_weak he) hk)⟩
theorem ATT.again' {b : AC} {k : List AItem} {env : Env} {h : H} {ob : Bool} (env' : Env) (ho : ob = true) (he : subE env env') (hk : LP P N f Q b k env' h) : ATT P N f Q (.lp b :: k, env, h, ob) :=
 ⟨ho, AT.step (go := true) (by simp only [List.map_cons, instI, step1]) rfl (AT.weak (subE_weak he) hk)⟩
theorem LP.of {b c : AC} {k : List AItem} {env : Env} {h : H} (n : Nat) (hb : b = c) (hk : ATT P N f Q (goes n (.code c :: .lp b :: k) env h true)) : LP P N f Q b k env h := by
 subst hb
 exact AT.goes n hk
theorem alabel_inst : ∀ (c : AC) (l : Nat), alabel (inst c) l = (alabel c l).map inst := by
 intro c
 induction c with
 | seq a b iha ihb =>
  intro l
  simp only [inst, alabel, iha, ihb]
  cases alabel a l <;> rfl
 | label l' => intro l; simp only [inst, alabel]; split <;> rfl
 | _ => intro l; rfl
theorem agoto_inst (l : Nat) : ∀ k : List AItem, agoto l (k.map instI) = (agoto l k).map (List.map instI)
 | [] => rfl
 | x :: k => by
  cases x with
  | scp b =>
   simp only [List.map_cons, instI, agoto, alabel_inst]
   cases alabel b l with
   | none => exact agoto_inst l k
   | some r => rfl
  | _ => simp only [List.map_cons, instI, agoto]; exact agoto_inst l k
theorem ATT.goto {l : Nat} {k k' : List AItem} {env : Env} {h : H} {ob : Bool} (env' : Env) (ho : ob = true) (hk' : agoto l k = some k') (he : subE env env') (hk : AT P N chkD f (k'.map instI) env' h Q) : ATT P N f Q (.code (.goto l) :: k, env, h, ob) :=
 ⟨ho, AT.step (go := true) (by simp only [instI, inst, step1, agoto_inst, hk', Option.map_some]) rfl (AT.weak (subE_weak he) hk)⟩
end
end Go.SL
namespace Go.SL
section
variable {P : Program} {N : Nat} {f : FD} {Q : Out → H → Prop}
theorem ATT.cCn {p : Prop} [Decidable p] {n : Nat} {k : List AItem} {i : AI} {r : List AI} {env : Env} {h : H} {ob : Bool} (h1 : p → ATT P N f Q (stC false n k i r env h ob)) (h2 : ¬p → ATT P N f Q (stC true n k i r env h ob)) : ATT P N f Q (stC (!decide p) n k i r env h ob) := by
 by_cases hp : p
 ·rw [decide_eq_true hp]; exact h1 hp
 ·rw [decide_eq_false hp]; exact h2 hp
theorem ATT.cEn {p : Prop} [Decidable p] {n : Nat} {k : List AItem} {d : List AI} {i : AI} {r : List AI} {env : Env} {h : H} {ob : Bool} (h1 : p → ATT P N f Q (stE false n k d i r env h ob)) (h2 : ¬p → ATT P N f Q (stE true n k d i r env h ob)) : ATT P N f Q (stE (!decide p) n k d i r env h ob) := by
 by_cases hp : p
 ·rw [decide_eq_true hp]; exact h1 hp
 ·rw [decide_eq_false hp]; exact h2 hp
theorem ATT.cDn {p : Prop} [Decidable p] {n : Nat} {k : List AItem} {a b : AC} {env : Env} {h : H} {ob : Bool} (h1 : p → ATT P N f Q (stD false n k a b env h ob)) (h2 : ¬p → ATT P N f Q (stD true n k a b env h ob)) : ATT P N f Q (stD (!decide p) n k a b env h ob) := by
 by_cases hp : p
 ·rw [decide_eq_true hp]; exact h1 hp
 ·rw [decide_eq_false hp]; exact h2 hp
theorem ATT.loopI {b c : AC} {k : List AItem} {env : Env} {h : H} {ob : Bool} {ι : Type} (n : Nat) (hb : b = c) (m : ι → Nat) (I : ι → Prop) (E : ι → Env) (Hh : ι → H) (x0 : ι) (h0 : I x0)
  (ho : ob = true) (he : subE env (E x0)) (hh : h = Hh x0)
  (body : ∀ x, I x → (∀ y, m y < m x → I y → ∀ env h ob, ob = true → subE env (E y) → h = Hh y → ATT P N f Q (.lp b :: k, env, h, ob)) →
   ATT P N f Q (goes n (.code c :: .lp b :: k) (E x) (Hh x) true)) : ATT P N f Q (.code (.loop b) :: k, env, h, ob) := by
 have key : ∀ j x, m x = j → I x → LP P N f Q b k (E x) (Hh x) := by
  intro j
  induction j using Nat.strongRecOn with
  | ind j ih =>
   intro x hx hI
   subst hb
   refine LP.of n rfl (body x hI fun y hy hIy env h ob ho he hh => ?_)
   subst hh
   exact ATT.again' (E y) ho he (ih (m y) (hx ▸ hy) y rfl hIy)
 subst hh
 exact ATT.loop' (E x0) ho he (key _ x0 rfl h0)
def flat : Nat → List AItem → List AItem
 | 0, k => k
 | n + 1, .code (.seq a b) :: k => flat n (.code a :: .code b :: k)
 | n + 1, .code .skip :: k => flat n k
 | n + 1, .code (.label _) :: k => flat n k
 | _ + 1, k => k
theorem AT.flat : ∀ (n : Nat) (k : List AItem) {env : Env} {h : H}, AT P N chkD f ((SL.flat n k).map instI) env h Q → AT P N chkD f (k.map instI) env h Q
 | 0, _, _, _, g => g
 | n + 1, k, env, h, g => by
  cases k with
  | nil => exact g
  | cons x k =>
   cases x with
   | code c =>
    cases c with
    | seq a b => exact AT.step (go := false) (by simp only [List.map_cons, instI, inst, step1]) rfl (AT.flat n (.code a :: .code b :: k) g)
    | skip => exact AT.step (go := false) (by simp only [List.map_cons, instI, inst, step1]) rfl (AT.flat n k g)
    | label l => exact AT.step (go := false) (by simp only [List.map_cons, instI, inst, step1]) rfl (AT.flat n k g)
    | _ => exact g
   | _ => exact g
theorem ATT.pass {l : Nat} {k : List AItem} {env : Env} {h : H} {ob : Bool} (n : Nat) (ho : ob = true) (hk : ATT P N f Q (goes n k env h true)) : ATT P N f Q (.code (.label l) :: k, env, h, ob) :=
 ⟨ho, AT.step (go := false) (by simp only [instI, inst, step1]) rfl (AT.goes n hk)⟩
theorem ATT.jump {l : Nat} {k k' : List AItem} {env : Env} {h : H} {ob : Bool} (n : Nat) (ho : ob = true) (hk' : agoto l k = some k') (hk : ATT P N f Q (goes n k' env h true)) : ATT P N f Q (.code (.goto l) :: k, env, h, ob) :=
 ⟨ho, AT.step (go := true) (by simp only [instI, inst, step1, agoto_inst, hk', Option.map_some]) rfl (AT.goes n hk)⟩
theorem ATT.labelI {l : Nat} {k k' : List AItem} {env : Env} {h : H} {ob : Bool} {ι : Type} (n : Nat) (_hl : agoto l k = some k') (hk : SL.flat 20 k' = SL.flat 20 k) (m : ι → Nat) (I : ι → Prop) (E : ι → Env) (Hh : ι → H) (x0 : ι) (h0 : I x0)
  (ho : ob = true) (he : subE env (E x0)) (hh : h = Hh x0)
  (body : ∀ x, I x → (∀ y, m y < m x → I y → ∀ k1 env h ob, agoto l k1 = some k' → ob = true → subE env (E y) → h = Hh y → ATT P N f Q (.code (.goto l) :: k1, env, h, ob)) →
   ATT P N f Q (goes n (SL.flat 20 k) (E x) (Hh x) true)) : ATT P N f Q (.code (.label l) :: k, env, h, ob) := by
 have key : ∀ j x, m x = j → I x → AT P N chkD f ((SL.flat 20 k).map instI) (E x) (Hh x) Q := by
  intro j
  induction j using Nat.strongRecOn with
  | ind j ih =>
   intro x hx hI
   refine AT.goes n (body x hI fun y hy hIy k1 env h ob hk1 ho he hh => ?_)
   subst hh
   exact ATT.goto (E y) ho hk1 he (AT.flat 20 k' (by rw [hk]; exact ih (m y) (hx ▸ hy) y rfl hIy))
 subst hh
 exact ⟨ho, AT.step (go := false) (by simp only [instI, inst, step1]) rfl (AT.flat 20 k (AT.weak (subE_weak he) (key _ x0 rfl h0)))⟩
end
end Go.SL
namespace Go.SL
section
variable {P : Program} {N : Nat} {f : FD} {Q : Out → H → Prop}
theorem VL.setv {κ : K} : ∀ {xs : List V} {ys : List Value} {j : Nat} {x : V} {y : Value}, VL κ xs ys → ys[j]? = some y → VR κ x y → VL κ (xs.set j x) ys
 | [], ys, j, x, y, r, e, _ => by simp only [VL] at r; subst r; simp at e
 | z :: xs, ys, j, x, y, r, e, hx => by
  simp only [VL] at r
  obtain ⟨y', t, e1, r1, r2⟩ := r
  subst e1
  cases j with
  | zero =>
   simp at e; subst e
   simp only [List.set_cons_zero, VL]
   exact ⟨_, _, rfl, hx, r2⟩
  | succ j =>
   simp only [List.set_cons_succ, VL]
   exact ⟨_, _, rfl, r1, VL.setv r2 (by simpa using e) hx⟩
theorem nil_slice {κ : K} {z : Nat} {v : Value} (h : VR κ (.d (.sl true z [])) v) : v = .slice none 0 0 := by
 simp only [VR, DR] at h
 rcases h with ⟨_, _, h⟩ | ⟨h, _⟩
 ·exact h
 ·simp at h
theorem AT.nilB {chk : Array Oper → List (List AI) → Bool} {ks : List AItem} {env : Env} {h : H} {i j z : Nat} {cs : List V} {e : TypeId} (hb : h.bx[i]? = some (.cells cs e)) (hc : cs[j]? = some (.d (.sl true z []))) (sz : Nat) (hz : 0 < sz) (e' : TypeId)
  (k : AT P N chk f ks env ⟨h.bx.set i (.cells (cs.set j (.vs h.vc.length 0 0 0)) e), h.vc ++ [some ⟨true, sz, 0, [], e'⟩]⟩ Q) : AT P N chk f ks env h Q := by
 intro κ w a k0 cs0 hcs hr he hd
 obtain ⟨κ', r1, l1, r2⟩ := hr.nilVec ⟨true, sz, 0, [], e'⟩ rfl rfl hz
 have hbx := r1.bx i _ hb
 obtain ⟨g1, vs, g2, g3⟩ := hbx
 obtain ⟨y, g4, g5⟩ := VL.get g3.1 j _ hc
 have := nil_slice g5
 subst this
 have r3 := r1.setBox (w' := w) hb (by simp) (fun _ _ => rfl) rfl rfl rfl (x := .cells (cs.set j (.vs h.vc.length 0 0 0)) e) ⟨g1, vs, g2, VL.setv g3.1 g4 r2, g3.2⟩
 exact (k κ' w a k0 cs0 hcs r3 (he.mono l1) (hd.mono l1)).le l1
theorem AT.nilE {chk : Array Oper → List (List AI) → Bool} {ks : List AItem} {env : Env} {h : H} {t z : Nat} (hc : get env t = .d (.sl true z [])) (sz : Nat) (hz : 0 < sz) (e' : TypeId)
  (k : AT P N chk f ks (put env (some t) (.vs h.vc.length 0 0 0)) ⟨h.bx, h.vc ++ [some ⟨true, sz, 0, [], e'⟩]⟩ Q) : AT P N chk f ks env h Q := by
 intro κ w a k0 cs0 hcs hr he hd
 obtain ⟨κ', r1, l1, r2⟩ := hr.nilVec ⟨true, sz, 0, [], e'⟩ rfl rfl hz
 have he' := he.mono l1
 refine (k κ' w a k0 cs0 hcs r1 ⟨he'.1, fun t' => ?_⟩ (hd.mono l1)).le l1
 simp only [SL.put, get]
 by_cases ht : t = t'
 ·subst ht
  rw [Nat.beq_refl]
  have h1 := he'.2 t
  rw [hc] at h1
  have := nil_slice h1
  rw [this]
  exact r2
 ·rw [beq_ne ht]
  simp only [get_del, if_neg (Ne.symm ht)]
  exact he'.2 t'
theorem fzV_sound {κ : K} {h : H} {w : World} (r : Rel κ h w) {x : V} {v : Value} (hx : VR κ x v) : VR (fzK κ h w) (fzV h x) v := by
 unfold fzV
 split
 ·rename_i d hd
  simp only [VR]
  exact toDv_sound r _ _ _ _ hd hx
 ·exact hx.mono fz_le
def fzB (h : H) : Bx → Bx
 | .cells cs e => .cells (cs.map (fzV h)) e
 | b => b
theorem VL.fz {κ : K} {h : H} {w : World} (r : Rel κ h w) : ∀ {xs : List V} {ys : List Value}, VL κ xs ys → VL (fzK κ h w) (xs.map (fzV h)) ys
 | [], _, e => by simpa only [VL, List.map_nil] using e
 | x :: xs, ys, e => by
  simp only [VL, List.map_cons] at e ⊢
  obtain ⟨y, t, e1, r1, r2⟩ := e
  exact ⟨y, t, e1, fzV_sound r r1, VL.fz r r2⟩
def fzE (h : H) (env : Env) : Env := env.map fun p => (p.1, fzV h p.2)
theorem get_fzE (h : H) : ∀ (env : Env) (t : Nat), get (fzE h env) t = fzV h (get env t)
 | [], t => by simp [fzE, get, fzV, toDv]
 | (k, v) :: r, t => by
  have ih := get_fzE h r t
  simp only [fzE, List.map_cons, get] at ih ⊢
  split
  ·rfl
  ·exact ih
def fzA (h : H) : H := ⟨h.bx.map (fzB h), h.vc.map fun _ => none⟩
theorem AT.fz {chk : Array Oper → List (List AI) → Bool} {ks : List AItem} {env : Env} {h : H} (k : AT P N chk f ks (fzE h env) (fzA h) Q) : AT P N chk f ks env h Q := by
 intro κ w a k0 cs0 hcs hr he hd
 have hf := fz_rel hr
 have hF : Rel (fzK κ h w) (fzA h) w := ⟨hf.S, hf.SO, by have := hr.nb; show κ.nb = (h.bx.map (fzB h)).length; simpa using this, hf.nv, fun i x hx => by
  simp only [fzA, List.getElem?_map] at hx
  cases hb : h.bx[i]? with
  | none => rw [hb] at hx; simp at hx
  | some b =>
   rw [hb] at hx
   simp only [Option.map_some, Option.some.injEq] at hx
   subst hx
   have h1 := hf.bx i b hb
   cases b with
   | cells cs e =>
    obtain ⟨g1, vs, g2, g3⟩ := h1
    obtain ⟨_, vs', q2, q3⟩ := hr.bx i _ hb
    have q2' : w.heap[(fzK κ h w).bl i]? = some (.cells ⟨vs'⟩ e (0, 0)) := q2
    rw [g2] at q2'
    simp at q2'
    subst q2'
    exact ⟨g1, vs, g2, VL.fz hr q3.1, q3.2⟩
   | iter s p => exact h1
   | raw => exact h1
   | gone => exact h1, hf.vc, hf.rest, hf.os, hf.out, hf.tape⟩
 refine (k (fzK κ h w) w a k0 cs0 hcs hF ⟨he.1, fun t => ?_⟩ (hd.mono fz_le)).le fz_le
 rw [get_fzE]
 exact fzV_sound hr (he.2 t)
theorem ATT.nilB {x : AItem} {ks : List AItem} {env : Env} {h : H} {ob : Bool} (i j : Nat) {z : Nat} {cs : List V} {e : TypeId} (sz : Nat) (e' : TypeId) (hb : h.bx[i]? = some (.cells cs e)) (hc : cs[j]? = some (.d (.sl true z []))) (hz : 0 < sz) (hx : ∀ d l, x ≠ .regD d l)
  (k : ATT P N f Q (x :: ks, env, ⟨h.bx.set i (.cells (cs.set j (.vs h.vc.length 0 0 0)) e), h.vc ++ [some ⟨true, sz, 0, [], e'⟩]⟩, ob)) : ATT P N f Q (x :: ks, env, h, ob) := by
 refine ⟨k.1, ATX.of (x := instI x) (fun d l => ?_) (AT.nilB hb hc sz hz e' k.2.at)⟩
 cases x <;> simp [instI]
 exact fun h1 => absurd (by rw [h1]) (hx _ _)
theorem ATT.nilE {x : AItem} {ks : List AItem} {env : Env} {h : H} {ob : Bool} (t : Nat) {z : Nat} (sz : Nat) (e' : TypeId) (hc : get env t = .d (.sl true z [])) (hz : 0 < sz) (hx : ∀ d l, x ≠ .regD d l)
  (k : ATT P N f Q (x :: ks, put env (some t) (.vs h.vc.length 0 0 0), ⟨h.bx, h.vc ++ [some ⟨true, sz, 0, [], e'⟩]⟩, ob)) : ATT P N f Q (x :: ks, env, h, ob) := by
 refine ⟨k.1, ATX.of (x := instI x) (fun d l => ?_) (AT.nilE hc sz hz e' k.2.at)⟩
 cases x <;> simp [instI]
 exact fun h1 => absurd (by rw [h1]) (hx _ _)
theorem ATT.fz {x : AItem} {ks : List AItem} {env : Env} {h : H} {ob : Bool} (hx : ∀ d l, x ≠ .regD d l)
  (k : ATT P N f Q (x :: ks, fzE h env, fzA h, ob)) : ATT P N f Q (x :: ks, env, h, ob) := by
 refine ⟨k.1, ATX.of (x := instI x) (fun d l => ?_) (AT.fz k.2.at)⟩
 cases x <;> simp [instI]
 exact fun h1 => absurd (by rw [h1]) (hx _ _)
theorem ATT.fz0 {env : Env} {h : H} {ob : Bool} (k : ATT P N f Q ([], fzE h env, fzA h, ob)) : ATT P N f Q ([], env, h, ob) :=
 ⟨k.1, AT.fz k.2⟩
theorem ATT.ords {l : List (List AI)} {k : List AItem} {env : Env} {h : H} {ob : Bool} (n : Nat) (ho : ob = true) (hk : ∀ o ∈ l, ATT P N f Q (xD n k [] o env h true)) : ATT P N f Q (.code (.regD l) :: k, env, h, ob) :=
 ⟨ho, AT.regD fun o' ho' => (xregD_sound (k := k) (c := goes n k) (fun env h ob e => by
  have := goes_sound n k env h ob e
  exact ⟨this.1, this.2.at⟩) o' [] env h true (hk o' ho')).2⟩
def DE (P : Program) (f : FuncId) (args : List D) (Φ : D → Prop) : Prop := AF P f (args.map .d) ⟨[], []⟩ fun o _ => ∃ v, o = .ret (.d v) ∧ Φ v
theorem ATT.callE {fn : Func} (hf : P.funcs[f.fn]? = some fn) {ix : Nat} {dst : Option Nat} {g : Opd} {args : List Opd} {guard : Option (Nat × Bool)} {kill : List Nat} {r : List AI} {k : List AItem} {env : Env} {h : H} {ob : Bool} {fid : FuncId} {ds : List D} {Φ : D → Prop}
  (n : Nat) (hAF : DE P fid ds Φ) (hg : gOk env guard) (hc : calls (ev env g) (args.map (ev env)) = some (fid, ds.map .d)) (ho : ob = true)
  (hk : ∀ v, Φ v → ATT P N f Q (goes n (.reg r :: k) (put (dels env kill) dst (.d v)) h true)) (hkp : subE env f.keep := by exact True.intro) : ATT P N f Q (.reg (⟨ix, dst, .call g args, guard, kill⟩ :: r) :: k, env, h, ob) := by
 refine ATT.call (hkp := hkp) hf hg hc [] [] 0 0 n hAF (sub_nil h) (insc_data _ _ _) (rns_data _ _ _) ho fun out hC' hq => ⟨by simp, ?_⟩
 obtain ⟨v, e, hv⟩ := hq
 subst e
 simp only [rn, upH_nil]
 exact hk v hv
theorem ATT.callRE {fn : Func} (hf : P.funcs[f.fn]? = some fn) {ix : Nat} {dst : Option Nat} {g : Opd} {args : List Opd} {guard : Option (Nat × Bool)} {kill : List Nat} {d r : List AI} {k : List AItem} {env : Env} {h : H} {ob : Bool} {fid : FuncId} {ds : List D} {Φ : D → Prop}
  (n : Nat) (hAF : DE P fid ds Φ) (hg : gOk env guard) (hc : calls (ev env g) (args.map (ev env)) = some (fid, ds.map .d)) (ho : ob = true)
  (hk : ∀ v, Φ v → ATT P N f Q (goes n (.regD (⟨ix, dst, .call g args, guard, kill⟩ :: d) r :: k) (put env dst (.d v)) h (rcB h (put env dst (.d v)) kill d))) (hk0 : f.keep = [] := by rfl) : ATT P N f Q (.regD d (⟨ix, dst, .call g args, guard, kill⟩ :: r) :: k, env, h, ob) := by
 refine ATT.callR (hk0 := hk0) hf hg hc [] [] 0 0 n hAF (sub_nil h) (insc_data _ _ _) (rns_data _ _ _) ho fun out hC' hq => ⟨by simp, ?_⟩
 obtain ⟨v, e, hv⟩ := hq
 subst e
 simp only [rn, upH_nil]
 exact hk v hv
theorem AF.start' {f : FuncId} {fn : Func} {c : Code} {ac : AC} {ann : Ann} {args : List V} {h : H} {Q : Out → H → Prop} (n : Nat) (hf : P.funcs[f]? = some fn) (hb : fn.body = some c) (hn : fn.ntmps = N) (hcal : callable P f = true)
  (hc : comp P N ann chkD c = some (inst ac)) (k : ∀ Q' : Out → H → Prop, (∀ o h, Q o h → Q' o h) → ATT P N (.of f) Q' (goes n [.code ac] (env0 0 args) h true)) : AF P f args h Q :=
 AF.start n hf hb hn hcal hc (k Q fun _ _ h => h)
theorem ATT.fin' {Q Q' : Out → H → Prop} (hQ : ∀ o h, Q o h → Q' o h) {fn : Func} (hf : P.funcs[f.fn]? = some fn) {rs : List ARes} (h1 : cRess P fn.results.toList = some rs) {k : List AItem} {env : Env} {h : H} {ob : Bool}
  (hq : ob = true ∧ match aress h env rs with | some vs => Q (.ret (outV vs)) h | none => False) (hdv : f.pln = true := by rfl) : ATT P N f Q' (.code .ret :: k, env, h, ob) :=
 ATT.fin hf h1 ⟨hq.1, by have := hq.2; split at this <;> rename_i e <;> (try rw [e]) <;> first | exact hQ _ _ this | exact this.elim⟩ hdv
theorem ATT.pan {Q Q' : Out → H → Prop} (hQ : ∀ o h, Q o h → Q' o h) {fn : Func} (hf : P.funcs[f.fn]? = some fn) {ix : Nat} {dst : Option Nat} {x : Opd} {guard : Option (Nat × Bool)} {kill : List Nat} {r : List AI} {k : List AItem} {env : Env} {h : H} {ob : Bool} {t : TypeId} {y : D}
  (hv : ev env x = .d (.iface t y)) (hg : gOk env guard) (ho : ob = true) (hq : Q (.pan (.d (.iface t y))) h) (hkp : subE env f.keep := by exact True.intro) : ATT P N f Q' (.reg (⟨ix, dst, .panic x, guard, kill⟩ :: r) :: k, env, h, ob) :=
 ⟨ho, AT.panic (ai := ⟨ix, dst, .panic x, guard, kill⟩) hf rfl hg hv (.inr ⟨t, y, rfl⟩) (hQ _ _ hq) hkp⟩
theorem ATT.callA {fn : Func} (hf : P.funcs[f.fn]? = some fn) {ix : Nat} {dst : Option Nat} {g : Opd} {args : List Opd} {guard : Option (Nat × Bool)} {kill : List Nat} {r : List AI} {k : List AItem} {env : Env} {h : H} {ob : Bool} {fid : FuncId}
  (n : Nat) (rb rv : List Nat) (kb kv : Nat) {hC : H} {argsC : List V} {QC : Out → H → Prop} (hAF : AF P fid argsC hC QC) (hg : gOk env guard) (hc : calls (ev env g) (args.map (ev env)) = some (fid, rns rb rv argsC)) (hs : Sub h hC rb rv) (hsc : insc rb.length rv.length argsC = true) (ho : ob = true)
  (hk : ∀ out hC', QC out hC' → (rb.length + kb ≤ hC'.bx.length ∧ rv.length + kv ≤ hC'.vc.length) ∧ match out with
   | .ret v => ATT P N f Q (goes n (.reg r :: k) (put (dels env kill) dst (rn (upB rb h.bx.length kb) (upB rv h.vc.length kv) v)) (upH h hC' rb rv kb kv) true)
   | .pan v => Q (.pan (rn (upB rb h.bx.length kb) (upB rv h.vc.length kv) v)) (upH h hC' rb rv kb kv)) (hkp : subE env f.keep := by exact True.intro) : ATT P N f Q (.reg (⟨ix, dst, .call g args, guard, kill⟩ :: r) :: k, env, h, ob) :=
 ATT.call (hkp := hkp) hf hg hc rb rv kb kv n hAF hs hsc rfl ho hk
theorem ATT.callRA {fn : Func} (hf : P.funcs[f.fn]? = some fn) {ix : Nat} {dst : Option Nat} {g : Opd} {args : List Opd} {guard : Option (Nat × Bool)} {kill : List Nat} {d r : List AI} {k : List AItem} {env : Env} {h : H} {ob : Bool} {fid : FuncId}
  (n : Nat) (rb rv : List Nat) (kb kv : Nat) {hC : H} {argsC : List V} {QC : Out → H → Prop} (hAF : AF P fid argsC hC QC) (hg : gOk env guard) (hc : calls (ev env g) (args.map (ev env)) = some (fid, rns rb rv argsC)) (hs : Sub h hC rb rv) (hsc : insc rb.length rv.length argsC = true) (ho : ob = true)
  (hk : ∀ out hC', QC out hC' → (rb.length + kb ≤ hC'.bx.length ∧ rv.length + kv ≤ hC'.vc.length) ∧ match out with
   | .ret v => ATT P N f Q (goes n (.regD (⟨ix, dst, .call g args, guard, kill⟩ :: d) r :: k) (put env dst (rn (upB rb h.bx.length kb) (upB rv h.vc.length kv) v)) (upH h hC' rb rv kb kv)
     (rcB (upH h hC' rb rv kb kv) (put env dst (rn (upB rb h.bx.length kb) (upB rv h.vc.length kv) v)) kill d))
   | .pan v => Q (.pan (rn (upB rb h.bx.length kb) (upB rv h.vc.length kv) v)) (upH h hC' rb rv kb kv)) (hk0 : f.keep = [] := by rfl) : ATT P N f Q (.regD d (⟨ix, dst, .call g args, guard, kill⟩ :: r) :: k, env, h, ob) :=
 ATT.callR (hk0 := hk0) hf hg hc rb rv kb kv n hAF hs hsc rfl ho hk
theorem ATT.finz {Q Q' : Out → H → Prop} (hQ : ∀ o h, Q o h → Q' o h) {fn : Func} (hf : P.funcs[f.fn]? = some fn) {rs : List ARes} (h1 : cRess P fn.results.toList = some rs) {ks : List AItem} (hks : ks = [] ∨ ∃ k, ks = .code .ret :: k) {env : Env} {h : H} {ob : Bool}
  (hq : ob = true ∧ match aress h env rs with | some vs => Q (.ret (fzV h (outV vs))) (fzH h) | none => False) (hdv : f.pln = true := by rfl) : ATT P N f Q' (ks, env, h, ob) := by
 obtain ⟨ho, hq⟩ := hq
 split at hq
 ·rename_i vs e
  exact ATT.ret hf h1 true hks e ho (hQ _ _ hq) hdv
 ·exact hq.elim
theorem ATT.fin0' {Q Q' : Out → H → Prop} (hQ : ∀ o h, Q o h → Q' o h) {fn : Func} (hf : P.funcs[f.fn]? = some fn) {rs : List ARes} (h1 : cRess P fn.results.toList = some rs) {env : Env} {h : H} {ob : Bool}
  (hq : ob = true ∧ match aress h env rs with | some vs => Q (.ret (outV vs)) h | none => False) (hdv : f.pln = true := by rfl) : ATT P N f Q' ([], env, h, ob) :=
 ATT.fin0 hf h1 ⟨hq.1, by have := hq.2; split at this <;> rename_i e <;> (try rw [e]) <;> first | exact hQ _ _ this | exact this.elim⟩ hdv
theorem ATT.loopG {b c : AC} {k : List AItem} {env : Env} {h : H} {ob : Bool} {ι : Type} (n : Nat) (hb : b = c) (m : ι → Nat) (I : ι → Prop) (E : ι → Env) (B : ι → List Bx) (C : ι → List (Option Vec)) (x0 : ι) (h0 : I x0)
  (ho : ob = true) (he : subE env (E x0)) (hh : ∃ u w, h = ⟨B x0 ++ u, C x0 ++ w⟩)
  (body : ∀ x u w, I x → (∀ y, m y < m x → I y → ∀ env h ob, ob = true → subE env (E y) → (∃ u w, h = ⟨B y ++ u, C y ++ w⟩) → ATT P N f Q (.lp b :: k, env, h, ob)) →
   ATT P N f Q (goes n (.code c :: .lp b :: k) (E x) ⟨B x ++ u, C x ++ w⟩ true)) : ATT P N f Q (.code (.loop b) :: k, env, h, ob) := by
 obtain ⟨u0, w0, hh⟩ := hh
 refine ATT.loopI n hb (fun x : ι × List Bx × List (Option Vec) => m x.1) (fun x => I x.1) (fun x => E x.1) (fun x => ⟨B x.1 ++ x.2.1, C x.1 ++ x.2.2⟩) (x0, u0, w0) h0 ho he hh ?_
 intro ⟨x, u, w⟩ hI ih
 exact body x u w hI fun y hy hIy env h ob ho he ⟨u', w', hh⟩ => ih (y, u', w') hy hIy env h ob ho he hh
theorem ATT.labelG {l : Nat} {k k' : List AItem} {env : Env} {h : H} {ob : Bool} {ι : Type} (n : Nat) (hl : agoto l k = some k') (hk : SL.flat 20 k' = SL.flat 20 k) (m : ι → Nat) (I : ι → Prop) (E : ι → Env) (B : ι → List Bx) (C : ι → List (Option Vec)) (x0 : ι) (h0 : I x0)
  (ho : ob = true) (he : subE env (E x0)) (hh : ∃ u w, h = ⟨B x0 ++ u, C x0 ++ w⟩)
  (body : ∀ x u w, I x → (∀ y, m y < m x → I y → ∀ k1 env h ob, agoto l k1 = some k' → ob = true → subE env (E y) → (∃ u w, h = ⟨B y ++ u, C y ++ w⟩) → ATT P N f Q (.code (.goto l) :: k1, env, h, ob)) →
   ATT P N f Q (goes n (SL.flat 20 k) (E x) ⟨B x ++ u, C x ++ w⟩ true)) : ATT P N f Q (.code (.label l) :: k, env, h, ob) := by
 obtain ⟨u0, w0, hh⟩ := hh
 refine ATT.labelI n hl hk (fun x : ι × List Bx × List (Option Vec) => m x.1) (fun x => I x.1) (fun x => E x.1) (fun x => ⟨B x.1 ++ x.2.1, C x.1 ++ x.2.2⟩) (x0, u0, w0) h0 ho he hh ?_
 intro ⟨x, u, w⟩ hI ih
 exact body x u w hI fun y hy hIy k1 env h ob hk1 ho he ⟨u', w', hh⟩ => ih (y, u', w') hy hIy k1 env h ob hk1 ho he hh
def VF (P : Program) (f : FuncId) (args : List V) (b : List Bx) (c : List (Option Vec)) (v : V) (b' : List Bx) (c' : List (Option Vec)) : Prop :=
 AF P f args ⟨b, c⟩ fun o h => o = .ret v ∧ ∃ r w, h = ⟨b' ++ r, c' ++ w⟩
theorem upH_app {h : H} {b' r : List Bx} {c' w : List (Option Vec)} {rb rv : List Nat} {kb kv : Nat} (hb : b'.length = rb.length + kb) (hv : c'.length = rv.length + kv) : upH h ⟨b' ++ r, c' ++ w⟩ rb rv kb kv = upH h ⟨b', c'⟩ rb rv kb kv := by
 unfold upH
 have s1 : ∀ {α : Type} (l : List α) (rs : List Nat) (xs ys : List α), rs.length ≤ xs.length → setAll l rs (xs ++ ys) = setAll l rs xs := by
  intro α l rs
  induction rs generalizing l with
  | nil => intro xs ys _; cases xs <;> cases ys <;> simp [setAll]
  | cons i rs ih =>
   intro xs ys hx
   cases xs with
   | nil => simp at hx
   | cons x xs => simp only [List.cons_append, setAll]; exact ih _ xs ys (by simpa using hx)
 have s2 : ∀ {α : Type} (xs ys : List α) (a k : Nat), xs.length = a + k → ((xs ++ ys).drop a).take k = (xs.drop a).take k := by
  intro α xs ys a k hx
  rw [List.drop_append_of_le_length (by omega), List.take_append_of_le_length (by simp; omega)]
 simp only [List.map_append]
 rw [s1 _ _ _ _ (by simp; omega), s1 _ _ _ _ (by simp; omega), s2 _ _ _ _ hb, s2 _ _ _ _ hv]
theorem ATT.callV {fn : Func} (hf : P.funcs[f.fn]? = some fn) {ix : Nat} {dst : Option Nat} {g : Opd} {args : List Opd} {guard : Option (Nat × Bool)} {kill : List Nat} {r : List AI} {k : List AItem} {env : Env} {h : H} {ob : Bool} {fid : FuncId} {argsC : List V} {b b' : List Bx} {c c' : List (Option Vec)} {v : V}
  (n : Nat) (rb rv : List Nat) (hM : VF P fid argsC b c v b' c') (hlb : b'.length = rb.length + (b'.length - rb.length)) (hlv : c'.length = rv.length + (c'.length - rv.length)) (hg : gOk env guard) (hc : calls (ev env g) (args.map (ev env)) = some (fid, rns rb rv argsC)) (hs : Sub h ⟨b, c⟩ rb rv) (hsc : insc rb.length rv.length argsC = true) (ho : ob = true)
  (hk : ATT P N f Q (goes n (.reg r :: k) (put (dels env kill) dst (rn (upB rb h.bx.length (b'.length - rb.length)) (upB rv h.vc.length (c'.length - rv.length)) v)) (upH h ⟨b', c'⟩ rb rv (b'.length - rb.length) (c'.length - rv.length)) true)) (hkp : subE env f.keep := by exact True.intro) : ATT P N f Q (.reg (⟨ix, dst, .call g args, guard, kill⟩ :: r) :: k, env, h, ob) := by
 refine ATT.call (hkp := hkp) hf hg hc rb rv (b'.length - rb.length) (c'.length - rv.length) n hM hs hsc rfl ho fun out hC' hq => ?_
 obtain ⟨e1, r', w', e2⟩ := hq
 subst e1 e2
 refine ⟨by simp; omega, ?_⟩
 rw [upH_app hlb hlv]
 exact hk
theorem ATT.callRV {fn : Func} (hf : P.funcs[f.fn]? = some fn) {ix : Nat} {dst : Option Nat} {g : Opd} {args : List Opd} {guard : Option (Nat × Bool)} {kill : List Nat} {d r : List AI} {k : List AItem} {env : Env} {h : H} {ob : Bool} {fid : FuncId} {argsC : List V} {b b' : List Bx} {c c' : List (Option Vec)} {v : V}
  (n : Nat) (rb rv : List Nat) (hM : VF P fid argsC b c v b' c') (hlb : b'.length = rb.length + (b'.length - rb.length)) (hlv : c'.length = rv.length + (c'.length - rv.length)) (hg : gOk env guard) (hc : calls (ev env g) (args.map (ev env)) = some (fid, rns rb rv argsC)) (hs : Sub h ⟨b, c⟩ rb rv) (hsc : insc rb.length rv.length argsC = true) (ho : ob = true)
  (hk : ATT P N f Q (goes n (.regD (⟨ix, dst, .call g args, guard, kill⟩ :: d) r :: k) (put env dst (rn (upB rb h.bx.length (b'.length - rb.length)) (upB rv h.vc.length (c'.length - rv.length)) v)) (upH h ⟨b', c'⟩ rb rv (b'.length - rb.length) (c'.length - rv.length))
   (rcB (upH h ⟨b', c'⟩ rb rv (b'.length - rb.length) (c'.length - rv.length)) (put env dst (rn (upB rb h.bx.length (b'.length - rb.length)) (upB rv h.vc.length (c'.length - rv.length)) v)) kill d))) (hk0 : f.keep = [] := by rfl) : ATT P N f Q (.regD d (⟨ix, dst, .call g args, guard, kill⟩ :: r) :: k, env, h, ob) := by
 refine ATT.callR (hk0 := hk0) hf hg hc rb rv (b'.length - rb.length) (c'.length - rv.length) n hM hs hsc rfl ho fun out hC' hq => ?_
 obtain ⟨e1, r', w', e2⟩ := hq
 subst e1 e2
 refine ⟨by simp; omega, ?_⟩
 rw [upH_app hlb hlv]
 exact hk
theorem MF.of {fid : FuncId} {args : List V} {b b' : List Bx} {v : V} {c' : List (Option Vec)} (h : VF P fid args b [] v b' c') : MF P fid args b v b' :=
 AF.mono h fun _ _ ⟨e, r, w, e2⟩ => ⟨e, r, c' ++ w, e2⟩
attribute [simp] setAll_length upH upB rnV inscV fzE fzB fzV fzA fzH toDv mapD
@[simp] theorem mapD_ds (h : H) (n : Nat) (ds : List D) : mapD (toDv h n) (ds.map .d) = some ds := mapD_d h n ds
@[simp] theorem blt_zero (n : Nat) : Nat.blt 0 (n + 1) = true := rfl
@[simp] theorem ble_zero (n : Nat) : Nat.ble 0 n = true := rfl
@[simp] theorem ble_self (n : Nat) : Nat.ble n n = true := by simp [Nat.ble_eq]
@[simp] theorem take_map_len {α β : Type} (f : α → β) (l : List α) : (l.map f).take l.length = l.map f := List.take_of_length_le (by simp)
@[simp] theorem beq_comm1 (n : Nat) : Nat.beq (n + 1) (1 + n) = true := by rw [Nat.add_comm]; exact Nat.beq_refl _
@[simp] theorem ble_comm1 (n : Nat) : Nat.ble (1 + n) (n + 1) = true := by rw [Nat.add_comm]; exact ble_self _
@[simp] theorem take_comm1 {α : Type} (a : α) (l : List α) : (a :: l).take (1 + l.length) = a :: l := List.take_of_length_le (by simp; omega)
@[simp] theorem take_comm2 {α β : Type} (f : α → β) (a : β) (l : List α) : (a :: l.map f).take (1 + l.length) = a :: l.map f := List.take_of_length_le (by simp; omega)
def bsV (l : List UInt8) : List V := l.map fun x => .d (.int .u8 (x.toNat : Int))
def bsD (l : List UInt8) : List D := l.map fun x => .int .u8 (x.toNat : Int)
@[simp] theorem bsV_append (a b : List UInt8) : bsV a ++ bsV b = bsV (a ++ b) := by simp [bsV]
@[simp] theorem bsV_push (a : List UInt8) (x : UInt8) : bsV a ++ [.d (.int .u8 (x.toNat : Int))] = bsV (a ++ [x]) := by simp [bsV]
@[simp] theorem take_bsV (n : Nat) (l : List UInt8) : (bsV l).take n = bsV (l.take n) := by simp [bsV]
@[simp] theorem isEmpty_app (l : List UInt8) (s : ByteArray) : (l ++ s.data.toList).isEmpty = (l.isEmpty && s.data.isEmpty) := by
 cases l with
 | nil => cases h : s.data with | mk l => cases l <;> simp
 | cons => simp
def bA (i : Nat) (b : Bool) : V := match b with
 | true => .ptr i 0
 | false => .d .nilP
@[simp] theorem bA_true (i : Nat) : bA i true = .ptr i 0 := rfl
@[simp] theorem bA_false (i : Nat) : bA i false = .d .nilP := rfl
@[simp] theorem rn_bA0 (j : Nat) (r rv : List Nat) (b : Bool) : rn (j :: r) rv (bA 0 b) = bA j b := by cases b <;> simp
@[simp] theorem rn_bA1 (k j : Nat) (r rv : List Nat) (b : Bool) : rn (k :: j :: r) rv (bA 1 b) = bA j b := by cases b <;> simp
@[simp] theorem rn_bA2 (k l j : Nat) (r rv : List Nat) (b : Bool) : rn (k :: l :: j :: r) rv (bA 2 b) = bA j b := by cases b <;> simp
@[simp] theorem isin_bA0 (n m : Nat) (b : Bool) : isin (n + 1) m (bA 0 b) = true := by cases b <;> simp [Nat.blt]
@[simp] theorem isin_bA1 (n m : Nat) (b : Bool) : isin (n + 2) m (bA 1 b) = true := by cases b <;> simp [Nat.blt]
@[simp] theorem isin_bA2 (n m : Nat) (b : Bool) : isin (n + 3) m (bA 2 b) = true := by cases b <;> simp [Nat.blt]
@[simp] theorem one_bA (i : Nat) (b : Bool) : (bA i b).one = true := by cases b <;> simp
abbrev BB (i v : Nat) (T : TypeId) (b : Bool) (l : List UInt8) : Bx := .cells [bA i b, .vs v l.length 0 l.length] T
abbrev BV (t : TypeId) (z : Nat) (l : List UInt8) : Option Vec := some ⟨l.isEmpty, 1, z, bsV l, t⟩
@[simp] theorem bsV_length (a : List UInt8) : (bsV a).length = a.length := by simp [bsV]
@[simp] theorem bsV_isEmpty (a : List UInt8) : (bsV a).isEmpty = a.isEmpty := by cases a <;> simp [bsV]
@[simp] theorem rns_bsV (rb rv : List Nat) (l : List UInt8) : rns rb rv (bsV l) = bsV l := by
 have : bsV l = (bsD l).map .d := by simp [bsV, bsD]
 rw [this, rns_data]
@[simp] theorem insc_bsV (n m : Nat) (l : List UInt8) : insc n m (bsV l) = true := by
 have : bsV l = (bsD l).map .d := by simp [bsV, bsD]
 rw [this, insc_data]
@[simp] theorem intsV_bsV : ∀ l : List UInt8, intsV (bsV l) = some (l.map fun x => (x.toNat : Int))
 | [] => rfl
 | x :: l => by
  have ih := intsV_bsV l
  simp only [bsV, List.map_cons] at ih ⊢
  simp [intsV, ih]
@[simp] theorem byteL_bs : ∀ l : List UInt8, byteL (l.map fun x => (x.toNat : Int)) = true
 | [] => rfl
 | x :: l => by
  have := x.toNat_lt
  simp [byteL, byteL_bs l]
  omega
@[simp] theorem bytesI_bs (l : List UInt8) : bytesI (l.map fun x => (x.toNat : Int)) = ⟨l.toArray⟩ := by
 simp [bytesI, Function.comp_def]
@[simp] theorem str_bsV (s : ByteArray) : (s.data.toList.map fun b => (.d (.int .u8 (b.toNat : Int)) : V)) = bsV s.data.toList := rfl
end
end Go.SL
namespace Go.SL
section
variable {P : Program} {N : Nat} {f : FD} {Q : Out → H → Prop}
def one (h : H) (j : Nat) : H := ⟨h.bx, h.vc.mapIdx fun i x => if i = j then x else none⟩
def oneK (κ : K) (j : Nat) : K := { κ with vn := fun i => if i = j then κ.vn i else none }
theorem oneK_le {κ : K} {j : Nat} : Le κ (oneK κ j) := ⟨fun _ _ _ h => h, Nat.le_refl _, fun _ _ => rfl, Nat.le_refl _, fun i _ m e => by
 simp only [oneK] at e
 split at e
 ·exact ⟨m, e, Nat.le_refl _, fun _ => rfl⟩
 ·simp at e, rfl, rfl, rfl, rfl⟩
theorem one_rel {κ : K} {h : H} {w : World} {j : Nat} (r : Rel κ h w) : Rel (oneK κ j) (one h j) w where
 S := r.S
 SO := r.SO
 nb := r.nb
 nv := by simp only [one, List.length_mapIdx]; exact r.nv
 bx := fun i x hx => (r.bx i x hx).of oneK_le rfl fun o _ ho => ⟨ho, rfl⟩
 vc := fun i x hx => by
  simp only [one, List.getElem?_mapIdx] at hx
  cases hv : h.vc[i]? with
  | none => simp [hv] at hx
  | some y =>
   simp only [hv, Option.map_some, Option.some.injEq] at hx
   by_cases hij : i = j
   ·rw [if_pos hij] at hx
    subst hx
    exact (r.vc i _ hv).of oneK_le (by simp [oneK, hij]) rfl fun o b c z _ _ ho => ⟨ho, rfl⟩
   ·rw [if_neg hij] at hx
    subst hx
    show (oneK κ j).vn i = none
    simp [oneK, hij]
 rest := r.rest
 os := r.os
 out := r.out
 tape := r.tape
def fzK1 (κ : K) (h : H) (j : Nat) (w : World) : K := { κ with
 S := (fzK (oneK κ j) (one h j) w).S
 vn := fun i => if i = j then none else κ.vn i
 who := fun b => match κ.who b with
  | .vec i => if i = j then .free else .vec i
  | o => o
 gs := (fzK (oneK κ j) (one h j) w).gs }
theorem fz1_le {κ : K} {h : H} {j : Nat} {w : World} : Le κ (fzK1 κ h j w) := ⟨fun b o v e => (fz_le (κ := oneK κ j) (h := one h j) (w := w)).S b o v e, Nat.le_refl _, fun _ _ => rfl, Nat.le_refl _, fun i _ m e => by
 simp only [fzK1] at e
 split at e
 ·simp at e
 ·exact ⟨m, e, Nat.le_refl _, fun _ => rfl⟩, rfl, rfl, rfl, rfl⟩
theorem fz1_rel {κ : K} {h : H} {w : World} {j : Nat} (r : Rel κ h w) : Rel (fzK1 κ h j w) ⟨h.bx, h.vc.set j none⟩ w where
 S := (fz_rel (one_rel (j := j) r)).S
 SO := fun b o v e => by
  have e' : (fzK (oneK κ j) (one h j) w).S b o = some v := e
  simp only [fzK1]
  simp only [fzK] at e'
  split at e'
  ·rename_i v' hv
   rcases r.SO b o _ hv with q | q
   ·exact .inl (by rw [q])
   ·exact .inr q
  ·refine .inl ?_
   split at e'
   ·rename_i i hi
    have hi' : κ.who b = .vec i := hi
    rw [hi']
    simp only
    split at e'
    ·rename_i v' b' x y h1 h2
     simp only [one, List.getElem?_mapIdx] at h1
     cases hv : h.vc[i]? with
     | none => simp [hv] at h1
     | some z =>
      simp only [hv, Option.map_some, Option.some.injEq] at h1
      split at h1
      ·rename_i hij; simp [hij]
      ·simp at h1
    ·simp at e'
   ·simp at e'
 nb := r.nb
 nv := by simp only [List.length_set]; exact r.nv
 bx := fun i x hx => (r.bx i x hx).of fz1_le rfl fun o hg ho => ⟨ho, by
  have : κ.who (κ.bl i) = .box i := by
   have := r.bx i x hx
   cases x with
   | cells => exact this.1
   | iter => exact this.1
   | raw => exact this.1
   | gone => exact absurd rfl hg
  simp only [fzK1, this]⟩
 vc := fun i x hx => by
  simp only at hx
  by_cases hij : i = j
  ·subst hij
   have hlt : i < h.vc.length := by
    have := (List.getElem?_eq_some_iff.1 hx).1
    simpa using this
   rw [List.getElem?_set_self hlt] at hx
   simp only [Option.some.injEq] at hx
   subst hx
   show (fzK1 κ h i w).vn i = none
   simp [fzK1]
  ·rw [List.getElem?_set_ne (Ne.symm hij)] at hx
   exact (r.vc i x hx).of fz1_le (by simp [fzK1, hij]) rfl fun o b c z _ hw ho => ⟨ho, by simp [fzK1, hw, hij]⟩
 rest := fun b o e => by
  have := r.rest b o e
  exact ⟨by simp only [fzK1, this.1], this.2⟩
 os := r.os
 out := r.out
 tape := r.tape
theorem fzV1_sound {κ : K} {h : H} {w : World} {j : Nat} (r : Rel κ h w) {x : V} {v : Value} (hx : VR κ x v) : VR (fzK1 κ h j w) (fzV (one h j) x) v := by
 unfold fzV
 split
 ·rename_i d hd
  simp only [VR]
  exact toDv_sound (one_rel (j := j) r) _ _ _ _ hd (hx.mono oneK_le)
 ·exact hx.mono fz1_le
theorem VL.fz1 {κ : K} {h : H} {w : World} {j : Nat} (r : Rel κ h w) : ∀ {xs : List V} {ys : List Value}, VL κ xs ys → VL (fzK1 κ h j w) (xs.map (fzV (one h j))) ys
 | [], _, e => by simpa only [VL, List.map_nil] using e
 | x :: xs, ys, e => by
  simp only [VL, List.map_cons] at e ⊢
  obtain ⟨y, t, e1, r1, r2⟩ := e
  exact ⟨y, t, e1, fzV1_sound r r1, VL.fz1 r r2⟩
theorem VL.fzD {κ : K} {h : H} {w : World} {j n : Nat} (r : Rel κ h w) : ∀ {xs : List V} {ds : List D} {ys : List Value}, mapD (toDv (one h j) n) xs = some ds → VL κ xs ys → VL (fzK1 κ h j w) (ds.map .d) ys
 | [], ds, ys, e, hl => by
  simp only [mapD, Option.some.injEq] at e
  subst e
  simpa only [VL, List.map_nil] using hl
 | x :: xs, ds, ys, e, hl => by
  simp only [mapD] at e
  split at e
  ·rename_i d ds' hd hds
   simp only [Option.some.injEq] at e
   subst e
   simp only [VL, List.map_cons] at hl ⊢
   obtain ⟨y, t, e1, r1, r2⟩ := hl
   refine ⟨y, t, e1, ?_, VL.fzD r hds r2⟩
   simp only [VR]
   exact toDv_sound (one_rel (j := j) r) _ _ _ _ hd (r1.mono oneK_le)
  ·simp at e
def fzX (h : H) : V → V
 | .agg xs => match mapD (toDv h 12) xs with
  | some ds => .d (.agg ds)
  | none => .agg xs
 | x => x
def fzR (h : H) : Option Vec → Option Vec
 | some v => some { v with xs := v.xs.map (fzX h) }
 | none => none
theorem fzX_sound {κ : K} {h : H} {w : World} {j : Nat} (r : Rel κ h w) {x : V} {c : List Value} (hx : VC κ x.cells c) : VC (fzK1 κ h j w) (fzX (one h j) x).cells c := by
 unfold fzX
 split
 ·rename_i xs
  split
  ·rename_i ds hds
   exact ⟨VL.fzD r hds hx.1, hx.2⟩
  ·exact hx.mono fz1_le
 ·exact hx.mono fz1_le
theorem VX.fz1 {κ : K} {h : H} {w : World} {j : Nat} (r : Rel κ h w) {sz : Nat} : ∀ {xs : List V} {ys : List Value}, VX κ sz xs ys → VX (fzK1 κ h j w) sz (xs.map (fzX (SL.one h j))) ys
 | [], _, e => e
 | x :: xs, ys, e => by
  obtain ⟨c, t, e1, l, r1, r2⟩ := e
  exact ⟨c, t, e1, l, fzX_sound r r1, VX.fz1 r r2⟩
theorem fz1_relR {κ : K} {h : H} {w : World} {j : Nat} (r : Rel κ h w) : Rel (fzK1 κ h j w) ⟨h.bx, (h.vc.map (fzR (one h j))).set j none⟩ w where
 S := (fz1_rel (j := j) r).S
 SO := (fz1_rel (j := j) r).SO
 nb := r.nb
 nv := by simp only [List.length_set, List.length_map]; exact r.nv
 bx := (fz1_rel (j := j) r).bx
 vc := fun i x hx => by
  simp only at hx
  by_cases hij : i = j
  ·subst hij
   have hlt : i < h.vc.length := by
    have := (List.getElem?_eq_some_iff.1 hx).1
    simpa using this
   rw [List.getElem?_set_self (by simpa using hlt)] at hx
   simp only [Option.some.injEq] at hx
   subst hx
   show (fzK1 κ h i w).vn i = none
   simp [fzK1]
  ·rw [List.getElem?_set_ne (Ne.symm hij), List.getElem?_map] at hx
   cases hv : h.vc[i]? with
   | none => rw [hv] at hx; simp at hx
   | some y =>
    rw [hv] at hx
    simp only [Option.map_some, Option.some.injEq] at hx
    subst hx
    have h1 := (fz1_rel (j := j) r).vc i y (by rw [List.getElem?_set_ne (Ne.symm hij)]; exact hv)
    cases y with
    | none => exact h1
    | some v =>
     have h0 := r.vc i _ hv
     simp only [fzR, VcR, List.length_map] at h0 h1 ⊢
     refine ⟨h1.1, h1.2.1, ?_⟩
     rcases h1.2.2 with ⟨a, b, c⟩ | ⟨a, b, cap, vs, sp, fz, g1, g2, g3, g4, g5, g6, g7⟩
     ·exact .inl ⟨a, by simp [b], c⟩
     ·refine .inr ⟨a, b, cap, vs, sp, fz, g1, g2, g3, g4, ?_, g6, g7⟩
      rcases h0.2.2 with ⟨a', _⟩ | ⟨_, b', cap', vs', sp', fz', q1, q2, q3, q4, q5, q6, q7⟩
      ·rw [a] at a'; simp at a'
      ·have k1 : (fzK1 κ h j w).vb i = κ.vb i := rfl
       rw [k1, q1] at g1
       simp only [Option.some.injEq, Prod.mk.injEq] at g1
       obtain ⟨e1, e2, _⟩ := g1
       subst e1 e2
       rw [q3] at g3
       simp only [Option.some.injEq, Obj.cells.injEq, Array.mk.injEq] at g3
       have hl : vs'.length = vs.length := by
        rw [VX.length q5, VX.length g5]
       have := (List.append_inj g3.1 hl).1
       subst this
       exact VX.fz1 r q5
 rest := (fz1_rel (j := j) r).rest
 os := r.os
 out := r.out
 tape := r.tape
theorem AT.fz1 {chk : Array Oper → List (List AI) → Bool} {ks : List AItem} {env : Env} {h : H} (j : Nat) (k : AT P N chk f ks (fzE (one h j) env) ⟨h.bx.map (fzB (one h j)), (h.vc.map (fzR (one h j))).set j none⟩ Q) : AT P N chk f ks env h Q := by
 intro κ w a k0 cs0 hcs hr he hd
 have hf := fz1_relR (j := j) hr
 have hF : Rel (fzK1 κ h j w) ⟨h.bx.map (fzB (one h j)), (h.vc.map (fzR (one h j))).set j none⟩ w := ⟨hf.S, hf.SO, by have := hr.nb; show κ.nb = (h.bx.map (fzB (one h j))).length; simpa using this, hf.nv, fun i x hx => by
  simp only [List.getElem?_map] at hx
  cases hb : h.bx[i]? with
  | none => rw [hb] at hx; simp at hx
  | some b =>
   rw [hb] at hx
   simp only [Option.map_some, Option.some.injEq] at hx
   subst hx
   have h1 := hf.bx i b hb
   cases b with
   | cells cs e =>
    obtain ⟨g1, vs, g2, g3⟩ := h1
    obtain ⟨_, vs', q2, q3⟩ := hr.bx i _ hb
    have q2' : w.heap[(fzK1 κ h j w).bl i]? = some (.cells ⟨vs'⟩ e (0, 0)) := q2
    rw [g2] at q2'
    simp at q2'
    subst q2'
    exact ⟨g1, vs, g2, VL.fz1 hr q3.1, q3.2⟩
   | iter s p => exact h1
   | raw => exact h1
   | gone => exact h1, hf.vc, hf.rest, hf.os, hf.out, hf.tape⟩
 refine (k (fzK1 κ h j w) w a k0 cs0 hcs hF ⟨he.1, fun t => ?_⟩ (hd.mono fz1_le)).le fz1_le
 rw [get_fzE]
 exact fzV1_sound hr (he.2 t)
theorem ATT.fz1 {x : AItem} {ks : List AItem} {env : Env} {h : H} {ob : Bool} (j : Nat) (hx : ∀ d l, x ≠ .regD d l)
  (k : ATT P N f Q (x :: ks, fzE (one h j) env, ⟨h.bx.map (fzB (one h j)), (h.vc.map (fzR (one h j))).set j none⟩, ob)) : ATT P N f Q (x :: ks, env, h, ob) := by
 refine ⟨k.1, ATX.of (x := instI x) (fun d l => ?_) (AT.fz1 j k.2.at)⟩
 cases x <;> simp [instI]
 exact fun h1 => absurd (by rw [h1]) (hx _ _)
theorem fzA_rel {κ : K} {h : H} {w : World} (hr : Rel κ h w) : Rel (fzK κ h w) (fzA h) w := by
 have hf := fz_rel hr
 exact ⟨hf.S, hf.SO, by have := hr.nb; show κ.nb = (h.bx.map (fzB h)).length; simpa using this, hf.nv, fun i x hx => by
  simp only [fzA, List.getElem?_map] at hx
  cases hb : h.bx[i]? with
  | none => rw [hb] at hx; simp at hx
  | some b =>
   rw [hb] at hx
   simp only [Option.map_some, Option.some.injEq] at hx
   subst hx
   have h1 := hf.bx i b hb
   cases b with
   | cells cs e =>
    obtain ⟨g1, vs, g2, g3⟩ := h1
    obtain ⟨_, vs', q2, q3⟩ := hr.bx i _ hb
    have q2' : w.heap[(fzK κ h w).bl i]? = some (.cells ⟨vs'⟩ e (0, 0)) := q2
    rw [g2] at q2'
    simp at q2'
    subst q2'
    exact ⟨g1, vs, g2, VL.fz hr q3.1, q3.2⟩
   | iter s p => exact h1
   | raw => exact h1
   | gone => exact h1, hf.vc, hf.rest, hf.os, hf.out, hf.tape⟩
theorem AF.fz {g : FuncId} {args : List V} {h : H} {Q : Out → H → Prop} (k : AF P g (args.map (fzV h)) (fzA h) Q) : AF P g args h Q := by
 refine ⟨k.1, fun κ w argv hr hv cs => ?_⟩
 obtain ⟨e, w', fr, ⟨κ', h', out, g1, g2, g3, g4⟩, g5, g6, g7⟩ := k.2 _ w argv (fzA_rel hr) (VL.fz hr hv) cs
 exact ⟨e, w', fr, ⟨κ', h', out, g1, fz_le.trans g2, g3, g4⟩, g5, g6, g7⟩
theorem DE.up {g : FuncId} {ds : List D} {Φ : D → Prop} (k : DE P g ds Φ) (h : H) : AF P g (ds.map .d) h fun o h' => ∃ v, o = .ret (.d v) ∧ Φ v ∧ h' = h := by
 refine ⟨k.1, fun κ w argv hr hv cs => ?_⟩
 have hs := sub_nil h
 have hvl : VL (downK κ w [] []) (ds.map .d) argv := VL.down (down_dn hr hs) _ argv (insc_data _ _ _) (by rw [rns_data]; exact hv)
 obtain ⟨e, w', fr, ⟨κ1, hC', out, ⟨v, r1, rv⟩, r2, r3, r4⟩, r5, r6, r7⟩ := k.2 _ w argv (down_rel hr hs) hvl cs
 obtain ⟨κ', u1, u2, u3⟩ := up_all (kb := 0) (kv := 0) hr hs r3 r2 (by simp) (by simp)
 subst r1
 obtain ⟨x, s1, s2⟩ := r4
 refine ⟨e, w', fr, ⟨κ', h, .ret (.d v), ⟨v, rfl, rv, rfl⟩, u2, by simpa using u1, ⟨x, s1, ?_⟩⟩, r5, r6, r7⟩
 have := VR.up u3 _ _ s2
 simpa [rn] using this
end
attribute [simp] one fzR fzX
end Go.SL
namespace Go.SL
open Go.ChangeShapes Go.WideShapes Go.RowKit
def Mx (W : World) : Prop := ∃ m e fz, W.heap[mxB]? = some (.cells #[.int .i64 m] e fz)
theorem Mx.of {P : Program} {w : World} {t : TypeId} {zero : Array Value} (h : w.ShapedOpen P) (hg : mxB < P.globals.size) (h0 : ((begin P (fun _ _ => 0) default).world.heap[mxB]?).bind Obj.row? = some (zero, t)) (hz : zero.size = 1)
  (hb : P.buildable t = true) (hc : P.cellTypes P.depth t = some [t]) (hu : P.underlying t = some (.int .i64)) : Mx w := by
 obtain ⟨m, hm⟩ := Go.Proofs.cell_of_shapedOpen_int h hg h0 hz hb hc hu
 obtain ⟨cs, hh, hs, _⟩ := h.1 mxB zero t hg h0
 have h1 : cs.size = 1 := by omega
 refine ⟨m, t, (0, 0), ?_⟩
 rw [hh]
 simp only [World.cell?, hh] at hm
 have : cs = #[.int .i64 m] := by
  obtain ⟨l⟩ := cs
  match l, h1 with
  | [x], _ =>
   have hm : x = .int .i64 m := by simpa using hm
   rw [hm]
 rw [this]
def Gs (W : World) : Prop := ∀ p ∈ gcells, DC (fun b o => W.cell? ⟨b, o, none⟩) p.2 p.1 0
def K.of (W : World) (hm : Mx W) (hg : Gs W) : K where
 S := fun b o => W.cell? ⟨b, o, none⟩
 nb := 0
 bl := fun _ => 0
 nv := 0
 vn := fun _ => none
 vb := fun _ => none
 who := fun b => if b < W.heap.size then .rest else .free
 rest := fun b => W.heap[b]?
 os := W.os
 out := W.output
 tape := W.tape
 mx := hm
 gs := hg
 kp := fun b => decide (b < W.heap.size)
 kr := fun b h => ⟨W.heap[b]'(by simpa using h), Array.getElem?_eq_getElem (by simpa using h)⟩
theorem K.of_rel (W : World) (hm : Mx W) (hg : Gs W) : Rel (K.of W hm hg) ⟨[], []⟩ W where
 S := fun _ _ _ h => h
 SO := fun b o v h => .inr (by
  have h' : W.cell? ⟨b, o, none⟩ = some v := h
  unfold World.cell? at h'
  show decide (b < W.heap.size) = true
  split at h'
  ·rename_i hb
   exact decide_eq_true (Array.getElem?_eq_some_iff.1 hb).1
  ·simp at h')
 nb := rfl
 nv := rfl
 bx := fun _ _ h => by simp at h
 vc := fun _ _ h => by simp at h
 rest := fun b o h => by
  have h' : W.heap[b]? = some o := h
  exact ⟨if_pos (Array.getElem?_eq_some_iff.1 h').1, h'⟩
 os := rfl
 out := rfl
 tape := rfl
theorem DF.world {P : Program} {f : FuncId} {ds : List D} {b : Bool} (k : DF P f ds (.bool b)) {W : World} (hm : Mx W) (hg : Gs W) {argv : List Value} (ha : VL (K.of W hm hg) (ds.map .d) argv) :
  Calls P f ⟨argv⟩ W fun e W' => e = .returned (.bool b) ∧ Below W.heap.size W W' :=
 (k.2 _ W argv (K.of_rel W hm hg) ha).mono fun e W' ⟨κ', h', out, q, le, hr, ho⟩ => by
  subst q
  obtain ⟨x, e1, e2⟩ := ho
  simp only [VR, DR] at e2
  subst e2
  have key : ∀ k, k < W.heap.size → W'.heap[k]? = W.heap[k]? := fun i hi => by
   have h1 : (K.of W hm hg).rest i = some W.heap[i] := Array.getElem?_eq_getElem hi
   rw [← le.rest] at h1
   rw [(hr.rest _ _ h1).2, Array.getElem?_eq_getElem hi]
  refine ⟨e1, hr.os.trans le.os, hr.tape.trans (congrArg Prod.fst le.tape), hr.out.trans le.out, ?_, key⟩
  rcases Nat.lt_or_ge W'.heap.size W.heap.size with g | g
  ·have := key W'.heap.size g
   rw [Array.getElem?_eq_getElem g, Array.getElem?_eq_none (Nat.le_refl _)] at this
   simp at this
  ·exact g
theorem dc_strs {W : World} {b : Nat} : ∀ (l : List ByteArray) (o : Nat), (∀ i, i < l.length → W.cell? ⟨b, o + i, none⟩ = some (.string (l.getD i ByteArray.empty))) → DC (fun b o => W.cell? ⟨b, o, none⟩) (l.map .str) b o
 | [], o, _ => by simp only [List.map_nil, DC]
 | x :: r, o, h => by
  simp only [List.map_cons, DC]
  refine ⟨⟨.string x, by have := h 0 (by simp); simpa using this, rfl, rfl⟩, dc_strs r (o + 1) fun i hi => ?_⟩
  have := h (i + 1) (by simp; omega)
  rw [show o + 1 + i = o + (i + 1) by omega]
  simpa using this
theorem strs_cells {H : Type} {enc : TypeId × Value → H} {P : Program} {W : World} {base : Nat} {sp : Nat → Bool} {held : Bool} {fuel : Nat} {t e : TypeId} {n : Nat} {cs : List Value} {p : List MemPlace} (ht : P.underlying t = some (.array n e)) (he : P.underlying e = some .string) (hc : P.cellsOf e = 1) {ss : List ByteArray}
  (h : DataW.trod enc P W base sp held fuel t cs = some (.agg (ss.map fun s => .lit (.string s.data.toList)), p)) : ∀ i, i < ss.length → cs[i]? = some (.string (ss.getD i ByteArray.empty)) := by
 obtain ⟨xs, m, rfl, hx, hl, hn, hi⟩ := DataW.trod_array ht h
 simp only [Prod.mk.injEq, DataW.agg.injEq] at hx
 intro i hlt
 have hlen : xs.length = ss.length := by have := congrArg List.length hx.1; simpa using this.symm
 have h1 := hi i (by omega)
 have hxi : i < xs.length := by omega
 rw [List.getElem?_eq_getElem hxi, hc, Nat.mul_one] at h1
 have h2 : xs[i].1 = .lit (.string (ss[i].data.toList)) := by
  have := congrArg (fun l => l[i]?) hx.1
  simp only [List.getElem?_map, List.getElem?_eq_getElem hxi, List.getElem?_eq_getElem hlt, Option.map_some, Option.some.injEq] at this
  exact this.symm
 cases m with
 | zero => simp [DataW.trod] at h1
 | succ m =>
  unfold DataW.trod at h1
  rw [he] at h1
  split at h1 <;> simp_all
  rename_i s hs
  obtain ⟨_, h1⟩ := h1
  rw [← h1] at h2
  simp only [DataW.lit.injEq, Lit.string.injEq] at h2
  have hss : s = ss[i] := by
   cases s; rename_i a; cases hb : ss[i]; rename_i b; rw [hb] at h2
   simp only at h2
   congr 1
   exact Array.ext' h2
  have h3 := congrArg (fun l => l[0]?) hs
  simp only [List.getElem?_take, List.getElem?_drop, Nat.lt_one_iff, if_true, Nat.add_zero, List.getElem?_cons_zero] at h3
  rw [h3, hss, List.getElem?_eq_getElem hlt, Option.getD_some]
section
variable {H : Type} {enc : TypeId × Value → H} {P : Program}
theorem post_kept {f : Func} {s : ChangeSpec} {apart fresh handsOn again : Bool} {W W' : World} {args : Array Value} {v : Value} {ds gs : List (DataW H)} {before pa pv : List MemPlace}
  (hW : DataW.Whole enc P f.params.toList s.vars apart W args.toList ds gs before)
  (hres : ∀ (b : Nat) (sp : Nat → Bool) (hd : Bool), DataW.TrodAll enc P W' b sp hd f.resultTypes.toList (v.resultList f.resultTypes.size) (s.fn H (ds ++ gs)).results [])
  (hargs : ∀ sp : Nat → Bool, (∀ p ∈ before, sp p.block = true) → DataW.TrodAll enc P W' 0 sp true f.params.toList args.toList (s.fn H (ds ++ gs)).args pa)
  (hvars : ∀ sp : Nat → Bool, (∀ p ∈ before, sp p.block = true) → DataW.TrodVars enc P W' sp s.vars (s.fn H (ds ++ gs)).vars pv)
  (hps : before = pa ++ pv) (hB : Below W.heap.size W W')
  (hok : ∀ (j : Nat) (t : TypeId) (r : Value), f.resultTypes[j]? = some t → (v.resultList f.resultTypes.size)[j]? = some r → Value.okWide P W' .any 0 t r) :
  s.post enc P f apart fresh handsOn again W args v W' := by
 have hlt : ∀ p ∈ before, p.block < W.heap.size := fun p hp => by simpa using hW.lt p hp
 have hold : ∀ p ∈ before, (fun b => decide (b < W.heap.size)) p.block = true := fun p hp => by simpa using hW.lt p hp
 have hk : W.keptBut W' (· ∈ before) := by
  refine ⟨hB.os, hB.output, fun i hi => ?_⟩
  rw [hB.block i hi, Array.getElem?_eq_getElem hi]
  cases W.heap[i] <;> simp
 have hfz : ∀ b off, b < W.heap.size → W'.frozen? ⟨b, off, none⟩ = W.frozen? ⟨b, off, none⟩ := fun b off hb => by
  unfold World.frozen?
  rw [hB.block b hb]
 refine ⟨ds, gs, before, [], pa, pv, hW, hres _ _ _, hargs _ hold, hvars _ hold, World.keptBut_mono (fun p hp => ⟨hp, ?_⟩) hk, fun _ => ?_⟩
 ·rw [hps, List.mem_append] at hp
  exact Or.inr hp
 ·obtain ⟨_, _, _, _, _, hz, hn⟩ := hW
  refine ⟨hok, _, _, ([] ++ pa) ++ pv, ⟨[] ++ pa, pv, trodAll_append (hargs _ (fun _ _ => rfl)) (hres _ _ _), hvars _ (fun _ _ => rfl), rfl, ?_, ?_⟩, ?_⟩
  ·intro b off hp
   have hp' : MemPlace.cell b off ∈ before := by rw [hps]; simpa using hp
   rw [hfz b off (hlt _ hp')]
   exact hz b off hp'
  ·intro ha
   have := hn ha
   rw [hps] at this
   simpa using this
  ·intro p hp _
   rw [hps]
   simpa using hp
theorem shut_boolP {t : TypeId} {W : World} {b0 : Nat} {sp : Nat → Bool} {hd : Bool} (ht : P.underlying t = some .bool) (b : Bool) : DataW.Trod enc P W b0 sp hd t (.bool b) (.lit (.bool b)) [] := ⟨1, by simp [DataW.trod, Value.cells, ht]⟩
end
end Go.SL
namespace Go.Proofs
open Go.Shelf
def Tryz.lays155_ren : Go.Shelf.Ren := ⟨fun | 155 => 199 | 154 => 219 | 138 => 228 | 165 => 222 | 143 => 229 | 166 => 174 | 197 => 230 | 169 => 138 | 195 => 238 | 218 => 239 | 240 => 196 | 241 => 231 | 219 => 240 | 260 => 241 | 276 => 215 | 277 => 242 | 217 => 125 | 225 => 246 | 224 => 247 | 267 => 248 | 266 => 159 | 314 => 249 | n => n, fun | 9 => 9 | 3 => 3 | 4 => 4 | 72 => 235 | 0 => 0 | 76 => 266 | 105 => 301 | 21 => 21 | 5 => 5 | 70 => 233 | 20 => 20 | 37 => 37 | 75 => 262 | 127 => 271 | 164 => 291 | 46 => 83 | 119 => 307 | 139 => 310 | 138 => 309 | 146 => 311 | 51 => 111 | 80 => 238 | n => n, fun | 1 => 1 | 3 => 2 | 4 => 3 | n => n⟩
theorem Tryz.lays155 : Go.Proofs.Lays.n155 Tryz.prog Tryz.lays155_ren := {
 mixed := by kernel_rfl
 f138 := Tryz.func228.trans (congrArg some (by kernel_rfl))
 f143 := Tryz.func229.trans (congrArg some (by kernel_rfl))
 f154 := Tryz.func219.trans (congrArg some (by kernel_rfl))
 f155 := Tryz.func199.trans (congrArg some (by kernel_rfl))
 f165 := Tryz.func222.trans (congrArg some (by kernel_rfl))
 f166 := Tryz.func174.trans (congrArg some (by kernel_rfl))
 f169 := Tryz.func138.trans (congrArg some (by kernel_rfl))
 f195 := Tryz.func238.trans (congrArg some (by kernel_rfl))
 f197 := Tryz.func230.trans (congrArg some (by kernel_rfl))
 f217 := Tryz.func125.trans (congrArg some (by kernel_rfl))
 f218 := Tryz.func239.trans (congrArg some (by kernel_rfl))
 f219 := Tryz.func240.trans (congrArg some (by kernel_rfl))
 f224 := Tryz.func247.trans (congrArg some (by kernel_rfl))
 f225 := Tryz.func246.trans (congrArg some (by kernel_rfl))
 f240 := Tryz.func196.trans (congrArg some (by kernel_rfl))
 f241 := Tryz.func231.trans (congrArg some (by kernel_rfl))
 f260 := Tryz.func241.trans (congrArg some (by kernel_rfl))
 f266 := Tryz.func159.trans (congrArg some (by kernel_rfl))
 f267 := Tryz.func248.trans (congrArg some (by kernel_rfl))
 f276 := Tryz.func215.trans (congrArg some (by kernel_rfl))
 f277 := Tryz.func242.trans (congrArg some (by kernel_rfl))
 f314 := Tryz.func249.trans (congrArg some (by kernel_rfl))
 t0 := Tryz.underlying0
 a0 := Tryz.isAgg0
 z0 := Tryz.sizeOf0
 v0 := Tryz.zeroValue0
 t3 := Tryz.underlying3
 a3 := Tryz.isAgg3
 z3 := Tryz.sizeOf3
 v3 := Tryz.zeroValue3
 t4 := Tryz.underlying4
 a4 := Tryz.isAgg4
 z4 := Tryz.sizeOf4
 v4 := Tryz.zeroValue4
 t5 := Tryz.underlying5
 a5 := Tryz.isAgg5
 z5 := Tryz.sizeOf5
 v5 := Tryz.zeroValue5
 t9 := Tryz.underlying9
 a9 := Tryz.isAgg9
 z9 := Tryz.sizeOf9
 v9 := Tryz.zeroValue9
 t20 := Tryz.underlying20
 a20 := Tryz.isAgg20
 z20 := Tryz.sizeOf20
 v20 := Tryz.zeroValue20
 t21 := Tryz.underlying21
 a21 := Tryz.isAgg21
 z21 := Tryz.sizeOf21
 v21 := Tryz.zeroValue21
 t37 := Tryz.underlying37
 a37 := Tryz.isAgg37
 z37 := Tryz.sizeOf37
 v37 := Tryz.zeroValue37
 t46 := Tryz.underlying83
 a46 := Tryz.isAgg83
 z46 := Tryz.sizeOf83
 v46 := Tryz.zeroValue83
 t51 := Tryz.underlying111
 a51 := Tryz.isAgg111
 z51 := Tryz.sizeOf111
 v51 := Tryz.zeroValue111
 t70 := Tryz.underlying233
 a70 := Tryz.isAgg233
 z70 := Tryz.sizeOf233
 v70 := Tryz.zeroValue233
 t72 := Tryz.underlying235
 a72 := Tryz.isAgg235
 z72 := Tryz.sizeOf235
 v72 := Tryz.zeroValue235
 t75 := Tryz.underlying262
 a75 := Tryz.isAgg262
 z75 := Tryz.sizeOf262
 v75 := Tryz.zeroValue262
 t76 := Tryz.underlying266
 a76 := Tryz.isAgg266
 z76 := Tryz.sizeOf266
 v76 := Tryz.zeroValue266
 t105 := Tryz.underlying301
 a105 := Tryz.isAgg301
 z105 := Tryz.sizeOf301
 v105 := Tryz.zeroValue301
 t119 := Tryz.underlying307
 a119 := Tryz.isAgg307
 z119 := Tryz.sizeOf307
 t127 := Tryz.underlying271
 a127 := Tryz.isAgg271
 z127 := Tryz.sizeOf271
 v127 := Tryz.zeroValue271
 t138 := Tryz.underlying309
 a138 := Tryz.isAgg309
 z138 := Tryz.sizeOf309
 v138 := Tryz.zeroValue309
 t139 := Tryz.underlying310
 a139 := Tryz.isAgg310
 z139 := Tryz.sizeOf310
 v139 := Tryz.zeroValue310
 t146 := Tryz.underlying311
 a146 := Tryz.isAgg311
 z146 := Tryz.sizeOf311
 v146 := Tryz.zeroValue311
 t164 := Tryz.underlying291
 a164 := Tryz.isAgg291
 z164 := Tryz.sizeOf291
 v164 := Tryz.zeroValue291
 g1 := by kernel_rfl
 g3 := by kernel_rfl
 g4 := by kernel_rfl }
theorem Tryz.Builder_Extra_155 : Builder.Extra Tryz.prog Tryz.lays155_ren := {
 sizeBuilder := by kernel_rfl
 liesBuilder := by kernel_rfl
 t5 := Tryz.underlying5
 a5 := Tryz.isAgg5
 z5 := Tryz.sizeOf5
 v5 := Tryz.zeroValue5
 infoByte := by kernel_rfl
 cellsByte := by kernel_rfl
 sizeByte := by kernel_rfl
 neB5 := by decide }
open Go.RowKit Go.Lib in
theorem Tryz.strings_ReplaceAll (s old new : ByteArray) (m : Int) (w : World) (hs : s.size < 4294967281) (hm : w.cell? ⟨1, 0, none⟩ = some (.int .i64 m)) (h1 : 1 ≤ old.size) (hlen : s.size + Lib.countB s old * new.size ≤ 140737488355328) :
  Calls Tryz.prog 199 #[.string s, .string old, .string new] w fun e w' =>
   e = .returned (.string ⟨(Lib.replaceAll s.data.toList old.data.toList new.data.toList).toArray⟩) ∧ Below w.heap.size w w' := Any.strings_ReplaceAll Tryz.lays155 Tryz.Builder_Extra_155 s old new m w hs hm h1 hlen
end Go.Proofs
namespace Go.SL
section
variable {P : Program} {N : Nat} {chk : Array Oper → List (List AI) → Bool}
theorem KeepR.er {κ : K} {tmps : Array Value} : ∀ {keep : Env}, KeepR κ keep tmps → ER 0 κ keep tmps
 | [], _ => ⟨Nat.zero_le _, fun t => by simp [get, VR]⟩
 | (k, v) :: r, h => ⟨Nat.zero_le _, fun t => by
  simp only [get]
  by_cases hk : k = t
  ·subst hk
   rw [Nat.beq_refl]
   exact h (k, v) (by simp)
  ·rw [beq_ne hk]
   exact (KeepR.er fun p hp => h p (List.mem_cons_of_mem _ hp)).2 t⟩
theorem calls_fn (P : Program) {κ : K} {w : World} {g : V} {args : List V} {fid : FuncId} {all : List V} {gv : Value} {argv : Array Value} {d : Deferred} (h : calls g args = some (fid, all)) (hg : VR κ g gv) (hd : Deferred.ofValue gv argv = pure d) : ∃ fv cap, d.target = .fn fv cap := by
 have key : ∀ (f : Fn) (a c : Array Value), gv = .func f a c → ∃ fv cap, d.target = .fn fv cap := fun f a c e => by
  subst e
  have := congrArg (fun s => Sem.run P s w) hd
  simp only [Deferred.ofValue, Sem.run_pure, Result.ok.injEq, and_true] at this
  exact ⟨f, c, by rw [← this]⟩
 unfold calls at h
 split at h
 ·simp only [VR, DR] at hg
  obtain ⟨a', c', e, _⟩ := hg
  exact key _ _ _ e
 ·simp only [VR] at hg
  obtain ⟨a', c', e, _⟩ := hg
  exact key _ _ _ e
 ·simp at h
def UR (κ : K) : Option V → FrameMode → Prop
 | none, m => m = .returning
 | some v, m => ∃ x, m = .panicking [{ v := x, recovered := false }] ∧ VR κ v x
def recV : Option V → V
 | none => .d .nilI
 | some v => v
def outU : Out → Option V
 | .ret _ => none
 | .pan v => some v
def DCl (P : Program) (g : FuncId) (args : List V) (u : Option V) (h : H) (R : H → Prop) : Prop :=
 callable P g = true ∧ ∀ κ w argv m, Rel κ h w → VL κ args argv → UR κ u m → CallsD P g ⟨argv⟩ m w fun e u' w' => ∃ v κ' h', e = .returned v ∧ settle u' = .returning ∧ Le κ κ' ∧ Rel κ' h' w' ∧ R h'
theorem step_op_defer {b : Frame} {a : Act} {k : List Item} {cs : List Frame} {w w' : World} {ops : Array Oper} {i : Nat} {rest : List Nat} {o : Oper} {d : Deferred} (hb : b.roundOf = none) (ho : ops[i]? = some o)
  (hw : Region.wanted o (yielded ops a.tmps) = true) (hr : (execOp a.eval o).run P w = .ok (.defer d) w') :
  Go.step P (lone (b.atR a (.inRegion ops (i :: rest) :: k)) cs w) = .next (lone (b.atR ({ a with defers := d :: a.defers }.put o.dst undef) (.inRegion ops rest :: k)) cs w') := by
 have hg := stepGR_op (P := P) (b := b) (k := k) (cs := cs) (w := w) (rest := rest) ho hw
 refine step_lone_go ?_
 have : ({ b.atR a (.inRegion ops (i :: rest) :: k) with defers := d :: a.defers } : Frame).finish undef =
   b.atR ({ a with defers := d :: a.defers }.put o.dst undef) (.inRegion ops rest :: k) := by
  have := Frame.finish_atR b { a with defers := d :: a.defers } ops i rest k undef
  rw [ho] at this; exact this
 rw [hg, hb, Oper.semAt_none]; simp only [stepG.apply, Sem.runT_eq, hr, GStep.bare_after]
 exact congrArg (fun fr => GStep.go { frame := fr, callers := cs, status := .running, dying := none } w') this
theorem AT.defer {f : FuncId} {Q Q1 : Out → H → Prop} {fn : Func} (hf : P.funcs[f]? = some fn) {ix : Nat} {dst : Option Nat} {g : Opd} {args : List Opd} {kill : List Nat} {r : List AI} {ks : List AItem} {env : Env} {h : H} {fid : FuncId} {all : List V} {rs : List ARes} (keep : Env)
  (hc : calls (SL.ev env g) (args.map (SL.ev env)) = some (fid, all)) (hcal : callable P fid = true) (hrs : cRess P fn.results.toList = some rs)
  (hk : AT P N chk ⟨f, .normal, .one (SL.ev env g) (args.map (SL.ev env)), keep, none⟩ (.reg r :: ks) (put (dels env kill) dst .dead) h Q1)
  (hD : ∀ out h1, Q1 out h1 → DCl P fid all (outU out) h1 fun h2 => ∃ vs, aress h2 keep rs = some vs ∧ Q (.ret (outV vs)) h2) :
  AT P N chk (.of f) (.reg (⟨ix, dst, .defer g args, none, kill⟩ :: r) :: ks) env h Q := by
 intro κ w a k cs hcs hr he hd
 cases k with
 | nil => simp [CS] at hcs
 | cons x0 k =>
  obtain ⟨y, t, e, h3, h4⟩ := hcs
  simp only [List.cons.injEq] at e
  obtain ⟨e1, e2⟩ := e
  subst e1 e2
  cases x0 <;> simp only [CI] at h3
  rename_i ops l
  cases l with
  | nil => simp [RG] at h3
  | cons i rest =>
   obtain ⟨kill', ai', tl, c1, c2, c3⟩ := h3
   simp only [List.cons.injEq] at c2
   obtain ⟨c2, c4⟩ := c2
   subst c2 c4
   obtain ⟨o, o1, o2, o3, o4, o5, o6, o7⟩ := cAI_inv c1
   have hw : Region.wanted o (yielded ops a.tmps) = true := gOk_wanted he o7 trivial
   simp only at o5
   have : ∃ ce : Call, ∃ g0, o.op = .defer ce ∧ ce.callee = .value g0 ∧ opd g0 = some g ∧ opds ce.args.toList = some args := by
    cases ho : o.op <;> rw [ho] at o5 <;> simp only [copA] at o5
    case defer ce =>
     split at o5
     ·rename_i g0 hce
      split at o5
      ·rename_i g1 l1 z1 z2
       simp only [Option.some.injEq, AOp.defer.injEq] at o5
       obtain ⟨z3, z4⟩ := o5
       subst z3 z4
       exact ⟨ce, g0, rfl, hce, z1, z2⟩
      ·simp at o5
     ·simp at o5
    all_goals first | (split at o5 <;> simp at o5; done) | ((repeat' split at o5) <;> simp at o5)
   obtain ⟨ce, g0, p1, p2, p3, p4⟩ := this
   have hρ := ev_sound he
   have hgv := hρ _ _ p3
   have hav := opds_sound (f := SL.ev env) (ρ := a.eval) hρ p4
   obtain ⟨d, av, q1, q2, q3⟩ := calls_sound (P := P) (w := w) (argv := ce.args.map a.eval) hc hgv (by simpa using hav) hcal
   have hrun : (execOp a.eval o).run P w = .ok (.defer d) w := by
    simp [execOp, p1, resolve, p2, q1]
   have hst := step_op_defer (P := P) (b := baseOf (.of f)) (a := a) (k := k) (cs := cs) (rest := rest) rfl o1 hw hrun
   have hd0 : a.defers = [] := hd
   rw [hd0] at hst
   have hdef : DefR κ (.one (SL.ev env g) (args.map (SL.ev env))) [d] := ⟨d, a.eval g0, ce.args.map a.eval, rfl, q1, hgv, by simpa using hav⟩
   obtain ⟨e, w', fr, κ', h', out, g1, g2, g3, g4, g5, g6, g7⟩ := hk κ w ({ a with defers := [d] }.put o.dst undef) (.inRegion ops rest :: k) cs ⟨_, _, rfl, c3, h4⟩ hr (by
     have h1 : ER N κ (dels env kill) ({ a with defers := [d] } : Act).tmps := he.dels kill
     have := h1.putO (a := { a with defers := [d] }) o6 (x := .dead) (v := undef) (by simp [VR])
     simp only at o3
     rw [o3]
     exact this) (hdef.put (a := { a with defers := [d] }) (Le.refl κ) _ _)
   have g5 : Comes P (lone ((baseOf (.of f)).atR ({ a with defers := [d] }.put o.dst undef) (.inRegion ops rest :: k)) cs w) (lone fr cs w') e := g5
   obtain ⟨_, hD2⟩ := hD out h' g1
   have fin : ∀ (m : FrameMode), fr.mode = m → m ≠ .run → DefR κ' (.one (SL.ev env g) (args.map (SL.ev env))) fr.defers → fr.kind = .normal → KeepR κ' keep fr.tmps →
     UR κ' (outU out) m → Steps P (lone ((baseOf (.of f)).atR ({ a with defers := [d] }.put o.dst undef) (.inRegion ops rest :: k)) cs w) (lone fr cs w') →
     Ends P (.of f) (lone ((baseOf (.of f)).atR a (.inRegion ops (i :: rest) :: k)) cs w) cs κ Q := by
    intro m f1 f2 f3 f4 f5 f6 f7
    obtain ⟨d', gv', argv', d1, d2, d3, d4⟩ := f3
    obtain ⟨d'', av', r1, r2, r3⟩ := calls_sound (P := P) (w := w') (argv := argv') hc d3 d4 hcal
    rw [d2] at r1
    have r1 : d' = d'' := by
     have := congrArg (fun s => Sem.run P s w') r1
     simpa using this
    subst r1
    have hfv := calls_fn P (w := w) hc d3 d2
    obtain ⟨fv, cap, hfv⟩ := hfv
    obtain ⟨e', w'', fr', s1, s2, s3, s4⟩ := leaves_steps (P := P) (fn := fn) (tmps := fr.tmps) (R := fun e w'' => ∃ v κ2 h2 out2, e = Ending.returned v ∧ Q out2 h2 ∧ Le κ κ2 ∧ Rel κ2 h2 w'' ∧ OutR κ2 out2 e) [d'] m w' fr cs f1 d1 rfl (by rw [g6]; exact hf) f4
     ⟨f2, fv, cap, fid, ⟨av'⟩, hfv, r2, (hD2 κ' w' av' m g3 r3 f6).mono fun e2 u2 w2 ⟨v2, κ2, h2, t1, t2, t3, t4, vs, t5, t6⟩ => by
      subst t1
      simp only
      rw [t2]
      obtain ⟨y, y1, y2⟩ := results_sound (P := P) t4 ((f5.mono t3).er) hrs t5
      exact ⟨y, y1, y, κ2, h2, _, rfl, t6, g2.trans t3, t4, ⟨y, rfl, y2⟩⟩⟩
    obtain ⟨v2, κ2, h2, out2, z1, z2, z3, z4, z5⟩ := s1
    subst z1
    refine ⟨.returned v2, w'', fr', κ2, h2, out2, z2, z3, z4, z5, .head hst (Steps.trans f7 s2), by rw [s3]; exact g6, ?_⟩
    obtain ⟨l1, l2, l3, fn', l4, l5⟩ := s4
    exact ⟨l1, l2, l3, fn', l4, l5⟩
   cases e with
   | returned v =>
    obtain ⟨m1, m2, m3, fn', m4, m5⟩ := g7
    refine fin .returning m1 (by simp) m2 m3 m5 ?_ g5
    cases out with
    | ret _ => rfl
    | pan _ => obtain ⟨_, e1, _⟩ := g4; simp at e1
   | panicked ch =>
    obtain ⟨m1, m2, m3, m4, m5⟩ := g7
    cases out with
    | ret _ => obtain ⟨_, e1, _⟩ := g4; simp at e1
    | pan v =>
     obtain ⟨x, e1, e2⟩ := g4
     simp only [Ending.panicked.injEq] at e1
     subst e1
     exact fin _ m1 (by simp) (m2 rfl) m4 m5 ⟨x, rfl, e2⟩ g5
   | outgrown => cases out <;> (obtain ⟨_, e1, _⟩ := g4; simp at e1)
theorem DCl.of {g : FuncId} {fn : Func} {id : Nat} {o : Oper} {t : Nat} {c : Code} {ac : AC} {ann : Ann} {args : List V} {u : Option V} {h : H} {R : H → Prop} (n : Nat) (hf : P.funcs[g]? = some fn)
  (hb : fn.body = some (.seq (.region id #[o] false) c)) (hn : fn.ntmps = N) (hcal : callable P g = true) (ho : ∀ ρ w, (execOp ρ o).run P w = .ok .recover w) (hg : o.guard = none) (hd : o.dst = some t) (ht : t < N)
  (hc : comp P N ann chkD c = some (inst ac))
  (hk : ATT P N ⟨g, .deferred, .no, [], none⟩ (fun out h' => (∃ v, out = .ret v) ∧ R h') (goes n [.code ac] (put (env0 0 args) (some t) (recV u)) h true)) : DCl P g args u h R := by
 refine ⟨hcal, fun κ w argv m hr hv hu c0 cs hm => ?_⟩
 let f : FD := ⟨g, .deferred, .no, [], none⟩
 let a : Act := { tmps := ⟨argv⟩ ++ Array.replicate (fn.ntmps - argv.length) undef, defers := [] }
 have henter : Frame.enter P g ⟨argv⟩ .deferred = (baseOf f).atR a [.code (.seq (.region id #[o] false) c)] := by
  simp [Frame.enter, Frame.atR, hf, hb, baseOf, a, f]
 have he : ER N κ (env0 0 args) a.tmps := by
  refine ⟨?_, fun t => ?_⟩
  ·simp only [a, Array.size_append, Array.size_replicate]
   show N ≤ argv.length + (fn.ntmps - argv.length)
   omega
  ·rw [get_env0, if_pos (Nat.zero_le _), Nat.sub_zero]
   cases hx : args[t]? with
   | none => simp [List.getD, hx, VR]
   | some x =>
    obtain ⟨y, h1, h2⟩ := VL.get hv t x hx
    have hlt := (List.getElem?_eq_some_iff.1 h1).1
    simp only [List.getD, hx, Option.getD_some]
    have : a.tmps.getD t undef = y := by
     simp only [a, Array.getD_eq_getD_getElem?]
     rw [Array.getElem?_append_left (by simpa using hlt)]
     simp [h1]
    rw [this]; exact h2
 have hops : (#[o] : Array Oper)[0]? = some o := by simp
 have hw : Region.wanted o (yielded #[o] a.tmps) = true := by simp [Region.wanted, hg]
 have pre : ∀ (cs' : List Frame) (x : Value), (match recoverD (c0 :: cs) with | some (v, cs2) => cs' = cs2 ∧ x = v | none => cs' = c0 :: cs ∧ x = .nilIface) →
   Steps P (lone (Frame.enter P g ⟨argv⟩ .deferred) (c0 :: cs) w) (lone ((baseOf f).atR (a.put o.dst x) [.code c]) cs' w) := by
  intro cs' x hx
  rw [henter]
  refine .head stepR_seq (.head stepR_region ?_)
  have hl : List.range (#[o] : Array Oper).size = [0] := rfl
  rw [hl]
  have hg' := stepGR_op (P := P) (b := baseOf f) (a := a) (k := [.code c]) (cs := c0 :: cs) (w := w) (rest := []) hops hw
  rw [show (baseOf f).roundOf = none from rfl, Oper.semAt_none] at hg'
  have hk' : ((baseOf f).atR a (.inRegion #[o] (0 :: []) :: [.code c])).kind = .deferred := rfl
  have htr := tryRecover_deferred hk' (c0 :: cs)
  have hfin : ∀ v, ((baseOf f).atR a (.inRegion #[o] (0 :: []) :: [.code c])).finish v = (baseOf f).atR (a.put o.dst v) (.inRegion #[o] [] :: [.code c]) := by
   intro v; rw [Frame.finish_atR, hops]; rfl
  have hrun := ho a.eval w
  refine .head (step_lone_go (fr' := (baseOf f).atR (a.put o.dst x) (.inRegion #[o] [] :: [.code c])) (cs' := cs') ?_) (.one stepR_region_end)
  rw [hg', ← hfin]
  split at hx
  ·rename_i v cs2 hrec
   obtain ⟨x1, x2⟩ := hx
   subst x1 x2
   have hro : (baseOf f).roundOf = none := rfl
   simp only [Frame.atR] at htr ⊢
   simp only [hro] at htr ⊢
   simp [stepG.apply, hrun, htr, hrec]
  ·rename_i hrec
   obtain ⟨x1, x2⟩ := hx
   subst x1 x2
   have hro : (baseOf f).roundOf = none := rfl
   simp only [Frame.atR] at htr ⊢
   simp only [hro] at htr ⊢
   simp [stepG.apply, hrun, htr, hrec]
 have main : ∀ (cs' : List Frame) (x : Value), VR κ (recV u) x →
   ∃ e w' fr κ' h', (∃ v, e = Ending.returned v) ∧ R h' ∧ Le κ κ' ∧ Rel κ' h' w' ∧ Comes P (lone ((baseOf f).atR (a.put o.dst x) [.code c]) cs' w) (lone fr cs' w') e ∧ fr.fn = g ∧ f.leave P κ' fr w' e := by
  intro cs' x hx
  have hAT : AT P N chkD f [.code (inst ac)] (put (env0 0 args) (some t) (recV u)) h (fun out h' => (∃ v, out = .ret v) ∧ R h') := (goes_sound n _ _ _ _ hk).2.at
  obtain ⟨e, w', fr, κ', h', out, g1, g2, g3, g4, g5, g6, g7⟩ := hAT κ w (a.put o.dst x) [.code c] cs' ⟨_, _, rfl, ⟨ann, hc⟩, rfl⟩ hr (by rw [hd]; exact he.put ht hx) (by rw [hd]; rfl)
  obtain ⟨⟨v, e1⟩, hR⟩ := g1
  subst e1
  obtain ⟨y, e2, e3⟩ := g4
  exact ⟨e, w', fr, κ', h', ⟨y, e2⟩, hR, g2, g3, g5, g6, g7⟩
 cases u with
 | none =>
  have hmm : c0.mode = .returning := hm.trans hu
  have hrec : recoverD (c0 :: cs) = none := by simp [recoverD, hmm]
  obtain ⟨e, w', fr, κ', h', ⟨v, e1⟩, hR, g2, g3, g5, g6, g7⟩ := main (c0 :: cs) .nilIface (by simp [VR, DR, recV])
  subst e1
  obtain ⟨m1, m2, m3, fn', m4, m5⟩ := g7
  have hc0 : ({ c0 with mode := m } : Frame) = c0 := by subst hm; rfl
  refine ⟨.returned v, m, w', fr, ⟨v, κ', h', rfl, by rw [hu]; rfl, g2, g3, hR⟩, ?_, m3, m1, m2, fn', m4, m5⟩
  rw [hc0]
  exact Steps.trans (pre _ _ (by rw [hrec]; exact ⟨rfl, rfl⟩)) g5
 | some v0 =>
  obtain ⟨x, hu1, hu2⟩ := hu
  have hmm : c0.mode = .panicking [{ v := x, recovered := false }] := hm.trans hu1
  have hrec : recoverD (c0 :: cs) = some (x, { c0 with mode := .panicking [{ v := x, recovered := true }] } :: cs) := by simp [recoverD, hmm]
  obtain ⟨e, w', fr, κ', h', ⟨v, e1⟩, hR, g2, g3, g5, g6, g7⟩ := main ({ c0 with mode := .panicking [{ v := x, recovered := true }] } :: cs) x hu2
  subst e1
  obtain ⟨m1, m2, m3, fn', m4, m5⟩ := g7
  refine ⟨.returned v, .panicking [{ v := x, recovered := true }], w', fr, ⟨v, κ', h', rfl, by simp [settle], g2, g3, hR⟩, ?_, m3, m1, m2, fn', m4, m5⟩
  exact Steps.trans (pre _ _ (by rw [hrec]; exact ⟨rfl, rfl⟩)) g5
theorem ATT.defer {f : FuncId} {Q : Out → H → Prop} (Q1 : Out → H → Prop) {fn : Func} (hf : P.funcs[f]? = some fn) {ix : Nat} {dst : Option Nat} {g : Opd} {args : List Opd} {kill : List Nat} {r : List AI} {k : List AItem} {env : Env} {h : H} {ob : Bool} {fid : FuncId} {all : List V} {rs : List ARes} (n : Nat) (keep : Env)
  (hc : calls (ev env g) (args.map (ev env)) = some (fid, all)) (hcal : callable P fid = true) (hrs : cRess P fn.results.toList = some rs) (ho : ob = true)
  (hk : ATT P N ⟨f, .normal, .one (ev env g) (args.map (ev env)), keep, none⟩ Q1 (goes n (.reg r :: k) (put (dels env kill) dst .dead) h true))
  (hD : ∀ out h1, Q1 out h1 → DCl P fid all (outU out) h1 fun h2 => ∃ vs, aress h2 keep rs = some vs ∧ Q (.ret (outV vs)) h2) :
  ATT P N (.of f) Q (.reg (⟨ix, dst, .defer g args, none, kill⟩ :: r) :: k, env, h, ob) :=
 ⟨ho, AT.defer hf keep hc hcal hrs (goes_sound n _ _ _ _ hk).2.at hD⟩
theorem AT.retD {f : FD} {Q : Out → H → Prop} {fn : Func} (hf : P.funcs[f.fn]? = some fn) {ks : List AItem} {env : Env} {h : H} (hks : ks = [] ∨ ∃ k, ks = .code .ret :: k) (hdv : f.dv.plain = false) (hkp : subE env f.keep) (hQ : Q (.ret .dead) h) (hrn : f.rnd = none := by rfl) (hnc : f.dv.nocol = true := by rfl) : AT P N chk f ks env h Q := by
 intro κ w a k cs hcs hr he hd
 have fin : ∀ fr : Frame, fr.fn = f.fn → fr.mode = .returning → fr.defers = a.defers → fr.kind = f.kind → fr.tmps = a.tmps → Steps P (lone ((baseOf f).atR a k) cs w) (lone fr cs w) → Ends P f (lone ((baseOf f).atR a k) cs w) cs κ Q := by
  intro fr f1 f2 f3 f4 f5 f6
  refine ⟨.returned undef, w, fr, κ, h, .ret .dead, hQ, Le.refl κ, hr, ⟨undef, rfl, by simp [VR]⟩, f6, f1, ?_⟩
  simp only [FD.leave, hrn]
  refine ⟨f2, by rw [f3, DV.base_eq hnc]; exact hd, f4, fn, by rw [f1]; exact hf, ?_⟩
  rw [hdv, f5]; exact KeepR.of he hkp
 rcases hks with e | ⟨k0, e⟩
 ·subst e
  cases k with
  | nil => exact fin { (baseOf f).atR a [] with mode := .returning } rfl rfl rfl rfl rfl (.one (stepR_end hrn))
  | cons x k => obtain ⟨y, t, e, _⟩ := hcs; simp at e
 ·subst e
  cases k with
  | nil => simp [CS] at hcs
  | cons x k =>
   obtain ⟨y, t, e, h3, h4⟩ := hcs
   simp only [List.cons.injEq] at e
   obtain ⟨e1, e2⟩ := e
   subst e1 e2
   cases x <;> simp only [CI] at h3
   rename_i c
   obtain ⟨ann, hc⟩ := h3
   have : c = .ret := by
    cases c <;> simp only [comp] at hc <;> first | rfl | (simp at hc; done) | ((repeat' split at hc) <;> simp at hc)
   subst this
   exact fin { (baseOf f).atR a (.code .ret :: k) with mode := .returning } rfl rfl rfl rfl rfl (.one (stepR_ret hrn))
theorem ATT.finD {f : FD} {Q : Out → H → Prop} {fn : Func} (hf : P.funcs[f.fn]? = some fn) {k : List AItem} {env : Env} {h : H} {ob : Bool} (ho : ob = true) (hdv : f.dv.plain = false) (hkp : subE env f.keep) (hQ : Q (.ret .dead) h) (hrn : f.rnd = none := by rfl) (hnc : f.dv.nocol = true := by rfl) : ATT P N f Q (.code .ret :: k, env, h, ob) :=
 ⟨ho, AT.retD hf (.inr ⟨k.map instI, rfl⟩) hdv hkp hQ hrn hnc⟩
end
end Go.SL
namespace Go.SL
section
variable {P : Program} {N : Nat}
def DfR (i r : Nat) : K → Obj → Prop := fun κ o => κ.bl i = r ∧ o = .deferred (some [])
structure LD where
 fn : FuncId
 N : Nat
 env : Env
 ps : List Nat
 ags : AC
 bd : AC
 blk : Nat
def LpR (P : Program) (L : LD) (i l : Nat) (st : LoopState) (pend : Option Code) : K → Obj → Prop := fun κ o => κ.bl i = l ∧ ∃ tmps assign body,
 o = .loop { state := st, pending := pend, fn := L.fn, tmps := tmps, params := ⟨L.ps⟩, assign := assign, body := body, defers := L.blk } ∧ ER L.N κ L.env tmps ∧
 (∃ ann, comp P L.N ann chkD assign = some (inst L.ags)) ∧ (∃ ann, comp P L.N ann chkD body = some (inst L.bd)) ∧ ∀ t ∈ L.ps, t < L.N
def stOf : Option Code → LoopState
 | none => .ready
 | some _ => .done
def jOK : Option Code → Bool
 | none => true
 | some .ret => true
 | some (.exit _) => true
 | _ => false
def jItem : Option Code → List AItem
 | none => []
 | some (.exit id) => [.code (.exit id)]
 | _ => [.code .ret]
def jmpD : Option Code → V
 | none => .d (.bool true)
 | some (.exit id) => .d (.int .i64 id)
 | _ => .d (.bool false)
def putps : Env → List Nat → List V → Env
 | e, t :: ts, v :: vs => putps (put e (some t) v) ts vs
 | e, _, _ => e
theorem Rel.raw {κ : K} {h : H} {w : World} (r : Rel κ h w) {i : Nat} {R : K → Obj → Prop} (hb : h.bx[i]? = some (.raw R)) :
  ∃ o, w.heap[κ.bl i]? = some o ∧ R κ o ∧ κ.who (κ.bl i) = .box i ∧ ∀ κ', Le κ κ' → κ'.bl i = κ.bl i → R κ' o := by
 obtain ⟨h1, o, h2, h3⟩ := r.bx i _ hb
 exact ⟨o, h2, h3 κ (Le.refl κ) rfl, h1, h3⟩
theorem Rel.putRaw {κ : K} {h : H} {w : World} (r : Rel κ h w) {i : Nat} {R R' : K → Obj → Prop} (hb : h.bx[i]? = some (.raw R)) (o : Obj)
  (hR : ∀ κ', Le κ κ' → κ'.bl i = κ.bl i → R' κ' o) : Rel κ ⟨h.bx.set i (.raw R'), h.vc⟩ (w.putObj (κ.bl i) o) := by
 obtain ⟨o0, g1, _, g3, _⟩ := r.raw hb
 have hlt := (Array.getElem?_eq_some_iff.1 g1).1
 exact r.setBox hb (by simp) (fun b hne => World.putObj_heap_other hne) rfl rfl rfl ⟨g3, o, World.putObj_heap_same hlt, hR⟩
theorem Rel.putGone {κ : K} {h : H} {w : World} (r : Rel κ h w) {i : Nat} {R : K → Obj → Prop} (hb : h.bx[i]? = some (.raw R)) (o : Obj) : Rel κ ⟨h.bx.set i .gone, h.vc⟩ (w.putObj (κ.bl i) o) :=
 r.setBox hb (by simp) (fun b hne => World.putObj_heap_other hne) rfl rfl rfl trivial
theorem comp_rangeF {ann : Ann} {chk : Array Oper → List (List AI) → Bool} {c : Code} {g : Opd} {ps : List Nat} {A B : AC} (h : comp P N ann chk c = some (.rangeF g ps A B)) :
  ∃ g0 ps0 a0 b0, c = .rangeFunc g0 ps0 a0 b0 ∧ opd g0 = some g ∧ comp P N ann chk a0 = some A ∧ comp P N ann chk b0 = some B ∧ ps0.toList = ps ∧ ∀ t ∈ ps, t < N := by
 cases c with
 | rangeFunc g0 ps0 a0 b0 =>
  simp only [comp] at h
  split at h
  case h_2 => simp at h
  rename_i g' a' b' h1 h2 h3 h4
  simp only [Option.some.injEq, AC.rangeF.injEq] at h
  obtain ⟨e1, e2, e3, e4⟩ := h
  subst e1 e2 e3 e4
  refine ⟨_, _, _, _, rfl, h1, h2, h3, rfl, fun t ht => ?_⟩
  have := List.all_eq_true.1 h4 t ht
  simpa [Nat.blt_eq] using this
 | _ =>
  simp only [comp] at h
  all_goals first | (simp at h; done) | ((repeat' split at h) <;> simp at h)
theorem ER.putps {κ : K} : ∀ {ps : List Nat} {vs : List V} {ys : List Value} {env : Env} {tmps : Array Value}, ER N κ env tmps → VL κ vs ys → (∀ t ∈ ps, t < N) → vs.length = ps.length →
  ER N κ (putps env ps vs) ((ps.zip ys).foldl (fun tmps (p : Nat × Value) => tmps.setIfInBounds p.1 p.2) tmps)
 | [], vs, ys, env, tmps, h, _, _, hl => by
  have : vs = [] := List.length_eq_zero_iff.1 hl
  subst this
  simpa [SL.putps] using h
 | t :: ps, v :: vs, ys, env, tmps, h, hv, hp, hl => by
  simp only [VL] at hv
  obtain ⟨y, r, e, h1, h2⟩ := hv
  subst e
  simp only [SL.putps, List.zip_cons_cons, List.foldl_cons]
  exact ER.putps (h.put (hp t (by simp)) h1) h2 (fun t ht => hp t (by simp [ht])) (by simpa using hl)
 | t :: ps, [], ys, env, tmps, h, hv, hp, hl => by simp at hl
def ItQ (P : Program) (N : Nat) (f : FD) (L : LD) (b l r : Nat) (ks : List AItem) (env : Env) (Q : Out → H → Prop) (o : Out) (h : H) : Prop :=
 (∃ v, o = .ret v) ∧ ∃ j, jOK j = true ∧ h.bx[b]? = some (.raw (LpR P L b l (stOf j) j)) ∧
  AT P N chkD { f with dv := .col r f.dv } (jItem j ++ ks) env ⟨h.bx.set b .gone, h.vc⟩ fun o h => (∃ v, o = .ret v) ∧ Q o h
theorem CS.jump {chk : Array Oper → List (List AI) → Bool} {k : List Item} {ks : List AItem} (h : CS P N chk k ks) : ∀ {j : Option Code}, jOK j = true → CS P N chk ((j.map Item.code).toList ++ k) (jItem j ++ ks)
 | none, _ => h
 | some .ret, _ => ⟨_, _, rfl, ⟨fun _ => [], rfl⟩, h⟩
 | some (.exit _), _ => ⟨_, _, rfl, ⟨fun _ => [], rfl⟩, h⟩
theorem AT.rangeF {f : FD} {Q : Out → H → Prop} (hrn : f.rnd = none) {g : Opd} {ps : List Nat} {ags bd : AC} {ks : List AItem} {env : Env} {h : H} {gid : FuncId} {all : Nat → List V} {N' : Nat} {fn : Func} {c : Code} {ac : AC} {ann : Ann}
  (hc : ∀ l, calls (SL.ev env g) [.d (.fn (.yield l) [] [])] = some (gid, all l)) (hcal : callable P gid = true) (hf : P.funcs[gid]? = some fn) (hb : fn.body = some c) (hn : fn.ntmps = N') (hcm : comp P N' ann chkD c = some ac)
  (hk : ∀ l r, AT P N' chkD (.of gid) [.code ac] (env0 0 (all l)) ⟨h.bx ++ [.raw (DfR h.bx.length r)] ++ [.raw (LpR P ⟨f.fn, N, env, ps, ags, bd, r⟩ (h.bx.length + 1) l .ready none)], h.vc⟩
   (ItQ P N f ⟨f.fn, N, env, ps, ags, bd, r⟩ (h.bx.length + 1) l r ks env Q)) : AT P N chkD f (.code (.rangeF g ps (inst ags) (inst bd)) :: ks) env h Q := by
 intro κ w a k cs hcs hr he hd
 cases k with
 | nil => simp [CS] at hcs
 | cons x0 k =>
  obtain ⟨y, t, e, h3, h4⟩ := hcs
  simp only [List.cons.injEq] at e
  obtain ⟨e1, e2⟩ := e
  subst e1 e2
  cases x0 <;> simp only [CI] at h3
  rename_i c0
  obtain ⟨ann0, hc0⟩ := h3
  obtain ⟨g0, ps0, a0, b0, e0, p1, p2, p3, p4, p5⟩ := comp_rangeF hc0
  subst e0
  obtain ⟨ps0⟩ := ps0
  simp only at p4
  subst p4
  let L : LD := ⟨f.fn, N, env, ps0, ags, bd, w.heap.size⟩
  let ob : Obj := .loop { state := .ready, pending := none, fn := f.fn, tmps := a.tmps, params := ⟨ps0⟩, assign := a0, body := b0, defers := w.heap.size }
  have hro : (baseOf f).roundOf = none := hrn
  have hent : (Instr.enterLoop (baseOf f).fn a.tmps ⟨ps0⟩ a0 b0 (baseOf f).roundOf).run P w = .ok (w.heap.size + 1, [{ target := .collected w.heap.size, args := #[] }]) ((w.alloc (.deferred (some []))).alloc ob) := by
   rw [hro]; exact run_enterLoop_outer _ _ _ _ _
  obtain ⟨κ1, r1, l1, _⟩ := hr.newBox (.raw (DfR h.bx.length w.heap.size)) (.deferred (some [])) (.inr (.inr ⟨_, rfl, fun κ' _ hb => ⟨hb, rfl⟩⟩))
  obtain ⟨κ2, r2, l2, _⟩ := r1.newBox (.raw (LpR P L (h.bx.length + 1) (w.heap.size + 1) .ready none)) ob (.inr (.inr ⟨_, rfl, fun κ' l hb =>
   ⟨by simpa [World.size_alloc] using hb, a.tmps, a0, b0, rfl, he.mono (l1.trans l), ⟨ann0, p2⟩, ⟨ann0, p3⟩, p5⟩⟩))
  have l12 := l1.trans l2
  have hgv := ev_sound (he.mono l12) _ _ p1
  have hav : VL κ2 [.d (.fn (.yield (w.heap.size + 1)) [] [])] (#[.func (.yield (w.heap.size + 1)) #[] #[]] : Array Value).toList := by
   simp only [VL]
   exact ⟨_, _, rfl, by simp only [VR, DR]; exact ⟨[], [], rfl, rfl, rfl⟩, rfl⟩
  obtain ⟨d, av, q1, q2, q3⟩ := calls_sound (P := P) (w := (w.alloc (.deferred (some []))).alloc ob) (hc (w.heap.size + 1)) hgv hav hcal
  have hres : (resolve a.eval (rangeCall g0 (w.heap.size + 1)) 0).run P ((w.alloc (.deferred (some []))).alloc ob) = .ok d ((w.alloc (.deferred (some []))).alloc ob) := by
   have hev : a.eval (.const (.func (.yield (w.heap.size + 1)) #[] #[])) = .func (.yield (w.heap.size + 1)) #[] #[] := rfl
   simp [resolve, hev, q1]
  have hst := stepR_rangeFunc (P := P) (b := baseOf f) (a := a) (k := k) (cs := cs) hent hres q2
  have hAF := AF.of hf hb hn hcal hcm (hk (w.heap.size + 1) w.heap.size)
  obtain ⟨e, w3, fr, ⟨κ3, h3', out, g1, g2, g3, g4⟩, g5, _, g7⟩ := hAF.2 κ2 _ av r2 q3 ((baseOf f).atR { a with defers := [{ target := .collected w.heap.size, args := #[] }] ++ a.defers } (.inRangeFunc (w.heap.size + 1) :: k) :: cs)
  obtain ⟨⟨v, e1⟩, j, hj, hbx, hat⟩ := g1
  subst e1
  obtain ⟨x, e2, _⟩ := g4
  subst e2
  have hleave := step_leave_returned (c := (baseOf f).atR { a with defers := [{ target := .collected w.heap.size, args := #[] }] ++ a.defers } (.inRangeFunc (w.heap.size + 1) :: k)) (cs := cs) g7
  rw [finish_atR_inRangeFunc] at hleave
  obtain ⟨o, o1, ⟨o2, tm, ags', bd', o3, _⟩, o4, _⟩ := g3.raw hbx
  subst o3
  rw [o2] at o1
  have hend := run_endLoop (P := P) o1 (by cases j <;> simp [stOf])
  have hr3 := g3.putGone hbx (.loop { state := .exhausted, pending := j, fn := f.fn, tmps := tm, params := ⟨ps0⟩, assign := ags', body := bd', defers := w.heap.size })
  rw [o2] at hr3
  have l3 := l12.trans g2
  obtain ⟨e', w', fr', κ', h', out', ⟨⟨v', e1'⟩, q'⟩, le', rel', outr', comes', hfn', leave'⟩ := hat κ3 _ { a with defers := [{ target := .collected w.heap.size, args := #[] }] ++ a.defers } _ cs (h4.jump hj) hr3 (he.mono l3) ⟨a.defers, rfl, hd.mono l3⟩
  subst e1'
  obtain ⟨x', e2', _⟩ := id outr'
  subst e2'
  refine ⟨_, w', fr', κ', h', _, q', l3.trans le', rel', outr', ?_, hfn', ?_⟩
  ·exact .head hst (Steps.trans g5 (.head hleave (.head (stepR_endRangeFunc hend) comes')))
  ·simp only [FD.leave, hrn] at leave' ⊢
   exact leave'
theorem AT.begin {f : FD} {Q : Out → H → Prop} {L : LD} {i l : Nat} {ks : List AItem} {env : Env} {h : H} (hrn : f.rnd = some l) (hb : h.bx[i]? = some (.raw (LpR P L i l .ready none)))
  (hk : AT P N chkD f ks env ⟨h.bx.set i (.raw (LpR P L i l .busy none)), h.vc⟩ Q) : AT P N chkD f (.begin :: ks) env h Q := by
 intro κ w a k cs hcs hr he hd
 cases k with
 | nil => simp [CS] at hcs
 | cons x0 k =>
  obtain ⟨y, t, e, h3, h4⟩ := hcs
  simp only [List.cons.injEq] at e
  obtain ⟨e1, e2⟩ := e
  subst e1 e2
  cases x0 <;> simp only [CI] at h3
  obtain ⟨o, o1, ⟨o2, tm, ags', bd', o3, _⟩, o4, o5⟩ := hr.raw hb
  subst o3
  have hR := hr.putRaw (R' := LpR P L i l .busy none) hb (.loop { state := .busy, pending := none, fn := L.fn, tmps := tm, params := ⟨L.ps⟩, assign := ags', body := bd', defers := L.blk }) fun κ' l' e' => by
   obtain ⟨z1, tm2, as2, bd2, z2, z3⟩ := o5 κ' l' e'
   simp only [Obj.loop.injEq, Loop.mk.injEq, true_and] at z2
   obtain ⟨y1, y2, y3, _⟩ := z2
   subst y1 y2 y3
   exact ⟨z1, _, _, _, rfl, z3⟩
  rw [o2] at o1 hR
  have hbeg := run_beginRound (P := P) o1 rfl
  exact Ends.of_steps (.one (stepR_beginRound (b := baseOf f) hrn hbeg)) (hk κ _ a k cs h4 hR he hd)
theorem AT.left {f : FD} {Q : Out → H → Prop} {l : Nat} {ks : List AItem} {env : Env} {h : H} (j : Option Code) (hrn : f.rnd = some l) (hdv : f.dv = .no) (hQ : Q (.ret (jmpD j)) h) (hj : jOK j = true)
  (hl : ∀ k : List Item, CS P N chkD k ks → LeftBy j k) : AT P N chkD f ks env h Q := by
 intro κ w a k cs hcs hr he hd
 rw [hdv] at hd
 refine ⟨.returned (jmpV j), w, (baseOf f).atR a k, κ, h, _, hQ, Le.refl κ, hr, ?_, .refl _ _, rfl, ?_⟩
 ·refine ⟨_, rfl, ?_⟩
  cases j with
  | none => simp [jmpD, jmpV, VR, DR]
  | some c => cases c <;> simp [jOK] at hj <;> simp [jmpD, jmpV, VR, DR]
 ·simp only [FD.leave, hrn]
  exact ⟨rfl, hd, hrn, rfl, j, rfl, hl k hcs⟩
theorem AT.endR {f : FD} {Q : Out → H → Prop} {l : Nat} {env : Env} {h : H} (hrn : f.rnd = some l) (hdv : f.dv = .no) (hQ : Q (.ret (.d (.bool true))) h) : AT P N chkD f [] env h Q :=
 AT.left none hrn hdv hQ rfl fun k hk => by
  cases k with
  | nil => rfl
  | cons x k => obtain ⟨y, t, e, _⟩ := hk; simp at e
theorem comp_ret {ann : Ann} {chk : Array Oper → List (List AI) → Bool} {c : Code} (h : comp P N ann chk c = some .ret) : c = .ret := by
 cases c <;> simp only [comp] at h <;> first | rfl | (simp at h; done) | ((repeat' split at h) <;> simp at h)
def RdQ (P : Program) (N : Nat) (f : FD) (L : LD) (i l : Nat) (ks : List AItem) (env : Env) (dst : Option Nat) (Q : Out → H → Prop) (o : Out) (h : H) : Prop :=
 ∃ j, jOK j = true ∧ o = .ret (jmpD j) ∧ h.bx[i]? = some (.raw (LpR P L i l .busy none)) ∧
  AT P N chkD f ks (put env dst (.d (.bool j.isNone))) ⟨h.bx.set i (.raw (LpR P L i l (stOf j) j)), h.vc⟩ Q
theorem jmp_inj {κ : K} {j j' : Option Code} {v : Value} {k : List Item} (hj : jOK j = true) (h : VR κ (jmpD j) v) (h' : v = jmpV j') (hl : LeftBy j' k) : j' = j := by
 subst h'
 cases j with
 | none =>
  cases j' with
  | none => rfl
  | some c => cases c <;> simp [jmpD, jmpV, VR, DR] at h
 | some c =>
  cases c <;> simp [jOK] at hj
  case exit id =>
   cases j' with
   | none => simp [jmpD, jmpV, VR, DR] at h
   | some c' =>
    cases c' <;> simp [jmpD, jmpV, VR, DR] at h
    rename_i id'
    have : id' = id := by omega
    subst this; rfl
  case ret =>
   cases j' with
   | none => simp [jmpD, jmpV, VR, DR] at h
   | some c' => cases c' <;> simp [jmpD, jmpV, VR, DR, LeftBy] at h hl ⊢
theorem frame_atR {fr : Frame} {f : FD} {l : Nat} (h1 : fr.mode = .run) (h2 : fr.defers = []) (h3 : fr.roundOf = some l) (h4 : fr.kind = f.kind) (h5 : fr.fn = f.fn) (h6 : f.rnd = some l) : fr = (baseOf f).atR { tmps := fr.tmps, defers := [] } fr.todo := by
 obtain ⟨a, b, c, d, e, g, i⟩ := fr
 simp only at h1 h2 h3 h4 h5
 subst h1 h2 h3 h4 h5
 simp [Frame.atR, baseOf, h6]
theorem AT.yield {f : FD} {Q : Out → H → Prop} {ai : AI} {r : List AI} {ks : List AItem} {env : Env} {h : H} {g : Opd} {args : List Opd} {L : LD} {i l : Nat}
  (hop : ai.op = .call g args) (hg : gOk env ai.guard) (hev : SL.ev env g = .d (.fn (.yield l) [] [])) (hlen : args.length = L.ps.length) (hbx : h.bx[i]? = some (.raw (LpR P L i l .ready none)))
  (hk : AT P L.N chkD ⟨L.fn, .normal, .no, [], some l⟩ [.code (inst L.ags), .begin, .code (inst L.bd)] (putps L.env L.ps (args.map (SL.ev env))) h
   (RdQ P N f L i l (.reg r :: ks) (dels env ai.kill) ai.dst Q)) : AT P N chkD f (.reg (ai :: r) :: ks) env h Q := by
 intro κ w a k cs hcs hr he hd
 cases k with
 | nil => simp [CS] at hcs
 | cons x0 k =>
  obtain ⟨y, t, e, h3, h4⟩ := hcs
  simp only [List.cons.injEq] at e
  obtain ⟨e1, e2⟩ := e
  subst e1 e2
  cases x0 <;> simp only [CI] at h3
  rename_i ops lst
  cases lst with
  | nil => simp [RG] at h3
  | cons ix rest =>
   obtain ⟨kill, ai', tl, c1, c2, c3⟩ := h3
   simp only [List.cons.injEq] at c2
   obtain ⟨c2, c4⟩ := c2
   subst c2 c4
   obtain ⟨o, o1, o2, o3, o4, o5, o6, o7⟩ := cAI_inv c1
   have hw := gOk_wanted he o7 hg
   rw [hop] at o5
   have : ∃ ce : Call, ∃ g0, o.op = .call ce ∧ ce.callee = .value g0 ∧ opd g0 = some g ∧ opds ce.args.toList = some args := by
    cases ho : o.op <;> rw [ho] at o5 <;> simp only [copA] at o5
    case call ce =>
     split at o5
     ·rename_i g0 hce
      split at o5
      ·rename_i g1 l1 z1 z2
       simp only [Option.some.injEq, AOp.call.injEq] at o5
       obtain ⟨z3, z4⟩ := o5
       subst z3 z4
       exact ⟨ce, g0, rfl, hce, z1, z2⟩
      ·simp at o5
     ·split at o5 <;> simp at o5
    all_goals first | (split at o5 <;> simp at o5; done) | ((repeat' split at o5) <;> simp at o5)
   obtain ⟨ce, g0, p1, p2, p3, p4⟩ := this
   have hρ := ev_sound he
   have hgv := hρ _ _ p3
   have hav := opds_sound (f := SL.ev env) (ρ := a.eval) hρ p4
   rw [hev] at hgv
   simp only [VR, DR] at hgv
   obtain ⟨a', c', ev', ea, ec⟩ := hgv
   simp only [DL] at ea ec
   subst ea ec
   obtain ⟨ol, ol1, ⟨ol2, tm, ags', bd', ol3, olE, olA, olB, olN⟩, ol4, ol5⟩ := hr.raw hbx
   subst ol3
   rw [ol2] at ol1
   have hlen2 : (ce.args.map a.eval).size = L.ps.length := by
    have := VL.length hav
    simp only [List.length_map] at this
    rw [← hlen, ← this]; simp
   have hy := run_yield (P := P) (args := ce.args.map a.eval) ol1 (by simpa using hlen2)
   have hinv : (invoke (.fn (.yield l) #[]) (ce.args.map a.eval)).run P w = (Instr.yield l (ce.args.map a.eval)).run P w := by
    simp [invoke]
   have hrun : (execOp a.eval o).run P w = .ok (.round l L.fn ((L.ps.zip (ce.args.map a.eval).toList).foldl (fun tmps (p : Nat × Value) => tmps.setIfInBounds p.1 p.2) tm) ags' bd') w := by
    have hofv : (Deferred.ofValue (a.eval g0) (ce.args.map a.eval)) = pure { target := .fn (.yield l) #[], args := ce.args.map a.eval } := by
     rw [ev']; simp [Deferred.ofValue]
    have hz : ((⟨L.ps⟩ : Array Nat).zip (ce.args.map a.eval)).toList = L.ps.zip (ce.args.map a.eval).toList := by simp
    simp only [execOp, p1, resolve, p2]
    simp only [Sem.run_bind, hofv, Sem.run_pure, Result.andThen_ok, hinv, hy]
    rw [← Array.foldl_toList, hz]
   have hgo := stepG_opn (P := P) (b := baseOf f) (k := k) (cs := cs) (w := w) (rest := rest) o1 hw (by intro c; rw [p1]; simp)
   let tm' := (L.ps.zip (ce.args.map a.eval).toList).foldl (fun tmps (p : Nat × Value) => tmps.setIfInBounds p.1 p.2) tm
   let rf : FD := ⟨L.fn, .normal, .no, [], some l⟩
   have hround : Frame.round l L.fn tm' ags' bd' .normal = (baseOf rf).atR { tmps := tm', defers := [] } [.code ags', .beginRound, .code bd'] := by
    simp [Frame.round, Frame.atR, baseOf, rf]
   have hst : Go.step P (lone ((baseOf f).atR a (.inRegion ops (ix :: rest) :: k)) cs w) = .next (lone ((baseOf rf).atR { tmps := tm', defers := [] } [.code ags', .beginRound, .code bd']) ((baseOf f).atR a (.inRegion ops (ix :: rest) :: k) :: cs) w) := by
    rw [← hround]
    exact step_lone_go (by rw [hgo]; simp [stepG.apply, hrun, tm'])
   obtain ⟨annA, olA⟩ := olA
   obtain ⟨annB, olB⟩ := olB
   obtain ⟨e, w', fr, κ', h', out, ⟨j, hj, q1, q2, q3⟩, g2, g3, g4, g5, g6, g7⟩ := hk κ w { tmps := tm', defers := [] } [.code ags', .beginRound, .code bd'] ((baseOf f).atR a (.inRegion ops (ix :: rest) :: k) :: cs)
    ⟨_, _, rfl, ⟨annA, olA⟩, _, _, rfl, trivial, _, _, rfl, ⟨annB, olB⟩, rfl⟩ hr (by
     exact olE.putps (by simpa using hav) olN (by simpa using hlen)) rfl
   subst q1
   obtain ⟨x, e1, e2⟩ := g4
   subst e1
   obtain ⟨m1, m2, m3, m4, j', m5, m6⟩ := g7
   have hjj := jmp_inj hj e2 m5 m6
   subst hjj
   have hfr := frame_atR m1 m2 m3 m4 g6 rfl
   obtain ⟨o', z1, ⟨z2, tm2, as2, bd2, z3, _⟩, z4, z5⟩ := g3.raw q2
   subst z3
   have hR := g3.putRaw (R' := LpR P L i l (stOf j') j') q2 (.loop { state := if j'.isNone then .ready else .done, pending := j', fn := L.fn, tmps := tm2, params := ⟨L.ps⟩, assign := as2, body := bd2, defers := L.blk }) fun κ'' l'' e'' => by
    obtain ⟨y1, tm3, as3, bd3, y2, y3⟩ := z5 κ'' l'' e''
    simp only [Obj.loop.injEq, Loop.mk.injEq, true_and] at y2
    obtain ⟨x1, x2, x3, _⟩ := y2
    subst x1 x2 x3
    refine ⟨y1, tm2, as2, bd2, ?_, y3⟩
    cases j' <;> rfl
   rw [z2] at z1 hR
   have hendR := run_endRound (P := P) j' z1
   have hfin : ((baseOf f).atR a (.inRegion ops (ix :: rest) :: k)).finish (.bool j'.isNone) = (baseOf f).atR (a.put o.dst (.bool j'.isNone)) (.inRegion ops rest :: k) := by rw [Frame.finish_atR, o1]; rfl
   have hback : Go.step P (lone fr ((baseOf f).atR a (.inRegion ops (ix :: rest) :: k) :: cs) w') = .next (lone ((baseOf f).atR (a.put o.dst (.bool j'.isNone)) (.inRegion ops rest :: k)) cs (w'.putObj l (.loop { state := if j'.isNone then .ready else .done, pending := j', fn := L.fn, tmps := tm2, params := ⟨L.ps⟩, assign := as2, body := bd2, defers := L.blk }))) := by
    rw [hfr, ← hfin]
    cases j' with
    | none =>
     have m6 : fr.todo = [] := m6
     rw [m6]
     exact stepR_round_end (b := baseOf rf) rfl rfl hendR
    | some c =>
     cases c <;> simp only [LeftBy] at m6
     case exit id =>
      obtain ⟨k', y1, y2⟩ := m6
      rw [y1]
      exact stepR_round_exit (b := baseOf rf) rfl rfl y2 hendR
     case ret =>
      obtain ⟨k', y1⟩ := m6
      rw [y1]
      exact stepR_round_ret (b := baseOf rf) rfl rfl hendR
   refine Ends.of_steps (.head hst (Steps.trans g5 (.one hback))) (Ends.le g2 (q3 κ' _ _ _ cs ⟨_, _, rfl, c3, h4⟩ hR ?_ ?_))
   ·rw [o3]
    exact ((he.mono g2).dels ai.kill).putO o6 (by simp [VR, DR])
   ·exact hd.put g2 _ _
theorem AT.retC {f : FD} {Q : Out → H → Prop} {fn : Func} (hf : P.funcs[f.fn]? = some fn) {rs : List ARes} (h1 : cRess P fn.results.toList = some rs) {ks : List AItem} {env : Env} {h : H} {vs : List V} (z : Bool)
  (hks : ks = [] ∨ ∃ k, ks = .code .ret :: k) {r i : Nat} (hdv : f.dv = .col r .no) (hrn : f.rnd = none) (hb : h.bx[i]? = some (.raw (DfR i r))) (h2 : aress ⟨h.bx.set i .gone, h.vc⟩ env rs = some vs)
  (hQ : match z with | true => Q (.ret (fzV ⟨h.bx.set i .gone, h.vc⟩ (outV vs))) (fzH ⟨h.bx.set i .gone, h.vc⟩) | false => Q (.ret (outV vs)) ⟨h.bx.set i .gone, h.vc⟩) : AT P N chkD f ks env h Q := by
 intro κ w a k cs hcs hr he hd
 rw [hdv] at hd
 obtain ⟨ds, hd1, hd2⟩ := hd
 simp only [DefR] at hd2
 subst hd2
 obtain ⟨o, o1, ⟨o2, o3⟩, _⟩ := hr.raw hb
 subst o3
 have hr2 := hr.putGone hb (.deferred none)
 rw [o2] at o1 hr2
 have htk := run_takeDeferred (P := P) o1
 obtain ⟨v, g1, g2⟩ := results_sound hr2 he h1 h2
 have hro : (baseOf f).roundOf = none := hrn
 have fin : ∀ fr : Frame, fr.fn = f.fn → fr.mode = .returning → fr.defers = a.defers → fr.kind = f.kind → fr.tmps = a.tmps → Steps P (lone ((baseOf f).atR a k) cs w) (lone fr cs w) → Ends P f (lone ((baseOf f).atR a k) cs w) cs κ Q := by
  intro fr f1 f2 f3 f4 f5 f6
  have hst := step_collected (P := P) (fr := fr) (cs := cs) (d := { target := .collected r, args := #[] }) (ds := []) (by rw [f2]; simp) (by rw [f3, hd1]) rfl htk
  have hl : ∀ κ', f.leave P κ' { fr with defers := [] ++ [] } (w.putObj r (.deferred none)) (.returned v) := fun κ' => by
   simp only [FD.leave, hrn, hdv]
   exact ⟨f2, rfl, f4, fn, by rw [f1]; exact hf, by rw [f5]; exact g1⟩
  cases z with
  | false => exact ⟨.returned v, _, _, κ, _, _, hQ, Le.refl κ, hr2, ⟨v, rfl, g2⟩, Steps.trans f6 (.one hst), f1, hl κ⟩
  | true =>
   refine ⟨.returned v, _, _, fzK κ _ _, _, _, hQ, fz_le, fz_rel hr2, ⟨v, rfl, ?_⟩, Steps.trans f6 (.one hst), f1, hl _⟩
   unfold fzV
   split
   ·rename_i d hdd
    simp only [VR]
    exact toDv_sound hr2 _ _ _ _ hdd g2
   ·exact g2.mono fz_le
 rcases hks with e | ⟨k0, e⟩
 ·subst e
  cases k with
  | nil => exact fin { (baseOf f).atR a [] with mode := .returning } rfl rfl rfl rfl rfl (.one (stepR_end hro))
  | cons x k => obtain ⟨y, t, e, _⟩ := hcs; simp at e
 ·subst e
  cases k with
  | nil => simp [CS] at hcs
  | cons x k =>
   obtain ⟨y, t, e, h3, h4⟩ := hcs
   simp only [List.cons.injEq] at e
   obtain ⟨e1, e2⟩ := e
   subst e1 e2
   cases x <;> simp only [CI] at h3
   rename_i c
   obtain ⟨ann, hc⟩ := h3
   have := comp_ret hc
   subst this
   exact fin { (baseOf f).atR a (.code .ret :: k) with mode := .returning } rfl rfl rfl rfl rfl (.one (stepR_ret hro))
def ItT (P : Program) (N n : Nat) (f : FD) (L : LD) (b l r : Nat) (k : List AItem) (env : Env) (Q : Out → H → Prop) (o : Out) (h : H) : Prop :=
 (∃ v, o = .ret v) ∧ ∃ j, jOK j = true ∧ h.bx[b]? = some (.raw (LpR P L b l (stOf j) j)) ∧
  ATT P N { f with dv := .col r f.dv } (fun o h => (∃ v, o = .ret v) ∧ Q o h) (goes n (jItem j ++ k) env ⟨h.bx.set b .gone, h.vc⟩ true)
theorem jItem_inst (j : Option Code) : (jItem j).map instI = jItem j := by
 cases j with
 | none => rfl
 | some c => cases c <;> rfl
theorem ATT.rangeF {f : FD} {Q : Out → H → Prop} {g : Opd} {ps : List Nat} {ags bd : AC} {k : List AItem} {env : Env} {h : H} {ob : Bool} {gid : FuncId} {all : Nat → List V} {N' : Nat} {fn : Func} {c : Code} {ac : AC} {ann : Ann} (n : Nat)
  (hc : ∀ l, calls (ev env g) [.d (.fn (.yield l) [] [])] = some (gid, all l)) (hcal : callable P gid = true) (hf : P.funcs[gid]? = some fn) (hb : fn.body = some c) (hn : fn.ntmps = N') (hcm : comp P N' ann chkD c = some (inst ac)) (ho : ob = true)
  (hk : ∀ l r, ATT P N' (.of gid) (ItT P N n f ⟨f.fn, N, env, ps, ags, bd, r⟩ (h.bx.length + 1) l r k env Q) (goes n [.code ac] (env0 0 (all l)) ⟨h.bx ++ [.raw (DfR h.bx.length r)] ++ [.raw (LpR P ⟨f.fn, N, env, ps, ags, bd, r⟩ (h.bx.length + 1) l .ready none)], h.vc⟩ true))
  (hrn : f.rnd = none := by rfl) : ATT P N f Q (.code (.rangeF g ps ags bd) :: k, env, h, ob) := by
 refine ⟨ho, ATX.of (by intro d l; simp [instI]) (AT.rangeF hrn hc hcal hf hb hn hcm fun l r => AT.mono (fun o h' hq => ?_) (goes_sound n _ _ _ _ (hk l r)).2.at)⟩
 obtain ⟨q1, j, q2, q3, q4⟩ := hq
 refine ⟨q1, j, q2, q3, ?_⟩
 have := (goes_sound n _ _ _ _ q4).2.at
 rw [List.map_append, jItem_inst] at this
 exact this
theorem ATT.begin {f : FD} {Q : Out → H → Prop} {L : LD} {i l : Nat} {c c' : AC} {k : List AItem} {env : Env} {h : H} {ob : Bool} (n : Nat) (hc : c = c') (hb : h.bx[i]? = some (.raw (LpR P L i l .ready none))) (ho : ob = true)
  (hk : ATT P N f Q (goes n (.code c' :: k) env ⟨h.bx.set i (.raw (LpR P L i l .busy none)), h.vc⟩ true)) (hrn : f.rnd = some l := by rfl) : ATT P N f Q (.begin :: .code c :: k, env, h, ob) := by
 subst hc
 exact ⟨ho, ATX.of (by intro d l; simp [instI]) (AT.begin hrn hb (goes_sound n _ _ _ _ hk).2.at)⟩
theorem ATT.endR {f : FD} {Q : Out → H → Prop} {l : Nat} {env : Env} {h : H} {ob : Bool} (ho : ob = true) (hrn : f.rnd = some l) (hdv : f.dv = .no) (hQ : Q (.ret (.d (.bool true))) h) : ATT P N f Q ([], env, h, ob) :=
 ⟨ho, AT.endR hrn hdv hQ⟩
def RdT (P : Program) (N n : Nat) (f : FD) (L : LD) (i l : Nat) (k : List AItem) (env : Env) (dst : Option Nat) (Q : Out → H → Prop) (o : Out) (h : H) : Prop :=
 ∃ j, jOK j = true ∧ o = .ret (jmpD j) ∧ h.bx[i]? = some (.raw (LpR P L i l .busy none)) ∧
  ATT P N f Q (goes n k (put env dst (.d (.bool j.isNone))) ⟨h.bx.set i (.raw (LpR P L i l (stOf j) j)), h.vc⟩ true)
theorem ATT.yield {f : FD} {Q : Out → H → Prop} {ix : Nat} {dst : Option Nat} {guard : Option (Nat × Bool)} {kill : List Nat} {r : List AI} {k : List AItem} {env : Env} {h : H} {ob : Bool} {g : Opd} {args : List Opd} {L : LD} {l : Nat} {a : AC} (n i : Nat) (ha : L.ags = a)
  (hev : ev env g = .d (.fn (.yield l) [] [])) (hg : gOk env guard) (hlen : args.length = L.ps.length) (hbx : h.bx[i]? = some (.raw (LpR P L i l .ready none))) (ho : ob = true)
  (hk : ATT P L.N ⟨L.fn, .normal, .no, [], some l⟩ (RdT P N n f L i l (.reg r :: k) (dels env kill) dst Q) (goes n [.code a, .begin, .code L.bd] (putps L.env L.ps (args.map (ev env))) h true)) :
  ATT P N f Q (.reg (⟨ix, dst, .call g args, guard, kill⟩ :: r) :: k, env, h, ob) := by
 subst ha
 refine ⟨ho, ATX.of (by intro d l; simp [instI]) (AT.yield (ai := ⟨ix, dst, .call g args, guard, kill⟩) rfl hg hev hlen hbx (AT.mono (fun o h' hq => ?_) (goes_sound n _ _ _ _ hk).2.at))⟩
 obtain ⟨j, q1, q2, q3, q4⟩ := hq
 exact ⟨j, q1, q2, q3, (goes_sound n _ _ _ _ q4).2.at⟩
theorem ATT.retC {f : FD} {Q Q' : Out → H → Prop} (hQ : ∀ o h, Q' o h → Q o h) {fn : Func} (hf : P.funcs[f.fn]? = some fn) {rs : List ARes} (h1 : cRess P fn.results.toList = some rs) {k : List AItem} {env : Env} {h : H} {ob : Bool} (i : Nat) {r : Nat} {vs : List V}
  (hdv : f.dv = .col r .no) (hrn : f.rnd = none) (ho : ob = true) (hb : h.bx[i]? = some (.raw (DfR i r))) (h2 : aress ⟨h.bx.set i .gone, h.vc⟩ env rs = some vs)
  (hq : Q' (.ret (fzV ⟨h.bx.set i .gone, h.vc⟩ (outV vs))) (fzH ⟨h.bx.set i .gone, h.vc⟩)) : ATT P N f Q (.code .ret :: k, env, h, ob) :=
 ⟨ho, ATX.of (by intro d l; simp [instI]) (AT.retC hf h1 true (.inr ⟨_, rfl⟩) hdv hrn hb h2 (hQ _ _ hq))⟩
end
@[simp] theorem goes_rangeF {n : Nat} {k : List AItem} {env : Env} {h : H} {ob : Bool} {g : Opd} {ps : List Nat} {a b : AC} : goes (n + 1) (.code (.rangeF g ps a b) :: k) env h ob = (.code (.rangeF g ps a b) :: k, env, h, ob) := by simp only [goes]
@[simp] theorem goes_begin {n : Nat} {k : List AItem} {env : Env} {h : H} {ob : Bool} : goes (n + 1) (.begin :: k) env h ob = (.begin :: k, env, h, ob) := by simp only [goes]
attribute [simp] putps jItem jmpD jOK stOf flatD
end Go.SL
namespace Go.SL
def wD (l : List Nat) : List D := l.map fun (x : Nat) => D.int .u32 (x : Int)
def bD (l : List Nat) : List D := l.map fun (x : Nat) => D.int .u8 (x : Int)
def wv : List Nat → Nat
 | [] => 0
 | x :: r => x + 4294967296 * wv r
def U32 (l : List Nat) : Prop := ∀ x ∈ l, x < 4294967296
def Can (l : List Nat) : Prop := U32 l ∧ ∀ q, l ≠ q ++ [0]
def Wd (n k : Nat) (v : D) : Prop := ∃ nl sz l, v = .sl nl sz (wD l) ∧ (nl = true → l = []) ∧ (nl = false → sz = 1) ∧ Can l ∧ wv l = n ∧ l.length ≤ k
@[simp] theorem wD_len (l : List Nat) : (wD l).length = l.length := by simp [wD]
@[simp] theorem bD_len (l : List Nat) : (bD l).length = l.length := by simp [bD]
@[simp] theorem wD_nil : wD [] = [] := rfl
@[simp] theorem bD_nil : bD [] = [] := rfl
theorem wD_app (a b : List Nat) : wD (a ++ b) = wD a ++ wD b := by simp [wD]
theorem bD_app (a b : List Nat) : bD (a ++ b) = bD a ++ bD b := by simp [bD]
theorem wD_get {l : List Nat} {i x : Nat} (h : l[i]? = some x) : (wD l)[i]? = some (.int .u32 x) := by simp [wD, h]
theorem bD_get {l : List Nat} {i x : Nat} (h : l[i]? = some x) : (bD l)[i]? = some (.int .u8 x) := by simp [bD, h]
theorem wD_getE {l : List Nat} {i x : Nat} (h : l[i]? = some x) (hi : i < (wD l).length) : (wD l)[i]'hi = .int .u32 x := by
 have := wD_get h; rw [List.getElem?_eq_getElem hi] at this; simpa using this
theorem bD_getE {l : List Nat} {i x : Nat} (h : l[i]? = some x) (hi : i < (bD l).length) : (bD l)[i]'hi = .int .u8 x := by
 have := bD_get h; rw [List.getElem?_eq_getElem hi] at this; simpa using this
theorem wv_app : ∀ (a b : List Nat), wv (a ++ b) = wv a + 4294967296 ^ a.length * wv b
 | [], b => by simp [wv]
 | x :: a, b => by simp only [List.cons_append, wv, wv_app a b, List.length_cons, Nat.pow_succ]; rw [Nat.mul_add, ← Nat.mul_assoc, Nat.add_assoc, Nat.mul_comm 4294967296 (4294967296 ^ a.length)]
theorem U32.nil : U32 [] := by simp [U32]
theorem U32.app {a b : List Nat} (h : U32 a) (g : U32 b) : U32 (a ++ b) := fun x hx => by
 rcases List.mem_append.1 hx with hx | hx
 ·exact h x hx
 ·exact g x hx
theorem U32.left {a b : List Nat} (h : U32 (a ++ b)) : U32 a := fun x hx => h x (by simp [hx])
theorem Can.nil : Can [] := ⟨U32.nil, by simp⟩
theorem Wd.words {n k : Nat} {v : D} (h : Wd n k v) : ∃ nl sz l, v = .sl nl sz (wD l) ∧ (nl = true → l = []) ∧ (nl = false → sz = 1) ∧ U32 l ∧ wv l = n ∧ l.length ≤ k := by
 obtain ⟨nl, sz, l, h1, h2, h3, h4, h5, h6⟩ := h
 exact ⟨nl, sz, l, h1, h2, h3, h4.1, h5, h6⟩
theorem Wd.mono {n k k' : Nat} {v : D} (h : Wd n k v) (hk : k ≤ k') : Wd n k' v := by
 obtain ⟨nl, sz, l, h1, h2, h3, h4, h5, h6⟩ := h
 exact ⟨nl, sz, l, h1, h2, h3, h4, h5, by omega⟩
theorem Can.tail {x : Nat} {l : List Nat} (h : Can (x :: l)) : Can l := ⟨fun y hy => h.1 y (by simp [hy]), fun q e => h.2 (x :: q) (by rw [e]; rfl)⟩
theorem Can.pos : ∀ {l : List Nat}, l ≠ [] → Can l → 0 < wv l
 | [], h, _ => absurd rfl h
 | x :: l, _, hc => by
  by_cases hl : l = []
  ·subst hl
   have : x ≠ 0 := fun e => hc.2 [] (by rw [e]; rfl)
   simp [wv]; omega
  ·have := Can.pos hl hc.tail
   simp only [wv]; omega
theorem wrap64i {x : Int} (h0 : 0 ≤ x) (h : x < 18446744073709551616) : IntKind.u64.wrap x = x := by
 simp only [IntKind.wrap, IntKind.bits, IntKind.signed]
 simp; omega
theorem wrap32i {x : Int} : IntKind.u32.wrap x = x % 4294967296 := by
 simp only [IntKind.wrap, IntKind.bits, IntKind.signed]
 simp
def VW (o : List Nat) (m : Nat) : List V := (wD o).map V.d ++ List.replicate m (.d (.int .u32 0))
theorem VW_zero (n : Nat) : List.replicate n (V.d (.int .u32 0)) = VW [] n := by simp [VW]
theorem VW_set (o : List Nat) (m x : Nat) : (VW o (m + 1)).set o.length (.d (.int .u32 x)) = VW (o ++ [x]) m := by
 simp [VW, wD_app, List.replicate_succ]
 simp [wD]
@[simp] theorem VW_len (o : List Nat) (m : Nat) : (VW o m).length = o.length + m := by simp [VW]
theorem VW_done (o : List Nat) : VW o 0 = (wD o).map V.d := by simp [VW]
theorem wv_take : ∀ {l : List Nat} {i x : Nat}, l[i]? = some x → wv (l.take (i + 1)) = wv (l.take i) + 4294967296 ^ i * x := fun {l i x} h => by
 have hlt := (List.getElem?_eq_some_iff.1 h).1
 have e : l.take (i + 1) = l.take i ++ [x] := by
  rw [List.take_add_one, h]; rfl
 rw [e, wv_app]
 simp [wv, Nat.min_eq_left (Nat.le_of_lt hlt)]
theorem plus_step {W o A B c q d s t Z : Nat} (h : o + W * c = A + B) (hd : Z * q + d = c + s + t) : o + W * (d + Z * 0) + W * Z * q = A + W * s + (B + W * t) := by
 have e : W * (d + Z * 0) + W * Z * q = W * (Z * q + d) := by rw [Nat.mul_zero, Nat.add_zero, Nat.mul_assoc, ← Nat.mul_add, Nat.add_comm]
 rw [Nat.add_assoc, e, hd, Nat.mul_add, Nat.mul_add]; omega
theorem wD_rep (n : Nat) : List.replicate n (V.d (.int .u32 0)) = (wD (List.replicate n 0)).map V.d := by simp [wD]
theorem wv_rep : ∀ n : Nat, wv (List.replicate n 0) = 0
 | 0 => rfl
 | n + 1 => by simp [List.replicate_succ, wv, wv_rep n]
theorem wD_set (o : List Nat) (k x : Nat) : ((wD o).map V.d).set k (.d (.int .u32 x)) = (wD (o.set k x)).map V.d := by simp [wD, List.map_set]
theorem wv_set : ∀ {o : List Nat} {k y : Nat} (x : Nat), o[k]? = some y → wv (o.set k x) + 4294967296 ^ k * y = wv o + 4294967296 ^ k * x
 | z :: o, 0, y, x, h => by simp at h; subst h; simp [wv]; omega
 | z :: o, k + 1, y, x, h => by
  have := wv_set (o := o) (k := k) (y := y) x (by simpa using h)
  simp only [List.set_cons_succ, wv, Nat.pow_succ]
  have e1 : 4294967296 ^ k * 4294967296 * y = 4294967296 * (4294967296 ^ k * y) := by rw [Nat.mul_comm (4294967296 ^ k), Nat.mul_assoc]
  have e2 : 4294967296 ^ k * 4294967296 * x = 4294967296 * (4294967296 ^ k * x) := by rw [Nat.mul_comm (4294967296 ^ k), Nat.mul_assoc]
  rw [e1, e2]; omega
theorem U32.set {o : List Nat} {k x : Nat} (h : U32 o) (hx : x < 4294967296) : U32 (o.set k x) := fun y hy => by
 rcases List.mem_or_eq_of_mem_set hy with h1 | h1
 ·exact h y h1
 ·omega
theorem U32.get {o : List Nat} {k x : Nat} (h : U32 o) (hx : o[k]? = some x) : x < 4294967296 := h x (List.mem_of_getElem? hx)
theorem times_step {m wo' wo Wi Wj X s t y q d c Z : Nat} (h : wo + Wi * Wj * c = X + Wi * s * t) (h2 : wo' + Wi * Wj * y = wo + Wi * Wj * d) (hd : Z * q + d = c + (s * m + y)) : wo' + Wi * (Wj * Z) * q = X + Wi * s * (t + Wj * m) := by
 have e1 : Wi * (Wj * Z) * q = Wi * Wj * (Z * q) := by simp only [Nat.mul_assoc]
 have e2 : Wi * s * (t + Wj * m) = Wi * s * t + Wi * Wj * (s * m) := by
  rw [Nat.mul_add]; congr 1
  simp only [Nat.mul_assoc, Nat.mul_left_comm]
 have e3 : Wi * Wj * (Z * q) + Wi * Wj * d = Wi * Wj * c + (Wi * Wj * (s * m) + Wi * Wj * y) := by
  rw [← Nat.mul_add, hd, Nat.mul_add, Nat.mul_add]
 rw [e1, e2]
 omega
def bvA : Nat → List Nat → Nat
 | a, [] => a
 | a, x :: r => bvA (a * 256 + x) r
def bv (l : List Nat) : Nat := bvA 0 l
def U8 (l : List Nat) : Prop := ∀ x ∈ l, x < 256
theorem bvA_eq : ∀ (l : List Nat) (a : Nat), bvA a l = a * 256 ^ l.length + bvA 0 l
 | [], a => by simp [bvA]
 | x :: l, a => by
  simp only [bvA, List.length_cons]
  rw [bvA_eq l (a * 256 + x), bvA_eq l (0 * 256 + x), Nat.add_mul, Nat.zero_mul, Nat.zero_add, Nat.pow_succ, Nat.mul_assoc, Nat.mul_comm 256 (256 ^ l.length), Nat.add_assoc]
theorem bvA_app : ∀ (l r : List Nat) (a : Nat), bvA a (l ++ r) = bvA (bvA a l) r
 | [], _, _ => rfl
 | _ :: l, r, _ => bvA_app l r _
theorem bv_app (l r : List Nat) : bv (l ++ r) = bv l * 256 ^ r.length + bv r := by
 unfold bv; rw [bvA_app, bvA_eq r]
def b4 (x : Nat) : List Nat := [x / 16777216 % 256, x / 65536 % 256, x / 256 % 256, x % 256]
def wb : List Nat → List Nat
 | [] => []
 | x :: r => wb r ++ b4 x
theorem b4_bv {x : Nat} (h : x < 4294967296) : bv (b4 x) = x := by simp only [b4, bv, bvA]; omega
theorem wb_len : ∀ l : List Nat, (wb l).length = 4 * l.length
 | [] => rfl
 | x :: l => by simp [wb, wb_len l, b4]; omega
theorem wb_bv : ∀ {l : List Nat}, U32 l → bv (wb l) = wv l
 | [], _ => rfl
 | x :: l, h => by
  have e : (b4 x).length = 4 := rfl
  simp only [wb, wv]
  rw [bv_app, wb_bv (fun y hy => h y (by simp [hy])), b4_bv (h x (by simp)), e]; omega
theorem wb_u8 : ∀ (l : List Nat), U8 (wb l)
 | [] => by simp [wb, U8]
 | x :: l => fun y hy => by
  simp only [wb, List.mem_append] at hy
  rcases hy with hy | hy
  ·exact wb_u8 l y hy
  ·simp only [b4, List.mem_cons, List.not_mem_nil, or_false] at hy; omega
def Bd (n k : Nat) (v : D) : Prop := ∃ nl sz l, v = .sl nl sz (bD l) ∧ (nl = true → l = []) ∧ (nl = false → sz = 1) ∧ U8 l ∧ (∀ q, l ≠ 0 :: q) ∧ bv l = n ∧ l.length ≤ k
theorem wb_drop {l : List Nat} {i x : Nat} (h : l[i]? = some x) : wb (l.drop i) = wb (l.drop (i + 1)) ++ b4 x := by
 have hlt := (List.getElem?_eq_some_iff.1 h).1
 rw [List.drop_eq_getElem_cons hlt, wb]
 have := (List.getElem?_eq_some_iff.1 h).2
 rw [this]
theorem wrap8s (x n : Nat) : IntKind.u8.wrap ((x : Int).fdiv n) = (x : Int) / n % 256 := by
 rw [Int.fdiv_eq_ediv_of_nonneg _ (by omega)]
 simp only [IntKind.wrap, IntKind.bits, IntKind.signed]
 simp
theorem wrap8x (x : Nat) : IntKind.u8.wrap (x : Int) = (x : Int) % 256 := by
 simp only [IntKind.wrap, IntKind.bits, IntKind.signed]
 simp
theorem bv_pos {x : Nat} {l : List Nat} (h : x ≠ 0) : 256 ^ l.length ≤ bv (x :: l) := by
 unfold bv
 simp only [bvA]
 rw [bvA_eq, Nat.zero_mul, Nat.zero_add]
 have : 1 * 256 ^ l.length ≤ x * 256 ^ l.length := Nat.mul_le_mul_right _ (by omega)
 omega
theorem bv_lt : ∀ {l : List Nat}, U8 l → bv l < 256 ^ l.length
 | [], _ => by simp [bv, bvA]
 | x :: l, h => by
  have h1 := h x (by simp)
  have h2 := bv_lt (l := l) fun y hy => h y (by simp [hy])
  unfold bv at h2 ⊢
  simp only [bvA, List.length_cons, Nat.pow_succ]
  rw [bvA_eq, Nat.zero_mul, Nat.zero_add]
  have h3 : x * 256 ^ l.length ≤ 255 * 256 ^ l.length := Nat.mul_le_mul_right _ (by omega)
  omega
theorem bv_fits {l : List Nat} (hu : U8 l) (hc : ∀ q, l ≠ 0 :: q) (k : Nat) : l.length ≤ k ↔ bv l < 256 ^ k := by
 constructor
 ·intro h
  exact Nat.lt_of_lt_of_le (bv_lt hu) (Nat.pow_le_pow_right (by decide) h)
 ·intro h
  cases l with
  | nil => simp
  | cons x l =>
   have hx : x ≠ 0 := fun e => hc l (by rw [e])
   have h1 := bv_pos (l := l) hx
   rcases Nat.lt_or_ge l.length k with h2 | h2
   ·simpa using Nat.succ_le_of_lt h2
   ·have := Nat.pow_le_pow_right (n := 256) (by decide) h2
    omega
theorem bv_nil {l : List Nat} (hu : U8 l) (hc : ∀ q, l ≠ 0 :: q) : l = [] ↔ bv l = 0 := by
 have := bv_fits hu hc 0
 simp only [Nat.le_zero, List.length_eq_zero_iff, Nat.pow_zero, Nat.lt_one_iff] at this
 exact this
def IntR (neg : Bool) (n : Nat) (v : D) : Prop := ∃ k u, v = .agg [.bool (neg && decide (0 < n)), u] ∧ Bd n k u
theorem U8.getD {l : List Nat} (h : U8 l) (i : Nat) : l.getD i 0 < 256 := by
 rw [List.getD_eq_getElem?_getD]
 cases e : l[i]? with
 | none => simp
 | some x => exact h x (List.mem_of_getElem? e)
theorem U8.app {a b : List Nat} (h : U8 a) (g : U8 b) : U8 (a ++ b) := fun x hx => by
 rcases List.mem_append.1 hx with hx | hx
 ·exact h x hx
 ·exact g x hx
@[simp] theorem take_bD (o : List Nat) : List.take o.length ((bD o).map V.d) = (bD o).map V.d := List.take_of_length_le (by simp)
end Go.SL
