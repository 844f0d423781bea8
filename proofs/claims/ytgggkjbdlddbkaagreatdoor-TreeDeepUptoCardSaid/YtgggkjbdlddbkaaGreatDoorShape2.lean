/- TreeShape and TreeDeep: in the tree of any source each message has as many arguments as its selector says; brackets go as deep as they may, and not deeper; for every source of bulk at most 1048576, and every number. Part 3. -/
import Derived.Test.YtgggkjbdlddbkaaGreatDoorShape1
import Derived.RangeFuncRecord
import Derived.Test.YtgggkjbdlddbkaaGreatDoorChecked
import Derived.KernelRfl
import Derived.Laws.Externs
namespace Go.SL
section
variable {P : Program} {N : Nat}
def DfR (i r : Nat) : K → Obj → Prop := fun κ o => κ.bl i = r ∧ o = .deferred (some [])
structure LD where
 fn : FuncId
 N : Nat
 env : Env
 ps : List Nat
 ags : AC
 bd : AC
 blk : Nat
def LpR (P : Program) (L : LD) (i l : Nat) (st : LoopState) (pend : Option Code) : K → Obj → Prop := fun κ o => κ.bl i = l ∧ ∃ tmps assign body,
 o = .loop { state := st, pending := pend, fn := L.fn, tmps := tmps, params := ⟨L.ps⟩, assign := assign, body := body, defers := L.blk } ∧ ER L.N κ L.env tmps ∧
 (∃ ann, comp P L.N ann chkD assign = some (inst L.ags)) ∧ (∃ ann, comp P L.N ann chkD body = some (inst L.bd)) ∧ ∀ t ∈ L.ps, t < L.N
def stOf : Option Code → LoopState
 | none => .ready
 | some _ => .done
def jOK : Option Code → Bool
 | none => true
 | some .ret => true
 | some (.exit _) => true
 | _ => false
def jItem : Option Code → List AItem
 | none => []
 | some (.exit id) => [.code (.exit id)]
 | _ => [.code .ret]
def jmpD : Option Code → V
 | none => .d (.bool true)
 | some (.exit id) => .d (.int .i64 id)
 | _ => .d (.bool false)
def putps : Env → List Nat → List V → Env
 | e, t :: ts, v :: vs => putps (put e (some t) v) ts vs
 | e, _, _ => e
theorem Rel.raw {κ : K} {h : H} {w : World} (r : Rel κ h w) {i : Nat} {R : K → Obj → Prop} (hb : h.bx[i]? = some (.raw R)) :
  ∃ o, w.heap[κ.bl i]? = some o ∧ R κ o ∧ κ.who (κ.bl i) = .box i ∧ ∀ κ', Le κ κ' → κ'.bl i = κ.bl i → R κ' o := by
 obtain ⟨h1, o, h2, h3⟩ := r.bx i _ hb
 exact ⟨o, h2, h3 κ (Le.refl κ) rfl, h1, h3⟩
theorem Rel.putRaw {κ : K} {h : H} {w : World} (r : Rel κ h w) {i : Nat} {R R' : K → Obj → Prop} (hb : h.bx[i]? = some (.raw R)) (o : Obj)
  (hR : ∀ κ', Le κ κ' → κ'.bl i = κ.bl i → R' κ' o) : Rel κ ⟨h.bx.set i (.raw R'), h.vc⟩ (w.putObj (κ.bl i) o) := by
 obtain ⟨o0, g1, _, g3, _⟩ := r.raw hb
 have hlt := (Array.getElem?_eq_some_iff.1 g1).1
 exact r.setBox hb (by simp) (fun b hne => World.putObj_heap_other hne) rfl rfl rfl ⟨g3, o, World.putObj_heap_same hlt, hR⟩
theorem Rel.putGone {κ : K} {h : H} {w : World} (r : Rel κ h w) {i : Nat} {R : K → Obj → Prop} (hb : h.bx[i]? = some (.raw R)) (o : Obj) : Rel κ ⟨h.bx.set i .gone, h.vc⟩ (w.putObj (κ.bl i) o) :=
 r.setBox hb (by simp) (fun b hne => World.putObj_heap_other hne) rfl rfl rfl trivial
theorem comp_rangeF {ann : Ann} {chk : Array Oper → List (List AI) → Bool} {c : Code} {g : Opd} {ps : List Nat} {A B : AC} (h : comp P N ann chk c = some (.rangeF g ps A B)) :
  ∃ g0 ps0 a0 b0, c = .rangeFunc g0 ps0 a0 b0 ∧ opd g0 = some g ∧ comp P N ann chk a0 = some A ∧ comp P N ann chk b0 = some B ∧ ps0.toList = ps ∧ ∀ t ∈ ps, t < N := by
 cases c with
 | rangeFunc g0 ps0 a0 b0 =>
  simp only [comp] at h
  split at h
  case h_2 => simp at h
  rename_i g' a' b' h1 h2 h3 h4
  simp only [Option.some.injEq, AC.rangeF.injEq] at h
  obtain ⟨e1, e2, e3, e4⟩ := h
  subst e1 e2 e3 e4
  refine ⟨_, _, _, _, rfl, h1, h2, h3, rfl, fun t ht => ?_⟩
  have := List.all_eq_true.1 h4 t ht
  simpa [Nat.blt_eq] using this
 | _ =>
  simp only [comp] at h
  all_goals first | (simp at h; done) | ((repeat' split at h) <;> simp at h)
theorem ER.putps {κ : K} : ∀ {ps : List Nat} {vs : List V} {ys : List Value} {env : Env} {tmps : Array Value}, ER N κ env tmps → VL κ vs ys → (∀ t ∈ ps, t < N) → vs.length = ps.length →
  ER N κ (putps env ps vs) ((ps.zip ys).foldl (fun tmps (p : Nat × Value) => tmps.setIfInBounds p.1 p.2) tmps)
 | [], vs, ys, env, tmps, h, _, _, hl => by
  have : vs = [] := List.length_eq_zero_iff.1 hl
  subst this
  simpa [SL.putps] using h
 | t :: ps, v :: vs, ys, env, tmps, h, hv, hp, hl => by
  simp only [VL] at hv
  obtain ⟨y, r, e, h1, h2⟩ := hv
  subst e
  simp only [SL.putps, List.zip_cons_cons, List.foldl_cons]
  exact ER.putps (h.put (hp t (by simp)) h1) h2 (fun t ht => hp t (by simp [ht])) (by simpa using hl)
 | t :: ps, [], ys, env, tmps, h, hv, hp, hl => by simp at hl
def ItQ (P : Program) (N : Nat) (f : FD) (L : LD) (b l r : Nat) (ks : List AItem) (env : Env) (Q : Out → H → Prop) (o : Out) (h : H) : Prop :=
 (∃ v, o = .ret v) ∧ ∃ j, jOK j = true ∧ h.bx[b]? = some (.raw (LpR P L b l (stOf j) j)) ∧
  AT P N chkD { f with dv := .col r f.dv } (jItem j ++ ks) env ⟨h.bx.set b .gone, h.vc⟩ fun o h => (∃ v, o = .ret v) ∧ Q o h
theorem CS.jump {chk : Array Oper → List (List AI) → Bool} {k : List Item} {ks : List AItem} (h : CS P N chk k ks) : ∀ {j : Option Code}, jOK j = true → CS P N chk ((j.map Item.code).toList ++ k) (jItem j ++ ks)
 | none, _ => h
 | some .ret, _ => ⟨_, _, rfl, ⟨fun _ => [], rfl⟩, h⟩
 | some (.exit id), _ => ⟨_, _, rfl, ⟨fun _ => [], rfl⟩, h⟩
theorem AT.rangeF {f : FD} {Q : Out → H → Prop} (hrn : f.rnd = none) {g : Opd} {ps : List Nat} {ags bd : AC} {ks : List AItem} {env : Env} {h : H} {gid : FuncId} {all : Nat → List V} {N' : Nat} {fn : Func} {c : Code} {ac : AC} {ann : Ann}
  (hc : ∀ l, calls (SL.ev env g) [.d (.fn (.yield l) [] [])] = some (gid, all l)) (hcal : callable P gid = true) (hf : P.funcs[gid]? = some fn) (hb : fn.body = some c) (hn : fn.ntmps = N') (hcm : comp P N' ann chkD c = some ac)
  (hk : ∀ l r, AT P N' chkD (.of gid) [.code ac] (env0 0 (all l)) ⟨h.bx ++ [.raw (DfR h.bx.length r)] ++ [.raw (LpR P ⟨f.fn, N, env, ps, ags, bd, r⟩ (h.bx.length + 1) l .ready none)], h.vc⟩
   (ItQ P N f ⟨f.fn, N, env, ps, ags, bd, r⟩ (h.bx.length + 1) l r ks env Q)) : AT P N chkD f (.code (.rangeF g ps (inst ags) (inst bd)) :: ks) env h Q := by
 intro κ w a k cs hcs hr he hd
 cases k with
 | nil => simp [CS] at hcs
 | cons x0 k =>
  obtain ⟨y, t, e, h3, h4⟩ := hcs
  simp only [List.cons.injEq] at e
  obtain ⟨e1, e2⟩ := e
  subst e1 e2
  cases x0 <;> simp only [CI] at h3
  rename_i c0
  obtain ⟨ann0, hc0⟩ := h3
  obtain ⟨g0, ps0, a0, b0, e0, p1, p2, p3, p4, p5⟩ := comp_rangeF hc0
  subst e0
  obtain ⟨ps0⟩ := ps0
  simp only at p4
  subst p4
  let L : LD := ⟨f.fn, N, env, ps0, ags, bd, w.heap.size⟩
  let ob : Obj := .loop { state := .ready, pending := none, fn := f.fn, tmps := a.tmps, params := ⟨ps0⟩, assign := a0, body := b0, defers := w.heap.size }
  have hro : (baseOf f).roundOf = none := hrn
  have hent : (Instr.enterLoop (baseOf f).fn a.tmps ⟨ps0⟩ a0 b0 (baseOf f).roundOf).run P w = .ok (w.heap.size + 1, [{ target := .collected w.heap.size, args := #[] }]) ((w.alloc (.deferred (some []))).alloc ob) := by
   rw [hro]; exact run_enterLoop_outer _ _ _ _ _
  obtain ⟨κ1, r1, l1, _⟩ := hr.newBox (.raw (DfR h.bx.length w.heap.size)) (.deferred (some [])) (.inr (.inr ⟨_, rfl, fun κ' _ hb => ⟨hb, rfl⟩⟩))
  obtain ⟨κ2, r2, l2, _⟩ := r1.newBox (.raw (LpR P L (h.bx.length + 1) (w.heap.size + 1) .ready none)) ob (.inr (.inr ⟨_, rfl, fun κ' l hb =>
   ⟨by simpa [World.size_alloc] using hb, a.tmps, a0, b0, rfl, he.mono (l1.trans l), ⟨ann0, p2⟩, ⟨ann0, p3⟩, p5⟩⟩))
  have l12 := l1.trans l2
  have hgv := ev_sound (he.mono l12) _ _ p1
  have hav : VL κ2 [.d (.fn (.yield (w.heap.size + 1)) [] [])] (#[.func (.yield (w.heap.size + 1)) #[] #[]] : Array Value).toList := by
   simp only [VL]
   exact ⟨_, _, rfl, by simp only [VR, DR]; exact ⟨[], [], rfl, rfl, rfl⟩, rfl⟩
  obtain ⟨d, av, q1, q2, q3⟩ := calls_sound (P := P) (w := (w.alloc (.deferred (some []))).alloc ob) (hc (w.heap.size + 1)) hgv hav hcal
  have hres : (resolve a.eval (rangeCall g0 (w.heap.size + 1)) 0).run P ((w.alloc (.deferred (some []))).alloc ob) = .ok d ((w.alloc (.deferred (some []))).alloc ob) := by
   have hev : a.eval (.const (.func (.yield (w.heap.size + 1)) #[] #[])) = .func (.yield (w.heap.size + 1)) #[] #[] := rfl
   simp [resolve, hev, q1]
  have hst := stepR_rangeFunc (P := P) (b := baseOf f) (a := a) (k := k) (cs := cs) hent hres q2
  have hAF := AF.of hf hb hn hcal hcm (hk (w.heap.size + 1) w.heap.size)
  obtain ⟨e, w3, fr, ⟨κ3, h3', out, g1, g2, g3, g4⟩, g5, _, g7⟩ := hAF.2 κ2 _ av r2 q3 ((baseOf f).atR { a with defers := [{ target := .collected w.heap.size, args := #[] }] ++ a.defers } (.inRangeFunc (w.heap.size + 1) :: k) :: cs)
  obtain ⟨⟨v, e1⟩, j, hj, hbx, hat⟩ := g1
  subst e1
  obtain ⟨x, e2, _⟩ := g4
  subst e2
  have hleave := step_leave_returned (c := (baseOf f).atR { a with defers := [{ target := .collected w.heap.size, args := #[] }] ++ a.defers } (.inRangeFunc (w.heap.size + 1) :: k)) (cs := cs) g7
  rw [finish_atR_inRangeFunc] at hleave
  obtain ⟨o, o1, ⟨o2, tm, ags', bd', o3, _⟩, o4, _⟩ := g3.raw hbx
  subst o3
  rw [o2] at o1
  have hend := run_endLoop (P := P) o1 (by cases j <;> simp [stOf])
  have hr3 := g3.putGone hbx (.loop { state := .exhausted, pending := j, fn := f.fn, tmps := tm, params := ⟨ps0⟩, assign := ags', body := bd', defers := w.heap.size })
  rw [o2] at hr3
  have l3 := l12.trans g2
  obtain ⟨e', w', fr', κ', h', out', ⟨⟨v', e1'⟩, q'⟩, le', rel', outr', comes', hfn', leave'⟩ := hat κ3 _ { a with defers := [{ target := .collected w.heap.size, args := #[] }] ++ a.defers } _ cs (h4.jump hj) hr3 (he.mono l3) ⟨a.defers, rfl, hd.mono l3⟩
  subst e1'
  obtain ⟨x', e2', _⟩ := id outr'
  subst e2'
  refine ⟨_, w', fr', κ', h', _, q', l3.trans le', rel', outr', ?_, hfn', ?_⟩
  ·exact .head hst (Steps.trans g5 (.head hleave (.head (stepR_endRangeFunc hend) comes')))
  ·simp only [FD.leave, hrn] at leave' ⊢
   exact leave'
theorem AT.begin {f : FD} {Q : Out → H → Prop} {L : LD} {i l : Nat} {ks : List AItem} {env : Env} {h : H} (hrn : f.rnd = some l) (hb : h.bx[i]? = some (.raw (LpR P L i l .ready none)))
  (hk : AT P N chkD f ks env ⟨h.bx.set i (.raw (LpR P L i l .busy none)), h.vc⟩ Q) : AT P N chkD f (.begin :: ks) env h Q := by
 intro κ w a k cs hcs hr he hd
 cases k with
 | nil => simp [CS] at hcs
 | cons x0 k =>
  obtain ⟨y, t, e, h3, h4⟩ := hcs
  simp only [List.cons.injEq] at e
  obtain ⟨e1, e2⟩ := e
  subst e1 e2
  cases x0 <;> simp only [CI] at h3
  obtain ⟨o, o1, ⟨o2, tm, ags', bd', o3, _⟩, o4, o5⟩ := hr.raw hb
  subst o3
  have hR := hr.putRaw (R' := LpR P L i l .busy none) hb (.loop { state := .busy, pending := none, fn := L.fn, tmps := tm, params := ⟨L.ps⟩, assign := ags', body := bd', defers := L.blk }) fun κ' l' e' => by
   obtain ⟨z1, tm2, as2, bd2, z2, z3⟩ := o5 κ' l' e'
   simp only [Obj.loop.injEq, Loop.mk.injEq, true_and] at z2
   obtain ⟨y1, y2, y3, _⟩ := z2
   subst y1 y2 y3
   exact ⟨z1, _, _, _, rfl, z3⟩
  rw [o2] at o1 hR
  have hbeg := run_beginRound (P := P) o1 rfl
  exact Ends.of_steps (.one (stepR_beginRound (b := baseOf f) hrn hbeg)) (hk κ _ a k cs h4 hR he hd)
theorem AT.left {f : FD} {Q : Out → H → Prop} {l : Nat} {ks : List AItem} {env : Env} {h : H} (j : Option Code) (hrn : f.rnd = some l) (hdv : f.dv = .no) (hQ : Q (.ret (jmpD j)) h) (hj : jOK j = true)
  (hl : ∀ k : List Item, CS P N chkD k ks → LeftBy j k) : AT P N chkD f ks env h Q := by
 intro κ w a k cs hcs hr he hd
 rw [hdv] at hd
 refine ⟨.returned (jmpV j), w, (baseOf f).atR a k, κ, h, _, hQ, Le.refl κ, hr, ?_, .refl _ _, rfl, ?_⟩
 ·refine ⟨_, rfl, ?_⟩
  cases j with
  | none => simp [jmpD, jmpV, VR, DR]
  | some c => cases c <;> simp [jOK] at hj <;> simp [jmpD, jmpV, VR, DR]
 ·simp only [FD.leave, hrn]
  exact ⟨rfl, hd, hrn, rfl, j, rfl, hl k hcs⟩
theorem AT.endR {f : FD} {Q : Out → H → Prop} {l : Nat} {env : Env} {h : H} (hrn : f.rnd = some l) (hdv : f.dv = .no) (hQ : Q (.ret (.d (.bool true))) h) : AT P N chkD f [] env h Q :=
 AT.left none hrn hdv hQ rfl fun k hk => by
  cases k with
  | nil => rfl
  | cons x k => obtain ⟨y, t, e, _⟩ := hk; simp at e
theorem comp_ret {ann : Ann} {chk : Array Oper → List (List AI) → Bool} {c : Code} (h : comp P N ann chk c = some .ret) : c = .ret := by
 cases c <;> simp only [comp] at h <;> first | rfl | (simp at h; done) | ((repeat' split at h) <;> simp at h)
def RdQ (P : Program) (N : Nat) (f : FD) (L : LD) (i l : Nat) (ks : List AItem) (env : Env) (dst : Option Nat) (Q : Out → H → Prop) (o : Out) (h : H) : Prop :=
 ∃ j, jOK j = true ∧ o = .ret (jmpD j) ∧ h.bx[i]? = some (.raw (LpR P L i l .busy none)) ∧
  AT P N chkD f ks (put env dst (.d (.bool j.isNone))) ⟨h.bx.set i (.raw (LpR P L i l (stOf j) j)), h.vc⟩ Q
theorem jmp_inj {κ : K} {j j' : Option Code} {v : Value} {k : List Item} (hj : jOK j = true) (h : VR κ (jmpD j) v) (h' : v = jmpV j') (hl : LeftBy j' k) : j' = j := by
 subst h'
 cases j with
 | none =>
  cases j' with
  | none => rfl
  | some c => cases c <;> simp [jmpD, jmpV, VR, DR] at h
 | some c =>
  cases c <;> simp [jOK] at hj
  case exit id =>
   cases j' with
   | none => simp [jmpD, jmpV, VR, DR] at h
   | some c' =>
    cases c' <;> simp [jmpD, jmpV, VR, DR] at h
    rename_i id'
    have : id' = id := by omega
    subst this; rfl
  case ret =>
   cases j' with
   | none => simp [jmpD, jmpV, VR, DR] at h
   | some c' => cases c' <;> simp [jmpD, jmpV, VR, DR, LeftBy] at h hl ⊢
theorem frame_atR {fr : Frame} {f : FD} {l : Nat} (h1 : fr.mode = .run) (h2 : fr.defers = []) (h3 : fr.roundOf = some l) (h4 : fr.kind = f.kind) (h5 : fr.fn = f.fn) (h6 : f.rnd = some l) : fr = (baseOf f).atR { tmps := fr.tmps, defers := [] } fr.todo := by
 obtain ⟨a, b, c, d, e, g, i⟩ := fr
 simp only at h1 h2 h3 h4 h5
 subst h1 h2 h3 h4 h5
 simp [Frame.atR, baseOf, h6]
theorem AT.yield {f : FD} {Q : Out → H → Prop} {ai : AI} {r : List AI} {ks : List AItem} {env : Env} {h : H} {g : Opd} {args : List Opd} {L : LD} {i l : Nat}
  (hop : ai.op = .call g args) (hg : gOk env ai.guard) (hev : SL.ev env g = .d (.fn (.yield l) [] [])) (hlen : args.length = L.ps.length) (hbx : h.bx[i]? = some (.raw (LpR P L i l .ready none)))
  (hk : AT P L.N chkD ⟨L.fn, .normal, .no, [], some l⟩ [.code (inst L.ags), .begin, .code (inst L.bd)] (putps L.env L.ps (args.map (SL.ev env))) h
   (RdQ P N f L i l (.reg r :: ks) (dels env ai.kill) ai.dst Q)) : AT P N chkD f (.reg (ai :: r) :: ks) env h Q := by
 intro κ w a k cs hcs hr he hd
 cases k with
 | nil => simp [CS] at hcs
 | cons x0 k =>
  obtain ⟨y, t, e, h3, h4⟩ := hcs
  simp only [List.cons.injEq] at e
  obtain ⟨e1, e2⟩ := e
  subst e1 e2
  cases x0 <;> simp only [CI] at h3
  rename_i ops lst
  cases lst with
  | nil => simp [RG] at h3
  | cons ix rest =>
   obtain ⟨kill, ai', tl, c1, c2, c3⟩ := h3
   simp only [List.cons.injEq] at c2
   obtain ⟨c2, c4⟩ := c2
   subst c2 c4
   obtain ⟨o, o1, o2, o3, o4, o5, o6, o7⟩ := cAI_inv c1
   have hw := gOk_wanted he o7 hg
   rw [hop] at o5
   have : ∃ ce : Call, ∃ g0, o.op = .call ce ∧ ce.callee = .value g0 ∧ opd g0 = some g ∧ opds ce.args.toList = some args := by
    cases ho : o.op <;> rw [ho] at o5 <;> simp only [copA] at o5
    case call ce =>
     split at o5
     ·rename_i g0 hce
      split at o5
      ·rename_i g1 l1 z1 z2
       simp only [Option.some.injEq, AOp.call.injEq] at o5
       obtain ⟨z3, z4⟩ := o5
       subst z3 z4
       exact ⟨ce, g0, rfl, hce, z1, z2⟩
      ·simp at o5
     ·split at o5 <;> simp at o5
    all_goals first | (split at o5 <;> simp at o5; done) | ((repeat' split at o5) <;> simp at o5)
   obtain ⟨ce, g0, p1, p2, p3, p4⟩ := this
   have hρ := ev_sound he
   have hgv := hρ _ _ p3
   have hav := opds_sound (f := SL.ev env) (ρ := a.eval) hρ p4
   rw [hev] at hgv
   simp only [VR, DR] at hgv
   obtain ⟨a', c', ev', ea, ec⟩ := hgv
   simp only [DL] at ea ec
   subst ea ec
   obtain ⟨ol, ol1, ⟨ol2, tm, ags', bd', ol3, olE, olA, olB, olN⟩, ol4, ol5⟩ := hr.raw hbx
   subst ol3
   rw [ol2] at ol1
   have hlen2 : (ce.args.map a.eval).size = L.ps.length := by
    have := VL.length hav
    simp only [List.length_map] at this
    rw [← hlen, ← this]; simp
   have hy := run_yield (P := P) (args := ce.args.map a.eval) ol1 (by simpa using hlen2)
   have hinv : (invoke (.fn (.yield l) #[]) (ce.args.map a.eval)).run P w = (Instr.yield l (ce.args.map a.eval)).run P w := by
    simp [invoke]
   have hrun : (execOp a.eval o).run P w = .ok (.round l L.fn ((L.ps.zip (ce.args.map a.eval).toList).foldl (fun tmps (p : Nat × Value) => tmps.setIfInBounds p.1 p.2) tm) ags' bd') w := by
    have hofv : (Deferred.ofValue (a.eval g0) (ce.args.map a.eval)) = pure { target := .fn (.yield l) #[], args := ce.args.map a.eval } := by
     rw [ev']; simp [Deferred.ofValue]
    have hz : ((⟨L.ps⟩ : Array Nat).zip (ce.args.map a.eval)).toList = L.ps.zip (ce.args.map a.eval).toList := by simp
    simp only [execOp, p1, resolve, p2]
    simp only [Sem.run_bind, hofv, Sem.run_pure, Result.andThen_ok, hinv, hy]
    rw [← Array.foldl_toList, hz]
   have hgo := stepG_opn (P := P) (b := baseOf f) (k := k) (cs := cs) (w := w) (rest := rest) o1 hw (by intro c; rw [p1]; simp)
   let tm' := (L.ps.zip (ce.args.map a.eval).toList).foldl (fun tmps (p : Nat × Value) => tmps.setIfInBounds p.1 p.2) tm
   let rf : FD := ⟨L.fn, .normal, .no, [], some l⟩
   have hround : Frame.round l L.fn tm' ags' bd' .normal = (baseOf rf).atR { tmps := tm', defers := [] } [.code ags', .beginRound, .code bd'] := by
    simp [Frame.round, Frame.atR, baseOf, rf]
   have hst : Go.step P (lone ((baseOf f).atR a (.inRegion ops (ix :: rest) :: k)) cs w) = .next (lone ((baseOf rf).atR { tmps := tm', defers := [] } [.code ags', .beginRound, .code bd']) ((baseOf f).atR a (.inRegion ops (ix :: rest) :: k) :: cs) w) := by
    rw [← hround]
    exact step_lone_go (by rw [hgo]; simp [stepG.apply, hrun, tm'])
   obtain ⟨annA, olA⟩ := olA
   obtain ⟨annB, olB⟩ := olB
   obtain ⟨e, w', fr, κ', h', out, ⟨j, hj, q1, q2, q3⟩, g2, g3, g4, g5, g6, g7⟩ := hk κ w { tmps := tm', defers := [] } [.code ags', .beginRound, .code bd'] ((baseOf f).atR a (.inRegion ops (ix :: rest) :: k) :: cs)
    ⟨_, _, rfl, ⟨annA, olA⟩, _, _, rfl, trivial, _, _, rfl, ⟨annB, olB⟩, rfl⟩ hr (by
     exact olE.putps (by simpa using hav) olN (by simpa using hlen)) rfl
   subst q1
   obtain ⟨x, e1, e2⟩ := g4
   subst e1
   obtain ⟨m1, m2, m3, m4, j', m5, m6⟩ := g7
   have hjj := jmp_inj hj e2 m5 m6
   subst hjj
   have hfr := frame_atR m1 m2 m3 m4 g6 rfl
   obtain ⟨o', z1, ⟨z2, tm2, as2, bd2, z3, _⟩, z4, z5⟩ := g3.raw q2
   subst z3
   have hR := g3.putRaw (R' := LpR P L i l (stOf j') j') q2 (.loop { state := if j'.isNone then .ready else .done, pending := j', fn := L.fn, tmps := tm2, params := ⟨L.ps⟩, assign := as2, body := bd2, defers := L.blk }) fun κ'' l'' e'' => by
    obtain ⟨y1, tm3, as3, bd3, y2, y3⟩ := z5 κ'' l'' e''
    simp only [Obj.loop.injEq, Loop.mk.injEq, true_and] at y2
    obtain ⟨x1, x2, x3, _⟩ := y2
    subst x1 x2 x3
    refine ⟨y1, tm2, as2, bd2, ?_, y3⟩
    cases j' <;> rfl
   rw [z2] at z1 hR
   have hendR := run_endRound (P := P) j' z1
   have hfin : ((baseOf f).atR a (.inRegion ops (ix :: rest) :: k)).finish (.bool j'.isNone) = (baseOf f).atR (a.put o.dst (.bool j'.isNone)) (.inRegion ops rest :: k) := by rw [Frame.finish_atR, o1]; rfl
   have hback : Go.step P (lone fr ((baseOf f).atR a (.inRegion ops (ix :: rest) :: k) :: cs) w') = .next (lone ((baseOf f).atR (a.put o.dst (.bool j'.isNone)) (.inRegion ops rest :: k)) cs (w'.putObj l (.loop { state := if j'.isNone then .ready else .done, pending := j', fn := L.fn, tmps := tm2, params := ⟨L.ps⟩, assign := as2, body := bd2, defers := L.blk }))) := by
    rw [hfr, ← hfin]
    cases j' with
    | none =>
     have m6 : fr.todo = [] := m6
     rw [m6]
     exact stepR_round_end (b := baseOf rf) rfl rfl hendR
    | some c =>
     cases c <;> simp only [LeftBy] at m6
     case exit id =>
      obtain ⟨k', y1, y2⟩ := m6
      rw [y1]
      exact stepR_round_exit (b := baseOf rf) rfl rfl y2 hendR
     case ret =>
      obtain ⟨k', y1⟩ := m6
      rw [y1]
      exact stepR_round_ret (b := baseOf rf) rfl rfl hendR
   refine Ends.of_steps (.head hst (Steps.trans g5 (.one hback))) (Ends.le g2 (q3 κ' _ _ _ cs ⟨_, _, rfl, c3, h4⟩ hR ?_ ?_))
   ·rw [o3]
    exact ((he.mono g2).dels ai.kill).putO o6 (by simp [VR, DR])
   ·exact hd.put g2 _ _
theorem AT.retC {f : FD} {Q : Out → H → Prop} {fn : Func} (hf : P.funcs[f.fn]? = some fn) {rs : List ARes} (h1 : cRess P fn.results.toList = some rs) {ks : List AItem} {env : Env} {h : H} {vs : List V} (z : Bool)
  (hks : ks = [] ∨ ∃ k, ks = .code .ret :: k) {r i : Nat} (hdv : f.dv = .col r .no) (hrn : f.rnd = none) (hb : h.bx[i]? = some (.raw (DfR i r))) (h2 : aress ⟨h.bx.set i .gone, h.vc⟩ env rs = some vs)
  (hQ : match z with | true => Q (.ret (fzV ⟨h.bx.set i .gone, h.vc⟩ (outV vs))) (fzH ⟨h.bx.set i .gone, h.vc⟩) | false => Q (.ret (outV vs)) ⟨h.bx.set i .gone, h.vc⟩) : AT P N chkD f ks env h Q := by
 intro κ w a k cs hcs hr he hd
 rw [hdv] at hd
 obtain ⟨ds, hd1, hd2⟩ := hd
 simp only [DefR] at hd2
 subst hd2
 obtain ⟨o, o1, ⟨o2, o3⟩, _⟩ := hr.raw hb
 subst o3
 have hr2 := hr.putGone hb (.deferred none)
 rw [o2] at o1 hr2
 have htk := run_takeDeferred (P := P) o1
 obtain ⟨v, g1, g2⟩ := results_sound hr2 he h1 h2
 have hro : (baseOf f).roundOf = none := hrn
 have fin : ∀ fr : Frame, fr.fn = f.fn → fr.mode = .returning → fr.defers = a.defers → fr.kind = f.kind → fr.tmps = a.tmps → Steps P (lone ((baseOf f).atR a k) cs w) (lone fr cs w) → Ends P f (lone ((baseOf f).atR a k) cs w) cs κ Q := by
  intro fr f1 f2 f3 f4 f5 f6
  have hst := step_collected (P := P) (fr := fr) (cs := cs) (d := { target := .collected r, args := #[] }) (ds := []) (by rw [f2]; simp) (by rw [f3, hd1]) rfl htk
  have hl : ∀ κ', f.leave P κ' { fr with defers := [] ++ [] } (w.putObj r (.deferred none)) (.returned v) := fun κ' => by
   simp only [FD.leave, hrn, hdv]
   exact ⟨f2, rfl, f4, fn, by rw [f1]; exact hf, by rw [f5]; exact g1⟩
  cases z with
  | false => exact ⟨.returned v, _, _, κ, _, _, hQ, Le.refl κ, hr2, ⟨v, rfl, g2⟩, Steps.trans f6 (.one hst), f1, hl κ⟩
  | true =>
   refine ⟨.returned v, _, _, fzK κ _ _, _, _, hQ, fz_le, fz_rel hr2, ⟨v, rfl, ?_⟩, Steps.trans f6 (.one hst), f1, hl _⟩
   unfold fzV
   split
   ·rename_i d hdd
    simp only [VR]
    exact toDv_sound hr2 _ _ _ _ hdd g2
   ·exact g2.mono fz_le
 rcases hks with e | ⟨k0, e⟩
 ·subst e
  cases k with
  | nil => exact fin { (baseOf f).atR a [] with mode := .returning } rfl rfl rfl rfl rfl (.one (stepR_end hro))
  | cons x k => obtain ⟨y, t, e, _⟩ := hcs; simp at e
 ·subst e
  cases k with
  | nil => simp [CS] at hcs
  | cons x k =>
   obtain ⟨y, t, e, h3, h4⟩ := hcs
   simp only [List.cons.injEq] at e
   obtain ⟨e1, e2⟩ := e
   subst e1 e2
   cases x <;> simp only [CI] at h3
   rename_i c
   obtain ⟨ann, hc⟩ := h3
   have := comp_ret hc
   subst this
   exact fin { (baseOf f).atR a (.code .ret :: k) with mode := .returning } rfl rfl rfl rfl rfl (.one (stepR_ret hro))
def ItT (P : Program) (N n : Nat) (f : FD) (L : LD) (b l r : Nat) (k : List AItem) (env : Env) (Q : Out → H → Prop) (o : Out) (h : H) : Prop :=
 (∃ v, o = .ret v) ∧ ∃ j, jOK j = true ∧ h.bx[b]? = some (.raw (LpR P L b l (stOf j) j)) ∧
  ATT P N { f with dv := .col r f.dv } (fun o h => (∃ v, o = .ret v) ∧ Q o h) (goes n (jItem j ++ k) env ⟨h.bx.set b .gone, h.vc⟩ true)
theorem jItem_inst (j : Option Code) : (jItem j).map instI = jItem j := by
 cases j with
 | none => rfl
 | some c => cases c <;> rfl
theorem ATT.rangeF {f : FD} {Q : Out → H → Prop} {g : Opd} {ps : List Nat} {ags bd : AC} {k : List AItem} {env : Env} {h : H} {ob : Bool} {gid : FuncId} {all : Nat → List V} {N' : Nat} {fn : Func} {c : Code} {ac : AC} {ann : Ann} (n : Nat)
  (hc : ∀ l, calls (ev env g) [.d (.fn (.yield l) [] [])] = some (gid, all l)) (hcal : callable P gid = true) (hf : P.funcs[gid]? = some fn) (hb : fn.body = some c) (hn : fn.ntmps = N') (hcm : comp P N' ann chkD c = some (inst ac)) (ho : ob = true)
  (hk : ∀ l r, ATT P N' (.of gid) (ItT P N n f ⟨f.fn, N, env, ps, ags, bd, r⟩ (h.bx.length + 1) l r k env Q) (goes n [.code ac] (env0 0 (all l)) ⟨h.bx ++ [.raw (DfR h.bx.length r)] ++ [.raw (LpR P ⟨f.fn, N, env, ps, ags, bd, r⟩ (h.bx.length + 1) l .ready none)], h.vc⟩ true))
  (hrn : f.rnd = none := by rfl) : ATT P N f Q (.code (.rangeF g ps ags bd) :: k, env, h, ob) := by
 refine ⟨ho, ATX.of (by intro d l; simp [instI]) (AT.rangeF hrn hc hcal hf hb hn hcm fun l r => AT.mono (fun o h' hq => ?_) (goes_sound n _ _ _ _ (hk l r)).2.at)⟩
 obtain ⟨q1, j, q2, q3, q4⟩ := hq
 refine ⟨q1, j, q2, q3, ?_⟩
 have := (goes_sound n _ _ _ _ q4).2.at
 rw [List.map_append, jItem_inst] at this
 exact this
theorem ATT.begin {f : FD} {Q : Out → H → Prop} {L : LD} {i l : Nat} {c c' : AC} {k : List AItem} {env : Env} {h : H} {ob : Bool} (n : Nat) (hc : c = c') (hb : h.bx[i]? = some (.raw (LpR P L i l .ready none))) (ho : ob = true)
  (hk : ATT P N f Q (goes n (.code c' :: k) env ⟨h.bx.set i (.raw (LpR P L i l .busy none)), h.vc⟩ true)) (hrn : f.rnd = some l := by rfl) : ATT P N f Q (.begin :: .code c :: k, env, h, ob) := by
 subst hc
 exact ⟨ho, ATX.of (by intro d l; simp [instI]) (AT.begin hrn hb (goes_sound n _ _ _ _ hk).2.at)⟩
theorem ATT.endR {f : FD} {Q : Out → H → Prop} {l : Nat} {env : Env} {h : H} {ob : Bool} (ho : ob = true) (hrn : f.rnd = some l) (hdv : f.dv = .no) (hQ : Q (.ret (.d (.bool true))) h) : ATT P N f Q ([], env, h, ob) :=
 ⟨ho, AT.endR hrn hdv hQ⟩
def RdT (P : Program) (N n : Nat) (f : FD) (L : LD) (i l : Nat) (k : List AItem) (env : Env) (dst : Option Nat) (Q : Out → H → Prop) (o : Out) (h : H) : Prop :=
 ∃ j, jOK j = true ∧ o = .ret (jmpD j) ∧ h.bx[i]? = some (.raw (LpR P L i l .busy none)) ∧
  ATT P N f Q (goes n k (put env dst (.d (.bool j.isNone))) ⟨h.bx.set i (.raw (LpR P L i l (stOf j) j)), h.vc⟩ true)
theorem ATT.yield {f : FD} {Q : Out → H → Prop} {ix : Nat} {dst : Option Nat} {guard : Option (Nat × Bool)} {kill : List Nat} {r : List AI} {k : List AItem} {env : Env} {h : H} {ob : Bool} {g : Opd} {args : List Opd} {L : LD} {l : Nat} {a : AC} (n i : Nat) (ha : L.ags = a)
  (hev : ev env g = .d (.fn (.yield l) [] [])) (hg : gOk env guard) (hlen : args.length = L.ps.length) (hbx : h.bx[i]? = some (.raw (LpR P L i l .ready none))) (ho : ob = true)
  (hk : ATT P L.N ⟨L.fn, .normal, .no, [], some l⟩ (RdT P N n f L i l (.reg r :: k) (dels env kill) dst Q) (goes n [.code a, .begin, .code L.bd] (putps L.env L.ps (args.map (ev env))) h true)) :
  ATT P N f Q (.reg (⟨ix, dst, .call g args, guard, kill⟩ :: r) :: k, env, h, ob) := by
 subst ha
 refine ⟨ho, ATX.of (by intro d l; simp [instI]) (AT.yield (ai := ⟨ix, dst, .call g args, guard, kill⟩) rfl hg hev hlen hbx (AT.mono (fun o h' hq => ?_) (goes_sound n _ _ _ _ hk).2.at))⟩
 obtain ⟨j, q1, q2, q3, q4⟩ := hq
 exact ⟨j, q1, q2, q3, (goes_sound n _ _ _ _ q4).2.at⟩
theorem ATT.retC {f : FD} {Q Q' : Out → H → Prop} (hQ : ∀ o h, Q' o h → Q o h) {fn : Func} (hf : P.funcs[f.fn]? = some fn) {rs : List ARes} (h1 : cRess P fn.results.toList = some rs) {k : List AItem} {env : Env} {h : H} {ob : Bool} (i : Nat) {r : Nat} {vs : List V}
  (hdv : f.dv = .col r .no) (hrn : f.rnd = none) (ho : ob = true) (hb : h.bx[i]? = some (.raw (DfR i r))) (h2 : aress ⟨h.bx.set i .gone, h.vc⟩ env rs = some vs)
  (hq : Q' (.ret (fzV ⟨h.bx.set i .gone, h.vc⟩ (outV vs))) (fzH ⟨h.bx.set i .gone, h.vc⟩)) : ATT P N f Q (.code .ret :: k, env, h, ob) :=
 ⟨ho, ATX.of (by intro d l; simp [instI]) (AT.retC hf h1 true (.inr ⟨_, rfl⟩) hdv hrn hb h2 (hQ _ _ hq))⟩
end
@[simp] theorem goes_rangeF {n : Nat} {k : List AItem} {env : Env} {h : H} {ob : Bool} {g : Opd} {ps : List Nat} {a b : AC} : goes (n + 1) (.code (.rangeF g ps a b) :: k) env h ob = (.code (.rangeF g ps a b) :: k, env, h, ob) := by simp only [goes]
@[simp] theorem goes_begin {n : Nat} {k : List AItem} {env : Env} {h : H} {ob : Bool} : goes (n + 1) (.begin :: k) env h ob = (.begin :: k, env, h, ob) := by simp only [goes]
attribute [simp] putps jItem jmpD jOK stOf flatD
end Go.SL
namespace Go.SL
def wD (l : List Nat) : List D := l.map fun (x : Nat) => D.int .u32 (x : Int)
def bD (l : List Nat) : List D := l.map fun (x : Nat) => D.int .u8 (x : Int)
def wv : List Nat → Nat
 | [] => 0
 | x :: r => x + 4294967296 * wv r
def U32 (l : List Nat) : Prop := ∀ x ∈ l, x < 4294967296
def Can (l : List Nat) : Prop := U32 l ∧ ∀ q, l ≠ q ++ [0]
def Wd (n k : Nat) (v : D) : Prop := ∃ nl sz l, v = .sl nl sz (wD l) ∧ (nl = true → l = []) ∧ (nl = false → sz = 1) ∧ Can l ∧ wv l = n ∧ l.length ≤ k
@[simp] theorem wD_len (l : List Nat) : (wD l).length = l.length := by simp [wD]
@[simp] theorem bD_len (l : List Nat) : (bD l).length = l.length := by simp [bD]
@[simp] theorem wD_nil : wD [] = [] := rfl
@[simp] theorem bD_nil : bD [] = [] := rfl
theorem wD_app (a b : List Nat) : wD (a ++ b) = wD a ++ wD b := by simp [wD]
theorem bD_app (a b : List Nat) : bD (a ++ b) = bD a ++ bD b := by simp [bD]
theorem wD_get {l : List Nat} {i x : Nat} (h : l[i]? = some x) : (wD l)[i]? = some (.int .u32 x) := by simp [wD, h]
theorem bD_get {l : List Nat} {i x : Nat} (h : l[i]? = some x) : (bD l)[i]? = some (.int .u8 x) := by simp [bD, h]
theorem wD_getE {l : List Nat} {i x : Nat} (h : l[i]? = some x) (hi : i < (wD l).length) : (wD l)[i]'hi = .int .u32 x := by
 have := wD_get h; rw [List.getElem?_eq_getElem hi] at this; simpa using this
theorem bD_getE {l : List Nat} {i x : Nat} (h : l[i]? = some x) (hi : i < (bD l).length) : (bD l)[i]'hi = .int .u8 x := by
 have := bD_get h; rw [List.getElem?_eq_getElem hi] at this; simpa using this
theorem wv_app : ∀ (a b : List Nat), wv (a ++ b) = wv a + 4294967296 ^ a.length * wv b
 | [], b => by simp [wv]
 | x :: a, b => by simp only [List.cons_append, wv, wv_app a b, List.length_cons, Nat.pow_succ]; rw [Nat.mul_add, ← Nat.mul_assoc, Nat.add_assoc, Nat.mul_comm 4294967296 (4294967296 ^ a.length)]
theorem U32.nil : U32 [] := by simp [U32]
theorem U32.app {a b : List Nat} (h : U32 a) (g : U32 b) : U32 (a ++ b) := fun x hx => by
 rcases List.mem_append.1 hx with hx | hx
 ·exact h x hx
 ·exact g x hx
theorem U32.left {a b : List Nat} (h : U32 (a ++ b)) : U32 a := fun x hx => h x (by simp [hx])
theorem Can.nil : Can [] := ⟨U32.nil, by simp⟩
theorem Wd.words {n k : Nat} {v : D} (h : Wd n k v) : ∃ nl sz l, v = .sl nl sz (wD l) ∧ (nl = true → l = []) ∧ (nl = false → sz = 1) ∧ U32 l ∧ wv l = n ∧ l.length ≤ k := by
 obtain ⟨nl, sz, l, h1, h2, h3, h4, h5, h6⟩ := h
 exact ⟨nl, sz, l, h1, h2, h3, h4.1, h5, h6⟩
theorem Wd.mono {n k k' : Nat} {v : D} (h : Wd n k v) (hk : k ≤ k') : Wd n k' v := by
 obtain ⟨nl, sz, l, h1, h2, h3, h4, h5, h6⟩ := h
 exact ⟨nl, sz, l, h1, h2, h3, h4, h5, by omega⟩
theorem Can.tail {x : Nat} {l : List Nat} (h : Can (x :: l)) : Can l := ⟨fun y hy => h.1 y (by simp [hy]), fun q e => h.2 (x :: q) (by rw [e]; rfl)⟩
theorem Can.pos : ∀ {l : List Nat}, l ≠ [] → Can l → 0 < wv l
 | [], h, _ => absurd rfl h
 | x :: l, _, hc => by
  by_cases hl : l = []
  ·subst hl
   have : x ≠ 0 := fun e => hc.2 [] (by rw [e]; rfl)
   simp [wv]; omega
  ·have := Can.pos hl hc.tail
   simp only [wv]; omega
theorem wrap64i {x : Int} (h0 : 0 ≤ x) (h : x < 18446744073709551616) : IntKind.u64.wrap x = x := by
 simp only [IntKind.wrap, IntKind.bits, IntKind.signed]
 simp; omega
theorem wrap32i {x : Int} : IntKind.u32.wrap x = x % 4294967296 := by
 simp only [IntKind.wrap, IntKind.bits, IntKind.signed]
 simp
def VW (o : List Nat) (m : Nat) : List V := (wD o).map V.d ++ List.replicate m (.d (.int .u32 0))
theorem VW_zero (n : Nat) : List.replicate n (V.d (.int .u32 0)) = VW [] n := by simp [VW]
theorem VW_set (o : List Nat) (m x : Nat) : (VW o (m + 1)).set o.length (.d (.int .u32 x)) = VW (o ++ [x]) m := by
 simp [VW, wD_app, List.replicate_succ]
 simp [wD]
@[simp] theorem VW_len (o : List Nat) (m : Nat) : (VW o m).length = o.length + m := by simp [VW]
theorem VW_done (o : List Nat) : VW o 0 = (wD o).map V.d := by simp [VW]
theorem wv_take : ∀ {l : List Nat} {i x : Nat}, l[i]? = some x → wv (l.take (i + 1)) = wv (l.take i) + 4294967296 ^ i * x := fun {l i x} h => by
 have hlt := (List.getElem?_eq_some_iff.1 h).1
 have e : l.take (i + 1) = l.take i ++ [x] := by
  rw [List.take_add_one, h]; rfl
 rw [e, wv_app]
 simp [wv, Nat.min_eq_left (Nat.le_of_lt hlt)]
theorem plus_step {W o A B c q d s t Z : Nat} (h : o + W * c = A + B) (hd : Z * q + d = c + s + t) : o + W * (d + Z * 0) + W * Z * q = A + W * s + (B + W * t) := by
 have e : W * (d + Z * 0) + W * Z * q = W * (Z * q + d) := by rw [Nat.mul_zero, Nat.add_zero, Nat.mul_assoc, ← Nat.mul_add, Nat.add_comm]
 rw [Nat.add_assoc, e, hd, Nat.mul_add, Nat.mul_add]; omega
theorem wD_rep (n : Nat) : List.replicate n (V.d (.int .u32 0)) = (wD (List.replicate n 0)).map V.d := by simp [wD]
theorem wv_rep : ∀ n : Nat, wv (List.replicate n 0) = 0
 | 0 => rfl
 | n + 1 => by simp [List.replicate_succ, wv, wv_rep n]
theorem wD_set (o : List Nat) (k x : Nat) : ((wD o).map V.d).set k (.d (.int .u32 x)) = (wD (o.set k x)).map V.d := by simp [wD, List.map_set]
theorem wv_set : ∀ {o : List Nat} {k y : Nat} (x : Nat), o[k]? = some y → wv (o.set k x) + 4294967296 ^ k * y = wv o + 4294967296 ^ k * x
 | z :: o, 0, y, x, h => by simp at h; subst h; simp [wv]; omega
 | z :: o, k + 1, y, x, h => by
  have := wv_set (o := o) (k := k) (y := y) x (by simpa using h)
  simp only [List.set_cons_succ, wv, Nat.pow_succ]
  have e1 : 4294967296 ^ k * 4294967296 * y = 4294967296 * (4294967296 ^ k * y) := by rw [Nat.mul_comm (4294967296 ^ k), Nat.mul_assoc]
  have e2 : 4294967296 ^ k * 4294967296 * x = 4294967296 * (4294967296 ^ k * x) := by rw [Nat.mul_comm (4294967296 ^ k), Nat.mul_assoc]
  rw [e1, e2]; omega
theorem U32.set {o : List Nat} {k x : Nat} (h : U32 o) (hx : x < 4294967296) : U32 (o.set k x) := fun y hy => by
 rcases List.mem_or_eq_of_mem_set hy with h1 | h1
 ·exact h y h1
 ·omega
theorem U32.get {o : List Nat} {k x : Nat} (h : U32 o) (hx : o[k]? = some x) : x < 4294967296 := h x (List.mem_of_getElem? hx)
theorem times_step {m wo' wo Wi Wj X s t y q d c Z : Nat} (h : wo + Wi * Wj * c = X + Wi * s * t) (h2 : wo' + Wi * Wj * y = wo + Wi * Wj * d) (hd : Z * q + d = c + (s * m + y)) : wo' + Wi * (Wj * Z) * q = X + Wi * s * (t + Wj * m) := by
 have e1 : Wi * (Wj * Z) * q = Wi * Wj * (Z * q) := by simp only [Nat.mul_assoc]
 have e2 : Wi * s * (t + Wj * m) = Wi * s * t + Wi * Wj * (s * m) := by
  rw [Nat.mul_add]; congr 1
  simp only [Nat.mul_assoc, Nat.mul_left_comm]
 have e3 : Wi * Wj * (Z * q) + Wi * Wj * d = Wi * Wj * c + (Wi * Wj * (s * m) + Wi * Wj * y) := by
  rw [← Nat.mul_add, hd, Nat.mul_add, Nat.mul_add]
 rw [e1, e2]
 omega
def bvA : Nat → List Nat → Nat
 | a, [] => a
 | a, x :: r => bvA (a * 256 + x) r
def bv (l : List Nat) : Nat := bvA 0 l
def U8 (l : List Nat) : Prop := ∀ x ∈ l, x < 256
theorem bvA_eq : ∀ (l : List Nat) (a : Nat), bvA a l = a * 256 ^ l.length + bvA 0 l
 | [], a => by simp [bvA]
 | x :: l, a => by
  simp only [bvA, List.length_cons]
  rw [bvA_eq l (a * 256 + x), bvA_eq l (0 * 256 + x), Nat.add_mul, Nat.zero_mul, Nat.zero_add, Nat.pow_succ, Nat.mul_assoc, Nat.mul_comm 256 (256 ^ l.length), Nat.add_assoc]
theorem bvA_app : ∀ (l r : List Nat) (a : Nat), bvA a (l ++ r) = bvA (bvA a l) r
 | [], _, _ => rfl
 | x :: l, r, a => bvA_app l r _
theorem bv_app (l r : List Nat) : bv (l ++ r) = bv l * 256 ^ r.length + bv r := by
 unfold bv; rw [bvA_app, bvA_eq r]
def b4 (x : Nat) : List Nat := [x / 16777216 % 256, x / 65536 % 256, x / 256 % 256, x % 256]
def wb : List Nat → List Nat
 | [] => []
 | x :: r => wb r ++ b4 x
theorem b4_bv {x : Nat} (h : x < 4294967296) : bv (b4 x) = x := by simp only [b4, bv, bvA]; omega
theorem wb_len : ∀ l : List Nat, (wb l).length = 4 * l.length
 | [] => rfl
 | x :: l => by simp [wb, wb_len l, b4]; omega
theorem wb_bv : ∀ {l : List Nat}, U32 l → bv (wb l) = wv l
 | [], _ => rfl
 | x :: l, h => by
  have e : (b4 x).length = 4 := rfl
  simp only [wb, wv]
  rw [bv_app, wb_bv (fun y hy => h y (by simp [hy])), b4_bv (h x (by simp)), e]; omega
theorem wb_u8 : ∀ (l : List Nat), U8 (wb l)
 | [] => by simp [wb, U8]
 | x :: l => fun y hy => by
  simp only [wb, List.mem_append] at hy
  rcases hy with hy | hy
  ·exact wb_u8 l y hy
  ·simp only [b4, List.mem_cons, List.not_mem_nil, or_false] at hy; omega
def Bd (n k : Nat) (v : D) : Prop := ∃ nl sz l, v = .sl nl sz (bD l) ∧ (nl = true → l = []) ∧ (nl = false → sz = 1) ∧ U8 l ∧ (∀ q, l ≠ 0 :: q) ∧ bv l = n ∧ l.length ≤ k
theorem wb_drop {l : List Nat} {i x : Nat} (h : l[i]? = some x) : wb (l.drop i) = wb (l.drop (i + 1)) ++ b4 x := by
 have hlt := (List.getElem?_eq_some_iff.1 h).1
 rw [List.drop_eq_getElem_cons hlt, wb]
 have := (List.getElem?_eq_some_iff.1 h).2
 rw [this]
theorem wrap8s (x n : Nat) : IntKind.u8.wrap ((x : Int).fdiv n) = (x : Int) / n % 256 := by
 rw [Int.fdiv_eq_ediv_of_nonneg _ (by omega)]
 simp only [IntKind.wrap, IntKind.bits, IntKind.signed]
 simp
theorem wrap8x (x : Nat) : IntKind.u8.wrap (x : Int) = (x : Int) % 256 := by
 simp only [IntKind.wrap, IntKind.bits, IntKind.signed]
 simp
theorem bv_pos {x : Nat} {l : List Nat} (h : x ≠ 0) : 256 ^ l.length ≤ bv (x :: l) := by
 unfold bv
 simp only [bvA]
 rw [bvA_eq, Nat.zero_mul, Nat.zero_add]
 have : 1 * 256 ^ l.length ≤ x * 256 ^ l.length := Nat.mul_le_mul_right _ (by omega)
 omega
theorem bv_lt : ∀ {l : List Nat}, U8 l → bv l < 256 ^ l.length
 | [], _ => by simp [bv, bvA]
 | x :: l, h => by
  have h1 := h x (by simp)
  have h2 := bv_lt (l := l) fun y hy => h y (by simp [hy])
  unfold bv at h2 ⊢
  simp only [bvA, List.length_cons, Nat.pow_succ]
  rw [bvA_eq, Nat.zero_mul, Nat.zero_add]
  have h3 : x * 256 ^ l.length ≤ 255 * 256 ^ l.length := Nat.mul_le_mul_right _ (by omega)
  omega
theorem bv_fits {l : List Nat} (hu : U8 l) (hc : ∀ q, l ≠ 0 :: q) (k : Nat) : l.length ≤ k ↔ bv l < 256 ^ k := by
 constructor
 ·intro h
  exact Nat.lt_of_lt_of_le (bv_lt hu) (Nat.pow_le_pow_right (by decide) h)
 ·intro h
  cases l with
  | nil => simp
  | cons x l =>
   have hx : x ≠ 0 := fun e => hc l (by rw [e])
   have h1 := bv_pos (l := l) hx
   rcases Nat.lt_or_ge l.length k with h2 | h2
   ·simpa using Nat.succ_le_of_lt h2
   ·have := Nat.pow_le_pow_right (n := 256) (by decide) h2
    omega
theorem bv_nil {l : List Nat} (hu : U8 l) (hc : ∀ q, l ≠ 0 :: q) : l = [] ↔ bv l = 0 := by
 have := bv_fits hu hc 0
 simp only [Nat.le_zero, List.length_eq_zero_iff, Nat.pow_zero, Nat.lt_one_iff] at this
 exact this
def IntR (neg : Bool) (n : Nat) (v : D) : Prop := ∃ k u, v = .agg [.bool (neg && decide (0 < n)), u] ∧ Bd n k u
theorem U8.getD {l : List Nat} (h : U8 l) (i : Nat) : l.getD i 0 < 256 := by
 rw [List.getD_eq_getElem?_getD]
 cases e : l[i]? with
 | none => simp
 | some x => exact h x (List.mem_of_getElem? e)
theorem U8.app {a b : List Nat} (h : U8 a) (g : U8 b) : U8 (a ++ b) := fun x hx => by
 rcases List.mem_append.1 hx with hx | hx
 ·exact h x hx
 ·exact g x hx
@[simp] theorem take_bD (o : List Nat) : List.take o.length ((bD o).map V.d) = (bD o).map V.d := List.take_of_length_le (by simp)
end Go.SL
set_option maxRecDepth 100000
namespace Go.SL
open Go.Proofs
@[simp] abbrev Xt (n : Nat) : Opd := .tmp n
@[simp] abbrev Xi (n : Int) : Opd := .cst (.int .i64 n)
@[simp] abbrev Xm (i d s : Nat) (k : List Nat) : AI := ⟨i, some d, .o (.move (.tmp s)), none, k⟩
@[simp] abbrev Xa (i d s : Nat) (k : List Nat) : AI := ⟨i, some d, .o (.asg (.tmp s)), none, k⟩
@[simp] abbrev Xf (i d n s : Nat) (k : List Nat) : AI := ⟨i, some d, .o (.faddr n (.tmp s)), none, k⟩
@[simp] abbrev Xl (i d n s : Nat) (k : List Nat) : AI := ⟨i, some d, .o (.load false n (.tmp s)), none, k⟩
@[simp] abbrev Xg (i d n s : Nat) (k : List Nat) : AI := ⟨i, some d, .o (.load true n (.tmp s)), none, k⟩
@[simp] abbrev Xs (i n a b : Nat) (k : List Nat) : AI := ⟨i, none, .o (.store n (.tmp a) (.tmp b)), none, k⟩
@[simp] abbrev Xn (i d s : Nat) (k : List Nat) : AI := ⟨i, some d, .o (.nilc (.tmp s)), none, k⟩
@[simp] abbrev Xe (i d s n : Nat) (k : List Nat) : AI := ⟨i, some d, .o (.extract (.tmp s) n), none, k⟩
@[simp] abbrev Xc (i d f a : Nat) (k : List Nat) : AI := ⟨i, some d, .call (.cst (.fn (.func f) [] [])) [.tmp a], none, k⟩
@[simp] abbrev Xd (i d f a b : Nat) (k : List Nat) : AI := ⟨i, some d, .call (.cst (.fn (.func f) [] [])) [.tmp a, .tmp b], none, k⟩
@[simp] abbrev Xo (i d : Nat) (o : AO) (k : List Nat) : AI := ⟨i, some d, .o o, none, k⟩
@[simp] abbrev Xu (i d : Nat) (o : AO) (g : Nat) (k : List Nat) : AI := ⟨i, some d, .o o, some (g, true), k⟩
@[simp] abbrev Xv (i d : Nat) (o : AO) (g : Nat) (k : List Nat) : AI := ⟨i, some d, .o o, some (g, false), k⟩
@[simp] abbrev Xh (i d : Nat) (o : BinOp) (a b : Nat) (k : List Nat) : AI := ⟨i, some d, .o (.icmp o (.tmp a) (.tmp b)), none, k⟩
@[simp] abbrev Xj (i d : Nat) (o : BinOp) (a : Nat) (n : Int) (k : List Nat) : AI := ⟨i, some d, .o (.icmp o (.tmp a) (.cst (.int .i64 n))), none, k⟩
@[simp] abbrev Xb (i d : Nat) (o : BinOp) (a : Nat) (n : Int) (k : List Nat) : AI := ⟨i, some d, .o (.ibin o (.tmp a) (.cst (.int .i64 n))), none, k⟩
@[simp] abbrev Xq : Opd := .cst (.bool false)
@[simp] abbrev Xp : Opd := .cst (.bool true)
@[simp] abbrev Xw : D := .sl true 0 []
@[simp] abbrev Xx : List D := [.int .i64 0, .str ⟨#[]⟩, .int .i64 0]
@[simp] abbrev Xz : List D := [.int .i64 0, .str ⟨#[]⟩, .int .i64 0, .int .i64 0, .sl true 0 [], .sl true 0 []]
noncomputable abbrev Ko (n : Nat) (a : Ann) (f : Func) : Option AC := comp Tryz.prog n a chkD (f.body.getD .skip)
noncomputable abbrev Kc (n : Nat) : Bool := callable Tryz.prog n
noncomputable abbrev Kr (f : Func) : Option (List ARes) := cRess Tryz.prog f.results.toList
def Xan (f : Nat → List AI) (n : Nat) : List (List (Nat × List Nat)) := [(f n).map fun a => (a.ix, a.kill)]
def c5t : Nat → List AI
 | 0 => [Xo 0 2 (.asg Xq) []]
 | 1 => [Xm 0 11 0 [2], Xj 1 12 .lss 11 0 [11], Xm 2 13 12 [12], Xv 3 14 (.move (Xt 0)) 13 [], Xv 4 15 (.icmp .gtr (Xt 14) (Xi 60)) 13 [14], Xo 5 16 (.pick (Xt 13) Xp (Xt 15)) [15, 13]]
 | 2 => [Xo 0 0 (.asg (Xi 41)) [16]]
 | 3 => [Xo 0 3 (.asg (Xi 0)) [16]]
 | 4 => [Xm 0 17 3 [], Xj 1 18 .lss 17 4 [17]]
 | 5 => [Xo 0 21 (.bslice 9 false 1 4 [(.str ⟨#[]⟩)] [(0, 1, (.cst (.str ⟨#[40]⟩))), (1, 1, (.cst (.str ⟨#[91]⟩))), (2, 1, (.cst (.str ⟨#[35, 40]⟩))), (3, 1, (.cst (.str ⟨#[120, 58, 61]⟩)))]) [18], Xm 1 22 3 [], Xo 2 23 (.iaddr 1 (Xt 21) (Xt 22)) [22, 21], Xl 3 24 1 23 [23], Xa 4 4 24 [24]]
 | 6 => [Xo 0 25 (.bslice 9 false 1 4 [(.str ⟨#[]⟩)] [(0, 1, (.cst (.str ⟨#[41]⟩))), (1, 1, (.cst (.str ⟨#[93]⟩))), (2, 1, (.cst (.str ⟨#[41]⟩))), (3, 1, (.cst (.str ⟨#[]⟩)))]) [], Xm 1 26 3 [], Xo 2 27 (.iaddr 1 (Xt 25) (Xt 26)) [26, 25], Xl 3 28 1 27 [27], Xa 4 5 28 [28]]
 | 7 => [Xm 0 30 0 [], Xm 1 31 4 [], Xm 2 32 5 [5], ⟨3, (some 33), .call (.cst (.fn (.func 15) [] [])) [(Xt 30), (Xt 31), (Xt 32)], none, [32, 31, 30]⟩, Xc 4 34 8 33 [33], Xm 5 29 34 [34], Xe 6 35 29 0 [], Xe 7 36 29 1 [], Xe 8 37 29 2 [29], Xo 9 6 (.alloc Xz 25) [], Xs 10 6 6 35 [6, 35], Xa 11 7 36 [36], Xa 12 8 37 [37]]
 | 8 => [Xo 0 9 (.asg (Xi 0)) []]
 | 9 => [Xo 0 10 (.asg (Xi 0)) []]
 | 10 => [Xm 0 38 0 [], Xj 1 39 .gtr 38 40 [38]]
 | 11 => [Xo 0 9 (.asg (Xi 3)) [39, 10]]
 | 12 => [Xm 0 40 4 [4], Xo 1 41 (.len true (Xt 40)) [40], Xo 2 42 (.ibin .mul (Xi 40) (Xt 41)) [41], Xa 3 10 42 [42]]
 | 13 => [Xm 0 43 3 [], Xj 1 44 .eql 43 3 [43]]
 | 14 => [Xm 0 45 10 [44, 10], Xb 1 46 .add 45 1 [45], Xa 2 10 46 [46]]
 | 15 => [Xm 0 47 8 [4, 39, 44, 8], Xm 1 48 9 [9], Xh 2 49 .neq 47 48 [48, 47], Xm 3 50 49 [49], Xv 4 51 (.move (Xt 7)) 50 [7], Xv 5 52 (.move (Xt 10)) 50 [10], Xv 6 53 (.icmp .neq (Xt 51) (Xt 52)) 50 [], Xo 7 54 (.pick (Xt 50) Xp (Xt 53)) [50]]
 | 16 => [Xo 0 2 (.asg Xq) [54, 53, 52, 51, 3, 0]]
 | 17 => [Xm 0 19 3 [3, 54, 2], Xb 1 20 .add 19 1 [19], Xa 2 3 20 [20]]
 | 19 => [⟨0, (some 55), .call (.cst (.fn (.func 12) [] [])) [], none, [3, 0, 51, 52, 53]⟩, Xa 1 2 55 [55]]
 | _ => []
def c5l18 : AC := (.seq (.seq (.regT c5t 4) (.cond (.tmp 18) .skip (.exit 0))) (.seq (.block 1 (.seq (.regT c5t 5) (.seq (.regT c5t 6) (.seq (.regT c5t 7) (.seq (.regT c5t 8) (.seq (.regT c5t 9) (.seq (.seq (.regT c5t 10) (.cond (.tmp 39) (.seq (.regT c5t 11) (.seq (.regT c5t 12) (.seq (.regT c5t 13) (.cond (.tmp 44) (.regT c5t 14) .skip)))) .skip)) (.seq (.regT c5t 15) (.cond (.tmp 54) (.seq (.regT c5t 16) .ret) .skip))))))))) (.regT c5t 17)))
def c5c : AC := (.seq (.regT c5t 0) (.seq (.seq (.regT c5t 1) (.cond (.tmp 16) (.regT c5t 2) .skip)) (.seq (.seq (.regT c5t 3) (.block 0 (.loop c5l18))) (.seq (.regT c5t 19) .ret))))
def c5a : Ann := fun id => match id with
 | 6 => Xan c5t 5
 | 7 => Xan c5t 6
 | 8 => Xan c5t 7
 | 10 => Xan c5t 0
 | 11 => Xan c5t 10
 | 12 => Xan c5t 11
 | 13 => Xan c5t 12
 | 14 => Xan c5t 13
 | 15 => Xan c5t 14
 | 16 => Xan c5t 15
 | 17 => Xan c5t 16
 | 5 => Xan c5t 17
 | 18 => Xan c5t 19
 | n => Xan c5t n
theorem c5ok : Ko 56 c5a Tryz.f5 = some (inst c5c) := by kernel_rfl
theorem c5call : Kc 5 = true := by kernel_rfl
theorem c5res : Kr Tryz.f5 = some [.tmp 2] := by kernel_rfl
def c7t : Nat → List AI
 | 0 => [Xo 0 2 (.asg Xq) []]
 | 1 => [Xm 0 10 0 [2], Xc 1 11 8 10 [10], Xm 2 9 11 [11], Xe 3 12 9 0 [], Xe 4 13 9 1 [], Xe 5 14 9 2 [9], Xo 6 3 (.alloc Xz 25) [], Xs 7 6 3 12 [12], Xa 8 4 13 [13], Xa 9 5 14 [4, 14]]
 | 2 => [Xm 0 16 0 [0], Xc 1 17 16 16 [16], Xm 2 15 17 [17], Xe 3 18 15 0 [], Xe 4 19 15 1 [], Xe 5 20 15 2 [15], Xo 6 6 (.alloc Xz 25) [], Xs 7 6 6 18 [18], Xa 8 7 19 [19], Xa 9 8 20 [7, 20]]
 | 3 => [Xm 0 21 5 [5], Xj 1 22 .eql 21 0 [21], Xm 2 23 22 [22], Xu 3 24 (.faddr 0 (Xt 3)) 23 [], Xu 4 25 (.load false 1 (Xt 24)) 23 [24], Xu 5 26 (.icmp .neq (Xt 25) (Xi 12)) 23 [25], Xu 6 27 (.move (Xt 26)) 23 [26], Xv 7 28 (.faddr 1 (Xt 3)) 27 [], Xv 8 29 (.load false 1 (Xt 28)) 27 [28], Xv 9 30 (.sbin .neq (Xt 29) (.cst (.str ⟨#[]⟩))) 27 [29], Xu 10 31 (.pick (Xt 27) Xp (Xt 30)) 23 [30, 27], Xu 11 32 (.move (Xt 31)) 23 [31], Xv 12 33 (.load true 6 (Xt 3)) 32 [3], ⟨13, (some 34), .call (.cst (.fn (.func 18) [] [])) [(Xt 33)], (some (32, false)), [33]⟩, Xv 14 35 (.not (Xt 34)) 32 [34], Xu 15 36 (.pick (Xt 32) Xp (Xt 35)) 23 [35, 32], Xo 16 37 (.pick (Xt 23) (Xt 36) Xq) [36, 23]]
 | 4 => [Xo 0 2 (.asg Xq) [37, 8, 6]]
 | 5 => [Xm 0 38 8 [], Xj 1 39 .neq 38 0 [], Xm 2 40 39 [], Xv 3 41 (.faddr 0 (Xt 6)) 40 [], Xv 4 42 (.load false 1 (Xt 41)) 40 [], Xv 5 43 (.icmp .eql (Xt 42) (Xi 12)) 40 [], Xv 6 44 (.move (Xt 43)) 40 [], Xu 7 45 (.faddr 3 (Xt 6)) 44 [], Xu 8 46 (.load false 1 (Xt 45)) 44 [], Xu 9 47 (.faddr 1 (Xt 6)) 44 [], Xu 10 48 (.load false 1 (Xt 47)) 44 [], ⟨11, (some 49), .call (.cst (.fn (.func 13) [] [])) [(Xt 48)], (some (44, true)), [7, 8]⟩, Xu 12 50 (.icmp .eql (Xt 46) (Xt 49)) 44 [], Xv 13 51 (.pick (Xt 44) (Xt 50) Xq) 40 [], Xv 14 52 (.move (Xt 51)) 40 [], Xu 15 53 (.load true 6 (Xt 6)) 52 [], ⟨16, (some 54), .call (.cst (.fn (.func 18) [] [])) [(Xt 53)], (some (52, true)), []⟩, Xv 17 55 (.pick (Xt 52) (Xt 54) Xq) 40 [], Xo 18 56 (.pick (Xt 40) Xp (Xt 55)) [], Xm 19 57 56 [], ⟨20, (some 58), .call (.cst (.fn (.func 12) [] [])) [], (some (57, true)), []⟩, Xo 21 59 (.pick (Xt 57) (Xt 58) Xq) [], Xa 22 2 59 []]
 | _ => []
def c7c : AC := (.seq (.regT c7t 0) (.seq (.regT c7t 1) (.seq (.regT c7t 2) (.seq (.seq (.regT c7t 3) (.cond (.tmp 37) (.seq (.regT c7t 4) .ret) .skip)) (.seq (.regD [c7t 5]) .ret)))))
def c7a : Ann := Xan c7t
theorem c7ok : Ko 60 c7a Tryz.f7 = some (inst c7c) := by kernel_rfl
theorem c7call : Kc 7 = true := by kernel_rfl
theorem c7res : Kr Tryz.f7 = some [.tmp 2] := by kernel_rfl
def c8t : Nat → List AI
 | 0 => [Xo 0 2 (.alloc Xz 25) [], Xo 1 3 (.asg (Xi 0)) [], Xo 2 4 (.asg (Xi 0)) [3]]
 | 1 => [Xm 0 5 0 [4, 0], ⟨1, (some 6), .call (.cst (.fn (.func 19) [] [])) [(Xt 5), (.cst (.fn (.func 20) [] []))], none, [5]⟩, Xe 2 7 6 0 [], Xe 3 8 6 1 [], Xe 4 9 6 2 [6], Xs 5 6 2 7 [7], Xa 6 3 8 [8], Xa 7 4 9 [9]]
 | _ => []
def c8c : AC := (.seq (.regT c8t 0) (.seq (.regT c8t 1) .ret))
def c8a : Ann := Xan c8t
theorem c8ok : Ko 10 c8a Tryz.f8 = some (inst c8c) := by kernel_rfl
theorem c8call : Kc 8 = true := by kernel_rfl
theorem c8res : Kr Tryz.f8 = some [.cell 2 true 6, .tmp 3, .tmp 4] := by kernel_rfl
def c12t : Nat → List AI
 | 0 => [Xo 0 0 (.asg Xq) []]
 | 1 => [⟨0, (some 8), .call (.cst (.fn (.func 8) [] [])) [(.cst (.str ⟨#[97, 32, 98, 32, 43, 32, 50, 32, 102, 111, 111, 58, 32, 51]⟩))], none, [0]⟩, Xm 1 7 8 [8], Xe 2 9 7 0 [], Xe 3 10 7 1 [], Xe 4 11 7 2 [7], Xo 5 1 (.alloc Xz 25) [], Xs 6 6 1 9 [9], Xa 7 2 10 [10], Xa 8 3 11 [2, 11]]
 | 2 => [⟨0, (some 13), .call (.cst (.fn (.func 8) [] [])) [(.cst (.str ⟨#[97, 32, 93]⟩))], none, []⟩, Xm 1 12 13 [13], Xe 2 14 12 0 [], Xe 3 15 12 1 [], Xe 4 16 12 2 [12], Xo 5 4 (.alloc Xz 25) [], Xs 6 6 4 14 [4, 14], Xa 7 5 15 [15], Xa 8 6 16 [16]]
 | 3 => [Xm 0 17 3 [3], Xj 1 18 .eql 17 0 [17], Xm 2 19 18 [18], Xu 3 20 (.load true 6 (Xt 1)) 19 [1], ⟨4, (some 21), .call (.cst (.fn (.func 22) [] [])) [(Xt 20)], (some (19, true)), [20]⟩, Xu 5 22 (.sbin .eql (Xt 21) (.cst (.str ⟨#[97, 32, 98, 32, 43, 32, 50, 32, 102, 111, 111, 58, 32, 51]⟩))) 19 [21], Xo 6 23 (.pick (Xt 19) (Xt 22) Xq) [22, 19], Xm 7 24 23 [23], Xu 8 25 (.move (Xt 5)) 24 [5], Xu 9 26 (.icmp .eql (Xt 25) (Xi 2)) 24 [25], Xo 10 27 (.pick (Xt 24) (Xt 26) Xq) [26, 24], Xm 11 28 27 [27], Xu 12 29 (.move (Xt 6)) 28 [6], Xu 13 30 (.icmp .eql (Xt 29) (Xi 20)) 28 [29], Xo 14 31 (.pick (Xt 28) (Xt 30) Xq) [30, 28], Xm 15 32 31 [31], ⟨16, (some 33), .call (.cst (.fn (.func 13) [] [])) [(.cst (.str ⟨#[97, 116, 58, 112, 117, 116, 58]⟩))], (some (32, true)), []⟩, Xu 17 34 (.icmp .eql (Xt 33) (Xi 2)) 32 [33], Xo 18 35 (.pick (Xt 32) (Xt 34) Xq) [34, 32], Xm 19 36 35 [35], ⟨20, (some 37), .call (.cst (.fn (.func 13) [] [])) [(.cst (.str ⟨#[43]⟩))], (some (36, true)), []⟩, Xu 21 38 (.icmp .eql (Xt 37) (Xi 1)) 36 [37], Xo 22 39 (.pick (Xt 36) (Xt 38) Xq) [38, 36], Xm 23 40 39 [39], ⟨24, (some 41), .call (.cst (.fn (.func 13) [] [])) [(.cst (.str ⟨#[102, 111, 111]⟩))], (some (40, true)), []⟩, Xu 25 42 (.icmp .eql (Xt 41) (Xi 0)) 40 [41], Xo 26 43 (.pick (Xt 40) (Xt 42) Xq) [42, 40], Xa 27 0 43 [43]]
 | _ => []
def c12c : AC := (.seq (.regT c12t 0) (.seq (.regT c12t 1) (.seq (.regT c12t 2) (.seq (.regT c12t 3) .ret))))
def c12a : Ann := Xan c12t
theorem c12ok : Ko 44 c12a Tryz.f12 = some (inst c12c) := by kernel_rfl
theorem c12call : Kc 12 = true := by kernel_rfl
theorem c12res : Kr Tryz.f12 = some [.tmp 0] := by kernel_rfl
def c13t : Nat → List AI
 | 0 => [Xo 0 2 (.asg (Xi 0)) []]
 | 1 => [Xo 0 3 (.asg (Xi 0)) [2]]
 | 2 => [Xm 0 6 0 [], Xo 1 7 (.range (Xt 6)) [6]]
 | 3 => [Xo 0 8 (.next (Xt 7)) [12], Xe 1 9 8 0 []]
 | 4 => [Xe 0 10 8 2 [9, 8], Xa 1 5 10 [10]]
 | 5 => [Xm 0 11 5 [5], Xo 1 12 (.icmp .eql (Xt 11) (.cst (.int .i32 58))) [11]]
 | 6 => [Xm 0 13 3 [12, 3], Xb 1 14 .add 13 1 [13], Xa 2 3 14 [14]]
 | 8 => [Xm 0 16 0 [12, 7], Xc 1 17 23 16 [16], Xa 2 15 17 [17]]
 | 9 => [Xo 0 2 (.asg (Xi 0)) [15, 3, 0]]
 | 10 => [Xm 0 19 0 [15], Xo 1 20 (.sbin .eql (Xt 19) (.cst (.str ⟨#[]⟩))) [19], Xm 2 21 20 [20], Xv 3 22 (.move (Xt 0)) 21 [0], Xv 4 23 (.sslice (Xt 22) none (some (Xi 1))) 21 [22], ⟨5, (some 24), .call (.cst (.fn (.func 23) [] [])) [(Xt 23)], (some (21, false)), [23]⟩, Xo 6 25 (.pick (Xt 21) Xp (Xt 24)) [24, 21], Xa 7 18 25 [25]]
 | 11 => [Xm 0 26 3 [18, 3], Xa 1 2 26 [26]]
 | 12 => [Xo 0 2 (.asg (Xi 1)) [18, 3]]
 | _ => []
def c13l7 : AC := (.seq (.regT c13t 3) (.seq (.cond (.tmp 9) .skip (.exit 0)) (.block 1 (.seq (.regT c13t 4) (.seq (.regT c13t 5) (.cond (.tmp 12) (.regT c13t 6) .skip))))))
def c13c : AC := (.seq (.regT c13t 0) (.seq (.regT c13t 1) (.seq (.seq (.regT c13t 2) (.block 0 (.loop c13l7))) (.seq (.block 2 (.seq (.regT c13t 8) (.cond (.tmp 15) (.seq (.regT c13t 9) .ret) (.seq (.regT c13t 10) (.cond (.tmp 18) (.seq (.regT c13t 11) .ret) .skip))))) (.seq (.regT c13t 12) .ret)))))
def c13a : Ann := fun id => match id with
 | 7 => Xan c13t 8
 | 8 => Xan c13t 9
 | 9 => Xan c13t 10
 | 10 => Xan c13t 11
 | 11 => Xan c13t 12
 | n => Xan c13t n
theorem c13ok : Ko 27 c13a Tryz.f13 = some (inst c13c) := by kernel_rfl
theorem c13call : Kc 13 = true := by kernel_rfl
theorem c13res : Kr Tryz.f13 = some [.tmp 2] := by kernel_rfl
def c15t : Nat → List AI
 | 0 => [Xo 0 6 (.asg (.cst (.str ⟨#[]⟩))) []]
 | 1 => [Xo 0 7 (.asg (.cst (.str ⟨#[]⟩))) [6]]
 | 2 => [Xo 0 8 (.asg (Xi 0)) []]
 | 3 => [Xm 0 10 8 [], Xm 1 11 0 [], Xh 2 12 .lss 10 11 [11, 10]]
 | 4 => [Xm 0 15 7 [12, 7], Xm 1 16 1 [], Xo 2 17 (.sbin .add (Xt 15) (Xt 16)) [16, 15], Xa 3 7 17 [17]]
 | 5 => [Xm 0 13 8 [8], Xb 1 14 .add 13 1 [13], Xa 2 8 14 [14]]
 | 7 => [Xm 0 18 7 [8, 7, 1], Xo 1 19 (.sbin .add (Xt 18) (.cst (.str ⟨#[120]⟩))) [18], Xa 2 7 19 [19]]
 | 8 => [Xo 0 9 (.asg (Xi 0)) []]
 | 9 => [Xm 0 20 9 [], Xm 1 21 0 [], Xh 2 22 .lss 20 21 [21, 20]]
 | 10 => [Xm 0 25 7 [22, 7], Xm 1 26 2 [], Xo 2 27 (.sbin .add (Xt 25) (Xt 26)) [26, 25], Xa 3 7 27 [27]]
 | 11 => [Xm 0 23 9 [9], Xb 1 24 .add 23 1 [23], Xa 2 9 24 [24]]
 | 13 => [Xm 0 28 7 [9, 7, 0, 2], Xa 1 6 28 [28]]
 | _ => []
def c15l6 : AC := (.seq (.seq (.regT c15t 3) (.cond (.tmp 12) .skip (.exit 0))) (.seq (.block 1 (.regT c15t 4)) (.regT c15t 5)))
def c15l12 : AC := (.seq (.seq (.regT c15t 9) (.cond (.tmp 22) .skip (.exit 2))) (.seq (.block 3 (.regT c15t 10)) (.regT c15t 11)))
def c15c : AC := (.seq (.regT c15t 0) (.seq (.regT c15t 1) (.seq (.seq (.regT c15t 2) (.block 0 (.loop c15l6))) (.seq (.regT c15t 7) (.seq (.seq (.regT c15t 8) (.block 2 (.loop c15l12))) (.seq (.regT c15t 13) .ret))))))
def c15a : Ann := fun id => match id with
 | 5 => Xan c15t 4
 | 4 => Xan c15t 5
 | 6 => Xan c15t 7
 | 7 => Xan c15t 0
 | 8 => Xan c15t 9
 | 9 => Xan c15t 11
 | 11 => Xan c15t 13
 | n => Xan c15t n
theorem c15ok : Ko 29 c15a Tryz.f15 = some (inst c15c) := by kernel_rfl
theorem c15call : Kc 15 = true := by kernel_rfl
theorem c15res : Kr Tryz.f15 = some [.tmp 6] := by kernel_rfl
def c16t : Nat → List AI
 | 0 => [Xo 0 2 (.alloc Xz 25) [], Xo 1 3 (.asg (Xi 0)) [], Xo 2 4 (.asg (Xi 0)) [3]]
 | 1 => [Xm 0 5 0 [4, 0], ⟨1, (some 6), .call (.cst (.fn (.func 19) [] [])) [(Xt 5), (.cst (.fn (.func 25) [] []))], none, [5]⟩, Xe 2 7 6 0 [], Xe 3 8 6 1 [], Xe 4 9 6 2 [6], Xs 5 6 2 7 [7], Xa 6 3 8 [8], Xa 7 4 9 [9]]
 | _ => []
def c16c : AC := (.seq (.regT c16t 0) (.seq (.regT c16t 1) .ret))
def c16a : Ann := Xan c16t
theorem c16ok : Ko 10 c16a Tryz.f16 = some (inst c16c) := by kernel_rfl
theorem c16call : Kc 16 = true := by kernel_rfl
theorem c16res : Kr Tryz.f16 = some [.cell 2 true 6, .tmp 3, .tmp 4] := by kernel_rfl
def c18t : Nat → List AI
 | 0 => [Xo 0 1 (.box 25 (Xt 0)) [0], Xo 1 2 (.asg Xq) []]
 | 1 => [Xf 0 4 0 1 [], Xl 1 5 1 4 [], Xj 2 6 .eql 5 7 [], Xm 3 7 6 [], Xu 4 8 (.faddr 1 (Xt 1)) 7 [], Xu 5 9 (.load false 1 (Xt 8)) 7 [], Xu 7 11 (.faddr 5 (Xt 1)) 7 [], Xu 8 12 (.load false 1 (Xt 11)) 7 [], Xu 9 13 (.len false (Xt 12)) 7 [], Xu 10 14 (.ibin .sub (Xt 13) (Xi 1)) 7 [], ⟨6, (some 10), .call (.cst (.fn (.func 13) [] [])) [(Xt 9)], (some (7, true)), [7, 8, 9, 10]⟩, Xu 11 15 (.icmp .neq (Xt 10) (Xt 14)) 7 [], Xo 12 16 (.pick (Xt 7) (Xt 15) Xq) [], Xm 13 17 16 [], Xv 14 18 (.faddr 0 (Xt 1)) 17 [], Xv 15 19 (.load false 1 (Xt 18)) 17 [], Xv 16 20 (.icmp .eql (Xt 19) (Xi 9)) 17 [], Xv 17 21 (.move (Xt 20)) 17 [], Xu 18 22 (.faddr 1 (Xt 1)) 21 [], Xu 19 23 (.load false 1 (Xt 22)) 21 [], Xu 21 25 (.faddr 5 (Xt 1)) 21 [], Xu 22 26 (.load false 1 (Xt 25)) 21 [], Xu 23 27 (.len false (Xt 26)) 21 [], ⟨20, (some 24), .call (.cst (.fn (.func 13) [] [])) [(Xt 23)], (some (21, true)), [21, 22, 23]⟩, Xu 24 28 (.icmp .neq (Xt 24) (Xt 27)) 21 [], Xv 25 29 (.pick (Xt 21) (Xt 28) Xq) 17 [], Xo 26 30 (.pick (Xt 17) Xp (Xt 29)) []]
 | 2 => [Xo 0 2 (.asg Xq) [30, 1]]
 | 3 => [Xf 0 31 0 1 [30, 2], Xl 1 32 1 31 [31], Xj 2 33 .eql 32 11 [32], Xm 3 34 33 [33], Xu 4 35 (.faddr 5 (Xt 1)) 34 [], Xu 5 36 (.load false 1 (Xt 35)) 34 [35], Xu 6 37 (.len false (Xt 36)) 34 [36], Xu 7 38 (.icmp .neq (Xt 37) (Xi 1)) 34 [37], Xo 8 39 (.pick (Xt 34) (Xt 38) Xq) [38, 34], Xm 9 40 39 [39], Xv 10 41 (.faddr 0 (Xt 1)) 40 [], Xv 11 42 (.load false 1 (Xt 41)) 40 [41], Xv 12 43 (.icmp .eql (Xt 42) (Xi 6)) 40 [42], Xv 13 44 (.move (Xt 43)) 40 [43], Xu 14 45 (.faddr 5 (Xt 1)) 44 [], Xu 15 46 (.load false 1 (Xt 45)) 44 [45], Xu 16 47 (.len false (Xt 46)) 44 [46], Xu 17 48 (.icmp .neq (Xt 47) (Xi 1)) 44 [47], Xv 18 49 (.pick (Xt 44) (Xt 48) Xq) 40 [48, 44], Xo 19 50 (.pick (Xt 40) Xp (Xt 49)) [49, 40], Xm 20 51 50 [50], Xv 21 52 (.faddr 3 (Xt 1)) 51 [], Xv 22 53 (.load false 1 (Xt 52)) 51 [52], Xv 23 54 (.icmp .lss (Xt 53) (Xi 0)) 51 [53], Xo 24 55 (.pick (Xt 51) Xp (Xt 54)) [54, 51], Xm 25 56 55 [55], Xv 26 57 (.faddr 3 (Xt 1)) 56 [], Xv 27 58 (.load false 1 (Xt 57)) 56 [57], Xv 28 59 (.faddr 4 (Xt 1)) 56 [], Xv 29 60 (.load false 1 (Xt 59)) 56 [59], Xv 30 61 (.len false (Xt 60)) 56 [60], Xv 31 62 (.icmp .gtr (Xt 58) (Xt 61)) 56 [61, 58], Xo 32 63 (.pick (Xt 56) Xp (Xt 62)) [62, 56]]
 | 4 => [Xo 0 2 (.asg Xq) [63, 1]]
 | 5 => [Xo 0 3 (.asg (Xi 0)) [63, 2]]
 | 6 => [Xm 0 64 3 [], Xf 1 65 5 1 [], Xl 2 66 1 65 [65], Xo 3 67 (.len false (Xt 66)) [66], Xh 4 68 .lss 64 67 [67, 64]]
 | 7 => [Xf 0 71 5 1 [68], Xl 1 72 1 71 [71], Xm 2 73 3 [], Xo 3 74 (.iaddr 6 (Xt 72) (Xt 73)) [73, 72], Xg 4 75 6 74 [74], Xc 5 76 18 75 [75], Xo 6 77 (.not (Xt 76)) [76]]
 | 8 => [Xo 0 2 (.asg Xq) [77, 3, 1]]
 | 9 => [Xm 0 69 3 [3, 77, 2], Xb 1 70 .add 69 1 [69], Xa 2 3 70 [70]]
 | 11 => [Xo 0 2 (.asg Xp) [3, 1]]
 | _ => []
def c18l10 : AC := (.seq (.seq (.regT c18t 6) (.cond (.tmp 68) .skip (.exit 0))) (.seq (.block 1 (.seq (.regT c18t 7) (.cond (.tmp 77) (.seq (.regT c18t 8) .ret) .skip))) (.regT c18t 9)))
def c18c : AC := (.seq (.regT c18t 0) (.seq (.seq (.regD [c18t 1]) (.cond (.tmp 30) (.seq (.regT c18t 2) .ret) .skip)) (.seq (.seq (.regT c18t 3) (.cond (.tmp 63) (.seq (.regT c18t 4) .ret) .skip)) (.seq (.seq (.regT c18t 5) (.block 0 (.loop c18l10))) (.seq (.regT c18t 11) .ret)))))
def c18a : Ann := fun id => match id with
 | 8 => Xan c18t 7
 | 9 => Xan c18t 8
 | 7 => Xan c18t 9
 | 10 => Xan c18t 11
 | n => Xan c18t n
theorem c18ok : Ko 78 c18a Tryz.f18 = some (inst c18c) := by kernel_rfl
theorem c18call : Kc 18 = true := by kernel_rfl
theorem c18res : Kr Tryz.f18 = some [.tmp 2] := by kernel_rfl
def c19t : Nat → List AI
 | 0 => [Xo 0 4 (.alloc Xz 25) [], Xo 1 5 (.alloc [(.int .i64 0)] 3) [], Xo 2 6 (.alloc [(.int .i64 0)] 26) []]
 | 1 => [Xm 0 10 0 [0], Xc 1 11 26 10 [10], Xm 2 9 11 [11], Xe 3 12 9 0 [], Xe 4 13 9 1 [], Xe 5 14 9 2 [9], Xa 6 7 12 [12], Xs 7 1 5 13 [13], Xs 8 1 6 14 [14]]
 | 2 => [Xl 0 15 1 6 [], Xj 1 16 .neq 15 0 [15]]
 | 3 => [Xo 0 17 (.build Xz []) [], Xl 1 18 1 5 [], Xl 2 19 1 6 [], Xs 3 6 4 17 [1, 2], Xs 4 1 5 18 [2], Xs 5 1 6 19 []]
 | 4 => [Xo 0 20 (.mkfn (.func 27) [] [(Xt 4), (Xt 5), (Xt 6)]) [16], ⟨1, none, .defer (Xt 20) [], none, [20]⟩]
 | 5 => [Xm 0 21 7 [7], Xo 1 22 (.build [Xw, (.int .i64 0)] [(0, 1, (Xt 21))]) [21], Xo 2 23 (.box 55 (Xt 22)) [22], Xa 3 8 23 [23]]
 | 6 => [Xo 0 24 (.build Xz [(0, 1, (Xi 12))]) [], Xs 1 6 4 24 [24]]
 | 7 => [Xm 0 25 1 [1], Xm 1 26 8 [], ⟨2, (some 27), .call (Xt 25) [(Xt 26), (Xt 4)], none, [26, 25]⟩]
 | 8 => [Xm 0 28 8 [27, 8], ⟨1, (some 29), .call (.cst (.fn (.func 28) [] [])) [(Xt 28), (Xt 4), (Xi 0)], none, [28]⟩]
 | 9 => [Xg 0 30 6 4 [29], Xs 1 6 4 30 [30], ⟨2, none, .o (.store 1 (Xt 5) (Xi 0)), none, []⟩, ⟨3, none, .o (.store 1 (Xt 6) (Xi 0)), none, []⟩]
 | _ => []
def c19c : AC := (.seq (.regT c19t 0) (.seq (.regT c19t 1) (.seq (.seq (.regT c19t 2) (.cond (.tmp 16) (.seq (.regD [c19t 3]) .ret) .skip)) (.seq (.regT c19t 4) (.seq (.regT c19t 5) (.seq (.regT c19t 6) (.seq (.regT c19t 7) (.seq (.regT c19t 8) (.seq (.regT c19t 9) .ret)))))))))
def c19a : Ann := Xan c19t
theorem c19ok : Ko 31 c19a Tryz.f19 = some (inst c19c) := by kernel_rfl
theorem c19call : Kc 19 = true := by kernel_rfl
theorem c19res : Kr Tryz.f19 = some [.cell 4 true 6, .cell 5 false 1, .cell 6 false 1] := by kernel_rfl
def c20t : Nat → List AI
 | _ => []
def c20c : AC := .skip
def c20a : Ann := Xan c20t
theorem c20ok : Ko 4 c20a Tryz.f20 = some (inst c20c) := by kernel_rfl
theorem c20call : Kc 20 = true := by kernel_rfl
theorem c20res : Kr Tryz.f20 = some [] := by kernel_rfl
def c22t : Nat → List AI
 | 0 => [Xo 0 1 (.box 25 (Xt 0)) [0], Xo 1 2 (.asg (.cst (.str ⟨#[]⟩))) []]
 | 1 => [Xo 0 3 (.alloc [.nilP, Xw] 71) [2]]
 | 2 => [Xg 0 4 6 1 [1], Xd 1 5 33 3 4 [4]]
 | 3 => [Xf 0 6 0 3 [5, 3], Xc 1 7 34 6 [6], Xa 2 2 7 [7]]
 | _ => []
def c22c : AC := (.seq (.regT c22t 0) (.seq (.regT c22t 1) (.seq (.regT c22t 2) (.seq (.regT c22t 3) .ret))))
def c22a : Ann := Xan c22t
theorem c22ok : Ko 8 c22a Tryz.f22 = some (inst c22c) := by kernel_rfl
theorem c22call : Kc 22 = true := by kernel_rfl
theorem c22res : Kr Tryz.f22 = some [.tmp 2] := by kernel_rfl
def c23t : Nat → List AI
 | 0 => [Xo 0 2 (.asg Xq) []]
 | 1 => [Xm 0 4 0 [2], Xo 1 5 (.build [(.str ⟨#[]⟩), (.int .i64 0)] [(0, 1, (Xt 4))]) [4], Xo 2 6 (.box 76 (Xt 5)) [5], Xa 3 3 6 [6]]
 | 2 => [Xm 0 7 3 [], Xc 1 8 35 7 [7], Xm 2 9 8 [8], Xu 3 10 (.move (Xt 3)) 9 [3], Xu 4 11 (.nilc (Xt 10)) 9 [10], Xu 5 12 (.faddr 1 (Xt 11)) 9 [11], Xu 6 13 (.load false 1 (Xt 12)) 9 [12], Xu 7 14 (.move (Xt 0)) 9 [0], Xu 8 15 (.len true (Xt 14)) 9 [14], Xu 9 16 (.icmp .eql (Xt 13) (Xt 15)) 9 [15, 13], Xo 10 17 (.pick (Xt 9) (Xt 16) Xq) [16, 9], Xa 11 2 17 [17]]
 | _ => []
def c23c : AC := (.seq (.regT c23t 0) (.seq (.regT c23t 1) (.seq (.regT c23t 2) .ret)))
def c23a : Ann := Xan c23t
theorem c23ok : Ko 18 c23a Tryz.f23 = some (inst c23c) := by kernel_rfl
theorem c23call : Kc 23 = true := by kernel_rfl
theorem c23res : Kr Tryz.f23 = some [.tmp 2] := by kernel_rfl
def c25t : Nat → List AI
 | 0 => [Xo 0 2 (.box 43 (Xt 0)) [0], Xo 1 3 (.box 44 (Xt 1)) [1]]
 | 1 => [Xo 0 6 (.mkfn (.func 37) [] [(Xt 3), (Xt 2)]) [], Xa 1 4 6 [6]]
 | 2 => [Xl 0 7 1 2 [], Xc 1 8 39 7 [7], Xo 2 5 (.alloc Xx 79) [], Xs 3 3 5 8 [8]]
 | 3 => [Xf 0 9 0 5 [], Xl 1 10 1 9 [9]]
 | 4 => [Xj 0 16 .eql 10 1 [], Xa 1 15 16 [16]]
 | 5 => [Xl 0 17 1 3 [15, 10, 4, 2], Xf 1 18 1 5 [5], Xl 2 19 1 18 [18], Xn 3 20 17 [17], Xf 4 21 1 20 [20], Xs 5 1 21 19 [21, 19]]
 | 6 => [Xj 0 23 .eql 10 3 [15], Xa 1 22 23 [23]]
 | 7 => [Xl 0 24 1 3 [22, 10, 2], Xf 1 25 1 5 [5], Xl 2 26 1 25 [25], Xn 3 27 24 [24], Xf 4 28 1 27 [27], Xs 5 1 28 26 [28, 26]]
 | 8 => [Xm 0 29 4 [4], ⟨1, (some 30), .call (Xt 29) [], none, [29]⟩]
 | 9 => [Xj 0 32 .eql 10 2 [22, 10], Xa 1 31 32 [32]]
 | 10 => [Xl 0 33 1 3 [31], Xf 1 34 1 5 [5], Xl 2 35 1 34 [34], Xn 3 36 33 [33], Xf 4 37 1 36 [36], Xs 5 1 37 35 [37, 35]]
 | 11 => [Xm 0 38 4 [], ⟨1, (some 39), .call (Xt 38) [], none, [38]⟩]
 | 12 => [Xl 0 40 1 2 [54, 39], Xc 1 41 40 40 [40], Xj 2 42 .eql 41 2 [41]]
 | 13 => [Xl 0 43 1 3 [], Xn 1 44 43 [], Xf 2 45 1 44 [], Xl 3 46 1 45 [], Xl 4 47 1 2 [], Xc 5 48 39 47 [0, 1, 2, 3], Xo 6 49 (.field false 1 1 (Xt 48)) [], Xo 7 50 (.sbin .add (Xt 46) (Xt 49)) [], Xn 8 51 43 [], Xf 9 52 1 51 [], Xs 10 1 52 50 []]
 | 14 => [Xm 0 53 4 [], ⟨1, (some 54), .call (Xt 53) [], none, [53]⟩]
 | 16 => [Xf 0 11 2 5 [31, 5, 4, 2], Xl 1 12 1 11 [11], Xo 2 13 (.build [(.int .i64 0), (.int .i64 0)] [(0, 1, (Xt 12)), (1, 1, (Xi 20))]) [12], Xo 3 14 (.mkif 53 (Xt 13)) [13], ⟨4, none, .panic (Xt 14), none, [14]⟩]
 | 17 => [Xl 0 55 1 3 [], Xl 1 56 1 3 [], Xn 2 57 56 [], Xf 3 58 4 57 [], Xl 4 59 1 58 [], Xo 5 60 (.len false (Xt 59)) [], Xn 6 61 55 [], Xf 7 62 3 61 [], Xs 8 1 62 60 []]
 | _ => []
def c25l15 : AC := (.seq (.seq (.regT c25t 12) (.cond (.tmp 42) .skip (.exit 1))) (.block 2 (.seq (.regD [c25t 13]) (.regT c25t 14))))
def c25c : AC := (.seq (.regT c25t 0) (.seq (.regT c25t 1) (.seq (.seq (.regT c25t 2) (.seq (.regT c25t 3) (.block 0 (.seq (.regT c25t 4) (.cond (.tmp 15) (.regT c25t 5) (.seq (.regT c25t 6) (.cond (.tmp 22) (.seq (.regT c25t 7) (.regT c25t 8)) (.seq (.regT c25t 9) (.cond (.tmp 31) (.seq (.regT c25t 10) (.seq (.regT c25t 11) (.block 1 (.loop c25l15)))) (.regT c25t 16)))))))))) (.regD [c25t 17]))))
def c25a : Ann := fun id => match id with
 | 5 => Xan c25t 4
 | 6 => Xan c25t 5
 | 7 => Xan c25t 6
 | 8 => Xan c25t 7
 | 9 => Xan c25t 8
 | 10 => Xan c25t 9
 | 11 => Xan c25t 10
 | 12 => Xan c25t 11
 | 13 => Xan c25t 12
 | 14 => Xan c25t 13
 | 15 => Xan c25t 14
 | 4 => Xan c25t 16
 | 16 => Xan c25t 17
 | n => Xan c25t n
theorem c25ok : Ko 63 c25a Tryz.f25 = some (inst c25c) := by kernel_rfl
theorem c25call : Kc 25 = true := by kernel_rfl
theorem c25res : Kr Tryz.f25 = some [] := by kernel_rfl
def c26t : Nat → List AI
 | 0 => [Xo 0 2 (.asg (.cst Xw)) [], Xo 1 3 (.asg (Xi 0)) [2], Xo 2 4 (.asg (Xi 0)) [3]]
 | 1 => [Xm 0 11 0 [2, 3, 4], Xo 1 12 (.len true (Xt 11)) [11], Xj 2 13 .gtr 12 4096 [12]]
 | 2 => [Xo 0 2 (.asg (.cst Xw)) [13, 0], Xo 1 3 (.asg (Xi 0)) [], Xo 2 4 (.asg (Xi 3)) []]
 | 3 => [Xm 0 14 0 [13, 4, 3, 2], Xo 1 15 (.build [(.str ⟨#[]⟩), (.int .i64 0)] [(0, 1, (Xt 14))]) [14], Xo 2 16 (.box 76 (Xt 15)) [15], Xa 3 5 16 [16]]
 | 4 => [Xo 0 6 (.asg (.cst Xw)) []]
 | 5 => [Xo 0 7 (.asg (Xi 0)) []]
 | 6 => [Xm 0 17 5 [7], ⟨1, (some 18), .call (.cst (.fn (.func 41) [] [])) [(Xt 17), (.cst (.fn (.func 42) [] []))], none, [17]⟩]
 | 7 => [Xm 0 19 5 [18], Xn 1 20 19 [19], Xf 2 21 1 20 [20], Xl 3 22 1 21 [21], Xa 4 7 22 [22]]
 | 8 => [Xm 0 24 5 [], Xn 1 25 24 [24], Xf 2 26 1 25 [25], Xl 3 27 1 26 [26], Xm 4 28 0 [], Xo 5 29 (.len true (Xt 28)) [28], Xh 6 30 .eql 27 29 [29, 27], Xa 7 23 30 [30]]
 | 9 => [Xm 0 31 6 [23, 7, 6, 0], Xm 1 32 5 [5], Xn 2 33 32 [32], Xf 3 34 1 33 [33], Xl 4 35 1 34 [34], Xo 5 36 (.build Xx [(2, 1, (Xt 35))]) [35], Xo 6 37 (.bslice 79 true 3 1 Xx [(0, 3, (Xt 36))]) [36], Xo 7 38 (.append 79 3 32 Xx (Xt 31) (Xt 37)) [37, 31], Xa 8 2 38 [38], Xo 9 3 (.asg (Xi 0)) [], Xo 10 4 (.asg (Xi 0)) []]
 | 10 => [Xm 0 40 0 [23], Xm 1 41 5 [], Xn 2 42 41 [41], Xf 3 43 1 42 [42], Xl 4 44 1 43 [43], Xo 5 45 (.index (Xt 40) (Xt 44)) [44, 40], Xo 6 46 (.icmp .eql (Xt 45) (.cst (.int .u8 34))) [45], Xa 7 39 46 [46]]
 | 11 => [Xm 0 47 0 [39], Xm 1 48 5 [], Xn 2 49 48 [48], Xf 3 50 1 49 [49], Xl 4 51 1 50 [50], Xb 5 52 .add 51 1 [51], Xo 6 53 (.sslice (Xt 47) (some (Xt 52)) none) [52, 47], ⟨7, (some 54), .call (.cst (.fn (.func 44) [] [])) [(Xt 53), (.cst (.int .u8 34))], none, [53]⟩, Xa 8 8 54 [54]]
 | 12 => [Xm 0 55 8 [], Xj 1 56 .lss 55 0 [55]]
 | 13 => [Xm 0 57 5 [56, 7], Xn 1 58 57 [], Xf 2 59 1 58 [58], Xl 3 60 1 59 [59], Xm 4 61 8 [8], Xb 5 62 .add 61 2 [61], Xo 6 63 (.ibin .add (Xt 60) (Xt 62)) [62, 60], Xn 7 64 57 [57], Xf 8 65 1 64 [64], Xs 9 1 65 63 [65, 63]]
 | 14 => [Xm 0 67 5 [39, 4, 3, 2], Xc 1 68 45 67 [67], Xm 2 66 68 [68], Xe 3 69 66 0 [], Xe 4 70 66 1 [66], Xo 5 9 (.alloc Xx 79) [], Xs 6 3 9 69 [69], Xa 7 10 70 [70]]
 | 15 => [Xm 0 71 10 [10]]
 | 16 => [Xm 0 72 6 [71, 6, 7], Xg 1 73 3 9 [9], Xo 2 74 (.bslice 79 true 3 1 Xx [(0, 3, (Xt 73))]) [73], Xo 3 75 (.append 79 3 32 Xx (Xt 72) (Xt 74)) [74, 72], Xa 4 6 75 [75]]
 | 17 => [Xm 0 76 7 [7, 9, 71, 6, 0, 5], Xo 1 2 (.asg (.cst Xw)) [], Xa 2 3 76 [76], Xo 3 4 (.asg (Xi 20)) []]
 | _ => []
def c26c : AC := (.seq (.regT c26t 0) (.scope (.seq (.seq (.regT c26t 1) (.cond (.tmp 13) (.seq (.regT c26t 2) .ret) .skip)) (.seq (.regT c26t 3) (.seq (.regT c26t 4) (.seq (.regT c26t 5) (.seq (.label 0) (.seq (.regT c26t 6) (.seq (.regT c26t 7) (.seq (.block 0 (.seq (.regT c26t 8) (.cond (.tmp 23) (.seq (.regT c26t 9) .ret) (.seq (.regT c26t 10) (.cond (.tmp 39) (.seq (.regT c26t 11) (.seq (.seq (.regT c26t 12) (.cond (.tmp 56) (.goto 1) .skip)) (.seq (.regT c26t 13) (.goto 0)))) .skip))))) (.seq (.seq (.regT c26t 14) (.seq (.regT c26t 15) (.cond (.tmp 71) (.seq (.regT c26t 16) (.goto 0)) .skip))) (.seq (.label 1) (.seq (.regT c26t 17) .ret)))))))))))))
def c26a : Ann := Xan c26t
theorem c26ok : Ko 77 c26a Tryz.f26 = some (inst c26c) := by kernel_rfl
theorem c26call : Kc 26 = true := by kernel_rfl
theorem c26res : Kr Tryz.f26 = some [.tmp 2, .tmp 3, .tmp 4] := by kernel_rfl
def c27t : Nat → List AI
 | 0 => [Xo 0 8 (.eqnil 3 false (Xt 6)) []]
 | 1 => [Xa 0 3 6 [8, 0, 1, 2, 6]]
 | 2 => [Xo 0 9 (.tass 53 (.agg [(.int .i64 0), (.int .i64 0)]) (Xt 6)) [8], Xe 1 10 9 1 [], Xe 2 11 9 0 [9]]
 | 3 => [Xo 0 4 (.alloc [(.int .i64 0), (.int .i64 0)] 53) [10, 6], Xs 1 2 4 11 [11]]
 | 4 => [Xo 0 12 (.build Xz []) [], Xf 1 13 0 4 [], Xl 2 14 1 13 [], Xf 3 15 1 4 [], Xl 4 16 1 15 [], Xs 5 6 0 12 [1, 2, 3, 4], Xs 6 1 1 14 [3, 4], Xs 7 1 2 16 []]
 | 5 => [Xa 0 5 6 [11, 10, 0, 1, 2, 6]]
 | 6 => [Xm 0 7 5 [5], ⟨1, none, .panic (Xt 7), none, [7]⟩]
 | _ => []
def c27c : AC := (.block 0 (.seq (.regT c27t 0) (.cond (.tmp 8) (.regT c27t 1) (.seq (.regT c27t 2) (.cond (.tmp 10) (.seq (.regT c27t 3) (.regD [c27t 4])) (.seq (.regT c27t 5) (.regT c27t 6)))))))
def c27a : Ann := fun id => match id with
 | 3 => Xan c27t 0
 | 4 => Xan c27t 1
 | 5 => Xan c27t 2
 | 6 => Xan c27t 3
 | 7 => Xan c27t 4
 | 1 => Xan c27t 5
 | 2 => Xan c27t 6
 | n => Xan c27t n
theorem c27ok : comp Tryz.prog 17 c27a chkD (match Tryz.f27.body with | some (.seq _ r) => r | _ => .skip) = some (inst c27c) := by kernel_rfl
theorem c27call : Kc 27 = true := by kernel_rfl
theorem c27res : Kr Tryz.f27 = some [] := by kernel_rfl
def c28t : Nat → List AI
 | 0 => [Xm 0 8 0 [62, 60], Xc 1 9 40 8 [8], Xj 2 10 .eql 9 12 [9]]
 | 1 => [Xm 0 11 0 [10], Xc 1 12 39 11 [11]]
 | 2 => [Xm 0 13 0 [12], Xc 1 14 40 13 [13], Xj 2 15 .eql 14 1 [14]]
 | 3 => [Xm 0 16 1 [], Xm 1 17 1 [], Xn 2 18 17 [], Xf 3 19 4 18 [], Xl 4 20 1 19 [], Xm 5 21 0 [], Xc 6 22 39 21 [0, 1, 2, 3, 4], Xo 7 23 (.field false 1 1 (Xt 22)) [], Xo 8 24 (.bslice 9 false 1 1 [(.str ⟨#[]⟩)] [(0, 1, (Xt 23))]) [0, 1, 2, 3, 4], Xo 9 25 (.append 9 1 16 [(.str ⟨#[]⟩)] (Xt 20) (Xt 24)) [0], Xn 10 26 16 [], Xf 11 27 4 26 [], Xs 12 1 27 25 []]
 | 5 => [Xm 0 28 0 [], ⟨1, (some 29), .call (.cst (.fn (.func 38) [] [])) [(Xt 28), (Xi 12)], none, [28]⟩]
 | 6 => [Xm 0 30 0 [10, 29], Xc 1 31 40 30 [30], Xm 2 32 2 [], Xh 3 33 .eql 31 32 [32, 31]]
 | 7 => [Xm 0 35 0 [33], Xc 1 36 46 35 [35], Xm 2 34 36 [36], Xe 3 37 34 0 [], Xe 4 38 34 1 [34], Xo 5 6 (.alloc Xz 25) [], Xs 6 6 6 37 [37], Xa 7 7 38 [38]]
 | 8 => [Xm 0 39 1 [], Xn 1 40 39 [], Xf 2 41 5 40 [], Xl 3 42 1 41 [], Xg 4 43 6 6 [], Xo 5 44 (.len false (Xt 42)) [], Xo 6 45 (.bslice 25 true 6 1 Xz [(0, 6, (.cst (.agg Xz)))]) [0, 1, 2, 3, 4, 5], Xo 7 46 (.append 25 6 88 Xz (Xt 42) (Xt 45)) [], Xo 8 47 (.iaddr 6 (Xt 46) (Xt 44)) [], Xn 10 48 39 [], Xf 11 49 5 48 [], Xs 9 6 47 43 [10, 11], Xs 12 1 49 46 [8]]
 | 9 => [Xm 0 39 1 [], Xn 1 40 39 [], Xf 2 41 5 40 [], Xl 3 42 1 41 [], Xg 4 43 6 6 [], Xo 5 44 (.len false (Xt 42)) [], Xo 6 45 (.bslice 25 true 6 1 Xz [(0, 6, (.cst (.agg Xz)))]) [0, 1, 2, 3, 4, 5], Xo 7 46 (.append 25 6 88 Xz (Xt 42) (Xt 45)) [], Xo 8 47 (.iaddr 6 (Xt 46) (Xt 44)) [], Xn 10 48 39 [], Xf 11 49 5 48 [], Xs 12 1 49 46 [8], Xs 9 6 47 43 [10, 11]]
 | 10 => [Xm 0 50 0 [], Xc 1 51 40 50 [50], Xj 2 52 .eql 51 14 [51]]
 | 11 => [Xm 0 53 0 [52], Xc 1 54 39 53 [53]]
 | 12 => [Xm 0 55 7 [54, 7], Xo 1 56 (.not (Xt 55)) [55]]
 | 13 => [Xm 0 57 0 [7, 52, 56, 1], Xc 1 58 40 57 [57], Xm 2 59 2 [2], Xh 3 60 .neq 58 59 [59, 58]]
 | 14 => [Xm 0 61 0 [60, 0], ⟨1, (some 62), .call (.cst (.fn (.func 47) [] [])) [(Xt 61), (Xi 20)], none, [61]⟩]
 | _ => []
def c28l4 : AC := (.seq (.seq (.regT c28t 2) (.cond (.tmp 15) .skip (.exit 0))) (.block 1 (.regD [c28t 3])))
def c28c : AC := (.scope (.seq (.seq (.regT c28t 0) (.cond (.tmp 10) (.seq (.regT c28t 1) (.seq (.block 0 (.loop c28l4)) (.regT c28t 5))) .skip)) (.seq (.label 0) (.seq (.seq (.regT c28t 6) (.cond (.tmp 33) .ret .skip)) (.seq (.regT c28t 7) (.seq (.regD [c28t 8, c28t 9]) (.seq (.seq (.regT c28t 10) (.cond (.tmp 52) (.seq (.regT c28t 11) (.seq (.regT c28t 12) (.cond (.tmp 56) (.goto 0) .skip))) .skip)) (.seq (.regT c28t 13) (.cond (.tmp 60) (.regT c28t 14) .skip)))))))))
def c28a : Ann := fun id => match id with
 | 4 => Xan c28t 5
 | 5 => Xan c28t 6
 | 6 => Xan c28t 7
 | 7 => [[(0, []), (1, []), (2, []), (3, []), (4, []), (5, []), (6, [0, 1, 2, 3, 4, 5]), (7, []), (8, []), (10, []), (11, []), (9, [10, 11]), (12, [8])], [(0, []), (1, []), (2, []), (3, []), (4, []), (5, []), (6, [0, 1, 2, 3, 4, 5]), (7, []), (8, []), (10, []), (11, []), (12, [8]), (9, [10, 11])]]
 | 8 => Xan c28t 10
 | 9 => Xan c28t 11
 | 10 => Xan c28t 12
 | 11 => Xan c28t 13
 | 12 => Xan c28t 14
 | n => Xan c28t n
theorem c28ok : Ko 63 c28a Tryz.f28 = some (inst c28c) := by kernel_rfl
theorem c28call : Kc 28 = true := by kernel_rfl
theorem c28res : Kr Tryz.f28 = some [] := by kernel_rfl
end Go.SL
set_option maxRecDepth 100000
namespace Go.SL
open Go.Proofs
def c33t : Nat → List AI
 | 0 => [Xo 0 3 (.box 25 (Xt 1)) [1]]
 | 1 => [Xf 0 9 0 3 [], Xl 1 10 1 9 [9]]
 | 2 => [Xj 0 18 .eql 10 2 [], Xa 1 17 18 [18]]
 | 3 => [Xm 0 19 0 [], Xn 1 20 19 [], Xf 2 21 0 20 [], Xf 3 22 1 3 [], Xl 4 23 1 22 [], Xc 5 24 55 23 [0, 1, 2], Xd 6 25 54 21 24 []]
 | 4 => [Xj 0 27 .eql 10 3 [17], Xa 1 26 27 [27]]
 | 5 => [Xf 0 28 1 3 [26, 10, 3], Xl 1 29 1 28 [28], Xa 2 4 29 [29]]
 | 6 => [Xm 0 30 4 [], Xc 1 31 56 30 [30], Xo 2 32 (.not (Xt 31)) [31]]
 | 7 => [Xm 0 33 4 [32, 4], Xc 1 34 55 33 [33], Xa 2 4 34 [34]]
 | 8 => [Xm 0 35 0 [32, 0], Xn 1 36 35 [35], Xf 2 37 0 36 [36], Xm 3 38 4 [4], Xo 4 39 (.sbin .add (.cst (.str ⟨#[35]⟩)) (Xt 38)) [38], Xd 5 40 54 37 39 [39, 37]]
 | 9 => [Xj 0 42 .eql 10 4 [26], Xa 1 41 42 [42]]
 | 10 => [Xm 0 43 0 [41, 10], Xn 1 44 43 [43], Xf 2 45 0 44 [44], ⟨3, (some 46), .call (.cst (.fn (.func 54) [] [])) [(Xt 45), (.cst (.str ⟨#[35, 40]⟩))], none, [45]⟩]
 | 11 => [Xm 0 47 0 [46], Xf 1 48 5 3 [3], Xl 2 49 1 48 [48], ⟨3, (some 50), .call (.cst (.fn (.func 57) [] [])) [(Xt 47), (Xt 49), (.cst (.str ⟨#[32]⟩))], none, [49, 47]⟩]
 | 12 => [Xm 0 51 0 [50, 0], Xn 1 52 51 [51], Xf 2 53 0 52 [52], ⟨3, (some 54), .call (.cst (.fn (.func 58) [] [])) [(Xt 53), (.cst (.int .u8 41))], none, [53]⟩]
 | 13 => [Xj 0 56 .eql 10 6 [41], Xa 1 55 56 [56]]
 | 14 => [Xm 0 57 0 [], Xn 1 58 57 [], Xf 2 59 0 58 [], Xf 3 60 1 3 [], Xl 4 61 1 60 [], Xo 5 62 (.sbin .add (Xt 61) (.cst (.str ⟨#[32, 58, 61, 32]⟩))) [], Xd 6 63 54 59 62 []]
 | 15 => [Xm 0 64 0 [63, 0], Xf 1 65 5 3 [3], Xl 2 66 1 65 [65], Xo 3 67 (.iaddr 6 (Xt 66) (Xi 0)) [66], Xg 4 68 6 67 [67], Xd 5 69 33 64 68 [68, 64]]
 | 16 => [Xj 0 71 .eql 10 7 [55], Xa 1 70 71 [71]]
 | 17 => [Xm 0 72 0 [], Xf 1 73 5 3 [], Xl 2 74 1 73 [], Xo 3 75 (.iaddr 6 (Xt 74) (Xi 0)) [], Xg 4 76 6 75 [], Xf 5 77 1 3 [], Xl 6 78 1 77 [], ⟨7, (some 79), .call (.cst (.fn (.func 59) [] [])) [(Xt 72), (Xt 76), (Xt 78)], none, []⟩]
 | 18 => [Xm 0 80 0 [], Xf 1 81 1 3 [], Xl 2 82 1 81 [], Xf 3 83 5 3 [], Xl 4 84 1 83 [], Xo 5 85 (.lslice 6 (Xt 84) (some (Xi 1)) none) [], ⟨6, (some 86), .call (.cst (.fn (.func 60) [] [])) [(Xt 80), (Xt 82), (Xt 85)], none, []⟩]
 | 19 => [Xj 0 88 .eql 10 8 [70], Xa 1 87 88 [88]]
 | 20 => [Xm 0 89 0 [], Xf 1 90 5 3 [], Xl 2 91 1 90 [], Xo 3 92 (.iaddr 6 (Xt 91) (Xi 0)) [], Xg 4 93 6 92 [], Xf 5 94 5 3 [], Xl 6 95 1 94 [], Xo 7 96 (.iaddr 6 (Xt 95) (Xi 1)) [], Xf 8 97 1 96 [], Xl 9 98 1 97 [], ⟨10, (some 99), .call (.cst (.fn (.func 59) [] [])) [(Xt 89), (Xt 93), (Xt 98)], none, []⟩]
 | 21 => [Xf 0 100 5 3 [99, 3], Xl 1 101 1 100 [100], Xo 2 102 (.lslice 6 (Xt 101) (some (Xi 1)) none) [101], Xo 3 103 (.len false (Xt 102)) [], Xo 4 104 (.move (Xi 0)) []]
 | 22 => [Xh 0 105 .lss 104 103 []]
 | 23 => [Xm 0 106 104 [105], Xo 1 107 (.iaddr 6 (Xt 102) (Xt 104)) [], Xg 2 108 6 107 [107], Xo 3 6 (.alloc Xz 25) [], Xa 4 5 106 [106], Xs 5 6 6 108 [108]]
 | 24 => [Xm 0 109 5 [5], Xj 1 110 .gtr 109 0 [109]]
 | 25 => [Xm 0 111 0 [110], Xn 1 112 111 [111], Xf 2 113 0 112 [112], ⟨3, (some 114), .call (.cst (.fn (.func 58) [] [])) [(Xt 113), (.cst (.int .u8 59))], none, [113]⟩]
 | 26 => [Xm 0 115 0 [110, 114], Xf 1 116 1 6 [], Xl 2 117 1 116 [116], Xf 3 118 5 6 [6], Xl 4 119 1 118 [118], ⟨5, (some 120), .call (.cst (.fn (.func 60) [] [])) [(Xt 115), (Xt 117), (Xt 119)], none, [119, 117, 115]⟩]
 | 27 => [Xb 0 121 .add 104 1 [120, 104], Xm 1 104 121 [121]]
 | 29 => [Xj 0 123 .eql 10 10 [87], Xa 1 122 123 [123]]
 | 30 => [Xm 0 124 0 [122, 10], Xn 1 125 124 [124], Xf 2 126 0 125 [125], ⟨3, (some 127), .call (.cst (.fn (.func 58) [] [])) [(Xt 126), (.cst (.int .u8 91))], none, [126]⟩]
 | 31 => [Xf 0 128 4 3 [127], Xl 1 129 1 128 [128], Xf 2 130 3 3 [], Xl 3 131 1 130 [130], Xo 4 132 (.lslice 1 (Xt 129) none (some (Xt 131))) [131, 129], Xo 5 133 (.len false (Xt 132)) [], Xo 6 134 (.move (Xi 0)) []]
 | 32 => [Xh 0 135 .lss 134 133 []]
 | 33 => [Xo 0 136 (.iaddr 1 (Xt 132) (Xt 134)) [135], Xl 1 137 1 136 [136], Xa 2 8 137 [137]]
 | 34 => [Xm 0 138 0 [], Xn 1 139 138 [138], Xf 2 140 0 139 [139], Xm 3 141 8 [8], Xo 4 142 (.sbin .add (.cst (.str ⟨#[58]⟩)) (Xt 141)) [141], Xo 5 143 (.sbin .add (Xt 142) (.cst (.str ⟨#[32]⟩))) [142], Xd 6 144 54 140 143 [143, 140]]
 | 35 => [Xb 0 145 .add 134 1 [144, 134], Xm 1 134 145 [145]]
 | 37 => [Xf 0 146 3 3 [134, 133, 132], Xl 1 147 1 146 [146], Xj 2 148 .gtr 147 0 [147]]
 | 38 => [Xm 0 149 0 [148], Xn 1 150 149 [149], Xf 2 151 0 150 [150], ⟨3, (some 152), .call (.cst (.fn (.func 54) [] [])) [(Xt 151), (.cst (.str ⟨#[124, 32]⟩))], none, [151]⟩]
 | 39 => [Xm 0 153 0 [148, 152], Xg 1 154 6 3 [3], Xd 2 155 61 153 154 [154, 153]]
 | 40 => [Xm 0 156 0 [155, 0], Xn 1 157 156 [156], Xf 2 158 0 157 [157], ⟨3, (some 159), .call (.cst (.fn (.func 58) [] [])) [(Xt 158), (.cst (.int .u8 93))], none, [158]⟩]
 | 41 => [Xj 0 161 .eql 10 11 [122], Xa 1 160 161 [161]]
 | 42 => [Xm 0 162 0 [160, 10], Xn 1 163 162 [162], Xf 2 164 0 163 [163], ⟨3, (some 165), .call (.cst (.fn (.func 58) [] [])) [(Xt 164), (.cst (.int .u8 94))], none, [164]⟩]
 | 43 => [Xm 0 166 0 [165, 0], Xf 1 167 5 3 [3], Xl 2 168 1 167 [167], Xo 3 169 (.iaddr 6 (Xt 168) (Xi 0)) [168], Xg 4 170 6 169 [169], Xd 5 171 33 166 170 [170, 166]]
 | 44 => [Xj 0 173 .eql 10 12 [160, 10], Xa 1 172 173 [173]]
 | 45 => [Xm 0 174 0 [172], Xg 1 175 6 3 [], Xd 2 176 62 174 175 [175, 174]]
 | 46 => [Xm 0 177 0 [176, 0], Xg 1 178 6 3 [3], Xd 2 179 61 177 178 [178, 177]]
 | 47 => [Xm 0 11 0 [], Xn 1 12 11 [], Xf 2 13 0 12 [], Xf 3 14 1 3 [], Xl 4 15 1 14 [], Xd 5 16 54 13 15 []]
 | _ => []
def c33l28 : AC := (.seq (.regT c33t 22) (.seq (.cond (.tmp 105) .skip (.exit 1)) (.seq (.block 2 (.seq (.regT c33t 23) (.seq (.seq (.regT c33t 24) (.cond (.tmp 110) (.regT c33t 25) .skip)) (.regT c33t 26)))) (.regT c33t 27))))
def c33l36 : AC := (.seq (.regT c33t 32) (.seq (.cond (.tmp 135) .skip (.exit 3)) (.seq (.block 4 (.seq (.regT c33t 33) (.regT c33t 34))) (.regT c33t 35))))
def c33c : AC := (.seq (.regT c33t 0) (.seq (.regT c33t 1) (.block 0 (.seq (.regT c33t 2) (.cond (.tmp 17) (.regD [c33t 3]) (.seq (.regT c33t 4) (.cond (.tmp 26) (.seq (.regT c33t 5) (.seq (.seq (.regT c33t 6) (.cond (.tmp 32) (.regT c33t 7) .skip)) (.regT c33t 8))) (.seq (.regT c33t 9) (.cond (.tmp 41) (.seq (.regT c33t 10) (.seq (.regT c33t 11) (.regT c33t 12))) (.seq (.regT c33t 13) (.cond (.tmp 55) (.seq (.regD [c33t 14]) (.regT c33t 15)) (.seq (.regT c33t 16) (.cond (.tmp 70) (.seq (.regD [c33t 17]) (.regD [c33t 18])) (.seq (.regT c33t 19) (.cond (.tmp 87) (.seq (.regD [c33t 20]) (.seq (.regT c33t 21) (.block 1 (.loop c33l28)))) (.seq (.regT c33t 29) (.cond (.tmp 122) (.seq (.regT c33t 30) (.seq (.seq (.regT c33t 31) (.block 3 (.loop c33l36))) (.seq (.seq (.regT c33t 37) (.cond (.tmp 148) (.regT c33t 38) .skip)) (.seq (.regT c33t 39) (.regT c33t 40))))) (.seq (.regT c33t 41) (.cond (.tmp 160) (.seq (.regT c33t 42) (.regT c33t 43)) (.seq (.regT c33t 44) (.cond (.tmp 172) (.seq (.regT c33t 45) (.regT c33t 46)) (.regD [c33t 47]))))))))))))))))))))))
def c33a : Ann := fun id => match id with
 | 3 => Xan c33t 2
 | 4 => Xan c33t 3
 | 5 => Xan c33t 4
 | 6 => Xan c33t 5
 | 7 => Xan c33t 6
 | 8 => Xan c33t 7
 | 9 => Xan c33t 8
 | 10 => Xan c33t 9
 | 11 => Xan c33t 10
 | 12 => Xan c33t 11
 | 13 => Xan c33t 12
 | 14 => Xan c33t 13
 | 15 => Xan c33t 14
 | 16 => Xan c33t 15
 | 17 => Xan c33t 16
 | 18 => Xan c33t 17
 | 19 => Xan c33t 14
 | 20 => Xan c33t 19
 | 21 => Xan c33t 20
 | 22 => Xan c33t 21
 | 23 => Xan c33t 22
 | 24 => Xan c33t 23
 | 25 => Xan c33t 24
 | 26 => Xan c33t 25
 | 27 => Xan c33t 26
 | 28 => Xan c33t 27
 | 36 => Xan c33t 37
 | 37 => Xan c33t 38
 | 38 => Xan c33t 39
 | 39 => Xan c33t 40
 | 40 => Xan c33t 41
 | 41 => Xan c33t 42
 | 42 => Xan c33t 43
 | 43 => Xan c33t 44
 | 44 => Xan c33t 45
 | 45 => Xan c33t 46
 | 2 => Xan c33t 47
 | n => Xan c33t n
theorem c33ok : Ko 180 c33a Tryz.f33 = some (inst c33c) := by kernel_rfl
theorem c33call : Kc 33 = true := by kernel_rfl
theorem c33res : Kr Tryz.f33 = some [] := by kernel_rfl
def c34t : Nat → List AI
 | 0 => [Xo 0 2 (.asg (.cst (.str ⟨#[]⟩))) []]
 | 1 => [Xm 0 3 0 [], Xn 1 4 3 [], Xf 2 5 1 4 [], Xl 3 6 1 5 [], Xo 4 7 (.usd (Xt 6)) [], Xm 5 8 0 [], Xn 6 9 8 [], Xf 7 10 1 9 [], Xl 8 11 1 10 [], Xo 9 12 (.len false (Xt 11)) [], Xo 10 13 (.ustr 5 (Xt 7) (Xt 12)) [], Xa 11 2 13 []]
 | _ => []
def c34c : AC := (.seq (.regT c34t 0) (.seq (.regD [c34t 1]) .ret))
def c34a : Ann := Xan c34t
theorem c34ok : Ko 14 c34a Tryz.f34 = some (inst c34c) := by kernel_rfl
theorem c34call : Kc 34 = true := by kernel_rfl
theorem c34res : Kr Tryz.f34 = some [.tmp 2] := by kernel_rfl
def c35t : Nat → List AI
 | 0 => [Xo 0 2 (.asg Xq) []]
 | 1 => [Xm 0 3 0 [2], ⟨1, (some 4), .call (.cst (.fn (.func 63) [] [])) [(Xt 3), (.cst (.fn (.func 64) [] []))], none, [3]⟩, Xo 2 5 (.not (Xt 4)) [4]]
 | 2 => [Xo 0 2 (.asg Xq) [5, 0]]
 | 3 => [Xm 0 6 0 [0, 5, 2], ⟨1, (some 7), .call (.cst (.fn (.func 41) [] [])) [(Xt 6), (.cst (.fn (.func 65) [] []))], none, [6]⟩]
 | 4 => [Xo 0 2 (.asg Xp) [7]]
 | _ => []
def c35c : AC := (.seq (.regT c35t 0) (.seq (.seq (.regT c35t 1) (.cond (.tmp 5) (.seq (.regT c35t 2) .ret) .skip)) (.seq (.regT c35t 3) (.seq (.regT c35t 4) .ret))))
def c35a : Ann := Xan c35t
theorem c35ok : Ko 8 c35a Tryz.f35 = some (inst c35c) := by kernel_rfl
theorem c35call : Kc 35 = true := by kernel_rfl
theorem c35res : Kr Tryz.f35 = some [.tmp 2] := by kernel_rfl
def c37t : Nat → List AI
 | 0 => [Xl 0 2 1 0 [], Xl 1 3 1 0 [], Xn 2 4 3 [], Xf 3 5 4 4 [], Xl 4 6 1 5 [], Xl 5 7 1 1 [], ⟨6, (some 8), .call (.cst (.fn (.func 38) [] [])) [(Xt 7), (Xi 1)], none, [0, 1, 2, 3, 4]⟩, Xo 7 9 (.field false 1 1 (Xt 8)) [], Xo 8 10 (.bslice 9 false 1 1 [(.str ⟨#[]⟩)] [(0, 1, (Xt 9))]) [0, 1, 2, 3, 4], Xo 9 11 (.append 9 1 16 [(.str ⟨#[]⟩)] (Xt 6) (Xt 10)) [0], Xn 10 12 2 [], Xf 11 13 4 12 [], Xs 12 1 13 11 []]
 | _ => []
def c37c : AC := (.regD [c37t 0])
def c37a : Ann := Xan c37t
theorem c37ok : Ko 14 c37a Tryz.f37 = some (inst c37c) := by kernel_rfl
theorem c37call : Kc 37 = true := by kernel_rfl
theorem c37res : Kr Tryz.f37 = some [] := by kernel_rfl
def c38t : Nat → List AI
 | 0 => [Xo 0 4 (.alloc Xx 79) []]
 | 1 => [Xm 0 5 0 [], Xc 1 6 40 5 [5], Xm 2 7 1 [1], Xh 3 8 .neq 6 7 [7, 6]]
 | 2 => [Xm 0 9 0 [8], ⟨1, (some 10), .call (.cst (.fn (.func 47) [] [])) [(Xt 9), (Xi 20)], none, [9]⟩]
 | 3 => [Xm 0 11 0 [8, 10, 0], Xc 1 12 39 11 [11], Xs 2 3 4 12 [12]]
 | _ => []
def c38c : AC := (.seq (.regT c38t 0) (.seq (.seq (.regT c38t 1) (.cond (.tmp 8) (.regT c38t 2) .skip)) (.seq (.regT c38t 3) .ret)))
def c38a : Ann := Xan c38t
theorem c38ok : Ko 13 c38a Tryz.f38 = some (inst c38c) := by kernel_rfl
theorem c38call : Kc 38 = true := by kernel_rfl
theorem c38res : Kr Tryz.f38 = some [.cell 4 true 3] := by kernel_rfl
def c39t : Nat → List AI
 | 0 => [Xo 0 2 (.alloc Xx 79) []]
 | 1 => [Xm 0 4 0 [], Xn 1 5 4 [4], Xf 2 6 0 5 [5], Xl 3 7 1 6 [6], Xo 4 8 (.iaddr 3 (Xt 7) (Xi 0)) [7], Xg 5 9 3 8 [8], Xo 6 3 (.alloc Xx 79) [], Xs 7 3 3 9 [9]]
 | 2 => [Xf 0 10 0 3 [], Xl 1 11 1 10 [10], Xj 2 12 .neq 11 0 [11]]
 | 3 => [Xm 0 13 0 [12], Xm 1 14 0 [0], Xn 2 15 14 [14], Xf 3 16 0 15 [15], Xl 4 17 1 16 [16], Xo 5 18 (.lslice 3 (Xt 17) (some (Xi 1)) none) [17], Xn 6 19 13 [13], Xf 7 20 0 19 [19], Xs 8 1 20 18 [20, 18]]
 | 4 => [Xg 0 21 3 3 [0, 12, 3], Xs 1 3 2 21 [21]]
 | _ => []
def c39c : AC := (.seq (.regT c39t 0) (.seq (.regT c39t 1) (.seq (.seq (.regT c39t 2) (.cond (.tmp 12) (.regT c39t 3) .skip)) (.seq (.regT c39t 4) .ret))))
def c39a : Ann := Xan c39t
theorem c39ok : Ko 22 c39a Tryz.f39 = some (inst c39c) := by kernel_rfl
theorem c39call : Kc 39 = true := by kernel_rfl
theorem c39res : Kr Tryz.f39 = some [.cell 2 true 3] := by kernel_rfl
def c40t : Nat → List AI
 | 0 => [Xo 0 2 (.asg (Xi 0)) []]
 | 1 => [Xm 0 3 0 [2, 0], Xn 1 4 3 [3], Xf 2 5 0 4 [4], Xl 3 6 1 5 [5], Xo 4 7 (.iaddr 3 (Xt 6) (Xi 0)) [6], Xf 5 8 0 7 [7], Xl 6 9 1 8 [8], Xa 7 2 9 [9]]
 | _ => []
def c40c : AC := (.seq (.regT c40t 0) (.seq (.regT c40t 1) .ret))
def c40a : Ann := Xan c40t
theorem c40ok : Ko 10 c40a Tryz.f40 = some (inst c40c) := by kernel_rfl
theorem c40call : Kc 40 = true := by kernel_rfl
theorem c40res : Kr Tryz.f40 = some [.tmp 2] := by kernel_rfl
def c41t : Nat → List AI
 | 0 => [Xm 0 4 0 [], Xm 1 5 1 [], Xd 2 6 63 4 5 [5, 4]]
 | 1 => [Xm 0 7 0 [6], Xn 1 8 7 [], Xf 2 9 1 8 [8], Xl 3 10 1 9 [9], Xb 4 11 .add 10 1 [10], Xn 5 12 7 [7], Xf 6 13 1 12 [12], Xs 7 1 13 11 [13, 11]]
 | _ => []
def c41l2 : AC := (.seq (.seq (.regT c41t 0) (.cond (.tmp 6) .skip (.exit 0))) (.block 1 (.regT c41t 1)))
def c41c : AC := (.block 0 (.loop c41l2))
def c41a : Ann := Xan c41t
theorem c41ok : Ko 14 c41a Tryz.f41 = some (inst c41c) := by kernel_rfl
theorem c41call : Kc 41 = true := by kernel_rfl
theorem c41res : Kr Tryz.f41 = some [] := by kernel_rfl
def c42t : Nat → List AI
 | 0 => [Xo 0 2 (.asg Xq) []]
 | 1 => [Xm 0 3 0 [2, 0], ⟨1, (some 4), .call (.cst (.fn (.func 43) [] [])) [(Xt 3), (.cst (.str ⟨#[32, 9, 10, 13]⟩))], none, [3]⟩, Xj 2 5 .geq 4 0 [4], Xa 3 2 5 [5]]
 | _ => []
def c42c : AC := (.seq (.regT c42t 0) (.seq (.regT c42t 1) .ret))
def c42a : Ann := Xan c42t
theorem c42ok : Ko 6 c42a Tryz.f42 = some (inst c42c) := by kernel_rfl
theorem c42call : Kc 42 = true := by kernel_rfl
theorem c42res : Kr Tryz.f42 = some [.tmp 2] := by kernel_rfl
def c43t : Nat → List AI
 | 0 => [Xo 0 4 (.asg (Xi 0)) []]
 | 1 => [Xm 0 7 1 [4, 1], Xo 1 8 (.range (Xt 7)) [7]]
 | 2 => [Xo 0 9 (.next (Xt 8)) [4, 16, 5], Xe 1 10 9 0 []]
 | 3 => [Xe 0 11 9 1 [10], Xe 1 12 9 2 [9], Xa 2 5 11 [11], Xa 3 6 12 [12]]
 | 4 => [Xm 0 13 6 [6], Xo 1 14 (.conv .u8 (Xt 13)) [13], Xm 2 15 0 [], Xh 3 16 .eql 14 15 [15, 14]]
 | 5 => [Xm 0 17 5 [16, 5, 8, 0], Xa 1 4 17 [17]]
 | 7 => [Xo 0 4 (.asg (.cst (.int .i64 (-1)))) [0, 8, 5, 16]]
 | _ => []
def c43l6 : AC := (.seq (.regT c43t 2) (.seq (.cond (.tmp 10) .skip (.exit 0)) (.block 1 (.seq (.regT c43t 3) (.seq (.regT c43t 4) (.cond (.tmp 16) (.seq (.regT c43t 5) .ret) .skip))))))
def c43c : AC := (.seq (.regT c43t 0) (.seq (.seq (.regT c43t 1) (.block 0 (.loop c43l6))) (.seq (.regT c43t 7) .ret)))
def c43a : Ann := fun id => match id with
 | 6 => Xan c43t 7
 | n => Xan c43t n
theorem c43ok : Ko 18 c43a Tryz.f43 = some (inst c43c) := by kernel_rfl
theorem c43call : Kc 43 = true := by kernel_rfl
theorem c43res : Kr Tryz.f43 = some [.tmp 4] := by kernel_rfl
def c44t : Nat → List AI
 | 0 => [Xo 0 4 (.asg (Xi 0)) []]
 | 1 => [Xm 0 5 0 [4, 0], Xm 1 6 1 [1], Xd 2 7 69 5 6 [6, 5], Xa 3 4 7 [7]]
 | _ => []
def c44c : AC := (.seq (.regT c44t 0) (.seq (.regT c44t 1) .ret))
def c44a : Ann := Xan c44t
theorem c44ok : Ko 8 c44a Tryz.f44 = some (inst c44c) := by kernel_rfl
theorem c44call : Kc 44 = true := by kernel_rfl
theorem c44res : Kr Tryz.f44 = some [.tmp 4] := by kernel_rfl
def c45t : Nat → List AI
 | 0 => [Xo 0 2 (.alloc Xx 79) [], Xo 1 3 (.asg Xq) []]
 | 1 => [Xm 0 9 0 [3], Xn 1 10 9 [9], Xf 2 11 1 10 [10], Xl 3 12 1 11 [11], Xo 4 13 (.build Xx [(2, 1, (Xt 12))]) [12], Xo 5 4 (.alloc Xx 79) [], Xs 6 3 4 13 [13]]
 | 2 => [Xo 0 5 (.asg Xp) []]
 | 3 => [Xm 0 14 0 [], Xn 1 15 14 [], Xf 2 16 0 15 [], Xl 3 17 1 16 [], Xm 4 18 0 [], Xn 5 19 18 [], Xf 6 20 1 19 [], Xl 7 21 1 20 [], Xo 8 22 (.index (Xt 17) (Xt 21)) [], Xa 9 6 22 []]
 | 4 => [Xm 0 38 6 [], Xc 1 39 64 38 [38], Xa 2 37 39 [39]]
 | 5 => [Xm 0 40 0 [37, 6], Xc 1 41 35 40 [40]]
 | 6 => [Xf 0 42 0 4 [41], ⟨1, none, .o (.store 1 (Xt 42) (Xi 1)), none, [42]⟩]
 | 7 => [Xm 0 43 0 [], Xc 1 44 70 43 [43]]
 | 8 => [Xf 0 45 0 4 [44], ⟨1, none, .o (.store 1 (Xt 45) (Xi 2)), none, [45]⟩]
 | 9 => [Xm 0 46 0 [], Xn 1 47 46 [], Xf 2 48 1 47 [47], Xl 3 49 1 48 [48], Xb 4 50 .add 49 1 [49], Xn 5 51 46 [46], Xf 6 52 1 51 [51], Xs 7 1 52 50 [52, 50]]
 | 10 => [Xm 0 54 6 [37], Xc 1 55 66 54 [54], Xa 2 53 55 [55]]
 | 11 => [Xf 0 56 0 4 [53, 6, 5], ⟨1, none, .o (.store 1 (Xt 56) (Xi 4)), none, [56]⟩]
 | 12 => [Xm 0 57 0 [], ⟨1, (some 58), .call (.cst (.fn (.func 41) [] [])) [(Xt 57), (.cst (.fn (.func 66) [] []))], none, [57]⟩]
 | 13 => [Xm 0 60 0 [], Xn 1 61 60 [], Xf 2 62 0 61 [], Xl 3 63 1 62 [], Xf 4 64 2 4 [], Xl 5 65 1 64 [], Xm 6 66 0 [], Xn 7 67 66 [], Xf 8 68 1 67 [], Xl 9 69 1 68 [], Xo 10 70 (.sslice (Xt 63) (some (Xt 65)) (some (Xt 69))) [], Xc 11 71 71 70 [], Xm 12 59 71 [], Xe 13 72 59 0 [], Xe 14 73 59 1 [], Xo 15 7 (.alloc [(.bool false), Xw] 111) [0, 1, 2, 3, 4, 5, 6, 7, 8, 9, 10, 12, 13, 14], Xs 16 2 7 72 [14], Xa 17 8 73 []]
 | 14 => [Xm 0 60 0 [], Xn 1 61 60 [], Xf 2 62 0 61 [], Xl 3 63 1 62 [], Xf 4 64 2 4 [], Xl 5 65 1 64 [], Xm 6 66 0 [], Xn 7 67 66 [], Xf 8 68 1 67 [], Xl 9 69 1 68 [], Xo 10 70 (.sslice (Xt 63) (some (Xt 65)) (some (Xt 69))) [], Xo 15 7 (.alloc [(.bool false), Xw] 111) [0, 1, 2, 3, 4, 5, 6, 7, 8, 9, 10], Xc 11 71 71 70 [], Xm 12 59 71 [], Xe 13 72 59 0 [], Xe 14 73 59 1 [], Xs 16 2 7 72 [14], Xa 17 8 73 []]
 | 15 => [Xm 0 74 8 [8], Xj 1 75 .eql 74 0 [74], Xa 2 5 75 [75]]
 | 16 => [Xm 0 77 6 [53], Xo 1 78 (.icmp .eql (Xt 77) (.cst (.int .u8 39))) [77], Xa 2 76 78 [78]]
 | 17 => [Xf 0 79 0 4 [76, 6, 5], ⟨1, none, .o (.store 1 (Xt 79) (Xi 5)), none, [79]⟩]
 | 18 => [Xm 0 81 0 [0], Xc 1 82 72 81 [81], Xm 2 80 82 [82], Xe 3 83 80 0 [], Xe 4 84 80 1 [80], Xf 5 85 1 4 [], Xs 6 1 85 83 [85, 83], Xa 7 5 84 [84]]
 | 19 => [Xg 0 86 3 4 [4], Xm 1 87 5 [5], Xs 2 3 2 86 [86], Xa 3 3 87 [87]]
 | 20 => [Xm 0 89 6 [76], Xo 1 90 (.icmp .eql (Xt 89) (.cst (.int .u8 35))) [89], Xm 2 91 90 [90], Xu 3 92 (.move (Xt 0)) 91 [], ⟨4, (some 93), .call (.cst (.fn (.func 73) [] [])) [(Xt 92), (Xi 1)], (some (91, true)), [92]⟩, Xu 5 94 (.icmp .eql (Xt 93) (.cst (.int .u8 40))) 91 [93], Xo 6 95 (.pick (Xt 91) (Xt 94) Xq) [94, 91], Xa 7 88 95 [95]]
 | 21 => [Xf 0 96 0 4 [88, 6], ⟨1, none, .o (.store 1 (Xt 96) (Xi 17)), none, [96]⟩]
 | 22 => [Xm 0 97 0 [], Xn 1 98 97 [], Xf 2 99 1 98 [98], Xl 3 100 1 99 [99], Xb 4 101 .add 100 2 [100], Xn 5 102 97 [97], Xf 6 103 1 102 [102], Xs 7 1 103 101 [103, 101]]
 | 23 => [Xm 0 105 6 [88], Xo 1 106 (.icmp .eql (Xt 105) (.cst (.int .u8 35))) [105], Xa 2 104 106 [106]]
 | 24 => [Xf 0 107 0 4 [104, 6, 5], ⟨1, none, .o (.store 1 (Xt 107) (Xi 6)), none, [107]⟩]
 | 25 => [Xm 0 108 0 [], Xn 1 109 108 [], Xf 2 110 1 109 [109], Xl 3 111 1 110 [110], Xb 4 112 .add 111 1 [111], Xn 5 113 108 [108], Xf 6 114 1 113 [113], Xs 7 1 114 112 [114, 112]]
 | 26 => [Xm 0 116 0 [0], Xc 1 117 74 116 [116], Xm 2 115 117 [117], Xe 3 118 115 0 [], Xe 4 119 115 1 [115], Xf 5 120 1 4 [], Xs 6 1 120 118 [120, 118], Xa 7 5 119 [119]]
 | 27 => [Xg 0 121 3 4 [4], Xm 1 122 5 [5], Xs 2 3 2 121 [121], Xa 3 3 122 [122]]
 | 28 => [Xm 0 124 6 [104], Xo 1 125 (.icmp .eql (Xt 124) (.cst (.int .u8 58))) [124], Xm 2 126 125 [125], Xu 3 127 (.move (Xt 0)) 126 [], ⟨4, (some 128), .call (.cst (.fn (.func 73) [] [])) [(Xt 127), (Xi 1)], (some (126, true)), [127]⟩, Xu 5 129 (.icmp .eql (Xt 128) (.cst (.int .u8 61))) 126 [128], Xo 6 130 (.pick (Xt 126) (Xt 129) Xq) [129, 126], Xa 7 123 130 [130]]
 | 29 => [Xf 0 131 0 4 [123, 6], ⟨1, none, .o (.store 1 (Xt 131) (Xi 7)), none, [131]⟩]
 | 30 => [Xm 0 132 0 [], Xn 1 133 132 [], Xf 2 134 1 133 [133], Xl 3 135 1 134 [134], Xb 4 136 .add 135 2 [135], Xn 5 137 132 [132], Xf 6 138 1 137 [137], Xs 7 1 138 136 [138, 136]]
 | 31 => [Xm 0 140 6 [123], Xo 1 141 (.icmp .eql (Xt 140) (.cst (.int .u8 58))) [140], Xa 2 139 141 [141]]
 | 32 => [Xf 0 142 0 4 [139, 6], ⟨1, none, .o (.store 1 (Xt 142) (Xi 16)), none, [142]⟩]
 | 33 => [Xm 0 143 0 [], Xn 1 144 143 [], Xf 2 145 1 144 [144], Xl 3 146 1 145 [145], Xb 4 147 .add 146 1 [146], Xn 5 148 143 [143], Xf 6 149 1 148 [148], Xs 7 1 149 147 [149, 147]]
 | 34 => [Xm 0 151 0 [139], Xc 1 152 75 151 [151], Xa 2 150 152 [152]]
 | 35 => [Xf 0 153 0 4 [150, 6], ⟨1, none, .o (.store 1 (Xt 153) (Xi 3)), none, [153]⟩]
 | 36 => [Xm 0 23 6 [150, 6, 5], ⟨1, (some 24), .call (.cst (.fn (.func 43) [] [])) [(Xt 23), (.cst (.str ⟨#[40, 41, 91, 93, 124, 94, 46, 59]⟩))], none, [23]⟩, Xo 2 25 (.ibin .add (Xi 8) (Xt 24)) [24], Xf 3 26 0 4 [], Xs 4 1 26 25 [26, 25]]
 | 37 => [Xf 0 27 0 4 [], Xl 1 28 1 27 [27], Xj 2 29 .geq 28 8 [28], Xa 3 5 29 [29]]
 | 38 => [Xm 0 30 0 [], Xn 1 31 30 [], Xf 2 32 1 31 [31], Xl 3 33 1 32 [32], Xb 4 34 .add 33 1 [33], Xn 5 35 30 [30], Xf 6 36 1 35 [35], Xs 7 1 36 34 [36, 34]]
 | 39 => [Xm 0 154 0 [], Xn 1 155 154 [], Xf 2 156 0 155 [], Xl 3 157 1 156 [], Xf 4 158 2 4 [], Xl 5 159 1 158 [], Xm 6 160 0 [], Xn 7 161 160 [], Xf 8 162 1 161 [], Xl 9 163 1 162 [], Xo 10 164 (.sslice (Xt 157) (some (Xt 159)) (some (Xt 163))) [], Xf 11 165 1 4 [], Xs 12 1 165 164 []]
 | 40 => [Xg 0 166 3 4 [4], Xm 1 167 5 [5], Xs 2 3 2 166 [166], Xa 3 3 167 [167]]
 | _ => []
def c45c : AC := (.seq (.regT c45t 0) (.seq (.regT c45t 1) (.seq (.regT c45t 2) (.seq (.seq (.regD [c45t 3]) (.block 0 (.seq (.regT c45t 4) (.cond (.tmp 37) (.seq (.regT c45t 5) (.seq (.regT c45t 6) (.seq (.regT c45t 7) (.cond (.tmp 44) (.seq (.regT c45t 8) (.regT c45t 9)) .skip)))) (.seq (.regT c45t 10) (.cond (.tmp 53) (.seq (.regT c45t 11) (.seq (.regT c45t 12) (.seq (.regD [c45t 13, c45t 14]) (.regT c45t 15)))) (.seq (.regT c45t 16) (.cond (.tmp 76) (.seq (.regT c45t 17) (.seq (.regT c45t 18) (.seq (.regT c45t 19) .ret))) (.seq (.regT c45t 20) (.cond (.tmp 88) (.seq (.regT c45t 21) (.regT c45t 22)) (.seq (.regT c45t 23) (.cond (.tmp 104) (.seq (.regT c45t 24) (.seq (.regT c45t 25) (.seq (.regT c45t 26) (.seq (.regT c45t 27) .ret)))) (.seq (.regT c45t 28) (.cond (.tmp 123) (.seq (.regT c45t 29) (.regT c45t 30)) (.seq (.regT c45t 31) (.cond (.tmp 139) (.seq (.regT c45t 32) (.regT c45t 33)) (.seq (.regT c45t 34) (.cond (.tmp 150) (.regT c45t 35) (.seq (.regT c45t 36) (.seq (.regT c45t 37) (.regT c45t 38))))))))))))))))))))) (.seq (.regD [c45t 39]) (.seq (.regT c45t 40) .ret))))))
def c45a : Ann := fun id => match id with
 | 7 => Xan c45t 4
 | 8 => Xan c45t 5
 | 9 => Xan c45t 6
 | 10 => Xan c45t 7
 | 11 => Xan c45t 8
 | 12 => Xan c45t 9
 | 13 => Xan c45t 10
 | 14 => Xan c45t 11
 | 15 => Xan c45t 12
 | 16 => [[(0, []), (1, []), (2, []), (3, []), (4, []), (5, []), (6, []), (7, []), (8, []), (9, []), (10, []), (11, []), (12, []), (13, []), (14, []), (15, [0, 1, 2, 3, 4, 5, 6, 7, 8, 9, 10, 12, 13, 14]), (16, [14]), (17, [])], [(0, []), (1, []), (2, []), (3, []), (4, []), (5, []), (6, []), (7, []), (8, []), (9, []), (10, []), (15, [0, 1, 2, 3, 4, 5, 6, 7, 8, 9, 10]), (11, []), (12, []), (13, []), (14, []), (16, [14]), (17, [])]]
 | 17 => Xan c45t 15
 | 18 => Xan c45t 16
 | 19 => Xan c45t 17
 | 20 => Xan c45t 18
 | 21 => Xan c45t 19
 | 22 => Xan c45t 20
 | 23 => Xan c45t 21
 | 24 => Xan c45t 22
 | 25 => Xan c45t 23
 | 26 => Xan c45t 24
 | 27 => Xan c45t 25
 | 28 => Xan c45t 26
 | 29 => Xan c45t 27
 | 30 => Xan c45t 28
 | 31 => Xan c45t 29
 | 32 => Xan c45t 30
 | 33 => Xan c45t 31
 | 34 => Xan c45t 32
 | 35 => Xan c45t 33
 | 36 => Xan c45t 34
 | 37 => Xan c45t 35
 | 4 => Xan c45t 36
 | 5 => Xan c45t 37
 | 6 => Xan c45t 38
 | 38 => Xan c45t 39
 | 39 => Xan c45t 40
 | n => Xan c45t n
theorem c45ok : Ko 168 c45a Tryz.f45 = some (inst c45c) := by kernel_rfl
theorem c45call : Kc 45 = true := by kernel_rfl
theorem c45res : Kr Tryz.f45 = some [.cell 2 true 3, .tmp 3] := by kernel_rfl
def c46t : Nat → List AI
 | 0 => [Xo 0 2 (.alloc Xz 25) [], Xo 1 3 (.asg Xq) []]
 | 1 => [Xm 0 5 0 [3], Xc 1 6 40 5 [5], Xj 2 7 .neq 6 13 [6]]
 | 2 => [Xm 0 8 0 [7, 0], Xc 1 9 76 8 [8], Xs 2 6 2 9 [9], Xo 3 3 (.asg Xq) []]
 | 3 => [Xm 0 10 0 [7, 3], Xc 1 11 39 10 [10], Xo 2 12 (.field false 2 1 (Xt 11)) [11], Xo 3 13 (.build Xz [(0, 1, (Xi 11)), (2, 1, (Xt 12))]) [12], Xo 4 4 (.alloc Xz 25) [], Xs 5 6 4 13 [13]]
 | 4 => [Xm 0 14 0 [0], Xc 1 15 76 14 [14], Xo 2 16 (.bslice 25 true 6 1 Xz [(0, 6, (Xt 15))]) [15], Xf 3 17 5 4 [], Xs 4 1 17 16 [17, 16]]
 | 5 => [Xg 0 18 6 4 [4], Xs 1 6 2 18 [18], Xo 2 3 (.asg Xp) []]
 | _ => []
def c46c : AC := (.seq (.regT c46t 0) (.seq (.seq (.regT c46t 1) (.cond (.tmp 7) (.seq (.regT c46t 2) .ret) .skip)) (.seq (.regT c46t 3) (.seq (.regT c46t 4) (.seq (.regT c46t 5) .ret)))))
def c46a : Ann := Xan c46t
theorem c46ok : Ko 19 c46a Tryz.f46 = some (inst c46c) := by kernel_rfl
theorem c46call : Kc 46 = true := by kernel_rfl
theorem c46res : Kr Tryz.f46 = some [.cell 2 true 6, .tmp 3] := by kernel_rfl
def c47t : Nat → List AI
 | 0 => [Xm 0 4 0 [0], Xn 1 5 4 [4], Xf 2 6 0 5 [5], Xl 3 7 1 6 [6], Xo 4 8 (.iaddr 3 (Xt 7) (Xi 0)) [7], Xf 5 9 2 8 [8], Xl 6 10 1 9 [9], Xm 7 11 1 [1], Xo 8 12 (.build [(.int .i64 0), (.int .i64 0)] [(0, 1, (Xt 10)), (1, 1, (Xt 11))]) [11, 10], Xo 9 13 (.mkif 53 (Xt 12)) [12], ⟨10, none, .panic (Xt 13), none, [13]⟩]
 | _ => []
def c47c : AC := (.regT c47t 0)
def c47a : Ann := Xan c47t
theorem c47ok : Ko 14 c47a Tryz.f47 = some (inst c47c) := by kernel_rfl
theorem c47call : Kc 47 = true := by kernel_rfl
def c54t : Nat → List AI
 | 0 => [Xo 0 4 (.asg (Xi 0)) [], Xo 1 5 (.asg (.cst .nilI)) [4]]
 | 1 => [Xm 0 6 0 [5], Xc 1 7 86 6 [6]]
 | 2 => [Xm 0 8 0 [7], Xm 1 9 0 [0], Xn 2 10 9 [9], Xf 3 11 1 10 [10], Xl 4 12 1 11 [11], Xm 5 13 1 [], Xo 6 14 (.append 5 1 1 [(.int .u8 0)] (Xt 12) (Xt 13)) [13, 12], Xn 7 15 8 [8], Xf 8 16 1 15 [15], Xs 9 1 16 14 [16, 14]]
 | 3 => [Xm 0 17 1 [1], Xo 1 18 (.len true (Xt 17)) [17], Xa 2 4 18 [18], Xo 3 5 (.asg (.cst .nilI)) []]
 | _ => []
def c54c : AC := (.seq (.regT c54t 0) (.seq (.regT c54t 1) (.seq (.regT c54t 2) (.seq (.regT c54t 3) .ret))))
def c54a : Ann := Xan c54t
theorem c54ok : Ko 19 c54a Tryz.f54 = some (inst c54c) := by kernel_rfl
theorem c54call : Kc 54 = true := by kernel_rfl
theorem c54res : Kr Tryz.f54 = some [.tmp 4, .tmp 5] := by kernel_rfl
def c57t : Nat → List AI
 | 0 => [Xm 0 8 1 [1], Xo 1 9 (.len false (Xt 8)) [], Xo 2 10 (.move (Xi 0)) []]
 | 1 => [Xh 0 11 .lss 10 9 []]
 | 2 => [Xm 0 12 10 [11], Xo 1 13 (.iaddr 6 (Xt 8) (Xt 10)) [], Xg 2 14 6 13 [13], Xo 3 7 (.alloc Xz 25) [], Xa 4 6 12 [12], Xs 5 6 7 14 [14]]
 | 3 => [Xm 0 15 6 [6], Xj 1 16 .gtr 15 0 [15]]
 | 4 => [Xm 0 17 0 [16], Xn 1 18 17 [17], Xf 2 19 0 18 [18], Xm 3 20 2 [], Xd 4 21 54 19 20 [20, 19]]
 | 5 => [Xm 0 22 0 [16, 21], Xg 1 23 6 7 [7], Xd 2 24 33 22 23 [23, 22]]
 | 6 => [Xb 0 25 .add 10 1 [24, 10], Xm 1 10 25 [25]]
 | _ => []
def c57l7 : AC := (.seq (.regT c57t 1) (.seq (.cond (.tmp 11) .skip (.exit 0)) (.seq (.block 1 (.seq (.regT c57t 2) (.seq (.seq (.regT c57t 3) (.cond (.tmp 16) (.regT c57t 4) .skip)) (.regT c57t 5)))) (.regT c57t 6))))
def c57c : AC := (.seq (.regT c57t 0) (.block 0 (.loop c57l7)))
def c57a : Ann := Xan c57t
theorem c57ok : Ko 26 c57a Tryz.f57 = some (inst c57c) := by kernel_rfl
theorem c57call : Kc 57 = true := by kernel_rfl
theorem c57res : Kr Tryz.f57 = some [] := by kernel_rfl
def c58t : Nat → List AI
 | 0 => [Xo 0 4 (.asg (.cst .nilI)) []]
 | 1 => [Xm 0 5 0 [4], Xc 1 6 86 5 [5]]
 | 2 => [Xm 0 7 0 [6], Xm 1 8 0 [0], Xn 2 9 8 [8], Xf 3 10 1 9 [9], Xl 4 11 1 10 [10], Xm 5 12 1 [1], Xo 6 13 (.bslice 5 false 1 1 [(.int .u8 0)] [(0, 1, (Xt 12))]) [12], Xo 7 14 (.append 5 1 1 [(.int .u8 0)] (Xt 11) (Xt 13)) [13, 11], Xn 8 15 7 [7], Xf 9 16 1 15 [15], Xs 10 1 16 14 [16, 14]]
 | 3 => [Xo 0 4 (.asg (.cst .nilI)) []]
 | _ => []
def c58c : AC := (.seq (.regT c58t 0) (.seq (.regT c58t 1) (.seq (.regT c58t 2) (.seq (.regT c58t 3) .ret))))
def c58a : Ann := Xan c58t
theorem c58ok : Ko 17 c58a Tryz.f58 = some (inst c58c) := by kernel_rfl
theorem c58call : Kc 58 = true := by kernel_rfl
theorem c58res : Kr Tryz.f58 = some [.tmp 4] := by kernel_rfl
def c59t : Nat → List AI
 | 0 => [Xo 0 4 (.box 25 (Xt 1)) [1]]
 | 1 => [Xm 0 6 0 [], Xg 1 7 6 4 [], Xm 2 8 2 [], Xc 3 9 89 8 [0, 1], Xo 4 10 (.mx false (Xi 1) (Xt 9)) [], ⟨5, (some 11), .call (.cst (.fn (.func 88) [] [])) [(Xt 6), (Xt 7), (Xt 10)], none, []⟩]
 | _ => []
def c59c : AC := (.seq (.regT c59t 0) (.regD [c59t 1]))
def c59a : Ann := Xan c59t
theorem c59ok : Ko 12 c59a Tryz.f59 = some (inst c59c) := by kernel_rfl
theorem c59call : Kc 59 = true := by kernel_rfl
theorem c59res : Kr Tryz.f59 = some [] := by kernel_rfl
def c60t : Nat → List AI
 | 0 => [Xo 0 3 (.box 98 (Xt 0)) [0], Xo 1 5 (.box 23 (Xt 2)) [2]]
 | 1 => [Xm 0 6 1 [], Xc 1 7 89 6 [6]]
 | 2 => [Xj 0 13 .eql 7 2 [], Xa 1 12 13 [13]]
 | 3 => [Xl 0 14 1 3 [12, 7, 5, 3], Xn 1 15 14 [14], Xf 2 16 0 15 [15], Xm 3 17 1 [1], Xo 4 18 (.sbin .add (.cst (.str ⟨#[32]⟩)) (Xt 17)) [17], Xd 5 19 54 16 18 [18, 16]]
 | 4 => [Xj 0 21 .eql 7 1 [12, 7], Xa 1 20 21 [21]]
 | 5 => [Xl 0 22 1 3 [20], Xn 1 23 22 [22], Xf 2 24 0 23 [23], Xm 3 25 1 [1], Xo 4 26 (.sbin .add (.cst (.str ⟨#[32]⟩)) (Xt 25)) [25], Xo 5 27 (.sbin .add (Xt 26) (.cst (.str ⟨#[32]⟩))) [26], Xd 6 28 54 24 27 [27, 24]]
 | 6 => [Xl 0 29 1 3 [], Xl 1 30 1 5 [], Xo 2 31 (.iaddr 6 (Xt 30) (Xi 0)) [], Xg 3 32 6 31 [], ⟨4, (some 33), .call (.cst (.fn (.func 88) [] [])) [(Xt 29), (Xt 32), (Xi 2)], none, []⟩]
 | 7 => [Xl 0 8 1 3 [20], Xm 1 9 1 [1], Xo 2 10 (.mkfn (.func 91) [] [(Xt 3), (Xt 5)]) [5, 3], ⟨3, (some 11), .call (.cst (.fn (.func 90) [] [])) [(Xt 8), (Xt 9), (.cst (.str ⟨#[32]⟩)), (.cst (.str ⟨#[]⟩)), (Xt 10)], none, [10, 9, 8]⟩]
 | _ => []
def c60c : AC := (.seq (.regT c60t 0) (.seq (.regT c60t 1) (.block 0 (.seq (.regT c60t 2) (.cond (.tmp 12) (.regT c60t 3) (.seq (.regT c60t 4) (.cond (.tmp 20) (.seq (.regT c60t 5) (.regD [c60t 6])) (.regT c60t 7))))))))
def c60a : Ann := fun id => match id with
 | 3 => Xan c60t 2
 | 4 => Xan c60t 3
 | 5 => Xan c60t 4
 | 6 => Xan c60t 5
 | 7 => Xan c60t 6
 | 2 => Xan c60t 7
 | n => Xan c60t n
theorem c60ok : Ko 34 c60a Tryz.f60 = some (inst c60c) := by kernel_rfl
theorem c60call : Kc 60 = true := by kernel_rfl
theorem c60res : Kr Tryz.f60 = some [] := by kernel_rfl
def c61t : Nat → List AI
 | 0 => [Xo 0 3 (.box 25 (Xt 1)) [1]]
 | 1 => [Xf 0 4 4 3 [], Xl 1 5 1 4 [4], Xo 2 6 (.len false (Xt 5)) [5], Xf 3 7 3 3 [], Xl 4 8 1 7 [7], Xh 5 9 .gtr 6 8 [8, 6]]
 | 2 => [Xm 0 10 0 [], Xn 1 11 10 [], Xf 2 12 0 11 [], Xf 3 13 4 3 [], Xl 4 14 1 13 [], Xf 5 15 3 3 [], Xl 6 16 1 15 [], Xo 7 17 (.lslice 1 (Xt 14) (some (Xt 16)) none) [], ⟨8, (some 18), .call (.cst (.fn (.func 92) [] [])) [(Xt 17), (.cst (.str ⟨#[32]⟩))], none, [0, 1, 2]⟩, Xo 9 19 (.sbin .add (.cst (.str ⟨#[124, 32]⟩)) (Xt 18)) [], Xo 10 20 (.sbin .add (Xt 19) (.cst (.str ⟨#[32, 124, 32]⟩))) [], Xd 11 21 54 12 20 []]
 | 3 => [Xm 0 22 0 [9, 21, 0], Xf 1 23 5 3 [3], Xl 2 24 1 23 [23], ⟨3, (some 25), .call (.cst (.fn (.func 57) [] [])) [(Xt 22), (Xt 24), (.cst (.str ⟨#[46, 32]⟩))], none, [24, 22]⟩]
 | _ => []
def c61c : AC := (.seq (.regT c61t 0) (.seq (.seq (.regT c61t 1) (.cond (.tmp 9) (.regD [c61t 2]) .skip)) (.regT c61t 3)))
def c61a : Ann := Xan c61t
theorem c61ok : Ko 26 c61a Tryz.f61 = some (inst c61c) := by kernel_rfl
theorem c61call : Kc 61 = true := by kernel_rfl
theorem c61res : Kr Tryz.f61 = some [] := by kernel_rfl
def c62t : Nat → List AI
 | 0 => [Xo 0 2 (.box 98 (Xt 0)) [0], Xo 1 3 (.box 25 (Xt 1)) [1]]
 | 1 => [Xf 0 10 1 3 [], Xl 1 11 1 10 [10], Xo 2 12 (.sbin .eql (Xt 11) (.cst (.str ⟨#[]⟩))) [11], Xa 3 9 12 [12]]
 | 2 => [Xf 0 14 3 3 [9], Xl 1 15 1 14 [14], Xj 2 16 .eql 15 0 [15], Xa 3 13 16 [16]]
 | 3 => [Xl 0 17 1 2 [], Xn 1 18 17 [], Xf 2 19 0 18 [], Xf 3 20 1 3 [], Xl 4 21 1 20 [], Xo 5 22 (.sbin .add (Xt 21) (.cst (.str ⟨#[32]⟩))) [], Xd 6 23 54 19 22 []]
 | 4 => [Xf 0 25 1 3 [13], Xl 1 26 1 25 [25], Xc 2 27 89 26 [26], Xj 3 28 .eql 27 1 [27], Xa 4 24 28 [28]]
 | 5 => [Xl 0 29 1 2 [], Xn 1 30 29 [], Xf 2 31 0 30 [], Xf 3 32 1 3 [], Xl 4 33 1 32 [], Xo 5 34 (.sbin .add (Xt 33) (.cst (.str ⟨#[32]⟩))) [], Xf 6 35 4 3 [], Xl 7 36 1 35 [], Xo 8 37 (.iaddr 1 (Xt 36) (Xi 0)) [], Xl 9 38 1 37 [], Xo 10 39 (.sbin .add (Xt 34) (Xt 38)) [], Xo 11 40 (.sbin .add (Xt 39) (.cst (.str ⟨#[32]⟩))) [], Xd 12 41 54 31 40 []]
 | 6 => [Xl 0 4 1 2 [24], Xf 1 5 1 3 [], Xl 2 6 1 5 [5], Xo 3 7 (.mkfn (.func 93) [] [(Xt 2), (Xt 3)]) [3, 2], ⟨4, (some 8), .call (.cst (.fn (.func 90) [] [])) [(Xt 4), (Xt 6), (.cst (.str ⟨#[]⟩)), (.cst (.str ⟨#[32]⟩)), (Xt 7)], none, [7, 6, 4]⟩]
 | _ => []
def c62c : AC := (.seq (.regT c62t 0) (.block 0 (.seq (.regT c62t 1) (.cond (.tmp 9) .skip (.seq (.regT c62t 2) (.cond (.tmp 13) (.regD [c62t 3]) (.seq (.regT c62t 4) (.cond (.tmp 24) (.regD [c62t 5]) (.regT c62t 6)))))))))
def c62a : Ann := fun id => match id with
 | 2 => Xan c62t 1
 | 3 => Xan c62t 2
 | 4 => Xan c62t 3
 | 5 => Xan c62t 4
 | 6 => Xan c62t 5
 | 1 => Xan c62t 6
 | n => Xan c62t n
theorem c62ok : Ko 42 c62a Tryz.f62 = some (inst c62c) := by kernel_rfl
theorem c62call : Kc 62 = true := by kernel_rfl
theorem c62res : Kr Tryz.f62 = some [] := by kernel_rfl
def c63t : Nat → List AI
 | 0 => [Xo 0 4 (.asg Xq) []]
 | 1 => [Xm 0 5 0 [], Xn 1 6 5 [], Xf 2 7 1 6 [], Xl 3 8 1 7 [], Xm 4 9 0 [], Xn 5 10 9 [], Xf 6 11 0 10 [], Xl 7 12 1 11 [], Xo 8 13 (.len true (Xt 12)) [], Xh 9 14 .lss 8 13 [], Xm 10 15 14 [], Xu 11 16 (.move (Xt 1)) 15 [], Xu 12 17 (.move (Xt 0)) 15 [], Xu 13 18 (.nilc (Xt 17)) 15 [], Xu 14 19 (.faddr 0 (Xt 18)) 15 [], Xu 15 20 (.load false 1 (Xt 19)) 15 [], Xu 16 21 (.move (Xt 0)) 15 [], Xu 17 22 (.nilc (Xt 21)) 15 [], Xu 18 23 (.faddr 1 (Xt 22)) 15 [], Xu 19 24 (.load false 1 (Xt 23)) 15 [], Xu 20 25 (.index (Xt 20) (Xt 24)) 15 [], ⟨21, (some 26), .call (Xt 16) [(Xt 25)], (some (15, true)), []⟩, Xo 22 27 (.pick (Xt 15) (Xt 26) Xq) [], Xa 23 4 27 []]
 | _ => []
def c63c : AC := (.seq (.regT c63t 0) (.seq (.regD [c63t 1]) .ret))
def c63a : Ann := Xan c63t
theorem c63ok : Ko 28 c63a Tryz.f63 = some (inst c63c) := by kernel_rfl
theorem c63call : Kc 63 = true := by kernel_rfl
theorem c63res : Kr Tryz.f63 = some [.tmp 4] := by kernel_rfl
end Go.SL
set_option maxRecDepth 100000
namespace Go.SL
open Go.Proofs
def c64t : Nat → List AI
 | 0 => [Xo 0 2 (.asg Xq) []]
 | 1 => [Xm 0 3 0 [2], Xo 1 4 (.ibin .or (Xt 3) (.cst (.int .u8 32))) [3], Xo 2 5 (.icmp .geq (Xt 4) (.cst (.int .u8 97))) [4], Xm 3 6 5 [5], Xu 4 7 (.move (Xt 0)) 6 [0], Xu 5 8 (.ibin .or (Xt 7) (.cst (.int .u8 32))) 6 [7], Xu 6 9 (.icmp .leq (Xt 8) (.cst (.int .u8 122))) 6 [8], Xo 7 10 (.pick (Xt 6) (Xt 9) Xq) [9, 6], Xa 8 2 10 [10]]
 | _ => []
def c64c : AC := (.seq (.regT c64t 0) (.seq (.regT c64t 1) .ret))
def c64a : Ann := Xan c64t
theorem c64ok : Ko 11 c64a Tryz.f64 = some (inst c64c) := by kernel_rfl
theorem c64call : Kc 64 = true := by kernel_rfl
theorem c64res : Kr Tryz.f64 = some [.tmp 2] := by kernel_rfl
def c65t : Nat → List AI
 | 0 => [Xo 0 2 (.asg Xq) []]
 | 1 => [Xm 0 3 0 [2], Xc 1 4 64 3 [3], Xm 2 5 4 [4], Xv 3 6 (.move (Xt 0)) 5 [], ⟨4, (some 7), .call (.cst (.fn (.func 66) [] [])) [(Xt 6)], (some (5, false)), [6]⟩, Xo 5 8 (.pick (Xt 5) Xp (Xt 7)) [7, 5], Xm 6 9 8 [8], Xv 7 10 (.move (Xt 0)) 9 [0], Xv 8 11 (.icmp .eql (Xt 10) (.cst (.int .u8 95))) 9 [10], Xo 9 12 (.pick (Xt 9) Xp (Xt 11)) [11, 9], Xa 10 2 12 [12]]
 | _ => []
def c65c : AC := (.seq (.regT c65t 0) (.seq (.regT c65t 1) .ret))
def c65a : Ann := Xan c65t
theorem c65ok : Ko 13 c65a Tryz.f65 = some (inst c65c) := by kernel_rfl
theorem c65call : Kc 65 = true := by kernel_rfl
theorem c65res : Kr Tryz.f65 = some [.tmp 2] := by kernel_rfl
def c66t : Nat → List AI
 | 0 => [Xo 0 2 (.asg Xq) []]
 | 1 => [Xm 0 3 0 [2], Xo 1 4 (.icmp .geq (Xt 3) (.cst (.int .u8 48))) [3], Xm 2 5 4 [4], Xu 3 6 (.move (Xt 0)) 5 [0], Xu 4 7 (.icmp .leq (Xt 6) (.cst (.int .u8 57))) 5 [6], Xo 5 8 (.pick (Xt 5) (Xt 7) Xq) [7, 5], Xa 6 2 8 [8]]
 | _ => []
def c66c : AC := (.seq (.regT c66t 0) (.seq (.regT c66t 1) .ret))
def c66a : Ann := Xan c66t
theorem c66ok : Ko 9 c66a Tryz.f66 = some (inst c66c) := by kernel_rfl
theorem c66call : Kc 66 = true := by kernel_rfl
theorem c66res : Kr Tryz.f66 = some [.tmp 2] := by kernel_rfl
def c69t : Nat → List AI
 | 0 => [Xo 0 4 (.asg (Xi 0)) []]
 | 1 => [Xm 0 5 0 [4, 0], Xm 1 6 1 [1], Xd 2 7 94 5 6 [6, 5], Xa 3 4 7 [7]]
 | _ => []
def c69c : AC := (.seq (.regT c69t 0) (.seq (.regT c69t 1) .ret))
def c69a : Ann := Xan c69t
theorem c69ok : Ko 8 c69a Tryz.f69 = some (inst c69c) := by kernel_rfl
theorem c69call : Kc 69 = true := by kernel_rfl
theorem c69res : Kr Tryz.f69 = some [.tmp 4] := by kernel_rfl
def c70t : Nat → List AI
 | 0 => [Xo 0 2 (.asg Xq) []]
 | 1 => [Xm 0 3 0 [2], ⟨1, (some 4), .call (.cst (.fn (.func 73) [] [])) [(Xt 3), (Xi 0)], none, [3]⟩, Xo 2 5 (.icmp .eql (Xt 4) (.cst (.int .u8 58))) [4], Xm 3 6 5 [5], Xu 4 7 (.move (Xt 0)) 6 [0], ⟨5, (some 8), .call (.cst (.fn (.func 73) [] [])) [(Xt 7), (Xi 1)], (some (6, true)), [7]⟩, Xu 6 9 (.icmp .neq (Xt 8) (.cst (.int .u8 61))) 6 [8], Xo 7 10 (.pick (Xt 6) (Xt 9) Xq) [9, 6], Xa 8 2 10 [10]]
 | _ => []
def c70c : AC := (.seq (.regT c70t 0) (.seq (.regT c70t 1) .ret))
def c70a : Ann := Xan c70t
theorem c70ok : Ko 11 c70a Tryz.f70 = some (inst c70c) := by kernel_rfl
theorem c70call : Kc 70 = true := by kernel_rfl
theorem c70res : Kr Tryz.f70 = some [.tmp 2] := by kernel_rfl
def c71t : Nat → List AI
 | 0 => [Xo 0 2 (.alloc [(.bool false), Xw] 111) [], Xo 1 3 (.asg (Xi 0)) []]
 | 1 => [Xm 0 11 0 [3], ⟨1, (some 12), .call (.cst (.fn (.func 95) [] [])) [(Xt 11), (.cst (.str ⟨#[45]⟩))], none, [11]⟩, Xm 2 10 12 [12], Xe 3 13 10 0 [], Xe 4 14 10 1 [10], Xa 5 4 13 [13], Xa 6 5 14 [14]]
 | 2 => [Xo 0 6 (.asg (.cst (.fn (.func 96) [] []))) []]
 | 3 => [Xm 0 15 4 [], Xo 1 16 (.sbin .eql (Xt 15) (.cst (.str ⟨#[]⟩))) [15], Xm 2 17 16 [16], Xv 3 18 (.move (Xt 4)) 17 [], Xv 4 19 (.move (Xt 6)) 17 [6], ⟨5, (some 20), .call (.cst (.fn (.func 97) [] [])) [(Xt 18), (Xt 19)], (some (17, false)), [19, 18]⟩, Xv 6 21 (.icmp .geq (Xt 20) (Xi 0)) 17 [20], Xo 7 22 (.pick (Xt 17) Xp (Xt 21)) [21, 17], Xm 8 23 22 [22], Xv 9 24 (.move (Xt 4)) 23 [], Xv 10 25 (.index (Xt 24) (Xi 0)) 23 [24], Xv 11 26 (.icmp .eql (Xt 25) (.cst (.int .u8 48))) 23 [25], Xv 12 27 (.move (Xt 26)) 23 [26], Xu 13 28 (.move (Xt 0)) 27 [], Xu 14 29 (.len true (Xt 28)) 27 [28], Xu 15 30 (.icmp .gtr (Xt 29) (Xi 1)) 27 [29], Xv 16 31 (.pick (Xt 27) (Xt 30) Xq) 23 [30, 27], Xo 17 32 (.pick (Xt 23) Xp (Xt 31)) [31, 23]]
 | 4 => [Xo 0 33 (.build [(.bool false), Xw] []) [32, 5, 4, 0], Xs 1 2 2 33 [33], Xo 2 3 (.asg (Xi 11)) []]
 | 5 => [Xm 0 34 0 [0, 32, 3], Xo 1 35 (.len true (Xt 34)) [34], Xj 2 36 .gtr 35 400 [35]]
 | 6 => [Xo 0 37 (.build [(.bool false), Xw] []) [36, 4, 5], Xs 1 2 2 37 [37], Xo 2 3 (.asg (Xi 24)) []]
 | 7 => [Xo 0 7 (.asg (.cst Xw)) [36, 3]]
 | 8 => [Xm 0 38 4 [4], Xo 1 39 (.s2b (Xt 38)) [38], Xo 2 40 (.len false (Xt 39)) [], Xo 3 41 (.move (Xi 0)) []]
 | 9 => [Xh 0 42 .lss 41 40 []]
 | 10 => [Xo 0 43 (.iaddr 1 (Xt 39) (Xt 41)) [42], Xl 1 44 1 43 [43], Xa 2 9 44 [44]]
 | 11 => [Xm 0 45 7 [7], Xo 1 46 (.bslice 136 false 1 1 [(.int .u32 0)] [(0, 1, (.cst (.int .u32 10)))]) [], Xd 2 47 99 45 46 [46, 45], Xm 3 48 9 [9], Xo 4 49 (.ibin .sub (Xt 48) (.cst (.int .u8 48))) [48], Xo 5 50 (.conv .u32 (Xt 49)) [49], Xo 6 51 (.bslice 136 false 1 1 [(.int .u32 0)] [(0, 1, (Xt 50))]) [50], Xc 7 52 100 51 [51], Xd 8 53 98 47 52 [52, 47], Xa 9 7 53 [53]]
 | 12 => [Xb 0 54 .add 41 1 [41], Xm 1 41 54 [54]]
 | 14 => [Xm 0 55 5 [41, 40, 39, 5], Xm 1 56 7 [7], Xd 2 57 101 55 56 [56, 55], Xe 3 58 57 0 [], Xe 4 59 57 1 [57], Xs 5 2 2 58 [58], Xa 6 3 59 [59]]
 | _ => []
def c71l13 : AC := (.seq (.regT c71t 9) (.seq (.cond (.tmp 42) .skip (.exit 0)) (.seq (.block 1 (.seq (.regT c71t 10) (.regT c71t 11))) (.regT c71t 12))))
def c71c : AC := (.seq (.regT c71t 0) (.seq (.regT c71t 1) (.seq (.regT c71t 2) (.seq (.seq (.regT c71t 3) (.cond (.tmp 32) (.seq (.regT c71t 4) .ret) .skip)) (.seq (.seq (.regT c71t 5) (.cond (.tmp 36) (.seq (.regT c71t 6) .ret) .skip)) (.seq (.regT c71t 7) (.seq (.seq (.regT c71t 8) (.block 0 (.loop c71l13))) (.seq (.regT c71t 14) .ret))))))))
def c71a : Ann := fun id => match id with
 | 13 => Xan c71t 14
 | n => Xan c71t n
theorem c71ok : Ko 60 c71a Tryz.f71 = some (inst c71c) := by kernel_rfl
theorem c71call : Kc 71 = true := by kernel_rfl
theorem c71res : Kr Tryz.f71 = some [.cell 2 true 2, .tmp 3] := by kernel_rfl
def c72t : Nat → List AI
 | 0 => [Xo 0 2 (.asg (.cst (.str ⟨#[]⟩))) [], Xo 1 3 (.asg Xq) [2]]
 | 1 => [Xo 0 4 (.alloc [.nilP, Xw] 69) [2, 3]]
 | 2 => [Xm 0 5 0 [], ⟨1, (some 6), .call (.cst (.fn (.func 73) [] [])) [(Xt 5), (Xi 0)], none, [5]⟩, Xo 2 7 (.icmp .neq (Xt 6) (.cst (.int .u8 39))) [6]]
 | 3 => [Xm 0 8 0 [7], Xn 1 9 8 [], Xf 2 10 1 9 [9], Xl 3 11 1 10 [10], Xb 4 12 .add 11 1 [11], Xn 5 13 8 [8], Xf 6 14 1 13 [13], Xs 7 1 14 12 [14, 12]]
 | 4 => [Xm 0 15 0 [], Xn 1 16 15 [], Xf 2 17 1 16 [], Xl 3 18 1 17 [], Xm 4 19 0 [], Xn 5 20 19 [], Xf 6 21 0 20 [], Xl 7 22 1 21 [], Xo 8 23 (.len true (Xt 22)) [], Xh 9 24 .lss 18 23 []]
 | 5 => [Xm 0 32 0 [], Xn 1 33 32 [], Xf 2 34 0 33 [], Xl 3 35 1 34 [], Xm 4 36 0 [], Xn 5 37 36 [], Xf 6 38 1 37 [], Xl 7 39 1 38 [], Xo 8 40 (.index (Xt 35) (Xt 39)) [], Xo 9 41 (.icmp .eql (Xt 40) (.cst (.int .u8 39))) []]
 | 6 => [Xm 0 42 0 [41], ⟨1, (some 43), .call (.cst (.fn (.func 73) [] [])) [(Xt 42), (Xi 1)], none, [42]⟩, Xo 2 44 (.icmp .neq (Xt 43) (.cst (.int .u8 39))) [43]]
 | 7 => [Xm 0 45 0 [44, 0], Xn 1 46 45 [], Xf 2 47 1 46 [46], Xl 3 48 1 47 [47], Xb 4 49 .add 48 1 [48], Xn 5 50 45 [45], Xf 6 51 1 50 [50], Xs 7 1 51 49 [51, 49]]
 | 8 => [Xc 0 52 34 4 [], Xc 1 53 102 4 [4], Xj 2 54 .leq 53 1024 [53], Xa 3 2 52 [52], Xa 4 3 54 [54]]
 | 9 => [Xm 0 55 0 [44, 3, 2], Xn 1 56 55 [], Xf 2 57 1 56 [56], Xl 3 58 1 57 [57], Xb 4 59 .add 58 1 [58], Xn 5 60 55 [55], Xf 6 61 1 60 [60], Xs 7 1 61 59 [61, 59]]
 | 10 => [Xm 0 62 0 [], Xn 1 63 62 [], Xf 2 64 0 63 [], Xl 3 65 1 64 [], Xm 4 66 0 [], Xn 5 67 66 [], Xf 6 68 1 67 [], Xl 7 69 1 68 [], Xo 8 70 (.index (Xt 65) (Xt 69)) [], Xd 9 71 58 4 70 []]
 | 11 => [Xm 0 25 0 [71], Xn 1 26 25 [], Xf 2 27 1 26 [26], Xl 3 28 1 27 [27], Xb 4 29 .add 28 1 [28], Xn 5 30 25 [25], Xf 6 31 1 30 [30], Xs 7 1 31 29 [31, 29]]
 | 13 => [Xo 0 2 (.asg (.cst (.str ⟨#[]⟩))) [0, 4], Xo 1 3 (.asg Xq) []]
 | _ => []
def c72l12 : AC := (.seq (.seq (.regD [c72t 4]) (.cond (.tmp 24) .skip (.exit 0))) (.seq (.block 1 (.seq (.seq (.regD [c72t 5]) (.cond (.tmp 41) (.seq (.seq (.regT c72t 6) (.cond (.tmp 44) (.seq (.regT c72t 7) (.seq (.regT c72t 8) .ret)) .skip)) (.regT c72t 9)) .skip)) (.regD [c72t 10]))) (.regT c72t 11)))
def c72c : AC := (.seq (.regT c72t 0) (.scope (.seq (.regT c72t 1) (.seq (.seq (.regT c72t 2) (.cond (.tmp 7) (.goto 0) .skip)) (.seq (.seq (.regT c72t 3) (.block 0 (.loop c72l12))) (.seq (.label 0) (.seq (.regT c72t 13) .ret)))))))
def c72a : Ann := fun id => match id with
 | 6 => Xan c72t 4
 | 7 => Xan c72t 6
 | 8 => Xan c72t 7
 | 9 => Xan c72t 8
 | 10 => Xan c72t 9
 | 11 => Xan c72t 4
 | 5 => Xan c72t 11
 | 12 => Xan c72t 13
 | n => Xan c72t n
theorem c72ok : Ko 72 c72a Tryz.f72 = some (inst c72c) := by kernel_rfl
theorem c72call : Kc 72 = true := by kernel_rfl
theorem c72res : Kr Tryz.f72 = some [.tmp 2, .tmp 3] := by kernel_rfl
def c73t : Nat → List AI
 | 0 => [Xo 0 4 (.asg (.cst (.int .u8 0))) []]
 | 1 => [Xm 0 5 0 [], Xn 1 6 5 [], Xf 2 7 1 6 [], Xl 3 8 1 7 [], Xm 4 9 1 [], Xo 5 10 (.ibin .add (Xt 8) (Xt 9)) [], Xm 6 11 0 [], Xn 7 12 11 [], Xf 8 13 0 12 [], Xl 9 14 1 13 [], Xo 10 15 (.len true (Xt 14)) [], Xh 11 16 .lss 10 15 []]
 | 2 => [Xm 0 17 0 [], Xn 1 18 17 [], Xf 2 19 0 18 [], Xl 3 20 1 19 [], Xm 4 21 0 [], Xn 5 22 21 [], Xf 6 23 1 22 [], Xl 7 24 1 23 [], Xm 8 25 1 [], Xo 9 26 (.ibin .add (Xt 24) (Xt 25)) [], Xo 10 27 (.index (Xt 20) (Xt 26)) [], Xa 11 4 27 []]
 | 3 => [Xo 0 4 (.asg (.cst (.int .u8 0))) [1, 0, 16]]
 | _ => []
def c73c : AC := (.seq (.regT c73t 0) (.seq (.seq (.regD [c73t 1]) (.cond (.tmp 16) (.seq (.regD [c73t 2]) .ret) .skip)) (.seq (.regT c73t 3) .ret)))
def c73a : Ann := Xan c73t
theorem c73ok : Ko 28 c73a Tryz.f73 = some (inst c73c) := by kernel_rfl
theorem c73call : Kc 73 = true := by kernel_rfl
theorem c73res : Kr Tryz.f73 = some [.tmp 4] := by kernel_rfl
def c74t : Nat → List AI
 | 0 => [Xo 0 2 (.asg (.cst (.str ⟨#[]⟩))) [], Xo 1 3 (.asg Xq) [2]]
 | 1 => [Xm 0 5 0 [3], Xn 1 6 5 [5], Xf 2 7 1 6 [6], Xl 3 8 1 7 [7], Xa 4 4 8 [8]]
 | 2 => [Xm 0 9 0 [], Xc 1 10 35 9 [9]]
 | 3 => [Xm 0 11 0 [21, 10], Xc 1 12 70 11 [11]]
 | 4 => [Xm 0 13 0 [12], Xn 1 14 13 [], Xf 2 15 1 14 [14], Xl 3 16 1 15 [15], Xb 4 17 .add 16 1 [16], Xn 5 18 13 [13], Xf 6 19 1 18 [18], Xs 7 1 19 17 [19, 17]]
 | 5 => [Xm 0 20 0 [], Xc 1 21 35 20 [20]]
 | 7 => [Xm 0 22 0 [10], Xc 1 23 75 22 [22], Xo 2 24 (.not (Xt 23)) [23]]
 | 8 => [Xm 0 25 0 [24, 4, 0], Xc 1 26 72 25 [25], Xe 2 27 26 0 [], Xe 3 28 26 1 [26], Xa 4 2 27 [27], Xa 5 3 28 [28]]
 | 9 => [Xm 0 29 0 [], Xn 1 30 29 [], Xf 2 31 0 30 [], Xl 3 32 1 31 [], Xm 4 33 4 [], Xm 5 34 0 [], Xn 6 35 34 [], Xf 7 36 1 35 [], Xl 8 37 1 36 [], Xo 9 38 (.sslice (Xt 32) (some (Xt 33)) (some (Xt 37))) [], Xm 10 39 0 [], Xn 11 40 39 [], Xf 12 41 1 40 [], Xl 13 42 1 41 [], Xm 14 43 4 [], Xo 15 44 (.ibin .sub (Xt 42) (Xt 43)) [], Xj 16 45 .leq 44 1024 [], Xa 17 2 38 [10, 11, 12, 13, 14, 15, 16], Xa 18 3 45 []]
 | _ => []
def c74l6 : AC := (.seq (.seq (.regT c74t 3) (.cond (.tmp 12) .skip (.exit 0))) (.block 1 (.seq (.regT c74t 4) (.regT c74t 5))))
def c74c : AC := (.seq (.regT c74t 0) (.seq (.regT c74t 1) (.seq (.seq (.regT c74t 2) (.cond (.tmp 10) (.block 0 (.loop c74l6)) (.seq (.regT c74t 7) (.cond (.tmp 24) (.seq (.regT c74t 8) .ret) .skip)))) (.seq (.regD [c74t 9]) .ret))))
def c74a : Ann := fun id => match id with
 | 6 => Xan c74t 7
 | 7 => Xan c74t 8
 | 8 => Xan c74t 9
 | n => Xan c74t n
theorem c74ok : Ko 46 c74a Tryz.f74 = some (inst c74c) := by kernel_rfl
theorem c74call : Kc 74 = true := by kernel_rfl
theorem c74res : Kr Tryz.f74 = some [.tmp 2, .tmp 3] := by kernel_rfl
def c75t : Nat → List AI
 | 0 => [Xo 0 2 (.asg Xq) []]
 | 1 => [Xm 0 4 0 [2], Xn 1 5 4 [4], Xf 2 6 1 5 [5], Xl 3 7 1 6 [6], Xa 4 3 7 [7]]
 | 2 => [Xm 0 8 0 [], Xn 1 9 8 [8], Xf 2 10 1 9 [9], Xl 3 11 1 10 [10], Xm 4 12 3 [], Xb 5 13 .add 12 2 [12], Xh 6 14 .lss 11 13 [13, 11], Xm 7 15 14 [14], Xu 8 16 (.move (Xt 0)) 15 [], ⟨9, (some 17), .call (.cst (.fn (.func 63) [] [])) [(Xt 16), (.cst (.fn (.func 103) [] []))], (some (15, true)), []⟩, Xo 10 18 (.pick (Xt 15) (Xt 17) Xq) [15]]
 | 3 => [Xm 0 19 0 [18], Xn 1 20 19 [], Xf 2 21 1 20 [20], Xl 3 22 1 21 [21], Xb 4 23 .add 22 1 [22], Xn 5 24 19 [19], Xf 6 25 1 24 [24], Xs 7 1 25 23 [25, 23]]
 | 5 => [Xm 0 26 0 [16, 17, 0], Xn 1 27 26 [26], Xf 2 28 1 27 [27], Xl 3 29 1 28 [28], Xm 4 30 3 [3], Xh 5 31 .gtr 29 30 [30, 29], Xa 6 2 31 [31]]
 | _ => []
def c75l4 : AC := (.seq (.seq (.regT c75t 2) (.cond (.tmp 18) .skip (.exit 0))) (.block 1 (.regT c75t 3)))
def c75c : AC := (.seq (.regT c75t 0) (.seq (.regT c75t 1) (.seq (.block 0 (.loop c75l4)) (.seq (.regT c75t 5) .ret))))
def c75a : Ann := fun id => match id with
 | 4 => Xan c75t 5
 | n => Xan c75t n
theorem c75ok : Ko 32 c75a Tryz.f75 = some (inst c75c) := by kernel_rfl
theorem c75call : Kc 75 = true := by kernel_rfl
theorem c75res : Kr Tryz.f75 = some [.tmp 2] := by kernel_rfl
def c76t : Nat → List AI
 | 0 => [Xo 0 1 (.box 43 (Xt 0)) [0], Xo 1 2 (.alloc Xz 25) []]
 | 1 => [Xl 0 5 1 1 [], Xc 1 6 40 5 [5], Xj 2 7 .eql 6 1 [6], Xm 3 8 7 [7], Xu 4 9 (.load false 1 (Xt 1)) 8 [], Xu 5 10 (.nilc (Xt 9)) 8 [9], Xu 6 11 (.faddr 0 (Xt 10)) 8 [10], Xu 7 12 (.load false 1 (Xt 11)) 8 [11], Xu 8 13 (.iaddr 3 (Xt 12) (Xi 1)) 8 [12], Xu 9 14 (.faddr 0 (Xt 13)) 8 [13], Xu 10 15 (.load false 1 (Xt 14)) 8 [14], Xu 11 16 (.icmp .eql (Xt 15) (Xi 7)) 8 [15], Xo 12 17 (.pick (Xt 8) (Xt 16) Xq) [16, 8]]
 | 2 => [Xl 0 18 1 1 [17], Xc 1 19 39 18 [18], Xo 2 3 (.alloc Xx 79) [], Xs 3 3 3 19 [19]]
 | 3 => [Xf 0 20 1 3 [], Xl 1 21 1 20 [20], Xf 2 22 2 3 [3], Xl 3 23 1 22 [22], Xo 4 24 (.build Xz [(0, 1, (Xi 6)), (1, 1, (Xt 21)), (2, 1, (Xt 23))]) [23, 21], Xo 5 4 (.alloc Xz 25) [], Xs 6 6 4 24 [24]]
 | 4 => [Xl 0 25 1 1 [], Xo 1 26 (.mkfn (.func 105) [] [(Xt 1), (Xt 4)]) [1], Xd 2 27 104 25 26 [26, 25]]
 | 5 => [Xg 0 28 6 4 [27, 4], Xs 1 6 2 28 [28]]
 | 6 => [Xl 0 29 1 1 [1, 17], Xc 1 30 106 29 [29], Xs 2 6 2 30 [30]]
 | _ => []
def c76c : AC := (.seq (.regT c76t 0) (.seq (.seq (.regT c76t 1) (.cond (.tmp 17) (.seq (.regT c76t 2) (.seq (.regT c76t 3) (.seq (.regT c76t 4) (.seq (.regT c76t 5) .ret)))) .skip)) (.seq (.regT c76t 6) .ret)))
def c76a : Ann := Xan c76t
theorem c76ok : Ko 31 c76a Tryz.f76 = some (inst c76c) := by kernel_rfl
theorem c76call : Kc 76 = true := by kernel_rfl
theorem c76res : Kr Tryz.f76 = some [.cell 2 true 6] := by kernel_rfl
def c86t : Nat → List AI
 | 0 => [Xm 0 2 0 [], Xn 1 3 2 [2], Xf 2 4 0 3 [3], Xl 3 5 1 4 [4], Xo 4 6 (.eqnil 0 false (Xt 5)) [5]]
 | 1 => [Xm 0 7 0 [6], Xm 1 8 0 [0], Xo 2 9 (.p2u (Xt 8)) [8], Xc 3 10 114 9 [9], Xo 4 11 (.u2p [(68, 2), (69, 2), (70, 2), (71, 2)] (Xt 10)) [10], Xn 5 12 7 [7], Xf 6 13 0 12 [12], Xs 7 1 13 11 [13, 11]]
 | 2 => [Xm 0 14 0 [6], Xn 1 15 14 [14], Xf 2 16 0 15 [15], Xl 3 17 1 16 [16], Xm 4 18 0 [0], Xo 5 19 (.peq true (Xt 17) (Xt 18)) [18, 17]]
 | _ => []
def c86c : AC := (.seq (.regT c86t 0) (.cond (.tmp 6) (.regT c86t 1) (.seq (.regT c86t 2) (.cond (.tmp 19) .no .skip))))
def c86a : Ann := Xan c86t
theorem c86ok : Ko 20 c86a Tryz.f86 = some (inst c86c) := by kernel_rfl
theorem c86call : Kc 86 = true := by kernel_rfl
theorem c86res : Kr Tryz.f86 = some [] := by kernel_rfl
def c88t : Nat → List AI
 | 0 => [Xo 0 4 (.box 25 (Xt 1)) [1]]
 | 1 => [Xg 0 6 6 4 [], Xc 1 7 116 6 [6], Xm 2 8 2 [2], Xh 3 9 .geq 7 8 [8, 7]]
 | 2 => [Xm 0 10 0 [9, 0], Xg 1 11 6 4 [4], Xd 2 12 33 10 11 [11, 10]]
 | 3 => [Xm 0 13 0 [9, 12], Xn 1 14 13 [13], Xf 2 15 0 14 [14], ⟨3, (some 16), .call (.cst (.fn (.func 58) [] [])) [(Xt 15), (.cst (.int .u8 40))], none, [15]⟩]
 | 4 => [Xm 0 17 0 [16], Xg 1 18 6 4 [4], Xd 2 19 33 17 18 [18, 17]]
 | 5 => [Xm 0 20 0 [19, 0], Xn 1 21 20 [20], Xf 2 22 0 21 [21], ⟨3, (some 23), .call (.cst (.fn (.func 58) [] [])) [(Xt 22), (.cst (.int .u8 41))], none, [22]⟩]
 | _ => []
def c88c : AC := (.seq (.regT c88t 0) (.seq (.seq (.regT c88t 1) (.cond (.tmp 9) (.seq (.regT c88t 2) .ret) .skip)) (.seq (.regT c88t 3) (.seq (.regT c88t 4) (.regT c88t 5)))))
def c88a : Ann := Xan c88t
theorem c88ok : Ko 24 c88a Tryz.f88 = some (inst c88c) := by kernel_rfl
theorem c88call : Kc 88 = true := by kernel_rfl
theorem c88res : Kr Tryz.f88 = some [] := by kernel_rfl
def c89t : Nat → List AI
 | 0 => [Xo 0 2 (.asg (Xi 0)) []]
 | 1 => [Xm 0 4 0 [2], Xc 1 5 23 4 [4], Xa 2 3 5 [5]]
 | 2 => [Xo 0 2 (.asg (Xi 2)) [3, 0]]
 | 3 => [Xm 0 7 0 [3, 0], Xo 1 8 (.sslice (Xt 7) none (some (Xi 1))) [7], Xc 2 9 23 8 [8], Xa 3 6 9 [9]]
 | 4 => [Xo 0 2 (.asg (Xi 0)) [6]]
 | 5 => [Xo 0 2 (.asg (Xi 1)) [6]]
 | _ => []
def c89c : AC := (.seq (.regT c89t 0) (.seq (.block 0 (.seq (.regT c89t 1) (.cond (.tmp 3) (.seq (.regT c89t 2) .ret) (.seq (.regT c89t 3) (.cond (.tmp 6) (.seq (.regT c89t 4) .ret) .skip))))) (.seq (.regT c89t 5) .ret)))
def c89a : Ann := Xan c89t
theorem c89ok : Ko 10 c89a Tryz.f89 = some (inst c89c) := by kernel_rfl
theorem c89call : Kc 89 = true := by kernel_rfl
theorem c89res : Kr Tryz.f89 = some [.tmp 2] := by kernel_rfl
def c90t : Nat → List AI
 | 0 => [Xo 0 10 (.asg (Xi 0)) []]
 | 1 => [Xm 0 12 1 [], Xo 1 13 (.sbin .neq (Xt 12) (.cst (.str ⟨#[]⟩))) [12]]
 | 2 => [Xm 0 16 1 [13], ⟨1, (some 17), .call (.cst (.fn (.func 44) [] [])) [(Xt 16), (.cst (.int .u8 58))], none, [16]⟩, Xb 2 18 .add 17 1 [17], Xa 3 11 18 [18]]
 | 3 => [Xm 0 19 0 [], Xn 1 20 19 [], Xf 2 21 0 20 [], Xm 3 22 2 [], Xm 4 23 1 [], Xm 5 24 11 [], Xo 6 25 (.sslice (Xt 23) none (some (Xt 24))) [], Xo 7 26 (.sbin .add (Xt 22) (Xt 25)) [], Xo 8 27 (.sbin .add (Xt 26) (.cst (.str ⟨#[32]⟩))) [], Xd 9 28 54 21 27 []]
 | 4 => [Xm 0 29 4 [28], Xm 1 30 10 [], ⟨2, (some 31), .call (Xt 29) [(Xt 30)], none, [30, 29]⟩]
 | 5 => [Xm 0 32 0 [31], Xn 1 33 32 [32], Xf 2 34 0 33 [33], Xm 3 35 3 [], Xd 4 36 54 34 35 [35, 34]]
 | 6 => [Xm 0 37 1 [36, 1], Xm 1 38 11 [11], Xo 2 39 (.sslice (Xt 37) (some (Xt 38)) none) [38, 37], Xa 3 1 39 [39]]
 | 7 => [Xm 0 14 10 [10], Xb 1 15 .add 14 1 [14], Xa 2 10 15 [15]]
 | _ => []
def c90l8 : AC := (.seq (.seq (.regT c90t 1) (.cond (.tmp 13) .skip (.exit 0))) (.seq (.block 1 (.seq (.regT c90t 2) (.seq (.regD [c90t 3]) (.seq (.regT c90t 4) (.seq (.regT c90t 5) (.regT c90t 6)))))) (.regT c90t 7)))
def c90c : AC := (.seq (.regT c90t 0) (.block 0 (.loop c90l8)))
def c90a : Ann := fun id => match id with
 | 3 => Xan c90t 2
 | 4 => Xan c90t 3
 | 5 => Xan c90t 4
 | 6 => Xan c90t 5
 | 7 => Xan c90t 6
 | 2 => Xan c90t 7
 | n => Xan c90t n
theorem c90ok : Ko 40 c90a Tryz.f90 = some (inst c90c) := by kernel_rfl
theorem c90call : Kc 90 = true := by kernel_rfl
theorem c90res : Kr Tryz.f90 = some [] := by kernel_rfl
def c91t : Nat → List AI
 | 0 => [Xl 0 4 1 1 [], Xl 1 5 1 2 [], Xm 2 6 0 [], Xo 3 7 (.iaddr 6 (Xt 5) (Xt 6)) [], Xg 4 8 6 7 [], ⟨5, (some 9), .call (.cst (.fn (.func 88) [] [])) [(Xt 4), (Xt 8), (Xi 1)], none, []⟩]
 | _ => []
def c91c : AC := (.regD [c91t 0])
def c91a : Ann := Xan c91t
theorem c91ok : Ko 10 c91a Tryz.f91 = some (inst c91c) := by kernel_rfl
theorem c91call : Kc 91 = true := by kernel_rfl
theorem c91res : Kr Tryz.f91 = some [] := by kernel_rfl
def c95t : Nat → List AI
 | 0 => [Xo 0 4 (.asg (.cst (.str ⟨#[]⟩))) [], Xo 1 5 (.asg Xq) [4]]
 | 1 => [Xm 0 6 0 [5, 0], Xm 1 7 1 [1], Xd 2 8 118 6 7 [7, 6], Xe 3 9 8 0 [], Xe 4 10 8 1 [8], Xa 5 4 9 [9], Xa 6 5 10 [10]]
 | _ => []
def c95c : AC := (.seq (.regT c95t 0) (.seq (.regT c95t 1) .ret))
def c95a : Ann := Xan c95t
theorem c95ok : Ko 11 c95a Tryz.f95 = some (inst c95c) := by kernel_rfl
theorem c95call : Kc 95 = true := by kernel_rfl
theorem c95res : Kr Tryz.f95 = some [.tmp 4, .tmp 5] := by kernel_rfl
def c96t : Nat → List AI
 | 0 => [Xo 0 2 (.asg Xq) []]
 | 1 => [Xm 0 3 0 [2], Xo 1 4 (.icmp .lss (Xt 3) (.cst (.int .i32 48))) [3], Xm 2 5 4 [4], Xv 3 6 (.move (Xt 0)) 5 [0], Xv 4 7 (.icmp .gtr (Xt 6) (.cst (.int .i32 57))) 5 [6], Xo 5 8 (.pick (Xt 5) Xp (Xt 7)) [7, 5], Xa 6 2 8 [8]]
 | _ => []
def c96c : AC := (.seq (.regT c96t 0) (.seq (.regT c96t 1) .ret))
def c96a : Ann := Xan c96t
theorem c96ok : Ko 9 c96a Tryz.f96 = some (inst c96c) := by kernel_rfl
theorem c96call : Kc 96 = true := by kernel_rfl
theorem c96res : Kr Tryz.f96 = some [.tmp 2] := by kernel_rfl
def c97t : Nat → List AI
 | 0 => [Xo 0 4 (.asg (Xi 0)) []]
 | 1 => [Xm 0 5 0 [4, 0], Xm 1 6 1 [1], ⟨2, (some 7), .call (.cst (.fn (.func 119) [] [])) [(Xt 5), (Xt 6), Xp], none, [6, 5]⟩, Xa 3 4 7 [7]]
 | _ => []
def c97c : AC := (.seq (.regT c97t 0) (.seq (.regT c97t 1) .ret))
def c97a : Ann := Xan c97t
theorem c97ok : Ko 8 c97a Tryz.f97 = some (inst c97c) := by kernel_rfl
theorem c97call : Kc 97 = true := by kernel_rfl
theorem c97res : Kr Tryz.f97 = some [.tmp 4] := by kernel_rfl
def c98t : Nat → List AI
 | 0 => [Xo 0 4 (.asg (.cst Xw)) []]
 | 1 => [Xm 0 8 0 [4], Xo 1 9 (.len false (Xt 8)) [8], Xm 2 10 1 [], Xo 3 11 (.len false (Xt 10)) [10], Xh 4 12 .lss 9 11 [11, 9]]
 | 2 => [Xm 0 13 1 [12, 1], Xm 1 14 0 [0], Xa 2 0 13 [13], Xa 3 1 14 [14]]
 | 3 => [Xm 0 15 0 [12], Xo 1 16 (.len false (Xt 15)) [15], Xb 2 17 .add 16 1 [16], Xo 3 18 (.mks 136 4 (.int .u32 0) (Xt 17)) [17], Xa 4 5 18 [18]]
 | 4 => [Xo 0 6 (.asg (.cst (.int .u64 0))) []]
 | 5 => [Xm 0 19 0 [], Xo 1 20 (.len false (Xt 19)) [19], Xo 2 21 (.move (Xi 0)) []]
 | 6 => [Xh 0 22 .lss 21 20 []]
 | 7 => [Xm 0 23 21 [22], Xa 1 7 23 [23]]
 | 8 => [Xm 0 24 6 [6], Xm 1 25 0 [], Xm 2 26 7 [], Xo 3 27 (.iaddr 1 (Xt 25) (Xt 26)) [26, 25], Xl 4 28 1 27 [27], Xo 5 29 (.conv .u64 (Xt 28)) [28], Xo 6 30 (.ibin .add (Xt 24) (Xt 29)) [29, 24], Xa 7 6 30 [30]]
 | 9 => [Xm 0 31 7 [], Xm 1 32 1 [], Xo 2 33 (.len false (Xt 32)) [32], Xh 3 34 .lss 31 33 [33, 31]]
 | 10 => [Xm 0 35 6 [34, 6], Xm 1 36 1 [], Xm 2 37 7 [], Xo 3 38 (.iaddr 1 (Xt 36) (Xt 37)) [37, 36], Xl 4 39 1 38 [38], Xo 5 40 (.conv .u64 (Xt 39)) [39], Xo 6 41 (.ibin .add (Xt 35) (Xt 40)) [40, 35], Xa 7 6 41 [41]]
 | 11 => [Xm 0 42 5 [34], Xm 1 43 7 [7], Xm 2 44 6 [], Xo 3 45 (.conv .u32 (Xt 44)) [44], Xo 4 46 (.iaddr 1 (Xt 42) (Xt 43)) [43, 42], Xs 5 1 46 45 [46, 45]]
 | 12 => [Xm 0 47 6 [6], Xo 1 48 (.shift .shr (Xt 47) (.cst (.int .u64 32))) [47], Xa 2 6 48 [48]]
 | 13 => [Xb 0 49 .add 21 1 [21], Xm 1 21 49 [49]]
 | 15 => [Xm 0 50 5 [21, 20, 1], Xm 1 51 0 [0], Xo 2 52 (.len false (Xt 51)) [51], Xm 3 53 6 [6], Xo 4 54 (.conv .u32 (Xt 53)) [53], Xo 5 55 (.iaddr 1 (Xt 50) (Xt 52)) [52, 50], Xs 6 1 55 54 [55, 54]]
 | 16 => [Xm 0 56 5 [5], Xc 1 57 100 56 [56], Xa 2 4 57 [57]]
 | _ => []
def c98l14 : AC := (.seq (.regT c98t 6) (.seq (.cond (.tmp 22) .skip (.exit 0)) (.seq (.block 1 (.seq (.regT c98t 7) (.seq (.regT c98t 8) (.seq (.seq (.regT c98t 9) (.cond (.tmp 34) (.regT c98t 10) .skip)) (.seq (.regT c98t 11) (.regT c98t 12)))))) (.regT c98t 13))))
def c98c : AC := (.seq (.regT c98t 0) (.seq (.seq (.regT c98t 1) (.cond (.tmp 12) (.regT c98t 2) .skip)) (.seq (.regT c98t 3) (.seq (.regT c98t 4) (.seq (.seq (.regT c98t 5) (.block 0 (.loop c98l14))) (.seq (.regT c98t 15) (.seq (.regT c98t 16) .ret)))))))
def c98a : Ann := fun id => match id with
 | 14 => Xan c98t 15
 | 15 => Xan c98t 16
 | n => Xan c98t n
theorem c98ok : Ko 58 c98a Tryz.f98 = some (inst c98c) := by kernel_rfl
theorem c98call : Kc 98 = true := by kernel_rfl
theorem c98res : Kr Tryz.f98 = some [.tmp 4] := by kernel_rfl
def c99t : Nat → List AI
 | 0 => [Xo 0 4 (.asg (.cst Xw)) []]
 | 1 => [Xm 0 11 0 [4], Xo 1 12 (.len false (Xt 11)) [11], Xm 2 13 1 [], Xo 3 14 (.len false (Xt 13)) [13], Xo 4 15 (.ibin .add (Xt 12) (Xt 14)) [14, 12], Xo 5 16 (.mks 136 4 (.int .u32 0) (Xt 15)) [15], Xa 6 5 16 [16]]
 | 2 => [Xm 0 17 0 [0], Xo 1 18 (.len false (Xt 17)) [], Xo 2 19 (.move (Xi 0)) []]
 | 3 => [Xh 0 20 .lss 19 18 []]
 | 4 => [Xm 0 21 19 [20], Xo 1 22 (.iaddr 1 (Xt 17) (Xt 19)) [], Xl 2 23 1 22 [22], Xa 3 6 21 [21], Xa 4 7 23 [23]]
 | 5 => [Xo 0 8 (.asg (.cst (.int .u64 0))) []]
 | 6 => [Xm 0 24 1 [], Xo 1 25 (.len false (Xt 24)) [], Xo 2 26 (.move (Xi 0)) []]
 | 7 => [Xh 0 27 .lss 26 25 []]
 | 8 => [Xm 0 28 26 [27], Xo 1 29 (.iaddr 1 (Xt 24) (Xt 26)) [], Xl 2 30 1 29 [29], Xa 3 9 28 [28], Xa 4 10 30 [30]]
 | 9 => [Xm 0 31 8 [8], Xm 1 32 7 [], Xo 2 33 (.conv .u64 (Xt 32)) [32], Xm 3 34 10 [10], Xo 4 35 (.conv .u64 (Xt 34)) [34], Xo 5 36 (.ibin .mul (Xt 33) (Xt 35)) [35, 33], Xm 6 37 5 [], Xm 7 38 6 [], Xm 8 39 9 [], Xo 9 40 (.ibin .add (Xt 38) (Xt 39)) [39, 38], Xo 10 41 (.iaddr 1 (Xt 37) (Xt 40)) [40, 37], Xl 11 42 1 41 [41], Xo 12 43 (.conv .u64 (Xt 42)) [42], Xo 13 44 (.ibin .add (Xt 36) (Xt 43)) [43, 36], Xo 14 45 (.ibin .add (Xt 31) (Xt 44)) [44, 31], Xa 15 8 45 [45]]
 | 10 => [Xm 0 46 5 [], Xm 1 47 6 [], Xm 2 48 9 [9], Xo 3 49 (.ibin .add (Xt 47) (Xt 48)) [48, 47], Xm 4 50 8 [], Xo 5 51 (.conv .u32 (Xt 50)) [50], Xo 6 52 (.iaddr 1 (Xt 46) (Xt 49)) [49, 46], Xs 7 1 52 51 [52, 51]]
 | 11 => [Xm 0 53 8 [8], Xo 1 54 (.shift .shr (Xt 53) (.cst (.int .u64 32))) [53], Xa 2 8 54 [54]]
 | 12 => [Xb 0 55 .add 26 1 [26], Xm 1 26 55 [55]]
 | 14 => [Xm 0 56 5 [26, 25, 24, 7], Xm 1 57 6 [6], Xm 2 58 1 [], Xo 3 59 (.len false (Xt 58)) [58], Xo 4 60 (.ibin .add (Xt 57) (Xt 59)) [59, 57], Xm 5 61 8 [8], Xo 6 62 (.conv .u32 (Xt 61)) [61], Xo 7 63 (.iaddr 1 (Xt 56) (Xt 60)) [60, 56], Xs 8 1 63 62 [63, 62]]
 | 15 => [Xb 0 64 .add 19 1 [19], Xm 1 19 64 [64]]
 | 17 => [Xm 0 65 5 [19, 18, 17, 5, 1], Xc 1 66 100 65 [65], Xa 2 4 66 [66]]
 | _ => []
def c99l13 : AC := (.seq (.regT c99t 7) (.seq (.cond (.tmp 27) .skip (.exit 2)) (.seq (.block 3 (.seq (.regT c99t 8) (.seq (.regT c99t 9) (.seq (.regT c99t 10) (.regT c99t 11))))) (.regT c99t 12))))
def c99l16 : AC := (.seq (.regT c99t 3) (.seq (.cond (.tmp 20) .skip (.exit 0)) (.seq (.block 1 (.seq (.regT c99t 4) (.seq (.regT c99t 5) (.seq (.seq (.regT c99t 6) (.block 2 (.loop c99l13))) (.regT c99t 14))))) (.regT c99t 15))))
def c99c : AC := (.seq (.regT c99t 0) (.seq (.regT c99t 1) (.seq (.seq (.regT c99t 2) (.block 0 (.loop c99l16))) (.seq (.regT c99t 17) .ret))))
def c99a : Ann := fun id => match id with
 | 13 => Xan c99t 14
 | 14 => Xan c99t 15
 | 15 => Xan c99t 17
 | n => Xan c99t n
theorem c99ok : Ko 67 c99a Tryz.f99 = some (inst c99c) := by kernel_rfl
theorem c99call : Kc 99 = true := by kernel_rfl
theorem c99res : Kr Tryz.f99 = some [.tmp 4] := by kernel_rfl
def c100t : Nat → List AI
 | 0 => [Xo 0 2 (.asg (.cst Xw)) []]
 | 1 => [Xm 0 3 0 [2], Xo 1 4 (.len false (Xt 3)) [3], Xj 2 5 .gtr 4 0 [4], Xm 3 6 5 [5], Xu 4 7 (.move (Xt 0)) 6 [], Xu 5 8 (.move (Xt 0)) 6 [], Xu 6 9 (.len false (Xt 8)) 6 [], Xu 7 10 (.ibin .sub (Xt 9) (Xi 1)) 6 [], Xu 8 11 (.iaddr 1 (Xt 7) (Xt 10)) 6 [], Xu 9 12 (.load false 1 (Xt 11)) 6 [], Xu 10 13 (.icmp .eql (Xt 12) (.cst (.int .u32 0))) 6 [], Xo 11 14 (.pick (Xt 6) (Xt 13) Xq) [6]]
 | 2 => [Xm 0 15 0 [14], Xm 1 16 0 [0], Xo 2 17 (.len false (Xt 16)) [16], Xb 3 18 .sub 17 1 [17], Xo 4 19 (.lslice 1 (Xt 15) none (some (Xt 18))) [18, 15], Xa 5 0 19 [19]]
 | 4 => [Xm 0 20 0 [0, 7, 8, 9, 10, 11, 12, 13], Xa 1 2 20 [20]]
 | _ => []
def c100l3 : AC := (.seq (.seq (.regT c100t 1) (.cond (.tmp 14) .skip (.exit 0))) (.block 1 (.regT c100t 2)))
def c100c : AC := (.seq (.regT c100t 0) (.seq (.block 0 (.loop c100l3)) (.seq (.regT c100t 4) .ret)))
def c100a : Ann := fun id => match id with
 | 3 => Xan c100t 4
 | n => Xan c100t n
theorem c100ok : Ko 21 c100a Tryz.f100 = some (inst c100c) := by kernel_rfl
theorem c100call : Kc 100 = true := by kernel_rfl
theorem c100res : Kr Tryz.f100 = some [.tmp 2] := by kernel_rfl
def c101t : Nat → List AI
 | 0 => [Xo 0 4 (.alloc [(.bool false), Xw] 111) [], Xo 1 5 (.asg (Xi 0)) []]
 | 1 => [Xm 0 7 0 [5, 0], Xm 1 8 1 [1], Xd 2 9 120 7 8 [8, 7], Xo 3 6 (.alloc [(.bool false), Xw] 111) [], Xs 4 2 6 9 [9]]
 | 2 => [Xf 0 10 1 6 [], Xl 1 11 1 10 [10], Xo 2 12 (.len false (Xt 11)) [11], Xj 3 13 .gtr 12 128 [12]]
 | 3 => [Xo 0 14 (.build [(.bool false), Xw] []) [13, 6], Xs 1 2 4 14 [14], Xo 2 5 (.asg (Xi 24)) []]
 | 4 => [Xg 0 15 2 6 [6, 13, 5], Xs 1 2 4 15 [15], Xo 2 5 (.asg (Xi 0)) []]
 | _ => []
def c101c : AC := (.seq (.regT c101t 0) (.seq (.regT c101t 1) (.seq (.seq (.regT c101t 2) (.cond (.tmp 13) (.seq (.regT c101t 3) .ret) .skip)) (.seq (.regT c101t 4) .ret))))
def c101a : Ann := Xan c101t
theorem c101ok : Ko 16 c101a Tryz.f101 = some (inst c101c) := by kernel_rfl
theorem c101call : Kc 101 = true := by kernel_rfl
theorem c101res : Kr Tryz.f101 = some [.cell 4 true 2, .tmp 5] := by kernel_rfl
def c102t : Nat → List AI
 | 0 => [Xo 0 2 (.asg (Xi 0)) []]
 | 1 => [Xm 0 3 0 [2, 0], Xn 1 4 3 [3], Xf 2 5 1 4 [4], Xl 3 6 1 5 [5], Xo 4 7 (.len false (Xt 6)) [6], Xa 5 2 7 [7]]
 | _ => []
def c102c : AC := (.seq (.regT c102t 0) (.seq (.regT c102t 1) .ret))
def c102a : Ann := Xan c102t
theorem c102ok : Ko 8 c102a Tryz.f102 = some (inst c102c) := by kernel_rfl
theorem c102call : Kc 102 = true := by kernel_rfl
theorem c102res : Kr Tryz.f102 = some [.tmp 2] := by kernel_rfl
def c103t : Nat → List AI
 | 0 => [Xo 0 2 (.asg Xq) []]
 | 1 => [Xm 0 3 0 [2, 0], ⟨1, (some 4), .call (.cst (.fn (.func 43) [] [])) [(Xt 3), (.cst (.str ⟨#[43, 45, 42, 47, 92, 60, 62, 61, 126, 44, 64, 37, 38, 63]⟩))], none, [3]⟩, Xj 2 5 .geq 4 0 [4], Xa 3 2 5 [5]]
 | _ => []
def c103c : AC := (.seq (.regT c103t 0) (.seq (.regT c103t 1) .ret))
def c103a : Ann := Xan c103t
theorem c103ok : Ko 6 c103a Tryz.f103 = some (inst c103c) := by kernel_rfl
theorem c103call : Kc 103 = true := by kernel_rfl
theorem c103res : Kr Tryz.f103 = some [.tmp 2] := by kernel_rfl
def c104t : Nat → List AI
 | 0 => [Xm 0 4 0 [], Xn 1 5 4 [4], Xf 2 6 1 5 [5], Xl 3 7 1 6 [6], Xj 4 8 .eql 7 40 [7]]
 | 1 => [Xm 0 9 0 [8], ⟨1, (some 10), .call (.cst (.fn (.func 47) [] [])) [(Xt 9), (Xi 3)], none, [9]⟩]
 | 2 => [Xm 0 11 0 [8, 10], Xn 1 12 11 [], Xf 2 13 1 12 [12], Xl 3 14 1 13 [13], Xb 4 15 .add 14 1 [14], Xn 5 16 11 [11], Xf 6 17 1 16 [16], Xs 7 1 17 15 [17, 15]]
 | 3 => [Xm 0 18 0 [], Xc 1 19 39 18 [18]]
 | 4 => [Xm 0 20 1 [19, 1], ⟨1, (some 21), .call (Xt 20) [], none, [20]⟩]
 | 5 => [Xm 0 22 0 [21, 0], Xn 1 23 22 [], Xf 2 24 1 23 [23], Xl 3 25 1 24 [24], Xb 4 26 .sub 25 1 [25], Xn 5 27 22 [22], Xf 6 28 1 27 [27], Xs 7 1 28 26 [28, 26]]
 | _ => []
def c104c : AC := (.seq (.seq (.regT c104t 0) (.cond (.tmp 8) (.regT c104t 1) .skip)) (.seq (.regT c104t 2) (.seq (.regT c104t 3) (.seq (.regT c104t 4) (.regT c104t 5)))))
def c104a : Ann := Xan c104t
theorem c104ok : Ko 29 c104a Tryz.f104 = some (inst c104c) := by kernel_rfl
theorem c104call : Kc 104 = true := by kernel_rfl
theorem c104res : Kr Tryz.f104 = some [] := by kernel_rfl
def c105t : Nat → List AI
 | 0 => [Xl 0 2 1 0 [0], Xc 1 3 76 2 [2], Xo 2 4 (.bslice 25 true 6 1 Xz [(0, 6, (Xt 3))]) [3], Xf 3 5 5 1 [1], Xs 4 1 5 4 [5, 4]]
 | _ => []
def c105c : AC := (.regT c105t 0)
def c105a : Ann := Xan c105t
theorem c105ok : Ko 6 c105a Tryz.f105 = some (inst c105c) := by kernel_rfl
theorem c105call : Kc 105 = true := by kernel_rfl
theorem c105res : Kr Tryz.f105 = some [] := by kernel_rfl
end Go.SL
set_option maxRecDepth 100000
namespace Go.SL
open Go.Proofs
def c106t : Nat → List AI
 | 0 => [Xo 0 2 (.alloc Xz 25) []]
 | 1 => [Xm 0 8 0 [], Xc 1 9 121 8 [8], Xm 2 7 9 [9], Xe 3 10 7 0 [], Xe 4 11 7 1 [7], Xo 5 3 (.alloc Xz 25) [], Xs 6 6 3 10 [10], Xa 7 4 11 [11]]
 | 2 => [Xm 0 12 0 [], Xc 1 13 40 12 [12], Xj 2 14 .neq 13 15 [13]]
 | 3 => [Xg 0 15 6 3 [14, 4, 3, 0], Xs 1 6 2 15 [15]]
 | 4 => [Xf 0 16 0 3 [14], Xl 1 17 1 16 [16], Xj 2 18 .neq 17 7 [17], Xm 3 19 18 [18], Xv 4 20 (.move (Xt 4)) 19 [4], Xv 5 21 (.not (Xt 20)) 19 [20], Xo 6 22 (.pick (Xt 19) Xp (Xt 21)) [21, 19]]
 | 5 => [Xm 0 23 0 [22], ⟨1, (some 24), .call (.cst (.fn (.func 47) [] [])) [(Xt 23), (Xi 20)], none, [23]⟩]
 | 6 => [Xf 0 25 1 3 [], Xl 1 26 1 25 [], Xf 2 27 2 3 [], Xl 3 28 1 27 [], Xf 4 29 5 3 [], Xl 5 30 1 29 [], Xo 6 31 (.lslice 6 (Xt 30) (some (Xi 1)) none) [], Xo 7 32 (.build Xz [(0, 1, (Xi 9)), (1, 1, (Xt 26)), (2, 1, (Xt 28)), (5, 1, (Xt 31))]) [], Xo 8 5 (.alloc Xz 25) [0, 1, 2, 3, 4, 5, 6, 7], Xs 9 6 5 32 []]
 | 7 => [Xf 0 33 2 3 [], Xl 1 34 1 33 [], Xf 2 35 5 3 [], Xl 3 36 1 35 [], Xo 4 37 (.iaddr 6 (Xt 36) (Xi 0)) [], Xg 5 38 6 37 [], Xg 6 39 6 5 [], Xo 7 40 (.bslice 25 true 6 2 Xz [(0, 6, (Xt 38)), (6, 6, (Xt 39))]) [0, 1], Xo 8 41 (.build Xz [(0, 1, (Xi 8)), (2, 1, (Xt 34)), (5, 1, (Xt 40))]) [], Xo 9 6 (.alloc Xz 25) [0, 1, 2, 3, 4, 5, 6, 8], Xs 10 6 6 41 []]
 | 8 => [Xf 0 33 2 3 [], Xl 1 34 1 33 [], Xf 2 35 5 3 [], Xl 3 36 1 35 [], Xo 4 37 (.iaddr 6 (Xt 36) (Xi 0)) [], Xg 5 38 6 37 [], Xg 6 39 6 5 [], Xo 9 6 (.alloc Xz 25) [0, 1, 2, 3, 4, 5, 6], Xo 7 40 (.bslice 25 true 6 2 Xz [(0, 6, (Xt 38)), (6, 6, (Xt 39))]) [0, 1], Xo 8 41 (.build Xz [(0, 1, (Xi 8)), (2, 1, (Xt 34)), (5, 1, (Xt 40))]) [], Xs 10 6 6 41 []]
 | 9 => [Xm 0 42 0 [], Xc 1 43 40 42 [42], Xj 2 44 .eql 43 15 [43]]
 | 10 => [Xm 0 45 0 [44], Xc 1 46 39 45 [45]]
 | 11 => [Xf 0 47 5 6 [], Xl 1 48 1 47 [], Xm 2 49 0 [], Xc 3 50 122 49 [0, 1], Xo 4 51 (.bslice 25 true 6 1 Xz [(0, 6, (Xt 50))]) [0, 1], Xo 5 52 (.append 25 6 88 Xz (Xt 48) (Xt 51)) [], Xf 6 53 5 6 [], Xs 7 1 53 52 []]
 | 13 => [Xg 0 54 6 6 [6, 0], Xs 1 6 2 54 [54]]
 | _ => []
def c106l12 : AC := (.seq (.seq (.regT c106t 9) (.cond (.tmp 44) .skip (.exit 0))) (.block 1 (.seq (.regT c106t 10) (.regD [c106t 11]))))
def c106c : AC := (.seq (.regT c106t 0) (.seq (.regT c106t 1) (.seq (.seq (.regT c106t 2) (.cond (.tmp 14) (.seq (.regT c106t 3) .ret) .skip)) (.seq (.seq (.regT c106t 4) (.cond (.tmp 22) (.regT c106t 5) .skip)) (.seq (.regD [c106t 6]) (.seq (.regD [c106t 7, c106t 8]) (.seq (.block 0 (.loop c106l12)) (.seq (.regT c106t 13) .ret))))))))
def c106a : Ann := fun id => match id with
 | 7 => [[(0, []), (1, []), (2, []), (3, []), (4, []), (5, []), (6, []), (7, [0, 1]), (8, []), (9, [0, 1, 2, 3, 4, 5, 6, 8]), (10, [])], [(0, []), (1, []), (2, []), (3, []), (4, []), (5, []), (6, []), (9, [0, 1, 2, 3, 4, 5, 6]), (7, [0, 1]), (8, []), (10, [])]]
 | 8 => Xan c106t 9
 | 9 => Xan c106t 10
 | 10 => Xan c106t 11
 | 11 => Xan c106t 13
 | n => Xan c106t n
theorem c106ok : Ko 55 c106a Tryz.f106 = some (inst c106c) := by kernel_rfl
theorem c106call : Kc 106 = true := by kernel_rfl
theorem c106res : Kr Tryz.f106 = some [.cell 2 true 6] := by kernel_rfl
def c116t : Nat → List AI
 | 0 => [Xo 0 1 (.box 25 (Xt 0)) [0], Xo 1 2 (.asg (Xi 0)) []]
 | 1 => [Xf 0 3 0 1 [2], Xl 1 4 1 3 [3]]
 | 2 => [Xj 0 6 .eql 4 6 [], Xa 1 5 6 [6]]
 | 3 => [Xj 0 7 .eql 4 8 [5], Xa 1 5 7 [7]]
 | 4 => [Xo 0 2 (.asg (Xi 0)) [5, 4, 1]]
 | 5 => [Xj 0 9 .eql 4 7 [5, 4], Xa 1 8 9 [9]]
 | 6 => [Xf 0 10 1 1 [8, 1], Xl 1 11 1 10 [10], Xc 2 12 89 11 [11], Xa 3 2 12 [12]]
 | 7 => [Xo 0 2 (.asg (Xi 2)) [8, 1]]
 | _ => []
def c116c : AC := (.seq (.regT c116t 0) (.seq (.seq (.regT c116t 1) (.block 0 (.seq (.seq (.regT c116t 2) (.cond (.tmp 5) .skip (.regT c116t 3))) (.cond (.tmp 5) (.seq (.regT c116t 4) .ret) (.seq (.regT c116t 5) (.cond (.tmp 8) (.seq (.regT c116t 6) .ret) .skip)))))) (.seq (.regT c116t 7) .ret)))
def c116a : Ann := Xan c116t
theorem c116ok : Ko 13 c116a Tryz.f116 = some (inst c116c) := by kernel_rfl
theorem c116call : Kc 116 = true := by kernel_rfl
theorem c116res : Kr Tryz.f116 = some [.tmp 2] := by kernel_rfl
def c118t : Nat → List AI
 | 0 => [Xo 0 4 (.asg (.cst (.str ⟨#[]⟩))) [], Xo 1 5 (.asg Xq) [4]]
 | 1 => [Xm 0 6 0 [5], Xm 1 7 1 [], Xd 2 8 134 6 7 [7, 6], Xo 3 9 (.not (Xt 8)) [8]]
 | 2 => [Xm 0 10 0 [9, 0, 1], Xa 1 4 10 [10], Xo 2 5 (.asg Xq) []]
 | 3 => [Xm 0 11 0 [0, 9, 5, 4], Xm 1 12 1 [1], Xo 2 13 (.len true (Xt 12)) [12], Xo 3 14 (.sslice (Xt 11) (some (Xt 13)) none) [13, 11], Xa 4 4 14 [14], Xo 5 5 (.asg Xp) []]
 | _ => []
def c118c : AC := (.seq (.regT c118t 0) (.seq (.seq (.regT c118t 1) (.cond (.tmp 9) (.seq (.regT c118t 2) .ret) .skip)) (.seq (.regT c118t 3) .ret)))
def c118a : Ann := Xan c118t
theorem c118ok : Ko 15 c118a Tryz.f118 = some (inst c118c) := by kernel_rfl
theorem c118call : Kc 118 = true := by kernel_rfl
theorem c118res : Kr Tryz.f118 = some [.tmp 4, .tmp 5] := by kernel_rfl
def c119t : Nat → List AI
 | 0 => [Xo 0 6 (.asg (Xi 0)) []]
 | 1 => [Xm 0 9 0 [6, 0], Xo 1 10 (.range (Xt 9)) [9]]
 | 2 => [Xo 0 11 (.next (Xt 10)) [6, 19, 7], Xe 1 12 11 0 []]
 | 3 => [Xe 0 13 11 1 [12], Xe 1 14 11 2 [11], Xa 2 7 13 [13], Xa 3 8 14 [14]]
 | 4 => [Xm 0 15 1 [], Xm 1 16 8 [8], ⟨2, (some 17), .call (Xt 15) [(Xt 16)], none, [16, 15]⟩, Xm 3 18 2 [], Xo 4 19 (.bbin false (Xt 17) (Xt 18)) [18, 17]]
 | 5 => [Xm 0 20 7 [19, 7, 10, 1, 2], Xa 1 6 20 [20]]
 | 7 => [Xo 0 6 (.asg (.cst (.int .i64 (-1)))) [2, 1, 10, 7, 19]]
 | _ => []
def c119l6 : AC := (.seq (.regT c119t 2) (.seq (.cond (.tmp 12) .skip (.exit 0)) (.block 1 (.seq (.regT c119t 3) (.seq (.regT c119t 4) (.cond (.tmp 19) (.seq (.regT c119t 5) .ret) .skip))))))
def c119c : AC := (.seq (.regT c119t 0) (.seq (.seq (.regT c119t 1) (.block 0 (.loop c119l6))) (.seq (.regT c119t 7) .ret)))
def c119a : Ann := fun id => match id with
 | 6 => Xan c119t 7
 | n => Xan c119t n
theorem c119ok : Ko 21 c119a Tryz.f119 = some (inst c119c) := by kernel_rfl
theorem c119call : Kc 119 = true := by kernel_rfl
theorem c119res : Kr Tryz.f119 = some [.tmp 6] := by kernel_rfl
def c120t : Nat → List AI
 | 0 => [Xo 0 4 (.alloc [(.bool false), Xw] 111) []]
 | 1 => [Xm 0 6 1 [1], Xc 1 7 135 6 [6], Xa 2 5 7 [7]]
 | 2 => [Xm 0 8 0 [0], Xm 1 9 8 [8], Xu 2 10 (.move (Xt 5)) 9 [], Xu 3 11 (.len false (Xt 10)) 9 [10], Xu 4 12 (.icmp .gtr (Xt 11) (Xi 0)) 9 [11], Xo 5 13 (.pick (Xt 9) (Xt 12) Xq) [12, 9], Xm 6 14 5 [5], Xo 7 15 (.build [(.bool false), Xw] [(0, 1, (Xt 13)), (1, 1, (Xt 14))]) [14, 13], Xs 8 2 4 15 [15]]
 | _ => []
def c120c : AC := (.seq (.regT c120t 0) (.seq (.regT c120t 1) (.seq (.regT c120t 2) .ret)))
def c120a : Ann := Xan c120t
theorem c120ok : Ko 16 c120a Tryz.f120 = some (inst c120c) := by kernel_rfl
theorem c120call : Kc 120 = true := by kernel_rfl
theorem c120res : Kr Tryz.f120 = some [.cell 4 true 2] := by kernel_rfl
def c121t : Nat → List AI
 | 0 => [Xo 0 2 (.alloc Xz 25) [], Xo 1 3 (.asg Xq) []]
 | 1 => [Xm 0 4 0 [3], Xm 1 5 0 [0], Xo 2 6 (.mkfn (.func 137) [(Xt 5)] []) [5], ⟨3, (some 7), .call (.cst (.fn (.func 136) [] [])) [(Xt 4), (Xi 2), Xp, (Xt 6)], none, [6, 4]⟩, Xe 4 8 7 0 [], Xe 5 9 7 1 [7], Xs 6 6 2 8 [8], Xa 7 3 9 [9]]
 | _ => []
def c121c : AC := (.seq (.regT c121t 0) (.seq (.regT c121t 1) .ret))
def c121a : Ann := Xan c121t
theorem c121ok : Ko 10 c121a Tryz.f121 = some (inst c121c) := by kernel_rfl
theorem c121call : Kc 121 = true := by kernel_rfl
theorem c121res : Kr Tryz.f121 = some [.cell 2 true 6, .tmp 3] := by kernel_rfl
def c122t : Nat → List AI
 | 0 => [Xo 0 2 (.alloc Xz 25) []]
 | 1 => [Xm 0 9 0 [], Xn 1 10 9 [9], Xf 2 11 0 10 [10], Xl 3 12 1 11 [11], Xo 4 13 (.iaddr 3 (Xt 12) (Xi 0)) [12], Xg 5 14 3 13 [13], Xo 6 3 (.alloc Xx 79) [], Xs 7 3 3 14 [14]]
 | 2 => [Xf 0 15 2 3 [], Xl 1 16 1 15 [15], Xo 2 17 (.build Xz [(0, 1, (Xi 9)), (2, 1, (Xt 16))]) [16], Xo 3 4 (.alloc Xz 25) [], Xs 4 6 4 17 [17]]
 | 3 => [Xf 0 18 0 3 [3], Xl 1 19 1 18 [18]]
 | 4 => [Xj 0 23 .eql 19 1 [], Xa 1 22 23 [23]]
 | 5 => [Xm 0 24 0 [22, 19, 0], Xc 1 25 39 24 [24], Xo 2 26 (.field false 1 1 (Xt 25)) [25], Xf 3 27 1 4 [], Xs 4 1 27 26 [27, 26]]
 | 6 => [Xj 0 29 .eql 19 3 [22], Xa 1 28 29 [29]]
 | 7 => [Xm 0 30 0 [28, 19], Xc 1 31 39 30 [30], Xo 2 32 (.field false 1 1 (Xt 31)) [31], Xf 3 33 1 4 [], Xs 4 1 33 32 [33, 32]]
 | 8 => [Xm 0 35 0 [0], Xc 1 36 138 35 [35], Xm 2 34 36 [36], Xe 3 37 34 0 [], Xe 4 38 34 1 [34], Xo 5 5 (.alloc Xz 25) [], Xs 6 6 5 37 [37], Xa 7 6 38 [38]]
 | 9 => [Xg 0 39 6 5 [6, 5], Xo 1 40 (.bslice 25 true 6 1 Xz [(0, 6, (Xt 39))]) [39], Xf 2 41 5 4 [], Xs 3 1 41 40 [41, 40]]
 | 10 => [Xj 0 43 .eql 19 2 [28, 19], Xa 1 42 43 [43]]
 | 11 => [Xm 0 44 0 [42], Xc 1 45 40 44 [44], Xj 2 46 .eql 45 2 [45]]
 | 12 => [Xf 0 47 1 4 [], Xl 1 48 1 47 [], Xm 2 49 0 [], Xc 3 50 39 49 [0, 1], Xo 4 51 (.field false 1 1 (Xt 50)) [], Xo 5 52 (.sbin .add (Xt 48) (Xt 51)) [], Xf 6 53 1 4 [], Xs 7 1 53 52 []]
 | 13 => [Xm 0 55 0 [], Xc 1 56 137 55 [55], Xm 2 54 56 [56], Xe 3 57 54 0 [], Xe 4 58 54 1 [54], Xo 5 7 (.alloc Xz 25) [], Xs 6 6 7 57 [57], Xa 7 8 58 [58]]
 | 14 => [Xf 0 59 5 4 [8], Xl 1 60 1 59 [59], Xg 2 61 6 7 [7], Xo 3 62 (.bslice 25 true 6 1 Xz [(0, 6, (Xt 61))]) [61], Xo 4 63 (.append 25 6 88 Xz (Xt 60) (Xt 62)) [62, 60], Xf 5 64 5 4 [], Xs 6 1 64 63 [64, 63]]
 | 16 => [Xm 0 20 0 [42, 0], ⟨1, (some 21), .call (.cst (.fn (.func 47) [] [])) [(Xt 20), (Xi 20)], none, [20]⟩]
 | 17 => [Xg 0 65 6 4 [21, 0, 4], Xs 1 6 2 65 [65]]
 | _ => []
def c122l15 : AC := (.seq (.seq (.regT c122t 11) (.cond (.tmp 46) .skip (.exit 1))) (.block 2 (.seq (.regD [c122t 12]) (.seq (.regT c122t 13) (.regT c122t 14)))))
def c122c : AC := (.seq (.regT c122t 0) (.seq (.regT c122t 1) (.seq (.regT c122t 2) (.seq (.seq (.regT c122t 3) (.block 0 (.seq (.regT c122t 4) (.cond (.tmp 22) (.regT c122t 5) (.seq (.regT c122t 6) (.cond (.tmp 28) (.seq (.regT c122t 7) (.seq (.regT c122t 8) (.regT c122t 9))) (.seq (.regT c122t 10) (.cond (.tmp 42) (.block 1 (.loop c122l15)) (.regT c122t 16))))))))) (.seq (.regT c122t 17) .ret)))))
def c122a : Ann := fun id => match id with
 | 5 => Xan c122t 4
 | 6 => Xan c122t 5
 | 7 => Xan c122t 6
 | 8 => Xan c122t 7
 | 9 => Xan c122t 8
 | 10 => Xan c122t 9
 | 11 => Xan c122t 10
 | 12 => Xan c122t 11
 | 13 => Xan c122t 12
 | 14 => Xan c122t 13
 | 15 => Xan c122t 14
 | 4 => Xan c122t 16
 | 16 => Xan c122t 17
 | n => Xan c122t n
theorem c122ok : Ko 66 c122a Tryz.f122 = some (inst c122c) := by kernel_rfl
theorem c122call : Kc 122 = true := by kernel_rfl
theorem c122res : Kr Tryz.f122 = some [.cell 2 true 6] := by kernel_rfl
def c134t : Nat → List AI
 | 0 => [Xo 0 4 (.asg Xq) []]
 | 1 => [Xm 0 5 0 [4], Xo 1 6 (.len true (Xt 5)) [5], Xm 2 7 1 [], Xo 3 8 (.len true (Xt 7)) [7], Xh 4 9 .geq 6 8 [8, 6], Xm 5 10 9 [9], Xu 6 11 (.move (Xt 0)) 10 [0], Xu 7 12 (.move (Xt 1)) 10 [], Xu 8 13 (.len true (Xt 12)) 10 [12], Xu 9 14 (.sslice (Xt 11) none (some (Xt 13))) 10 [13, 11], Xu 10 15 (.move (Xt 1)) 10 [1], Xu 11 16 (.sbin .eql (Xt 14) (Xt 15)) 10 [15, 14], Xo 12 17 (.pick (Xt 10) (Xt 16) Xq) [16, 10], Xa 13 4 17 [17]]
 | _ => []
def c134c : AC := (.seq (.regT c134t 0) (.seq (.regT c134t 1) .ret))
def c134a : Ann := Xan c134t
theorem c134ok : Ko 18 c134a Tryz.f134 = some (inst c134c) := by kernel_rfl
theorem c134call : Kc 134 = true := by kernel_rfl
theorem c134res : Kr Tryz.f134 = some [.tmp 4] := by kernel_rfl
def c135t : Nat → List AI
 | 0 => [Xo 0 2 (.asg (.cst Xw)) []]
 | 1 => [Xo 0 3 (.alloc [Xw] 67) [2]]
 | 2 => [Xm 0 7 0 [0], Xc 1 8 100 7 [7], Xc 2 9 145 8 [8]]
 | 3 => [Xa 0 5 11 [11, 10, 9]]
 | 4 => [Xm 0 12 5 [], Xo 1 13 (.shift .shr (Xt 12) (.cst (.int .u64 24))) [12], Xo 2 14 (.conv .u8 (Xt 13)) [13], Xm 3 15 5 [], Xo 4 16 (.shift .shr (Xt 15) (.cst (.int .u64 16))) [15], Xo 5 17 (.conv .u8 (Xt 16)) [16], Xm 6 18 5 [], Xo 7 19 (.shift .shr (Xt 18) (.cst (.int .u64 8))) [18], Xo 8 20 (.conv .u8 (Xt 19)) [19], Xm 9 21 5 [5], Xo 10 22 (.conv .u8 (Xt 21)) [21], Xo 11 23 (.build [(.int .u8 0), (.int .u8 0), (.int .u8 0), (.int .u8 0)] [(0, 1, (Xt 14)), (1, 1, (Xt 17)), (2, 1, (Xt 20)), (3, 1, (Xt 22))]) [22, 20, 17, 14], Xo 12 6 (.alloc [(.int .u8 0), (.int .u8 0), (.int .u8 0), (.int .u8 0)] 165) [], Xs 13 4 6 23 [23]]
 | 5 => [Xl 0 24 1 3 [], Xo 1 25 (.aslice 4 (Xt 6)) [0], Xo 2 26 (.append 5 1 1 [(.int .u8 0)] (Xt 24) (Xt 25)) [], Xs 3 1 3 26 []]
 | 7 => [Xl 0 27 1 3 [9], Xo 1 28 (.len false (Xt 27)) [27], Xj 2 29 .gtr 28 0 [28], Xm 3 30 29 [29], Xu 4 31 (.load false 1 (Xt 3)) 30 [], Xu 5 32 (.iaddr 1 (Xt 31) (Xi 0)) 30 [], Xu 6 33 (.load false 1 (Xt 32)) 30 [], Xu 7 34 (.icmp .eql (Xt 33) (.cst (.int .u8 0))) 30 [], Xo 8 35 (.pick (Xt 30) (Xt 34) Xq) [30]]
 | 8 => [Xl 0 36 1 3 [35], Xo 1 37 (.lslice 1 (Xt 36) (some (Xi 1)) none) [36], Xs 2 1 3 37 [37]]
 | 10 => [Xl 0 38 1 3 [31, 32, 33, 34, 3], Xc 1 39 146 38 [38], Xa 2 2 39 [39]]
 | _ => []
def c135r6a : AC := (.regT c135t 3)
def c135r6b : AC := (.block 1 (.seq (.regT c135t 4) (.regD [c135t 5])))
def c135l9 : AC := (.seq (.seq (.regT c135t 7) (.cond (.tmp 35) .skip (.exit 2))) (.block 3 (.regT c135t 8)))
def c135c : AC := (.seq (.regT c135t 0) (.seq (.regT c135t 1) (.seq (.seq (.regT c135t 2) (.block 0 (.rangeF (.tmp 9) [10, 11] c135r6a c135r6b))) (.seq (.block 2 (.loop c135l9)) (.seq (.regT c135t 10) .ret)))))
def c135a : Ann := fun id => match id with
 | 6 => Xan c135t 7
 | 7 => Xan c135t 8
 | 8 => Xan c135t 10
 | n => Xan c135t n
theorem c135ok : Ko 40 c135a Tryz.f135 = some (inst c135c) := by kernel_rfl
theorem c135call : Kc 135 = true := by kernel_rfl
theorem c135res : Kr Tryz.f135 = some [.tmp 2] := by kernel_rfl
def c136t : Nat → List AI
 | 0 => [Xo 0 8 (.alloc Xz 25) [], Xo 1 9 (.asg Xq) []]
 | 1 => [Xm 0 13 3 [9, 3], ⟨1, (some 14), .call (Xt 13) [], none, [13]⟩, Xm 2 12 14 [14], Xe 3 15 12 0 [], Xe 4 16 12 1 [12], Xo 5 10 (.alloc Xz 25) [], Xs 6 6 10 15 [15], Xa 7 11 16 [16]]
 | 2 => [Xm 0 17 0 [24], Xc 1 18 40 17 [17], Xm 2 19 1 [], Xh 3 20 .eql 18 19 [19, 18]]
 | 3 => [Xm 0 21 0 [20, 11], Xg 1 22 6 10 [], Xd 2 23 147 21 22 [22, 21], Xs 3 6 10 23 [23], Xo 4 11 (.asg Xp) []]
 | 4 => [Xm 0 24 2 []]
 | 6 => [Xg 0 25 6 10 [24, 10, 0, 1, 2], Xm 1 26 11 [11], Xs 2 6 8 25 [25], Xa 3 9 26 [26]]
 | _ => []
def c136l5 : AC := (.seq (.seq (.regT c136t 2) (.cond (.tmp 20) .skip (.exit 0))) (.block 1 (.seq (.regT c136t 3) (.seq (.regT c136t 4) (.cond (.tmp 24) (.exit 0) .skip)))))
def c136c : AC := (.seq (.regT c136t 0) (.seq (.regT c136t 1) (.seq (.block 0 (.loop c136l5)) (.seq (.regT c136t 6) .ret))))
def c136a : Ann := fun id => match id with
 | 5 => Xan c136t 6
 | n => Xan c136t n
theorem c136ok : Ko 27 c136a Tryz.f136 = some (inst c136c) := by kernel_rfl
theorem c136call : Kc 136 = true := by kernel_rfl
theorem c136res : Kr Tryz.f136 = some [.cell 8 true 6, .tmp 9] := by kernel_rfl
def c137t : Nat → List AI
 | 0 => [Xo 0 2 (.alloc Xz 25) [], Xo 1 3 (.asg Xq) []]
 | 1 => [Xm 0 4 0 [3], Xm 1 5 0 [0], Xo 2 6 (.mkfn (.func 138) [(Xt 5)] []) [5], ⟨3, (some 7), .call (.cst (.fn (.func 136) [] [])) [(Xt 4), (Xi 3), Xq, (Xt 6)], none, [6, 4]⟩, Xe 4 8 7 0 [], Xe 5 9 7 1 [7], Xs 6 6 2 8 [8], Xa 7 3 9 [9]]
 | _ => []
def c137c : AC := (.seq (.regT c137t 0) (.seq (.regT c137t 1) .ret))
def c137a : Ann := Xan c137t
theorem c137ok : Ko 10 c137a Tryz.f137 = some (inst c137c) := by kernel_rfl
theorem c137call : Kc 137 = true := by kernel_rfl
theorem c137res : Kr Tryz.f137 = some [.cell 2 true 6, .tmp 3] := by kernel_rfl
def c138t : Nat → List AI
 | 0 => [Xo 0 2 (.alloc Xz 25) [], Xo 1 3 (.asg Xq) []]
 | 1 => [Xm 0 4 0 [3], Xm 1 5 0 [0], Xo 2 6 (.mkfn (.func 148) [(Xt 5)] []) [5], ⟨3, (some 7), .call (.cst (.fn (.func 136) [] [])) [(Xt 4), (Xi 1), Xq, (Xt 6)], none, [6, 4]⟩, Xe 4 8 7 0 [], Xe 5 9 7 1 [7], Xs 6 6 2 8 [8], Xa 7 3 9 [9]]
 | _ => []
def c138c : AC := (.seq (.regT c138t 0) (.seq (.regT c138t 1) .ret))
def c138a : Ann := Xan c138t
theorem c138ok : Ko 10 c138a Tryz.f138 = some (inst c138c) := by kernel_rfl
theorem c138call : Kc 138 = true := by kernel_rfl
theorem c138res : Kr Tryz.f138 = some [.cell 2 true 6, .tmp 3] := by kernel_rfl
def c145t : Nat → List AI
 | 0 => [Xo 0 1 (.box 134 (Xt 0)) [0], Xo 1 2 (.asg (.cst .nilF)) []]
 | 1 => [Xo 0 3 (.mkfn (.func 154) [] [(Xt 1)]) [2, 1], Xa 1 2 3 [3]]
 | _ => []
def c145c : AC := (.seq (.regT c145t 0) (.seq (.regT c145t 1) .ret))
def c145a : Ann := Xan c145t
theorem c145ok : Ko 4 c145a Tryz.f145 = some (inst c145c) := by kernel_rfl
theorem c145call : Kc 145 = true := by kernel_rfl
theorem c145res : Kr Tryz.f145 = some [.tmp 2] := by kernel_rfl
def c146t : Nat → List AI
 | 0 => [Xo 0 2 (.asg (.cst Xw)) []]
 | 1 => [Xm 0 3 0 [2], Xo 1 4 (.eqnil 1 false (Xt 3)) [3]]
 | 2 => [Xo 0 2 (.asg (.cst Xw)) [4, 0]]
 | 3 => [Xo 0 5 (.bslice 5 false 1 0 [(.int .u8 0)] []) [4, 2], Xm 1 6 0 [0], Xo 2 7 (.append 5 1 1 [(.int .u8 0)] (Xt 5) (Xt 6)) [6, 5], Xa 3 2 7 [7]]
 | _ => []
def c146c : AC := (.seq (.regT c146t 0) (.seq (.seq (.regT c146t 1) (.cond (.tmp 4) (.seq (.regT c146t 2) .ret) .skip)) (.seq (.regT c146t 3) .ret)))
def c146a : Ann := Xan c146t
theorem c146ok : Ko 8 c146a Tryz.f146 = some (inst c146c) := by kernel_rfl
theorem c146call : Kc 146 = true := by kernel_rfl
theorem c146res : Kr Tryz.f146 = some [.tmp 2] := by kernel_rfl
def c147t : Nat → List AI
 | 0 => [Xo 0 3 (.box 25 (Xt 1)) [1], Xo 1 4 (.alloc Xz 25) []]
 | 1 => [Xm 0 6 0 [0], Xc 1 7 122 6 [6], Xo 2 5 (.alloc Xz 25) [], Xs 3 6 5 7 [7]]
 | 2 => [Xf 0 8 1 5 [], Xl 1 9 1 8 [], Xf 2 10 2 5 [], Xl 3 11 1 10 [], Xg 4 12 6 3 [], Xf 6 14 5 5 [], Xl 7 15 1 14 [], Xo 5 13 (.bslice 25 true 6 1 Xz [(0, 6, (Xt 12))]) [0, 1, 2, 3, 6, 7], Xo 8 16 (.append 25 6 88 Xz (Xt 13) (Xt 15)) [0, 1, 2, 3], Xo 9 17 (.build Xz [(0, 1, (Xi 7)), (1, 1, (Xt 9)), (2, 1, (Xt 11)), (5, 1, (Xt 16))]) [], Xs 10 6 4 17 []]
 | _ => []
def c147c : AC := (.seq (.regT c147t 0) (.seq (.regT c147t 1) (.seq (.regD [c147t 2]) .ret)))
def c147a : Ann := Xan c147t
theorem c147ok : Ko 18 c147a Tryz.f147 = some (inst c147c) := by kernel_rfl
theorem c147call : Kc 147 = true := by kernel_rfl
theorem c147res : Kr Tryz.f147 = some [.cell 4 true 6] := by kernel_rfl
def c148t : Nat → List AI
 | 0 => [Xo 0 1 (.box 43 (Xt 0)) [0], Xo 1 2 (.alloc Xz 25) [], Xo 2 3 (.asg Xq) []]
 | 1 => [Xl 0 6 1 1 [3], Xn 1 7 6 [6], Xf 2 8 0 7 [7], Xl 3 9 1 8 [8], Xo 4 10 (.iaddr 3 (Xt 9) (Xi 0)) [9], Xg 5 11 3 10 [10], Xo 6 4 (.alloc Xx 79) [], Xs 7 3 4 11 [11]]
 | 2 => [Xf 0 12 1 4 [], Xl 1 13 1 12 [12], Xf 2 14 2 4 [], Xl 3 15 1 14 [14], Xo 4 16 (.build Xz [(1, 1, (Xt 13)), (2, 1, (Xt 15))]) [15, 13], Xo 5 5 (.alloc Xz 25) [], Xs 6 6 5 16 [16]]
 | 3 => [Xf 0 17 0 4 [4], Xl 1 18 1 17 [17]]
 | 4 => [Xj 0 22 .eql 18 1 [], Xa 1 21 22 [22]]
 | 5 => [Xf 0 23 0 5 [21, 18], ⟨1, none, .o (.store 1 (Xt 23) (Xi 5)), none, [23]⟩]
 | 6 => [Xj 0 25 .eql 18 4 [21], Xa 1 24 25 [25]]
 | 7 => [Xf 0 26 0 5 [24, 18], ⟨1, none, .o (.store 1 (Xt 26) (Xi 1)), none, [26]⟩]
 | 8 => [Xj 0 28 .eql 18 5 [24], Xa 1 27 28 [28]]
 | 9 => [Xf 0 29 0 5 [27, 18], ⟨1, none, .o (.store 1 (Xt 29) (Xi 2)), none, [29]⟩]
 | 10 => [Xj 0 31 .eql 18 6 [27], Xa 1 30 31 [31]]
 | 11 => [Xf 0 32 0 5 [30, 18], ⟨1, none, .o (.store 1 (Xt 32) (Xi 3)), none, [32]⟩]
 | 12 => [Xj 0 34 .eql 18 17 [30], Xa 1 33 34 [34]]
 | 13 => [Xl 0 35 1 1 [33, 18, 5, 1], Xc 1 36 155 35 [35], Xs 2 6 2 36 [36], Xo 3 3 (.asg Xp) []]
 | 14 => [Xj 0 38 .eql 18 10 [33], Xa 1 37 38 [38]]
 | 15 => [Xl 0 39 1 1 [37, 18, 5, 1], Xc 1 40 156 39 [39], Xs 2 6 2 40 [40], Xo 3 3 (.asg Xp) []]
 | 16 => [Xj 0 42 .eql 18 8 [37, 18], Xa 1 41 42 [42]]
 | 17 => [Xl 0 43 1 1 [41], Xo 1 44 (.mkfn (.func 157) [] [(Xt 1), (Xt 5)]) [1], Xd 2 45 104 43 44 [44, 43]]
 | 18 => [Xg 0 46 6 5 [45, 5], Xs 1 6 2 46 [46], Xo 2 3 (.asg Xq) []]
 | 19 => [Xl 0 19 1 1 [41], ⟨1, (some 20), .call (.cst (.fn (.func 47) [] [])) [(Xt 19), (Xi 20)], none, [19]⟩]
 | 20 => [Xl 0 47 1 1 [20, 3, 1], Xc 1 48 39 47 [47]]
 | 21 => [Xg 0 49 6 5 [48, 5], Xs 1 6 2 49 [49], Xo 2 3 (.asg Xp) []]
 | _ => []
def c148c : AC := (.seq (.regT c148t 0) (.seq (.regT c148t 1) (.seq (.regT c148t 2) (.seq (.seq (.regT c148t 3) (.block 0 (.seq (.regT c148t 4) (.cond (.tmp 21) (.regT c148t 5) (.seq (.regT c148t 6) (.cond (.tmp 24) (.regT c148t 7) (.seq (.regT c148t 8) (.cond (.tmp 27) (.regT c148t 9) (.seq (.regT c148t 10) (.cond (.tmp 30) (.regT c148t 11) (.seq (.regT c148t 12) (.cond (.tmp 33) (.seq (.regT c148t 13) .ret) (.seq (.regT c148t 14) (.cond (.tmp 37) (.seq (.regT c148t 15) .ret) (.seq (.regT c148t 16) (.cond (.tmp 41) (.seq (.regT c148t 17) (.seq (.regT c148t 18) .ret)) (.regT c148t 19))))))))))))))))) (.seq (.regT c148t 20) (.seq (.regT c148t 21) .ret))))))
def c148a : Ann := fun id => match id with
 | 5 => Xan c148t 4
 | 6 => Xan c148t 5
 | 7 => Xan c148t 6
 | 8 => Xan c148t 7
 | 9 => Xan c148t 8
 | 10 => Xan c148t 9
 | 11 => Xan c148t 10
 | 12 => Xan c148t 11
 | 13 => Xan c148t 12
 | 14 => Xan c148t 13
 | 15 => Xan c148t 14
 | 16 => Xan c148t 15
 | 17 => Xan c148t 16
 | 18 => Xan c148t 17
 | 19 => Xan c148t 18
 | 4 => Xan c148t 19
 | n => Xan c148t n
theorem c148ok : Ko 50 c148a Tryz.f148 = some (inst c148c) := by kernel_rfl
theorem c148call : Kc 148 = true := by kernel_rfl
theorem c148res : Kr Tryz.f148 = some [.cell 2 true 6, .tmp 3] := by kernel_rfl
end Go.SL
set_option maxRecDepth 100000
namespace Go.SL
open Go.Proofs
def c154t : Nat → List AI
 | 0 => [Xl 0 4 1 1 [], Xo 1 5 (.len false (Xt 4)) [4], Xb 2 6 .sub 5 1 [5], Xa 3 3 6 [6]]
 | 1 => [Xm 0 7 3 [], Xj 1 8 .geq 7 0 [7]]
 | 2 => [Xm 0 11 0 [8], Xm 1 12 3 [], Xl 2 13 1 1 [], Xm 3 14 3 [], Xo 4 15 (.iaddr 1 (Xt 13) (Xt 14)) [14, 13], Xl 5 16 1 15 [15], ⟨6, (some 17), .call (Xt 11) [(Xt 12), (Xt 16)], none, [16, 12, 11]⟩, Xo 7 18 (.not (Xt 17)) [17]]
 | 3 => [Xm 0 9 3 [18, 3], Xb 1 10 .sub 9 1 [9], Xa 2 3 10 [10]]
 | _ => []
def c154l4 : AC := (.seq (.seq (.regT c154t 1) (.cond (.tmp 8) .skip (.exit 0))) (.seq (.block 1 (.seq (.regT c154t 2) (.cond (.tmp 18) .ret .skip))) (.regT c154t 3)))
def c154c : AC := (.seq (.regT c154t 0) (.block 0 (.loop c154l4)))
def c154a : Ann := fun id => match id with
 | 3 => Xan c154t 2
 | 2 => Xan c154t 3
 | n => Xan c154t n
theorem c154ok : Ko 19 c154a Tryz.f154 = some (inst c154c) := by kernel_rfl
theorem c154call : Kc 154 = true := by kernel_rfl
theorem c154res : Kr Tryz.f154 = some [] := by kernel_rfl
def c155t : Nat → List AI
 | 0 => [Xo 0 1 (.box 43 (Xt 0)) [0], Xo 1 2 (.alloc Xz 25) []]
 | 1 => [Xl 0 4 1 1 [], Xn 1 5 4 [4], Xf 2 6 0 5 [5], Xl 3 7 1 6 [6], Xo 4 8 (.iaddr 3 (Xt 7) (Xi 0)) [7], Xf 5 9 2 8 [8], Xl 6 10 1 9 [9], Xo 7 11 (.build Xz [(0, 1, (Xi 4)), (2, 1, (Xt 10))]) [10], Xo 8 3 (.alloc Xz 25) [], Xs 9 6 3 11 [11]]
 | 2 => [Xl 0 12 1 1 [], Xo 1 13 (.mkfn (.func 159) [] [(Xt 1), (Xt 3)]) [1], Xd 2 14 104 12 13 [13, 12]]
 | 3 => [Xg 0 15 6 3 [14, 3], Xs 1 6 2 15 [15]]
 | _ => []
def c155c : AC := (.seq (.regT c155t 0) (.seq (.regT c155t 1) (.seq (.regT c155t 2) (.seq (.regT c155t 3) .ret))))
def c155a : Ann := Xan c155t
theorem c155ok : Ko 16 c155a Tryz.f155 = some (inst c155c) := by kernel_rfl
theorem c155call : Kc 155 = true := by kernel_rfl
theorem c155res : Kr Tryz.f155 = some [.cell 2 true 6] := by kernel_rfl
def c156t : Nat → List AI
 | 0 => [Xo 0 1 (.box 43 (Xt 0)) [0], Xo 1 2 (.alloc Xz 25) []]
 | 1 => [Xl 0 4 1 1 [], Xn 1 5 4 [4], Xf 2 6 0 5 [5], Xl 3 7 1 6 [6], Xo 4 8 (.iaddr 3 (Xt 7) (Xi 0)) [7], Xf 5 9 2 8 [8], Xl 6 10 1 9 [9], Xo 7 11 (.build Xz [(0, 1, (Xi 10)), (2, 1, (Xt 10))]) [10], Xo 8 3 (.alloc Xz 25) [], Xs 9 6 3 11 [11]]
 | 2 => [Xl 0 12 1 1 [], Xo 1 13 (.mkfn (.func 161) [] [(Xt 1), (Xt 3)]) [1], Xd 2 14 104 12 13 [13, 12]]
 | 3 => [Xg 0 15 6 3 [14, 3], Xs 1 6 2 15 [15]]
 | _ => []
def c156c : AC := (.seq (.regT c156t 0) (.seq (.regT c156t 1) (.seq (.regT c156t 2) (.seq (.regT c156t 3) .ret))))
def c156a : Ann := Xan c156t
theorem c156ok : Ko 16 c156a Tryz.f156 = some (inst c156c) := by kernel_rfl
theorem c156call : Kc 156 = true := by kernel_rfl
theorem c156res : Kr Tryz.f156 = some [.cell 2 true 6] := by kernel_rfl
def c157t : Nat → List AI
 | 0 => [Xl 0 2 1 0 [], Xc 1 3 76 2 [2], Xs 2 6 1 3 [3, 1]]
 | 1 => [Xl 0 4 1 0 [0], ⟨1, (some 5), .call (.cst (.fn (.func 38) [] [])) [(Xt 4), (Xi 9)], none, [4]⟩]
 | _ => []
def c157c : AC := (.seq (.regT c157t 0) (.regT c157t 1))
def c157a : Ann := Xan c157t
theorem c157ok : Ko 6 c157a Tryz.f157 = some (inst c157c) := by kernel_rfl
theorem c157call : Kc 157 = true := by kernel_rfl
theorem c157res : Kr Tryz.f157 = some [] := by kernel_rfl
def c159t : Nat → List AI
 | 0 => [Xl 0 2 1 0 [], Xc 1 3 40 2 [2], Xj 2 4 .neq 3 9 [3]]
 | 1 => [Xf 0 5 5 1 [], Xl 1 6 1 5 [], Xl 2 7 1 0 [], Xo 4 9 (.len false (Xt 6)) [], Xc 3 8 160 7 [0, 1, 4], Xo 5 10 (.bslice 25 true 6 1 Xz [(0, 6, (.cst (.agg Xz)))]) [0, 1, 2, 4], Xo 6 11 (.append 25 6 88 Xz (Xt 6) (Xt 10)) [], Xo 7 12 (.iaddr 6 (Xt 11) (Xt 9)) [], Xf 9 13 5 1 [], Xs 8 6 12 8 [9], Xs 10 1 13 11 [7]]
 | 2 => [Xf 0 5 5 1 [], Xl 1 6 1 5 [], Xl 2 7 1 0 [], Xo 4 9 (.len false (Xt 6)) [], Xc 3 8 160 7 [0, 1, 4], Xo 5 10 (.bslice 25 true 6 1 Xz [(0, 6, (.cst (.agg Xz)))]) [0, 1, 2, 4], Xo 6 11 (.append 25 6 88 Xz (Xt 6) (Xt 10)) [], Xo 7 12 (.iaddr 6 (Xt 11) (Xt 9)) [], Xf 9 13 5 1 [], Xs 10 1 13 11 [7], Xs 8 6 12 8 [9]]
 | 3 => [Xf 0 5 5 1 [], Xl 1 6 1 5 [], Xl 2 7 1 0 [], Xo 4 9 (.len false (Xt 6)) [], Xo 5 10 (.bslice 25 true 6 1 Xz [(0, 6, (.cst (.agg Xz)))]) [0, 1, 2, 4], Xc 3 8 160 7 [0, 1, 4], Xo 6 11 (.append 25 6 88 Xz (Xt 6) (Xt 10)) [], Xo 7 12 (.iaddr 6 (Xt 11) (Xt 9)) [], Xf 9 13 5 1 [], Xs 8 6 12 8 [9], Xs 10 1 13 11 [7]]
 | 4 => [Xf 0 5 5 1 [], Xl 1 6 1 5 [], Xl 2 7 1 0 [], Xo 4 9 (.len false (Xt 6)) [], Xo 5 10 (.bslice 25 true 6 1 Xz [(0, 6, (.cst (.agg Xz)))]) [0, 1, 2, 4], Xc 3 8 160 7 [0, 1, 4], Xo 6 11 (.append 25 6 88 Xz (Xt 6) (Xt 10)) [], Xo 7 12 (.iaddr 6 (Xt 11) (Xt 9)) [], Xf 9 13 5 1 [], Xs 10 1 13 11 [7], Xs 8 6 12 8 [9]]
 | 6 => [Xl 0 14 1 0 [0, 1], Xc 1 15 39 14 [14]]
 | _ => []
def c159l5 : AC := (.seq (.seq (.regT c159t 0) (.cond (.tmp 4) .skip (.exit 0))) (.block 1 (.regD [c159t 1, c159t 2, c159t 3, c159t 4])))
def c159c : AC := (.seq (.block 0 (.loop c159l5)) (.regT c159t 6))
def c159a : Ann := fun id => match id with
 | 1 => [[(0, []), (1, []), (2, []), (4, []), (3, [0, 1, 4]), (5, [0, 1, 2, 4]), (6, []), (7, []), (9, []), (8, [9]), (10, [7])], [(0, []), (1, []), (2, []), (4, []), (3, [0, 1, 4]), (5, [0, 1, 2, 4]), (6, []), (7, []), (9, []), (10, [7]), (8, [9])], [(0, []), (1, []), (2, []), (4, []), (5, [0, 1, 2, 4]), (3, [0, 1, 4]), (6, []), (7, []), (9, []), (8, [9]), (10, [7])], [(0, []), (1, []), (2, []), (4, []), (5, [0, 1, 2, 4]), (3, [0, 1, 4]), (6, []), (7, []), (9, []), (10, [7]), (8, [9])]]
 | 2 => Xan c159t 6
 | n => Xan c159t n
theorem c159ok : Ko 16 c159a Tryz.f159 = some (inst c159c) := by kernel_rfl
theorem c159call : Kc 159 = true := by kernel_rfl
theorem c159res : Kr Tryz.f159 = some [] := by kernel_rfl
def c160t : Nat → List AI
 | 0 => [Xo 0 2 (.alloc Xz 25) []]
 | 1 => [Xm 0 5 0 [], Xn 1 6 5 [5], Xf 2 7 0 6 [6], Xl 3 8 1 7 [7], Xo 4 9 (.iaddr 3 (Xt 8) (Xi 0)) [8], Xg 5 10 3 9 [9], Xo 6 3 (.alloc Xx 79) [], Xs 7 3 3 10 [10]]
 | 2 => [Xf 0 11 1 3 [], Xl 1 12 1 11 [11], Xf 2 13 2 3 [], Xl 3 14 1 13 [13], Xo 4 15 (.build Xz [(0, 1, (Xi 3)), (1, 1, (Xt 12)), (2, 1, (Xt 14))]) [14, 12], Xo 5 4 (.alloc Xz 25) [], Xs 6 6 4 15 [15]]
 | 3 => [Xf 0 16 0 3 [], Xl 1 17 1 16 [16]]
 | 4 => [Xj 0 21 .eql 17 17 [], Xa 1 20 21 [21]]
 | 5 => [Xj 0 22 .eql 17 8 [20], Xa 1 20 22 [22]]
 | 6 => [Xm 0 23 0 [20, 17, 4, 3, 0], Xc 1 24 155 23 [23], Xs 2 6 2 24 [24]]
 | 7 => [Xj 0 26 .eql 17 4 [20], Xa 1 25 26 [26]]
 | 8 => [Xf 0 27 0 4 [25, 17, 3], ⟨1, none, .o (.store 1 (Xt 27) (Xi 1)), none, [27]⟩]
 | 9 => [Xj 0 29 .eql 17 5 [25], Xa 1 28 29 [29]]
 | 10 => [Xf 0 30 0 4 [28, 17, 3], ⟨1, none, .o (.store 1 (Xt 30) (Xi 2)), none, [30]⟩]
 | 11 => [Xj 0 32 .eql 17 1 [28], Xa 1 31 32 [32]]
 | 12 => [Xf 0 33 1 3 [31, 17], Xl 1 34 1 33 [33], Xo 2 35 (.sbin .eql (Xt 34) (.cst (.str ⟨#[116, 114, 117, 101]⟩))) [34], Xm 3 36 35 [35], Xv 4 37 (.faddr 1 (Xt 3)) 36 [], Xv 5 38 (.load false 1 (Xt 37)) 36 [37], Xv 6 39 (.sbin .eql (Xt 38) (.cst (.str ⟨#[102, 97, 108, 115, 101]⟩))) 36 [38], Xo 7 40 (.pick (Xt 36) Xp (Xt 39)) [39, 36], Xm 8 41 40 [40], Xv 9 42 (.faddr 1 (Xt 3)) 41 [3], Xv 10 43 (.load false 1 (Xt 42)) 41 [42], Xv 11 44 (.sbin .eql (Xt 43) (.cst (.str ⟨#[110, 105, 108]⟩))) 41 [43], Xo 12 45 (.pick (Xt 41) Xp (Xt 44)) [44, 41]]
 | 13 => [Xf 0 46 0 4 [45], ⟨1, none, .o (.store 1 (Xt 46) (Xi 13)), none, [46]⟩]
 | 14 => [Xj 0 48 .eql 17 6 [31, 3], Xa 1 47 48 [48]]
 | 15 => [Xj 0 49 .eql 17 2 [47], Xa 1 47 49 [49]]
 | 16 => [Xj 0 50 .eql 17 3 [47, 17], Xa 1 47 50 [50]]
 | 17 => [Xm 0 18 0 [47, 17], ⟨1, (some 19), .call (.cst (.fn (.func 47) [] [])) [(Xt 18), (Xi 20)], none, [18]⟩]
 | 18 => [Xm 0 51 0 [0, 45, 19, 47, 17], Xc 1 52 39 51 [51]]
 | 19 => [Xg 0 53 6 4 [52, 4], Xs 1 6 2 53 [53]]
 | _ => []
def c160c : AC := (.seq (.regT c160t 0) (.seq (.regT c160t 1) (.seq (.regT c160t 2) (.seq (.seq (.regT c160t 3) (.block 0 (.seq (.seq (.regT c160t 4) (.cond (.tmp 20) .skip (.regT c160t 5))) (.cond (.tmp 20) (.seq (.regT c160t 6) .ret) (.seq (.regT c160t 7) (.cond (.tmp 25) (.regT c160t 8) (.seq (.regT c160t 9) (.cond (.tmp 28) (.regT c160t 10) (.seq (.regT c160t 11) (.cond (.tmp 31) (.seq (.regT c160t 12) (.cond (.tmp 45) (.regT c160t 13) .skip)) (.seq (.seq (.regT c160t 14) (.cond (.tmp 47) .skip (.seq (.regT c160t 15) (.cond (.tmp 47) .skip (.regT c160t 16))))) (.cond (.tmp 47) .skip (.regT c160t 17))))))))))))) (.seq (.regT c160t 18) (.seq (.regT c160t 19) .ret))))))
def c160a : Ann := fun id => match id with
 | 5 => Xan c160t 4
 | 6 => Xan c160t 5
 | 7 => Xan c160t 6
 | 8 => Xan c160t 7
 | 9 => Xan c160t 8
 | 10 => Xan c160t 9
 | 11 => Xan c160t 10
 | 12 => Xan c160t 11
 | 13 => Xan c160t 12
 | 14 => Xan c160t 13
 | 15 => Xan c160t 14
 | 16 => Xan c160t 15
 | 17 => Xan c160t 16
 | 4 => Xan c160t 17
 | n => Xan c160t n
theorem c160ok : Ko 54 c160a Tryz.f160 = some (inst c160c) := by kernel_rfl
theorem c160call : Kc 160 = true := by kernel_rfl
theorem c160res : Kr Tryz.f160 = some [.cell 2 true 6] := by kernel_rfl
def c161t : Nat → List AI
 | 0 => [Xl 0 2 1 0 [], Xc 1 3 40 2 [2], Xj 2 4 .eql 3 16 [3]]
 | 1 => [Xl 0 5 1 0 [4], Xc 1 6 39 5 [5]]
 | 2 => [Xf 0 7 4 1 [], Xl 1 8 1 7 [], Xl 2 9 1 0 [], ⟨3, (some 10), .call (.cst (.fn (.func 38) [] [])) [(Xt 9), (Xi 1)], none, [0, 1]⟩, Xo 4 11 (.field false 1 1 (Xt 10)) [], Xo 5 12 (.bslice 9 false 1 1 [(.str ⟨#[]⟩)] [(0, 1, (Xt 11))]) [0, 1], Xo 6 13 (.append 9 1 16 [(.str ⟨#[]⟩)] (Xt 8) (Xt 12)) [], Xf 7 14 4 1 [], Xs 8 1 14 13 []]
 | 4 => [Xf 0 15 4 1 [], Xl 1 16 1 15 [15], Xo 2 17 (.len false (Xt 16)) [16], Xf 3 18 3 1 [], Xs 4 1 18 17 [18, 17]]
 | 5 => [Xf 0 19 3 1 [], Xl 1 20 1 19 [19], Xj 2 21 .gtr 20 0 [20], Xm 3 22 21 [21], Xu 4 23 (.load false 1 (Xt 0)) 22 [], ⟨5, (some 24), .call (.cst (.fn (.func 40) [] [])) [(Xt 23)], (some (22, true)), [23]⟩, Xu 6 25 (.icmp .neq (Xt 24) (Xi 11)) 22 [24], Xo 7 26 (.pick (Xt 22) (Xt 25) Xq) [25, 22]]
 | 6 => [Xl 0 27 1 0 [26], ⟨1, (some 28), .call (.cst (.fn (.func 38) [] [])) [(Xt 27), (Xi 12)], none, [27]⟩]
 | 7 => [Xl 0 29 1 0 [26, 28], ⟨1, (some 30), .call (.cst (.fn (.func 28) [] [])) [(Xt 29), (Xt 1), (Xi 11)], none, [29, 1]⟩]
 | 8 => [Xl 0 31 1 0 [30, 0], Xc 1 32 39 31 [31]]
 | _ => []
def c161l3 : AC := (.seq (.seq (.regT c161t 0) (.cond (.tmp 4) .skip (.exit 0))) (.block 1 (.seq (.regT c161t 1) (.regD [c161t 2]))))
def c161c : AC := (.seq (.block 0 (.loop c161l3)) (.seq (.seq (.regT c161t 4) (.seq (.regT c161t 5) (.cond (.tmp 26) (.regT c161t 6) .skip))) (.seq (.regT c161t 7) (.regT c161t 8))))
def c161a : Ann := fun id => match id with
 | 3 => Xan c161t 4
 | 4 => Xan c161t 5
 | 5 => Xan c161t 6
 | 6 => Xan c161t 7
 | 7 => Xan c161t 8
 | n => Xan c161t n
theorem c161ok : Ko 33 c161a Tryz.f161 = some (inst c161c) := by kernel_rfl
theorem c161call : Kc 161 = true := by kernel_rfl
theorem c161res : Kr Tryz.f161 = some [] := by kernel_rfl
end Go.SL
namespace Go.SL
open Go.Proofs
set_option maxRecDepth 10000
def letterS (c : Int) : Bool := decide (97 ≤ c) && decide (c ≤ 122) || decide (65 ≤ c) && decide (c ≤ 90)
def digitS (c : Int) : Bool := decide (48 ≤ c) && decide (c ≤ 57)
theorem byte_cases (p : Int → Prop) [DecidablePred p] (h : ∀ n : Fin 256, p (n.val : Int)) (c : Int) (h0 : 0 ≤ c) (h1 : c < 256) : p c := by
 have := h ⟨c.toNat, by omega⟩
 simpa [Int.toNat_of_nonneg h0] using this
theorem letter_or (c : Int) (h0 : 0 ≤ c) (h1 : c < 256) : (decide (97 ≤ orK .u8 c 32) && decide (orK .u8 c 32 ≤ 122)) = letterS c :=
 byte_cases (fun c => (decide (97 ≤ orK .u8 c 32) && decide (orK .u8 c 32 ≤ 122)) = letterS c) (by decide) c h0 h1
theorem f64_ok (c : Int) (h0 : 0 ≤ c) (h1 : c < 256) : DF Tryz.prog 64 [.int .u8 c] (.bool (letterS c)) := by
 have hl := letter_or c h0 h1
 refine AF.start 60 Tryz.func64 rfl rfl c64call c64ok ?_
 simp [c64c, c64t]
 refine ATT.cC (fun h => ?_) (fun h => ?_)
 ·simp [h]
  refine ATT.fin Tryz.func64 c64res ?_
  simp [h] at hl ⊢
  exact hl
 ·simp [h]
  refine ATT.fin Tryz.func64 c64res ?_
  simp [h] at hl ⊢
  exact hl
theorem f66_ok (c : Int) : DF Tryz.prog 66 [.int .u8 c] (.bool (digitS c)) := by
 refine AF.start 60 Tryz.func66 rfl rfl c66call c66ok ?_
 simp [c66c, c66t]
 refine ATT.cC (fun h => ?_) (fun h => ?_)
 ·simp [h]
  refine ATT.fin Tryz.func66 c66res ?_
  simp [digitS, h]
 ·simp [h]
  refine ATT.fin Tryz.func66 c66res ?_
  simp [digitS, h]
def identS (c : Int) : Bool := letterS c || digitS c || decide (c = 95)
theorem f65_ok (c : Int) (h0 : 0 ≤ c) (h1 : c < 256) : DF Tryz.prog 65 [.int .u8 c] (.bool (identS c)) := by
 refine AF.start 60 Tryz.func65 rfl rfl c65call c65ok ?_
 simp [c65c, c65t]
 refine ATT.callD Tryz.func65 60 (f64_ok c h0 h1) trivial (by simp) rfl ?_
 simp
 cases hl : letterS c with
 | true =>
  simp
  refine ATT.fin Tryz.func65 c65res ?_
  simp [identS, hl]
 | false =>
  simp
  refine ATT.callD Tryz.func65 60 (f66_ok c) (by simp) (by simp) rfl ?_
  simp
  cases hd : digitS c with
  | true =>
   simp
   refine ATT.fin Tryz.func65 c65res ?_
   simp [identS, hl, hd]
  | false =>
   simp
   refine ATT.fin Tryz.func65 c65res ?_
   simp [identS, hl, hd]
theorem sbyte_bd (s : ByteArray) (i : Int) : 0 ≤ sbyte s i ∧ sbyte s i < 256 := by
 unfold sbyte
 have := (s.data.toList.getD i.toNat 0).toNat_lt
 omega
abbrev RD (s : ByteArray) (i : Nat) : List Bx := [.cells [.d (.str s), .d (.int .i64 i)] 76]
def FnB (g : FuncId) (p : Int → Bool) : Prop := ∀ c, 0 ≤ c → c < 256 → DF Tryz.prog g [.int .u8 c] (.bool (p c))
theorem f63_ok {g : FuncId} {p : Int → Bool} (hp : FnB g p) (s : ByteArray) (i : Nat) :
  MF Tryz.prog 63 [.ptr 0 0, .d (.fn (.func g) [] [])] (RD s i) (.d (.bool (decide (i < s.size) && p (sbyte s i)))) (RD s i) := by
 refine AF.start 60 Tryz.func63 rfl rfl c63call c63ok ?_
 simp [c63c, c63t, RD]
 refine ATT.cE (fun h => ?_) (fun h => ?_)
 ·simp [h]
  refine ATT.callRD Tryz.func63 60 (hp (sbyte s i) (sbyte_bd s i).1 (sbyte_bd s i).2) (by simp) (by simp) (by simp [inR, h]) ?_
  simp
  refine ATT.fin Tryz.func63 c63res ?_
  simp
 ·simp [h]
  refine ATT.fin Tryz.func63 c63res ?_
  simp
def skipS (p : Int → Bool) (s : ByteArray) (i : Nat) : Nat := if h : i < s.size then (if p (sbyte s i) then skipS p s (i + 1) else i) else i
termination_by s.size - i
theorem skipS_no {p : Int → Bool} {s : ByteArray} {i : Nat} (h : (decide (i < s.size) && p (sbyte s i)) = false) : skipS p s i = i := by
 unfold skipS
 split
 ·rename_i h1
  simp [h1] at h
  simp [h]
 ·rfl
theorem skipS_yes {p : Int → Bool} {s : ByteArray} {i : Nat} (h : (decide (i < s.size) && p (sbyte s i)) = true) : skipS p s i = skipS p s (i + 1) := by
 simp at h
 rw [skipS]
 simp [h]
theorem f41_ok {g : FuncId} {p : Int → Bool} (hp : FnB g p) (s : ByteArray) (hs : s.size ≤ 1073741824) (i : Nat) :
  MF Tryz.prog 41 [.ptr 0 0, .d (.fn (.func g) [] [])] (RD s i) (.d (.tup [])) (RD s (skipS p s i)) := by
 refine AF.start 60 Tryz.func41 rfl rfl c41call c41ok ?_
 simp [c41c, RD]
 refine ATT.loop' [(0, V.ptr 0 0), (1, V.d (D.fn (Fn.func g) [] []))] rfl (by simp) ?_
 suffices H : ∀ m i, s.size - i = m → LP Tryz.prog 14 (.of 41) (fun o h => o = Out.ret (V.d (D.tup [])) ∧ ∃ r w, h = ⟨Bx.cells [V.d (D.str s), V.d (D.int IntKind.i64 (skipS p s i))] 76 :: r, w⟩) c41l2 [AItem.blk 0] [(0, V.ptr 0 0), (1, V.d (D.fn (Fn.func g) [] []))] ⟨RD s i, []⟩ from H _ i rfl
 intro m
 induction m with
 | zero =>
  intro i hi
  refine LP.of 60 c41l2.eq_1 ?_
  simp [c41t, RD]
  refine ATT.callM Tryz.func41 60 [0] (f63_ok hp s i) rfl trivial (by simp) (by simp [RD]) (by simp) rfl ?_
  have h0 : ¬ i < s.size := by omega
  simp [RD, h0]
  refine ATT.fin0 Tryz.func41 c41res ?_
  simp [skipS_no (p := p) (s := s) (i := i) (by simp [h0])]
 | succ m ih =>
  intro i hi
  refine LP.of 60 c41l2.eq_1 ?_
  simp [c41t, RD]
  refine ATT.callM Tryz.func41 60 [0] (f63_ok hp s i) rfl trivial (by simp) (by simp [RD]) (by simp) rfl ?_
  simp [RD]
  cases hb : (decide (i < s.size) && p (sbyte s i)) with
  | false =>
   simp
   refine ATT.fin0 Tryz.func41 c41res ?_
   simp [skipS_no hb]
  | true =>
   simp [c41t]
   refine ATT.again' [(0, V.ptr 0 0), (1, V.d (D.fn (Fn.func g) [] []))] ?_ (by simp) ?_
   ·simp [inI]; omega
   ·rw [skipS_yes hb]
    exact ih (i + 1) (by omega)
def atS (s : ByteArray) (i : Nat) : Int := if i < s.size then sbyte s i else 0
theorem f73_ok (s : ByteArray) (hs : s.size ≤ 1073741824) (i n : Nat) (hi : i ≤ 1073741830) (hn : n ≤ 2) :
  MF Tryz.prog 73 [.ptr 0 0, .d (.int .i64 n)] (RD s i) (.d (.int .u8 (atS s (i + n)))) (RD s i) := by
 have hI : inI ((i : Int) + n) = true := inI_of (by omega) (by omega)
 refine AF.start 60 Tryz.func73 rfl rfl c73call c73ok ?_
 simp [c73c, c73t, RD, hI]
 refine ATT.cD (fun h => ?_) (fun h => ?_)
 ·have h' : i + n < s.size := by omega
  have hR : inR ((i : Int) + n) s.size = true := inR_of (by omega) (by omega)
  simp [h, hI, hR]
  refine ATT.fin Tryz.func73 c73res ?_
  simp [atS, h']
 ·have h' : ¬ i + n < s.size := by omega
  simp [h, c73t]
  refine ATT.fin Tryz.func73 c73res ?_
  simp [atS, h']
def colonS (s : ByteArray) (i : Nat) : Bool := decide (atS s i = 58) && !decide (atS s (i + 1) = 61)
theorem f70_ok (s : ByteArray) (hs : s.size ≤ 1073741824) (i : Nat) (hi : i ≤ 1073741824) : MF Tryz.prog 70 [.ptr 0 0] (RD s i) (.d (.bool (colonS s i))) (RD s i) := by
 refine AF.start 60 Tryz.func70 rfl rfl c70call c70ok ?_
 simp [c70c, c70t]
 refine ATT.callM Tryz.func70 60 [0] (f73_ok s hs i 0 (by omega) (by omega)) rfl trivial (by simp) (by simp [RD]) (by simp) rfl ?_
 simp [RD]
 refine ATT.cC (fun h => ?_) (fun h => ?_)
 ·simp [h]
  refine ATT.callM Tryz.func70 60 [0] (f73_ok s hs i 1 (by omega) (by omega)) rfl (by simp) (by simp) (by simp [RD]) (by simp) rfl ?_
  simp [RD]
  refine ATT.fin Tryz.func70 c70res ?_
  simp [colonS, h]
 ·simp [h]
  refine ATT.fin Tryz.func70 c70res ?_
  simp [colonS, h]
def nameS (s : ByteArray) (i : Nat) : Nat := if (decide (i < s.size) && letterS (sbyte s i)) then skipS identS s i else i
theorem letterB : FnB 64 letterS := fun c h0 h1 => f64_ok c h0 h1
theorem identB : FnB 65 identS := fun c h0 h1 => f65_ok c h0 h1
theorem digitB : FnB 66 digitS := fun c _ _ => f66_ok c
theorem f35_ok (s : ByteArray) (hs : s.size ≤ 1073741824) (i : Nat) : MF Tryz.prog 35 [.ptr 0 0] (RD s i) (.d (.bool (decide (i < s.size) && letterS (sbyte s i)))) (RD s (nameS s i)) := by
 have hM := f63_ok letterB s i
 have hn : nameS s i = if (decide (i < s.size) && letterS (sbyte s i)) then skipS identS s i else i := rfl
 generalize (decide (i < s.size) && letterS (sbyte s i)) = b at hM hn ⊢
 refine AF.start 60 Tryz.func35 rfl rfl c35call c35ok ?_
 simp [c35c, c35t]
 refine ATT.callM Tryz.func35 60 [0] hM rfl trivial (by simp) (by simp [RD]) (by simp) rfl ?_
 simp [RD]
 cases b with
 | false =>
  simp [c35t]
  refine ATT.fin Tryz.func35 c35res ?_
  simp [hn]
 | true =>
  simp [c35t]
  refine ATT.callM Tryz.func35 60 [0] (f41_ok identB s hs i) rfl trivial (by simp) (by simp [RD]) (by simp) rfl ?_
  simp [RD, c35t]
  refine ATT.fin Tryz.func35 c35res ?_
  simp [hn]
theorem f23_ok (s : ByteArray) (hs : s.size ≤ 1073741824) : DF Tryz.prog 23 [.str s] (.bool (decide (0 < s.size) && letterS (sbyte s 0) && decide (nameS s 0 = s.size))) := by
 have hM := f35_ok s hs 0
 generalize hb : (decide (0 < s.size) && letterS (sbyte s 0)) = b
 simp only [Int.ofNat_zero] at hM
 rw [hb] at hM
 refine AF.start 60 Tryz.func23 rfl rfl c23call c23ok ?_
 simp [c23c, c23t]
 refine ATT.callM Tryz.func23 60 [0] hM rfl trivial (by simp) (by simp [RD]) (by simp) rfl ?_
 simp [RD]
 cases b with
 | false =>
  simp
  refine ATT.fin Tryz.func23 c23res ?_
  simp
 | true =>
  simp
  refine ATT.fin Tryz.func23 c23res ?_
  simp
  omega
def Ascii (s : ByteArray) : Prop := ∀ i, i < s.size → sbyte s i < 128
theorem get_sbyte (s : ByteArray) (i : Nat) (h : i < s.size) : ((s.get! i).toNat : Int) = sbyte s i := by
 unfold sbyte
 have h' : i < s.data.size := h
 simp [ByteArray.get!, getElem!_def, Array.getElem?_eq_getElem h', List.getD]
theorem decode_of (s : ByteArray) (i : Nat) (h : i < s.size) (ha : sbyte s i < 128) : Utf8.decode s i = ((sbyte s i).toNat, 1) := by
 have hg := get_sbyte s i h
 have : (s.get! i).toNat < 128 := by omega
 unfold Utf8.decode
 simp only [Nat.add_zero]
 rw [if_pos (by simpa using this)]
 congr 1
 omega
def placeS (c : Int) (s : ByteArray) (i : Nat) : Int := if h : i < s.size then (if sbyte s i = c then i else placeS c s (i + 1)) else -1
termination_by s.size - i
theorem f43_ok (c : Int) (s : ByteArray) (ha : Ascii s) : DF Tryz.prog 43 [.int .u8 c, .str s] (.int .i64 (placeS c s 0)) := by
 refine AF.start 60 Tryz.func43 rfl rfl c43call c43ok ?_
 simp [c43c, c43t]
 refine ATT.loop' [(8, V.ptr 0 0), (0, V.d (D.int IntKind.u8 c))] rfl (by simp) ?_
 generalize hr : placeS c s 0 = r
 suffices H : ∀ m i, s.size - i = m → placeS c s i = r → LP Tryz.prog 18 (.of 43) (fun o x => o = Out.ret (V.d (D.int IntKind.i64 r))) c43l6 [AItem.blk 0, AItem.code ((AC.regT c43t 7).seq AC.ret)]
   [(8, V.ptr 0 0), (0, V.d (D.int IntKind.u8 c))] { bx := [Bx.iter s i], vc := [] } from H _ 0 rfl hr
 clear hr
 intro m
 induction m with
 | zero =>
  intro i hm hr
  refine LP.of 60 c43l6.eq_1 ?_
  have h0 : ¬ i < s.size := by omega
  simp [c43t, h0]
  refine ATT.fin Tryz.func43 c43res ?_
  rw [placeS] at hr
  simp [h0] at hr
  simp [hr]
 | succ m ih =>
  intro i hm hr
  refine LP.of 60 c43l6.eq_1 ?_
  have h0 : i < s.size := by omega
  have hd := decode_of s i h0 (ha i h0)
  have hb := sbyte_bd s i
  have hw : IntKind.u8.wrap (sbyte s i) = sbyte s i := by
   simp [IntKind.wrap, IntKind.bits, IntKind.signed]
   omega
  have ht : (((sbyte s i).toNat : Nat) : Int) = sbyte s i := by omega
  simp [c43t, h0, hd, ht, hw]
  rw [placeS] at hr
  simp only [h0, dite_true] at hr
  refine ATT.cD (fun h => ?_) (fun h => ?_)
  ·simp [c43t, h]
   refine ATT.fin Tryz.func43 c43res ?_
   rw [if_pos h] at hr
   simp [hr]
  ·simp [h]
   rw [if_neg h] at hr
   exact ATT.again' _ rfl (by simp) (ih (i + 1) (by omega) hr)
end Go.SL
namespace Go.SL
open Go.Proofs
set_option maxRecDepth 10000
theorem f100_ok (l : List Nat) (nl : Bool) (sz : Nat) (h1 : nl = true → l = []) (h2 : nl = false → sz = 1) (hu : U32 l) (hb : l.length ≤ 1000000) : DE Tryz.prog 100 [.sl nl sz (wD l)] (Wd (wv l) l.length) := by
 refine AF.start' 60 Tryz.func100 rfl rfl c100call c100ok fun Q hQ => ?_
 simp [c100c, c100t]
 generalize hN : wv l = N at hQ
 refine ATT.loopG 60 c100l3.eq_1 (fun (k : List Nat) => k.length) (fun (k : List Nat) => (nl = true → k = []) ∧ U32 k ∧ wv k = N ∧ k.length ≤ l.length) (fun (k : List Nat) => [(0, .d (.sl nl sz (wD k)))]) (fun (k : List Nat) => []) (fun (k : List Nat) => []) (l) (by (try dsimp only); exact ⟨h1, hu, hN, Nat.le_refl _⟩) (by simp <;> omega) (by simp) (by simp) ?_
 intro k u w hI ih
 try simp only at hI ih
 obtain ⟨i1, i2, i3, i4⟩ := hI
 rcases List.eq_nil_or_concat k with e | ⟨q, x, e⟩
 ·subst e
  simp [c100t]
  refine ATT.fin' hQ Tryz.func100 c100res ?_
  exact ⟨by simp, _, rfl, nl, sz, [], rfl, fun _ => rfl, h2, Can.nil, i3, by simp⟩
 ·have e : k = q ++ [x] := by simpa using e
  subst e
  have hnl : nl = false := by cases nl <;> simp at i1 ⊢
  subst hnl
  have hsz := h2 rfl
  subst hsz
  have hget := wD_getE (l := q ++ [x]) (i := q.length) (x := x) (by simp)
  have htk : (wD (q ++ [x])).take q.length = wD q := by rw [wD_app]; simp
  have hl1 : q.length + 1 ≤ 1000000 := by simp at i4; omega
  have hR : inI ((q.length : Int)) = true := inI_of (by omega) (by omega)
  have hp : (0 : Int) < (q.length : Int) + 1 := by omega
  by_cases hx : x = 0
  ·subst hx
   simp [c100t, hget, htk, hR, hp, lget]
   refine ih (q) (by first | ((try dsimp only); omega) | (simp <;> omega)) (by (try dsimp only); exact ⟨by simp, i2.left, by rw [← i3, wv_app]; simp [wv], by simp at i4; omega⟩) _ _ _ (by simp <;> omega) (by simp <;> omega) (by simp <;> omega)
  ·have hx' : ¬ (x : Int) = 0 := by omega
   simp [c100t, hget, hR, hp, lget, hx]
   refine ATT.fin' hQ Tryz.func100 c100res ?_
   exact ⟨by simp, _, rfl, false, 1, q ++ [x], rfl, by simp, fun _ => rfl, ⟨i2, fun q' e => hx (by have := congrArg List.getLast? e; simpa using this)⟩, i3, by simpa using i4⟩
theorem f98_ok (m n : Nat) (ka kb : Nat) (va vb : D) (ha : Wd m ka va) (hb : Wd n kb vb) (hk : ka ≤ 100000 ∧ kb ≤ 100000) : DE Tryz.prog 98 [va, vb] (Wd (m + n) (max ka kb + 1)) := by
 obtain ⟨nla, sza, la, ea, a1, a2, a3, a4, a5⟩ := ha.words
 obtain ⟨nlb, szb, lb, eb, b1, b2, b3, b4, b5⟩ := hb.words
 subst ea eb
 by_cases hlt : la.length < lb.length
 ·have hlt' : (la.length : Int) < lb.length := by omega
  have hR0 : inI ((lb.length : Int) + 1) = true := inI_of (by omega) (by omega)
  have hR1 : (0 : Int) ≤ (lb.length : Int) + 1 := by omega
  have hR2 : ((lb.length : Int) + 1) * 4 ≤ 140737488355328 := by omega
  have hR3 : ((lb.length : Int) + 1).toNat = lb.length + 1 := by omega
  refine AF.start' 60 Tryz.func98 rfl rfl c98call c98ok fun Q hQ => ?_
  simp [c98c, c98t, hR0, hR1, hR2, hR3, VW_zero, hlt']
  refine ATT.loopG 60 c98l14.eq_1 (fun ((o, r, c) : List Nat × Nat × Nat) => r) (fun ((o, r, c) : List Nat × Nat × Nat) => U32 o ∧ c ≤ 1 ∧ o.length + r = lb.length ∧ wv o + 4294967296 ^ o.length * c = wv (lb.take o.length) + wv (la.take o.length)) (fun ((o, r, c) : List Nat × Nat × Nat) => [(0, .d (.sl nlb szb (wD lb))), (1, .d (.sl nla sza (wD la))), (5, .vs 0 (o.length + (r + 1)) 0 (o.length + (r + 1))), (6, .d (.int .u64 c)), (20, .d (.int .i64 (o.length + r : Nat))), (21, .d (.int .i64 o.length))]) (fun ((o, r, c) : List Nat × Nat × Nat) => []) (fun ((o, r, c) : List Nat × Nat × Nat) => [some ⟨false, 1, 0, VW o (r + 1), 136⟩]) (([], lb.length, 0)) (by (try dsimp only); exact ⟨U32.nil, by simp, by simp, by simp [wv]⟩) (by simp <;> omega) (by simp) (by simp) ?_
  intro ⟨o, r, c⟩ u w hI ih
  try simp only at hI ih
  obtain ⟨i1, i2, i3, i4⟩ := hI
  cases r with
  | zero =>
   have hlo : ¬ (o.length : Int) < o.length := by omega
   have hci : (c : Int) < 4294967296 := by omega
   have hW3 : IntKind.u32.wrap (c : Int) = (c : Int) := by rw [wrap32i]; omega
   have hRo : inR (o.length : Int) (o.length + (0 + 1)) = true := inR_of (by omega) (by omega)
   have hRp : inR (o.length : Int) (o.length + 1) = true := inR_of (by omega) (by omega)
   have hset := VW_set o 0 c
   have hok := f100_ok (o ++ [c]) false 1 (by simp) (fun _ => rfl) (i1.app (by intro z hz; simp at hz; omega)) (by simp; omega)
   have hval : wv (o ++ [c]) = m + n := by
    have e1 : lb.take o.length = lb := List.take_of_length_le (by omega)
    have e2 : la.take o.length = la := List.take_of_length_le (by omega)
    rw [wv_app]
    simp only [wv, Nat.mul_zero, Nat.add_zero]
    rw [i4, e1, e2]; omega
   have i3' : o.length = lb.length := by omega
   have i3i : (lb.length : Int) = o.length := by omega
   have htk : List.take (o.length + 1) ((wD (o ++ [c])).map V.d) = (wD (o ++ [c])).map V.d := List.take_of_length_le (by simp)
   simp [c98t, hlo, hW3, hRo, hset, VW_done, i3i]
   refine ATT.fz (by simp) ?_
   simp [htk]
   refine ATT.callE Tryz.func98 60 hok (by simp) (by simp) (by simp) fun v hv => ?_
   simp
   refine ATT.fin' hQ Tryz.func98 c98res ?_
   rw [hval] at hv
   exact ⟨by simp, _, rfl, hv.mono (by simp; omega)⟩
  | succ r =>
   have hlo : o.length < lb.length := by omega
   obtain ⟨x, hx⟩ : ∃ x, lb[o.length]? = some x := ⟨_, List.getElem?_eq_getElem hlo⟩
   have hx32 := b3 x (List.mem_of_getElem? hx)
   have hna : nlb = false := by cases nlb with | false => rfl | true => (have := b1 rfl; subst this; simp at hlo)
   subst hna
   have hsa := b2 rfl
   subst hsa
   have hlt1 : (o.length : Int) < (o.length : Int) + ((r : Int) + 1) := by omega
   by_cases hbl : o.length < la.length
   ·obtain ⟨y, hy⟩ : ∃ y, la[o.length]? = some y := ⟨_, List.getElem?_eq_getElem hbl⟩
    have hy32 := a3 y (List.mem_of_getElem? hy)
    have hnb : nla = false := by cases nla with | false => rfl | true => (have := a1 rfl; subst this; simp at hbl)
    subst hnb
    have hsb := a2 rfl
    subst hsb
    have hgy := wD_getE hy
    have hgy2 := wD_get hy
    have hWy : IntKind.u64.wrap (y : Int) = y := wrap64i (by omega) (by omega)
    have htk := wv_take hy
    have hL := (List.getElem?_eq_some_iff.1 hx).1
    have hW1 : IntKind.u64.wrap ((c : Int) + (x : Int)) = (c : Int) + (x : Int) := wrap64i (by omega) (by omega)
    have hW2 : IntKind.u64.wrap ((c : Int) + (x : Int) + (y : Int)) = (c : Int) + (x : Int) + (y : Int) := wrap64i (by omega) (by omega)
    have hW3 : IntKind.u32.wrap ((c : Int) + (x : Int) + (y : Int)) = ((c : Int) + (x : Int) + (y : Int)) % 4294967296 := wrap32i
    have hW4 : ((c : Int) + (x : Int) + (y : Int)).fdiv 4294967296 = ((c : Int) + (x : Int) + (y : Int)) / 4294967296 := Int.fdiv_eq_ediv_of_nonneg _ (by decide)
    have hI1 : inI ((o.length : Int) + 1) = true := inI_of (by omega) (by omega)
    have hRo : inR (o.length : Int) (o.length + (r + 1 + 1)) = true := inR_of (by omega) (by omega)
    have hset : (VW o (r + 1 + 1)).set o.length (.d (.int .u32 (((c : Int) + (x : Int) + (y : Int)) % 4294967296))) = VW (o ++ [(c + x + y) % 4294967296]) (r + 1) := by have := VW_set o (r + 1) ((c + x + y) % 4294967296); simpa using this
    have hgx := wD_getE hx
    have hgx2 := wD_get hx
    have hWx : IntKind.u64.wrap (x : Int) = x := wrap64i (by omega) (by omega)
    simp [c98t, hW1, hW2, hW3, hW4, hI1, hRo, hset, hgx2, hWx, IntKind.bits, hgy, hWy, hbl, hlt1]
    refine ih (o ++ [(c + x + y) % 4294967296], r, (c + x + y) / 4294967296) (by first | ((try dsimp only); omega) | (simp [hW1, hW2, hW3, hW4, hI1, hRo, hset, hgx, hgx2, hWx, IntKind.bits, hgy, hgy2, hWy, hbl, hlt1] <;> omega)) (by (try dsimp only); exact ⟨i1.app (by intro z hz; simp at hz; omega), by omega, by simp; omega, by simp only [List.length_append, List.length_singleton]; rw [wv_take hx, htk, wv_app, Nat.pow_succ]; simp only [wv]; have := Nat.div_add_mod (c + x + y) 4294967296; exact plus_step i4 this⟩) _ _ _ (by simp <;> omega) (by simp <;> omega) (by simp <;> omega)
   ·have htk : wv (la.take (o.length + 1)) = wv (la.take o.length) + 4294967296 ^ o.length * 0 := by rw [List.take_of_length_le (by omega), List.take_of_length_le (by omega)]; simp
    have hL := (List.getElem?_eq_some_iff.1 hx).1
    have hW1 : IntKind.u64.wrap ((c : Int) + (x : Int)) = (c : Int) + (x : Int) := wrap64i (by omega) (by omega)
    have hW2 : IntKind.u64.wrap ((c : Int) + (x : Int) + (0 : Int)) = (c : Int) + (x : Int) + (0 : Int) := wrap64i (by omega) (by omega)
    have hW3 : IntKind.u32.wrap ((c : Int) + (x : Int)) = ((c : Int) + (x : Int)) % 4294967296 := wrap32i
    have hW4 : ((c : Int) + (x : Int)).fdiv 4294967296 = ((c : Int) + (x : Int)) / 4294967296 := Int.fdiv_eq_ediv_of_nonneg _ (by decide)
    have hI1 : inI ((o.length : Int) + 1) = true := inI_of (by omega) (by omega)
    have hRo : inR (o.length : Int) (o.length + (r + 1 + 1)) = true := inR_of (by omega) (by omega)
    have hset : (VW o (r + 1 + 1)).set o.length (.d (.int .u32 (((c : Int) + (x : Int)) % 4294967296))) = VW (o ++ [(c + x + 0) % 4294967296]) (r + 1) := by have := VW_set o (r + 1) ((c + x + 0) % 4294967296); simpa using this
    have hgx := wD_getE hx
    have hgx2 := wD_get hx
    have hWx : IntKind.u64.wrap (x : Int) = x := wrap64i (by omega) (by omega)
    simp [c98t, hW1, hW3, hW4, hI1, hRo, hset, hgx2, hWx, IntKind.bits, hbl, hlt1]
    refine ih (o ++ [(c + x + 0) % 4294967296], r, (c + x + 0) / 4294967296) (by first | ((try dsimp only); omega) | (simp [hW1, hW2, hW3, hW4, hI1, hRo, hset, hgx, hgx2, hWx, IntKind.bits, hbl, hlt1] <;> omega)) (by (try dsimp only); exact ⟨i1.app (by intro z hz; simp at hz; omega), by omega, by simp; omega, by simp only [List.length_append, List.length_singleton]; rw [wv_take hx, htk, wv_app, Nat.pow_succ]; simp only [wv]; have := Nat.div_add_mod (c + x + 0) 4294967296; exact plus_step i4 this⟩) _ _ _ (by simp <;> omega) (by simp <;> omega) (by simp <;> omega)
 ·have hlt' : ¬ (la.length : Int) < lb.length := by omega
  have hR0 : inI ((la.length : Int) + 1) = true := inI_of (by omega) (by omega)
  have hR1 : (0 : Int) ≤ (la.length : Int) + 1 := by omega
  have hR2 : ((la.length : Int) + 1) * 4 ≤ 140737488355328 := by omega
  have hR3 : ((la.length : Int) + 1).toNat = la.length + 1 := by omega
  refine AF.start' 60 Tryz.func98 rfl rfl c98call c98ok fun Q hQ => ?_
  simp [c98c, c98t, hR0, hR1, hR2, hR3, VW_zero, hlt']
  refine ATT.loopG 60 c98l14.eq_1 (fun ((o, r, c) : List Nat × Nat × Nat) => r) (fun ((o, r, c) : List Nat × Nat × Nat) => U32 o ∧ c ≤ 1 ∧ o.length + r = la.length ∧ wv o + 4294967296 ^ o.length * c = wv (la.take o.length) + wv (lb.take o.length)) (fun ((o, r, c) : List Nat × Nat × Nat) => [(0, .d (.sl nla sza (wD la))), (1, .d (.sl nlb szb (wD lb))), (5, .vs 0 (o.length + (r + 1)) 0 (o.length + (r + 1))), (6, .d (.int .u64 c)), (20, .d (.int .i64 (o.length + r : Nat))), (21, .d (.int .i64 o.length))]) (fun ((o, r, c) : List Nat × Nat × Nat) => []) (fun ((o, r, c) : List Nat × Nat × Nat) => [some ⟨false, 1, 0, VW o (r + 1), 136⟩]) (([], la.length, 0)) (by (try dsimp only); exact ⟨U32.nil, by simp, by simp, by simp [wv]⟩) (by simp <;> omega) (by simp) (by simp) ?_
  intro ⟨o, r, c⟩ u w hI ih
  try simp only at hI ih
  obtain ⟨i1, i2, i3, i4⟩ := hI
  cases r with
  | zero =>
   have hlo : ¬ (o.length : Int) < o.length := by omega
   have hci : (c : Int) < 4294967296 := by omega
   have hW3 : IntKind.u32.wrap (c : Int) = (c : Int) := by rw [wrap32i]; omega
   have hRo : inR (o.length : Int) (o.length + (0 + 1)) = true := inR_of (by omega) (by omega)
   have hRp : inR (o.length : Int) (o.length + 1) = true := inR_of (by omega) (by omega)
   have hset := VW_set o 0 c
   have hok := f100_ok (o ++ [c]) false 1 (by simp) (fun _ => rfl) (i1.app (by intro z hz; simp at hz; omega)) (by simp; omega)
   have hval : wv (o ++ [c]) = m + n := by
    have e1 : la.take o.length = la := List.take_of_length_le (by omega)
    have e2 : lb.take o.length = lb := List.take_of_length_le (by omega)
    rw [wv_app]
    simp only [wv, Nat.mul_zero, Nat.add_zero]
    rw [i4, e1, e2]; omega
   have i3' : o.length = la.length := by omega
   have i3i : (la.length : Int) = o.length := by omega
   have htk : List.take (o.length + 1) ((wD (o ++ [c])).map V.d) = (wD (o ++ [c])).map V.d := List.take_of_length_le (by simp)
   simp [c98t, hlo, hW3, hRo, hset, VW_done, i3i]
   refine ATT.fz (by simp) ?_
   simp [htk]
   refine ATT.callE Tryz.func98 60 hok (by simp) (by simp) (by simp) fun v hv => ?_
   simp
   refine ATT.fin' hQ Tryz.func98 c98res ?_
   rw [hval] at hv
   exact ⟨by simp, _, rfl, hv.mono (by simp; omega)⟩
  | succ r =>
   have hlo : o.length < la.length := by omega
   obtain ⟨x, hx⟩ : ∃ x, la[o.length]? = some x := ⟨_, List.getElem?_eq_getElem hlo⟩
   have hx32 := a3 x (List.mem_of_getElem? hx)
   have hna : nla = false := by cases nla with | false => rfl | true => (have := a1 rfl; subst this; simp at hlo)
   subst hna
   have hsa := a2 rfl
   subst hsa
   have hlt1 : (o.length : Int) < (o.length : Int) + ((r : Int) + 1) := by omega
   by_cases hbl : o.length < lb.length
   ·obtain ⟨y, hy⟩ : ∃ y, lb[o.length]? = some y := ⟨_, List.getElem?_eq_getElem hbl⟩
    have hy32 := b3 y (List.mem_of_getElem? hy)
    have hnb : nlb = false := by cases nlb with | false => rfl | true => (have := b1 rfl; subst this; simp at hbl)
    subst hnb
    have hsb := b2 rfl
    subst hsb
    have hgy := wD_getE hy
    have hgy2 := wD_get hy
    have hWy : IntKind.u64.wrap (y : Int) = y := wrap64i (by omega) (by omega)
    have htk := wv_take hy
    have hL := (List.getElem?_eq_some_iff.1 hx).1
    have hW1 : IntKind.u64.wrap ((c : Int) + (x : Int)) = (c : Int) + (x : Int) := wrap64i (by omega) (by omega)
    have hW2 : IntKind.u64.wrap ((c : Int) + (x : Int) + (y : Int)) = (c : Int) + (x : Int) + (y : Int) := wrap64i (by omega) (by omega)
    have hW3 : IntKind.u32.wrap ((c : Int) + (x : Int) + (y : Int)) = ((c : Int) + (x : Int) + (y : Int)) % 4294967296 := wrap32i
    have hW4 : ((c : Int) + (x : Int) + (y : Int)).fdiv 4294967296 = ((c : Int) + (x : Int) + (y : Int)) / 4294967296 := Int.fdiv_eq_ediv_of_nonneg _ (by decide)
    have hI1 : inI ((o.length : Int) + 1) = true := inI_of (by omega) (by omega)
    have hRo : inR (o.length : Int) (o.length + (r + 1 + 1)) = true := inR_of (by omega) (by omega)
    have hset : (VW o (r + 1 + 1)).set o.length (.d (.int .u32 (((c : Int) + (x : Int) + (y : Int)) % 4294967296))) = VW (o ++ [(c + x + y) % 4294967296]) (r + 1) := by have := VW_set o (r + 1) ((c + x + y) % 4294967296); simpa using this
    have hgx := wD_getE hx
    have hgx2 := wD_get hx
    have hWx : IntKind.u64.wrap (x : Int) = x := wrap64i (by omega) (by omega)
    simp [c98t, hW1, hW2, hW3, hW4, hI1, hRo, hset, hgx2, hWx, IntKind.bits, hgy, hWy, hbl, hlt1]
    refine ih (o ++ [(c + x + y) % 4294967296], r, (c + x + y) / 4294967296) (by first | ((try dsimp only); omega) | (simp [hW1, hW2, hW3, hW4, hI1, hRo, hset, hgx, hgx2, hWx, IntKind.bits, hgy, hgy2, hWy, hbl, hlt1] <;> omega)) (by (try dsimp only); exact ⟨i1.app (by intro z hz; simp at hz; omega), by omega, by simp; omega, by simp only [List.length_append, List.length_singleton]; rw [wv_take hx, htk, wv_app, Nat.pow_succ]; simp only [wv]; have := Nat.div_add_mod (c + x + y) 4294967296; exact plus_step i4 this⟩) _ _ _ (by simp <;> omega) (by simp <;> omega) (by simp <;> omega)
   ·have htk : wv (lb.take (o.length + 1)) = wv (lb.take o.length) + 4294967296 ^ o.length * 0 := by rw [List.take_of_length_le (by omega), List.take_of_length_le (by omega)]; simp
    have hL := (List.getElem?_eq_some_iff.1 hx).1
    have hW1 : IntKind.u64.wrap ((c : Int) + (x : Int)) = (c : Int) + (x : Int) := wrap64i (by omega) (by omega)
    have hW2 : IntKind.u64.wrap ((c : Int) + (x : Int) + (0 : Int)) = (c : Int) + (x : Int) + (0 : Int) := wrap64i (by omega) (by omega)
    have hW3 : IntKind.u32.wrap ((c : Int) + (x : Int)) = ((c : Int) + (x : Int)) % 4294967296 := wrap32i
    have hW4 : ((c : Int) + (x : Int)).fdiv 4294967296 = ((c : Int) + (x : Int)) / 4294967296 := Int.fdiv_eq_ediv_of_nonneg _ (by decide)
    have hI1 : inI ((o.length : Int) + 1) = true := inI_of (by omega) (by omega)
    have hRo : inR (o.length : Int) (o.length + (r + 1 + 1)) = true := inR_of (by omega) (by omega)
    have hset : (VW o (r + 1 + 1)).set o.length (.d (.int .u32 (((c : Int) + (x : Int)) % 4294967296))) = VW (o ++ [(c + x + 0) % 4294967296]) (r + 1) := by have := VW_set o (r + 1) ((c + x + 0) % 4294967296); simpa using this
    have hgx := wD_getE hx
    have hgx2 := wD_get hx
    have hWx : IntKind.u64.wrap (x : Int) = x := wrap64i (by omega) (by omega)
    simp [c98t, hW1, hW3, hW4, hI1, hRo, hset, hgx2, hWx, IntKind.bits, hbl, hlt1]
    refine ih (o ++ [(c + x + 0) % 4294967296], r, (c + x + 0) / 4294967296) (by first | ((try dsimp only); omega) | (simp [hW1, hW2, hW3, hW4, hI1, hRo, hset, hgx, hgx2, hWx, IntKind.bits, hbl, hlt1] <;> omega)) (by (try dsimp only); exact ⟨i1.app (by intro z hz; simp at hz; omega), by omega, by simp; omega, by simp only [List.length_append, List.length_singleton]; rw [wv_take hx, htk, wv_app, Nat.pow_succ]; simp only [wv]; have := Nat.div_add_mod (c + x + 0) 4294967296; exact plus_step i4 this⟩) _ _ _ (by simp <;> omega) (by simp <;> omega) (by simp <;> omega)
set_option maxHeartbeats 1000000 in
theorem f99_ok (m n : Nat) (ka kb : Nat) (va vb : D) (ha : Wd m ka va) (hb : Wd n kb vb) (hk : ka ≤ 100000 ∧ kb ≤ 100000) : DE Tryz.prog 99 [va, vb] (Wd (m * n) (ka + kb)) := by
 obtain ⟨nla, sza, la, ea, a1, a2, a3, a4, a5⟩ := ha.words
 obtain ⟨nlb, szb, lb, eb, b1, b2, b3, b4, b5⟩ := hb.words
 subst ea eb
 have hR0 : inI ((la.length : Int) + (lb.length : Int)) = true := inI_of (by omega) (by omega)
 have hR1 : (0 : Int) ≤ (la.length : Int) + (lb.length : Int) := by omega
 have hR2 : ((la.length : Int) + (lb.length : Int)) * 4 ≤ 140737488355328 := by omega
 have hR3 : ((la.length : Int) + (lb.length : Int)).toNat = la.length + lb.length := by omega
 refine AF.start' 60 Tryz.func99 rfl rfl c99call c99ok fun Q hQ => ?_
 simp [c99c, c99t, hR0, hR1, hR2, hR3, wD_rep]
 refine ATT.loopG 60 c99l16.eq_1 (fun ((i, o) : Nat × List Nat) => la.length - i) (fun ((i, o) : Nat × List Nat) => i ≤ la.length ∧ o.length = la.length + lb.length ∧ U32 o ∧ wv o = wv (la.take i) * wv lb ∧ (∀ k, i + lb.length ≤ k → k < o.length → o[k]? = some 0)) (fun ((i, o) : Nat × List Nat) => [(1, .d (.sl nlb szb (wD lb))), (5, .vs 0 (la.length + lb.length) 0 (la.length + lb.length)), (17, .d (.sl nla sza (wD la))), (18, .d (.int .i64 la.length)), (19, .d (.int .i64 i))]) (fun ((i, o) : Nat × List Nat) => []) (fun ((i, o) : Nat × List Nat) => [some ⟨false, 1, 0, (wD o).map V.d, 136⟩]) ((0, List.replicate (la.length + lb.length) 0)) (by (try dsimp only); exact ⟨Nat.zero_le _, by simp, by intro z hz; simp at hz; omega, by simp [wv_rep, wv], by intro k _ hk; rw [List.getElem?_replicate, if_pos (by simpa using hk)]⟩) (by simp <;> omega) (by simp) (by simp) ?_
 intro ⟨i, o⟩ u w hI ih
 try simp only at hI ih
 obtain ⟨i1, i2, i3, i4, i5⟩ := hI
 have ihO := ih
 by_cases hil : i < la.length
 ·obtain ⟨x, hx⟩ : ∃ x, la[i]? = some x := ⟨_, List.getElem?_eq_getElem hil⟩
  have hx32 := a3.get hx
  have hna : nla = false := by cases nla with | false => rfl | true => (have := a1 rfl; subst this; simp at hil)
  subst hna
  have hsa := a2 rfl
  subst hsa
  have hgx := wD_get hx
  have hgx2 := wD_getE hx
  have hili : (i : Int) < la.length := by omega
  simp [c99t, hgx, hili]
  generalize hN : wv (la.take i) * wv lb = N0 at i4
  refine ATT.loopG 60 c99l13.eq_1 (fun ((j, c, p) : Nat × Nat × List Nat) => lb.length - j) (fun ((j, c, p) : Nat × Nat × List Nat) => j ≤ lb.length ∧ c < 4294967296 ∧ p.length = la.length + lb.length ∧ U32 p ∧ wv p + 4294967296 ^ i * 4294967296 ^ j * c = N0 + 4294967296 ^ i * x * wv (lb.take j) ∧ (∀ k, i + lb.length ≤ k → k < p.length → p[k]? = some 0)) (fun ((j, c, p) : Nat × Nat × List Nat) => [(1, .d (.sl nlb szb (wD lb))), (5, .vs 0 (la.length + lb.length) 0 (la.length + lb.length)), (6, .d (.int .i64 i)), (7, .d (.int .u32 x)), (8, .d (.int .u64 c)), (17, .d (.sl false 1 (wD la))), (18, .d (.int .i64 la.length)), (19, .d (.int .i64 i)), (24, .d (.sl nlb szb (wD lb))), (25, .d (.int .i64 lb.length)), (26, .d (.int .i64 j))]) (fun ((j, c, p) : Nat × Nat × List Nat) => []) (fun ((j, c, p) : Nat × Nat × List Nat) => [some ⟨false, 1, 0, (wD p).map V.d, 136⟩]) ((0, 0, o)) (by (try dsimp only); exact ⟨Nat.zero_le _, by decide, i2, i3, by simp [wv]; exact i4, i5⟩) (by simp <;> omega) (by simp) (by simp) ?_
  intro ⟨j, c, p⟩ u w hI ih
  try simp only at hI ih
  obtain ⟨j1, j2, j3, j4, j5, j6⟩ := hI
  by_cases hjl : j < lb.length
  ·obtain ⟨y, hy⟩ : ∃ y, lb[j]? = some y := ⟨_, List.getElem?_eq_getElem hjl⟩
   obtain ⟨z, hz⟩ : ∃ z, p[i + j]? = some z := ⟨_, List.getElem?_eq_getElem (by omega)⟩
   have hy32 := b3.get hy
   have hz32 := j4.get hz
   have hnb : nlb = false := by cases nlb with | false => rfl | true => (have := b1 rfl; subst this; simp at hjl)
   subst hnb
   have hsb := b2 rfl
   subst hsb
   have hgy := wD_get hy
   have hgy2 := wD_getE hy
   have hgz := wD_get hz
   have hgz2 := wD_getE hz
   have hjli : (j : Int) < lb.length := by omega
   have hp := Nat.mul_le_mul (show x ≤ 4294967295 by omega) (show y ≤ 4294967295 by omega)
   have hpi : (x : Int) * (y : Int) = ((x * y : Nat) : Int) := by simp
   generalize hP : x * y = P at hp hpi
   have hW1 : IntKind.u64.wrap (P : Int) = (P : Int) := wrap64i (by omega) (by omega)
   have hW2 : IntKind.u64.wrap ((P : Int) + (z : Int)) = (P : Int) + (z : Int) := wrap64i (by omega) (by omega)
   have hW3 : IntKind.u64.wrap ((c : Int) + ((P : Int) + (z : Int))) = (c : Int) + ((P : Int) + (z : Int)) := wrap64i (by omega) (by omega)
   have hW4 : IntKind.u32.wrap ((c : Int) + ((P : Int) + (z : Int))) = ((c : Int) + ((P : Int) + (z : Int))) % 4294967296 := wrap32i
   have hW5 : ((c : Int) + ((P : Int) + (z : Int))).fdiv 4294967296 = ((c : Int) + ((P : Int) + (z : Int))) / 4294967296 := Int.fdiv_eq_ediv_of_nonneg _ (by decide)
   have hWx : IntKind.u64.wrap (x : Int) = x := wrap64i (by omega) (by omega)
   have hWy : IntKind.u64.wrap (y : Int) = y := wrap64i (by omega) (by omega)
   have hWz : IntKind.u64.wrap (z : Int) = z := wrap64i (by omega) (by omega)
   have hIij : inI ((i : Int) + (j : Int)) = true := inI_of (by omega) (by omega)
   have hIj : inI ((j : Int) + 1) = true := inI_of (by omega) (by omega)
   have hij : ((i : Int) + (j : Int)).toNat = i + j := by omega
   have hRij : inR ((i : Int) + (j : Int)) (la.length + lb.length) = true := inR_of (by omega) (by omega)
   have hset : ((wD p).map V.d).set (i + j) (.d (.int .u32 (((c : Int) + ((P : Int) + (z : Int))) % 4294967296))) = (wD (p.set (i + j) ((c + (P + z)) % 4294967296))).map V.d := by have := wD_set p (i + j) ((c + (P + z)) % 4294967296); simpa using this
   simp [c99t, hgy, hgz, hjli, hpi, hW1, hW2, hW3, hW4, hW5, hWx, hWy, hWz, hIij, hIj, hij, hRij, hset, j3, IntKind.bits]
   have hd : 4294967296 * ((c + (P + z)) / 4294967296) + (c + (P + z)) % 4294967296 = c + (x * y + z) := by rw [hP]; exact Nat.div_add_mod _ _
   have h2 := wv_set ((c + (P + z)) % 4294967296) hz
   rw [Nat.pow_add] at h2
   refine ih (j + 1, (c + (P + z)) / 4294967296, p.set (i + j) ((c + (P + z)) % 4294967296)) (by first | ((try dsimp only); omega) | (simp [hgy, hgy2, hgz, hgz2, hjli, hpi, hW1, hW2, hW3, hW4, hW5, hWx, hWy, hWz, hIij, hIj, hij, hRij, hset, j3, IntKind.bits] <;> omega)) (by (try dsimp only); exact ⟨by omega, by omega, by simp; exact j3, j4.set (by omega), by rw [wv_take hy, Nat.pow_succ]; exact times_step j5 h2 hd, by intro k h1 h2; rw [List.getElem?_set_ne (by omega)]; exact j6 k h1 (by simpa using h2)⟩) _ _ _ (by simp <;> omega) (by simp <;> omega) (by simp <;> omega)
  ·have hje : j = lb.length := by omega
   subst hje
   have hz : p[i + lb.length]? = some 0 := j6 _ (Nat.le_refl _) (by omega)
   have hW : IntKind.u32.wrap (c : Int) = (c : Int) := by rw [wrap32i]; omega
   have hIij : inI ((i : Int) + (lb.length : Int)) = true := inI_of (by omega) (by omega)
   have hIi : inI ((i : Int) + 1) = true := inI_of (by omega) (by omega)
   have hij : ((i : Int) + (lb.length : Int)).toNat = i + lb.length := by omega
   have hRij : inR ((i : Int) + (lb.length : Int)) (la.length + lb.length) = true := inR_of (by omega) (by omega)
   have hset := wD_set p (i + lb.length) c
   have hlt : i + lb.length < la.length + lb.length := by omega
   have h2 := wv_set c hz
   rw [Nat.pow_add, Nat.mul_zero, Nat.add_zero] at h2
   rw [List.take_length] at j5
   simp [c99t, hW, hIij, hIi, hij, hRij, hset, j3, hlt]
   refine ihO (i + 1, p.set (i + lb.length) c) (by first | ((try dsimp only); omega) | (simp [hW, hIij, hIi, hij, hRij, hset, j3, hlt] <;> omega)) (by (try dsimp only); exact ⟨by omega, by simp; exact j3, j4.set j2, by rw [wv_take hx, Nat.add_mul, hN, h2, j5], by intro k h1 h2; rw [List.getElem?_set_ne (by omega)]; exact j6 k (by omega) (by simpa using h2)⟩) _ _ _ (by simp <;> omega) (by simp <;> omega) (by simp <;> omega)
 ·have hie : i = la.length := by omega
  subst hie
  have hok := f100_ok o false 1 (by simp) (fun _ => rfl) i3 (by omega)
  rw [List.take_length, a4, b4] at i4
  have htk : List.take (la.length + lb.length) ((wD o).map V.d) = (wD o).map V.d := List.take_of_length_le (by simp; omega)
  simp [c99t]
  refine ATT.fz (by simp) ?_
  simp [i2, htk]
  refine ATT.callE Tryz.func99 60 hok (by simp) (by simp) (by simp) fun v hv => ?_
  simp
  refine ATT.fin' hQ Tryz.func99 c99res ?_
  rw [i4] at hv
  exact ⟨by simp, _, rfl, hv.mono (by omega)⟩
end Go.SL
namespace Go.SL
open Go.Proofs
set_option maxRecDepth 10000
theorem f146_ok (nl : Bool) (sz : Nat) (xs : List D) (h1 : nl = true → xs = []) (h2 : nl = false → sz = 1) (hb : xs.length ≤ 1000000000) : DE Tryz.prog 146 [.sl nl sz xs] fun v => ∃ sz', v = .sl nl sz' xs ∧ (nl = false → sz' = 1) := by
 cases nl with
 | true =>
  have e := h1 rfl
  subst e
  refine AF.start' 60 Tryz.func146 rfl rfl c146call c146ok fun Q hQ => ?_
  simp [c146c, c146t]
  refine ATT.fin' hQ Tryz.func146 c146res ?_
  exact ⟨by simp, _, rfl, 0, rfl, by simp⟩
 | false =>
  have e := h2 rfl
  subst e
  have hl : xs.length ≤ 140737488355328 := by omega
  refine AF.start' 60 Tryz.func146 rfl rfl c146call c146ok fun Q hQ => ?_
  simp [c146c, c146t, hl]
  refine ATT.finz hQ Tryz.func146 c146res (by first | exact .inl rfl | exact .inr ⟨_, rfl⟩) ?_
  simp
  all_goals (first | omega | exact ⟨_, rfl⟩ | skip)
theorem f145_ok (nl : Bool) (sz : Nat) (xs : List D) : VF Tryz.prog 145 [.d (.sl nl sz xs)] [] [] (.fn (.func 154) [] [.ptr 0 0]) [.cells [.d (.sl nl sz xs)] 134] [] := by
 refine AF.start' 60 Tryz.func145 rfl rfl c145call c145ok fun Q hQ => ?_
 simp [c145c, c145t]
 refine ATT.fin' hQ Tryz.func145 c145res ?_
 simp
 all_goals (first | omega | exact ⟨_, rfl⟩ | skip)
set_option maxHeartbeats 1000000 in
theorem f135_ok (m k : Nat) (va : D) (ha : Wd m k va) (hk : k ≤ 100000) : DE Tryz.prog 135 [va] (Bd m (4 * k)) := by
 obtain ⟨nla, sza, la, ea, a1, a2, a3, a4, a5⟩ := ha.words
 subst ea
 have hT := f100_ok la nla sza a1 a2 a3 (by omega)
 rw [a4] at hT
 refine AF.start' 60 Tryz.func135 rfl rfl c135call c135ok fun Q hQ => ?_
 simp [c135c, c135t]
 refine ATT.callE Tryz.func135 60 hT (by simp) (by simp) (by simp) fun v hv => ?_
 obtain ⟨nl, sz, l, e, l1, l2, l3, l4, l5⟩ := hv
 subst e
 simp
 refine ATT.callV Tryz.func135 60 [] [] (f145_ok nl sz (wD l)) (by simp) (by simp) (by simp) (by simp) (by simp) (by simp) (by simp) ?_
 simp
 refine ATT.nilB 0 0 1 5 rfl rfl (by decide) (by simp) ?_
 simp
 have hI0 : inI ((l.length : Int) - 1) = true := inI_of (by omega) (by omega)
 refine ATT.rangeF (gid := 154) (all := fun y => [.d (.fn (.yield y) [] []), .ptr 1 0]) 60 (fun y => by simp) c154call Tryz.func154 rfl rfl c154ok (by simp) (fun y r => ?_)
 simp [c154c, c154t, hI0]
 refine ATT.loopG 60 c154l4.eq_1 (fun ((i, o) : Nat × List Nat) => i) (fun ((i, o) : Nat × List Nat) => i ≤ l.length ∧ o = wb (l.drop i)) (fun ((i, o) : Nat × List Nat) => [(3, .d (.int .i64 ((i : Int) - 1))), (0, .d (.fn (.yield y) [] [])), (1, .ptr 1 0)]) (fun ((i, o) : Nat × List Nat) => [.cells [.vs 0 o.length 0 o.length] 67, .cells [.d (.sl nl sz (wD l))] 134, .raw (DfR 2 r), .raw (LpR Tryz.prog ⟨135, 40, [(9, .fn (.func 154) [] [.ptr 1 0]), (3, .ptr 0 0)], [10, 11], c135r6a, c135r6b, r⟩ 3 y .ready none)]) (fun ((i, o) : Nat × List Nat) => [some ⟨o.isEmpty, 1, 0, (bD o).map V.d, 5⟩]) ((l.length, [])) (by (try dsimp only); exact ⟨Nat.le_refl _, by rw [List.drop_length]; rfl⟩) (by simp <;> omega) (by simp) (by simp) ?_
 intro ⟨i, o⟩ u w hI ih
 try simp only at hI ih
 obtain ⟨i1, i2⟩ := hI
 cases i with
 | zero =>
  simp [c154t]
  refine ATT.fin0' (fun _ _ h => h) Tryz.func154 c154res ⟨by simp, ?_⟩
  simp
  refine ⟨⟨_, rfl⟩, none, rfl, by simp, ?_⟩
  simp
  rw [List.drop_zero] at i2
  have hm : bv o = m := by rw [i2, wb_bv l3.1, l4]
  have hpos : o ≠ [] → 0 < m := fun h => by
   rw [← l4]; exact Can.pos (fun e => h (by rw [i2, e]; rfl)) l3
  have hu8 : U8 o := by rw [i2]; exact wb_u8 l
  have hol : o.length ≤ 4 * k := by rw [i2, wb_len]; omega
  refine ATT.loopG 60 c135l9.eq_1 (fun ((a, b) : List Nat × List Nat) => b.length) (fun ((a, b) : List Nat × List Nat) => o = a ++ b ∧ bv b = m) (fun ((a, b) : List Nat × List Nat) => [(3, .ptr 0 0)]) (fun ((a, b) : List Nat × List Nat) => [.cells [.vs 0 (a.length + b.length) a.length b.length] 67, .cells [.d (.sl nl sz (wD l))] 134, .raw (DfR 2 r)]) (fun ((a, b) : List Nat × List Nat) => [some ⟨o.isEmpty, 1, 0, (bD o).map V.d, 5⟩]) (([], o)) (by (try dsimp only); exact ⟨rfl, hm⟩) (by simp <;> omega) (by simp) (by simp) ?_
  intro ⟨a, b⟩ u w hI ih
  try simp only at hI ih
  obtain ⟨k1, k2⟩ := hI
  cases b with
  | nil =>
   have hoa : o.length = a.length := by rw [k1]; simp
   simp [c135t, hoa]
   refine ATT.fz (by simp) ?_
   simp [hoa]
   have ho0 : o = [] := Classical.byContradiction fun h => by have := hpos h; rw [← k2] at this; simp [bv, bvA] at this
   have hoe : o.isEmpty = true := by rw [ho0]; rfl
   have hC := f146_ok true 1 [] (fun _ => rfl) (by simp) (by simp)
   refine ATT.callE Tryz.func135 60 hC (by simp) (by simp [hoe]) (by simp) fun v hv => ?_
   obtain ⟨sz', e, hsz'⟩ := hv
   subst e
   simp
   refine ATT.retC (Q' := fun o h => (∃ v, o = .ret v) ∧ ∃ v, o = .ret (.d v) ∧ Bd m (4 * k) v) (fun o h hh => ⟨hh.1, hQ o h hh.2⟩) Tryz.func135 c135res 2 rfl rfl (by simp) (by simp) (by simp; rfl) ?_
   simp
   exact ⟨true, sz', [], rfl, fun _ => rfl, by simp, by simp [U8], by simp, k2, by simp⟩
  | cons x b =>
   have hne : o ≠ [] := by rw [k1]; simp
   have hie : o.isEmpty = false := by cases o <;> simp at hne ⊢
   have hgx : (bD o)[a.length]? = some (.int .u8 x) := bD_get (by rw [k1]; simp)
   have hgx2 := bD_getE (l := o) (i := a.length) (x := x) (by rw [k1]; simp)
   have hol2 : o.length = a.length + (b.length + 1) := by rw [k1]; simp
   have hr0 : inR 0 (b.length + 1) = true := inR_of (by omega) (by omega)
   by_cases hx : x = 0
   ·subst hx
    have hb : b ≠ [] := fun e => by have := hpos hne; rw [← k2, e] at this; simp [bv, bvA] at this
    have hbl : (1 : Int) < (b.length : Int) + 1 := by have := List.length_pos_iff.mpr hb; omega
    have hb1 : (1 : Int) ≤ (b.length : Int) + 1 := by omega
    have hbt : ((b.length : Int) + 1).toNat - 1 = b.length := by omega
    simp [c135t, hie, hgx2, hol2, hr0, hbl, hb1]
    refine ih (a ++ [0], b) (by first | ((try dsimp only); omega) | (simp <;> omega)) (by (try dsimp only); exact ⟨by rw [k1]; simp, k2⟩) _ _ _ (by simp <;> omega) (by simp <;> omega) (by simp [hie] <;> omega)
   ·have hx' : ¬ (x : Int) = 0 := by omega
    have hdt : List.take (b.length + 1) (List.drop a.length ((bD o).map V.d)) = (bD (x :: b)).map V.d := by
     rw [k1, bD_app, List.map_append, List.drop_left' (by simp), List.take_of_length_le (by simp)]
    simp [c135t, hie, hgx2, hol2, hr0, hx]
    refine ATT.fz (by simp) ?_
    simp [hol2, hdt]
    have hC := f146_ok false 1 (bD (x :: b)) (by simp) (fun _ => rfl) (by rw [hol2] at hol; simp; omega)
    refine ATT.callE Tryz.func135 60 hC (by simp) (by simp) (by simp) fun v hv => ?_
    obtain ⟨sz', e, hsz'⟩ := hv
    subst e
    simp
    refine ATT.retC (Q' := fun o h => (∃ v, o = .ret v) ∧ ∃ v, o = .ret (.d v) ∧ Bd m (4 * k) v) (fun o h hh => ⟨hh.1, hQ o h hh.2⟩) Tryz.func135 c135res 2 rfl rfl (by simp) (by simp) (by simp; rfl) ?_
    simp
    exact ⟨false, sz', x :: b, rfl, by simp, hsz', fun z hz => hu8 z (by rw [k1]; simp at hz ⊢; exact .inr hz), fun q e => hx (by simpa using (List.cons.inj e).1), k2, by rw [hol2] at hol; simp; omega⟩
 | succ i =>
  obtain ⟨x, hx⟩ : ∃ x, l[i]? = some x := ⟨_, List.getElem?_eq_getElem (by omega)⟩
  have hx32 := l3.1.get hx
  have hnl : nl = false := by cases nl with | false => rfl | true => (have := l1 rfl; subst this; simp at i1)
  subst hnl
  have hsz := l2 rfl
  subst hsz
  have hgx := wD_get hx
  have hgx2 := wD_getE hx
  have hi0 : (0 : Int) ≤ i := by omega
  have hII : inI ((i : Int) - 1) = true := inI_of (by omega) (by omega)
  simp [c154t, hgx, hi0]
  refine ATT.yield (l := y) 60 3 c135r6a.eq_1 (by simp) (by simp) (by rfl) rfl (by simp) ?_
  have hlim : o.length ≤ 140737488355324 := by rw [i2, wb_len]; simp; omega
  have e1 : IntKind.u8.wrap ((x : Int).fdiv 16777216) = (x : Int) / 16777216 % 256 := wrap8s x 16777216
  have e2 : IntKind.u8.wrap ((x : Int).fdiv 65536) = (x : Int) / 65536 % 256 := wrap8s x 65536
  have e3 : IntKind.u8.wrap ((x : Int).fdiv 256) = (x : Int) / 256 % 256 := wrap8s x 256
  simp [c135t]
  refine ATT.begin (l := y) 60 c135r6b.eq_1 (i := 3) rfl (by simp) ?_
  simp [c135t, hlim, e1, e2, e3, wrap8x, IntKind.bits]
  refine ATT.endR (by simp) rfl rfl ⟨none, rfl, rfl, by simp, ?_⟩
  simp [c154t]
  have hbd : bD (o ++ b4 x) = bD o ++ [.int .u8 ((x : Int) / 16777216 % 256), .int .u8 ((x : Int) / 65536 % 256), .int .u8 ((x : Int) / 256 % 256), .int .u8 ((x : Int) % 256)] := by simp [bD, b4]
  have hbl : (b4 x).length = 4 := rfl
  have hbe : (b4 x).isEmpty = false := rfl
  have hbn : ¬ b4 x = [] := by simp [b4]
  refine ih (i, o ++ b4 x) (by first | ((try dsimp only); omega) | (simp [hbd, hbl, hbe, hbn, hII] <;> omega)) (by (try dsimp only); exact ⟨by omega, by rw [wb_drop hx, i2]⟩) _ _ _ (by simp [hII] <;> omega) (by simp <;> omega) (by simp [hbd, hbl, hbn] <;> omega)
end Go.SL
namespace Go.SL
open Go.Proofs
set_option maxRecDepth 10000
def signsT : ByteArray := ⟨#[43, 45, 42, 47, 92, 60, 62, 61, 126, 44, 64, 37, 38, 63]⟩
theorem place_bd (c : Int) (s : ByteArray) : ∀ m i, s.size - i = m → placeS c s i = -1 ∨ (i ≤ placeS c s i ∧ placeS c s i < s.size) := by
 intro m
 induction m with
 | zero => intro i h; rw [placeS]; simp [show ¬ i < s.size by omega]
 | succ m ih =>
  intro i h
  rw [placeS]
  have h0 : i < s.size := by omega
  simp only [h0, dite_true]
  split
  ·right; omega
  ·rcases ih (i + 1) (by omega) with h | h
   ·exact .inl h
   ·right; omega
def signS (c : Int) : Bool := decide (0 ≤ placeS c signsT 0)
theorem f103_ok (c : Int) : DF Tryz.prog 103 [.int .u8 c] (.bool (signS c)) := by
 refine AF.start 60 Tryz.func103 rfl rfl c103call c103ok ?_
 simp [c103c, c103t]
 refine ATT.callD Tryz.func103 60 (f43_ok c signsT (by unfold Ascii; decide)) trivial (by simp [signsT]) rfl ?_
 simp
 refine ATT.fin Tryz.func103 c103res ?_
 simp [signS]
theorem signB : FnB 103 signS := fun c _ _ => f103_ok c
def signsS (s : ByteArray) (i : Nat) : Nat :=
 if (decide (i < s.size) && signS (sbyte s i)) then (if (decide (i + 1 < s.size) && signS (sbyte s (i + 1 : Nat))) then i + 2 else i + 1) else i
theorem f75_ok (s : ByteArray) (hs : s.size ≤ 1073741824) (i : Nat) (hi : i ≤ 1073741824) : MF Tryz.prog 75 [.ptr 0 0] (RD s i) (.d (.bool (decide (i < signsS s i)))) (RD s (signsS s i)) := by
 have hM := f63_ok signB s i
 have hM2 := f63_ok signB s (i + 1)
 have hn : signsS s i = if (decide (i < s.size) && signS (sbyte s i)) then (if (decide (i + 1 < s.size) && signS (sbyte s (i + 1 : Nat))) then i + 2 else i + 1) else i := rfl
 generalize (decide (i < s.size) && signS (sbyte s i)) = b at hM hn
 generalize (decide (i + 1 < s.size) && signS (sbyte s (i + 1 : Nat))) = b2 at hM2 hn
 have hI1 : inI ((i : Int) + 1) = true := inI_of (by omega) (by omega)
 have hI2 : inI ((i : Int) + 2) = true := inI_of (by omega) (by omega)
 have hI3 : inI ((i : Int) + 1 + 1) = true := inI_of (by omega) (by omega)
 have hlt1 : (i : Int) < i + 2 := by omega
 have hlt2 : (i : Int) + 1 < i + 2 := by omega
 have hlt0 : ¬ (i : Int) + 1 + 1 < i + 2 := by omega
 refine AF.start 60 Tryz.func75 rfl rfl c75call c75ok ?_
 simp [c75c, c75t, RD]
 refine ATT.loop 60 rfl ?_
 simp [c75l4, c75t, hI2, hlt1]
 refine ATT.callM Tryz.func75 60 [0] hM rfl (by simp) (by simp) (by simp [RD]) (by simp) (by simp) ?_
 simp [RD]
 cases b with
 | false =>
  simp [c75t]
  refine ATT.fin Tryz.func75 c75res ?_
  simp [hn]
 | true =>
  simp [c75t]
  refine ATT.again 60 (by simp [hI1]) ?_
  simp [c75t, hI2, hlt2]
  refine ATT.callM Tryz.func75 60 [0] hM2 rfl (by simp) (by simp) (by simp [RD]) (by simp) (by simp) ?_
  simp [RD]
  cases b2 with
  | false =>
   simp [c75t]
   refine ATT.fin Tryz.func75 c75res ?_
   simp [hn]
   omega
  | true =>
   simp [c75t]
   refine ATT.again 60 (by simp [hI3]) ?_
   simp [c75t, hI2, hlt0]
   refine ATT.fin Tryz.func75 c75res ?_
   simp [hn]
   omega
end Go.SL
namespace Go.SL
open Go.Proofs
set_option maxRecDepth 100000
theorem XF.of {P : Program} {fid : FuncId} {fn : Func} {e : Array Value → Sem Value} (hf : P.funcs[fid]? = some fn) (hname : (fn.name == "runtime.NumGoroutine") = false)
  (hb : fn.body.isNone = true) (hn : Extern.findNext fn = none) (he : Extern.find fn = some e) {args : List V} {v : V}
  (h : ∀ (κ : K) (w : World) (argv : List Value), VL κ args argv → ∃ y, (e ⟨argv⟩).run P w = .ok y w ∧ VR κ v y) : XF P fid args v := by
 intro κ w argv ha
 obtain ⟨y, h1, h2⟩ := h κ w argv ha
 exact ⟨y, by rw [run_callFunc_extern hf hname hb hn he, h1]; rfl, h2⟩
theorem f94_ok (s : ByteArray) (c : Int) : XF Tryz.prog 94 [.d (.str s), .d (.int .u8 c)] (.d (.int .i64 (firstIdx s c.toNat.toUInt8))) := by
 refine XF.of Tryz.func94 (by kernel_rfl) (by kernel_rfl) (by kernel_rfl) (e := Extern.BytealgIndexByte.indexByte) (by kernel_rfl) ?_
 intro κ w argv ha
 simp only [VL, VR, DR] at ha
 obtain ⟨y, t, e1, e2, y2, t2, e3, e4, e5⟩ := ha
 subst e1 e2 e3 e4 e5
 exact ⟨_, run_indexByte_string s c w, by simp [VR, DR]⟩
theorem f69_ok (s : ByteArray) (c : Int) : DF Tryz.prog 69 [.str s, .int .u8 c] (.int .i64 (firstIdx s c.toNat.toUInt8)) := by
 refine AF.start 60 Tryz.func69 rfl rfl c69call c69ok ?_
 simp [c69c, c69t]
 refine ATT.callX 60 (f94_ok s c) trivial (by simp) rfl ?_
 simp
 refine ATT.fin Tryz.func69 c69res ?_
 simp
theorem f44_ok (s : ByteArray) (c : Int) : DF Tryz.prog 44 [.str s, .int .u8 c] (.int .i64 (firstIdx s c.toNat.toUInt8)) := by
 refine AF.start 60 Tryz.func44 rfl rfl c44call c44ok ?_
 simp [c44c, c44t]
 refine ATT.callD Tryz.func44 60 (f69_ok s c) trivial (by simp) rfl ?_
 simp
 refine ATT.fin Tryz.func44 c44res ?_
 simp
theorem f114_ok (x : V) : XF Tryz.prog 114 [x] x := by
 refine XF.of Tryz.func114 (by kernel_rfl) (by kernel_rfl) (by kernel_rfl) (e := Extern.AbiNoEscape.same) (by kernel_rfl) ?_
 intro κ w argv ha
 simp only [VL] at ha
 obtain ⟨y, t, e1, e2, e3⟩ := ha
 subst e1 e3
 exact ⟨y, rfl, e2⟩
end Go.SL
namespace Go.SL
open Go.Proofs
set_option maxRecDepth 10000
def bldL : List (Nat × Nat) := [(68, 2), (69, 2), (70, 2), (71, 2)]
theorem f86_ok (T : TypeId) (hT : hasT bldL T 2 = true) (b : Bool) (l : List UInt8) (z : Nat) :
  VF Tryz.prog 86 [.ptr 0 0] [BB 0 0 T b l] [BV 5 z l] (.d (.tup [])) [BB 0 0 T true l] [BV 5 z l] := by
 simp only [bldL] at hT
 cases b with
 | false =>
  refine AF.start' 60 Tryz.func86 rfl rfl c86call c86ok fun Q hQ => ?_
  simp [c86c, c86t]
  refine ATT.callX 60 (f114_ok (.ptr 0 0)) (by simp) (by simp) (by simp) ?_
  simp [hT]
  refine ATT.fin0' hQ Tryz.func86 c86res ?_
  simp
  all_goals (first | omega | exact ⟨_, rfl⟩ | skip)
 | true =>
  refine AF.start' 60 Tryz.func86 rfl rfl c86call c86ok fun Q hQ => ?_
  simp [c86c, c86t]
  refine ATT.fin0' hQ Tryz.func86 c86res ?_
  simp
  all_goals (first | omega | exact ⟨_, rfl⟩ | skip)
theorem f58_ok (T : TypeId) (hT : hasT bldL T 2 = true) (b : Bool) (l : List UInt8) (hl : l.length ≤ 1099511627776) (x : UInt8) :
  VF Tryz.prog 58 [.ptr 0 0, .d (.int .u8 (x.toNat : Int))] [BB 0 0 T b l] [BV 5 0 l] (.d .nilI) [BB 0 0 T true (l ++ [x])] [BV 5 0 (l ++ [x])] := by
 refine AF.start' 60 Tryz.func58 rfl rfl c58call c58ok fun Q hQ => ?_
 simp [c58c, c58t]
 refine ATT.callV Tryz.func58 60 [0] [0] (f86_ok T hT b l 0) (by simp) (by simp) (by simp) (by simp) (by simp) (by simp) (by simp) ?_
 simp [c58t]
 refine ATT.fin' hQ Tryz.func58 c58res ?_
 simp [(by omega : l.length ≤ 140737488355327)]
 all_goals (first | omega | exact ⟨_, rfl⟩ | skip)
theorem f54_ok (T : TypeId) (hT : hasT bldL T 2 = true) (b : Bool) (l : List UInt8) (s : ByteArray) (hl : l.length + s.size ≤ 1099511627776) :
  VF Tryz.prog 54 [.ptr 0 0, .d (.str s)] [BB 0 0 T b l] [BV 5 0 l] (.d (.tup [.int .i64 s.size, .nilI])) [BB 0 0 T true (l ++ s.data.toList)] [BV 5 0 (l ++ s.data.toList)] := by
 refine AF.start' 60 Tryz.func54 rfl rfl c54call c54ok fun Q hQ => ?_
 simp [c54c, c54t]
 refine ATT.callV Tryz.func54 60 [0] [0] (f86_ok T hT b l 0) (by simp) (by simp) (by simp) (by simp) (by simp) (by simp) (by simp) ?_
 simp [c54t]
 refine ATT.fin' hQ Tryz.func54 c54res ?_
 simp [(by omega : l.length + s.size ≤ 140737488355328)]
 all_goals (first | omega | exact ⟨_, rfl⟩ | skip)
theorem f102_ok (T : TypeId) (b : Bool) (l : List UInt8) (z : Nat) :
  VF Tryz.prog 102 [.ptr 0 0] [BB 0 0 T b l] [BV 5 z l] (.d (.int .i64 l.length)) [BB 0 0 T b l] [BV 5 z l] := by
 cases b with
 | false =>
  refine AF.start' 60 Tryz.func102 rfl rfl c102call c102ok fun Q hQ => ?_
  simp [c102c, c102t]
  refine ATT.fin' hQ Tryz.func102 c102res ?_
  simp
  all_goals (first | omega | exact ⟨_, rfl⟩ | skip)
 | true =>
  refine AF.start' 60 Tryz.func102 rfl rfl c102call c102ok fun Q hQ => ?_
  simp [c102c, c102t]
  refine ATT.fin' hQ Tryz.func102 c102res ?_
  simp
  all_goals (first | omega | exact ⟨_, rfl⟩ | skip)
theorem f34_ok (T : TypeId) (b : Bool) (l : List UInt8) (hl : l.length ≤ 1099511627776) :
  VF Tryz.prog 34 [.ptr 0 0] [BB 0 0 T b l] [BV 5 0 l] (.d (.str ⟨l.toArray⟩)) [BB 0 0 T b l] [BV 5 l.length l] := by
 cases l with
 | nil =>
  refine AF.start' 60 Tryz.func34 rfl rfl c34call c34ok fun Q hQ => ?_
  simp [c34c, c34t]
  refine ATT.fin' hQ Tryz.func34 c34res ?_
  simp
  all_goals (first | omega | exact ⟨_, rfl⟩ | skip)
 | cons x l =>
  have hI : inI ((l.length : Int) + 1) = true := inI_of (by omega) (by simp at hl; omega)
  have hb := byteL_bs (x :: l)
  have hs := bytesI_bs (x :: l)
  simp only [List.map_cons] at hb hs
  refine AF.start' 60 Tryz.func34 rfl rfl c34call c34ok fun Q hQ => ?_
  simp [c34c, c34t, hI, hb, hs]
  refine ATT.fin' hQ Tryz.func34 c34res ?_
  simp
  all_goals (first | omega | exact ⟨_, rfl⟩ | skip)
end Go.SL
namespace Go.SL
open Go.Proofs
set_option maxRecDepth 10000
def byteS (s : ByteArray) (i : Nat) : UInt8 := s.data.toList.getD i 0
theorem sbyte_byte (s : ByteArray) (i : Nat) : sbyte s i = ((byteS s i).toNat : Int) := by
 simp [sbyte, byteS]
def quoS (s : ByteArray) (i : Nat) (acc : List UInt8) : Option (List UInt8) × Nat :=
 if h : i < s.size then (if sbyte s i = 39 then (if atS s (i + 1) = 39 then quoS s (i + 2) (acc ++ [39]) else (some acc, i + 1)) else quoS s (i + 1) (acc ++ [byteS s i])) else (none, i)
termination_by s.size - i
def quotedS (s : ByteArray) (i : Nat) : Option (List UInt8) × Nat := if atS s i = 39 then quoS s (i + 1) [] else (none, i)
def quT : Option (List UInt8) → ByteArray
 | some l => ⟨l.toArray⟩
 | none => ⟨#[]⟩
def quB : Option (List UInt8) → Bool
 | some l => decide (l.length ≤ 1024)
 | none => false
abbrev quotV (q : Option (List UInt8) × Nat) : V := .d (.tup [.str (quT q.1), .bool (quB q.1)])
theorem quoS_end {s : ByteArray} {i : Nat} {acc : List UInt8} (h : ¬ i < s.size) : quoS s i acc = (none, i) := by
 rw [quoS]; simp [h]
theorem quoS_two {s : ByteArray} {i : Nat} {acc : List UInt8} (h : i < s.size) (h1 : sbyte s i = 39) (h2 : atS s (i + 1) = 39) : quoS s i acc = quoS s (i + 2) (acc ++ [39]) := by
 rw [quoS]; simp [h, h1, h2]
theorem quoS_one {s : ByteArray} {i : Nat} {acc : List UInt8} (h : i < s.size) (h1 : sbyte s i = 39) (h2 : ¬ atS s (i + 1) = 39) : quoS s i acc = (some acc, i + 1) := by
 rw [quoS]; simp [h, h1, h2]
theorem quoS_more {s : ByteArray} {i : Nat} {acc : List UInt8} (h : i < s.size) (h1 : ¬ sbyte s i = 39) : quoS s i acc = quoS s (i + 1) (acc ++ [byteS s i]) := by
 rw [quoS]; simp [h, h1]
theorem f72_ok (s : ByteArray) (hs : s.size ≤ 1073741824) (i : Nat) (hi : i ≤ 1073741824) : MF Tryz.prog 72 [.ptr 0 0] (RD s i) (quotV (quotedS s i)) (RD s (quotedS s i).2) := by
 have hI : inI ((i : Int) + 1) = true := inI_of (by omega) (by omega)
 refine AF.start' 60 Tryz.func72 rfl rfl c72call c72ok fun Q hQ => ?_
 simp [c72c, c72t]
 refine ATT.callM Tryz.func72 60 [0] (f73_ok s hs i 0 (by omega) (by omega)) rfl (by simp) (by simp) (by simp) (by simp) (by simp) ?_
 simp
 first | with_reducible refine ATT.cC (fun h => ?_) (fun h => ?_) | with_reducible refine ATT.cE (fun h => ?_) (fun h => ?_) | with_reducible refine ATT.cD (fun h => ?_) (fun h => ?_) | with_reducible refine ATT.cCn (fun h => ?_) (fun h => ?_) | with_reducible refine ATT.cEn (fun h => ?_) (fun h => ?_) | with_reducible refine ATT.cDn (fun h => ?_) (fun h => ?_)
 ·simp [c72t, h]
  have hq : quotedS s i = quoS s (i + 1) [] := by simp [quotedS, h]
  rw [hq] at hQ
  generalize hr : quoS s (i + 1) [] = r at hQ
  refine ATT.nilB 1 1 1 5 rfl rfl (by decide) (by simp) ?_
  simp
  refine ATT.loopG 60 c72l12.eq_1 (fun ((j, acc, b) : Nat × List UInt8 × Bool) => s.size - j) (fun ((j, acc, b) : Nat × List UInt8 × Bool) => quoS s j acc = r ∧ acc.length ≤ j) (fun ((j, acc, b) : Nat × List UInt8 × Bool) => [(4, V.ptr 1 0), (0, V.ptr 0 0)]) (fun ((j, acc, b) : Nat × List UInt8 × Bool) => [.cells [.d (.str s), .d (.int .i64 j)] 76, BB 1 0 69 b acc]) (fun ((j, acc, b) : Nat × List UInt8 × Bool) => [BV 5 0 acc]) ((i + 1, [], false)) (by (try dsimp only); exact ⟨hr, by simp⟩) (by simp [hI] <;> omega) (by simp) (by simp [bsV]) ?_
  intro ⟨j, acc, b⟩ u w hI ih
  try simp only at hI ih
  obtain ⟨hj, hl⟩ := hI
  have hT : hasT bldL 69 2 = true := by decide
  have hI1 : j < s.size → inI ((j : Int) + 1) = true := fun h => inI_of (by omega) (by omega)
  have hI2 : j < s.size → inI ((j : Int) + 1 + 1) = true := fun h => inI_of (by omega) (by omega)
  simp [c72t]
  first | with_reducible refine ATT.cC (fun h1 => ?_) (fun h1 => ?_) | with_reducible refine ATT.cE (fun h1 => ?_) (fun h1 => ?_) | with_reducible refine ATT.cD (fun h1 => ?_) (fun h1 => ?_) | with_reducible refine ATT.cCn (fun h1 => ?_) (fun h1 => ?_) | with_reducible refine ATT.cEn (fun h1 => ?_) (fun h1 => ?_) | with_reducible refine ATT.cDn (fun h1 => ?_) (fun h1 => ?_)
  ·have hR : inR (j : Int) s.size = true := inR_of (by omega) (by omega)
   simp [hR]
   first | with_reducible refine ATT.cC (fun h2 => ?_) (fun h2 => ?_) | with_reducible refine ATT.cE (fun h2 => ?_) (fun h2 => ?_) | with_reducible refine ATT.cD (fun h2 => ?_) (fun h2 => ?_) | with_reducible refine ATT.cCn (fun h2 => ?_) (fun h2 => ?_) | with_reducible refine ATT.cEn (fun h2 => ?_) (fun h2 => ?_) | with_reducible refine ATT.cDn (fun h2 => ?_) (fun h2 => ?_)
   ·simp [c72t]
    refine ATT.callM Tryz.func72 60 [0] (f73_ok s hs j 1 (by omega) (by omega)) rfl (by simp) (by simp) (by simp) (by simp) (by simp) ?_
    simp
    first | with_reducible refine ATT.cC (fun h3 => ?_) (fun h3 => ?_) | with_reducible refine ATT.cE (fun h3 => ?_) (fun h3 => ?_) | with_reducible refine ATT.cD (fun h3 => ?_) (fun h3 => ?_) | with_reducible refine ATT.cCn (fun h3 => ?_) (fun h3 => ?_) | with_reducible refine ATT.cEn (fun h3 => ?_) (fun h3 => ?_) | with_reducible refine ATT.cDn (fun h3 => ?_) (fun h3 => ?_)
    ·have h4 : j + 1 < s.size := by unfold atS at h3; split at h3 <;> first | assumption | simp at h3
     have h5 : sbyte s ((j : Int) + 1) = 39 := by unfold atS at h3; rw [if_pos h4] at h3; simpa using h3
     have hR1 : inR ((j : Int) + 1) s.size = true := inR_of (by omega) (by omega)
     simp [c72t, hI1 h1, hR1, h5]
     refine ATT.callRV Tryz.func72 60 [1] [0] (f58_ok 69 hT b acc (by omega) 39) (by simp) (by simp) (by simp) (by simp) (by simp) (by simp) (by simp) ?_
     simp [c72t, hI2 h1]
     refine ih (j + 2, acc ++ [39], true) (by first | ((try dsimp only); omega) | (simp [hR, hI1 h1, hI2 h1] <;> omega)) (by (try dsimp only); exact ⟨by rw [← hj]; exact (quoS_two h1 h2 h3).symm, by simp; omega⟩) _ _ _ (by simp <;> omega) (by simp <;> omega) (by simp [bsV] <;> omega)
    ·simp [c72t, hI1 h1]
     refine ATT.callV Tryz.func72 60 [1] [0] (f34_ok 69 b acc (by omega)) (by simp) (by simp) (by simp) (by simp) (by simp) (by simp) (by simp) ?_
     simp
     refine ATT.callV Tryz.func72 60 [1] [0] (f102_ok 69 b acc acc.length) (by simp) (by simp) (by simp) (by simp) (by simp) (by simp) (by simp) ?_
     simp
     refine ATT.fin' hQ Tryz.func72 c72res ?_
     simp [← hj, quoS_one h1 h2 h3, quT, quB]
     all_goals (first | omega | exact ⟨_, rfl⟩ | skip)
   ·skip
    simp [hR, sbyte_byte]
    refine ATT.callRV Tryz.func72 60 [1] [0] (f58_ok 69 hT b acc (by omega) (byteS s j)) (by simp) (by simp) (by simp) (by simp) (by simp) (by simp) (by simp) ?_
    simp [c72t, hI1 h1]
    refine ih (j + 1, acc ++ [byteS s j], true) (by first | ((try dsimp only); omega) | (simp [hR, hI1 h1, hI2 h1, sbyte_byte] <;> omega)) (by (try dsimp only); exact ⟨by rw [← hj]; exact (quoS_more h1 h2).symm, by simp; omega⟩) _ _ _ (by simp <;> omega) (by simp <;> omega) (by simp [bsV] <;> omega)
  ·simp [h1]
   refine ATT.pass 60 (by simp <;> omega) ?_
   simp [c72t]
   refine ATT.fin' hQ Tryz.func72 c72res ?_
   simp [← hj, quoS_end h1, quT, quB]
   all_goals (first | omega | exact ⟨_, rfl⟩ | skip)
 ·simp [h]
  refine ATT.jump 60 (by simp) rfl ?_
  simp [c72t]
  refine ATT.fin' hQ Tryz.func72 c72res ?_
  simp [quotedS, h, quT, quB]
  all_goals (first | omega | exact ⟨_, rfl⟩ | skip)
end Go.SL
namespace Go.SL
open Go.Proofs
set_option maxRecDepth 10000
theorem skipS_le (p : Int → Bool) (s : ByteArray) : ∀ m i, s.size - i = m → i ≤ skipS p s i ∧ (i ≤ s.size → skipS p s i ≤ s.size) := by
 intro m
 induction m with
 | zero => intro i h; rw [skipS_no (by simp; omega)]; exact ⟨Nat.le_refl _, id⟩
 | succ m ih =>
  intro i h
  cases hb : (decide (i < s.size) && p (sbyte s i)) with
  | false => rw [skipS_no hb]; exact ⟨Nat.le_refl _, id⟩
  | true =>
   rw [skipS_yes hb]
   have := ih (i + 1) (by omega)
   exact ⟨by omega, fun h' => this.2 (by omega)⟩
theorem nameS_le (s : ByteArray) (i : Nat) : i ≤ nameS s i ∧ (i ≤ s.size → nameS s i ≤ s.size) := by
 unfold nameS
 split
 ·exact skipS_le _ s _ i rfl
 ·exact ⟨Nat.le_refl _, id⟩
theorem nameS_gt (s : ByteArray) (i : Nat) : i < nameS s i ↔ (decide (i < s.size) && letterS (sbyte s i)) = true := by
 unfold nameS
 split
 ·rename_i h
  simp only [h, iff_true]
  simp at h
  rw [skipS_yes (by simp [h, identS])]
  have := (skipS_le identS s _ (i + 1) rfl).1
  omega
 ·rename_i h
  simp [h]
theorem colon_lt {s : ByteArray} {i : Nat} (h : colonS s i = true) : i < s.size := by
 simp only [colonS, Bool.and_eq_true, decide_eq_true_eq] at h
 have h := h.1
 unfold atS at h
 split at h
 ·assumption
 ·simp at h
def symK (s : ByteArray) (k : Nat) : Nat := if h : colonS s k = true then symK s (nameS s (k + 1)) else k
termination_by s.size - k
decreasing_by have := colon_lt h; have := (nameS_le s (k + 1)).1; omega
theorem symK_yes {s : ByteArray} {k : Nat} (h : colonS s k = true) : symK s k = symK s (nameS s (k + 1)) := by rw [symK]; simp [h]
theorem symK_no {s : ByteArray} {k : Nat} (h : colonS s k = false) : symK s k = k := by rw [symK]; simp [h]
theorem symK_le (s : ByteArray) : ∀ m k, s.size - k = m → k ≤ symK s k ∧ (k ≤ s.size → symK s k ≤ s.size) := by
 intro m
 induction m using Nat.strongRecOn with
 | ind m ih =>
  intro k hm
  cases h : colonS s k with
  | false => rw [symK_no h]; exact ⟨Nat.le_refl _, id⟩
  | true =>
   rw [symK_yes h]
   have h1 := colon_lt h
   have h2 := nameS_le s (k + 1)
   have := ih (s.size - nameS s (k + 1)) (by omega) _ rfl
   exact ⟨by omega, fun _ => this.2 (h2.2 (by omega))⟩
theorem signsS_le (s : ByteArray) (i : Nat) : i ≤ signsS s i ∧ (i ≤ s.size → signsS s i ≤ s.size) := by
 unfold signsS
 split
 ·rename_i h
  simp at h
  split
  ·rename_i h2
   simp at h2
   exact ⟨by omega, fun _ => by omega⟩
  ·exact ⟨by omega, fun _ => by omega⟩
 ·exact ⟨Nat.le_refl _, id⟩
def symE (s : ByteArray) (i : Nat) : Nat := if i < nameS s i then symK s (nameS s i) else signsS s i
def subT (s : ByteArray) (i j : Nat) : ByteArray := s.extract i j
def symT (s : ByteArray) (i : Nat) : ByteArray := if i < symE s i then subT s i (symE s i) else quT (quotedS s i).1
def symB (s : ByteArray) (i : Nat) : Bool := if i < symE s i then decide (symE s i - i ≤ 1024) else quB (quotedS s i).1
def symN (s : ByteArray) (i : Nat) : Nat := if i < symE s i then symE s i else (quotedS s i).2
theorem f74_ok (s : ByteArray) (hs : s.size ≤ 1073741823) (i : Nat) (hi : i ≤ s.size) : MF Tryz.prog 74 [.ptr 0 0] (RD s i) (.d (.tup [.str (symT s i), .bool (symB s i)])) (RD s (symN s i)) := by
 have hg := nameS_gt s i
 have hM := f35_ok s (by omega) i
 have hle := nameS_le s i
 refine AF.start' 60 Tryz.func74 rfl rfl c74call c74ok fun Q hQ => ?_
 simp [c74c, c74t]
 generalize (decide (i < s.size) && letterS (sbyte s i)) = b at hM hg
 refine ATT.callM Tryz.func74 60 [0] (hM) rfl (by simp) (by simp) (by simp) (by simp) (by simp) ?_
 simp
 cases b with
 | true =>
  have hlt : i < nameS s i := hg.2 rfl
  have hE : symE s i = symK s (nameS s i) := by simp [symE, hlt]
  have hEb := symK_le s _ (nameS s i) rfl
  simp only [symT, symB, symN] at hQ
  rw [if_pos (by rw [hE]; omega), if_pos (by rw [hE]; omega), if_pos (by rw [hE]; omega)] at hQ
  generalize symE s i = e at hE hQ
  refine ATT.loopG 60 c74l6.eq_1 (fun (k : Nat) => s.size - k) (fun (k : Nat) => symK s k = e ∧ i < k ∧ k ≤ e ∧ k ≤ s.size) (fun (k : Nat) => [(4, V.d (.int .i64 i)), (0, V.ptr 0 0)]) (fun (k : Nat) => [.cells [.d (.str s), .d (.int .i64 k)] 76]) (fun (k : Nat) => []) (nameS s i) (by (try dsimp only); exact ⟨hE.symm, hlt, by omega, by omega⟩) (by simp <;> omega) (by simp) (by simp) ?_
  intro k u w hI ih
  try simp only at hI ih
  simp [c74t]
  refine ATT.callM Tryz.func74 60 [0] (f70_ok s (by omega) k (by omega)) rfl (by simp) (by simp) (by simp) (by simp) (by simp) ?_
  simp
  cases hc : colonS s k with
  | true =>
   have hk := colon_lt hc
   have h1 := nameS_le s (k + 1)
   have h2 := symK_yes hc
   have h3 := symK_le s _ (nameS s (k + 1)) rfl
   have hI1 : inI ((k : Int) + 1) = true := inI_of (by omega) (by omega)
   have hN := f35_ok s (by omega) (k + 1)
   simp only [Int.natCast_add, Int.natCast_one] at hN
   simp [c74t, hI1]
   refine ATT.callM Tryz.func74 60 [0] (hN) rfl (by simp) (by simp) (by simp) (by simp) (by simp) ?_
   simp
   have he : symK s (nameS s (k + 1)) = e := by rw [← h2]; exact hI.1
   refine ih (nameS s (k + 1)) (by first | ((try dsimp only); omega) | (simp <;> omega)) (by (try dsimp only); exact ⟨he, by omega, by omega, by omega⟩) _ _ _ (by simp <;> omega) (by simp <;> omega) (by simp <;> omega)
  | false =>
   have h2 := symK_no hc
   have he : e = k := by rw [← hI.1]; exact h2
   have hI1 : inI ((k : Int) - i) = true := inI_of (by omega) (by omega)
   simp [hI1]
   refine ATT.fin' hQ Tryz.func74 c74res ?_
   simp [he, subT]
   all_goals (first | omega | exact ⟨_, rfl⟩ | skip)
 | false =>
  have hlt : ¬ i < nameS s i := fun h => by simpa using hg.1 h
  have hn : nameS s i = i := by omega
  have hE : symE s i = signsS s i := by simp [symE, hlt]
  have hb := signsS_le s i
  have hSg := f75_ok s (by omega) i (by omega)
  simp [c74t, hn]
  refine ATT.callM Tryz.func74 60 [0] (hSg) rfl (by simp) (by simp) (by simp) (by simp) (by simp) ?_
  simp
  by_cases h1 : i < signsS s i
  ·simp only [symT, symB, symN] at hQ
   rw [if_pos (by rw [hE]; exact h1), if_pos (by rw [hE]; exact h1), if_pos (by rw [hE]; exact h1)] at hQ
   have hI1 : inI ((signsS s i : Int) - i) = true := inI_of (by omega) (by omega)
   simp [h1, hI1]
   refine ATT.fin' hQ Tryz.func74 c74res ?_
   simp [hE, subT]
   all_goals (first | omega | exact ⟨_, rfl⟩ | skip)
  ·simp only [symT, symB, symN] at hQ
   rw [if_neg (by rw [hE]; exact h1), if_neg (by rw [hE]; exact h1), if_neg (by rw [hE]; exact h1)] at hQ
   have hs0 : signsS s i = i := by omega
   simp [c74t, hs0]
   refine ATT.callM Tryz.func74 60 [0] (f72_ok s (by omega) i (by omega)) rfl (by simp) (by simp) (by simp) (by simp) (by simp) ?_
   simp
   refine ATT.fin' hQ Tryz.func74 c74res ?_
   simp
   all_goals (first | omega | exact ⟨_, rfl⟩ | skip)
end Go.SL
namespace Go.SL
open Go.Proofs
set_option maxRecDepth 10000
def singlesT : ByteArray := ⟨#[40, 41, 91, 93, 124, 94, 46, 59]⟩
def wordS (num : ByteArray → Bool) (s : ByteArray) (i : Nat) : Option (Int × ByteArray × Nat) :=
 if letterS (sbyte s i) then (if colonS s (nameS s i) then some (2, subT s i (nameS s i + 1), nameS s i + 1) else some (1, subT s i (nameS s i), nameS s i))
 else if digitS (sbyte s i) then (if num (subT s i (skipS digitS s i)) then some (4, subT s i (skipS digitS s i), skipS digitS s i) else none)
 else if sbyte s i = 39 then (if quB (quotedS s i).1 then some (5, quT (quotedS s i).1, (quotedS s i).2) else none)
 else if sbyte s i = 35 then (if atS s (i + 1) = 40 then some (17, subT s i (i + 2), i + 2) else if symB s (i + 1) then some (6, symT s (i + 1), symN s (i + 1)) else none)
 else if sbyte s i = 58 then (if atS s (i + 1) = 61 then some (7, subT s i (i + 2), i + 2) else some (16, subT s i (i + 1), i + 1))
 else if signS (sbyte s i) then some (3, subT s i (signsS s i), signsS s i)
 else if 0 ≤ placeS (sbyte s i) singlesT 0 then some (8 + placeS (sbyte s i) singlesT 0, subT s i (i + 1), i + 1)
 else none
def tokD (k : Int) (t : ByteArray) (a : Nat) : D := .agg [.int .i64 k, .str t, .int .i64 a]
def digs (t : ByteArray) : Prop := 0 < t.size ∧ ∀ i : Nat, i < t.size → digitS (sbyte t i) = true
def NumP (f : FuncId) (num : ByteArray → Bool) : Prop := ∀ t, digs t → t.size ≤ 1073741824 → DE Tryz.prog f [.str t] fun v => ∃ b nl sz xs e, v = .tup [.agg [.bool b, .sl nl sz xs], .int .i64 e] ∧ (e = 0 ↔ num t = true)
theorem subT_size {s : ByteArray} {i j : Nat} (h : i ≤ j) (hj : j ≤ s.size) : (subT s i j).size = j - i := by
 simp [subT]; omega
theorem sbyte_sub {s : ByteArray} {i j k : Nat} (h : i + k < j) (hj : j ≤ s.size) : sbyte (subT s i j) k = sbyte s (i + k : Nat) := by
 have hj' : j ≤ s.data.size := hj
 simp only [sbyte, subT, ByteArray.data_extract, Int.toNat_natCast]
 congr 2
 simp only [List.getD_eq_getElem?_getD, Array.getElem?_toList]
 rw [Array.getElem?_extract]
 simp
 rw [if_pos (by omega)]
theorem skipS_all {p : Int → Bool} {s : ByteArray} : ∀ m i, s.size - i = m → ∀ j : Nat, i ≤ j → j < skipS p s i → p (sbyte s j) = true := by
 intro m
 induction m with
 | zero => intro i hm j h1 h2; rw [skipS_no (by simp; omega)] at h2; omega
 | succ m ih =>
  intro i hm j h1 h2
  cases hb : (decide (i < s.size) && p (sbyte s i)) with
  | false => rw [skipS_no hb] at h2; omega
  | true =>
   rw [skipS_yes hb] at h2
   by_cases hj : j = i
   ·subst hj; simp at hb; exact hb.2
   ·exact ih (i + 1) (by omega) j (by omega) h2
theorem digs_sub {s : ByteArray} {i : Nat} (hi : i < s.size) (hd : digitS (sbyte s i) = true) : digs (subT s i (skipS digitS s i)) := by
 have h1 := skipS_le digitS s _ i rfl
 have h2 : i < skipS digitS s i := by
  rw [skipS_yes (by simp [hi, hd])]
  have := (skipS_le digitS s _ (i + 1) rfl).1
  omega
 refine ⟨by rw [subT_size h1.1 (h1.2 (by omega))]; omega, fun k hk => ?_⟩
 rw [subT_size h1.1 (h1.2 (by omega))] at hk
 rw [sbyte_sub (by omega) (h1.2 (by omega))]
 exact skipS_all _ i rfl _ (by omega) (by omega)
def placeL (c : Int) : List UInt8 → Nat → Int
 | [], _ => -1
 | x :: r, i => if (x.toNat : Int) = c then i else placeL c r (i + 1)
theorem placeS_L (c : Int) (s : ByteArray) : ∀ m i, s.size - i = m → placeS c s i = placeL c (s.data.toList.drop i) i := by
 intro m
 induction m with
 | zero =>
  intro i h
  rw [placeS]
  have : s.data.toList.drop i = [] := List.drop_eq_nil_of_le (by simp; have : s.size = s.data.size := rfl; omega)
  rw [this]
  simp [show ¬ i < s.size by omega, placeL]
 | succ m ih =>
  intro i h
  have hi : i < s.data.toList.length := by simp; have : s.size = s.data.size := rfl; omega
  rw [placeS, List.drop_eq_getElem_cons hi, placeL, ← ih (i + 1) (by omega)]
  have h1 : i < s.size := by omega
  simp only [h1, dite_true]
  have h2 : sbyte s i = ((s.data.toList[i]).toNat : Int) := by simp [sbyte, List.getD_eq_getElem?_getD, h1]
  rw [h2]
theorem atS_lt {s : ByteArray} {i : Nat} (h : atS s i ≠ 0) : i < s.size := by
 unfold atS at h
 split at h
 ·assumption
 ·exact absurd rfl h
theorem signsS_gt (s : ByteArray) (i : Nat) : i < signsS s i ↔ (decide (i < s.size) && signS (sbyte s i)) = true := by
 unfold signsS
 split
 ·rename_i h
  simp only [h, iff_true]
  split <;> omega
 ·rename_i h
  simp [h]
theorem singlesA : Ascii singlesT := by unfold Ascii; decide
def WordQ (num : ByteArray → Bool) (s : ByteArray) (i : Nat) (o : Out) (h : H) : Prop :=
 ∃ k' t' a' j r w, o = .ret (.d (.tup [tokD k' t' a', .bool (wordS num s i).isSome])) ∧ h = ⟨RD s j ++ r, w⟩ ∧ ∀ k t e, wordS num s i = some (k, t, e) → k' = k ∧ t' = t ∧ a' = i ∧ j = e
section
variable {num : ByteArray → Bool} (s : ByteArray) (hs : s.size ≤ 1073741820) (i : Nat) (hi : i < s.size)
include hs hi
theorem f45_letter (hl : letterS (sbyte s i) = true) : AF Tryz.prog 45 [.ptr 0 0] ⟨RD s i, []⟩ (WordQ num s i) := by
 have hR : inR (i : Int) s.size = true := inR_of (by omega) (by omega)
 have hNm := f35_ok s (by omega) i
 have hNl := nameS_le s i
 have hI3 : inI ((nameS s i : Int) + 1) = true := inI_of (by omega) (by omega)
 rw [hl] at hNm
 refine AF.start' 60 Tryz.func45 rfl rfl c45call c45ok fun Q hQ => ?_
 simp [c45c, c45t, hR]
 refine ATT.callD Tryz.func45 60 (f64_ok (sbyte s i) (sbyte_bd s i).1 (sbyte_bd s i).2) (by simp) (by simp) (by simp) ?_
 simp [c45t, hl]
 refine ATT.callM Tryz.func45 60 [0] (hNm) rfl (by simp) (by simp) (by simp) (by simp) (by simp) ?_
 simp [c45t]
 refine ATT.callM Tryz.func45 60 [0] (f70_ok s (by omega) (nameS s i) (by omega)) rfl (by simp) (by simp) (by simp) (by simp) (by simp) ?_
 simp
 cases hc : colonS s (nameS s i) with
 | true =>
  have := colon_lt hc
  simp [c45t, hI3]
  refine ATT.fin' hQ Tryz.func45 c45res ?_
  simp [hl, WordQ, wordS, hc, tokD, subT]
  all_goals (first | omega | exact ⟨_, rfl⟩ | exact ⟨⟨_, rfl⟩, _, rfl⟩ | exact ⟨_, _, _, ⟨rfl, rfl, rfl⟩, _, rfl, rfl, rfl, rfl, rfl⟩ | exact ⟨_, _, _, ⟨rfl, rfl, rfl⟩, _, by omega, rfl, rfl, rfl, rfl⟩ | exact ⟨by omega, _, _, _, ⟨rfl, rfl, rfl⟩, _, by omega, rfl, rfl, rfl, rfl⟩ | skip)
 | false =>
  simp [c45t]
  refine ATT.fin' hQ Tryz.func45 c45res ?_
  simp [hl, WordQ, wordS, hc, tokD, subT]
  all_goals (first | omega | exact ⟨_, rfl⟩ | exact ⟨⟨_, rfl⟩, _, rfl⟩ | exact ⟨_, _, _, ⟨rfl, rfl, rfl⟩, _, rfl, rfl, rfl, rfl, rfl⟩ | exact ⟨_, _, _, ⟨rfl, rfl, rfl⟩, _, by omega, rfl, rfl, rfl, rfl⟩ | exact ⟨by omega, _, _, _, ⟨rfl, rfl, rfl⟩, _, by omega, rfl, rfl, rfl, rfl⟩ | skip)
theorem f45_digit (hW : NumP 71 num) (hl : letterS (sbyte s i) = false) (hd : digitS (sbyte s i) = true) : AF Tryz.prog 45 [.ptr 0 0] ⟨RD s i, []⟩ (WordQ num s i) := by
 have hR : inR (i : Int) s.size = true := inR_of (by omega) (by omega)
 have hkl := skipS_le digitS s _ i rfl
 have hdg := digs_sub hi hd
 have hsz := subT_size (s := s) hkl.1 (hkl.2 (by omega))
 have hk1 := hkl.1
 have hk2 := hkl.2 (by omega)
 refine AF.start' 60 Tryz.func45 rfl rfl c45call c45ok fun Q hQ => ?_
 simp [c45c, c45t, hR]
 refine ATT.callD Tryz.func45 60 (f64_ok (sbyte s i) (sbyte_bd s i).1 (sbyte_bd s i).2) (by simp) (by simp) (by simp) ?_
 simp [c45t, hl]
 refine ATT.callD Tryz.func45 60 (f66_ok (sbyte s i)) (by simp) (by simp) (by simp) ?_
 simp [c45t, hd]
 refine ATT.callM Tryz.func45 60 [0] (f41_ok digitB s (by omega) i) rfl (by simp) (by simp) (by simp) (by simp) (by simp) ?_
 simp
 refine ATT.ords 60 (by simp <;> omega) fun o ho => ?_
 simp only [List.mem_cons, List.mem_nil_iff, or_false] at ho
 rcases ho with ho | ho <;> subst ho
 simp [hk1, hk2]
 ·refine ATT.callRE Tryz.func45 60 (hW _ hdg (by omega)) (by simp) (by simp [subT]) (by simp) fun _ hE => ?_
  obtain ⟨b, nl, sz, xs, e, rfl, he⟩ := hE
  simp [c45t, hk1, hk2]
  cases hn : num (subT s i (skipS digitS s i)) <;> rw [hn] at he <;> simp only [subT] at hn
  ·refine ATT.fin' hQ Tryz.func45 c45res ?_
   simp [hl, hd, subT, WordQ, wordS, hn, tokD, he]
   all_goals (first | omega | exact ⟨_, rfl⟩ | exact ⟨⟨_, rfl⟩, _, rfl⟩ | exact ⟨_, _, _, ⟨rfl, rfl, rfl⟩, _, rfl, rfl, rfl, rfl, rfl⟩ | exact ⟨_, _, _, ⟨rfl, rfl, rfl⟩, _, by omega, rfl, rfl, rfl, rfl⟩ | exact ⟨by omega, _, _, _, ⟨rfl, rfl, rfl⟩, _, by omega, rfl, rfl, rfl, rfl⟩ | skip)
  ·refine ATT.fin' hQ Tryz.func45 c45res ?_
   simp [hl, hd, subT, WordQ, wordS, hn, tokD, he]
   all_goals (first | omega | exact ⟨_, rfl⟩ | exact ⟨⟨_, rfl⟩, _, rfl⟩ | exact ⟨_, _, _, ⟨rfl, rfl, rfl⟩, _, rfl, rfl, rfl, rfl, rfl⟩ | exact ⟨_, _, _, ⟨rfl, rfl, rfl⟩, _, by omega, rfl, rfl, rfl, rfl⟩ | exact ⟨by omega, _, _, _, ⟨rfl, rfl, rfl⟩, _, by omega, rfl, rfl, rfl, rfl⟩ | skip)
 ·refine ATT.callRE Tryz.func45 60 (hW _ hdg (by omega)) (by simp) (by simp [subT]) (by simp [hk1, hk2]) fun _ hE => ?_
  obtain ⟨b, nl, sz, xs, e, rfl, he⟩ := hE
  simp [c45t, hk1, hk2]
  cases hn : num (subT s i (skipS digitS s i)) <;> rw [hn] at he <;> simp only [subT] at hn
  ·refine ATT.fin' hQ Tryz.func45 c45res ?_
   simp [hl, hd, subT, WordQ, wordS, hn, tokD, he]
   all_goals (first | omega | exact ⟨_, rfl⟩ | exact ⟨⟨_, rfl⟩, _, rfl⟩ | exact ⟨_, _, _, ⟨rfl, rfl, rfl⟩, _, rfl, rfl, rfl, rfl, rfl⟩ | exact ⟨_, _, _, ⟨rfl, rfl, rfl⟩, _, by omega, rfl, rfl, rfl, rfl⟩ | exact ⟨by omega, _, _, _, ⟨rfl, rfl, rfl⟩, _, by omega, rfl, rfl, rfl, rfl⟩ | skip)
  ·refine ATT.fin' hQ Tryz.func45 c45res ?_
   simp [hl, hd, subT, WordQ, wordS, hn, tokD, he]
   all_goals (first | omega | exact ⟨_, rfl⟩ | exact ⟨⟨_, rfl⟩, _, rfl⟩ | exact ⟨_, _, _, ⟨rfl, rfl, rfl⟩, _, rfl, rfl, rfl, rfl, rfl⟩ | exact ⟨_, _, _, ⟨rfl, rfl, rfl⟩, _, by omega, rfl, rfl, rfl, rfl⟩ | exact ⟨by omega, _, _, _, ⟨rfl, rfl, rfl⟩, _, by omega, rfl, rfl, rfl, rfl⟩ | skip)
theorem f45_quote (h39 : sbyte s i = 39) : AF Tryz.prog 45 [.ptr 0 0] ⟨RD s i, []⟩ (WordQ num s i) := by
 have hR : inR (i : Int) s.size = true := inR_of (by omega) (by omega)
 have hl : letterS (sbyte s i) = false := by rw [h39]; decide
 have hd : digitS (sbyte s i) = false := by rw [h39]; decide
 have n35 : ¬ sbyte s i = 35 := by rw [h39]; decide
 have n58 : ¬ sbyte s i = 58 := by rw [h39]; decide
 refine AF.start' 60 Tryz.func45 rfl rfl c45call c45ok fun Q hQ => ?_
 simp [c45c, c45t, hR]
 refine ATT.callD Tryz.func45 60 (f64_ok (sbyte s i) (sbyte_bd s i).1 (sbyte_bd s i).2) (by simp) (by simp) (by simp) ?_
 simp [c45t, hl]
 refine ATT.callD Tryz.func45 60 (f66_ok (sbyte s i)) (by simp) (by simp) (by simp) ?_
 simp [c45t, eq_true h39, hd]
 refine ATT.callM Tryz.func45 60 [0] (f72_ok s (by omega) i (by omega)) rfl (by simp) (by simp) (by simp) (by simp) (by simp) ?_
 simp [c45t]
 cases hq : quB (quotedS s i).1 with
 | true => refine ATT.fin' hQ Tryz.func45 c45res ?_
           simp [eq_true h39, hl, hd, WordQ, wordS, tokD, hq]
           all_goals (first | omega | exact ⟨_, rfl⟩ | exact ⟨⟨_, rfl⟩, _, rfl⟩ | exact ⟨_, _, _, ⟨rfl, rfl, rfl⟩, _, rfl, rfl, rfl, rfl, rfl⟩ | exact ⟨_, _, _, ⟨rfl, rfl, rfl⟩, _, by omega, rfl, rfl, rfl, rfl⟩ | exact ⟨by omega, _, _, _, ⟨rfl, rfl, rfl⟩, _, by omega, rfl, rfl, rfl, rfl⟩ | skip)
 | false => refine ATT.fin' hQ Tryz.func45 c45res ?_
            simp [eq_true h39, hl, hd, WordQ, wordS, tokD, hq]
            all_goals (first | omega | exact ⟨_, rfl⟩ | exact ⟨⟨_, rfl⟩, _, rfl⟩ | exact ⟨_, _, _, ⟨rfl, rfl, rfl⟩, _, rfl, rfl, rfl, rfl, rfl⟩ | exact ⟨_, _, _, ⟨rfl, rfl, rfl⟩, _, by omega, rfl, rfl, rfl, rfl⟩ | exact ⟨by omega, _, _, _, ⟨rfl, rfl, rfl⟩, _, by omega, rfl, rfl, rfl, rfl⟩ | skip)
theorem f45_hash (h35 : sbyte s i = 35) : AF Tryz.prog 45 [.ptr 0 0] ⟨RD s i, []⟩ (WordQ num s i) := by
 have hR : inR (i : Int) s.size = true := inR_of (by omega) (by omega)
 have hI1 : inI ((i : Int) + 1) = true := inI_of (by omega) (by omega)
 have hI2 : inI ((i : Int) + 2) = true := inI_of (by omega) (by omega)
 have hl : letterS (sbyte s i) = false := by rw [h35]; decide
 have hd : digitS (sbyte s i) = false := by rw [h35]; decide
 have n39 : ¬ sbyte s i = 39 := by rw [h35]; decide
 have n58 : ¬ sbyte s i = 58 := by rw [h35]; decide
 refine AF.start' 60 Tryz.func45 rfl rfl c45call c45ok fun Q hQ => ?_
 simp [c45c, c45t, hR]
 refine ATT.callD Tryz.func45 60 (f64_ok (sbyte s i) (sbyte_bd s i).1 (sbyte_bd s i).2) (by simp) (by simp) (by simp) ?_
 simp [c45t, hl]
 refine ATT.callD Tryz.func45 60 (f66_ok (sbyte s i)) (by simp) (by simp) (by simp) ?_
 simp [c45t, eq_true h35, hd, n39]
 refine ATT.callM Tryz.func45 60 [0] (f73_ok s (by omega) i 1 (by omega) (by omega)) rfl (by simp) (by simp) (by simp) (by simp) (by simp) ?_
 simp
 first | with_reducible refine ATT.cC (fun h40 => ?_) (fun h40 => ?_) | with_reducible refine ATT.cE (fun h40 => ?_) (fun h40 => ?_) | with_reducible refine ATT.cD (fun h40 => ?_) (fun h40 => ?_) | with_reducible refine ATT.cCn (fun h40 => ?_) (fun h40 => ?_) | with_reducible refine ATT.cEn (fun h40 => ?_) (fun h40 => ?_) | with_reducible refine ATT.cDn (fun h40 => ?_) (fun h40 => ?_)
 ·have hlt := atS_lt (s := s) (i := i + 1) (by rw [h40]; decide)
  have ht2 : ((i : Int) + 2).toNat = i + 2 := by omega
  have hb2 : (i : Int) ≤ i + 2 ∧ (i : Int) + 2 ≤ s.size := by omega
  simp [c45t, hI2, h40]
  refine ATT.fin' hQ Tryz.func45 c45res ?_
  simp [eq_true h35, hl, hd, n39, WordQ, wordS, h40, tokD, subT, ht2, hb2]
  all_goals (first | omega | exact ⟨_, rfl⟩ | exact ⟨⟨_, rfl⟩, _, rfl⟩ | exact ⟨_, _, _, ⟨rfl, rfl, rfl⟩, _, rfl, rfl, rfl, rfl, rfl⟩ | exact ⟨_, _, _, ⟨rfl, rfl, rfl⟩, _, by omega, rfl, rfl, rfl, rfl⟩ | exact ⟨by omega, _, _, _, ⟨rfl, rfl, rfl⟩, _, by omega, rfl, rfl, rfl, rfl⟩ | skip)
 ·simp [c45t, eq_true h35, hI1, h40]
  refine ATT.callM Tryz.func45 60 [0] (f74_ok s (by omega) (i + 1) (by omega)) rfl (by simp) (by simp) (by simp) (by simp) (by simp) ?_
  simp [c45t]
  cases hq : symB s (i + 1) with
  | true => refine ATT.fin' hQ Tryz.func45 c45res ?_
            simp [eq_true h35, hl, hd, n39, WordQ, wordS, h40, tokD, hq]
            all_goals (first | omega | exact ⟨_, rfl⟩ | exact ⟨⟨_, rfl⟩, _, rfl⟩ | exact ⟨_, _, _, ⟨rfl, rfl, rfl⟩, _, rfl, rfl, rfl, rfl, rfl⟩ | exact ⟨_, _, _, ⟨rfl, rfl, rfl⟩, _, by omega, rfl, rfl, rfl, rfl⟩ | exact ⟨by omega, _, _, _, ⟨rfl, rfl, rfl⟩, _, by omega, rfl, rfl, rfl, rfl⟩ | skip)
  | false => refine ATT.fin' hQ Tryz.func45 c45res ?_
             simp [eq_true h35, hl, hd, n39, WordQ, wordS, h40, tokD, hq]
             all_goals (first | omega | exact ⟨_, rfl⟩ | exact ⟨⟨_, rfl⟩, _, rfl⟩ | exact ⟨_, _, _, ⟨rfl, rfl, rfl⟩, _, rfl, rfl, rfl, rfl, rfl⟩ | exact ⟨_, _, _, ⟨rfl, rfl, rfl⟩, _, by omega, rfl, rfl, rfl, rfl⟩ | exact ⟨by omega, _, _, _, ⟨rfl, rfl, rfl⟩, _, by omega, rfl, rfl, rfl, rfl⟩ | skip)
theorem f45_colon (h58 : sbyte s i = 58) : AF Tryz.prog 45 [.ptr 0 0] ⟨RD s i, []⟩ (WordQ num s i) := by
 have hR : inR (i : Int) s.size = true := inR_of (by omega) (by omega)
 have hI1 : inI ((i : Int) + 1) = true := inI_of (by omega) (by omega)
 have hI2 : inI ((i : Int) + 2) = true := inI_of (by omega) (by omega)
 have hl : letterS (sbyte s i) = false := by rw [h58]; decide
 have hd : digitS (sbyte s i) = false := by rw [h58]; decide
 have n39 : ¬ sbyte s i = 39 := by rw [h58]; decide
 have n35 : ¬ sbyte s i = 35 := by rw [h58]; decide
 refine AF.start' 60 Tryz.func45 rfl rfl c45call c45ok fun Q hQ => ?_
 simp [c45c, c45t, hR]
 refine ATT.callD Tryz.func45 60 (f64_ok (sbyte s i) (sbyte_bd s i).1 (sbyte_bd s i).2) (by simp) (by simp) (by simp) ?_
 simp [c45t, hl]
 refine ATT.callD Tryz.func45 60 (f66_ok (sbyte s i)) (by simp) (by simp) (by simp) ?_
 simp [c45t, eq_true h58, hd, n39, n35]
 refine ATT.callM Tryz.func45 60 [0] (f73_ok s (by omega) i 1 (by omega) (by omega)) rfl (by simp) (by simp) (by simp) (by simp) (by simp) ?_
 simp
 first | with_reducible refine ATT.cC (fun h61 => ?_) (fun h61 => ?_) | with_reducible refine ATT.cE (fun h61 => ?_) (fun h61 => ?_) | with_reducible refine ATT.cD (fun h61 => ?_) (fun h61 => ?_) | with_reducible refine ATT.cCn (fun h61 => ?_) (fun h61 => ?_) | with_reducible refine ATT.cEn (fun h61 => ?_) (fun h61 => ?_) | with_reducible refine ATT.cDn (fun h61 => ?_) (fun h61 => ?_)
 ·have hlt := atS_lt (s := s) (i := i + 1) (by rw [h61]; decide)
  have ht2 : ((i : Int) + 2).toNat = i + 2 := by omega
  have hb2 : (i : Int) ≤ i + 2 ∧ (i : Int) + 2 ≤ s.size := by omega
  simp [c45t, hI2, h61]
  refine ATT.fin' hQ Tryz.func45 c45res ?_
  simp [eq_true h58, hl, hd, n39, n35, WordQ, wordS, h61, tokD, subT, ht2, hb2]
  all_goals (first | omega | exact ⟨_, rfl⟩ | exact ⟨⟨_, rfl⟩, _, rfl⟩ | exact ⟨_, _, _, ⟨rfl, rfl, rfl⟩, _, rfl, rfl, rfl, rfl, rfl⟩ | exact ⟨_, _, _, ⟨rfl, rfl, rfl⟩, _, by omega, rfl, rfl, rfl, rfl⟩ | exact ⟨by omega, _, _, _, ⟨rfl, rfl, rfl⟩, _, by omega, rfl, rfl, rfl, rfl⟩ | skip)
 ·simp [c45t, eq_true h58, hI1, h61]
  refine ATT.fin' hQ Tryz.func45 c45res ?_
  simp [eq_true h58, hl, hd, n39, n35, WordQ, wordS, h61, tokD, subT]
  all_goals (first | omega | exact ⟨_, rfl⟩ | exact ⟨⟨_, rfl⟩, _, rfl⟩ | exact ⟨_, _, _, ⟨rfl, rfl, rfl⟩, _, rfl, rfl, rfl, rfl, rfl⟩ | exact ⟨_, _, _, ⟨rfl, rfl, rfl⟩, _, by omega, rfl, rfl, rfl, rfl⟩ | exact ⟨by omega, _, _, _, ⟨rfl, rfl, rfl⟩, _, by omega, rfl, rfl, rfl, rfl⟩ | skip)
theorem f45_sign (hl : letterS (sbyte s i) = false) (hd : digitS (sbyte s i) = false) (h39 : ¬ sbyte s i = 39) (h35 : ¬ sbyte s i = 35) (h58 : ¬ sbyte s i = 58) (hsg : signS (sbyte s i) = true) : AF Tryz.prog 45 [.ptr 0 0] ⟨RD s i, []⟩ (WordQ num s i) := by
 have hR : inR (i : Int) s.size = true := inR_of (by omega) (by omega)
 have hlt : i < signsS s i := (signsS_gt s i).2 (by simp [hi, hsg])
 have hsl := signsS_le s i
 refine AF.start' 60 Tryz.func45 rfl rfl c45call c45ok fun Q hQ => ?_
 simp [c45c, c45t, hR]
 refine ATT.callD Tryz.func45 60 (f64_ok (sbyte s i) (sbyte_bd s i).1 (sbyte_bd s i).2) (by simp) (by simp) (by simp) ?_
 simp [c45t, hl]
 refine ATT.callD Tryz.func45 60 (f66_ok (sbyte s i)) (by simp) (by simp) (by simp) ?_
 simp [c45t, hd, h39, h35, h58]
 refine ATT.callM Tryz.func45 60 [0] (f75_ok s (by omega) i (by omega)) rfl (by simp) (by simp) (by simp) (by simp) (by simp) ?_
 simp [c45t, hlt]
 refine ATT.fin' hQ Tryz.func45 c45res ?_
 simp [hl, hd, h39, h35, h58, WordQ, wordS, hsg, tokD, subT]
 all_goals (first | omega | exact ⟨_, rfl⟩ | exact ⟨⟨_, rfl⟩, _, rfl⟩ | exact ⟨_, _, _, ⟨rfl, rfl, rfl⟩, _, rfl, rfl, rfl, rfl, rfl⟩ | exact ⟨_, _, _, ⟨rfl, rfl, rfl⟩, _, by omega, rfl, rfl, rfl, rfl⟩ | exact ⟨by omega, _, _, _, ⟨rfl, rfl, rfl⟩, _, by omega, rfl, rfl, rfl, rfl⟩ | skip)
theorem f45_single (hl : letterS (sbyte s i) = false) (hd : digitS (sbyte s i) = false) (h39 : ¬ sbyte s i = 39) (h35 : ¬ sbyte s i = 35) (h58 : ¬ sbyte s i = 58) (hsg : signS (sbyte s i) = false) : AF Tryz.prog 45 [.ptr 0 0] ⟨RD s i, []⟩ (WordQ num s i) := by
 have hR : inR (i : Int) s.size = true := inR_of (by omega) (by omega)
 have hI1 : inI ((i : Int) + 1) = true := inI_of (by omega) (by omega)
 have hlt : ¬ i < signsS s i := fun h => by
  have := (signsS_gt s i).1 h
  simp [hsg] at this
 have hs0 : signsS s i = i := by have := (signsS_le s i).1; omega
 have hp := place_bd (sbyte s i) singlesT _ 0 rfl
 have hps : singlesT.size = 8 := by decide
 have hI3 : inI (8 + placeS (sbyte s i) singlesT 0) = true := inI_of (by omega) (by omega)
 have hP := f43_ok (sbyte s i) singlesT singlesA
 have hb1 : (i : Int) ≤ i + 1 ∧ (i : Int) + 1 ≤ s.size := by omega
 have ht1 : ((i : Int) + 1).toNat = i + 1 := by omega
 have hsT : (⟨#[40, 41, 91, 93, 124, 94, 46, 59]⟩ : ByteArray) = singlesT := rfl
 refine AF.start' 60 Tryz.func45 rfl rfl c45call c45ok fun Q hQ => ?_
 simp [c45c, c45t, hR]
 refine ATT.callD Tryz.func45 60 (f64_ok (sbyte s i) (sbyte_bd s i).1 (sbyte_bd s i).2) (by simp) (by simp) (by simp) ?_
 simp [c45t, hl]
 refine ATT.callD Tryz.func45 60 (f66_ok (sbyte s i)) (by simp) (by simp) (by simp) ?_
 simp [c45t, hd, h39, h35, h58]
 refine ATT.callM Tryz.func45 60 [0] (f75_ok s (by omega) i (by omega)) rfl (by simp) (by simp) (by simp) (by simp) (by simp) ?_
 simp [c45t, hs0, hsT]
 refine ATT.callD Tryz.func45 60 (hP) (by simp) (by simp) (by simp) ?_
 simp [c45t, hI1, hI3, hb1, ht1]
 by_cases h0 : 0 ≤ placeS (sbyte s i) singlesT 0
 ·have h8 : (8 : Int) ≤ 8 + placeS (sbyte s i) singlesT 0 := by omega
  refine ATT.fin' hQ Tryz.func45 c45res ?_
  simp [hl, hd, h39, h35, h58, WordQ, wordS, hsg, tokD, subT, h0, h8]
  all_goals (first | omega | exact ⟨_, rfl⟩ | exact ⟨⟨_, rfl⟩, _, rfl⟩ | exact ⟨_, _, _, ⟨rfl, rfl, rfl⟩, _, rfl, rfl, rfl, rfl, rfl⟩ | exact ⟨_, _, _, ⟨rfl, rfl, rfl⟩, _, by omega, rfl, rfl, rfl, rfl⟩ | exact ⟨by omega, _, _, _, ⟨rfl, rfl, rfl⟩, _, by omega, rfl, rfl, rfl, rfl⟩ | skip)
 ·have h8 : ¬ (8 : Int) ≤ 8 + placeS (sbyte s i) singlesT 0 := by omega
  refine ATT.fin' hQ Tryz.func45 c45res ?_
  simp [hl, hd, h39, h35, h58, WordQ, wordS, hsg, tokD, h0, h8]
  all_goals (first | omega | exact ⟨_, rfl⟩ | exact ⟨⟨_, rfl⟩, _, rfl⟩ | exact ⟨_, _, _, ⟨rfl, rfl, rfl⟩, _, rfl, rfl, rfl, rfl, rfl⟩ | exact ⟨_, _, _, ⟨rfl, rfl, rfl⟩, _, by omega, rfl, rfl, rfl, rfl⟩ | exact ⟨by omega, _, _, _, ⟨rfl, rfl, rfl⟩, _, by omega, rfl, rfl, rfl, rfl⟩ | skip)
theorem f45_ok (hW : NumP 71 num) : AF Tryz.prog 45 [.ptr 0 0] ⟨RD s i, []⟩ (WordQ num s i) := by
 cases hl : letterS (sbyte s i) with
 | true => exact f45_letter s hs i hi hl
 | false =>
  cases hd : digitS (sbyte s i) with
  | true => exact f45_digit s hs i hi hW hl hd
  | false =>
   by_cases h39 : sbyte s i = 39
   ·exact f45_quote s hs i hi h39
   by_cases h35 : sbyte s i = 35
   ·exact f45_hash s hs i hi h35
   by_cases h58 : sbyte s i = 58
   ·exact f45_colon s hs i hi h58
   cases hsg : signS (sbyte s i) with
   | true => exact f45_sign s hs i hi hl hd h39 h35 h58 hsg
   | false => exact f45_single s hs i hi hl hd h39 h35 h58 hsg
end
end Go.SL
