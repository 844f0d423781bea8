/- TreeShape and TreeDeep: in the tree of any source each message has as many arguments as its selector says; brackets go as deep as they may, and not deeper; for every source of bulk at most 1048576, and every number. Part 4. -/
import Derived.Test.YtgggkjbdlddbkaaGreatDoorShape2
import Derived.Lib.Bytealg
namespace Go.SL
open Go.Proofs
set_option maxRecDepth 10000
theorem f134_no (s : ByteArray) (h0 : 0 < s.size) (h : sbyte s 0 ≠ 45) : DF Tryz.prog 134 [.str s, .str ⟨#[45]⟩] (.bool false) := by
 have hsz : (1 : Int) ≤ s.size := by omega
 have hne : ¬ s.extract 0 1 = ⟨#[45]⟩ := fun e => h (by
  have h1 : (s.extract 0 1).data = #[45] := by rw [e]
  have h2 : s.data.size = s.size := rfl
  simp only [ByteArray.data_extract] at h1
  have h3 : s.data[0]? = some 45 := by
   have := congrArg (·[0]?) h1
   simp only [Array.getElem?_extract] at this
   rw [if_pos (by omega)] at this
   simpa using this
  simp [sbyte, List.getD_eq_getElem?_getD, h3])
 have hl1 : (⟨#[45]⟩ : ByteArray).size = 1 := rfl
 refine AF.start' 60 Tryz.func134 rfl rfl c134call c134ok fun Q hQ => ?_
 simp [c134c, c134t, hsz, hne, hl1]
 refine ATT.fin' hQ Tryz.func134 c134res ?_
 simp
 all_goals (first | omega | exact ⟨_, rfl⟩ | skip)
theorem f118_no (s : ByteArray) (h0 : 0 < s.size) (h : sbyte s 0 ≠ 45) : DF Tryz.prog 118 [.str s, .str ⟨#[45]⟩] (.tup [.str s, .bool false]) := by
 refine AF.start' 60 Tryz.func118 rfl rfl c118call c118ok fun Q hQ => ?_
 simp [c118c, c118t]
 refine ATT.callD Tryz.func118 60 (f134_no s h0 h) (by simp) (by simp) (by simp) ?_
 simp [c118t]
 refine ATT.fin' hQ Tryz.func118 c118res ?_
 simp
 all_goals (first | omega | exact ⟨_, rfl⟩ | skip)
theorem f95_no (s : ByteArray) (h0 : 0 < s.size) (h : sbyte s 0 ≠ 45) : DF Tryz.prog 95 [.str s, .str ⟨#[45]⟩] (.tup [.str s, .bool false]) := by
 refine AF.start' 60 Tryz.func95 rfl rfl c95call c95ok fun Q hQ => ?_
 simp [c95c, c95t]
 refine ATT.callD Tryz.func95 60 (f118_no s h0 h) (by simp) (by simp) (by simp) ?_
 simp
 refine ATT.fin' hQ Tryz.func95 c95res ?_
 simp
 all_goals (first | omega | exact ⟨_, rfl⟩ | skip)
theorem f96_ok (c : Int) (h : digitS c = true) : DF Tryz.prog 96 [.int .i32 c] (.bool false) := by
 simp only [digitS, Bool.and_eq_true, decide_eq_true_eq] at h
 have h1 : ¬ c < 48 := by omega
 have h2 : ¬ (57 < c) := by omega
 refine AF.start' 60 Tryz.func96 rfl rfl c96call c96ok fun Q hQ => ?_
 simp [c96c, c96t, h1, h2]
 refine ATT.fin' hQ Tryz.func96 c96res ?_
 simp
 all_goals (first | omega | exact ⟨_, rfl⟩ | skip)
theorem f119_digs (s : ByteArray) (hd : digs s) : DF Tryz.prog 119 [.str s, .fn (.func 96) [] [], .bool true] (.int .i64 (-1)) := by
 refine AF.start' 60 Tryz.func119 rfl rfl c119call c119ok fun Q hQ => ?_
 simp [c119c, c119t]
 refine ATT.loopG 60 c119l6.eq_1 (fun (i : Nat) => s.size - i) (fun (i : Nat) => i ≤ s.size) (fun (i : Nat) => [(10, .ptr 0 0), (1, .d (.fn (.func 96) [] [])), (2, .d (.bool true))]) (fun (i : Nat) => [.iter s i]) (fun (i : Nat) => []) (0) (by (try dsimp only); exact Nat.zero_le _) (by simp <;> omega) (by simp) (by simp) ?_
 intro i u w hI ih
 try simp only at hI ih
 by_cases hi : i < s.size
 ·have hc := hd.2 i hi
  have hc' := hc
  simp only [digitS, Bool.and_eq_true, decide_eq_true_eq] at hc'
  have hdec := decode_of s i hi (by omega)
  have ht : (((sbyte s i).toNat : Nat) : Int) = sbyte s i := by omega
  simp [c119t, hi, hdec, ht]
  refine ATT.callD Tryz.func119 60 (f96_ok _ hc) (by simp) (by simp) (by simp) ?_
  simp
  refine ih (i + 1) (by first | ((try dsimp only); omega) | (simp [hi, hdec, ht] <;> omega)) (by (try dsimp only); exact hi) _ _ _ (by simp <;> omega) (by simp <;> omega) (by simp <;> omega)
 ·skip
  simp [c119t, hi]
  refine ATT.fin' hQ Tryz.func119 c119res ?_
  simp
  all_goals (first | omega | exact ⟨_, rfl⟩ | skip)
theorem f97_digs (s : ByteArray) (hd : digs s) : DF Tryz.prog 97 [.str s, .fn (.func 96) [] []] (.int .i64 (-1)) := by
 refine AF.start' 60 Tryz.func97 rfl rfl c97call c97ok fun Q hQ => ?_
 simp [c97c, c97t]
 refine ATT.callD Tryz.func97 60 (f119_digs s hd) (by simp) (by simp) (by simp) ?_
 simp
 refine ATT.fin' hQ Tryz.func97 c97res ?_
 simp
 all_goals (first | omega | exact ⟨_, rfl⟩ | skip)
theorem f120_ok (neg : Bool) (n k : Nat) (v : D) (hv : Wd n k v) (hk : k ≤ 100000) : DE Tryz.prog 120 [.bool neg, v] (IntR neg n) := by
 have hB := f135_ok n k v hv hk
 obtain ⟨nl, sz, l, e, _⟩ := hv
 subst e
 refine AF.start' 60 Tryz.func120 rfl rfl c120call c120ok fun Q hQ => ?_
 simp [c120c, c120t]
 refine ATT.callE Tryz.func120 60 hB (by simp) (by simp) (by simp) fun v hv => ?_
 have hv' := hv
 obtain ⟨nl, sz, l, e, h1, h2, h3, h4, h5, h6⟩ := hv'
 subst e
 have hl : decide ((0 : Int) < l.length) = decide (0 < n) := by
  have := bv_nil h3 h4
  rw [h5] at this
  have h7 : l.length = 0 ↔ l = [] := List.length_eq_zero_iff
  by_cases hn : n = 0
  ·simp [hn, this.mpr hn]
  ·have : ¬ l.length = 0 := fun e => hn (this.mp (h7.mp e))
   simp; omega
 cases neg with
 | true =>
  simp [c120t]
  refine ATT.fin' hQ Tryz.func120 c120res ?_
  have hlen : 0 < l.length ↔ 0 < n := by simpa using hl
  exact ⟨by simp, _, rfl, _, _, by simp [hlen], hv⟩
 | false =>
  simp [c120t]
  refine ATT.fin' hQ Tryz.func120 c120res ?_
  exact ⟨by simp, _, rfl, _, _, by simp, hv⟩
theorem f101_ok (neg : Bool) (n k : Nat) (v : D) (hv : Wd n k v) (hk : k ≤ 100000) : DE Tryz.prog 101 [.bool neg, v] fun r => if n < 256 ^ 128 then ∃ u, r = .tup [u, .int .i64 0] ∧ IntR neg n u else r = .tup [.agg [.bool false, .sl true 0 []], .int .i64 24] := by
 have hM := f120_ok neg n k v hv hk
 refine AF.start' 60 Tryz.func101 rfl rfl c101call c101ok fun Q hQ => ?_
 simp [c101c, c101t]
 refine ATT.callE Tryz.func101 60 hM (by simp) (by simp) (by simp) fun v hv => ?_
 have hv' := hv
 obtain ⟨k', u, e, nl, sz, l, e2, h1, h2, h3, h4, h5, h6⟩ := hv'
 subst e e2
 have hf := bv_fits h3 h4 128
 rw [h5] at hf
 simp [c101t]
 by_cases hn : n < 256 ^ 128
 ·simp only [if_pos hn] at hQ
  have hl : ¬ (128 : Int) < l.length := by have := hf.mpr hn; omega
  simp [c101t, hl]
  refine ATT.fin' hQ Tryz.func101 c101res ?_
  exact ⟨by simp, _, rfl, _, rfl, hv⟩
 ·simp only [if_neg hn] at hQ
  have hl : (128 : Int) < l.length := by
   have : ¬ l.length ≤ 128 := fun h => hn (hf.mp h)
   omega
  simp [c101t, hl]
  refine ATT.fin' hQ Tryz.func101 c101res ?_
  exact ⟨by simp, _, rfl, rfl⟩
def dval (s : ByteArray) : Nat → Nat
 | 0 => 0
 | i + 1 => dval s i * 10 + (sbyte s i - 48).toNat
def zeroI : D := .agg [.bool false, .sl true 0 []]
def ReadQ (s : ByteArray) (v : D) : Prop :=
 if sbyte s 0 = 48 ∧ 1 < s.size then v = .tup [zeroI, .int .i64 11] else if 400 < s.size then v = .tup [zeroI, .int .i64 24] else
 if dval s s.size < 256 ^ 128 then ∃ u, v = .tup [u, .int .i64 0] ∧ IntR false (dval s s.size) u else v = .tup [zeroI, .int .i64 24]
theorem bytes_get (s : ByteArray) (i : Nat) (h : i < s.size) : (s.data.toList.map fun x => D.int .u8 ((x.toNat : Nat) : Int))[i]? = some (.int .u8 (sbyte s i)) := by
 have h' : i < s.data.size := h
 rw [List.getElem?_map, Array.getElem?_toList, Array.getElem?_eq_getElem h']
 have h2 : s.data[i]? = some s.data[i] := Array.getElem?_eq_getElem h'
 simp [sbyte, List.getD_eq_getElem?_getD, h2]
set_option maxHeartbeats 1000000 in
theorem f71_ok (s : ByteArray) (hd : digs s) (hs : s.size ≤ 1073741824) : DE Tryz.prog 71 [.str s] (ReadQ s) := by
 have hc0 := hd.2 0 hd.1
 simp only [digitS, Bool.and_eq_true, decide_eq_true_eq, Int.ofNat_zero] at hc0
 have hse : ¬ s = ⟨#[]⟩ := fun e => by have := hd.1; rw [e] at this; exact absurd this (by decide)
 have hr0 : inR 0 s.size = true := inR_of (by omega) (by have := hd.1; omega)
 have hcut := f95_no s hd.1 (by simp; omega)
 refine AF.start' 60 Tryz.func71 rfl rfl c71call c71ok fun Q hQ => ?_
 simp [c71c, c71t]
 refine ATT.callD Tryz.func71 60 (hcut) (by simp) (by simp) (by simp) ?_
 simp [c71t, hse]
 refine ATT.callD Tryz.func71 60 (f97_digs s hd) (by simp) (by simp) (by simp) ?_
 simp [hr0]
 unfold ReadQ at hQ
 by_cases h0 : sbyte s 0 = 48 ∧ 1 < s.size
 ·simp only [if_pos h0] at hQ
  have h1 : (1 : Int) < s.size := by omega
  have h48 := h0.1
  simp [c71t, eq_true h48, h1]
  refine ATT.fin' hQ Tryz.func71 c71res ?_
  exact ⟨by simp, _, rfl, rfl⟩
 simp only [if_neg h0] at hQ
 have hgo : ∀ {P : Prop}, ((sbyte s 0 = 48 → ¬ (1 : Int) < s.size → P) ∧ (¬ sbyte s 0 = 48 → P)) → P := fun h => by
  by_cases h48 : sbyte s 0 = 48
  ·exact h.1 h48 (by omega)
  ·exact h.2 h48
 refine hgo ⟨fun h48 h1 => ?_, fun h48 => ?_⟩
 ·by_cases h4 : 400 < s.size
  ·simp only [if_pos h4] at hQ
   have h4' : (400 : Int) < s.size := by omega
   simp [c71t, eq_true h48, h1, h4']
   refine ATT.fin' hQ Tryz.func71 c71res ?_
   exact ⟨by simp, _, rfl, rfl⟩
  simp only [if_neg h4] at hQ
  have h4' : ¬ (400 : Int) < s.size := by omega
  simp [c71t, eq_true h48, h1, h4']
  refine ATT.loopG 60 c71l13.eq_1 (fun ((i, v) : Nat × D) => s.size - i) (fun ((i, v) : Nat × D) => i ≤ s.size ∧ Wd (dval s i) (2 * i) v) (fun ((i, v) : Nat × D) => [(2, .ptr 0 0), (5, .d (.bool false)), (7, .d v), (39, .d (.sl false 1 (s.data.toList.map fun b => .int .u8 (b.toNat : Int)))), (40, .d (.int .i64 s.size)), (41, .d (.int .i64 i))]) (fun ((i, v) : Nat × D) => [.cells [.d (.bool false), .d (.sl true 0 [])] 111]) (fun ((i, v) : Nat × D) => []) ((0, .sl true 0 [])) (by (try dsimp only); exact ⟨Nat.zero_le _, true, 0, [], rfl, fun _ => rfl, by simp, Can.nil, rfl, by simp⟩) (by simp <;> omega) (by simp) (by simp) ?_
  intro ⟨i, v⟩ u w hI ih
  try simp only at hI ih
  obtain ⟨i1, i2⟩ := hI
  by_cases hi : i < s.size
  ·have hi' : (i : Int) < s.size := by omega
   have hg := bytes_get s i hi
   have hc := hd.2 i hi
   simp only [digitS, Bool.and_eq_true, decide_eq_true_eq] at hc
   obtain ⟨c, hcc⟩ : ∃ c : Nat, sbyte s i = ((48 + c : Nat) : Int) := ⟨(sbyte s i - 48).toNat, by omega⟩
   have hc9 : c ≤ 9 := by omega
   have hcn : (sbyte s i - 48).toNat = c := by omega
   have hw1 : IntKind.u8.wrap (sbyte s i - 48) = (c : Int) := by rw [hcc, show ((48 + c : Nat) : Int) - 48 = (c : Int) by omega, wrap8x]; omega
   have hw2 : IntKind.u32.wrap (c : Int) = (c : Int) := by rw [wrap32i]; omega
   have hII : inI ((i : Int) + 1) = true := inI_of (by omega) (by omega)
   have hten : Wd 10 1 (.sl false 1 [.int .u32 10]) := ⟨false, 1, [10], rfl, by simp, fun _ => rfl, ⟨by intro x hx; simp at hx; omega, fun q e => by have := congrArg List.getLast? e; simp at this⟩, rfl, by simp⟩
   have hti := f99_ok (dval s i) 10 (2 * i) 1 v _ i2 hten (by omega)
   have htr := f100_ok [c] false 1 (by simp) (fun _ => rfl) (by intro x hx; simp at hx; omega) (by simp)
   simp [c71t, hi', hg]
   refine ATT.fz (by simp) ?_
   simp
   refine ATT.callE Tryz.func71 60 hti (by simp) (by simp) (by simp) fun v1 hv1 => ?_
   simp [hw1, hw2]
   refine ATT.fz (by simp) ?_
   simp
   refine ATT.callE Tryz.func71 60 htr (by simp) (by simp [wD]) (by simp) fun v2 hv2 => ?_
   have hpl := f98_ok (dval s i * 10) (wv [c]) (2 * i + 1) 1 v1 v2 hv1 hv2 (by omega)
   refine ATT.callE Tryz.func71 60 hpl (by simp) (by simp) (by simp) fun v3 hv3 => ?_
   simp [c71t, hII]
   refine ih (i + 1, v3) (by first | ((try dsimp only); omega) | (simp [hi', hg, hw1, hw2, hII] <;> omega)) (by (try dsimp only); exact ⟨hi, (show dval s (i + 1) = dval s i * 10 + wv [c] by simp [dval, hcn, wv]) ▸ hv3.mono (by omega)⟩) _ _ _ (by simp <;> omega) (by simp <;> omega) (by simp <;> omega)
  ·have hie : i = s.size := by omega
   subst hie
   have hF := f101_ok false _ _ v i2 (by omega)
   have hi' : ¬ (s.size : Int) < s.size := by omega
   simp [c71t, hi']
   refine ATT.callE Tryz.func71 60 hF (by simp) (by simp) (by simp) fun r hr => ?_
   by_cases hn : dval s s.size < 256 ^ 128
   ·simp only [if_pos hn] at hQ hr
    obtain ⟨u, e, hu⟩ := hr
    subst e
    obtain ⟨k', u', e, hu'⟩ := hu
    have hu := hu'
    subst e
    obtain ⟨nl, sz, l, e, _⟩ := hu'
    subst e
    simp
    refine ATT.fin' hQ Tryz.func71 c71res ?_
    exact ⟨by simp, _, rfl, _, rfl, _, _, by simp, hu⟩
   ·simp only [if_neg hn] at hQ hr
    subst hr
    simp
    refine ATT.fin' hQ Tryz.func71 c71res ?_
    exact ⟨by simp, _, rfl, rfl⟩
 ·by_cases h4 : 400 < s.size
  ·simp only [if_pos h4] at hQ
   have h4' : (400 : Int) < s.size := by omega
   simp [c71t, h48, h4']
   refine ATT.fin' hQ Tryz.func71 c71res ?_
   exact ⟨by simp, _, rfl, rfl⟩
  simp only [if_neg h4] at hQ
  have h4' : ¬ (400 : Int) < s.size := by omega
  simp [c71t, h48, h4']
  refine ATT.loopG 60 c71l13.eq_1 (fun ((i, v) : Nat × D) => s.size - i) (fun ((i, v) : Nat × D) => i ≤ s.size ∧ Wd (dval s i) (2 * i) v) (fun ((i, v) : Nat × D) => [(2, .ptr 0 0), (5, .d (.bool false)), (7, .d v), (39, .d (.sl false 1 (s.data.toList.map fun b => .int .u8 (b.toNat : Int)))), (40, .d (.int .i64 s.size)), (41, .d (.int .i64 i))]) (fun ((i, v) : Nat × D) => [.cells [.d (.bool false), .d (.sl true 0 [])] 111]) (fun ((i, v) : Nat × D) => []) ((0, .sl true 0 [])) (by (try dsimp only); exact ⟨Nat.zero_le _, true, 0, [], rfl, fun _ => rfl, by simp, Can.nil, rfl, by simp⟩) (by simp <;> omega) (by simp) (by simp) ?_
  intro ⟨i, v⟩ u w hI ih
  try simp only at hI ih
  obtain ⟨i1, i2⟩ := hI
  by_cases hi : i < s.size
  ·have hi' : (i : Int) < s.size := by omega
   have hg := bytes_get s i hi
   have hc := hd.2 i hi
   simp only [digitS, Bool.and_eq_true, decide_eq_true_eq] at hc
   obtain ⟨c, hcc⟩ : ∃ c : Nat, sbyte s i = ((48 + c : Nat) : Int) := ⟨(sbyte s i - 48).toNat, by omega⟩
   have hc9 : c ≤ 9 := by omega
   have hcn : (sbyte s i - 48).toNat = c := by omega
   have hw1 : IntKind.u8.wrap (sbyte s i - 48) = (c : Int) := by rw [hcc, show ((48 + c : Nat) : Int) - 48 = (c : Int) by omega, wrap8x]; omega
   have hw2 : IntKind.u32.wrap (c : Int) = (c : Int) := by rw [wrap32i]; omega
   have hII : inI ((i : Int) + 1) = true := inI_of (by omega) (by omega)
   have hten : Wd 10 1 (.sl false 1 [.int .u32 10]) := ⟨false, 1, [10], rfl, by simp, fun _ => rfl, ⟨by intro x hx; simp at hx; omega, fun q e => by have := congrArg List.getLast? e; simp at this⟩, rfl, by simp⟩
   have hti := f99_ok (dval s i) 10 (2 * i) 1 v _ i2 hten (by omega)
   have htr := f100_ok [c] false 1 (by simp) (fun _ => rfl) (by intro x hx; simp at hx; omega) (by simp)
   simp [c71t, hi', hg]
   refine ATT.fz (by simp) ?_
   simp
   refine ATT.callE Tryz.func71 60 hti (by simp) (by simp) (by simp) fun v1 hv1 => ?_
   simp [hw1, hw2]
   refine ATT.fz (by simp) ?_
   simp
   refine ATT.callE Tryz.func71 60 htr (by simp) (by simp [wD]) (by simp) fun v2 hv2 => ?_
   have hpl := f98_ok (dval s i * 10) (wv [c]) (2 * i + 1) 1 v1 v2 hv1 hv2 (by omega)
   refine ATT.callE Tryz.func71 60 hpl (by simp) (by simp) (by simp) fun v3 hv3 => ?_
   simp [c71t, hII]
   refine ih (i + 1, v3) (by first | ((try dsimp only); omega) | (simp [hi', hg, hw1, hw2, hII] <;> omega)) (by (try dsimp only); exact ⟨hi, (show dval s (i + 1) = dval s i * 10 + wv [c] by simp [dval, hcn, wv]) ▸ hv3.mono (by omega)⟩) _ _ _ (by simp <;> omega) (by simp <;> omega) (by simp <;> omega)
  ·have hie : i = s.size := by omega
   subst hie
   have hF := f101_ok false _ _ v i2 (by omega)
   have hi' : ¬ (s.size : Int) < s.size := by omega
   simp [c71t, hi']
   refine ATT.callE Tryz.func71 60 hF (by simp) (by simp) (by simp) fun r hr => ?_
   by_cases hn : dval s s.size < 256 ^ 128
   ·simp only [if_pos hn] at hQ hr
    obtain ⟨u, e, hu⟩ := hr
    subst e
    obtain ⟨k', u', e, hu'⟩ := hu
    have hu := hu'
    subst e
    obtain ⟨nl, sz, l, e, _⟩ := hu'
    subst e
    simp
    refine ATT.fin' hQ Tryz.func71 c71res ?_
    exact ⟨by simp, _, rfl, _, rfl, _, _, by simp, hu⟩
   ·simp only [if_neg hn] at hQ hr
    subst hr
    simp
    refine ATT.fin' hQ Tryz.func71 c71res ?_
    exact ⟨by simp, _, rfl, rfl⟩
end Go.SL
namespace Go.SL
open Go.Proofs
set_option maxRecDepth 10000
def WordR (num : ByteArray → Bool) (s : ByteArray) (i : Nat) (v : D) : Prop :=
 ∃ k t a, v = .tup [tokD k t a, .int .i64 (match wordS num s i with | some (_, _, e) => (e : Int) | none => -1)] ∧ ∀ k' t' e, wordS num s i = some (k', t', e) → k = k' ∧ t = t' ∧ a = i
theorem WordR.some {num : ByteArray → Bool} {s : ByteArray} {i : Nat} {k : Int} {t : ByteArray} {e : Nat} (h : wordS num s i = some (k, t, e)) : WordR num s i (.tup [tokD k t i, .int .i64 e]) :=
 ⟨k, t, i, by rw [h], fun k' t' e' h' => by rw [h] at h'; simp at h'; exact ⟨h'.1, h'.2.1, rfl⟩⟩
theorem WordR.none {num : ByteArray → Bool} {s : ByteArray} {i : Nat} (h : wordS num s i = none) (k : Int) (t : ByteArray) (a : Nat) : WordR num s i (.tup [tokD k t a, .int .i64 (-1)]) :=
 ⟨k, t, a, by rw [h], fun k' t' e' h' => by rw [h] at h'; simp at h'⟩
section
variable {num : ByteArray → Bool} (s : ByteArray) (hs : s.size ≤ 1073741820) (i : Nat) (hi : i < s.size)
include hs hi
end
end Go.SL
namespace Go.SL
open Go.Proofs
set_option maxRecDepth 10000
def blankS (c : Int) : Bool := decide (c = 32) || decide (c = 9) || decide (c = 10) || decide (c = 13)
def blanksT : ByteArray := ⟨#[32, 9, 10, 13]⟩
theorem blanks_place (c : Int) (h0 : 0 ≤ c) (h1 : c < 256) : decide (0 ≤ placeS c blanksT 0) = blankS c := by
 rw [placeS_L _ _ _ 0 rfl]
 exact byte_cases (fun c => decide (0 ≤ placeL c (blanksT.data.toList.drop 0) 0) = blankS c) (by decide) c h0 h1
theorem blanksA : Ascii blanksT := by unfold Ascii; decide
theorem f42_ok (c : Int) (h0 : 0 ≤ c) (h1 : c < 256) : DF Tryz.prog 42 [.int .u8 c] (.bool (blankS c)) := by
 have hb := blanks_place c h0 h1
 have hP := f43_ok c blanksT blanksA
 have hsT : (⟨#[32, 9, 10, 13]⟩ : ByteArray) = blanksT := rfl
 refine AF.start' 60 Tryz.func42 rfl rfl c42call c42ok fun Q hQ => ?_
 simp [c42c, c42t, hsT]
 refine ATT.callD Tryz.func42 60 (hP) (by simp) (by simp) (by simp) ?_
 simp
 refine ATT.fin' hQ Tryz.func42 c42res ?_
 simp [← hb]
 all_goals (first | omega | exact ⟨_, rfl⟩ | skip)
theorem blankB : FnB 42 blankS := fun c h0 h1 => f42_ok c h0 h1
def tkD (t : Tk) : D := tokD t.k t.t t.a
def tkV (l : List Tk) : List V := l.map fun t => .d (tkD t)
abbrev TV (T : TypeId) (l : List Tk) : Option Vec := some ⟨l.isEmpty, 3, 0, tkV l, T⟩
@[simp] theorem tkV_nil : tkV [] = [] := rfl
@[simp] theorem tkV_push (l : List Tk) (k : Int) (t : ByteArray) (a : Nat) : tkV l ++ [.d (.agg [.int .i64 k, .str t, .int .i64 (a : Int)])] = tkV (l ++ [⟨k, t, a⟩]) := by simp [tkV, tkD, tokD]
@[simp] theorem tkV_length (l : List Tk) : (tkV l).length = l.length := by simp [tkV]
@[simp] theorem tkV_isEmpty (l : List Tk) : (tkV l).isEmpty = l.isEmpty := by cases l <;> simp [tkV]
@[simp] theorem tkV_take (n : Nat) (l : List Tk) : (tkV l).take n = tkV (l.take n) := by simp [tkV]
@[simp] theorem tkV_drop (n : Nat) (l : List Tk) : (tkV l).drop n = tkV (l.drop n) := by simp [tkV]
theorem tkV_ds (l : List Tk) : tkV l = (l.map tkD).map .d := by simp [tkV]
@[simp] theorem tkV_map (h : H) (n : Nat) (l : List Tk) : mapD (toDv h n) (tkV l) = some (l.map tkD) := by rw [tkV_ds, mapD_d]
@[simp] theorem rns_tkV (rb rv : List Nat) (l : List Tk) : rns rb rv (tkV l) = tkV l := by rw [tkV_ds, rns_data]
@[simp] theorem insc_tkV (n m : Nat) (l : List Tk) : insc n m (tkV l) = true := by rw [tkV_ds, insc_data]
@[simp] theorem take_snoc {α β : Type} (f : α → β) (l : List α) (x : β) : (l.map f ++ [x]).take (l.length + 1) = l.map f ++ [x] := List.take_of_length_le (by simp)
def notQ (c : Int) : Bool := !decide (c = 34)
def lexS (num : ByteArray → Bool) (s : ByteArray) (i : Nat) : List Tk ⊕ Nat :=
 if h : skipS blankS s i < s.size then
  (if sbyte s (skipS blankS s i) = 34 then (if h2 : skipS notQ s (skipS blankS s i + 1) < s.size then lexS num s (skipS notQ s (skipS blankS s i + 1) + 1) else .inr (skipS blankS s i))
  else match wordS num s (skipS blankS s i) with
   | some (k, t, e) => if h3 : skipS blankS s i < e then (match lexS num s e with
    | .inl l => .inl (⟨k, t, skipS blankS s i⟩ :: l)
    | .inr a => .inr a) else .inr (skipS blankS s i)
   | none => .inr (skipS blankS s i))
 else .inl [⟨0, ⟨#[]⟩, s.size⟩]
termination_by s.size - i
decreasing_by
  · have h1 := (skipS_le blankS s _ i rfl).1
    have h2 := (skipS_le notQ s _ (skipS blankS s i + 1) rfl).1
    omega
  · have h1 := (skipS_le blankS s _ i rfl).1
    omega
theorem lexS_eq (num : ByteArray → Bool) (s : ByteArray) (i : Nat) : lexS num s i = if skipS blankS s i < s.size then
  (if sbyte s (skipS blankS s i) = 34 then (if skipS notQ s (skipS blankS s i + 1) < s.size then lexS num s (skipS notQ s (skipS blankS s i + 1) + 1) else .inr (skipS blankS s i))
  else match wordS num s (skipS blankS s i) with
   | some (k, t, e) => if skipS blankS s i < e then (match lexS num s e with
    | .inl l => .inl (⟨k, t, skipS blankS s i⟩ :: l)
    | .inr a => .inr a) else .inr (skipS blankS s i)
   | none => .inr (skipS blankS s i))
 else .inl [⟨0, ⟨#[]⟩, s.size⟩] := by
 rw [lexS]
 simp only [dite_eq_ite]
theorem index_q (s : ByteArray) : ∀ m j, s.size - j = m → j ≤ s.size → Lib.indexByte (s.data.toList.drop j) 34 = if skipS notQ s j < s.size then ((skipS notQ s j - j : Nat) : Int) else -1 := by
 intro m
 induction m with
 | zero =>
  intro j hm hj
  have h0 : s.data.toList.drop j = [] := List.drop_eq_nil_of_le (by simp; have : s.size = s.data.size := rfl; omega)
  rw [h0, skipS_no (by simp; omega)]
  simp [Lib.indexByte, show ¬ j < s.size by omega]
 | succ m ih =>
  intro j hm hj
  have hjl : j < s.data.toList.length := by simp; have : s.size = s.data.size := rfl; omega
  have hb : sbyte s j = ((s.data.toList[j]).toNat : Int) := by
   have h1 : j < s.size := by omega
   simp [sbyte, List.getD_eq_getElem?_getD, h1]
  rw [List.drop_eq_getElem_cons hjl, Lib.indexByte]
  by_cases hq : s.data.toList[j] = 34
  ·have hn : notQ (sbyte s j) = false := by rw [hb, hq]; decide
   rw [skipS_no (by simp [hn])]
   simp [hq, show j < s.size by omega]
  ·have hn : notQ (sbyte s j) = true := by
    simp only [notQ, Bool.not_eq_true', decide_eq_false_iff_not, hb]
    intro h
    exact hq (UInt8.toNat_inj.1 (by rw [show (34 : UInt8).toNat = 34 from rfl]; omega))
   have hq' : (s.data.toList[j] == (34 : UInt8)) = false := by simpa using hq
   rw [skipS_yes (by simp [hn]; omega), ih (j + 1) (by omega) (by omega), hq']
   have h3 := skipS_le notQ s _ (j + 1) rfl
   by_cases hf : skipS notQ s (j + 1) < s.size
   ·simp only [hf, if_true, Bool.false_eq_true, if_false]
    have : ((((skipS notQ s (j + 1) - (j + 1) : Nat) : Int)) == -1) = false := by
     rw [beq_eq_false_iff_ne]; omega
    rw [this]
    simp only [Bool.false_eq_true, if_false]
    omega
   ·simp [hf]
theorem firstIdx_q (s : ByteArray) (j : Nat) (hj : j ≤ s.size) : firstIdx (s.extract j s.size) 34 = if skipS notQ s j < s.size then ((skipS notQ s j - j : Nat) : Int) else -1 := by
 rw [Lib.firstIdx_eq, ← index_q s _ j rfl hj]
 congr 1
 have : s.size = s.data.toList.length := by simp
 rw [ByteArray.data_extract, Array.toList_extract, this]
 simp [List.extract_eq_take_drop]
 rw [List.take_of_length_le (by simp)]
theorem quoS_le (s : ByteArray) : ∀ m i acc, s.size - i = m → ∀ l, (quoS s i acc).1 = some l → i < (quoS s i acc).2 ∧ (quoS s i acc).2 ≤ s.size := by
 intro m
 induction m using Nat.strongRecOn with
 | ind m ih =>
  intro i acc hm l h
  by_cases h1 : i < s.size
  ·by_cases h2 : sbyte s i = 39
   ·by_cases h3 : atS s (i + 1) = 39
    ·have hlt := atS_lt (s := s) (i := i + 1) (by rw [h3]; decide)
     rw [quoS_two h1 h2 h3] at h ⊢
     have := ih (s.size - (i + 2)) (by omega) (i + 2) _ rfl l h
     omega
    ·rw [quoS_one h1 h2 h3]
     exact ⟨by simp, by simp; omega⟩
   ·rw [quoS_more h1 h2] at h ⊢
    have := ih (s.size - (i + 1)) (by omega) (i + 1) _ rfl l h
    omega
  ·rw [quoS_end h1] at h
   simp at h
theorem quotedS_le {s : ByteArray} {i : Nat} (h : quB (quotedS s i).1 = true) : i < (quotedS s i).2 ∧ (quotedS s i).2 ≤ s.size := by
 unfold quotedS at h ⊢
 split at h
 ·rename_i h39
  rw [if_pos h39]
  cases hq : (quoS s (i + 1) []).1 with
  | none => rw [hq] at h; simp [quB] at h
  | some l =>
   have := quoS_le s _ (i + 1) [] rfl l hq
   omega
 ·simp [quB] at h
theorem symN_le {s : ByteArray} {i : Nat} (hi : i ≤ s.size) (h : symB s i = true) : i < symN s i ∧ symN s i ≤ s.size := by
 unfold symB at h
 unfold symN
 split at h
 ·rename_i hl
  rw [if_pos hl]
  refine ⟨hl, ?_⟩
  unfold symE
  have h1 := nameS_le s i
  have h2 := symK_le s _ (nameS s i) rfl
  have h3 := signsS_le s i
  split <;> omega
 ·rename_i hl
  rw [if_neg hl]
  exact quotedS_le h
theorem wordS_lt {num : ByteArray → Bool} {s : ByteArray} {i : Nat} (hi : i < s.size) {k : Int} {t : ByteArray} {e : Nat} (h : wordS num s i = some (k, t, e)) : i < e ∧ e ≤ s.size := by
 unfold wordS at h
 split at h
 ·rename_i hl
  have h1 := nameS_le s i
  have h2 : i < nameS s i := (nameS_gt s i).2 (by simp [hi, hl])
  split at h
  ·rename_i hc
   have := colon_lt hc
   simp at h; omega
  ·simp at h; omega
 ·split at h
  ·rename_i hd
   split at h
   ·have := digs_sub hi hd
    have h1 := skipS_le digitS s _ i rfl
    have h2 := subT_size (s := s) h1.1 (h1.2 (by omega))
    have := this.1
    simp at h; omega
   ·simp at h
  ·split at h
   ·split at h
    ·rename_i hq
     have := quotedS_le hq
     simp at h; omega
    ·simp at h
   ·split at h
    ·split at h
     ·rename_i h40
      have := atS_lt (s := s) (i := i + 1) (by rw [h40]; decide)
      simp at h; omega
     ·split at h
      ·rename_i hq
       have := symN_le (by omega) hq
       simp at h; omega
      ·simp at h
    ·split at h
     ·split at h
      ·rename_i h61
       have := atS_lt (s := s) (i := i + 1) (by rw [h61]; decide)
       simp at h; omega
      ·simp at h; omega
     ·split at h
      ·rename_i hsg
       have h1 := (signsS_gt s i).2 (by simp [hi, hsg])
       have h2 := signsS_le s i
       simp at h; omega
      ·split at h
       ·simp at h; omega
       ·simp at h
def joinL (l : List Tk) : List Tk ⊕ Nat → List Tk ⊕ Nat
 | .inl l' => .inl (l ++ l')
 | .inr a => .inr a
def readD (num : ByteArray → Bool) (s : ByteArray) : D :=
 if 4096 < s.size then .tup [.sl true 0 [], .int .i64 0, .int .i64 3] else
 match lexS num s 0 with
 | .inl l => .tup [.sl false 3 (l.map tkD), .int .i64 0, .int .i64 0]
 | .inr a => .tup [.sl true 0 [], .int .i64 a, .int .i64 20]
theorem f26_ok {num : ByteArray → Bool} (hW : NumP 71 num) (s : ByteArray) (hs : s.size ≤ 1073741820) : DF Tryz.prog 26 [.str s] (readD num s) := by
 refine AF.start' 60 Tryz.func26 rfl rfl c26call c26ok fun Q hQ => ?_
 simp [c26c, c26t]
 first | with_reducible refine ATT.cC (fun hz => ?_) (fun hz => ?_) | with_reducible refine ATT.cE (fun hz => ?_) (fun hz => ?_) | with_reducible refine ATT.cD (fun hz => ?_) (fun hz => ?_) | with_reducible refine ATT.cCn (fun hz => ?_) (fun hz => ?_) | with_reducible refine ATT.cEn (fun hz => ?_) (fun hz => ?_) | with_reducible refine ATT.cDn (fun hz => ?_) (fun hz => ?_)
 ·simp [c26t, hz]
  refine ATT.fin' hQ Tryz.func26 c26res ?_
  simp [readD]
  all_goals (first | omega | exact ⟨_, rfl⟩ | skip)
 ·have hz' : ¬ 4096 < s.size := by omega
  simp only [readD, hz', if_false] at hQ
  simp [c26t, hz]
  refine ATT.nilE 6 3 79 rfl (by decide) (by simp) ?_
  simp
  generalize hr : lexS num s 0 = r at hQ
  refine ATT.labelG 60 rfl rfl (fun ((i, l) : Nat × List Tk) => s.size - i) (fun ((i, l) : Nat × List Tk) => joinL l (lexS num s i) = r ∧ i ≤ s.size ∧ l.length ≤ i) (fun ((i, l) : Nat × List Tk) => [(0, V.d (.str s)), (5, .ptr 0 0), (6, .vs 0 l.length 0 l.length)]) (fun ((i, l) : Nat × List Tk) => [.cells [.d (.str s), .d (.int .i64 i)] 76]) (fun ((i, l) : Nat × List Tk) => [TV 79 l]) ((0, [])) (by (try dsimp only); exact ⟨by rw [hr]; simp [joinL]; cases r <;> rfl, by omega, by simp⟩) (by simp <;> omega) (by simp) (by simp) ?_
  intro ⟨i, l⟩ u w hI ih
  try simp only at hI ih
  obtain ⟨hj, hi, hl⟩ := hI
  have hk := skipS_le blankS s _ i rfl
  have hk1 := hk.1
  have hk2 := hk.2 hi
  simp [SL.flat]
  simp [c26t]
  refine ATT.callM Tryz.func26 60 [0] (f41_ok blankB s (by omega) i) rfl (by simp) (by simp) (by simp) (by simp) (by simp) ?_
  simp [c26t]
  rw [lexS] at hj
  generalize skipS blankS s i = k at *
  first | with_reducible refine ATT.cC (fun he => ?_) (fun he => ?_) | with_reducible refine ATT.cE (fun he => ?_) (fun he => ?_) | with_reducible refine ATT.cD (fun he => ?_) (fun he => ?_) | with_reducible refine ATT.cCn (fun he => ?_) (fun he => ?_) | with_reducible refine ATT.cEn (fun he => ?_) (fun he => ?_) | with_reducible refine ATT.cDn (fun he => ?_) (fun he => ?_)
  ·have he' : ¬ k < s.size := by omega
   simp only [he', dite_false] at hj
   have hks : k = s.size := by omega
   subst hks
   have hmap : (l.length + 1) * 32 ≤ 140737488355328 := by omega
   simp [c26t]
   refine ATT.finz hQ Tryz.func26 c26res (by first | exact .inl rfl | exact .inr ⟨_, rfl⟩) ?_
   simp [← hj, joinL, tkD, tokD, hmap]
   all_goals (first | omega | exact ⟨_, rfl⟩ | skip)
  ·have he' : k < s.size := by omega
   have hR : inR (k : Int) s.size = true := inR_of (by omega) (by omega)
   simp only [he', dite_true] at hj
   simp [c26t, he, hR]
   first | with_reducible refine ATT.cC (fun hq => ?_) (fun hq => ?_) | with_reducible refine ATT.cE (fun hq => ?_) (fun hq => ?_) | with_reducible refine ATT.cD (fun hq => ?_) (fun hq => ?_) | with_reducible refine ATT.cCn (fun hq => ?_) (fun hq => ?_) | with_reducible refine ATT.cEn (fun hq => ?_) (fun hq => ?_) | with_reducible refine ATT.cDn (fun hq => ?_) (fun hq => ?_)
   ·simp only [eq_true hq, if_true] at hj
    have hI1 : inI ((k : Int) + 1) = true := inI_of (by omega) (by omega)
    have ht1 : ((k : Int) + 1).toNat = k + 1 := by omega
    have hb1 : (0 : Int) ≤ k + 1 ∧ (k : Int) + 1 ≤ s.size := by omega
    have hx := firstIdx_q s (k + 1) (by omega)
    have hQl := skipS_le notQ s _ (k + 1) rfl
    have h34 : ((34 : Int).toNat.toUInt8) = 34 := by decide
    simp [c26t, hI1, ht1, hb1, hq]
    refine ATT.callD Tryz.func26 60 (f44_ok (s.extract (k + 1) s.size) 34) (by simp) (by simp) (by simp) ?_
    simp [c26t]
    by_cases hfound : skipS notQ s (k + 1) < s.size
    ·rw [if_pos hfound] at hx
     simp only [hfound, dite_true] at hj
     have hI2 : inI (((skipS notQ s (k + 1) - (k + 1) : Nat) : Int) + 2) = true := inI_of (by omega) (by omega)
     have hI3 : inI ((k : Int) + (((skipS notQ s (k + 1) - (k + 1) : Nat) : Int) + 2)) = true := inI_of (by omega) (by omega)
     have hk3 : (k : Int) + (((skipS notQ s (k + 1) - (k + 1) : Nat) : Int) + 2) = ((skipS notQ s (k + 1) + 1 : Nat) : Int) := by omega
     have hn : ¬ (((skipS notQ s (k + 1) - (k + 1) : Nat) : Int)) < 0 := by omega
     simp [c26t, hx, hI2, hI3, hn]
     refine ih (skipS notQ s (k + 1) + 1, l) (by first | ((try dsimp only); omega) | (simp [hx, hI2, hI3, hn] <;> omega)) (by (try dsimp only); exact ⟨hj, by omega, by omega⟩) _ _ _ _ rfl (by simp <;> omega) (by simp <;> omega) (by simp <;> omega)
    ·rw [if_neg hfound] at hx
     simp only [hfound, dite_false, joinL] at hj
     simp [hx]
     refine ATT.jump 60 (by simp) rfl ?_
     simp [c26t]
     refine ATT.fin' hQ Tryz.func26 c26res ?_
     simp [← hj]
     all_goals (first | omega | exact ⟨_, rfl⟩ | skip)
   ·simp only [eq_false hq, if_false] at hj
    simp [c26t, hq]
    refine ATT.callA Tryz.func26 60 [0] [] 0 0 (f45_ok (num := num) s (by omega) k he' hW) (by simp) (by simp) (by simp) (by simp) (by simp) fun out hC hE => ?_
    obtain ⟨k', t', a', j, r', w', e1, e2, hw⟩ := hE
    subst e1 e2
    cases hwd : wordS num s k with
    | none =>
     rw [hwd] at hj
     simp only [joinL] at hj
     simp [tokD, c26t]
     refine ATT.pass 60 (by simp <;> omega) ?_
     simp [c26t]
     refine ATT.fin' hQ Tryz.func26 c26res ?_
     simp [← hj]
     all_goals (first | omega | exact ⟨_, rfl⟩ | skip)
    | some p =>
     obtain ⟨kk, tt, e⟩ := p
     obtain ⟨e1, e2, e3, e4⟩ := hw _ _ _ hwd
     subst e1 e2 e3 e4
     have hlt := wordS_lt he' hwd
     rw [hwd] at hj
     simp only [hlt.1, dite_true] at hj
     have hmap : (l.length + 1) * 32 ≤ 140737488355328 := by omega
     have hj2 : joinL (l ++ [⟨k', t', a'⟩]) (lexS num s j) = r := by
      rw [← hj]
      cases lexS num s j <;> simp [joinL]
     simp [tokD, c26t, hmap]
     refine ih (j, l ++ [⟨k', t', a'⟩]) (by first | ((try dsimp only); omega) | (simp <;> omega)) (by (try dsimp only); exact ⟨hj2, by omega, by simp; omega⟩) _ _ _ _ rfl (by simp <;> omega) (by simp <;> omega) (by simp <;> omega)
end Go.SL
namespace Go.SL
open Go.Proofs
set_option maxRecDepth 10000
abbrev PB (l : List Tk) (d : Nat) : Bx := .cells [.d (.sl false 3 (l.map tkD)), .d (.int .i64 d)] 55
def stopV (a : Nat) (w : Int) : V := .d (.iface 53 (.agg [.int .i64 a, .int .i64 w]))
theorem f40_ok (t : Tk) (l : List Tk) (d : Nat) : MF Tryz.prog 40 [.ptr 0 0] [PB (t :: l) d] (.d (.int .i64 t.k)) [PB (t :: l) d] := by
 refine AF.start' 60 Tryz.func40 rfl rfl c40call c40ok fun Q hQ => ?_
 simp [c40c, c40t, tkD, tokD]
 refine ATT.fin' hQ Tryz.func40 c40res ?_
 simp
 all_goals (first | omega | exact ⟨_, rfl⟩ | skip)
theorem f39_ok (t : Tk) (l : List Tk) (d : Nat) : MF Tryz.prog 39 [.ptr 0 0] [PB (t :: l) d] (.d (tkD t)) [PB (if t.k = 0 then t :: l else l) d] := by
 refine AF.start' 60 Tryz.func39 rfl rfl c39call c39ok fun Q hQ => ?_
 simp [c39c, c39t, tkD, tokD]
 first | with_reducible refine ATT.cC (fun h => ?_) (fun h => ?_) | with_reducible refine ATT.cE (fun h => ?_) (fun h => ?_) | with_reducible refine ATT.cD (fun h => ?_) (fun h => ?_) | with_reducible refine ATT.cCn (fun h => ?_) (fun h => ?_) | with_reducible refine ATT.cEn (fun h => ?_) (fun h => ?_) | with_reducible refine ATT.cDn (fun h => ?_) (fun h => ?_)
 ·simp [c39t, h]
  refine ATT.fin' hQ Tryz.func39 c39res ?_
  simp [tkD, tokD, h]
  all_goals (first | omega | exact ⟨_, rfl⟩ | skip)
 ·simp [c39t, tkD, tokD, h]
  refine ATT.fin' hQ Tryz.func39 c39res ?_
  simp [tkD, tokD, h, (by omega : (1 : Int) ≤ (l.length : Int) + 1)]
  all_goals (first | omega | exact ⟨_, rfl⟩ | skip)
theorem f47_ok (t : Tk) (l : List Tk) (d : Nat) (w : Int) : AF Tryz.prog 47 [.ptr 0 0, .d (.int .i64 w)] ⟨[PB (t :: l) d], []⟩ fun o h => o = .pan (stopV t.a w) ∧ 1 ≤ h.bx.length := by
 refine AF.start' 60 Tryz.func47 rfl rfl c47call c47ok fun Q hQ => ?_
 simp [c47c, c47t, tkD, tokD]
 refine ATT.pan hQ Tryz.func47 (by simp; exact ⟨rfl, rfl⟩) (by simp) (by simp) ?_
 try simp [stopV]
theorem f38_ok (t : Tk) (l : List Tk) (d : Nat) (k : Int) (hk : t.k = k) (h0 : k ≠ 0) : MF Tryz.prog 38 [.ptr 0 0, .d (.int .i64 k)] [PB (t :: l) d] (.d (tkD t)) [PB l d] := by
 have hT := f39_ok t l d
 have h0' : ¬ t.k = 0 := by rw [hk]; exact h0
 rw [if_neg h0'] at hT
 refine AF.start' 60 Tryz.func38 rfl rfl c38call c38ok fun Q hQ => ?_
 simp [c38c, c38t]
 refine ATT.callM Tryz.func38 60 [0] (f40_ok t l d) rfl (by simp) (by simp) (by simp) (by simp) (by simp) ?_
 simp [c38t, eq_true hk]
 refine ATT.callM Tryz.func38 60 [0] (hT) rfl (by simp) (by simp) (by simp) (by simp) (by simp) ?_
 simp [tkD, tokD]
 refine ATT.fin' hQ Tryz.func38 c38res ?_
 simp [tkD, tokD]
 all_goals (first | omega | exact ⟨_, rfl⟩ | skip)
theorem f38_no (t : Tk) (l : List Tk) (d : Nat) (k : Int) (hk : ¬ t.k = k) : AF Tryz.prog 38 [.ptr 0 0, .d (.int .i64 k)] ⟨[PB (t :: l) d], []⟩ fun o h => o = .pan (stopV t.a 20) ∧ 1 ≤ h.bx.length := by
 refine AF.start' 60 Tryz.func38 rfl rfl c38call c38ok fun Q hQ => ?_
 simp [c38c, c38t]
 refine ATT.callM Tryz.func38 60 [0] (f40_ok t l d) rfl (by simp) (by simp) (by simp) (by simp) (by simp) ?_
 simp [c38t, hk]
 refine ATT.callA Tryz.func38 60 [0] [] 0 0 (f47_ok t l d 20) (by simp) (by simp) (by simp) (by simp) (by simp) fun out hC hE => ?_
 obtain ⟨e1, e2⟩ := hE
 subst e1
 exact ⟨by simpa using e2, hQ _ _ ⟨by simp [stopV], by simp⟩⟩
abbrev PP : Bx := .cells [.ptr 0 0] 43
theorem f104_no (t : Tk) (l : List Tk) (nd : List D) (T : TypeId) (g : FuncId) (caps : List V) : AF Tryz.prog 104 [.ptr 0 0, .fn (.func g) [] caps] ⟨[PB (t :: l) 40, PP, .cells (nd.map .d) T], []⟩ fun o h => o = .pan (stopV t.a 3) ∧ 3 ≤ h.bx.length := by
 refine AF.start' 60 Tryz.func104 rfl rfl c104call c104ok fun Q hQ => ?_
 simp [c104c, c104t]
 refine ATT.callA Tryz.func104 60 [0] [] 0 0 (f47_ok t l 40 3) (by simp) (by simp) (by simp) (by simp) (by simp) fun out hC hE => ?_
 obtain ⟨e1, e2⟩ := hE
 subst e1
 exact ⟨by simpa using e2, hQ _ _ ⟨by simp [stopV], by simp⟩⟩
theorem f104_ok (t : Tk) (ht : ¬ t.k = 0) (l : List Tk) (nd : List D) (T : TypeId) (d : Nat) (hd : d < 40) (g : FuncId) (caps : List V) (hc1 : rns [0, 1, 2] [] caps = caps) (hc2 : insc 3 0 caps = true) (Φ : List Tk → List D → Prop) (Ψ : Nat → Int → Prop)
  (hW : AF Tryz.prog g caps ⟨[PB l (d + 1), PP, .cells (nd.map .d) T], []⟩ fun o h => (∃ l' nd' b c, o = .ret (.d (.tup [])) ∧ h = ⟨PB l' (d + 1) :: PP :: .cells (nd'.map .d) T :: b, c⟩ ∧ Φ l' nd') ∨ (∃ a w, o = .pan (stopV a w) ∧ 3 ≤ h.bx.length ∧ Ψ a w)) :
  AF Tryz.prog 104 [.ptr 0 0, .fn (.func g) [] caps] ⟨[PB (t :: l) d, PP, .cells (nd.map .d) T], []⟩ fun o h => (∃ l' nd' b c, o = .ret (.d (.tup [])) ∧ h = ⟨PB l' d :: PP :: .cells (nd'.map .d) T :: b, c⟩ ∧ Φ l' nd') ∨ (∃ a w, o = .pan (stopV a w) ∧ 3 ≤ h.bx.length ∧ Ψ a w) := by
 have hT := f39_ok t l (d + 1)
 rw [if_neg ht] at hT
 have hd' : ¬ (d : Int) = 40 := by omega
 have hI : inI ((d : Int) + 1) = true := inI_of (by omega) (by omega)
 have hI2 : inI (d : Int) = true := inI_of (by omega) (by omega)
 refine AF.start' 60 Tryz.func104 rfl rfl c104call c104ok fun Q hQ => ?_
 simp [c104c, c104t, hd', hI]
 refine ATT.callM Tryz.func104 60 [0] (hT) rfl (by simp) (by simp) (by simp) (by simp) (by simp) ?_
 simp [c104t]
 refine ATT.callA Tryz.func104 60 [0, 1, 2] [] 0 0 (hW) (by simp) (by simp [hc1]) (by simp) (by simp [hc2]) (by simp) fun out hC hE => ?_
 rcases hE with ⟨l', nd', b, c, e1, e2, hφ⟩ | ⟨a, w, e1, e2, hψ⟩
 ·subst e1 e2
  refine ⟨by simp, ?_⟩
  have hI3 : inI ((d : Int) + 1 - 1) = true := inI_of (by omega) (by omega)
  have hd1 : (d : Int) + 1 - 1 = d := by omega
  simp [c104t, hI2, hd1]
  refine ATT.fin0' hQ Tryz.func104 c104res ?_
  exact ⟨by simp, .inl ⟨l', nd', _, _, rfl, rfl, hφ⟩⟩
 ·subst e1
  exact ⟨by simpa using e2, hQ _ _ (.inr ⟨a, w, by simp [stopV], by simp, hψ⟩)⟩
end Go.SL
namespace Go.SL
open Go.Proofs
set_option maxRecDepth 10000
mutual
def NdR : Nd → D → Prop
 | .mk k t a n names kids, v => ∃ nl1 z1 nl2 z2 ds, v = .agg [.int .i64 k, .str t, .int .i64 a, .int .i64 n, .sl nl1 z1 (names.map .str), .sl nl2 z2 ds] ∧
   (nl1 = true → names = []) ∧ (nl1 = false → z1 = 1) ∧ (nl2 = true → kids = []) ∧ (nl2 = false → z2 = 6) ∧ NdRL kids ds
def NdRL : List Nd → List D → Prop
 | [], ds => ds = []
 | x :: r, ds => ∃ d l, ds = d :: l ∧ NdR x d ∧ NdRL r l
end
theorem NdR.shape {x : Nd} {v : D} (h : NdR x v) : ∃ nl1 z1 nl2 z2 ds, v = .agg [.int .i64 x.k, .str x.t, .int .i64 x.a, .int .i64 x.n, .sl nl1 z1 (x.names.map .str), .sl nl2 z2 ds] ∧
   (nl1 = true → x.names = []) ∧ (nl1 = false → z1 = 1) ∧ (nl2 = true → x.kids = []) ∧ (nl2 = false → z2 = 6) ∧ NdRL x.kids ds := by
 cases x with
 | mk k t a n names kids => simp only [NdR] at h; exact h
theorem NdR.of {x : Nd} {nl1 nl2 : Bool} {z1 z2 : Nat} {ds : List D} (h1 : nl1 = true → x.names = []) (h2 : nl1 = false → z1 = 1) (h3 : nl2 = true → x.kids = []) (h4 : nl2 = false → z2 = 6) (h5 : NdRL x.kids ds) :
  NdR x (.agg [.int .i64 x.k, .str x.t, .int .i64 x.a, .int .i64 x.n, .sl nl1 z1 (x.names.map .str), .sl nl2 z2 ds]) := by
 cases x with
 | mk k t a n names kids => simp only [NdR]; exact ⟨nl1, z1, nl2, z2, ds, rfl, h1, h2, h3, h4, h5⟩
theorem NdR.mk {k : Int} {t : ByteArray} {a n : Nat} {names : List ByteArray} {kids : List Nd} {nl1 nl2 : Bool} {z1 z2 : Nat} {ds : List D} (h1 : nl1 = true → names = []) (h2 : nl1 = false → z1 = 1) (h3 : nl2 = true → kids = []) (h4 : nl2 = false → z2 = 6) (h5 : NdRL kids ds) :
  NdR (.mk k t a n names kids) (.agg [.int .i64 k, .str t, .int .i64 a, .int .i64 n, .sl nl1 z1 (names.map .str), .sl nl2 z2 ds]) := by
 simp only [NdR]; exact ⟨nl1, z1, nl2, z2, ds, rfl, h1, h2, h3, h4, h5⟩
theorem NdR.leaf (k : Int) (t : ByteArray) (a n : Nat) : NdR (.mk k t a n [] []) (.agg [.int .i64 k, .str t, .int .i64 a, .int .i64 n, .sl true 0 [], .sl true 0 []]) :=
 NdR.mk (fun _ => rfl) (by simp) (fun _ => rfl) (by simp) (by simp [NdRL])
theorem NdR.kids {k : Int} {t : ByteArray} {a n : Nat} {kids : List Nd} {ds : List D} (h : NdRL kids ds) : NdR (.mk k t a n [] kids) (.agg [.int .i64 k, .str t, .int .i64 a, .int .i64 n, .sl true 0 [], .sl false 6 ds]) :=
 NdR.mk (fun _ => rfl) (by simp) (by simp) (fun _ => rfl) h
theorem NdRL.one {x : Nd} {v : D} (h : NdR x v) : NdRL [x] [v] := by simp only [NdRL]; exact ⟨v, [], rfl, h, rfl⟩
def NdB (x : Nd × Bool) (v : D) : Prop := ∃ u, v = .tup [u, .bool x.2] ∧ NdR x.1 u
def PR {α : Type} (Φ : α → D → Prop) (d : Nat) (r : Res α) (o : Out) (h : H) : Prop := match r with
 | .ok x l => ∃ v b c, o = .ret (.d v) ∧ h = ⟨PB l d :: b, c⟩ ∧ Φ x v
 | .no a w => o = .pan (stopV a w) ∧ 1 ≤ h.bx.length
 | .out => True
section
variable {N : Nat} {f : FD} {Q : Out → H → Prop}
theorem ATT.callP {α : Type} {Φ : α → D → Prop} {fn : Func} (hf : Tryz.prog.funcs[f.fn]? = some fn) {ix : Nat} {dst : Option Nat} {g : Opd} {args : List Opd} {kill : List Nat} {r : List AI} {k : List AItem} {env : Env} {h : H} {ob : Bool} {fid : FuncId} {l : List Tk} {d : Nat} {res : Res α} {argsC : List V}
  (n j : Nat) (hAF : AF Tryz.prog fid argsC ⟨[PB l d], []⟩ (PR Φ d res)) (hr : res ≠ .out) (hc : calls (ev env g) (args.map (ev env)) = some (fid, rns [j] [] argsC)) (hsc : insc 1 0 argsC = true) (hj : h.bx[j]? = some (PB l d)) (ho : ob = true)
  (hno : ∀ a w, res = .no a w → ∀ h' : H, h'.bx.length = h.bx.length → Q (.pan (stopV a w)) h')
  (hk : ∀ x l' v, res = .ok x l' → Φ x v → ATT Tryz.prog N f Q (goes n (.reg r :: k) (put (dels env kill) dst (.d v)) ⟨h.bx.set j (PB l' d), h.vc⟩ true)) (hkp : subE env f.keep := by exact True.intro) : ATT Tryz.prog N f Q (.reg (⟨ix, dst, .call g args, none, kill⟩ :: r) :: k, env, h, ob) := by
 refine ATT.callA hf n [j] [] 0 0 hAF trivial hc (by simp [hj]) hsc ho (fun out hC hE => ?_) hkp
 cases hres : res with
 | ok x l' =>
  rw [hres] at hE
  obtain ⟨v, b, c, e1, e2, hφ⟩ := hE
  subst e1 e2
  refine ⟨by simp, ?_⟩
  have := hk x l' v hres hφ
  simpa using this
 | no a w =>
  rw [hres] at hE
  obtain ⟨e1, e2⟩ := hE
  subst e1
  exact ⟨by simpa using e2, by simpa [stopV] using hno a w hres _ (by simp)⟩
 | out => exact absurd hres hr
theorem ATT.callRP {α : Type} {Φ : α → D → Prop} {fn : Func} (hf : Tryz.prog.funcs[f.fn]? = some fn) {ix : Nat} {dst : Option Nat} {g : Opd} {args : List Opd} {kill : List Nat} {d' r : List AI} {k : List AItem} {env : Env} {h : H} {ob : Bool} {fid : FuncId} {l : List Tk} {d : Nat} {res : Res α} {argsC : List V}
  (n j : Nat) (hAF : AF Tryz.prog fid argsC ⟨[PB l d], []⟩ (PR Φ d res)) (hr : res ≠ .out) (hc : calls (ev env g) (args.map (ev env)) = some (fid, rns [j] [] argsC)) (hsc : insc 1 0 argsC = true) (hj : h.bx[j]? = some (PB l d)) (ho : ob = true)
  (hno : ∀ a w, res = .no a w → ∀ h' : H, h'.bx.length = h.bx.length → Q (.pan (stopV a w)) h')
  (hk : ∀ x l' v, res = .ok x l' → Φ x v → ATT Tryz.prog N f Q (goes n (.regD (⟨ix, dst, .call g args, none, kill⟩ :: d') r :: k) (put env dst (.d v)) ⟨h.bx.set j (PB l' d), h.vc⟩
   (rcB ⟨h.bx.set j (PB l' d), h.vc⟩ (put env dst (.d v)) kill d'))) (hk0 : f.keep = [] := by rfl) : ATT Tryz.prog N f Q (.regD d' (⟨ix, dst, .call g args, none, kill⟩ :: r) :: k, env, h, ob) := by
 refine ATT.callRA hf n [j] [] 0 0 hAF trivial hc (by simp [hj]) hsc ho (fun out hC hE => ?_) hk0
 cases hres : res with
 | ok x l' =>
  rw [hres] at hE
  obtain ⟨v, b, c, e1, e2, hφ⟩ := hE
  subst e1 e2
  refine ⟨by simp, ?_⟩
  have := hk x l' v hres hφ
  simpa using this
 | no a w =>
  rw [hres] at hE
  obtain ⟨e1, e2⟩ := hE
  subst e1
  exact ⟨by simpa using e2, by simpa [stopV] using hno a w hres _ (by simp)⟩
 | out => exact absurd hres hr
end
def ExprC (n : Nat) : Prop := ∀ d l, d ≤ 40 → WF l → exprS n d l ≠ .out → AF Tryz.prog 76 [.ptr 0 0] ⟨[PB l d], []⟩ (PR NdR d (exprS n d l))
def CascC (n : Nat) : Prop := ∀ d l, d ≤ 40 → WF l → cascS n d l ≠ .out → AF Tryz.prog 106 [.ptr 0 0] ⟨[PB l d], []⟩ (PR NdR d (cascS n d l))
def MsgC (n : Nat) : Prop := ∀ d l, d ≤ 40 → WF l → msgS n d l ≠ .out → AF Tryz.prog 122 [.ptr 0 0] ⟨[PB l d], []⟩ (PR NdR d (msgS n d l))
def KeyedC (n : Nat) : Prop := ∀ d l, d ≤ 40 → WF l → keyedS n d l ≠ .out → AF Tryz.prog 121 [.ptr 0 0] ⟨[PB l d], []⟩ (PR NdB d (keyedS n d l))
def BinaryC (n : Nat) : Prop := ∀ d l, d ≤ 40 → WF l → binaryS n d l ≠ .out → AF Tryz.prog 137 [.ptr 0 0] ⟨[PB l d], []⟩ (PR NdB d (binaryS n d l))
def UnaryC (n : Nat) : Prop := ∀ d l, d ≤ 40 → WF l → unaryS n d l ≠ .out → AF Tryz.prog 138 [.ptr 0 0] ⟨[PB l d], []⟩ (PR NdB d (unaryS n d l))
def PrimC (n : Nat) : Prop := ∀ d l, d ≤ 40 → WF l → primS n d l ≠ .out → AF Tryz.prog 148 [.ptr 0 0] ⟨[PB l d], []⟩ (PR NdB d (primS n d l))
def ListC (n : Nat) : Prop := ∀ d l, d ≤ 40 → WF l → (kd l = 17 ∨ kd l = 8) → listS n d l ≠ .out → AF Tryz.prog 155 [.ptr 0 0] ⟨[PB l d], []⟩ (PR NdR d (listS n d l))
def ElemC (n : Nat) : Prop := ∀ d l, d ≤ 40 → WF l → elemS n d l ≠ .out → AF Tryz.prog 160 [.ptr 0 0] ⟨[PB l d], []⟩ (PR NdR d (elemS n d l))
def BlockC (n : Nat) : Prop := ∀ d l, d ≤ 40 → WF l → kd l = 10 → blockS n d l ≠ .out → AF Tryz.prog 156 [.ptr 0 0] ⟨[PB l d], []⟩ (PR NdR d (blockS n d l))
def StmtC (n : Nat) : Prop := ∀ d l, d ≤ 40 → WF l → stmtS n d l ≠ .out → AF Tryz.prog 46 [.ptr 0 0] ⟨[PB l d], []⟩ (PR NdB d (stmtS n d l))
theorem kd_cons (t : Tk) (l : List Tk) : kd (t :: l) = t.k := rfl
theorem pl_cons (t : Tk) (l : List Tk) : pl (t :: l) = t.a := rfl
theorem tx_cons (t : Tk) (l : List Tk) : tx (t :: l) = t.t := rfl
theorem WF.two {t : Tk} {l : List Tk} (h : WF (t :: l)) (hk : t.k ≠ 0) : ∃ t2 l2, l = t2 :: l2 ∧ WF (t2 :: l2) := by
 have h1 := (h.tail hk).1
 obtain ⟨t2, l2, e⟩ := h1.cons
 exact ⟨t2, l2, e, by rw [← e]; exact h1⟩
theorem f105_ok {n : Nat} (ih : ExprC n) (d : Nat) (l : List Tk) (hd : d ≤ 40) (hl : WF l) (hin : exprS n d l ≠ .out) (a0 a1 a2 a3 a4 a5 : D) (h0 : (V.d a0).one = true) :
  AF Tryz.prog 105 [.ptr 1 0, .ptr 2 0] ⟨[PB l d, PP, .cells [.d a0, .d a1, .d a2, .d a3, .d a4, .d a5] 25], []⟩ fun o h =>
   (∃ l' nd' b c, o = .ret (.d (.tup [])) ∧ h = ⟨PB l' d :: PP :: .cells (nd'.map .d) 25 :: b, c⟩ ∧ ∃ x v, exprS n d l = .ok x l' ∧ nd' = [a0, a1, a2, a3, a4, .sl false 6 [v]] ∧ NdR x v) ∨ (∃ a w, o = .pan (stopV a w) ∧ 3 ≤ h.bx.length ∧ exprS n d l = .no a w) := by
 refine AF.start' 60 Tryz.func105 rfl rfl c105call c105ok fun Q hQ => ?_
 simp [c105c, c105t]
 refine ATT.callP Tryz.func105 60 0 (ih d l hd hl hin) hin (by simp) (by simp) rfl rfl (fun a w e h' hh => hQ _ _ (.inr ⟨a, w, rfl, by simp at hh; omega, e⟩)) fun x l' v e hφ => ?_
 obtain ⟨nl1, z1, nl2, z2, ds, hv, _⟩ := hφ.shape
 have hv' := hv
 subst hv'
 simp
 refine ATT.fz0 ?_
 simp
 refine ATT.fin0' hQ Tryz.func105 c105res ?_
 exact ⟨by simp, .inl ⟨l', _, _, _, rfl, rfl, x, _, e, rfl, hφ⟩⟩
theorem f76_ok (n : Nat) (ihE : ExprC n) (ihC : CascC n) : ExprC (n + 1) := by
 intro d l hd hl hin
 obtain ⟨t, r, e⟩ := hl.cons
 subst e
 simp only [exprS] at hin ⊢
 refine AF.start' 60 Tryz.func76 rfl rfl c76call c76ok fun Q hQ => ?_
 simp [c76c, c76t]
 refine ATT.callM Tryz.func76 60 [0] (f40_ok t r d) rfl (by simp) (by simp) (by simp) (by simp) (by simp) ?_
 simp
 by_cases h1 : t.k = 1
 ·obtain ⟨t2, l2, e, hl2⟩ := hl.two (by rw [h1]; decide)
  subst e
  by_cases h7 : t2.k = 7
  ·rw [if_pos ⟨h1, h7⟩] at hQ hin
   have hT := f39_ok t (t2 :: l2) d
   rw [if_neg (by rw [h1]; decide)] at hT
   simp [c76t, eq_true h1, eq_true h7, tkD, tokD]
   refine ATT.callM Tryz.func76 60 [0] (hT) rfl (by simp) (by simp) (by simp [tkD, tokD]) (by simp) (by simp) ?_
   simp [c76t, tkD, tokD]
   by_cases h40 : d = 40
   ·subst h40
    simp only [if_true] at hQ
    refine ATT.callA Tryz.func76 60 [0, 1, 4] [] 0 0 (f104_no t2 l2 [.int .i64 6, .str t.t, .int .i64 t.a, .int .i64 0, .sl true 0 [], .sl true 0 []] 25 105 [.ptr 1 0, .ptr 2 0]) (by simp) (by simp) (by simp [tkD, tokD]) (by simp) (by simp) fun out hC hE => ?_
    obtain ⟨e1, e2⟩ := hE
    subst e1
    exact ⟨by simpa using e2, hQ _ _ ⟨by simp [stopV, pl, eSize], by simp⟩⟩
   ·rw [if_neg h40] at hQ hin
    obtain ⟨t3, l3, e, hl3⟩ := hl2.two (by rw [h7]; decide)
    subst e
    have hin' : exprS n (d + 1) (t3 :: l3) ≠ .out := fun e => hin (by simp [e, Res.andThen])
    have hcl := f105_ok ihE (d + 1) (t3 :: l3) (by omega) hl3 hin' (.int .i64 6) (.str t.t) (.int .i64 t.a) (.int .i64 0) (.sl true 0 []) (.sl true 0 []) rfl
    have hW := f104_ok t2 (by rw [h7]; decide) (t3 :: l3) [.int .i64 6, .str t.t, .int .i64 t.a, .int .i64 0, .sl true 0 [], .sl true 0 []] 25 d (by omega) 105 [.ptr 1 0, .ptr 2 0] rfl rfl
     (fun l' nd' => ∃ x v, exprS n (d + 1) (t3 :: l3) = .ok x l' ∧ nd' = [.int .i64 6, .str t.t, .int .i64 t.a, .int .i64 0, .sl true 0 [], .sl false 6 [v]] ∧ NdR x v) (fun a w => exprS n (d + 1) (t3 :: l3) = .no a w) hcl
    refine ATT.callA Tryz.func76 60 [0, 1, 4] [] 0 0 (hW) (by simp) (by simp) (by simp [tkD, tokD]) (by simp) (by simp) fun out hC hE => ?_
    rcases hE with ⟨l', nd', b, c, e1, e2, x, v, hx, hnd, hxv⟩ | ⟨a, w, e1, e2, hx⟩
    ·subst e1 e2 hnd
     refine ⟨by simp, ?_⟩
     simp [c76t]
     simp only [List.tail_cons, hx, Res.andThen] at hQ
     refine ATT.fin' hQ Tryz.func76 c76res ?_
     exact ⟨by simp, _, _, _, rfl, rfl, NdR.kids (.one hxv)⟩
    ·subst e1
     simp only [List.tail_cons, hx, Res.andThen] at hQ
     exact ⟨by simpa using e2, hQ _ _ ⟨by simp [stopV], by simp⟩⟩
  ·rw [if_neg (fun h => h7 h.2)] at hQ hin
   simp [c76t, eq_true h1, tkD, tokD, h7]
   refine ATT.callP Tryz.func76 60 0 (ihC d _ hd hl hin) (hin) (by simp) (by simp) rfl (by simp) (fun a w e h1 hh => hQ _ _ (by rw [e]; exact ⟨rfl, by rw [hh]; simp⟩)) fun x l' v hx hφ => ?_
   rw [hx] at hQ hin
   try simp only [Res.andThen] at hQ hin
   obtain ⟨nl1_v, z1_v, nl2_v, z2_v, ds_v, hv_v, ha_v, hb_v, hc_v, hd_v, he_v⟩ := hφ.shape
   have hw_v := hv_v
   subst hw_v
   simp
   refine ATT.fin' hQ Tryz.func76 c76res ?_
   exact ⟨by simp, _, _, _, rfl, rfl, hφ⟩
 ·rw [if_neg (fun h => h1 h.1)] at hQ hin
  simp [c76t, h1]
  refine ATT.callP Tryz.func76 60 0 (ihC d _ hd hl hin) (hin) (by simp) (by simp) rfl (by simp) (fun a w e h1 hh => hQ _ _ (by rw [e]; exact ⟨rfl, by rw [hh]; simp⟩)) fun x l' v hx hφ => ?_
  rw [hx] at hQ hin
  try simp only [Res.andThen] at hQ hin
  obtain ⟨nl1_v, z1_v, nl2_v, z2_v, ds_v, hv_v, ha_v, hb_v, hc_v, hd_v, he_v⟩ := hφ.shape
  have hw_v := hv_v
  subst hw_v
  simp
  refine ATT.fin' hQ Tryz.func76 c76res ?_
  exact ⟨by simp, _, _, _, rfl, rfl, hφ⟩
theorem f46_ok (n : Nat) (ihE : ExprC n) : StmtC (n + 1) := by
 intro d l hd hl hin
 obtain ⟨t, r, e⟩ := hl.cons
 subst e
 simp only [stmtS, kd_cons, pl_cons, List.tail_cons] at hin ⊢
 refine AF.start' 60 Tryz.func46 rfl rfl c46call c46ok fun Q hQ => ?_
 simp [c46c, c46t]
 refine ATT.callM Tryz.func46 60 [0] (f40_ok t r d) rfl (by simp) (by simp) (by simp) (by simp) (by simp) ?_
 simp
 by_cases h1 : t.k = 13
 ·obtain ⟨t2, l2, e, hl2⟩ := hl.two (by rw [h1]; decide)
  subst e
  have hT := f39_ok t (t2 :: l2) d
  rw [if_neg (by rw [h1]; decide)] at hT
  simp only [eq_true h1, if_true] at hQ hin
  simp [c46t, eq_true h1]
  refine ATT.callM Tryz.func46 60 [0] (hT) rfl (by simp) (by simp) (by simp) (by simp) (by simp) ?_
  simp [c46t, tkD, tokD]
  have hin' : exprS n d (t2 :: l2) ≠ .out := fun e => hin (by simp [e, Res.andThen])
  refine ATT.callP Tryz.func46 60 0 (ihE d _ hd hl2 hin') (hin') (by simp) (by simp) rfl (by simp) (fun a w e h1 hh => hQ _ _ (by rw [e]; exact ⟨rfl, by rw [hh]; simp⟩)) fun x l' v hx hφ => ?_
  rw [hx] at hQ hin
  try simp only [Res.andThen] at hQ hin
  obtain ⟨nl1_v, z1_v, nl2_v, z2_v, ds_v, hv_v, ha_v, hb_v, hc_v, hd_v, he_v⟩ := hφ.shape
  have hw_v := hv_v
  subst hw_v
  simp [c46t]
  refine ATT.finz hQ Tryz.func46 c46res (by first | exact .inl rfl | exact .inr ⟨_, rfl⟩) ?_
  simp
  all_goals (first | omega | exact ⟨_, rfl⟩ | skip)
  exact ⟨_, _, _, rfl, rfl, _, rfl, NdR.kids (.one hφ)⟩
 ·simp only [eq_false h1, if_false] at hQ hin
  simp [c46t, h1]
  have hin' : exprS n d (t :: r) ≠ .out := fun e => hin (by simp [e, Res.andThen])
  refine ATT.callP Tryz.func46 60 0 (ihE d _ hd hl hin') (hin') (by simp) (by simp) rfl (by simp) (fun a w e h1 hh => hQ _ _ (by rw [e]; exact ⟨rfl, by rw [hh]; simp⟩)) fun x l' v hx hφ => ?_
  rw [hx] at hQ hin
  try simp only [Res.andThen] at hQ hin
  obtain ⟨nl1_v, z1_v, nl2_v, z2_v, ds_v, hv_v, ha_v, hb_v, hc_v, hd_v, he_v⟩ := hφ.shape
  have hw_v := hv_v
  subst hw_v
  simp
  refine ATT.fin' hQ Tryz.func46 c46res ?_
  exact ⟨by simp, _, _, _, rfl, rfl, _, rfl, hφ⟩
theorem NdRL.append : ∀ {a b : List Nd} {x y : List D}, NdRL a x → NdRL b y → NdRL (a ++ b) (x ++ y)
 | [], b, x, y, h, h2 => by simp only [NdRL] at h; subst h; exact h2
 | a :: r, b, x, y, h, h2 => by
  simp only [NdRL] at h
  obtain ⟨d, l, e, h3, h4⟩ := h
  subst e
  simp only [List.cons_append, NdRL]
  exact ⟨d, l ++ y, rfl, h3, h4.append h2⟩
theorem NdRL.length : ∀ {a : List Nd} {x : List D}, NdRL a x → x.length = a.length
 | [], x, h => by simp only [NdRL] at h; subst h; rfl
 | a :: r, x, h => by
  simp only [NdRL] at h
  obtain ⟨d, l, e, h3, h4⟩ := h
  subst e
  simp [h4.length]
abbrev NV (T : TypeId) (ds : List D) : Option Vec := some ⟨ds.isEmpty, 6, 0, ds.map .d, T⟩
set_option maxHeartbeats 1000000 in
theorem f122_ok (n : Nat) (ihB : ∀ m, m ≤ n → BinaryC m) (ihU : UnaryC n) : MsgC (n + 1) := by
 intro d l hd hl hin
 obtain ⟨t, r, e⟩ := hl.cons
 subst e
 simp only [msgS, kd_cons, pl_cons, tx_cons, List.tail_cons] at hin ⊢
 by_cases h1 : t.k = 1
 ·have hT := f39_ok t r d
  rw [if_neg (by rw [h1]; decide)] at hT
  simp only [eq_true h1, if_true] at hin ⊢
  refine AF.start' 60 Tryz.func122 rfl rfl c122call c122ok fun Q hQ => ?_
  simp [c122c, c122t, eq_true h1, tkD, tokD]
  refine ATT.callM Tryz.func122 60 [0] (hT) rfl (by simp) (by simp) (by simp [tkD, tokD]) (by simp) (by simp) ?_
  simp [c122t, tkD, tokD]
  refine ATT.fin' hQ Tryz.func122 c122res ?_
  exact ⟨by simp, _, _, _, rfl, rfl, NdR.leaf _ _ _ 0⟩
 by_cases h3 : t.k = 3
 ·obtain ⟨t2, l2, e, hl2⟩ := hl.two (by rw [h3]; decide)
  subst e
  have hT := f39_ok t (t2 :: l2) d
  rw [if_neg (by rw [h3]; decide)] at hT
  simp only [eq_false h1, eq_true h3, if_true, if_false] at hin ⊢
  have hin' : unaryS n d (t2 :: l2) ≠ .out := fun e => hin (by simp [e, Res.andThen])
  refine AF.start' 60 Tryz.func122 rfl rfl c122call c122ok fun Q hQ => ?_
  simp [c122c, c122t, h1, eq_true h3, tkD, tokD]
  refine ATT.callM Tryz.func122 60 [0] (hT) rfl (by simp) (by simp) (by simp [tkD, tokD]) (by simp) (by simp) ?_
  simp [c122t, tkD, tokD]
  refine ATT.callP Tryz.func122 60 0 (ihU d _ hd hl2 hin') (hin') (by simp) (by simp) rfl (by simp) (fun a w e h1 hh => hQ _ _ (by rw [e]; exact ⟨rfl, by rw [hh]; simp⟩)) fun x l' v hx hφ => ?_
  rw [hx] at hQ hin
  try simp only [Res.andThen] at hQ hin
  obtain ⟨u, e, hφ⟩ := hφ
  subst e
  obtain ⟨nl1_u, z1_u, nl2_u, z2_u, ds_u, hv_u, ha_u, hb_u, hc_u, hd_u, he_u⟩ := hφ.shape
  have hw_u := hv_u
  subst hw_u
  simp [c122t]
  refine ATT.finz hQ Tryz.func122 c122res (by first | exact .inl rfl | exact .inr ⟨_, rfl⟩) ?_
  simp
  all_goals (first | omega | exact ⟨_, rfl⟩ | skip)
  exact ⟨_, _, _, rfl, rfl, NdR.kids (.one hφ)⟩
 by_cases h2 : t.k = 2
 ·simp only [eq_false h1, eq_false h3, eq_true h2, if_true, if_false] at hin ⊢
  refine AF.start' 60 Tryz.func122 rfl rfl c122call c122ok fun Q hQ => ?_
  simp [c122c, c122t, h1, h3, eq_true h2, tkD, tokD]
  refine ATT.nilB 3 5 6 25 rfl rfl (by decide) (by simp) ?_
  simp
  have hin' : keysS n d ⟨#[]⟩ [] (t :: r) ≠ .out := fun e => hin (by simp [e, Res.andThen])
  generalize hR : keysS n d ⟨#[]⟩ [] (t :: r) = R at hQ hin hin'
  have hlen := hl.2.2
  refine ATT.loopG 60 c122l15.eq_1 (fun ((m, s, acc, ds, l) : Nat × ByteArray × List Nd × List D × List Tk) => m) (fun ((m, s, acc, ds, l) : Nat × ByteArray × List Nd × List D × List Tk) => keysS m d s acc l = R ∧ NdRL acc ds ∧ WF l ∧ ds.length + l.length ≤ 5000 ∧ s.size + 1048576 * l.length ≤ 5242880000 ∧ m ≤ n) (fun ((m, s, acc, ds, l) : Nat × ByteArray × List Nd × List D × List Tk) => [(0, .ptr 0 0), (2, .ptr 1 0), (4, .ptr 3 0)]) (fun ((m, s, acc, ds, l) : Nat × ByteArray × List Nd × List D × List Tk) => [PB l d, .cells [.d (.int .i64 0), .d (.str ⟨#[]⟩), .d (.int .i64 0), .d (.int .i64 0), .d (.sl true 0 []), .d (.sl true 0 [])] 25, .cells [.d (.int .i64 t.k), .d (.str t.t), .d (.int .i64 t.a)] 79, .cells [.d (.int .i64 9), .d (.str s), .d (.int .i64 t.a), .d (.int .i64 0), .d (.sl true 0 []), .vs 0 ds.length 0 ds.length] 25]) (fun ((m, s, acc, ds, l) : Nat × ByteArray × List Nd × List D × List Tk) => [NV 25 ds]) ((n, ⟨#[]⟩, [], [], t :: r)) (by (try dsimp only); exact ⟨hR, by simp [NdRL], hl, by simpa using hlen, by have h0 : (⟨#[]⟩ : ByteArray).size = 0 := rfl; simp only [List.length_cons] at hlen; simp only [h0, List.length_cons]; omega, Nat.le_refl _⟩) (by simp <;> omega) (by simp) (by simp) ?_
  intro ⟨m, s, acc, ds, l⟩ u w hI ih
  try simp only at hI ih
  obtain ⟨hRk, hds, hwf, hnum, hsz, hmn⟩ := hI
  obtain ⟨t1, l1, e⟩ := hwf.cons
  subst e
  cases m with
  | zero => exact absurd hRk.symm (by simpa [keysS] using hin')
  | succ m =>
   simp only [keysS, kd_cons, tx_cons, List.tail_cons] at hRk
   simp [c122t]
   refine ATT.callM Tryz.func122 60 [0] (f40_ok t1 l1 d) rfl (by simp) (by simp) (by simp [tkD, tokD]) (by simp) (by simp) ?_
   simp [tkD, tokD]
   by_cases h1k : t1.k = 2
   ·obtain ⟨t2, l2, e, hl2⟩ := hwf.two (by rw [h1k]; decide)
    subst e
    have hT := f39_ok t1 (t2 :: l2) d
    rw [if_neg (by rw [h1k]; decide)] at hT
    simp only [eq_true h1k, if_true] at hRk
    have htz := hwf.2.1 t1 (by simp)
    simp only [List.length_cons] at hsz hnum
    have hcat : s.size + t1.t.size ≤ 9223372036854775807 := by omega
    simp [eq_true h1k, tkD, tokD]
    refine ATT.callRM Tryz.func122 60 [0] (hT) rfl (by simp) (by simp) (by simp [tkD, tokD]) (by simp) (by simp) ?_
    simp [c122t, tkD, tokD, hcat]
    have hin2 : binaryS m d (t2 :: l2) ≠ .out := fun e => hin' (by rw [← hRk, e]; rfl)
    refine ATT.callP Tryz.func122 60 0 (ihB m (by omega) d _ hd hl2 hin2) hin2 (by simp) (by simp) rfl (by simp) (fun a w e h1 hh => hQ _ _ (by rw [← hRk, e]; exact ⟨rfl, by rw [hh]; simp⟩)) fun x l' v hx hφ => ?_
    rw [hx] at hRk
    simp only [Res.andThen] at hRk
    obtain ⟨u0, e, hφ⟩ := hφ
    subst e
    obtain ⟨nl1_u0, z1_u0, nl2_u0, z2_u0, ds_u0, hv_u0, ha_u0, hb_u0, hc_u0, hd_u0, he_u0⟩ := hφ.shape
    have hw_u0 := hv_u0
    subst hw_u0
    have hsh := (pres m).binary hl2 hx
    have h2l := hsh.2
    simp only [List.length_cons] at h2l
    have hmul : (ds.length + 1) * 88 ≤ 140737488355328 := by omega
    simp [c122t, hmul]
    refine ih (m, s ++ t1.t, acc ++ [x.1], ds ++ [_], l') (by first | ((try dsimp only); omega) | (simp [eq_true h1k, tkD, tokD, hcat] <;> omega)) (by (try dsimp only); exact ⟨hRk, hds.append (.one hφ), hsh.1, by simp; omega, by simp; omega, by omega⟩) _ _ _ (by simp <;> omega) (by simp <;> omega) (by simp <;> omega)
   ·simp only [eq_false h1k, if_false] at hRk
    subst hRk
    simp [c122t, h1k]
    cases ds with
    | nil =>
     have : acc = [] := by cases acc <;> simp [NdRL] at hds ⊢
     subst this
     refine ATT.finz hQ Tryz.func122 c122res (by first | exact .inl rfl | exact .inr ⟨_, rfl⟩) ?_
     simp
     all_goals (first | omega | exact ⟨_, rfl⟩ | skip)
     exact ⟨_, _, _, rfl, rfl, NdR.mk (fun _ => rfl) (by simp) (fun _ => rfl) (by simp) (by simp [NdRL])⟩
    | cons d0 ds =>
     refine ATT.finz hQ Tryz.func122 c122res (by first | exact .inl rfl | exact .inr ⟨_, rfl⟩) ?_
     simp
     all_goals (first | omega | exact ⟨_, rfl⟩ | skip)
     exact ⟨_, _, _, rfl, rfl, NdR.kids hds⟩
 ·simp only [eq_false h1, eq_false h3, eq_false h2, if_false] at hin ⊢
  refine AF.start' 60 Tryz.func122 rfl rfl c122call c122ok fun Q hQ => ?_
  simp [c122c, c122t, h1, h3, h2, tkD, tokD]
  refine ATT.callA Tryz.func122 60 [0] [] 0 0 (f47_ok t r d 20) (by simp) (by simp) (by simp [tkD, tokD]) (by simp) (by simp) fun out hC hE => ?_
  obtain ⟨e1, e2⟩ := hE
  subst e1
  exact ⟨by simpa using e2, hQ _ _ ⟨by simp [stopV, eSyn], by simp⟩⟩
theorem f147_ok {n : Nat} (ihM : MsgC n) (d : Nat) (l : List Tk) (hd : d ≤ 40) (hl : WF l) (hin : msgS n d l ≠ .out) (x : Nd) (u : D) (hu : NdR x u) :
  AF Tryz.prog 147 [.ptr 0 0, .d u] ⟨[PB l d], []⟩ (PR NdR d ((msgS n d l).andThen fun m r => .ok (sentS x m) r)) := by
 obtain ⟨nl1_u, z1_u, nl2_u, z2_u, ds_u, hv_u, ha_u, hb_u, hc_u, hd_u, he_u⟩ := hu.shape
 have hw_u := hv_u
 subst hw_u
 refine AF.start' 60 Tryz.func147 rfl rfl c147call c147ok fun Q hQ => ?_
 simp [c147c, c147t]
 refine ATT.callP Tryz.func147 60 0 (ihM d _ hd hl hin) (hin) (by simp) (by simp) rfl (by simp) (fun a w e h1 hh => hQ _ _ (by rw [e]; exact ⟨rfl, by rw [hh]; simp⟩)) fun m l' v hx hφ => ?_
 rw [hx] at hQ hin
 try simp only [Res.andThen] at hQ hin
 have hlen := msg_len hl hx
 obtain ⟨nl1_v, z1_v, nl2_v, z2_v, ds_v, hv_v, ha_v, hb_v, hc_v, hd_v, he_v⟩ := hφ.shape
 have hw_v := hv_v
 subst hw_v
 have hdl := he_v.length
 have hmul : (1 + m.kids.length) * 88 ≤ 140737488355328 := by omega
 rw [← hdl] at hmul
 cases nl2_v with
 | true =>
  have hk := hc_v rfl
  rw [hk] at he_v
  simp only [NdRL] at he_v
  subst he_v
  simp
  refine ATT.finz hQ Tryz.func147 c147res (by first | exact .inl rfl | exact .inr ⟨_, rfl⟩) ?_
  simp
  all_goals (first | omega | exact ⟨_, rfl⟩ | skip)
  exact ⟨_, _, _, rfl, rfl, by simp only [sentS, hk]; exact NdR.kids (.one hu)⟩
 | false =>
  have hz := hd_v rfl
  subst hz
  simp [hmul]
  refine ATT.finz hQ Tryz.func147 c147res (by first | exact .inl rfl | exact .inr ⟨_, rfl⟩) ?_
  simp
  all_goals (first | omega | exact ⟨_, rfl⟩ | skip)
  exact ⟨_, _, _, rfl, rfl, by simp only [sentS]; exact NdR.kids (NdRL.append (.one hu) he_v)⟩
theorem f136_ok {n : Nat} (ihM : ∀ m, m ≤ n → MsgC m) (g : FuncId) (c : Int) (d : Nat) (l : List Tk) (hd : d ≤ 40) (res0 : Res (Nd × Bool)) (hread : AF Tryz.prog g [.ptr 0 0] ⟨[PB l d], []⟩ (PR NdB d res0)) (hwf0 : ∀ x r, res0 = .ok x r → WF r)
  (hin : (res0.andThen fun x r => chainS n d c x r) ≠ .out) :
  AF Tryz.prog 136 [.ptr 0 0, .d (.int .i64 c), .d (.bool false), .fn (.func g) [.ptr 0 0] []] ⟨[PB l d], []⟩ (PR NdB d (res0.andThen fun x r => chainS n d c x r)) := by
 have hin0 : res0 ≠ .out := fun e => hin (by rw [e]; rfl)
 refine AF.start' 60 Tryz.func136 rfl rfl c136call c136ok fun Q hQ => ?_
 simp [c136c, c136t]
 refine ATT.callP Tryz.func136 60 0 (hread) (hin0) (by simp) (by simp) rfl (by simp) (fun a w e h1 hh => hQ _ _ (by rw [e]; exact ⟨rfl, by rw [hh]; simp⟩)) fun x l' v hx hφ => ?_
 rw [hx] at hQ hin
 try simp only [Res.andThen] at hQ hin
 have hwf := hwf0 x l' hx
 obtain ⟨u, e, hu⟩ := hφ
 subst e
 obtain ⟨nl1_u, z1_u, nl2_u, z2_u, ds_u, hv_u, ha_u, hb_u, hc_u, hd_u, he_u⟩ := hu.shape
 have hw_u := hv_u
 subst hw_u
 simp
 generalize hR : chainS n d c x l' = R at hQ hin
 refine ATT.loopG 60 c136l5.eq_1 (fun ((m, x, nl1, z1, nl2, z2, ds, l) : Nat × (Nd × Bool) × Bool × Nat × Bool × Nat × List D × List Tk) => m) (fun ((m, x, nl1, z1, nl2, z2, ds, l) : Nat × (Nd × Bool) × Bool × Nat × Bool × Nat × List D × List Tk) => chainS m d c x l = R ∧ WF l ∧ m ≤ n ∧ NdR x.1 (.agg [.int .i64 x.1.k, .str x.1.t, .int .i64 x.1.a, .int .i64 x.1.n, .sl nl1 z1 (x.1.names.map .str), .sl nl2 z2 ds])) (fun ((m, x, nl1, z1, nl2, z2, ds, l) : Nat × (Nd × Bool) × Bool × Nat × Bool × Nat × List D × List Tk) => [(0, .ptr 0 0), (1, .d (.int .i64 c)), (2, .d (.bool false)), (10, .ptr 2 0), (11, .d (.bool x.2)), (8, .ptr 1 0)]) (fun ((m, x, nl1, z1, nl2, z2, ds, l) : Nat × (Nd × Bool) × Bool × Nat × Bool × Nat × List D × List Tk) => [PB l d, .cells [.d (.int .i64 0), .d (.str ⟨#[]⟩), .d (.int .i64 0), .d (.int .i64 0), .d (.sl true 0 []), .d (.sl true 0 [])] 25, .cells [.d (.int .i64 x.1.k), .d (.str x.1.t), .d (.int .i64 x.1.a), .d (.int .i64 x.1.n), .d (.sl nl1 z1 (x.1.names.map .str)), .d (.sl nl2 z2 ds)] 25]) (fun ((m, x, nl1, z1, nl2, z2, ds, l) : Nat × (Nd × Bool) × Bool × Nat × Bool × Nat × List D × List Tk) => []) ((n, x, nl1_u, z1_u, nl2_u, z2_u, ds_u, l')) (by (try dsimp only); exact ⟨hR, hwf, Nat.le_refl _, hu⟩) (by simp <;> omega) (by simp) (by simp) ?_
 intro ⟨m, x, nl1, z1, nl2, z2, ds, l⟩ u w hI ih
 try simp only at hI ih
 obtain ⟨hRk, hwf, hmn, hu⟩ := hI
 obtain ⟨t1, l1, e⟩ := hwf.cons
 subst e
 cases m with
 | zero => exact absurd hRk.symm (by simpa [chainS] using hin)
 | succ m =>
  simp only [chainS, kd_cons] at hRk
  simp [c136t]
  refine ATT.callM Tryz.func136 60 [0] (f40_ok t1 l1 d) rfl (by simp) (by simp) (by simp) (by simp) (by simp) ?_
  simp
  by_cases h1 : t1.k = c
  ·simp only [eq_true h1, if_true] at hRk
   have hin2 : msgS m d (t1 :: l1) ≠ .out := fun e => hin (by rw [← hRk, e]; rfl)
   simp [c136t, eq_true h1]
   have hin3 : ((msgS m d (t1 :: l1)).andThen fun m r => Res.ok (sentS x.1 m) r) ≠ .out := andThen_in hin2 (fun _ _ _ => by simp)
   refine ATT.callP Tryz.func136 60 0 (f147_ok (ihM m (by omega)) d _ hd hwf hin2 x.1 _ hu) hin3 (by simp) (by simp) rfl (by simp) (fun a w e h1 hh => hQ _ _ (by
    cases hm : msgS m d (t1 :: l1) with
    | ok y r => rw [hm] at e; simp [Res.andThen] at e
    | no a' w' => rw [hm] at e; simp only [Res.andThen, Res.no.injEq] at e; rw [← hRk, hm]; exact ⟨by rw [e.1, e.2], by rw [hh]; simp⟩
    | out => exact absurd hm hin2)) fun y l' v hy hφ => ?_
   obtain ⟨y', r', e1, e2⟩ := andThen_ok hy
   simp only [Res.ok.injEq] at e2
   obtain ⟨e2, e3⟩ := e2
   subst e2 e3
   rw [e1] at hRk
   simp only [Res.andThen] at hRk
   have hsh := (pres m).msg hwf e1
   obtain ⟨nl1_v, z1_v, nl2_v, z2_v, ds_v, hv_v, ha_v, hb_v, hc_v, hd_v, he_v⟩ := hφ.shape
   have hw_v := hv_v
   subst hw_v
   simp [c136t]
   refine ih (m, (sentS x.1 y', true), nl1_v, z1_v, nl2_v, z2_v, ds_v, r') (by first | ((try dsimp only); omega) | (simp <;> omega)) (by (try dsimp only); exact ⟨hRk, hsh.1, by omega, hφ⟩) _ _ _ (by simp <;> omega) (by simp <;> omega) (by simp <;> omega)
  ·simp only [eq_false h1, if_false] at hRk
   subst hRk
   simp [c136t, h1]
   refine ATT.fin' hQ Tryz.func136 c136res ?_
   exact ⟨by simp, _, _, _, rfl, rfl, _, rfl, hu⟩
theorem f138_ok (n : Nat) (ihM : ∀ m, m ≤ n → MsgC m) (ihP : PrimC n) : UnaryC (n + 1) := by
 intro d l hd hl hin
 simp only [unaryS] at hin ⊢
 have hC := f136_ok ihM 148 1 d l hd _ (ihP d l hd hl (fun e => hin (by rw [e]; rfl))) (fun x r e => ((pres n).prim hl e).1) hin
 refine AF.start' 60 Tryz.func138 rfl rfl c138call c138ok fun Q hQ => ?_
 simp [c138c, c138t]
 refine ATT.callP Tryz.func138 60 0 (hC) (hin) (by simp) (by simp) rfl (by simp) (fun a w e h1 hh => hQ _ _ (by rw [e]; exact ⟨rfl, by rw [hh]; simp⟩)) fun x l' v hx hφ => ?_
 rw [hx] at hQ hin
 try simp only [Res.andThen] at hQ hin
 obtain ⟨u, e, hu⟩ := hφ
 subst e
 obtain ⟨nl1_u, z1_u, nl2_u, z2_u, ds_u, hv_u, ha_u, hb_u, hc_u, hd_u, he_u⟩ := hu.shape
 have hw_u := hv_u
 subst hw_u
 simp
 refine ATT.fin' hQ Tryz.func138 c138res ?_
 exact ⟨by simp, _, _, _, rfl, rfl, _, rfl, hu⟩
theorem f137_ok (n : Nat) (ihM : ∀ m, m ≤ n → MsgC m) (ihU : UnaryC n) : BinaryC (n + 1) := by
 intro d l hd hl hin
 simp only [binaryS] at hin ⊢
 have hC := f136_ok ihM 138 3 d l hd _ (ihU d l hd hl (fun e => hin (by rw [e]; rfl))) (fun x r e => ((pres n).unary hl e).1) hin
 refine AF.start' 60 Tryz.func137 rfl rfl c137call c137ok fun Q hQ => ?_
 simp [c137c, c137t]
 refine ATT.callP Tryz.func137 60 0 (hC) (hin) (by simp) (by simp) rfl (by simp) (fun a w e h1 hh => hQ _ _ (by rw [e]; exact ⟨rfl, by rw [hh]; simp⟩)) fun x l' v hx hφ => ?_
 rw [hx] at hQ hin
 try simp only [Res.andThen] at hQ hin
 obtain ⟨u, e, hu⟩ := hφ
 subst e
 obtain ⟨nl1_u, z1_u, nl2_u, z2_u, ds_u, hv_u, ha_u, hb_u, hc_u, hd_u, he_u⟩ := hu.shape
 have hw_u := hv_u
 subst hw_u
 simp
 refine ATT.fin' hQ Tryz.func137 c137res ?_
 exact ⟨by simp, _, _, _, rfl, rfl, _, rfl, hu⟩
end Go.SL
namespace Go.SL
open Go.Proofs
set_option maxRecDepth 10000
theorem f136_once {n : Nat} (ihM : MsgC n) (g : FuncId) (d : Nat) (l : List Tk) (hd : d ≤ 40) (res0 : Res (Nd × Bool)) (hread : AF Tryz.prog g [.ptr 0 0] ⟨[PB l d], []⟩ (PR NdB d res0)) (hwf0 : ∀ x r, res0 = .ok x r → WF r)
  (hin : (res0.andThen fun x r => if kd r = 2 then (msgS n d r).andThen fun m r' => Res.ok (sentS x.1 m, true) r' else Res.ok x r) ≠ .out) :
  AF Tryz.prog 136 [.ptr 0 0, .d (.int .i64 2), .d (.bool true), .fn (.func g) [.ptr 0 0] []] ⟨[PB l d], []⟩ (PR NdB d (res0.andThen fun x r => if kd r = 2 then (msgS n d r).andThen fun m r' => Res.ok (sentS x.1 m, true) r' else Res.ok x r)) := by
 have hin0 : res0 ≠ .out := fun e => hin (by rw [e]; rfl)
 refine AF.start' 60 Tryz.func136 rfl rfl c136call c136ok fun Q hQ => ?_
 simp [c136c, c136t]
 refine ATT.callP Tryz.func136 60 0 (hread) (hin0) (by simp) (by simp) rfl (by simp) (fun a w e h1 hh => hQ _ _ (by rw [e]; exact ⟨rfl, by rw [hh]; simp⟩)) fun x l' v hx hφ => ?_
 rw [hx] at hQ hin
 try simp only [Res.andThen] at hQ hin
 have hwf := hwf0 x l' hx
 obtain ⟨u, e, hu⟩ := hφ
 subst e
 obtain ⟨nl1_u, z1_u, nl2_u, z2_u, ds_u, hv_u, ha_u, hb_u, hc_u, hd_u, he_u⟩ := hu.shape
 have hw_u := hv_u
 subst hw_u
 obtain ⟨t1, l1, e⟩ := hwf.cons
 subst e
 simp
 refine ATT.loop 60 rfl ?_
 simp [c136l5, c136t]
 refine ATT.callM Tryz.func136 60 [0] (f40_ok t1 l1 d) rfl (by simp) (by simp) (by simp) (by simp) (by simp) ?_
 simp
 by_cases h1 : t1.k = 2
 ·simp only [kd_cons, eq_true h1, if_true] at hQ hin
  have hin2 : msgS n d (t1 :: l1) ≠ .out := fun e => hin (by simp [e])
  simp [c136t, eq_true h1]
  have hin3 : ((msgS n d (t1 :: l1)).andThen fun m r => Res.ok (sentS x.1 m) r) ≠ .out := andThen_in hin2 (fun _ _ _ => by simp)
  refine ATT.callP Tryz.func136 60 0 (f147_ok ihM d _ hd hwf hin2 x.1 _ hu) hin3 (by simp) (by simp) rfl (by simp) (fun a w e h1 hh => hQ _ _ (by
   cases hm : msgS n d (t1 :: l1) with
   | ok y r => rw [hm] at e; simp [Res.andThen] at e
   | no a' w' => rw [hm] at e; simp only [Res.andThen, Res.no.injEq] at e; exact ⟨by rw [e.1, e.2], by rw [hh]; simp⟩
   | out => exact absurd hm hin2)) fun y l' v hy hφ => ?_
  obtain ⟨y', r', e1, e2⟩ := andThen_ok hy
  simp only [Res.ok.injEq] at e2
  obtain ⟨e2, e3⟩ := e2
  subst e2 e3
  rw [e1] at hQ
  simp only [Res.andThen] at hQ
  obtain ⟨nl1_v, z1_v, nl2_v, z2_v, ds_v, hv_v, ha_v, hb_v, hc_v, hd_v, he_v⟩ := hφ.shape
  have hw_v := hv_v
  subst hw_v
  simp [c136t]
  refine ATT.fin' hQ Tryz.func136 c136res ?_
  exact ⟨by simp, _, _, _, rfl, rfl, _, rfl, hφ⟩
 ·simp only [kd_cons, eq_false h1, if_false] at hQ hin
  simp [c136t, h1]
  refine ATT.fin' hQ Tryz.func136 c136res ?_
  exact ⟨by simp, _, _, _, rfl, rfl, _, rfl, hu⟩
theorem f121_ok (n : Nat) (ihM : MsgC n) (ihB : BinaryC n) : KeyedC (n + 1) := by
 intro d l hd hl hin
 simp only [keyedS] at hin ⊢
 have hC := f136_once ihM 137 d l hd _ (ihB d l hd hl (fun e => hin (by rw [e]; rfl))) (fun x r e => ((pres n).binary hl e).1) hin
 refine AF.start' 60 Tryz.func121 rfl rfl c121call c121ok fun Q hQ => ?_
 simp [c121c, c121t]
 refine ATT.callP Tryz.func121 60 0 (hC) (hin) (by simp) (by simp) rfl (by simp) (fun a w e h1 hh => hQ _ _ (by rw [e]; exact ⟨rfl, by rw [hh]; simp⟩)) fun x l' v hx hφ => ?_
 rw [hx] at hQ hin
 try simp only [Res.andThen] at hQ hin
 obtain ⟨u, e, hu⟩ := hφ
 subst e
 obtain ⟨nl1_u, z1_u, nl2_u, z2_u, ds_u, hv_u, ha_u, hb_u, hc_u, hd_u, he_u⟩ := hu.shape
 have hw_u := hv_u
 subst hw_u
 simp
 refine ATT.fin' hQ Tryz.func121 c121res ?_
 exact ⟨by simp, _, _, _, rfl, rfl, _, rfl, hu⟩
theorem f160_ok (n : Nat) (ihL : ListC n) : ElemC (n + 1) := by
 intro d l hd hl hin
 obtain ⟨t, r, e⟩ := hl.cons
 subst e
 simp only [elemS, kd_cons, pl_cons, tx_cons, List.tail_cons] at hin ⊢
 by_cases h17 : t.k = 17
 ·simp only [eq_true h17, true_or, if_true] at hin ⊢
  refine AF.start' 60 Tryz.func160 rfl rfl c160call c160ok fun Q hQ => ?_
  simp [c160c, c160t, eq_true h17, tkD, tokD]
  refine ATT.callP Tryz.func160 60 0 (ihL d _ hd hl (.inl h17) hin) (hin) (by simp) (by simp) rfl (by simp) (fun a w e h1 hh => hQ _ _ (by rw [e]; exact ⟨rfl, by rw [hh]; simp⟩)) fun x l' v hx hφ => ?_
  rw [hx] at hQ hin
  try simp only [Res.andThen] at hQ hin
  obtain ⟨nl1_v, z1_v, nl2_v, z2_v, ds_v, hv_v, ha_v, hb_v, hc_v, hd_v, he_v⟩ := hφ.shape
  have hw_v := hv_v
  subst hw_v
  simp
  refine ATT.fin' hQ Tryz.func160 c160res ?_
  exact ⟨by simp, _, _, _, rfl, rfl, hφ⟩
 by_cases h8 : t.k = 8
 ·simp only [eq_true h8, or_true, if_true] at hin ⊢
  refine AF.start' 60 Tryz.func160 rfl rfl c160call c160ok fun Q hQ => ?_
  simp [c160c, c160t, h17, eq_true h8, tkD, tokD]
  refine ATT.callP Tryz.func160 60 0 (ihL d _ hd hl (.inr h8) hin) (hin) (by simp) (by simp) rfl (by simp) (fun a w e h1 hh => hQ _ _ (by rw [e]; exact ⟨rfl, by rw [hh]; simp⟩)) fun x l' v hx hφ => ?_
  rw [hx] at hQ hin
  try simp only [Res.andThen] at hQ hin
  obtain ⟨nl1_v, z1_v, nl2_v, z2_v, ds_v, hv_v, ha_v, hb_v, hc_v, hd_v, he_v⟩ := hφ.shape
  have hw_v := hv_v
  subst hw_v
  simp
  refine ATT.fin' hQ Tryz.func160 c160res ?_
  exact ⟨by simp, _, _, _, rfl, rfl, hφ⟩
 simp only [eq_false h17, eq_false h8, or_self, if_false] at hin ⊢
 by_cases h4 : t.k = 4
 ·have hT := f39_ok t r d
  rw [if_neg (by rw [h4]; decide)] at hT
  simp only [eq_true h4, if_true] at hin ⊢
  refine AF.start' 60 Tryz.func160 rfl rfl c160call c160ok fun Q hQ => ?_
  simp [c160c, c160t, h17, h8, eq_true h4, tkD, tokD]
  refine ATT.callM Tryz.func160 60 [0] (hT) rfl (by simp) (by simp) (by simp [tkD, tokD]) (by simp) (by simp) ?_
  simp [c160t, tkD, tokD]
  refine ATT.fin' hQ Tryz.func160 c160res ?_
  exact ⟨by simp, _, _, _, rfl, rfl, NdR.leaf _ _ _ 0⟩
 by_cases h5 : t.k = 5
 ·have hT := f39_ok t r d
  rw [if_neg (by rw [h5]; decide)] at hT
  simp only [eq_false h4, eq_true h5, if_true, if_false] at hin ⊢
  refine AF.start' 60 Tryz.func160 rfl rfl c160call c160ok fun Q hQ => ?_
  simp [c160c, c160t, h17, h8, h4, eq_true h5, tkD, tokD]
  refine ATT.callM Tryz.func160 60 [0] (hT) rfl (by simp) (by simp) (by simp [tkD, tokD]) (by simp) (by simp) ?_
  simp [c160t, tkD, tokD]
  refine ATT.fin' hQ Tryz.func160 c160res ?_
  exact ⟨by simp, _, _, _, rfl, rfl, NdR.leaf _ _ _ 0⟩
 by_cases h1 : t.k = 1
 ·have hT := f39_ok t r d
  rw [if_neg (by rw [h1]; decide)] at hT
  simp only [eq_false h4, eq_false h5, eq_true h1, if_true, if_false] at hin ⊢
  refine AF.start' 60 Tryz.func160 rfl rfl c160call c160ok fun Q hQ => ?_
  simp [c160c, c160t, h17, h8, h4, h5, eq_true h1, tkD, tokD]
  by_cases ht : t.t = trueT
  ·have ht2 : t.t = ⟨#[116, 114, 117, 101]⟩ := ht
   simp only [eq_true ht, true_or, if_true] at hQ
   simp [c160t, eq_true ht2]
   refine ATT.callM Tryz.func160 60 [0] (hT) rfl (by simp) (by simp) (by simp [tkD, tokD]) (by simp) (by simp) ?_
   simp [c160t, tkD, tokD]
   refine ATT.fin' hQ Tryz.func160 c160res ?_
   exact ⟨by simp, _, _, _, rfl, rfl, NdR.leaf _ _ _ 0⟩
  have ht2 : ¬ t.t = ⟨#[116, 114, 117, 101]⟩ := ht
  by_cases hf : t.t = falseT
  ·have hf2 : t.t = ⟨#[102, 97, 108, 115, 101]⟩ := hf
   simp only [eq_false ht, eq_true hf, true_or, or_true, if_true] at hQ
   simp [c160t, ht2, eq_true hf2]
   refine ATT.callM Tryz.func160 60 [0] (hT) rfl (by simp) (by simp) (by simp [tkD, tokD]) (by simp) (by simp) ?_
   simp [c160t, tkD, tokD]
   refine ATT.fin' hQ Tryz.func160 c160res ?_
   exact ⟨by simp, _, _, _, rfl, rfl, NdR.leaf _ _ _ 0⟩
  have hf2 : ¬ t.t = ⟨#[102, 97, 108, 115, 101]⟩ := hf
  by_cases hn : t.t = nilT
  ·have hn2 : t.t = ⟨#[110, 105, 108]⟩ := hn
   simp only [eq_false ht, eq_false hf, eq_true hn, or_true, if_true] at hQ
   simp [c160t, ht2, hf2, eq_true hn2]
   refine ATT.callM Tryz.func160 60 [0] (hT) rfl (by simp) (by simp) (by simp [tkD, tokD]) (by simp) (by simp) ?_
   simp [c160t, tkD, tokD]
   refine ATT.fin' hQ Tryz.func160 c160res ?_
   exact ⟨by simp, _, _, _, rfl, rfl, NdR.leaf _ _ _ 0⟩
  ·have hn2 : ¬ t.t = ⟨#[110, 105, 108]⟩ := hn
   simp only [eq_false ht, eq_false hf, eq_false hn, or_false, if_false] at hQ
   simp [c160t, ht2, hf2, hn2]
   refine ATT.callM Tryz.func160 60 [0] (hT) rfl (by simp) (by simp) (by simp [tkD, tokD]) (by simp) (by simp) ?_
   simp [c160t, tkD, tokD]
   refine ATT.fin' hQ Tryz.func160 c160res ?_
   exact ⟨by simp, _, _, _, rfl, rfl, NdR.leaf _ _ _ 0⟩
 by_cases h6 : t.k = 6
 ·have hT := f39_ok t r d
  rw [if_neg (by rw [h6]; decide)] at hT
  simp only [eq_false h4, eq_false h5, eq_false h1, eq_true h6, true_or, if_true, if_false] at hin ⊢
  refine AF.start' 60 Tryz.func160 rfl rfl c160call c160ok fun Q hQ => ?_
  simp [c160c, c160t, h17, h8, h4, h5, h1, eq_true h6, tkD, tokD]
  refine ATT.callM Tryz.func160 60 [0] (hT) rfl (by simp) (by simp) (by simp [tkD, tokD]) (by simp) (by simp) ?_
  simp [c160t, tkD, tokD]
  refine ATT.fin' hQ Tryz.func160 c160res ?_
  exact ⟨by simp, _, _, _, rfl, rfl, NdR.leaf _ _ _ 0⟩
 by_cases h2 : t.k = 2
 ·have hT := f39_ok t r d
  rw [if_neg (by rw [h2]; decide)] at hT
  simp only [eq_false h4, eq_false h5, eq_false h1, eq_true h2, true_or, or_true, if_true, if_false] at hin ⊢
  refine AF.start' 60 Tryz.func160 rfl rfl c160call c160ok fun Q hQ => ?_
  simp [c160c, c160t, h17, h8, h4, h5, h1, h6, eq_true h2, tkD, tokD]
  refine ATT.callM Tryz.func160 60 [0] (hT) rfl (by simp) (by simp) (by simp [tkD, tokD]) (by simp) (by simp) ?_
  simp [c160t, tkD, tokD]
  refine ATT.fin' hQ Tryz.func160 c160res ?_
  exact ⟨by simp, _, _, _, rfl, rfl, NdR.leaf _ _ _ 0⟩
 by_cases h3 : t.k = 3
 ·have hT := f39_ok t r d
  rw [if_neg (by rw [h3]; decide)] at hT
  simp only [eq_false h4, eq_false h5, eq_false h1, eq_true h3, or_true, if_true, if_false] at hin ⊢
  refine AF.start' 60 Tryz.func160 rfl rfl c160call c160ok fun Q hQ => ?_
  simp [c160c, c160t, h17, h8, h4, h5, h1, h6, h2, eq_true h3, tkD, tokD]
  refine ATT.callM Tryz.func160 60 [0] (hT) rfl (by simp) (by simp) (by simp [tkD, tokD]) (by simp) (by simp) ?_
  simp [c160t, tkD, tokD]
  refine ATT.fin' hQ Tryz.func160 c160res ?_
  exact ⟨by simp, _, _, _, rfl, rfl, NdR.leaf _ _ _ 0⟩
 ·simp only [eq_false h4, eq_false h5, eq_false h1, eq_false h6, eq_false h2, eq_false h3, or_self, if_false] at hin ⊢
  refine AF.start' 60 Tryz.func160 rfl rfl c160call c160ok fun Q hQ => ?_
  simp [c160c, c160t, h17, h8, h4, h5, h1, h6, h2, h3, tkD, tokD]
  refine ATT.callA Tryz.func160 60 [0] [] 0 0 (f47_ok t r d 20) (by simp) (by simp) (by simp [tkD, tokD]) (by simp) (by simp) fun out hC hE => ?_
  obtain ⟨e1, e2⟩ := hE
  subst e1
  exact ⟨by simpa using e2, hQ _ _ ⟨by simp [stopV, eSyn], by simp⟩⟩
end Go.SL
namespace Go.SL
open Go.Proofs
set_option maxRecDepth 10000
theorem NdRL.inv {y : Nd} {ys : List Nd} {ds : List D} (h : NdRL (y :: ys) ds) : ∃ w ws, ds = w :: ws ∧ NdR y w ∧ NdRL ys ws := by
 simp only [NdRL] at h
 obtain ⟨d, l, e, h3, h4⟩ := h
 exact ⟨d, l, e, h3, h4⟩
theorem NdRL.cons {y : Nd} {ys : List Nd} {d : D} {ds : List D} (h : NdR y d) (h2 : NdRL ys ds) : NdRL (y :: ys) (d :: ds) := by
 simp only [NdRL]
 exact ⟨d, ds, rfl, h, h2⟩
def KO (x : Nd × Bool) : Prop := x.1.k = 7 → x.2 = true → ∃ y ys, x.1.kids = y :: ys ∧ ys.length ≤ 5000
theorem KO.sent {n d : Nat} {l r : List Tk} {m : Nd} (hl : WF l) (h : msgS n d l = .ok m r) (x : Nd) (b : Bool) : KO (sentS x m, b) := fun _ _ => ⟨_, _, rfl, msg_len hl h⟩
theorem listS_k {n d : Nat} {l r : List Tk} {x : Nd} (h : listS n d l = .ok x r) : x.k = 4 := by
 cases n with
 | zero => simp [listS] at h
 | succ n =>
  simp only [listS] at h
  split at h
  ·simp at h
  ·obtain ⟨y, r', _, e2⟩ := andThen_ok h
   simp only [Res.ok.injEq] at e2
   rw [← e2.1]; rfl
theorem blockS_k {n d : Nat} {l r : List Tk} {x : Nd} (h : blockS n d l = .ok x r) : x.k = 10 := by
 cases n with
 | zero => simp [blockS] at h
 | succ n =>
  simp only [blockS] at h
  split at h
  ·simp at h
  ·obtain ⟨y, r', _, e2⟩ := andThen_ok h
   split at e2
   ·split at e2
    ·obtain ⟨z, r2, _, e3⟩ := andThen_ok e2
     simp only [Res.ok.injEq] at e3
     rw [← e3.1]; rfl
    ·simp at e2
   ·obtain ⟨z, r2, _, e3⟩ := andThen_ok e2
    simp only [Res.ok.injEq] at e3
    rw [← e3.1]; rfl
theorem primS_KO {n d : Nat} {l r : List Tk} {x : Nd × Bool} (h : primS n d l = .ok x r) : KO x := by
 cases n with
 | zero => simp [primS] at h
 | succ n =>
  simp only [primS] at h
  intro h7 hb
  split at h
  ·simp only [Res.ok.injEq] at h; rw [← h.1] at h7; exact absurd h7 (by simp [Nd.k])
  split at h
  ·simp only [Res.ok.injEq] at h; rw [← h.1] at h7; exact absurd h7 (by simp [Nd.k])
  split at h
  ·simp only [Res.ok.injEq] at h; rw [← h.1] at h7; exact absurd h7 (by simp [Nd.k])
  split at h
  ·simp only [Res.ok.injEq] at h; rw [← h.1] at h7; exact absurd h7 (by simp [Nd.k])
  split at h
  ·obtain ⟨y, r', e1, e2⟩ := andThen_ok h
   simp only [Res.ok.injEq] at e2; rw [← e2.1] at h7; rw [listS_k e1] at h7; exact absurd h7 (by decide)
  split at h
  ·obtain ⟨y, r', e1, e2⟩ := andThen_ok h
   simp only [Res.ok.injEq] at e2; rw [← e2.1] at h7; rw [blockS_k e1] at h7; exact absurd h7 (by decide)
  split at h
  ·split at h
   ·simp at h
   ·obtain ⟨y, r', e1, e2⟩ := andThen_ok h
    split at e2
    ·simp only [Res.ok.injEq] at e2; rw [← e2.1] at hb; simp at hb
    ·simp at e2
  ·simp at h
theorem chainS_KO : ∀ (n d : Nat) (c : Int) (x : Nd × Bool) (l : List Tk) (y : Nd × Bool) (r : List Tk), WF l → KO x → chainS n d c x l = .ok y r → KO y
 | 0, _, _, _, _, _, _, _, _, h => by simp [chainS] at h
 | n + 1, d, c, x, l, y, r, hl, hx, h => by
  simp only [chainS] at h
  split at h
  ·obtain ⟨m, r', e1, e2⟩ := andThen_ok h
   exact chainS_KO n d c _ _ _ _ ((pres n).msg hl e1).1 (KO.sent hl e1 _ _) e2
  ·simp only [Res.ok.injEq] at h; rw [← h.1]; exact hx
theorem unaryS_KO {n d : Nat} {l r : List Tk} {x : Nd × Bool} (hl : WF l) (h : unaryS n d l = .ok x r) : KO x := by
 cases n with
 | zero => simp [unaryS] at h
 | succ n =>
  simp only [unaryS] at h
  obtain ⟨m, r', e1, e2⟩ := andThen_ok h
  exact chainS_KO _ _ _ _ _ _ _ ((pres n).prim hl e1).1 (primS_KO e1) e2
theorem binaryS_KO {n d : Nat} {l r : List Tk} {x : Nd × Bool} (hl : WF l) (h : binaryS n d l = .ok x r) : KO x := by
 cases n with
 | zero => simp [binaryS] at h
 | succ n =>
  simp only [binaryS] at h
  obtain ⟨m, r', e1, e2⟩ := andThen_ok h
  exact chainS_KO _ _ _ _ _ _ _ ((pres n).unary hl e1).1 (unaryS_KO hl e1) e2
theorem keyedS_KO {n d : Nat} {l r : List Tk} {x : Nd × Bool} (hl : WF l) (h : keyedS n d l = .ok x r) : KO x := by
 cases n with
 | zero => simp [keyedS] at h
 | succ n =>
  simp only [keyedS] at h
  obtain ⟨m, r', e1, e2⟩ := andThen_ok h
  split at e2
  ·obtain ⟨m, r', e3, e4⟩ := andThen_ok e2
   simp only [Res.ok.injEq] at e4; rw [← e4.1]; exact KO.sent ((pres n).binary hl e1).1 e3 _ _
  ·simp only [Res.ok.injEq] at e2; rw [← e2.1]; exact binaryS_KO hl e1
theorem f106_ok (n : Nat) (ihK : KeyedC n) (ihM : ∀ m, m ≤ n → MsgC m) : CascC (n + 1) := by
 intro d l hd hl hin
 simp only [cascS] at hin ⊢
 have hin0 : keyedS n d l ≠ .out := fun e => hin (by rw [e]; rfl)
 refine AF.start' 60 Tryz.func106 rfl rfl c106call c106ok fun Q hQ => ?_
 simp [c106c, c106t]
 refine ATT.callP Tryz.func106 60 0 (ihK d l hd hl hin0) (hin0) (by simp) (by simp) rfl (by simp) (fun a w e h1 hh => hQ _ _ (by rw [e]; exact ⟨rfl, by rw [hh]; simp⟩)) fun x l' v hx hφ => ?_
 rw [hx] at hQ hin
 try simp only [Res.andThen] at hQ hin
 have hwf := ((pres n).keyed hl hx).1
 have hko := keyedS_KO hl hx
 obtain ⟨u, e, hu⟩ := hφ
 subst e
 obtain ⟨nl1_u, z1_u, nl2_u, z2_u, ds_u, hv_u, ha_u, hb_u, hc_u, hd_u, he_u⟩ := hu.shape
 have hw_u := hv_u
 subst hw_u
 obtain ⟨t1, l1, e⟩ := hwf.cons
 subst e
 simp only [kd_cons, pl_cons] at hin hQ
 simp [c106t]
 refine ATT.callM Tryz.func106 60 [0] (f40_ok t1 l1 d) rfl (by simp) (by simp) (by simp) (by simp) (by simp) ?_
 simp
 by_cases h1 : t1.k = 15
 ·simp only [eq_true h1, if_true] at hQ hin
  by_cases h7 : x.1.k = 7
  ·cases hb : x.2 with
   | true =>
    obtain ⟨y, ys, hys, _⟩ := hko h7 hb
    simp only [eq_true h7, hb, and_self, if_true] at hQ hin
    have hnl : nl2_u = false := by
     cases nl2_u with
     | false => rfl
     | true => have := hc_u rfl; rw [hys] at this; simp at this
    subst hnl
    have hz := hd_u rfl
    subst hz
    rw [hys] at he_u
    obtain ⟨w, ws, e, hw, hws⟩ := he_u.inv
    subst e
    obtain ⟨nl1_w, z1_w, nl2_w, z2_w, ds_w, hv_w, ha_w, hb_w, hc_w, hd_w, he_w⟩ := hw.shape
    have hw_w := hv_w
    subst hw_w
    have hin' : semisS n d [] (t1 :: l1) ≠ .out := fun e => hin (by simp [e])
    generalize hR : semisS n d [] (t1 :: l1) = R at hQ hin hin'
    simp [c106t, eq_true h1, eq_true h7]
    refine ATT.ords 60 (by simp <;> omega) fun o ho => ?_
    simp only [List.mem_cons, List.mem_nil_iff, or_false] at ho
    rcases ho with ho | ho <;> subst ho
    simp
    all_goals try simp
    ·refine ATT.loopG 60 c106l12.eq_1 (fun ((m, ms, dm, l) : Nat × List Nd × List D × List Tk) => m) (fun ((m, ms, dm, l) : Nat × List Nd × List D × List Tk) => semisS m d ms l = R ∧ NdRL ms dm ∧ WF l ∧ dm.length + l.length ≤ 5000 ∧ m ≤ n) (fun ((m, ms, dm, l) : Nat × List Nd × List D × List Tk) => [(0, .ptr 0 0), (2, .ptr 1 0), (6, .ptr 4 0)]) (fun ((m, ms, dm, l) : Nat × List Nd × List D × List Tk) => [PB l d, .cells [.d (.int .i64 0), .d (.str ⟨#[]⟩), .d (.int .i64 0), .d (.int .i64 0), .d (.sl true 0 []), .d (.sl true 0 [])] 25, .cells [.d (.int .i64 x.1.k), .d (.str x.1.t), .d (.int .i64 x.1.a), .d (.int .i64 x.1.n), .d (.sl nl1_u z1_u (x.1.names.map .str)), .d (.sl false 6 (.agg [.int .i64 y.k, .str y.t, .int .i64 y.a, .int .i64 y.n, .sl nl1_w z1_w (y.names.map .str), .sl nl2_w z2_w ds_w] :: ws))] 25, .cells [.d (.int .i64 9), .d (.str x.1.t), .d (.int .i64 x.1.a), .d (.int .i64 0), .d (.sl true 0 []), .d (.sl false 6 ws)] 25, .cells [.d (.int .i64 8), .d (.str ⟨#[]⟩), .d (.int .i64 x.1.a), .d (.int .i64 0), .d (.sl true 0 []), .vs 0 (dm.length + 2) 0 (dm.length + 2)] 25]) (fun ((m, ms, dm, l) : Nat × List Nd × List D × List Tk) => [some ⟨false, 6, 0, .d (.agg [.int .i64 y.k, .str y.t, .int .i64 y.a, .int .i64 y.n, .sl nl1_w z1_w (y.names.map .str), .sl nl2_w z2_w ds_w]) :: .d (.agg [.int .i64 9, .str x.1.t, .int .i64 x.1.a, .int .i64 0, .sl true 0 [], .sl false 6 ws]) :: dm.map .d, 25⟩]) ((n, [], [], t1 :: l1)) (by (try dsimp only); exact ⟨hR, by simp [NdRL], hwf, by simpa using hwf.2.2, Nat.le_refl _⟩) (by simp <;> omega) (by simp) (by simp) ?_
     intro ⟨m, ms, dm, l⟩ u w hI ih
     try simp only at hI ih
     obtain ⟨hRk, hds, hwf, hnum, hmn⟩ := hI
     obtain ⟨t2, l2, e⟩ := hwf.cons
     subst e
     cases m with
     | zero => exact absurd hRk.symm (by simpa [semisS] using hin')
     | succ m =>
      simp only [semisS, kd_cons, List.tail_cons] at hRk
      simp [c106t]
      refine ATT.callM Tryz.func106 60 [0] (f40_ok t2 l2 d) rfl (by simp) (by simp) (by simp) (by simp) (by simp) ?_
      simp
      by_cases h15 : t2.k = 15
      ·obtain ⟨t3, l3, e, hl3⟩ := hwf.two (by rw [h15]; decide)
       subst e
       have hT := f39_ok t2 (t3 :: l3) d
       rw [if_neg (by rw [h15]; decide)] at hT
       simp only [eq_true h15, if_true] at hRk
       simp only [List.length_cons] at hnum
       simp [c106t, eq_true h15, tkD, tokD]
       refine ATT.callM Tryz.func106 60 [0] (hT) rfl (by simp) (by simp) (by simp [tkD, tokD]) (by simp) (by simp) ?_
       simp [tkD, tokD]
       have hin2 : msgS m d (t3 :: l3) ≠ .out := fun e => hin' (by rw [← hRk, e]; rfl)
       refine ATT.callRP Tryz.func106 60 0 (ihM m (by omega) d _ hd hl3 hin2) hin2 (by simp) (by simp) rfl (by simp) (fun a w e h1 hh => hQ _ _ (by rw [← hRk, e]; exact ⟨rfl, by rw [hh]; simp⟩)) fun z l' v hz hφ => ?_
       rw [hz] at hRk
       simp only [Res.andThen] at hRk
       obtain ⟨nl1_v, z1_v, nl2_v, z2_v, ds_v, hv_v, ha_v, hb_v, hc_v, hd_v, he_v⟩ := hφ.shape
       have hw_v := hv_v
       subst hw_v
       have hsh := (pres m).msg hl3 hz
       have h2l := hsh.2
       simp only [List.length_cons] at h2l
       have hmul : (dm.length + 2 + 1) * 88 ≤ 140737488355328 := by omega
       simp [hmul]
       refine ih (m, ms ++ [z], dm ++ [_], l') (by first | ((try dsimp only); omega) | (simp [eq_true h15, tkD, tokD] <;> omega)) (by (try dsimp only); exact ⟨hRk, hds.append (.one hφ), hsh.1, by simp; omega, by omega⟩) _ _ _ (by simp <;> omega) (by simp <;> omega) (by simp <;> omega)
      ·simp only [eq_false h15, if_false] at hRk
       subst hRk
       simp [c106t, h15]
       refine ATT.finz hQ Tryz.func106 c106res (by first | exact .inl rfl | exact .inr ⟨_, rfl⟩) ?_
       simp
       all_goals (first | omega | exact ⟨_, rfl⟩ | skip)
       exact ⟨_, _, _, rfl, rfl, by rw [hys]; exact NdR.kids (NdRL.cons hw (NdRL.cons (NdR.kids hws) hds))⟩
    ·refine ATT.loopG 60 c106l12.eq_1 (fun ((m, ms, dm, l) : Nat × List Nd × List D × List Tk) => m) (fun ((m, ms, dm, l) : Nat × List Nd × List D × List Tk) => semisS m d ms l = R ∧ NdRL ms dm ∧ WF l ∧ dm.length + l.length ≤ 5000 ∧ m ≤ n) (fun ((m, ms, dm, l) : Nat × List Nd × List D × List Tk) => [(0, .ptr 0 0), (2, .ptr 1 0), (6, .ptr 4 0)]) (fun ((m, ms, dm, l) : Nat × List Nd × List D × List Tk) => [PB l d, .cells [.d (.int .i64 0), .d (.str ⟨#[]⟩), .d (.int .i64 0), .d (.int .i64 0), .d (.sl true 0 []), .d (.sl true 0 [])] 25, .cells [.d (.int .i64 x.1.k), .d (.str x.1.t), .d (.int .i64 x.1.a), .d (.int .i64 x.1.n), .d (.sl nl1_u z1_u (x.1.names.map .str)), .d (.sl false 6 (.agg [.int .i64 y.k, .str y.t, .int .i64 y.a, .int .i64 y.n, .sl nl1_w z1_w (y.names.map .str), .sl nl2_w z2_w ds_w] :: ws))] 25, .cells [.d (.int .i64 9), .d (.str x.1.t), .d (.int .i64 x.1.a), .d (.int .i64 0), .d (.sl true 0 []), .d (.sl false 6 ws)] 25, .cells [.d (.int .i64 8), .d (.str ⟨#[]⟩), .d (.int .i64 x.1.a), .d (.int .i64 0), .d (.sl true 0 []), .vs 0 (dm.length + 2) 0 (dm.length + 2)] 25]) (fun ((m, ms, dm, l) : Nat × List Nd × List D × List Tk) => [some ⟨false, 6, 0, .d (.agg [.int .i64 y.k, .str y.t, .int .i64 y.a, .int .i64 y.n, .sl nl1_w z1_w (y.names.map .str), .sl nl2_w z2_w ds_w]) :: .d (.agg [.int .i64 9, .str x.1.t, .int .i64 x.1.a, .int .i64 0, .sl true 0 [], .sl false 6 ws]) :: dm.map .d, 25⟩]) ((n, [], [], t1 :: l1)) (by (try dsimp only); exact ⟨hR, by simp [NdRL], hwf, by simpa using hwf.2.2, Nat.le_refl _⟩) (by simp <;> omega) (by simp) (by simp) ?_
     intro ⟨m, ms, dm, l⟩ u w hI ih
     try simp only at hI ih
     obtain ⟨hRk, hds, hwf, hnum, hmn⟩ := hI
     obtain ⟨t2, l2, e⟩ := hwf.cons
     subst e
     cases m with
     | zero => exact absurd hRk.symm (by simpa [semisS] using hin')
     | succ m =>
      simp only [semisS, kd_cons, List.tail_cons] at hRk
      simp [c106t]
      refine ATT.callM Tryz.func106 60 [0] (f40_ok t2 l2 d) rfl (by simp) (by simp) (by simp) (by simp) (by simp) ?_
      simp
      by_cases h15 : t2.k = 15
      ·obtain ⟨t3, l3, e, hl3⟩ := hwf.two (by rw [h15]; decide)
       subst e
       have hT := f39_ok t2 (t3 :: l3) d
       rw [if_neg (by rw [h15]; decide)] at hT
       simp only [eq_true h15, if_true] at hRk
       simp only [List.length_cons] at hnum
       simp [c106t, eq_true h15, tkD, tokD]
       refine ATT.callM Tryz.func106 60 [0] (hT) rfl (by simp) (by simp) (by simp [tkD, tokD]) (by simp) (by simp) ?_
       simp [tkD, tokD]
       have hin2 : msgS m d (t3 :: l3) ≠ .out := fun e => hin' (by rw [← hRk, e]; rfl)
       refine ATT.callRP Tryz.func106 60 0 (ihM m (by omega) d _ hd hl3 hin2) hin2 (by simp) (by simp) rfl (by simp) (fun a w e h1 hh => hQ _ _ (by rw [← hRk, e]; exact ⟨rfl, by rw [hh]; simp⟩)) fun z l' v hz hφ => ?_
       rw [hz] at hRk
       simp only [Res.andThen] at hRk
       obtain ⟨nl1_v, z1_v, nl2_v, z2_v, ds_v, hv_v, ha_v, hb_v, hc_v, hd_v, he_v⟩ := hφ.shape
       have hw_v := hv_v
       subst hw_v
       have hsh := (pres m).msg hl3 hz
       have h2l := hsh.2
       simp only [List.length_cons] at h2l
       have hmul : (dm.length + 2 + 1) * 88 ≤ 140737488355328 := by omega
       simp [hmul]
       refine ih (m, ms ++ [z], dm ++ [_], l') (by first | ((try dsimp only); omega) | (simp [eq_true h15, tkD, tokD] <;> omega)) (by (try dsimp only); exact ⟨hRk, hds.append (.one hφ), hsh.1, by simp; omega, by omega⟩) _ _ _ (by simp <;> omega) (by simp <;> omega) (by simp <;> omega)
      ·simp only [eq_false h15, if_false] at hRk
       subst hRk
       simp [c106t, h15]
       refine ATT.finz hQ Tryz.func106 c106res (by first | exact .inl rfl | exact .inr ⟨_, rfl⟩) ?_
       simp
       all_goals (first | omega | exact ⟨_, rfl⟩ | skip)
       exact ⟨_, _, _, rfl, rfl, by rw [hys]; exact NdR.kids (NdRL.cons hw (NdRL.cons (NdR.kids hws) hds))⟩
   | false =>
    simp only [eq_true h7, hb] at hQ hin
    simp [c106t, eq_true h1, eq_true h7]
    refine ATT.callA Tryz.func106 60 [0] [] 0 0 (f47_ok t1 l1 d 20) (by simp) (by simp) (by simp) (by simp) (by simp) fun out hC hE => ?_
    obtain ⟨e1, e2⟩ := hE
    subst e1
    exact ⟨by simpa using e2, hQ _ _ ⟨by simp [stopV, eSyn], by simp⟩⟩
  ·simp only [eq_false h7, false_and, if_false] at hQ hin
   simp [c106t, eq_true h1, h7]
   refine ATT.callA Tryz.func106 60 [0] [] 0 0 (f47_ok t1 l1 d 20) (by simp) (by simp) (by simp) (by simp) (by simp) fun out hC hE => ?_
   obtain ⟨e1, e2⟩ := hE
   subst e1
   exact ⟨by simpa using e2, hQ _ _ ⟨by simp [stopV, eSyn], by simp⟩⟩
 ·simp only [eq_false h1, if_false] at hQ hin
  simp [c106t, h1]
  refine ATT.fin' hQ Tryz.func106 c106res ?_
  exact ⟨by simp, _, _, _, rfl, rfl, hu⟩
end Go.SL
namespace Go.SL
open Go.Proofs
set_option maxRecDepth 10000
theorem f159_ok (n : Nat) (ihE : ∀ m, m ≤ n → ElemC m) (d : Nat) (l : List Tk) (hd : d ≤ 40) (hl : WF l) (hin : elemsS n d [] l ≠ .out) (a0 a1 a2 a3 a4 : D) :
  AF Tryz.prog 159 [.ptr 1 0, .ptr 2 0] ⟨[PB l d, PP, .cells [.d a0, .d a1, .d a2, .d a3, .d a4, .d (.sl true 0 [])] 25], []⟩ fun o h =>
   (∃ l' nd' b c, o = .ret (.d (.tup [])) ∧ h = ⟨PB l' d :: PP :: .cells (nd'.map .d) 25 :: b, c⟩ ∧ ∃ xs r nl z ds, elemsS n d [] l = .ok xs r ∧ l' = r.tail ∧ nd' = [a0, a1, a2, a3, a4, .sl nl z ds] ∧ NdRL xs ds ∧ (nl = true → xs = []) ∧ (nl = false → z = 6)) ∨ (∃ a w, o = .pan (stopV a w) ∧ 3 ≤ h.bx.length ∧ elemsS n d [] l = .no a w) := by
 refine AF.start' 60 Tryz.func159 rfl rfl c159call c159ok fun Q hQ => ?_
 simp [c159c]
 refine ATT.nilB 2 5 6 25 rfl rfl (by decide) (by simp) ?_
 simp
 have hlen := hl.2.2
 generalize hR : elemsS n d [] l = R at hQ hin
 refine ATT.loopG 60 c159l5.eq_1 (fun ((m, acc, ds, l) : Nat × List Nd × List D × List Tk) => m) (fun ((m, acc, ds, l) : Nat × List Nd × List D × List Tk) => elemsS m d acc l = R ∧ NdRL acc ds ∧ WF l ∧ ds.length + l.length ≤ 5000 ∧ m ≤ n) (fun ((m, acc, ds, l) : Nat × List Nd × List D × List Tk) => [(0, .ptr 1 0), (1, .ptr 2 0)]) (fun ((m, acc, ds, l) : Nat × List Nd × List D × List Tk) => [PB l d, PP, .cells [.d a0, .d a1, .d a2, .d a3, .d a4, .vs 0 ds.length 0 ds.length] 25]) (fun ((m, acc, ds, l) : Nat × List Nd × List D × List Tk) => [NV 25 ds]) ((n, [], [], l)) (by (try dsimp only); exact ⟨hR, by simp [NdRL], hl, by simpa using hlen, Nat.le_refl _⟩) (by simp <;> omega) (by simp) (by simp) ?_
 intro ⟨m, acc, ds, l⟩ u w hI ih
 try simp only at hI ih
 obtain ⟨hRk, hds, hwf, hnum, hmn⟩ := hI
 obtain ⟨t1, l1, e⟩ := hwf.cons
 subst e
 cases m with
 | zero => exact absurd hRk.symm (by simpa [elemsS] using hin)
 | succ m =>
  simp only [elemsS, kd_cons] at hRk
  simp [c159t]
  refine ATT.callM Tryz.func159 60 [0] (f40_ok t1 l1 d) rfl (by simp) (by simp) (by simp) (by simp) (by simp) ?_
  simp
  by_cases h9 : t1.k = 9
  ·simp only [eq_true h9, if_true] at hRk
   subst hRk
   have hT := f39_ok t1 l1 d
   rw [if_neg (by rw [h9]; decide)] at hT
   simp [c159t, eq_true h9, tkD, tokD]
   refine ATT.callM Tryz.func159 60 [0] (hT) rfl (by simp) (by simp) (by simp [tkD, tokD]) (by simp) (by simp) ?_
   simp [tkD, tokD]
   cases ds with
   | nil =>
    have : acc = [] := by cases acc <;> simp [NdRL] at hds ⊢
    subst this
    refine ATT.fz0 ?_
    simp
    refine ATT.fin0' hQ Tryz.func159 c159res ?_
    exact ⟨by simp, .inl ⟨l1, [a0, a1, a2, a3, a4, .sl true 6 []], _, _, rfl, rfl, [], _, _, _, _, rfl, rfl, rfl, by simp [NdRL], fun _ => rfl, fun _ => rfl⟩⟩
   | cons d0 ds =>
    refine ATT.fz0 ?_
    simp
    refine ATT.fin0' hQ Tryz.func159 c159res ?_
    exact ⟨by simp, .inl ⟨l1, [a0, a1, a2, a3, a4, .sl false 6 (d0 :: ds)], _, _, rfl, rfl, acc, _, _, _, _, rfl, rfl, rfl, hds, by simp, fun _ => rfl⟩⟩
  ·simp only [eq_false h9, if_false] at hRk
   have hin2 : elemS m d (t1 :: l1) ≠ .out := fun e => hin (by rw [← hRk, e]; rfl)
   simp [h9]
   refine ATT.ords 60 (by simp <;> omega) fun o ho => ?_
   simp only [List.mem_cons, List.mem_nil_iff, or_false] at ho
   rcases ho with ho | ho | ho | ho <;> subst ho
   all_goals try simp
   ·refine ATT.callRP Tryz.func159 60 0 (ihE m (by omega) d _ hd hwf hin2) hin2 (by simp) (by simp) rfl (by simp) (fun a w e h1 hh => hQ _ _ (by rw [← hRk, e]; exact .inr ⟨_, _, rfl, by rw [hh]; simp, rfl⟩)) fun z l' v hz hφ => ?_
    rw [hz] at hRk
    simp only [Res.andThen] at hRk
    obtain ⟨nl1_v, z1_v, nl2_v, z2_v, ds_v, hv_v, ha_v, hb_v, hc_v, hd_v, he_v⟩ := hφ.shape
    have hw_v := hv_v
    subst hw_v
    have hsh := (pres m).elem hwf hz
    have h2l := hsh.2
    simp only [List.length_cons] at h2l hnum
    have hmul : (ds.length + 1) * 88 ≤ 140737488355328 := by omega
    simp [hmul]
    refine ih (m, acc ++ [z], ds ++ [_], l') (by first | ((try dsimp only); omega) | (simp [inR] <;> omega)) (by (try dsimp only); exact ⟨hRk, hds.append (.one hφ), hsh.1, by simp; omega, by omega⟩) _ _ _ (by simp [inR] <;> omega) (by simp <;> omega) (by simp <;> omega)
   ·refine ATT.callRP Tryz.func159 60 0 (ihE m (by omega) d _ hd hwf hin2) hin2 (by simp) (by simp) rfl (by simp) (fun a w e h1 hh => hQ _ _ (by rw [← hRk, e]; exact .inr ⟨_, _, rfl, by rw [hh]; simp, rfl⟩)) fun z l' v hz hφ => ?_
    rw [hz] at hRk
    simp only [Res.andThen] at hRk
    obtain ⟨nl1_v, z1_v, nl2_v, z2_v, ds_v, hv_v, ha_v, hb_v, hc_v, hd_v, he_v⟩ := hφ.shape
    have hw_v := hv_v
    subst hw_v
    have hsh := (pres m).elem hwf hz
    have h2l := hsh.2
    simp only [List.length_cons] at h2l hnum
    have hmul : (ds.length + 1) * 88 ≤ 140737488355328 := by omega
    simp [hmul]
    refine ih (m, acc ++ [z], ds ++ [_], l') (by first | ((try dsimp only); omega) | (simp [inR] <;> omega)) (by (try dsimp only); exact ⟨hRk, hds.append (.one hφ), hsh.1, by simp; omega, by omega⟩) _ _ _ (by simp [inR] <;> omega) (by simp <;> omega) (by simp <;> omega)
   ·refine ATT.callRP Tryz.func159 60 0 (ihE m (by omega) d _ hd hwf hin2) hin2 (by simp) (by simp) rfl (by simp) (fun a w e h1 hh => hQ _ _ (by rw [← hRk, e]; exact .inr ⟨_, _, rfl, by rw [hh]; simp, rfl⟩)) fun z l' v hz hφ => ?_
    rw [hz] at hRk
    simp only [Res.andThen] at hRk
    obtain ⟨nl1_v, z1_v, nl2_v, z2_v, ds_v, hv_v, ha_v, hb_v, hc_v, hd_v, he_v⟩ := hφ.shape
    have hw_v := hv_v
    subst hw_v
    have hsh := (pres m).elem hwf hz
    have h2l := hsh.2
    simp only [List.length_cons] at h2l hnum
    have hmul : (ds.length + 1) * 88 ≤ 140737488355328 := by omega
    simp [hmul]
    refine ih (m, acc ++ [z], ds ++ [_], l') (by first | ((try dsimp only); omega) | (simp [inR] <;> omega)) (by (try dsimp only); exact ⟨hRk, hds.append (.one hφ), hsh.1, by simp; omega, by omega⟩) _ _ _ (by simp [inR] <;> omega) (by simp <;> omega) (by simp <;> omega)
   ·refine ATT.callRP Tryz.func159 60 0 (ihE m (by omega) d _ hd hwf hin2) hin2 (by simp) (by simp) rfl (by simp) (fun a w e h1 hh => hQ _ _ (by rw [← hRk, e]; exact .inr ⟨_, _, rfl, by rw [hh]; simp, rfl⟩)) fun z l' v hz hφ => ?_
    rw [hz] at hRk
    simp only [Res.andThen] at hRk
    obtain ⟨nl1_v, z1_v, nl2_v, z2_v, ds_v, hv_v, ha_v, hb_v, hc_v, hd_v, he_v⟩ := hφ.shape
    have hw_v := hv_v
    subst hw_v
    have hsh := (pres m).elem hwf hz
    have h2l := hsh.2
    simp only [List.length_cons] at h2l hnum
    have hmul : (ds.length + 1) * 88 ≤ 140737488355328 := by omega
    simp [hmul]
    refine ih (m, acc ++ [z], ds ++ [_], l') (by first | ((try dsimp only); omega) | (simp [inR] <;> omega)) (by (try dsimp only); exact ⟨hRk, hds.append (.one hφ), hsh.1, by simp; omega, by omega⟩) _ _ _ (by simp [inR] <;> omega) (by simp <;> omega) (by simp <;> omega)
end Go.SL
namespace Go.SL
open Go.Proofs
set_option maxRecDepth 10000
theorem f155_ok (n : Nat) (ihE : ∀ m, m ≤ n → ElemC m) : ListC (n + 1) := by
 intro d l hd hl hkl hin
 obtain ⟨t, r, e⟩ := hl.cons
 subst e
 simp only [listS, pl_cons, List.tail_cons] at hin ⊢
 have hk0 : t.k ≠ 0 := by
  intro h0
  simp only [kd_cons, h0] at hkl
  exact absurd hkl (by decide)
 obtain ⟨t2, l2, e, hl2⟩ := hl.two hk0
 subst e
 refine AF.start' 60 Tryz.func155 rfl rfl c155call c155ok fun Q hQ => ?_
 simp [c155c, c155t, tkD, tokD]
 by_cases h40 : d = 40
 ·subst h40
  simp only [if_true] at hQ
  refine ATT.callA Tryz.func155 60 [0, 1, 3] [] 0 0 (f104_no t (t2 :: l2) [.int .i64 4, .str ⟨#[]⟩, .int .i64 t.a, .int .i64 0, .sl true 0 [], .sl true 0 []] 25 159 [.ptr 1 0, .ptr 2 0]) (by simp) (by simp) (by simp [tkD, tokD]) (by simp) (by simp) fun out hC hE => ?_
  obtain ⟨e1, e2⟩ := hE
  subst e1
  exact ⟨by simpa using e2, hQ _ _ ⟨by simp [stopV, eSize], by simp⟩⟩
 ·rw [if_neg h40] at hQ hin
  have hin' : elemsS n (d + 1) [] (t2 :: l2) ≠ .out := fun e => hin (by simp [e, Res.andThen])
  have hcl := f159_ok n ihE (d + 1) (t2 :: l2) (by omega) hl2 hin' (.int .i64 4) (.str ⟨#[]⟩) (.int .i64 t.a) (.int .i64 0) (.sl true 0 [])
  have hW := f104_ok t hk0 (t2 :: l2) [.int .i64 4, .str ⟨#[]⟩, .int .i64 t.a, .int .i64 0, .sl true 0 [], .sl true 0 []] 25 d (by omega) 159 [.ptr 1 0, .ptr 2 0] rfl rfl _ _ hcl
  refine ATT.callA Tryz.func155 60 [0, 1, 3] [] 0 0 (hW) (by simp) (by simp) (by simp [tkD, tokD]) (by simp) (by simp) fun out hC hE => ?_
  rcases hE with ⟨l', nd', b, c, e1, e2, xs, r, nl, z, ds, hx, hl', hnd, hxs, h1, h2⟩ | ⟨a, w, e1, e2, hx⟩
  ·subst e1 e2 hnd
   refine ⟨by simp, ?_⟩
   simp [c155t]
   simp only [hx, Res.andThen] at hQ
   subst hl'
   refine ATT.fin' hQ Tryz.func155 c155res ?_
   exact ⟨by simp, _, _, _, rfl, rfl, NdR.mk (fun _ => rfl) (by simp) h1 h2 hxs⟩
  ·subst e1
   simp only [hx, Res.andThen] at hQ
   exact ⟨by simpa using e2, hQ _ _ ⟨by simp [stopV], by simp⟩⟩
theorem f157_ok {n : Nat} (ih : ExprC n) (d : Nat) (l : List Tk) (hd : d ≤ 40) (hl : WF l) (hin : exprS n d l ≠ .out) (a0 a1 a2 a3 a4 a5 : D) :
  AF Tryz.prog 157 [.ptr 1 0, .ptr 2 0] ⟨[PB l d, PP, .cells [.d a0, .d a1, .d a2, .d a3, .d a4, .d a5] 25], []⟩ fun o h =>
   (∃ l' nd' b c, o = .ret (.d (.tup [])) ∧ h = ⟨PB l' d :: PP :: .cells (nd'.map .d) 25 :: b, c⟩ ∧ ∃ x, ((exprS n d l).andThen fun x r => if kd r = 9 then Res.ok (x, false) r.tail else .no (pl r) eSyn) = .ok (x, false) l' ∧ NdR x (.agg nd')) ∨
   (∃ a w, o = .pan (stopV a w) ∧ 3 ≤ h.bx.length ∧ ((exprS n d l).andThen fun x r => if kd r = 9 then Res.ok (x, false) r.tail else .no (pl r) eSyn) = .no a w) := by
 refine AF.start' 60 Tryz.func157 rfl rfl c157call c157ok fun Q hQ => ?_
 simp [c157c, c157t]
 refine ATT.callP Tryz.func157 60 0 (ih d l hd hl hin) hin (by simp) (by simp) rfl rfl (fun a w e h' hh => hQ _ _ (.inr ⟨a, w, rfl, by simp at hh; omega, by rw [e]; rfl⟩)) fun x l' v e hφ => ?_
 have hwf := ((pres n).expr hl e).1
 simp only [e, Res.andThen] at hQ
 obtain ⟨t1, l1, e⟩ := hwf.cons
 subst e
 obtain ⟨nl1_v, z1_v, nl2_v, z2_v, ds_v, hv_v, ha_v, hb_v, hc_v, hd_v, he_v⟩ := hφ.shape
 have hw_v := hv_v
 subst hw_v
 by_cases h9 : t1.k = 9
 ·simp only [kd_cons, eq_true h9, if_true] at hQ
  simp [c157t]
  refine ATT.callM Tryz.func157 60 [0] (f38_ok t1 l1 d 9 h9 (by decide)) rfl (by simp) (by simp) (by simp) (by simp) (by simp) ?_
  simp
  refine ATT.fz0 ?_
  simp
  refine ATT.fin0' hQ Tryz.func157 c157res ?_
  exact ⟨by simp, .inl ⟨l1, [.int .i64 x.k, .str x.t, .int .i64 x.a, .int .i64 x.n, .sl nl1_v z1_v (x.names.map .str), .sl nl2_v z2_v ds_v], _, _, rfl, rfl, x, rfl, hφ⟩⟩
 ·simp only [kd_cons, eq_false h9, if_false] at hQ
  simp [c157t]
  refine ATT.callA Tryz.func157 60 [0] [] 0 0 (f38_no t1 l1 d 9 h9) (by simp) (by simp) (by simp) (by simp) (by simp) fun out hC hE => ?_
  obtain ⟨e1, e2⟩ := hE
  subst e1
  exact ⟨by simpa using e2, hQ _ _ (.inr ⟨_, _, rfl, by simp, by simp [eSyn, pl]⟩)⟩
theorem f148_ok (n : Nat) (ihE : ExprC n) (ihL : ListC n) (ihB : BlockC n) : PrimC (n + 1) := by
 intro d l hd hl hin
 obtain ⟨t, r, e⟩ := hl.cons
 subst e
 simp only [primS, kd_cons, pl_cons, tx_cons, List.tail_cons] at hin ⊢
 by_cases h1 : t.k = 1
 ·have hT := f39_ok t r d
  rw [if_neg (by rw [h1]; decide)] at hT
  simp only [eq_true h1, if_true] at hin ⊢
  refine AF.start' 60 Tryz.func148 rfl rfl c148call c148ok fun Q hQ => ?_
  simp [c148c, c148t, eq_true h1, tkD, tokD]
  refine ATT.callM Tryz.func148 60 [0] (hT) rfl (by simp) (by simp) (by simp [tkD, tokD]) (by simp) (by simp) ?_
  simp [c148t, tkD, tokD]
  refine ATT.fin' hQ Tryz.func148 c148res ?_
  exact ⟨by simp, _, _, _, rfl, rfl, _, rfl, NdR.leaf _ _ _ 0⟩
 by_cases h4 : t.k = 4
 ·have hT := f39_ok t r d
  rw [if_neg (by rw [h4]; decide)] at hT
  simp only [eq_false h1, eq_true h4, if_true, if_false] at hin ⊢
  refine AF.start' 60 Tryz.func148 rfl rfl c148call c148ok fun Q hQ => ?_
  simp [c148c, c148t, h1, eq_true h4, tkD, tokD]
  refine ATT.callM Tryz.func148 60 [0] (hT) rfl (by simp) (by simp) (by simp [tkD, tokD]) (by simp) (by simp) ?_
  simp [c148t, tkD, tokD]
  refine ATT.fin' hQ Tryz.func148 c148res ?_
  exact ⟨by simp, _, _, _, rfl, rfl, _, rfl, NdR.leaf _ _ _ 0⟩
 by_cases h5 : t.k = 5
 ·have hT := f39_ok t r d
  rw [if_neg (by rw [h5]; decide)] at hT
  simp only [eq_false h1, eq_false h4, eq_true h5, if_true, if_false] at hin ⊢
  refine AF.start' 60 Tryz.func148 rfl rfl c148call c148ok fun Q hQ => ?_
  simp [c148c, c148t, h1, h4, eq_true h5, tkD, tokD]
  refine ATT.callM Tryz.func148 60 [0] (hT) rfl (by simp) (by simp) (by simp [tkD, tokD]) (by simp) (by simp) ?_
  simp [c148t, tkD, tokD]
  refine ATT.fin' hQ Tryz.func148 c148res ?_
  exact ⟨by simp, _, _, _, rfl, rfl, _, rfl, NdR.leaf _ _ _ 0⟩
 by_cases h6 : t.k = 6
 ·have hT := f39_ok t r d
  rw [if_neg (by rw [h6]; decide)] at hT
  simp only [eq_false h1, eq_false h4, eq_false h5, eq_true h6, if_true, if_false] at hin ⊢
  refine AF.start' 60 Tryz.func148 rfl rfl c148call c148ok fun Q hQ => ?_
  simp [c148c, c148t, h1, h4, h5, eq_true h6, tkD, tokD]
  refine ATT.callM Tryz.func148 60 [0] (hT) rfl (by simp) (by simp) (by simp [tkD, tokD]) (by simp) (by simp) ?_
  simp [c148t, tkD, tokD]
  refine ATT.fin' hQ Tryz.func148 c148res ?_
  exact ⟨by simp, _, _, _, rfl, rfl, _, rfl, NdR.leaf _ _ _ 0⟩
 by_cases h17 : t.k = 17
 ·simp only [eq_false h1, eq_false h4, eq_false h5, eq_false h6, eq_true h17, if_true, if_false] at hin ⊢
  have hin' : listS n d (t :: r) ≠ .out := fun e => hin (by simp [e, Res.andThen])
  refine AF.start' 60 Tryz.func148 rfl rfl c148call c148ok fun Q hQ => ?_
  simp [c148c, c148t, h1, h4, h5, h6, eq_true h17, tkD, tokD]
  refine ATT.callP Tryz.func148 60 0 (ihL d _ hd hl (.inl h17) hin') (hin') (by simp) (by simp) rfl (by simp) (fun a w e h1 hh => hQ _ _ (by rw [e]; exact ⟨rfl, by rw [hh]; simp⟩)) fun x l' v hx hφ => ?_
  rw [hx] at hQ hin
  try simp only [Res.andThen] at hQ hin
  obtain ⟨nl1_v, z1_v, nl2_v, z2_v, ds_v, hv_v, ha_v, hb_v, hc_v, hd_v, he_v⟩ := hφ.shape
  have hw_v := hv_v
  subst hw_v
  simp
  refine ATT.fin' hQ Tryz.func148 c148res ?_
  exact ⟨by simp, _, _, _, rfl, rfl, _, rfl, hφ⟩
 by_cases h10 : t.k = 10
 ·simp only [eq_false h1, eq_false h4, eq_false h5, eq_false h6, eq_false h17, eq_true h10, if_true, if_false] at hin ⊢
  have hin' : blockS n d (t :: r) ≠ .out := fun e => hin (by simp [e, Res.andThen])
  refine AF.start' 60 Tryz.func148 rfl rfl c148call c148ok fun Q hQ => ?_
  simp [c148c, c148t, h1, h4, h5, h6, h17, eq_true h10, tkD, tokD]
  refine ATT.callP Tryz.func148 60 0 (ihB d _ hd hl h10 hin') (hin') (by simp) (by simp) rfl (by simp) (fun a w e h1 hh => hQ _ _ (by rw [e]; exact ⟨rfl, by rw [hh]; simp⟩)) fun x l' v hx hφ => ?_
  rw [hx] at hQ hin
  try simp only [Res.andThen] at hQ hin
  obtain ⟨nl1_v, z1_v, nl2_v, z2_v, ds_v, hv_v, ha_v, hb_v, hc_v, hd_v, he_v⟩ := hφ.shape
  have hw_v := hv_v
  subst hw_v
  simp
  refine ATT.fin' hQ Tryz.func148 c148res ?_
  exact ⟨by simp, _, _, _, rfl, rfl, _, rfl, hφ⟩
 by_cases h8 : t.k = 8
 ·simp only [eq_false h1, eq_false h4, eq_false h5, eq_false h6, eq_false h17, eq_false h10, eq_true h8, if_true, if_false] at hin ⊢
  obtain ⟨t2, l2, e, hl2⟩ := hl.two (by rw [h8]; decide)
  subst e
  refine AF.start' 60 Tryz.func148 rfl rfl c148call c148ok fun Q hQ => ?_
  simp [c148c, c148t, h1, h4, h5, h6, h17, h10, eq_true h8, tkD, tokD]
  by_cases h40 : d = 40
  ·subst h40
   simp only [if_true] at hQ
   refine ATT.callA Tryz.func148 60 [0, 1, 4] [] 0 0 (f104_no t (t2 :: l2) [.int .i64 0, .str t.t, .int .i64 t.a, .int .i64 0, .sl true 0 [], .sl true 0 []] 25 157 [.ptr 1 0, .ptr 2 0]) (by simp) (by simp) (by simp [tkD, tokD]) (by simp) (by simp) fun out hC hE => ?_
   obtain ⟨e1, e2⟩ := hE
   subst e1
   exact ⟨by simpa using e2, hQ _ _ ⟨by simp [stopV, eSize], by simp⟩⟩
  ·rw [if_neg h40] at hQ hin
   have hin' : exprS n (d + 1) (t2 :: l2) ≠ .out := fun e => hin (by simp [e, Res.andThen])
   have hcl := f157_ok ihE (d + 1) (t2 :: l2) (by omega) hl2 hin' (.int .i64 0) (.str t.t) (.int .i64 t.a) (.int .i64 0) (.sl true 0 []) (.sl true 0 [])
   have hW := f104_ok t (by rw [h8]; decide) (t2 :: l2) [.int .i64 0, .str t.t, .int .i64 t.a, .int .i64 0, .sl true 0 [], .sl true 0 []] 25 d (by omega) 157 [.ptr 1 0, .ptr 2 0] rfl rfl _ _ hcl
   refine ATT.callA Tryz.func148 60 [0, 1, 4] [] 0 0 (hW) (by simp) (by simp) (by simp [tkD, tokD]) (by simp) (by simp) fun out hC hE => ?_
   rcases hE with ⟨l', nd', b, c, e1, e2, x, hx, hxv⟩ | ⟨a, w, e1, e2, hx⟩
   ·subst e1 e2
    obtain ⟨nl1, z1, nl2, z2, ds, hv, _⟩ := hxv.shape
    simp only [D.agg.injEq] at hv
    subst hv
    refine ⟨by simp, ?_⟩
    simp [c148t]
    simp only [hx] at hQ
    refine ATT.fin' hQ Tryz.func148 c148res ?_
    exact ⟨by simp, _, _, _, rfl, rfl, _, rfl, hxv⟩
   ·subst e1
    simp only [hx] at hQ
    exact ⟨by simpa using e2, hQ _ _ ⟨by simp [stopV], by simp⟩⟩
 ·simp only [eq_false h1, eq_false h4, eq_false h5, eq_false h6, eq_false h17, eq_false h10, eq_false h8, if_false] at hin ⊢
  refine AF.start' 60 Tryz.func148 rfl rfl c148call c148ok fun Q hQ => ?_
  simp [c148c, c148t, h1, h4, h5, h6, h17, h10, h8, tkD, tokD]
  refine ATT.callA Tryz.func148 60 [0] [] 0 0 (f47_ok t r d 20) (by simp) (by simp) (by simp [tkD, tokD]) (by simp) (by simp) fun out hC hE => ?_
  obtain ⟨e1, e2⟩ := hE
  subst e1
  exact ⟨by simpa using e2, hQ _ _ ⟨by simp [stopV, eSyn], by simp⟩⟩
end Go.SL
namespace Go.SL
open Go.Proofs
set_option maxRecDepth 10000
theorem upH_out {h hC : H} {rb rv : List Nat} {kb kv i : Nat} (hi : i ∉ rb) (hl : i < h.bx.length) : (upH h hC rb rv kb kv).bx[i]? = h.bx[i]? := by
 simp only [upH]
 rw [List.getElem?_append_left (by rw [setAll_length]; exact hl)]
 exact setAll_out _ _ _ _ hi
section
variable {N : Nat} {f : FD} {Q : Out → H → Prop}
theorem ATT.callPv {α : Type} {Φ : α → D → Prop} {fn : Func} (hf : Tryz.prog.funcs[f.fn]? = some fn) {ix : Nat} {dst : Option Nat} {g : Opd} {args : List Opd} {kill : List Nat} {r : List AI} {k : List AItem} {env : Env} {h : H} {ob : Bool} {fid : FuncId} {l : List Tk} {d : Nat} {res : Res α} {argsC : List V}
  (n j : Nat) (hAF : AF Tryz.prog fid argsC ⟨[PB l d], []⟩ (PR Φ d res)) (hr : res ≠ .out) (hc : calls (ev env g) (args.map (ev env)) = some (fid, rns [j] [] argsC)) (hsc : insc 1 0 argsC = true) (hj : h.bx[j]? = some (PB l d)) (ho : ob = true)
  (hno : ∀ a w, res = .no a w → ∀ h' : H, (∀ i, i ≠ j → h'.bx[i]? = h.bx[i]?) → h'.bx.length = h.bx.length → h.vc.length ≤ h'.vc.length → Q (.pan (stopV a w)) h')
  (hk : ∀ x l' v, res = .ok x l' → Φ x v → ATT Tryz.prog N f Q (goes n (.reg r :: k) (put (dels env kill) dst (.d v)) ⟨h.bx.set j (PB l' d), h.vc⟩ true)) (hkp : subE env f.keep := by exact True.intro) : ATT Tryz.prog N f Q (.reg (⟨ix, dst, .call g args, none, kill⟩ :: r) :: k, env, h, ob) := by
 refine ATT.callA hf n [j] [] 0 0 hAF trivial hc (by simp [hj]) hsc ho (fun out hC hE => ?_) hkp
 cases hres : res with
 | ok x l' =>
  rw [hres] at hE
  obtain ⟨v, b, c, e1, e2, hφ⟩ := hE
  subst e1 e2
  refine ⟨by simp, ?_⟩
  have := hk x l' v hres hφ
  simpa using this
 | no a w =>
  rw [hres] at hE
  obtain ⟨e1, e2⟩ := hE
  subst e1
  exact ⟨by simpa using e2, by simpa [stopV] using hno a w hres _ (fun i hi => by simp; exact setAll_out _ _ _ _ (by simpa using hi)) (by simp) (by simp)⟩
 | out => exact absurd hres hr
end
abbrev NS (l : List ByteArray) : Option Vec := some ⟨l.isEmpty, 1, 0, l.map fun s => .d (.str s), 9⟩
theorem strs_ds (l : List ByteArray) : (l.map fun s => V.d (.str s)) = (l.map D.str).map .d := by simp
@[simp] theorem rns_strs (rb rv : List Nat) (l : List ByteArray) : rns rb rv (l.map fun s => V.d (.str s)) = l.map fun s => V.d (.str s) := by rw [strs_ds]; exact rns_data rb rv _
@[simp] theorem insc_strs (n m : Nat) (l : List ByteArray) : insc n m (l.map fun s => V.d (.str s)) = true := by rw [strs_ds]; exact insc_data n m _
@[simp] theorem mapD_strs (h : H) (n : Nat) (l : List ByteArray) : mapD (toDv h n) (l.map fun s => V.d (.str s)) = some (l.map .str) := by rw [strs_ds]; exact mapD_d h n _
@[simp] theorem rns_app (rb rv : List Nat) : ∀ a b : List V, rns rb rv (a ++ b) = rns rb rv a ++ rns rb rv b
 | [], b => rfl
 | x :: a, b => by simp only [List.cons_append, rns]; rw [rns_app rb rv a b]
@[simp] theorem insc_app (n m : Nat) : ∀ a b : List V, insc n m (a ++ b) = (insc n m a && insc n m b)
 | [], b => rfl
 | x :: a, b => by simp only [List.cons_append, insc]; rw [insc_app n m a b, Bool.and_assoc]
@[simp] theorem mapD_strs2 (h : H) (n : Nat) (a b : List ByteArray) : mapD (toDv h n) ((a.map fun s => V.d (.str s)) ++ b.map fun s => V.d (.str s)) = some (a.map .str ++ b.map .str) := by
 rw [← List.map_append, mapD_strs, List.map_append]
@[simp] theorem take_two {α β γ : Type} (f : α → γ) (g : β → γ) (a : List α) (b : List β) : List.take (a.length + b.length) (a.map f ++ b.map g) = a.map f ++ b.map g := List.take_of_length_le (by simp)
def BR (names : List ByteArray) (a0 a1 a2 a3 : D) (d : Nat) (r : Res (List ByteArray × List Nd)) (o : Out) (h : H) : Prop := match r with
 | .ok x l => ∃ b c ds, o = .ret (.d (.tup [])) ∧ h = ⟨PB l d :: .cells [.d a0, .d a1, .d a2, .d a3, .vs 0 (names ++ x.1).length 0 (names ++ x.1).length, .vs 1 ds.length 0 ds.length] 25 :: b, NS (names ++ x.1) :: NV 25 ds :: c⟩ ∧ NdRL x.2 ds
 | .no a w => o = .pan (stopV a w) ∧ (∃ cs, h.bx[1]? = some (.cells cs 25) ∧ cs.length = 6) ∧ 2 ≤ h.bx.length ∧ 2 ≤ h.vc.length
 | .out => True
theorem BR.mk {names ts : List ByteArray} {a0 a1 a2 a3 : D} {d : Nat} {l : List Tk} {ks : List Nd} {ds : List D} {x4 x5 : V} {b : List Bx} {v0 v1 : Option Vec} {c : List (Option Vec)} (hds : NdRL ks ds)
  (h4 : x4 = .vs 0 (names ++ ts).length 0 (names ++ ts).length) (h5 : x5 = .vs 1 ds.length 0 ds.length) (h0 : v0 = NS (names ++ ts)) (h1 : v1 = NV 25 ds) :
  BR names a0 a1 a2 a3 d (.ok (ts, ks) l) (.ret (.d (.tup []))) ⟨PB l d :: .cells [.d a0, .d a1, .d a2, .d a3, x4, x5] 25 :: b, v0 :: v1 :: c⟩ := by
 subst h4 h5 h0 h1
 exact ⟨_, _, _, rfl, rfl, hds⟩
def BodyC (n : Nat) : Prop := ∀ d l e names a0 a1 a2 a3, d ≤ 40 → WF l → names.length ≤ 5000 → bodyS n d e l ≠ .out →
 AF Tryz.prog 28 [.ptr 0 0, .ptr 1 0, .d (.int .i64 e)] ⟨[PB l d, .cells [.d a0, .d a1, .d a2, .d a3, .vs 0 names.length 0 names.length, .d (.sl true 0 [])] 25], [NS names]⟩ (BR names a0 a1 a2 a3 d (bodyS n d e l))
def tempsE (P : List ByteArray × List Tk) : Res (List ByteArray) := if kd P.2 = 12 then .ok P.1 P.2.tail else .no (pl P.2) eSyn
theorem tempsS_12 {t : Tk} {l : List Tk} (h : t.k = 12) : tempsS (t :: l) = tempsE (namesS l) := by unfold tempsS tempsE; rw [if_pos (show kd (t :: l) = 12 from h)]; rfl
theorem tempsS_no {t : Tk} {l : List Tk} (h : ¬ t.k = 12) : tempsS (t :: l) = .ok [] (t :: l) := by unfold tempsS; rw [if_neg (show ¬ kd (t :: l) = 12 from h)]
set_option maxHeartbeats 2000000 in
theorem f28_ok (n : Nat) (ihS : ∀ m, m ≤ n → StmtC m) : BodyC (n + 1) := by
 intro d l e names a0 a1 a2 a3 hd hl hnl hin
 obtain ⟨t, r, he⟩ := hl.cons
 subst he
 simp only [bodyS] at hin ⊢
 refine AF.start' 60 Tryz.func28 rfl rfl c28call c28ok fun Q hQ => ?_
 simp [c28c, c28t]
 refine ATT.callM Tryz.func28 60 [0] (f40_ok t r d) rfl (by simp) (by simp) (by simp) (by simp) (by simp) ?_
 simp
 by_cases h12 : t.k = 12
 ·obtain ⟨t2, l2, he, hl2⟩ := hl.two (by rw [h12]; decide)
  subst he
  have hT := f39_ok t (t2 :: l2) d
  rw [if_neg (by rw [h12]; decide)] at hT
  rw [tempsS_12 h12] at hin hQ
  simp [c28t, eq_true h12]
  refine ATT.callM Tryz.func28 60 [0] (hT) rfl (by simp) (by simp) (by simp) (by simp) (by simp) ?_
  simp
  refine ATT.nilB 1 5 6 25 rfl rfl (by decide) (by simp) ?_
  simp
  generalize hP : namesS (t2 :: l2) = P at hin hQ
  refine ATT.loopG 60 c28l4.eq_1 (fun ((dn, l) : List ByteArray × List Tk) => l.length) (fun ((dn, l) : List ByteArray × List Tk) => (dn ++ (namesS l).1, (namesS l).2) = P ∧ WF l ∧ dn.length + l.length ≤ 5000) (fun ((dn, l) : List ByteArray × List Tk) => [(0, .ptr 0 0), (1, .ptr 1 0), (2, .d (.int .i64 e))]) (fun ((dn, l) : List ByteArray × List Tk) => [PB l d, .cells [.d a0, .d a1, .d a2, .d a3, .vs 0 (names ++ dn).length 0 (names ++ dn).length, .vs 1 0 0 0] 25]) (fun ((dn, l) : List ByteArray × List Tk) => [NS (names ++ dn), NV 25 []]) (([], t2 :: l2)) (by (try dsimp only); exact ⟨by simpa using hP, hl2, by simpa using hl2.2.2⟩) (by simp <;> omega) (by simp) (by simp) ?_
  intro ⟨dn, l⟩ u w hI ih
  try simp only at hI ih
  obtain ⟨hRk, hwf, hnum⟩ := hI
  obtain ⟨t1, l1, he⟩ := hwf.cons
  subst he
  simp [c28t]
  refine ATT.callM Tryz.func28 60 [0] (f40_ok t1 l1 d) rfl (by simp) (by simp) (by simp) (by simp) (by simp) ?_
  simp
  by_cases h1 : t1.k = 1
  ·obtain ⟨t3, l3, he, hl3⟩ := hwf.two (by rw [h1]; decide)
   subst he
   have hT := f39_ok t1 (t3 :: l3) d
   rw [if_neg (by rw [h1]; decide)] at hT
   rw [namesS, if_pos h1] at hRk
   simp only [List.length_cons] at hnum
   have hmul : (names.length + dn.length + 1) * 16 ≤ 140737488355328 := by omega
   simp [eq_true h1]
   refine ATT.callRM Tryz.func28 60 [0] (hT) rfl (by simp) (by simp) (by simp [tkD, tokD]) (by simp) (by simp) ?_
   simp [tkD, tokD, hmul]
   refine ih (dn ++ [t1.t], t3 :: l3) (by first | ((try dsimp only); omega) | (simp <;> omega)) (by (try dsimp only); exact ⟨by simpa using hRk, hl3, by simp; omega⟩) _ _ _ (by simp <;> omega) (by simp <;> omega) (by simp [tkD, tokD] <;> omega)
  ·rw [namesS, if_neg h1] at hRk
   simp only [List.append_nil] at hRk
   subst hRk
   simp [c28t, h1]
   by_cases h2 : t1.k = 12
   ·simp only [tempsE, kd_cons, eq_true h2, if_true, Res.andThen, List.tail_cons] at hin hQ
    refine ATT.callM Tryz.func28 60 [0] (f38_ok t1 l1 d 12 h2 (by decide)) rfl (by simp) (by simp) (by simp) (by simp) (by simp) ?_
    simp
    have hwf0 := (hwf.tail (by simp only [kd_cons, h2]; decide)).1
    simp only [List.tail_cons] at hwf0
    have hin' : stmtsS n d e [] l1 ≠ .out := fun e => hin (by simp [e])
    generalize hR : stmtsS n d e [] l1 = R at hin hQ hin'
    refine ATT.labelG 60 rfl rfl (fun ((m, acc, ds, l) : Nat × List Nd × List D × List Tk) => m) (fun ((m, acc, ds, l) : Nat × List Nd × List D × List Tk) => stmtsS m d e acc l = R ∧ NdRL acc ds ∧ WF l ∧ ds.length + l.length ≤ 5000 ∧ m ≤ n) (fun ((m, acc, ds, l) : Nat × List Nd × List D × List Tk) => [(0, .ptr 0 0), (1, .ptr 1 0), (2, .d (.int .i64 e))]) (fun ((m, acc, ds, l) : Nat × List Nd × List D × List Tk) => [PB l d, .cells [.d a0, .d a1, .d a2, .d a3, .vs 0 (names ++ dn).length 0 (names ++ dn).length, .vs 1 ds.length 0 ds.length] 25]) (fun ((m, acc, ds, l) : Nat × List Nd × List D × List Tk) => [NS (names ++ dn), NV 25 ds]) ((n, [], [], l1)) (by (try dsimp only); exact ⟨hR, by simp [NdRL], hwf0, by simpa using hwf0.2.2, Nat.le_refl _⟩) (by simp <;> omega) (by simp) (by simp) ?_
    intro ⟨m, acc, ds, l⟩ u w hI ih
    try simp only at hI ih
    obtain ⟨hRk, hds, hwf, hnum, hmn⟩ := hI
    obtain ⟨t3, l3, he⟩ := hwf.cons
    subst he
    cases m with
    | zero => exact absurd hRk.symm (by simpa [stmtsS] using hin')
    | succ m =>
     simp only [stmtsS, kd_cons] at hRk
     simp
     refine ATT.callM Tryz.func28 60 [0] (f40_ok t3 l3 d) rfl (by simp) (by simp) (by simp) (by simp) (by simp) ?_
     simp
     by_cases hend : t3.k = e
     ·simp only [eq_true hend, if_true] at hRk
      subst hRk
      simp [eq_true hend]
      refine ATT.fin' hQ Tryz.func28 c28res ?_
      exact ⟨by simp, BR.mk hds (by simp) (by simp) (by simp) (by simp)⟩
     ·simp only [eq_false hend, if_false] at hRk
      have hin2 : stmtS m d (t3 :: l3) ≠ .out := fun e => hin' (by rw [← hRk, e]; rfl)
      simp [c28t, hend]
      refine ATT.callPv Tryz.func28 60 0 (ihS m (by omega) d _ hd hwf hin2) hin2 (by simp) (by simp) rfl (by simp) (fun a w e h1 hi hh hv => hQ _ _ (by rw [← hRk, e]; exact ⟨rfl, ⟨_, by rw [hi 1 (by decide)]; rfl, rfl⟩, by rw [hh]; simp, by simp at hv ⊢; omega⟩)) fun x l' v hx hφ => ?_
      rw [hx] at hRk
      simp only [Res.andThen] at hRk
      obtain ⟨u0, he, hφ⟩ := hφ
      subst he
      obtain ⟨nl1_u0, z1_u0, nl2_u0, z2_u0, ds_u0, hv_u0, ha_u0, hb_u0, hc_u0, hd_u0, he_u0⟩ := hφ.shape
      have hw_u0 := hv_u0
      subst hw_u0
      have hsh := (pres m).stmt hwf hx
      have h2l := hsh.2
      simp only [List.length_cons] at h2l hnum
      have hmul : (ds.length + 1) * 88 ≤ 140737488355328 := by omega
      obtain ⟨t4, l4, he⟩ := hsh.1.cons
      subst he
      simp
      simp only [kd_cons, pl_cons, List.tail_cons] at hRk
      have hir : inR (ds.length : Int) (ds.length + 1) = true := by simp [inR]; omega
      refine ATT.ords 60 (by simp <;> omega) fun o ho => ?_
      simp only [List.mem_cons, List.mem_nil_iff, or_false] at ho
      rcases ho with ho | ho <;> subst ho
      simp [c28t, hir]
      ·simp [hmul]
       refine ATT.callM Tryz.func28 60 [0] (f40_ok t4 l4 d) rfl (by simp) (by simp) (by simp) (by simp) (by simp) ?_
       simp
       by_cases h14 : t4.k = 14
       ·obtain ⟨t5, l5, he, hl5⟩ := hsh.1.two (by rw [h14]; decide)
        subst he
        have hT := f39_ok t4 (t5 :: l5) d
        rw [if_neg (by rw [h14]; decide)] at hT
        simp only [eq_true h14, true_and, if_true, kd_cons, pl_cons] at hRk
        simp [c28t, eq_true h14]
        refine ATT.callM Tryz.func28 60 [0] (hT) rfl (by simp) (by simp) (by simp) (by simp) (by simp) ?_
        simp [c28t]
        cases hlast : x.2 with
        | false =>
         simp only [hlast, if_true] at hRk
         simp
         refine ih (m, acc ++ [x.1], ds ++ [_], t5 :: l5) (by first | ((try dsimp only); omega) | (simp [hir] <;> omega)) (by (try dsimp only); exact ⟨hRk, hds.append (.one hφ), hl5, by simp at h2l ⊢; omega, by omega⟩) _ _ _ _ rfl (by simp <;> omega) (by simp <;> omega) (by simp <;> omega)
        | true =>
         simp only [hlast, Bool.true_eq_false, if_false] at hRk
         simp [c28t]
         refine ATT.callM Tryz.func28 60 [0] (f40_ok t5 l5 d) rfl (by simp) (by simp) (by simp) (by simp) (by simp) ?_
         simp
         by_cases hE : t5.k = e
         ·simp only [eq_true hE, if_true] at hRk
          subst hRk
          simp [eq_true hE]
          refine ATT.fin0' hQ Tryz.func28 c28res ?_
          exact ⟨by simp, BR.mk (hds.append (.one hφ)) (by simp) (by simp) (by simp) (by simp)⟩
         ·simp only [eq_false hE, if_false] at hRk
          subst hRk
          simp [c28t, hE]
          refine ATT.callA Tryz.func28 60 [0] [] 0 0 (f47_ok t5 l5 d 20) (by simp) (by simp) (by simp) (by simp) (by simp) fun out hC hE => ?_
          obtain ⟨e1, e2⟩ := hE
          subst e1
          exact ⟨by simpa using e2, hQ _ _ ⟨by simp [stopV, eSyn], by exact ⟨[_, _, _, _, _, _], by rw [upH_out (by decide) (by simp)]; rfl, rfl⟩, by simp, by simp⟩⟩
       ·simp only [eq_false h14, false_and, if_false] at hRk
        simp [c28t, h14]
        refine ATT.callM Tryz.func28 60 [0] (f40_ok t4 l4 d) rfl (by simp) (by simp) (by simp) (by simp) (by simp) ?_
        simp
        by_cases hE : t4.k = e
        ·simp only [eq_true hE, if_true] at hRk
         subst hRk
         simp [eq_true hE]
         refine ATT.fin0' hQ Tryz.func28 c28res ?_
         exact ⟨by simp, BR.mk (hds.append (.one hφ)) (by simp) (by simp) (by simp) (by simp)⟩
        ·simp only [eq_false hE, if_false] at hRk
         subst hRk
         simp [c28t, hE]
         refine ATT.callA Tryz.func28 60 [0] [] 0 0 (f47_ok t4 l4 d 20) (by simp) (by simp) (by simp) (by simp) (by simp) fun out hC hE => ?_
         obtain ⟨e1, e2⟩ := hE
         subst e1
         exact ⟨by simpa using e2, hQ _ _ ⟨by simp [stopV, eSyn], by exact ⟨[_, _, _, _, _, _], by rw [upH_out (by decide) (by simp)]; rfl, rfl⟩, by simp, by simp⟩⟩
      ·simp [c28t, hmul]
       refine ATT.callM Tryz.func28 60 [0] (f40_ok t4 l4 d) rfl (by simp) (by simp) (by simp) (by simp) (by simp [hir]) ?_
       simp
       by_cases h14 : t4.k = 14
       ·obtain ⟨t5, l5, he, hl5⟩ := hsh.1.two (by rw [h14]; decide)
        subst he
        have hT := f39_ok t4 (t5 :: l5) d
        rw [if_neg (by rw [h14]; decide)] at hT
        simp only [eq_true h14, true_and, if_true, kd_cons, pl_cons] at hRk
        simp [c28t, eq_true h14]
        refine ATT.callM Tryz.func28 60 [0] (hT) rfl (by simp) (by simp) (by simp) (by simp) (by simp) ?_
        simp [c28t]
        cases hlast : x.2 with
        | false =>
         simp only [hlast, if_true] at hRk
         simp
         refine ih (m, acc ++ [x.1], ds ++ [_], t5 :: l5) (by first | ((try dsimp only); omega) | (simp [hir] <;> omega)) (by (try dsimp only); exact ⟨hRk, hds.append (.one hφ), hl5, by simp at h2l ⊢; omega, by omega⟩) _ _ _ _ rfl (by simp <;> omega) (by simp <;> omega) (by simp <;> omega)
        | true =>
         simp only [hlast, Bool.true_eq_false, if_false] at hRk
         simp [c28t]
         refine ATT.callM Tryz.func28 60 [0] (f40_ok t5 l5 d) rfl (by simp) (by simp) (by simp) (by simp) (by simp) ?_
         simp
         by_cases hE : t5.k = e
         ·simp only [eq_true hE, if_true] at hRk
          subst hRk
          simp [eq_true hE]
          refine ATT.fin0' hQ Tryz.func28 c28res ?_
          exact ⟨by simp, BR.mk (hds.append (.one hφ)) (by simp) (by simp) (by simp) (by simp)⟩
         ·simp only [eq_false hE, if_false] at hRk
          subst hRk
          simp [c28t, hE]
          refine ATT.callA Tryz.func28 60 [0] [] 0 0 (f47_ok t5 l5 d 20) (by simp) (by simp) (by simp) (by simp) (by simp) fun out hC hE => ?_
          obtain ⟨e1, e2⟩ := hE
          subst e1
          exact ⟨by simpa using e2, hQ _ _ ⟨by simp [stopV, eSyn], by exact ⟨[_, _, _, _, _, _], by rw [upH_out (by decide) (by simp)]; rfl, rfl⟩, by simp, by simp⟩⟩
       ·simp only [eq_false h14, false_and, if_false] at hRk
        simp [c28t, h14]
        refine ATT.callM Tryz.func28 60 [0] (f40_ok t4 l4 d) rfl (by simp) (by simp) (by simp) (by simp) (by simp) ?_
        simp
        by_cases hE : t4.k = e
        ·simp only [eq_true hE, if_true] at hRk
         subst hRk
         simp [eq_true hE]
         refine ATT.fin0' hQ Tryz.func28 c28res ?_
         exact ⟨by simp, BR.mk (hds.append (.one hφ)) (by simp) (by simp) (by simp) (by simp)⟩
        ·simp only [eq_false hE, if_false] at hRk
         subst hRk
         simp [c28t, hE]
         refine ATT.callA Tryz.func28 60 [0] [] 0 0 (f47_ok t4 l4 d 20) (by simp) (by simp) (by simp) (by simp) (by simp) fun out hC hE => ?_
         obtain ⟨e1, e2⟩ := hE
         subst e1
         exact ⟨by simpa using e2, hQ _ _ ⟨by simp [stopV, eSyn], by exact ⟨[_, _, _, _, _, _], by rw [upH_out (by decide) (by simp)]; rfl, rfl⟩, by simp, by simp⟩⟩
   ·simp only [tempsE, kd_cons, pl_cons, eq_false h2, if_false, Res.andThen] at hQ
    refine ATT.callA Tryz.func28 60 [0] [] 0 0 (f38_no t1 l1 d 12 h2) (by simp) (by simp) (by simp) (by simp) (by simp) fun out hC hE => ?_
    obtain ⟨e1, e2⟩ := hE
    subst e1
    exact ⟨by simpa using e2, hQ _ _ ⟨by simp [stopV, eSyn], by exact ⟨[_, _, _, _, _, _], by rw [upH_out (by decide) (by simp)]; rfl, rfl⟩, by simp, by simp⟩⟩
 ·simp only [tempsS_no h12, Res.andThen] at hin hQ
  simp [h12]
  refine ATT.nilB 1 5 6 25 rfl rfl (by decide) (by simp) ?_
  simp
  have hwf0 := hl
  have hin' : stmtsS n d e [] (t :: r) ≠ .out := fun e => hin (by simp [e])
  generalize hR : stmtsS n d e [] (t :: r) = R at hin hQ hin'
  refine ATT.labelG 60 rfl rfl (fun ((m, acc, ds, l) : Nat × List Nd × List D × List Tk) => m) (fun ((m, acc, ds, l) : Nat × List Nd × List D × List Tk) => stmtsS m d e acc l = R ∧ NdRL acc ds ∧ WF l ∧ ds.length + l.length ≤ 5000 ∧ m ≤ n) (fun ((m, acc, ds, l) : Nat × List Nd × List D × List Tk) => [(0, .ptr 0 0), (1, .ptr 1 0), (2, .d (.int .i64 e))]) (fun ((m, acc, ds, l) : Nat × List Nd × List D × List Tk) => [PB l d, .cells [.d a0, .d a1, .d a2, .d a3, .vs 0 (names).length 0 (names).length, .vs 1 ds.length 0 ds.length] 25]) (fun ((m, acc, ds, l) : Nat × List Nd × List D × List Tk) => [NS (names), NV 25 ds]) ((n, [], [], t :: r)) (by (try dsimp only); exact ⟨hR, by simp [NdRL], hwf0, by simpa using hwf0.2.2, Nat.le_refl _⟩) (by simp <;> omega) (by simp) (by simp) ?_
  intro ⟨m, acc, ds, l⟩ u w hI ih
  try simp only at hI ih
  obtain ⟨hRk, hds, hwf, hnum, hmn⟩ := hI
  obtain ⟨t3, l3, he⟩ := hwf.cons
  subst he
  cases m with
  | zero => exact absurd hRk.symm (by simpa [stmtsS] using hin')
  | succ m =>
   simp only [stmtsS, kd_cons] at hRk
   simp
   refine ATT.callM Tryz.func28 60 [0] (f40_ok t3 l3 d) rfl (by simp) (by simp) (by simp) (by simp) (by simp) ?_
   simp
   by_cases hend : t3.k = e
   ·simp only [eq_true hend, if_true] at hRk
    subst hRk
    simp [eq_true hend]
    refine ATT.fin' hQ Tryz.func28 c28res ?_
    exact ⟨by simp, BR.mk hds (by simp) (by simp) (by simp) (by simp)⟩
   ·simp only [eq_false hend, if_false] at hRk
    have hin2 : stmtS m d (t3 :: l3) ≠ .out := fun e => hin' (by rw [← hRk, e]; rfl)
    simp [c28t, hend]
    refine ATT.callPv Tryz.func28 60 0 (ihS m (by omega) d _ hd hwf hin2) hin2 (by simp) (by simp) rfl (by simp) (fun a w e h1 hi hh hv => hQ _ _ (by rw [← hRk, e]; exact ⟨rfl, ⟨_, by rw [hi 1 (by decide)]; rfl, rfl⟩, by rw [hh]; simp, by simp at hv ⊢; omega⟩)) fun x l' v hx hφ => ?_
    rw [hx] at hRk
    simp only [Res.andThen] at hRk
    obtain ⟨u0, he, hφ⟩ := hφ
    subst he
    obtain ⟨nl1_u0, z1_u0, nl2_u0, z2_u0, ds_u0, hv_u0, ha_u0, hb_u0, hc_u0, hd_u0, he_u0⟩ := hφ.shape
    have hw_u0 := hv_u0
    subst hw_u0
    have hsh := (pres m).stmt hwf hx
    have h2l := hsh.2
    simp only [List.length_cons] at h2l hnum
    have hmul : (ds.length + 1) * 88 ≤ 140737488355328 := by omega
    obtain ⟨t4, l4, he⟩ := hsh.1.cons
    subst he
    simp
    simp only [kd_cons, pl_cons, List.tail_cons] at hRk
    have hir : inR (ds.length : Int) (ds.length + 1) = true := by simp [inR]; omega
    refine ATT.ords 60 (by simp <;> omega) fun o ho => ?_
    simp only [List.mem_cons, List.mem_nil_iff, or_false] at ho
    rcases ho with ho | ho <;> subst ho
    simp [c28t, hir]
    ·simp [hmul]
     refine ATT.callM Tryz.func28 60 [0] (f40_ok t4 l4 d) rfl (by simp) (by simp) (by simp) (by simp) (by simp) ?_
     simp
     by_cases h14 : t4.k = 14
     ·obtain ⟨t5, l5, he, hl5⟩ := hsh.1.two (by rw [h14]; decide)
      subst he
      have hT := f39_ok t4 (t5 :: l5) d
      rw [if_neg (by rw [h14]; decide)] at hT
      simp only [eq_true h14, true_and, if_true, kd_cons, pl_cons] at hRk
      simp [c28t, eq_true h14]
      refine ATT.callM Tryz.func28 60 [0] (hT) rfl (by simp) (by simp) (by simp) (by simp) (by simp) ?_
      simp [c28t]
      cases hlast : x.2 with
      | false =>
       simp only [hlast, if_true] at hRk
       simp
       refine ih (m, acc ++ [x.1], ds ++ [_], t5 :: l5) (by first | ((try dsimp only); omega) | (simp [hir] <;> omega)) (by (try dsimp only); exact ⟨hRk, hds.append (.one hφ), hl5, by simp at h2l ⊢; omega, by omega⟩) _ _ _ _ rfl (by simp <;> omega) (by simp <;> omega) (by simp <;> omega)
      | true =>
       simp only [hlast, Bool.true_eq_false, if_false] at hRk
       simp [c28t]
       refine ATT.callM Tryz.func28 60 [0] (f40_ok t5 l5 d) rfl (by simp) (by simp) (by simp) (by simp) (by simp) ?_
       simp
       by_cases hE : t5.k = e
       ·simp only [eq_true hE, if_true] at hRk
        subst hRk
        simp [eq_true hE]
        refine ATT.fin0' hQ Tryz.func28 c28res ?_
        exact ⟨by simp, BR.mk (hds.append (.one hφ)) (by simp) (by simp) (by simp) (by simp)⟩
       ·simp only [eq_false hE, if_false] at hRk
        subst hRk
        simp [c28t, hE]
        refine ATT.callA Tryz.func28 60 [0] [] 0 0 (f47_ok t5 l5 d 20) (by simp) (by simp) (by simp) (by simp) (by simp) fun out hC hE => ?_
        obtain ⟨e1, e2⟩ := hE
        subst e1
        exact ⟨by simpa using e2, hQ _ _ ⟨by simp [stopV, eSyn], by exact ⟨[_, _, _, _, _, _], by rw [upH_out (by decide) (by simp)]; rfl, rfl⟩, by simp, by simp⟩⟩
     ·simp only [eq_false h14, false_and, if_false] at hRk
      simp [c28t, h14]
      refine ATT.callM Tryz.func28 60 [0] (f40_ok t4 l4 d) rfl (by simp) (by simp) (by simp) (by simp) (by simp) ?_
      simp
      by_cases hE : t4.k = e
      ·simp only [eq_true hE, if_true] at hRk
       subst hRk
       simp [eq_true hE]
       refine ATT.fin0' hQ Tryz.func28 c28res ?_
       exact ⟨by simp, BR.mk (hds.append (.one hφ)) (by simp) (by simp) (by simp) (by simp)⟩
      ·simp only [eq_false hE, if_false] at hRk
       subst hRk
       simp [c28t, hE]
       refine ATT.callA Tryz.func28 60 [0] [] 0 0 (f47_ok t4 l4 d 20) (by simp) (by simp) (by simp) (by simp) (by simp) fun out hC hE => ?_
       obtain ⟨e1, e2⟩ := hE
       subst e1
       exact ⟨by simpa using e2, hQ _ _ ⟨by simp [stopV, eSyn], by exact ⟨[_, _, _, _, _, _], by rw [upH_out (by decide) (by simp)]; rfl, rfl⟩, by simp, by simp⟩⟩
    ·simp [c28t, hmul]
     refine ATT.callM Tryz.func28 60 [0] (f40_ok t4 l4 d) rfl (by simp) (by simp) (by simp) (by simp) (by simp [hir]) ?_
     simp
     by_cases h14 : t4.k = 14
     ·obtain ⟨t5, l5, he, hl5⟩ := hsh.1.two (by rw [h14]; decide)
      subst he
      have hT := f39_ok t4 (t5 :: l5) d
      rw [if_neg (by rw [h14]; decide)] at hT
      simp only [eq_true h14, true_and, if_true, kd_cons, pl_cons] at hRk
      simp [c28t, eq_true h14]
      refine ATT.callM Tryz.func28 60 [0] (hT) rfl (by simp) (by simp) (by simp) (by simp) (by simp) ?_
      simp [c28t]
      cases hlast : x.2 with
      | false =>
       simp only [hlast, if_true] at hRk
       simp
       refine ih (m, acc ++ [x.1], ds ++ [_], t5 :: l5) (by first | ((try dsimp only); omega) | (simp [hir] <;> omega)) (by (try dsimp only); exact ⟨hRk, hds.append (.one hφ), hl5, by simp at h2l ⊢; omega, by omega⟩) _ _ _ _ rfl (by simp <;> omega) (by simp <;> omega) (by simp <;> omega)
      | true =>
       simp only [hlast, Bool.true_eq_false, if_false] at hRk
       simp [c28t]
       refine ATT.callM Tryz.func28 60 [0] (f40_ok t5 l5 d) rfl (by simp) (by simp) (by simp) (by simp) (by simp) ?_
       simp
       by_cases hE : t5.k = e
       ·simp only [eq_true hE, if_true] at hRk
        subst hRk
        simp [eq_true hE]
        refine ATT.fin0' hQ Tryz.func28 c28res ?_
        exact ⟨by simp, BR.mk (hds.append (.one hφ)) (by simp) (by simp) (by simp) (by simp)⟩
       ·simp only [eq_false hE, if_false] at hRk
        subst hRk
        simp [c28t, hE]
        refine ATT.callA Tryz.func28 60 [0] [] 0 0 (f47_ok t5 l5 d 20) (by simp) (by simp) (by simp) (by simp) (by simp) fun out hC hE => ?_
        obtain ⟨e1, e2⟩ := hE
        subst e1
        exact ⟨by simpa using e2, hQ _ _ ⟨by simp [stopV, eSyn], by exact ⟨[_, _, _, _, _, _], by rw [upH_out (by decide) (by simp)]; rfl, rfl⟩, by simp, by simp⟩⟩
     ·simp only [eq_false h14, false_and, if_false] at hRk
      simp [c28t, h14]
      refine ATT.callM Tryz.func28 60 [0] (f40_ok t4 l4 d) rfl (by simp) (by simp) (by simp) (by simp) (by simp) ?_
      simp
      by_cases hE : t4.k = e
      ·simp only [eq_true hE, if_true] at hRk
       subst hRk
       simp [eq_true hE]
       refine ATT.fin0' hQ Tryz.func28 c28res ?_
       exact ⟨by simp, BR.mk (hds.append (.one hφ)) (by simp) (by simp) (by simp) (by simp)⟩
      ·simp only [eq_false hE, if_false] at hRk
       subst hRk
       simp [c28t, hE]
       refine ATT.callA Tryz.func28 60 [0] [] 0 0 (f47_ok t4 l4 d 20) (by simp) (by simp) (by simp) (by simp) (by simp) fun out hC hE => ?_
       obtain ⟨e1, e2⟩ := hE
       subst e1
       exact ⟨by simpa using e2, hQ _ _ ⟨by simp [stopV, eSyn], by exact ⟨[_, _, _, _, _, _], by rw [upH_out (by decide) (by simp)]; rfl, rfl⟩, by simp, by simp⟩⟩
end Go.SL
namespace Go.SL
open Go.Proofs
set_option maxRecDepth 10000
theorem stmtsS_end : ∀ (n d : Nat) (e : Int) (acc : List Nd) (l : List Tk) (xs : List Nd) (r : List Tk), stmtsS n d e acc l = .ok xs r → kd r = e
 | 0, _, _, _, _, _, _, h => by simp [stmtsS] at h
 | n + 1, d, e, acc, l, xs, r, h => by
  simp only [stmtsS] at h
  split at h
  ·rename_i h9
   simp only [Res.ok.injEq] at h; rw [← h.2]; exact h9
  ·obtain ⟨m, r', _, e2⟩ := andThen_ok h
   split at e2
   ·exact stmtsS_end n d _ _ _ _ _ e2
   split at e2
   ·split at e2
    ·rename_i h9
     simp only [Res.ok.injEq] at e2; rw [← e2.2]; exact h9
    ·simp at e2
   split at e2
   ·rename_i h9
    simp only [Res.ok.injEq] at e2; rw [← e2.2]; exact h9
   ·simp at e2
theorem bodyS_end {n d : Nat} {e : Int} {l r : List Tk} {x : List ByteArray × List Nd} (h : bodyS n d e l = .ok x r) : kd r = e := by
 cases n with
 | zero => simp [bodyS] at h
 | succ n =>
  simp only [bodyS] at h
  obtain ⟨m, r', _, e2⟩ := andThen_ok h
  obtain ⟨m, r', e3, e4⟩ := andThen_ok e2
  simp only [Res.ok.injEq] at e4
  rw [← e4.2]; exact stmtsS_end _ _ _ _ _ _ _ e3
theorem andThen_okE {α β : Type} (x : α) (r : List Tk) (f : α → List Tk → Res β) : (Res.ok x r).andThen f = f x r := rfl
theorem andThen_noE {α β : Type} (a : Nat) (w : Int) (f : α → List Tk → Res β) : (Res.no a w).andThen f = .no a w := rfl
def blkS (n d : Nat) (l : List Tk) : Res (Nat × List ByteArray × List Nd) :=
 (argsS n l).andThen fun ns r =>
  if ns.length ≠ 0 ∧ kd r ≠ 11 then
   (if kd r = 12 then (bodyS n d 11 r.tail).andThen fun x r' => .ok (ns.length, ns ++ x.1, x.2) r'.tail else .no (pl r) eSyn)
  else (bodyS n d 11 r).andThen fun x r' => .ok (ns.length, ns ++ x.1, x.2) r'.tail
theorem blockS_eq (n d : Nat) (l : List Tk) : blockS (n + 1) d l = if d = 40 then .no (pl l) eSize else (blkS n (d + 1) l.tail).andThen fun x r => .ok (.mk 10 ⟨#[]⟩ (pl l) x.1 x.2.1 x.2.2) r := by
 simp only [blockS, blkS]
 split
 ·rfl
 ·cases argsS n l.tail with
  | ok ns r =>
   simp only [Res.andThen]
   split
   ·split
    ·cases bodyS n (d + 1) 11 r.tail <;> rfl
    ·rfl
   ·cases bodyS n (d + 1) 11 r <;> rfl
  | no a w => rfl
  | out => rfl
theorem blkS_args {n d : Nat} {l : List Tk} (h : blkS n d l ≠ .out) : argsS n l ≠ .out := fun e => h (by simp [blkS, e, Res.andThen])
theorem BKR.mk {S : Res (Nat × List ByteArray × List Nd)} {a0 a1 a2 : D} {d k : Nat} {nm : List ByteArray} {xk : List Nd} {lo : List Tk} {ds : List D} {x3 x4 x5 : V} {b : List Bx} {c : List (Option Vec)} (hS : S = .ok (k, nm, xk) lo) (hds : NdRL xk ds)
  (h3 : x3 = .d (.int .i64 k)) (h4 : x4 = .d (.sl nm.isEmpty 1 (nm.map .str))) (h5 : x5 = .d (.sl ds.isEmpty 6 ds)) :
  ∃ l' nd' b' c', Out.ret (.d (.tup [])) = .ret (.d (.tup [])) ∧ (⟨.cells [.d (.sl false 3 (lo.map tkD)), .d (.int .i64 d)] 55 :: PP :: .cells [.d a0, .d a1, .d a2, x3, x4, x5] 25 :: b, c⟩ : H) = ⟨PB l' d :: PP :: .cells (nd'.map .d) 25 :: b', c'⟩ ∧
   ∃ x n1 z1 n2 z2 ds, S = .ok x l' ∧ nd' = [a0, a1, a2, .int .i64 x.1, .sl n1 z1 (x.2.1.map .str), .sl n2 z2 ds] ∧
    (n1 = true → x.2.1 = []) ∧ (n1 = false → z1 = 1) ∧ (n2 = true → x.2.2 = []) ∧ (n2 = false → z2 = 6) ∧ NdRL x.2.2 ds := by
 subst h3 h4 h5
 refine ⟨lo, [a0, a1, a2, .int .i64 k, .sl nm.isEmpty 1 (nm.map .str), .sl ds.isEmpty 6 ds], b, c, rfl, rfl, (k, nm, xk), _, _, _, _, ds, hS, rfl, ?_, fun _ => rfl, ?_, fun _ => rfl, hds⟩
 ·intro h; simpa using h
 ·intro h
  have : ds = [] := by simpa using h
  have h2 := hds.length
  rw [this] at h2
  exact List.length_eq_zero_iff.mp h2.symm
set_option maxHeartbeats 2000000 in
theorem f161_ok (n : Nat) (ihB : BodyC n) (d : Nat) (l : List Tk) (hd : d ≤ 40) (hl : WF l) (hin : blkS n d l ≠ .out) (a0 a1 a2 : D) :
  AF Tryz.prog 161 [.ptr 1 0, .ptr 2 0] ⟨[PB l d, PP, .cells [.d a0, .d a1, .d a2, .d (.int .i64 0), .d (.sl true 0 []), .d (.sl true 0 [])] 25], []⟩ fun o h =>
   (∃ l' nd' b c, o = .ret (.d (.tup [])) ∧ h = ⟨PB l' d :: PP :: .cells (nd'.map .d) 25 :: b, c⟩ ∧ ∃ x n1 z1 n2 z2 ds, blkS n d l = .ok x l' ∧ nd' = [a0, a1, a2, .int .i64 x.1, .sl n1 z1 (x.2.1.map .str), .sl n2 z2 ds] ∧
    (n1 = true → x.2.1 = []) ∧ (n1 = false → z1 = 1) ∧ (n2 = true → x.2.2 = []) ∧ (n2 = false → z2 = 6) ∧ NdRL x.2.2 ds) ∨ (∃ a w, o = .pan (stopV a w) ∧ 3 ≤ h.bx.length ∧ blkS n d l = .no a w) := by
 refine AF.start' 60 Tryz.func161 rfl rfl c161call c161ok fun Q hQ => ?_
 simp [c161c]
 refine ATT.nilB 2 4 1 9 rfl rfl (by decide) (by simp) ?_
 simp
 have hin0 := blkS_args hin
 simp only [blkS] at hin hQ
 generalize hR : argsS n l = R at hQ hin hin0
 refine ATT.loopG 60 c161l3.eq_1 (fun ((m, dn, l) : Nat × List ByteArray × List Tk) => m) (fun ((m, dn, l) : Nat × List ByteArray × List Tk) => ((argsS m l).andThen fun x r => Res.ok (dn ++ x) r) = R ∧ WF l ∧ dn.length + l.length ≤ 5000) (fun ((m, dn, l) : Nat × List ByteArray × List Tk) => [(0, .ptr 1 0), (1, .ptr 2 0)]) (fun ((m, dn, l) : Nat × List ByteArray × List Tk) => [PB l d, PP, .cells [.d a0, .d a1, .d a2, .d (.int .i64 0), .vs 0 dn.length 0 dn.length, .d (.sl true 0 [])] 25]) (fun ((m, dn, l) : Nat × List ByteArray × List Tk) => [NS dn]) ((n, [], l)) (by (try dsimp only); exact ⟨by rw [← hR]; cases argsS n l <;> rfl, hl, by simpa using hl.2.2⟩) (by simp <;> omega) (by simp) (by simp) ?_
 intro ⟨m, dn, l⟩ u w hI ih
 try simp only at hI ih
 obtain ⟨hRk, hwf, hnum⟩ := hI
 obtain ⟨t1, l1, he⟩ := hwf.cons
 subst he
 cases m with
 | zero => exact absurd hRk.symm (by simpa [argsS, Res.andThen] using hin0)
 | succ m =>
  simp [c161t]
  refine ATT.callM Tryz.func161 60 [0] (f40_ok t1 l1 d) rfl (by simp) (by simp) (by simp) (by simp) (by simp) ?_
  simp
  by_cases h16 : t1.k = 16
  ·obtain ⟨t2, l2, he, hl2⟩ := hwf.two (by rw [h16]; decide)
   subst he
   have hT := f39_ok t1 (t2 :: l2) d
   rw [if_neg (by rw [h16]; decide)] at hT
   simp only [argsS, kd_cons, eq_true h16, if_true, List.tail_cons, pl_cons, tx_cons] at hRk
   simp only [List.length_cons] at hnum
   simp [c161t, eq_true h16]
   refine ATT.callM Tryz.func161 60 [0] (hT) rfl (by simp) (by simp) (by simp) (by simp) (by simp) ?_
   simp
   by_cases h1 : t2.k = 1
   ·have hmul : (dn.length + 1) * 16 ≤ 140737488355328 := by omega
    simp only [eq_true h1, if_true] at hRk
    have hw2 := (hl2.tail (by simp only [kd_cons, h1]; decide)).1
    simp only [List.tail_cons] at hw2
    refine ATT.callRM Tryz.func161 60 [0] (f38_ok t2 l2 d 1 h1 (by decide)) rfl (by simp) (by simp [tkD, tokD]) (by simp [tkD, tokD]) (by simp) (by simp) ?_
    simp [tkD, tokD, hmul]
    refine ih (m, dn ++ [t2.t], l2) (by first | ((try dsimp only); omega) | (simp [tkD, tokD] <;> omega)) (by (try dsimp only); exact ⟨by rw [← hRk]; cases argsS m l2 <;> simp [Res.andThen], hw2, by simp; omega⟩) _ _ _ (by simp <;> omega) (by simp <;> omega) (by simp <;> omega)
   ·simp only [eq_false h1, if_false, Res.andThen] at hRk
    subst hRk
    refine ATT.callRA Tryz.func161 60 [0] [] 0 0 (f38_no t2 l2 d 1 h1) (by simp) (by simp) (by simp) (by simp) (by simp) fun out hC hE => ?_
    obtain ⟨e1, e2⟩ := hE
    subst e1
    exact ⟨by simpa using e2, hQ _ _ (.inr ⟨_, _, rfl, by simp, by simp [eSyn, Res.andThen]⟩)⟩
  ·simp only [argsS, kd_cons, eq_false h16, if_false, Res.andThen, List.append_nil] at hRk
   subst hRk
   simp [c161t, h16]
   simp only [andThen_okE, kd_cons, List.tail_cons, pl_cons] at hQ hin
   cases dn with
   | nil =>
    have hwfB := hwf
    simp only [List.length_nil, ne_eq, not_true_eq_false, false_and, if_false] at hQ hin
    simp [c161t]
    have hinB : bodyS n d 11 (t1 :: l1) ≠ .out := fun e => hin (by rw [e]; rfl)
    have hC := ihB d (t1 :: l1) 11 (([] : List ByteArray)) a0 a1 a2 (.int .i64 (([] : List ByteArray) : List ByteArray).length) hd hwfB (by simp only [List.length_cons] at hnum ⊢; omega) hinB
    refine ATT.callA Tryz.func161 60 [0, 2] [0] 0 1 (hC) (by simp) (by simp) (by simp) (by simp) (by simp) fun out hC hE => ?_
    cases hres : bodyS n d 11 (t1 :: l1) with
    | ok x r =>
     simp only [hres, BR] at hE
     obtain ⟨b, c, ds, e1, e2, hds⟩ := hE
     subst e1 e2
     simp only [hres, andThen_okE] at hQ
     refine ⟨by simp, ?_⟩
     have hk := bodyS_end hres
     obtain ⟨t8, l8, he⟩ := ((pres n).body hwfB hres).1.1.cons
     subst he
     have hT := f39_ok t8 l8 d
     rw [if_neg (by rw [show t8.k = 11 from hk]; decide)] at hT
     simp [c161t]
     refine ATT.callM Tryz.func161 60 [0] (hT) rfl (by simp) (by simp) (by simp) (by simp) (by simp) ?_
     simp
     obtain ⟨xn, xk⟩ := x
     cases ds with
     | nil =>
      cases hxn : xn with
      | nil =>
       refine ATT.fz0 ?_
       simp
       refine ATT.fin0' hQ Tryz.func161 c161res ?_
       exact ⟨by simp, .inl (BKR.mk (nm := (([] : List ByteArray)) ++ []) (ds := []) (by rw [hxn]; rfl) hds (by simp) (by simp) (by simp))⟩
      | cons y yr =>
       refine ATT.fz0 ?_
       simp
       refine ATT.fin0' hQ Tryz.func161 c161res ?_
       exact ⟨by simp, .inl (BKR.mk (nm := (([] : List ByteArray)) ++ y :: yr) (ds := []) (by rw [hxn]; rfl) hds (by simp) (by simp) (by simp))⟩
     | cons d0 ds =>
      cases hxn : xn with
      | nil =>
       refine ATT.fz0 ?_
       simp
       refine ATT.fin0' hQ Tryz.func161 c161res ?_
       exact ⟨by simp, .inl (BKR.mk (nm := (([] : List ByteArray)) ++ []) (ds := d0 :: ds) (by rw [hxn]; rfl) hds (by simp) (by simp) (by simp))⟩
      | cons y yr =>
       refine ATT.fz0 ?_
       simp
       refine ATT.fin0' hQ Tryz.func161 c161res ?_
       exact ⟨by simp, .inl (BKR.mk (nm := (([] : List ByteArray)) ++ y :: yr) (ds := d0 :: ds) (by rw [hxn]; rfl) hds (by simp) (by simp) (by simp))⟩
    | no a w =>
     simp only [hres, BR] at hE
     obtain ⟨e1, _, e2, e3⟩ := hE
     subst e1
     simp only [hres, andThen_noE] at hQ
     exact ⟨by simp only [List.length_cons, List.length_nil]; omega, hQ _ _ (.inr ⟨_, _, by simp [stopV], by simp, rfl⟩)⟩
    | out => exact absurd hres hinB
   | cons n0 nr =>
    by_cases h11 : t1.k = 11
    ·have hwfB := hwf
     simp only [eq_true h11, ne_eq, not_true_eq_false, and_false, if_false] at hQ hin
     simp
     refine ATT.callM Tryz.func161 60 [0] (f40_ok t1 l1 d) rfl (by simp) (by simp) (by simp) (by simp) (by simp) ?_
     simp [c161t, eq_true h11]
     have hinB : bodyS n d 11 (t1 :: l1) ≠ .out := fun e => hin (by rw [e]; rfl)
     have hC := ihB d (t1 :: l1) 11 ((n0 :: nr)) a0 a1 a2 (.int .i64 ((n0 :: nr) : List ByteArray).length) hd hwfB (by simp only [List.length_cons] at hnum ⊢; omega) hinB
     refine ATT.callA Tryz.func161 60 [0, 2] [0] 0 1 (hC) (by simp) (by simp) (by simp) (by simp) (by simp) fun out hC hE => ?_
     cases hres : bodyS n d 11 (t1 :: l1) with
     | ok x r =>
      simp only [hres, BR] at hE
      obtain ⟨b, c, ds, e1, e2, hds⟩ := hE
      subst e1 e2
      simp only [hres, andThen_okE] at hQ
      refine ⟨by simp, ?_⟩
      have hk := bodyS_end hres
      obtain ⟨t8, l8, he⟩ := ((pres n).body hwfB hres).1.1.cons
      subst he
      have hT := f39_ok t8 l8 d
      rw [if_neg (by rw [show t8.k = 11 from hk]; decide)] at hT
      simp [c161t]
      refine ATT.callM Tryz.func161 60 [0] (hT) rfl (by simp) (by simp) (by simp) (by simp) (by simp) ?_
      simp
      obtain ⟨xn, xk⟩ := x
      cases ds with
      | nil =>
       refine ATT.fz0 ?_
       simp
       refine ATT.fin0' hQ Tryz.func161 c161res ?_
       exact ⟨by simp, .inl (BKR.mk (nm := ((n0 :: nr)) ++ xn) (ds := []) rfl hds (by simp) (by simp) (by simp))⟩
      | cons d0 ds =>
       refine ATT.fz0 ?_
       simp
       refine ATT.fin0' hQ Tryz.func161 c161res ?_
       exact ⟨by simp, .inl (BKR.mk (nm := ((n0 :: nr)) ++ xn) (ds := d0 :: ds) rfl hds (by simp) (by simp) (by simp))⟩
     | no a w =>
      simp only [hres, BR] at hE
      obtain ⟨e1, _, e2, e3⟩ := hE
      subst e1
      simp only [hres, andThen_noE] at hQ
      exact ⟨by simp only [List.length_cons, List.length_nil]; omega, hQ _ _ (.inr ⟨_, _, by simp [stopV], by simp, rfl⟩)⟩
     | out => exact absurd hres hinB
    ·simp only [eq_false h11, List.length_cons, ne_eq, not_false_eq_true, and_true, Nat.add_one_ne_zero, if_true] at hQ hin
     simp
     refine ATT.callM Tryz.func161 60 [0] (f40_ok t1 l1 d) rfl (by simp) (by simp) (by simp) (by simp) (by simp) ?_
     simp [c161t, h11]
     by_cases h12 : t1.k = 12
     ·simp only [eq_true h12, if_true] at hQ hin
      have hwfB := (hwf.tail (by simp only [kd_cons, h12]; decide)).1
      simp only [List.tail_cons] at hwfB
      refine ATT.callM Tryz.func161 60 [0] (f38_ok t1 l1 d 12 h12 (by decide)) rfl (by simp) (by simp) (by simp) (by simp) (by simp) ?_
      simp [c161t]
      have hinB : bodyS n d 11 (l1) ≠ .out := fun e => hin (by rw [e]; rfl)
      have hC := ihB d (l1) 11 ((n0 :: nr)) a0 a1 a2 (.int .i64 ((n0 :: nr) : List ByteArray).length) hd hwfB (by simp only [List.length_cons] at hnum ⊢; omega) hinB
      refine ATT.callA Tryz.func161 60 [0, 2] [0] 0 1 (hC) (by simp) (by simp) (by simp) (by simp) (by simp) fun out hC hE => ?_
      cases hres : bodyS n d 11 (l1) with
      | ok x r =>
       simp only [hres, BR] at hE
       obtain ⟨b, c, ds, e1, e2, hds⟩ := hE
       subst e1 e2
       simp only [hres, andThen_okE] at hQ
       refine ⟨by simp, ?_⟩
       have hk := bodyS_end hres
       obtain ⟨t8, l8, he⟩ := ((pres n).body hwfB hres).1.1.cons
       subst he
       have hT := f39_ok t8 l8 d
       rw [if_neg (by rw [show t8.k = 11 from hk]; decide)] at hT
       simp [c161t]
       refine ATT.callM Tryz.func161 60 [0] (hT) rfl (by simp) (by simp) (by simp) (by simp) (by simp) ?_
       simp
       obtain ⟨xn, xk⟩ := x
       cases ds with
       | nil =>
        refine ATT.fz0 ?_
        simp
        refine ATT.fin0' hQ Tryz.func161 c161res ?_
        exact ⟨by simp, .inl (BKR.mk (nm := ((n0 :: nr)) ++ xn) (ds := []) rfl hds (by simp) (by simp) (by simp))⟩
       | cons d0 ds =>
        refine ATT.fz0 ?_
        simp
        refine ATT.fin0' hQ Tryz.func161 c161res ?_
        exact ⟨by simp, .inl (BKR.mk (nm := ((n0 :: nr)) ++ xn) (ds := d0 :: ds) rfl hds (by simp) (by simp) (by simp))⟩
      | no a w =>
       simp only [hres, BR] at hE
       obtain ⟨e1, _, e2, e3⟩ := hE
       subst e1
       simp only [hres, andThen_noE] at hQ
       exact ⟨by simp only [List.length_cons, List.length_nil]; omega, hQ _ _ (.inr ⟨_, _, by simp [stopV], by simp, rfl⟩)⟩
      | out => exact absurd hres hinB
     ·simp only [eq_false h12, if_false] at hQ hin
      refine ATT.callA Tryz.func161 60 [0] [] 0 0 (f38_no t1 l1 d 12 h12) (by simp) (by simp) (by simp) (by simp) (by simp) fun out hC hE => ?_
      obtain ⟨e1, e2⟩ := hE
      subst e1
      exact ⟨by simpa using e2, hQ _ _ (.inr ⟨_, _, rfl, by simp, by simp [eSyn]⟩)⟩
end Go.SL
namespace Go.SL
open Go.Proofs
set_option maxRecDepth 10000
theorem f156_ok (n : Nat) (ihB : BodyC n) : BlockC (n + 1) := by
 intro d l hd hl hkl hin
 obtain ⟨t, r, e⟩ := hl.cons
 subst e
 rw [blockS_eq] at hin ⊢
 simp only [pl_cons, List.tail_cons] at hin ⊢
 have hk0 : t.k ≠ 0 := by
  intro h0
  simp only [kd_cons, h0] at hkl
  exact absurd hkl (by decide)
 obtain ⟨t2, l2, e, hl2⟩ := hl.two hk0
 subst e
 refine AF.start' 60 Tryz.func156 rfl rfl c156call c156ok fun Q hQ => ?_
 simp [c156c, c156t, tkD, tokD]
 by_cases h40 : d = 40
 ·subst h40
  simp only [if_true] at hQ
  refine ATT.callA Tryz.func156 60 [0, 1, 3] [] 0 0 (f104_no t (t2 :: l2) [.int .i64 10, .str ⟨#[]⟩, .int .i64 t.a, .int .i64 0, .sl true 0 [], .sl true 0 []] 25 161 [.ptr 1 0, .ptr 2 0]) (by simp) (by simp) (by simp [tkD, tokD]) (by simp) (by simp) fun out hC hE => ?_
  obtain ⟨e1, e2⟩ := hE
  subst e1
  exact ⟨by simpa using e2, hQ _ _ ⟨by simp [stopV, eSize], by simp⟩⟩
 ·rw [if_neg h40] at hQ hin
  have hin' : blkS n (d + 1) (t2 :: l2) ≠ .out := fun e => hin (by simp [e, Res.andThen])
  have hcl := f161_ok n ihB (d + 1) (t2 :: l2) (by omega) hl2 hin' (.int .i64 10) (.str ⟨#[]⟩) (.int .i64 t.a)
  have hW := f104_ok t hk0 (t2 :: l2) [.int .i64 10, .str ⟨#[]⟩, .int .i64 t.a, .int .i64 0, .sl true 0 [], .sl true 0 []] 25 d (by omega) 161 [.ptr 1 0, .ptr 2 0] rfl rfl _ _ hcl
  refine ATT.callA Tryz.func156 60 [0, 1, 3] [] 0 0 (hW) (by simp) (by simp) (by simp [tkD, tokD]) (by simp) (by simp) fun out hC hE => ?_
  rcases hE with ⟨l', nd', b, c, e1, e2, x, n1, z1, n2, z2, ds, hx, hnd, h1, h2, h3, h4, hds⟩ | ⟨a, w, e1, e2, hx⟩
  ·subst e1 e2 hnd
   refine ⟨by simp, ?_⟩
   simp [c156t]
   simp only [hx, Res.andThen] at hQ
   refine ATT.fin' hQ Tryz.func156 c156res ?_
   exact ⟨by simp, _, _, _, rfl, rfl, NdR.mk h1 h2 h3 h4 hds⟩
  ·subst e1
   simp only [hx, Res.andThen] at hQ
   exact ⟨by simpa using e2, hQ _ _ ⟨by simp [stopV], by simp⟩⟩
structure AllC (n : Nat) : Prop where
 expr : ExprC n
 casc : CascC n
 msg : MsgC n
 keyed : KeyedC n
 binary : BinaryC n
 unary : UnaryC n
 prim : PrimC n
 list : ListC n
 elem : ElemC n
 block : BlockC n
 stmt : StmtC n
 body : BodyC n
theorem allC_le : ∀ n m, m ≤ n → AllC m
 | 0, 0, _ => by
  constructor <;> intro d l <;> intros <;> rename_i h <;> exact absurd (by simp [exprS, cascS, msgS, keyedS, binaryS, unaryS, primS, listS, elemS, blockS, stmtS, bodyS]) h
 | 0, m + 1, h => absurd h (by omega)
 | n + 1, m, h => by
  rcases Nat.lt_or_ge m (n + 1) with h' | h'
  ·exact allC_le n m (by omega)
  ·have : m = n + 1 := by omega
   subst this
   have ih := allC_le n
   exact {
    expr := f76_ok n (ih n (Nat.le_refl _)).expr (ih n (Nat.le_refl _)).casc
    casc := f106_ok n (ih n (Nat.le_refl _)).keyed fun m h => (ih m h).msg
    msg := f122_ok n (fun m h => (ih m h).binary) (ih n (Nat.le_refl _)).unary
    keyed := f121_ok n (ih n (Nat.le_refl _)).msg (ih n (Nat.le_refl _)).binary
    binary := f137_ok n (fun m h => (ih m h).msg) (ih n (Nat.le_refl _)).unary
    unary := f138_ok n (fun m h => (ih m h).msg) (ih n (Nat.le_refl _)).prim
    prim := f148_ok n (ih n (Nat.le_refl _)).expr (ih n (Nat.le_refl _)).list (ih n (Nat.le_refl _)).block
    list := f155_ok n fun m h => (ih m h).elem
    elem := f160_ok n (ih n (Nat.le_refl _)).list
    block := f156_ok n (ih n (Nat.le_refl _)).body
    stmt := f46_ok n (ih n (Nat.le_refl _)).expr
    body := f28_ok n fun m h => (ih m h).stmt }
theorem allC (n : Nat) : AllC n := allC_le n n (Nat.le_refl _)
end Go.SL
namespace Go.SL
open Go.Proofs
set_option maxRecDepth 10000
abbrev NP : Bx := .cells [.ptr 1 0] 44
abbrev UB (k : Int) (t : ByteArray) (n m : Nat) : Bx := .cells [.d (.int .i64 k), .d (.str t), .d (.int .i64 0), .d (.int .i64 n), .vs 0 m 0 m, .d (.sl true 0 [])] 25
theorem bx_four {l : List Bx} {b : Bx} (h : l[1]? = some b) (h4 : 4 ≤ l.length) : ∃ a c d r, l = a :: b :: c :: d :: r := by
 match l, h, h4 with
 | a :: x :: c :: d :: r, h, _ => simp at h; subst h; exact ⟨a, c, d, r, rfl⟩
theorem f37_ok (t : Tk) (l : List Tk) (d : Nat) (h1 : t.k = 1) (k : Int) (s : ByteArray) (n : Nat) (nm : List ByteArray) (hn : nm.length ≤ 5000) :
  AF Tryz.prog 37 [.ptr 3 0, .ptr 2 0] ⟨[PB (t :: l) d, UB k s n nm.length, .cells [.ptr 0 0] 43, NP], [NS nm]⟩ fun o h =>
   ∃ b c, o = .ret (.d (.tup [])) ∧ h = ⟨PB l d :: UB k s n (nm.length + 1) :: .cells [.ptr 0 0] 43 :: NP :: b, NS (nm ++ [t.t]) :: c⟩ := by
 have hmul : (nm.length + 1) * 16 ≤ 140737488355328 := by omega
 refine AF.start' 60 Tryz.func37 rfl rfl c37call c37ok fun Q hQ => ?_
 simp [c37c, c37t]
 refine ATT.callRM Tryz.func37 60 [0] (f38_ok t l d 1 h1 (by decide)) rfl (by simp) (by simp) (by simp [tkD, tokD]) (by simp) (by simp) ?_
 simp [tkD, tokD, hmul]
 refine ATT.fin0' hQ Tryz.func37 c37res ?_
 exact ⟨by simp, [], [some ⟨false, 1, 0, [.d (.str t.t)], 9⟩], rfl, by simp⟩
theorem f37_no (t : Tk) (l : List Tk) (d : Nat) (h1 : ¬ t.k = 1) (k : Int) (s : ByteArray) (n : Nat) (nm : List ByteArray) :
  AF Tryz.prog 37 [.ptr 3 0, .ptr 2 0] ⟨[PB (t :: l) d, UB k s n nm.length, .cells [.ptr 0 0] 43, NP], [NS nm]⟩ fun o h =>
   o = .pan (stopV t.a 20) ∧ (∃ cs, h.bx[1]? = some (.cells cs 25) ∧ cs.length = 6) ∧ 4 ≤ h.bx.length ∧ 1 ≤ h.vc.length := by
 refine AF.start' 60 Tryz.func37 rfl rfl c37call c37ok fun Q hQ => ?_
 simp [c37c, c37t]
 refine ATT.callRA Tryz.func37 60 [0] [] 0 0 (f38_no t l d 1 h1) (by simp) (by simp) (by simp [tkD, tokD]) (by simp) (by simp) fun out hC hE => ?_
 obtain ⟨e1, e2⟩ := hE
 subst e1
 exact ⟨by simpa using e2, hQ _ _ ⟨by simp [stopV], by exact ⟨[_, _, _, _, _, _], by rw [upH_out (by decide) (by simp)]; rfl, rfl⟩, by simp, by simp⟩⟩
def HR (d : Nat) (r : Res (ByteArray × List ByteArray)) (o : Out) (h : H) : Prop := match r with
 | .ok x l => ∃ b c, o = .ret (.d (.tup [])) ∧ h = ⟨PB l d :: UB 12 x.1 x.2.length x.2.length :: b, NS x.2 :: c⟩
 | .no a w => o = .pan (stopV a w) ∧ (∃ cs, h.bx[1]? = some (.cells cs 25) ∧ cs.length = 6) ∧ 2 ≤ h.bx.length ∧ 1 ≤ h.vc.length
 | .out => True
theorem HR.mk {d : Nat} {s : ByteArray} {nm : List ByteArray} {l : List Tk} {x0 x1 x2 x3 x4 x5 : V} {b : List Bx} {v0 : Option Vec} {c : List (Option Vec)}
  (h0 : x0 = .d (.int .i64 12)) (h1 : x1 = .d (.str s)) (h2 : x2 = .d (.int .i64 0)) (h3 : x3 = .d (.int .i64 nm.length)) (h4 : x4 = .vs 0 nm.length 0 nm.length) (h5 : x5 = .d (.sl true 0 [])) (hv : v0 = NS nm) :
  HR d (.ok (s, nm) l) (.ret (.d (.tup []))) ⟨PB l d :: .cells [x0, x1, x2, x3, x4, x5] 25 :: b, v0 :: c⟩ := by
 subst h0 h1 h2 h3 h4 h5 hv
 exact ⟨_, _, rfl, rfl⟩
abbrev UB0 : Bx := .cells [.d (.int .i64 12), .d (.str ⟨#[]⟩), .d (.int .i64 0), .d (.int .i64 0), .d (.sl true 0 []), .d (.sl true 0 [])] 25
section
variable {P : Program} {N : Nat} {f : FD} {Q : Out → H → Prop}
theorem ATT.nilB0 {env : Env} {h : H} {ob : Bool} (i j : Nat) {z : Nat} {cs : List V} {e : TypeId} (sz : Nat) (e' : TypeId) (hb : h.bx[i]? = some (.cells cs e)) (hc : cs[j]? = some (.d (.sl true z []))) (hz : 0 < sz)
  (k : ATT P N f Q ([], env, ⟨h.bx.set i (.cells (cs.set j (.vs h.vc.length 0 0 0)) e), h.vc ++ [some ⟨true, sz, 0, [], e'⟩]⟩, ob)) : ATT P N f Q ([], env, h, ob) :=
 ⟨k.1, AT.nilB hb hc sz hz e' k.2⟩
end
theorem nil_app (s : ByteArray) : (⟨#[]⟩ : ByteArray) ++ s = s := by
 apply ByteArray.ext
 simp
theorem f20_ok (l : List Tk) (d : Nat) : AF Tryz.prog 20 [.ptr 0 0, .ptr 1 0] ⟨[PB l d, UB0], []⟩ (HR d (.ok (⟨#[]⟩, []) l)) := by
 refine AF.start' 60 Tryz.func20 rfl rfl c20call c20ok fun Q hQ => ?_
 simp [c20c]
 refine ATT.nilB0 1 4 1 9 rfl rfl (by decide) ?_
 simp
 refine ATT.fin0' hQ Tryz.func20 c20res ?_
 exact ⟨by simp, HR.mk rfl rfl rfl rfl rfl rfl rfl⟩
set_option maxHeartbeats 1000000 in
theorem f25_ok (n : Nat) (d : Nat) (l : List Tk) (hl : WF l) (hn : l.length ≤ n) : AF Tryz.prog 25 [.ptr 0 0, .ptr 1 0] ⟨[PB l d, UB0], []⟩ (HR d (patS n l)) := by
 obtain ⟨t, r, e⟩ := hl.cons
 subst e
 have htz := hl.2.1 t (by simp)
 simp only [patS, kd_cons, pl_cons, tx_cons, List.tail_cons]
 by_cases h0 : t.k = 0
 ·have hT := f39_ok t r d
  rw [if_pos h0] at hT
  have a1 : ¬ t.k = 1 := by rw [h0]; decide
  have a2 : ¬ t.k = 2 := by rw [h0]; decide
  have a3 : ¬ t.k = 3 := by rw [h0]; decide
  simp only [eq_false a1, eq_false a2, eq_false a3, if_false]
  refine AF.start' 60 Tryz.func25 rfl rfl c25call c25ok fun Q hQ => ?_
  simp [c25c, c25t]
  refine ATT.nilB 1 4 1 9 rfl rfl (by decide) (by simp) ?_
  simp
  refine ATT.callM Tryz.func25 60 [0] (hT) rfl (by simp) (by simp) (by simp [tkD, tokD]) (by simp) (by simp) ?_
  simp [c25t, a1, a2, a3, tkD, tokD]
  refine ATT.pan hQ Tryz.func25 (by simp; exact ⟨rfl, rfl⟩) (by simp) (by simp) ?_
  try simp [a1, a2, a3, tkD, tokD]
  exact ⟨rfl, by exact ⟨[_, _, _, _, _, _], rfl, rfl⟩, by simp, by simp⟩
 obtain ⟨t2, l2, e, hl2⟩ := hl.two h0
 subst e
 have hT := f39_ok t (t2 :: l2) d
 rw [if_neg h0] at hT
 by_cases h1 : t.k = 1
 ·simp only [eq_true h1, if_true]
  refine AF.start' 60 Tryz.func25 rfl rfl c25call c25ok fun Q hQ => ?_
  simp [c25c, c25t]
  refine ATT.nilB 1 4 1 9 rfl rfl (by decide) (by simp) ?_
  simp
  refine ATT.callM Tryz.func25 60 [0] (hT) rfl (by simp) (by simp) (by simp [tkD, tokD]) (by simp) (by simp) ?_
  simp [c25t, eq_true h1, tkD, tokD]
  refine ATT.fin0' hQ Tryz.func25 c25res ?_
  exact ⟨by simp, HR.mk rfl rfl rfl rfl rfl rfl rfl⟩
 by_cases h3 : t.k = 3
 ·simp only [eq_false h1, eq_true h3, if_true, if_false, kd_cons, pl_cons, tx_cons, List.tail_cons]
  refine AF.start' 60 Tryz.func25 rfl rfl c25call c25ok fun Q hQ => ?_
  simp [c25c, c25t]
  refine ATT.nilB 1 4 1 9 rfl rfl (by decide) (by simp) ?_
  simp
  refine ATT.callM Tryz.func25 60 [0] (hT) rfl (by simp) (by simp) (by simp [tkD, tokD]) (by simp) (by simp) ?_
  simp [c25t, h1, eq_true h3, tkD, tokD]
  by_cases hk1 : t2.k = 1
  ·simp only [eq_true hk1, if_true] at hQ
   refine ATT.callA Tryz.func25 60 [0, 1, 2, 3] [0] 0 0 (f37_ok t2 l2 d hk1 12 t.t 0 [] (by simp)) (by simp) (by simp) (by simp [tkD, tokD]) (by simp) (by simp) fun out hC hE => ?_
   obtain ⟨b, c, e1, e2⟩ := hE
   subst e1 e2
   refine ⟨by simp, ?_⟩
   simp
   refine ATT.fin0' hQ Tryz.func25 c25res ?_
   exact ⟨by simp, HR.mk rfl rfl rfl rfl rfl rfl rfl⟩
  ·simp only [eq_false hk1, if_false] at hQ
   refine ATT.callA Tryz.func25 60 [0, 1, 2, 3] [0] 0 0 (f37_no t2 l2 d hk1 12 t.t 0 []) (by simp) (by simp) (by simp [tkD, tokD]) (by simp) (by simp) fun out hC hE => ?_
   obtain ⟨e1, ⟨cs, e4, e5⟩, e2, e3⟩ := hE
   subst e1
   exact ⟨by simp; omega, hQ _ _ ⟨by simp [stopV, eSyn], by (obtain ⟨b0, b2, b3, br, hb⟩ := bx_four e4 e2; exact ⟨rns [0, 1, 2, 3] [0] cs, by simp [hb, setAll, rnB], by rw [rns_length]; exact e5⟩), by simp, by simp⟩⟩
 by_cases h2 : t.k = 2
 ·simp only [eq_false h1, eq_true h2, eq_false h3, if_true, if_false]
  obtain ⟨m, hm⟩ : ∃ m, n = m + 1 := ⟨n - 1, by simp at hn; omega⟩
  subst hm
  simp only [patKeysS, kd_cons, eq_true h2, if_true, List.tail_cons, tx_cons, pl_cons, nil_app, List.nil_append]
  refine AF.start' 60 Tryz.func25 rfl rfl c25call c25ok fun Q hQ => ?_
  simp [c25c, c25t]
  refine ATT.nilB 1 4 1 9 rfl rfl (by decide) (by simp) ?_
  simp
  refine ATT.callM Tryz.func25 60 [0] (hT) rfl (by simp) (by simp) (by simp [tkD, tokD]) (by simp) (by simp) ?_
  simp [c25t, h1, h3, eq_true h2, tkD, tokD]
  by_cases hk1 : t2.k = 1
  ·simp only [eq_true hk1, if_true] at hQ
   refine ATT.callA Tryz.func25 60 [0, 1, 2, 3] [0] 0 0 (f37_ok t2 l2 d hk1 12 t.t 0 [] (by simp)) (by simp) (by simp) (by simp [tkD, tokD]) (by simp) (by simp) fun out hC hE => ?_
   obtain ⟨b, c, e1, e2⟩ := hE
   subst e1 e2
   refine ⟨by simp, ?_⟩
   simp
   have hw3 := (hl2.tail (by simp only [kd_cons, hk1]; decide)).1
   simp only [List.tail_cons] at hw3
   simp only [List.length_cons] at hn
   have hlen := hl.2.2
   simp only [List.length_cons] at hlen
   generalize hR : patKeysS m t.t [t2.t] l2 = R at hQ
   refine ATT.loopG 60 c25l15.eq_1 (fun ((m, s, nm, l) : Nat × ByteArray × List ByteArray × List Tk) => m) (fun ((m, s, nm, l) : Nat × ByteArray × List ByteArray × List Tk) => patKeysS m s nm l = R ∧ WF l ∧ l.length ≤ m ∧ nm.length + l.length ≤ 5000 ∧ s.size + 1048576 * l.length ≤ 5242880000) (fun ((m, s, nm, l) : Nat × ByteArray × List ByteArray × List Tk) => [(2, .ptr 2 0), (3, .ptr 3 0), (4, .fn (.func 37) [] [.ptr 3 0, .ptr 2 0])]) (fun ((m, s, nm, l) : Nat × ByteArray × List ByteArray × List Tk) => [PB l d, .cells [.d (.int .i64 12), .d (.str s), .d (.int .i64 0), .d (.int .i64 0), .vs 0 nm.length 0 nm.length, .d (.sl true 0 [])] 25, .cells [.ptr 0 0] 43, NP]) (fun ((m, s, nm, l) : Nat × ByteArray × List ByteArray × List Tk) => [NS nm]) ((m, t.t, [t2.t], l2)) (by (try dsimp only); exact ⟨hR, hw3, by omega, by simp; omega, by omega⟩) (by simp <;> omega) (by simp) (by simp) ?_
   intro ⟨m, s, nm, l⟩ u w hI ih
   try simp only at hI ih
   obtain ⟨hRk, hwf, hlm, hnum, hsz⟩ := hI
   obtain ⟨t3, l3, e⟩ := hwf.cons
   subst e
   cases m with
   | zero => simp at hlm
   | succ m =>
    simp only [patKeysS, kd_cons, tx_cons, List.tail_cons] at hRk
    simp [c25t]
    refine ATT.callM Tryz.func25 60 [0] (f40_ok t3 l3 d) rfl (by simp) (by simp) (by simp [tkD, tokD]) (by simp) (by simp) ?_
    simp [tkD, tokD]
    by_cases h3k : t3.k = 2
    ·obtain ⟨t4, l4, e, hl4⟩ := hwf.two (by rw [h3k]; decide)
     subst e
     have hT3 := f39_ok t3 (t4 :: l4) d
     rw [if_neg (by rw [h3k]; decide)] at hT3
     simp only [eq_true h3k, if_true, kd_cons, tx_cons, List.tail_cons, pl_cons] at hRk
     have htz3 := hwf.2.1 t3 (by simp)
     simp only [List.length_cons] at hsz hnum hlm
     have hcat : s.size + t3.t.size ≤ 9223372036854775807 := by omega
     simp [eq_true h3k, tkD, tokD]
     refine ATT.callRM Tryz.func25 60 [0] (hT3) rfl (by simp) (by simp) (by simp [tkD, tokD]) (by simp) (by simp) ?_
     simp [c25t, tkD, tokD, hcat]
     by_cases hk4 : t4.k = 1
     ·simp only [eq_true hk4, if_true] at hRk
      refine ATT.callA Tryz.func25 60 [0, 1, 2, 3] [0] 0 0 (f37_ok t4 l4 d hk4 12 (s ++ t3.t) 0 nm (by omega)) (by simp) (by simp) (by simp [tkD, tokD]) (by simp) (by simp) fun out hC hE => ?_
      obtain ⟨b, c, e1, e2⟩ := hE
      subst e1 e2
      refine ⟨by simp, ?_⟩
      simp
      have hw4 := (hl4.tail (by simp only [kd_cons, hk4]; decide)).1
      simp only [List.tail_cons] at hw4
      refine ih (m, s ++ t3.t, nm ++ [t4.t], l4) (by first | ((try dsimp only); omega) | (simp [eq_true h3k, tkD, tokD, hcat] <;> omega)) (by (try dsimp only); exact ⟨hRk, hw4, by omega, by simp; omega, by simp; omega⟩) _ _ _ (by simp <;> omega) (by simp <;> omega) (by simp <;> omega)
     ·simp only [eq_false hk4, if_false] at hRk
      subst hRk
      refine ATT.callA Tryz.func25 60 [0, 1, 2, 3] [0] 0 0 (f37_no t4 l4 d hk4 12 (s ++ t3.t) 0 nm) (by simp) (by simp) (by simp [tkD, tokD]) (by simp) (by simp) fun out hC hE => ?_
      obtain ⟨e1, ⟨cs, e4, e5⟩, e2, e3⟩ := hE
      subst e1
      exact ⟨by simp; omega, hQ _ _ ⟨by simp [stopV, eSyn], by (obtain ⟨b0, b2, b3, br, hb⟩ := bx_four e4 e2; exact ⟨rns [0, 1, 2, 3] [0] cs, by simp [hb, setAll, rnB], by rw [rns_length]; exact e5⟩), by simp, by simp⟩⟩
    ·simp only [eq_false h3k, if_false] at hRk
     subst hRk
     simp [h3k]
     refine ATT.fin0' hQ Tryz.func25 c25res ?_
     exact ⟨by simp, HR.mk rfl rfl rfl rfl rfl rfl rfl⟩
  ·simp only [eq_false hk1, if_false] at hQ
   refine ATT.callA Tryz.func25 60 [0, 1, 2, 3] [0] 0 0 (f37_no t2 l2 d hk1 12 t.t 0 []) (by simp) (by simp) (by simp [tkD, tokD]) (by simp) (by simp) fun out hC hE => ?_
   obtain ⟨e1, ⟨cs, e4, e5⟩, e2, e3⟩ := hE
   subst e1
   exact ⟨by simp; omega, hQ _ _ ⟨by simp [stopV, eSyn], by (obtain ⟨b0, b2, b3, br, hb⟩ := bx_four e4 e2; exact ⟨rns [0, 1, 2, 3] [0] cs, by simp [hb, setAll, rnB], by rw [rns_length]; exact e5⟩), by simp, by simp⟩⟩
 ·simp only [eq_false h1, eq_false h2, eq_false h3, if_false]
  refine AF.start' 60 Tryz.func25 rfl rfl c25call c25ok fun Q hQ => ?_
  simp [c25c, c25t]
  refine ATT.nilB 1 4 1 9 rfl rfl (by decide) (by simp) ?_
  simp
  refine ATT.callM Tryz.func25 60 [0] (hT) rfl (by simp) (by simp) (by simp [tkD, tokD]) (by simp) (by simp) ?_
  simp [c25t, h1, h2, h3, tkD, tokD]
  refine ATT.pan hQ Tryz.func25 (by simp; exact ⟨rfl, rfl⟩) (by simp) (by simp) ?_
  try simp [h1, h2, h3, tkD, tokD]
  exact ⟨rfl, by exact ⟨[_, _, _, _, _, _], rfl, rfl⟩, by simp, by simp⟩
end Go.SL
namespace Go.SL
open Go.Proofs
set_option maxRecDepth 10000
abbrev zeroN : D := .agg [.int .i64 0, .str ⟨#[]⟩, .int .i64 0, .int .i64 0, .sl true 0 [], .sl true 0 []]
abbrev ZC : List V := [.d (.int .i64 0), .d (.str ⟨#[]⟩), .d (.int .i64 0), .d (.int .i64 0), .d (.sl true 0 []), .d (.sl true 0 [])]
theorem f27_none (c0 c1 c2 c3 c4 c5 x1 x2 : V) (b : List Bx) (c : List (Option Vec)) :
  DCl Tryz.prog 27 [.ptr 0 0, .ptr 1 0, .ptr 2 0] none ⟨.cells [c0, c1, c2, c3, c4, c5] 25 :: .cells [x1] 3 :: .cells [x2] 26 :: b, c⟩ fun h => ∃ b c, h = ⟨.cells [c0, c1, c2, c3, c4, c5] 25 :: .cells [x1] 3 :: .cells [x2] 26 :: b, c⟩ := by
 refine DCl.of (ac := c27c) (ann := c27a) 60 Tryz.func27 rfl rfl c27call (fun _ _ => rfl) rfl rfl (by decide) c27ok ?_
 simp [c27c, c27t, recV]
 refine ATT.fin0' (fun _ _ h => h) Tryz.func27 c27res ?_
 exact ⟨by simp, ⟨_, rfl⟩, _, _, rfl⟩
theorem f27_some (a : Nat) (w : Int) (c0 c1 c2 c3 c4 c5 x1 x2 : V) (b : List Bx) (c : List (Option Vec)) :
  DCl Tryz.prog 27 [.ptr 0 0, .ptr 1 0, .ptr 2 0] (some (stopV a w)) ⟨.cells [c0, c1, c2, c3, c4, c5] 25 :: .cells [x1] 3 :: .cells [x2] 26 :: b, c⟩ fun h => ∃ b c, h = ⟨.cells ZC 25 :: .cells [.d (.int .i64 a)] 3 :: .cells [.d (.int .i64 w)] 26 :: b, c⟩ := by
 refine DCl.of (ac := c27c) (ann := c27a) 60 Tryz.func27 rfl rfl c27call (fun _ _ => rfl) rfl rfl (by decide) c27ok ?_
 simp [c27c, c27t, recV, stopV]
 refine ATT.fin0' (fun _ _ h => h) Tryz.func27 c27res ?_
 exact ⟨by simp, ⟨_, rfl⟩, _, _, rfl⟩
def UnR (r : Res Nd) (v : D) : Prop := match r with
 | .ok x _ => ∃ u, v = .tup [u, .int .i64 0, .int .i64 0] ∧ NdR x u
 | .no a w => v = .tup [zeroN, .int .i64 a, .int .i64 w]
 | .out => True
def uniS (n : Nat) (hd : List Tk → Res (ByteArray × List ByteArray)) (l : List Tk) : Res Nd :=
 (hd l).andThen fun p r => (bodyS n 0 0 r).andThen fun x r' => .ok (.mk 12 p.1 0 p.2.length (p.2 ++ x.1) x.2) r'
def UnQ (r : Res Nd) (o : Out) (h : H) : Prop := match r with
 | .ok x _ => ∃ c0 c1 c2 c3 c4 c5 b c, (∃ v, o = .ret v) ∧ h = ⟨.cells [.d c0, .d c1, .d c2, .d c3, .d c4, .d c5] 25 :: .cells [.d (.int .i64 0)] 3 :: .cells [.d (.int .i64 0)] 26 :: b, c⟩ ∧ NdR x (.agg [c0, c1, c2, c3, c4, c5])
 | .no a w => ∃ c0 c1 c2 c3 c4 c5 x1 x2 b c, o = .pan (stopV a w) ∧ h = ⟨.cells [c0, c1, c2, c3, c4, c5] 25 :: .cells [x1] 3 :: .cells [x2] 26 :: b, c⟩
 | .out => True
theorem six {cs : List V} (h : cs.length = 6) : ∃ c0 c1 c2 c3 c4 c5, cs = [c0, c1, c2, c3, c4, c5] := by
 match cs, h with
 | [c0, c1, c2, c3, c4, c5], _ => exact ⟨c0, c1, c2, c3, c4, c5, rfl⟩
theorem bx_two {l : List Bx} {b : Bx} (h : l[1]? = some b) : ∃ a r, l = a :: b :: r := by
 match l, h with
 | a :: x :: r, h => simp at h; subst h; exact ⟨a, r, rfl⟩
theorem upH_pan (x0 x1 x2 x3 b0 : Bx) (cs : List V) (e : TypeId) (br : List Bx) (v c : List (Option Vec)) (rv : List Nat) (kv : Nat) (hcs : cs.length = 6) :
  ∃ c0 c1 c2 c3 c4 c5 y c', upH ⟨[x0, x1, x2, x3], v⟩ ⟨b0 :: .cells cs e :: br, c⟩ [3, 0] rv 0 kv = ⟨.cells [c0, c1, c2, c3, c4, c5] e :: x1 :: x2 :: y, c'⟩ := by
 obtain ⟨c0, c1, c2, c3, c4, c5, h⟩ := six (cs := rns (upB [3, 0] 4 0) (upB rv v.length kv) cs) (by rw [rns_length]; exact hcs)
 refine ⟨c0, c1, c2, c3, c4, c5, [rnB (upB [3, 0] 4 0) (upB rv v.length kv) b0], (upH ⟨[x0, x1, x2, x3], v⟩ ⟨b0 :: .cells cs e :: br, c⟩ [3, 0] rv 0 kv).vc, ?_⟩
 rw [← h]
 simp [setAll, rnB]
theorem DCl.mono {P : Program} {g : FuncId} {a : List V} {u : Option V} {h0 : H} {R R' : H → Prop} (h : DCl P g a u h0 R) (k : ∀ h, R h → R' h) : DCl P g a u h0 R' :=
 ⟨h.1, fun κ w argv m r1 r2 r3 => (h.2 κ w argv m r1 r2 r3).mono fun e u w ⟨v, κ', h', t1, t2, t3, t4, t5⟩ => ⟨v, κ', h', t1, t2, t3, t4, k _ t5⟩⟩
theorem f19_no {num : ByteArray → Bool} (hW : NumP 71 num) (s : ByteArray) (hs : s.size ≤ 1073741820) (a : Nat) (w : Int) (hw : w ≠ 0) (hr : readD num s = .tup [.sl true 0 [], .int .i64 a, .int .i64 w]) (g : FuncId) :
  DF Tryz.prog 19 [.str s, .fn (.func g) [] []] (.tup [zeroN, .int .i64 a, .int .i64 w]) := by
 have hR := f26_ok hW s hs
 rw [hr] at hR
 refine AF.start' 60 Tryz.func19 rfl rfl c19call c19ok fun Q hQ => ?_
 simp [c19c, c19t]
 refine ATT.callD Tryz.func19 60 (hR) (by simp) (by simp) (by simp) ?_
 simp [c19t, hw]
 refine ATT.fin' hQ Tryz.func19 c19res ?_
 simp
 all_goals (first | omega | exact ⟨_, rfl⟩ | skip)
theorem f19_yes {num : ByteArray → Bool} (hW : NumP 71 num) (s : ByteArray) (hs : s.size ≤ 1073741820) (l : List Tk) (hl : WF l) (hr : readD num s = .tup [.sl false 3 (l.map tkD), .int .i64 0, .int .i64 0]) (g : FuncId)
  (hd : List Tk → Res (ByteArray × List ByteArray)) (hH : AF Tryz.prog g [.ptr 0 0, .ptr 1 0] ⟨[PB l 0, UB0], []⟩ (HR 0 (hd l))) (hwf : ∀ p r, hd l = .ok p r → WF r ∧ p.2.length ≤ 5000) (n : Nat) (hin : uniS n hd l ≠ .out) :
  DE Tryz.prog 19 [.str s, .fn (.func g) [] []] (UnR (uniS n hd l)) := by
 have hR := f26_ok hW s hs
 rw [hr] at hR
 refine AF.start' 60 Tryz.func19 rfl rfl c19call c19ok fun Q hQ => ?_
 simp [c19c, c19t]
 refine ATT.callD Tryz.func19 60 (hR) (by simp) (by simp) (by simp) ?_
 simp [c19t]
 refine ATT.defer (UnQ (uniS n hd l)) Tryz.func19 60 [(4, .ptr 0 0), (5, .ptr 1 0), (6, .ptr 2 0)] (by simp; rfl) c27call c19res rfl ?_ ?_
 ·simp [c19t]
  refine ATT.callA Tryz.func19 60 [3, 0] [] 0 1 hH (by simp) (by simp) (by simp) (by simp) (by simp) (fun out hC hE => ?_) (by simp)
  cases hh : hd l with
  | no a w =>
   rw [hh] at hE
   obtain ⟨e1, ⟨cs, e4, e5⟩, e2, e3⟩ := hE
   subst e1
   obtain ⟨hCb, hCc⟩ := hC
   simp only at e4 e2 e3
   obtain ⟨b0, br, hb⟩ := bx_two e4
   subst hb
   refine ⟨by simp; simpa using e3, ?_⟩
   simp only [uniS, hh, andThen_noE]
   obtain ⟨c0, c1, c2, c3, c4, c5, y, c', hu⟩ := upH_pan _ _ _ _ b0 cs 25 br _ hCc [] 1 e5
   rw [hu]
   exact ⟨_, _, _, _, _, _, _, _, _, _, by simp [stopV], rfl⟩
  | out => exact absurd hh (fun e => hin (by simp [uniS, e, Res.andThen]))
  | ok p r =>
   rw [hh] at hE
   obtain ⟨b, c, e1, e2⟩ := hE
   subst e1 e2
   refine ⟨by simp, ?_⟩
   simp [c19t]
   have hwl := hwf p r hh
   have hinB : bodyS n 0 0 r ≠ .out := fun e => hin (by simp [uniS, hh, e, Res.andThen])
   have hB := (allC n).body 0 r 0 p.2 (.int .i64 12) (.str p.1) (.int .i64 0) (.int .i64 p.2.length) (by omega) hwl.1 hwl.2 hinB
   refine ATT.callA Tryz.func19 60 [3, 0] [0] 0 1 hB (by simp) (by simp) (by simp) (by simp) (by simp) (fun out hC hE => ?_) (by simp)
   cases hres : bodyS n 0 0 r with
   | out => exact absurd hres hinB
   | no a w =>
    simp only [hres, BR] at hE
    obtain ⟨e1, ⟨cs, e4, e5⟩, e2, e3⟩ := hE
    subst e1
    obtain ⟨hCb, hCc⟩ := hC
    simp only at e4 e2 e3
    obtain ⟨b0, br, hb⟩ := bx_two e4
    subst hb
    refine ⟨by simp; simpa using e3, ?_⟩
    simp only [uniS, hh, hres, andThen_okE, andThen_noE]
    obtain ⟨c0, c1, c2, c3, c4, c5, y, c', hu⟩ := upH_pan _ _ _ _ b0 cs 25 br _ hCc [0] 1 e5
    rw [hu]
    exact ⟨_, _, _, _, _, _, _, _, _, _, by simp [stopV], rfl⟩
   | ok x r' =>
    simp only [hres, BR] at hE
    obtain ⟨b, c, ds, e1, e2, hds⟩ := hE
    subst e1 e2
    refine ⟨by simp, ?_⟩
    simp only [uniS, hh, hres, andThen_okE]
    simp [c19t]
    obtain ⟨xn, xk⟩ := x
    simp only
    cases hnm : p.2 ++ xn with
    | nil =>
     obtain ⟨h1, h2⟩ := List.append_eq_nil_iff.mp hnm
     simp only [h1, h2]
     cases ds with
     | nil =>
      refine ATT.fz (by simp) ?_
      simp
      refine ATT.finD Tryz.func19 (by simp) rfl (by simp) ?_
      exact ⟨_, _, _, _, _, _, _, _, ⟨_, rfl⟩, rfl, NdR.mk (by simp) (by simp) (fun h => by first | (simp at h; done) | (have := hds.length; exact List.length_eq_zero_iff.mp this.symm)) (by simp) hds⟩
     | cons d0 ds =>
      refine ATT.fz (by simp) ?_
      simp
      refine ATT.finD Tryz.func19 (by simp) rfl (by simp) ?_
      exact ⟨_, _, _, _, _, _, _, _, ⟨_, rfl⟩, rfl, NdR.mk (by simp) (by simp) (fun h => by first | (simp at h; done) | (have := hds.length; exact List.length_eq_zero_iff.mp this.symm)) (by simp) hds⟩
    | cons y yr =>
     have hlen : p.2.length + xn.length = (y :: yr).length := by rw [← hnm]; simp
     have hmm : (p.2.map fun s => V.d (.str s)) ++ (xn.map fun s => V.d (.str s)) = (y :: yr).map fun s => V.d (.str s) := by rw [← hnm]; simp
     simp only [hlen, hmm]
     cases ds with
     | nil =>
      refine ATT.fz (by simp) ?_
      simp
      refine ATT.finD Tryz.func19 (by simp) rfl (by simp) ?_
      exact ⟨_, _, _, _, _, _, _, _, ⟨_, rfl⟩, rfl, NdR.mk (by simp) (by simp) (fun h => by first | (simp at h; done) | (have := hds.length; exact List.length_eq_zero_iff.mp this.symm)) (by simp) hds⟩
     | cons d0 ds =>
      refine ATT.fz (by simp) ?_
      simp
      refine ATT.finD Tryz.func19 (by simp) rfl (by simp) ?_
      exact ⟨_, _, _, _, _, _, _, _, ⟨_, rfl⟩, rfl, NdR.mk (by simp) (by simp) (fun h => by first | (simp at h; done) | (have := hds.length; exact List.length_eq_zero_iff.mp this.symm)) (by simp) hds⟩
 ·intro out h1 hq
  cases hr : uniS n hd l with
  | out => exact absurd hr hin
  | no a w =>
   rw [hr] at hq hQ
   obtain ⟨c0, c1, c2, c3, c4, c5, x1, x2, b, c, e1, e2⟩ := hq
   subst e1 e2
   refine (f27_some a w c0 c1 c2 c3 c4 c5 x1 x2 b c).mono fun h ⟨b', c', e⟩ => ?_
   subst e
   exact ⟨_, rfl, hQ _ _ ⟨_, rfl, rfl⟩⟩
  | ok x r =>
   rw [hr] at hq hQ
   obtain ⟨c0, c1, c2, c3, c4, c5, b, c, ⟨v, e1⟩, e2, hx⟩ := hq
   subst e1 e2
   refine (f27_none (.d c0) (.d c1) (.d c2) (.d c3) (.d c4) (.d c5) (.d (.int .i64 0)) (.d (.int .i64 0)) b c).mono fun h ⟨b', c', e⟩ => ?_
   subst e
   exact ⟨_, rfl, hQ _ _ ⟨_, rfl, _, rfl, hx⟩⟩
end Go.SL
namespace Go.SL
open Go.Proofs
set_option maxRecDepth 10000
theorem patKeysS_wf : ∀ {n : Nat} {s : ByteArray} {acc : List ByteArray} {l : List Tk} {x r}, WF l → patKeysS n s acc l = .ok x r → WF r ∧ x.2.length + r.length ≤ acc.length + l.length
 | 0, s, acc, l, x, r, h, e => by simp [patKeysS] at e
 | n + 1, s, acc, l, x, r, h, e => by
  simp only [patKeysS] at e
  split at e
  ·rename_i hk
   have h1 := h.short hk (by decide)
   split at e
   ·rename_i hk2
    have h2 := h1.1.short hk2 (by decide)
    have h3 := patKeysS_wf h2.1 e
    have := h1.2; have := h2.2
    exact ⟨h3.1, by have := h3.2; simp at this; omega⟩
   ·simp at e
  ·simp only [Res.ok.injEq] at e
   obtain ⟨e1, e2⟩ := e
   subst e1 e2
   exact ⟨h, Nat.le_refl _⟩
theorem patS_wf {n : Nat} {l : List Tk} {x r} (h : WF l) (e : patS n l = .ok x r) : WF r ∧ x.2.length ≤ 5000 := by
 have hl := h.2.2
 simp only [patS] at e
 split at e
 ·rename_i hk
  have h1 := h.short hk (by decide)
  simp only [Res.ok.injEq] at e
  obtain ⟨e1, e2⟩ := e
  subst e1 e2
  exact ⟨h1.1, by simp⟩
 split at e
 ·rename_i hk
  have h1 := h.short hk (by decide)
  split at e
  ·rename_i hk2
   have h2 := h1.1.short hk2 (by decide)
   simp only [Res.ok.injEq] at e
   obtain ⟨e1, e2⟩ := e
   subst e1 e2
   exact ⟨h2.1, by simp⟩
  ·simp at e
 split at e
 ·have h3 := patKeysS_wf h e
  exact ⟨h3.1, by have := h3.2; simp at this; omega⟩
 ·simp at e
theorem patKeysS_in : ∀ {n : Nat} {s : ByteArray} {acc : List ByteArray} {l : List Tk}, WF l → l.length ≤ n → patKeysS n s acc l ≠ .out
 | 0, s, acc, l, h, hn => by obtain ⟨t, r, e⟩ := h.cons; subst e; simp at hn
 | n + 1, s, acc, l, h, hn => by
  simp only [patKeysS]
  split
  ·rename_i hk
   have h1 := h.short hk (by decide)
   split
   ·rename_i hk2
    have h2 := h1.1.short hk2 (by decide)
    exact patKeysS_in h2.1 (by have := h1.2; have := h2.2; omega)
   ·simp
  ·simp
theorem patS_in {n : Nat} {l : List Tk} (h : WF l) (hn : l.length ≤ n) : patS n l ≠ .out := by
 simp only [patS]
 split
 ·simp
 split
 ·split <;> simp
 split
 ·exact patKeysS_in h hn
 ·simp
theorem subT_le (s : ByteArray) (i j : Nat) : (subT s i j).size ≤ s.size := by simp [subT]; omega
theorem wordS_text {num : ByteArray → Bool} {s : ByteArray} (hs : s.size ≤ 4096) {i : Nat} {k : Int} {t : ByteArray} {e : Nat} (h : wordS num s i = some (k, t, e)) : t.size ≤ 1048576 := by
 have sb : ∀ a b, (subT s a b).size ≤ 1048576 := fun a b => by have := subT_le s a b; omega
 have qb : ∀ q, quB q = true → (quT q).size ≤ 1048576 := fun q h => by
  cases q with
  | none => simp [quB] at h
  | some l =>
   simp only [quB, decide_eq_true_eq] at h
   show l.toArray.size ≤ 1048576
   simp; omega
 unfold wordS at h
 have key : ∀ {k' : Int} {t' : ByteArray} {e' : Nat}, some (k', t', e') = some (k, t, e) → t'.size ≤ 1048576 → t.size ≤ 1048576 := fun h1 h2 => by
  simp only [Option.some.injEq, Prod.mk.injEq] at h1
  rw [← h1.2.1]; exact h2
 split at h
 ·split at h
  ·exact key h (sb _ _)
  ·exact key h (sb _ _)
 split at h
 ·split at h
  ·exact key h (sb _ _)
  ·simp at h
 split at h
 ·split at h
  ·rename_i hq
   exact key h (qb _ hq)
  ·simp at h
 split at h
 ·split at h
  ·exact key h (sb _ _)
  ·split at h
   ·rename_i hq
    refine key h ?_
    unfold symT
    unfold symB at hq
    split
    ·exact sb _ _
    ·rename_i hn
     rw [if_neg hn] at hq
     exact qb _ hq
   ·simp at h
 split at h
 ·split at h
  ·exact key h (sb _ _)
  ·exact key h (sb _ _)
 split at h
 ·exact key h (sb _ _)
 split at h
 ·exact key h (sb _ _)
 ·simp at h
theorem lexS_wf0 {num : ByteArray → Bool} {s : ByteArray} (hs : s.size ≤ 4096) : ∀ m i l, s.size - i = m → i ≤ s.size → lexS num s i = .inl l → (∃ a t, l = a ++ [t] ∧ t.k = 0) ∧ (∀ t ∈ l, t.t.size ≤ 1048576) ∧ l.length ≤ s.size - i + 1 := by
 intro m
 induction m using Nat.strongRecOn with
 | ind m ih =>
  intro i l hm hi h
  rw [lexS_eq] at h
  have h1 := skipS_le blankS s _ i rfl
  split at h
  ·rename_i hlt
   split at h
   ·split at h
    ·rename_i hq
     have h2 := skipS_le notQ s _ (skipS blankS s i + 1) rfl
     obtain ⟨g1, g2, g3⟩ := ih _ (by omega) _ _ rfl (by omega) h
     exact ⟨g1, g2, by omega⟩
    ·simp at h
   ·split at h
    ·rename_i k t e hw
     have hwl := wordS_lt hlt hw
     rw [if_pos hwl.1] at h
     split at h
     ·rename_i l' hl'
      simp only [Sum.inl.injEq] at h
      subst h
      obtain ⟨⟨a, t', g0, g1⟩, g2, g3⟩ := ih _ (by have := hwl.2; omega) _ _ rfl (by have := hwl.2; omega) hl'
      refine ⟨⟨⟨k, t, skipS blankS s i⟩ :: a, t', by rw [g0]; rfl, g1⟩, ?_, by have := hwl.1; have := hwl.2; simp only [List.length_cons]; omega⟩
      intro y hy
      simp only [List.mem_cons] at hy
      rcases hy with hy | hy
      ·subst hy; exact wordS_text hs hw
      ·exact g2 y hy
     ·simp at h
    ·simp at h
  ·simp only [Sum.inl.injEq] at h
   subst h
   exact ⟨⟨[], _, rfl, rfl⟩, by intro y hy; simp at hy; subst hy; exact Nat.zero_le _, by simp⟩
theorem lexS_wf {num : ByteArray → Bool} {s : ByteArray} (hs : s.size ≤ 4096) {l : List Tk} (h : lexS num s 0 = .inl l) : WF l := by
 obtain ⟨g1, g2, g3⟩ := lexS_wf0 hs _ 0 l rfl (Nat.zero_le _) h
 exact ⟨g1, g2, by omega⟩
def fuel (l : List Tk) : Nat := 20 * l.length + 20
theorem uniS_in {hd : List Tk → Res (ByteArray × List ByteArray)} {l : List Tk} (h1 : hd l ≠ .out) (h2 : ∀ p r, hd l = .ok p r → WF r ∧ r.length ≤ l.length) : uniS (fuel l) hd l ≠ .out := by
 refine andThen_in h1 fun p r e => andThen_in ?_ fun _ _ _ => by simp
 have h3 := h2 p r e
 exact (enough (fuel l)).body h3.1 (by unfold fuel; have := h3.2; omega)
def headS (m : Bool) (l : List Tk) : Res (ByteArray × List ByteArray) := if m then patS (fuel l) l else .ok (⟨#[]⟩, []) l
def parseD (num : ByteArray → Bool) (m : Bool) (s : ByteArray) : Res Nd :=
 if 4096 < s.size then .no 0 3 else
 match lexS num s 0 with
 | .inl l => uniS (fuel l) (headS m) l
 | .inr a => .no a 20
theorem patKeysS_le : ∀ {n : Nat} {s : ByteArray} {acc : List ByteArray} {l : List Tk} {x r}, patKeysS n s acc l = .ok x r → r.length ≤ l.length
 | 0, s, acc, l, x, r, e => by simp [patKeysS] at e
 | n + 1, s, acc, l, x, r, e => by
  simp only [patKeysS] at e
  split at e
  ·split at e
   ·have h3 := patKeysS_le e
    simp at h3; omega
   ·simp at e
  ·simp only [Res.ok.injEq] at e
   rw [e.2]; exact Nat.le_refl _
theorem patS_le {n : Nat} {l : List Tk} {x r} (e : patS n l = .ok x r) : r.length ≤ l.length := by
 simp only [patS] at e
 split at e
 ·simp only [Res.ok.injEq] at e; rw [← e.2]; simp
 split at e
 ·split at e
  ·simp only [Res.ok.injEq] at e; rw [← e.2]; simp; omega
  ·simp at e
 split at e
 ·exact patKeysS_le e
 ·simp at e
theorem headS_wf {m : Bool} {l : List Tk} {x r} (h : WF l) (e : headS m l = .ok x r) : WF r ∧ x.2.length ≤ 5000 := by
 cases m with
 | true => exact patS_wf h e
 | false => simp only [headS, Bool.false_eq_true, if_false, Res.ok.injEq] at e; rw [← e.1, ← e.2]; exact ⟨h, by simp⟩
theorem headS_le {m : Bool} {l : List Tk} {x r} (e : headS m l = .ok x r) : r.length ≤ l.length := by
 cases m with
 | true => exact patS_le e
 | false => simp only [headS, Bool.false_eq_true, if_false, Res.ok.injEq] at e; rw [← e.2]; exact Nat.le_refl _
theorem headS_in {m : Bool} {l : List Tk} (h : WF l) : headS m l ≠ .out := by
 cases m with
 | true => exact patS_in h (by unfold fuel; omega)
 | false => simp [headS]
theorem parseD_in (num : ByteArray → Bool) (m : Bool) (s : ByteArray) : parseD num m s ≠ .out := by
 unfold parseD
 split
 ·simp
 ·split
  ·rename_i hs l hl
   have hwf := lexS_wf (by omega) hl
   exact uniS_in (headS_in hwf) fun p r e => ⟨(headS_wf hwf e).1, headS_le e⟩
  ·simp
theorem f19_ok {num : ByteArray → Bool} (hW : NumP 71 num) (s : ByteArray) (hs : s.size ≤ 1073741820) (m : Bool) (g : FuncId) (hH : ∀ l, WF l → AF Tryz.prog g [.ptr 0 0, .ptr 1 0] ⟨[PB l 0, UB0], []⟩ (HR 0 (headS m l))) :
  DE Tryz.prog 19 [.str s, .fn (.func g) [] []] (UnR (parseD num m s)) := by
 unfold parseD
 by_cases hz : 4096 < s.size
 ·rw [if_pos hz]
  have := f19_no hW s hs 0 3 (by decide) (by simp [readD, hz]) g
  exact this.mono fun o h e => ⟨_, e, rfl⟩
 ·rw [if_neg hz]
  cases hl : lexS num s 0 with
  | inr a =>
   have := f19_no hW s hs a 20 (by decide) (by simp [readD, hz, hl]) g
   exact this.mono fun o h e => ⟨_, e, rfl⟩
  | inl l =>
   have hwf := lexS_wf (by omega) hl
   exact f19_yes hW s hs l hwf (by simp [readD, hz, hl]) g (headS m) (hH l hwf) (fun p r e => headS_wf hwf e) (fuel l) (uniS_in (headS_in hwf) fun p r e => ⟨(headS_wf hwf e).1, headS_le e⟩)
theorem f8_ok {num : ByteArray → Bool} (hW : NumP 71 num) (s : ByteArray) (hs : s.size ≤ 1073741820) : DE Tryz.prog 8 [.str s] (UnR (parseD num false s)) := by
 have hU := f19_ok hW s hs false 20 fun l _ => f20_ok l 0
 refine AF.start' 60 Tryz.func8 rfl rfl c8call c8ok fun Q hQ => ?_
 simp [c8c, c8t]
 refine ATT.callE Tryz.func8 60 hU (by simp) (by simp) (by simp) fun v hv => ?_
 cases hr : parseD num false s with
 | ok x l =>
  rw [hr] at hv hQ
  obtain ⟨u, e, hu⟩ := hv
  subst e
  obtain ⟨nl1_u, z1_u, nl2_u, z2_u, ds_u, hv_u, ha_u, hb_u, hc_u, hd_u, he_u⟩ := hu.shape
  have hw_u := hv_u
  subst hw_u
  simp
  refine ATT.fin' hQ Tryz.func8 c8res ?_
  exact ⟨by simp, _, rfl, _, rfl, hu⟩
 | no a w =>
  rw [hr] at hv hQ
  have e : v = _ := hv
  subst e
  simp
  refine ATT.fin' hQ Tryz.func8 c8res ?_
  exact ⟨by simp, _, rfl, rfl⟩
 | out => exact absurd hr (parseD_in _ _ _)
theorem f16_ok {num : ByteArray → Bool} (hW : NumP 71 num) (s : ByteArray) (hs : s.size ≤ 1073741820) : DE Tryz.prog 16 [.str s] (UnR (parseD num true s)) := by
 have hU := f19_ok hW s hs true 25 fun l hl => f25_ok (fuel l) 0 l hl (by unfold fuel; omega)
 refine AF.start' 60 Tryz.func16 rfl rfl c16call c16ok fun Q hQ => ?_
 simp [c16c, c16t]
 refine ATT.callE Tryz.func16 60 hU (by simp) (by simp) (by simp) fun v hv => ?_
 cases hr : parseD num true s with
 | ok x l =>
  rw [hr] at hv hQ
  obtain ⟨u, e, hu⟩ := hv
  subst e
  obtain ⟨nl1_u, z1_u, nl2_u, z2_u, ds_u, hv_u, ha_u, hb_u, hc_u, hd_u, he_u⟩ := hu.shape
  have hw_u := hv_u
  subst hw_u
  simp
  refine ATT.fin' hQ Tryz.func16 c16res ?_
  exact ⟨by simp, _, rfl, _, rfl, hu⟩
 | no a w =>
  rw [hr] at hv hQ
  have e : v = _ := hv
  subst e
  simp
  refine ATT.fin' hQ Tryz.func16 c16res ?_
  exact ⟨by simp, _, rfl, rfl⟩
 | out => exact absurd hr (parseD_in _ _ _)
end Go.SL
namespace Go.SL
open Go.Proofs
set_option maxRecDepth 10000
def cnt (s : ByteArray) : Nat → Nat
 | 0 => 0
 | i + 1 => cnt s i + (if sbyte s i = 58 then 1 else 0)
@[simp] theorem cnt_zero (s : ByteArray) : cnt s 0 = 0 := rfl
theorem cnt_no {s : ByteArray} {i : Nat} (h : 128 ≤ sbyte s i) : cnt s (i + 1) = cnt s i := by
 simp only [cnt]; rw [if_neg (by omega)]; rfl
theorem cnt_le (s : ByteArray) : ∀ i, cnt s i ≤ i
 | 0 => Nat.le_refl _
 | i + 1 => by have := cnt_le s i; simp only [cnt]; split <;> omega
theorem rune_of (s : ByteArray) (i : Nat) (h : i < s.size) : ∃ c w, Utf8.decode s i = (c, w) ∧ 0 < w ∧ i + w ≤ s.size ∧ cnt s (i + w) = cnt s i + (if (c : Int) = 58 then 1 else 0) := by
 have e0 := get_sbyte s _ h
 unfold Utf8.decode
 simp only [Nat.add_zero]
 split
 ·rename_i h0
  refine ⟨_, 1, rfl, by omega, by omega, ?_⟩
  simp only [cnt, e0]
 rename_i h0
 have c1 : cnt s (i + 1) = cnt s i := cnt_no (by omega)
 have err : ∃ c w, (Utf8.runeError, 1) = (c, w) ∧ 0 < w ∧ i + w ≤ s.size ∧ cnt s (i + w) = cnt s i + (if (c : Int) = 58 then 1 else 0) := ⟨_, 1, rfl, by omega, by omega, by rw [c1, if_neg (by decide)]; rfl⟩
 split
 ·rename_i h1
  simp only [Bool.and_eq_true, decide_eq_true_eq, beq_iff_eq] at h1
  split
  ·rename_i h2
   have e1 := get_sbyte s _ h1.2.1
   have c2 : cnt s (i + 2) = cnt s (i + 1) := cnt_no (by omega)
   exact ⟨_, 2, rfl, by omega, by omega, by rw [c2, c1, if_neg (by omega)]; rfl⟩
  ·exact err
 split
 ·rename_i h1
  simp only [Bool.and_eq_true, decide_eq_true_eq, beq_iff_eq] at h1
  split
  ·rename_i h2
   simp only [Bool.and_eq_true, decide_eq_true_eq] at h2
   have e1 := get_sbyte s _ h1.1.2.1
   have e2 := get_sbyte s _ h1.2.1
   have c2 : cnt s (i + 2) = cnt s (i + 1) := cnt_no (by omega)
   have c3 : cnt s (i + 3) = cnt s (i + 2) := cnt_no (by omega)
   exact ⟨_, 3, rfl, by omega, by omega, by rw [c3, c2, c1, if_neg (by omega)]; rfl⟩
  ·exact err
 split
 ·rename_i h1
  simp only [Bool.and_eq_true, decide_eq_true_eq, beq_iff_eq] at h1
  split
  ·rename_i h2
   simp only [Bool.and_eq_true, decide_eq_true_eq] at h2
   have e1 := get_sbyte s _ h1.1.1.2.1
   have e2 := get_sbyte s _ h1.1.2.1
   have e3 := get_sbyte s _ h1.2.1
   have c2 : cnt s (i + 2) = cnt s (i + 1) := cnt_no (by omega)
   have c3 : cnt s (i + 3) = cnt s (i + 2) := cnt_no (by omega)
   have c4 : cnt s (i + 4) = cnt s (i + 3) := cnt_no (by omega)
   exact ⟨_, 4, rfl, by omega, by omega, by rw [c4, c3, c2, c1, if_neg (by omega)]; rfl⟩
  ·exact err
 ·exact err
def plainB (s : ByteArray) : Bool := decide (0 < s.size) && letterS (sbyte s 0) && decide (nameS s 0 = s.size)
def argsN (s : ByteArray) : Nat := if plainB s then 0 else if s.size = 0 ∨ plainB (s.extract 0 1) = true then cnt s s.size else 1
theorem f13_ok (s : ByteArray) (hs : s.size ≤ 1073741824) : DF Tryz.prog 13 [.str s] (.int .i64 (argsN s)) := by
 have hP := f23_ok s hs
 refine AF.start' 60 Tryz.func13 rfl rfl c13call c13ok fun Q hQ => ?_
 simp [c13c, c13t]
 refine ATT.loopG 60 c13l7.eq_1 (fun ((i, n) : Nat × Nat) => s.size - i) (fun ((i, n) : Nat × Nat) => i ≤ s.size ∧ n = cnt s i) (fun ((i, n) : Nat × Nat) => [(0, .d (.str s)), (3, .d (.int .i64 n)), (7, .ptr 0 0)]) (fun ((i, n) : Nat × Nat) => [.iter s i]) (fun ((i, n) : Nat × Nat) => []) ((0, 0)) (by (try dsimp only); exact ⟨Nat.zero_le _, rfl⟩) (by simp <;> omega) (by simp) (by simp) ?_
 intro ⟨i, n⟩ u w hI ih
 try simp only at hI ih
 obtain ⟨i1, i2⟩ := hI
 by_cases hi : i < s.size
 ·obtain ⟨c, w', hdec, hw, hle, hc⟩ := rune_of s i hi
  have hcl := cnt_le s i
  have hII : inI ((n : Int) + 1) = true := inI_of (by omega) (by omega)
  by_cases h58 : (c : Int) = 58
  ·rw [if_pos h58, ← i2] at hc
   simp [c13t, hi, hdec, eq_true h58, hII]
   refine ih (i + w', n + 1) (by first | ((try dsimp only); omega) | (simp [hi, hdec, eq_true h58, hII] <;> omega)) (by (try dsimp only); exact ⟨hle, hc.symm⟩) _ _ _ (by simp <;> omega) (by simp <;> omega) (by simp <;> omega)
  ·rw [if_neg h58, Nat.add_zero, ← i2] at hc
   simp [c13t, hi, hdec, h58]
   refine ih (i + w', n) (by first | ((try dsimp only); omega) | (simp [hi, hdec, h58] <;> omega)) (by (try dsimp only); exact ⟨hle, hc.symm⟩) _ _ _ (by simp <;> omega) (by simp <;> omega) (by simp <;> omega)
 ·have hie : i = s.size := by omega
  subst hie
  simp [c13t, hi]
  have hP' : DF Tryz.prog 23 [.str s] (.bool (plainB s)) := hP
  unfold argsN at hQ
  cases hb : plainB s with
  | true =>
   rw [hb] at hP'
   simp only [hb, if_true] at hQ
   refine ATT.callD Tryz.func13 60 (hP') (by simp) (by simp) (by simp) ?_
   simp [c13t]
   refine ATT.fin' hQ Tryz.func13 c13res ?_
   simp
   all_goals (first | omega | exact ⟨_, rfl⟩ | skip)
  | false =>
   rw [hb] at hP'
   simp only [hb, Bool.false_eq_true, if_false] at hQ
   refine ATT.callD Tryz.func13 60 (hP') (by simp) (by simp) (by simp) ?_
   simp [c13t]
   by_cases h0 : s.size = 0
   ·have he : s = ⟨#[]⟩ := by
     have : s.data.size = 0 := h0
     rcases s with ⟨d⟩
     simp at this
     rw [this]
    simp only [h0, true_or, if_true] at hQ
    simp [c13t, eq_true he]
    refine ATT.fin' hQ Tryz.func13 c13res ?_
    simp
    all_goals (first | omega | exact ⟨_, rfl⟩ | skip)
    simp [i2, h0]
   ·have he : ¬ s = ⟨#[]⟩ := fun e => h0 (by rw [e]; rfl)
    have h1 : (1 : Int) ≤ s.size := by omega
    have hP2 : DF Tryz.prog 23 [.str (s.extract 0 1)] (.bool (plainB (s.extract 0 1))) := f23_ok (s.extract 0 1) (by simp; omega)
    simp only [h0, false_or] at hQ
    simp [he, h1]
    cases hb2 : plainB (s.extract 0 1) with
    | true =>
     rw [hb2] at hP2
     simp only [hb2, if_true] at hQ
     refine ATT.callD Tryz.func13 60 (hP2) (by simp) (by simp) (by simp) ?_
     simp [c13t]
     refine ATT.fin' hQ Tryz.func13 c13res ?_
     simp
     all_goals (first | omega | exact ⟨_, rfl⟩ | skip)
    | false =>
     rw [hb2] at hP2
     simp only [hb2, Bool.false_eq_true, if_false] at hQ
     refine ATT.callD Tryz.func13 60 (hP2) (by simp) (by simp) (by simp) ?_
     simp [c13t]
     refine ATT.fin' hQ Tryz.func13 c13res ?_
     simp
     all_goals (first | omega | exact ⟨_, rfl⟩ | skip)
def numS (t : ByteArray) : Bool := !(decide (sbyte t 0 = 48) && decide (1 < t.size)) && decide (t.size ≤ 400) && decide (dval t t.size < 256 ^ 128)
theorem NumP_of {f : FuncId} (h : ∀ s, digs s → s.size ≤ 1073741824 → DE Tryz.prog f [.str s] (ReadQ s)) : NumP f numS := fun t hd ht => by
 refine AF.mono (h t hd ht) fun o h' hq => ?_
 obtain ⟨v, e, hv⟩ := hq
 refine ⟨v, e, ?_⟩
 unfold ReadQ at hv
 unfold numS
 split at hv
 ·rename_i h0
  exact ⟨_, _, _, _, _, hv, by simp [h0.1, h0.2]⟩
 rename_i h0
 split at hv
 ·rename_i h4
  exact ⟨_, _, _, _, _, hv, by simp; intro _ _; omega⟩
 rename_i h4
 have h0' : (decide (sbyte t 0 = 48) && decide (1 < t.size)) = false := by simpa using h0
 have h4' : t.size ≤ 400 := by omega
 split at hv
 ·rename_i hn
  obtain ⟨u, e1, k, u', e2, nl, sz, l, e3, _⟩ := hv
  subst e2 e3
  exact ⟨_, _, _, _, _, e1, by simp only [h0', h4', hn]; simp⟩
 ·rename_i hn
  exact ⟨_, _, _, _, _, hv, by simp only [h0', h4', hn]; simp⟩
theorem hWhole : NumP 71 numS := NumP_of f71_ok
end Go.SL
namespace Go.SL
open Go.Proofs
set_option maxRecDepth 10000
@[simp] theorem bsV_nil : bsV [] = [] := rfl
def boundN (s : ByteArray) : Nat := if plainB s then 2 else if plainB (s.extract 0 1) then 0 else 1
theorem f89_ok (s : ByteArray) (h0 : 0 < s.size) (hs : s.size ≤ 1073741824) : DF Tryz.prog 89 [.str s] (.int .i64 (boundN s)) := by
 have hP : DF Tryz.prog 23 [.str s] (.bool (plainB s)) := f23_ok s hs
 have hP2 : DF Tryz.prog 23 [.str (s.extract 0 1)] (.bool (plainB (s.extract 0 1))) := f23_ok (s.extract 0 1) (by simp; omega)
 have h1 : (1 : Int) ≤ s.size := by omega
 refine AF.start' 60 Tryz.func89 rfl rfl c89call c89ok fun Q hQ => ?_
 simp [c89c, c89t]
 unfold boundN at hQ
 cases hb : plainB s with
 | true =>
  rw [hb] at hP
  simp only [hb, if_true] at hQ
  refine ATT.callD Tryz.func89 60 (hP) (by simp) (by simp) (by simp) ?_
  simp [c89t]
  refine ATT.fin' hQ Tryz.func89 c89res ?_
  simp
  all_goals (first | omega | exact ⟨_, rfl⟩ | skip)
 | false =>
  rw [hb] at hP
  simp only [hb, Bool.false_eq_true, if_false] at hQ
  refine ATT.callD Tryz.func89 60 (hP) (by simp) (by simp) (by simp) ?_
  simp [c89t, h1]
  cases hb2 : plainB (s.extract 0 1) with
  | true =>
   rw [hb2] at hP2
   simp only [hb2, if_true] at hQ
   refine ATT.callD Tryz.func89 60 (hP2) (by simp) (by simp) (by simp) ?_
   simp [c89t]
   refine ATT.fin' hQ Tryz.func89 c89res ?_
   simp
   all_goals (first | omega | exact ⟨_, rfl⟩ | skip)
  | false =>
   rw [hb2] at hP2
   simp only [hb2, Bool.false_eq_true, if_false] at hQ
   refine ATT.callD Tryz.func89 60 (hP2) (by simp) (by simp) (by simp) ?_
   simp [c89t]
   refine ATT.fin' hQ Tryz.func89 c89res ?_
   simp
   all_goals (first | omega | exact ⟨_, rfl⟩ | skip)
abbrev ND (k : Int) (t : ByteArray) (a : Nat) (m : Bool) (z : Nat) (ks : D) : D := .agg [.int .i64 k, .str t, .int .i64 a, .int .i64 0, .sl m z [], ks]
theorem f116_name (t : ByteArray) (a : Nat) (m : Bool) (z : Nat) (m2 : Bool) (z2 : Nat) (ds : List D) : DF Tryz.prog 116 [ND 5 t a m z (.sl m2 z2 ds)] (.int .i64 2) := by
 refine AF.start' 60 Tryz.func116 rfl rfl c116call c116ok fun Q hQ => ?_
 simp [c116c, c116t]
 refine ATT.fin' hQ Tryz.func116 c116res ?_
 simp
 all_goals (first | omega | exact ⟨_, rfl⟩ | skip)
theorem f116_num (t : ByteArray) (a : Nat) (m : Bool) (z : Nat) (m2 : Bool) (z2 : Nat) (ds : List D) : DF Tryz.prog 116 [ND 1 t a m z (.sl m2 z2 ds)] (.int .i64 2) := by
 refine AF.start' 60 Tryz.func116 rfl rfl c116call c116ok fun Q hQ => ?_
 simp [c116c, c116t]
 refine ATT.fin' hQ Tryz.func116 c116res ?_
 simp
 all_goals (first | omega | exact ⟨_, rfl⟩ | skip)
theorem f116_send (t : ByteArray) (a : Nat) (m : Bool) (z : Nat) (m2 : Bool) (z2 : Nat) (ds : List D) (h0 : 0 < t.size) (hs : t.size ≤ 1073741824) : DF Tryz.prog 116 [ND 7 t a m z (.sl m2 z2 ds)] (.int .i64 (boundN t)) := by
 refine AF.start' 60 Tryz.func116 rfl rfl c116call c116ok fun Q hQ => ?_
 simp [c116c, c116t]
 refine ATT.callD Tryz.func116 60 (f89_ok t h0 hs) (by simp) (by simp) (by simp) ?_
 simp
 refine ATT.fin' hQ Tryz.func116 c116res ?_
 simp
 all_goals (first | omega | exact ⟨_, rfl⟩ | skip)
def WR (n : Nat) (f : FuncId) (args : List D) (txt : List UInt8) : Prop := n + txt.length ≤ 1000000 ∧ ∀ b l, l.length ≤ n → VF Tryz.prog f (.ptr 0 0 :: args.map .d) [BB 0 0 71 b l] [BV 5 0 l] (.d (.tup [])) [BB 0 0 71 true (l ++ txt)] [BV 5 0 (l ++ txt)]
theorem hTW : hasT bldL 71 2 = true := by decide
theorem f33_name (n : Nat) (t : ByteArray) (a : Nat) (m : Bool) (z : Nat) (m2 : Bool) (z2 : Nat) (ds : List D) (hn : n + t.size ≤ 1000000) : WR n 33 [ND 5 t a m z (.sl m2 z2 ds)] t.data.toList := by
 refine ⟨by simpa using hn, fun b l hl => ?_⟩
 refine AF.start' 60 Tryz.func33 rfl rfl c33call c33ok fun Q hQ => ?_
 simp [c33c, c33t]
 refine ATT.callRV Tryz.func33 60 [0] [0] (f54_ok 71 hTW b l t (by omega)) (by simp) (by simp) (by simp) (by simp) (by simp) (by simp) (by simp) ?_
 simp
 refine ATT.fin0' hQ Tryz.func33 c33res ?_
 simp
 all_goals (first | omega | exact ⟨_, rfl⟩ | skip)
theorem f33_num (n : Nat) (t : ByteArray) (a : Nat) (m : Bool) (z : Nat) (m2 : Bool) (z2 : Nat) (ds : List D) (hn : n + t.size ≤ 1000000) : WR n 33 [ND 1 t a m z (.sl m2 z2 ds)] t.data.toList := by
 refine ⟨by simpa using hn, fun b l hl => ?_⟩
 refine AF.start' 60 Tryz.func33 rfl rfl c33call c33ok fun Q hQ => ?_
 simp [c33c, c33t]
 refine ATT.callRV Tryz.func33 60 [0] [0] (f54_ok 71 hTW b l t (by omega)) (by simp) (by simp) (by simp) (by simp) (by simp) (by simp) (by simp) ?_
 simp
 refine ATT.fin0' hQ Tryz.func33 c33res ?_
 simp
 all_goals (first | omega | exact ⟨_, rfl⟩ | skip)
theorem f88_ok (n : Nat) (k : Int) (t : ByteArray) (a : Nat) (m : Bool) (z : Nat) (m2 : Bool) (z2 : Nat) (ds : List D) (lv le : Nat) (txt : List UInt8) (hl : DF Tryz.prog 116 [ND k t a m z (.sl m2 z2 ds)] (.int .i64 lv)) (hle : le ≤ lv) (hn : WR n 33 [ND k t a m z (.sl m2 z2 ds)] txt) :
  WR n 88 [ND k t a m z (.sl m2 z2 ds), .int .i64 le] txt := by
 refine ⟨hn.1, fun b l hlen => ?_⟩
 have hle' : (le : Int) ≤ lv := by omega
 refine AF.start' 60 Tryz.func88 rfl rfl c88call c88ok fun Q hQ => ?_
 simp [c88c, c88t]
 refine ATT.callD Tryz.func88 60 (hl) (by simp) (by simp) (by simp) ?_
 simp [c88t, hle']
 refine ATT.callV Tryz.func88 60 [0] [0] (hn.2 b l hlen) (by simp) (by simp) (by simp) (by simp) (by simp) (by simp) (by simp) ?_
 simp
 refine ATT.fin' hQ Tryz.func88 c88res ?_
 simp
 all_goals (first | omega | exact ⟨_, rfl⟩ | skip)
theorem f59_ok (n : Nat) (k : Int) (t : ByteArray) (a : Nat) (m : Bool) (z : Nat) (m2 : Bool) (z2 : Nat) (ds : List D) (lv : Nat) (txt : List UInt8) (sel : ByteArray) (bn : Nat) (h0 : 0 < sel.size) (hs : sel.size ≤ 1000) (hb : boundN sel = bn)
  (hl : DF Tryz.prog 116 [ND k t a m z (.sl m2 z2 ds)] (.int .i64 lv)) (hle : max 1 bn ≤ lv) (hn : WR n 33 [ND k t a m z (.sl m2 z2 ds)] txt) :
  WR n 59 [ND k t a m z (.sl m2 z2 ds), .str sel] txt := by
 refine ⟨hn.1, fun b l hlen => ?_⟩
 have hN := (f88_ok n k t a m z m2 z2 ds lv (max 1 bn) txt hl hle hn).2 b l hlen
 have hB := f89_ok sel h0 (by omega)
 rw [hb] at hB
 have hmx : (if (1 : Int) < bn then (bn : Int) else 1) = ((max 1 bn : Nat) : Int) := by split <;> omega
 refine AF.start' 60 Tryz.func59 rfl rfl c59call c59ok fun Q hQ => ?_
 simp [c59c, c59t]
 refine ATT.callRD Tryz.func59 60 hB (by simp) (by simp) (by simp) ?_
 simp [hmx]
 refine ATT.callRV Tryz.func59 60 [0] [0] (hN) (by simp) (by simp) (by simp) (by simp) (by simp) (by simp) (by simp) ?_
 simp
 refine ATT.fin0' hQ Tryz.func59 c59res ?_
 simp
 all_goals (first | omega | exact ⟨_, rfl⟩ | skip)
theorem f60_name (n : Nat) (sel : ByteArray) (m2 : Bool) (z2 : Nat) (ds : List D) (h0 : 0 < sel.size) (hb : boundN sel = 2) (hn : n + 1 + sel.size ≤ 1000000) : WR n 60 [.str sel, .sl m2 z2 ds] (32 :: sel.data.toList) := by
 refine ⟨by simp; have : sel.data.size = sel.size := rfl; omega, fun b l hlen => ?_⟩
 have hB := f89_ok sel h0 (by omega)
 rw [hb] at hB
 have h32 : (⟨#[32]⟩ : ByteArray).size = 1 := rfl
 have hz1 : 1 + sel.size ≤ 9223372036854775807 := by omega
 have hz2 : 1 + sel.size + 1 ≤ 9223372036854775807 := by omega
 refine AF.start' 60 Tryz.func60 rfl rfl c60call c60ok fun Q hQ => ?_
 simp [c60c, c60t]
 refine ATT.callD Tryz.func60 60 (hB) (by simp) (by simp) (by simp) ?_
 simp [c60t, h32, hz1]
 refine ATT.callV Tryz.func60 60 [0] [0] (f54_ok 71 hTW b l (⟨#[32]⟩ ++ sel) (by simp; have : (⟨#[32]⟩ : ByteArray).size = 1 := rfl; omega)) (by simp) (by simp) (by simp) (by simp) (by simp) (by simp) (by simp) ?_
 simp [h32]
 refine ATT.fin0' hQ Tryz.func60 c60res ?_
 simp
 all_goals (first | omega | exact ⟨_, rfl⟩ | skip)
theorem f60_sign (n : Nat) (sel : ByteArray) (k : Int) (t : ByteArray) (a : Nat) (m : Bool) (z : Nat) (m2 : Bool) (z2 : Nat) (ds : List D) (txt : List UInt8) (h0 : 0 < sel.size) (hb : boundN sel = 1) (hn : n + 2 + sel.size ≤ 1000000)
  (hN : WR (n + 2 + sel.size) 88 [ND k t a m z (.sl m2 z2 ds), .int .i64 2] txt) : WR n 60 [.str sel, .sl false 6 [ND k t a m z (.sl m2 z2 ds)]] (32 :: sel.data.toList ++ 32 :: txt) := by
 have hsz : sel.data.size = sel.size := rfl
 refine ⟨by have := hN.1; simp; omega, fun b l hlen => ?_⟩
 have hB := f89_ok sel h0 (by omega)
 rw [hb] at hB
 have h32 : (⟨#[32]⟩ : ByteArray).size = 1 := rfl
 have hz1 : 1 + sel.size ≤ 9223372036854775807 := by omega
 have hz2 : 1 + sel.size + 1 ≤ 9223372036854775807 := by omega
 refine AF.start' 60 Tryz.func60 rfl rfl c60call c60ok fun Q hQ => ?_
 simp [c60c, c60t]
 refine ATT.callD Tryz.func60 60 (hB) (by simp) (by simp) (by simp) ?_
 simp [c60t, h32, hz1, hz2]
 refine ATT.callV Tryz.func60 60 [0] [0] (f54_ok 71 hTW b l (⟨#[32]⟩ ++ sel ++ ⟨#[32]⟩) (by simp; have : (⟨#[32]⟩ : ByteArray).size = 1 := rfl; omega)) (by simp) (by simp) (by simp) (by simp) (by simp) (by simp) (by simp) ?_
 simp [h32]
 refine ATT.callRV Tryz.func60 60 [0] [0] (hN.2 true (l ++ 32 :: (sel.data.toList ++ [32])) (by simp; omega)) (by simp) (by simp) (by simp) (by simp) (by simp) (by simp) (by simp) ?_
 simp
 refine ATT.fin0' hQ Tryz.func60 c60res ?_
 simp
 all_goals (first | omega | exact ⟨_, rfl⟩ | skip)
theorem f91_ok (n : Nat) (k : Int) (t : ByteArray) (a : Nat) (m : Bool) (z : Nat) (m2 : Bool) (z2 : Nat) (ds : List D) (txt : List UInt8) (hN : WR n 88 [ND k t a m z (.sl m2 z2 ds), .int .i64 1] txt) (b : Bool) (l : List UInt8) (hl : l.length ≤ n) :
  VF Tryz.prog 91 [.d (.int .i64 0), .ptr 1 0, .ptr 2 0] [BB 0 0 71 b l, .cells [.ptr 0 0] 98, .cells [.d (.sl false 6 [ND k t a m z (.sl m2 z2 ds)])] 23] [BV 5 0 l] (.d (.tup [])) [BB 0 0 71 true (l ++ txt), .cells [.ptr 0 0] 98, .cells [.d (.sl false 6 [ND k t a m z (.sl m2 z2 ds)])] 23] [BV 5 0 (l ++ txt)] := by
 refine AF.start' 60 Tryz.func91 rfl rfl c91call c91ok fun Q hQ => ?_
 simp [c91c, c91t]
 refine ATT.callRV Tryz.func91 60 [0] [0] (hN.2 b l hl) (by simp) (by simp) (by simp) (by simp) (by simp) (by simp) (by simp) ?_
 simp
 refine ATT.fin0' hQ Tryz.func91 c91res ?_
 simp
 all_goals (first | omega | exact ⟨_, rfl⟩ | skip)
theorem f90_one (n : Nat) (sel : ByteArray) (k : Int) (t : ByteArray) (a : Nat) (m : Bool) (z : Nat) (m2 : Bool) (z2 : Nat) (ds : List D) (txt : List UInt8) (h0 : 0 < sel.size) (hf : firstIdx sel 58 + 1 = (sel.size : Int)) (hn : n + 2 + sel.size ≤ 1000000)
  (hN : WR (n + 2 + sel.size) 88 [ND k t a m z (.sl m2 z2 ds), .int .i64 1] txt) (b : Bool) (l : List UInt8) (hl : l.length ≤ n) :
  VF Tryz.prog 90 [.ptr 0 0, .d (.str sel), .d (.str ⟨#[32]⟩), .d (.str ⟨#[]⟩), .fn (.func 91) [] [.ptr 1 0, .ptr 2 0]] [BB 0 0 71 b l, .cells [.ptr 0 0] 98, .cells [.d (.sl false 6 [ND k t a m z (.sl m2 z2 ds)])] 23] [BV 5 0 l] (.d (.tup [])) [BB 0 0 71 true (l ++ (32 :: sel.data.toList ++ 32 :: txt)), .cells [.ptr 0 0] 98, .cells [.d (.sl false 6 [ND k t a m z (.sl m2 z2 ds)])] 23] [BV 5 0 (l ++ (32 :: sel.data.toList ++ 32 :: txt))] := by
 have hsz : sel.data.size = sel.size := rfl
 have hs0 : ¬ sel = ⟨#[]⟩ := fun e => by rw [e] at h0; exact absurd h0 (by decide)
 have h32 : (⟨#[32]⟩ : ByteArray).size = 1 := rfl
 have hz1 : 1 + sel.size ≤ 9223372036854775807 := by omega
 have hz2 : 1 + sel.size + 1 ≤ 9223372036854775807 := by omega
 have hI1 : inI (sel.size : Int) = true := inI_of (by omega) (by omega)
 have hex : sel.extract 0 sel.size = sel := by simp
 have hex2 : sel.extract sel.size sel.size = ⟨#[]⟩ := by simp; rfl
 refine AF.start' 60 Tryz.func90 rfl rfl c90call c90ok fun Q hQ => ?_
 simp [c90c, c90t]
 refine ATT.loopG 60 c90l8.eq_1 (fun ((j, s, b', l') : Nat × ByteArray × Bool × List UInt8) => 1 - j) (fun ((j, s, b', l') : Nat × ByteArray × Bool × List UInt8) => (j = 0 ∧ s = sel ∧ b' = b ∧ l' = l) ∨ (j = 1 ∧ s = ByteArray.empty ∧ b' = true ∧ l' = l ++ (32 :: sel.data.toList ++ 32 :: txt))) (fun ((j, s, b', l') : Nat × ByteArray × Bool × List UInt8) => [(0, .ptr 0 0), (1, .d (.str s)), (2, .d (.str ⟨#[32]⟩)), (3, .d (.str ⟨#[]⟩)), (4, .fn (.func 91) [] [.ptr 1 0, .ptr 2 0]), (10, .d (.int .i64 j))]) (fun ((j, s, b', l') : Nat × ByteArray × Bool × List UInt8) => [BB 0 0 71 b' l', .cells [.ptr 0 0] 98, .cells [.d (.sl false 6 [ND k t a m z (.sl m2 z2 ds)])] 23]) (fun ((j, s, b', l') : Nat × ByteArray × Bool × List UInt8) => [BV 5 0 l']) ((0, sel, b, l)) (by (try dsimp only); exact .inl ⟨rfl, rfl, rfl, rfl⟩) (by simp <;> omega) (by simp) (by simp) ?_
 intro ⟨j, s, b', l'⟩ u w hI ih
 try simp only at hI ih
 rcases hI with ⟨e1, e2, e3, e4⟩ | ⟨e1, e2, e3, e4⟩
 ·subst e1 e2 e3 e4
  have hI9 : inI 1 = true := rfl
  simp [c90t, hs0]
  refine ATT.callD Tryz.func90 60 (f44_ok s 58) (by simp) (by simp) (by simp) ?_
  simp [hf, h32, hz1, hz2, hI1, hex]
  refine ATT.callRV Tryz.func90 60 [0] [0] (f54_ok 71 hTW b' l' (⟨#[32]⟩ ++ s ++ ⟨#[32]⟩) (by simp; omega)) (by simp) (by simp) (by simp) (by simp) (by simp) (by simp) (by simp) ?_
  simp [c90t, h32]
  refine ATT.callV Tryz.func90 60 [0, 1, 2] [0] (f91_ok (n + 2 + s.size) k t a m z m2 z2 ds txt hN true (l' ++ 32 :: (s.data.toList ++ [32])) (by simp; omega)) (by simp) (by simp) (by simp) (by simp) (by simp) (by simp) (by simp) ?_
  simp [c90t]
  refine ATT.callV Tryz.func90 60 [0] [0] (f54_ok 71 hTW true (l' ++ 32 :: (s.data.toList ++ 32 :: txt)) ⟨#[]⟩ (by have := hN.1; have : (⟨#[]⟩ : ByteArray).size = 0 := rfl; simp; omega)) (by simp) (by simp) (by simp) (by simp) (by simp) (by simp) (by simp) ?_
  simp [c90t, hI9]
  refine ih (1, ByteArray.empty, true, l' ++ (32 :: s.data.toList ++ 32 :: txt)) (by dsimp only; omega) (.inr ⟨rfl, rfl, rfl, rfl⟩) _ _ _ (by simp) (by simp) (by simp)
 ·subst e1 e2 e3 e4
  simp [c90t]
  refine ATT.fin0' hQ Tryz.func90 c90res ?_
  simp
  all_goals (first | omega | exact ⟨_, rfl⟩ | skip)
theorem f60_key (n : Nat) (sel : ByteArray) (k : Int) (t : ByteArray) (a : Nat) (m : Bool) (z : Nat) (m2 : Bool) (z2 : Nat) (ds : List D) (txt : List UInt8) (h0 : 0 < sel.size) (hb : boundN sel = 0) (hf : firstIdx sel 58 + 1 = (sel.size : Int)) (hn : n + 2 + sel.size ≤ 1000000)
  (hN : WR (n + 2 + sel.size) 88 [ND k t a m z (.sl m2 z2 ds), .int .i64 1] txt) : WR n 60 [.str sel, .sl false 6 [ND k t a m z (.sl m2 z2 ds)]] (32 :: sel.data.toList ++ 32 :: txt) := by
 have hsz : sel.data.size = sel.size := rfl
 refine ⟨by have := hN.1; simp; omega, fun b l hlen => ?_⟩
 have hB := f89_ok sel h0 (by omega)
 rw [hb] at hB
 refine AF.start' 60 Tryz.func60 rfl rfl c60call c60ok fun Q hQ => ?_
 simp [c60c, c60t]
 refine ATT.callD Tryz.func60 60 (hB) (by simp) (by simp) (by simp) ?_
 simp [c60t]
 refine ATT.callV Tryz.func60 60 [0, 1, 2] [0] (f90_one n sel k t a m z m2 z2 ds txt h0 hf hn hN b l hlen) (by simp) (by simp) (by simp) (by simp) (by simp) (by simp) (by simp) ?_
 simp
 refine ATT.fin0' hQ Tryz.func60 c60res ?_
 simp
 all_goals (first | omega | exact ⟨_, rfl⟩ | skip)
theorem f33_send (n : Nat) (t : ByteArray) (a : Nat) (m : Bool) (z : Nat) (k1 : Int) (t1 : ByteArray) (a1 : Nat) (m1 : Bool) (z1 : Nat) (m2 : Bool) (z2 : Nat) (ds1 ds : List D) (s1 s2 : List UInt8)
  (hT : WR n 59 [ND k1 t1 a1 m1 z1 (.sl m2 z2 ds1), .str t] s1) (hM : WR (n + s1.length) 60 [.str t, .sl false 6 ds] s2) : WR n 33 [ND 7 t a m z (.sl false 6 (ND k1 t1 a1 m1 z1 (.sl m2 z2 ds1) :: ds))] (s1 ++ s2) := by
 refine ⟨by have := hM.1; simp; omega, fun b l hlen => ?_⟩
 have h1 : (1 : Int) ≤ (ds.length : Int) + 1 := by omega
 refine AF.start' 60 Tryz.func33 rfl rfl c33call c33ok fun Q hQ => ?_
 simp [c33c, c33t]
 refine ATT.callRV Tryz.func33 60 [0] [0] (hT.2 b l hlen) (by simp) (by simp) (by simp) (by simp) (by simp) (by simp) (by simp) ?_
 simp [h1]
 refine ATT.callRV Tryz.func33 60 [0] [0] (hM.2 true (l ++ s1) (by simp; omega)) (by simp) (by simp) (by simp) (by simp) (by simp) (by simp) (by simp) ?_
 simp
 refine ATT.fin0' hQ Tryz.func33 c33res ?_
 simp
 all_goals (first | omega | exact ⟨_, rfl⟩ | skip)
theorem f57_one (n : Nat) (k : Int) (t : ByteArray) (a : Nat) (m : Bool) (z : Nat) (m2 : Bool) (z2 : Nat) (ds : List D) (sep : ByteArray) (txt : List UInt8) (hN : WR n 33 [ND k t a m z (.sl m2 z2 ds)] txt) : WR n 57 [.sl false 6 [ND k t a m z (.sl m2 z2 ds)], .str sep] txt := by
 refine ⟨hN.1, fun b l hlen => ?_⟩
 refine AF.start' 60 Tryz.func57 rfl rfl c57call c57ok fun Q hQ => ?_
 simp [c57c, c57t]
 refine ATT.loopG 60 c57l7.eq_1 (fun ((j, b', l') : Nat × Bool × List UInt8) => 1 - j) (fun ((j, b', l') : Nat × Bool × List UInt8) => (j = 0 ∧ b' = b ∧ l' = l) ∨ (j = 1 ∧ b' = true ∧ l' = l ++ txt)) (fun ((j, b', l') : Nat × Bool × List UInt8) => [(0, .ptr 0 0), (2, .d (.str sep)), (8, .d (.sl false 6 [ND k t a m z (.sl m2 z2 ds)])), (9, .d (.int .i64 1)), (10, .d (.int .i64 j))]) (fun ((j, b', l') : Nat × Bool × List UInt8) => [BB 0 0 71 b' l']) (fun ((j, b', l') : Nat × Bool × List UInt8) => [BV 5 0 l']) ((0, b, l)) (by (try dsimp only); exact .inl ⟨rfl, rfl, rfl⟩) (by simp <;> omega) (by simp) (by simp) ?_
 intro ⟨j, b', l'⟩ u w hI ih
 try simp only at hI ih
 rcases hI with ⟨e1, e2, e3⟩ | ⟨e1, e2, e3⟩
 ·subst e1 e2 e3
  have hI9 : inI 1 = true := rfl
  simp [c57t]
  refine ATT.callV Tryz.func57 60 [0] [0] (hN.2 b' l' hlen) (by simp) (by simp) (by simp) (by simp) (by simp) (by simp) (by simp) ?_
  simp [c57t, hI9]
  refine ih (1, true, l' ++ txt) (by first | ((try dsimp only); omega) | (simp [hI9] <;> omega)) (by (try dsimp only); exact .inr ⟨rfl, rfl, rfl⟩) _ _ _ (by simp <;> omega) (by simp <;> omega) (by simp [bsV] <;> omega)
 ·subst e1 e2 e3
  simp [c57t]
  refine ATT.fin0' hQ Tryz.func57 c57res ?_
  simp
  all_goals (first | omega | exact ⟨_, rfl⟩ | skip)
theorem f61_one (n : Nat) (a0 : Nat) (m0 : Bool) (z0 : Nat) (k : Int) (t : ByteArray) (a : Nat) (m : Bool) (z : Nat) (m2 : Bool) (z2 : Nat) (ds : List D) (txt : List UInt8) (hN : WR n 33 [ND k t a m z (.sl m2 z2 ds)] txt) : WR n 61 [ND 12 ⟨#[]⟩ a0 m0 z0 (.sl false 6 [ND k t a m z (.sl m2 z2 ds)])] txt := by
 refine ⟨hN.1, fun b l hlen => ?_⟩
 have hL := (f57_one n k t a m z m2 z2 ds ⟨#[46, 32]⟩ txt hN).2 b l hlen
 refine AF.start' 60 Tryz.func61 rfl rfl c61call c61ok fun Q hQ => ?_
 simp [c61c, c61t]
 refine ATT.callV Tryz.func61 60 [0] [0] (hL) (by simp) (by simp) (by simp) (by simp) (by simp) (by simp) (by simp) ?_
 simp
 refine ATT.fin0' hQ Tryz.func61 c61res ?_
 simp
 all_goals (first | omega | exact ⟨_, rfl⟩ | skip)
theorem f62_no (a0 : Nat) (m0 : Bool) (z0 : Nat) (m2 : Bool) (z2 : Nat) (ds : List D) (b : Bool) (l : List UInt8) : VF Tryz.prog 62 [.ptr 0 0, .d (ND 12 ⟨#[]⟩ a0 m0 z0 (.sl m2 z2 ds))] [BB 0 0 71 b l] [BV 5 0 l] (.d (.tup [])) [BB 0 0 71 b l] [BV 5 0 l] := by
 refine AF.start' 60 Tryz.func62 rfl rfl c62call c62ok fun Q hQ => ?_
 simp [c62c, c62t]
 refine ATT.fin0' hQ Tryz.func62 c62res ?_
 simp
 all_goals (first | omega | exact ⟨_, rfl⟩ | skip)
theorem f33_unit (n : Nat) (a0 : Nat) (m0 : Bool) (z0 : Nat) (k : Int) (t : ByteArray) (a : Nat) (m : Bool) (z : Nat) (m2 : Bool) (z2 : Nat) (ds : List D) (txt : List UInt8) (hN : WR n 33 [ND k t a m z (.sl m2 z2 ds)] txt) : WR n 33 [ND 12 ⟨#[]⟩ a0 m0 z0 (.sl false 6 [ND k t a m z (.sl m2 z2 ds)])] txt := by
 refine ⟨hN.1, fun b l hlen => ?_⟩
 have hL := (f61_one n a0 m0 z0 k t a m z m2 z2 ds txt hN).2 b l hlen
 refine AF.start' 60 Tryz.func33 rfl rfl c33call c33ok fun Q hQ => ?_
 simp [c33c, c33t]
 refine ATT.callV Tryz.func33 60 [0] [0] (f62_no a0 m0 z0 false 6 [ND k t a m z (.sl m2 z2 ds)] b l) (by simp) (by simp) (by simp) (by simp) (by simp) (by simp) (by simp) ?_
 simp [c33t]
 refine ATT.callV Tryz.func33 60 [0] [0] (hL) (by simp) (by simp) (by simp) (by simp) (by simp) (by simp) (by simp) ?_
 simp
 refine ATT.fin0' hQ Tryz.func33 c33res ?_
 simp
 all_goals (first | omega | exact ⟨_, rfl⟩ | skip)
theorem f22_unit (a0 : Nat) (m0 : Bool) (z0 : Nat) (k : Int) (t : ByteArray) (a : Nat) (m : Bool) (z : Nat) (m2 : Bool) (z2 : Nat) (ds : List D) (txt : List UInt8) (hN : WR 0 33 [ND k t a m z (.sl m2 z2 ds)] txt) : DF Tryz.prog 22 [ND 12 ⟨#[]⟩ a0 m0 z0 (.sl false 6 [ND k t a m z (.sl m2 z2 ds)])] (.str ⟨txt.toArray⟩) := by
 have hL := (f33_unit 0 a0 m0 z0 k t a m z m2 z2 ds txt hN).2 false [] (by simp)
 refine AF.start' 60 Tryz.func22 rfl rfl c22call c22ok fun Q hQ => ?_
 simp [c22c, c22t]
 refine ATT.nilB 1 1 1 5 rfl rfl (by decide) (by simp) ?_
 simp
 refine ATT.callV Tryz.func22 60 [1] [0] (hL) (by simp) (by simp) (by simp) (by simp) (by simp) (by simp) (by simp) ?_
 simp [c22t]
 refine ATT.callV Tryz.func22 60 [1] [0] (f34_ok 71 true txt (by have := hN.1; omega)) (by simp) (by simp) (by simp) (by simp) (by simp) (by simp) (by simp) ?_
 simp
 refine ATT.fin' hQ Tryz.func22 c22res ?_
 simp
 all_goals (first | omega | exact ⟨_, rfl⟩ | skip)
end Go.SL
namespace Go.SL
open Go.Proofs
set_option maxRecDepth 10000
def skipF (p : Int → Bool) (s : ByteArray) : Nat → Nat → Nat
 | 0, i => i
 | n + 1, i => if i < s.size then (if p (sbyte s i) then skipF p s n (i + 1) else i) else i
theorem skip_eq (p : Int → Bool) (s : ByteArray) : ∀ n i, s.size ≤ n + i → skipS p s i = skipF p s n i
 | 0, i, h => by rw [skipS, dif_neg (by omega)]; rfl
 | n + 1, i, h => by
  rw [skipS]
  simp only [skipF]
  split
  ·split
   ·exact skip_eq p s n (i + 1) (by omega)
   ·rfl
  ·rfl
theorem skip_is {p : Int → Bool} {s : ByteArray} {i j : Nat} (n : Nat) (h : s.size ≤ n + i) (e : skipF p s n i = j) : skipS p s i = j := (skip_eq p s n i h).trans e
theorem name_is {s : ByteArray} {i j : Nat} (n : Nat) (hl : (decide (i < s.size) && letterS (sbyte s i)) = true) (h : s.size ≤ n + i) (e : skipF identS s n i = j) : nameS s i = j := by
 unfold nameS; rw [if_pos hl]; exact skip_is n h e
theorem lex_word {num : ByteArray → Bool} {s : ByteArray} {i j k e : Nat} {t : ByteArray} {l : List Tk} (hj : skipS blankS s i = j) (hb : j < s.size) (hq : ¬ sbyte s j = 34) (hw : wordS num s j = some ((k : Int), t, e)) (he : j < e) (hl : lexS num s e = .inl l) : lexS num s i = .inl (⟨k, t, j⟩ :: l) := by
 rw [lexS_eq, hj, if_pos hb, if_neg hq, hw]
 simp only [if_pos he, hl]
theorem lex_end {num : ByteArray → Bool} {s : ByteArray} {i : Nat} (hj : skipS blankS s i = s.size) : lexS num s i = .inl [⟨0, ⟨#[]⟩, s.size⟩] := by
 rw [lexS_eq, hj, if_neg (Nat.lt_irrefl _)]
theorem word_name {num : ByteArray → Bool} {s : ByteArray} {i e : Nat} {t : ByteArray} (h : letterS (sbyte s i) = true) (hn : nameS s i = e) (hc : colonS s e = false) (ht : subT s i e = t) : wordS num s i = some (((1 : Nat) : Int), t, e) := by
 subst hn ht; simp [wordS, h, hc]
theorem word_key {num : ByteArray → Bool} {s : ByteArray} {i e : Nat} {t : ByteArray} (h : letterS (sbyte s i) = true) (hn : nameS s i = e) (hc : colonS s e = true) (ht : subT s i (e + 1) = t) : wordS num s i = some (((2 : Nat) : Int), t, e + 1) := by
 subst hn ht; simp [wordS, h, hc]
theorem word_num {num : ByteArray → Bool} {s : ByteArray} {i e : Nat} {t : ByteArray} (h : letterS (sbyte s i) = false) (h2 : digitS (sbyte s i) = true) (hn : skipS digitS s i = e) (ht : subT s i e = t) (hm : num t = true) : wordS num s i = some (((4 : Nat) : Int), t, e) := by
 subst hn ht; simp [wordS, h, h2, hm]
theorem word_sign {num : ByteArray → Bool} {s : ByteArray} {i e : Nat} {t : ByteArray} (h : letterS (sbyte s i) = false) (h2 : digitS (sbyte s i) = false) (h3 : ¬ sbyte s i = 39) (h4 : ¬ sbyte s i = 35) (h5 : ¬ sbyte s i = 58) (h6 : signS (sbyte s i) = true) (hn : signsS s i = e) (ht : subT s i e = t) : wordS num s i = some (((3 : Nat) : Int), t, e) := by
 subst hn ht; simp [wordS, h, h2, h3, h4, h5, h6]
theorem word_one {num : ByteArray → Bool} {s : ByteArray} {i k : Nat} {t : ByteArray} (h : letterS (sbyte s i) = false) (h2 : digitS (sbyte s i) = false) (h3 : ¬ sbyte s i = 39) (h4 : ¬ sbyte s i = 35) (h5 : ¬ sbyte s i = 58) (h6 : signS (sbyte s i) = false) (hp : placeS (sbyte s i) singlesT 0 = (k : Int)) (ht : subT s i (i + 1) = t) : wordS num s i = some (((8 + k : Nat) : Int), t, i + 1) := by
 subst ht; simp [wordS, h, h2, h3, h4, h5, h6, hp]
def src1 : ByteArray := ⟨#[97, 32, 98, 32, 43, 32, 50, 32, 102, 111, 111, 58, 32, 51]⟩
def src2 : ByteArray := ⟨#[97, 32, 93]⟩
theorem sg43 : signS (sbyte src1 (4 : Nat)) = true := by rw [show sbyte src1 (4 : Nat) = 43 by decide]; unfold signS; rw [placeS_L _ _ _ 0 rfl]; decide
theorem sg32 : signS (sbyte src1 (5 : Nat)) = false := by rw [show sbyte src1 (5 : Nat) = 32 by decide]; unfold signS; rw [placeS_L _ _ _ 0 rfl]; decide
theorem sg93 : signS (sbyte src2 (2 : Nat)) = false := by rw [show sbyte src2 (2 : Nat) = 93 by decide]; unfold signS; rw [placeS_L _ _ _ 0 rfl]; decide
theorem sgs : signsS src1 4 = 5 := by
 unfold signsS
 rw [sg43, show sbyte src1 (4 + 1 : Nat) = sbyte src1 (5 : Nat) from rfl, sg32]
 decide
theorem lex1 : lexS numS src1 0 = .inl [⟨1, ⟨#[97]⟩, 0⟩, ⟨1, ⟨#[98]⟩, 2⟩, ⟨3, ⟨#[43]⟩, 4⟩, ⟨4, ⟨#[50]⟩, 6⟩, ⟨2, ⟨#[102, 111, 111, 58]⟩, 8⟩, ⟨4, ⟨#[51]⟩, 13⟩, ⟨0, ⟨#[]⟩, 14⟩] :=
 lex_word (k := 1) (skip_is 20 (by decide) rfl) (by decide) (by decide) (word_name (by decide) (name_is 20 (by decide) (by decide) rfl) (by decide) rfl) (by decide)
 (lex_word (k := 1) (skip_is 20 (by decide) rfl) (by decide) (by decide) (word_name (by decide) (name_is 20 (by decide) (by decide) rfl) (by decide) rfl) (by decide)
 (lex_word (k := 3) (skip_is 20 (by decide) rfl) (by decide) (by decide) (word_sign (by decide) (by decide) (by decide) (by decide) (by decide) sg43 sgs rfl) (by decide)
 (lex_word (k := 4) (skip_is 20 (by decide) rfl) (by decide) (by decide) (word_num (by decide) (by decide) (skip_is 20 (by decide) rfl) rfl (by decide)) (by decide)
 (lex_word (k := 2) (skip_is 20 (by decide) rfl) (by decide) (by decide) (word_key (by decide) (name_is 20 (by decide) (by decide) rfl) (by decide) rfl) (by decide)
 (lex_word (k := 4) (skip_is 20 (by decide) rfl) (by decide) (by decide) (word_num (by decide) (by decide) (skip_is 20 (by decide) rfl) rfl (by decide)) (by decide)
 (lex_end (skip_is 20 (by decide) rfl)))))))
theorem pl1 : placeS (sbyte src2 (2 : Nat)) singlesT 0 = ((3 : Nat) : Int) := by
 rw [show sbyte src2 (2 : Nat) = 93 by decide, placeS_L _ _ _ 0 rfl]; decide
theorem lex2 : lexS numS src2 0 = .inl [⟨1, ⟨#[97]⟩, 0⟩, ⟨11, ⟨#[93]⟩, 2⟩, ⟨0, ⟨#[]⟩, 3⟩] :=
 lex_word (k := 1) (skip_is 20 (by decide) rfl) (by decide) (by decide) (word_name (by decide) (name_is 20 (by decide) (by decide) rfl) (by decide) rfl) (by decide)
 (lex_word (k := 11) (skip_is 20 (by decide) rfl) (by decide) (by decide) (word_one (k := 3) (by decide) (by decide) (by decide) (by decide) (by decide) sg93 pl1 rfl) (by decide)
 (lex_end (skip_is 20 (by decide) rfl)))
def nd1 : Nd := .mk 7 ⟨#[98]⟩ 2 0 [] [.mk 5 ⟨#[97]⟩ 0 0 [] []]
def nd2 : Nd := .mk 7 ⟨#[43]⟩ 4 0 [] [nd1, .mk 1 ⟨#[50]⟩ 6 0 [] []]
def nd3 : Nd := .mk 7 ⟨#[102, 111, 111, 58]⟩ 8 0 [] [nd2, .mk 1 ⟨#[51]⟩ 13 0 [] []]
theorem parse1 : ∃ l, parseD numS false src1 = .ok (.mk 12 ⟨#[]⟩ 0 0 [] [nd3]) l := by
 unfold parseD
 rw [if_neg (by decide), lex1]
 exact ⟨[⟨0, ⟨#[]⟩, 14⟩], by kernel_rfl⟩
theorem parse2 : parseD numS false src2 = .no 2 20 := by
 unfold parseD
 rw [if_neg (by decide), lex2]
 kernel_rfl
theorem NdR.nd {k : Int} {t : ByteArray} {a : Nat} {kids : List Nd} {u : D} (h : NdR (.mk k t a 0 [] kids) u) : ∃ m z m2 z2 ds, u = ND k t a m z (.sl m2 z2 ds) ∧ (m2 = true → kids = []) ∧ (m2 = false → z2 = 6) ∧ NdRL kids ds := by
 simp only [NdR] at h
 obtain ⟨nl1, z1, nl2, z2, ds, e, _, _, h3, h4, h5⟩ := h
 exact ⟨nl1, z1, nl2, z2, ds, e, h3, h4, h5⟩
theorem NdR.nd1 {k : Int} {t : ByteArray} {a : Nat} {x : Nd} {u : D} (h : NdR (.mk k t a 0 [] [x]) u) : ∃ m z d, u = ND k t a m z (.sl false 6 [d]) ∧ NdR x d := by
 obtain ⟨m, z, m2, z2, ds, e, h1, h2, h3⟩ := h.nd
 simp only [NdRL] at h3
 obtain ⟨d, l, e2, hx, e3⟩ := h3
 subst e2 e3
 cases m2 with
 | true => cases h1 rfl
 | false => have := h2 rfl; subst this; exact ⟨m, z, d, e, hx⟩
theorem NdR.nd2 {k : Int} {t : ByteArray} {a : Nat} {x y : Nd} {u : D} (h : NdR (.mk k t a 0 [] [x, y]) u) : ∃ m z d d2, u = ND k t a m z (.sl false 6 [d, d2]) ∧ NdR x d ∧ NdR y d2 := by
 obtain ⟨m, z, m2, z2, ds, e, h1, h2, h3⟩ := h.nd
 simp only [NdRL] at h3
 obtain ⟨d, l, e2, hx, d2, l2, e3, hy, e4⟩ := h3
 subst e2 e3 e4
 cases m2 with
 | true => cases h1 rfl
 | false => have := h2 rfl; subst this; exact ⟨m, z, d, d2, e, hx, hy⟩
theorem bb : boundN ⟨#[98]⟩ = 2 := by
 unfold boundN plainB
 rw [name_is (s := ⟨#[98]⟩) (i := 0) (j := 1) 20 (by decide) (by decide) rfl]; decide
theorem bp : boundN ⟨#[43]⟩ = 1 := by unfold boundN plainB; decide
theorem bf : boundN ⟨#[102, 111, 111, 58]⟩ = 0 := by
 unfold boundN plainB
 rw [name_is (s := ⟨#[102, 111, 111, 58]⟩) (i := 0) (j := 3) 20 (by decide) (by decide) rfl, name_is (s := ByteArray.extract ⟨#[102, 111, 111, 58]⟩ 0 1) (i := 0) (j := 1) 20 (by decide) (by decide) rfl]; decide
theorem text1 {u : D} (h : NdR (.mk 12 ⟨#[]⟩ 0 0 [] [nd3]) u) : DF Tryz.prog 22 [u] (.str src1) := by
 obtain ⟨m0, z0, d3, e, h3⟩ := h.nd1
 subst e
 unfold nd3 at h3
 obtain ⟨m3, z3, d2, e5, e, h2, h5⟩ := h3.nd2
 subst e
 unfold nd2 at h2
 obtain ⟨m2, z2, d1, e4, e, h1, h4⟩ := h2.nd2
 subst e
 unfold nd1 at h1
 obtain ⟨m1, z1, da, e, ha⟩ := h1.nd1
 subst e
 obtain ⟨ma, za, ma2, za2, dsa, e, _⟩ := ha.nd
 subst e
 obtain ⟨mb, zb, mb2, zb2, dsb, e, _⟩ := h4.nd
 subst e
 obtain ⟨mc, zc, mc2, zc2, dsc, e, _⟩ := h5.nd
 subst e
 have w1 : WR 0 33 [ND 7 ⟨#[98]⟩ 2 m1 z1 (.sl false 6 [ND 5 ⟨#[97]⟩ 0 ma za (.sl ma2 za2 dsa)])] ([97] ++ (32 :: [98])) :=
  f33_send 0 ⟨#[98]⟩ 2 m1 z1 5 ⟨#[97]⟩ 0 ma za ma2 za2 dsa [] _ _
   (f59_ok 0 5 ⟨#[97]⟩ 0 ma za ma2 za2 dsa 2 _ ⟨#[98]⟩ 2 (by decide) (by decide) bb (f116_name _ _ _ _ _ _ _) (by decide) (f33_name 0 ⟨#[97]⟩ 0 ma za ma2 za2 dsa (by decide)))
   (f60_name 1 ⟨#[98]⟩ false 6 [] (by decide) bb (by decide))
 have l1 := f116_send ⟨#[98]⟩ 2 m1 z1 false 6 [ND 5 ⟨#[97]⟩ 0 ma za (.sl ma2 za2 dsa)] (by decide) (by decide)
 rw [bb] at l1
 have w2 : WR 0 33 [ND 7 ⟨#[43]⟩ 4 m2 z2 (.sl false 6 [ND 7 ⟨#[98]⟩ 2 m1 z1 (.sl false 6 [ND 5 ⟨#[97]⟩ 0 ma za (.sl ma2 za2 dsa)]), ND 1 ⟨#[50]⟩ 6 mb zb (.sl mb2 zb2 dsb)])] (([97] ++ (32 :: [98])) ++ (32 :: [43] ++ 32 :: [50])) :=
  f33_send 0 ⟨#[43]⟩ 4 m2 z2 7 ⟨#[98]⟩ 2 m1 z1 false 6 _ _ _ _
   (f59_ok 0 7 ⟨#[98]⟩ 2 m1 z1 false 6 _ 2 _ ⟨#[43]⟩ 1 (by decide) (by decide) bp l1 (by decide) w1)
   (f60_sign 3 ⟨#[43]⟩ 1 ⟨#[50]⟩ 6 mb zb mb2 zb2 dsb _ (by decide) bp (by decide)
    (f88_ok _ 1 ⟨#[50]⟩ 6 mb zb mb2 zb2 dsb 2 2 _ (f116_num _ _ _ _ _ _ _) (by decide) (f33_num _ ⟨#[50]⟩ 6 mb zb mb2 zb2 dsb (by decide))))
 have l2 := f116_send ⟨#[43]⟩ 4 m2 z2 false 6 [ND 7 ⟨#[98]⟩ 2 m1 z1 (.sl false 6 [ND 5 ⟨#[97]⟩ 0 ma za (.sl ma2 za2 dsa)]), ND 1 ⟨#[50]⟩ 6 mb zb (.sl mb2 zb2 dsb)] (by decide) (by decide)
 rw [bp] at l2
 have w3 := f33_send 0 ⟨#[102, 111, 111, 58]⟩ 8 m3 z3 7 ⟨#[43]⟩ 4 m2 z2 false 6 _ _ _ _
   (f59_ok 0 7 ⟨#[43]⟩ 4 m2 z2 false 6 _ 1 _ ⟨#[102, 111, 111, 58]⟩ 0 (by decide) (by decide) bf l2 (by decide) w2)
   (f60_key 7 ⟨#[102, 111, 111, 58]⟩ 1 ⟨#[51]⟩ 13 mc zc mc2 zc2 dsc _ (by decide) bf (by decide) (by decide)
    (f88_ok _ 1 ⟨#[51]⟩ 13 mc zc mc2 zc2 dsc 2 1 _ (f116_num _ _ _ _ _ _ _) (by decide) (f33_num _ ⟨#[51]⟩ 13 mc zc mc2 zc2 dsc (by decide))))
 exact f22_unit 0 m0 z0 7 _ 8 m3 z3 false 6 _ _ w3
end Go.SL
namespace Go.SL
open Go.Proofs
set_option maxRecDepth 10000
theorem args1 : argsN ⟨#[97, 116, 58, 112, 117, 116, 58]⟩ = 2 := by
 unfold argsN plainB
 rw [name_is (s := ⟨#[97, 116, 58, 112, 117, 116, 58]⟩) (i := 0) (j := 2) 20 (by decide) (by decide) rfl, name_is (s := ByteArray.extract ⟨#[97, 116, 58, 112, 117, 116, 58]⟩ 0 1) (i := 0) (j := 1) 20 (by decide) (by decide) rfl]; decide
theorem args2 : argsN ⟨#[43]⟩ = 1 := by unfold argsN plainB; decide
theorem args3 : argsN ⟨#[102, 111, 111]⟩ = 0 := by
 unfold argsN plainB
 rw [name_is (s := ⟨#[102, 111, 111]⟩) (i := 0) (j := 3) 20 (by decide) (by decide) rfl]; decide
theorem f12_ok : DF Tryz.prog 12 [] (.bool true) := by
 have hP1 : DE Tryz.prog 8 [.str ⟨#[97, 32, 98, 32, 43, 32, 50, 32, 102, 111, 111, 58, 32, 51]⟩] (UnR (parseD numS false src1)) := f8_ok hWhole src1 (by decide)
 have hP2 : DE Tryz.prog 8 [.str ⟨#[97, 32, 93]⟩] (UnR (parseD numS false src2)) := f8_ok hWhole src2 (by decide)
 have hA1 := f13_ok ⟨#[97, 116, 58, 112, 117, 116, 58]⟩ (by decide)
 have hA2 := f13_ok ⟨#[43]⟩ (by decide)
 have hA3 := f13_ok ⟨#[102, 111, 111]⟩ (by decide)
 rw [args1] at hA1
 rw [args2] at hA2
 rw [args3] at hA3
 refine AF.start' 60 Tryz.func12 rfl rfl c12call c12ok fun Q hQ => ?_
 simp [c12c, c12t]
 refine ATT.callE Tryz.func12 60 hP1 (by simp) (by simp) (by simp) fun v hv => ?_
 obtain ⟨l, hp⟩ := parse1
 rw [hp] at hv
 obtain ⟨u, e, hu⟩ := hv
 subst e
 have hT : DF Tryz.prog 22 [u] (.str ⟨#[97, 32, 98, 32, 43, 32, 50, 32, 102, 111, 111, 58, 32, 51]⟩) := text1 hu
 obtain ⟨m, z, d, e, _⟩ := hu.nd1
 subst e
 simp [c12t]
 refine ATT.callE Tryz.func12 60 hP2 (by simp) (by simp) (by simp) fun v hv => ?_
 rw [parse2] at hv
 have hv' : v = _ := hv
 subst hv'
 simp [c12t]
 refine ATT.callD Tryz.func12 60 (hT) (by simp) (by simp) (by simp) ?_
 simp
 refine ATT.callD Tryz.func12 60 (hA1) (by simp) (by simp) (by simp) ?_
 simp
 refine ATT.callD Tryz.func12 60 (hA2) (by simp) (by simp) (by simp) ?_
 simp
 refine ATT.callD Tryz.func12 60 (hA3) (by simp) (by simp) (by simp) ?_
 simp
 refine ATT.fin' hQ Tryz.func12 c12res ?_
 simp
 all_goals (first | omega | exact ⟨_, rfl⟩ | skip)
end Go.SL
namespace Go.SL
open Go.Proofs
set_option maxRecDepth 10000
abbrev RP (L : List Tk) (i d : Nat) (e : Int) (a : Nat) : Bx := .cells [.d (.sl false 3 (L.map tkD)), .d (.int .i64 i), .d (.int .i64 d), .d (.int .i64 e), .d (.int .i64 a)] 62
end Go.SL
namespace Go.SL
open Go.Proofs
set_option maxRecDepth 10000
def Gd (v : D) : Prop := ∃ x : Nd, NdR x v ∧ x.kids.length ≤ 5000
theorem Gd.leaf (k : Int) (t : ByteArray) (a n : Nat) : Gd (.agg [.int .i64 k, .str t, .int .i64 a, .int .i64 n, .sl true 0 [], .sl true 0 []]) := ⟨_, NdR.leaf k t a n, by simp [Nd.kids]⟩
section
variable {N : Nat} {f : FD} {Q : Out → H → Prop}
end
section
variable {N : Nat} {f : FD} {Q : Out → H → Prop}
end
end Go.SL
namespace Go.SL
open Go.Proofs
set_option maxRecDepth 10000
abbrev NO (a0 a1 a2 a3 : D) (m : Nat) (x : V) : Bx := .cells [.d a0, .d a1, .d a2, .d a3, .vs 0 m 0 m, x] 31
def TQ (L : List Tk) (d : Nat) (names : List ByteArray) (a0 a1 a2 a3 : D) (r : Res (List ByteArray)) (o : Out) (h : H) : Prop := match r with
 | .ok ts l => ∃ b c i, o = .ret (.d (.tup [])) ∧ h = ⟨RP L i d 0 0 :: NO a0 a1 a2 a3 (names ++ ts).length (.d (.sl true 0 [])) :: b, NS (names ++ ts) :: c⟩ ∧ L.drop i = l
 | .no a w => ∃ b c i ts, o = .ret (.d (.tup [])) ∧ h = ⟨RP L i d w a :: NO a0 a1 a2 a3 (names ++ ts).length (.d (.sl true 0 [])) :: b, NS (names ++ ts) :: c⟩ ∧ i < L.length ∧ w ≠ 0
 | .out => True
theorem TQ.ok {L : List Tk} {d : Nat} {names ts : List ByteArray} {a0 a1 a2 a3 : D} {l : List Tk} {i : Nat} {x4 : V} {v0 : Option Vec} {b : List Bx} {c : List (Option Vec)} (hl : L.drop i = l) (h4 : x4 = .vs 0 (names ++ ts).length 0 (names ++ ts).length) (h0 : v0 = NS (names ++ ts)) :
  TQ L d names a0 a1 a2 a3 (.ok ts l) (.ret (.d (.tup []))) ⟨RP L i d 0 0 :: .cells [.d a0, .d a1, .d a2, .d a3, x4, .d (.sl true 0 [])] 31 :: b, v0 :: c⟩ := by
 subst h4 h0
 exact ⟨_, _, _, rfl, rfl, hl⟩
theorem TQ.no {L : List Tk} {d : Nat} {names ts : List ByteArray} {a0 a1 a2 a3 : D} {i a : Nat} {w : Int} {x4 : V} {v0 : Option Vec} {b : List Bx} {c : List (Option Vec)} (hi : i < L.length) (hw : w ≠ 0) (h4 : x4 = .vs 0 (names ++ ts).length 0 (names ++ ts).length) (h0 : v0 = NS (names ++ ts)) :
  TQ L d names a0 a1 a2 a3 (.no a w) (.ret (.d (.tup []))) ⟨RP L i d w a :: .cells [.d a0, .d a1, .d a2, .d a3, x4, .d (.sl true 0 [])] 31 :: b, v0 :: c⟩ := by
 subst h4 h0
 exact ⟨_, _, _, _, rfl, rfl, hi, hw⟩
abbrev NK (a0 a1 a2 a3 : D) (m k : Nat) : Bx := .cells [.d a0, .d a1, .d a2, .d a3, .vs 0 m 0 m, .vs 1 k 0 k] 31
def SQ (L : List Tk) (d : Nat) (names : List ByteArray) (a0 a1 a2 a3 : D) (r : Res (List Nd)) (o : Out) (h : H) : Prop := match r with
 | .ok ks l => ∃ b c i ds, o = .ret (.d (.tup [])) ∧ h = ⟨RP L i d 0 0 :: NK a0 a1 a2 a3 names.length ds.length :: b, NS names :: NV 31 ds :: c⟩ ∧ L.drop i = l ∧ NdRL ks ds
 | .no a w => ∃ b c i d' ks ds, o = .ret (.d (.tup [])) ∧ h = ⟨RP L i d' w a :: NK a0 a1 a2 a3 names.length ds.length :: b, NS names :: NV 31 ds :: c⟩ ∧ i < L.length ∧ (d ≤ d' ∧ d' ≤ 41) ∧ NdRL ks ds ∧ w ≠ 0
 | .out => True
theorem SQ.ok {L : List Tk} {d : Nat} {names : List ByteArray} {a0 a1 a2 a3 : D} {l : List Tk} {i : Nat} {ks : List Nd} {ds : List D} {x5 : V} {v1 : Option Vec} {b : List Bx} {c : List (Option Vec)} (hds : NdRL ks ds) (hl : L.drop i = l) (h5 : x5 = .vs 1 ds.length 0 ds.length) (h1 : v1 = NV 31 ds) :
  SQ L d names a0 a1 a2 a3 (.ok ks l) (.ret (.d (.tup []))) ⟨RP L i d 0 0 :: .cells [.d a0, .d a1, .d a2, .d a3, .vs 0 names.length 0 names.length, x5] 31 :: b, NS names :: v1 :: c⟩ := by
 subst h5 h1
 exact ⟨_, _, _, _, rfl, rfl, hl, hds⟩
theorem SQ.no {L : List Tk} {d d' : Nat} {names : List ByteArray} {a0 a1 a2 a3 : D} {i a : Nat} {w : Int} {ks : List Nd} {ds : List D} {x5 : V} {v1 : Option Vec} {b : List Bx} {c : List (Option Vec)} (hds : NdRL ks ds) (hi : i < L.length) (hd : d ≤ d' ∧ d' ≤ 41) (hw : w ≠ 0) (h5 : x5 = .vs 1 ds.length 0 ds.length) (h1 : v1 = NV 31 ds) :
  SQ L d names a0 a1 a2 a3 (.no a w) (.ret (.d (.tup []))) ⟨RP L i d' w a :: .cells [.d a0, .d a1, .d a2, .d a3, .vs 0 names.length 0 names.length, x5] 31 :: b, NS names :: v1 :: c⟩ := by
 subst h5 h1
 exact ⟨_, _, _, _, _, _, rfl, rfl, hi, hd, hds, hw⟩
end Go.SL
namespace Go.SL
open Go.Proofs
set_option maxRecDepth 10000
@[simp] theorem take_two1 {α β γ : Type} (f : α → γ) (g : β → γ) (a : List α) (b : List β) (z : γ) : List.take (a.length + (b.length + 1)) (a.map f ++ z :: b.map g) = a.map f ++ z :: b.map g := List.take_of_length_le (by simp)
@[simp] theorem mapD_strs3 (h : H) (n : Nat) (a b : List ByteArray) (y : ByteArray) : mapD (toDv h n) ((a.map fun s => V.d (.str s)) ++ V.d (.str y) :: b.map fun s => V.d (.str s)) = some (a.map .str ++ .str y :: b.map .str) := by
 have := mapD_strs2 h n a (y :: b)
 simpa using this
end Go.SL
namespace Go.SL
open Go.Proofs
set_option maxRecDepth 10000
abbrev NPb (s : ByteArray) (n m : Nat) : Bx := NO (.int .i64 12) (.str s) (.int .i64 0) (.int .i64 n) m (.d (.sl true 0 []))
def PatQ (L : List Tk) (r : Res (ByteArray × List ByteArray)) (o : Out) (h : H) : Prop := match r with
 | .ok x l => ∃ b c i, o = .ret (.d (.tup [])) ∧ h = ⟨RP L i 0 0 0 :: NPb x.1 x.2.length x.2.length :: b, NS x.2 :: c⟩ ∧ L.drop i = l
 | .no a w => ∃ b c i s ns, o = .ret (.d (.tup [])) ∧ h = ⟨RP L i 0 w a :: NPb s (ns : List ByteArray).length ns.length :: b, NS ns :: c⟩ ∧ i < L.length ∧ w ≠ 0
 | .out => True
theorem PatQ.ok {L : List Tk} {i : Nat} {s : ByteArray} {ns : List ByteArray} {l : List Tk} {x3 : Int} {x4 : V} {v0 : Option Vec} {b : List Bx} {c : List (Option Vec)} (hl : L.drop i = l) (h3 : x3 = ns.length) (h4 : x4 = .vs 0 ns.length 0 ns.length) (h0 : v0 = NS ns) :
  PatQ L (.ok (s, ns) l) (.ret (.d (.tup []))) ⟨RP L i 0 0 0 :: .cells [.d (.int .i64 12), .d (.str s), .d (.int .i64 0), .d (.int .i64 x3), x4, .d (.sl true 0 [])] 31 :: b, v0 :: c⟩ := by
 subst h3 h4 h0
 exact ⟨_, _, _, rfl, rfl, hl⟩
theorem PatQ.no {L : List Tk} {i a : Nat} {w : Int} {s : ByteArray} {ns : List ByteArray} {x3 : Int} {x4 : V} {v0 : Option Vec} {b : List Bx} {c : List (Option Vec)} (hi : i < L.length) (hw : w ≠ 0) (h3 : x3 = ns.length) (h4 : x4 = .vs 0 ns.length 0 ns.length) (h0 : v0 = NS ns) :
  PatQ L (.no a w) (.ret (.d (.tup []))) ⟨RP L i 0 w a :: .cells [.d (.int .i64 12), .d (.str s), .d (.int .i64 0), .d (.int .i64 x3), x4, .d (.sl true 0 [])] 31 :: b, v0 :: c⟩ := by
 subst h3 h4 h0
 exact ⟨_, _, _, _, _, rfl, rfl, hi, hw⟩
end Go.SL
namespace Go.SL
open Go.Proofs
set_option maxRecDepth 10000
theorem NdRL.at : ∀ {ks : List Nd} {ds : List D} {i : Nat} {y : Nd}, NdRL ks ds → ks[i]? = some y → ∃ d, ds[i]? = some d ∧ NdR y d
 | x :: r, ds, 0, y, h, e => by
  simp only [NdRL] at h
  obtain ⟨d, l, e1, h1, h2⟩ := h
  subst e1
  simp at e; subst e
  exact ⟨d, rfl, h1⟩
 | x :: r, ds, i + 1, y, h, e => by
  simp only [NdRL] at h
  obtain ⟨d, l, e1, h1, h2⟩ := h
  subst e1
  obtain ⟨d2, g1, g2⟩ := h2.at (i := i) (by simpa using e)
  exact ⟨d2, by simpa using g1, g2⟩
theorem kid_lt {x y : Nd} {i : Nat} (h : x.kids[i]? = some y) : SizeOf.sizeOf y < SizeOf.sizeOf x := by
 cases x with
 | mk k t a n names kids =>
  have := List.sizeOf_lt_of_mem (List.mem_of_getElem? h)
  simp [Nd.kids] at this ⊢
  omega
def nodeOf : Res Nd → Nd
 | .ok x _ => x
 | _ => .mk 0 ⟨#[]⟩ 0 0 [] []
def atOf : Res Nd → Nat
 | .no a _ => a
 | _ => 0
def errOf : Res Nd → Int
 | .no _ w => w
 | _ => 0
theorem UnR.get {r : Res Nd} {v : D} (h : UnR r v) (hr : r ≠ .out) : ∃ u, v = .tup [u, .int .i64 (atOf r), .int .i64 (errOf r)] ∧ NdR (nodeOf r) u := by
 cases r with
 | ok x l => obtain ⟨u, e, hu⟩ := h; exact ⟨u, e, hu⟩
 | no a w => exact ⟨zeroN, h, .leaf 0 ⟨#[]⟩ 0 0⟩
 | out => exact absurd rfl hr
end Go.SL
namespace Go.SL
open Go.Proofs
set_option maxRecDepth 10000
theorem sbyte_appL {s t : ByteArray} {i : Nat} (h : i < s.size) : sbyte (s ++ t) i = sbyte s i := by
 have h' : i < s.data.toList.length := h
 simp only [sbyte, ByteArray.data_append, Array.toList_append, List.getD_eq_getElem?_getD, Int.toNat_natCast]
 rw [List.getElem?_append_left h']
theorem sbyte_appR {s t : ByteArray} {i : Nat} : sbyte (s ++ t) (s.size + i : Nat) = sbyte t i := by
 have h' : s.data.toList.length = s.size := rfl
 simp only [sbyte, ByteArray.data_append, Array.toList_append, List.getD_eq_getElem?_getD, Int.toNat_natCast]
 rw [List.getElem?_append_right (by omega), h', Nat.add_sub_cancel_left]
theorem cnt_appL {s t : ByteArray} : ∀ {i : Nat}, i ≤ s.size → cnt (s ++ t) i = cnt s i
 | 0, _ => rfl
 | i + 1, h => by simp only [cnt]; rw [cnt_appL (by omega), sbyte_appL (by omega)]
theorem cnt_app {s t : ByteArray} : ∀ i : Nat, cnt (s ++ t) (s.size + i) = cnt s s.size + cnt t i
 | 0 => by simp [cnt, cnt_appL (Nat.le_refl _)]
 | i + 1 => by
  rw [← Nat.add_assoc]
  simp only [cnt]
  rw [cnt_app i, sbyte_appR]; omega
theorem skip_app {p : Int → Bool} {s t : ByteArray} : ∀ m i, s.size - i = m → skipS p s i < s.size → skipS p (s ++ t) i = skipS p s i := by
 intro m
 induction m with
 | zero =>
  intro i hm h
  have : skipS p s i = i := by rw [skipS, dif_neg (by omega)]
  omega
 | succ m ih =>
  intro i hm h
  have hi : i < s.size := by omega
  have hi2 : i < (s ++ t).size := by simp; omega
  have e1 : skipS p s i = if p (sbyte s i) then skipS p s (i + 1) else i := by rw [skipS, dif_pos hi]
  have e2 : skipS p (s ++ t) i = if p (sbyte s i) then skipS p (s ++ t) (i + 1) else i := by rw [skipS, dif_pos hi2, sbyte_appL hi]
  rw [e1] at h
  rw [e1, e2]
  split
  ·rename_i hp
   rw [if_pos hp] at h
   exact ih (i + 1) (by omega) h
  ·rfl
def KeyN (s : ByteArray) (n : Nat) : Prop := (n = 0 → s = ⟨#[]⟩) ∧ cnt s s.size = n ∧ (0 < n → letterS (sbyte s 0) = true ∧ nameS s 0 < s.size)
theorem KeyN.zero : KeyN ⟨#[]⟩ 0 := ⟨fun _ => rfl, rfl, fun h => absurd h (by decide)⟩
theorem KeyN.args {s : ByteArray} {n : Nat} (h0 : 0 < n) (h : KeyN s n) : argsN s = n := by
 obtain ⟨_, h2, h3⟩ := h
 have h4 := h3 h0
 have hp : plainB s = false := by unfold plainB; simp; intro _ _; omega
 have hz : 0 < s.size := by omega
 have hp2 : plainB (s.extract 0 1) = true := by
  have hs : (s.extract 0 1).size = 1 := by simp; omega
  have hb : sbyte (s.extract 0 1) 0 = sbyte s 0 := by
   have := sbyte_sub (s := s) (i := 0) (j := 1) (k := 0) (by omega) (by omega)
   simpa [subT] using this
  unfold plainB nameS
  rw [hs, hb, h4.1]
  simp only [Nat.lt_add_one, decide_true, Bool.true_and, Bool.and_true, decide_eq_true_eq]
  rw [skipS, dif_pos (by rw [hs]; decide)]
  simp only [Int.natCast_zero, hb, identS, h4.1, Bool.true_or, if_true]
  rw [skipS, dif_neg (by rw [hs]; decide)]
 unfold argsN
 rw [hp, hp2, h2]
 simp
theorem KeyN.app {s t : ByteArray} {n : Nat} (h : KeyN s n) (g : KeyN t 1) : KeyN (s ++ t) (n + 1) := by
 obtain ⟨h1, h2, h3⟩ := h
 obtain ⟨_, g2, g3⟩ := g
 refine ⟨fun e => by omega, ?_, fun _ => ?_⟩
 ·have e : (s ++ t).size = s.size + t.size := by simp
  rw [e, cnt_app, h2, g2]
 ·cases n with
  | zero =>
   have := h1 rfl
   subst this
   have e : (⟨#[]⟩ ++ t : ByteArray) = t := ByteArray.empty_append
   rw [e]
   exact g3 (by decide)
  | succ n =>
   have h4 := h3 (by omega)
   have hz : 0 < s.size := by omega
   have hl : sbyte (s ++ t) 0 = sbyte s 0 := sbyte_appL (i := 0) hz
   refine ⟨by rw [hl]; exact h4.1, ?_⟩
   have hn : nameS (s ++ t) 0 = nameS s 0 := by
    have hn0 := h4.2
    unfold nameS at hn0 ⊢
    rw [Int.natCast_zero, hl, h4.1]
    rw [Int.natCast_zero, h4.1] at hn0
    have hz2 : 0 < (s ++ t).size := by simp; omega
    simp only [hz, hz2, decide_true, Bool.true_and, if_true] at hn0 ⊢
    exact skip_app _ 0 rfl hn0
   rw [hn]
   have := h4.2
   simp; omega
end Go.SL
namespace Go.SL
open Go.Proofs
set_option maxRecDepth 10000
theorem skip_to {p : Int → Bool} {s : ByteArray} {m : Nat} (hm : m ≤ s.size) (hn : m < s.size → p (sbyte s m) = false) : ∀ n i, m - i = n → i ≤ m → (∀ j : Nat, i ≤ j → j < m → p (sbyte s j) = true) → skipS p s i = m := by
 intro n
 induction n with
 | zero =>
  intro i h1 h2 h3
  have e : i = m := by omega
  subst e
  rw [skipS]
  split
  ·rename_i h
   rw [if_neg (by rw [hn h]; simp)]
  ·rfl
 | succ n ih =>
  intro i h1 h2 h3
  rw [skipS, dif_pos (by omega), if_pos (h3 i (Nat.le_refl _) (by omega))]
  exact ih (i + 1) (by omega) (by omega) fun j a b => h3 j (by omega) b
theorem cnt_none {s : ByteArray} : ∀ i : Nat, (∀ j : Nat, j < i → sbyte s j ≠ 58) → cnt s i = 0
 | 0, _ => rfl
 | i + 1, h => by simp only [cnt]; rw [cnt_none i fun j hj => h j (by omega), if_neg (h i (by omega))]
theorem ident58 {c : Int} (h : identS c = true) : c ≠ 58 := fun e => by subst e; exact absurd h (by decide)
theorem name_all {s : ByteArray} {i : Nat} (hl : letterS (sbyte s i) = true) (hi : i < s.size) : i < nameS s i ∧ nameS s i ≤ s.size ∧ ∀ j : Nat, i ≤ j → j < nameS s i → identS (sbyte s j) = true := by
 have e : nameS s i = skipS identS s i := by unfold nameS; rw [if_pos (by simp [hl, hi])]
 refine ⟨(nameS_gt s i).2 (by simp [hl, hi]), (nameS_le s i).2 (by omega), fun j a b => ?_⟩
 rw [e] at b
 exact skipS_all _ i rfl j a b
theorem name_args {s : ByteArray} {i : Nat} (hl : letterS (sbyte s i) = true) (hi : i < s.size) : argsN (subT s i (nameS s i)) = 0 := by
 obtain ⟨h1, h2, h3⟩ := name_all hl hi
 generalize nameS s i = e at *
 have hz : (subT s i e).size = e - i := subT_size (by omega) h2
 have hb : sbyte (subT s i e) 0 = sbyte s i := by
  have := sbyte_sub (s := s) (i := i) (j := e) (k := 0) (by omega) h2
  simpa using this
 have hn : nameS (subT s i e) 0 = (subT s i e).size := by
  unfold nameS
  rw [if_pos (by rw [Int.natCast_zero, hb, hl, hz]; simp; omega)]
  refine skip_to (Nat.le_refl _) (fun h => absurd h (Nat.lt_irrefl _)) _ 0 rfl (Nat.zero_le _) fun j _ hj => ?_
  rw [hz] at hj
  rw [sbyte_sub (by omega) h2]
  exact h3 _ (by omega) (by omega)
 have hp : plainB (subT s i e) = true := by unfold plainB; rw [hb, hl, hn, hz]; simp; omega
 unfold argsN
 rw [if_pos hp]
theorem colon_at {s : ByteArray} {e : Nat} (h : colonS s e = true) : e < s.size ∧ sbyte s e = 58 := by
 unfold colonS atS at h
 simp only [Bool.and_eq_true, decide_eq_true_eq] at h
 have h1 := h.1
 split at h1
 ·rename_i h2; exact ⟨h2, h1⟩
 ·exact absurd h1 (by decide)
theorem key_one {s : ByteArray} {i : Nat} (hl : letterS (sbyte s i) = true) (hi : i < s.size) (hc : colonS s (nameS s i) = true) : KeyN (subT s i (nameS s i + 1)) 1 := by
 obtain ⟨h1, h2, h3⟩ := name_all hl hi
 obtain ⟨c1, c2⟩ := colon_at hc
 generalize nameS s i = e at *
 have hz : (subT s i (e + 1)).size = e + 1 - i := subT_size (by omega) (by omega)
 have hb : ∀ j : Nat, j < e + 1 - i → sbyte (subT s i (e + 1)) j = sbyte s (i + j : Nat) := fun j hj => sbyte_sub (by omega) (by omega)
 have hlast : sbyte (subT s i (e + 1)) (e - i : Nat) = 58 := by rw [hb _ (by omega), show i + (e - i) = e by omega]; exact c2
 have hid : ∀ j : Nat, j < e - i → identS (sbyte (subT s i (e + 1)) j) = true := fun j hj => by rw [hb j (by omega)]; exact h3 _ (by omega) (by omega)
 have h0 : sbyte (subT s i (e + 1)) 0 = sbyte s i := by have := hb 0 (by omega); simpa using this
 have hn : nameS (subT s i (e + 1)) 0 = e - i := by
  unfold nameS
  rw [if_pos (by rw [Int.natCast_zero, h0, hl, hz]; simp; omega)]
  exact skip_to (by omega) (fun _ => by rw [hlast]; decide) _ 0 rfl (Nat.zero_le _) fun j _ hj => hid j hj
 refine ⟨fun h => absurd h (by decide), ?_, fun _ => ⟨by rw [h0]; exact hl, by rw [hn, hz]; omega⟩⟩
 rw [hz, show e + 1 - i = (e - i) + 1 by omega]
 simp only [cnt]
 rw [cnt_none _ fun j hj => ident58 (hid j hj), hlast]; rfl
theorem sign_args {s : ByteArray} {i : Nat} (hl : letterS (sbyte s i) = false) (hi : i < s.size) (hg : signS (sbyte s i) = true) : argsN (subT s i (signsS s i)) = 1 := by
 have h1 : i < signsS s i := by unfold signsS; rw [if_pos (by simp [hi, hg])]; split <;> omega
 have h2 := (signsS_le s i).2 (by omega)
 generalize signsS s i = e at *
 have hz : (subT s i e).size = e - i := subT_size (by omega) h2
 have hb : sbyte (subT s i e) 0 = sbyte s i := by
  have := sbyte_sub (s := s) (i := i) (j := e) (k := 0) (by omega) h2
  simpa using this
 have hb2 : sbyte ((subT s i e).extract 0 1) 0 = sbyte s i := by
  have := sbyte_sub (s := subT s i e) (i := 0) (j := 1) (k := 0) (by omega) (by omega)
  simp only [Nat.add_zero, Int.natCast_zero, subT] at this
  rw [show (subT s i e).extract 0 1 = (s.extract i e).extract 0 1 from rfl, this]
  exact hb
 have hp : plainB (subT s i e) = false := by unfold plainB; rw [hb, hl]; simp
 have hp2 : plainB ((subT s i e).extract 0 1) = false := by unfold plainB; rw [hb2, hl]; simp
 unfold argsN
 rw [hp, hp2, hz]
 simp; omega
def QA : ByteArray → Nat → Prop := fun t m => argsN t = m ∧ t.size ≤ 4096 * (m + 1)
def KeyB (s : ByteArray) (n : Nat) : Prop := KeyN s n ∧ s.size ≤ 4096 * n
theorem KeyB.zero : KeyB ⟨#[]⟩ 0 := ⟨KeyN.zero, by decide⟩
theorem KeyB.args {s : ByteArray} {n : Nat} (h0 : 0 < n) (h : KeyB s n) : QA s n := ⟨h.1.args h0, by have := h.2; omega⟩
theorem KeyB.app {s t : ByteArray} {n : Nat} (h : KeyB s n) (g : KeyB t 1) : KeyB (s ++ t) (n + 1) := ⟨h.1.app g.1, by have := h.2; have := g.2; simp; omega⟩
def tkF (k : Int) (t : ByteArray) : Prop := (k = 1 → QA t 0) ∧ (k = 3 → QA t 1) ∧ (k = 2 → KeyB t 1)
theorem word_tk {num : ByteArray → Bool} {s : ByteArray} {i : Nat} {k : Int} {t : ByteArray} {e : Nat} (hs : s.size ≤ 4096) (hi : i < s.size) (h : wordS num s i = some (k, t, e)) : tkF k t := by
 have no : ∀ {k' : Int} {t' : ByteArray}, (k' ≠ 1 ∧ k' ≠ 3 ∧ k' ≠ 2) → tkF k' t' := fun h => ⟨fun e => absurd e h.1, fun e => absurd e h.2.1, fun e => absurd e h.2.2⟩
 unfold wordS at h
 split at h
 ·rename_i hl
  split at h
  ·rename_i hc
   simp only [Option.some.injEq, Prod.mk.injEq] at h
   obtain ⟨e1, e2, _⟩ := h
   subst e1 e2
   exact ⟨fun e => absurd e (by decide), fun e => absurd e (by decide), fun _ => ⟨key_one hl hi hc, by have := subT_le s i (nameS s i + 1); omega⟩⟩
  ·simp only [Option.some.injEq, Prod.mk.injEq] at h
   obtain ⟨e1, e2, _⟩ := h
   subst e1 e2
   exact ⟨fun _ => ⟨name_args hl hi, by have := subT_le s i (nameS s i); omega⟩, fun e => absurd e (by decide), fun e => absurd e (by decide)⟩
 rename_i hl
 have hl' : letterS (sbyte s i) = false := by simpa using hl
 split at h
 ·split at h
  ·simp only [Option.some.injEq, Prod.mk.injEq] at h
   rw [← h.1]; exact no (by decide)
  ·simp at h
 split at h
 ·split at h
  ·simp only [Option.some.injEq, Prod.mk.injEq] at h
   rw [← h.1]; exact no (by decide)
  ·simp at h
 split at h
 ·split at h
  ·simp only [Option.some.injEq, Prod.mk.injEq] at h
   rw [← h.1]; exact no (by decide)
  ·split at h
   ·simp only [Option.some.injEq, Prod.mk.injEq] at h
    rw [← h.1]; exact no (by decide)
   ·simp at h
 split at h
 ·split at h
  ·simp only [Option.some.injEq, Prod.mk.injEq] at h
   rw [← h.1]; exact no (by decide)
  ·simp only [Option.some.injEq, Prod.mk.injEq] at h
   rw [← h.1]; exact no (by decide)
 split at h
 ·rename_i hg
  simp only [Option.some.injEq, Prod.mk.injEq] at h
  obtain ⟨e1, e2, _⟩ := h
  subst e1 e2
  exact ⟨fun e => absurd e (by decide), fun _ => ⟨sign_args hl' hi hg, by have := subT_le s i (signsS s i); omega⟩, fun e => absurd e (by decide)⟩
 split at h
 ·rename_i hp
  simp only [Option.some.injEq, Prod.mk.injEq] at h
  rw [← h.1]
  exact no ⟨by omega, by omega, by omega⟩
 ·simp at h
theorem lexS_tf {num : ByteArray → Bool} {s : ByteArray} (hs : s.size ≤ 4096) : ∀ m i l, s.size - i = m → lexS num s i = .inl l → TF QA KeyB l := by
 intro m
 induction m using Nat.strongRecOn with
 | ind m ih =>
  intro i l hm h
  rw [lexS_eq] at h
  have h1 := skipS_le blankS s _ i rfl
  split at h
  ·rename_i hlt
   split at h
   ·split at h
    ·rename_i hq
     have h2 := skipS_le notQ s _ (skipS blankS s i + 1) rfl
     exact ih _ (by omega) _ _ rfl h
    ·simp at h
   ·split at h
    ·rename_i k t e hw
     have hwl := wordS_lt hlt hw
     rw [if_pos hwl.1] at h
     split at h
     ·rename_i l' hl'
      simp only [Sum.inl.injEq] at h
      subst h
      have g := ih _ (by have := hwl.1; omega) _ _ rfl hl'
      intro y hy
      simp only [List.mem_cons] at hy
      rcases hy with hy | hy
      ·subst hy
       have hk := word_tk hs hlt hw
       exact ⟨hk.1, hk.2.1, fun e s n hs => hs.app (hk.2.2 e)⟩
      ·exact g y hy
     ·simp at h
    ·simp at h
  ·simp only [Sum.inl.injEq] at h
   subst h
   intro y hy
   simp at hy
   subst hy
   exact ⟨fun e => by simp at e, fun e => by simp at e, fun e => by simp at e⟩
theorem patKeysS_args : ∀ {n : Nat} {s : ByteArray} {acc : List ByteArray} {l : List Tk} {x r}, TF QA KeyB l → KeyB s acc.length → patKeysS n s acc l = .ok x r → TF QA KeyB r ∧ KeyB x.1 x.2.length ∧ acc.length ≤ x.2.length ∧ (kd l = 2 → acc.length < x.2.length)
 | 0, s, acc, l, x, r, t, hs, e => by simp [patKeysS] at e
 | n + 1, s, acc, l, x, r, t, hs, e => by
  simp only [patKeysS] at e
  split at e
  ·rename_i hk
   obtain ⟨w, l', el, hw, ht, _, _, q⟩ := t.at hk (by decide)
   split at e
   ·have h3 := patKeysS_args t.tail.tail (by rw [ht]; simpa using q hw s _ hs) e
    have := h3.2.2.1
    simp at this
    exact ⟨h3.1, h3.2.1, by omega, fun _ => by omega⟩
   ·simp at e
  ·rename_i hk
   simp only [Res.ok.injEq] at e
   obtain ⟨e1, e2⟩ := e
   subst e1 e2
   exact ⟨t, hs, Nat.le_refl _, fun h => absurd h hk⟩
theorem patS_args {n : Nat} {l : List Tk} {x r} (t : TF QA KeyB l) (e : patS n l = .ok x r) : TF QA KeyB r ∧ QA x.1 x.2.length := by
 simp only [patS] at e
 split at e
 ·rename_i hk
  obtain ⟨w, l', el, hw, ht, q, _⟩ := t.at hk (by decide)
  simp only [Res.ok.injEq] at e
  rw [← e.1, ← e.2, ht]
  exact ⟨t.tail, q hw⟩
 split at e
 ·rename_i hk
  obtain ⟨w, l', el, hw, ht, _, q, _⟩ := t.at hk (by decide)
  split at e
  ·simp only [Res.ok.injEq] at e
   rw [← e.1, ← e.2, ht]
   exact ⟨t.tail.tail, q hw⟩
  ·simp at e
 split at e
 ·rename_i hk
  have h := patKeysS_args (acc := []) t KeyB.zero e
  exact ⟨h.1, h.2.1.args (h.2.2.2 hk)⟩
 ·simp at e
theorem parse_fits {num : ByteArray → Bool} {m : Bool} {s : ByteArray} {x : Nd} {r : List Tk} (h : parseD num m s = .ok x r) : Good QA x ∧ x.k = 12 ∧ (m = false → x.t = ⟨#[]⟩) ∧ (m = true → QA x.t x.n) := by
 unfold parseD at h
 split at h
 ·simp at h
 ·split at h
  ·rename_i hs l hl
   have hwf := lexS_wf (by omega) hl
   have htf := lexS_tf (by omega) _ 0 l rfl hl
   unfold uniS at h
   obtain ⟨p, r1, e1, e2⟩ := andThen_ok h
   obtain ⟨b, r2, e3, e4⟩ := andThen_ok e2
   simp only [Res.ok.injEq] at e4
   have h1 := headS_wf hwf e1
   have h2 := h1.2
   have hh : TF QA KeyB r1 ∧ (m = false → p.1 = ⟨#[]⟩) ∧ (m = true → QA p.1 p.2.length) := by
    cases m with
    | true =>
     have := patS_args htf e1
     exact ⟨this.1, fun e => by simp at e, fun _ => this.2⟩
    | false =>
     simp only [headS, Bool.false_eq_true, if_false, Res.ok.injEq] at e1
     rw [← e1.1, ← e1.2]
     exact ⟨htf, fun _ => rfl, fun e => by simp at e⟩
   have hg := (presG (Q := QA) (K := KeyB) KeyB.zero (fun s n h0 hK => hK.args h0) (fuel l)).body h1.1 hh.1 e3
   rw [← e4.1]
   simp only [Good, Good1]
   exact ⟨⟨⟨by simp; omega, by omega, by simp, fun e => by simp at e, fun e => by simp at e, fun e => by simp at e⟩, hg.1⟩, rfl, hh.2.1, hh.2.2⟩
  ·simp at h
end Go.SL
namespace Go.SL
def NN {α : Type} (r : Res α) : Prop := ∀ a w, r = .no a w → w ≠ 0
theorem NN.ok {α : Type} {x : α} {r : List Tk} : NN (.ok x r) := fun _ _ e => by simp at e
theorem NN.out {α : Type} : NN (.out : Res α) := fun _ _ e => by simp at e
theorem NN.syn {α : Type} {a : Nat} : NN (.no a eSyn : Res α) := fun _ _ e => by simp only [Res.no.injEq] at e; rw [← e.2]; decide
theorem NN.big {α : Type} {a : Nat} : NN (.no a eSize : Res α) := fun _ _ e => by simp only [Res.no.injEq] at e; rw [← e.2]; decide
theorem NN.then {α β : Type} {x : Res α} {f : α → List Tk → Res β} (h : NN x) (hf : ∀ a r, NN (f a r)) : NN (x.andThen f) := by
 cases x with
 | ok a r => exact hf a r
 | no a w => intro b v e; simp only [Res.andThen, Res.no.injEq] at e; rw [← e.2]; exact h a w rfl
 | out => exact NN.out
theorem argsS_nn : ∀ (n : Nat) (l : List Tk), NN (argsS n l)
 | 0, l => NN.out
 | n + 1, l => by
  simp only [argsS]
  repeat' (first | split | exact NN.ok | exact NN.syn | exact (argsS_nn n _).then fun _ _ => NN.ok)
theorem tempsS_nn (l : List Tk) : NN (tempsS l) := by
 unfold tempsS
 repeat' (first | split | exact NN.ok | exact NN.syn)
theorem patKeysS_nn : ∀ (n : Nat) (s : ByteArray) (a : List ByteArray) (l : List Tk), NN (patKeysS n s a l)
 | 0, s, a, l => NN.out
 | n + 1, s, a, l => by
  simp only [patKeysS]
  repeat' (first | split | exact NN.ok | exact NN.syn | exact patKeysS_nn n _ _ _)
theorem patS_nn (n : Nat) (l : List Tk) : NN (patS n l) := by
 unfold patS
 repeat' (first | split | exact NN.ok | exact NN.syn | exact patKeysS_nn n _ _ _)
structure NZ (n : Nat) : Prop where
 expr : ∀ d l, NN (exprS n d l)
 casc : ∀ d l, NN (cascS n d l)
 semis : ∀ d a l, NN (semisS n d a l)
 msg : ∀ d l, NN (msgS n d l)
 keys : ∀ d s a l, NN (keysS n d s a l)
 keyed : ∀ d l, NN (keyedS n d l)
 binary : ∀ d l, NN (binaryS n d l)
 unary : ∀ d l, NN (unaryS n d l)
 chain : ∀ d c y l, NN (chainS n d c y l)
 prim : ∀ d l, NN (primS n d l)
 list : ∀ d l, NN (listS n d l)
 elems : ∀ d a l, NN (elemsS n d a l)
 elem : ∀ d l, NN (elemS n d l)
 block : ∀ d l, NN (blockS n d l)
 body : ∀ d e l, NN (bodyS n d e l)
 stmts : ∀ d e a l, NN (stmtsS n d e a l)
 stmt : ∀ d l, NN (stmtS n d l)
theorem nz : ∀ n, NZ n
 | 0 => by constructor <;> intros <;> (simp only [exprS, cascS, semisS, msgS, keysS, keyedS, binaryS, unaryS, chainS, primS, listS, elemsS, elemS, blockS, bodyS, stmtsS, stmtS]; exact NN.out)
 | n + 1 => by
  have ih := nz n
  constructor <;> intros <;> simp only [exprS, cascS, semisS, msgS, keysS, keyedS, binaryS, unaryS, chainS, primS, listS, elemsS, elemS, blockS, bodyS, stmtsS, stmtS] <;>
   repeat' (first | split | exact NN.ok | exact NN.syn | exact NN.big | exact ih.expr _ _ | exact ih.casc _ _ | exact ih.semis _ _ _ | exact ih.msg _ _ | exact ih.keys _ _ _ _ | exact ih.keyed _ _ | exact ih.binary _ _ | exact ih.unary _ _ | exact ih.chain _ _ _ _ | exact ih.prim _ _ | exact ih.list _ _ | exact ih.elems _ _ _ | exact ih.elem _ _ | exact ih.block _ _ | exact ih.body _ _ _ | exact ih.stmts _ _ _ _ | exact ih.stmt _ _ | exact argsS_nn _ _ | exact tempsS_nn _ | (refine NN.then ?_ fun _ _ => ?_))
end Go.SL
