/- CodeOnce: each literal, global and selector of any source's steps stands once, and is needed by some step; each block but the first one by one: for every source and every list of slots' names of bulk at most 1048576. Part 3. -/
import Derived.Test.YtbkdobainphhdaaGreatDoorOnce1
import Derived.Test.YtbkdobainphhdaaGreatDoorChecked
import Derived.KernelRfl
import Derived.Laws.Externs
set_option maxRecDepth 100000
namespace Go.SL
open Go.Proofs
@[simp] abbrev Xt (n : Nat) : Opd := .tmp n
@[simp] abbrev Xi (n : Int) : Opd := .cst (.int .i64 n)
@[simp] abbrev Xm (i d s : Nat) (k : List Nat) : AI := ⟨i, some d, .o (.move (.tmp s)), none, k⟩
@[simp] abbrev Xa (i d s : Nat) (k : List Nat) : AI := ⟨i, some d, .o (.asg (.tmp s)), none, k⟩
@[simp] abbrev Xf (i d n s : Nat) (k : List Nat) : AI := ⟨i, some d, .o (.faddr n (.tmp s)), none, k⟩
@[simp] abbrev Xl (i d n s : Nat) (k : List Nat) : AI := ⟨i, some d, .o (.load false n (.tmp s)), none, k⟩
@[simp] abbrev Xg (i d n s : Nat) (k : List Nat) : AI := ⟨i, some d, .o (.load true n (.tmp s)), none, k⟩
@[simp] abbrev Xs (i n a b : Nat) (k : List Nat) : AI := ⟨i, none, .o (.store n (.tmp a) (.tmp b)), none, k⟩
@[simp] abbrev Xn (i d s : Nat) (k : List Nat) : AI := ⟨i, some d, .o (.nilc (.tmp s)), none, k⟩
@[simp] abbrev Xe (i d s n : Nat) (k : List Nat) : AI := ⟨i, some d, .o (.extract (.tmp s) n), none, k⟩
@[simp] abbrev Xc (i d f a : Nat) (k : List Nat) : AI := ⟨i, some d, .call (.cst (.fn (.func f) [] [])) [.tmp a], none, k⟩
@[simp] abbrev Xd (i d f a b : Nat) (k : List Nat) : AI := ⟨i, some d, .call (.cst (.fn (.func f) [] [])) [.tmp a, .tmp b], none, k⟩
@[simp] abbrev Xo (i d : Nat) (o : AO) (k : List Nat) : AI := ⟨i, some d, .o o, none, k⟩
@[simp] abbrev Xu (i d : Nat) (o : AO) (g : Nat) (k : List Nat) : AI := ⟨i, some d, .o o, some (g, true), k⟩
@[simp] abbrev Xv (i d : Nat) (o : AO) (g : Nat) (k : List Nat) : AI := ⟨i, some d, .o o, some (g, false), k⟩
@[simp] abbrev Xh (i d : Nat) (o : BinOp) (a b : Nat) (k : List Nat) : AI := ⟨i, some d, .o (.icmp o (.tmp a) (.tmp b)), none, k⟩
@[simp] abbrev Xj (i d : Nat) (o : BinOp) (a : Nat) (n : Int) (k : List Nat) : AI := ⟨i, some d, .o (.icmp o (.tmp a) (.cst (.int .i64 n))), none, k⟩
@[simp] abbrev Xb (i d : Nat) (o : BinOp) (a : Nat) (n : Int) (k : List Nat) : AI := ⟨i, some d, .o (.ibin o (.tmp a) (.cst (.int .i64 n))), none, k⟩
@[simp] abbrev Xq : Opd := .cst (.bool false)
@[simp] abbrev Xp : Opd := .cst (.bool true)
@[simp] abbrev Xw : D := .sl true 0 []
@[simp] abbrev Xx : List D := [.int .i64 0, .str ⟨#[]⟩, .int .i64 0]
@[simp] abbrev Xz : List D := [.int .i64 0, .str ⟨#[]⟩, .int .i64 0, .int .i64 0, .sl true 0 [], .sl true 0 []]
noncomputable abbrev Ko (n : Nat) (a : Ann) (f : Func) : Option AC := comp Tryz.prog n a chkD (f.body.getD .skip)
noncomputable abbrev Kc (n : Nat) : Bool := callable Tryz.prog n
noncomputable abbrev Kr (f : Func) : Option (List ARes) := cRess Tryz.prog f.results.toList
def Xan (f : Nat → List AI) (n : Nat) : List (List (Nat × List Nat)) := [(f n).map fun a => (a.ix, a.kill)]
def c4t : Nat → List AI
 | 0 => [Xo 0 4 (.asg Xq) []]
 | 1 => [Xm 0 13 0 [4, 0], Xm 1 14 1 [1], Xd 2 15 7 13 14 [14, 13], Xm 3 12 15 [15], Xe 4 16 12 0 [], Xe 5 17 12 1 [], Xe 6 18 12 2 [12], Xo 7 5 (.alloc [(.str ⟨#[]⟩), Xw, Xw, Xw, Xw] 25) [], Xs 8 5 5 16 [16], Xa 9 6 17 [17], Xa 10 7 18 [6, 18]]
 | 2 => [Xm 0 19 7 [7], Xj 1 20 .neq 19 0 [19]]
 | 3 => [⟨0, (some 21), .call (.cst (.fn (.func 11) [] [])) [], none, [20, 5]⟩, Xa 1 4 21 [21]]
 | 4 => [Xg 0 22 5 5 [5, 20, 4], Xc 1 23 10 22 [22], Xo 2 8 (.alloc [(.str ⟨#[]⟩), Xw, Xw, Xw, Xw] 31) [], Xs 3 5 8 23 [23]]
 | 5 => [Xf 0 24 2 8 [], Xl 1 25 1 24 [24], Xc 2 26 12 25 [25], Xo 3 27 (.not (Xt 26)) [26], Xm 4 28 27 [27], Xv 5 29 (.faddr 3 (Xt 8)) 28 [], Xv 6 30 (.load false 1 (Xt 29)) 28 [29], ⟨7, (some 31), .call (.cst (.fn (.func 12) [] [])) [(Xt 30)], (some (28, false)), [30]⟩, Xv 8 32 (.not (Xt 31)) 28 [31], Xo 9 33 (.pick (Xt 28) Xp (Xt 32)) [32, 28], Xm 10 34 33 [33], Xv 11 35 (.faddr 4 (Xt 8)) 34 [], Xv 12 36 (.load false 1 (Xt 35)) 34 [35], ⟨13, (some 37), .call (.cst (.fn (.func 12) [] [])) [(Xt 36)], (some (34, false)), [36]⟩, Xv 14 38 (.not (Xt 37)) 34 [37], Xo 15 39 (.pick (Xt 34) Xp (Xt 38)) [38, 34], Xm 16 40 39 [39], Xv 17 41 (.faddr 1 (Xt 8)) 40 [], Xv 18 42 (.load false 1 (Xt 41)) 40 [41], Xv 19 43 (.len false (Xt 42)) 40 [42], Xv 20 44 (.icmp .eql (Xt 43) (Xi 0)) 40 [43], Xo 21 45 (.pick (Xt 40) Xp (Xt 44)) [44, 40]]
 | 6 => [Xo 0 4 (.asg Xq) [45, 8]]
 | 7 => [Xo 0 9 (.asg (Xi 0)) [45, 4]]
 | 8 => [Xo 0 10 (.asg (Xi 0)) []]
 | 9 => [Xm 0 46 10 [], Xf 1 47 1 8 [], Xl 2 48 1 47 [47], Xo 3 49 (.len false (Xt 48)) [48], Xh 4 50 .lss 46 49 [49, 46]]
 | 10 => [Xo 0 11 (.asg (Xi 0)) [50]]
 | 11 => [Xm 0 53 11 [], Xf 1 54 1 8 [], Xl 2 55 1 54 [54], Xm 3 56 10 [], Xo 4 57 (.iaddr 3 (Xt 55) (Xt 56)) [56, 55], Xf 5 58 2 57 [57], Xl 6 59 1 58 [58], Xo 7 60 (.len false (Xt 59)) [59], Xh 8 61 .lss 53 60 [60, 53]]
 | 12 => [Xf 0 64 1 8 [61], Xl 1 65 1 64 [64], Xm 2 66 10 [], Xo 3 67 (.iaddr 3 (Xt 65) (Xt 66)) [66, 65], Xf 4 68 2 67 [67], Xl 5 69 1 68 [68], Xm 6 70 11 [], Xo 7 71 (.iaddr 3 (Xt 69) (Xt 70)) [70, 69], Xf 8 72 0 71 [71], Xl 9 73 1 72 [72], Xj 10 74 .eql 73 10 [73]]
 | 13 => [Xm 0 75 9 [74, 9], Xb 1 76 .add 75 1 [75], Xa 2 9 76 [76]]
 | 14 => [Xm 0 62 11 [74, 11], Xb 1 63 .add 62 1 [62], Xa 2 11 63 [63]]
 | 16 => [Xm 0 51 10 [11, 10], Xb 1 52 .add 51 1 [51], Xa 2 10 52 [52]]
 | 18 => [Xg 0 77 5 8 [10], Xf 1 78 2 8 [], Xl 2 79 1 78 [78], Xo 3 80 (.len false (Xt 79)) [79], ⟨4, (some 81), .call (.cst (.fn (.func 13) [] [])) [(Xt 77), (Xi 0), (Xi 0), (Xt 80)], none, [80, 77]⟩, Xm 5 82 81 [81], Xu 6 83 (.load true 5 (Xt 8)) 82 [], Xu 7 84 (.faddr 3 (Xt 8)) 82 [], Xu 8 85 (.load false 1 (Xt 84)) 82 [84], Xu 9 86 (.len false (Xt 85)) 82 [85], ⟨10, (some 87), .call (.cst (.fn (.func 13) [] [])) [(Xt 83), (Xi 5), (Xi 5), (Xt 86)], (some (82, true)), [86, 83]⟩, Xo 11 88 (.pick (Xt 82) (Xt 87) Xq) [87, 82], Xm 12 89 88 [88], Xu 13 90 (.load true 5 (Xt 8)) 89 [], Xu 14 91 (.faddr 4 (Xt 8)) 89 [], Xu 15 92 (.load false 1 (Xt 91)) 89 [91], Xu 16 93 (.len false (Xt 92)) 89 [92], ⟨17, (some 94), .call (.cst (.fn (.func 13) [] [])) [(Xt 90), (Xi 8), (Xi 9), (Xt 93)], (some (89, true)), [93, 90]⟩, Xo 18 95 (.pick (Xt 89) (Xt 94) Xq) [94, 89], Xm 19 96 95 [95], Xu 20 97 (.move (Xt 9)) 96 [9], Xu 21 98 (.faddr 1 (Xt 8)) 96 [8], Xu 22 99 (.load false 1 (Xt 98)) 96 [98], Xu 23 100 (.len false (Xt 99)) 96 [99], Xu 24 101 (.ibin .sub (Xt 100) (Xi 1)) 96 [100], Xu 25 102 (.icmp .eql (Xt 97) (Xt 101)) 96 [101, 97], Xo 26 103 (.pick (Xt 96) (Xt 102) Xq) [102, 96], Xm 27 104 103 [103], ⟨28, (some 105), .call (.cst (.fn (.func 11) [] [])) [], (some (104, true)), []⟩, Xo 29 106 (.pick (Xt 104) (Xt 105) Xq) [105, 104], Xa 30 4 106 [106]]
 | _ => []
def c4l15 : AC := (.seq (.seq (.regT c4t 11) (.cond (.tmp 61) .skip (.exit 2))) (.seq (.block 3 (.seq (.regT c4t 12) (.cond (.tmp 74) (.regT c4t 13) .skip))) (.regT c4t 14)))
def c4l17 : AC := (.seq (.seq (.regT c4t 9) (.cond (.tmp 50) .skip (.exit 0))) (.seq (.block 1 (.seq (.regT c4t 10) (.block 2 (.loop c4l15)))) (.regT c4t 16)))
def c4c : AC := (.seq (.regT c4t 0) (.seq (.regT c4t 1) (.seq (.seq (.regT c4t 2) (.cond (.tmp 20) (.seq (.regT c4t 3) .ret) .skip)) (.seq (.regT c4t 4) (.seq (.seq (.regT c4t 5) (.cond (.tmp 45) (.seq (.regT c4t 6) .ret) .skip)) (.seq (.regT c4t 7) (.seq (.seq (.regT c4t 8) (.block 0 (.loop c4l17))) (.seq (.regT c4t 18) .ret))))))))
def c4a : Ann := fun id => match id with
 | 11 => Xan c4t 10
 | 12 => Xan c4t 11
 | 14 => Xan c4t 12
 | 15 => Xan c4t 13
 | 13 => Xan c4t 14
 | 10 => Xan c4t 16
 | 16 => Xan c4t 18
 | n => Xan c4t n
theorem c4ok : Ko 107 c4a Tryz.f4 = some (inst c4c) := by kernel_rfl
theorem c4call : Kc 4 = true := by kernel_rfl
theorem c4res : Kr Tryz.f4 = some [.tmp 4] := by kernel_rfl
def c7t : Nat → List AI
 | 0 => [Xo 0 4 (.alloc [(.str ⟨#[]⟩), Xw, Xw, Xw, Xw] 25) [], Xo 1 5 (.asg (Xi 0)) [], Xo 2 6 (.asg (Xi 0)) [5]]
 | 1 => [Xm 0 11 0 [6, 0], Xc 1 12 18 11 [11], Xm 2 10 12 [12], Xe 3 13 10 0 [], Xe 4 14 10 1 [], Xe 5 15 10 2 [10], Xo 6 7 (.alloc Xz 50) [], Xs 7 6 7 13 [13], Xa 8 8 14 [14], Xa 9 9 15 [15]]
 | 2 => [Xm 0 16 9 [], Xj 1 17 .neq 16 0 [16]]
 | 3 => [Xo 0 18 (.build [(.str ⟨#[]⟩), Xw, Xw, Xw, Xw] []) [17, 7, 1], Xm 1 19 8 [8], Xm 2 20 9 [9], Xs 3 5 4 18 [18], Xa 4 5 19 [19], Xa 5 6 20 [20]]
 | 4 => [Xg 0 21 6 7 [7, 8, 9, 17, 6, 5], Xm 1 22 1 [1], Xd 2 23 19 21 22 [22, 21], Xe 3 24 23 0 [], Xe 4 25 23 1 [], Xe 5 26 23 2 [23], Xs 6 5 4 24 [24], Xa 7 5 25 [25], Xa 8 6 26 [26]]
 | _ => []
def c7c : AC := (.seq (.regT c7t 0) (.seq (.regT c7t 1) (.seq (.seq (.regT c7t 2) (.cond (.tmp 17) (.seq (.regT c7t 3) .ret) .skip)) (.seq (.regT c7t 4) .ret))))
def c7a : Ann := Xan c7t
theorem c7ok : Ko 27 c7a Tryz.f7 = some (inst c7c) := by kernel_rfl
theorem c7call : Kc 7 = true := by kernel_rfl
theorem c7res : Kr Tryz.f7 = some [.cell 4 true 5, .tmp 5, .tmp 6] := by kernel_rfl
def c9t : Nat → List AI
 | 0 => [Xo 0 2 (.box 31 (Xt 0)) [0], Xo 1 3 (.box 31 (Xt 1)) [1], Xo 2 4 (.asg Xq) []]
 | 1 => [Xf 0 9 0 2 [4], Xl 1 10 1 9 [9], Xf 2 11 0 3 [], Xl 3 12 1 11 [11], Xo 4 13 (.sbin .neq (Xt 10) (Xt 12)) [12, 10], Xm 5 14 13 [13], Xv 6 15 (.faddr 2 (Xt 2)) 14 [], Xv 7 16 (.load false 1 (Xt 15)) 14 [15], Xv 8 17 (.faddr 2 (Xt 3)) 14 [], Xv 9 18 (.load false 1 (Xt 17)) 14 [17], ⟨10, (some 19), .call (.cst (.fn (.func 22) [] [])) [(Xt 16), (Xt 18)], (some (14, false)), [18, 16]⟩, Xv 11 20 (.not (Xt 19)) 14 [19], Xo 12 21 (.pick (Xt 14) Xp (Xt 20)) [20, 14], Xm 13 22 21 [21], Xv 14 23 (.faddr 3 (Xt 2)) 22 [], Xv 15 24 (.load false 1 (Xt 23)) 22 [23], Xv 16 25 (.faddr 3 (Xt 3)) 22 [], Xv 17 26 (.load false 1 (Xt 25)) 22 [25], ⟨18, (some 27), .call (.cst (.fn (.func 22) [] [])) [(Xt 24), (Xt 26)], (some (22, false)), [26, 24]⟩, Xv 19 28 (.not (Xt 27)) 22 [27], Xo 20 29 (.pick (Xt 22) Xp (Xt 28)) [28, 22], Xm 21 30 29 [29], Xv 22 31 (.faddr 4 (Xt 2)) 30 [], Xv 23 32 (.load false 1 (Xt 31)) 30 [31], Xv 24 33 (.faddr 4 (Xt 3)) 30 [], Xv 25 34 (.load false 1 (Xt 33)) 30 [33], ⟨26, (some 35), .call (.cst (.fn (.func 22) [] [])) [(Xt 32), (Xt 34)], (some (30, false)), [34, 32]⟩, Xv 27 36 (.not (Xt 35)) 30 [35], Xo 28 37 (.pick (Xt 30) Xp (Xt 36)) [36, 30], Xm 29 38 37 [37], Xv 30 39 (.faddr 1 (Xt 2)) 38 [], Xv 31 40 (.load false 1 (Xt 39)) 38 [39], Xv 32 41 (.len false (Xt 40)) 38 [40], Xv 33 42 (.faddr 1 (Xt 3)) 38 [], Xv 34 43 (.load false 1 (Xt 42)) 38 [42], Xv 35 44 (.len false (Xt 43)) 38 [43], Xv 36 45 (.icmp .neq (Xt 41) (Xt 44)) 38 [44, 41], Xo 37 46 (.pick (Xt 38) Xp (Xt 45)) [45, 38]]
 | 2 => [Xo 0 4 (.asg Xq) [46, 3, 2]]
 | 3 => [Xo 0 5 (.asg (Xi 0)) [46, 4]]
 | 4 => [Xm 0 47 5 [], Xf 1 48 1 2 [], Xl 2 49 1 48 [48], Xo 3 50 (.len false (Xt 49)) [49], Xh 4 51 .lss 47 50 [50, 47]]
 | 5 => [Xf 0 54 1 2 [51], Xl 1 55 1 54 [54], Xm 2 56 5 [], Xo 3 57 (.iaddr 3 (Xt 55) (Xt 56)) [56, 55], Xg 4 58 3 57 [57], Xo 5 6 (.alloc [(.int .i64 0), (.int .i64 0), Xw] 41) [], Xs 6 3 6 58 [58]]
 | 6 => [Xf 0 59 1 3 [], Xl 1 60 1 59 [59], Xm 2 61 5 [], Xo 3 62 (.iaddr 3 (Xt 60) (Xt 61)) [61, 60], Xg 4 63 3 62 [62], Xo 5 7 (.alloc [(.int .i64 0), (.int .i64 0), Xw] 41) [], Xs 6 3 7 63 [63]]
 | 7 => [Xf 0 64 0 6 [], Xl 1 65 1 64 [64], Xf 2 66 0 7 [], Xl 3 67 1 66 [66], Xh 4 68 .neq 65 67 [67, 65], Xm 5 69 68 [68], Xv 6 70 (.faddr 1 (Xt 6)) 69 [], Xv 7 71 (.load false 1 (Xt 70)) 69 [], Xv 8 72 (.faddr 1 (Xt 7)) 69 [], Xv 9 73 (.load false 1 (Xt 72)) 69 [], Xv 10 74 (.icmp .neq (Xt 71) (Xt 73)) 69 [], Xo 11 75 (.pick (Xt 69) Xp (Xt 74)) [69], Xm 12 76 75 [75], Xv 13 77 (.faddr 2 (Xt 6)) 76 [], Xv 14 78 (.load false 1 (Xt 77)) 76 [], Xv 15 79 (.len false (Xt 78)) 76 [], Xv 16 80 (.faddr 2 (Xt 7)) 76 [], Xv 17 81 (.load false 1 (Xt 80)) 76 [], Xv 18 82 (.len false (Xt 81)) 76 [], Xv 19 83 (.icmp .neq (Xt 79) (Xt 82)) 76 [], Xo 20 84 (.pick (Xt 76) Xp (Xt 83)) [76]]
 | 8 => [Xo 0 4 (.asg Xq) [84, 7, 6, 70, 71, 72, 73, 74, 77, 78, 79, 80, 81, 82, 83, 5, 2, 3]]
 | 9 => [Xo 0 8 (.asg (Xi 0)) [84, 4]]
 | 10 => [Xm 0 85 8 [], Xf 1 86 2 6 [], Xl 2 87 1 86 [86], Xo 3 88 (.len false (Xt 87)) [87], Xh 4 89 .lss 85 88 [88, 85]]
 | 11 => [Xf 0 92 2 6 [], Xl 1 93 1 92 [], Xm 2 94 8 [], Xo 3 95 (.iaddr 3 (Xt 93) (Xt 94)) [], Xg 4 96 3 95 [], Xf 5 97 2 7 [], Xl 6 98 1 97 [], Xm 7 99 8 [], Xo 8 100 (.iaddr 3 (Xt 98) (Xt 99)) [], Xg 9 101 3 100 [], Xo 10 102 (.aeq true (Xt 96) (Xt 101)) []]
 | 12 => [Xo 0 4 (.asg Xq) [102, 8, 3, 2, 5, 83, 82, 81, 80, 79, 78, 77, 74, 73, 72, 71, 70, 6, 7]]
 | 13 => [Xm 0 90 8 [8, 102, 4], Xb 1 91 .add 90 1 [90], Xa 2 8 91 [91]]
 | 15 => [Xm 0 52 5 [8, 7, 6, 5], Xb 1 53 .add 52 1 [52], Xa 2 5 53 [53]]
 | 17 => [Xo 0 4 (.asg Xp) [5, 70, 71, 72, 73, 74, 77, 78, 79, 80, 81, 82, 83, 2, 3]]
 | _ => []
def c9l14 : AC := (.seq (.seq (.regT c9t 10) (.cond (.tmp 89) .skip (.exit 2))) (.seq (.block 3 (.seq (.regD [c9t 11]) (.cond (.tmp 102) (.seq (.regT c9t 12) .ret) .skip))) (.regT c9t 13)))
def c9l16 : AC := (.seq (.seq (.regT c9t 4) (.cond (.tmp 51) .skip (.exit 0))) (.seq (.block 1 (.seq (.regT c9t 5) (.seq (.regT c9t 6) (.seq (.seq (.regT c9t 7) (.cond (.tmp 84) (.seq (.regT c9t 8) .ret) .skip)) (.seq (.regT c9t 9) (.block 2 (.loop c9l14))))))) (.regT c9t 15)))
def c9c : AC := (.seq (.regT c9t 0) (.seq (.seq (.regT c9t 1) (.cond (.tmp 46) (.seq (.regT c9t 2) .ret) .skip)) (.seq (.seq (.regT c9t 3) (.block 0 (.loop c9l16))) (.seq (.regT c9t 17) .ret))))
def c9a : Ann := fun id => match id with
 | 6 => Xan c9t 5
 | 7 => Xan c9t 6
 | 8 => Xan c9t 7
 | 9 => Xan c9t 8
 | 10 => Xan c9t 9
 | 11 => Xan c9t 10
 | 13 => Xan c9t 11
 | 14 => Xan c9t 12
 | 12 => Xan c9t 13
 | 5 => Xan c9t 15
 | 15 => Xan c9t 17
 | n => Xan c9t n
theorem c9ok : Ko 103 c9a Tryz.f9 = some (inst c9c) := by kernel_rfl
theorem c9call : Kc 9 = true := by kernel_rfl
theorem c9res : Kr Tryz.f9 = some [.tmp 4] := by kernel_rfl
def c10t : Nat → List AI
 | 0 => [Xo 0 1 (.box 25 (Xt 0)) [0], Xo 1 2 (.alloc [(.str ⟨#[]⟩), Xw, Xw, Xw, Xw] 31) []]
 | 1 => [Xf 0 8 0 1 [], Xl 1 9 1 8 [8], Xo 2 10 (.build [(.str ⟨#[]⟩), Xw, Xw, Xw, Xw] [(0, 1, (Xt 9))]) [9], Xo 3 3 (.alloc [(.str ⟨#[]⟩), Xw, Xw, Xw, Xw] 31) [], Xs 4 5 3 10 [10]]
 | 2 => [Xf 0 11 2 3 [], Xl 1 12 1 11 [11], Xf 2 13 2 1 [], Xl 3 14 1 13 [13], Xo 4 15 (.append 9 1 16 [(.str ⟨#[]⟩)] (Xt 12) (Xt 14)) [14, 12], Xf 5 16 2 3 [], Xs 6 1 16 15 [16, 15]]
 | 3 => [Xf 0 17 3 3 [], Xl 1 18 1 17 [17], Xf 2 19 3 1 [], Xl 3 20 1 19 [19], Xo 4 21 (.append 9 1 16 [(.str ⟨#[]⟩)] (Xt 18) (Xt 20)) [20, 18], Xf 5 22 3 3 [], Xs 6 1 22 21 [22, 21]]
 | 4 => [Xf 0 23 4 3 [], Xl 1 24 1 23 [23], Xf 2 25 4 1 [], Xl 3 26 1 25 [25], Xo 4 27 (.append 9 1 16 [(.str ⟨#[]⟩)] (Xt 24) (Xt 26)) [26, 24], Xf 5 28 4 3 [], Xs 6 1 28 27 [28, 27]]
 | 5 => [Xo 0 4 (.asg (Xi 0)) []]
 | 6 => [Xm 0 29 4 [], Xf 1 30 1 1 [], Xl 2 31 1 30 [30], Xo 3 32 (.len false (Xt 31)) [31], Xh 4 33 .lss 29 32 [32, 29]]
 | 7 => [Xf 0 36 1 1 [], Xl 1 37 1 36 [], Xm 2 38 4 [], Xo 3 39 (.iaddr 3 (Xt 37) (Xt 38)) [], Xf 4 40 0 39 [], Xl 5 41 1 40 [], Xf 6 42 1 1 [], Xl 7 43 1 42 [], Xm 8 44 4 [], Xo 9 45 (.iaddr 3 (Xt 43) (Xt 44)) [], Xf 10 46 1 45 [], Xl 11 47 1 46 [], Xo 12 48 (.build [(.int .i64 0), (.int .i64 0), Xw] [(0, 1, (Xt 41)), (1, 1, (Xt 47))]) [], Xo 13 5 (.alloc [(.int .i64 0), (.int .i64 0), Xw] 41) [0, 1, 2, 3, 4, 5, 6, 7, 8, 9, 10, 11, 12], Xs 14 3 5 48 []]
 | 8 => [Xo 0 6 (.asg (Xi 0)) []]
 | 9 => [Xm 0 49 6 [], Xf 1 50 1 1 [], Xl 2 51 1 50 [50], Xm 3 52 4 [], Xo 4 53 (.iaddr 3 (Xt 51) (Xt 52)) [52, 51], Xf 5 54 2 53 [53], Xl 6 55 1 54 [54], Xo 7 56 (.len false (Xt 55)) [55], Xh 8 57 .lss 49 56 [56, 49]]
 | 10 => [Xf 0 60 1 1 [57], Xl 1 61 1 60 [60], Xm 2 62 4 [], Xo 3 63 (.iaddr 3 (Xt 61) (Xt 62)) [62, 61], Xf 4 64 2 63 [63], Xl 5 65 1 64 [64], Xm 6 66 6 [], Xo 7 67 (.iaddr 3 (Xt 65) (Xt 66)) [66, 65], Xg 8 68 3 67 [67], Xo 9 7 (.alloc [(.int .i64 0), (.int .i64 0), (.int .i64 0)] 64) [], Xs 10 3 7 68 [68]]
 | 11 => [Xf 0 69 2 5 [], Xl 1 70 1 69 [69], Xf 2 71 0 7 [], Xl 3 72 1 71 [71], Xf 4 73 1 7 [], Xl 5 74 1 73 [73], Xf 6 75 2 7 [7], Xl 7 76 1 75 [75], Xo 8 77 (.build [(.int .i64 0), (.int .i64 0), (.int .i64 0)] [(0, 1, (Xt 72)), (1, 1, (Xt 74)), (2, 1, (Xt 76))]) [76, 74, 72], Xo 9 78 (.bslice 43 true 3 1 [(.int .i64 0), (.int .i64 0), (.int .i64 0)] [(0, 3, (Xt 77))]) [77], Xo 10 79 (.append 43 3 24 [(.int .i64 0), (.int .i64 0), (.int .i64 0)] (Xt 70) (Xt 78)) [78, 70], Xf 11 80 2 5 [], Xs 12 1 80 79 [80, 79]]
 | 12 => [Xm 0 58 6 [6], Xb 1 59 .add 58 1 [58], Xa 2 6 59 [59]]
 | 14 => [Xf 0 81 1 3 [6], Xl 1 82 1 81 [81], Xg 2 83 3 5 [5], Xo 3 84 (.bslice 41 true 3 1 [(.int .i64 0), (.int .i64 0), Xw] [(0, 3, (Xt 83))]) [83], Xo 4 85 (.append 41 3 40 [(.int .i64 0), (.int .i64 0), Xw] (Xt 82) (Xt 84)) [84, 82], Xf 5 86 1 3 [], Xs 6 1 86 85 [86, 85]]
 | 15 => [Xm 0 34 4 [4], Xb 1 35 .add 34 1 [34], Xa 2 4 35 [35]]
 | 17 => [Xg 0 87 5 3 [4, 3, 1], Xs 1 5 2 87 [87]]
 | _ => []
def c10l13 : AC := (.seq (.seq (.regT c10t 9) (.cond (.tmp 57) .skip (.exit 2))) (.seq (.block 3 (.seq (.regT c10t 10) (.regT c10t 11))) (.regT c10t 12)))
def c10l16 : AC := (.seq (.seq (.regT c10t 6) (.cond (.tmp 33) .skip (.exit 0))) (.seq (.block 1 (.seq (.regD [c10t 7]) (.seq (.seq (.regT c10t 8) (.block 2 (.loop c10l13))) (.regT c10t 14)))) (.regT c10t 15)))
def c10c : AC := (.seq (.regT c10t 0) (.seq (.regT c10t 1) (.seq (.regT c10t 2) (.seq (.regT c10t 3) (.seq (.regT c10t 4) (.seq (.seq (.regT c10t 5) (.block 0 (.loop c10l16))) (.seq (.regT c10t 17) .ret)))))))
def c10a : Ann := fun id => match id with
 | 8 => Xan c10t 7
 | 9 => Xan c10t 5
 | 10 => Xan c10t 9
 | 12 => Xan c10t 10
 | 13 => Xan c10t 11
 | 11 => Xan c10t 12
 | 7 => Xan c10t 15
 | 15 => Xan c10t 17
 | n => Xan c10t n
theorem c10ok : Ko 88 c10a Tryz.f10 = some (inst c10c) := by kernel_rfl
theorem c10call : Kc 10 = true := by kernel_rfl
theorem c10res : Kr Tryz.f10 = some [.cell 2 true 5] := by kernel_rfl
def c11t : Nat → List AI
 | 0 => [Xo 0 0 (.asg Xq) []]
 | 1 => [⟨0, (some 9), .call (.cst (.fn (.func 7) [] [])) [(.cst (.str ⟨#[51, 32, 102, 111, 111, 59, 32, 43, 32, 52]⟩)), (.cst Xw)], none, [0]⟩, Xm 1 8 9 [9], Xe 2 10 8 0 [], Xe 3 11 8 1 [], Xe 4 12 8 2 [8], Xo 5 1 (.alloc [(.str ⟨#[]⟩), Xw, Xw, Xw, Xw] 25) [], Xs 6 5 1 10 [10], Xa 7 2 11 [11], Xa 8 3 12 [2, 12]]
 | 2 => [⟨0, (some 14), .call (.cst (.fn (.func 7) [] [])) [(.cst (.str ⟨#[97, 32, 58, 61, 32, 51]⟩)), (.cst Xw)], none, []⟩, Xm 1 13 14 [14], Xe 2 15 13 0 [], Xe 3 16 13 1 [], Xe 4 17 13 2 [13], Xo 5 4 (.alloc [(.str ⟨#[]⟩), Xw, Xw, Xw, Xw] 25) [], Xs 6 5 4 15 [4, 15], Xa 7 5 16 [16], Xa 8 6 17 [17]]
 | 3 => [Xo 0 18 (.bslice 9 false 1 2 [(.str ⟨#[]⟩)] [(0, 1, (.cst (.str ⟨#[51]⟩))), (1, 1, (.cst (.str ⟨#[52]⟩)))]) [], Xo 1 19 (.bslice 9 false 1 2 [(.str ⟨#[]⟩)] [(0, 1, (.cst (.str ⟨#[102, 111, 111]⟩))), (1, 1, (.cst (.str ⟨#[43]⟩)))]) [], Xo 2 20 (.build [(.str ⟨#[]⟩), Xw, Xw, Xw, Xw] [(2, 1, (Xt 18)), (4, 1, (Xt 19))]) [19, 18], Xo 3 7 (.alloc [(.str ⟨#[]⟩), Xw, Xw, Xw, Xw] 31) [], Xs 4 5 7 20 [20]]
 | 4 => [Xo 0 21 (.build [(.int .i64 0), (.int .i64 0), (.int .i64 0)] [(0, 1, (Xi 0))]) [], Xo 1 22 (.build [(.int .i64 0), (.int .i64 0), (.int .i64 0)] [(0, 1, (Xi 11))]) [], Xo 2 23 (.build [(.int .i64 0), (.int .i64 0), (.int .i64 0)] [(0, 1, (Xi 8))]) [], Xo 3 24 (.build [(.int .i64 0), (.int .i64 0), (.int .i64 0)] [(0, 1, (Xi 12))]) [], Xo 4 25 (.build [(.int .i64 0), (.int .i64 0), (.int .i64 0)] [(0, 1, (Xi 0)), (1, 1, (Xi 1))]) [], Xo 5 26 (.build [(.int .i64 0), (.int .i64 0), (.int .i64 0)] [(0, 1, (Xi 8)), (1, 1, (Xi 1)), (2, 1, (Xi 1))]) [], Xo 6 27 (.build [(.int .i64 0), (.int .i64 0), (.int .i64 0)] [(0, 1, (Xi 13))]) [], Xo 7 28 (.bslice 43 true 3 7 [(.int .i64 0), (.int .i64 0), (.int .i64 0)] [(0, 3, (Xt 21)), (3, 3, (Xt 22)), (6, 3, (Xt 23)), (9, 3, (Xt 24)), (12, 3, (Xt 25)), (15, 3, (Xt 26)), (18, 3, (Xt 27))]) [27, 26, 25, 24, 23, 22, 21], Xo 8 29 (.build [(.int .i64 0), (.int .i64 0), Xw] [(2, 1, (Xt 28))]) [28], Xo 9 30 (.bslice 41 true 3 1 [(.int .i64 0), (.int .i64 0), Xw] [(0, 3, (Xt 29))]) [29], Xf 10 31 1 7 [], Xs 11 1 31 30 [31, 30]]
 | 5 => [Xm 0 32 3 [], Xj 1 33 .eql 32 0 [], Xm 2 34 33 [], Xu 3 35 (.load true 5 (Xt 1)) 34 [], Xu 5 37 (.load true 5 (Xt 7)) 34 [], ⟨4, (some 36), .call (.cst (.fn (.func 10) [] [])) [(Xt 35)], (some (34, true)), [5]⟩, ⟨6, (some 38), .call (.cst (.fn (.func 9) [] [])) [(Xt 36), (Xt 37)], (some (34, true)), []⟩, Xo 7 39 (.pick (Xt 34) (Xt 38) Xq) [], Xm 8 40 39 [], Xu 9 41 (.move (Xt 5)) 40 [], Xu 10 42 (.icmp .eql (Xt 41) (Xi 0)) 40 [], Xo 11 43 (.pick (Xt 40) (Xt 42) Xq) [], Xm 12 44 43 [], Xu 13 45 (.move (Xt 6)) 44 [], Xu 14 46 (.icmp .eql (Xt 45) (Xi 21)) 44 [], Xo 15 47 (.pick (Xt 44) (Xt 46) Xq) [], Xa 16 0 47 []]
 | _ => []
def c11c : AC := (.seq (.regT c11t 0) (.seq (.regT c11t 1) (.seq (.regT c11t 2) (.seq (.regT c11t 3) (.seq (.regT c11t 4) (.seq (.regD [c11t 5]) .ret))))))
def c11a : Ann := Xan c11t
theorem c11ok : Ko 48 c11a Tryz.f11 = some (inst c11c) := by kernel_rfl
theorem c11call : Kc 11 = true := by kernel_rfl
theorem c11res : Kr Tryz.f11 = some [.tmp 0] := by kernel_rfl
def c12t : Nat → List AI
 | 0 => [Xo 0 2 (.asg Xq) []]
 | 1 => [Xo 0 3 (.asg (Xi 0)) [2]]
 | 2 => [Xm 0 5 3 [], Xm 1 6 0 [], Xo 2 7 (.len false (Xt 6)) [6], Xh 3 8 .lss 5 7 [7, 5]]
 | 3 => [Xo 0 4 (.asg (Xi 0)) [8]]
 | 4 => [Xm 0 11 4 [], Xm 1 12 3 [], Xh 2 13 .lss 11 12 [12, 11]]
 | 5 => [Xm 0 16 0 [], Xm 1 17 3 [], Xo 2 18 (.iaddr 1 (Xt 16) (Xt 17)) [], Xl 3 19 1 18 [], Xm 4 20 0 [], Xm 5 21 4 [], Xo 6 22 (.iaddr 1 (Xt 20) (Xt 21)) [], Xl 7 23 1 22 [], Xo 8 24 (.sbin .eql (Xt 19) (Xt 23)) []]
 | 6 => [Xo 0 2 (.asg Xq) [24, 4, 3, 0]]
 | 7 => [Xm 0 14 4 [4, 24, 2], Xb 1 15 .add 14 1 [14], Xa 2 4 15 [15]]
 | 9 => [Xm 0 9 3 [4, 3], Xb 1 10 .add 9 1 [9], Xa 2 3 10 [10]]
 | 11 => [Xo 0 2 (.asg Xp) [3, 0]]
 | _ => []
def c12l8 : AC := (.seq (.seq (.regT c12t 4) (.cond (.tmp 13) .skip (.exit 2))) (.seq (.block 3 (.seq (.regD [c12t 5]) (.cond (.tmp 24) (.seq (.regT c12t 6) .ret) .skip))) (.regT c12t 7)))
def c12l10 : AC := (.seq (.seq (.regT c12t 2) (.cond (.tmp 8) .skip (.exit 0))) (.seq (.block 1 (.seq (.regT c12t 3) (.block 2 (.loop c12l8)))) (.regT c12t 9)))
def c12c : AC := (.seq (.regT c12t 0) (.seq (.seq (.regT c12t 1) (.block 0 (.loop c12l10))) (.seq (.regT c12t 11) .ret)))
def c12a : Ann := fun id => match id with
 | 4 => Xan c12t 3
 | 5 => Xan c12t 4
 | 7 => Xan c12t 5
 | 8 => Xan c12t 6
 | 6 => Xan c12t 7
 | 3 => Xan c12t 9
 | 9 => Xan c12t 11
 | n => Xan c12t n
theorem c12ok : Ko 25 c12a Tryz.f12 = some (inst c12c) := by kernel_rfl
theorem c12call : Kc 12 = true := by kernel_rfl
theorem c12res : Kr Tryz.f12 = some [.tmp 2] := by kernel_rfl
def c13t : Nat → List AI
 | 0 => [Xo 0 4 (.box 31 (Xt 0)) [0], Xo 1 8 (.asg Xq) []]
 | 1 => [Xo 0 9 (.asg (Xi 0)) [8]]
 | 2 => [Xm 0 14 9 [], Xm 1 15 3 [], Xh 2 16 .lss 14 15 [15, 14]]
 | 3 => [Xo 0 10 (.asg Xq) [16]]
 | 4 => [Xo 0 11 (.asg (Xi 0)) []]
 | 5 => [Xm 0 19 11 [], Xf 1 20 1 4 [], Xl 2 21 1 20 [20], Xo 3 22 (.len false (Xt 21)) [21], Xh 4 23 .lss 19 22 [22, 19]]
 | 6 => [Xo 0 12 (.asg (Xi 0)) [23]]
 | 7 => [Xm 0 26 12 [], Xf 1 27 1 4 [], Xl 2 28 1 27 [27], Xm 3 29 11 [], Xo 4 30 (.iaddr 3 (Xt 28) (Xt 29)) [29, 28], Xf 5 31 2 30 [30], Xl 6 32 1 31 [31], Xo 7 33 (.len false (Xt 32)) [32], Xh 8 34 .lss 26 33 [33, 26]]
 | 8 => [Xf 0 37 1 4 [34], Xl 1 38 1 37 [37], Xm 2 39 11 [], Xo 3 40 (.iaddr 3 (Xt 38) (Xt 39)) [39, 38], Xf 4 41 2 40 [40], Xl 5 42 1 41 [41], Xm 6 43 12 [], Xo 7 44 (.iaddr 3 (Xt 42) (Xt 43)) [43, 42], Xg 8 45 3 44 [44], Xo 9 13 (.alloc [(.int .i64 0), (.int .i64 0), (.int .i64 0)] 43) [], Xs 10 3 13 45 [45]]
 | 9 => [Xm 0 46 10 [10], Xm 1 47 46 [46], Xv 2 48 (.faddr 1 (Xt 13)) 47 [], Xv 3 49 (.load false 1 (Xt 48)) 47 [], Xv 4 50 (.move (Xt 9)) 47 [], Xv 5 51 (.icmp .eql (Xt 49) (Xt 50)) 47 [], Xv 6 52 (.move (Xt 51)) 47 [], Xu 7 53 (.faddr 0 (Xt 13)) 52 [], Xu 8 54 (.load false 1 (Xt 53)) 52 [], Xu 9 55 (.move (Xt 1)) 52 [], Xu 10 56 (.icmp .eql (Xt 54) (Xt 55)) 52 [], Xu 11 57 (.move (Xt 56)) 52 [], Xv 12 58 (.faddr 0 (Xt 13)) 57 [13], Xv 13 59 (.load false 1 (Xt 58)) 57 [], Xv 14 60 (.move (Xt 2)) 57 [], Xv 15 61 (.icmp .eql (Xt 59) (Xt 60)) 57 [], Xu 16 62 (.pick (Xt 57) Xp (Xt 61)) 52 [], Xv 17 63 (.pick (Xt 52) (Xt 62) Xq) 47 [], Xo 18 64 (.pick (Xt 47) Xp (Xt 63)) [47], Xa 19 10 64 [64]]
 | 10 => [Xm 0 35 12 [12], Xb 1 36 .add 35 1 [35], Xa 2 12 36 [36]]
 | 12 => [Xm 0 24 11 [12, 11], Xb 1 25 .add 24 1 [24], Xa 2 11 25 [25]]
 | 14 => [Xm 0 65 10 [11, 10], Xo 1 66 (.not (Xt 65)) [65]]
 | 15 => [Xo 0 8 (.asg Xq) [66, 63, 62, 61, 60, 59, 58, 57, 56, 55, 54, 53, 52, 51, 50, 49, 48, 9, 4, 1, 2, 3]]
 | 16 => [Xm 0 17 9 [9, 66, 8], Xb 1 18 .add 17 1 [17], Xa 2 9 18 [18]]
 | 18 => [Xo 0 8 (.asg Xp) [9, 3, 2, 1, 4, 48, 49, 50, 51, 52, 53, 54, 55, 56, 57, 58, 59, 60, 61, 62, 63]]
 | _ => []
def c13l11 : AC := (.seq (.seq (.regT c13t 7) (.cond (.tmp 34) .skip (.exit 4))) (.seq (.block 5 (.seq (.regT c13t 8) (.regT c13t 9))) (.regT c13t 10)))
def c13l13 : AC := (.seq (.seq (.regT c13t 5) (.cond (.tmp 23) .skip (.exit 2))) (.seq (.block 3 (.seq (.regT c13t 6) (.block 4 (.loop c13l11)))) (.regT c13t 12)))
def c13l17 : AC := (.seq (.seq (.regT c13t 2) (.cond (.tmp 16) .skip (.exit 0))) (.seq (.block 1 (.seq (.regT c13t 3) (.seq (.seq (.regT c13t 4) (.block 2 (.loop c13l13))) (.seq (.regT c13t 14) (.cond (.tmp 66) (.seq (.regT c13t 15) .ret) .skip))))) (.regT c13t 16)))
def c13c : AC := (.seq (.regT c13t 0) (.seq (.seq (.regT c13t 1) (.block 0 (.loop c13l17))) (.seq (.regT c13t 18) .ret)))
def c13a : Ann := fun id => match id with
 | 4 => Xan c13t 3
 | 5 => Xan c13t 4
 | 6 => Xan c13t 5
 | 8 => Xan c13t 6
 | 9 => Xan c13t 7
 | 11 => Xan c13t 8
 | 12 => Xan c13t 9
 | 7 => Xan c13t 12
 | 13 => Xan c13t 14
 | 14 => Xan c13t 15
 | 3 => Xan c13t 16
 | 15 => Xan c13t 18
 | n => Xan c13t n
theorem c13ok : Ko 67 c13a Tryz.f13 = some (inst c13c) := by kernel_rfl
theorem c13call : Kc 13 = true := by kernel_rfl
theorem c13res : Kr Tryz.f13 = some [.tmp 8] := by kernel_rfl
def c18t : Nat → List AI
 | 0 => [Xo 0 2 (.alloc Xz 50) [], Xo 1 3 (.asg (Xi 0)) [], Xo 2 4 (.asg (Xi 0)) [3]]
 | 1 => [Xm 0 5 0 [4, 0], ⟨1, (some 6), .call (.cst (.fn (.func 28) [] [])) [(Xt 5), (.cst (.fn (.func 29) [] []))], none, [5]⟩, Xe 2 7 6 0 [], Xe 3 8 6 1 [], Xe 4 9 6 2 [6], Xs 5 6 2 7 [7], Xa 6 3 8 [8], Xa 7 4 9 [9]]
 | _ => []
def c18c : AC := (.seq (.regT c18t 0) (.seq (.regT c18t 1) .ret))
def c18a : Ann := Xan c18t
theorem c18ok : Ko 10 c18a Tryz.f18 = some (inst c18c) := by kernel_rfl
theorem c18call : Kc 18 = true := by kernel_rfl
theorem c18res : Kr Tryz.f18 = some [.cell 2 true 6, .tmp 3, .tmp 4] := by kernel_rfl
def c19t : Nat → List AI
 | 0 => [Xo 0 2 (.box 50 (Xt 0)) [0], Xo 1 4 (.alloc [(.str ⟨#[]⟩), Xw, Xw, Xw, Xw] 25) [], Xo 2 5 (.asg (Xi 0)) [], Xo 3 6 (.asg (Xi 0)) [5]]
 | 1 => [Xg 0 12 6 2 [6], Xm 1 13 1 [1], Xd 2 14 30 12 13 [13, 12], Xm 3 11 14 [14], Xe 4 15 11 0 [], Xe 5 16 11 1 [], Xe 6 17 11 2 [11], Xa 7 7 15 [15], Xa 8 8 16 [16], Xa 9 9 17 [17]]
 | 2 => [Xm 0 18 9 [], Xj 1 19 .neq 18 0 [18]]
 | 3 => [Xo 0 20 (.build [(.str ⟨#[]⟩), Xw, Xw, Xw, Xw] []) [19, 7, 2], Xm 1 21 8 [8], Xm 2 22 9 [9], Xs 3 5 4 20 [20], Xa 4 5 21 [21], Xa 5 6 22 [22]]
 | 4 => [Xf 0 23 1 2 [8, 9, 19, 6, 5], Xl 1 24 1 23 [23], Xo 2 25 (.build [(.str ⟨#[]⟩), Xw, Xw, Xw, Xw] [(0, 1, (Xt 24))]) [24], Xm 3 26 7 [7], Xo 4 27 (.build [(.str ⟨#[]⟩), Xw, Xw, Xw, Xw, Xw] [(0, 5, (Xt 25)), (5, 1, (Xt 26))]) [26, 25], Xo 5 28 (.box 78 (Xt 27)) [27], Xa 6 10 28 [28]]
 | 5 => [Xm 0 29 10 [], Xg 1 30 6 2 [2], Xd 2 31 31 29 30 [30, 29]]
 | 6 => [Xm 0 32 10 [31, 10], Xn 1 33 32 [32], Xf 2 34 0 33 [33], Xg 3 35 5 34 [34], Xs 4 5 4 35 [35], Xo 5 5 (.asg (Xi 0)) [], Xo 6 6 (.asg (Xi 0)) []]
 | _ => []
def c19c : AC := (.seq (.regT c19t 0) (.seq (.regT c19t 1) (.seq (.seq (.regT c19t 2) (.cond (.tmp 19) (.seq (.regT c19t 3) .ret) .skip)) (.seq (.regT c19t 4) (.seq (.regT c19t 5) (.seq (.regT c19t 6) .ret))))))
def c19a : Ann := Xan c19t
theorem c19ok : Ko 36 c19a Tryz.f19 = some (inst c19c) := by kernel_rfl
theorem c19call : Kc 19 = true := by kernel_rfl
theorem c19res : Kr Tryz.f19 = some [.cell 4 true 5, .tmp 5, .tmp 6] := by kernel_rfl
def c22t : Nat → List AI
 | 0 => [Xo 0 4 (.asg Xq) []]
 | 1 => [Xm 0 6 0 [4], Xo 1 7 (.len false (Xt 6)) [6], Xm 2 8 1 [], Xo 3 9 (.len false (Xt 8)) [8], Xh 4 10 .neq 7 9 [9, 7]]
 | 2 => [Xo 0 4 (.asg Xq) [10, 0, 1]]
 | 3 => [Xo 0 5 (.asg (Xi 0)) [10, 4]]
 | 4 => [Xm 0 11 5 [], Xm 1 12 0 [], Xo 2 13 (.len false (Xt 12)) [12], Xh 3 14 .lss 11 13 [13, 11]]
 | 5 => [Xm 0 17 0 [], Xm 1 18 5 [], Xo 2 19 (.iaddr 1 (Xt 17) (Xt 18)) [], Xl 3 20 1 19 [], Xm 4 21 1 [], Xm 5 22 5 [], Xo 6 23 (.iaddr 1 (Xt 21) (Xt 22)) [], Xl 7 24 1 23 [], Xo 8 25 (.sbin .neq (Xt 20) (Xt 24)) []]
 | 6 => [Xo 0 4 (.asg Xq) [25, 5, 1, 0]]
 | 7 => [Xm 0 15 5 [5, 25, 4], Xb 1 16 .add 15 1 [15], Xa 2 5 16 [16]]
 | 9 => [Xo 0 4 (.asg Xp) [5, 0, 1]]
 | _ => []
def c22l8 : AC := (.seq (.seq (.regT c22t 4) (.cond (.tmp 14) .skip (.exit 0))) (.seq (.block 1 (.seq (.regD [c22t 5]) (.cond (.tmp 25) (.seq (.regT c22t 6) .ret) .skip))) (.regT c22t 7)))
def c22c : AC := (.seq (.regT c22t 0) (.seq (.seq (.regT c22t 1) (.cond (.tmp 10) (.seq (.regT c22t 2) .ret) .skip)) (.seq (.seq (.regT c22t 3) (.block 0 (.loop c22l8))) (.seq (.regT c22t 9) .ret))))
def c22a : Ann := fun id => match id with
 | 6 => Xan c22t 5
 | 7 => Xan c22t 6
 | 5 => Xan c22t 7
 | 8 => Xan c22t 9
 | n => Xan c22t n
theorem c22ok : Ko 26 c22a Tryz.f22 = some (inst c22c) := by kernel_rfl
theorem c22call : Kc 22 = true := by kernel_rfl
theorem c22res : Kr Tryz.f22 = some [.tmp 4] := by kernel_rfl
end Go.SL
set_option maxRecDepth 100000
namespace Go.SL
open Go.Proofs
def c28t : Nat → List AI
 | 0 => [Xo 0 4 (.alloc Xz 50) [], Xo 1 5 (.alloc [(.int .i64 0)] 3) [], Xo 2 6 (.alloc [(.int .i64 0)] 26) []]
 | 1 => [Xm 0 10 0 [0], Xc 1 11 41 10 [10], Xm 2 9 11 [11], Xe 3 12 9 0 [], Xe 4 13 9 1 [], Xe 5 14 9 2 [9], Xa 6 7 12 [12], Xs 7 1 5 13 [13], Xs 8 1 6 14 [14]]
 | 2 => [Xl 0 15 1 6 [], Xj 1 16 .neq 15 0 [15]]
 | 3 => [Xo 0 17 (.build Xz []) [], Xl 1 18 1 5 [], Xl 2 19 1 6 [], Xs 3 6 4 17 [1, 2], Xs 4 1 5 18 [2], Xs 5 1 6 19 []]
 | 4 => [Xo 0 20 (.mkfn (.func 42) [] [(Xt 4), (Xt 5), (Xt 6)]) [16], ⟨1, none, .defer (Xt 20) [], none, [20]⟩]
 | 5 => [Xm 0 21 7 [7], Xo 1 22 (.build [Xw, (.int .i64 0)] [(0, 1, (Xt 21))]) [21], Xo 2 23 (.box 101 (Xt 22)) [22], Xa 3 8 23 [23]]
 | 6 => [Xo 0 24 (.build Xz [(0, 1, (Xi 12))]) [], Xs 1 6 4 24 [24]]
 | 7 => [Xm 0 25 1 [1], Xm 1 26 8 [], ⟨2, (some 27), .call (Xt 25) [(Xt 26), (Xt 4)], none, [26, 25]⟩]
 | 8 => [Xm 0 28 8 [27, 8], ⟨1, (some 29), .call (.cst (.fn (.func 43) [] [])) [(Xt 28), (Xt 4), (Xi 0)], none, [28]⟩]
 | 9 => [Xg 0 30 6 4 [29], Xs 1 6 4 30 [30], ⟨2, none, .o (.store 1 (Xt 5) (Xi 0)), none, []⟩, ⟨3, none, .o (.store 1 (Xt 6) (Xi 0)), none, []⟩]
 | _ => []
def c28c : AC := (.seq (.regT c28t 0) (.seq (.regT c28t 1) (.seq (.seq (.regT c28t 2) (.cond (.tmp 16) (.seq (.regD [c28t 3]) .ret) .skip)) (.seq (.regT c28t 4) (.seq (.regT c28t 5) (.seq (.regT c28t 6) (.seq (.regT c28t 7) (.seq (.regT c28t 8) (.seq (.regT c28t 9) .ret)))))))))
def c28a : Ann := Xan c28t
theorem c28ok : Ko 31 c28a Tryz.f28 = some (inst c28c) := by kernel_rfl
theorem c28call : Kc 28 = true := by kernel_rfl
theorem c28res : Kr Tryz.f28 = some [.cell 4 true 6, .cell 5 false 1, .cell 6 false 1] := by kernel_rfl
def c29t : Nat → List AI
 | _ => []
def c29c : AC := .skip
def c29a : Ann := Xan c29t
theorem c29ok : Ko 4 c29a Tryz.f29 = some (inst c29c) := by kernel_rfl
theorem c29call : Kc 29 = true := by kernel_rfl
theorem c29res : Kr Tryz.f29 = some [] := by kernel_rfl
def c30t : Nat → List AI
 | 0 => [Xo 0 2 (.box 50 (Xt 0)) [0], Xo 1 4 (.alloc [Xw] 73) [], Xo 2 5 (.alloc [(.int .i64 0)] 3) [], Xo 3 6 (.alloc [(.int .i64 0)] 26) []]
 | 1 => [Xo 0 8 (.mkfn (.func 44) [] [(Xt 4), (Xt 5), (Xt 6)]) [], ⟨1, none, .defer (Xt 8) [], none, [8]⟩]
 | 2 => [Xm 0 9 1 [1], Xo 1 10 (.build [Xw, Xw] [(0, 1, (Xt 9))]) [9], Xo 2 11 (.box 107 (Xt 10)) [10], Xa 3 7 11 [11]]
 | 3 => [Xm 0 12 7 [], Xg 1 13 6 2 [2], ⟨2, (some 14), .call (.cst (.fn (.func 45) [] [])) [(Xt 12), (Xt 13), (.cst .nilP)], none, [13, 12]⟩]
 | 4 => [Xm 0 15 7 [14, 7], Xn 1 16 15 [15], Xf 2 17 1 16 [16], Xl 3 18 1 17 [17], Xs 4 1 4 18 [18], ⟨5, none, .o (.store 1 (Xt 5) (Xi 0)), none, []⟩, ⟨6, none, .o (.store 1 (Xt 6) (Xi 0)), none, []⟩]
 | _ => []
def c30c : AC := (.seq (.regT c30t 0) (.seq (.regT c30t 1) (.seq (.regT c30t 2) (.seq (.regT c30t 3) (.seq (.regT c30t 4) .ret)))))
def c30a : Ann := Xan c30t
theorem c30ok : Ko 19 c30a Tryz.f30 = some (inst c30c) := by kernel_rfl
theorem c30call : Kc 30 = true := by kernel_rfl
theorem c30res : Kr Tryz.f30 = some [.cell 4 false 1, .cell 5 false 1, .cell 6 false 1] := by kernel_rfl
def c31t : Nat → List AI
 | 0 => [Xo 0 3 (.box 50 (Xt 1)) [1]]
 | 1 => [Xm 0 8 0 [], Xn 1 9 8 [8], Xf 2 10 0 9 [9], Xf 3 11 1 10 [10], Xl 4 12 1 11 [11], Xo 5 13 (.len false (Xt 12)) [12], Xa 6 4 13 [13]]
 | 2 => [Xm 0 14 0 [], Xm 1 15 0 [], Xn 2 16 15 [], Xf 3 17 0 16 [], Xf 4 18 1 17 [], Xl 5 19 1 18 [], Xf 6 20 3 3 [], Xl 7 21 1 20 [], Xf 8 22 4 3 [], Xl 9 23 1 22 [], Xo 10 24 (.len false (Xt 23)) [], Xo 11 25 (.build [(.int .i64 0), (.int .i64 0), Xw] [(0, 1, (Xt 21)), (1, 1, (Xt 24))]) [], Xo 12 26 (.bslice 63 true 3 1 [(.int .i64 0), (.int .i64 0), Xw] [(0, 3, (Xt 25))]) [0, 1, 2, 3, 4, 5], Xo 13 27 (.append 63 3 40 [(.int .i64 0), (.int .i64 0), Xw] (Xt 19) (Xt 26)) [0], Xn 14 28 14 [], Xf 15 29 0 28 [], Xf 16 30 1 29 [], Xs 17 1 30 27 []]
 | 3 => [Xf 0 31 5 3 [], Xl 1 32 1 31 [31], Xo 2 33 (.len false (Xt 32)) [], Xo 3 34 (.move (Xi 0)) []]
 | 4 => [Xh 0 35 .lss 34 33 []]
 | 5 => [Xm 0 36 34 [35], Xo 1 37 (.iaddr 6 (Xt 32) (Xt 34)) [], Xg 2 38 6 37 [37], Xo 3 6 (.alloc Xz 50) [], Xa 4 5 36 [36], Xs 5 6 6 38 [38]]
 | 6 => [Xm 0 39 5 [5], Xj 1 40 .gtr 39 0 [39]]
 | 7 => [Xm 0 41 0 [40], Xm 1 42 4 [], ⟨2, (some 43), .call (.cst (.fn (.func 46) [] [])) [(Xt 41), (Xt 42), (Xi 12), (Xi 0), (Xi 0)], none, [42, 41]⟩]
 | 8 => [Xf 0 44 0 6 [40, 43], Xl 1 45 1 44 [44], Xj 2 46 .eql 45 11 [45]]
 | 9 => [Xm 0 47 0 [46, 34, 33, 32, 3], Xm 1 48 4 [], Xf 2 49 5 6 [6], Xl 3 50 1 49 [49], Xo 4 51 (.iaddr 6 (Xt 50) (Xi 0)) [50], Xg 5 52 6 51 [51], ⟨6, (some 53), .call (.cst (.fn (.func 47) [] [])) [(Xt 47), (Xt 48), (Xt 52)], none, [52, 48, 47]⟩]
 | 10 => [Xm 0 54 0 [53, 0], Xm 1 55 4 [4], ⟨2, (some 56), .call (.cst (.fn (.func 46) [] [])) [(Xt 54), (Xt 55), (Xi 14), (Xi 0), (Xi 0)], none, [55, 54]⟩]
 | 11 => [Xm 0 57 0 [46, 56], Xm 1 58 4 [], Xg 2 59 6 6 [6], ⟨3, (some 60), .call (.cst (.fn (.func 47) [] [])) [(Xt 57), (Xt 58), (Xt 59)], none, [59, 58, 57]⟩]
 | 12 => [Xb 0 61 .add 34 1 [60, 34], Xm 1 34 61 [61]]
 | 14 => [Xf 0 62 0 3 [34, 32, 33], Xl 1 63 1 62 [62], Xj 2 64 .eql 63 12 [63], Xm 3 65 64 [64], Xu 4 66 (.faddr 1 (Xt 3)) 65 [], Xu 5 67 (.load false 1 (Xt 66)) 65 [66], Xu 6 68 (.sbin .neq (Xt 67) (.cst (.str ⟨#[]⟩))) 65 [67], Xo 7 69 (.pick (Xt 65) (Xt 68) Xq) [68, 65], Xa 8 7 69 [69]]
 | 15 => [Xm 0 71 7 [], Xm 1 72 71 [71], Xu 2 73 (.faddr 5 (Xt 3)) 72 [], Xu 3 74 (.load false 1 (Xt 73)) 72 [73], Xu 4 75 (.len false (Xt 74)) 72 [74], Xu 5 76 (.icmp .gtr (Xt 75) (Xi 0)) 72 [75], Xo 6 77 (.pick (Xt 72) (Xt 76) Xq) [76, 72], Xa 7 70 77 [77]]
 | 16 => [Xm 0 79 7 [70, 7], Xa 1 78 79 [79]]
 | 17 => [Xf 0 81 5 3 [78, 3], Xl 1 82 1 81 [81], Xo 2 83 (.len false (Xt 82)) [82], Xj 3 84 .eql 83 0 [83], Xa 4 80 84 [84]]
 | 18 => [Xm 0 85 0 [80], Xm 1 86 4 [], ⟨2, (some 87), .call (.cst (.fn (.func 46) [] [])) [(Xt 85), (Xt 86), (Xi 12), (Xi 0), (Xi 0)], none, [86, 85]⟩]
 | 19 => [Xm 0 88 0 [87], Xm 1 89 4 [], ⟨2, (some 90), .call (.cst (.fn (.func 46) [] [])) [(Xt 88), (Xt 89), (Xi 6), (Xi 0), (Xi 0)], none, [89, 88]⟩]
 | 20 => [Xm 0 91 0 [90, 0], Xm 1 92 4 [4], ⟨2, (some 93), .call (.cst (.fn (.func 46) [] [])) [(Xt 91), (Xt 92), (Xi 14), (Xi 0), (Xi 0)], none, [92, 91]⟩]
 | 21 => [Xm 0 94 0 [93], Xm 1 95 4 [], ⟨2, (some 96), .call (.cst (.fn (.func 46) [] [])) [(Xt 94), (Xt 95), (Xi 7), (Xi 0), (Xi 0)], none, [95, 94]⟩]
 | 22 => [Xm 0 97 0 [96], Xm 1 98 4 [], ⟨2, (some 99), .call (.cst (.fn (.func 46) [] [])) [(Xt 97), (Xt 98), (Xi 13), (Xi 0), (Xi 0)], none, [98, 97]⟩]
 | _ => []
def c31l13 : AC := (.seq (.regT c31t 4) (.seq (.cond (.tmp 35) .skip (.exit 0)) (.seq (.block 1 (.seq (.regT c31t 5) (.seq (.seq (.regT c31t 6) (.cond (.tmp 40) (.regT c31t 7) .skip)) (.seq (.seq (.regT c31t 8) (.cond (.tmp 46) (.seq (.regT c31t 9) (.seq (.regT c31t 10) .ret)) .skip)) (.regT c31t 11))))) (.regT c31t 12))))
def c31c : AC := (.seq (.regT c31t 0) (.seq (.regT c31t 1) (.seq (.regD [c31t 2]) (.seq (.seq (.regT c31t 3) (.block 0 (.loop c31l13))) (.seq (.regT c31t 14) (.seq (.block 2 (.seq (.block 5 (.seq (.block 4 (.seq (.block 3 (.seq (.seq (.seq (.regT c31t 15) (.cond (.tmp 70) (.exit 3) .skip)) (.seq (.seq (.regT c31t 16) (.cond (.tmp 78) (.exit 4) .skip)) (.seq (.regT c31t 17) (.cond (.tmp 80) (.exit 5) .skip)))) (.exit 2))) (.regT c31t 18))) (.seq (.seq (.regT c31t 19) (.seq (.regT c31t 20) .ret)) (.exit 2)))) (.seq (.regT c31t 21) (.exit 2)))) (.regT c31t 22)))))))
def c31a : Ann := fun id => match id with
 | 13 => Xan c31t 14
 | 14 => Xan c31t 15
 | 15 => Xan c31t 16
 | 16 => Xan c31t 17
 | 17 => Xan c31t 18
 | 18 => Xan c31t 19
 | 19 => Xan c31t 20
 | 20 => Xan c31t 21
 | 21 => Xan c31t 22
 | n => Xan c31t n
theorem c31ok : Ko 100 c31a Tryz.f31 = some (inst c31c) := by kernel_rfl
theorem c31call : Kc 31 = true := by kernel_rfl
theorem c31res : Kr Tryz.f31 = some [] := by kernel_rfl
def c41t : Nat → List AI
 | 0 => [Xo 0 2 (.asg (.cst Xw)) [], Xo 1 3 (.asg (Xi 0)) [2], Xo 2 4 (.asg (Xi 0)) [3]]
 | 1 => [Xm 0 11 0 [2, 3, 4], Xo 1 12 (.len true (Xt 11)) [11], Xj 2 13 .gtr 12 4096 [12]]
 | 2 => [Xo 0 2 (.asg (.cst Xw)) [13, 0], Xo 1 3 (.asg (Xi 0)) [], Xo 2 4 (.asg (Xi 3)) []]
 | 3 => [Xm 0 14 0 [13, 4, 3, 2], Xo 1 15 (.build [(.str ⟨#[]⟩), (.int .i64 0)] [(0, 1, (Xt 14))]) [14], Xo 2 16 (.box 132 (Xt 15)) [15], Xa 3 5 16 [16]]
 | 4 => [Xo 0 6 (.asg (.cst Xw)) []]
 | 5 => [Xo 0 7 (.asg (Xi 0)) []]
 | 6 => [Xm 0 17 5 [7], ⟨1, (some 18), .call (.cst (.fn (.func 62) [] [])) [(Xt 17), (.cst (.fn (.func 63) [] []))], none, [17]⟩]
 | 7 => [Xm 0 19 5 [18], Xn 1 20 19 [19], Xf 2 21 1 20 [20], Xl 3 22 1 21 [21], Xa 4 7 22 [22]]
 | 8 => [Xm 0 24 5 [], Xn 1 25 24 [24], Xf 2 26 1 25 [25], Xl 3 27 1 26 [26], Xm 4 28 0 [], Xo 5 29 (.len true (Xt 28)) [28], Xh 6 30 .eql 27 29 [29, 27], Xa 7 23 30 [30]]
 | 9 => [Xm 0 31 6 [23, 7, 6, 0], Xm 1 32 5 [5], Xn 2 33 32 [32], Xf 3 34 1 33 [33], Xl 4 35 1 34 [34], Xo 5 36 (.build Xx [(2, 1, (Xt 35))]) [35], Xo 6 37 (.bslice 125 true 3 1 Xx [(0, 3, (Xt 36))]) [36], Xo 7 38 (.append 125 3 32 Xx (Xt 31) (Xt 37)) [37, 31], Xa 8 2 38 [38], Xo 9 3 (.asg (Xi 0)) [], Xo 10 4 (.asg (Xi 0)) []]
 | 10 => [Xm 0 40 0 [23], Xm 1 41 5 [], Xn 2 42 41 [41], Xf 3 43 1 42 [42], Xl 4 44 1 43 [43], Xo 5 45 (.index (Xt 40) (Xt 44)) [44, 40], Xo 6 46 (.icmp .eql (Xt 45) (.cst (.int .u8 34))) [45], Xa 7 39 46 [46]]
 | 11 => [Xm 0 47 0 [39], Xm 1 48 5 [], Xn 2 49 48 [48], Xf 3 50 1 49 [49], Xl 4 51 1 50 [50], Xb 5 52 .add 51 1 [51], Xo 6 53 (.sslice (Xt 47) (some (Xt 52)) none) [52, 47], ⟨7, (some 54), .call (.cst (.fn (.func 65) [] [])) [(Xt 53), (.cst (.int .u8 34))], none, [53]⟩, Xa 8 8 54 [54]]
 | 12 => [Xm 0 55 8 [], Xj 1 56 .lss 55 0 [55]]
 | 13 => [Xm 0 57 5 [56, 7], Xn 1 58 57 [], Xf 2 59 1 58 [58], Xl 3 60 1 59 [59], Xm 4 61 8 [8], Xb 5 62 .add 61 2 [61], Xo 6 63 (.ibin .add (Xt 60) (Xt 62)) [62, 60], Xn 7 64 57 [57], Xf 8 65 1 64 [64], Xs 9 1 65 63 [65, 63]]
 | 14 => [Xm 0 67 5 [39, 4, 3, 2], Xc 1 68 66 67 [67], Xm 2 66 68 [68], Xe 3 69 66 0 [], Xe 4 70 66 1 [66], Xo 5 9 (.alloc Xx 125) [], Xs 6 3 9 69 [69], Xa 7 10 70 [70]]
 | 15 => [Xm 0 71 10 [10]]
 | 16 => [Xm 0 72 6 [71, 6, 7], Xg 1 73 3 9 [9], Xo 2 74 (.bslice 125 true 3 1 Xx [(0, 3, (Xt 73))]) [73], Xo 3 75 (.append 125 3 32 Xx (Xt 72) (Xt 74)) [74, 72], Xa 4 6 75 [75]]
 | 17 => [Xm 0 76 7 [7, 9, 71, 6, 0, 5], Xo 1 2 (.asg (.cst Xw)) [], Xa 2 3 76 [76], Xo 3 4 (.asg (Xi 20)) []]
 | _ => []
def c41c : AC := (.seq (.regT c41t 0) (.scope (.seq (.seq (.regT c41t 1) (.cond (.tmp 13) (.seq (.regT c41t 2) .ret) .skip)) (.seq (.regT c41t 3) (.seq (.regT c41t 4) (.seq (.regT c41t 5) (.seq (.label 0) (.seq (.regT c41t 6) (.seq (.regT c41t 7) (.seq (.block 0 (.seq (.regT c41t 8) (.cond (.tmp 23) (.seq (.regT c41t 9) .ret) (.seq (.regT c41t 10) (.cond (.tmp 39) (.seq (.regT c41t 11) (.seq (.seq (.regT c41t 12) (.cond (.tmp 56) (.goto 1) .skip)) (.seq (.regT c41t 13) (.goto 0)))) .skip))))) (.seq (.seq (.regT c41t 14) (.seq (.regT c41t 15) (.cond (.tmp 71) (.seq (.regT c41t 16) (.goto 0)) .skip))) (.seq (.label 1) (.seq (.regT c41t 17) .ret)))))))))))))
def c41a : Ann := Xan c41t
theorem c41ok : Ko 77 c41a Tryz.f41 = some (inst c41c) := by kernel_rfl
theorem c41call : Kc 41 = true := by kernel_rfl
theorem c41res : Kr Tryz.f41 = some [.tmp 2, .tmp 3, .tmp 4] := by kernel_rfl
def c42t : Nat → List AI
 | 0 => [Xo 0 8 (.eqnil 3 false (Xt 6)) []]
 | 1 => [Xa 0 3 6 [8, 0, 1, 2, 6]]
 | 2 => [Xo 0 9 (.tass 99 (.agg [(.int .i64 0), (.int .i64 0)]) (Xt 6)) [8], Xe 1 10 9 1 [], Xe 2 11 9 0 [9]]
 | 3 => [Xo 0 4 (.alloc [(.int .i64 0), (.int .i64 0)] 99) [10, 6], Xs 1 2 4 11 [11]]
 | 4 => [Xo 0 12 (.build Xz []) [], Xf 1 13 0 4 [], Xl 2 14 1 13 [], Xf 3 15 1 4 [], Xl 4 16 1 15 [], Xs 5 6 0 12 [1, 2, 3, 4], Xs 6 1 1 14 [3, 4], Xs 7 1 2 16 []]
 | 5 => [Xa 0 5 6 [11, 10, 0, 1, 2, 6]]
 | 6 => [Xm 0 7 5 [5], ⟨1, none, .panic (Xt 7), none, [7]⟩]
 | _ => []
def c42c : AC := (.block 0 (.seq (.regT c42t 0) (.cond (.tmp 8) (.regT c42t 1) (.seq (.regT c42t 2) (.cond (.tmp 10) (.seq (.regT c42t 3) (.regD [c42t 4])) (.seq (.regT c42t 5) (.regT c42t 6)))))))
def c42a : Ann := fun id => match id with
 | 3 => Xan c42t 0
 | 4 => Xan c42t 1
 | 5 => Xan c42t 2
 | 6 => Xan c42t 3
 | 7 => Xan c42t 4
 | 1 => Xan c42t 5
 | 2 => Xan c42t 6
 | n => Xan c42t n
theorem c42ok : comp Tryz.prog 17 c42a chkD (match Tryz.f42.body with | some (.seq _ r) => r | _ => .skip) = some (inst c42c) := by kernel_rfl
theorem c42call : Kc 42 = true := by kernel_rfl
theorem c42res : Kr Tryz.f42 = some [] := by kernel_rfl
def c43t : Nat → List AI
 | 0 => [Xm 0 8 0 [62, 60], Xc 1 9 58 8 [8], Xj 2 10 .eql 9 12 [9]]
 | 1 => [Xm 0 11 0 [10], Xc 1 12 57 11 [11]]
 | 2 => [Xm 0 13 0 [12], Xc 1 14 58 13 [13], Xj 2 15 .eql 14 1 [14]]
 | 3 => [Xm 0 16 1 [], Xm 1 17 1 [], Xn 2 18 17 [], Xf 3 19 4 18 [], Xl 4 20 1 19 [], Xm 5 21 0 [], Xc 6 22 57 21 [0, 1, 2, 3, 4], Xo 7 23 (.field false 1 1 (Xt 22)) [], Xo 8 24 (.bslice 9 false 1 1 [(.str ⟨#[]⟩)] [(0, 1, (Xt 23))]) [0, 1, 2, 3, 4], Xo 9 25 (.append 9 1 16 [(.str ⟨#[]⟩)] (Xt 20) (Xt 24)) [0], Xn 10 26 16 [], Xf 11 27 4 26 [], Xs 12 1 27 25 []]
 | 5 => [Xm 0 28 0 [], ⟨1, (some 29), .call (.cst (.fn (.func 56) [] [])) [(Xt 28), (Xi 12)], none, [28]⟩]
 | 6 => [Xm 0 30 0 [10, 29], Xc 1 31 58 30 [30], Xm 2 32 2 [], Xh 3 33 .eql 31 32 [32, 31]]
 | 7 => [Xm 0 35 0 [33], Xc 1 36 67 35 [35], Xm 2 34 36 [36], Xe 3 37 34 0 [], Xe 4 38 34 1 [34], Xo 5 6 (.alloc Xz 50) [], Xs 6 6 6 37 [37], Xa 7 7 38 [38]]
 | 8 => [Xm 0 39 1 [], Xn 1 40 39 [], Xf 2 41 5 40 [], Xl 3 42 1 41 [], Xg 4 43 6 6 [], Xo 5 44 (.len false (Xt 42)) [], Xo 6 45 (.bslice 50 true 6 1 Xz [(0, 6, (.cst (.agg Xz)))]) [0, 1, 2, 3, 4, 5], Xo 7 46 (.append 50 6 88 Xz (Xt 42) (Xt 45)) [], Xo 8 47 (.iaddr 6 (Xt 46) (Xt 44)) [], Xn 10 48 39 [], Xf 11 49 5 48 [], Xs 9 6 47 43 [10, 11], Xs 12 1 49 46 [8]]
 | 9 => [Xm 0 39 1 [], Xn 1 40 39 [], Xf 2 41 5 40 [], Xl 3 42 1 41 [], Xg 4 43 6 6 [], Xo 5 44 (.len false (Xt 42)) [], Xo 6 45 (.bslice 50 true 6 1 Xz [(0, 6, (.cst (.agg Xz)))]) [0, 1, 2, 3, 4, 5], Xo 7 46 (.append 50 6 88 Xz (Xt 42) (Xt 45)) [], Xo 8 47 (.iaddr 6 (Xt 46) (Xt 44)) [], Xn 10 48 39 [], Xf 11 49 5 48 [], Xs 12 1 49 46 [8], Xs 9 6 47 43 [10, 11]]
 | 10 => [Xm 0 50 0 [], Xc 1 51 58 50 [50], Xj 2 52 .eql 51 14 [51]]
 | 11 => [Xm 0 53 0 [52], Xc 1 54 57 53 [53]]
 | 12 => [Xm 0 55 7 [54, 7], Xo 1 56 (.not (Xt 55)) [55]]
 | 13 => [Xm 0 57 0 [7, 52, 56, 1], Xc 1 58 58 57 [57], Xm 2 59 2 [2], Xh 3 60 .neq 58 59 [59, 58]]
 | 14 => [Xm 0 61 0 [60, 0], ⟨1, (some 62), .call (.cst (.fn (.func 68) [] [])) [(Xt 61), (Xi 20)], none, [61]⟩]
 | _ => []
def c43l4 : AC := (.seq (.seq (.regT c43t 2) (.cond (.tmp 15) .skip (.exit 0))) (.block 1 (.regD [c43t 3])))
def c43c : AC := (.scope (.seq (.seq (.regT c43t 0) (.cond (.tmp 10) (.seq (.regT c43t 1) (.seq (.block 0 (.loop c43l4)) (.regT c43t 5))) .skip)) (.seq (.label 0) (.seq (.seq (.regT c43t 6) (.cond (.tmp 33) .ret .skip)) (.seq (.regT c43t 7) (.seq (.regD [c43t 8, c43t 9]) (.seq (.seq (.regT c43t 10) (.cond (.tmp 52) (.seq (.regT c43t 11) (.seq (.regT c43t 12) (.cond (.tmp 56) (.goto 0) .skip))) .skip)) (.seq (.regT c43t 13) (.cond (.tmp 60) (.regT c43t 14) .skip)))))))))
def c43a : Ann := fun id => match id with
 | 4 => Xan c43t 5
 | 5 => Xan c43t 6
 | 6 => Xan c43t 7
 | 7 => [[(0, []), (1, []), (2, []), (3, []), (4, []), (5, []), (6, [0, 1, 2, 3, 4, 5]), (7, []), (8, []), (10, []), (11, []), (9, [10, 11]), (12, [8])], [(0, []), (1, []), (2, []), (3, []), (4, []), (5, []), (6, [0, 1, 2, 3, 4, 5]), (7, []), (8, []), (10, []), (11, []), (12, [8]), (9, [10, 11])]]
 | 8 => Xan c43t 10
 | 9 => Xan c43t 11
 | 10 => Xan c43t 12
 | 11 => Xan c43t 13
 | 12 => Xan c43t 14
 | n => Xan c43t n
theorem c43ok : Ko 63 c43a Tryz.f43 = some (inst c43c) := by kernel_rfl
theorem c43call : Kc 43 = true := by kernel_rfl
theorem c43res : Kr Tryz.f43 = some [] := by kernel_rfl
def c44t : Nat → List AI
 | 0 => [Xo 0 8 (.eqnil 3 false (Xt 6)) []]
 | 1 => [Xa 0 3 6 [8, 0, 1, 2, 6]]
 | 2 => [Xo 0 9 (.tass 104 (.agg [(.int .i64 0)]) (Xt 6)) [8], Xe 1 10 9 1 [], Xe 2 11 9 0 [9]]
 | 3 => [Xo 0 4 (.alloc [(.int .i64 0)] 104) [10, 6], Xs 1 1 4 11 [11]]
 | 4 => [Xf 0 12 0 4 [], Xl 1 13 1 12 [], ⟨2, none, .o (.store 1 (Xt 0) (.cst Xw)), none, [0, 1]⟩, Xs 3 1 1 13 [], ⟨4, none, .o (.store 1 (Xt 2) (Xi 21)), none, []⟩]
 | 5 => [Xa 0 5 6 [11, 10, 0, 1, 2, 6]]
 | 6 => [Xm 0 7 5 [5], ⟨1, none, .panic (Xt 7), none, [7]⟩]
 | _ => []
def c44c : AC := (.block 0 (.seq (.regT c44t 0) (.cond (.tmp 8) (.regT c44t 1) (.seq (.regT c44t 2) (.cond (.tmp 10) (.seq (.regT c44t 3) (.regD [c44t 4])) (.seq (.regT c44t 5) (.regT c44t 6)))))))
def c44a : Ann := fun id => match id with
 | 3 => Xan c44t 0
 | 4 => Xan c44t 1
 | 5 => Xan c44t 2
 | 6 => Xan c44t 3
 | 7 => Xan c44t 4
 | 1 => Xan c44t 5
 | 2 => Xan c44t 6
 | n => Xan c44t n
theorem c44ok : comp Tryz.prog 14 c44a chkD (match Tryz.f44.body with | some (.seq _ r) => r | _ => .skip) = some (inst c44c) := by kernel_rfl
theorem c44call : Kc 44 = true := by kernel_rfl
theorem c44res : Kr Tryz.f44 = some [] := by kernel_rfl
def c45t : Nat → List AI
 | 0 => [Xo 0 4 (.box 50 (Xt 1)) [1]]
 | 1 => [Xg 0 13 6 4 [4], Xm 1 14 2 [2], Xo 2 15 (.build [(.int .i64 0), (.str ⟨#[]⟩), (.int .i64 0), (.int .i64 0), Xw, Xw, .nilP] [(0, 6, (Xt 13)), (6, 1, (Xt 14))]) [14, 13], Xo 3 16 (.box 144 (Xt 15)) [15], Xa 4 6 16 [16]]
 | 2 => [Xm 0 17 6 [], Xn 1 18 17 [17], Xf 2 19 0 18 [18], Xf 3 20 4 19 [19], Xl 4 21 1 20 [20], Xo 5 22 (.len false (Xt 21)) [], Xo 6 23 (.move (Xi 0)) []]
 | 3 => [Xh 0 24 .lss 23 22 []]
 | 4 => [Xm 0 25 23 [24], Xo 1 26 (.iaddr 1 (Xt 21) (Xt 23)) [], Xl 2 27 1 26 [26], Xa 3 7 25 [25], Xa 4 8 27 [27]]
 | 5 => [Xm 0 29 8 [], Xc 1 30 69 29 [29], Xm 2 28 30 [30], Xe 3 31 28 0 [], Xe 4 32 28 1 [28], Xo 5 9 (.alloc [(.int .i64 0), (.str ⟨#[]⟩), (.int .i64 0), (.int .i64 0), (.int .i64 0), (.bool false)] 146) [], Xs 6 6 9 31 [9, 31], Xa 7 10 32 [32]]
 | 6 => [Xm 0 33 10 [10], Xm 1 34 33 [33], Xv 2 35 (.move (Xt 6)) 34 [], Xv 3 36 (.nilc (Xt 35)) 34 [], Xv 4 37 (.faddr 0 (Xt 36)) 34 [], Xv 5 38 (.faddr 4 (Xt 37)) 34 [], Xv 6 39 (.load false 1 (Xt 38)) 34 [], Xv 7 40 (.move (Xt 7)) 34 [7], Xv 8 41 (.lslice 1 (Xt 39) none (some (Xt 40))) 34 [], Xv 9 42 (.move (Xt 8)) 34 [8], ⟨10, (some 43), .call (.cst (.fn (.func 70) [] [])) [(Xt 41), (Xt 42)], (some (34, false)), []⟩, Xo 11 44 (.pick (Xt 34) Xp (Xt 43)) [34]]
 | 7 => [Xm 0 45 6 [44], Xn 1 46 45 [45], Xf 2 47 0 46 [46], Xf 3 48 2 47 [47], Xl 4 49 1 48 [48], Xo 5 50 (.build [(.int .i64 0)] [(0, 1, (Xt 49))]) [49], Xo 6 51 (.mkif 104 (Xt 50)) [50], ⟨7, none, .panic (Xt 51), none, [51]⟩]
 | 8 => [Xb 0 52 .add 23 1 [44, 23], Xm 1 23 52 [52]]
 | 10 => [Xm 0 53 6 [23, 35, 36, 37, 38, 39, 40, 41, 42, 43, 22, 21], Xn 1 54 53 [53], Xf 2 55 0 54 [54], Xf 3 56 5 55 [55], Xl 4 57 1 56 [56], Xo 5 58 (.len false (Xt 57)) [], Xo 6 59 (.move (Xi 0)) []]
 | 11 => [Xh 0 60 .lss 59 58 []]
 | 12 => [Xo 0 61 (.iaddr 6 (Xt 57) (Xt 59)) [60], Xg 1 62 6 61 [61], Xo 2 12 (.alloc Xz 50) [], Xs 3 6 12 62 [62]]
 | 13 => [Xm 0 63 0 [], Xg 1 64 6 12 [12], Xm 2 65 6 [], ⟨3, (some 66), .call (.cst (.fn (.func 71) [] [])) [(Xt 63), (Xt 64), (Xt 65), Xq], none, [65, 64, 63]⟩]
 | 14 => [Xb 0 67 .add 59 1 [66, 59], Xm 1 59 67 [67]]
 | _ => []
def c45l9 : AC := (.seq (.regT c45t 3) (.seq (.cond (.tmp 24) .skip (.exit 0)) (.seq (.block 1 (.seq (.regT c45t 4) (.seq (.regT c45t 5) (.seq (.regT c45t 6) (.cond (.tmp 44) (.regT c45t 7) .skip))))) (.regT c45t 8))))
def c45l15 : AC := (.seq (.regT c45t 11) (.seq (.cond (.tmp 60) .skip (.exit 2)) (.seq (.block 3 (.seq (.regT c45t 12) (.regT c45t 13))) (.regT c45t 14))))
def c45c : AC := (.seq (.regT c45t 0) (.seq (.regT c45t 1) (.seq (.seq (.regT c45t 2) (.block 0 (.loop c45l9))) (.seq (.regT c45t 10) (.block 2 (.loop c45l15))))))
def c45a : Ann := fun id => match id with
 | 9 => Xan c45t 10
 | 10 => Xan c45t 3
 | 11 => Xan c45t 12
 | 12 => Xan c45t 13
 | 13 => Xan c45t 14
 | n => Xan c45t n
theorem c45ok : Ko 68 c45a Tryz.f45 = some (inst c45c) := by kernel_rfl
theorem c45call : Kc 45 = true := by kernel_rfl
theorem c45res : Kr Tryz.f45 = some [] := by kernel_rfl
def c46t : Nat → List AI
 | 0 => [Xm 0 10 0 [], Xn 1 11 10 [], Xf 2 12 0 11 [], Xf 3 13 1 12 [], Xl 4 14 1 13 [], Xm 5 15 1 [], Xm 6 16 0 [], Xn 7 17 16 [], Xf 8 18 0 17 [], Xf 9 19 1 18 [], Xl 10 20 1 19 [], Xm 11 21 1 [], Xo 12 22 (.iaddr 3 (Xt 20) (Xt 21)) [], Xf 13 23 2 22 [], Xl 14 24 1 23 [], Xm 15 25 2 [], Xm 16 26 3 [], Xm 17 27 4 [], Xo 18 28 (.build [(.int .i64 0), (.int .i64 0), (.int .i64 0)] [(0, 1, (Xt 25)), (1, 1, (Xt 26)), (2, 1, (Xt 27))]) [], Xo 19 29 (.bslice 64 true 3 1 [(.int .i64 0), (.int .i64 0), (.int .i64 0)] [(0, 3, (Xt 28))]) [0, 1, 2, 3, 4, 5, 6, 7, 8, 9, 10, 11, 12, 13, 14], Xo 20 30 (.append 64 3 24 [(.int .i64 0), (.int .i64 0), (.int .i64 0)] (Xt 24) (Xt 29)) [0, 1, 2, 3, 4, 5], Xo 21 31 (.iaddr 3 (Xt 14) (Xt 15)) [], Xf 22 32 2 31 [], Xs 23 1 32 30 []]
 | _ => []
def c46c : AC := (.regD [c46t 0])
def c46a : Ann := Xan c46t
theorem c46ok : Ko 33 c46a Tryz.f46 = some (inst c46c) := by kernel_rfl
theorem c46call : Kc 46 = true := by kernel_rfl
theorem c46res : Kr Tryz.f46 = some [] := by kernel_rfl
def c47t : Nat → List AI
 | 0 => [Xo 0 5 (.box 50 (Xt 2)) [2]]
 | 1 => [Xf 0 10 0 5 [], Xl 1 11 1 10 [10]]
 | 2 => [Xj 0 13 .eql 11 1 [], Xa 1 12 13 [13]]
 | 3 => [Xj 0 14 .eql 11 2 [12], Xa 1 12 14 [14]]
 | 4 => [Xj 0 15 .eql 11 3 [12], Xa 1 12 15 [15]]
 | 5 => [Xj 0 16 .eql 11 4 [12], Xa 1 12 16 [16]]
 | 6 => [Xm 0 17 0 [], Xm 1 18 1 [], Xm 2 19 0 [], Xn 3 20 19 [], Xf 4 21 0 20 [], Xf 5 22 2 21 [], Xg 6 23 6 5 [], Xc 7 24 73 23 [0, 1, 2, 3, 4, 5], Xd 8 25 72 22 24 [0, 1], ⟨9, (some 26), .call (.cst (.fn (.func 46) [] [])) [(Xt 17), (Xt 18), (Xi 0), (Xt 25), (Xi 0)], none, []⟩]
 | 7 => [Xj 0 28 .eql 11 5 [12], Xa 1 27 28 [28]]
 | 8 => [Xm 0 29 0 [27, 11, 5, 0], Xm 1 30 1 [1], Xd 2 31 74 29 30 [30, 29]]
 | 9 => [Xj 0 33 .eql 11 6 [27], Xa 1 32 33 [33]]
 | 10 => [Xm 0 34 0 [32, 11], Xc 1 35 75 34 [34], Xo 2 6 (.alloc [(.int .i64 0), (.str ⟨#[]⟩), (.int .i64 0), (.int .i64 0), (.int .i64 0), (.bool false)] 146) [], Xs 3 6 6 35 [35]]
 | 11 => [Xm 0 36 0 [], Xm 1 37 1 [], Xf 2 38 5 5 [5], Xl 3 39 1 38 [38], Xo 4 40 (.iaddr 6 (Xt 39) (Xi 0)) [39], Xg 5 41 6 40 [40], ⟨6, (some 42), .call (.cst (.fn (.func 47) [] [])) [(Xt 36), (Xt 37), (Xt 41)], none, [41, 37, 36]⟩]
 | 12 => [Xf 0 43 2 6 [42], Xl 1 44 1 43 [43], Xj 2 45 .eql 44 3 [44]]
 | 13 => [Xm 0 46 0 [45, 0], Xm 1 47 1 [1], Xf 2 48 3 6 [], Xl 3 49 1 48 [48], Xf 4 50 4 6 [6], Xl 5 51 1 50 [50], ⟨6, (some 52), .call (.cst (.fn (.func 46) [] [])) [(Xt 46), (Xt 47), (Xi 2), (Xt 49), (Xt 51)], none, [51, 49, 47, 46]⟩]
 | 14 => [Xm 0 53 0 [45, 0], Xm 1 54 1 [1], Xf 2 55 4 6 [6], Xl 3 56 1 55 [55], ⟨4, (some 57), .call (.cst (.fn (.func 46) [] [])) [(Xt 53), (Xt 54), (Xi 4), (Xt 56), (Xi 0)], none, [56, 54, 53]⟩]
 | 15 => [Xj 0 59 .eql 11 7 [32], Xa 1 58 59 [59]]
 | 16 => [Xm 0 60 0 [58, 11], Xm 1 61 1 [], Xf 2 62 5 5 [], Xl 3 63 1 62 [62], Xo 4 64 (.iaddr 6 (Xt 63) (Xi 0)) [63], Xg 5 65 6 64 [64], ⟨6, (some 66), .call (.cst (.fn (.func 47) [] [])) [(Xt 60), (Xt 61), (Xt 65)], none, [65, 61, 60]⟩]
 | 17 => [Xm 0 67 0 [], Xm 1 68 1 [], Xf 2 69 5 5 [], Xl 3 70 1 69 [], Xo 4 71 (.iaddr 6 (Xt 70) (Xi 0)) [], Xg 5 72 6 71 [], Xf 6 73 1 5 [], Xl 7 74 1 73 [], Xf 8 75 5 5 [], Xl 9 76 1 75 [], Xo 10 77 (.lslice 6 (Xt 76) (some (Xi 1)) none) [], ⟨11, (some 78), .call (.cst (.fn (.func 76) [] [])) [(Xt 67), (Xt 68), (Xt 72), (Xt 74), (Xt 77)], none, []⟩]
 | 18 => [Xj 0 80 .eql 11 8 [58], Xa 1 79 80 [80]]
 | 19 => [Xm 0 81 0 [79, 11], Xm 1 82 1 [], Xf 2 83 5 5 [], Xl 3 84 1 83 [83], Xo 4 85 (.iaddr 6 (Xt 84) (Xi 0)) [84], Xg 5 86 6 85 [85], ⟨6, (some 87), .call (.cst (.fn (.func 47) [] [])) [(Xt 81), (Xt 82), (Xt 86)], none, [86, 82, 81]⟩]
 | 20 => [Xf 0 88 5 5 [87], Xl 1 89 1 88 [88], Xo 2 90 (.len false (Xt 89)) [89], Xb 3 91 .sub 90 1 [90], Xa 4 7 91 [91]]
 | 21 => [Xf 0 92 5 5 [], Xl 1 93 1 92 [92], Xm 2 94 7 [], Xo 3 95 (.lslice 6 (Xt 93) (some (Xi 1)) (some (Xt 94))) [94, 93], Xo 4 96 (.len false (Xt 95)) [], Xo 5 97 (.move (Xi 0)) []]
 | 22 => [Xh 0 98 .lss 97 96 []]
 | 23 => [Xo 0 99 (.iaddr 6 (Xt 95) (Xt 97)) [98], Xg 1 100 6 99 [99], Xo 2 9 (.alloc Xz 50) [], Xs 3 6 9 100 [100]]
 | 24 => [Xm 0 101 0 [], Xm 1 102 1 [], ⟨2, (some 103), .call (.cst (.fn (.func 46) [] [])) [(Xt 101), (Xt 102), (Xi 11), (Xi 0), (Xi 0)], none, [102, 101]⟩]
 | 25 => [Xm 0 104 0 [], Xm 1 105 1 [], Xf 2 106 5 5 [], Xl 3 107 1 106 [], Xo 4 108 (.iaddr 6 (Xt 107) (Xi 0)) [], Xg 5 109 6 108 [], Xf 6 110 1 9 [], Xl 7 111 1 110 [], Xf 8 112 5 9 [], Xl 9 113 1 112 [], ⟨10, (some 114), .call (.cst (.fn (.func 76) [] [])) [(Xt 104), (Xt 105), (Xt 109), (Xt 111), (Xt 113)], none, []⟩]
 | 26 => [Xm 0 115 0 [114], Xm 1 116 1 [], ⟨2, (some 117), .call (.cst (.fn (.func 46) [] [])) [(Xt 115), (Xt 116), (Xi 12), (Xi 0), (Xi 0)], none, [116, 115]⟩]
 | 27 => [Xb 0 118 .add 97 1 [117, 97], Xm 1 97 118 [118]]
 | 29 => [Xm 0 119 0 [], Xm 1 120 1 [], Xf 2 121 5 5 [], Xl 3 122 1 121 [], Xo 4 123 (.iaddr 6 (Xt 122) (Xi 0)) [], Xg 5 124 6 123 [], Xf 6 125 5 5 [], Xl 7 126 1 125 [], Xm 8 127 7 [], Xo 9 128 (.iaddr 6 (Xt 126) (Xt 127)) [], Xf 10 129 1 128 [], Xl 11 130 1 129 [], Xf 12 131 5 5 [], Xl 13 132 1 131 [], Xm 14 133 7 [], Xo 15 134 (.iaddr 6 (Xt 132) (Xt 133)) [], Xf 16 135 5 134 [], Xl 17 136 1 135 [], ⟨18, (some 137), .call (.cst (.fn (.func 76) [] [])) [(Xt 119), (Xt 120), (Xt 124), (Xt 130), (Xt 136)], none, []⟩]
 | 30 => [Xj 0 139 .eql 11 10 [79, 11], Xa 1 138 139 [139]]
 | 31 => [Xm 0 140 0 [138], Xm 1 141 1 [1], Xm 2 142 0 [], Xn 3 143 142 [142], Xf 4 144 0 143 [143], Xf 5 145 1 144 [144], Xl 6 146 1 145 [145], Xo 7 147 (.len false (Xt 146)) [146], ⟨8, (some 148), .call (.cst (.fn (.func 46) [] [])) [(Xt 140), (Xt 141), (Xi 10), (Xt 147), (Xi 0)], none, [147, 141, 140]⟩]
 | 32 => [Xm 0 149 0 [148, 0], Xg 1 150 6 5 [5], Xd 2 151 31 149 150 [150, 149]]
 | _ => []
def c47l28 : AC := (.seq (.regT c47t 22) (.seq (.cond (.tmp 98) .skip (.exit 1)) (.seq (.block 2 (.seq (.regT c47t 23) (.seq (.regT c47t 24) (.seq (.regD [c47t 25]) (.regT c47t 26))))) (.regT c47t 27))))
def c47c : AC := (.seq (.regT c47t 0) (.seq (.regT c47t 1) (.block 0 (.seq (.seq (.regT c47t 2) (.cond (.tmp 12) .skip (.seq (.regT c47t 3) (.cond (.tmp 12) .skip (.seq (.regT c47t 4) (.cond (.tmp 12) .skip (.regT c47t 5))))))) (.cond (.tmp 12) (.regD [c47t 6]) (.seq (.regT c47t 7) (.cond (.tmp 27) (.regT c47t 8) (.seq (.regT c47t 9) (.cond (.tmp 32) (.seq (.regT c47t 10) (.seq (.regT c47t 11) (.seq (.regT c47t 12) (.cond (.tmp 45) (.regT c47t 13) (.regT c47t 14))))) (.seq (.regT c47t 15) (.cond (.tmp 58) (.seq (.regT c47t 16) (.regD [c47t 17])) (.seq (.regT c47t 18) (.cond (.tmp 79) (.seq (.regT c47t 19) (.seq (.regT c47t 20) (.seq (.seq (.regT c47t 21) (.block 1 (.loop c47l28))) (.regD [c47t 29])))) (.seq (.regT c47t 30) (.cond (.tmp 138) (.seq (.regT c47t 31) (.regT c47t 32)) .skip)))))))))))))))
def c47a : Ann := fun id => match id with
 | 28 => Xan c47t 29
 | 29 => Xan c47t 30
 | 30 => Xan c47t 31
 | 31 => Xan c47t 32
 | n => Xan c47t n
theorem c47ok : Ko 152 c47a Tryz.f47 = some (inst c47c) := by kernel_rfl
theorem c47call : Kc 47 = true := by kernel_rfl
theorem c47res : Kr Tryz.f47 = some [] := by kernel_rfl
end Go.SL
set_option maxRecDepth 100000
namespace Go.SL
open Go.Proofs
def c56t : Nat → List AI
 | 0 => [Xo 0 4 (.alloc Xx 125) []]
 | 1 => [Xm 0 5 0 [], Xc 1 6 58 5 [5], Xm 2 7 1 [1], Xh 3 8 .neq 6 7 [7, 6]]
 | 2 => [Xm 0 9 0 [8], ⟨1, (some 10), .call (.cst (.fn (.func 68) [] [])) [(Xt 9), (Xi 20)], none, [9]⟩]
 | 3 => [Xm 0 11 0 [8, 10, 0], Xc 1 12 57 11 [11], Xs 2 3 4 12 [12]]
 | _ => []
def c56c : AC := (.seq (.regT c56t 0) (.seq (.seq (.regT c56t 1) (.cond (.tmp 8) (.regT c56t 2) .skip)) (.seq (.regT c56t 3) .ret)))
def c56a : Ann := Xan c56t
theorem c56ok : Ko 13 c56a Tryz.f56 = some (inst c56c) := by kernel_rfl
theorem c56call : Kc 56 = true := by kernel_rfl
theorem c56res : Kr Tryz.f56 = some [.cell 4 true 3] := by kernel_rfl
def c57t : Nat → List AI
 | 0 => [Xo 0 2 (.alloc Xx 125) []]
 | 1 => [Xm 0 4 0 [], Xn 1 5 4 [4], Xf 2 6 0 5 [5], Xl 3 7 1 6 [6], Xo 4 8 (.iaddr 3 (Xt 7) (Xi 0)) [7], Xg 5 9 3 8 [8], Xo 6 3 (.alloc Xx 125) [], Xs 7 3 3 9 [9]]
 | 2 => [Xf 0 10 0 3 [], Xl 1 11 1 10 [10], Xj 2 12 .neq 11 0 [11]]
 | 3 => [Xm 0 13 0 [12], Xm 1 14 0 [0], Xn 2 15 14 [14], Xf 3 16 0 15 [15], Xl 4 17 1 16 [16], Xo 5 18 (.lslice 3 (Xt 17) (some (Xi 1)) none) [17], Xn 6 19 13 [13], Xf 7 20 0 19 [19], Xs 8 1 20 18 [20, 18]]
 | 4 => [Xg 0 21 3 3 [0, 12, 3], Xs 1 3 2 21 [21]]
 | _ => []
def c57c : AC := (.seq (.regT c57t 0) (.seq (.regT c57t 1) (.seq (.seq (.regT c57t 2) (.cond (.tmp 12) (.regT c57t 3) .skip)) (.seq (.regT c57t 4) .ret))))
def c57a : Ann := Xan c57t
theorem c57ok : Ko 22 c57a Tryz.f57 = some (inst c57c) := by kernel_rfl
theorem c57call : Kc 57 = true := by kernel_rfl
theorem c57res : Kr Tryz.f57 = some [.cell 2 true 3] := by kernel_rfl
def c58t : Nat → List AI
 | 0 => [Xo 0 2 (.asg (Xi 0)) []]
 | 1 => [Xm 0 3 0 [2, 0], Xn 1 4 3 [3], Xf 2 5 0 4 [4], Xl 3 6 1 5 [5], Xo 4 7 (.iaddr 3 (Xt 6) (Xi 0)) [6], Xf 5 8 0 7 [7], Xl 6 9 1 8 [8], Xa 7 2 9 [9]]
 | _ => []
def c58c : AC := (.seq (.regT c58t 0) (.seq (.regT c58t 1) .ret))
def c58a : Ann := Xan c58t
theorem c58ok : Ko 10 c58a Tryz.f58 = some (inst c58c) := by kernel_rfl
theorem c58call : Kc 58 = true := by kernel_rfl
theorem c58res : Kr Tryz.f58 = some [.tmp 2] := by kernel_rfl
def c62t : Nat → List AI
 | 0 => [Xm 0 4 0 [], Xm 1 5 1 [], Xd 2 6 94 4 5 [5, 4]]
 | 1 => [Xm 0 7 0 [6], Xn 1 8 7 [], Xf 2 9 1 8 [8], Xl 3 10 1 9 [9], Xb 4 11 .add 10 1 [10], Xn 5 12 7 [7], Xf 6 13 1 12 [12], Xs 7 1 13 11 [13, 11]]
 | _ => []
def c62l2 : AC := (.seq (.seq (.regT c62t 0) (.cond (.tmp 6) .skip (.exit 0))) (.block 1 (.regT c62t 1)))
def c62c : AC := (.block 0 (.loop c62l2))
def c62a : Ann := Xan c62t
theorem c62ok : Ko 14 c62a Tryz.f62 = some (inst c62c) := by kernel_rfl
theorem c62call : Kc 62 = true := by kernel_rfl
theorem c62res : Kr Tryz.f62 = some [] := by kernel_rfl
def c63t : Nat → List AI
 | 0 => [Xo 0 2 (.asg Xq) []]
 | 1 => [Xm 0 3 0 [2, 0], ⟨1, (some 4), .call (.cst (.fn (.func 64) [] [])) [(Xt 3), (.cst (.str ⟨#[32, 9, 10, 13]⟩))], none, [3]⟩, Xj 2 5 .geq 4 0 [4], Xa 3 2 5 [5]]
 | _ => []
def c63c : AC := (.seq (.regT c63t 0) (.seq (.regT c63t 1) .ret))
def c63a : Ann := Xan c63t
theorem c63ok : Ko 6 c63a Tryz.f63 = some (inst c63c) := by kernel_rfl
theorem c63call : Kc 63 = true := by kernel_rfl
theorem c63res : Kr Tryz.f63 = some [.tmp 2] := by kernel_rfl
def c64t : Nat → List AI
 | 0 => [Xo 0 4 (.asg (Xi 0)) []]
 | 1 => [Xm 0 7 1 [4, 1], Xo 1 8 (.range (Xt 7)) [7]]
 | 2 => [Xo 0 9 (.next (Xt 8)) [4, 16, 5], Xe 1 10 9 0 []]
 | 3 => [Xe 0 11 9 1 [10], Xe 1 12 9 2 [9], Xa 2 5 11 [11], Xa 3 6 12 [12]]
 | 4 => [Xm 0 13 6 [6], Xo 1 14 (.conv .u8 (Xt 13)) [13], Xm 2 15 0 [], Xh 3 16 .eql 14 15 [15, 14]]
 | 5 => [Xm 0 17 5 [16, 5, 8, 0], Xa 1 4 17 [17]]
 | 7 => [Xo 0 4 (.asg (.cst (.int .i64 (-1)))) [0, 8, 5, 16]]
 | _ => []
def c64l6 : AC := (.seq (.regT c64t 2) (.seq (.cond (.tmp 10) .skip (.exit 0)) (.block 1 (.seq (.regT c64t 3) (.seq (.regT c64t 4) (.cond (.tmp 16) (.seq (.regT c64t 5) .ret) .skip))))))
def c64c : AC := (.seq (.regT c64t 0) (.seq (.seq (.regT c64t 1) (.block 0 (.loop c64l6))) (.seq (.regT c64t 7) .ret)))
def c64a : Ann := fun id => match id with
 | 6 => Xan c64t 7
 | n => Xan c64t n
theorem c64ok : Ko 18 c64a Tryz.f64 = some (inst c64c) := by kernel_rfl
theorem c64call : Kc 64 = true := by kernel_rfl
theorem c64res : Kr Tryz.f64 = some [.tmp 4] := by kernel_rfl
def c65t : Nat → List AI
 | 0 => [Xo 0 4 (.asg (Xi 0)) []]
 | 1 => [Xm 0 5 0 [4, 0], Xm 1 6 1 [1], Xd 2 7 95 5 6 [6, 5], Xa 3 4 7 [7]]
 | _ => []
def c65c : AC := (.seq (.regT c65t 0) (.seq (.regT c65t 1) .ret))
def c65a : Ann := Xan c65t
theorem c65ok : Ko 8 c65a Tryz.f65 = some (inst c65c) := by kernel_rfl
theorem c65call : Kc 65 = true := by kernel_rfl
theorem c65res : Kr Tryz.f65 = some [.tmp 4] := by kernel_rfl
def c66t : Nat → List AI
 | 0 => [Xo 0 2 (.alloc Xx 125) [], Xo 1 3 (.asg Xq) []]
 | 1 => [Xm 0 9 0 [3], Xn 1 10 9 [9], Xf 2 11 1 10 [10], Xl 3 12 1 11 [11], Xo 4 13 (.build Xx [(2, 1, (Xt 12))]) [12], Xo 5 4 (.alloc Xx 125) [], Xs 6 3 4 13 [13]]
 | 2 => [Xo 0 5 (.asg Xp) []]
 | 3 => [Xm 0 14 0 [], Xn 1 15 14 [], Xf 2 16 0 15 [], Xl 3 17 1 16 [], Xm 4 18 0 [], Xn 5 19 18 [], Xf 6 20 1 19 [], Xl 7 21 1 20 [], Xo 8 22 (.index (Xt 17) (Xt 21)) [], Xa 9 6 22 []]
 | 4 => [Xm 0 38 6 [], Xc 1 39 96 38 [38], Xa 2 37 39 [39]]
 | 5 => [Xm 0 40 0 [37, 6], Xc 1 41 97 40 [40]]
 | 6 => [Xf 0 42 0 4 [41], ⟨1, none, .o (.store 1 (Xt 42) (Xi 1)), none, [42]⟩]
 | 7 => [Xm 0 43 0 [], Xc 1 44 98 43 [43]]
 | 8 => [Xf 0 45 0 4 [44], ⟨1, none, .o (.store 1 (Xt 45) (Xi 2)), none, [45]⟩]
 | 9 => [Xm 0 46 0 [], Xn 1 47 46 [], Xf 2 48 1 47 [47], Xl 3 49 1 48 [48], Xb 4 50 .add 49 1 [49], Xn 5 51 46 [46], Xf 6 52 1 51 [51], Xs 7 1 52 50 [52, 50]]
 | 10 => [Xm 0 54 6 [37], Xc 1 55 99 54 [54], Xa 2 53 55 [55]]
 | 11 => [Xf 0 56 0 4 [53, 6, 5], ⟨1, none, .o (.store 1 (Xt 56) (Xi 4)), none, [56]⟩]
 | 12 => [Xm 0 57 0 [], ⟨1, (some 58), .call (.cst (.fn (.func 62) [] [])) [(Xt 57), (.cst (.fn (.func 99) [] []))], none, [57]⟩]
 | 13 => [Xm 0 60 0 [], Xn 1 61 60 [], Xf 2 62 0 61 [], Xl 3 63 1 62 [], Xf 4 64 2 4 [], Xl 5 65 1 64 [], Xm 6 66 0 [], Xn 7 67 66 [], Xf 8 68 1 67 [], Xl 9 69 1 68 [], Xo 10 70 (.sslice (Xt 63) (some (Xt 65)) (some (Xt 69))) [], Xc 11 71 100 70 [], Xm 12 59 71 [], Xe 13 72 59 0 [], Xe 14 73 59 1 [], Xo 15 7 (.alloc [(.bool false), Xw] 178) [0, 1, 2, 3, 4, 5, 6, 7, 8, 9, 10, 12, 13, 14], Xs 16 2 7 72 [14], Xa 17 8 73 []]
 | 14 => [Xm 0 60 0 [], Xn 1 61 60 [], Xf 2 62 0 61 [], Xl 3 63 1 62 [], Xf 4 64 2 4 [], Xl 5 65 1 64 [], Xm 6 66 0 [], Xn 7 67 66 [], Xf 8 68 1 67 [], Xl 9 69 1 68 [], Xo 10 70 (.sslice (Xt 63) (some (Xt 65)) (some (Xt 69))) [], Xo 15 7 (.alloc [(.bool false), Xw] 178) [0, 1, 2, 3, 4, 5, 6, 7, 8, 9, 10], Xc 11 71 100 70 [], Xm 12 59 71 [], Xe 13 72 59 0 [], Xe 14 73 59 1 [], Xs 16 2 7 72 [14], Xa 17 8 73 []]
 | 15 => [Xm 0 74 8 [8], Xj 1 75 .eql 74 0 [74], Xa 2 5 75 [75]]
 | 16 => [Xm 0 77 6 [53], Xo 1 78 (.icmp .eql (Xt 77) (.cst (.int .u8 39))) [77], Xa 2 76 78 [78]]
 | 17 => [Xf 0 79 0 4 [76, 6, 5], ⟨1, none, .o (.store 1 (Xt 79) (Xi 5)), none, [79]⟩]
 | 18 => [Xm 0 81 0 [0], Xc 1 82 101 81 [81], Xm 2 80 82 [82], Xe 3 83 80 0 [], Xe 4 84 80 1 [80], Xf 5 85 1 4 [], Xs 6 1 85 83 [85, 83], Xa 7 5 84 [84]]
 | 19 => [Xg 0 86 3 4 [4], Xm 1 87 5 [5], Xs 2 3 2 86 [86], Xa 3 3 87 [87]]
 | 20 => [Xm 0 89 6 [76], Xo 1 90 (.icmp .eql (Xt 89) (.cst (.int .u8 35))) [89], Xm 2 91 90 [90], Xu 3 92 (.move (Xt 0)) 91 [], ⟨4, (some 93), .call (.cst (.fn (.func 102) [] [])) [(Xt 92), (Xi 1)], (some (91, true)), [92]⟩, Xu 5 94 (.icmp .eql (Xt 93) (.cst (.int .u8 40))) 91 [93], Xo 6 95 (.pick (Xt 91) (Xt 94) Xq) [94, 91], Xa 7 88 95 [95]]
 | 21 => [Xf 0 96 0 4 [88, 6], ⟨1, none, .o (.store 1 (Xt 96) (Xi 17)), none, [96]⟩]
 | 22 => [Xm 0 97 0 [], Xn 1 98 97 [], Xf 2 99 1 98 [98], Xl 3 100 1 99 [99], Xb 4 101 .add 100 2 [100], Xn 5 102 97 [97], Xf 6 103 1 102 [102], Xs 7 1 103 101 [103, 101]]
 | 23 => [Xm 0 105 6 [88], Xo 1 106 (.icmp .eql (Xt 105) (.cst (.int .u8 35))) [105], Xa 2 104 106 [106]]
 | 24 => [Xf 0 107 0 4 [104, 6, 5], ⟨1, none, .o (.store 1 (Xt 107) (Xi 6)), none, [107]⟩]
 | 25 => [Xm 0 108 0 [], Xn 1 109 108 [], Xf 2 110 1 109 [109], Xl 3 111 1 110 [110], Xb 4 112 .add 111 1 [111], Xn 5 113 108 [108], Xf 6 114 1 113 [113], Xs 7 1 114 112 [114, 112]]
 | 26 => [Xm 0 116 0 [0], Xc 1 117 103 116 [116], Xm 2 115 117 [117], Xe 3 118 115 0 [], Xe 4 119 115 1 [115], Xf 5 120 1 4 [], Xs 6 1 120 118 [120, 118], Xa 7 5 119 [119]]
 | 27 => [Xg 0 121 3 4 [4], Xm 1 122 5 [5], Xs 2 3 2 121 [121], Xa 3 3 122 [122]]
 | 28 => [Xm 0 124 6 [104], Xo 1 125 (.icmp .eql (Xt 124) (.cst (.int .u8 58))) [124], Xm 2 126 125 [125], Xu 3 127 (.move (Xt 0)) 126 [], ⟨4, (some 128), .call (.cst (.fn (.func 102) [] [])) [(Xt 127), (Xi 1)], (some (126, true)), [127]⟩, Xu 5 129 (.icmp .eql (Xt 128) (.cst (.int .u8 61))) 126 [128], Xo 6 130 (.pick (Xt 126) (Xt 129) Xq) [129, 126], Xa 7 123 130 [130]]
 | 29 => [Xf 0 131 0 4 [123, 6], ⟨1, none, .o (.store 1 (Xt 131) (Xi 7)), none, [131]⟩]
 | 30 => [Xm 0 132 0 [], Xn 1 133 132 [], Xf 2 134 1 133 [133], Xl 3 135 1 134 [134], Xb 4 136 .add 135 2 [135], Xn 5 137 132 [132], Xf 6 138 1 137 [137], Xs 7 1 138 136 [138, 136]]
 | 31 => [Xm 0 140 6 [123], Xo 1 141 (.icmp .eql (Xt 140) (.cst (.int .u8 58))) [140], Xa 2 139 141 [141]]
 | 32 => [Xf 0 142 0 4 [139, 6], ⟨1, none, .o (.store 1 (Xt 142) (Xi 16)), none, [142]⟩]
 | 33 => [Xm 0 143 0 [], Xn 1 144 143 [], Xf 2 145 1 144 [144], Xl 3 146 1 145 [145], Xb 4 147 .add 146 1 [146], Xn 5 148 143 [143], Xf 6 149 1 148 [148], Xs 7 1 149 147 [149, 147]]
 | 34 => [Xm 0 151 0 [139], Xc 1 152 104 151 [151], Xa 2 150 152 [152]]
 | 35 => [Xf 0 153 0 4 [150, 6], ⟨1, none, .o (.store 1 (Xt 153) (Xi 3)), none, [153]⟩]
 | 36 => [Xm 0 23 6 [150, 6, 5], ⟨1, (some 24), .call (.cst (.fn (.func 64) [] [])) [(Xt 23), (.cst (.str ⟨#[40, 41, 91, 93, 124, 94, 46, 59]⟩))], none, [23]⟩, Xo 2 25 (.ibin .add (Xi 8) (Xt 24)) [24], Xf 3 26 0 4 [], Xs 4 1 26 25 [26, 25]]
 | 37 => [Xf 0 27 0 4 [], Xl 1 28 1 27 [27], Xj 2 29 .geq 28 8 [28], Xa 3 5 29 [29]]
 | 38 => [Xm 0 30 0 [], Xn 1 31 30 [], Xf 2 32 1 31 [31], Xl 3 33 1 32 [32], Xb 4 34 .add 33 1 [33], Xn 5 35 30 [30], Xf 6 36 1 35 [35], Xs 7 1 36 34 [36, 34]]
 | 39 => [Xm 0 154 0 [], Xn 1 155 154 [], Xf 2 156 0 155 [], Xl 3 157 1 156 [], Xf 4 158 2 4 [], Xl 5 159 1 158 [], Xm 6 160 0 [], Xn 7 161 160 [], Xf 8 162 1 161 [], Xl 9 163 1 162 [], Xo 10 164 (.sslice (Xt 157) (some (Xt 159)) (some (Xt 163))) [], Xf 11 165 1 4 [], Xs 12 1 165 164 []]
 | 40 => [Xg 0 166 3 4 [4], Xm 1 167 5 [5], Xs 2 3 2 166 [166], Xa 3 3 167 [167]]
 | _ => []
def c66c : AC := (.seq (.regT c66t 0) (.seq (.regT c66t 1) (.seq (.regT c66t 2) (.seq (.seq (.regD [c66t 3]) (.block 0 (.seq (.regT c66t 4) (.cond (.tmp 37) (.seq (.regT c66t 5) (.seq (.regT c66t 6) (.seq (.regT c66t 7) (.cond (.tmp 44) (.seq (.regT c66t 8) (.regT c66t 9)) .skip)))) (.seq (.regT c66t 10) (.cond (.tmp 53) (.seq (.regT c66t 11) (.seq (.regT c66t 12) (.seq (.regD [c66t 13, c66t 14]) (.regT c66t 15)))) (.seq (.regT c66t 16) (.cond (.tmp 76) (.seq (.regT c66t 17) (.seq (.regT c66t 18) (.seq (.regT c66t 19) .ret))) (.seq (.regT c66t 20) (.cond (.tmp 88) (.seq (.regT c66t 21) (.regT c66t 22)) (.seq (.regT c66t 23) (.cond (.tmp 104) (.seq (.regT c66t 24) (.seq (.regT c66t 25) (.seq (.regT c66t 26) (.seq (.regT c66t 27) .ret)))) (.seq (.regT c66t 28) (.cond (.tmp 123) (.seq (.regT c66t 29) (.regT c66t 30)) (.seq (.regT c66t 31) (.cond (.tmp 139) (.seq (.regT c66t 32) (.regT c66t 33)) (.seq (.regT c66t 34) (.cond (.tmp 150) (.regT c66t 35) (.seq (.regT c66t 36) (.seq (.regT c66t 37) (.regT c66t 38))))))))))))))))))))) (.seq (.regD [c66t 39]) (.seq (.regT c66t 40) .ret))))))
def c66a : Ann := fun id => match id with
 | 7 => Xan c66t 4
 | 8 => Xan c66t 5
 | 9 => Xan c66t 6
 | 10 => Xan c66t 7
 | 11 => Xan c66t 8
 | 12 => Xan c66t 9
 | 13 => Xan c66t 10
 | 14 => Xan c66t 11
 | 15 => Xan c66t 12
 | 16 => [[(0, []), (1, []), (2, []), (3, []), (4, []), (5, []), (6, []), (7, []), (8, []), (9, []), (10, []), (11, []), (12, []), (13, []), (14, []), (15, [0, 1, 2, 3, 4, 5, 6, 7, 8, 9, 10, 12, 13, 14]), (16, [14]), (17, [])], [(0, []), (1, []), (2, []), (3, []), (4, []), (5, []), (6, []), (7, []), (8, []), (9, []), (10, []), (15, [0, 1, 2, 3, 4, 5, 6, 7, 8, 9, 10]), (11, []), (12, []), (13, []), (14, []), (16, [14]), (17, [])]]
 | 17 => Xan c66t 15
 | 18 => Xan c66t 16
 | 19 => Xan c66t 17
 | 20 => Xan c66t 18
 | 21 => Xan c66t 19
 | 22 => Xan c66t 20
 | 23 => Xan c66t 21
 | 24 => Xan c66t 22
 | 25 => Xan c66t 23
 | 26 => Xan c66t 24
 | 27 => Xan c66t 25
 | 28 => Xan c66t 26
 | 29 => Xan c66t 27
 | 30 => Xan c66t 28
 | 31 => Xan c66t 29
 | 32 => Xan c66t 30
 | 33 => Xan c66t 31
 | 34 => Xan c66t 32
 | 35 => Xan c66t 33
 | 36 => Xan c66t 34
 | 37 => Xan c66t 35
 | 4 => Xan c66t 36
 | 5 => Xan c66t 37
 | 6 => Xan c66t 38
 | 38 => Xan c66t 39
 | 39 => Xan c66t 40
 | n => Xan c66t n
theorem c66ok : Ko 168 c66a Tryz.f66 = some (inst c66c) := by kernel_rfl
theorem c66call : Kc 66 = true := by kernel_rfl
theorem c66res : Kr Tryz.f66 = some [.cell 2 true 3, .tmp 3] := by kernel_rfl
def c67t : Nat → List AI
 | 0 => [Xo 0 2 (.alloc Xz 50) [], Xo 1 3 (.asg Xq) []]
 | 1 => [Xm 0 5 0 [3], Xc 1 6 58 5 [5], Xj 2 7 .neq 6 13 [6]]
 | 2 => [Xm 0 8 0 [7, 0], Xc 1 9 105 8 [8], Xs 2 6 2 9 [9], Xo 3 3 (.asg Xq) []]
 | 3 => [Xm 0 10 0 [7, 3], Xc 1 11 57 10 [10], Xo 2 12 (.field false 2 1 (Xt 11)) [11], Xo 3 13 (.build Xz [(0, 1, (Xi 11)), (2, 1, (Xt 12))]) [12], Xo 4 4 (.alloc Xz 50) [], Xs 5 6 4 13 [13]]
 | 4 => [Xm 0 14 0 [0], Xc 1 15 105 14 [14], Xo 2 16 (.bslice 50 true 6 1 Xz [(0, 6, (Xt 15))]) [15], Xf 3 17 5 4 [], Xs 4 1 17 16 [17, 16]]
 | 5 => [Xg 0 18 6 4 [4], Xs 1 6 2 18 [18], Xo 2 3 (.asg Xp) []]
 | _ => []
def c67c : AC := (.seq (.regT c67t 0) (.seq (.seq (.regT c67t 1) (.cond (.tmp 7) (.seq (.regT c67t 2) .ret) .skip)) (.seq (.regT c67t 3) (.seq (.regT c67t 4) (.seq (.regT c67t 5) .ret)))))
def c67a : Ann := Xan c67t
theorem c67ok : Ko 19 c67a Tryz.f67 = some (inst c67c) := by kernel_rfl
theorem c67call : Kc 67 = true := by kernel_rfl
theorem c67res : Kr Tryz.f67 = some [.cell 2 true 6, .tmp 3] := by kernel_rfl
def c68t : Nat → List AI
 | 0 => [Xm 0 4 0 [0], Xn 1 5 4 [4], Xf 2 6 0 5 [5], Xl 3 7 1 6 [6], Xo 4 8 (.iaddr 3 (Xt 7) (Xi 0)) [7], Xf 5 9 2 8 [8], Xl 6 10 1 9 [9], Xm 7 11 1 [1], Xo 8 12 (.build [(.int .i64 0), (.int .i64 0)] [(0, 1, (Xt 10)), (1, 1, (Xt 11))]) [11, 10], Xo 9 13 (.mkif 99 (Xt 12)) [12], ⟨10, none, .panic (Xt 13), none, [13]⟩]
 | _ => []
def c68c : AC := (.regT c68t 0)
def c68a : Ann := Xan c68t
theorem c68ok : Ko 14 c68a Tryz.f68 = some (inst c68c) := by kernel_rfl
theorem c68call : Kc 68 = true := by kernel_rfl
def c69t : Nat → List AI
 | 0 => [Xo 0 2 (.alloc [(.int .i64 0), (.str ⟨#[]⟩), (.int .i64 0), (.int .i64 0), (.int .i64 0), (.bool false)] 146) [], Xo 1 3 (.asg Xq) []]
 | 1 => [Xm 0 5 0 [3], Xo 1 6 (.build [(.int .i64 0), (.str ⟨#[]⟩), (.int .i64 0), (.int .i64 0), (.int .i64 0), (.bool false)] [(1, 1, (Xt 5))]) [5], Xo 2 4 (.alloc [(.int .i64 0), (.str ⟨#[]⟩), (.int .i64 0), (.int .i64 0), (.int .i64 0), (.bool false)] 146) [], Xs 3 6 4 6 [6]]
 | 2 => [Xm 0 7 0 [0]]
 | 3 => [Xo 0 10 (.sbin .eql (Xt 7) (.cst (.str ⟨#[115, 101, 108, 102]⟩))) [], Xa 1 9 10 [10]]
 | 4 => [Xo 0 12 (.sbin .eql (Xt 7) (.cst (.str ⟨#[115, 117, 112, 101, 114]⟩))) [9], Xa 1 11 12 [12]]
 | 5 => [Xf 0 13 2 4 [11, 7], ⟨1, none, .o (.store 1 (Xt 13) (Xi 1)), none, [13]⟩]
 | 6 => [Xo 0 15 (.sbin .eql (Xt 7) (.cst (.str ⟨#[110, 105, 108]⟩))) [11], Xa 1 14 15 [15]]
 | 7 => [Xf 0 16 2 4 [14, 7], ⟨1, none, .o (.store 1 (Xt 16) (Xi 2)), none, [16]⟩]
 | 8 => [Xo 0 18 (.sbin .eql (Xt 7) (.cst (.str ⟨#[102, 97, 108, 115, 101]⟩))) [14], Xa 1 17 18 [18]]
 | 9 => [Xf 0 19 2 4 [17, 7], ⟨1, none, .o (.store 1 (Xt 19) (Xi 2)), none, [19]⟩, Xf 2 20 4 4 [], ⟨3, none, .o (.store 1 (Xt 20) (Xi 1)), none, [20]⟩]
 | 10 => [Xo 0 22 (.sbin .eql (Xt 7) (.cst (.str ⟨#[116, 114, 117, 101]⟩))) [17, 7], Xa 1 21 22 [22]]
 | 11 => [Xf 0 23 2 4 [21], ⟨1, none, .o (.store 1 (Xt 23) (Xi 2)), none, [23]⟩, Xf 2 24 4 4 [], ⟨3, none, .o (.store 1 (Xt 24) (Xi 2)), none, [24]⟩]
 | 12 => [Xg 0 8 6 4 [21, 4], Xs 1 6 2 8 [8], Xo 2 3 (.asg Xq) []]
 | 13 => [Xg 0 25 6 4 [3, 9, 7, 4], Xs 1 6 2 25 [25], Xo 2 3 (.asg Xp) []]
 | _ => []
def c69c : AC := (.seq (.regT c69t 0) (.seq (.regT c69t 1) (.seq (.seq (.regT c69t 2) (.block 0 (.seq (.regT c69t 3) (.cond (.tmp 9) .skip (.seq (.regT c69t 4) (.cond (.tmp 11) (.regT c69t 5) (.seq (.regT c69t 6) (.cond (.tmp 14) (.regT c69t 7) (.seq (.regT c69t 8) (.cond (.tmp 17) (.regT c69t 9) (.seq (.regT c69t 10) (.cond (.tmp 21) (.regT c69t 11) (.seq (.regT c69t 12) .ret))))))))))))) (.seq (.regT c69t 13) .ret))))
def c69a : Ann := fun id => match id with
 | 4 => Xan c69t 3
 | 5 => Xan c69t 4
 | 6 => Xan c69t 5
 | 7 => Xan c69t 6
 | 8 => Xan c69t 7
 | 9 => Xan c69t 8
 | 10 => Xan c69t 9
 | 11 => Xan c69t 10
 | 12 => Xan c69t 11
 | 3 => Xan c69t 12
 | n => Xan c69t n
theorem c69ok : Ko 26 c69a Tryz.f69 = some (inst c69c) := by kernel_rfl
theorem c69call : Kc 69 = true := by kernel_rfl
theorem c69res : Kr Tryz.f69 = some [.cell 2 true 6, .tmp 3] := by kernel_rfl
def c70t : Nat → List AI
 | 0 => [Xo 0 4 (.asg Xq) []]
 | 1 => [Xm 0 5 0 [4, 0], Xm 1 6 1 [1], Xd 2 7 106 5 6 [6, 5], Xj 3 8 .geq 7 0 [7], Xa 4 4 8 [8]]
 | _ => []
def c70c : AC := (.seq (.regT c70t 0) (.seq (.regT c70t 1) .ret))
def c70a : Ann := Xan c70t
theorem c70ok : Ko 9 c70a Tryz.f70 = some (inst c70c) := by kernel_rfl
theorem c70call : Kc 70 = true := by kernel_rfl
theorem c70res : Kr Tryz.f70 = some [.tmp 4] := by kernel_rfl
def c71t : Nat → List AI
 | 0 => [Xo 0 5 (.box 50 (Xt 1)) [1]]
 | 1 => [Xf 0 14 0 5 [], Xl 1 15 1 14 [14]]
 | 2 => [Xj 0 17 .eql 15 5 [], Xa 1 16 17 [17]]
 | 3 => [Xm 0 19 0 [16, 15], Xf 1 20 1 5 [], Xl 2 21 1 20 [20], Xm 3 22 2 [2], ⟨4, (some 23), .call (.cst (.fn (.func 107) [] [])) [(Xt 19), (Xt 21), (Xt 22)], none, [22, 21, 19]⟩, Xm 5 18 23 [23], Xe 6 24 18 0 [], Xe 7 25 18 1 [18], Xo 8 8 (.alloc [(.int .i64 0), (.str ⟨#[]⟩), (.int .i64 0), (.int .i64 0), (.int .i64 0), (.bool false)] 146) [], Xs 9 6 8 24 [24], Xa 10 9 25 [25]]
 | 4 => [Xf 0 26 2 8 [9], Xl 1 27 1 26 [26], Xo 2 28 (.icmp .eql (Xt 27) (.cst (.int .i64 (-1)))) [27], Xm 3 29 28 [28], Xv 4 30 (.faddr 2 (Xt 8)) 29 [], Xv 5 31 (.load false 1 (Xt 30)) 29 [30], Xv 6 32 (.icmp .eql (Xt 31) (Xi 1)) 29 [31], Xv 7 33 (.move (Xt 32)) 29 [32], Xu 8 34 (.move (Xt 3)) 33 [3], Xu 9 35 (.not (Xt 34)) 33 [34], Xv 10 36 (.pick (Xt 33) (Xt 35) Xq) 29 [35, 33], Xo 11 37 (.pick (Xt 29) Xp (Xt 36)) [36, 29]]
 | 5 => [Xf 0 38 2 5 [37], Xl 1 39 1 38 [38], Xo 2 40 (.build [(.int .i64 0)] [(0, 1, (Xt 39))]) [39], Xo 3 41 (.mkif 104 (Xt 40)) [40], ⟨4, none, .panic (Xt 41), none, [41]⟩]
 | 6 => [Xf 0 42 2 5 [37, 5], Xl 1 43 1 42 [42], Xf 2 44 0 8 [], Xs 3 1 44 43 [44, 43]]
 | 7 => [Xm 0 45 0 [], Xm 1 46 0 [], Xn 2 47 46 [], Xf 3 48 1 47 [], Xl 4 49 1 48 [], Xg 5 50 6 8 [], Xo 6 51 (.bslice 146 true 6 1 [(.int .i64 0), (.str ⟨#[]⟩), (.int .i64 0), (.int .i64 0), (.int .i64 0), (.bool false)] [(0, 6, (Xt 50))]) [0, 1, 2, 3, 4], Xo 7 52 (.append 146 6 56 [(.int .i64 0), (.str ⟨#[]⟩), (.int .i64 0), (.int .i64 0), (.int .i64 0), (.bool false)] (Xt 49) (Xt 51)) [0], Xn 8 53 45 [], Xf 9 54 1 53 [], Xs 10 1 54 52 []]
 | 8 => [Xj 0 56 .eql 15 6 [16, 3], Xa 1 55 56 [56]]
 | 9 => [Xm 0 58 0 [55, 15], Xf 1 59 1 5 [], Xl 2 60 1 59 [59], Xm 3 61 2 [], ⟨4, (some 62), .call (.cst (.fn (.func 107) [] [])) [(Xt 58), (Xt 60), (Xt 61)], none, [61, 60, 58]⟩, Xm 5 57 62 [62], Xe 6 63 57 0 [], Xe 7 64 57 1 [57], Xo 8 10 (.alloc [(.int .i64 0), (.str ⟨#[]⟩), (.int .i64 0), (.int .i64 0), (.int .i64 0), (.bool false)] 146) [], Xs 9 6 10 63 [63], Xa 10 11 64 [64]]
 | 10 => [Xm 0 65 11 [11], Xm 1 66 65 [65], Xv 2 67 (.faddr 2 (Xt 10)) 66 [], Xv 3 68 (.load false 1 (Xt 67)) 66 [67], Xv 4 69 (.icmp .neq (Xt 68) (Xi 3)) 66 [68], Xv 5 70 (.move (Xt 69)) 66 [69], Xu 6 71 (.faddr 2 (Xt 10)) 70 [], Xu 7 72 (.load false 1 (Xt 71)) 70 [71], Xu 8 73 (.icmp .neq (Xt 72) (Xi 4)) 70 [72], Xv 9 74 (.pick (Xt 70) (Xt 73) Xq) 66 [73, 70], Xo 10 75 (.pick (Xt 66) Xp (Xt 74)) [74, 66]]
 | 11 => [Xf 0 76 2 5 [75], Xl 1 77 1 76 [76], Xo 2 78 (.build [(.int .i64 0)] [(0, 1, (Xt 77))]) [77], Xo 3 79 (.mkif 104 (Xt 78)) [78], ⟨4, none, .panic (Xt 79), none, [79]⟩]
 | 12 => [Xf 0 80 2 5 [75], Xl 1 81 1 80 [80], Xf 2 82 0 10 [], Xs 3 1 82 81 [82, 81], Xf 4 83 5 10 [], ⟨5, none, .o (.store 1 (Xt 83) Xp), none, [83]⟩]
 | 13 => [Xm 0 84 0 [], Xm 1 85 0 [], Xn 2 86 85 [], Xf 3 87 1 86 [], Xl 4 88 1 87 [], Xg 5 89 6 10 [], Xo 6 90 (.bslice 146 true 6 1 [(.int .i64 0), (.str ⟨#[]⟩), (.int .i64 0), (.int .i64 0), (.int .i64 0), (.bool false)] [(0, 6, (Xt 89))]) [0, 1, 2, 3, 4], Xo 7 91 (.append 146 6 56 [(.int .i64 0), (.str ⟨#[]⟩), (.int .i64 0), (.int .i64 0), (.int .i64 0), (.bool false)] (Xt 88) (Xt 90)) [0], Xn 8 92 84 [], Xf 9 93 1 92 [], Xs 10 1 93 91 []]
 | 14 => [Xj 0 95 .eql 15 10 [55, 15], Xa 1 94 95 [95]]
 | 15 => [Xm 0 96 0 [94, 0], Xg 1 97 6 5 [5], Xm 2 98 2 [2], ⟨3, (some 99), .call (.cst (.fn (.func 45) [] [])) [(Xt 96), (Xt 97), (Xt 98)], none, [98, 97, 96]⟩]
 | 16 => [Xf 0 100 5 5 [94, 99], Xl 1 101 1 100 [100], Xo 2 102 (.len false (Xt 101)) [], Xo 3 103 (.move (Xi 0)) []]
 | 17 => [Xh 0 104 .lss 103 102 []]
 | 18 => [Xm 0 105 103 [104], Xo 1 106 (.iaddr 6 (Xt 101) (Xt 103)) [], Xg 2 107 6 106 [106], Xo 3 13 (.alloc Xz 50) [], Xa 4 12 105 [105], Xs 5 6 13 107 [107]]
 | 19 => [Xm 0 108 0 [], Xg 1 109 6 13 [13], Xm 2 110 2 [], Xm 3 111 12 [12], Xj 4 112 .eql 111 0 [111], Xm 5 113 112 [112], Xu 6 114 (.faddr 0 (Xt 5)) 113 [], Xu 7 115 (.load false 1 (Xt 114)) 113 [], Xu 8 116 (.icmp .eql (Xt 115) (Xi 7)) 113 [], Xu 9 117 (.move (Xt 116)) 113 [], Xv 10 118 (.faddr 0 (Xt 5)) 117 [], Xv 11 119 (.load false 1 (Xt 118)) 117 [], Xv 12 120 (.icmp .eql (Xt 119) (Xi 8)) 117 [], Xu 13 121 (.pick (Xt 117) Xp (Xt 120)) 113 [], Xo 14 122 (.pick (Xt 113) (Xt 121) Xq) [113], ⟨15, (some 123), .call (.cst (.fn (.func 71) [] [])) [(Xt 108), (Xt 109), (Xt 110), (Xt 122)], none, [122, 110, 109, 108]⟩]
 | 20 => [Xb 0 124 .add 103 1 [123, 103], Xm 1 103 124 [124]]
 | _ => []
def c71l21 : AC := (.seq (.regT c71t 17) (.seq (.cond (.tmp 104) .skip (.exit 1)) (.seq (.block 2 (.seq (.regT c71t 18) (.regT c71t 19))) (.regT c71t 20))))
def c71c : AC := (.seq (.regT c71t 0) (.seq (.seq (.regT c71t 1) (.block 0 (.seq (.regT c71t 2) (.cond (.tmp 16) (.seq (.regT c71t 3) (.seq (.seq (.regT c71t 4) (.cond (.tmp 37) (.regT c71t 5) .skip)) (.seq (.regT c71t 6) (.seq (.regD [c71t 7]) .ret)))) (.seq (.regT c71t 8) (.cond (.tmp 55) (.seq (.regT c71t 9) (.seq (.seq (.regT c71t 10) (.cond (.tmp 75) (.regT c71t 11) .skip)) (.seq (.regT c71t 12) (.regD [c71t 13])))) (.seq (.regT c71t 14) (.cond (.tmp 94) (.seq (.regT c71t 15) .ret) .skip)))))))) (.seq (.regT c71t 16) (.block 1 (.loop c71l21)))))
def c71a : Ann := Xan c71t
theorem c71ok : Ko 125 c71a Tryz.f71 = some (inst c71c) := by kernel_rfl
theorem c71call : Kc 71 = true := by kernel_rfl
theorem c71res : Kr Tryz.f71 = some [] := by kernel_rfl
end Go.SL
set_option maxRecDepth 100000
namespace Go.SL
open Go.Proofs
def c72t : Nat → List AI
 | 0 => [Xo 0 4 (.asg (Xi 0)) []]
 | 1 => [Xm 0 6 0 [4], Xn 1 7 6 [6], Xl 2 8 1 7 [7], Xm 3 9 1 [], Xd 4 10 106 8 9 [9, 8], Xa 5 5 10 [10]]
 | 2 => [Xm 0 11 5 [], Xj 1 12 .geq 11 0 [11]]
 | 3 => [Xm 0 13 5 [12, 5, 0, 1], Xa 1 4 13 [13]]
 | 4 => [Xm 0 14 0 [5, 12, 4], Xm 1 15 0 [], Xn 2 16 15 [15], Xl 3 17 1 16 [16], Xm 4 18 1 [1], Xo 5 19 (.bslice 9 false 1 1 [(.str ⟨#[]⟩)] [(0, 1, (Xt 18))]) [18], Xo 6 20 (.append 9 1 16 [(.str ⟨#[]⟩)] (Xt 17) (Xt 19)) [19, 17], Xn 7 21 14 [14], Xs 8 1 21 20 [21, 20]]
 | 5 => [Xm 0 22 0 [0], Xn 1 23 22 [22], Xl 2 24 1 23 [23], Xo 3 25 (.len false (Xt 24)) [24], Xb 4 26 .sub 25 1 [25], Xa 5 4 26 [26]]
 | _ => []
def c72c : AC := (.seq (.regT c72t 0) (.seq (.seq (.regT c72t 1) (.seq (.regT c72t 2) (.cond (.tmp 12) (.seq (.regT c72t 3) .ret) .skip))) (.seq (.regT c72t 4) (.seq (.regT c72t 5) .ret))))
def c72a : Ann := Xan c72t
theorem c72ok : Ko 27 c72a Tryz.f72 = some (inst c72c) := by kernel_rfl
theorem c72call : Kc 72 = true := by kernel_rfl
theorem c72res : Kr Tryz.f72 = some [.tmp 4] := by kernel_rfl
def c73t : Nat → List AI
 | 0 => [Xo 0 1 (.box 50 (Xt 0)) [0], Xo 1 2 (.asg (.cst (.str ⟨#[]⟩))) []]
 | 1 => [Xo 0 3 (.alloc [.nilP, Xw] 191) [2]]
 | 2 => [Xg 0 4 6 1 [1], Xd 1 5 108 3 4 [4]]
 | 3 => [Xf 0 6 0 3 [5, 3], Xc 1 7 109 6 [6], Xa 2 2 7 [7]]
 | _ => []
def c73c : AC := (.seq (.regT c73t 0) (.seq (.regT c73t 1) (.seq (.regT c73t 2) (.seq (.regT c73t 3) .ret))))
def c73a : Ann := Xan c73t
theorem c73ok : Ko 8 c73a Tryz.f73 = some (inst c73c) := by kernel_rfl
theorem c73call : Kc 73 = true := by kernel_rfl
theorem c73res : Kr Tryz.f73 = some [.tmp 2] := by kernel_rfl
def c74t : Nat → List AI
 | 0 => [Xm 0 5 0 [], Xc 1 6 75 5 [5], Xo 2 4 (.alloc [(.int .i64 0), (.str ⟨#[]⟩), (.int .i64 0), (.int .i64 0), (.int .i64 0), (.bool false)] 146) [], Xs 3 6 4 6 [6]]
 | 1 => [Xf 0 7 2 4 [], Xl 1 8 1 7 [7]]
 | 2 => [Xj 0 13 .eql 8 2 [], Xa 1 12 13 [13]]
 | 3 => [Xm 0 14 0 [12, 8, 0], Xm 1 15 1 [1], Xf 2 16 4 4 [4], Xl 3 17 1 16 [16], ⟨4, (some 18), .call (.cst (.fn (.func 46) [] [])) [(Xt 14), (Xt 15), (Xi 7), (Xt 17), (Xi 0)], none, [17, 15, 14]⟩]
 | 4 => [Xj 0 20 .eql 8 3 [12], Xa 1 19 20 [20]]
 | 5 => [Xm 0 21 0 [19, 8, 0], Xm 1 22 1 [1], Xf 2 23 3 4 [], Xl 3 24 1 23 [23], Xf 4 25 4 4 [4], Xl 5 26 1 25 [25], ⟨6, (some 27), .call (.cst (.fn (.func 46) [] [])) [(Xt 21), (Xt 22), (Xi 1), (Xt 24), (Xt 26)], none, [26, 24, 22, 21]⟩]
 | 6 => [Xj 0 29 .eql 8 4 [19], Xa 1 28 29 [29]]
 | 7 => [Xm 0 30 0 [28, 8, 0], Xm 1 31 1 [1], Xf 2 32 4 4 [4], Xl 3 33 1 32 [32], ⟨4, (some 34), .call (.cst (.fn (.func 46) [] [])) [(Xt 30), (Xt 31), (Xi 3), (Xt 33), (Xi 0)], none, [33, 31, 30]⟩]
 | 8 => [Xj 0 36 .eql 8 5 [28, 8], Xa 1 35 36 [36]]
 | 9 => [Xm 0 37 0 [], Xm 1 38 1 [], Xm 2 39 0 [], Xn 3 40 39 [], Xf 4 41 0 40 [], Xf 5 42 3 41 [], Xf 6 43 1 4 [], Xl 7 44 1 43 [], Xd 8 45 72 42 44 [0, 1], ⟨9, (some 46), .call (.cst (.fn (.func 46) [] [])) [(Xt 37), (Xt 38), (Xi 5), (Xt 45), (Xi 0)], none, []⟩]
 | 10 => [Xm 0 9 0 [35, 4, 0], Xm 1 10 1 [1], ⟨2, (some 11), .call (.cst (.fn (.func 46) [] [])) [(Xt 9), (Xt 10), (Xi 6), (Xi 0), (Xi 0)], none, [10, 9]⟩]
 | _ => []
def c74c : AC := (.seq (.regT c74t 0) (.seq (.regT c74t 1) (.block 0 (.seq (.regT c74t 2) (.cond (.tmp 12) (.regT c74t 3) (.seq (.regT c74t 4) (.cond (.tmp 19) (.regT c74t 5) (.seq (.regT c74t 6) (.cond (.tmp 28) (.regT c74t 7) (.seq (.regT c74t 8) (.cond (.tmp 35) (.regD [c74t 9]) (.regT c74t 10))))))))))))
def c74a : Ann := fun id => match id with
 | 3 => Xan c74t 2
 | 4 => Xan c74t 3
 | 5 => Xan c74t 4
 | 6 => Xan c74t 5
 | 7 => Xan c74t 6
 | 8 => Xan c74t 7
 | 9 => Xan c74t 8
 | 10 => Xan c74t 9
 | 2 => Xan c74t 10
 | n => Xan c74t n
theorem c74ok : Ko 47 c74a Tryz.f74 = some (inst c74c) := by kernel_rfl
theorem c74call : Kc 74 = true := by kernel_rfl
theorem c74res : Kr Tryz.f74 = some [] := by kernel_rfl
def c75t : Nat → List AI
 | 0 => [Xo 0 2 (.alloc [(.int .i64 0), (.str ⟨#[]⟩), (.int .i64 0), (.int .i64 0), (.int .i64 0), (.bool false)] 146) []]
 | 1 => [Xm 0 4 0 [], Xn 1 5 4 [4], Xf 2 6 5 5 [5], Xl 3 7 1 6 [6], Xo 4 8 (.iaddr 6 (Xt 7) (Xi 0)) [7], Xg 5 9 6 8 [8], Xo 6 3 (.alloc [(.int .i64 0), (.str ⟨#[]⟩), (.int .i64 0), (.int .i64 0), (.int .i64 0), (.bool false)] 146) [], Xs 7 6 3 9 [9]]
 | 2 => [Xm 0 10 0 [], Xm 1 11 0 [0], Xn 2 12 11 [11], Xf 3 13 5 12 [12], Xl 4 14 1 13 [13], Xo 5 15 (.lslice 6 (Xt 14) (some (Xi 1)) none) [14], Xn 6 16 10 [10], Xf 7 17 5 16 [16], Xs 8 1 17 15 [17, 15]]
 | 3 => [Xg 0 18 6 3 [3], Xs 1 6 2 18 [18]]
 | _ => []
def c75c : AC := (.seq (.regT c75t 0) (.seq (.regT c75t 1) (.seq (.regT c75t 2) (.seq (.regT c75t 3) .ret))))
def c75a : Ann := Xan c75t
theorem c75ok : Ko 19 c75a Tryz.f75 = some (inst c75c) := by kernel_rfl
theorem c75call : Kc 75 = true := by kernel_rfl
theorem c75res : Kr Tryz.f75 = some [.cell 2 true 6] := by kernel_rfl
def c76t : Nat → List AI
 | 0 => [Xo 0 7 (.box 50 (Xt 2)) [2]]
 | 1 => [Xm 0 13 4 [], Xo 1 14 (.len false (Xt 13)) [], Xo 2 15 (.move (Xi 0)) []]
 | 2 => [Xh 0 16 .lss 15 14 []]
 | 3 => [Xo 0 17 (.iaddr 6 (Xt 13) (Xt 15)) [16], Xg 1 18 6 17 [17], Xo 2 11 (.alloc Xz 50) [], Xs 3 6 11 18 [18]]
 | 4 => [Xm 0 19 0 [], Xm 1 20 1 [], Xg 2 21 6 11 [11], ⟨3, (some 22), .call (.cst (.fn (.func 47) [] [])) [(Xt 19), (Xt 20), (Xt 21)], none, [21, 20, 19]⟩]
 | 5 => [Xb 0 23 .add 15 1 [22, 15], Xm 1 15 23 [23]]
 | 7 => [Xo 0 12 (.asg (Xi 8)) [15, 14, 13]]
 | 8 => [Xf 0 24 0 7 [], Xl 1 25 1 24 [24], Xj 2 26 .eql 25 5 [25], Xm 3 27 26 [26], Xu 4 28 (.faddr 1 (Xt 7)) 27 [7], Xu 5 29 (.load false 1 (Xt 28)) 27 [28], Xu 6 30 (.sbin .eql (Xt 29) (.cst (.str ⟨#[115, 117, 112, 101, 114]⟩))) 27 [29], Xo 7 31 (.pick (Xt 27) (Xt 30) Xq) [30, 27]]
 | 9 => [Xo 0 12 (.asg (Xi 9)) [31]]
 | 10 => [Xm 0 32 0 [31], Xm 1 33 1 [1], Xm 2 34 12 [12], Xm 3 35 0 [0], Xn 4 36 35 [35], Xf 5 37 0 36 [36], Xf 6 38 4 37 [37], Xm 7 39 3 [3], Xd 8 40 72 38 39 [39, 38], Xm 9 41 4 [4], Xo 10 42 (.len false (Xt 41)) [41], ⟨11, (some 43), .call (.cst (.fn (.func 46) [] [])) [(Xt 32), (Xt 33), (Xt 34), (Xt 40), (Xt 42)], none, [42, 40, 34, 33, 32]⟩]
 | _ => []
def c76l6 : AC := (.seq (.regT c76t 2) (.seq (.cond (.tmp 16) .skip (.exit 0)) (.seq (.block 1 (.seq (.regT c76t 3) (.regT c76t 4))) (.regT c76t 5))))
def c76c : AC := (.seq (.regT c76t 0) (.seq (.seq (.regT c76t 1) (.block 0 (.loop c76l6))) (.seq (.regT c76t 7) (.seq (.seq (.regT c76t 8) (.cond (.tmp 31) (.regT c76t 9) .skip)) (.regT c76t 10)))))
def c76a : Ann := fun id => match id with
 | 6 => Xan c76t 7
 | 7 => Xan c76t 8
 | 8 => Xan c76t 9
 | 9 => Xan c76t 10
 | n => Xan c76t n
theorem c76ok : Ko 44 c76a Tryz.f76 = some (inst c76c) := by kernel_rfl
theorem c76call : Kc 76 = true := by kernel_rfl
theorem c76res : Kr Tryz.f76 = some [] := by kernel_rfl
def c94t : Nat → List AI
 | 0 => [Xo 0 4 (.asg Xq) []]
 | 1 => [Xm 0 5 0 [], Xn 1 6 5 [], Xf 2 7 1 6 [], Xl 3 8 1 7 [], Xm 4 9 0 [], Xn 5 10 9 [], Xf 6 11 0 10 [], Xl 7 12 1 11 [], Xo 8 13 (.len true (Xt 12)) [], Xh 9 14 .lss 8 13 [], Xm 10 15 14 [], Xu 11 16 (.move (Xt 1)) 15 [], Xu 12 17 (.move (Xt 0)) 15 [], Xu 13 18 (.nilc (Xt 17)) 15 [], Xu 14 19 (.faddr 0 (Xt 18)) 15 [], Xu 15 20 (.load false 1 (Xt 19)) 15 [], Xu 16 21 (.move (Xt 0)) 15 [], Xu 17 22 (.nilc (Xt 21)) 15 [], Xu 18 23 (.faddr 1 (Xt 22)) 15 [], Xu 19 24 (.load false 1 (Xt 23)) 15 [], Xu 20 25 (.index (Xt 20) (Xt 24)) 15 [], ⟨21, (some 26), .call (Xt 16) [(Xt 25)], (some (15, true)), []⟩, Xo 22 27 (.pick (Xt 15) (Xt 26) Xq) [], Xa 23 4 27 []]
 | _ => []
def c94c : AC := (.seq (.regT c94t 0) (.seq (.regD [c94t 1]) .ret))
def c94a : Ann := Xan c94t
theorem c94ok : Ko 28 c94a Tryz.f94 = some (inst c94c) := by kernel_rfl
theorem c94call : Kc 94 = true := by kernel_rfl
theorem c94res : Kr Tryz.f94 = some [.tmp 4] := by kernel_rfl
def c95t : Nat → List AI
 | 0 => [Xo 0 4 (.asg (Xi 0)) []]
 | 1 => [Xm 0 5 0 [4, 0], Xm 1 6 1 [1], Xd 2 7 130 5 6 [6, 5], Xa 3 4 7 [7]]
 | _ => []
def c95c : AC := (.seq (.regT c95t 0) (.seq (.regT c95t 1) .ret))
def c95a : Ann := Xan c95t
theorem c95ok : Ko 8 c95a Tryz.f95 = some (inst c95c) := by kernel_rfl
theorem c95call : Kc 95 = true := by kernel_rfl
theorem c95res : Kr Tryz.f95 = some [.tmp 4] := by kernel_rfl
def c96t : Nat → List AI
 | 0 => [Xo 0 2 (.asg Xq) []]
 | 1 => [Xm 0 3 0 [2], Xo 1 4 (.ibin .or (Xt 3) (.cst (.int .u8 32))) [3], Xo 2 5 (.icmp .geq (Xt 4) (.cst (.int .u8 97))) [4], Xm 3 6 5 [5], Xu 4 7 (.move (Xt 0)) 6 [0], Xu 5 8 (.ibin .or (Xt 7) (.cst (.int .u8 32))) 6 [7], Xu 6 9 (.icmp .leq (Xt 8) (.cst (.int .u8 122))) 6 [8], Xo 7 10 (.pick (Xt 6) (Xt 9) Xq) [9, 6], Xa 8 2 10 [10]]
 | _ => []
def c96c : AC := (.seq (.regT c96t 0) (.seq (.regT c96t 1) .ret))
def c96a : Ann := Xan c96t
theorem c96ok : Ko 11 c96a Tryz.f96 = some (inst c96c) := by kernel_rfl
theorem c96call : Kc 96 = true := by kernel_rfl
theorem c96res : Kr Tryz.f96 = some [.tmp 2] := by kernel_rfl
def c97t : Nat → List AI
 | 0 => [Xo 0 2 (.asg Xq) []]
 | 1 => [Xm 0 3 0 [2], ⟨1, (some 4), .call (.cst (.fn (.func 94) [] [])) [(Xt 3), (.cst (.fn (.func 96) [] []))], none, [3]⟩, Xo 2 5 (.not (Xt 4)) [4]]
 | 2 => [Xo 0 2 (.asg Xq) [5, 0]]
 | 3 => [Xm 0 6 0 [0, 5, 2], ⟨1, (some 7), .call (.cst (.fn (.func 62) [] [])) [(Xt 6), (.cst (.fn (.func 131) [] []))], none, [6]⟩]
 | 4 => [Xo 0 2 (.asg Xp) [7]]
 | _ => []
def c97c : AC := (.seq (.regT c97t 0) (.seq (.seq (.regT c97t 1) (.cond (.tmp 5) (.seq (.regT c97t 2) .ret) .skip)) (.seq (.regT c97t 3) (.seq (.regT c97t 4) .ret))))
def c97a : Ann := Xan c97t
theorem c97ok : Ko 8 c97a Tryz.f97 = some (inst c97c) := by kernel_rfl
theorem c97call : Kc 97 = true := by kernel_rfl
theorem c97res : Kr Tryz.f97 = some [.tmp 2] := by kernel_rfl
def c98t : Nat → List AI
 | 0 => [Xo 0 2 (.asg Xq) []]
 | 1 => [Xm 0 3 0 [2], ⟨1, (some 4), .call (.cst (.fn (.func 102) [] [])) [(Xt 3), (Xi 0)], none, [3]⟩, Xo 2 5 (.icmp .eql (Xt 4) (.cst (.int .u8 58))) [4], Xm 3 6 5 [5], Xu 4 7 (.move (Xt 0)) 6 [0], ⟨5, (some 8), .call (.cst (.fn (.func 102) [] [])) [(Xt 7), (Xi 1)], (some (6, true)), [7]⟩, Xu 6 9 (.icmp .neq (Xt 8) (.cst (.int .u8 61))) 6 [8], Xo 7 10 (.pick (Xt 6) (Xt 9) Xq) [9, 6], Xa 8 2 10 [10]]
 | _ => []
def c98c : AC := (.seq (.regT c98t 0) (.seq (.regT c98t 1) .ret))
def c98a : Ann := Xan c98t
theorem c98ok : Ko 11 c98a Tryz.f98 = some (inst c98c) := by kernel_rfl
theorem c98call : Kc 98 = true := by kernel_rfl
theorem c98res : Kr Tryz.f98 = some [.tmp 2] := by kernel_rfl
def c99t : Nat → List AI
 | 0 => [Xo 0 2 (.asg Xq) []]
 | 1 => [Xm 0 3 0 [2], Xo 1 4 (.icmp .geq (Xt 3) (.cst (.int .u8 48))) [3], Xm 2 5 4 [4], Xu 3 6 (.move (Xt 0)) 5 [0], Xu 4 7 (.icmp .leq (Xt 6) (.cst (.int .u8 57))) 5 [6], Xo 5 8 (.pick (Xt 5) (Xt 7) Xq) [7, 5], Xa 6 2 8 [8]]
 | _ => []
def c99c : AC := (.seq (.regT c99t 0) (.seq (.regT c99t 1) .ret))
def c99a : Ann := Xan c99t
theorem c99ok : Ko 9 c99a Tryz.f99 = some (inst c99c) := by kernel_rfl
theorem c99call : Kc 99 = true := by kernel_rfl
theorem c99res : Kr Tryz.f99 = some [.tmp 2] := by kernel_rfl
def c100t : Nat → List AI
 | 0 => [Xo 0 2 (.alloc [(.bool false), Xw] 178) [], Xo 1 3 (.asg (Xi 0)) []]
 | 1 => [Xm 0 11 0 [3], ⟨1, (some 12), .call (.cst (.fn (.func 132) [] [])) [(Xt 11), (.cst (.str ⟨#[45]⟩))], none, [11]⟩, Xm 2 10 12 [12], Xe 3 13 10 0 [], Xe 4 14 10 1 [10], Xa 5 4 13 [13], Xa 6 5 14 [14]]
 | 2 => [Xo 0 6 (.asg (.cst (.fn (.func 133) [] []))) []]
 | 3 => [Xm 0 15 4 [], Xo 1 16 (.sbin .eql (Xt 15) (.cst (.str ⟨#[]⟩))) [15], Xm 2 17 16 [16], Xv 3 18 (.move (Xt 4)) 17 [], Xv 4 19 (.move (Xt 6)) 17 [6], ⟨5, (some 20), .call (.cst (.fn (.func 134) [] [])) [(Xt 18), (Xt 19)], (some (17, false)), [19, 18]⟩, Xv 6 21 (.icmp .geq (Xt 20) (Xi 0)) 17 [20], Xo 7 22 (.pick (Xt 17) Xp (Xt 21)) [21, 17], Xm 8 23 22 [22], Xv 9 24 (.move (Xt 4)) 23 [], Xv 10 25 (.index (Xt 24) (Xi 0)) 23 [24], Xv 11 26 (.icmp .eql (Xt 25) (.cst (.int .u8 48))) 23 [25], Xv 12 27 (.move (Xt 26)) 23 [26], Xu 13 28 (.move (Xt 0)) 27 [], Xu 14 29 (.len true (Xt 28)) 27 [28], Xu 15 30 (.icmp .gtr (Xt 29) (Xi 1)) 27 [29], Xv 16 31 (.pick (Xt 27) (Xt 30) Xq) 23 [30, 27], Xo 17 32 (.pick (Xt 23) Xp (Xt 31)) [31, 23]]
 | 4 => [Xo 0 33 (.build [(.bool false), Xw] []) [32, 5, 4, 0], Xs 1 2 2 33 [33], Xo 2 3 (.asg (Xi 11)) []]
 | 5 => [Xm 0 34 0 [0, 32, 3], Xo 1 35 (.len true (Xt 34)) [34], Xj 2 36 .gtr 35 400 [35]]
 | 6 => [Xo 0 37 (.build [(.bool false), Xw] []) [36, 4, 5], Xs 1 2 2 37 [37], Xo 2 3 (.asg (Xi 24)) []]
 | 7 => [Xo 0 7 (.asg (.cst Xw)) [36, 3]]
 | 8 => [Xm 0 38 4 [4], Xo 1 39 (.s2b (Xt 38)) [38], Xo 2 40 (.len false (Xt 39)) [], Xo 3 41 (.move (Xi 0)) []]
 | 9 => [Xh 0 42 .lss 41 40 []]
 | 10 => [Xo 0 43 (.iaddr 1 (Xt 39) (Xt 41)) [42], Xl 1 44 1 43 [43], Xa 2 9 44 [44]]
 | 11 => [Xm 0 45 7 [7], Xo 1 46 (.bslice 211 false 1 1 [(.int .u32 0)] [(0, 1, (.cst (.int .u32 10)))]) [], Xd 2 47 136 45 46 [46, 45], Xm 3 48 9 [9], Xo 4 49 (.ibin .sub (Xt 48) (.cst (.int .u8 48))) [48], Xo 5 50 (.conv .u32 (Xt 49)) [49], Xo 6 51 (.bslice 211 false 1 1 [(.int .u32 0)] [(0, 1, (Xt 50))]) [50], Xc 7 52 137 51 [51], Xd 8 53 135 47 52 [52, 47], Xa 9 7 53 [53]]
 | 12 => [Xb 0 54 .add 41 1 [41], Xm 1 41 54 [54]]
 | 14 => [Xm 0 55 5 [41, 40, 39, 5], Xm 1 56 7 [7], Xd 2 57 138 55 56 [56, 55], Xe 3 58 57 0 [], Xe 4 59 57 1 [57], Xs 5 2 2 58 [58], Xa 6 3 59 [59]]
 | _ => []
def c100l13 : AC := (.seq (.regT c100t 9) (.seq (.cond (.tmp 42) .skip (.exit 0)) (.seq (.block 1 (.seq (.regT c100t 10) (.regT c100t 11))) (.regT c100t 12))))
def c100c : AC := (.seq (.regT c100t 0) (.seq (.regT c100t 1) (.seq (.regT c100t 2) (.seq (.seq (.regT c100t 3) (.cond (.tmp 32) (.seq (.regT c100t 4) .ret) .skip)) (.seq (.seq (.regT c100t 5) (.cond (.tmp 36) (.seq (.regT c100t 6) .ret) .skip)) (.seq (.regT c100t 7) (.seq (.seq (.regT c100t 8) (.block 0 (.loop c100l13))) (.seq (.regT c100t 14) .ret))))))))
def c100a : Ann := fun id => match id with
 | 13 => Xan c100t 14
 | n => Xan c100t n
theorem c100ok : Ko 60 c100a Tryz.f100 = some (inst c100c) := by kernel_rfl
theorem c100call : Kc 100 = true := by kernel_rfl
theorem c100res : Kr Tryz.f100 = some [.cell 2 true 2, .tmp 3] := by kernel_rfl
end Go.SL
set_option maxRecDepth 100000
namespace Go.SL
open Go.Proofs
def c101t : Nat → List AI
 | 0 => [Xo 0 2 (.asg (.cst (.str ⟨#[]⟩))) [], Xo 1 3 (.asg Xq) [2]]
 | 1 => [Xo 0 4 (.alloc [.nilP, Xw] 189) [2, 3]]
 | 2 => [Xm 0 5 0 [], ⟨1, (some 6), .call (.cst (.fn (.func 102) [] [])) [(Xt 5), (Xi 0)], none, [5]⟩, Xo 2 7 (.icmp .neq (Xt 6) (.cst (.int .u8 39))) [6]]
 | 3 => [Xm 0 8 0 [7], Xn 1 9 8 [], Xf 2 10 1 9 [9], Xl 3 11 1 10 [10], Xb 4 12 .add 11 1 [11], Xn 5 13 8 [8], Xf 6 14 1 13 [13], Xs 7 1 14 12 [14, 12]]
 | 4 => [Xm 0 15 0 [], Xn 1 16 15 [], Xf 2 17 1 16 [], Xl 3 18 1 17 [], Xm 4 19 0 [], Xn 5 20 19 [], Xf 6 21 0 20 [], Xl 7 22 1 21 [], Xo 8 23 (.len true (Xt 22)) [], Xh 9 24 .lss 18 23 []]
 | 5 => [Xm 0 32 0 [], Xn 1 33 32 [], Xf 2 34 0 33 [], Xl 3 35 1 34 [], Xm 4 36 0 [], Xn 5 37 36 [], Xf 6 38 1 37 [], Xl 7 39 1 38 [], Xo 8 40 (.index (Xt 35) (Xt 39)) [], Xo 9 41 (.icmp .eql (Xt 40) (.cst (.int .u8 39))) []]
 | 6 => [Xm 0 42 0 [41], ⟨1, (some 43), .call (.cst (.fn (.func 102) [] [])) [(Xt 42), (Xi 1)], none, [42]⟩, Xo 2 44 (.icmp .neq (Xt 43) (.cst (.int .u8 39))) [43]]
 | 7 => [Xm 0 45 0 [44, 0], Xn 1 46 45 [], Xf 2 47 1 46 [46], Xl 3 48 1 47 [47], Xb 4 49 .add 48 1 [48], Xn 5 50 45 [45], Xf 6 51 1 50 [50], Xs 7 1 51 49 [51, 49]]
 | 8 => [Xc 0 52 109 4 [], Xc 1 53 139 4 [4], Xj 2 54 .leq 53 1024 [53], Xa 3 2 52 [52], Xa 4 3 54 [54]]
 | 9 => [Xm 0 55 0 [44, 3, 2], Xn 1 56 55 [], Xf 2 57 1 56 [56], Xl 3 58 1 57 [57], Xb 4 59 .add 58 1 [58], Xn 5 60 55 [55], Xf 6 61 1 60 [60], Xs 7 1 61 59 [61, 59]]
 | 10 => [Xm 0 62 0 [], Xn 1 63 62 [], Xf 2 64 0 63 [], Xl 3 65 1 64 [], Xm 4 66 0 [], Xn 5 67 66 [], Xf 6 68 1 67 [], Xl 7 69 1 68 [], Xo 8 70 (.index (Xt 65) (Xt 69)) [], Xd 9 71 140 4 70 []]
 | 11 => [Xm 0 25 0 [71], Xn 1 26 25 [], Xf 2 27 1 26 [26], Xl 3 28 1 27 [27], Xb 4 29 .add 28 1 [28], Xn 5 30 25 [25], Xf 6 31 1 30 [30], Xs 7 1 31 29 [31, 29]]
 | 13 => [Xo 0 2 (.asg (.cst (.str ⟨#[]⟩))) [0, 4], Xo 1 3 (.asg Xq) []]
 | _ => []
def c101l12 : AC := (.seq (.seq (.regD [c101t 4]) (.cond (.tmp 24) .skip (.exit 0))) (.seq (.block 1 (.seq (.seq (.regD [c101t 5]) (.cond (.tmp 41) (.seq (.seq (.regT c101t 6) (.cond (.tmp 44) (.seq (.regT c101t 7) (.seq (.regT c101t 8) .ret)) .skip)) (.regT c101t 9)) .skip)) (.regD [c101t 10]))) (.regT c101t 11)))
def c101c : AC := (.seq (.regT c101t 0) (.scope (.seq (.regT c101t 1) (.seq (.seq (.regT c101t 2) (.cond (.tmp 7) (.goto 0) .skip)) (.seq (.seq (.regT c101t 3) (.block 0 (.loop c101l12))) (.seq (.label 0) (.seq (.regT c101t 13) .ret)))))))
def c101a : Ann := fun id => match id with
 | 6 => Xan c101t 4
 | 7 => Xan c101t 6
 | 8 => Xan c101t 7
 | 9 => Xan c101t 8
 | 10 => Xan c101t 9
 | 11 => Xan c101t 4
 | 5 => Xan c101t 11
 | 12 => Xan c101t 13
 | n => Xan c101t n
theorem c101ok : Ko 72 c101a Tryz.f101 = some (inst c101c) := by kernel_rfl
theorem c101call : Kc 101 = true := by kernel_rfl
theorem c101res : Kr Tryz.f101 = some [.tmp 2, .tmp 3] := by kernel_rfl
def c102t : Nat → List AI
 | 0 => [Xo 0 4 (.asg (.cst (.int .u8 0))) []]
 | 1 => [Xm 0 5 0 [], Xn 1 6 5 [], Xf 2 7 1 6 [], Xl 3 8 1 7 [], Xm 4 9 1 [], Xo 5 10 (.ibin .add (Xt 8) (Xt 9)) [], Xm 6 11 0 [], Xn 7 12 11 [], Xf 8 13 0 12 [], Xl 9 14 1 13 [], Xo 10 15 (.len true (Xt 14)) [], Xh 11 16 .lss 10 15 []]
 | 2 => [Xm 0 17 0 [], Xn 1 18 17 [], Xf 2 19 0 18 [], Xl 3 20 1 19 [], Xm 4 21 0 [], Xn 5 22 21 [], Xf 6 23 1 22 [], Xl 7 24 1 23 [], Xm 8 25 1 [], Xo 9 26 (.ibin .add (Xt 24) (Xt 25)) [], Xo 10 27 (.index (Xt 20) (Xt 26)) [], Xa 11 4 27 []]
 | 3 => [Xo 0 4 (.asg (.cst (.int .u8 0))) [1, 0, 16]]
 | _ => []
def c102c : AC := (.seq (.regT c102t 0) (.seq (.seq (.regD [c102t 1]) (.cond (.tmp 16) (.seq (.regD [c102t 2]) .ret) .skip)) (.seq (.regT c102t 3) .ret)))
def c102a : Ann := Xan c102t
theorem c102ok : Ko 28 c102a Tryz.f102 = some (inst c102c) := by kernel_rfl
theorem c102call : Kc 102 = true := by kernel_rfl
theorem c102res : Kr Tryz.f102 = some [.tmp 4] := by kernel_rfl
def c103t : Nat → List AI
 | 0 => [Xo 0 2 (.asg (.cst (.str ⟨#[]⟩))) [], Xo 1 3 (.asg Xq) [2]]
 | 1 => [Xm 0 5 0 [3], Xn 1 6 5 [5], Xf 2 7 1 6 [6], Xl 3 8 1 7 [7], Xa 4 4 8 [8]]
 | 2 => [Xm 0 9 0 [], Xc 1 10 97 9 [9]]
 | 3 => [Xm 0 11 0 [21, 10], Xc 1 12 98 11 [11]]
 | 4 => [Xm 0 13 0 [12], Xn 1 14 13 [], Xf 2 15 1 14 [14], Xl 3 16 1 15 [15], Xb 4 17 .add 16 1 [16], Xn 5 18 13 [13], Xf 6 19 1 18 [18], Xs 7 1 19 17 [19, 17]]
 | 5 => [Xm 0 20 0 [], Xc 1 21 97 20 [20]]
 | 7 => [Xm 0 22 0 [10], Xc 1 23 104 22 [22], Xo 2 24 (.not (Xt 23)) [23]]
 | 8 => [Xm 0 25 0 [24, 4, 0], Xc 1 26 101 25 [25], Xe 2 27 26 0 [], Xe 3 28 26 1 [26], Xa 4 2 27 [27], Xa 5 3 28 [28]]
 | 9 => [Xm 0 29 0 [], Xn 1 30 29 [], Xf 2 31 0 30 [], Xl 3 32 1 31 [], Xm 4 33 4 [], Xm 5 34 0 [], Xn 6 35 34 [], Xf 7 36 1 35 [], Xl 8 37 1 36 [], Xo 9 38 (.sslice (Xt 32) (some (Xt 33)) (some (Xt 37))) [], Xm 10 39 0 [], Xn 11 40 39 [], Xf 12 41 1 40 [], Xl 13 42 1 41 [], Xm 14 43 4 [], Xo 15 44 (.ibin .sub (Xt 42) (Xt 43)) [], Xj 16 45 .leq 44 1024 [], Xa 17 2 38 [10, 11, 12, 13, 14, 15, 16], Xa 18 3 45 []]
 | _ => []
def c103l6 : AC := (.seq (.seq (.regT c103t 3) (.cond (.tmp 12) .skip (.exit 0))) (.block 1 (.seq (.regT c103t 4) (.regT c103t 5))))
def c103c : AC := (.seq (.regT c103t 0) (.seq (.regT c103t 1) (.seq (.seq (.regT c103t 2) (.cond (.tmp 10) (.block 0 (.loop c103l6)) (.seq (.regT c103t 7) (.cond (.tmp 24) (.seq (.regT c103t 8) .ret) .skip)))) (.seq (.regD [c103t 9]) .ret))))
def c103a : Ann := fun id => match id with
 | 6 => Xan c103t 7
 | 7 => Xan c103t 8
 | 8 => Xan c103t 9
 | n => Xan c103t n
theorem c103ok : Ko 46 c103a Tryz.f103 = some (inst c103c) := by kernel_rfl
theorem c103call : Kc 103 = true := by kernel_rfl
theorem c103res : Kr Tryz.f103 = some [.tmp 2, .tmp 3] := by kernel_rfl
def c104t : Nat → List AI
 | 0 => [Xo 0 2 (.asg Xq) []]
 | 1 => [Xm 0 4 0 [2], Xn 1 5 4 [4], Xf 2 6 1 5 [5], Xl 3 7 1 6 [6], Xa 4 3 7 [7]]
 | 2 => [Xm 0 8 0 [], Xn 1 9 8 [8], Xf 2 10 1 9 [9], Xl 3 11 1 10 [10], Xm 4 12 3 [], Xb 5 13 .add 12 2 [12], Xh 6 14 .lss 11 13 [13, 11], Xm 7 15 14 [14], Xu 8 16 (.move (Xt 0)) 15 [], ⟨9, (some 17), .call (.cst (.fn (.func 94) [] [])) [(Xt 16), (.cst (.fn (.func 141) [] []))], (some (15, true)), []⟩, Xo 10 18 (.pick (Xt 15) (Xt 17) Xq) [15]]
 | 3 => [Xm 0 19 0 [18], Xn 1 20 19 [], Xf 2 21 1 20 [20], Xl 3 22 1 21 [21], Xb 4 23 .add 22 1 [22], Xn 5 24 19 [19], Xf 6 25 1 24 [24], Xs 7 1 25 23 [25, 23]]
 | 5 => [Xm 0 26 0 [16, 17, 0], Xn 1 27 26 [26], Xf 2 28 1 27 [27], Xl 3 29 1 28 [28], Xm 4 30 3 [3], Xh 5 31 .gtr 29 30 [30, 29], Xa 6 2 31 [31]]
 | _ => []
def c104l4 : AC := (.seq (.seq (.regT c104t 2) (.cond (.tmp 18) .skip (.exit 0))) (.block 1 (.regT c104t 3)))
def c104c : AC := (.seq (.regT c104t 0) (.seq (.regT c104t 1) (.seq (.block 0 (.loop c104l4)) (.seq (.regT c104t 5) .ret))))
def c104a : Ann := fun id => match id with
 | 4 => Xan c104t 5
 | n => Xan c104t n
theorem c104ok : Ko 32 c104a Tryz.f104 = some (inst c104c) := by kernel_rfl
theorem c104call : Kc 104 = true := by kernel_rfl
theorem c104res : Kr Tryz.f104 = some [.tmp 2] := by kernel_rfl
def c105t : Nat → List AI
 | 0 => [Xo 0 1 (.box 70 (Xt 0)) [0], Xo 1 2 (.alloc Xz 50) []]
 | 1 => [Xl 0 5 1 1 [], Xc 1 6 58 5 [5], Xj 2 7 .eql 6 1 [6], Xm 3 8 7 [7], Xu 4 9 (.load false 1 (Xt 1)) 8 [], Xu 5 10 (.nilc (Xt 9)) 8 [9], Xu 6 11 (.faddr 0 (Xt 10)) 8 [10], Xu 7 12 (.load false 1 (Xt 11)) 8 [11], Xu 8 13 (.iaddr 3 (Xt 12) (Xi 1)) 8 [12], Xu 9 14 (.faddr 0 (Xt 13)) 8 [13], Xu 10 15 (.load false 1 (Xt 14)) 8 [14], Xu 11 16 (.icmp .eql (Xt 15) (Xi 7)) 8 [15], Xo 12 17 (.pick (Xt 8) (Xt 16) Xq) [16, 8]]
 | 2 => [Xl 0 18 1 1 [17], Xc 1 19 57 18 [18], Xo 2 3 (.alloc Xx 125) [], Xs 3 3 3 19 [19]]
 | 3 => [Xf 0 20 1 3 [], Xl 1 21 1 20 [20], Xf 2 22 2 3 [3], Xl 3 23 1 22 [22], Xo 4 24 (.build Xz [(0, 1, (Xi 6)), (1, 1, (Xt 21)), (2, 1, (Xt 23))]) [23, 21], Xo 5 4 (.alloc Xz 50) [], Xs 6 6 4 24 [24]]
 | 4 => [Xl 0 25 1 1 [], Xo 1 26 (.mkfn (.func 143) [] [(Xt 1), (Xt 4)]) [1], Xd 2 27 142 25 26 [26, 25]]
 | 5 => [Xg 0 28 6 4 [27, 4], Xs 1 6 2 28 [28]]
 | 6 => [Xl 0 29 1 1 [1, 17], Xc 1 30 144 29 [29], Xs 2 6 2 30 [30]]
 | _ => []
def c105c : AC := (.seq (.regT c105t 0) (.seq (.seq (.regT c105t 1) (.cond (.tmp 17) (.seq (.regT c105t 2) (.seq (.regT c105t 3) (.seq (.regT c105t 4) (.seq (.regT c105t 5) .ret)))) .skip)) (.seq (.regT c105t 6) .ret)))
def c105a : Ann := Xan c105t
theorem c105ok : Ko 31 c105a Tryz.f105 = some (inst c105c) := by kernel_rfl
theorem c105call : Kc 105 = true := by kernel_rfl
theorem c105res : Kr Tryz.f105 = some [.cell 2 true 6] := by kernel_rfl
def c106t : Nat → List AI
 | 0 => [Xo 0 4 (.asg (Xi 0)) []]
 | 1 => [Xm 0 6 0 [4], Xo 1 7 (.len false (Xt 6)) [6], Xo 2 8 (.move (Xi 0)) []]
 | 2 => [Xh 0 9 .lss 8 7 []]
 | 3 => [Xm 0 10 8 [9], Xa 1 5 10 [10]]
 | 4 => [Xm 0 11 1 [], Xm 1 12 0 [], Xm 2 13 5 [], Xo 3 14 (.iaddr 1 (Xt 12) (Xt 13)) [13, 12], Xl 4 15 1 14 [14], Xo 5 16 (.sbin .eql (Xt 11) (Xt 15)) [15, 11]]
 | 5 => [Xm 0 17 5 [16, 5, 8, 7, 0, 1], Xa 1 4 17 [17]]
 | 6 => [Xb 0 18 .add 8 1 [8, 5, 16, 4], Xm 1 8 18 [18]]
 | 8 => [Xo 0 4 (.asg (.cst (.int .i64 (-1)))) [8, 1, 0, 7]]
 | _ => []
def c106l7 : AC := (.seq (.regT c106t 2) (.seq (.cond (.tmp 9) .skip (.exit 0)) (.seq (.block 1 (.seq (.regT c106t 3) (.seq (.regT c106t 4) (.cond (.tmp 16) (.seq (.regT c106t 5) .ret) .skip)))) (.regT c106t 6))))
def c106c : AC := (.seq (.regT c106t 0) (.seq (.seq (.regT c106t 1) (.block 0 (.loop c106l7))) (.seq (.regT c106t 8) .ret)))
def c106a : Ann := fun id => match id with
 | 7 => Xan c106t 8
 | n => Xan c106t n
theorem c106ok : Ko 19 c106a Tryz.f106 = some (inst c106c) := by kernel_rfl
theorem c106call : Kc 106 = true := by kernel_rfl
theorem c106res : Kr Tryz.f106 = some [.tmp 4] := by kernel_rfl
def c107t : Nat → List AI
 | 0 => [Xo 0 6 (.alloc [(.int .i64 0), (.str ⟨#[]⟩), (.int .i64 0), (.int .i64 0), (.int .i64 0), (.bool false)] 146) [], Xo 1 7 (.asg Xq) []]
 | 1 => [Xm 0 14 1 [7], Xc 1 15 69 14 [14], Xm 2 13 15 [15], Xe 3 16 13 0 [], Xe 4 17 13 1 [13], Xo 5 8 (.alloc [(.int .i64 0), (.str ⟨#[]⟩), (.int .i64 0), (.int .i64 0), (.int .i64 0), (.bool false)] 146) [], Xs 6 6 8 16 [16], Xa 7 9 17 [17]]
 | 2 => [Xm 0 18 9 [9]]
 | 3 => [Xg 0 19 6 8 [18, 8, 0, 1, 2], Xs 1 6 6 19 [19], Xo 2 7 (.asg Xq) []]
 | 4 => [Xo 0 10 (.asg (Xi 0)) [18, 7]]
 | 5 => [Xm 0 20 2 [], Xo 1 21 (.eqnil 0 true (Xt 20)) [20]]
 | 6 => [Xm 0 28 2 [21], Xn 1 29 28 [28], Xf 2 30 0 29 [29], Xf 3 31 4 30 [30], Xl 4 32 1 31 [31], Xm 5 33 1 [], Xd 6 34 106 32 33 [33, 32], Xa 7 11 34 [34]]
 | 7 => [Xm 0 35 11 [], Xj 1 36 .geq 35 0 [35]]
 | 8 => [Xm 0 37 10 [36, 10, 1, 0], Xm 1 38 11 [], Xf 2 39 2 8 [], ⟨3, none, .o (.store 1 (Xt 39) (Xi 3)), none, [39]⟩, Xf 4 40 3 8 [], Xs 5 1 40 37 [40, 37], Xf 6 41 4 8 [], Xs 7 1 41 38 [41, 38]]
 | 9 => [Xg 0 42 6 8 [], Xm 1 43 11 [], Xm 2 44 2 [], Xn 3 45 44 [], Xf 4 46 0 45 [], Xf 5 47 3 46 [], Xl 6 48 1 47 [], Xh 7 49 .lss 43 48 [], Xs 8 6 6 42 [1, 2, 3, 4, 5, 6, 7], Xa 9 7 49 []]
 | 10 => [Xm 0 22 10 [], Xb 1 23 .add 22 1 [], Xm 2 24 2 [], Xn 3 25 24 [], Xf 4 26 6 25 [], Xl 5 27 1 26 [], Xa 6 10 23 [2, 3, 4, 5], Xa 7 2 27 []]
 | 12 => [Xf 0 50 2 8 [2, 10], ⟨1, none, .o (.store 1 (Xt 50) (.cst (.int .i64 (-1)))), none, [50]⟩]
 | 13 => [Xm 0 51 0 [0], Xn 1 52 51 [51], Xf 2 53 0 52 [52], Xl 3 54 1 53 [53], Xm 4 55 1 [], Xd 5 56 106 54 55 [55, 54], Xa 6 12 56 [56]]
 | 14 => [Xm 0 57 12 [], Xj 1 58 .geq 57 0 [57]]
 | 15 => [Xm 0 59 12 [58, 12, 1], Xf 1 60 2 8 [], ⟨2, none, .o (.store 1 (Xt 60) (Xi 4)), none, [60]⟩, Xf 3 61 4 8 [], Xs 4 1 61 59 [61, 59]]
 | 16 => [Xm 0 62 1 [58, 12], Xo 1 63 (.sbin .neq (Xt 62) (.cst (.str ⟨#[]⟩))) [62], Xm 2 64 63 [63], Xu 3 65 (.move (Xt 1)) 64 [], Xu 4 66 (.index (Xt 65) (Xi 0)) 64 [65], Xu 5 67 (.icmp .geq (Xt 66) (.cst (.int .u8 65))) 64 [66], Xo 6 68 (.pick (Xt 64) (Xt 67) Xq) [67, 64], Xm 7 69 68 [68], Xu 8 70 (.move (Xt 1)) 69 [1], Xu 9 71 (.index (Xt 70) (Xi 0)) 69 [70], Xu 10 72 (.icmp .leq (Xt 71) (.cst (.int .u8 90))) 69 [71], Xo 11 73 (.pick (Xt 69) (Xt 72) Xq) [72, 69]]
 | 17 => [Xf 0 74 2 8 [73], ⟨1, none, .o (.store 1 (Xt 74) (Xi 5)), none, [74]⟩]
 | 18 => [Xg 0 75 6 8 [73, 8], Xs 1 6 6 75 [75], Xo 2 7 (.asg Xq) []]
 | _ => []
def c107l11 : AC := (.seq (.seq (.regT c107t 5) (.cond (.tmp 21) .skip (.exit 0))) (.seq (.block 1 (.seq (.regT c107t 6) (.seq (.regT c107t 7) (.cond (.tmp 36) (.seq (.regT c107t 8) (.seq (.regD [c107t 9]) .ret)) .skip)))) (.regD [c107t 10])))
def c107c : AC := (.seq (.regT c107t 0) (.seq (.regT c107t 1) (.seq (.seq (.regT c107t 2) (.cond (.tmp 18) (.seq (.regT c107t 3) .ret) .skip)) (.seq (.seq (.regT c107t 4) (.block 0 (.loop c107l11))) (.seq (.regT c107t 12) (.seq (.seq (.regT c107t 13) (.seq (.regT c107t 14) (.cond (.tmp 58) (.regT c107t 15) (.seq (.regT c107t 16) (.cond (.tmp 73) (.regT c107t 17) .skip))))) (.seq (.regT c107t 18) .ret)))))))
def c107a : Ann := fun id => match id with
 | 7 => Xan c107t 6
 | 8 => Xan c107t 7
 | 9 => Xan c107t 8
 | 10 => Xan c107t 9
 | 6 => Xan c107t 10
 | 11 => Xan c107t 12
 | 12 => Xan c107t 13
 | 13 => Xan c107t 14
 | 14 => Xan c107t 15
 | 15 => Xan c107t 16
 | 16 => Xan c107t 17
 | 17 => Xan c107t 18
 | n => Xan c107t n
theorem c107ok : Ko 76 c107a Tryz.f107 = some (inst c107c) := by kernel_rfl
theorem c107call : Kc 107 = true := by kernel_rfl
theorem c107res : Kr Tryz.f107 = some [.cell 6 true 6, .tmp 7] := by kernel_rfl
def c108t : Nat → List AI
 | 0 => [Xo 0 3 (.box 50 (Xt 1)) [1]]
 | 1 => [Xf 0 9 0 3 [], Xl 1 10 1 9 [9]]
 | 2 => [Xj 0 18 .eql 10 2 [], Xa 1 17 18 [18]]
 | 3 => [Xm 0 19 0 [], Xn 1 20 19 [], Xf 2 21 0 20 [], Xf 3 22 1 3 [], Xl 4 23 1 22 [], Xc 5 24 146 23 [0, 1, 2], Xd 6 25 145 21 24 []]
 | 4 => [Xj 0 27 .eql 10 3 [17], Xa 1 26 27 [27]]
 | 5 => [Xf 0 28 1 3 [26, 10, 3], Xl 1 29 1 28 [28], Xa 2 4 29 [29]]
 | 6 => [Xm 0 30 4 [], Xc 1 31 147 30 [30], Xo 2 32 (.not (Xt 31)) [31]]
 | 7 => [Xm 0 33 4 [32, 4], Xc 1 34 146 33 [33], Xa 2 4 34 [34]]
 | 8 => [Xm 0 35 0 [32, 0], Xn 1 36 35 [35], Xf 2 37 0 36 [36], Xm 3 38 4 [4], Xo 4 39 (.sbin .add (.cst (.str ⟨#[35]⟩)) (Xt 38)) [38], Xd 5 40 145 37 39 [39, 37]]
 | 9 => [Xj 0 42 .eql 10 4 [26], Xa 1 41 42 [42]]
 | 10 => [Xm 0 43 0 [41, 10], Xn 1 44 43 [43], Xf 2 45 0 44 [44], ⟨3, (some 46), .call (.cst (.fn (.func 145) [] [])) [(Xt 45), (.cst (.str ⟨#[35, 40]⟩))], none, [45]⟩]
 | 11 => [Xm 0 47 0 [46], Xf 1 48 5 3 [3], Xl 2 49 1 48 [48], ⟨3, (some 50), .call (.cst (.fn (.func 148) [] [])) [(Xt 47), (Xt 49), (.cst (.str ⟨#[32]⟩))], none, [49, 47]⟩]
 | 12 => [Xm 0 51 0 [50, 0], Xn 1 52 51 [51], Xf 2 53 0 52 [52], ⟨3, (some 54), .call (.cst (.fn (.func 140) [] [])) [(Xt 53), (.cst (.int .u8 41))], none, [53]⟩]
 | 13 => [Xj 0 56 .eql 10 6 [41], Xa 1 55 56 [56]]
 | 14 => [Xm 0 57 0 [], Xn 1 58 57 [], Xf 2 59 0 58 [], Xf 3 60 1 3 [], Xl 4 61 1 60 [], Xo 5 62 (.sbin .add (Xt 61) (.cst (.str ⟨#[32, 58, 61, 32]⟩))) [], Xd 6 63 145 59 62 []]
 | 15 => [Xm 0 64 0 [63, 0], Xf 1 65 5 3 [3], Xl 2 66 1 65 [65], Xo 3 67 (.iaddr 6 (Xt 66) (Xi 0)) [66], Xg 4 68 6 67 [67], Xd 5 69 108 64 68 [68, 64]]
 | 16 => [Xj 0 71 .eql 10 7 [55], Xa 1 70 71 [71]]
 | 17 => [Xm 0 72 0 [], Xf 1 73 5 3 [], Xl 2 74 1 73 [], Xo 3 75 (.iaddr 6 (Xt 74) (Xi 0)) [], Xg 4 76 6 75 [], Xf 5 77 1 3 [], Xl 6 78 1 77 [], ⟨7, (some 79), .call (.cst (.fn (.func 149) [] [])) [(Xt 72), (Xt 76), (Xt 78)], none, []⟩]
 | 18 => [Xm 0 80 0 [], Xf 1 81 1 3 [], Xl 2 82 1 81 [], Xf 3 83 5 3 [], Xl 4 84 1 83 [], Xo 5 85 (.lslice 6 (Xt 84) (some (Xi 1)) none) [], ⟨6, (some 86), .call (.cst (.fn (.func 150) [] [])) [(Xt 80), (Xt 82), (Xt 85)], none, []⟩]
 | 19 => [Xj 0 88 .eql 10 8 [70], Xa 1 87 88 [88]]
 | 20 => [Xm 0 89 0 [], Xf 1 90 5 3 [], Xl 2 91 1 90 [], Xo 3 92 (.iaddr 6 (Xt 91) (Xi 0)) [], Xg 4 93 6 92 [], Xf 5 94 5 3 [], Xl 6 95 1 94 [], Xo 7 96 (.iaddr 6 (Xt 95) (Xi 1)) [], Xf 8 97 1 96 [], Xl 9 98 1 97 [], ⟨10, (some 99), .call (.cst (.fn (.func 149) [] [])) [(Xt 89), (Xt 93), (Xt 98)], none, []⟩]
 | 21 => [Xf 0 100 5 3 [99, 3], Xl 1 101 1 100 [100], Xo 2 102 (.lslice 6 (Xt 101) (some (Xi 1)) none) [101], Xo 3 103 (.len false (Xt 102)) [], Xo 4 104 (.move (Xi 0)) []]
 | 22 => [Xh 0 105 .lss 104 103 []]
 | 23 => [Xm 0 106 104 [105], Xo 1 107 (.iaddr 6 (Xt 102) (Xt 104)) [], Xg 2 108 6 107 [107], Xo 3 6 (.alloc Xz 50) [], Xa 4 5 106 [106], Xs 5 6 6 108 [108]]
 | 24 => [Xm 0 109 5 [5], Xj 1 110 .gtr 109 0 [109]]
 | 25 => [Xm 0 111 0 [110], Xn 1 112 111 [111], Xf 2 113 0 112 [112], ⟨3, (some 114), .call (.cst (.fn (.func 140) [] [])) [(Xt 113), (.cst (.int .u8 59))], none, [113]⟩]
 | 26 => [Xm 0 115 0 [110, 114], Xf 1 116 1 6 [], Xl 2 117 1 116 [116], Xf 3 118 5 6 [6], Xl 4 119 1 118 [118], ⟨5, (some 120), .call (.cst (.fn (.func 150) [] [])) [(Xt 115), (Xt 117), (Xt 119)], none, [119, 117, 115]⟩]
 | 27 => [Xb 0 121 .add 104 1 [120, 104], Xm 1 104 121 [121]]
 | 29 => [Xj 0 123 .eql 10 10 [87], Xa 1 122 123 [123]]
 | 30 => [Xm 0 124 0 [122, 10], Xn 1 125 124 [124], Xf 2 126 0 125 [125], ⟨3, (some 127), .call (.cst (.fn (.func 140) [] [])) [(Xt 126), (.cst (.int .u8 91))], none, [126]⟩]
 | 31 => [Xf 0 128 4 3 [127], Xl 1 129 1 128 [128], Xf 2 130 3 3 [], Xl 3 131 1 130 [130], Xo 4 132 (.lslice 1 (Xt 129) none (some (Xt 131))) [131, 129], Xo 5 133 (.len false (Xt 132)) [], Xo 6 134 (.move (Xi 0)) []]
 | 32 => [Xh 0 135 .lss 134 133 []]
 | 33 => [Xo 0 136 (.iaddr 1 (Xt 132) (Xt 134)) [135], Xl 1 137 1 136 [136], Xa 2 8 137 [137]]
 | 34 => [Xm 0 138 0 [], Xn 1 139 138 [138], Xf 2 140 0 139 [139], Xm 3 141 8 [8], Xo 4 142 (.sbin .add (.cst (.str ⟨#[58]⟩)) (Xt 141)) [141], Xo 5 143 (.sbin .add (Xt 142) (.cst (.str ⟨#[32]⟩))) [142], Xd 6 144 145 140 143 [143, 140]]
 | 35 => [Xb 0 145 .add 134 1 [144, 134], Xm 1 134 145 [145]]
 | 37 => [Xf 0 146 3 3 [134, 133, 132], Xl 1 147 1 146 [146], Xj 2 148 .gtr 147 0 [147]]
 | 38 => [Xm 0 149 0 [148], Xn 1 150 149 [149], Xf 2 151 0 150 [150], ⟨3, (some 152), .call (.cst (.fn (.func 145) [] [])) [(Xt 151), (.cst (.str ⟨#[124, 32]⟩))], none, [151]⟩]
 | 39 => [Xm 0 153 0 [148, 152], Xg 1 154 6 3 [3], Xd 2 155 151 153 154 [154, 153]]
 | 40 => [Xm 0 156 0 [155, 0], Xn 1 157 156 [156], Xf 2 158 0 157 [157], ⟨3, (some 159), .call (.cst (.fn (.func 140) [] [])) [(Xt 158), (.cst (.int .u8 93))], none, [158]⟩]
 | 41 => [Xj 0 161 .eql 10 11 [122], Xa 1 160 161 [161]]
 | 42 => [Xm 0 162 0 [160, 10], Xn 1 163 162 [162], Xf 2 164 0 163 [163], ⟨3, (some 165), .call (.cst (.fn (.func 140) [] [])) [(Xt 164), (.cst (.int .u8 94))], none, [164]⟩]
 | 43 => [Xm 0 166 0 [165, 0], Xf 1 167 5 3 [3], Xl 2 168 1 167 [167], Xo 3 169 (.iaddr 6 (Xt 168) (Xi 0)) [168], Xg 4 170 6 169 [169], Xd 5 171 108 166 170 [170, 166]]
 | 44 => [Xj 0 173 .eql 10 12 [160, 10], Xa 1 172 173 [173]]
 | 45 => [Xm 0 174 0 [172], Xg 1 175 6 3 [], Xd 2 176 152 174 175 [175, 174]]
 | 46 => [Xm 0 177 0 [176, 0], Xg 1 178 6 3 [3], Xd 2 179 151 177 178 [178, 177]]
 | 47 => [Xm 0 11 0 [], Xn 1 12 11 [], Xf 2 13 0 12 [], Xf 3 14 1 3 [], Xl 4 15 1 14 [], Xd 5 16 145 13 15 []]
 | _ => []
def c108l28 : AC := (.seq (.regT c108t 22) (.seq (.cond (.tmp 105) .skip (.exit 1)) (.seq (.block 2 (.seq (.regT c108t 23) (.seq (.seq (.regT c108t 24) (.cond (.tmp 110) (.regT c108t 25) .skip)) (.regT c108t 26)))) (.regT c108t 27))))
def c108l36 : AC := (.seq (.regT c108t 32) (.seq (.cond (.tmp 135) .skip (.exit 3)) (.seq (.block 4 (.seq (.regT c108t 33) (.regT c108t 34))) (.regT c108t 35))))
def c108c : AC := (.seq (.regT c108t 0) (.seq (.regT c108t 1) (.block 0 (.seq (.regT c108t 2) (.cond (.tmp 17) (.regD [c108t 3]) (.seq (.regT c108t 4) (.cond (.tmp 26) (.seq (.regT c108t 5) (.seq (.seq (.regT c108t 6) (.cond (.tmp 32) (.regT c108t 7) .skip)) (.regT c108t 8))) (.seq (.regT c108t 9) (.cond (.tmp 41) (.seq (.regT c108t 10) (.seq (.regT c108t 11) (.regT c108t 12))) (.seq (.regT c108t 13) (.cond (.tmp 55) (.seq (.regD [c108t 14]) (.regT c108t 15)) (.seq (.regT c108t 16) (.cond (.tmp 70) (.seq (.regD [c108t 17]) (.regD [c108t 18])) (.seq (.regT c108t 19) (.cond (.tmp 87) (.seq (.regD [c108t 20]) (.seq (.regT c108t 21) (.block 1 (.loop c108l28)))) (.seq (.regT c108t 29) (.cond (.tmp 122) (.seq (.regT c108t 30) (.seq (.seq (.regT c108t 31) (.block 3 (.loop c108l36))) (.seq (.seq (.regT c108t 37) (.cond (.tmp 148) (.regT c108t 38) .skip)) (.seq (.regT c108t 39) (.regT c108t 40))))) (.seq (.regT c108t 41) (.cond (.tmp 160) (.seq (.regT c108t 42) (.regT c108t 43)) (.seq (.regT c108t 44) (.cond (.tmp 172) (.seq (.regT c108t 45) (.regT c108t 46)) (.regD [c108t 47]))))))))))))))))))))))
def c108a : Ann := fun id => match id with
 | 3 => Xan c108t 2
 | 4 => Xan c108t 3
 | 5 => Xan c108t 4
 | 6 => Xan c108t 5
 | 7 => Xan c108t 6
 | 8 => Xan c108t 7
 | 9 => Xan c108t 8
 | 10 => Xan c108t 9
 | 11 => Xan c108t 10
 | 12 => Xan c108t 11
 | 13 => Xan c108t 12
 | 14 => Xan c108t 13
 | 15 => Xan c108t 14
 | 16 => Xan c108t 15
 | 17 => Xan c108t 16
 | 18 => Xan c108t 17
 | 19 => Xan c108t 14
 | 20 => Xan c108t 19
 | 21 => Xan c108t 20
 | 22 => Xan c108t 21
 | 23 => Xan c108t 22
 | 24 => Xan c108t 23
 | 25 => Xan c108t 24
 | 26 => Xan c108t 25
 | 27 => Xan c108t 26
 | 28 => Xan c108t 27
 | 36 => Xan c108t 37
 | 37 => Xan c108t 38
 | 38 => Xan c108t 39
 | 39 => Xan c108t 40
 | 40 => Xan c108t 41
 | 41 => Xan c108t 42
 | 42 => Xan c108t 43
 | 43 => Xan c108t 44
 | 44 => Xan c108t 45
 | 45 => Xan c108t 46
 | 2 => Xan c108t 47
 | n => Xan c108t n
theorem c108ok : Ko 180 c108a Tryz.f108 = some (inst c108c) := by kernel_rfl
theorem c108call : Kc 108 = true := by kernel_rfl
theorem c108res : Kr Tryz.f108 = some [] := by kernel_rfl
def c109t : Nat → List AI
 | 0 => [Xo 0 2 (.asg (.cst (.str ⟨#[]⟩))) []]
 | 1 => [Xm 0 3 0 [], Xn 1 4 3 [], Xf 2 5 1 4 [], Xl 3 6 1 5 [], Xo 4 7 (.usd (Xt 6)) [], Xm 5 8 0 [], Xn 6 9 8 [], Xf 7 10 1 9 [], Xl 8 11 1 10 [], Xo 9 12 (.len false (Xt 11)) [], Xo 10 13 (.ustr 5 (Xt 7) (Xt 12)) [], Xa 11 2 13 []]
 | _ => []
def c109c : AC := (.seq (.regT c109t 0) (.seq (.regD [c109t 1]) .ret))
def c109a : Ann := Xan c109t
theorem c109ok : Ko 14 c109a Tryz.f109 = some (inst c109c) := by kernel_rfl
theorem c109call : Kc 109 = true := by kernel_rfl
theorem c109res : Kr Tryz.f109 = some [.tmp 2] := by kernel_rfl
end Go.SL
set_option maxRecDepth 100000
namespace Go.SL
open Go.Proofs
def c131t : Nat → List AI
 | 0 => [Xo 0 2 (.asg Xq) []]
 | 1 => [Xm 0 3 0 [2], Xc 1 4 96 3 [3], Xm 2 5 4 [4], Xv 3 6 (.move (Xt 0)) 5 [], ⟨4, (some 7), .call (.cst (.fn (.func 99) [] [])) [(Xt 6)], (some (5, false)), [6]⟩, Xo 5 8 (.pick (Xt 5) Xp (Xt 7)) [7, 5], Xm 6 9 8 [8], Xv 7 10 (.move (Xt 0)) 9 [0], Xv 8 11 (.icmp .eql (Xt 10) (.cst (.int .u8 95))) 9 [10], Xo 9 12 (.pick (Xt 9) Xp (Xt 11)) [11, 9], Xa 10 2 12 [12]]
 | _ => []
def c131c : AC := (.seq (.regT c131t 0) (.seq (.regT c131t 1) .ret))
def c131a : Ann := Xan c131t
theorem c131ok : Ko 13 c131a Tryz.f131 = some (inst c131c) := by kernel_rfl
theorem c131call : Kc 131 = true := by kernel_rfl
theorem c131res : Kr Tryz.f131 = some [.tmp 2] := by kernel_rfl
def c132t : Nat → List AI
 | 0 => [Xo 0 4 (.asg (.cst (.str ⟨#[]⟩))) [], Xo 1 5 (.asg Xq) [4]]
 | 1 => [Xm 0 6 0 [5, 0], Xm 1 7 1 [1], Xd 2 8 162 6 7 [7, 6], Xe 3 9 8 0 [], Xe 4 10 8 1 [8], Xa 5 4 9 [9], Xa 6 5 10 [10]]
 | _ => []
def c132c : AC := (.seq (.regT c132t 0) (.seq (.regT c132t 1) .ret))
def c132a : Ann := Xan c132t
theorem c132ok : Ko 11 c132a Tryz.f132 = some (inst c132c) := by kernel_rfl
theorem c132call : Kc 132 = true := by kernel_rfl
theorem c132res : Kr Tryz.f132 = some [.tmp 4, .tmp 5] := by kernel_rfl
def c133t : Nat → List AI
 | 0 => [Xo 0 2 (.asg Xq) []]
 | 1 => [Xm 0 3 0 [2], Xo 1 4 (.icmp .lss (Xt 3) (.cst (.int .i32 48))) [3], Xm 2 5 4 [4], Xv 3 6 (.move (Xt 0)) 5 [0], Xv 4 7 (.icmp .gtr (Xt 6) (.cst (.int .i32 57))) 5 [6], Xo 5 8 (.pick (Xt 5) Xp (Xt 7)) [7, 5], Xa 6 2 8 [8]]
 | _ => []
def c133c : AC := (.seq (.regT c133t 0) (.seq (.regT c133t 1) .ret))
def c133a : Ann := Xan c133t
theorem c133ok : Ko 9 c133a Tryz.f133 = some (inst c133c) := by kernel_rfl
theorem c133call : Kc 133 = true := by kernel_rfl
theorem c133res : Kr Tryz.f133 = some [.tmp 2] := by kernel_rfl
def c134t : Nat → List AI
 | 0 => [Xo 0 4 (.asg (Xi 0)) []]
 | 1 => [Xm 0 5 0 [4, 0], Xm 1 6 1 [1], ⟨2, (some 7), .call (.cst (.fn (.func 163) [] [])) [(Xt 5), (Xt 6), Xp], none, [6, 5]⟩, Xa 3 4 7 [7]]
 | _ => []
def c134c : AC := (.seq (.regT c134t 0) (.seq (.regT c134t 1) .ret))
def c134a : Ann := Xan c134t
theorem c134ok : Ko 8 c134a Tryz.f134 = some (inst c134c) := by kernel_rfl
theorem c134call : Kc 134 = true := by kernel_rfl
theorem c134res : Kr Tryz.f134 = some [.tmp 4] := by kernel_rfl
def c135t : Nat → List AI
 | 0 => [Xo 0 4 (.asg (.cst Xw)) []]
 | 1 => [Xm 0 8 0 [4], Xo 1 9 (.len false (Xt 8)) [8], Xm 2 10 1 [], Xo 3 11 (.len false (Xt 10)) [10], Xh 4 12 .lss 9 11 [11, 9]]
 | 2 => [Xm 0 13 1 [12, 1], Xm 1 14 0 [0], Xa 2 0 13 [13], Xa 3 1 14 [14]]
 | 3 => [Xm 0 15 0 [12], Xo 1 16 (.len false (Xt 15)) [15], Xb 2 17 .add 16 1 [16], Xo 3 18 (.mks 211 4 (.int .u32 0) (Xt 17)) [17], Xa 4 5 18 [18]]
 | 4 => [Xo 0 6 (.asg (.cst (.int .u64 0))) []]
 | 5 => [Xm 0 19 0 [], Xo 1 20 (.len false (Xt 19)) [19], Xo 2 21 (.move (Xi 0)) []]
 | 6 => [Xh 0 22 .lss 21 20 []]
 | 7 => [Xm 0 23 21 [22], Xa 1 7 23 [23]]
 | 8 => [Xm 0 24 6 [6], Xm 1 25 0 [], Xm 2 26 7 [], Xo 3 27 (.iaddr 1 (Xt 25) (Xt 26)) [26, 25], Xl 4 28 1 27 [27], Xo 5 29 (.conv .u64 (Xt 28)) [28], Xo 6 30 (.ibin .add (Xt 24) (Xt 29)) [29, 24], Xa 7 6 30 [30]]
 | 9 => [Xm 0 31 7 [], Xm 1 32 1 [], Xo 2 33 (.len false (Xt 32)) [32], Xh 3 34 .lss 31 33 [33, 31]]
 | 10 => [Xm 0 35 6 [34, 6], Xm 1 36 1 [], Xm 2 37 7 [], Xo 3 38 (.iaddr 1 (Xt 36) (Xt 37)) [37, 36], Xl 4 39 1 38 [38], Xo 5 40 (.conv .u64 (Xt 39)) [39], Xo 6 41 (.ibin .add (Xt 35) (Xt 40)) [40, 35], Xa 7 6 41 [41]]
 | 11 => [Xm 0 42 5 [34], Xm 1 43 7 [7], Xm 2 44 6 [], Xo 3 45 (.conv .u32 (Xt 44)) [44], Xo 4 46 (.iaddr 1 (Xt 42) (Xt 43)) [43, 42], Xs 5 1 46 45 [46, 45]]
 | 12 => [Xm 0 47 6 [6], Xo 1 48 (.shift .shr (Xt 47) (.cst (.int .u64 32))) [47], Xa 2 6 48 [48]]
 | 13 => [Xb 0 49 .add 21 1 [21], Xm 1 21 49 [49]]
 | 15 => [Xm 0 50 5 [21, 20, 1], Xm 1 51 0 [0], Xo 2 52 (.len false (Xt 51)) [51], Xm 3 53 6 [6], Xo 4 54 (.conv .u32 (Xt 53)) [53], Xo 5 55 (.iaddr 1 (Xt 50) (Xt 52)) [52, 50], Xs 6 1 55 54 [55, 54]]
 | 16 => [Xm 0 56 5 [5], Xc 1 57 137 56 [56], Xa 2 4 57 [57]]
 | _ => []
def c135l14 : AC := (.seq (.regT c135t 6) (.seq (.cond (.tmp 22) .skip (.exit 0)) (.seq (.block 1 (.seq (.regT c135t 7) (.seq (.regT c135t 8) (.seq (.seq (.regT c135t 9) (.cond (.tmp 34) (.regT c135t 10) .skip)) (.seq (.regT c135t 11) (.regT c135t 12)))))) (.regT c135t 13))))
def c135c : AC := (.seq (.regT c135t 0) (.seq (.seq (.regT c135t 1) (.cond (.tmp 12) (.regT c135t 2) .skip)) (.seq (.regT c135t 3) (.seq (.regT c135t 4) (.seq (.seq (.regT c135t 5) (.block 0 (.loop c135l14))) (.seq (.regT c135t 15) (.seq (.regT c135t 16) .ret)))))))
def c135a : Ann := fun id => match id with
 | 14 => Xan c135t 15
 | 15 => Xan c135t 16
 | n => Xan c135t n
theorem c135ok : Ko 58 c135a Tryz.f135 = some (inst c135c) := by kernel_rfl
theorem c135call : Kc 135 = true := by kernel_rfl
theorem c135res : Kr Tryz.f135 = some [.tmp 4] := by kernel_rfl
def c136t : Nat → List AI
 | 0 => [Xo 0 4 (.asg (.cst Xw)) []]
 | 1 => [Xm 0 11 0 [4], Xo 1 12 (.len false (Xt 11)) [11], Xm 2 13 1 [], Xo 3 14 (.len false (Xt 13)) [13], Xo 4 15 (.ibin .add (Xt 12) (Xt 14)) [14, 12], Xo 5 16 (.mks 211 4 (.int .u32 0) (Xt 15)) [15], Xa 6 5 16 [16]]
 | 2 => [Xm 0 17 0 [0], Xo 1 18 (.len false (Xt 17)) [], Xo 2 19 (.move (Xi 0)) []]
 | 3 => [Xh 0 20 .lss 19 18 []]
 | 4 => [Xm 0 21 19 [20], Xo 1 22 (.iaddr 1 (Xt 17) (Xt 19)) [], Xl 2 23 1 22 [22], Xa 3 6 21 [21], Xa 4 7 23 [23]]
 | 5 => [Xo 0 8 (.asg (.cst (.int .u64 0))) []]
 | 6 => [Xm 0 24 1 [], Xo 1 25 (.len false (Xt 24)) [], Xo 2 26 (.move (Xi 0)) []]
 | 7 => [Xh 0 27 .lss 26 25 []]
 | 8 => [Xm 0 28 26 [27], Xo 1 29 (.iaddr 1 (Xt 24) (Xt 26)) [], Xl 2 30 1 29 [29], Xa 3 9 28 [28], Xa 4 10 30 [30]]
 | 9 => [Xm 0 31 8 [8], Xm 1 32 7 [], Xo 2 33 (.conv .u64 (Xt 32)) [32], Xm 3 34 10 [10], Xo 4 35 (.conv .u64 (Xt 34)) [34], Xo 5 36 (.ibin .mul (Xt 33) (Xt 35)) [35, 33], Xm 6 37 5 [], Xm 7 38 6 [], Xm 8 39 9 [], Xo 9 40 (.ibin .add (Xt 38) (Xt 39)) [39, 38], Xo 10 41 (.iaddr 1 (Xt 37) (Xt 40)) [40, 37], Xl 11 42 1 41 [41], Xo 12 43 (.conv .u64 (Xt 42)) [42], Xo 13 44 (.ibin .add (Xt 36) (Xt 43)) [43, 36], Xo 14 45 (.ibin .add (Xt 31) (Xt 44)) [44, 31], Xa 15 8 45 [45]]
 | 10 => [Xm 0 46 5 [], Xm 1 47 6 [], Xm 2 48 9 [9], Xo 3 49 (.ibin .add (Xt 47) (Xt 48)) [48, 47], Xm 4 50 8 [], Xo 5 51 (.conv .u32 (Xt 50)) [50], Xo 6 52 (.iaddr 1 (Xt 46) (Xt 49)) [49, 46], Xs 7 1 52 51 [52, 51]]
 | 11 => [Xm 0 53 8 [8], Xo 1 54 (.shift .shr (Xt 53) (.cst (.int .u64 32))) [53], Xa 2 8 54 [54]]
 | 12 => [Xb 0 55 .add 26 1 [26], Xm 1 26 55 [55]]
 | 14 => [Xm 0 56 5 [26, 25, 24, 7], Xm 1 57 6 [6], Xm 2 58 1 [], Xo 3 59 (.len false (Xt 58)) [58], Xo 4 60 (.ibin .add (Xt 57) (Xt 59)) [59, 57], Xm 5 61 8 [8], Xo 6 62 (.conv .u32 (Xt 61)) [61], Xo 7 63 (.iaddr 1 (Xt 56) (Xt 60)) [60, 56], Xs 8 1 63 62 [63, 62]]
 | 15 => [Xb 0 64 .add 19 1 [19], Xm 1 19 64 [64]]
 | 17 => [Xm 0 65 5 [19, 18, 17, 5, 1], Xc 1 66 137 65 [65], Xa 2 4 66 [66]]
 | _ => []
def c136l13 : AC := (.seq (.regT c136t 7) (.seq (.cond (.tmp 27) .skip (.exit 2)) (.seq (.block 3 (.seq (.regT c136t 8) (.seq (.regT c136t 9) (.seq (.regT c136t 10) (.regT c136t 11))))) (.regT c136t 12))))
def c136l16 : AC := (.seq (.regT c136t 3) (.seq (.cond (.tmp 20) .skip (.exit 0)) (.seq (.block 1 (.seq (.regT c136t 4) (.seq (.regT c136t 5) (.seq (.seq (.regT c136t 6) (.block 2 (.loop c136l13))) (.regT c136t 14))))) (.regT c136t 15))))
def c136c : AC := (.seq (.regT c136t 0) (.seq (.regT c136t 1) (.seq (.seq (.regT c136t 2) (.block 0 (.loop c136l16))) (.seq (.regT c136t 17) .ret))))
def c136a : Ann := fun id => match id with
 | 13 => Xan c136t 14
 | 14 => Xan c136t 15
 | 15 => Xan c136t 17
 | n => Xan c136t n
theorem c136ok : Ko 67 c136a Tryz.f136 = some (inst c136c) := by kernel_rfl
theorem c136call : Kc 136 = true := by kernel_rfl
theorem c136res : Kr Tryz.f136 = some [.tmp 4] := by kernel_rfl
def c137t : Nat → List AI
 | 0 => [Xo 0 2 (.asg (.cst Xw)) []]
 | 1 => [Xm 0 3 0 [2], Xo 1 4 (.len false (Xt 3)) [3], Xj 2 5 .gtr 4 0 [4], Xm 3 6 5 [5], Xu 4 7 (.move (Xt 0)) 6 [], Xu 5 8 (.move (Xt 0)) 6 [], Xu 6 9 (.len false (Xt 8)) 6 [], Xu 7 10 (.ibin .sub (Xt 9) (Xi 1)) 6 [], Xu 8 11 (.iaddr 1 (Xt 7) (Xt 10)) 6 [], Xu 9 12 (.load false 1 (Xt 11)) 6 [], Xu 10 13 (.icmp .eql (Xt 12) (.cst (.int .u32 0))) 6 [], Xo 11 14 (.pick (Xt 6) (Xt 13) Xq) [6]]
 | 2 => [Xm 0 15 0 [14], Xm 1 16 0 [0], Xo 2 17 (.len false (Xt 16)) [16], Xb 3 18 .sub 17 1 [17], Xo 4 19 (.lslice 1 (Xt 15) none (some (Xt 18))) [18, 15], Xa 5 0 19 [19]]
 | 4 => [Xm 0 20 0 [0, 7, 8, 9, 10, 11, 12, 13], Xa 1 2 20 [20]]
 | _ => []
def c137l3 : AC := (.seq (.seq (.regT c137t 1) (.cond (.tmp 14) .skip (.exit 0))) (.block 1 (.regT c137t 2)))
def c137c : AC := (.seq (.regT c137t 0) (.seq (.block 0 (.loop c137l3)) (.seq (.regT c137t 4) .ret)))
def c137a : Ann := fun id => match id with
 | 3 => Xan c137t 4
 | n => Xan c137t n
theorem c137ok : Ko 21 c137a Tryz.f137 = some (inst c137c) := by kernel_rfl
theorem c137call : Kc 137 = true := by kernel_rfl
theorem c137res : Kr Tryz.f137 = some [.tmp 2] := by kernel_rfl
def c138t : Nat → List AI
 | 0 => [Xo 0 4 (.alloc [(.bool false), Xw] 178) [], Xo 1 5 (.asg (Xi 0)) []]
 | 1 => [Xm 0 7 0 [5, 0], Xm 1 8 1 [1], Xd 2 9 164 7 8 [8, 7], Xo 3 6 (.alloc [(.bool false), Xw] 178) [], Xs 4 2 6 9 [9]]
 | 2 => [Xf 0 10 1 6 [], Xl 1 11 1 10 [10], Xo 2 12 (.len false (Xt 11)) [11], Xj 3 13 .gtr 12 128 [12]]
 | 3 => [Xo 0 14 (.build [(.bool false), Xw] []) [13, 6], Xs 1 2 4 14 [14], Xo 2 5 (.asg (Xi 24)) []]
 | 4 => [Xg 0 15 2 6 [6, 13, 5], Xs 1 2 4 15 [15], Xo 2 5 (.asg (Xi 0)) []]
 | _ => []
def c138c : AC := (.seq (.regT c138t 0) (.seq (.regT c138t 1) (.seq (.seq (.regT c138t 2) (.cond (.tmp 13) (.seq (.regT c138t 3) .ret) .skip)) (.seq (.regT c138t 4) .ret))))
def c138a : Ann := Xan c138t
theorem c138ok : Ko 16 c138a Tryz.f138 = some (inst c138c) := by kernel_rfl
theorem c138call : Kc 138 = true := by kernel_rfl
theorem c138res : Kr Tryz.f138 = some [.cell 4 true 2, .tmp 5] := by kernel_rfl
def c139t : Nat → List AI
 | 0 => [Xo 0 2 (.asg (Xi 0)) []]
 | 1 => [Xm 0 3 0 [2, 0], Xn 1 4 3 [3], Xf 2 5 1 4 [4], Xl 3 6 1 5 [5], Xo 4 7 (.len false (Xt 6)) [6], Xa 5 2 7 [7]]
 | _ => []
def c139c : AC := (.seq (.regT c139t 0) (.seq (.regT c139t 1) .ret))
def c139a : Ann := Xan c139t
theorem c139ok : Ko 8 c139a Tryz.f139 = some (inst c139c) := by kernel_rfl
theorem c139call : Kc 139 = true := by kernel_rfl
theorem c139res : Kr Tryz.f139 = some [.tmp 2] := by kernel_rfl
def c140t : Nat → List AI
 | 0 => [Xo 0 4 (.asg (.cst .nilI)) []]
 | 1 => [Xm 0 5 0 [4], Xc 1 6 165 5 [5]]
 | 2 => [Xm 0 7 0 [6], Xm 1 8 0 [0], Xn 2 9 8 [8], Xf 3 10 1 9 [9], Xl 4 11 1 10 [10], Xm 5 12 1 [1], Xo 6 13 (.bslice 5 false 1 1 [(.int .u8 0)] [(0, 1, (Xt 12))]) [12], Xo 7 14 (.append 5 1 1 [(.int .u8 0)] (Xt 11) (Xt 13)) [13, 11], Xn 8 15 7 [7], Xf 9 16 1 15 [15], Xs 10 1 16 14 [16, 14]]
 | 3 => [Xo 0 4 (.asg (.cst .nilI)) []]
 | _ => []
def c140c : AC := (.seq (.regT c140t 0) (.seq (.regT c140t 1) (.seq (.regT c140t 2) (.seq (.regT c140t 3) .ret))))
def c140a : Ann := Xan c140t
theorem c140ok : Ko 17 c140a Tryz.f140 = some (inst c140c) := by kernel_rfl
theorem c140call : Kc 140 = true := by kernel_rfl
theorem c140res : Kr Tryz.f140 = some [.tmp 4] := by kernel_rfl
def c141t : Nat → List AI
 | 0 => [Xo 0 2 (.asg Xq) []]
 | 1 => [Xm 0 3 0 [2, 0], ⟨1, (some 4), .call (.cst (.fn (.func 64) [] [])) [(Xt 3), (.cst (.str ⟨#[43, 45, 42, 47, 92, 60, 62, 61, 126, 44, 64, 37, 38, 63]⟩))], none, [3]⟩, Xj 2 5 .geq 4 0 [4], Xa 3 2 5 [5]]
 | _ => []
def c141c : AC := (.seq (.regT c141t 0) (.seq (.regT c141t 1) .ret))
def c141a : Ann := Xan c141t
theorem c141ok : Ko 6 c141a Tryz.f141 = some (inst c141c) := by kernel_rfl
theorem c141call : Kc 141 = true := by kernel_rfl
theorem c141res : Kr Tryz.f141 = some [.tmp 2] := by kernel_rfl
def c142t : Nat → List AI
 | 0 => [Xm 0 4 0 [], Xn 1 5 4 [4], Xf 2 6 1 5 [5], Xl 3 7 1 6 [6], Xj 4 8 .eql 7 40 [7]]
 | 1 => [Xm 0 9 0 [8], ⟨1, (some 10), .call (.cst (.fn (.func 68) [] [])) [(Xt 9), (Xi 3)], none, [9]⟩]
 | 2 => [Xm 0 11 0 [8, 10], Xn 1 12 11 [], Xf 2 13 1 12 [12], Xl 3 14 1 13 [13], Xb 4 15 .add 14 1 [14], Xn 5 16 11 [11], Xf 6 17 1 16 [16], Xs 7 1 17 15 [17, 15]]
 | 3 => [Xm 0 18 0 [], Xc 1 19 57 18 [18]]
 | 4 => [Xm 0 20 1 [19, 1], ⟨1, (some 21), .call (Xt 20) [], none, [20]⟩]
 | 5 => [Xm 0 22 0 [21, 0], Xn 1 23 22 [], Xf 2 24 1 23 [23], Xl 3 25 1 24 [24], Xb 4 26 .sub 25 1 [25], Xn 5 27 22 [22], Xf 6 28 1 27 [27], Xs 7 1 28 26 [28, 26]]
 | _ => []
def c142c : AC := (.seq (.seq (.regT c142t 0) (.cond (.tmp 8) (.regT c142t 1) .skip)) (.seq (.regT c142t 2) (.seq (.regT c142t 3) (.seq (.regT c142t 4) (.regT c142t 5)))))
def c142a : Ann := Xan c142t
theorem c142ok : Ko 29 c142a Tryz.f142 = some (inst c142c) := by kernel_rfl
theorem c142call : Kc 142 = true := by kernel_rfl
theorem c142res : Kr Tryz.f142 = some [] := by kernel_rfl
def c143t : Nat → List AI
 | 0 => [Xl 0 2 1 0 [0], Xc 1 3 105 2 [2], Xo 2 4 (.bslice 50 true 6 1 Xz [(0, 6, (Xt 3))]) [3], Xf 3 5 5 1 [1], Xs 4 1 5 4 [5, 4]]
 | _ => []
def c143c : AC := (.regT c143t 0)
def c143a : Ann := Xan c143t
theorem c143ok : Ko 6 c143a Tryz.f143 = some (inst c143c) := by kernel_rfl
theorem c143call : Kc 143 = true := by kernel_rfl
theorem c143res : Kr Tryz.f143 = some [] := by kernel_rfl
def c144t : Nat → List AI
 | 0 => [Xo 0 2 (.alloc Xz 50) []]
 | 1 => [Xm 0 8 0 [], Xc 1 9 166 8 [8], Xm 2 7 9 [9], Xe 3 10 7 0 [], Xe 4 11 7 1 [7], Xo 5 3 (.alloc Xz 50) [], Xs 6 6 3 10 [10], Xa 7 4 11 [11]]
 | 2 => [Xm 0 12 0 [], Xc 1 13 58 12 [12], Xj 2 14 .neq 13 15 [13]]
 | 3 => [Xg 0 15 6 3 [14, 4, 3, 0], Xs 1 6 2 15 [15]]
 | 4 => [Xf 0 16 0 3 [14], Xl 1 17 1 16 [16], Xj 2 18 .neq 17 7 [17], Xm 3 19 18 [18], Xv 4 20 (.move (Xt 4)) 19 [4], Xv 5 21 (.not (Xt 20)) 19 [20], Xo 6 22 (.pick (Xt 19) Xp (Xt 21)) [21, 19]]
 | 5 => [Xm 0 23 0 [22], ⟨1, (some 24), .call (.cst (.fn (.func 68) [] [])) [(Xt 23), (Xi 20)], none, [23]⟩]
 | 6 => [Xf 0 25 1 3 [], Xl 1 26 1 25 [], Xf 2 27 2 3 [], Xl 3 28 1 27 [], Xf 4 29 5 3 [], Xl 5 30 1 29 [], Xo 6 31 (.lslice 6 (Xt 30) (some (Xi 1)) none) [], Xo 7 32 (.build Xz [(0, 1, (Xi 9)), (1, 1, (Xt 26)), (2, 1, (Xt 28)), (5, 1, (Xt 31))]) [], Xo 8 5 (.alloc Xz 50) [0, 1, 2, 3, 4, 5, 6, 7], Xs 9 6 5 32 []]
 | 7 => [Xf 0 33 2 3 [], Xl 1 34 1 33 [], Xf 2 35 5 3 [], Xl 3 36 1 35 [], Xo 4 37 (.iaddr 6 (Xt 36) (Xi 0)) [], Xg 5 38 6 37 [], Xg 6 39 6 5 [], Xo 7 40 (.bslice 50 true 6 2 Xz [(0, 6, (Xt 38)), (6, 6, (Xt 39))]) [0, 1], Xo 8 41 (.build Xz [(0, 1, (Xi 8)), (2, 1, (Xt 34)), (5, 1, (Xt 40))]) [], Xo 9 6 (.alloc Xz 50) [0, 1, 2, 3, 4, 5, 6, 8], Xs 10 6 6 41 []]
 | 8 => [Xf 0 33 2 3 [], Xl 1 34 1 33 [], Xf 2 35 5 3 [], Xl 3 36 1 35 [], Xo 4 37 (.iaddr 6 (Xt 36) (Xi 0)) [], Xg 5 38 6 37 [], Xg 6 39 6 5 [], Xo 9 6 (.alloc Xz 50) [0, 1, 2, 3, 4, 5, 6], Xo 7 40 (.bslice 50 true 6 2 Xz [(0, 6, (Xt 38)), (6, 6, (Xt 39))]) [0, 1], Xo 8 41 (.build Xz [(0, 1, (Xi 8)), (2, 1, (Xt 34)), (5, 1, (Xt 40))]) [], Xs 10 6 6 41 []]
 | 9 => [Xm 0 42 0 [], Xc 1 43 58 42 [42], Xj 2 44 .eql 43 15 [43]]
 | 10 => [Xm 0 45 0 [44], Xc 1 46 57 45 [45]]
 | 11 => [Xf 0 47 5 6 [], Xl 1 48 1 47 [], Xm 2 49 0 [], Xc 3 50 167 49 [0, 1], Xo 4 51 (.bslice 50 true 6 1 Xz [(0, 6, (Xt 50))]) [0, 1], Xo 5 52 (.append 50 6 88 Xz (Xt 48) (Xt 51)) [], Xf 6 53 5 6 [], Xs 7 1 53 52 []]
 | 13 => [Xg 0 54 6 6 [6, 0], Xs 1 6 2 54 [54]]
 | _ => []
def c144l12 : AC := (.seq (.seq (.regT c144t 9) (.cond (.tmp 44) .skip (.exit 0))) (.block 1 (.seq (.regT c144t 10) (.regD [c144t 11]))))
def c144c : AC := (.seq (.regT c144t 0) (.seq (.regT c144t 1) (.seq (.seq (.regT c144t 2) (.cond (.tmp 14) (.seq (.regT c144t 3) .ret) .skip)) (.seq (.seq (.regT c144t 4) (.cond (.tmp 22) (.regT c144t 5) .skip)) (.seq (.regD [c144t 6]) (.seq (.regD [c144t 7, c144t 8]) (.seq (.block 0 (.loop c144l12)) (.seq (.regT c144t 13) .ret))))))))
def c144a : Ann := fun id => match id with
 | 7 => [[(0, []), (1, []), (2, []), (3, []), (4, []), (5, []), (6, []), (7, [0, 1]), (8, []), (9, [0, 1, 2, 3, 4, 5, 6, 8]), (10, [])], [(0, []), (1, []), (2, []), (3, []), (4, []), (5, []), (6, []), (9, [0, 1, 2, 3, 4, 5, 6]), (7, [0, 1]), (8, []), (10, [])]]
 | 8 => Xan c144t 9
 | 9 => Xan c144t 10
 | 10 => Xan c144t 11
 | 11 => Xan c144t 13
 | n => Xan c144t n
theorem c144ok : Ko 55 c144a Tryz.f144 = some (inst c144c) := by kernel_rfl
theorem c144call : Kc 144 = true := by kernel_rfl
theorem c144res : Kr Tryz.f144 = some [.cell 2 true 6] := by kernel_rfl
def c145t : Nat → List AI
 | 0 => [Xo 0 4 (.asg (Xi 0)) [], Xo 1 5 (.asg (.cst .nilI)) [4]]
 | 1 => [Xm 0 6 0 [5], Xc 1 7 165 6 [6]]
 | 2 => [Xm 0 8 0 [7], Xm 1 9 0 [0], Xn 2 10 9 [9], Xf 3 11 1 10 [10], Xl 4 12 1 11 [11], Xm 5 13 1 [], Xo 6 14 (.append 5 1 1 [(.int .u8 0)] (Xt 12) (Xt 13)) [13, 12], Xn 7 15 8 [8], Xf 8 16 1 15 [15], Xs 9 1 16 14 [16, 14]]
 | 3 => [Xm 0 17 1 [1], Xo 1 18 (.len true (Xt 17)) [17], Xa 2 4 18 [18], Xo 3 5 (.asg (.cst .nilI)) []]
 | _ => []
def c145c : AC := (.seq (.regT c145t 0) (.seq (.regT c145t 1) (.seq (.regT c145t 2) (.seq (.regT c145t 3) .ret))))
def c145a : Ann := Xan c145t
theorem c145ok : Ko 19 c145a Tryz.f145 = some (inst c145c) := by kernel_rfl
theorem c145call : Kc 145 = true := by kernel_rfl
theorem c145res : Kr Tryz.f145 = some [.tmp 4, .tmp 5] := by kernel_rfl
def c146t : Nat → List AI
 | 0 => [Xo 0 2 (.asg (.cst (.str ⟨#[]⟩))) []]
 | 1 => [Xm 0 3 0 [2, 0], ⟨1, (some 4), .call (.cst (.fn (.func 168) [] [])) [(Xt 3), (.cst (.str ⟨#[39]⟩)), (.cst (.str ⟨#[39, 39]⟩))], none, [3]⟩, Xo 2 5 (.sbin .add (.cst (.str ⟨#[39]⟩)) (Xt 4)) [4], Xo 3 6 (.sbin .add (Xt 5) (.cst (.str ⟨#[39]⟩))) [5], Xa 4 2 6 [6]]
 | _ => []
def c146c : AC := (.seq (.regT c146t 0) (.seq (.regT c146t 1) .ret))
def c146a : Ann := Xan c146t
theorem c146ok : Ko 7 c146a Tryz.f146 = some (inst c146c) := by kernel_rfl
theorem c146call : Kc 146 = true := by kernel_rfl
theorem c146res : Kr Tryz.f146 = some [.tmp 2] := by kernel_rfl
def c147t : Nat → List AI
 | 0 => [Xo 0 2 (.asg Xq) []]
 | 1 => [Xm 0 6 0 [2], Xo 1 7 (.build [(.str ⟨#[]⟩), (.int .i64 0)] [(0, 1, (Xt 6))]) [6], Xo 2 8 (.box 132 (Xt 7)) [7], Xa 3 3 8 [8]]
 | 2 => [Xm 0 9 0 [], Xo 1 10 (.sbin .eql (Xt 9) (.cst (.str ⟨#[]⟩))) [9], Xm 2 11 10 [10], Xv 3 12 (.move (Xt 0)) 11 [], Xv 4 13 (.index (Xt 12) (Xi 0)) 11 [12], Xv 5 14 (.icmp .eql (Xt 13) (.cst (.int .u8 39))) 11 [13], Xo 6 15 (.pick (Xt 11) Xp (Xt 14)) [14, 11]]
 | 3 => [Xo 0 2 (.asg Xq) [15, 3, 0]]
 | 4 => [Xm 0 17 3 [3, 15, 2], Xc 1 18 103 17 [17], Xm 2 16 18 [18], Xe 3 19 16 0 [], Xe 4 20 16 1 [16], Xa 5 4 19 [19], Xa 6 5 20 [20]]
 | 5 => [Xm 0 21 5 [5], Xm 1 22 21 [21], Xu 2 23 (.move (Xt 4)) 22 [4], Xu 3 24 (.move (Xt 0)) 22 [0], Xu 4 25 (.sbin .eql (Xt 23) (Xt 24)) 22 [24, 23], Xo 5 26 (.pick (Xt 22) (Xt 25) Xq) [25, 22], Xa 6 2 26 [26]]
 | _ => []
def c147c : AC := (.seq (.regT c147t 0) (.seq (.regT c147t 1) (.seq (.seq (.regT c147t 2) (.cond (.tmp 15) (.seq (.regT c147t 3) .ret) .skip)) (.seq (.regT c147t 4) (.seq (.regT c147t 5) .ret)))))
def c147a : Ann := Xan c147t
theorem c147ok : Ko 27 c147a Tryz.f147 = some (inst c147c) := by kernel_rfl
theorem c147call : Kc 147 = true := by kernel_rfl
theorem c147res : Kr Tryz.f147 = some [.tmp 2] := by kernel_rfl
def c148t : Nat → List AI
 | 0 => [Xm 0 8 1 [1], Xo 1 9 (.len false (Xt 8)) [], Xo 2 10 (.move (Xi 0)) []]
 | 1 => [Xh 0 11 .lss 10 9 []]
 | 2 => [Xm 0 12 10 [11], Xo 1 13 (.iaddr 6 (Xt 8) (Xt 10)) [], Xg 2 14 6 13 [13], Xo 3 7 (.alloc Xz 50) [], Xa 4 6 12 [12], Xs 5 6 7 14 [14]]
 | 3 => [Xm 0 15 6 [6], Xj 1 16 .gtr 15 0 [15]]
 | 4 => [Xm 0 17 0 [16], Xn 1 18 17 [17], Xf 2 19 0 18 [18], Xm 3 20 2 [], Xd 4 21 145 19 20 [20, 19]]
 | 5 => [Xm 0 22 0 [16, 21], Xg 1 23 6 7 [7], Xd 2 24 108 22 23 [23, 22]]
 | 6 => [Xb 0 25 .add 10 1 [24, 10], Xm 1 10 25 [25]]
 | _ => []
def c148l7 : AC := (.seq (.regT c148t 1) (.seq (.cond (.tmp 11) .skip (.exit 0)) (.seq (.block 1 (.seq (.regT c148t 2) (.seq (.seq (.regT c148t 3) (.cond (.tmp 16) (.regT c148t 4) .skip)) (.regT c148t 5)))) (.regT c148t 6))))
def c148c : AC := (.seq (.regT c148t 0) (.block 0 (.loop c148l7)))
def c148a : Ann := Xan c148t
theorem c148ok : Ko 26 c148a Tryz.f148 = some (inst c148c) := by kernel_rfl
theorem c148call : Kc 148 = true := by kernel_rfl
theorem c148res : Kr Tryz.f148 = some [] := by kernel_rfl
def c162t : Nat → List AI
 | 0 => [Xo 0 4 (.asg (.cst (.str ⟨#[]⟩))) [], Xo 1 5 (.asg Xq) [4]]
 | 1 => [Xm 0 6 0 [5], Xm 1 7 1 [], Xd 2 8 182 6 7 [7, 6], Xo 3 9 (.not (Xt 8)) [8]]
 | 2 => [Xm 0 10 0 [9, 0, 1], Xa 1 4 10 [10], Xo 2 5 (.asg Xq) []]
 | 3 => [Xm 0 11 0 [0, 9, 5, 4], Xm 1 12 1 [1], Xo 2 13 (.len true (Xt 12)) [12], Xo 3 14 (.sslice (Xt 11) (some (Xt 13)) none) [13, 11], Xa 4 4 14 [14], Xo 5 5 (.asg Xp) []]
 | _ => []
def c162c : AC := (.seq (.regT c162t 0) (.seq (.seq (.regT c162t 1) (.cond (.tmp 9) (.seq (.regT c162t 2) .ret) .skip)) (.seq (.regT c162t 3) .ret)))
def c162a : Ann := Xan c162t
theorem c162ok : Ko 15 c162a Tryz.f162 = some (inst c162c) := by kernel_rfl
theorem c162call : Kc 162 = true := by kernel_rfl
theorem c162res : Kr Tryz.f162 = some [.tmp 4, .tmp 5] := by kernel_rfl
def c163t : Nat → List AI
 | 0 => [Xo 0 6 (.asg (Xi 0)) []]
 | 1 => [Xm 0 9 0 [6, 0], Xo 1 10 (.range (Xt 9)) [9]]
 | 2 => [Xo 0 11 (.next (Xt 10)) [6, 19, 7], Xe 1 12 11 0 []]
 | 3 => [Xe 0 13 11 1 [12], Xe 1 14 11 2 [11], Xa 2 7 13 [13], Xa 3 8 14 [14]]
 | 4 => [Xm 0 15 1 [], Xm 1 16 8 [8], ⟨2, (some 17), .call (Xt 15) [(Xt 16)], none, [16, 15]⟩, Xm 3 18 2 [], Xo 4 19 (.bbin false (Xt 17) (Xt 18)) [18, 17]]
 | 5 => [Xm 0 20 7 [19, 7, 10, 1, 2], Xa 1 6 20 [20]]
 | 7 => [Xo 0 6 (.asg (.cst (.int .i64 (-1)))) [2, 1, 10, 7, 19]]
 | _ => []
def c163l6 : AC := (.seq (.regT c163t 2) (.seq (.cond (.tmp 12) .skip (.exit 0)) (.block 1 (.seq (.regT c163t 3) (.seq (.regT c163t 4) (.cond (.tmp 19) (.seq (.regT c163t 5) .ret) .skip))))))
def c163c : AC := (.seq (.regT c163t 0) (.seq (.seq (.regT c163t 1) (.block 0 (.loop c163l6))) (.seq (.regT c163t 7) .ret)))
def c163a : Ann := fun id => match id with
 | 6 => Xan c163t 7
 | n => Xan c163t n
theorem c163ok : Ko 21 c163a Tryz.f163 = some (inst c163c) := by kernel_rfl
theorem c163call : Kc 163 = true := by kernel_rfl
theorem c163res : Kr Tryz.f163 = some [.tmp 6] := by kernel_rfl
def c164t : Nat → List AI
 | 0 => [Xo 0 4 (.alloc [(.bool false), Xw] 178) []]
 | 1 => [Xm 0 6 1 [1], Xc 1 7 183 6 [6], Xa 2 5 7 [7]]
 | 2 => [Xm 0 8 0 [0], Xm 1 9 8 [8], Xu 2 10 (.move (Xt 5)) 9 [], Xu 3 11 (.len false (Xt 10)) 9 [10], Xu 4 12 (.icmp .gtr (Xt 11) (Xi 0)) 9 [11], Xo 5 13 (.pick (Xt 9) (Xt 12) Xq) [12, 9], Xm 6 14 5 [5], Xo 7 15 (.build [(.bool false), Xw] [(0, 1, (Xt 13)), (1, 1, (Xt 14))]) [14, 13], Xs 8 2 4 15 [15]]
 | _ => []
def c164c : AC := (.seq (.regT c164t 0) (.seq (.regT c164t 1) (.seq (.regT c164t 2) .ret)))
def c164a : Ann := Xan c164t
theorem c164ok : Ko 16 c164a Tryz.f164 = some (inst c164c) := by kernel_rfl
theorem c164call : Kc 164 = true := by kernel_rfl
theorem c164res : Kr Tryz.f164 = some [.cell 4 true 2] := by kernel_rfl
def c165t : Nat → List AI
 | 0 => [Xm 0 2 0 [], Xn 1 3 2 [2], Xf 2 4 0 3 [3], Xl 3 5 1 4 [4], Xo 4 6 (.eqnil 0 false (Xt 5)) [5]]
 | 1 => [Xm 0 7 0 [6], Xm 1 8 0 [0], Xo 2 9 (.p2u (Xt 8)) [8], Xc 3 10 184 9 [9], Xo 4 11 (.u2p [(188, 2), (189, 2), (190, 2), (191, 2)] (Xt 10)) [10], Xn 5 12 7 [7], Xf 6 13 0 12 [12], Xs 7 1 13 11 [13, 11]]
 | 2 => [Xm 0 14 0 [6], Xn 1 15 14 [14], Xf 2 16 0 15 [15], Xl 3 17 1 16 [16], Xm 4 18 0 [0], Xo 5 19 (.peq true (Xt 17) (Xt 18)) [18, 17]]
 | _ => []
def c165c : AC := (.seq (.regT c165t 0) (.cond (.tmp 6) (.regT c165t 1) (.seq (.regT c165t 2) (.cond (.tmp 19) .no .skip))))
def c165a : Ann := Xan c165t
theorem c165ok : Ko 20 c165a Tryz.f165 = some (inst c165c) := by kernel_rfl
theorem c165call : Kc 165 = true := by kernel_rfl
theorem c165res : Kr Tryz.f165 = some [] := by kernel_rfl
def c166t : Nat → List AI
 | 0 => [Xo 0 2 (.alloc Xz 50) [], Xo 1 3 (.asg Xq) []]
 | 1 => [Xm 0 4 0 [3], Xm 1 5 0 [0], Xo 2 6 (.mkfn (.func 186) [(Xt 5)] []) [5], ⟨3, (some 7), .call (.cst (.fn (.func 185) [] [])) [(Xt 4), (Xi 2), Xp, (Xt 6)], none, [6, 4]⟩, Xe 4 8 7 0 [], Xe 5 9 7 1 [7], Xs 6 6 2 8 [8], Xa 7 3 9 [9]]
 | _ => []
def c166c : AC := (.seq (.regT c166t 0) (.seq (.regT c166t 1) .ret))
def c166a : Ann := Xan c166t
theorem c166ok : Ko 10 c166a Tryz.f166 = some (inst c166c) := by kernel_rfl
theorem c166call : Kc 166 = true := by kernel_rfl
theorem c166res : Kr Tryz.f166 = some [.cell 2 true 6, .tmp 3] := by kernel_rfl
def c167t : Nat → List AI
 | 0 => [Xo 0 2 (.alloc Xz 50) []]
 | 1 => [Xm 0 9 0 [], Xn 1 10 9 [9], Xf 2 11 0 10 [10], Xl 3 12 1 11 [11], Xo 4 13 (.iaddr 3 (Xt 12) (Xi 0)) [12], Xg 5 14 3 13 [13], Xo 6 3 (.alloc Xx 125) [], Xs 7 3 3 14 [14]]
 | 2 => [Xf 0 15 2 3 [], Xl 1 16 1 15 [15], Xo 2 17 (.build Xz [(0, 1, (Xi 9)), (2, 1, (Xt 16))]) [16], Xo 3 4 (.alloc Xz 50) [], Xs 4 6 4 17 [17]]
 | 3 => [Xf 0 18 0 3 [3], Xl 1 19 1 18 [18]]
 | 4 => [Xj 0 23 .eql 19 1 [], Xa 1 22 23 [23]]
 | 5 => [Xm 0 24 0 [22, 19, 0], Xc 1 25 57 24 [24], Xo 2 26 (.field false 1 1 (Xt 25)) [25], Xf 3 27 1 4 [], Xs 4 1 27 26 [27, 26]]
 | 6 => [Xj 0 29 .eql 19 3 [22], Xa 1 28 29 [29]]
 | 7 => [Xm 0 30 0 [28, 19], Xc 1 31 57 30 [30], Xo 2 32 (.field false 1 1 (Xt 31)) [31], Xf 3 33 1 4 [], Xs 4 1 33 32 [33, 32]]
 | 8 => [Xm 0 35 0 [0], Xc 1 36 187 35 [35], Xm 2 34 36 [36], Xe 3 37 34 0 [], Xe 4 38 34 1 [34], Xo 5 5 (.alloc Xz 50) [], Xs 6 6 5 37 [37], Xa 7 6 38 [38]]
 | 9 => [Xg 0 39 6 5 [6, 5], Xo 1 40 (.bslice 50 true 6 1 Xz [(0, 6, (Xt 39))]) [39], Xf 2 41 5 4 [], Xs 3 1 41 40 [41, 40]]
 | 10 => [Xj 0 43 .eql 19 2 [28, 19], Xa 1 42 43 [43]]
 | 11 => [Xm 0 44 0 [42], Xc 1 45 58 44 [44], Xj 2 46 .eql 45 2 [45]]
 | 12 => [Xf 0 47 1 4 [], Xl 1 48 1 47 [], Xm 2 49 0 [], Xc 3 50 57 49 [0, 1], Xo 4 51 (.field false 1 1 (Xt 50)) [], Xo 5 52 (.sbin .add (Xt 48) (Xt 51)) [], Xf 6 53 1 4 [], Xs 7 1 53 52 []]
 | 13 => [Xm 0 55 0 [], Xc 1 56 186 55 [55], Xm 2 54 56 [56], Xe 3 57 54 0 [], Xe 4 58 54 1 [54], Xo 5 7 (.alloc Xz 50) [], Xs 6 6 7 57 [57], Xa 7 8 58 [58]]
 | 14 => [Xf 0 59 5 4 [8], Xl 1 60 1 59 [59], Xg 2 61 6 7 [7], Xo 3 62 (.bslice 50 true 6 1 Xz [(0, 6, (Xt 61))]) [61], Xo 4 63 (.append 50 6 88 Xz (Xt 60) (Xt 62)) [62, 60], Xf 5 64 5 4 [], Xs 6 1 64 63 [64, 63]]
 | 16 => [Xm 0 20 0 [42, 0], ⟨1, (some 21), .call (.cst (.fn (.func 68) [] [])) [(Xt 20), (Xi 20)], none, [20]⟩]
 | 17 => [Xg 0 65 6 4 [21, 0, 4], Xs 1 6 2 65 [65]]
 | _ => []
def c167l15 : AC := (.seq (.seq (.regT c167t 11) (.cond (.tmp 46) .skip (.exit 1))) (.block 2 (.seq (.regD [c167t 12]) (.seq (.regT c167t 13) (.regT c167t 14)))))
def c167c : AC := (.seq (.regT c167t 0) (.seq (.regT c167t 1) (.seq (.regT c167t 2) (.seq (.seq (.regT c167t 3) (.block 0 (.seq (.regT c167t 4) (.cond (.tmp 22) (.regT c167t 5) (.seq (.regT c167t 6) (.cond (.tmp 28) (.seq (.regT c167t 7) (.seq (.regT c167t 8) (.regT c167t 9))) (.seq (.regT c167t 10) (.cond (.tmp 42) (.block 1 (.loop c167l15)) (.regT c167t 16))))))))) (.seq (.regT c167t 17) .ret)))))
def c167a : Ann := fun id => match id with
 | 5 => Xan c167t 4
 | 6 => Xan c167t 5
 | 7 => Xan c167t 6
 | 8 => Xan c167t 7
 | 9 => Xan c167t 8
 | 10 => Xan c167t 9
 | 11 => Xan c167t 10
 | 12 => Xan c167t 11
 | 13 => Xan c167t 12
 | 14 => Xan c167t 13
 | 15 => Xan c167t 14
 | 4 => Xan c167t 16
 | 16 => Xan c167t 17
 | n => Xan c167t n
theorem c167ok : Ko 66 c167a Tryz.f167 = some (inst c167c) := by kernel_rfl
theorem c167call : Kc 167 = true := by kernel_rfl
theorem c167res : Kr Tryz.f167 = some [.cell 2 true 6] := by kernel_rfl
end Go.SL
set_option maxRecDepth 100000
namespace Go.SL
open Go.Proofs
def c182t : Nat → List AI
 | 0 => [Xo 0 4 (.asg Xq) []]
 | 1 => [Xm 0 5 0 [4], Xo 1 6 (.len true (Xt 5)) [5], Xm 2 7 1 [], Xo 3 8 (.len true (Xt 7)) [7], Xh 4 9 .geq 6 8 [8, 6], Xm 5 10 9 [9], Xu 6 11 (.move (Xt 0)) 10 [0], Xu 7 12 (.move (Xt 1)) 10 [], Xu 8 13 (.len true (Xt 12)) 10 [12], Xu 9 14 (.sslice (Xt 11) none (some (Xt 13))) 10 [13, 11], Xu 10 15 (.move (Xt 1)) 10 [1], Xu 11 16 (.sbin .eql (Xt 14) (Xt 15)) 10 [15, 14], Xo 12 17 (.pick (Xt 10) (Xt 16) Xq) [16, 10], Xa 13 4 17 [17]]
 | _ => []
def c182c : AC := (.seq (.regT c182t 0) (.seq (.regT c182t 1) .ret))
def c182a : Ann := Xan c182t
theorem c182ok : Ko 18 c182a Tryz.f182 = some (inst c182c) := by kernel_rfl
theorem c182call : Kc 182 = true := by kernel_rfl
theorem c182res : Kr Tryz.f182 = some [.tmp 4] := by kernel_rfl
def c183t : Nat → List AI
 | 0 => [Xo 0 2 (.asg (.cst Xw)) []]
 | 1 => [Xo 0 3 (.alloc [Xw] 176) [2]]
 | 2 => [Xm 0 7 0 [0], Xc 1 8 137 7 [7], Xc 2 9 192 8 [8]]
 | 3 => [Xa 0 5 11 [11, 10, 9]]
 | 4 => [Xm 0 12 5 [], Xo 1 13 (.shift .shr (Xt 12) (.cst (.int .u64 24))) [12], Xo 2 14 (.conv .u8 (Xt 13)) [13], Xm 3 15 5 [], Xo 4 16 (.shift .shr (Xt 15) (.cst (.int .u64 16))) [15], Xo 5 17 (.conv .u8 (Xt 16)) [16], Xm 6 18 5 [], Xo 7 19 (.shift .shr (Xt 18) (.cst (.int .u64 8))) [18], Xo 8 20 (.conv .u8 (Xt 19)) [19], Xm 9 21 5 [5], Xo 10 22 (.conv .u8 (Xt 21)) [21], Xo 11 23 (.build [(.int .u8 0), (.int .u8 0), (.int .u8 0), (.int .u8 0)] [(0, 1, (Xt 14)), (1, 1, (Xt 17)), (2, 1, (Xt 20)), (3, 1, (Xt 22))]) [22, 20, 17, 14], Xo 12 6 (.alloc [(.int .u8 0), (.int .u8 0), (.int .u8 0), (.int .u8 0)] 252) [], Xs 13 4 6 23 [23]]
 | 5 => [Xl 0 24 1 3 [], Xo 1 25 (.aslice 4 (Xt 6)) [0], Xo 2 26 (.append 5 1 1 [(.int .u8 0)] (Xt 24) (Xt 25)) [], Xs 3 1 3 26 []]
 | 7 => [Xl 0 27 1 3 [9], Xo 1 28 (.len false (Xt 27)) [27], Xj 2 29 .gtr 28 0 [28], Xm 3 30 29 [29], Xu 4 31 (.load false 1 (Xt 3)) 30 [], Xu 5 32 (.iaddr 1 (Xt 31) (Xi 0)) 30 [], Xu 6 33 (.load false 1 (Xt 32)) 30 [], Xu 7 34 (.icmp .eql (Xt 33) (.cst (.int .u8 0))) 30 [], Xo 8 35 (.pick (Xt 30) (Xt 34) Xq) [30]]
 | 8 => [Xl 0 36 1 3 [35], Xo 1 37 (.lslice 1 (Xt 36) (some (Xi 1)) none) [36], Xs 2 1 3 37 [37]]
 | 10 => [Xl 0 38 1 3 [31, 32, 33, 34, 3], Xc 1 39 193 38 [38], Xa 2 2 39 [39]]
 | _ => []
def c183r6a : AC := (.regT c183t 3)
def c183r6b : AC := (.block 1 (.seq (.regT c183t 4) (.regD [c183t 5])))
def c183l9 : AC := (.seq (.seq (.regT c183t 7) (.cond (.tmp 35) .skip (.exit 2))) (.block 3 (.regT c183t 8)))
def c183c : AC := (.seq (.regT c183t 0) (.seq (.regT c183t 1) (.seq (.seq (.regT c183t 2) (.block 0 (.rangeF (.tmp 9) [10, 11] c183r6a c183r6b))) (.seq (.block 2 (.loop c183l9)) (.seq (.regT c183t 10) .ret)))))
def c183a : Ann := fun id => match id with
 | 6 => Xan c183t 7
 | 7 => Xan c183t 8
 | 8 => Xan c183t 10
 | n => Xan c183t n
theorem c183ok : Ko 40 c183a Tryz.f183 = some (inst c183c) := by kernel_rfl
theorem c183call : Kc 183 = true := by kernel_rfl
theorem c183res : Kr Tryz.f183 = some [.tmp 2] := by kernel_rfl
def c185t : Nat → List AI
 | 0 => [Xo 0 8 (.alloc Xz 50) [], Xo 1 9 (.asg Xq) []]
 | 1 => [Xm 0 13 3 [9, 3], ⟨1, (some 14), .call (Xt 13) [], none, [13]⟩, Xm 2 12 14 [14], Xe 3 15 12 0 [], Xe 4 16 12 1 [12], Xo 5 10 (.alloc Xz 50) [], Xs 6 6 10 15 [15], Xa 7 11 16 [16]]
 | 2 => [Xm 0 17 0 [24], Xc 1 18 58 17 [17], Xm 2 19 1 [], Xh 3 20 .eql 18 19 [19, 18]]
 | 3 => [Xm 0 21 0 [20, 11], Xg 1 22 6 10 [], Xd 2 23 194 21 22 [22, 21], Xs 3 6 10 23 [23], Xo 4 11 (.asg Xp) []]
 | 4 => [Xm 0 24 2 []]
 | 6 => [Xg 0 25 6 10 [24, 10, 0, 1, 2], Xm 1 26 11 [11], Xs 2 6 8 25 [25], Xa 3 9 26 [26]]
 | _ => []
def c185l5 : AC := (.seq (.seq (.regT c185t 2) (.cond (.tmp 20) .skip (.exit 0))) (.block 1 (.seq (.regT c185t 3) (.seq (.regT c185t 4) (.cond (.tmp 24) (.exit 0) .skip)))))
def c185c : AC := (.seq (.regT c185t 0) (.seq (.regT c185t 1) (.seq (.block 0 (.loop c185l5)) (.seq (.regT c185t 6) .ret))))
def c185a : Ann := fun id => match id with
 | 5 => Xan c185t 6
 | n => Xan c185t n
theorem c185ok : Ko 27 c185a Tryz.f185 = some (inst c185c) := by kernel_rfl
theorem c185call : Kc 185 = true := by kernel_rfl
theorem c185res : Kr Tryz.f185 = some [.cell 8 true 6, .tmp 9] := by kernel_rfl
def c186t : Nat → List AI
 | 0 => [Xo 0 2 (.alloc Xz 50) [], Xo 1 3 (.asg Xq) []]
 | 1 => [Xm 0 4 0 [3], Xm 1 5 0 [0], Xo 2 6 (.mkfn (.func 187) [(Xt 5)] []) [5], ⟨3, (some 7), .call (.cst (.fn (.func 185) [] [])) [(Xt 4), (Xi 3), Xq, (Xt 6)], none, [6, 4]⟩, Xe 4 8 7 0 [], Xe 5 9 7 1 [7], Xs 6 6 2 8 [8], Xa 7 3 9 [9]]
 | _ => []
def c186c : AC := (.seq (.regT c186t 0) (.seq (.regT c186t 1) .ret))
def c186a : Ann := Xan c186t
theorem c186ok : Ko 10 c186a Tryz.f186 = some (inst c186c) := by kernel_rfl
theorem c186call : Kc 186 = true := by kernel_rfl
theorem c186res : Kr Tryz.f186 = some [.cell 2 true 6, .tmp 3] := by kernel_rfl
def c187t : Nat → List AI
 | 0 => [Xo 0 2 (.alloc Xz 50) [], Xo 1 3 (.asg Xq) []]
 | 1 => [Xm 0 4 0 [3], Xm 1 5 0 [0], Xo 2 6 (.mkfn (.func 195) [(Xt 5)] []) [5], ⟨3, (some 7), .call (.cst (.fn (.func 185) [] [])) [(Xt 4), (Xi 1), Xq, (Xt 6)], none, [6, 4]⟩, Xe 4 8 7 0 [], Xe 5 9 7 1 [7], Xs 6 6 2 8 [8], Xa 7 3 9 [9]]
 | _ => []
def c187c : AC := (.seq (.regT c187t 0) (.seq (.regT c187t 1) .ret))
def c187a : Ann := Xan c187t
theorem c187ok : Ko 10 c187a Tryz.f187 = some (inst c187c) := by kernel_rfl
theorem c187call : Kc 187 = true := by kernel_rfl
theorem c187res : Kr Tryz.f187 = some [.cell 2 true 6, .tmp 3] := by kernel_rfl
def c192t : Nat → List AI
 | 0 => [Xo 0 1 (.box 209 (Xt 0)) [0], Xo 1 2 (.asg (.cst .nilF)) []]
 | 1 => [Xo 0 3 (.mkfn (.func 202) [] [(Xt 1)]) [2, 1], Xa 1 2 3 [3]]
 | _ => []
def c192c : AC := (.seq (.regT c192t 0) (.seq (.regT c192t 1) .ret))
def c192a : Ann := Xan c192t
theorem c192ok : Ko 4 c192a Tryz.f192 = some (inst c192c) := by kernel_rfl
theorem c192call : Kc 192 = true := by kernel_rfl
theorem c192res : Kr Tryz.f192 = some [.tmp 2] := by kernel_rfl
def c193t : Nat → List AI
 | 0 => [Xo 0 2 (.asg (.cst Xw)) []]
 | 1 => [Xm 0 3 0 [2], Xo 1 4 (.eqnil 1 false (Xt 3)) [3]]
 | 2 => [Xo 0 2 (.asg (.cst Xw)) [4, 0]]
 | 3 => [Xo 0 5 (.bslice 5 false 1 0 [(.int .u8 0)] []) [4, 2], Xm 1 6 0 [0], Xo 2 7 (.append 5 1 1 [(.int .u8 0)] (Xt 5) (Xt 6)) [6, 5], Xa 3 2 7 [7]]
 | _ => []
def c193c : AC := (.seq (.regT c193t 0) (.seq (.seq (.regT c193t 1) (.cond (.tmp 4) (.seq (.regT c193t 2) .ret) .skip)) (.seq (.regT c193t 3) .ret)))
def c193a : Ann := Xan c193t
theorem c193ok : Ko 8 c193a Tryz.f193 = some (inst c193c) := by kernel_rfl
theorem c193call : Kc 193 = true := by kernel_rfl
theorem c193res : Kr Tryz.f193 = some [.tmp 2] := by kernel_rfl
def c194t : Nat → List AI
 | 0 => [Xo 0 3 (.box 50 (Xt 1)) [1], Xo 1 4 (.alloc Xz 50) []]
 | 1 => [Xm 0 6 0 [0], Xc 1 7 167 6 [6], Xo 2 5 (.alloc Xz 50) [], Xs 3 6 5 7 [7]]
 | 2 => [Xf 0 8 1 5 [], Xl 1 9 1 8 [], Xf 2 10 2 5 [], Xl 3 11 1 10 [], Xg 4 12 6 3 [], Xf 6 14 5 5 [], Xl 7 15 1 14 [], Xo 5 13 (.bslice 50 true 6 1 Xz [(0, 6, (Xt 12))]) [0, 1, 2, 3, 6, 7], Xo 8 16 (.append 50 6 88 Xz (Xt 13) (Xt 15)) [0, 1, 2, 3], Xo 9 17 (.build Xz [(0, 1, (Xi 7)), (1, 1, (Xt 9)), (2, 1, (Xt 11)), (5, 1, (Xt 16))]) [], Xs 10 6 4 17 []]
 | _ => []
def c194c : AC := (.seq (.regT c194t 0) (.seq (.regT c194t 1) (.seq (.regD [c194t 2]) .ret)))
def c194a : Ann := Xan c194t
theorem c194ok : Ko 18 c194a Tryz.f194 = some (inst c194c) := by kernel_rfl
theorem c194call : Kc 194 = true := by kernel_rfl
theorem c194res : Kr Tryz.f194 = some [.cell 4 true 6] := by kernel_rfl
def c195t : Nat → List AI
 | 0 => [Xo 0 1 (.box 70 (Xt 0)) [0], Xo 1 2 (.alloc Xz 50) [], Xo 2 3 (.asg Xq) []]
 | 1 => [Xl 0 6 1 1 [3], Xn 1 7 6 [6], Xf 2 8 0 7 [7], Xl 3 9 1 8 [8], Xo 4 10 (.iaddr 3 (Xt 9) (Xi 0)) [9], Xg 5 11 3 10 [10], Xo 6 4 (.alloc Xx 125) [], Xs 7 3 4 11 [11]]
 | 2 => [Xf 0 12 1 4 [], Xl 1 13 1 12 [12], Xf 2 14 2 4 [], Xl 3 15 1 14 [14], Xo 4 16 (.build Xz [(1, 1, (Xt 13)), (2, 1, (Xt 15))]) [15, 13], Xo 5 5 (.alloc Xz 50) [], Xs 6 6 5 16 [16]]
 | 3 => [Xf 0 17 0 4 [4], Xl 1 18 1 17 [17]]
 | 4 => [Xj 0 22 .eql 18 1 [], Xa 1 21 22 [22]]
 | 5 => [Xf 0 23 0 5 [21, 18], ⟨1, none, .o (.store 1 (Xt 23) (Xi 5)), none, [23]⟩]
 | 6 => [Xj 0 25 .eql 18 4 [21], Xa 1 24 25 [25]]
 | 7 => [Xf 0 26 0 5 [24, 18], ⟨1, none, .o (.store 1 (Xt 26) (Xi 1)), none, [26]⟩]
 | 8 => [Xj 0 28 .eql 18 5 [24], Xa 1 27 28 [28]]
 | 9 => [Xf 0 29 0 5 [27, 18], ⟨1, none, .o (.store 1 (Xt 29) (Xi 2)), none, [29]⟩]
 | 10 => [Xj 0 31 .eql 18 6 [27], Xa 1 30 31 [31]]
 | 11 => [Xf 0 32 0 5 [30, 18], ⟨1, none, .o (.store 1 (Xt 32) (Xi 3)), none, [32]⟩]
 | 12 => [Xj 0 34 .eql 18 17 [30], Xa 1 33 34 [34]]
 | 13 => [Xl 0 35 1 1 [33, 18, 5, 1], Xc 1 36 203 35 [35], Xs 2 6 2 36 [36], Xo 3 3 (.asg Xp) []]
 | 14 => [Xj 0 38 .eql 18 10 [33], Xa 1 37 38 [38]]
 | 15 => [Xl 0 39 1 1 [37, 18, 5, 1], Xc 1 40 204 39 [39], Xs 2 6 2 40 [40], Xo 3 3 (.asg Xp) []]
 | 16 => [Xj 0 42 .eql 18 8 [37, 18], Xa 1 41 42 [42]]
 | 17 => [Xl 0 43 1 1 [41], Xo 1 44 (.mkfn (.func 205) [] [(Xt 1), (Xt 5)]) [1], Xd 2 45 142 43 44 [44, 43]]
 | 18 => [Xg 0 46 6 5 [45, 5], Xs 1 6 2 46 [46], Xo 2 3 (.asg Xq) []]
 | 19 => [Xl 0 19 1 1 [41], ⟨1, (some 20), .call (.cst (.fn (.func 68) [] [])) [(Xt 19), (Xi 20)], none, [19]⟩]
 | 20 => [Xl 0 47 1 1 [20, 3, 1], Xc 1 48 57 47 [47]]
 | 21 => [Xg 0 49 6 5 [48, 5], Xs 1 6 2 49 [49], Xo 2 3 (.asg Xp) []]
 | _ => []
def c195c : AC := (.seq (.regT c195t 0) (.seq (.regT c195t 1) (.seq (.regT c195t 2) (.seq (.seq (.regT c195t 3) (.block 0 (.seq (.regT c195t 4) (.cond (.tmp 21) (.regT c195t 5) (.seq (.regT c195t 6) (.cond (.tmp 24) (.regT c195t 7) (.seq (.regT c195t 8) (.cond (.tmp 27) (.regT c195t 9) (.seq (.regT c195t 10) (.cond (.tmp 30) (.regT c195t 11) (.seq (.regT c195t 12) (.cond (.tmp 33) (.seq (.regT c195t 13) .ret) (.seq (.regT c195t 14) (.cond (.tmp 37) (.seq (.regT c195t 15) .ret) (.seq (.regT c195t 16) (.cond (.tmp 41) (.seq (.regT c195t 17) (.seq (.regT c195t 18) .ret)) (.regT c195t 19))))))))))))))))) (.seq (.regT c195t 20) (.seq (.regT c195t 21) .ret))))))
def c195a : Ann := fun id => match id with
 | 5 => Xan c195t 4
 | 6 => Xan c195t 5
 | 7 => Xan c195t 6
 | 8 => Xan c195t 7
 | 9 => Xan c195t 8
 | 10 => Xan c195t 9
 | 11 => Xan c195t 10
 | 12 => Xan c195t 11
 | 13 => Xan c195t 12
 | 14 => Xan c195t 13
 | 15 => Xan c195t 14
 | 16 => Xan c195t 15
 | 17 => Xan c195t 16
 | 18 => Xan c195t 17
 | 19 => Xan c195t 18
 | 4 => Xan c195t 19
 | n => Xan c195t n
theorem c195ok : Ko 50 c195a Tryz.f195 = some (inst c195c) := by kernel_rfl
theorem c195call : Kc 195 = true := by kernel_rfl
theorem c195res : Kr Tryz.f195 = some [.cell 2 true 6, .tmp 3] := by kernel_rfl
def c202t : Nat → List AI
 | 0 => [Xl 0 4 1 1 [], Xo 1 5 (.len false (Xt 4)) [4], Xb 2 6 .sub 5 1 [5], Xa 3 3 6 [6]]
 | 1 => [Xm 0 7 3 [], Xj 1 8 .geq 7 0 [7]]
 | 2 => [Xm 0 11 0 [8], Xm 1 12 3 [], Xl 2 13 1 1 [], Xm 3 14 3 [], Xo 4 15 (.iaddr 1 (Xt 13) (Xt 14)) [14, 13], Xl 5 16 1 15 [15], ⟨6, (some 17), .call (Xt 11) [(Xt 12), (Xt 16)], none, [16, 12, 11]⟩, Xo 7 18 (.not (Xt 17)) [17]]
 | 3 => [Xm 0 9 3 [18, 3], Xb 1 10 .sub 9 1 [9], Xa 2 3 10 [10]]
 | _ => []
def c202l4 : AC := (.seq (.seq (.regT c202t 1) (.cond (.tmp 8) .skip (.exit 0))) (.seq (.block 1 (.seq (.regT c202t 2) (.cond (.tmp 18) .ret .skip))) (.regT c202t 3)))
def c202c : AC := (.seq (.regT c202t 0) (.block 0 (.loop c202l4)))
def c202a : Ann := fun id => match id with
 | 3 => Xan c202t 2
 | 2 => Xan c202t 3
 | n => Xan c202t n
theorem c202ok : Ko 19 c202a Tryz.f202 = some (inst c202c) := by kernel_rfl
theorem c202call : Kc 202 = true := by kernel_rfl
theorem c202res : Kr Tryz.f202 = some [] := by kernel_rfl
def c203t : Nat → List AI
 | 0 => [Xo 0 1 (.box 70 (Xt 0)) [0], Xo 1 2 (.alloc Xz 50) []]
 | 1 => [Xl 0 4 1 1 [], Xn 1 5 4 [4], Xf 2 6 0 5 [5], Xl 3 7 1 6 [6], Xo 4 8 (.iaddr 3 (Xt 7) (Xi 0)) [7], Xf 5 9 2 8 [8], Xl 6 10 1 9 [9], Xo 7 11 (.build Xz [(0, 1, (Xi 4)), (2, 1, (Xt 10))]) [10], Xo 8 3 (.alloc Xz 50) [], Xs 9 6 3 11 [11]]
 | 2 => [Xl 0 12 1 1 [], Xo 1 13 (.mkfn (.func 211) [] [(Xt 1), (Xt 3)]) [1], Xd 2 14 142 12 13 [13, 12]]
 | 3 => [Xg 0 15 6 3 [14, 3], Xs 1 6 2 15 [15]]
 | _ => []
def c203c : AC := (.seq (.regT c203t 0) (.seq (.regT c203t 1) (.seq (.regT c203t 2) (.seq (.regT c203t 3) .ret))))
def c203a : Ann := Xan c203t
theorem c203ok : Ko 16 c203a Tryz.f203 = some (inst c203c) := by kernel_rfl
theorem c203call : Kc 203 = true := by kernel_rfl
theorem c203res : Kr Tryz.f203 = some [.cell 2 true 6] := by kernel_rfl
def c204t : Nat → List AI
 | 0 => [Xo 0 1 (.box 70 (Xt 0)) [0], Xo 1 2 (.alloc Xz 50) []]
 | 1 => [Xl 0 4 1 1 [], Xn 1 5 4 [4], Xf 2 6 0 5 [5], Xl 3 7 1 6 [6], Xo 4 8 (.iaddr 3 (Xt 7) (Xi 0)) [7], Xf 5 9 2 8 [8], Xl 6 10 1 9 [9], Xo 7 11 (.build Xz [(0, 1, (Xi 10)), (2, 1, (Xt 10))]) [10], Xo 8 3 (.alloc Xz 50) [], Xs 9 6 3 11 [11]]
 | 2 => [Xl 0 12 1 1 [], Xo 1 13 (.mkfn (.func 213) [] [(Xt 1), (Xt 3)]) [1], Xd 2 14 142 12 13 [13, 12]]
 | 3 => [Xg 0 15 6 3 [14, 3], Xs 1 6 2 15 [15]]
 | _ => []
def c204c : AC := (.seq (.regT c204t 0) (.seq (.regT c204t 1) (.seq (.regT c204t 2) (.seq (.regT c204t 3) .ret))))
def c204a : Ann := Xan c204t
theorem c204ok : Ko 16 c204a Tryz.f204 = some (inst c204c) := by kernel_rfl
theorem c204call : Kc 204 = true := by kernel_rfl
theorem c204res : Kr Tryz.f204 = some [.cell 2 true 6] := by kernel_rfl
def c205t : Nat → List AI
 | 0 => [Xl 0 2 1 0 [], Xc 1 3 105 2 [2], Xs 2 6 1 3 [3, 1]]
 | 1 => [Xl 0 4 1 0 [0], ⟨1, (some 5), .call (.cst (.fn (.func 56) [] [])) [(Xt 4), (Xi 9)], none, [4]⟩]
 | _ => []
def c205c : AC := (.seq (.regT c205t 0) (.regT c205t 1))
def c205a : Ann := Xan c205t
theorem c205ok : Ko 6 c205a Tryz.f205 = some (inst c205c) := by kernel_rfl
theorem c205call : Kc 205 = true := by kernel_rfl
theorem c205res : Kr Tryz.f205 = some [] := by kernel_rfl
def c211t : Nat → List AI
 | 0 => [Xl 0 2 1 0 [], Xc 1 3 58 2 [2], Xj 2 4 .neq 3 9 [3]]
 | 1 => [Xf 0 5 5 1 [], Xl 1 6 1 5 [], Xl 2 7 1 0 [], Xo 4 9 (.len false (Xt 6)) [], Xc 3 8 212 7 [0, 1, 4], Xo 5 10 (.bslice 50 true 6 1 Xz [(0, 6, (.cst (.agg Xz)))]) [0, 1, 2, 4], Xo 6 11 (.append 50 6 88 Xz (Xt 6) (Xt 10)) [], Xo 7 12 (.iaddr 6 (Xt 11) (Xt 9)) [], Xf 9 13 5 1 [], Xs 8 6 12 8 [9], Xs 10 1 13 11 [7]]
 | 2 => [Xf 0 5 5 1 [], Xl 1 6 1 5 [], Xl 2 7 1 0 [], Xo 4 9 (.len false (Xt 6)) [], Xc 3 8 212 7 [0, 1, 4], Xo 5 10 (.bslice 50 true 6 1 Xz [(0, 6, (.cst (.agg Xz)))]) [0, 1, 2, 4], Xo 6 11 (.append 50 6 88 Xz (Xt 6) (Xt 10)) [], Xo 7 12 (.iaddr 6 (Xt 11) (Xt 9)) [], Xf 9 13 5 1 [], Xs 10 1 13 11 [7], Xs 8 6 12 8 [9]]
 | 3 => [Xf 0 5 5 1 [], Xl 1 6 1 5 [], Xl 2 7 1 0 [], Xo 4 9 (.len false (Xt 6)) [], Xo 5 10 (.bslice 50 true 6 1 Xz [(0, 6, (.cst (.agg Xz)))]) [0, 1, 2, 4], Xc 3 8 212 7 [0, 1, 4], Xo 6 11 (.append 50 6 88 Xz (Xt 6) (Xt 10)) [], Xo 7 12 (.iaddr 6 (Xt 11) (Xt 9)) [], Xf 9 13 5 1 [], Xs 8 6 12 8 [9], Xs 10 1 13 11 [7]]
 | 4 => [Xf 0 5 5 1 [], Xl 1 6 1 5 [], Xl 2 7 1 0 [], Xo 4 9 (.len false (Xt 6)) [], Xo 5 10 (.bslice 50 true 6 1 Xz [(0, 6, (.cst (.agg Xz)))]) [0, 1, 2, 4], Xc 3 8 212 7 [0, 1, 4], Xo 6 11 (.append 50 6 88 Xz (Xt 6) (Xt 10)) [], Xo 7 12 (.iaddr 6 (Xt 11) (Xt 9)) [], Xf 9 13 5 1 [], Xs 10 1 13 11 [7], Xs 8 6 12 8 [9]]
 | 6 => [Xl 0 14 1 0 [0, 1], Xc 1 15 57 14 [14]]
 | _ => []
def c211l5 : AC := (.seq (.seq (.regT c211t 0) (.cond (.tmp 4) .skip (.exit 0))) (.block 1 (.regD [c211t 1, c211t 2, c211t 3, c211t 4])))
def c211c : AC := (.seq (.block 0 (.loop c211l5)) (.regT c211t 6))
def c211a : Ann := fun id => match id with
 | 1 => [[(0, []), (1, []), (2, []), (4, []), (3, [0, 1, 4]), (5, [0, 1, 2, 4]), (6, []), (7, []), (9, []), (8, [9]), (10, [7])], [(0, []), (1, []), (2, []), (4, []), (3, [0, 1, 4]), (5, [0, 1, 2, 4]), (6, []), (7, []), (9, []), (10, [7]), (8, [9])], [(0, []), (1, []), (2, []), (4, []), (5, [0, 1, 2, 4]), (3, [0, 1, 4]), (6, []), (7, []), (9, []), (8, [9]), (10, [7])], [(0, []), (1, []), (2, []), (4, []), (5, [0, 1, 2, 4]), (3, [0, 1, 4]), (6, []), (7, []), (9, []), (10, [7]), (8, [9])]]
 | 2 => Xan c211t 6
 | n => Xan c211t n
theorem c211ok : Ko 16 c211a Tryz.f211 = some (inst c211c) := by kernel_rfl
theorem c211call : Kc 211 = true := by kernel_rfl
theorem c211res : Kr Tryz.f211 = some [] := by kernel_rfl
def c212t : Nat → List AI
 | 0 => [Xo 0 2 (.alloc Xz 50) []]
 | 1 => [Xm 0 5 0 [], Xn 1 6 5 [5], Xf 2 7 0 6 [6], Xl 3 8 1 7 [7], Xo 4 9 (.iaddr 3 (Xt 8) (Xi 0)) [8], Xg 5 10 3 9 [9], Xo 6 3 (.alloc Xx 125) [], Xs 7 3 3 10 [10]]
 | 2 => [Xf 0 11 1 3 [], Xl 1 12 1 11 [11], Xf 2 13 2 3 [], Xl 3 14 1 13 [13], Xo 4 15 (.build Xz [(0, 1, (Xi 3)), (1, 1, (Xt 12)), (2, 1, (Xt 14))]) [14, 12], Xo 5 4 (.alloc Xz 50) [], Xs 6 6 4 15 [15]]
 | 3 => [Xf 0 16 0 3 [], Xl 1 17 1 16 [16]]
 | 4 => [Xj 0 21 .eql 17 17 [], Xa 1 20 21 [21]]
 | 5 => [Xj 0 22 .eql 17 8 [20], Xa 1 20 22 [22]]
 | 6 => [Xm 0 23 0 [20, 17, 4, 3, 0], Xc 1 24 203 23 [23], Xs 2 6 2 24 [24]]
 | 7 => [Xj 0 26 .eql 17 4 [20], Xa 1 25 26 [26]]
 | 8 => [Xf 0 27 0 4 [25, 17, 3], ⟨1, none, .o (.store 1 (Xt 27) (Xi 1)), none, [27]⟩]
 | 9 => [Xj 0 29 .eql 17 5 [25], Xa 1 28 29 [29]]
 | 10 => [Xf 0 30 0 4 [28, 17, 3], ⟨1, none, .o (.store 1 (Xt 30) (Xi 2)), none, [30]⟩]
 | 11 => [Xj 0 32 .eql 17 1 [28], Xa 1 31 32 [32]]
 | 12 => [Xf 0 33 1 3 [31, 17], Xl 1 34 1 33 [33], Xo 2 35 (.sbin .eql (Xt 34) (.cst (.str ⟨#[116, 114, 117, 101]⟩))) [34], Xm 3 36 35 [35], Xv 4 37 (.faddr 1 (Xt 3)) 36 [], Xv 5 38 (.load false 1 (Xt 37)) 36 [37], Xv 6 39 (.sbin .eql (Xt 38) (.cst (.str ⟨#[102, 97, 108, 115, 101]⟩))) 36 [38], Xo 7 40 (.pick (Xt 36) Xp (Xt 39)) [39, 36], Xm 8 41 40 [40], Xv 9 42 (.faddr 1 (Xt 3)) 41 [3], Xv 10 43 (.load false 1 (Xt 42)) 41 [42], Xv 11 44 (.sbin .eql (Xt 43) (.cst (.str ⟨#[110, 105, 108]⟩))) 41 [43], Xo 12 45 (.pick (Xt 41) Xp (Xt 44)) [44, 41]]
 | 13 => [Xf 0 46 0 4 [45], ⟨1, none, .o (.store 1 (Xt 46) (Xi 13)), none, [46]⟩]
 | 14 => [Xj 0 48 .eql 17 6 [31, 3], Xa 1 47 48 [48]]
 | 15 => [Xj 0 49 .eql 17 2 [47], Xa 1 47 49 [49]]
 | 16 => [Xj 0 50 .eql 17 3 [47, 17], Xa 1 47 50 [50]]
 | 17 => [Xm 0 18 0 [47, 17], ⟨1, (some 19), .call (.cst (.fn (.func 68) [] [])) [(Xt 18), (Xi 20)], none, [18]⟩]
 | 18 => [Xm 0 51 0 [0, 45, 19, 47, 17], Xc 1 52 57 51 [51]]
 | 19 => [Xg 0 53 6 4 [52, 4], Xs 1 6 2 53 [53]]
 | _ => []
def c212c : AC := (.seq (.regT c212t 0) (.seq (.regT c212t 1) (.seq (.regT c212t 2) (.seq (.seq (.regT c212t 3) (.block 0 (.seq (.seq (.regT c212t 4) (.cond (.tmp 20) .skip (.regT c212t 5))) (.cond (.tmp 20) (.seq (.regT c212t 6) .ret) (.seq (.regT c212t 7) (.cond (.tmp 25) (.regT c212t 8) (.seq (.regT c212t 9) (.cond (.tmp 28) (.regT c212t 10) (.seq (.regT c212t 11) (.cond (.tmp 31) (.seq (.regT c212t 12) (.cond (.tmp 45) (.regT c212t 13) .skip)) (.seq (.seq (.regT c212t 14) (.cond (.tmp 47) .skip (.seq (.regT c212t 15) (.cond (.tmp 47) .skip (.regT c212t 16))))) (.cond (.tmp 47) .skip (.regT c212t 17))))))))))))) (.seq (.regT c212t 18) (.seq (.regT c212t 19) .ret))))))
def c212a : Ann := fun id => match id with
 | 5 => Xan c212t 4
 | 6 => Xan c212t 5
 | 7 => Xan c212t 6
 | 8 => Xan c212t 7
 | 9 => Xan c212t 8
 | 10 => Xan c212t 9
 | 11 => Xan c212t 10
 | 12 => Xan c212t 11
 | 13 => Xan c212t 12
 | 14 => Xan c212t 13
 | 15 => Xan c212t 14
 | 16 => Xan c212t 15
 | 17 => Xan c212t 16
 | 4 => Xan c212t 17
 | n => Xan c212t n
theorem c212ok : Ko 54 c212a Tryz.f212 = some (inst c212c) := by kernel_rfl
theorem c212call : Kc 212 = true := by kernel_rfl
theorem c212res : Kr Tryz.f212 = some [.cell 2 true 6] := by kernel_rfl
def c213t : Nat → List AI
 | 0 => [Xl 0 2 1 0 [], Xc 1 3 58 2 [2], Xj 2 4 .eql 3 16 [3]]
 | 1 => [Xl 0 5 1 0 [4], Xc 1 6 57 5 [5]]
 | 2 => [Xf 0 7 4 1 [], Xl 1 8 1 7 [], Xl 2 9 1 0 [], ⟨3, (some 10), .call (.cst (.fn (.func 56) [] [])) [(Xt 9), (Xi 1)], none, [0, 1]⟩, Xo 4 11 (.field false 1 1 (Xt 10)) [], Xo 5 12 (.bslice 9 false 1 1 [(.str ⟨#[]⟩)] [(0, 1, (Xt 11))]) [0, 1], Xo 6 13 (.append 9 1 16 [(.str ⟨#[]⟩)] (Xt 8) (Xt 12)) [], Xf 7 14 4 1 [], Xs 8 1 14 13 []]
 | 4 => [Xf 0 15 4 1 [], Xl 1 16 1 15 [15], Xo 2 17 (.len false (Xt 16)) [16], Xf 3 18 3 1 [], Xs 4 1 18 17 [18, 17]]
 | 5 => [Xf 0 19 3 1 [], Xl 1 20 1 19 [19], Xj 2 21 .gtr 20 0 [20], Xm 3 22 21 [21], Xu 4 23 (.load false 1 (Xt 0)) 22 [], ⟨5, (some 24), .call (.cst (.fn (.func 58) [] [])) [(Xt 23)], (some (22, true)), [23]⟩, Xu 6 25 (.icmp .neq (Xt 24) (Xi 11)) 22 [24], Xo 7 26 (.pick (Xt 22) (Xt 25) Xq) [25, 22]]
 | 6 => [Xl 0 27 1 0 [26], ⟨1, (some 28), .call (.cst (.fn (.func 56) [] [])) [(Xt 27), (Xi 12)], none, [27]⟩]
 | 7 => [Xl 0 29 1 0 [26, 28], ⟨1, (some 30), .call (.cst (.fn (.func 43) [] [])) [(Xt 29), (Xt 1), (Xi 11)], none, [29, 1]⟩]
 | 8 => [Xl 0 31 1 0 [30, 0], Xc 1 32 57 31 [31]]
 | _ => []
def c213l3 : AC := (.seq (.seq (.regT c213t 0) (.cond (.tmp 4) .skip (.exit 0))) (.block 1 (.seq (.regT c213t 1) (.regD [c213t 2]))))
def c213c : AC := (.seq (.block 0 (.loop c213l3)) (.seq (.seq (.regT c213t 4) (.seq (.regT c213t 5) (.cond (.tmp 26) (.regT c213t 6) .skip))) (.seq (.regT c213t 7) (.regT c213t 8))))
def c213a : Ann := fun id => match id with
 | 3 => Xan c213t 4
 | 4 => Xan c213t 5
 | 5 => Xan c213t 6
 | 6 => Xan c213t 7
 | 7 => Xan c213t 8
 | n => Xan c213t n
theorem c213ok : Ko 33 c213a Tryz.f213 = some (inst c213c) := by kernel_rfl
theorem c213call : Kc 213 = true := by kernel_rfl
theorem c213res : Kr Tryz.f213 = some [] := by kernel_rfl
end Go.SL
namespace Go.SL
open Go.Proofs
set_option maxRecDepth 10000
def letterS (c : Int) : Bool := decide (97 ≤ c) && decide (c ≤ 122) || decide (65 ≤ c) && decide (c ≤ 90)
def digitS (c : Int) : Bool := decide (48 ≤ c) && decide (c ≤ 57)
theorem byte_cases (p : Int → Prop) [DecidablePred p] (h : ∀ n : Fin 256, p (n.val : Int)) (c : Int) (h0 : 0 ≤ c) (h1 : c < 256) : p c := by
 have := h ⟨c.toNat, by omega⟩
 simpa [Int.toNat_of_nonneg h0] using this
theorem letter_or (c : Int) (h0 : 0 ≤ c) (h1 : c < 256) : (decide (97 ≤ orK .u8 c 32) && decide (orK .u8 c 32 ≤ 122)) = letterS c :=
 byte_cases (fun c => (decide (97 ≤ orK .u8 c 32) && decide (orK .u8 c 32 ≤ 122)) = letterS c) (by decide) c h0 h1
theorem f96_ok (c : Int) (h0 : 0 ≤ c) (h1 : c < 256) : DF Tryz.prog 96 [.int .u8 c] (.bool (letterS c)) := by
 have hl := letter_or c h0 h1
 refine AF.start 60 Tryz.func96 rfl rfl c96call c96ok ?_
 simp [c96c, c96t]
 refine ATT.cC (fun h => ?_) (fun h => ?_)
 ·simp [h]
  refine ATT.fin Tryz.func96 c96res ?_
  simp [h] at hl ⊢
  exact hl
 ·simp [h]
  refine ATT.fin Tryz.func96 c96res ?_
  simp [h] at hl ⊢
  exact hl
theorem f99_ok (c : Int) : DF Tryz.prog 99 [.int .u8 c] (.bool (digitS c)) := by
 refine AF.start 60 Tryz.func99 rfl rfl c99call c99ok ?_
 simp [c99c, c99t]
 refine ATT.cC (fun h => ?_) (fun h => ?_)
 ·simp [h]
  refine ATT.fin Tryz.func99 c99res ?_
  simp [digitS, h]
 ·simp [h]
  refine ATT.fin Tryz.func99 c99res ?_
  simp [digitS, h]
def identS (c : Int) : Bool := letterS c || digitS c || decide (c = 95)
theorem f131_ok (c : Int) (h0 : 0 ≤ c) (h1 : c < 256) : DF Tryz.prog 131 [.int .u8 c] (.bool (identS c)) := by
 refine AF.start 60 Tryz.func131 rfl rfl c131call c131ok ?_
 simp [c131c, c131t]
 refine ATT.callD Tryz.func131 60 (f96_ok c h0 h1) trivial (by simp) rfl ?_
 simp
 cases hl : letterS c with
 | true =>
  simp
  refine ATT.fin Tryz.func131 c131res ?_
  simp [identS, hl]
 | false =>
  simp
  refine ATT.callD Tryz.func131 60 (f99_ok c) (by simp) (by simp) rfl ?_
  simp
  cases hd : digitS c with
  | true =>
   simp
   refine ATT.fin Tryz.func131 c131res ?_
   simp [identS, hl, hd]
  | false =>
   simp
   refine ATT.fin Tryz.func131 c131res ?_
   simp [identS, hl, hd]
theorem sbyte_bd (s : ByteArray) (i : Int) : 0 ≤ sbyte s i ∧ sbyte s i < 256 := by
 unfold sbyte
 have := (s.data.toList.getD i.toNat 0).toNat_lt
 omega
abbrev RD (s : ByteArray) (i : Nat) : List Bx := [.cells [.d (.str s), .d (.int .i64 i)] 132]
def FnB (g : FuncId) (p : Int → Bool) : Prop := ∀ c, 0 ≤ c → c < 256 → DF Tryz.prog g [.int .u8 c] (.bool (p c))
theorem f94_ok {g : FuncId} {p : Int → Bool} (hp : FnB g p) (s : ByteArray) (i : Nat) :
  MF Tryz.prog 94 [.ptr 0 0, .d (.fn (.func g) [] [])] (RD s i) (.d (.bool (decide (i < s.size) && p (sbyte s i)))) (RD s i) := by
 refine AF.start 60 Tryz.func94 rfl rfl c94call c94ok ?_
 simp [c94c, c94t, RD]
 refine ATT.cE (fun h => ?_) (fun h => ?_)
 ·simp [h]
  refine ATT.callRD Tryz.func94 60 (hp (sbyte s i) (sbyte_bd s i).1 (sbyte_bd s i).2) (by simp) (by simp) (by simp [inR, h]) ?_
  simp
  refine ATT.fin Tryz.func94 c94res ?_
  simp
 ·simp [h]
  refine ATT.fin Tryz.func94 c94res ?_
  simp
def skipS (p : Int → Bool) (s : ByteArray) (i : Nat) : Nat := if h : i < s.size then (if p (sbyte s i) then skipS p s (i + 1) else i) else i
termination_by s.size - i
theorem skipS_no {p : Int → Bool} {s : ByteArray} {i : Nat} (h : (decide (i < s.size) && p (sbyte s i)) = false) : skipS p s i = i := by
 unfold skipS
 split
 ·rename_i h1
  simp [h1] at h
  simp [h]
 ·rfl
theorem skipS_yes {p : Int → Bool} {s : ByteArray} {i : Nat} (h : (decide (i < s.size) && p (sbyte s i)) = true) : skipS p s i = skipS p s (i + 1) := by
 simp at h
 rw [skipS]
 simp [h]
theorem f62_ok {g : FuncId} {p : Int → Bool} (hp : FnB g p) (s : ByteArray) (hs : s.size ≤ 1073741824) (i : Nat) :
  MF Tryz.prog 62 [.ptr 0 0, .d (.fn (.func g) [] [])] (RD s i) (.d (.tup [])) (RD s (skipS p s i)) := by
 refine AF.start 60 Tryz.func62 rfl rfl c62call c62ok ?_
 simp [c62c, RD]
 refine ATT.loop' [(0, V.ptr 0 0), (1, V.d (D.fn (Fn.func g) [] []))] rfl (by simp) ?_
 suffices H : ∀ m i, s.size - i = m → LP Tryz.prog 14 (.of 62) (fun o h => o = Out.ret (V.d (D.tup [])) ∧ ∃ r w, h = ⟨Bx.cells [V.d (D.str s), V.d (D.int IntKind.i64 (skipS p s i))] 132 :: r, w⟩) c62l2 [AItem.blk 0] [(0, V.ptr 0 0), (1, V.d (D.fn (Fn.func g) [] []))] ⟨RD s i, []⟩ from H _ i rfl
 intro m
 induction m with
 | zero =>
  intro i hi
  refine LP.of 60 c62l2.eq_1 ?_
  simp [c62t, RD]
  refine ATT.callM Tryz.func62 60 [0] (f94_ok hp s i) rfl trivial (by simp) (by simp [RD]) (by simp) rfl ?_
  have h0 : ¬ i < s.size := by omega
  simp [RD, h0]
  refine ATT.fin0 Tryz.func62 c62res ?_
  simp [skipS_no (p := p) (s := s) (i := i) (by simp [h0])]
 | succ m ih =>
  intro i hi
  refine LP.of 60 c62l2.eq_1 ?_
  simp [c62t, RD]
  refine ATT.callM Tryz.func62 60 [0] (f94_ok hp s i) rfl trivial (by simp) (by simp [RD]) (by simp) rfl ?_
  simp [RD]
  cases hb : (decide (i < s.size) && p (sbyte s i)) with
  | false =>
   simp
   refine ATT.fin0 Tryz.func62 c62res ?_
   simp [skipS_no hb]
  | true =>
   simp [c62t]
   refine ATT.again' [(0, V.ptr 0 0), (1, V.d (D.fn (Fn.func g) [] []))] ?_ (by simp) ?_
   ·simp [inI]; omega
   ·rw [skipS_yes hb]
    exact ih (i + 1) (by omega)
def atS (s : ByteArray) (i : Nat) : Int := if i < s.size then sbyte s i else 0
theorem f102_ok (s : ByteArray) (_hs : s.size ≤ 1073741824) (i n : Nat) (hi : i ≤ 1073741830) (hn : n ≤ 2) :
  MF Tryz.prog 102 [.ptr 0 0, .d (.int .i64 n)] (RD s i) (.d (.int .u8 (atS s (i + n)))) (RD s i) := by
 have hI : inI ((i : Int) + n) = true := inI_of (by omega) (by omega)
 refine AF.start 60 Tryz.func102 rfl rfl c102call c102ok ?_
 simp [c102c, c102t, RD, hI]
 refine ATT.cD (fun h => ?_) (fun h => ?_)
 ·have h' : i + n < s.size := by omega
  have hR : inR ((i : Int) + n) s.size = true := inR_of (by omega) (by omega)
  simp [h, hI, hR]
  refine ATT.fin Tryz.func102 c102res ?_
  simp [atS, h']
 ·have h' : ¬ i + n < s.size := by omega
  simp [h, c102t]
  refine ATT.fin Tryz.func102 c102res ?_
  simp [atS, h']
def colonS (s : ByteArray) (i : Nat) : Bool := decide (atS s i = 58) && !decide (atS s (i + 1) = 61)
theorem f98_ok (s : ByteArray) (hs : s.size ≤ 1073741824) (i : Nat) (hi : i ≤ 1073741824) : MF Tryz.prog 98 [.ptr 0 0] (RD s i) (.d (.bool (colonS s i))) (RD s i) := by
 refine AF.start 60 Tryz.func98 rfl rfl c98call c98ok ?_
 simp [c98c, c98t]
 refine ATT.callM Tryz.func98 60 [0] (f102_ok s hs i 0 (by omega) (by omega)) rfl trivial (by simp) (by simp [RD]) (by simp) rfl ?_
 simp [RD]
 refine ATT.cC (fun h => ?_) (fun h => ?_)
 ·simp [h]
  refine ATT.callM Tryz.func98 60 [0] (f102_ok s hs i 1 (by omega) (by omega)) rfl (by simp) (by simp) (by simp [RD]) (by simp) rfl ?_
  simp [RD]
  refine ATT.fin Tryz.func98 c98res ?_
  simp [colonS, h]
 ·simp [h]
  refine ATT.fin Tryz.func98 c98res ?_
  simp [colonS, h]
def nameS (s : ByteArray) (i : Nat) : Nat := if (decide (i < s.size) && letterS (sbyte s i)) then skipS identS s i else i
theorem letterB : FnB 96 letterS := fun c h0 h1 => f96_ok c h0 h1
theorem identB : FnB 131 identS := fun c h0 h1 => f131_ok c h0 h1
theorem digitB : FnB 99 digitS := fun c _ _ => f99_ok c
theorem f97_ok (s : ByteArray) (hs : s.size ≤ 1073741824) (i : Nat) : MF Tryz.prog 97 [.ptr 0 0] (RD s i) (.d (.bool (decide (i < s.size) && letterS (sbyte s i)))) (RD s (nameS s i)) := by
 have hM := f94_ok letterB s i
 have hn : nameS s i = if (decide (i < s.size) && letterS (sbyte s i)) then skipS identS s i else i := rfl
 generalize (decide (i < s.size) && letterS (sbyte s i)) = b at hM hn ⊢
 refine AF.start 60 Tryz.func97 rfl rfl c97call c97ok ?_
 simp [c97c, c97t]
 refine ATT.callM Tryz.func97 60 [0] hM rfl trivial (by simp) (by simp [RD]) (by simp) rfl ?_
 simp [RD]
 cases b with
 | false =>
  simp [c97t]
  refine ATT.fin Tryz.func97 c97res ?_
  simp [hn]
 | true =>
  simp [c97t]
  refine ATT.callM Tryz.func97 60 [0] (f62_ok identB s hs i) rfl trivial (by simp) (by simp [RD]) (by simp) rfl ?_
  simp [RD, c97t]
  refine ATT.fin Tryz.func97 c97res ?_
  simp [hn]
def Ascii (s : ByteArray) : Prop := ∀ i, i < s.size → sbyte s i < 128
theorem get_sbyte (s : ByteArray) (i : Nat) (h : i < s.size) : ((s.get! i).toNat : Int) = sbyte s i := by
 unfold sbyte
 have h' : i < s.data.size := h
 simp [ByteArray.get!, getElem!_def, Array.getElem?_eq_getElem h', List.getD]
theorem decode_of (s : ByteArray) (i : Nat) (h : i < s.size) (ha : sbyte s i < 128) : Utf8.decode s i = ((sbyte s i).toNat, 1) := by
 have hg := get_sbyte s i h
 have : (s.get! i).toNat < 128 := by omega
 unfold Utf8.decode
 simp only [Nat.add_zero]
 rw [if_pos (by simpa using this)]
 congr 1
 omega
def placeS (c : Int) (s : ByteArray) (i : Nat) : Int := if h : i < s.size then (if sbyte s i = c then i else placeS c s (i + 1)) else -1
termination_by s.size - i
theorem f64_ok (c : Int) (s : ByteArray) (ha : Ascii s) : DF Tryz.prog 64 [.int .u8 c, .str s] (.int .i64 (placeS c s 0)) := by
 refine AF.start 60 Tryz.func64 rfl rfl c64call c64ok ?_
 simp [c64c, c64t]
 refine ATT.loop' [(8, V.ptr 0 0), (0, V.d (D.int IntKind.u8 c))] rfl (by simp) ?_
 generalize hr : placeS c s 0 = r
 suffices H : ∀ m i, s.size - i = m → placeS c s i = r → LP Tryz.prog 18 (.of 64) (fun o x => o = Out.ret (V.d (D.int IntKind.i64 r))) c64l6 [AItem.blk 0, AItem.code ((AC.regT c64t 7).seq AC.ret)]
   [(8, V.ptr 0 0), (0, V.d (D.int IntKind.u8 c))] { bx := [Bx.iter s i], vc := [] } from H _ 0 rfl hr
 clear hr
 intro m
 induction m with
 | zero =>
  intro i hm hr
  refine LP.of 60 c64l6.eq_1 ?_
  have h0 : ¬ i < s.size := by omega
  simp [c64t, h0]
  refine ATT.fin Tryz.func64 c64res ?_
  rw [placeS] at hr
  simp [h0] at hr
  simp [hr]
 | succ m ih =>
  intro i hm hr
  refine LP.of 60 c64l6.eq_1 ?_
  have h0 : i < s.size := by omega
  have hd := decode_of s i h0 (ha i h0)
  have hb := sbyte_bd s i
  have hw : IntKind.u8.wrap (sbyte s i) = sbyte s i := by
   simp [IntKind.wrap, IntKind.bits, IntKind.signed]
   omega
  have ht : (((sbyte s i).toNat : Nat) : Int) = sbyte s i := by omega
  simp [c64t, h0, hd, ht, hw]
  rw [placeS] at hr
  simp only [h0, dite_true] at hr
  refine ATT.cD (fun h => ?_) (fun h => ?_)
  ·simp [c64t, h]
   refine ATT.fin Tryz.func64 c64res ?_
   rw [if_pos h] at hr
   simp [hr]
  ·simp [h]
   rw [if_neg h] at hr
   exact ATT.again' _ rfl (by simp) (ih (i + 1) (by omega) hr)
end Go.SL
namespace Go.SL
open Go.Proofs
set_option maxRecDepth 10000
theorem f137_ok (l : List Nat) (nl : Bool) (sz : Nat) (h1 : nl = true → l = []) (h2 : nl = false → sz = 1) (hu : U32 l) (hb : l.length ≤ 1000000) : DE Tryz.prog 137 [.sl nl sz (wD l)] (Wd (wv l) l.length) := by
 refine AF.start' 60 Tryz.func137 rfl rfl c137call c137ok fun Q hQ => ?_
 simp [c137c, c137t]
 generalize hN : wv l = N at hQ
 refine ATT.loopG 60 c137l3.eq_1 (fun (k : List Nat) => k.length) (fun (k : List Nat) => (nl = true → k = []) ∧ U32 k ∧ wv k = N ∧ k.length ≤ l.length) (fun (k : List Nat) => [(0, .d (.sl nl sz (wD k)))]) (fun (k : List Nat) => []) (fun (k : List Nat) => []) (l) (by (try dsimp only); exact ⟨h1, hu, hN, Nat.le_refl _⟩) (by simp <;> omega) (by simp) (by simp) ?_
 intro k u w hI ih
 try simp only at hI ih
 obtain ⟨i1, i2, i3, i4⟩ := hI
 rcases List.eq_nil_or_concat k with e | ⟨q, x, e⟩
 ·subst e
  simp [c137t]
  refine ATT.fin' hQ Tryz.func137 c137res ?_
  exact ⟨by simp, _, rfl, nl, sz, [], rfl, fun _ => rfl, h2, Can.nil, i3, by simp⟩
 ·have e : k = q ++ [x] := by simpa using e
  subst e
  have hnl : nl = false := by cases nl <;> simp at i1 ⊢
  subst hnl
  have hsz := h2 rfl
  subst hsz
  have hget := wD_getE (l := q ++ [x]) (i := q.length) (x := x) (by simp)
  have htk : (wD (q ++ [x])).take q.length = wD q := by rw [wD_app]; simp
  have hl1 : q.length + 1 ≤ 1000000 := by simp at i4; omega
  have hR : inI ((q.length : Int)) = true := inI_of (by omega) (by omega)
  have hp : (0 : Int) < (q.length : Int) + 1 := by omega
  by_cases hx : x = 0
  ·subst hx
   simp [c137t, hget, htk, hR, hp, lget]
   refine ih (q) (by first | ((try dsimp only); omega) | (simp <;> omega)) (by (try dsimp only); exact ⟨by simp, i2.left, by rw [← i3, wv_app]; simp [wv], by simp at i4; omega⟩) _ _ _ (by simp <;> omega) (by simp <;> omega) (by simp <;> omega)
  ·have hx' : ¬ (x : Int) = 0 := by omega
   simp [c137t, hget, hR, hp, lget, hx]
   refine ATT.fin' hQ Tryz.func137 c137res ?_
   exact ⟨by simp, _, rfl, false, 1, q ++ [x], rfl, by simp, fun _ => rfl, ⟨i2, fun q' e => hx (by have := congrArg List.getLast? e; simpa using this)⟩, i3, by simpa using i4⟩
theorem f135_ok (m n : Nat) (ka kb : Nat) (va vb : D) (ha : Wd m ka va) (hb : Wd n kb vb) (hk : ka ≤ 100000 ∧ kb ≤ 100000) : DE Tryz.prog 135 [va, vb] (Wd (m + n) (max ka kb + 1)) := by
 obtain ⟨nla, sza, la, ea, a1, a2, a3, a4, a5⟩ := ha.words
 obtain ⟨nlb, szb, lb, eb, b1, b2, b3, b4, b5⟩ := hb.words
 subst ea eb
 by_cases hlt : la.length < lb.length
 ·have hlt' : (la.length : Int) < lb.length := by omega
  have hR0 : inI ((lb.length : Int) + 1) = true := inI_of (by omega) (by omega)
  have hR1 : (0 : Int) ≤ (lb.length : Int) + 1 := by omega
  have hR2 : ((lb.length : Int) + 1) * 4 ≤ 140737488355328 := by omega
  have hR3 : ((lb.length : Int) + 1).toNat = lb.length + 1 := by omega
  refine AF.start' 60 Tryz.func135 rfl rfl c135call c135ok fun Q hQ => ?_
  simp [c135c, c135t, hR0, hR1, hR2, hR3, VW_zero, hlt']
  refine ATT.loopG 60 c135l14.eq_1 (fun ((o, r, c) : List Nat × Nat × Nat) => r) (fun ((o, r, c) : List Nat × Nat × Nat) => U32 o ∧ c ≤ 1 ∧ o.length + r = lb.length ∧ wv o + 4294967296 ^ o.length * c = wv (lb.take o.length) + wv (la.take o.length)) (fun ((o, r, c) : List Nat × Nat × Nat) => [(0, .d (.sl nlb szb (wD lb))), (1, .d (.sl nla sza (wD la))), (5, .vs 0 (o.length + (r + 1)) 0 (o.length + (r + 1))), (6, .d (.int .u64 c)), (20, .d (.int .i64 (o.length + r : Nat))), (21, .d (.int .i64 o.length))]) (fun ((o, r, c) : List Nat × Nat × Nat) => []) (fun ((o, r, c) : List Nat × Nat × Nat) => [some ⟨false, 1, 0, VW o (r + 1), 211⟩]) (([], lb.length, 0)) (by (try dsimp only); exact ⟨U32.nil, by simp, by simp, by simp [wv]⟩) (by simp <;> omega) (by simp) (by simp) ?_
  intro ⟨o, r, c⟩ u w hI ih
  try simp only at hI ih
  obtain ⟨i1, i2, i3, i4⟩ := hI
  cases r with
  | zero =>
   have hlo : ¬ (o.length : Int) < o.length := by omega
   have hci : (c : Int) < 4294967296 := by omega
   have hW3 : IntKind.u32.wrap (c : Int) = (c : Int) := by rw [wrap32i]; omega
   have hRo : inR (o.length : Int) (o.length + (0 + 1)) = true := inR_of (by omega) (by omega)
   have hRp : inR (o.length : Int) (o.length + 1) = true := inR_of (by omega) (by omega)
   have hset := VW_set o 0 c
   have hok := f137_ok (o ++ [c]) false 1 (by simp) (fun _ => rfl) (i1.app (by intro z hz; simp at hz; omega)) (by simp; omega)
   have hval : wv (o ++ [c]) = m + n := by
    have e1 : lb.take o.length = lb := List.take_of_length_le (by omega)
    have e2 : la.take o.length = la := List.take_of_length_le (by omega)
    rw [wv_app]
    simp only [wv, Nat.mul_zero, Nat.add_zero]
    rw [i4, e1, e2]; omega
   have i3' : o.length = lb.length := by omega
   have i3i : (lb.length : Int) = o.length := by omega
   have htk : List.take (o.length + 1) ((wD (o ++ [c])).map V.d) = (wD (o ++ [c])).map V.d := List.take_of_length_le (by simp)
   simp [c135t, hlo, hW3, hRo, hset, VW_done, i3i]
   refine ATT.fz (by simp) ?_
   simp [htk]
   refine ATT.callE Tryz.func135 60 hok (by simp) (by simp) (by simp) fun v hv => ?_
   simp
   refine ATT.fin' hQ Tryz.func135 c135res ?_
   rw [hval] at hv
   exact ⟨by simp, _, rfl, hv.mono (by simp; omega)⟩
  | succ r =>
   have hlo : o.length < lb.length := by omega
   obtain ⟨x, hx⟩ : ∃ x, lb[o.length]? = some x := ⟨_, List.getElem?_eq_getElem hlo⟩
   have hx32 := b3 x (List.mem_of_getElem? hx)
   have hna : nlb = false := by cases nlb with | false => rfl | true => (have := b1 rfl; subst this; simp at hlo)
   subst hna
   have hsa := b2 rfl
   subst hsa
   have hlt1 : (o.length : Int) < (o.length : Int) + ((r : Int) + 1) := by omega
   by_cases hbl : o.length < la.length
   ·obtain ⟨y, hy⟩ : ∃ y, la[o.length]? = some y := ⟨_, List.getElem?_eq_getElem hbl⟩
    have hy32 := a3 y (List.mem_of_getElem? hy)
    have hnb : nla = false := by cases nla with | false => rfl | true => (have := a1 rfl; subst this; simp at hbl)
    subst hnb
    have hsb := a2 rfl
    subst hsb
    have hgy := wD_getE hy
    have hgy2 := wD_get hy
    have hWy : IntKind.u64.wrap (y : Int) = y := wrap64i (by omega) (by omega)
    have htk := wv_take hy
    have hL := (List.getElem?_eq_some_iff.1 hx).1
    have hW1 : IntKind.u64.wrap ((c : Int) + (x : Int)) = (c : Int) + (x : Int) := wrap64i (by omega) (by omega)
    have hW2 : IntKind.u64.wrap ((c : Int) + (x : Int) + (y : Int)) = (c : Int) + (x : Int) + (y : Int) := wrap64i (by omega) (by omega)
    have hW3 : IntKind.u32.wrap ((c : Int) + (x : Int) + (y : Int)) = ((c : Int) + (x : Int) + (y : Int)) % 4294967296 := wrap32i
    have hW4 : ((c : Int) + (x : Int) + (y : Int)).fdiv 4294967296 = ((c : Int) + (x : Int) + (y : Int)) / 4294967296 := Int.fdiv_eq_ediv_of_nonneg _ (by decide)
    have hI1 : inI ((o.length : Int) + 1) = true := inI_of (by omega) (by omega)
    have hRo : inR (o.length : Int) (o.length + (r + 1 + 1)) = true := inR_of (by omega) (by omega)
    have hset : (VW o (r + 1 + 1)).set o.length (.d (.int .u32 (((c : Int) + (x : Int) + (y : Int)) % 4294967296))) = VW (o ++ [(c + x + y) % 4294967296]) (r + 1) := by have := VW_set o (r + 1) ((c + x + y) % 4294967296); simpa using this
    have hgx := wD_getE hx
    have hgx2 := wD_get hx
    have hWx : IntKind.u64.wrap (x : Int) = x := wrap64i (by omega) (by omega)
    simp [c135t, hW1, hW2, hW3, hW4, hI1, hRo, hset, hgx2, hWx, IntKind.bits, hgy, hWy, hbl, hlt1]
    refine ih (o ++ [(c + x + y) % 4294967296], r, (c + x + y) / 4294967296) (by first | ((try dsimp only); omega) | (simp [hW1, hW2, hW3, hW4, hI1, hRo, hset, hgx, hgx2, hWx, IntKind.bits, hgy, hgy2, hWy, hbl, hlt1] <;> omega)) (by (try dsimp only); exact ⟨i1.app (by intro z hz; simp at hz; omega), by omega, by simp; omega, by simp only [List.length_append, List.length_singleton]; rw [wv_take hx, htk, wv_app, Nat.pow_succ]; simp only [wv]; have := Nat.div_add_mod (c + x + y) 4294967296; exact plus_step i4 this⟩) _ _ _ (by simp <;> omega) (by simp <;> omega) (by simp <;> omega)
   ·have htk : wv (la.take (o.length + 1)) = wv (la.take o.length) + 4294967296 ^ o.length * 0 := by rw [List.take_of_length_le (by omega), List.take_of_length_le (by omega)]; simp
    have hL := (List.getElem?_eq_some_iff.1 hx).1
    have hW1 : IntKind.u64.wrap ((c : Int) + (x : Int)) = (c : Int) + (x : Int) := wrap64i (by omega) (by omega)
    have hW2 : IntKind.u64.wrap ((c : Int) + (x : Int) + (0 : Int)) = (c : Int) + (x : Int) + (0 : Int) := wrap64i (by omega) (by omega)
    have hW3 : IntKind.u32.wrap ((c : Int) + (x : Int)) = ((c : Int) + (x : Int)) % 4294967296 := wrap32i
    have hW4 : ((c : Int) + (x : Int)).fdiv 4294967296 = ((c : Int) + (x : Int)) / 4294967296 := Int.fdiv_eq_ediv_of_nonneg _ (by decide)
    have hI1 : inI ((o.length : Int) + 1) = true := inI_of (by omega) (by omega)
    have hRo : inR (o.length : Int) (o.length + (r + 1 + 1)) = true := inR_of (by omega) (by omega)
    have hset : (VW o (r + 1 + 1)).set o.length (.d (.int .u32 (((c : Int) + (x : Int)) % 4294967296))) = VW (o ++ [(c + x + 0) % 4294967296]) (r + 1) := by have := VW_set o (r + 1) ((c + x + 0) % 4294967296); simpa using this
    have hgx := wD_getE hx
    have hgx2 := wD_get hx
    have hWx : IntKind.u64.wrap (x : Int) = x := wrap64i (by omega) (by omega)
    simp [c135t, hW1, hW3, hW4, hI1, hRo, hset, hgx2, hWx, IntKind.bits, hbl, hlt1]
    refine ih (o ++ [(c + x + 0) % 4294967296], r, (c + x + 0) / 4294967296) (by first | ((try dsimp only); omega) | (simp [hW1, hW2, hW3, hW4, hI1, hRo, hset, hgx, hgx2, hWx, IntKind.bits, hbl, hlt1] <;> omega)) (by (try dsimp only); exact ⟨i1.app (by intro z hz; simp at hz; omega), by omega, by simp; omega, by simp only [List.length_append, List.length_singleton]; rw [wv_take hx, htk, wv_app, Nat.pow_succ]; simp only [wv]; have := Nat.div_add_mod (c + x + 0) 4294967296; exact plus_step i4 this⟩) _ _ _ (by simp <;> omega) (by simp <;> omega) (by simp <;> omega)
 ·have hlt' : ¬ (la.length : Int) < lb.length := by omega
  have hR0 : inI ((la.length : Int) + 1) = true := inI_of (by omega) (by omega)
  have hR1 : (0 : Int) ≤ (la.length : Int) + 1 := by omega
  have hR2 : ((la.length : Int) + 1) * 4 ≤ 140737488355328 := by omega
  have hR3 : ((la.length : Int) + 1).toNat = la.length + 1 := by omega
  refine AF.start' 60 Tryz.func135 rfl rfl c135call c135ok fun Q hQ => ?_
  simp [c135c, c135t, hR0, hR1, hR2, hR3, VW_zero, hlt']
  refine ATT.loopG 60 c135l14.eq_1 (fun ((o, r, c) : List Nat × Nat × Nat) => r) (fun ((o, r, c) : List Nat × Nat × Nat) => U32 o ∧ c ≤ 1 ∧ o.length + r = la.length ∧ wv o + 4294967296 ^ o.length * c = wv (la.take o.length) + wv (lb.take o.length)) (fun ((o, r, c) : List Nat × Nat × Nat) => [(0, .d (.sl nla sza (wD la))), (1, .d (.sl nlb szb (wD lb))), (5, .vs 0 (o.length + (r + 1)) 0 (o.length + (r + 1))), (6, .d (.int .u64 c)), (20, .d (.int .i64 (o.length + r : Nat))), (21, .d (.int .i64 o.length))]) (fun ((o, r, c) : List Nat × Nat × Nat) => []) (fun ((o, r, c) : List Nat × Nat × Nat) => [some ⟨false, 1, 0, VW o (r + 1), 211⟩]) (([], la.length, 0)) (by (try dsimp only); exact ⟨U32.nil, by simp, by simp, by simp [wv]⟩) (by simp <;> omega) (by simp) (by simp) ?_
  intro ⟨o, r, c⟩ u w hI ih
  try simp only at hI ih
  obtain ⟨i1, i2, i3, i4⟩ := hI
  cases r with
  | zero =>
   have hlo : ¬ (o.length : Int) < o.length := by omega
   have hci : (c : Int) < 4294967296 := by omega
   have hW3 : IntKind.u32.wrap (c : Int) = (c : Int) := by rw [wrap32i]; omega
   have hRo : inR (o.length : Int) (o.length + (0 + 1)) = true := inR_of (by omega) (by omega)
   have hRp : inR (o.length : Int) (o.length + 1) = true := inR_of (by omega) (by omega)
   have hset := VW_set o 0 c
   have hok := f137_ok (o ++ [c]) false 1 (by simp) (fun _ => rfl) (i1.app (by intro z hz; simp at hz; omega)) (by simp; omega)
   have hval : wv (o ++ [c]) = m + n := by
    have e1 : la.take o.length = la := List.take_of_length_le (by omega)
    have e2 : lb.take o.length = lb := List.take_of_length_le (by omega)
    rw [wv_app]
    simp only [wv, Nat.mul_zero, Nat.add_zero]
    rw [i4, e1, e2]; omega
   have i3' : o.length = la.length := by omega
   have i3i : (la.length : Int) = o.length := by omega
   have htk : List.take (o.length + 1) ((wD (o ++ [c])).map V.d) = (wD (o ++ [c])).map V.d := List.take_of_length_le (by simp)
   simp [c135t, hlo, hW3, hRo, hset, VW_done, i3i]
   refine ATT.fz (by simp) ?_
   simp [htk]
   refine ATT.callE Tryz.func135 60 hok (by simp) (by simp) (by simp) fun v hv => ?_
   simp
   refine ATT.fin' hQ Tryz.func135 c135res ?_
   rw [hval] at hv
   exact ⟨by simp, _, rfl, hv.mono (by simp; omega)⟩
  | succ r =>
   have hlo : o.length < la.length := by omega
   obtain ⟨x, hx⟩ : ∃ x, la[o.length]? = some x := ⟨_, List.getElem?_eq_getElem hlo⟩
   have hx32 := a3 x (List.mem_of_getElem? hx)
   have hna : nla = false := by cases nla with | false => rfl | true => (have := a1 rfl; subst this; simp at hlo)
   subst hna
   have hsa := a2 rfl
   subst hsa
   have hlt1 : (o.length : Int) < (o.length : Int) + ((r : Int) + 1) := by omega
   by_cases hbl : o.length < lb.length
   ·obtain ⟨y, hy⟩ : ∃ y, lb[o.length]? = some y := ⟨_, List.getElem?_eq_getElem hbl⟩
    have hy32 := b3 y (List.mem_of_getElem? hy)
    have hnb : nlb = false := by cases nlb with | false => rfl | true => (have := b1 rfl; subst this; simp at hbl)
    subst hnb
    have hsb := b2 rfl
    subst hsb
    have hgy := wD_getE hy
    have hgy2 := wD_get hy
    have hWy : IntKind.u64.wrap (y : Int) = y := wrap64i (by omega) (by omega)
    have htk := wv_take hy
    have hL := (List.getElem?_eq_some_iff.1 hx).1
    have hW1 : IntKind.u64.wrap ((c : Int) + (x : Int)) = (c : Int) + (x : Int) := wrap64i (by omega) (by omega)
    have hW2 : IntKind.u64.wrap ((c : Int) + (x : Int) + (y : Int)) = (c : Int) + (x : Int) + (y : Int) := wrap64i (by omega) (by omega)
    have hW3 : IntKind.u32.wrap ((c : Int) + (x : Int) + (y : Int)) = ((c : Int) + (x : Int) + (y : Int)) % 4294967296 := wrap32i
    have hW4 : ((c : Int) + (x : Int) + (y : Int)).fdiv 4294967296 = ((c : Int) + (x : Int) + (y : Int)) / 4294967296 := Int.fdiv_eq_ediv_of_nonneg _ (by decide)
    have hI1 : inI ((o.length : Int) + 1) = true := inI_of (by omega) (by omega)
    have hRo : inR (o.length : Int) (o.length + (r + 1 + 1)) = true := inR_of (by omega) (by omega)
    have hset : (VW o (r + 1 + 1)).set o.length (.d (.int .u32 (((c : Int) + (x : Int) + (y : Int)) % 4294967296))) = VW (o ++ [(c + x + y) % 4294967296]) (r + 1) := by have := VW_set o (r + 1) ((c + x + y) % 4294967296); simpa using this
    have hgx := wD_getE hx
    have hgx2 := wD_get hx
    have hWx : IntKind.u64.wrap (x : Int) = x := wrap64i (by omega) (by omega)
    simp [c135t, hW1, hW2, hW3, hW4, hI1, hRo, hset, hgx2, hWx, IntKind.bits, hgy, hWy, hbl, hlt1]
    refine ih (o ++ [(c + x + y) % 4294967296], r, (c + x + y) / 4294967296) (by first | ((try dsimp only); omega) | (simp [hW1, hW2, hW3, hW4, hI1, hRo, hset, hgx, hgx2, hWx, IntKind.bits, hgy, hgy2, hWy, hbl, hlt1] <;> omega)) (by (try dsimp only); exact ⟨i1.app (by intro z hz; simp at hz; omega), by omega, by simp; omega, by simp only [List.length_append, List.length_singleton]; rw [wv_take hx, htk, wv_app, Nat.pow_succ]; simp only [wv]; have := Nat.div_add_mod (c + x + y) 4294967296; exact plus_step i4 this⟩) _ _ _ (by simp <;> omega) (by simp <;> omega) (by simp <;> omega)
   ·have htk : wv (lb.take (o.length + 1)) = wv (lb.take o.length) + 4294967296 ^ o.length * 0 := by rw [List.take_of_length_le (by omega), List.take_of_length_le (by omega)]; simp
    have hL := (List.getElem?_eq_some_iff.1 hx).1
    have hW1 : IntKind.u64.wrap ((c : Int) + (x : Int)) = (c : Int) + (x : Int) := wrap64i (by omega) (by omega)
    have hW2 : IntKind.u64.wrap ((c : Int) + (x : Int) + (0 : Int)) = (c : Int) + (x : Int) + (0 : Int) := wrap64i (by omega) (by omega)
    have hW3 : IntKind.u32.wrap ((c : Int) + (x : Int)) = ((c : Int) + (x : Int)) % 4294967296 := wrap32i
    have hW4 : ((c : Int) + (x : Int)).fdiv 4294967296 = ((c : Int) + (x : Int)) / 4294967296 := Int.fdiv_eq_ediv_of_nonneg _ (by decide)
    have hI1 : inI ((o.length : Int) + 1) = true := inI_of (by omega) (by omega)
    have hRo : inR (o.length : Int) (o.length + (r + 1 + 1)) = true := inR_of (by omega) (by omega)
    have hset : (VW o (r + 1 + 1)).set o.length (.d (.int .u32 (((c : Int) + (x : Int)) % 4294967296))) = VW (o ++ [(c + x + 0) % 4294967296]) (r + 1) := by have := VW_set o (r + 1) ((c + x + 0) % 4294967296); simpa using this
    have hgx := wD_getE hx
    have hgx2 := wD_get hx
    have hWx : IntKind.u64.wrap (x : Int) = x := wrap64i (by omega) (by omega)
    simp [c135t, hW1, hW3, hW4, hI1, hRo, hset, hgx2, hWx, IntKind.bits, hbl, hlt1]
    refine ih (o ++ [(c + x + 0) % 4294967296], r, (c + x + 0) / 4294967296) (by first | ((try dsimp only); omega) | (simp [hW1, hW2, hW3, hW4, hI1, hRo, hset, hgx, hgx2, hWx, IntKind.bits, hbl, hlt1] <;> omega)) (by (try dsimp only); exact ⟨i1.app (by intro z hz; simp at hz; omega), by omega, by simp; omega, by simp only [List.length_append, List.length_singleton]; rw [wv_take hx, htk, wv_app, Nat.pow_succ]; simp only [wv]; have := Nat.div_add_mod (c + x + 0) 4294967296; exact plus_step i4 this⟩) _ _ _ (by simp <;> omega) (by simp <;> omega) (by simp <;> omega)
set_option maxHeartbeats 1000000 in
theorem f136_ok (m n : Nat) (ka kb : Nat) (va vb : D) (ha : Wd m ka va) (hb : Wd n kb vb) (hk : ka ≤ 100000 ∧ kb ≤ 100000) : DE Tryz.prog 136 [va, vb] (Wd (m * n) (ka + kb)) := by
 obtain ⟨nla, sza, la, ea, a1, a2, a3, a4, a5⟩ := ha.words
 obtain ⟨nlb, szb, lb, eb, b1, b2, b3, b4, b5⟩ := hb.words
 subst ea eb
 have hR0 : inI ((la.length : Int) + (lb.length : Int)) = true := inI_of (by omega) (by omega)
 have hR1 : (0 : Int) ≤ (la.length : Int) + (lb.length : Int) := by omega
 have hR2 : ((la.length : Int) + (lb.length : Int)) * 4 ≤ 140737488355328 := by omega
 have hR3 : ((la.length : Int) + (lb.length : Int)).toNat = la.length + lb.length := by omega
 refine AF.start' 60 Tryz.func136 rfl rfl c136call c136ok fun Q hQ => ?_
 simp [c136c, c136t, hR0, hR1, hR2, hR3, wD_rep]
 refine ATT.loopG 60 c136l16.eq_1 (fun ((i, o) : Nat × List Nat) => la.length - i) (fun ((i, o) : Nat × List Nat) => i ≤ la.length ∧ o.length = la.length + lb.length ∧ U32 o ∧ wv o = wv (la.take i) * wv lb ∧ (∀ k, i + lb.length ≤ k → k < o.length → o[k]? = some 0)) (fun ((i, o) : Nat × List Nat) => [(1, .d (.sl nlb szb (wD lb))), (5, .vs 0 (la.length + lb.length) 0 (la.length + lb.length)), (17, .d (.sl nla sza (wD la))), (18, .d (.int .i64 la.length)), (19, .d (.int .i64 i))]) (fun ((i, o) : Nat × List Nat) => []) (fun ((i, o) : Nat × List Nat) => [some ⟨false, 1, 0, (wD o).map V.d, 211⟩]) ((0, List.replicate (la.length + lb.length) 0)) (by (try dsimp only); exact ⟨Nat.zero_le _, by simp, by intro z hz; simp at hz; omega, by simp [wv_rep, wv], by intro k _ hk; rw [List.getElem?_replicate, if_pos (by simpa using hk)]⟩) (by simp <;> omega) (by simp) (by simp) ?_
 intro ⟨i, o⟩ u w hI ih
 try simp only at hI ih
 obtain ⟨i1, i2, i3, i4, i5⟩ := hI
 have ihO := ih
 by_cases hil : i < la.length
 ·obtain ⟨x, hx⟩ : ∃ x, la[i]? = some x := ⟨_, List.getElem?_eq_getElem hil⟩
  have hx32 := a3.get hx
  have hna : nla = false := by cases nla with | false => rfl | true => (have := a1 rfl; subst this; simp at hil)
  subst hna
  have hsa := a2 rfl
  subst hsa
  have hgx := wD_get hx
  have hgx2 := wD_getE hx
  have hili : (i : Int) < la.length := by omega
  simp [c136t, hgx, hili]
  generalize hN : wv (la.take i) * wv lb = N0 at i4
  refine ATT.loopG 60 c136l13.eq_1 (fun ((j, c, p) : Nat × Nat × List Nat) => lb.length - j) (fun ((j, c, p) : Nat × Nat × List Nat) => j ≤ lb.length ∧ c < 4294967296 ∧ p.length = la.length + lb.length ∧ U32 p ∧ wv p + 4294967296 ^ i * 4294967296 ^ j * c = N0 + 4294967296 ^ i * x * wv (lb.take j) ∧ (∀ k, i + lb.length ≤ k → k < p.length → p[k]? = some 0)) (fun ((j, c, p) : Nat × Nat × List Nat) => [(1, .d (.sl nlb szb (wD lb))), (5, .vs 0 (la.length + lb.length) 0 (la.length + lb.length)), (6, .d (.int .i64 i)), (7, .d (.int .u32 x)), (8, .d (.int .u64 c)), (17, .d (.sl false 1 (wD la))), (18, .d (.int .i64 la.length)), (19, .d (.int .i64 i)), (24, .d (.sl nlb szb (wD lb))), (25, .d (.int .i64 lb.length)), (26, .d (.int .i64 j))]) (fun ((j, c, p) : Nat × Nat × List Nat) => []) (fun ((j, c, p) : Nat × Nat × List Nat) => [some ⟨false, 1, 0, (wD p).map V.d, 211⟩]) ((0, 0, o)) (by (try dsimp only); exact ⟨Nat.zero_le _, by decide, i2, i3, by simp [wv]; exact i4, i5⟩) (by simp <;> omega) (by simp) (by simp) ?_
  intro ⟨j, c, p⟩ u w hI ih
  try simp only at hI ih
  obtain ⟨j1, j2, j3, j4, j5, j6⟩ := hI
  by_cases hjl : j < lb.length
  ·obtain ⟨y, hy⟩ : ∃ y, lb[j]? = some y := ⟨_, List.getElem?_eq_getElem hjl⟩
   obtain ⟨z, hz⟩ : ∃ z, p[i + j]? = some z := ⟨_, List.getElem?_eq_getElem (by omega)⟩
   have hy32 := b3.get hy
   have hz32 := j4.get hz
   have hnb : nlb = false := by cases nlb with | false => rfl | true => (have := b1 rfl; subst this; simp at hjl)
   subst hnb
   have hsb := b2 rfl
   subst hsb
   have hgy := wD_get hy
   have hgy2 := wD_getE hy
   have hgz := wD_get hz
   have hgz2 := wD_getE hz
   have hjli : (j : Int) < lb.length := by omega
   have hp := Nat.mul_le_mul (show x ≤ 4294967295 by omega) (show y ≤ 4294967295 by omega)
   have hpi : (x : Int) * (y : Int) = ((x * y : Nat) : Int) := by simp
   generalize hP : x * y = P at hp hpi
   have hW1 : IntKind.u64.wrap (P : Int) = (P : Int) := wrap64i (by omega) (by omega)
   have hW2 : IntKind.u64.wrap ((P : Int) + (z : Int)) = (P : Int) + (z : Int) := wrap64i (by omega) (by omega)
   have hW3 : IntKind.u64.wrap ((c : Int) + ((P : Int) + (z : Int))) = (c : Int) + ((P : Int) + (z : Int)) := wrap64i (by omega) (by omega)
   have hW4 : IntKind.u32.wrap ((c : Int) + ((P : Int) + (z : Int))) = ((c : Int) + ((P : Int) + (z : Int))) % 4294967296 := wrap32i
   have hW5 : ((c : Int) + ((P : Int) + (z : Int))).fdiv 4294967296 = ((c : Int) + ((P : Int) + (z : Int))) / 4294967296 := Int.fdiv_eq_ediv_of_nonneg _ (by decide)
   have hWx : IntKind.u64.wrap (x : Int) = x := wrap64i (by omega) (by omega)
   have hWy : IntKind.u64.wrap (y : Int) = y := wrap64i (by omega) (by omega)
   have hWz : IntKind.u64.wrap (z : Int) = z := wrap64i (by omega) (by omega)
   have hIij : inI ((i : Int) + (j : Int)) = true := inI_of (by omega) (by omega)
   have hIj : inI ((j : Int) + 1) = true := inI_of (by omega) (by omega)
   have hij : ((i : Int) + (j : Int)).toNat = i + j := by omega
   have hRij : inR ((i : Int) + (j : Int)) (la.length + lb.length) = true := inR_of (by omega) (by omega)
   have hset : ((wD p).map V.d).set (i + j) (.d (.int .u32 (((c : Int) + ((P : Int) + (z : Int))) % 4294967296))) = (wD (p.set (i + j) ((c + (P + z)) % 4294967296))).map V.d := by have := wD_set p (i + j) ((c + (P + z)) % 4294967296); simpa using this
   simp [c136t, hgy, hgz, hjli, hpi, hW1, hW2, hW3, hW4, hW5, hWx, hWy, hWz, hIij, hIj, hij, hRij, hset, j3, IntKind.bits]
   have hd : 4294967296 * ((c + (P + z)) / 4294967296) + (c + (P + z)) % 4294967296 = c + (x * y + z) := by rw [hP]; exact Nat.div_add_mod _ _
   have h2 := wv_set ((c + (P + z)) % 4294967296) hz
   rw [Nat.pow_add] at h2
   refine ih (j + 1, (c + (P + z)) / 4294967296, p.set (i + j) ((c + (P + z)) % 4294967296)) (by first | ((try dsimp only); omega) | (simp [hgy, hgy2, hgz, hgz2, hjli, hpi, hW1, hW2, hW3, hW4, hW5, hWx, hWy, hWz, hIij, hIj, hij, hRij, hset, j3, IntKind.bits] <;> omega)) (by (try dsimp only); exact ⟨by omega, by omega, by simp; exact j3, j4.set (by omega), by rw [wv_take hy, Nat.pow_succ]; exact times_step j5 h2 hd, by intro k h1 h2; rw [List.getElem?_set_ne (by omega)]; exact j6 k h1 (by simpa using h2)⟩) _ _ _ (by simp <;> omega) (by simp <;> omega) (by simp <;> omega)
  ·have hje : j = lb.length := by omega
   subst hje
   have hz : p[i + lb.length]? = some 0 := j6 _ (Nat.le_refl _) (by omega)
   have hW : IntKind.u32.wrap (c : Int) = (c : Int) := by rw [wrap32i]; omega
   have hIij : inI ((i : Int) + (lb.length : Int)) = true := inI_of (by omega) (by omega)
   have hIi : inI ((i : Int) + 1) = true := inI_of (by omega) (by omega)
   have hij : ((i : Int) + (lb.length : Int)).toNat = i + lb.length := by omega
   have hRij : inR ((i : Int) + (lb.length : Int)) (la.length + lb.length) = true := inR_of (by omega) (by omega)
   have hset := wD_set p (i + lb.length) c
   have hlt : i + lb.length < la.length + lb.length := by omega
   have h2 := wv_set c hz
   rw [Nat.pow_add, Nat.mul_zero, Nat.add_zero] at h2
   rw [List.take_length] at j5
   simp [c136t, hW, hIij, hIi, hij, hRij, hset, j3, hlt]
   refine ihO (i + 1, p.set (i + lb.length) c) (by first | ((try dsimp only); omega) | (simp [hW, hIij, hIi, hij, hRij, hset, j3, hlt] <;> omega)) (by (try dsimp only); exact ⟨by omega, by simp; exact j3, j4.set j2, by rw [wv_take hx, Nat.add_mul, hN, h2, j5], by intro k h1 h2; rw [List.getElem?_set_ne (by omega)]; exact j6 k (by omega) (by simpa using h2)⟩) _ _ _ (by simp <;> omega) (by simp <;> omega) (by simp <;> omega)
 ·have hie : i = la.length := by omega
  subst hie
  have hok := f137_ok o false 1 (by simp) (fun _ => rfl) i3 (by omega)
  rw [List.take_length, a4, b4] at i4
  have htk : List.take (la.length + lb.length) ((wD o).map V.d) = (wD o).map V.d := List.take_of_length_le (by simp; omega)
  simp [c136t]
  refine ATT.fz (by simp) ?_
  simp [i2, htk]
  refine ATT.callE Tryz.func136 60 hok (by simp) (by simp) (by simp) fun v hv => ?_
  simp
  refine ATT.fin' hQ Tryz.func136 c136res ?_
  rw [i4] at hv
  exact ⟨by simp, _, rfl, hv.mono (by omega)⟩
end Go.SL
namespace Go.SL
open Go.Proofs
set_option maxRecDepth 10000
theorem f193_ok (nl : Bool) (sz : Nat) (xs : List D) (h1 : nl = true → xs = []) (h2 : nl = false → sz = 1) (hb : xs.length ≤ 1000000000) : DE Tryz.prog 193 [.sl nl sz xs] fun v => ∃ sz', v = .sl nl sz' xs ∧ (nl = false → sz' = 1) := by
 cases nl with
 | true =>
  have e := h1 rfl
  subst e
  refine AF.start' 60 Tryz.func193 rfl rfl c193call c193ok fun Q hQ => ?_
  simp [c193c, c193t]
  refine ATT.fin' hQ Tryz.func193 c193res ?_
  exact ⟨by simp, _, rfl, 0, rfl, by simp⟩
 | false =>
  have e := h2 rfl
  subst e
  have hl : xs.length ≤ 140737488355328 := by omega
  refine AF.start' 60 Tryz.func193 rfl rfl c193call c193ok fun Q hQ => ?_
  simp [c193c, c193t, hl]
  refine ATT.finz hQ Tryz.func193 c193res (by first | exact .inl rfl | exact .inr ⟨_, rfl⟩) ?_
  simp
  all_goals (first | omega | exact ⟨_, rfl⟩ | skip)
theorem f192_ok (nl : Bool) (sz : Nat) (xs : List D) : VF Tryz.prog 192 [.d (.sl nl sz xs)] [] [] (.fn (.func 202) [] [.ptr 0 0]) [.cells [.d (.sl nl sz xs)] 209] [] := by
 refine AF.start' 60 Tryz.func192 rfl rfl c192call c192ok fun Q hQ => ?_
 simp [c192c, c192t]
 refine ATT.fin' hQ Tryz.func192 c192res ?_
 simp
 all_goals (first | omega | exact ⟨_, rfl⟩ | skip)
set_option maxHeartbeats 1000000 in
theorem f183_ok (m k : Nat) (va : D) (ha : Wd m k va) (hk : k ≤ 100000) : DE Tryz.prog 183 [va] (Bd m (4 * k)) := by
 obtain ⟨nla, sza, la, ea, a1, a2, a3, a4, a5⟩ := ha.words
 subst ea
 have hT := f137_ok la nla sza a1 a2 a3 (by omega)
 rw [a4] at hT
 refine AF.start' 60 Tryz.func183 rfl rfl c183call c183ok fun Q hQ => ?_
 simp [c183c, c183t]
 refine ATT.callE Tryz.func183 60 hT (by simp) (by simp) (by simp) fun v hv => ?_
 obtain ⟨nl, sz, l, e, l1, l2, l3, l4, l5⟩ := hv
 subst e
 simp
 refine ATT.callV Tryz.func183 60 [] [] (f192_ok nl sz (wD l)) (by simp) (by simp) (by simp) (by simp) (by simp) (by simp) (by simp) ?_
 simp
 refine ATT.nilB 0 0 1 5 rfl rfl (by decide) (by simp) ?_
 simp
 have hI0 : inI ((l.length : Int) - 1) = true := inI_of (by omega) (by omega)
 refine ATT.rangeF (gid := 202) (all := fun y => [.d (.fn (.yield y) [] []), .ptr 1 0]) 60 (fun y => by simp) c202call Tryz.func202 rfl rfl c202ok (by simp) (fun y r => ?_)
 simp [c202c, c202t, hI0]
 refine ATT.loopG 60 c202l4.eq_1 (fun ((i, o) : Nat × List Nat) => i) (fun ((i, o) : Nat × List Nat) => i ≤ l.length ∧ o = wb (l.drop i)) (fun ((i, o) : Nat × List Nat) => [(3, .d (.int .i64 ((i : Int) - 1))), (0, .d (.fn (.yield y) [] [])), (1, .ptr 1 0)]) (fun ((i, o) : Nat × List Nat) => [.cells [.vs 0 o.length 0 o.length] 176, .cells [.d (.sl nl sz (wD l))] 209, .raw (DfR 2 r), .raw (LpR Tryz.prog ⟨183, 40, [(9, .fn (.func 202) [] [.ptr 1 0]), (3, .ptr 0 0)], [10, 11], c183r6a, c183r6b, r⟩ 3 y .ready none)]) (fun ((i, o) : Nat × List Nat) => [some ⟨o.isEmpty, 1, 0, (bD o).map V.d, 5⟩]) ((l.length, [])) (by (try dsimp only); exact ⟨Nat.le_refl _, by rw [List.drop_length]; rfl⟩) (by simp <;> omega) (by simp) (by simp) ?_
 intro ⟨i, o⟩ u w hI ih
 try simp only at hI ih
 obtain ⟨i1, i2⟩ := hI
 cases i with
 | zero =>
  simp [c202t]
  refine ATT.fin0' (fun _ _ h => h) Tryz.func202 c202res ⟨by simp, ?_⟩
  simp
  refine ⟨⟨_, rfl⟩, none, rfl, by simp, ?_⟩
  simp
  rw [List.drop_zero] at i2
  have hm : bv o = m := by rw [i2, wb_bv l3.1, l4]
  have hpos : o ≠ [] → 0 < m := fun h => by
   rw [← l4]; exact Can.pos (fun e => h (by rw [i2, e]; rfl)) l3
  have hu8 : U8 o := by rw [i2]; exact wb_u8 l
  have hol : o.length ≤ 4 * k := by rw [i2, wb_len]; omega
  refine ATT.loopG 60 c183l9.eq_1 (fun ((a, b) : List Nat × List Nat) => b.length) (fun ((a, b) : List Nat × List Nat) => o = a ++ b ∧ bv b = m) (fun ((a, b) : List Nat × List Nat) => [(3, .ptr 0 0)]) (fun ((a, b) : List Nat × List Nat) => [.cells [.vs 0 (a.length + b.length) a.length b.length] 176, .cells [.d (.sl nl sz (wD l))] 209, .raw (DfR 2 r)]) (fun ((a, b) : List Nat × List Nat) => [some ⟨o.isEmpty, 1, 0, (bD o).map V.d, 5⟩]) (([], o)) (by (try dsimp only); exact ⟨rfl, hm⟩) (by simp <;> omega) (by simp) (by simp) ?_
  intro ⟨a, b⟩ u w hI ih
  try simp only at hI ih
  obtain ⟨k1, k2⟩ := hI
  cases b with
  | nil =>
   have hoa : o.length = a.length := by rw [k1]; simp
   simp [c183t, hoa]
   refine ATT.fz (by simp) ?_
   simp [hoa]
   have ho0 : o = [] := Classical.byContradiction fun h => by have := hpos h; rw [← k2] at this; simp [bv, bvA] at this
   have hoe : o.isEmpty = true := by rw [ho0]; rfl
   have hC := f193_ok true 1 [] (fun _ => rfl) (by simp) (by simp)
   refine ATT.callE Tryz.func183 60 hC (by simp) (by simp [hoe]) (by simp) fun v hv => ?_
   obtain ⟨sz', e, hsz'⟩ := hv
   subst e
   simp
   refine ATT.retC (Q' := fun o h => (∃ v, o = .ret v) ∧ ∃ v, o = .ret (.d v) ∧ Bd m (4 * k) v) (fun o h hh => ⟨hh.1, hQ o h hh.2⟩) Tryz.func183 c183res 2 rfl rfl (by simp) (by simp) (by simp; rfl) ?_
   simp
   exact ⟨true, sz', [], rfl, fun _ => rfl, by simp, by simp [U8], by simp, k2, by simp⟩
  | cons x b =>
   have hne : o ≠ [] := by rw [k1]; simp
   have hie : o.isEmpty = false := by cases o <;> simp at hne ⊢
   have hgx : (bD o)[a.length]? = some (.int .u8 x) := bD_get (by rw [k1]; simp)
   have hgx2 := bD_getE (l := o) (i := a.length) (x := x) (by rw [k1]; simp)
   have hol2 : o.length = a.length + (b.length + 1) := by rw [k1]; simp
   have hr0 : inR 0 (b.length + 1) = true := inR_of (by omega) (by omega)
   by_cases hx : x = 0
   ·subst hx
    have hb : b ≠ [] := fun e => by have := hpos hne; rw [← k2, e] at this; simp [bv, bvA] at this
    have hbl : (1 : Int) < (b.length : Int) + 1 := by have := List.length_pos_iff.mpr hb; omega
    have hb1 : (1 : Int) ≤ (b.length : Int) + 1 := by omega
    have hbt : ((b.length : Int) + 1).toNat - 1 = b.length := by omega
    simp [c183t, hie, hgx2, hol2, hr0, hbl, hb1]
    refine ih (a ++ [0], b) (by first | ((try dsimp only); omega) | (simp <;> omega)) (by (try dsimp only); exact ⟨by rw [k1]; simp, k2⟩) _ _ _ (by simp <;> omega) (by simp <;> omega) (by simp [hie] <;> omega)
   ·have hx' : ¬ (x : Int) = 0 := by omega
    have hdt : List.take (b.length + 1) (List.drop a.length ((bD o).map V.d)) = (bD (x :: b)).map V.d := by
     rw [k1, bD_app, List.map_append, List.drop_left' (by simp), List.take_of_length_le (by simp)]
    simp [c183t, hie, hgx2, hol2, hr0, hx]
    refine ATT.fz (by simp) ?_
    simp [hol2, hdt]
    have hC := f193_ok false 1 (bD (x :: b)) (by simp) (fun _ => rfl) (by rw [hol2] at hol; simp; omega)
    refine ATT.callE Tryz.func183 60 hC (by simp) (by simp) (by simp) fun v hv => ?_
    obtain ⟨sz', e, hsz'⟩ := hv
    subst e
    simp
    refine ATT.retC (Q' := fun o h => (∃ v, o = .ret v) ∧ ∃ v, o = .ret (.d v) ∧ Bd m (4 * k) v) (fun o h hh => ⟨hh.1, hQ o h hh.2⟩) Tryz.func183 c183res 2 rfl rfl (by simp) (by simp) (by simp; rfl) ?_
    simp
    exact ⟨false, sz', x :: b, rfl, by simp, hsz', fun z hz => hu8 z (by rw [k1]; simp at hz ⊢; exact .inr hz), fun q e => hx (by simpa using (List.cons.inj e).1), k2, by rw [hol2] at hol; simp; omega⟩
 | succ i =>
  obtain ⟨x, hx⟩ : ∃ x, l[i]? = some x := ⟨_, List.getElem?_eq_getElem (by omega)⟩
  have hx32 := l3.1.get hx
  have hnl : nl = false := by cases nl with | false => rfl | true => (have := l1 rfl; subst this; simp at i1)
  subst hnl
  have hsz := l2 rfl
  subst hsz
  have hgx := wD_get hx
  have hgx2 := wD_getE hx
  have hi0 : (0 : Int) ≤ i := by omega
  have hII : inI ((i : Int) - 1) = true := inI_of (by omega) (by omega)
  simp [c202t, hgx, hi0]
  refine ATT.yield (l := y) 60 3 c183r6a.eq_1 (by simp) (by simp) (by rfl) rfl (by simp) ?_
  have hlim : o.length ≤ 140737488355324 := by rw [i2, wb_len]; simp; omega
  have e1 : IntKind.u8.wrap ((x : Int).fdiv 16777216) = (x : Int) / 16777216 % 256 := wrap8s x 16777216
  have e2 : IntKind.u8.wrap ((x : Int).fdiv 65536) = (x : Int) / 65536 % 256 := wrap8s x 65536
  have e3 : IntKind.u8.wrap ((x : Int).fdiv 256) = (x : Int) / 256 % 256 := wrap8s x 256
  simp [c183t]
  refine ATT.begin (l := y) 60 c183r6b.eq_1 (i := 3) rfl (by simp) ?_
  simp [c183t, hlim, e1, e2, e3, wrap8x, IntKind.bits]
  refine ATT.endR (by simp) rfl rfl ⟨none, rfl, rfl, by simp, ?_⟩
  simp [c202t]
  have hbd : bD (o ++ b4 x) = bD o ++ [.int .u8 ((x : Int) / 16777216 % 256), .int .u8 ((x : Int) / 65536 % 256), .int .u8 ((x : Int) / 256 % 256), .int .u8 ((x : Int) % 256)] := by simp [bD, b4]
  have hbl : (b4 x).length = 4 := rfl
  have hbe : (b4 x).isEmpty = false := rfl
  have hbn : ¬ b4 x = [] := by simp [b4]
  refine ih (i, o ++ b4 x) (by first | ((try dsimp only); omega) | (simp [hbd, hbl, hbe, hbn, hII] <;> omega)) (by (try dsimp only); exact ⟨by omega, by rw [wb_drop hx, i2]⟩) _ _ _ (by simp [hII] <;> omega) (by simp <;> omega) (by simp [hbd, hbl, hbn] <;> omega)
end Go.SL
namespace Go.SL
open Go.Proofs
set_option maxRecDepth 10000
def signsT : ByteArray := ⟨#[43, 45, 42, 47, 92, 60, 62, 61, 126, 44, 64, 37, 38, 63]⟩
theorem place_bd (c : Int) (s : ByteArray) : ∀ m i, s.size - i = m → placeS c s i = -1 ∨ (i ≤ placeS c s i ∧ placeS c s i < s.size) := by
 intro m
 induction m with
 | zero => intro i h; rw [placeS]; simp [show ¬ i < s.size by omega]
 | succ m ih =>
  intro i h
  rw [placeS]
  have h0 : i < s.size := by omega
  simp only [h0, dite_true]
  split
  ·right; omega
  ·rcases ih (i + 1) (by omega) with h | h
   ·exact .inl h
   ·right; omega
def signS (c : Int) : Bool := decide (0 ≤ placeS c signsT 0)
theorem f141_ok (c : Int) : DF Tryz.prog 141 [.int .u8 c] (.bool (signS c)) := by
 refine AF.start 60 Tryz.func141 rfl rfl c141call c141ok ?_
 simp [c141c, c141t]
 refine ATT.callD Tryz.func141 60 (f64_ok c signsT (by unfold Ascii; decide)) trivial (by simp [signsT]) rfl ?_
 simp
 refine ATT.fin Tryz.func141 c141res ?_
 simp [signS]
theorem signB : FnB 141 signS := fun c _ _ => f141_ok c
def signsS (s : ByteArray) (i : Nat) : Nat :=
 if (decide (i < s.size) && signS (sbyte s i)) then (if (decide (i + 1 < s.size) && signS (sbyte s (i + 1 : Nat))) then i + 2 else i + 1) else i
theorem f104_ok (s : ByteArray) (_hs : s.size ≤ 1073741824) (i : Nat) (hi : i ≤ 1073741824) : MF Tryz.prog 104 [.ptr 0 0] (RD s i) (.d (.bool (decide (i < signsS s i)))) (RD s (signsS s i)) := by
 have hM := f94_ok signB s i
 have hM2 := f94_ok signB s (i + 1)
 have hn : signsS s i = if (decide (i < s.size) && signS (sbyte s i)) then (if (decide (i + 1 < s.size) && signS (sbyte s (i + 1 : Nat))) then i + 2 else i + 1) else i := rfl
 generalize (decide (i < s.size) && signS (sbyte s i)) = b at hM hn
 generalize (decide (i + 1 < s.size) && signS (sbyte s (i + 1 : Nat))) = b2 at hM2 hn
 have hI1 : inI ((i : Int) + 1) = true := inI_of (by omega) (by omega)
 have hI2 : inI ((i : Int) + 2) = true := inI_of (by omega) (by omega)
 have hI3 : inI ((i : Int) + 1 + 1) = true := inI_of (by omega) (by omega)
 have hlt1 : (i : Int) < i + 2 := by omega
 have hlt2 : (i : Int) + 1 < i + 2 := by omega
 have hlt0 : ¬ (i : Int) + 1 + 1 < i + 2 := by omega
 refine AF.start 60 Tryz.func104 rfl rfl c104call c104ok ?_
 simp [c104c, c104t, RD]
 refine ATT.loop 60 rfl ?_
 simp [c104l4, c104t, hI2, hlt1]
 refine ATT.callM Tryz.func104 60 [0] hM rfl (by simp) (by simp) (by simp [RD]) (by simp) (by simp) ?_
 simp [RD]
 cases b with
 | false =>
  simp [c104t]
  refine ATT.fin Tryz.func104 c104res ?_
  simp [hn]
 | true =>
  simp [c104t]
  refine ATT.again 60 (by simp [hI1]) ?_
  simp [c104t, hI2, hlt2]
  refine ATT.callM Tryz.func104 60 [0] hM2 rfl (by simp) (by simp) (by simp [RD]) (by simp) (by simp) ?_
  simp [RD]
  cases b2 with
  | false =>
   simp [c104t]
   refine ATT.fin Tryz.func104 c104res ?_
   simp [hn]
   omega
  | true =>
   simp [c104t]
   refine ATT.again 60 (by simp [hI3]) ?_
   simp [c104t, hI2, hlt0]
   refine ATT.fin Tryz.func104 c104res ?_
   simp [hn]
   omega
end Go.SL
namespace Go.SL
open Go.Proofs
set_option maxRecDepth 100000
theorem XF.of {P : Program} {fid : FuncId} {fn : Func} {e : Array Value → Sem Value} (hf : P.funcs[fid]? = some fn) (hname : (fn.name == "runtime.NumGoroutine") = false)
  (hb : fn.body.isNone = true) (hn : Extern.findNext fn = none) (he : Extern.find fn = some e) {args : List V} {v : V}
  (h : ∀ (κ : K) (w : World) (argv : List Value), VL κ args argv → ∃ y, (e ⟨argv⟩).run P w = .ok y w ∧ VR κ v y) : XF P fid args v := by
 intro κ w argv ha
 obtain ⟨y, h1, h2⟩ := h κ w argv ha
 exact ⟨y, by rw [run_callFunc_extern hf hname hb hn he, h1]; rfl, h2⟩
theorem f130_ok (s : ByteArray) (c : Int) : XF Tryz.prog 130 [.d (.str s), .d (.int .u8 c)] (.d (.int .i64 (firstIdx s c.toNat.toUInt8))) := by
 refine XF.of Tryz.func130 (by kernel_rfl) (by kernel_rfl) (by kernel_rfl) (e := Extern.BytealgIndexByte.indexByte) (by kernel_rfl) ?_
 intro κ w argv ha
 simp only [VL, VR, DR] at ha
 obtain ⟨y, t, e1, e2, y2, t2, e3, e4, e5⟩ := ha
 subst e1 e2 e3 e4 e5
 exact ⟨_, run_indexByte_string s c w, by simp [VR, DR]⟩
theorem f95_ok (s : ByteArray) (c : Int) : DF Tryz.prog 95 [.str s, .int .u8 c] (.int .i64 (firstIdx s c.toNat.toUInt8)) := by
 refine AF.start 60 Tryz.func95 rfl rfl c95call c95ok ?_
 simp [c95c, c95t]
 refine ATT.callX 60 (f130_ok s c) trivial (by simp) rfl ?_
 simp
 refine ATT.fin Tryz.func95 c95res ?_
 simp
theorem f65_ok (s : ByteArray) (c : Int) : DF Tryz.prog 65 [.str s, .int .u8 c] (.int .i64 (firstIdx s c.toNat.toUInt8)) := by
 refine AF.start 60 Tryz.func65 rfl rfl c65call c65ok ?_
 simp [c65c, c65t]
 refine ATT.callD Tryz.func65 60 (f95_ok s c) trivial (by simp) rfl ?_
 simp
 refine ATT.fin Tryz.func65 c65res ?_
 simp
theorem f184_ok (x : V) : XF Tryz.prog 184 [x] x := by
 refine XF.of Tryz.func184 (by kernel_rfl) (by kernel_rfl) (by kernel_rfl) (e := Extern.AbiNoEscape.same) (by kernel_rfl) ?_
 intro κ w argv ha
 simp only [VL] at ha
 obtain ⟨y, t, e1, e2, e3⟩ := ha
 subst e1 e3
 exact ⟨y, rfl, e2⟩
end Go.SL
namespace Go.SL
open Go.Proofs
set_option maxRecDepth 10000
def bldL : List (Nat × Nat) := [(188, 2), (189, 2), (190, 2), (191, 2)]
theorem f165_ok (T : TypeId) (hT : hasT bldL T 2 = true) (b : Bool) (l : List UInt8) (z : Nat) :
  VF Tryz.prog 165 [.ptr 0 0] [BB 0 0 T b l] [BV 5 z l] (.d (.tup [])) [BB 0 0 T true l] [BV 5 z l] := by
 simp only [bldL] at hT
 cases b with
 | false =>
  refine AF.start' 60 Tryz.func165 rfl rfl c165call c165ok fun Q hQ => ?_
  simp [c165c, c165t]
  refine ATT.callX 60 (f184_ok (.ptr 0 0)) (by simp) (by simp) (by simp) ?_
  simp [hT]
  refine ATT.fin0' hQ Tryz.func165 c165res ?_
  simp
  all_goals (first | omega | exact ⟨_, rfl⟩ | skip)
 | true =>
  refine AF.start' 60 Tryz.func165 rfl rfl c165call c165ok fun Q hQ => ?_
  simp [c165c, c165t]
  refine ATT.fin0' hQ Tryz.func165 c165res ?_
  simp
  all_goals (first | omega | exact ⟨_, rfl⟩ | skip)
theorem f140_ok (T : TypeId) (hT : hasT bldL T 2 = true) (b : Bool) (l : List UInt8) (hl : l.length ≤ 1099511627776) (x : UInt8) :
  VF Tryz.prog 140 [.ptr 0 0, .d (.int .u8 (x.toNat : Int))] [BB 0 0 T b l] [BV 5 0 l] (.d .nilI) [BB 0 0 T true (l ++ [x])] [BV 5 0 (l ++ [x])] := by
 refine AF.start' 60 Tryz.func140 rfl rfl c140call c140ok fun Q hQ => ?_
 simp [c140c, c140t]
 refine ATT.callV Tryz.func140 60 [0] [0] (f165_ok T hT b l 0) (by simp) (by simp) (by simp) (by simp) (by simp) (by simp) (by simp) ?_
 simp [c140t]
 refine ATT.fin' hQ Tryz.func140 c140res ?_
 simp [(by omega : l.length ≤ 140737488355327)]
 all_goals (first | omega | exact ⟨_, rfl⟩ | skip)
theorem f145_ok (T : TypeId) (hT : hasT bldL T 2 = true) (b : Bool) (l : List UInt8) (s : ByteArray) (hl : l.length + s.size ≤ 1099511627776) :
  VF Tryz.prog 145 [.ptr 0 0, .d (.str s)] [BB 0 0 T b l] [BV 5 0 l] (.d (.tup [.int .i64 s.size, .nilI])) [BB 0 0 T true (l ++ s.data.toList)] [BV 5 0 (l ++ s.data.toList)] := by
 refine AF.start' 60 Tryz.func145 rfl rfl c145call c145ok fun Q hQ => ?_
 simp [c145c, c145t]
 refine ATT.callV Tryz.func145 60 [0] [0] (f165_ok T hT b l 0) (by simp) (by simp) (by simp) (by simp) (by simp) (by simp) (by simp) ?_
 simp [c145t]
 refine ATT.fin' hQ Tryz.func145 c145res ?_
 simp [(by omega : l.length + s.size ≤ 140737488355328)]
 all_goals (first | omega | exact ⟨_, rfl⟩ | skip)
theorem f139_ok (T : TypeId) (b : Bool) (l : List UInt8) (z : Nat) :
  VF Tryz.prog 139 [.ptr 0 0] [BB 0 0 T b l] [BV 5 z l] (.d (.int .i64 l.length)) [BB 0 0 T b l] [BV 5 z l] := by
 cases b with
 | false =>
  refine AF.start' 60 Tryz.func139 rfl rfl c139call c139ok fun Q hQ => ?_
  simp [c139c, c139t]
  refine ATT.fin' hQ Tryz.func139 c139res ?_
  simp
  all_goals (first | omega | exact ⟨_, rfl⟩ | skip)
 | true =>
  refine AF.start' 60 Tryz.func139 rfl rfl c139call c139ok fun Q hQ => ?_
  simp [c139c, c139t]
  refine ATT.fin' hQ Tryz.func139 c139res ?_
  simp
  all_goals (first | omega | exact ⟨_, rfl⟩ | skip)
theorem f109_ok (T : TypeId) (b : Bool) (l : List UInt8) (hl : l.length ≤ 1099511627776) :
  VF Tryz.prog 109 [.ptr 0 0] [BB 0 0 T b l] [BV 5 0 l] (.d (.str ⟨l.toArray⟩)) [BB 0 0 T b l] [BV 5 l.length l] := by
 cases l with
 | nil =>
  refine AF.start' 60 Tryz.func109 rfl rfl c109call c109ok fun Q hQ => ?_
  simp [c109c, c109t]
  refine ATT.fin' hQ Tryz.func109 c109res ?_
  simp
  all_goals (first | omega | exact ⟨_, rfl⟩ | skip)
 | cons x l =>
  have hI : inI ((l.length : Int) + 1) = true := inI_of (by omega) (by simp at hl; omega)
  have hb := byteL_bs (x :: l)
  have hs := bytesI_bs (x :: l)
  simp only [List.map_cons] at hb hs
  refine AF.start' 60 Tryz.func109 rfl rfl c109call c109ok fun Q hQ => ?_
  simp [c109c, c109t, hI, hb, hs]
  refine ATT.fin' hQ Tryz.func109 c109res ?_
  simp
  all_goals (first | omega | exact ⟨_, rfl⟩ | skip)
end Go.SL
namespace Go.SL
open Go.Proofs
set_option maxRecDepth 10000
def byteS (s : ByteArray) (i : Nat) : UInt8 := s.data.toList.getD i 0
theorem sbyte_byte (s : ByteArray) (i : Nat) : sbyte s i = ((byteS s i).toNat : Int) := by
 simp [sbyte, byteS]
def quoS (s : ByteArray) (i : Nat) (acc : List UInt8) : Option (List UInt8) × Nat :=
 if h : i < s.size then (if sbyte s i = 39 then (if atS s (i + 1) = 39 then quoS s (i + 2) (acc ++ [39]) else (some acc, i + 1)) else quoS s (i + 1) (acc ++ [byteS s i])) else (none, i)
termination_by s.size - i
def quotedS (s : ByteArray) (i : Nat) : Option (List UInt8) × Nat := if atS s i = 39 then quoS s (i + 1) [] else (none, i)
def quT : Option (List UInt8) → ByteArray
 | some l => ⟨l.toArray⟩
 | none => ⟨#[]⟩
def quB : Option (List UInt8) → Bool
 | some l => decide (l.length ≤ 1024)
 | none => false
abbrev quotV (q : Option (List UInt8) × Nat) : V := .d (.tup [.str (quT q.1), .bool (quB q.1)])
theorem quoS_end {s : ByteArray} {i : Nat} {acc : List UInt8} (h : ¬ i < s.size) : quoS s i acc = (none, i) := by
 rw [quoS]; simp [h]
theorem quoS_two {s : ByteArray} {i : Nat} {acc : List UInt8} (h : i < s.size) (h1 : sbyte s i = 39) (h2 : atS s (i + 1) = 39) : quoS s i acc = quoS s (i + 2) (acc ++ [39]) := by
 rw [quoS]; simp [h, h1, h2]
theorem quoS_one {s : ByteArray} {i : Nat} {acc : List UInt8} (h : i < s.size) (h1 : sbyte s i = 39) (h2 : ¬ atS s (i + 1) = 39) : quoS s i acc = (some acc, i + 1) := by
 rw [quoS]; simp [h, h1, h2]
theorem quoS_more {s : ByteArray} {i : Nat} {acc : List UInt8} (h : i < s.size) (h1 : ¬ sbyte s i = 39) : quoS s i acc = quoS s (i + 1) (acc ++ [byteS s i]) := by
 rw [quoS]; simp [h, h1]
theorem f101_ok (s : ByteArray) (hs : s.size ≤ 1073741824) (i : Nat) (hi : i ≤ 1073741824) : MF Tryz.prog 101 [.ptr 0 0] (RD s i) (quotV (quotedS s i)) (RD s (quotedS s i).2) := by
 have hI : inI ((i : Int) + 1) = true := inI_of (by omega) (by omega)
 refine AF.start' 60 Tryz.func101 rfl rfl c101call c101ok fun Q hQ => ?_
 simp [c101c, c101t]
 refine ATT.callM Tryz.func101 60 [0] (f102_ok s hs i 0 (by omega) (by omega)) rfl (by simp) (by simp) (by simp) (by simp) (by simp) ?_
 simp
 first | with_reducible refine ATT.cC (fun h => ?_) (fun h => ?_) | with_reducible refine ATT.cE (fun h => ?_) (fun h => ?_) | with_reducible refine ATT.cD (fun h => ?_) (fun h => ?_) | with_reducible refine ATT.cCn (fun h => ?_) (fun h => ?_) | with_reducible refine ATT.cEn (fun h => ?_) (fun h => ?_) | with_reducible refine ATT.cDn (fun h => ?_) (fun h => ?_)
 ·simp [c101t, h]
  have hq : quotedS s i = quoS s (i + 1) [] := by simp [quotedS, h]
  rw [hq] at hQ
  generalize hr : quoS s (i + 1) [] = r at hQ
  refine ATT.nilB 1 1 1 5 rfl rfl (by decide) (by simp) ?_
  simp
  refine ATT.loopG 60 c101l12.eq_1 (fun ((j, acc, b) : Nat × List UInt8 × Bool) => s.size - j) (fun ((j, acc, b) : Nat × List UInt8 × Bool) => quoS s j acc = r ∧ acc.length ≤ j) (fun ((j, acc, b) : Nat × List UInt8 × Bool) => [(4, V.ptr 1 0), (0, V.ptr 0 0)]) (fun ((j, acc, b) : Nat × List UInt8 × Bool) => [.cells [.d (.str s), .d (.int .i64 j)] 132, BB 1 0 189 b acc]) (fun ((j, acc, b) : Nat × List UInt8 × Bool) => [BV 5 0 acc]) ((i + 1, [], false)) (by (try dsimp only); exact ⟨hr, by simp⟩) (by simp [hI] <;> omega) (by simp) (by simp [bsV]) ?_
  intro ⟨j, acc, b⟩ u w hI ih
  try simp only at hI ih
  obtain ⟨hj, hl⟩ := hI
  have hT : hasT bldL 189 2 = true := by decide
  have hI1 : j < s.size → inI ((j : Int) + 1) = true := fun h => inI_of (by omega) (by omega)
  have hI2 : j < s.size → inI ((j : Int) + 1 + 1) = true := fun h => inI_of (by omega) (by omega)
  simp [c101t]
  first | with_reducible refine ATT.cC (fun h1 => ?_) (fun h1 => ?_) | with_reducible refine ATT.cE (fun h1 => ?_) (fun h1 => ?_) | with_reducible refine ATT.cD (fun h1 => ?_) (fun h1 => ?_) | with_reducible refine ATT.cCn (fun h1 => ?_) (fun h1 => ?_) | with_reducible refine ATT.cEn (fun h1 => ?_) (fun h1 => ?_) | with_reducible refine ATT.cDn (fun h1 => ?_) (fun h1 => ?_)
  ·have hR : inR (j : Int) s.size = true := inR_of (by omega) (by omega)
   simp [hR]
   first | with_reducible refine ATT.cC (fun h2 => ?_) (fun h2 => ?_) | with_reducible refine ATT.cE (fun h2 => ?_) (fun h2 => ?_) | with_reducible refine ATT.cD (fun h2 => ?_) (fun h2 => ?_) | with_reducible refine ATT.cCn (fun h2 => ?_) (fun h2 => ?_) | with_reducible refine ATT.cEn (fun h2 => ?_) (fun h2 => ?_) | with_reducible refine ATT.cDn (fun h2 => ?_) (fun h2 => ?_)
   ·simp [c101t]
    refine ATT.callM Tryz.func101 60 [0] (f102_ok s hs j 1 (by omega) (by omega)) rfl (by simp) (by simp) (by simp) (by simp) (by simp) ?_
    simp
    first | with_reducible refine ATT.cC (fun h3 => ?_) (fun h3 => ?_) | with_reducible refine ATT.cE (fun h3 => ?_) (fun h3 => ?_) | with_reducible refine ATT.cD (fun h3 => ?_) (fun h3 => ?_) | with_reducible refine ATT.cCn (fun h3 => ?_) (fun h3 => ?_) | with_reducible refine ATT.cEn (fun h3 => ?_) (fun h3 => ?_) | with_reducible refine ATT.cDn (fun h3 => ?_) (fun h3 => ?_)
    ·have h4 : j + 1 < s.size := by unfold atS at h3; split at h3 <;> first | assumption | simp at h3
     have h5 : sbyte s ((j : Int) + 1) = 39 := by unfold atS at h3; rw [if_pos h4] at h3; simpa using h3
     have hR1 : inR ((j : Int) + 1) s.size = true := inR_of (by omega) (by omega)
     simp [c101t, hI1 h1, hR1, h5]
     refine ATT.callRV Tryz.func101 60 [1] [0] (f140_ok 189 hT b acc (by omega) 39) (by simp) (by simp) (by simp) (by simp) (by simp) (by simp) (by simp) ?_
     simp [c101t, hI2 h1]
     refine ih (j + 2, acc ++ [39], true) (by first | ((try dsimp only); omega) | (simp [hR, hI1 h1, hI2 h1] <;> omega)) (by (try dsimp only); exact ⟨by rw [← hj]; exact (quoS_two h1 h2 h3).symm, by simp; omega⟩) _ _ _ (by simp <;> omega) (by simp <;> omega) (by simp [bsV] <;> omega)
    ·simp [c101t, hI1 h1]
     refine ATT.callV Tryz.func101 60 [1] [0] (f109_ok 189 b acc (by omega)) (by simp) (by simp) (by simp) (by simp) (by simp) (by simp) (by simp) ?_
     simp
     refine ATT.callV Tryz.func101 60 [1] [0] (f139_ok 189 b acc acc.length) (by simp) (by simp) (by simp) (by simp) (by simp) (by simp) (by simp) ?_
     simp
     refine ATT.fin' hQ Tryz.func101 c101res ?_
     simp [← hj, quoS_one h1 h2 h3, quT, quB]
     all_goals (first | omega | exact ⟨_, rfl⟩ | skip)
   ·skip
    simp [hR, sbyte_byte]
    refine ATT.callRV Tryz.func101 60 [1] [0] (f140_ok 189 hT b acc (by omega) (byteS s j)) (by simp) (by simp) (by simp) (by simp) (by simp) (by simp) (by simp) ?_
    simp [c101t, hI1 h1]
    refine ih (j + 1, acc ++ [byteS s j], true) (by first | ((try dsimp only); omega) | (simp [hR, hI1 h1, hI2 h1, sbyte_byte] <;> omega)) (by (try dsimp only); exact ⟨by rw [← hj]; exact (quoS_more h1 h2).symm, by simp; omega⟩) _ _ _ (by simp <;> omega) (by simp <;> omega) (by simp [bsV] <;> omega)
  ·simp [h1]
   refine ATT.pass 60 (by simp <;> omega) ?_
   simp [c101t]
   refine ATT.fin' hQ Tryz.func101 c101res ?_
   simp [← hj, quoS_end h1, quT, quB]
   all_goals (first | omega | exact ⟨_, rfl⟩ | skip)
 ·simp [h]
  refine ATT.jump 60 (by simp) rfl ?_
  simp [c101t]
  refine ATT.fin' hQ Tryz.func101 c101res ?_
  simp [quotedS, h, quT, quB]
  all_goals (first | omega | exact ⟨_, rfl⟩ | skip)
end Go.SL
namespace Go.SL
open Go.Proofs
set_option maxRecDepth 10000
theorem skipS_le (p : Int → Bool) (s : ByteArray) : ∀ m i, s.size - i = m → i ≤ skipS p s i ∧ (i ≤ s.size → skipS p s i ≤ s.size) := by
 intro m
 induction m with
 | zero => intro i h; rw [skipS_no (by simp; omega)]; exact ⟨Nat.le_refl _, id⟩
 | succ m ih =>
  intro i h
  cases hb : (decide (i < s.size) && p (sbyte s i)) with
  | false => rw [skipS_no hb]; exact ⟨Nat.le_refl _, id⟩
  | true =>
   rw [skipS_yes hb]
   have := ih (i + 1) (by omega)
   exact ⟨by omega, fun h' => this.2 (by omega)⟩
theorem nameS_le (s : ByteArray) (i : Nat) : i ≤ nameS s i ∧ (i ≤ s.size → nameS s i ≤ s.size) := by
 unfold nameS
 split
 ·exact skipS_le _ s _ i rfl
 ·exact ⟨Nat.le_refl _, id⟩
theorem nameS_gt (s : ByteArray) (i : Nat) : i < nameS s i ↔ (decide (i < s.size) && letterS (sbyte s i)) = true := by
 unfold nameS
 split
 ·rename_i h
  simp only [h, iff_true]
  simp at h
  rw [skipS_yes (by simp [h, identS])]
  have := (skipS_le identS s _ (i + 1) rfl).1
  omega
 ·rename_i h
  simp [h]
theorem colon_lt {s : ByteArray} {i : Nat} (h : colonS s i = true) : i < s.size := by
 simp only [colonS, Bool.and_eq_true, decide_eq_true_eq] at h
 have h := h.1
 unfold atS at h
 split at h
 ·assumption
 ·simp at h
def symK (s : ByteArray) (k : Nat) : Nat := if h : colonS s k = true then symK s (nameS s (k + 1)) else k
termination_by s.size - k
decreasing_by have := colon_lt h; have := (nameS_le s (k + 1)).1; omega
theorem symK_yes {s : ByteArray} {k : Nat} (h : colonS s k = true) : symK s k = symK s (nameS s (k + 1)) := by rw [symK]; simp [h]
theorem symK_no {s : ByteArray} {k : Nat} (h : colonS s k = false) : symK s k = k := by rw [symK]; simp [h]
theorem symK_le (s : ByteArray) : ∀ m k, s.size - k = m → k ≤ symK s k ∧ (k ≤ s.size → symK s k ≤ s.size) := by
 intro m
 induction m using Nat.strongRecOn with
 | ind m ih =>
  intro k hm
  cases h : colonS s k with
  | false => rw [symK_no h]; exact ⟨Nat.le_refl _, id⟩
  | true =>
   rw [symK_yes h]
   have h1 := colon_lt h
   have h2 := nameS_le s (k + 1)
   have := ih (s.size - nameS s (k + 1)) (by omega) _ rfl
   exact ⟨by omega, fun _ => this.2 (h2.2 (by omega))⟩
theorem signsS_le (s : ByteArray) (i : Nat) : i ≤ signsS s i ∧ (i ≤ s.size → signsS s i ≤ s.size) := by
 unfold signsS
 split
 ·rename_i h
  simp at h
  split
  ·rename_i h2
   simp at h2
   exact ⟨by omega, fun _ => by omega⟩
  ·exact ⟨by omega, fun _ => by omega⟩
 ·exact ⟨Nat.le_refl _, id⟩
def symE (s : ByteArray) (i : Nat) : Nat := if i < nameS s i then symK s (nameS s i) else signsS s i
def subT (s : ByteArray) (i j : Nat) : ByteArray := s.extract i j
def symT (s : ByteArray) (i : Nat) : ByteArray := if i < symE s i then subT s i (symE s i) else quT (quotedS s i).1
def symB (s : ByteArray) (i : Nat) : Bool := if i < symE s i then decide (symE s i - i ≤ 1024) else quB (quotedS s i).1
def symN (s : ByteArray) (i : Nat) : Nat := if i < symE s i then symE s i else (quotedS s i).2
theorem f103_ok (s : ByteArray) (hs : s.size ≤ 1073741823) (i : Nat) (hi : i ≤ s.size) : MF Tryz.prog 103 [.ptr 0 0] (RD s i) (.d (.tup [.str (symT s i), .bool (symB s i)])) (RD s (symN s i)) := by
 have hg := nameS_gt s i
 have hM := f97_ok s (by omega) i
 have hle := nameS_le s i
 refine AF.start' 60 Tryz.func103 rfl rfl c103call c103ok fun Q hQ => ?_
 simp [c103c, c103t]
 generalize (decide (i < s.size) && letterS (sbyte s i)) = b at hM hg
 refine ATT.callM Tryz.func103 60 [0] (hM) rfl (by simp) (by simp) (by simp) (by simp) (by simp) ?_
 simp
 cases b with
 | true =>
  have hlt : i < nameS s i := hg.2 rfl
  have hE : symE s i = symK s (nameS s i) := by simp [symE, hlt]
  have hEb := symK_le s _ (nameS s i) rfl
  simp only [symT, symB, symN] at hQ
  rw [if_pos (by rw [hE]; omega), if_pos (by rw [hE]; omega), if_pos (by rw [hE]; omega)] at hQ
  generalize symE s i = e at hE hQ
  refine ATT.loopG 60 c103l6.eq_1 (fun (k : Nat) => s.size - k) (fun (k : Nat) => symK s k = e ∧ i < k ∧ k ≤ e ∧ k ≤ s.size) (fun (k : Nat) => [(4, V.d (.int .i64 i)), (0, V.ptr 0 0)]) (fun (k : Nat) => [.cells [.d (.str s), .d (.int .i64 k)] 132]) (fun (k : Nat) => []) (nameS s i) (by (try dsimp only); exact ⟨hE.symm, hlt, by omega, by omega⟩) (by simp <;> omega) (by simp) (by simp) ?_
  intro k u w hI ih
  try simp only at hI ih
  simp [c103t]
  refine ATT.callM Tryz.func103 60 [0] (f98_ok s (by omega) k (by omega)) rfl (by simp) (by simp) (by simp) (by simp) (by simp) ?_
  simp
  cases hc : colonS s k with
  | true =>
   have hk := colon_lt hc
   have h1 := nameS_le s (k + 1)
   have h2 := symK_yes hc
   have h3 := symK_le s _ (nameS s (k + 1)) rfl
   have hI1 : inI ((k : Int) + 1) = true := inI_of (by omega) (by omega)
   have hN := f97_ok s (by omega) (k + 1)
   simp only [Int.natCast_add, Int.natCast_one] at hN
   simp [c103t, hI1]
   refine ATT.callM Tryz.func103 60 [0] (hN) rfl (by simp) (by simp) (by simp) (by simp) (by simp) ?_
   simp
   have he : symK s (nameS s (k + 1)) = e := by rw [← h2]; exact hI.1
   refine ih (nameS s (k + 1)) (by first | ((try dsimp only); omega) | (simp <;> omega)) (by (try dsimp only); exact ⟨he, by omega, by omega, by omega⟩) _ _ _ (by simp <;> omega) (by simp <;> omega) (by simp <;> omega)
  | false =>
   have h2 := symK_no hc
   have he : e = k := by rw [← hI.1]; exact h2
   have hI1 : inI ((k : Int) - i) = true := inI_of (by omega) (by omega)
   simp [hI1]
   refine ATT.fin' hQ Tryz.func103 c103res ?_
   simp [he, subT]
   all_goals (first | omega | exact ⟨_, rfl⟩ | skip)
 | false =>
  have hlt : ¬ i < nameS s i := fun h => by simpa using hg.1 h
  have hn : nameS s i = i := by omega
  have hE : symE s i = signsS s i := by simp [symE, hlt]
  have hb := signsS_le s i
  have hSg := f104_ok s (by omega) i (by omega)
  simp [c103t, hn]
  refine ATT.callM Tryz.func103 60 [0] (hSg) rfl (by simp) (by simp) (by simp) (by simp) (by simp) ?_
  simp
  by_cases h1 : i < signsS s i
  ·simp only [symT, symB, symN] at hQ
   rw [if_pos (by rw [hE]; exact h1), if_pos (by rw [hE]; exact h1), if_pos (by rw [hE]; exact h1)] at hQ
   have hI1 : inI ((signsS s i : Int) - i) = true := inI_of (by omega) (by omega)
   simp [h1, hI1]
   refine ATT.fin' hQ Tryz.func103 c103res ?_
   simp [hE, subT]
   all_goals (first | omega | exact ⟨_, rfl⟩ | skip)
  ·simp only [symT, symB, symN] at hQ
   rw [if_neg (by rw [hE]; exact h1), if_neg (by rw [hE]; exact h1), if_neg (by rw [hE]; exact h1)] at hQ
   have hs0 : signsS s i = i := by omega
   simp [c103t, hs0]
   refine ATT.callM Tryz.func103 60 [0] (f101_ok s (by omega) i (by omega)) rfl (by simp) (by simp) (by simp) (by simp) (by simp) ?_
   simp
   refine ATT.fin' hQ Tryz.func103 c103res ?_
   simp
   all_goals (first | omega | exact ⟨_, rfl⟩ | skip)
end Go.SL
namespace Go.SL
structure Tk where
 k : Int
 t : ByteArray
 a : Nat
 deriving DecidableEq
inductive Nd where
 | mk (k : Int) (t : ByteArray) (a : Nat) (n : Nat) (names : List ByteArray) (kids : List Nd)
namespace Nd
def k : Nd → Int | .mk k _ _ _ _ _ => k
def t : Nd → ByteArray | .mk _ t _ _ _ _ => t
def a : Nd → Nat | .mk _ _ a _ _ _ => a
def n : Nd → Nat | .mk _ _ _ n _ _ => n
def names : Nd → List ByteArray | .mk _ _ _ _ l _ => l
def kids : Nd → List Nd | .mk _ _ _ _ _ l => l
end Nd
inductive Res (α : Type) where
 | ok (x : α) (r : List Tk)
 | no (a : Nat) (why : Int)
 | out
def Res.andThen {α β : Type} : Res α → (α → List Tk → Res β) → Res β
 | .ok x r, f => f x r
 | .no a w, _ => .no a w
 | .out, _ => .out
def kd : List Tk → Int
 | [] => 0
 | t :: _ => t.k
def pl : List Tk → Nat
 | [] => 0
 | t :: _ => t.a
def tx : List Tk → ByteArray
 | [] => ⟨#[]⟩
 | t :: _ => t.t
def eSyn : Int := 20
def eSize : Int := 3
def trueT : ByteArray := ⟨#[116, 114, 117, 101]⟩
def falseT : ByteArray := ⟨#[102, 97, 108, 115, 101]⟩
def nilT : ByteArray := ⟨#[110, 105, 108]⟩
def sentS (x m : Nd) : Nd := .mk 7 m.t m.a 0 [] (x :: m.kids)
def namesS : List Tk → List ByteArray × List Tk
 | [] => ([], [])
 | t :: r => if t.k = 1 then (t.t :: (namesS r).1, (namesS r).2) else ([], t :: r)
def argsS : Nat → List Tk → Res (List ByteArray)
 | 0, _ => .out
 | n + 1, l => if kd l = 16 then (if kd l.tail = 1 then (argsS n l.tail.tail).andThen fun x r => .ok (tx l.tail :: x) r else .no (pl l.tail) eSyn) else .ok [] l
def tempsS (l : List Tk) : Res (List ByteArray) :=
 if kd l = 12 then (if kd (namesS l.tail).2 = 12 then .ok (namesS l.tail).1 (namesS l.tail).2.tail else .no (pl (namesS l.tail).2) eSyn) else .ok [] l
mutual
def exprS : Nat → Nat → List Tk → Res Nd
 | 0, _, _ => .out
 | n + 1, d, l =>
  if kd l = 1 ∧ kd l.tail = 7 then
   (if d = 40 then .no (pl l.tail) eSize else (exprS n (d + 1) l.tail.tail).andThen fun x r => .ok (.mk 6 (tx l) (pl l) 0 [] [x]) r)
  else cascS n d l
def cascS : Nat → Nat → List Tk → Res Nd
 | 0, _, _ => .out
 | n + 1, d, l => (keyedS n d l).andThen fun x r =>
  if kd r = 15 then
   (if x.1.k = 7 ∧ x.2 = true then
    (semisS n d [] r).andThen fun ms r' => .ok (.mk 8 ⟨#[]⟩ x.1.a 0 [] (x.1.kids.take 1 ++ .mk 9 x.1.t x.1.a 0 [] (x.1.kids.drop 1) :: ms)) r'
   else .no (pl r) eSyn)
  else .ok x.1 r
def semisS : Nat → Nat → List Nd → List Tk → Res (List Nd)
 | 0, _, _, _ => .out
 | n + 1, d, acc, l => if kd l = 15 then (msgS n d l.tail).andThen fun m r => semisS n d (acc ++ [m]) r else .ok acc l
def msgS : Nat → Nat → List Tk → Res Nd
 | 0, _, _ => .out
 | n + 1, d, l =>
  if kd l = 1 then .ok (.mk 9 (tx l) (pl l) 0 [] []) l.tail
  else if kd l = 3 then (unaryS n d l.tail).andThen fun x r => .ok (.mk 9 (tx l) (pl l) 0 [] [x.1]) r
  else if kd l = 2 then (keysS n d ⟨#[]⟩ [] l).andThen fun x r => .ok (.mk 9 x.1 (pl l) 0 [] x.2) r
  else .no (pl l) eSyn
def keysS : Nat → Nat → ByteArray → List Nd → List Tk → Res (ByteArray × List Nd)
 | 0, _, _, _, _ => .out
 | n + 1, d, s, acc, l => if kd l = 2 then (binaryS n d l.tail).andThen fun x r => keysS n d (s ++ tx l) (acc ++ [x.1]) r else .ok (s, acc) l
def keyedS : Nat → Nat → List Tk → Res (Nd × Bool)
 | 0, _, _ => .out
 | n + 1, d, l => (binaryS n d l).andThen fun x r => if kd r = 2 then (msgS n d r).andThen fun m r' => .ok (sentS x.1 m, true) r' else .ok x r
def binaryS : Nat → Nat → List Tk → Res (Nd × Bool)
 | 0, _, _ => .out
 | n + 1, d, l => (unaryS n d l).andThen fun x r => chainS n d 3 x r
def unaryS : Nat → Nat → List Tk → Res (Nd × Bool)
 | 0, _, _ => .out
 | n + 1, d, l => (primS n d l).andThen fun x r => chainS n d 1 x r
def chainS : Nat → Nat → Int → Nd × Bool → List Tk → Res (Nd × Bool)
 | 0, _, _, _, _ => .out
 | n + 1, d, c, x, l => if kd l = c then (msgS n d l).andThen fun m r => chainS n d c (sentS x.1 m, true) r else .ok x l
def primS : Nat → Nat → List Tk → Res (Nd × Bool)
 | 0, _, _ => .out
 | n + 1, d, l =>
  if kd l = 1 then .ok (.mk 5 (tx l) (pl l) 0 [] [], true) l.tail
  else if kd l = 4 then .ok (.mk 1 (tx l) (pl l) 0 [] [], true) l.tail
  else if kd l = 5 then .ok (.mk 2 (tx l) (pl l) 0 [] [], true) l.tail
  else if kd l = 6 then .ok (.mk 3 (tx l) (pl l) 0 [] [], true) l.tail
  else if kd l = 17 then (listS n d l).andThen fun x r => .ok (x, true) r
  else if kd l = 10 then (blockS n d l).andThen fun x r => .ok (x, true) r
  else if kd l = 8 then
   (if d = 40 then .no (pl l) eSize else (exprS n (d + 1) l.tail).andThen fun x r => if kd r = 9 then .ok (x, false) r.tail else .no (pl r) eSyn)
  else .no (pl l) eSyn
def listS : Nat → Nat → List Tk → Res Nd
 | 0, _, _ => .out
 | n + 1, d, l => if d = 40 then .no (pl l) eSize else (elemsS n (d + 1) [] l.tail).andThen fun x r => .ok (.mk 4 ⟨#[]⟩ (pl l) 0 [] x) r.tail
def elemsS : Nat → Nat → List Nd → List Tk → Res (List Nd)
 | 0, _, _, _ => .out
 | n + 1, d, acc, l => if kd l = 9 then .ok acc l else (elemS n d l).andThen fun x r => elemsS n d (acc ++ [x]) r
def elemS : Nat → Nat → List Tk → Res Nd
 | 0, _, _ => .out
 | n + 1, d, l =>
  if kd l = 17 ∨ kd l = 8 then listS n d l
  else if kd l = 4 then .ok (.mk 1 (tx l) (pl l) 0 [] []) l.tail
  else if kd l = 5 then .ok (.mk 2 (tx l) (pl l) 0 [] []) l.tail
  else if kd l = 1 then .ok (.mk (if tx l = trueT ∨ tx l = falseT ∨ tx l = nilT then 13 else 3) (tx l) (pl l) 0 [] []) l.tail
  else if kd l = 6 ∨ kd l = 2 ∨ kd l = 3 then .ok (.mk 3 (tx l) (pl l) 0 [] []) l.tail
  else .no (pl l) eSyn
def blockS : Nat → Nat → List Tk → Res Nd
 | 0, _, _ => .out
 | n + 1, d, l =>
  if d = 40 then .no (pl l) eSize else
  (argsS n l.tail).andThen fun ags r =>
   if ags.length ≠ 0 ∧ kd r ≠ 11 then
    (if kd r = 12 then (bodyS n (d + 1) 11 r.tail).andThen fun x r' => .ok (.mk 10 ⟨#[]⟩ (pl l) ags.length (ags ++ x.1) x.2) r'.tail else .no (pl r) eSyn)
   else (bodyS n (d + 1) 11 r).andThen fun x r' => .ok (.mk 10 ⟨#[]⟩ (pl l) ags.length (ags ++ x.1) x.2) r'.tail
def bodyS : Nat → Nat → Int → List Tk → Res (List ByteArray × List Nd)
 | 0, _, _, _ => .out
 | n + 1, d, e, l => (tempsS l).andThen fun ts r => (stmtsS n d e [] r).andThen fun ks r' => .ok (ts, ks) r'
def stmtsS : Nat → Nat → Int → List Nd → List Tk → Res (List Nd)
 | 0, _, _, _, _ => .out
 | n + 1, d, e, acc, l =>
  if kd l = e then .ok acc l else
  (stmtS n d l).andThen fun x r =>
   if kd r = 14 ∧ x.2 = false then stmtsS n d e (acc ++ [x.1]) r.tail
   else if kd r = 14 then (if kd r.tail = e then .ok (acc ++ [x.1]) r.tail else .no (pl r.tail) eSyn)
   else if kd r = e then .ok (acc ++ [x.1]) r else .no (pl r) eSyn
def stmtS : Nat → Nat → List Tk → Res (Nd × Bool)
 | 0, _, _ => .out
 | n + 1, d, l => if kd l = 13 then (exprS n d l.tail).andThen fun x r => .ok (.mk 11 ⟨#[]⟩ (pl l) 0 [] [x], true) r else (exprS n d l).andThen fun x r => .ok (x, false) r
end
def patKeysS : Nat → ByteArray → List ByteArray → List Tk → Res (ByteArray × List ByteArray)
 | 0, _, _, _ => .out
 | n + 1, s, acc, l => if kd l = 2 then (if kd l.tail = 1 then patKeysS n (s ++ tx l) (acc ++ [tx l.tail]) l.tail.tail else .no (pl l.tail) eSyn) else .ok (s, acc) l
def patS (n : Nat) (l : List Tk) : Res (ByteArray × List ByteArray) :=
 if kd l = 1 then .ok (tx l, []) l.tail
 else if kd l = 3 then (if kd l.tail = 1 then .ok (tx l, [tx l.tail]) l.tail.tail else .no (pl l.tail) eSyn)
 else if kd l = 2 then patKeysS n ⟨#[]⟩ [] l
 else .no (pl l) eSyn
end Go.SL
namespace Go.SL
open Go.Proofs
set_option maxRecDepth 10000
def singlesT : ByteArray := ⟨#[40, 41, 91, 93, 124, 94, 46, 59]⟩
def wordS (num : ByteArray → Bool) (s : ByteArray) (i : Nat) : Option (Int × ByteArray × Nat) :=
 if letterS (sbyte s i) then (if colonS s (nameS s i) then some (2, subT s i (nameS s i + 1), nameS s i + 1) else some (1, subT s i (nameS s i), nameS s i))
 else if digitS (sbyte s i) then (if num (subT s i (skipS digitS s i)) then some (4, subT s i (skipS digitS s i), skipS digitS s i) else none)
 else if sbyte s i = 39 then (if quB (quotedS s i).1 then some (5, quT (quotedS s i).1, (quotedS s i).2) else none)
 else if sbyte s i = 35 then (if atS s (i + 1) = 40 then some (17, subT s i (i + 2), i + 2) else if symB s (i + 1) then some (6, symT s (i + 1), symN s (i + 1)) else none)
 else if sbyte s i = 58 then (if atS s (i + 1) = 61 then some (7, subT s i (i + 2), i + 2) else some (16, subT s i (i + 1), i + 1))
 else if signS (sbyte s i) then some (3, subT s i (signsS s i), signsS s i)
 else if 0 ≤ placeS (sbyte s i) singlesT 0 then some (8 + placeS (sbyte s i) singlesT 0, subT s i (i + 1), i + 1)
 else none
def tokD (k : Int) (t : ByteArray) (a : Nat) : D := .agg [.int .i64 k, .str t, .int .i64 a]
def digs (t : ByteArray) : Prop := 0 < t.size ∧ ∀ i : Nat, i < t.size → digitS (sbyte t i) = true
def NumP (f : FuncId) (num : ByteArray → Bool) : Prop := ∀ t, digs t → t.size ≤ 1073741824 → DE Tryz.prog f [.str t] fun v => ∃ b nl sz xs e, v = .tup [.agg [.bool b, .sl nl sz xs], .int .i64 e] ∧ (e = 0 ↔ num t = true)
theorem subT_size {s : ByteArray} {i j : Nat} (h : i ≤ j) (hj : j ≤ s.size) : (subT s i j).size = j - i := by
 simp [subT]; omega
theorem sbyte_sub {s : ByteArray} {i j k : Nat} (h : i + k < j) (hj : j ≤ s.size) : sbyte (subT s i j) k = sbyte s (i + k : Nat) := by
 have hj' : j ≤ s.data.size := hj
 simp only [sbyte, subT, ByteArray.data_extract, Int.toNat_natCast]
 congr 2
 simp only [List.getD_eq_getElem?_getD, Array.getElem?_toList]
 rw [Array.getElem?_extract]
 simp
 rw [if_pos (by omega)]
theorem skipS_all {p : Int → Bool} {s : ByteArray} : ∀ m i, s.size - i = m → ∀ j : Nat, i ≤ j → j < skipS p s i → p (sbyte s j) = true := by
 intro m
 induction m with
 | zero => intro i hm j h1 h2; rw [skipS_no (by simp; omega)] at h2; omega
 | succ m ih =>
  intro i hm j h1 h2
  cases hb : (decide (i < s.size) && p (sbyte s i)) with
  | false => rw [skipS_no hb] at h2; omega
  | true =>
   rw [skipS_yes hb] at h2
   by_cases hj : j = i
   ·subst hj; simp at hb; exact hb.2
   ·exact ih (i + 1) (by omega) j (by omega) h2
theorem digs_sub {s : ByteArray} {i : Nat} (hi : i < s.size) (hd : digitS (sbyte s i) = true) : digs (subT s i (skipS digitS s i)) := by
 have h1 := skipS_le digitS s _ i rfl
 have h2 : i < skipS digitS s i := by
  rw [skipS_yes (by simp [hi, hd])]
  have := (skipS_le digitS s _ (i + 1) rfl).1
  omega
 refine ⟨by rw [subT_size h1.1 (h1.2 (by omega))]; omega, fun k hk => ?_⟩
 rw [subT_size h1.1 (h1.2 (by omega))] at hk
 rw [sbyte_sub (by omega) (h1.2 (by omega))]
 exact skipS_all _ i rfl _ (by omega) (by omega)
def placeL (c : Int) : List UInt8 → Nat → Int
 | [], _ => -1
 | x :: r, i => if (x.toNat : Int) = c then i else placeL c r (i + 1)
theorem placeS_L (c : Int) (s : ByteArray) : ∀ m i, s.size - i = m → placeS c s i = placeL c (s.data.toList.drop i) i := by
 intro m
 induction m with
 | zero =>
  intro i h
  rw [placeS]
  have : s.data.toList.drop i = [] := List.drop_eq_nil_of_le (by simp; have : s.size = s.data.size := rfl; omega)
  rw [this]
  simp [show ¬ i < s.size by omega, placeL]
 | succ m ih =>
  intro i h
  have hi : i < s.data.toList.length := by simp; have : s.size = s.data.size := rfl; omega
  rw [placeS, List.drop_eq_getElem_cons hi, placeL, ← ih (i + 1) (by omega)]
  have h1 : i < s.size := by omega
  simp only [h1, dite_true]
  have h2 : sbyte s i = ((s.data.toList[i]).toNat : Int) := by simp [sbyte, List.getD_eq_getElem?_getD, h1]
  rw [h2]
theorem atS_lt {s : ByteArray} {i : Nat} (h : atS s i ≠ 0) : i < s.size := by
 unfold atS at h
 split at h
 ·assumption
 ·exact absurd rfl h
theorem signsS_gt (s : ByteArray) (i : Nat) : i < signsS s i ↔ (decide (i < s.size) && signS (sbyte s i)) = true := by
 unfold signsS
 split
 ·rename_i h
  simp only [h, iff_true]
  split <;> omega
 ·rename_i h
  simp [h]
theorem singlesA : Ascii singlesT := by unfold Ascii; decide
def WordQ (num : ByteArray → Bool) (s : ByteArray) (i : Nat) (o : Out) (h : H) : Prop :=
 ∃ k' t' a' j r w, o = .ret (.d (.tup [tokD k' t' a', .bool (wordS num s i).isSome])) ∧ h = ⟨RD s j ++ r, w⟩ ∧ ∀ k t e, wordS num s i = some (k, t, e) → k' = k ∧ t' = t ∧ a' = i ∧ j = e
section
variable {num : ByteArray → Bool} (s : ByteArray) (hs : s.size ≤ 1073741820) (i : Nat) (hi : i < s.size)
include hs hi
theorem f66_letter (hl : letterS (sbyte s i) = true) : AF Tryz.prog 66 [.ptr 0 0] ⟨RD s i, []⟩ (WordQ num s i) := by
 have hR : inR (i : Int) s.size = true := inR_of (by omega) (by omega)
 have hNm := f97_ok s (by omega) i
 have hNl := nameS_le s i
 have hI3 : inI ((nameS s i : Int) + 1) = true := inI_of (by omega) (by omega)
 rw [hl] at hNm
 refine AF.start' 60 Tryz.func66 rfl rfl c66call c66ok fun Q hQ => ?_
 simp [c66c, c66t, hR]
 refine ATT.callD Tryz.func66 60 (f96_ok (sbyte s i) (sbyte_bd s i).1 (sbyte_bd s i).2) (by simp) (by simp) (by simp) ?_
 simp [c66t, hl]
 refine ATT.callM Tryz.func66 60 [0] (hNm) rfl (by simp) (by simp) (by simp) (by simp) (by simp) ?_
 simp [c66t]
 refine ATT.callM Tryz.func66 60 [0] (f98_ok s (by omega) (nameS s i) (by omega)) rfl (by simp) (by simp) (by simp) (by simp) (by simp) ?_
 simp
 cases hc : colonS s (nameS s i) with
 | true =>
  have := colon_lt hc
  simp [c66t, hI3]
  refine ATT.fin' hQ Tryz.func66 c66res ?_
  simp [hl, WordQ, wordS, hc, tokD, subT]
  all_goals (first | omega | exact ⟨_, rfl⟩ | exact ⟨⟨_, rfl⟩, _, rfl⟩ | exact ⟨_, _, _, ⟨rfl, rfl, rfl⟩, _, rfl, rfl, rfl, rfl, rfl⟩ | exact ⟨_, _, _, ⟨rfl, rfl, rfl⟩, _, by omega, rfl, rfl, rfl, rfl⟩ | exact ⟨by omega, _, _, _, ⟨rfl, rfl, rfl⟩, _, by omega, rfl, rfl, rfl, rfl⟩ | skip)
 | false =>
  simp [c66t]
  refine ATT.fin' hQ Tryz.func66 c66res ?_
  simp [hl, WordQ, wordS, hc, tokD, subT]
  all_goals (first | omega | exact ⟨_, rfl⟩ | exact ⟨⟨_, rfl⟩, _, rfl⟩ | exact ⟨_, _, _, ⟨rfl, rfl, rfl⟩, _, rfl, rfl, rfl, rfl, rfl⟩ | exact ⟨_, _, _, ⟨rfl, rfl, rfl⟩, _, by omega, rfl, rfl, rfl, rfl⟩ | exact ⟨by omega, _, _, _, ⟨rfl, rfl, rfl⟩, _, by omega, rfl, rfl, rfl, rfl⟩ | skip)
theorem f66_digit (hW : NumP 100 num) (hl : letterS (sbyte s i) = false) (hd : digitS (sbyte s i) = true) : AF Tryz.prog 66 [.ptr 0 0] ⟨RD s i, []⟩ (WordQ num s i) := by
 have hR : inR (i : Int) s.size = true := inR_of (by omega) (by omega)
 have hkl := skipS_le digitS s _ i rfl
 have hdg := digs_sub hi hd
 have hsz := subT_size (s := s) hkl.1 (hkl.2 (by omega))
 have hk1 := hkl.1
 have hk2 := hkl.2 (by omega)
 refine AF.start' 60 Tryz.func66 rfl rfl c66call c66ok fun Q hQ => ?_
 simp [c66c, c66t, hR]
 refine ATT.callD Tryz.func66 60 (f96_ok (sbyte s i) (sbyte_bd s i).1 (sbyte_bd s i).2) (by simp) (by simp) (by simp) ?_
 simp [c66t, hl]
 refine ATT.callD Tryz.func66 60 (f99_ok (sbyte s i)) (by simp) (by simp) (by simp) ?_
 simp [c66t, hd]
 refine ATT.callM Tryz.func66 60 [0] (f62_ok digitB s (by omega) i) rfl (by simp) (by simp) (by simp) (by simp) (by simp) ?_
 simp
 refine ATT.ords 60 (by simp <;> omega) fun o ho => ?_
 simp only [List.mem_cons, List.mem_nil_iff, or_false] at ho
 rcases ho with ho | ho <;> subst ho
 simp [hk1, hk2]
 ·refine ATT.callRE Tryz.func66 60 (hW _ hdg (by omega)) (by simp) (by simp [subT]) (by simp) fun _ hE => ?_
  obtain ⟨b, nl, sz, xs, e, rfl, he⟩ := hE
  simp [c66t, hk1, hk2]
  cases hn : num (subT s i (skipS digitS s i)) <;> rw [hn] at he <;> simp only [subT] at hn
  ·refine ATT.fin' hQ Tryz.func66 c66res ?_
   simp [hl, hd, subT, WordQ, wordS, hn, tokD, he]
   all_goals (first | omega | exact ⟨_, rfl⟩ | exact ⟨⟨_, rfl⟩, _, rfl⟩ | exact ⟨_, _, _, ⟨rfl, rfl, rfl⟩, _, rfl, rfl, rfl, rfl, rfl⟩ | exact ⟨_, _, _, ⟨rfl, rfl, rfl⟩, _, by omega, rfl, rfl, rfl, rfl⟩ | exact ⟨by omega, _, _, _, ⟨rfl, rfl, rfl⟩, _, by omega, rfl, rfl, rfl, rfl⟩ | skip)
  ·refine ATT.fin' hQ Tryz.func66 c66res ?_
   simp [hl, hd, subT, WordQ, wordS, hn, tokD, he]
   all_goals (first | omega | exact ⟨_, rfl⟩ | exact ⟨⟨_, rfl⟩, _, rfl⟩ | exact ⟨_, _, _, ⟨rfl, rfl, rfl⟩, _, rfl, rfl, rfl, rfl, rfl⟩ | exact ⟨_, _, _, ⟨rfl, rfl, rfl⟩, _, by omega, rfl, rfl, rfl, rfl⟩ | exact ⟨by omega, _, _, _, ⟨rfl, rfl, rfl⟩, _, by omega, rfl, rfl, rfl, rfl⟩ | skip)
 ·refine ATT.callRE Tryz.func66 60 (hW _ hdg (by omega)) (by simp) (by simp [subT]) (by simp [hk1, hk2]) fun _ hE => ?_
  obtain ⟨b, nl, sz, xs, e, rfl, he⟩ := hE
  simp [c66t, hk1, hk2]
  cases hn : num (subT s i (skipS digitS s i)) <;> rw [hn] at he <;> simp only [subT] at hn
  ·refine ATT.fin' hQ Tryz.func66 c66res ?_
   simp [hl, hd, subT, WordQ, wordS, hn, tokD, he]
   all_goals (first | omega | exact ⟨_, rfl⟩ | exact ⟨⟨_, rfl⟩, _, rfl⟩ | exact ⟨_, _, _, ⟨rfl, rfl, rfl⟩, _, rfl, rfl, rfl, rfl, rfl⟩ | exact ⟨_, _, _, ⟨rfl, rfl, rfl⟩, _, by omega, rfl, rfl, rfl, rfl⟩ | exact ⟨by omega, _, _, _, ⟨rfl, rfl, rfl⟩, _, by omega, rfl, rfl, rfl, rfl⟩ | skip)
  ·refine ATT.fin' hQ Tryz.func66 c66res ?_
   simp [hl, hd, subT, WordQ, wordS, hn, tokD, he]
   all_goals (first | omega | exact ⟨_, rfl⟩ | exact ⟨⟨_, rfl⟩, _, rfl⟩ | exact ⟨_, _, _, ⟨rfl, rfl, rfl⟩, _, rfl, rfl, rfl, rfl, rfl⟩ | exact ⟨_, _, _, ⟨rfl, rfl, rfl⟩, _, by omega, rfl, rfl, rfl, rfl⟩ | exact ⟨by omega, _, _, _, ⟨rfl, rfl, rfl⟩, _, by omega, rfl, rfl, rfl, rfl⟩ | skip)
theorem f66_quote (h39 : sbyte s i = 39) : AF Tryz.prog 66 [.ptr 0 0] ⟨RD s i, []⟩ (WordQ num s i) := by
 have hR : inR (i : Int) s.size = true := inR_of (by omega) (by omega)
 have hl : letterS (sbyte s i) = false := by rw [h39]; decide
 have hd : digitS (sbyte s i) = false := by rw [h39]; decide
 have n35 : ¬ sbyte s i = 35 := by rw [h39]; decide
 have n58 : ¬ sbyte s i = 58 := by rw [h39]; decide
 refine AF.start' 60 Tryz.func66 rfl rfl c66call c66ok fun Q hQ => ?_
 simp [c66c, c66t, hR]
 refine ATT.callD Tryz.func66 60 (f96_ok (sbyte s i) (sbyte_bd s i).1 (sbyte_bd s i).2) (by simp) (by simp) (by simp) ?_
 simp [c66t, hl]
 refine ATT.callD Tryz.func66 60 (f99_ok (sbyte s i)) (by simp) (by simp) (by simp) ?_
 simp [c66t, eq_true h39, hd]
 refine ATT.callM Tryz.func66 60 [0] (f101_ok s (by omega) i (by omega)) rfl (by simp) (by simp) (by simp) (by simp) (by simp) ?_
 simp [c66t]
 cases hq : quB (quotedS s i).1 with
 | true => refine ATT.fin' hQ Tryz.func66 c66res ?_
           simp [eq_true h39, hl, hd, WordQ, wordS, tokD, hq]
           all_goals (first | omega | exact ⟨_, rfl⟩ | exact ⟨⟨_, rfl⟩, _, rfl⟩ | exact ⟨_, _, _, ⟨rfl, rfl, rfl⟩, _, rfl, rfl, rfl, rfl, rfl⟩ | exact ⟨_, _, _, ⟨rfl, rfl, rfl⟩, _, by omega, rfl, rfl, rfl, rfl⟩ | exact ⟨by omega, _, _, _, ⟨rfl, rfl, rfl⟩, _, by omega, rfl, rfl, rfl, rfl⟩ | skip)
 | false => refine ATT.fin' hQ Tryz.func66 c66res ?_
            simp [eq_true h39, hl, hd, WordQ, wordS, tokD, hq]
            all_goals (first | omega | exact ⟨_, rfl⟩ | exact ⟨⟨_, rfl⟩, _, rfl⟩ | exact ⟨_, _, _, ⟨rfl, rfl, rfl⟩, _, rfl, rfl, rfl, rfl, rfl⟩ | exact ⟨_, _, _, ⟨rfl, rfl, rfl⟩, _, by omega, rfl, rfl, rfl, rfl⟩ | exact ⟨by omega, _, _, _, ⟨rfl, rfl, rfl⟩, _, by omega, rfl, rfl, rfl, rfl⟩ | skip)
theorem f66_hash (h35 : sbyte s i = 35) : AF Tryz.prog 66 [.ptr 0 0] ⟨RD s i, []⟩ (WordQ num s i) := by
 have hR : inR (i : Int) s.size = true := inR_of (by omega) (by omega)
 have hI1 : inI ((i : Int) + 1) = true := inI_of (by omega) (by omega)
 have hI2 : inI ((i : Int) + 2) = true := inI_of (by omega) (by omega)
 have hl : letterS (sbyte s i) = false := by rw [h35]; decide
 have hd : digitS (sbyte s i) = false := by rw [h35]; decide
 have n39 : ¬ sbyte s i = 39 := by rw [h35]; decide
 have n58 : ¬ sbyte s i = 58 := by rw [h35]; decide
 refine AF.start' 60 Tryz.func66 rfl rfl c66call c66ok fun Q hQ => ?_
 simp [c66c, c66t, hR]
 refine ATT.callD Tryz.func66 60 (f96_ok (sbyte s i) (sbyte_bd s i).1 (sbyte_bd s i).2) (by simp) (by simp) (by simp) ?_
 simp [c66t, hl]
 refine ATT.callD Tryz.func66 60 (f99_ok (sbyte s i)) (by simp) (by simp) (by simp) ?_
 simp [c66t, eq_true h35, hd, n39]
 refine ATT.callM Tryz.func66 60 [0] (f102_ok s (by omega) i 1 (by omega) (by omega)) rfl (by simp) (by simp) (by simp) (by simp) (by simp) ?_
 simp
 first | with_reducible refine ATT.cC (fun h40 => ?_) (fun h40 => ?_) | with_reducible refine ATT.cE (fun h40 => ?_) (fun h40 => ?_) | with_reducible refine ATT.cD (fun h40 => ?_) (fun h40 => ?_) | with_reducible refine ATT.cCn (fun h40 => ?_) (fun h40 => ?_) | with_reducible refine ATT.cEn (fun h40 => ?_) (fun h40 => ?_) | with_reducible refine ATT.cDn (fun h40 => ?_) (fun h40 => ?_)
 ·have hlt := atS_lt (s := s) (i := i + 1) (by rw [h40]; decide)
  have ht2 : ((i : Int) + 2).toNat = i + 2 := by omega
  have hb2 : (i : Int) ≤ i + 2 ∧ (i : Int) + 2 ≤ s.size := by omega
  simp [c66t, hI2, h40]
  refine ATT.fin' hQ Tryz.func66 c66res ?_
  simp [eq_true h35, hl, hd, n39, WordQ, wordS, h40, tokD, subT, ht2, hb2]
  all_goals (first | omega | exact ⟨_, rfl⟩ | exact ⟨⟨_, rfl⟩, _, rfl⟩ | exact ⟨_, _, _, ⟨rfl, rfl, rfl⟩, _, rfl, rfl, rfl, rfl, rfl⟩ | exact ⟨_, _, _, ⟨rfl, rfl, rfl⟩, _, by omega, rfl, rfl, rfl, rfl⟩ | exact ⟨by omega, _, _, _, ⟨rfl, rfl, rfl⟩, _, by omega, rfl, rfl, rfl, rfl⟩ | skip)
 ·simp [c66t, eq_true h35, hI1, h40]
  refine ATT.callM Tryz.func66 60 [0] (f103_ok s (by omega) (i + 1) (by omega)) rfl (by simp) (by simp) (by simp) (by simp) (by simp) ?_
  simp [c66t]
  cases hq : symB s (i + 1) with
  | true => refine ATT.fin' hQ Tryz.func66 c66res ?_
            simp [eq_true h35, hl, hd, n39, WordQ, wordS, h40, tokD, hq]
            all_goals (first | omega | exact ⟨_, rfl⟩ | exact ⟨⟨_, rfl⟩, _, rfl⟩ | exact ⟨_, _, _, ⟨rfl, rfl, rfl⟩, _, rfl, rfl, rfl, rfl, rfl⟩ | exact ⟨_, _, _, ⟨rfl, rfl, rfl⟩, _, by omega, rfl, rfl, rfl, rfl⟩ | exact ⟨by omega, _, _, _, ⟨rfl, rfl, rfl⟩, _, by omega, rfl, rfl, rfl, rfl⟩ | skip)
  | false => refine ATT.fin' hQ Tryz.func66 c66res ?_
             simp [eq_true h35, hl, hd, n39, WordQ, wordS, h40, tokD, hq]
             all_goals (first | omega | exact ⟨_, rfl⟩ | exact ⟨⟨_, rfl⟩, _, rfl⟩ | exact ⟨_, _, _, ⟨rfl, rfl, rfl⟩, _, rfl, rfl, rfl, rfl, rfl⟩ | exact ⟨_, _, _, ⟨rfl, rfl, rfl⟩, _, by omega, rfl, rfl, rfl, rfl⟩ | exact ⟨by omega, _, _, _, ⟨rfl, rfl, rfl⟩, _, by omega, rfl, rfl, rfl, rfl⟩ | skip)
theorem f66_colon (h58 : sbyte s i = 58) : AF Tryz.prog 66 [.ptr 0 0] ⟨RD s i, []⟩ (WordQ num s i) := by
 have hR : inR (i : Int) s.size = true := inR_of (by omega) (by omega)
 have hI1 : inI ((i : Int) + 1) = true := inI_of (by omega) (by omega)
 have hI2 : inI ((i : Int) + 2) = true := inI_of (by omega) (by omega)
 have hl : letterS (sbyte s i) = false := by rw [h58]; decide
 have hd : digitS (sbyte s i) = false := by rw [h58]; decide
 have n39 : ¬ sbyte s i = 39 := by rw [h58]; decide
 have n35 : ¬ sbyte s i = 35 := by rw [h58]; decide
 refine AF.start' 60 Tryz.func66 rfl rfl c66call c66ok fun Q hQ => ?_
 simp [c66c, c66t, hR]
 refine ATT.callD Tryz.func66 60 (f96_ok (sbyte s i) (sbyte_bd s i).1 (sbyte_bd s i).2) (by simp) (by simp) (by simp) ?_
 simp [c66t, hl]
 refine ATT.callD Tryz.func66 60 (f99_ok (sbyte s i)) (by simp) (by simp) (by simp) ?_
 simp [c66t, eq_true h58, hd, n39, n35]
 refine ATT.callM Tryz.func66 60 [0] (f102_ok s (by omega) i 1 (by omega) (by omega)) rfl (by simp) (by simp) (by simp) (by simp) (by simp) ?_
 simp
 first | with_reducible refine ATT.cC (fun h61 => ?_) (fun h61 => ?_) | with_reducible refine ATT.cE (fun h61 => ?_) (fun h61 => ?_) | with_reducible refine ATT.cD (fun h61 => ?_) (fun h61 => ?_) | with_reducible refine ATT.cCn (fun h61 => ?_) (fun h61 => ?_) | with_reducible refine ATT.cEn (fun h61 => ?_) (fun h61 => ?_) | with_reducible refine ATT.cDn (fun h61 => ?_) (fun h61 => ?_)
 ·have hlt := atS_lt (s := s) (i := i + 1) (by rw [h61]; decide)
  have ht2 : ((i : Int) + 2).toNat = i + 2 := by omega
  have hb2 : (i : Int) ≤ i + 2 ∧ (i : Int) + 2 ≤ s.size := by omega
  simp [c66t, hI2, h61]
  refine ATT.fin' hQ Tryz.func66 c66res ?_
  simp [eq_true h58, hl, hd, n39, n35, WordQ, wordS, h61, tokD, subT, ht2, hb2]
  all_goals (first | omega | exact ⟨_, rfl⟩ | exact ⟨⟨_, rfl⟩, _, rfl⟩ | exact ⟨_, _, _, ⟨rfl, rfl, rfl⟩, _, rfl, rfl, rfl, rfl, rfl⟩ | exact ⟨_, _, _, ⟨rfl, rfl, rfl⟩, _, by omega, rfl, rfl, rfl, rfl⟩ | exact ⟨by omega, _, _, _, ⟨rfl, rfl, rfl⟩, _, by omega, rfl, rfl, rfl, rfl⟩ | skip)
 ·simp [c66t, eq_true h58, hI1, h61]
  refine ATT.fin' hQ Tryz.func66 c66res ?_
  simp [eq_true h58, hl, hd, n39, n35, WordQ, wordS, h61, tokD, subT]
  all_goals (first | omega | exact ⟨_, rfl⟩ | exact ⟨⟨_, rfl⟩, _, rfl⟩ | exact ⟨_, _, _, ⟨rfl, rfl, rfl⟩, _, rfl, rfl, rfl, rfl, rfl⟩ | exact ⟨_, _, _, ⟨rfl, rfl, rfl⟩, _, by omega, rfl, rfl, rfl, rfl⟩ | exact ⟨by omega, _, _, _, ⟨rfl, rfl, rfl⟩, _, by omega, rfl, rfl, rfl, rfl⟩ | skip)
theorem f66_sign (hl : letterS (sbyte s i) = false) (hd : digitS (sbyte s i) = false) (h39 : ¬ sbyte s i = 39) (h35 : ¬ sbyte s i = 35) (h58 : ¬ sbyte s i = 58) (hsg : signS (sbyte s i) = true) : AF Tryz.prog 66 [.ptr 0 0] ⟨RD s i, []⟩ (WordQ num s i) := by
 have hR : inR (i : Int) s.size = true := inR_of (by omega) (by omega)
 have hlt : i < signsS s i := (signsS_gt s i).2 (by simp [hi, hsg])
 have hsl := signsS_le s i
 refine AF.start' 60 Tryz.func66 rfl rfl c66call c66ok fun Q hQ => ?_
 simp [c66c, c66t, hR]
 refine ATT.callD Tryz.func66 60 (f96_ok (sbyte s i) (sbyte_bd s i).1 (sbyte_bd s i).2) (by simp) (by simp) (by simp) ?_
 simp [c66t, hl]
 refine ATT.callD Tryz.func66 60 (f99_ok (sbyte s i)) (by simp) (by simp) (by simp) ?_
 simp [c66t, hd, h39, h35, h58]
 refine ATT.callM Tryz.func66 60 [0] (f104_ok s (by omega) i (by omega)) rfl (by simp) (by simp) (by simp) (by simp) (by simp) ?_
 simp [c66t, hlt]
 refine ATT.fin' hQ Tryz.func66 c66res ?_
 simp [hl, hd, h39, h35, h58, WordQ, wordS, hsg, tokD, subT]
 all_goals (first | omega | exact ⟨_, rfl⟩ | exact ⟨⟨_, rfl⟩, _, rfl⟩ | exact ⟨_, _, _, ⟨rfl, rfl, rfl⟩, _, rfl, rfl, rfl, rfl, rfl⟩ | exact ⟨_, _, _, ⟨rfl, rfl, rfl⟩, _, by omega, rfl, rfl, rfl, rfl⟩ | exact ⟨by omega, _, _, _, ⟨rfl, rfl, rfl⟩, _, by omega, rfl, rfl, rfl, rfl⟩ | skip)
theorem f66_single (hl : letterS (sbyte s i) = false) (hd : digitS (sbyte s i) = false) (h39 : ¬ sbyte s i = 39) (h35 : ¬ sbyte s i = 35) (h58 : ¬ sbyte s i = 58) (hsg : signS (sbyte s i) = false) : AF Tryz.prog 66 [.ptr 0 0] ⟨RD s i, []⟩ (WordQ num s i) := by
 have hR : inR (i : Int) s.size = true := inR_of (by omega) (by omega)
 have hI1 : inI ((i : Int) + 1) = true := inI_of (by omega) (by omega)
 have hlt : ¬ i < signsS s i := fun h => by
  have := (signsS_gt s i).1 h
  simp [hsg] at this
 have hs0 : signsS s i = i := by have := (signsS_le s i).1; omega
 have hp := place_bd (sbyte s i) singlesT _ 0 rfl
 have hps : singlesT.size = 8 := by decide
 have hI3 : inI (8 + placeS (sbyte s i) singlesT 0) = true := inI_of (by omega) (by omega)
 have hP := f64_ok (sbyte s i) singlesT singlesA
 have hb1 : (i : Int) ≤ i + 1 ∧ (i : Int) + 1 ≤ s.size := by omega
 have ht1 : ((i : Int) + 1).toNat = i + 1 := by omega
 have hsT : (⟨#[40, 41, 91, 93, 124, 94, 46, 59]⟩ : ByteArray) = singlesT := rfl
 refine AF.start' 60 Tryz.func66 rfl rfl c66call c66ok fun Q hQ => ?_
 simp [c66c, c66t, hR]
 refine ATT.callD Tryz.func66 60 (f96_ok (sbyte s i) (sbyte_bd s i).1 (sbyte_bd s i).2) (by simp) (by simp) (by simp) ?_
 simp [c66t, hl]
 refine ATT.callD Tryz.func66 60 (f99_ok (sbyte s i)) (by simp) (by simp) (by simp) ?_
 simp [c66t, hd, h39, h35, h58]
 refine ATT.callM Tryz.func66 60 [0] (f104_ok s (by omega) i (by omega)) rfl (by simp) (by simp) (by simp) (by simp) (by simp) ?_
 simp [c66t, hs0, hsT]
 refine ATT.callD Tryz.func66 60 (hP) (by simp) (by simp) (by simp) ?_
 simp [c66t, hI1, hI3, hb1, ht1]
 by_cases h0 : 0 ≤ placeS (sbyte s i) singlesT 0
 ·have h8 : (8 : Int) ≤ 8 + placeS (sbyte s i) singlesT 0 := by omega
  refine ATT.fin' hQ Tryz.func66 c66res ?_
  simp [hl, hd, h39, h35, h58, WordQ, wordS, hsg, tokD, subT, h0, h8]
  all_goals (first | omega | exact ⟨_, rfl⟩ | exact ⟨⟨_, rfl⟩, _, rfl⟩ | exact ⟨_, _, _, ⟨rfl, rfl, rfl⟩, _, rfl, rfl, rfl, rfl, rfl⟩ | exact ⟨_, _, _, ⟨rfl, rfl, rfl⟩, _, by omega, rfl, rfl, rfl, rfl⟩ | exact ⟨by omega, _, _, _, ⟨rfl, rfl, rfl⟩, _, by omega, rfl, rfl, rfl, rfl⟩ | skip)
 ·have h8 : ¬ (8 : Int) ≤ 8 + placeS (sbyte s i) singlesT 0 := by omega
  refine ATT.fin' hQ Tryz.func66 c66res ?_
  simp [hl, hd, h39, h35, h58, WordQ, wordS, hsg, tokD, h0, h8]
  all_goals (first | omega | exact ⟨_, rfl⟩ | exact ⟨⟨_, rfl⟩, _, rfl⟩ | exact ⟨_, _, _, ⟨rfl, rfl, rfl⟩, _, rfl, rfl, rfl, rfl, rfl⟩ | exact ⟨_, _, _, ⟨rfl, rfl, rfl⟩, _, by omega, rfl, rfl, rfl, rfl⟩ | exact ⟨by omega, _, _, _, ⟨rfl, rfl, rfl⟩, _, by omega, rfl, rfl, rfl, rfl⟩ | skip)
theorem f66_ok (hW : NumP 100 num) : AF Tryz.prog 66 [.ptr 0 0] ⟨RD s i, []⟩ (WordQ num s i) := by
 cases hl : letterS (sbyte s i) with
 | true => exact f66_letter s hs i hi hl
 | false =>
  cases hd : digitS (sbyte s i) with
  | true => exact f66_digit s hs i hi hW hl hd
  | false =>
   by_cases h39 : sbyte s i = 39
   ·exact f66_quote s hs i hi h39
   by_cases h35 : sbyte s i = 35
   ·exact f66_hash s hs i hi h35
   by_cases h58 : sbyte s i = 58
   ·exact f66_colon s hs i hi h58
   cases hsg : signS (sbyte s i) with
   | true => exact f66_sign s hs i hi hl hd h39 h35 h58 hsg
   | false => exact f66_single s hs i hi hl hd h39 h35 h58 hsg
end
end Go.SL
