/- TreeArgs: how many arguments any message has is what the document says, for every source of bulk at most 1048576. Part 3. -/
import Derived.Test.YtgggkjbdlddbkaaGreatDoorArgs1
import Derived.Test.YtgggkjbdlddbkaaGreatDoorChecked
import Derived.KernelRfl
set_option maxRecDepth 100000
namespace Go.SL
open Go.Proofs
def c4t : Nat → List AI
  | 0 => [⟨0, (some 2), .o (.asg (.cst (.bool false))), none, []⟩]
  | 1 => [⟨0, (some 3), .o (.move (.tmp 0)), none, [2]⟩,
    ⟨1, (some 4), .call (.cst (.fn (.func 13) [] [])) [(.tmp 3)], none, [3]⟩,
    ⟨2, (some 5), .o (.move (.tmp 0)), none, [0]⟩,
    ⟨3, (some 6), .call (.cst (.fn (.func 14) [] [])) [(.tmp 5)], none, [5]⟩,
    ⟨4, (some 7), .o (.icmp .eql (.tmp 4) (.tmp 6)), none, [6, 4]⟩,
    ⟨5, (some 8), .o (.move (.tmp 7)), none, [7]⟩,
    ⟨6, (some 9), .call (.cst (.fn (.func 12) [] [])) [], (some (8, true)), []⟩,
    ⟨7, (some 10), .o (.pick (.tmp 8) (.tmp 9) (.cst (.bool false))), none, [9, 8]⟩,
    ⟨8, (some 2), .o (.asg (.tmp 10)), none, [10]⟩]
  | _ => []
def c4c : AC := (.seq (.regT c4t 0) (.seq (.regT c4t 1) .ret))
def c4a : Ann := fun id => match id with
  | 0 => [[(0, [])]]
  | 1 => [[(0, [2]), (1, [3]), (2, [0]), (3, [5]), (4, [6, 4]), (5, [7]), (6, []), (7, [9, 8]), (8, [10])]]
  | _ => []
theorem c4ok : comp Tryz.prog 11 c4a chkD (Tryz.f4.body.getD .skip) = some (inst c4c) := by kernel_rfl
theorem c4call : callable Tryz.prog 4 = true := by kernel_rfl
theorem c4res : cRess Tryz.prog Tryz.f4.results.toList = some [.tmp 2] := by kernel_rfl
def c8t : Nat → List AI
  | 0 => [⟨0, (some 2), .o (.alloc [(.int .i64 0), (.str ⟨#[]⟩), (.int .i64 0), (.int .i64 0), (.sl true 0 []), (.sl true 0 [])] 25), none, []⟩,
    ⟨1, (some 3), .o (.asg (.cst (.int .i64 0))), none, []⟩,
    ⟨2, (some 4), .o (.asg (.cst (.int .i64 0))), none, [3]⟩]
  | 1 => [⟨0, (some 5), .o (.move (.tmp 0)), none, [4, 0]⟩,
    ⟨1, (some 6), .call (.cst (.fn (.func 19) [] [])) [(.tmp 5), (.cst (.fn (.func 20) [] []))], none, [5]⟩,
    ⟨2, (some 7), .o (.extract (.tmp 6) 0), none, []⟩,
    ⟨3, (some 8), .o (.extract (.tmp 6) 1), none, []⟩,
    ⟨4, (some 9), .o (.extract (.tmp 6) 2), none, [6]⟩,
    ⟨5, none, .o (.store 6 (.tmp 2) (.tmp 7)), none, [7]⟩,
    ⟨6, (some 3), .o (.asg (.tmp 8)), none, [8]⟩,
    ⟨7, (some 4), .o (.asg (.tmp 9)), none, [9]⟩]
  | _ => []
def c8c : AC := (.seq (.regT c8t 0) (.seq (.regT c8t 1) .ret))
def c8a : Ann := fun id => match id with
  | 0 => [[(0, []), (1, []), (2, [3])]]
  | 1 => [[(0, [4, 0]), (1, [5]), (2, []), (3, []), (4, [6]), (5, [7]), (6, [8]), (7, [9])]]
  | _ => []
theorem c8ok : comp Tryz.prog 10 c8a chkD (Tryz.f8.body.getD .skip) = some (inst c8c) := by kernel_rfl
theorem c8call : callable Tryz.prog 8 = true := by kernel_rfl
theorem c8res : cRess Tryz.prog Tryz.f8.results.toList = some [.cell 2 true 6, .tmp 3, .tmp 4] := by kernel_rfl
def c12t : Nat → List AI
  | 0 => [⟨0, (some 0), .o (.asg (.cst (.bool false))), none, []⟩]
  | 1 => [⟨0, (some 8), .call (.cst (.fn (.func 8) [] [])) [(.cst (.str ⟨#[97, 32, 98, 32, 43, 32, 50, 32, 102, 111, 111, 58, 32, 51]⟩))], none, [0]⟩,
    ⟨1, (some 7), .o (.move (.tmp 8)), none, [8]⟩,
    ⟨2, (some 9), .o (.extract (.tmp 7) 0), none, []⟩,
    ⟨3, (some 10), .o (.extract (.tmp 7) 1), none, []⟩,
    ⟨4, (some 11), .o (.extract (.tmp 7) 2), none, [7]⟩,
    ⟨5, (some 1), .o (.alloc [(.int .i64 0), (.str ⟨#[]⟩), (.int .i64 0), (.int .i64 0), (.sl true 0 []), (.sl true 0 [])] 25), none, []⟩,
    ⟨6, none, .o (.store 6 (.tmp 1) (.tmp 9)), none, [9]⟩,
    ⟨7, (some 2), .o (.asg (.tmp 10)), none, [10]⟩,
    ⟨8, (some 3), .o (.asg (.tmp 11)), none, [2, 11]⟩]
  | 2 => [⟨0, (some 13), .call (.cst (.fn (.func 8) [] [])) [(.cst (.str ⟨#[97, 32, 93]⟩))], none, []⟩,
    ⟨1, (some 12), .o (.move (.tmp 13)), none, [13]⟩,
    ⟨2, (some 14), .o (.extract (.tmp 12) 0), none, []⟩,
    ⟨3, (some 15), .o (.extract (.tmp 12) 1), none, []⟩,
    ⟨4, (some 16), .o (.extract (.tmp 12) 2), none, [12]⟩,
    ⟨5, (some 4), .o (.alloc [(.int .i64 0), (.str ⟨#[]⟩), (.int .i64 0), (.int .i64 0), (.sl true 0 []), (.sl true 0 [])] 25), none, []⟩,
    ⟨6, none, .o (.store 6 (.tmp 4) (.tmp 14)), none, [4, 14]⟩,
    ⟨7, (some 5), .o (.asg (.tmp 15)), none, [15]⟩,
    ⟨8, (some 6), .o (.asg (.tmp 16)), none, [16]⟩]
  | 3 => [⟨0, (some 17), .o (.move (.tmp 3)), none, [3]⟩,
    ⟨1, (some 18), .o (.icmp .eql (.tmp 17) (.cst (.int .i64 0))), none, [17]⟩,
    ⟨2, (some 19), .o (.move (.tmp 18)), none, [18]⟩,
    ⟨3, (some 20), .o (.load true 6 (.tmp 1)), (some (19, true)), [1]⟩,
    ⟨4, (some 21), .call (.cst (.fn (.func 22) [] [])) [(.tmp 20)], (some (19, true)), [20]⟩,
    ⟨5, (some 22), .o (.sbin .eql (.tmp 21) (.cst (.str ⟨#[97, 32, 98, 32, 43, 32, 50, 32, 102, 111, 111, 58, 32, 51]⟩))), (some (19, true)), [21]⟩,
    ⟨6, (some 23), .o (.pick (.tmp 19) (.tmp 22) (.cst (.bool false))), none, [22, 19]⟩,
    ⟨7, (some 24), .o (.move (.tmp 23)), none, [23]⟩,
    ⟨8, (some 25), .o (.move (.tmp 5)), (some (24, true)), [5]⟩,
    ⟨9, (some 26), .o (.icmp .eql (.tmp 25) (.cst (.int .i64 2))), (some (24, true)), [25]⟩,
    ⟨10, (some 27), .o (.pick (.tmp 24) (.tmp 26) (.cst (.bool false))), none, [26, 24]⟩,
    ⟨11, (some 28), .o (.move (.tmp 27)), none, [27]⟩,
    ⟨12, (some 29), .o (.move (.tmp 6)), (some (28, true)), [6]⟩,
    ⟨13, (some 30), .o (.icmp .eql (.tmp 29) (.cst (.int .i64 20))), (some (28, true)), [29]⟩,
    ⟨14, (some 31), .o (.pick (.tmp 28) (.tmp 30) (.cst (.bool false))), none, [30, 28]⟩,
    ⟨15, (some 32), .o (.move (.tmp 31)), none, [31]⟩,
    ⟨16, (some 33), .call (.cst (.fn (.func 13) [] [])) [(.cst (.str ⟨#[97, 116, 58, 112, 117, 116, 58]⟩))], (some (32, true)), []⟩,
    ⟨17, (some 34), .o (.icmp .eql (.tmp 33) (.cst (.int .i64 2))), (some (32, true)), [33]⟩,
    ⟨18, (some 35), .o (.pick (.tmp 32) (.tmp 34) (.cst (.bool false))), none, [34, 32]⟩,
    ⟨19, (some 36), .o (.move (.tmp 35)), none, [35]⟩,
    ⟨20, (some 37), .call (.cst (.fn (.func 13) [] [])) [(.cst (.str ⟨#[43]⟩))], (some (36, true)), []⟩,
    ⟨21, (some 38), .o (.icmp .eql (.tmp 37) (.cst (.int .i64 1))), (some (36, true)), [37]⟩,
    ⟨22, (some 39), .o (.pick (.tmp 36) (.tmp 38) (.cst (.bool false))), none, [38, 36]⟩,
    ⟨23, (some 40), .o (.move (.tmp 39)), none, [39]⟩,
    ⟨24, (some 41), .call (.cst (.fn (.func 13) [] [])) [(.cst (.str ⟨#[102, 111, 111]⟩))], (some (40, true)), []⟩,
    ⟨25, (some 42), .o (.icmp .eql (.tmp 41) (.cst (.int .i64 0))), (some (40, true)), [41]⟩,
    ⟨26, (some 43), .o (.pick (.tmp 40) (.tmp 42) (.cst (.bool false))), none, [42, 40]⟩,
    ⟨27, (some 0), .o (.asg (.tmp 43)), none, [43]⟩]
  | _ => []
def c12c : AC := (.seq (.regT c12t 0) (.seq (.regT c12t 1) (.seq (.regT c12t 2) (.seq (.regT c12t 3) .ret))))
def c12a : Ann := fun id => match id with
  | 0 => [[(0, [])]]
  | 1 => [[(0, [0]), (1, [8]), (2, []), (3, []), (4, [7]), (5, []), (6, [9]), (7, [10]), (8, [2, 11])]]
  | 2 => [[(0, []), (1, [13]), (2, []), (3, []), (4, [12]), (5, []), (6, [4, 14]), (7, [15]), (8, [16])]]
  | 3 => [[(0, [3]), (1, [17]), (2, [18]), (3, [1]), (4, [20]), (5, [21]), (6, [22, 19]), (7, [23]), (8, [5]), (9, [25]), (10, [26, 24]), (11, [27]), (12, [6]), (13, [29]), (14, [30, 28]), (15, [31]), (16, []), (17, [33]), (18, [34, 32]), (19, [35]), (20, []), (21, [37]), (22, [38, 36]), (23, [39]), (24, []), (25, [41]), (26, [42, 40]), (27, [43])]]
  | _ => []
theorem c12ok : comp Tryz.prog 44 c12a chkD (Tryz.f12.body.getD .skip) = some (inst c12c) := by kernel_rfl
theorem c12call : callable Tryz.prog 12 = true := by kernel_rfl
theorem c12res : cRess Tryz.prog Tryz.f12.results.toList = some [.tmp 0] := by kernel_rfl
def c13t : Nat → List AI
  | 0 => [⟨0, (some 2), .o (.asg (.cst (.int .i64 0))), none, []⟩]
  | 1 => [⟨0, (some 3), .o (.asg (.cst (.int .i64 0))), none, [2]⟩]
  | 2 => [⟨0, (some 6), .o (.move (.tmp 0)), none, []⟩,
    ⟨1, (some 7), .o (.range (.tmp 6)), none, [6]⟩]
  | 3 => [⟨0, (some 8), .o (.next (.tmp 7)), none, [12]⟩,
    ⟨1, (some 9), .o (.extract (.tmp 8) 0), none, []⟩]
  | 4 => [⟨0, (some 10), .o (.extract (.tmp 8) 2), none, [9, 8]⟩,
    ⟨1, (some 5), .o (.asg (.tmp 10)), none, [10]⟩]
  | 5 => [⟨0, (some 11), .o (.move (.tmp 5)), none, [5]⟩,
    ⟨1, (some 12), .o (.icmp .eql (.tmp 11) (.cst (.int .i32 58))), none, [11]⟩]
  | 6 => [⟨0, (some 13), .o (.move (.tmp 3)), none, [12, 3]⟩,
    ⟨1, (some 14), .o (.ibin .add (.tmp 13) (.cst (.int .i64 1))), none, [13]⟩,
    ⟨2, (some 3), .o (.asg (.tmp 14)), none, [14]⟩]
  | 8 => [⟨0, (some 16), .o (.move (.tmp 0)), none, [12, 7]⟩,
    ⟨1, (some 17), .call (.cst (.fn (.func 23) [] [])) [(.tmp 16)], none, [16]⟩,
    ⟨2, (some 15), .o (.asg (.tmp 17)), none, [17]⟩]
  | 9 => [⟨0, (some 2), .o (.asg (.cst (.int .i64 0))), none, [15, 3, 0]⟩]
  | 10 => [⟨0, (some 19), .o (.move (.tmp 0)), none, [15]⟩,
    ⟨1, (some 20), .o (.sbin .eql (.tmp 19) (.cst (.str ⟨#[]⟩))), none, [19]⟩,
    ⟨2, (some 21), .o (.move (.tmp 20)), none, [20]⟩,
    ⟨3, (some 22), .o (.move (.tmp 0)), (some (21, false)), [0]⟩,
    ⟨4, (some 23), .o (.sslice (.tmp 22) none (some (.cst (.int .i64 1)))), (some (21, false)), [22]⟩,
    ⟨5, (some 24), .call (.cst (.fn (.func 23) [] [])) [(.tmp 23)], (some (21, false)), [23]⟩,
    ⟨6, (some 25), .o (.pick (.tmp 21) (.cst (.bool true)) (.tmp 24)), none, [24, 21]⟩,
    ⟨7, (some 18), .o (.asg (.tmp 25)), none, [25]⟩]
  | 11 => [⟨0, (some 26), .o (.move (.tmp 3)), none, [18, 3]⟩,
    ⟨1, (some 2), .o (.asg (.tmp 26)), none, [26]⟩]
  | 12 => [⟨0, (some 2), .o (.asg (.cst (.int .i64 1))), none, [18, 3]⟩]
  | _ => []
def c13l7 : AC := (.seq (.regT c13t 3) (.seq (.cond (.tmp 9) .skip (.exit 0)) (.block 1 (.seq (.regT c13t 4) (.seq (.regT c13t 5) (.cond (.tmp 12) (.regT c13t 6) .skip))))))
def c13c : AC := (.seq (.regT c13t 0) (.seq (.regT c13t 1) (.seq (.seq (.regT c13t 2) (.block 0 (.loop c13l7))) (.seq (.block 2 (.seq (.regT c13t 8) (.cond (.tmp 15) (.seq (.regT c13t 9) .ret) (.seq (.regT c13t 10) (.cond (.tmp 18) (.seq (.regT c13t 11) .ret) .skip))))) (.seq (.regT c13t 12) .ret)))))
def c13a : Ann := fun id => match id with
  | 0 => [[(0, [])]]
  | 1 => [[(0, [2])]]
  | 2 => [[(0, []), (1, [6])]]
  | 3 => [[(0, [12]), (1, [])]]
  | 4 => [[(0, [9, 8]), (1, [10])]]
  | 5 => [[(0, [5]), (1, [11])]]
  | 6 => [[(0, [12, 3]), (1, [13]), (2, [14])]]
  | 7 => [[(0, [12, 7]), (1, [16]), (2, [17])]]
  | 8 => [[(0, [15, 3, 0])]]
  | 9 => [[(0, [15]), (1, [19]), (2, [20]), (3, [0]), (4, [22]), (5, [23]), (6, [24, 21]), (7, [25])]]
  | 10 => [[(0, [18, 3]), (1, [26])]]
  | 11 => [[(0, [18, 3])]]
  | _ => []
theorem c13ok : comp Tryz.prog 27 c13a chkD (Tryz.f13.body.getD .skip) = some (inst c13c) := by kernel_rfl
theorem c13call : callable Tryz.prog 13 = true := by kernel_rfl
theorem c13res : cRess Tryz.prog Tryz.f13.results.toList = some [.tmp 2] := by kernel_rfl
def c14t : Nat → List AI
  | 0 => [⟨0, (some 2), .o (.asg (.cst (.int .i64 0))), none, []⟩]
  | 1 => [⟨0, (some 5), .o (.move (.tmp 0)), none, [2]⟩,
    ⟨1, (some 6), .call (.cst (.fn (.func 24) [] [])) [(.tmp 5)], none, [5]⟩]
  | 2 => [⟨0, (some 2), .o (.asg (.cst (.int .i64 0))), none, [6, 0]⟩]
  | 3 => [⟨0, (some 7), .o (.move (.tmp 0)), none, [6, 2]⟩,
    ⟨1, (some 8), .o (.len true (.tmp 7)), none, [7]⟩,
    ⟨2, (some 9), .o (.icmp .eql (.tmp 8) (.cst (.int .i64 0))), none, [8]⟩,
    ⟨3, (some 10), .o (.move (.tmp 9)), none, [9]⟩,
    ⟨4, (some 11), .o (.move (.tmp 0)), (some (10, false)), []⟩,
    ⟨5, (some 12), .o (.sslice (.tmp 11) none (some (.cst (.int .i64 1)))), (some (10, false)), [11]⟩,
    ⟨6, (some 13), .call (.cst (.fn (.func 24) [] [])) [(.tmp 12)], (some (10, false)), [12]⟩,
    ⟨7, (some 14), .o (.pick (.tmp 10) (.cst (.bool true)) (.tmp 13)), none, [13, 10]⟩]
  | 4 => [⟨0, (some 3), .o (.asg (.cst (.int .i64 0))), none, [14]⟩]
  | 5 => [⟨0, (some 4), .o (.asg (.cst (.int .i64 0))), none, []⟩]
  | 6 => [⟨0, (some 15), .o (.move (.tmp 4)), none, []⟩,
    ⟨1, (some 16), .o (.move (.tmp 0)), none, []⟩,
    ⟨2, (some 17), .o (.len true (.tmp 16)), none, [16]⟩,
    ⟨3, (some 18), .o (.icmp .lss (.tmp 15) (.tmp 17)), none, [17, 15]⟩]
  | 7 => [⟨0, (some 21), .o (.move (.tmp 0)), none, [18]⟩,
    ⟨1, (some 22), .o (.move (.tmp 4)), none, []⟩,
    ⟨2, (some 23), .o (.index (.tmp 21) (.tmp 22)), none, [22, 21]⟩,
    ⟨3, (some 24), .o (.icmp .eql (.tmp 23) (.cst (.int .u8 58))), none, [23]⟩]
  | 8 => [⟨0, (some 25), .o (.move (.tmp 3)), none, [24, 3]⟩,
    ⟨1, (some 26), .o (.ibin .add (.tmp 25) (.cst (.int .i64 1))), none, [25]⟩,
    ⟨2, (some 3), .o (.asg (.tmp 26)), none, [26]⟩]
  | 9 => [⟨0, (some 19), .o (.move (.tmp 4)), none, [24, 4]⟩,
    ⟨1, (some 20), .o (.ibin .add (.tmp 19) (.cst (.int .i64 1))), none, [19]⟩,
    ⟨2, (some 4), .o (.asg (.tmp 20)), none, [20]⟩]
  | 11 => [⟨0, (some 27), .o (.move (.tmp 3)), none, [4, 3, 0]⟩,
    ⟨1, (some 2), .o (.asg (.tmp 27)), none, [27]⟩]
  | 12 => [⟨0, (some 2), .o (.asg (.cst (.int .i64 1))), none, [0, 14]⟩]
  | _ => []
def c14l10 : AC := (.seq (.seq (.regT c14t 6) (.cond (.tmp 18) .skip (.exit 0))) (.seq (.block 1 (.seq (.regT c14t 7) (.cond (.tmp 24) (.regT c14t 8) .skip))) (.regT c14t 9)))
def c14c : AC := (.seq (.regT c14t 0) (.seq (.seq (.regT c14t 1) (.cond (.tmp 6) (.seq (.regT c14t 2) .ret) .skip)) (.seq (.seq (.regT c14t 3) (.cond (.tmp 14) (.seq (.regT c14t 4) (.seq (.seq (.regT c14t 5) (.block 0 (.loop c14l10))) (.seq (.regT c14t 11) .ret))) .skip)) (.seq (.regT c14t 12) .ret))))
def c14a : Ann := fun id => match id with
  | 0 => [[(0, [])]]
  | 1 => [[(0, [2]), (1, [5])]]
  | 2 => [[(0, [6, 0])]]
  | 3 => [[(0, [6, 2]), (1, [7]), (2, [8]), (3, [9]), (4, []), (5, [11]), (6, [12]), (7, [13, 10])]]
  | 4 => [[(0, [14])]]
  | 5 => [[(0, [])]]
  | 6 => [[(0, []), (1, []), (2, [16]), (3, [17, 15])]]
  | 8 => [[(0, [18]), (1, []), (2, [22, 21]), (3, [23])]]
  | 9 => [[(0, [24, 3]), (1, [25]), (2, [26])]]
  | 7 => [[(0, [24, 4]), (1, [19]), (2, [20])]]
  | 10 => [[(0, [4, 3, 0]), (1, [27])]]
  | 11 => [[(0, [0, 14])]]
  | _ => []
theorem c14ok : comp Tryz.prog 28 c14a chkD (Tryz.f14.body.getD .skip) = some (inst c14c) := by kernel_rfl
theorem c14call : callable Tryz.prog 14 = true := by kernel_rfl
theorem c14res : cRess Tryz.prog Tryz.f14.results.toList = some [.tmp 2] := by kernel_rfl
def c19t : Nat → List AI
  | 0 => [⟨0, (some 4), .o (.alloc [(.int .i64 0), (.str ⟨#[]⟩), (.int .i64 0), (.int .i64 0), (.sl true 0 []), (.sl true 0 [])] 25), none, []⟩,
    ⟨1, (some 5), .o (.alloc [(.int .i64 0)] 3), none, []⟩,
    ⟨2, (some 6), .o (.alloc [(.int .i64 0)] 26), none, []⟩]
  | 1 => [⟨0, (some 10), .o (.move (.tmp 0)), none, [0]⟩,
    ⟨1, (some 11), .call (.cst (.fn (.func 26) [] [])) [(.tmp 10)], none, [10]⟩,
    ⟨2, (some 9), .o (.move (.tmp 11)), none, [11]⟩,
    ⟨3, (some 12), .o (.extract (.tmp 9) 0), none, []⟩,
    ⟨4, (some 13), .o (.extract (.tmp 9) 1), none, []⟩,
    ⟨5, (some 14), .o (.extract (.tmp 9) 2), none, [9]⟩,
    ⟨6, (some 7), .o (.asg (.tmp 12)), none, [12]⟩,
    ⟨7, none, .o (.store 1 (.tmp 5) (.tmp 13)), none, [13]⟩,
    ⟨8, none, .o (.store 1 (.tmp 6) (.tmp 14)), none, [14]⟩]
  | 2 => [⟨0, (some 15), .o (.load false 1 (.tmp 6)), none, []⟩,
    ⟨1, (some 16), .o (.icmp .neq (.tmp 15) (.cst (.int .i64 0))), none, [15]⟩]
  | 3 => [⟨0, (some 17), .o (.build [(.int .i64 0), (.str ⟨#[]⟩), (.int .i64 0), (.int .i64 0), (.sl true 0 []), (.sl true 0 [])] []), none, []⟩,
    ⟨1, (some 18), .o (.load false 1 (.tmp 5)), none, []⟩,
    ⟨2, (some 19), .o (.load false 1 (.tmp 6)), none, []⟩,
    ⟨3, none, .o (.store 6 (.tmp 4) (.tmp 17)), none, [1, 2]⟩,
    ⟨4, none, .o (.store 1 (.tmp 5) (.tmp 18)), none, [2]⟩,
    ⟨5, none, .o (.store 1 (.tmp 6) (.tmp 19)), none, []⟩]
  | 4 => [⟨0, (some 20), .o (.mkfn (.func 27) [] [(.tmp 4), (.tmp 5), (.tmp 6)]), none, [16]⟩,
    ⟨1, none, .defer (.tmp 20) [], none, [20]⟩]
  | 5 => [⟨0, (some 21), .o (.move (.tmp 7)), none, [7]⟩,
    ⟨1, (some 22), .o (.build [(.sl true 0 []), (.int .i64 0)] [(0, 1, (.tmp 21))]), none, [21]⟩,
    ⟨2, (some 23), .o (.box 55 (.tmp 22)), none, [22]⟩,
    ⟨3, (some 8), .o (.asg (.tmp 23)), none, [23]⟩]
  | 6 => [⟨0, (some 24), .o (.build [(.int .i64 0), (.str ⟨#[]⟩), (.int .i64 0), (.int .i64 0), (.sl true 0 []), (.sl true 0 [])] [(0, 1, (.cst (.int .i64 12)))]), none, []⟩,
    ⟨1, none, .o (.store 6 (.tmp 4) (.tmp 24)), none, [24]⟩]
  | 7 => [⟨0, (some 25), .o (.move (.tmp 1)), none, [1]⟩,
    ⟨1, (some 26), .o (.move (.tmp 8)), none, []⟩,
    ⟨2, (some 27), .call (.tmp 25) [(.tmp 26), (.tmp 4)], none, [26, 25]⟩]
  | 8 => [⟨0, (some 28), .o (.move (.tmp 8)), none, [27, 8]⟩,
    ⟨1, (some 29), .call (.cst (.fn (.func 28) [] [])) [(.tmp 28), (.tmp 4), (.cst (.int .i64 0))], none, [28]⟩]
  | 9 => [⟨0, (some 30), .o (.load true 6 (.tmp 4)), none, [29]⟩,
    ⟨1, none, .o (.store 6 (.tmp 4) (.tmp 30)), none, [30]⟩,
    ⟨2, none, .o (.store 1 (.tmp 5) (.cst (.int .i64 0))), none, []⟩,
    ⟨3, none, .o (.store 1 (.tmp 6) (.cst (.int .i64 0))), none, []⟩]
  | _ => []
def c19c : AC := (.seq (.regT c19t 0) (.seq (.regT c19t 1) (.seq (.seq (.regT c19t 2) (.cond (.tmp 16) (.seq (.regD [c19t 3]) .ret) .skip)) (.seq (.regT c19t 4) (.seq (.regT c19t 5) (.seq (.regT c19t 6) (.seq (.regT c19t 7) (.seq (.regT c19t 8) (.seq (.regT c19t 9) .ret)))))))))
def c19a : Ann := fun id => match id with
  | 0 => [[(0, []), (1, []), (2, [])]]
  | 1 => [[(0, [0]), (1, [10]), (2, [11]), (3, []), (4, []), (5, [9]), (6, [12]), (7, [13]), (8, [14])]]
  | 2 => [[(0, []), (1, [15])]]
  | 3 => [[(0, []), (1, []), (2, []), (3, [1, 2]), (4, [2]), (5, [])]]
  | 4 => [[(0, [16]), (1, [20])]]
  | 5 => [[(0, [7]), (1, [21]), (2, [22]), (3, [23])]]
  | 6 => [[(0, []), (1, [24])]]
  | 7 => [[(0, [1]), (1, []), (2, [26, 25])]]
  | 8 => [[(0, [27, 8]), (1, [28])]]
  | 9 => [[(0, [29]), (1, [30]), (2, []), (3, [])]]
  | _ => []
theorem c19ok : comp Tryz.prog 31 c19a chkD (Tryz.f19.body.getD .skip) = some (inst c19c) := by kernel_rfl
theorem c19call : callable Tryz.prog 19 = true := by kernel_rfl
theorem c19res : cRess Tryz.prog Tryz.f19.results.toList = some [.cell 4 true 6, .cell 5 false 1, .cell 6 false 1] := by kernel_rfl
def c20t : Nat → List AI
  | _ => []
def c20c : AC := .skip
def c20a : Ann := fun id => match id with
  | _ => []
theorem c20ok : comp Tryz.prog 4 c20a chkD (Tryz.f20.body.getD .skip) = some (inst c20c) := by kernel_rfl
theorem c20call : callable Tryz.prog 20 = true := by kernel_rfl
theorem c20res : cRess Tryz.prog Tryz.f20.results.toList = some [] := by kernel_rfl
def c22t : Nat → List AI
  | 0 => [⟨0, (some 1), .o (.box 25 (.tmp 0)), none, [0]⟩,
    ⟨1, (some 2), .o (.asg (.cst (.str ⟨#[]⟩))), none, []⟩]
  | 1 => [⟨0, (some 3), .o (.alloc [.nilP, (.sl true 0 [])] 71), none, [2]⟩]
  | 2 => [⟨0, (some 4), .o (.load true 6 (.tmp 1)), none, [1]⟩,
    ⟨1, (some 5), .call (.cst (.fn (.func 33) [] [])) [(.tmp 3), (.tmp 4)], none, [4]⟩]
  | 3 => [⟨0, (some 6), .o (.faddr 0 (.tmp 3)), none, [5, 3]⟩,
    ⟨1, (some 7), .call (.cst (.fn (.func 34) [] [])) [(.tmp 6)], none, [6]⟩,
    ⟨2, (some 2), .o (.asg (.tmp 7)), none, [7]⟩]
  | _ => []
def c22c : AC := (.seq (.regT c22t 0) (.seq (.regT c22t 1) (.seq (.regT c22t 2) (.seq (.regT c22t 3) .ret))))
def c22a : Ann := fun id => match id with
  | 0 => [[(0, [0]), (1, [])]]
  | 1 => [[(0, [2])]]
  | 2 => [[(0, [1]), (1, [4])]]
  | 3 => [[(0, [5, 3]), (1, [6]), (2, [7])]]
  | _ => []
theorem c22ok : comp Tryz.prog 8 c22a chkD (Tryz.f22.body.getD .skip) = some (inst c22c) := by kernel_rfl
theorem c22call : callable Tryz.prog 22 = true := by kernel_rfl
theorem c22res : cRess Tryz.prog Tryz.f22.results.toList = some [.tmp 2] := by kernel_rfl
def c23t : Nat → List AI
  | 0 => [⟨0, (some 2), .o (.asg (.cst (.bool false))), none, []⟩]
  | 1 => [⟨0, (some 4), .o (.move (.tmp 0)), none, [2]⟩,
    ⟨1, (some 5), .o (.build [(.str ⟨#[]⟩), (.int .i64 0)] [(0, 1, (.tmp 4))]), none, [4]⟩,
    ⟨2, (some 6), .o (.box 76 (.tmp 5)), none, [5]⟩,
    ⟨3, (some 3), .o (.asg (.tmp 6)), none, [6]⟩]
  | 2 => [⟨0, (some 7), .o (.move (.tmp 3)), none, []⟩,
    ⟨1, (some 8), .call (.cst (.fn (.func 35) [] [])) [(.tmp 7)], none, [7]⟩,
    ⟨2, (some 9), .o (.move (.tmp 8)), none, [8]⟩,
    ⟨3, (some 10), .o (.move (.tmp 3)), (some (9, true)), [3]⟩,
    ⟨4, (some 11), .o (.nilc (.tmp 10)), (some (9, true)), [10]⟩,
    ⟨5, (some 12), .o (.faddr 1 (.tmp 11)), (some (9, true)), [11]⟩,
    ⟨6, (some 13), .o (.load false 1 (.tmp 12)), (some (9, true)), [12]⟩,
    ⟨7, (some 14), .o (.move (.tmp 0)), (some (9, true)), [0]⟩,
    ⟨8, (some 15), .o (.len true (.tmp 14)), (some (9, true)), [14]⟩,
    ⟨9, (some 16), .o (.icmp .eql (.tmp 13) (.tmp 15)), (some (9, true)), [15, 13]⟩,
    ⟨10, (some 17), .o (.pick (.tmp 9) (.tmp 16) (.cst (.bool false))), none, [16, 9]⟩,
    ⟨11, (some 2), .o (.asg (.tmp 17)), none, [17]⟩]
  | _ => []
def c23c : AC := (.seq (.regT c23t 0) (.seq (.regT c23t 1) (.seq (.regT c23t 2) .ret)))
def c23a : Ann := fun id => match id with
  | 0 => [[(0, [])]]
  | 1 => [[(0, [2]), (1, [4]), (2, [5]), (3, [6])]]
  | 2 => [[(0, []), (1, [7]), (2, [8]), (3, [3]), (4, [10]), (5, [11]), (6, [12]), (7, [0]), (8, [14]), (9, [15, 13]), (10, [16, 9]), (11, [17])]]
  | _ => []
theorem c23ok : comp Tryz.prog 18 c23a chkD (Tryz.f23.body.getD .skip) = some (inst c23c) := by kernel_rfl
theorem c23call : callable Tryz.prog 23 = true := by kernel_rfl
theorem c23res : cRess Tryz.prog Tryz.f23.results.toList = some [.tmp 2] := by kernel_rfl
def c24t : Nat → List AI
  | 0 => [⟨0, (some 2), .o (.asg (.cst (.bool false))), none, []⟩]
  | 1 => [⟨0, (some 3), .o (.move (.tmp 0)), none, [2]⟩,
    ⟨1, (some 4), .o (.len true (.tmp 3)), none, [3]⟩,
    ⟨2, (some 5), .o (.icmp .gtr (.tmp 4) (.cst (.int .i64 0))), none, [4]⟩,
    ⟨3, (some 6), .o (.move (.tmp 5)), none, [5]⟩,
    ⟨4, (some 7), .o (.move (.tmp 0)), (some (6, true)), []⟩,
    ⟨5, (some 8), .call (.cst (.fn (.func 36) [] [])) [(.tmp 7), (.cst (.int .i64 0))], (some (6, true)), [7]⟩,
    ⟨6, (some 9), .o (.move (.tmp 0)), (some (6, true)), [0]⟩,
    ⟨7, (some 10), .o (.len true (.tmp 9)), (some (6, true)), [9]⟩,
    ⟨8, (some 11), .o (.icmp .eql (.tmp 8) (.tmp 10)), (some (6, true)), [10, 8]⟩,
    ⟨9, (some 12), .o (.pick (.tmp 6) (.tmp 11) (.cst (.bool false))), none, [11, 6]⟩,
    ⟨10, (some 2), .o (.asg (.tmp 12)), none, [12]⟩]
  | _ => []
def c24c : AC := (.seq (.regT c24t 0) (.seq (.regT c24t 1) .ret))
def c24a : Ann := fun id => match id with
  | 0 => [[(0, [])]]
  | 1 => [[(0, [2]), (1, [3]), (2, [4]), (3, [5]), (4, []), (5, [7]), (6, [0]), (7, [9]), (8, [10, 8]), (9, [11, 6]), (10, [12])]]
  | _ => []
theorem c24ok : comp Tryz.prog 13 c24a chkD (Tryz.f24.body.getD .skip) = some (inst c24c) := by kernel_rfl
theorem c24call : callable Tryz.prog 24 = true := by kernel_rfl
theorem c24res : cRess Tryz.prog Tryz.f24.results.toList = some [.tmp 2] := by kernel_rfl
def c26t : Nat → List AI
  | 0 => [⟨0, (some 2), .o (.asg (.cst (.sl true 0 []))), none, []⟩,
    ⟨1, (some 3), .o (.asg (.cst (.int .i64 0))), none, [2]⟩,
    ⟨2, (some 4), .o (.asg (.cst (.int .i64 0))), none, [3]⟩]
  | 1 => [⟨0, (some 11), .o (.move (.tmp 0)), none, [2, 3, 4]⟩,
    ⟨1, (some 12), .o (.len true (.tmp 11)), none, [11]⟩,
    ⟨2, (some 13), .o (.icmp .gtr (.tmp 12) (.cst (.int .i64 4096))), none, [12]⟩]
  | 2 => [⟨0, (some 2), .o (.asg (.cst (.sl true 0 []))), none, [13, 0]⟩,
    ⟨1, (some 3), .o (.asg (.cst (.int .i64 0))), none, []⟩,
    ⟨2, (some 4), .o (.asg (.cst (.int .i64 3))), none, []⟩]
  | 3 => [⟨0, (some 14), .o (.move (.tmp 0)), none, [13, 4, 3, 2]⟩,
    ⟨1, (some 15), .o (.build [(.str ⟨#[]⟩), (.int .i64 0)] [(0, 1, (.tmp 14))]), none, [14]⟩,
    ⟨2, (some 16), .o (.box 76 (.tmp 15)), none, [15]⟩,
    ⟨3, (some 5), .o (.asg (.tmp 16)), none, [16]⟩]
  | 4 => [⟨0, (some 6), .o (.asg (.cst (.sl true 0 []))), none, []⟩]
  | 5 => [⟨0, (some 7), .o (.asg (.cst (.int .i64 0))), none, []⟩]
  | 6 => [⟨0, (some 17), .o (.move (.tmp 5)), none, [7]⟩,
    ⟨1, (some 18), .call (.cst (.fn (.func 41) [] [])) [(.tmp 17), (.cst (.fn (.func 42) [] []))], none, [17]⟩]
  | 7 => [⟨0, (some 19), .o (.move (.tmp 5)), none, [18]⟩,
    ⟨1, (some 20), .o (.nilc (.tmp 19)), none, [19]⟩,
    ⟨2, (some 21), .o (.faddr 1 (.tmp 20)), none, [20]⟩,
    ⟨3, (some 22), .o (.load false 1 (.tmp 21)), none, [21]⟩,
    ⟨4, (some 7), .o (.asg (.tmp 22)), none, [22]⟩]
  | 8 => [⟨0, (some 24), .o (.move (.tmp 5)), none, []⟩,
    ⟨1, (some 25), .o (.nilc (.tmp 24)), none, [24]⟩,
    ⟨2, (some 26), .o (.faddr 1 (.tmp 25)), none, [25]⟩,
    ⟨3, (some 27), .o (.load false 1 (.tmp 26)), none, [26]⟩,
    ⟨4, (some 28), .o (.move (.tmp 0)), none, []⟩,
    ⟨5, (some 29), .o (.len true (.tmp 28)), none, [28]⟩,
    ⟨6, (some 30), .o (.icmp .eql (.tmp 27) (.tmp 29)), none, [29, 27]⟩,
    ⟨7, (some 23), .o (.asg (.tmp 30)), none, [30]⟩]
  | 9 => [⟨0, (some 31), .o (.move (.tmp 6)), none, [23, 7, 6, 0]⟩,
    ⟨1, (some 32), .o (.move (.tmp 5)), none, [5]⟩,
    ⟨2, (some 33), .o (.nilc (.tmp 32)), none, [32]⟩,
    ⟨3, (some 34), .o (.faddr 1 (.tmp 33)), none, [33]⟩,
    ⟨4, (some 35), .o (.load false 1 (.tmp 34)), none, [34]⟩,
    ⟨5, (some 36), .o (.build [(.int .i64 0), (.str ⟨#[]⟩), (.int .i64 0)] [(2, 1, (.tmp 35))]), none, [35]⟩,
    ⟨6, (some 37), .o (.bslice 79 true 3 1 [(.int .i64 0), (.str ⟨#[]⟩), (.int .i64 0)] [(0, 3, (.tmp 36))]), none, [36]⟩,
    ⟨7, (some 38), .o (.append 79 3 32 [(.int .i64 0), (.str ⟨#[]⟩), (.int .i64 0)] (.tmp 31) (.tmp 37)), none, [37, 31]⟩,
    ⟨8, (some 2), .o (.asg (.tmp 38)), none, [38]⟩,
    ⟨9, (some 3), .o (.asg (.cst (.int .i64 0))), none, []⟩,
    ⟨10, (some 4), .o (.asg (.cst (.int .i64 0))), none, []⟩]
  | 10 => [⟨0, (some 40), .o (.move (.tmp 0)), none, [23]⟩,
    ⟨1, (some 41), .o (.move (.tmp 5)), none, []⟩,
    ⟨2, (some 42), .o (.nilc (.tmp 41)), none, [41]⟩,
    ⟨3, (some 43), .o (.faddr 1 (.tmp 42)), none, [42]⟩,
    ⟨4, (some 44), .o (.load false 1 (.tmp 43)), none, [43]⟩,
    ⟨5, (some 45), .o (.index (.tmp 40) (.tmp 44)), none, [44, 40]⟩,
    ⟨6, (some 46), .o (.icmp .eql (.tmp 45) (.cst (.int .u8 34))), none, [45]⟩,
    ⟨7, (some 39), .o (.asg (.tmp 46)), none, [46]⟩]
  | 11 => [⟨0, (some 47), .o (.move (.tmp 0)), none, [39]⟩,
    ⟨1, (some 48), .o (.move (.tmp 5)), none, []⟩,
    ⟨2, (some 49), .o (.nilc (.tmp 48)), none, [48]⟩,
    ⟨3, (some 50), .o (.faddr 1 (.tmp 49)), none, [49]⟩,
    ⟨4, (some 51), .o (.load false 1 (.tmp 50)), none, [50]⟩,
    ⟨5, (some 52), .o (.ibin .add (.tmp 51) (.cst (.int .i64 1))), none, [51]⟩,
    ⟨6, (some 53), .o (.sslice (.tmp 47) (some (.tmp 52)) none), none, [52, 47]⟩,
    ⟨7, (some 54), .call (.cst (.fn (.func 44) [] [])) [(.tmp 53), (.cst (.int .u8 34))], none, [53]⟩,
    ⟨8, (some 8), .o (.asg (.tmp 54)), none, [54]⟩]
  | 12 => [⟨0, (some 55), .o (.move (.tmp 8)), none, []⟩,
    ⟨1, (some 56), .o (.icmp .lss (.tmp 55) (.cst (.int .i64 0))), none, [55]⟩]
  | 13 => [⟨0, (some 57), .o (.move (.tmp 5)), none, [56, 7]⟩,
    ⟨1, (some 58), .o (.nilc (.tmp 57)), none, []⟩,
    ⟨2, (some 59), .o (.faddr 1 (.tmp 58)), none, [58]⟩,
    ⟨3, (some 60), .o (.load false 1 (.tmp 59)), none, [59]⟩,
    ⟨4, (some 61), .o (.move (.tmp 8)), none, [8]⟩,
    ⟨5, (some 62), .o (.ibin .add (.tmp 61) (.cst (.int .i64 2))), none, [61]⟩,
    ⟨6, (some 63), .o (.ibin .add (.tmp 60) (.tmp 62)), none, [62, 60]⟩,
    ⟨7, (some 64), .o (.nilc (.tmp 57)), none, [57]⟩,
    ⟨8, (some 65), .o (.faddr 1 (.tmp 64)), none, [64]⟩,
    ⟨9, none, .o (.store 1 (.tmp 65) (.tmp 63)), none, [65, 63]⟩]
  | 14 => [⟨0, (some 67), .o (.move (.tmp 5)), none, [39, 4, 3, 2]⟩,
    ⟨1, (some 68), .call (.cst (.fn (.func 45) [] [])) [(.tmp 67)], none, [67]⟩,
    ⟨2, (some 66), .o (.move (.tmp 68)), none, [68]⟩,
    ⟨3, (some 69), .o (.extract (.tmp 66) 0), none, []⟩,
    ⟨4, (some 70), .o (.extract (.tmp 66) 1), none, [66]⟩,
    ⟨5, (some 9), .o (.alloc [(.int .i64 0), (.str ⟨#[]⟩), (.int .i64 0)] 79), none, []⟩,
    ⟨6, none, .o (.store 3 (.tmp 9) (.tmp 69)), none, [69]⟩,
    ⟨7, (some 10), .o (.asg (.tmp 70)), none, [70]⟩]
  | 15 => [⟨0, (some 71), .o (.move (.tmp 10)), none, [10]⟩]
  | 16 => [⟨0, (some 72), .o (.move (.tmp 6)), none, [71, 6, 7]⟩,
    ⟨1, (some 73), .o (.load true 3 (.tmp 9)), none, [9]⟩,
    ⟨2, (some 74), .o (.bslice 79 true 3 1 [(.int .i64 0), (.str ⟨#[]⟩), (.int .i64 0)] [(0, 3, (.tmp 73))]), none, [73]⟩,
    ⟨3, (some 75), .o (.append 79 3 32 [(.int .i64 0), (.str ⟨#[]⟩), (.int .i64 0)] (.tmp 72) (.tmp 74)), none, [74, 72]⟩,
    ⟨4, (some 6), .o (.asg (.tmp 75)), none, [75]⟩]
  | 17 => [⟨0, (some 76), .o (.move (.tmp 7)), none, [7, 9, 71, 6, 0, 5]⟩,
    ⟨1, (some 2), .o (.asg (.cst (.sl true 0 []))), none, []⟩,
    ⟨2, (some 3), .o (.asg (.tmp 76)), none, [76]⟩,
    ⟨3, (some 4), .o (.asg (.cst (.int .i64 20))), none, []⟩]
  | _ => []
def c26c : AC := (.seq (.regT c26t 0) (.scope (.seq (.seq (.regT c26t 1) (.cond (.tmp 13) (.seq (.regT c26t 2) .ret) .skip)) (.seq (.regT c26t 3) (.seq (.regT c26t 4) (.seq (.regT c26t 5) (.seq (.label 0) (.seq (.regT c26t 6) (.seq (.regT c26t 7) (.seq (.block 0 (.seq (.regT c26t 8) (.cond (.tmp 23) (.seq (.regT c26t 9) .ret) (.seq (.regT c26t 10) (.cond (.tmp 39) (.seq (.regT c26t 11) (.seq (.seq (.regT c26t 12) (.cond (.tmp 56) (.goto 1) .skip)) (.seq (.regT c26t 13) (.goto 0)))) .skip))))) (.seq (.seq (.regT c26t 14) (.seq (.regT c26t 15) (.cond (.tmp 71) (.seq (.regT c26t 16) (.goto 0)) .skip))) (.seq (.label 1) (.seq (.regT c26t 17) .ret)))))))))))))
def c26a : Ann := fun id => match id with
  | 0 => [[(0, []), (1, [2]), (2, [3])]]
  | 1 => [[(0, [2, 3, 4]), (1, [11]), (2, [12])]]
  | 2 => [[(0, [13, 0]), (1, []), (2, [])]]
  | 3 => [[(0, [13, 4, 3, 2]), (1, [14]), (2, [15]), (3, [16])]]
  | 4 => [[(0, [])]]
  | 5 => [[(0, [])]]
  | 6 => [[(0, [7]), (1, [17])]]
  | 7 => [[(0, [18]), (1, [19]), (2, [20]), (3, [21]), (4, [22])]]
  | 8 => [[(0, []), (1, [24]), (2, [25]), (3, [26]), (4, []), (5, [28]), (6, [29, 27]), (7, [30])]]
  | 9 => [[(0, [23, 7, 6, 0]), (1, [5]), (2, [32]), (3, [33]), (4, [34]), (5, [35]), (6, [36]), (7, [37, 31]), (8, [38]), (9, []), (10, [])]]
  | 10 => [[(0, [23]), (1, []), (2, [41]), (3, [42]), (4, [43]), (5, [44, 40]), (6, [45]), (7, [46])]]
  | 11 => [[(0, [39]), (1, []), (2, [48]), (3, [49]), (4, [50]), (5, [51]), (6, [52, 47]), (7, [53]), (8, [54])]]
  | 12 => [[(0, []), (1, [55])]]
  | 13 => [[(0, [56, 7]), (1, []), (2, [58]), (3, [59]), (4, [8]), (5, [61]), (6, [62, 60]), (7, [57]), (8, [64]), (9, [65, 63])]]
  | 14 => [[(0, [39, 4, 3, 2]), (1, [67]), (2, [68]), (3, []), (4, [66]), (5, []), (6, [69]), (7, [70])]]
  | 15 => [[(0, [10])]]
  | 16 => [[(0, [71, 6, 7]), (1, [9]), (2, [73]), (3, [74, 72]), (4, [75])]]
  | 17 => [[(0, [7, 9, 71, 6, 0, 5]), (1, []), (2, [76]), (3, [])]]
  | _ => []
theorem c26ok : comp Tryz.prog 77 c26a chkD (Tryz.f26.body.getD .skip) = some (inst c26c) := by kernel_rfl
theorem c26call : callable Tryz.prog 26 = true := by kernel_rfl
theorem c26res : cRess Tryz.prog Tryz.f26.results.toList = some [.tmp 2, .tmp 3, .tmp 4] := by kernel_rfl
def c27t : Nat → List AI
  | 0 => [⟨0, (some 8), .o (.eqnil 3 false (.tmp 6)), none, []⟩]
  | 1 => [⟨0, (some 3), .o (.asg (.tmp 6)), none, [8, 0, 1, 2, 6]⟩]
  | 2 => [⟨0, (some 9), .o (.tass 53 (.agg [(.int .i64 0), (.int .i64 0)]) (.tmp 6)), none, [8]⟩,
    ⟨1, (some 10), .o (.extract (.tmp 9) 1), none, []⟩,
    ⟨2, (some 11), .o (.extract (.tmp 9) 0), none, [9]⟩]
  | 3 => [⟨0, (some 4), .o (.alloc [(.int .i64 0), (.int .i64 0)] 53), none, [10, 6]⟩,
    ⟨1, none, .o (.store 2 (.tmp 4) (.tmp 11)), none, [11]⟩]
  | 4 => [⟨0, (some 12), .o (.build [(.int .i64 0), (.str ⟨#[]⟩), (.int .i64 0), (.int .i64 0), (.sl true 0 []), (.sl true 0 [])] []), none, []⟩,
    ⟨1, (some 13), .o (.faddr 0 (.tmp 4)), none, []⟩,
    ⟨2, (some 14), .o (.load false 1 (.tmp 13)), none, []⟩,
    ⟨3, (some 15), .o (.faddr 1 (.tmp 4)), none, []⟩,
    ⟨4, (some 16), .o (.load false 1 (.tmp 15)), none, []⟩,
    ⟨5, none, .o (.store 6 (.tmp 0) (.tmp 12)), none, [1, 2, 3, 4]⟩,
    ⟨6, none, .o (.store 1 (.tmp 1) (.tmp 14)), none, [3, 4]⟩,
    ⟨7, none, .o (.store 1 (.tmp 2) (.tmp 16)), none, []⟩]
  | 5 => [⟨0, (some 5), .o (.asg (.tmp 6)), none, [11, 10, 0, 1, 2, 6]⟩]
  | 6 => [⟨0, (some 7), .o (.move (.tmp 5)), none, [5]⟩,
    ⟨1, none, .panic (.tmp 7), none, [7]⟩]
  | _ => []
def c27c : AC := (.block 0 (.seq (.regT c27t 0) (.cond (.tmp 8) (.regT c27t 1) (.seq (.regT c27t 2) (.cond (.tmp 10) (.seq (.regT c27t 3) (.regD [c27t 4])) (.seq (.regT c27t 5) (.regT c27t 6)))))))
def c27a : Ann := fun id => match id with
  | 3 => [[(0, [])]]
  | 4 => [[(0, [8, 0, 1, 2, 6])]]
  | 5 => [[(0, [8]), (1, []), (2, [9])]]
  | 6 => [[(0, [10, 6]), (1, [11])]]
  | 7 => [[(0, []), (1, []), (2, []), (3, []), (4, []), (5, [1, 2, 3, 4]), (6, [3, 4]), (7, [])]]
  | 1 => [[(0, [11, 10, 0, 1, 2, 6])]]
  | 2 => [[(0, [5]), (1, [7])]]
  | _ => []
theorem c27ok : comp Tryz.prog 17 c27a chkD (match Tryz.f27.body with | some (.seq _ r) => r | _ => .skip) = some (inst c27c) := by kernel_rfl
theorem c27call : callable Tryz.prog 27 = true := by kernel_rfl
theorem c27res : cRess Tryz.prog Tryz.f27.results.toList = some [] := by kernel_rfl
def c28t : Nat → List AI
  | 0 => [⟨0, (some 8), .o (.move (.tmp 0)), none, [62, 60]⟩,
    ⟨1, (some 9), .call (.cst (.fn (.func 40) [] [])) [(.tmp 8)], none, [8]⟩,
    ⟨2, (some 10), .o (.icmp .eql (.tmp 9) (.cst (.int .i64 12))), none, [9]⟩]
  | 1 => [⟨0, (some 11), .o (.move (.tmp 0)), none, [10]⟩,
    ⟨1, (some 12), .call (.cst (.fn (.func 39) [] [])) [(.tmp 11)], none, [11]⟩]
  | 2 => [⟨0, (some 13), .o (.move (.tmp 0)), none, [12]⟩,
    ⟨1, (some 14), .call (.cst (.fn (.func 40) [] [])) [(.tmp 13)], none, [13]⟩,
    ⟨2, (some 15), .o (.icmp .eql (.tmp 14) (.cst (.int .i64 1))), none, [14]⟩]
  | 3 => [⟨0, (some 16), .o (.move (.tmp 1)), none, []⟩,
    ⟨1, (some 17), .o (.move (.tmp 1)), none, []⟩,
    ⟨2, (some 18), .o (.nilc (.tmp 17)), none, []⟩,
    ⟨3, (some 19), .o (.faddr 4 (.tmp 18)), none, []⟩,
    ⟨4, (some 20), .o (.load false 1 (.tmp 19)), none, []⟩,
    ⟨5, (some 21), .o (.move (.tmp 0)), none, []⟩,
    ⟨6, (some 22), .call (.cst (.fn (.func 39) [] [])) [(.tmp 21)], none, [0, 1, 2, 3, 4]⟩,
    ⟨7, (some 23), .o (.field false 1 1 (.tmp 22)), none, []⟩,
    ⟨8, (some 24), .o (.bslice 9 false 1 1 [(.str ⟨#[]⟩)] [(0, 1, (.tmp 23))]), none, [0, 1, 2, 3, 4]⟩,
    ⟨9, (some 25), .o (.append 9 1 16 [(.str ⟨#[]⟩)] (.tmp 20) (.tmp 24)), none, [0]⟩,
    ⟨10, (some 26), .o (.nilc (.tmp 16)), none, []⟩,
    ⟨11, (some 27), .o (.faddr 4 (.tmp 26)), none, []⟩,
    ⟨12, none, .o (.store 1 (.tmp 27) (.tmp 25)), none, []⟩]
  | 5 => [⟨0, (some 28), .o (.move (.tmp 0)), none, []⟩,
    ⟨1, (some 29), .call (.cst (.fn (.func 38) [] [])) [(.tmp 28), (.cst (.int .i64 12))], none, [28]⟩]
  | 6 => [⟨0, (some 30), .o (.move (.tmp 0)), none, [10, 29]⟩,
    ⟨1, (some 31), .call (.cst (.fn (.func 40) [] [])) [(.tmp 30)], none, [30]⟩,
    ⟨2, (some 32), .o (.move (.tmp 2)), none, []⟩,
    ⟨3, (some 33), .o (.icmp .eql (.tmp 31) (.tmp 32)), none, [32, 31]⟩]
  | 7 => [⟨0, (some 35), .o (.move (.tmp 0)), none, [33]⟩,
    ⟨1, (some 36), .call (.cst (.fn (.func 46) [] [])) [(.tmp 35)], none, [35]⟩,
    ⟨2, (some 34), .o (.move (.tmp 36)), none, [36]⟩,
    ⟨3, (some 37), .o (.extract (.tmp 34) 0), none, []⟩,
    ⟨4, (some 38), .o (.extract (.tmp 34) 1), none, [34]⟩,
    ⟨5, (some 6), .o (.alloc [(.int .i64 0), (.str ⟨#[]⟩), (.int .i64 0), (.int .i64 0), (.sl true 0 []), (.sl true 0 [])] 25), none, []⟩,
    ⟨6, none, .o (.store 6 (.tmp 6) (.tmp 37)), none, [37]⟩,
    ⟨7, (some 7), .o (.asg (.tmp 38)), none, [38]⟩]
  | 8 => [⟨0, (some 39), .o (.move (.tmp 1)), none, []⟩,
    ⟨1, (some 40), .o (.nilc (.tmp 39)), none, []⟩,
    ⟨2, (some 41), .o (.faddr 5 (.tmp 40)), none, []⟩,
    ⟨3, (some 42), .o (.load false 1 (.tmp 41)), none, []⟩,
    ⟨4, (some 43), .o (.load true 6 (.tmp 6)), none, []⟩,
    ⟨5, (some 44), .o (.len false (.tmp 42)), none, []⟩,
    ⟨6, (some 45), .o (.bslice 25 true 6 1 [(.int .i64 0), (.str ⟨#[]⟩), (.int .i64 0), (.int .i64 0), (.sl true 0 []), (.sl true 0 [])] [(0, 6, (.cst (.agg [(.int .i64 0), (.str ⟨#[]⟩), (.int .i64 0), (.int .i64 0), (.sl true 0 []), (.sl true 0 [])])))]), none, [0, 1, 2, 3, 4, 5]⟩,
    ⟨7, (some 46), .o (.append 25 6 88 [(.int .i64 0), (.str ⟨#[]⟩), (.int .i64 0), (.int .i64 0), (.sl true 0 []), (.sl true 0 [])] (.tmp 42) (.tmp 45)), none, []⟩,
    ⟨8, (some 47), .o (.iaddr 6 (.tmp 46) (.tmp 44)), none, []⟩,
    ⟨10, (some 48), .o (.nilc (.tmp 39)), none, []⟩,
    ⟨11, (some 49), .o (.faddr 5 (.tmp 48)), none, []⟩,
    ⟨9, none, .o (.store 6 (.tmp 47) (.tmp 43)), none, [10, 11]⟩,
    ⟨12, none, .o (.store 1 (.tmp 49) (.tmp 46)), none, [8]⟩]
  | 9 => [⟨0, (some 39), .o (.move (.tmp 1)), none, []⟩,
    ⟨1, (some 40), .o (.nilc (.tmp 39)), none, []⟩,
    ⟨2, (some 41), .o (.faddr 5 (.tmp 40)), none, []⟩,
    ⟨3, (some 42), .o (.load false 1 (.tmp 41)), none, []⟩,
    ⟨4, (some 43), .o (.load true 6 (.tmp 6)), none, []⟩,
    ⟨5, (some 44), .o (.len false (.tmp 42)), none, []⟩,
    ⟨6, (some 45), .o (.bslice 25 true 6 1 [(.int .i64 0), (.str ⟨#[]⟩), (.int .i64 0), (.int .i64 0), (.sl true 0 []), (.sl true 0 [])] [(0, 6, (.cst (.agg [(.int .i64 0), (.str ⟨#[]⟩), (.int .i64 0), (.int .i64 0), (.sl true 0 []), (.sl true 0 [])])))]), none, [0, 1, 2, 3, 4, 5]⟩,
    ⟨7, (some 46), .o (.append 25 6 88 [(.int .i64 0), (.str ⟨#[]⟩), (.int .i64 0), (.int .i64 0), (.sl true 0 []), (.sl true 0 [])] (.tmp 42) (.tmp 45)), none, []⟩,
    ⟨8, (some 47), .o (.iaddr 6 (.tmp 46) (.tmp 44)), none, []⟩,
    ⟨10, (some 48), .o (.nilc (.tmp 39)), none, []⟩,
    ⟨11, (some 49), .o (.faddr 5 (.tmp 48)), none, []⟩,
    ⟨12, none, .o (.store 1 (.tmp 49) (.tmp 46)), none, [8]⟩,
    ⟨9, none, .o (.store 6 (.tmp 47) (.tmp 43)), none, [10, 11]⟩]
  | 10 => [⟨0, (some 50), .o (.move (.tmp 0)), none, []⟩,
    ⟨1, (some 51), .call (.cst (.fn (.func 40) [] [])) [(.tmp 50)], none, [50]⟩,
    ⟨2, (some 52), .o (.icmp .eql (.tmp 51) (.cst (.int .i64 14))), none, [51]⟩]
  | 11 => [⟨0, (some 53), .o (.move (.tmp 0)), none, [52]⟩,
    ⟨1, (some 54), .call (.cst (.fn (.func 39) [] [])) [(.tmp 53)], none, [53]⟩]
  | 12 => [⟨0, (some 55), .o (.move (.tmp 7)), none, [54, 7]⟩,
    ⟨1, (some 56), .o (.not (.tmp 55)), none, [55]⟩]
  | 13 => [⟨0, (some 57), .o (.move (.tmp 0)), none, [7, 52, 56, 1]⟩,
    ⟨1, (some 58), .call (.cst (.fn (.func 40) [] [])) [(.tmp 57)], none, [57]⟩,
    ⟨2, (some 59), .o (.move (.tmp 2)), none, [2]⟩,
    ⟨3, (some 60), .o (.icmp .neq (.tmp 58) (.tmp 59)), none, [59, 58]⟩]
  | 14 => [⟨0, (some 61), .o (.move (.tmp 0)), none, [60, 0]⟩,
    ⟨1, (some 62), .call (.cst (.fn (.func 47) [] [])) [(.tmp 61), (.cst (.int .i64 20))], none, [61]⟩]
  | _ => []
def c28l4 : AC := (.seq (.seq (.regT c28t 2) (.cond (.tmp 15) .skip (.exit 0))) (.block 1 (.regD [c28t 3])))
def c28c : AC := (.scope (.seq (.seq (.regT c28t 0) (.cond (.tmp 10) (.seq (.regT c28t 1) (.seq (.block 0 (.loop c28l4)) (.regT c28t 5))) .skip)) (.seq (.label 0) (.seq (.seq (.regT c28t 6) (.cond (.tmp 33) .ret .skip)) (.seq (.regT c28t 7) (.seq (.regD [c28t 8, c28t 9]) (.seq (.seq (.regT c28t 10) (.cond (.tmp 52) (.seq (.regT c28t 11) (.seq (.regT c28t 12) (.cond (.tmp 56) (.goto 0) .skip))) .skip)) (.seq (.regT c28t 13) (.cond (.tmp 60) (.regT c28t 14) .skip)))))))))
def c28a : Ann := fun id => match id with
  | 0 => [[(0, [62, 60]), (1, [8]), (2, [9])]]
  | 1 => [[(0, [10]), (1, [11])]]
  | 2 => [[(0, [12]), (1, [13]), (2, [14])]]
  | 3 => [[(0, []), (1, []), (2, []), (3, []), (4, []), (5, []), (6, [0, 1, 2, 3, 4]), (7, []), (8, [0, 1, 2, 3, 4]), (9, [0]), (10, []), (11, []), (12, [])]]
  | 4 => [[(0, []), (1, [28])]]
  | 5 => [[(0, [10, 29]), (1, [30]), (2, []), (3, [32, 31])]]
  | 6 => [[(0, [33]), (1, [35]), (2, [36]), (3, []), (4, [34]), (5, []), (6, [37]), (7, [38])]]
  | 7 => [[(0, []), (1, []), (2, []), (3, []), (4, []), (5, []), (6, [0, 1, 2, 3, 4, 5]), (7, []), (8, []), (10, []), (11, []), (9, [10, 11]), (12, [8])], [(0, []), (1, []), (2, []), (3, []), (4, []), (5, []), (6, [0, 1, 2, 3, 4, 5]), (7, []), (8, []), (10, []), (11, []), (12, [8]), (9, [10, 11])]]
  | 8 => [[(0, []), (1, [50]), (2, [51])]]
  | 9 => [[(0, [52]), (1, [53])]]
  | 10 => [[(0, [54, 7]), (1, [55])]]
  | 11 => [[(0, [7, 52, 56, 1]), (1, [57]), (2, [2]), (3, [59, 58])]]
  | 12 => [[(0, [60, 0]), (1, [61])]]
  | _ => []
theorem c28ok : comp Tryz.prog 63 c28a chkD (Tryz.f28.body.getD .skip) = some (inst c28c) := by kernel_rfl
theorem c28call : callable Tryz.prog 28 = true := by kernel_rfl
theorem c28res : cRess Tryz.prog Tryz.f28.results.toList = some [] := by kernel_rfl
end Go.SL
set_option maxRecDepth 100000
namespace Go.SL
open Go.Proofs
def c33t : Nat → List AI
  | 0 => [⟨0, (some 3), .o (.box 25 (.tmp 1)), none, [1]⟩]
  | 1 => [⟨0, (some 9), .o (.faddr 0 (.tmp 3)), none, []⟩,
    ⟨1, (some 10), .o (.load false 1 (.tmp 9)), none, [9]⟩]
  | 2 => [⟨0, (some 18), .o (.icmp .eql (.tmp 10) (.cst (.int .i64 2))), none, []⟩,
    ⟨1, (some 17), .o (.asg (.tmp 18)), none, [18]⟩]
  | 3 => [⟨0, (some 19), .o (.move (.tmp 0)), none, []⟩,
    ⟨1, (some 20), .o (.nilc (.tmp 19)), none, []⟩,
    ⟨2, (some 21), .o (.faddr 0 (.tmp 20)), none, []⟩,
    ⟨3, (some 22), .o (.faddr 1 (.tmp 3)), none, []⟩,
    ⟨4, (some 23), .o (.load false 1 (.tmp 22)), none, []⟩,
    ⟨5, (some 24), .call (.cst (.fn (.func 55) [] [])) [(.tmp 23)], none, [0, 1, 2]⟩,
    ⟨6, (some 25), .call (.cst (.fn (.func 54) [] [])) [(.tmp 21), (.tmp 24)], none, []⟩]
  | 4 => [⟨0, (some 27), .o (.icmp .eql (.tmp 10) (.cst (.int .i64 3))), none, [17]⟩,
    ⟨1, (some 26), .o (.asg (.tmp 27)), none, [27]⟩]
  | 5 => [⟨0, (some 28), .o (.faddr 1 (.tmp 3)), none, [26, 10, 3]⟩,
    ⟨1, (some 29), .o (.load false 1 (.tmp 28)), none, [28]⟩,
    ⟨2, (some 4), .o (.asg (.tmp 29)), none, [29]⟩]
  | 6 => [⟨0, (some 30), .o (.move (.tmp 4)), none, []⟩,
    ⟨1, (some 31), .call (.cst (.fn (.func 56) [] [])) [(.tmp 30)], none, [30]⟩,
    ⟨2, (some 32), .o (.not (.tmp 31)), none, [31]⟩]
  | 7 => [⟨0, (some 33), .o (.move (.tmp 4)), none, [32, 4]⟩,
    ⟨1, (some 34), .call (.cst (.fn (.func 55) [] [])) [(.tmp 33)], none, [33]⟩,
    ⟨2, (some 4), .o (.asg (.tmp 34)), none, [34]⟩]
  | 8 => [⟨0, (some 35), .o (.move (.tmp 0)), none, [32, 0]⟩,
    ⟨1, (some 36), .o (.nilc (.tmp 35)), none, [35]⟩,
    ⟨2, (some 37), .o (.faddr 0 (.tmp 36)), none, [36]⟩,
    ⟨3, (some 38), .o (.move (.tmp 4)), none, [4]⟩,
    ⟨4, (some 39), .o (.sbin .add (.cst (.str ⟨#[35]⟩)) (.tmp 38)), none, [38]⟩,
    ⟨5, (some 40), .call (.cst (.fn (.func 54) [] [])) [(.tmp 37), (.tmp 39)], none, [39, 37]⟩]
  | 9 => [⟨0, (some 42), .o (.icmp .eql (.tmp 10) (.cst (.int .i64 4))), none, [26]⟩,
    ⟨1, (some 41), .o (.asg (.tmp 42)), none, [42]⟩]
  | 10 => [⟨0, (some 43), .o (.move (.tmp 0)), none, [41, 10]⟩,
    ⟨1, (some 44), .o (.nilc (.tmp 43)), none, [43]⟩,
    ⟨2, (some 45), .o (.faddr 0 (.tmp 44)), none, [44]⟩,
    ⟨3, (some 46), .call (.cst (.fn (.func 54) [] [])) [(.tmp 45), (.cst (.str ⟨#[35, 40]⟩))], none, [45]⟩]
  | 11 => [⟨0, (some 47), .o (.move (.tmp 0)), none, [46]⟩,
    ⟨1, (some 48), .o (.faddr 5 (.tmp 3)), none, [3]⟩,
    ⟨2, (some 49), .o (.load false 1 (.tmp 48)), none, [48]⟩,
    ⟨3, (some 50), .call (.cst (.fn (.func 57) [] [])) [(.tmp 47), (.tmp 49), (.cst (.str ⟨#[32]⟩))], none, [49, 47]⟩]
  | 12 => [⟨0, (some 51), .o (.move (.tmp 0)), none, [50, 0]⟩,
    ⟨1, (some 52), .o (.nilc (.tmp 51)), none, [51]⟩,
    ⟨2, (some 53), .o (.faddr 0 (.tmp 52)), none, [52]⟩,
    ⟨3, (some 54), .call (.cst (.fn (.func 58) [] [])) [(.tmp 53), (.cst (.int .u8 41))], none, [53]⟩]
  | 13 => [⟨0, (some 56), .o (.icmp .eql (.tmp 10) (.cst (.int .i64 6))), none, [41]⟩,
    ⟨1, (some 55), .o (.asg (.tmp 56)), none, [56]⟩]
  | 14 => [⟨0, (some 57), .o (.move (.tmp 0)), none, []⟩,
    ⟨1, (some 58), .o (.nilc (.tmp 57)), none, []⟩,
    ⟨2, (some 59), .o (.faddr 0 (.tmp 58)), none, []⟩,
    ⟨3, (some 60), .o (.faddr 1 (.tmp 3)), none, []⟩,
    ⟨4, (some 61), .o (.load false 1 (.tmp 60)), none, []⟩,
    ⟨5, (some 62), .o (.sbin .add (.tmp 61) (.cst (.str ⟨#[32, 58, 61, 32]⟩))), none, []⟩,
    ⟨6, (some 63), .call (.cst (.fn (.func 54) [] [])) [(.tmp 59), (.tmp 62)], none, []⟩]
  | 15 => [⟨0, (some 64), .o (.move (.tmp 0)), none, [63, 0]⟩,
    ⟨1, (some 65), .o (.faddr 5 (.tmp 3)), none, [3]⟩,
    ⟨2, (some 66), .o (.load false 1 (.tmp 65)), none, [65]⟩,
    ⟨3, (some 67), .o (.iaddr 6 (.tmp 66) (.cst (.int .i64 0))), none, [66]⟩,
    ⟨4, (some 68), .o (.load true 6 (.tmp 67)), none, [67]⟩,
    ⟨5, (some 69), .call (.cst (.fn (.func 33) [] [])) [(.tmp 64), (.tmp 68)], none, [68, 64]⟩]
  | 16 => [⟨0, (some 71), .o (.icmp .eql (.tmp 10) (.cst (.int .i64 7))), none, [55]⟩,
    ⟨1, (some 70), .o (.asg (.tmp 71)), none, [71]⟩]
  | 17 => [⟨0, (some 72), .o (.move (.tmp 0)), none, []⟩,
    ⟨1, (some 73), .o (.faddr 5 (.tmp 3)), none, []⟩,
    ⟨2, (some 74), .o (.load false 1 (.tmp 73)), none, []⟩,
    ⟨3, (some 75), .o (.iaddr 6 (.tmp 74) (.cst (.int .i64 0))), none, []⟩,
    ⟨4, (some 76), .o (.load true 6 (.tmp 75)), none, []⟩,
    ⟨5, (some 77), .o (.faddr 1 (.tmp 3)), none, []⟩,
    ⟨6, (some 78), .o (.load false 1 (.tmp 77)), none, []⟩,
    ⟨7, (some 79), .call (.cst (.fn (.func 59) [] [])) [(.tmp 72), (.tmp 76), (.tmp 78)], none, []⟩]
  | 18 => [⟨0, (some 80), .o (.move (.tmp 0)), none, []⟩,
    ⟨1, (some 81), .o (.faddr 1 (.tmp 3)), none, []⟩,
    ⟨2, (some 82), .o (.load false 1 (.tmp 81)), none, []⟩,
    ⟨3, (some 83), .o (.faddr 5 (.tmp 3)), none, []⟩,
    ⟨4, (some 84), .o (.load false 1 (.tmp 83)), none, []⟩,
    ⟨5, (some 85), .o (.lslice 6 (.tmp 84) (some (.cst (.int .i64 1))) none), none, []⟩,
    ⟨6, (some 86), .call (.cst (.fn (.func 60) [] [])) [(.tmp 80), (.tmp 82), (.tmp 85)], none, []⟩]
  | 19 => [⟨0, (some 88), .o (.icmp .eql (.tmp 10) (.cst (.int .i64 8))), none, [70]⟩,
    ⟨1, (some 87), .o (.asg (.tmp 88)), none, [88]⟩]
  | 20 => [⟨0, (some 89), .o (.move (.tmp 0)), none, []⟩,
    ⟨1, (some 90), .o (.faddr 5 (.tmp 3)), none, []⟩,
    ⟨2, (some 91), .o (.load false 1 (.tmp 90)), none, []⟩,
    ⟨3, (some 92), .o (.iaddr 6 (.tmp 91) (.cst (.int .i64 0))), none, []⟩,
    ⟨4, (some 93), .o (.load true 6 (.tmp 92)), none, []⟩,
    ⟨5, (some 94), .o (.faddr 5 (.tmp 3)), none, []⟩,
    ⟨6, (some 95), .o (.load false 1 (.tmp 94)), none, []⟩,
    ⟨7, (some 96), .o (.iaddr 6 (.tmp 95) (.cst (.int .i64 1))), none, []⟩,
    ⟨8, (some 97), .o (.faddr 1 (.tmp 96)), none, []⟩,
    ⟨9, (some 98), .o (.load false 1 (.tmp 97)), none, []⟩,
    ⟨10, (some 99), .call (.cst (.fn (.func 59) [] [])) [(.tmp 89), (.tmp 93), (.tmp 98)], none, []⟩]
  | 21 => [⟨0, (some 100), .o (.faddr 5 (.tmp 3)), none, [99, 3]⟩,
    ⟨1, (some 101), .o (.load false 1 (.tmp 100)), none, [100]⟩,
    ⟨2, (some 102), .o (.lslice 6 (.tmp 101) (some (.cst (.int .i64 1))) none), none, [101]⟩,
    ⟨3, (some 103), .o (.len false (.tmp 102)), none, []⟩,
    ⟨4, (some 104), .o (.move (.cst (.int .i64 0))), none, []⟩]
  | 22 => [⟨0, (some 105), .o (.icmp .lss (.tmp 104) (.tmp 103)), none, []⟩]
  | 23 => [⟨0, (some 106), .o (.move (.tmp 104)), none, [105]⟩,
    ⟨1, (some 107), .o (.iaddr 6 (.tmp 102) (.tmp 104)), none, []⟩,
    ⟨2, (some 108), .o (.load true 6 (.tmp 107)), none, [107]⟩,
    ⟨3, (some 6), .o (.alloc [(.int .i64 0), (.str ⟨#[]⟩), (.int .i64 0), (.int .i64 0), (.sl true 0 []), (.sl true 0 [])] 25), none, []⟩,
    ⟨4, (some 5), .o (.asg (.tmp 106)), none, [106]⟩,
    ⟨5, none, .o (.store 6 (.tmp 6) (.tmp 108)), none, [108]⟩]
  | 24 => [⟨0, (some 109), .o (.move (.tmp 5)), none, [5]⟩,
    ⟨1, (some 110), .o (.icmp .gtr (.tmp 109) (.cst (.int .i64 0))), none, [109]⟩]
  | 25 => [⟨0, (some 111), .o (.move (.tmp 0)), none, [110]⟩,
    ⟨1, (some 112), .o (.nilc (.tmp 111)), none, [111]⟩,
    ⟨2, (some 113), .o (.faddr 0 (.tmp 112)), none, [112]⟩,
    ⟨3, (some 114), .call (.cst (.fn (.func 58) [] [])) [(.tmp 113), (.cst (.int .u8 59))], none, [113]⟩]
  | 26 => [⟨0, (some 115), .o (.move (.tmp 0)), none, [110, 114]⟩,
    ⟨1, (some 116), .o (.faddr 1 (.tmp 6)), none, []⟩,
    ⟨2, (some 117), .o (.load false 1 (.tmp 116)), none, [116]⟩,
    ⟨3, (some 118), .o (.faddr 5 (.tmp 6)), none, [6]⟩,
    ⟨4, (some 119), .o (.load false 1 (.tmp 118)), none, [118]⟩,
    ⟨5, (some 120), .call (.cst (.fn (.func 60) [] [])) [(.tmp 115), (.tmp 117), (.tmp 119)], none, [119, 117, 115]⟩]
  | 27 => [⟨0, (some 121), .o (.ibin .add (.tmp 104) (.cst (.int .i64 1))), none, [120, 104]⟩,
    ⟨1, (some 104), .o (.move (.tmp 121)), none, [121]⟩]
  | 29 => [⟨0, (some 123), .o (.icmp .eql (.tmp 10) (.cst (.int .i64 10))), none, [87]⟩,
    ⟨1, (some 122), .o (.asg (.tmp 123)), none, [123]⟩]
  | 30 => [⟨0, (some 124), .o (.move (.tmp 0)), none, [122, 10]⟩,
    ⟨1, (some 125), .o (.nilc (.tmp 124)), none, [124]⟩,
    ⟨2, (some 126), .o (.faddr 0 (.tmp 125)), none, [125]⟩,
    ⟨3, (some 127), .call (.cst (.fn (.func 58) [] [])) [(.tmp 126), (.cst (.int .u8 91))], none, [126]⟩]
  | 31 => [⟨0, (some 128), .o (.faddr 4 (.tmp 3)), none, [127]⟩,
    ⟨1, (some 129), .o (.load false 1 (.tmp 128)), none, [128]⟩,
    ⟨2, (some 130), .o (.faddr 3 (.tmp 3)), none, []⟩,
    ⟨3, (some 131), .o (.load false 1 (.tmp 130)), none, [130]⟩,
    ⟨4, (some 132), .o (.lslice 1 (.tmp 129) none (some (.tmp 131))), none, [131, 129]⟩,
    ⟨5, (some 133), .o (.len false (.tmp 132)), none, []⟩,
    ⟨6, (some 134), .o (.move (.cst (.int .i64 0))), none, []⟩]
  | 32 => [⟨0, (some 135), .o (.icmp .lss (.tmp 134) (.tmp 133)), none, []⟩]
  | 33 => [⟨0, (some 136), .o (.iaddr 1 (.tmp 132) (.tmp 134)), none, [135]⟩,
    ⟨1, (some 137), .o (.load false 1 (.tmp 136)), none, [136]⟩,
    ⟨2, (some 8), .o (.asg (.tmp 137)), none, [137]⟩]
  | 34 => [⟨0, (some 138), .o (.move (.tmp 0)), none, []⟩,
    ⟨1, (some 139), .o (.nilc (.tmp 138)), none, [138]⟩,
    ⟨2, (some 140), .o (.faddr 0 (.tmp 139)), none, [139]⟩,
    ⟨3, (some 141), .o (.move (.tmp 8)), none, [8]⟩,
    ⟨4, (some 142), .o (.sbin .add (.cst (.str ⟨#[58]⟩)) (.tmp 141)), none, [141]⟩,
    ⟨5, (some 143), .o (.sbin .add (.tmp 142) (.cst (.str ⟨#[32]⟩))), none, [142]⟩,
    ⟨6, (some 144), .call (.cst (.fn (.func 54) [] [])) [(.tmp 140), (.tmp 143)], none, [143, 140]⟩]
  | 35 => [⟨0, (some 145), .o (.ibin .add (.tmp 134) (.cst (.int .i64 1))), none, [144, 134]⟩,
    ⟨1, (some 134), .o (.move (.tmp 145)), none, [145]⟩]
  | 37 => [⟨0, (some 146), .o (.faddr 3 (.tmp 3)), none, [134, 133, 132]⟩,
    ⟨1, (some 147), .o (.load false 1 (.tmp 146)), none, [146]⟩,
    ⟨2, (some 148), .o (.icmp .gtr (.tmp 147) (.cst (.int .i64 0))), none, [147]⟩]
  | 38 => [⟨0, (some 149), .o (.move (.tmp 0)), none, [148]⟩,
    ⟨1, (some 150), .o (.nilc (.tmp 149)), none, [149]⟩,
    ⟨2, (some 151), .o (.faddr 0 (.tmp 150)), none, [150]⟩,
    ⟨3, (some 152), .call (.cst (.fn (.func 54) [] [])) [(.tmp 151), (.cst (.str ⟨#[124, 32]⟩))], none, [151]⟩]
  | 39 => [⟨0, (some 153), .o (.move (.tmp 0)), none, [148, 152]⟩,
    ⟨1, (some 154), .o (.load true 6 (.tmp 3)), none, [3]⟩,
    ⟨2, (some 155), .call (.cst (.fn (.func 61) [] [])) [(.tmp 153), (.tmp 154)], none, [154, 153]⟩]
  | 40 => [⟨0, (some 156), .o (.move (.tmp 0)), none, [155, 0]⟩,
    ⟨1, (some 157), .o (.nilc (.tmp 156)), none, [156]⟩,
    ⟨2, (some 158), .o (.faddr 0 (.tmp 157)), none, [157]⟩,
    ⟨3, (some 159), .call (.cst (.fn (.func 58) [] [])) [(.tmp 158), (.cst (.int .u8 93))], none, [158]⟩]
  | 41 => [⟨0, (some 161), .o (.icmp .eql (.tmp 10) (.cst (.int .i64 11))), none, [122]⟩,
    ⟨1, (some 160), .o (.asg (.tmp 161)), none, [161]⟩]
  | 42 => [⟨0, (some 162), .o (.move (.tmp 0)), none, [160, 10]⟩,
    ⟨1, (some 163), .o (.nilc (.tmp 162)), none, [162]⟩,
    ⟨2, (some 164), .o (.faddr 0 (.tmp 163)), none, [163]⟩,
    ⟨3, (some 165), .call (.cst (.fn (.func 58) [] [])) [(.tmp 164), (.cst (.int .u8 94))], none, [164]⟩]
  | 43 => [⟨0, (some 166), .o (.move (.tmp 0)), none, [165, 0]⟩,
    ⟨1, (some 167), .o (.faddr 5 (.tmp 3)), none, [3]⟩,
    ⟨2, (some 168), .o (.load false 1 (.tmp 167)), none, [167]⟩,
    ⟨3, (some 169), .o (.iaddr 6 (.tmp 168) (.cst (.int .i64 0))), none, [168]⟩,
    ⟨4, (some 170), .o (.load true 6 (.tmp 169)), none, [169]⟩,
    ⟨5, (some 171), .call (.cst (.fn (.func 33) [] [])) [(.tmp 166), (.tmp 170)], none, [170, 166]⟩]
  | 44 => [⟨0, (some 173), .o (.icmp .eql (.tmp 10) (.cst (.int .i64 12))), none, [160, 10]⟩,
    ⟨1, (some 172), .o (.asg (.tmp 173)), none, [173]⟩]
  | 45 => [⟨0, (some 174), .o (.move (.tmp 0)), none, [172]⟩,
    ⟨1, (some 175), .o (.load true 6 (.tmp 3)), none, []⟩,
    ⟨2, (some 176), .call (.cst (.fn (.func 62) [] [])) [(.tmp 174), (.tmp 175)], none, [175, 174]⟩]
  | 46 => [⟨0, (some 177), .o (.move (.tmp 0)), none, [176, 0]⟩,
    ⟨1, (some 178), .o (.load true 6 (.tmp 3)), none, [3]⟩,
    ⟨2, (some 179), .call (.cst (.fn (.func 61) [] [])) [(.tmp 177), (.tmp 178)], none, [178, 177]⟩]
  | 47 => [⟨0, (some 11), .o (.move (.tmp 0)), none, []⟩,
    ⟨1, (some 12), .o (.nilc (.tmp 11)), none, []⟩,
    ⟨2, (some 13), .o (.faddr 0 (.tmp 12)), none, []⟩,
    ⟨3, (some 14), .o (.faddr 1 (.tmp 3)), none, []⟩,
    ⟨4, (some 15), .o (.load false 1 (.tmp 14)), none, []⟩,
    ⟨5, (some 16), .call (.cst (.fn (.func 54) [] [])) [(.tmp 13), (.tmp 15)], none, []⟩]
  | _ => []
def c33l28 : AC := (.seq (.regT c33t 22) (.seq (.cond (.tmp 105) .skip (.exit 1)) (.seq (.block 2 (.seq (.regT c33t 23) (.seq (.seq (.regT c33t 24) (.cond (.tmp 110) (.regT c33t 25) .skip)) (.regT c33t 26)))) (.regT c33t 27))))
def c33l36 : AC := (.seq (.regT c33t 32) (.seq (.cond (.tmp 135) .skip (.exit 3)) (.seq (.block 4 (.seq (.regT c33t 33) (.regT c33t 34))) (.regT c33t 35))))
def c33c : AC := (.seq (.regT c33t 0) (.seq (.regT c33t 1) (.block 0 (.seq (.regT c33t 2) (.cond (.tmp 17) (.regD [c33t 3]) (.seq (.regT c33t 4) (.cond (.tmp 26) (.seq (.regT c33t 5) (.seq (.seq (.regT c33t 6) (.cond (.tmp 32) (.regT c33t 7) .skip)) (.regT c33t 8))) (.seq (.regT c33t 9) (.cond (.tmp 41) (.seq (.regT c33t 10) (.seq (.regT c33t 11) (.regT c33t 12))) (.seq (.regT c33t 13) (.cond (.tmp 55) (.seq (.regD [c33t 14]) (.regT c33t 15)) (.seq (.regT c33t 16) (.cond (.tmp 70) (.seq (.regD [c33t 17]) (.regD [c33t 18])) (.seq (.regT c33t 19) (.cond (.tmp 87) (.seq (.regD [c33t 20]) (.seq (.regT c33t 21) (.block 1 (.loop c33l28)))) (.seq (.regT c33t 29) (.cond (.tmp 122) (.seq (.regT c33t 30) (.seq (.seq (.regT c33t 31) (.block 3 (.loop c33l36))) (.seq (.seq (.regT c33t 37) (.cond (.tmp 148) (.regT c33t 38) .skip)) (.seq (.regT c33t 39) (.regT c33t 40))))) (.seq (.regT c33t 41) (.cond (.tmp 160) (.seq (.regT c33t 42) (.regT c33t 43)) (.seq (.regT c33t 44) (.cond (.tmp 172) (.seq (.regT c33t 45) (.regT c33t 46)) (.regD [c33t 47]))))))))))))))))))))))
def c33a : Ann := fun id => match id with
  | 0 => [[(0, [1])]]
  | 1 => [[(0, []), (1, [9])]]
  | 3 => [[(0, []), (1, [18])]]
  | 4 => [[(0, []), (1, []), (2, []), (3, []), (4, []), (5, [0, 1, 2]), (6, [])]]
  | 5 => [[(0, [17]), (1, [27])]]
  | 6 => [[(0, [26, 10, 3]), (1, [28]), (2, [29])]]
  | 7 => [[(0, []), (1, [30]), (2, [31])]]
  | 8 => [[(0, [32, 4]), (1, [33]), (2, [34])]]
  | 9 => [[(0, [32, 0]), (1, [35]), (2, [36]), (3, [4]), (4, [38]), (5, [39, 37])]]
  | 10 => [[(0, [26]), (1, [42])]]
  | 11 => [[(0, [41, 10]), (1, [43]), (2, [44]), (3, [45])]]
  | 12 => [[(0, [46]), (1, [3]), (2, [48]), (3, [49, 47])]]
  | 13 => [[(0, [50, 0]), (1, [51]), (2, [52]), (3, [53])]]
  | 14 => [[(0, [41]), (1, [56])]]
  | 15 => [[(0, []), (1, []), (2, []), (3, []), (4, []), (5, []), (6, [])]]
  | 16 => [[(0, [63, 0]), (1, [3]), (2, [65]), (3, [66]), (4, [67]), (5, [68, 64])]]
  | 17 => [[(0, [55]), (1, [71])]]
  | 18 => [[(0, []), (1, []), (2, []), (3, []), (4, []), (5, []), (6, []), (7, [])]]
  | 19 => [[(0, []), (1, []), (2, []), (3, []), (4, []), (5, []), (6, [])]]
  | 20 => [[(0, [70]), (1, [88])]]
  | 21 => [[(0, []), (1, []), (2, []), (3, []), (4, []), (5, []), (6, []), (7, []), (8, []), (9, []), (10, [])]]
  | 22 => [[(0, [99, 3]), (1, [100]), (2, [101]), (3, []), (4, [])]]
  | 23 => [[(0, [])]]
  | 24 => [[(0, [105]), (1, []), (2, [107]), (3, []), (4, [106]), (5, [108])]]
  | 25 => [[(0, [5]), (1, [109])]]
  | 26 => [[(0, [110]), (1, [111]), (2, [112]), (3, [113])]]
  | 27 => [[(0, [110, 114]), (1, []), (2, [116]), (3, [6]), (4, [118]), (5, [119, 117, 115])]]
  | 28 => [[(0, [120, 104]), (1, [121])]]
  | 29 => [[(0, [87]), (1, [123])]]
  | 30 => [[(0, [122, 10]), (1, [124]), (2, [125]), (3, [126])]]
  | 31 => [[(0, [127]), (1, [128]), (2, []), (3, [130]), (4, [131, 129]), (5, []), (6, [])]]
  | 32 => [[(0, [])]]
  | 33 => [[(0, [135]), (1, [136]), (2, [137])]]
  | 34 => [[(0, []), (1, [138]), (2, [139]), (3, [8]), (4, [141]), (5, [142]), (6, [143, 140])]]
  | 35 => [[(0, [144, 134]), (1, [145])]]
  | 36 => [[(0, [134, 133, 132]), (1, [146]), (2, [147])]]
  | 37 => [[(0, [148]), (1, [149]), (2, [150]), (3, [151])]]
  | 38 => [[(0, [148, 152]), (1, [3]), (2, [154, 153])]]
  | 39 => [[(0, [155, 0]), (1, [156]), (2, [157]), (3, [158])]]
  | 40 => [[(0, [122]), (1, [161])]]
  | 41 => [[(0, [160, 10]), (1, [162]), (2, [163]), (3, [164])]]
  | 42 => [[(0, [165, 0]), (1, [3]), (2, [167]), (3, [168]), (4, [169]), (5, [170, 166])]]
  | 43 => [[(0, [160, 10]), (1, [173])]]
  | 44 => [[(0, [172]), (1, []), (2, [175, 174])]]
  | 45 => [[(0, [176, 0]), (1, [3]), (2, [178, 177])]]
  | 2 => [[(0, []), (1, []), (2, []), (3, []), (4, []), (5, [])]]
  | _ => []
theorem c33ok : comp Tryz.prog 180 c33a chkD (Tryz.f33.body.getD .skip) = some (inst c33c) := by kernel_rfl
theorem c33call : callable Tryz.prog 33 = true := by kernel_rfl
theorem c33res : cRess Tryz.prog Tryz.f33.results.toList = some [] := by kernel_rfl
def c34t : Nat → List AI
  | 0 => [⟨0, (some 2), .o (.asg (.cst (.str ⟨#[]⟩))), none, []⟩]
  | 1 => [⟨0, (some 3), .o (.move (.tmp 0)), none, []⟩,
    ⟨1, (some 4), .o (.nilc (.tmp 3)), none, []⟩,
    ⟨2, (some 5), .o (.faddr 1 (.tmp 4)), none, []⟩,
    ⟨3, (some 6), .o (.load false 1 (.tmp 5)), none, []⟩,
    ⟨4, (some 7), .o (.usd (.tmp 6)), none, []⟩,
    ⟨5, (some 8), .o (.move (.tmp 0)), none, []⟩,
    ⟨6, (some 9), .o (.nilc (.tmp 8)), none, []⟩,
    ⟨7, (some 10), .o (.faddr 1 (.tmp 9)), none, []⟩,
    ⟨8, (some 11), .o (.load false 1 (.tmp 10)), none, []⟩,
    ⟨9, (some 12), .o (.len false (.tmp 11)), none, []⟩,
    ⟨10, (some 13), .o (.ustr 5 (.tmp 7) (.tmp 12)), none, []⟩,
    ⟨11, (some 2), .o (.asg (.tmp 13)), none, []⟩]
  | _ => []
def c34c : AC := (.seq (.regT c34t 0) (.seq (.regD [c34t 1]) .ret))
def c34a : Ann := fun id => match id with
  | 0 => [[(0, [])]]
  | 1 => [[(0, []), (1, []), (2, []), (3, []), (4, []), (5, []), (6, []), (7, []), (8, []), (9, []), (10, []), (11, [])]]
  | _ => []
theorem c34ok : comp Tryz.prog 14 c34a chkD (Tryz.f34.body.getD .skip) = some (inst c34c) := by kernel_rfl
theorem c34call : callable Tryz.prog 34 = true := by kernel_rfl
theorem c34res : cRess Tryz.prog Tryz.f34.results.toList = some [.tmp 2] := by kernel_rfl
def c35t : Nat → List AI
  | 0 => [⟨0, (some 2), .o (.asg (.cst (.bool false))), none, []⟩]
  | 1 => [⟨0, (some 3), .o (.move (.tmp 0)), none, [2]⟩,
    ⟨1, (some 4), .call (.cst (.fn (.func 63) [] [])) [(.tmp 3), (.cst (.fn (.func 64) [] []))], none, [3]⟩,
    ⟨2, (some 5), .o (.not (.tmp 4)), none, [4]⟩]
  | 2 => [⟨0, (some 2), .o (.asg (.cst (.bool false))), none, [5, 0]⟩]
  | 3 => [⟨0, (some 6), .o (.move (.tmp 0)), none, [0, 5, 2]⟩,
    ⟨1, (some 7), .call (.cst (.fn (.func 41) [] [])) [(.tmp 6), (.cst (.fn (.func 65) [] []))], none, [6]⟩]
  | 4 => [⟨0, (some 2), .o (.asg (.cst (.bool true))), none, [7]⟩]
  | _ => []
def c35c : AC := (.seq (.regT c35t 0) (.seq (.seq (.regT c35t 1) (.cond (.tmp 5) (.seq (.regT c35t 2) .ret) .skip)) (.seq (.regT c35t 3) (.seq (.regT c35t 4) .ret))))
def c35a : Ann := fun id => match id with
  | 0 => [[(0, [])]]
  | 1 => [[(0, [2]), (1, [3]), (2, [4])]]
  | 2 => [[(0, [5, 0])]]
  | 3 => [[(0, [0, 5, 2]), (1, [6])]]
  | 4 => [[(0, [7])]]
  | _ => []
theorem c35ok : comp Tryz.prog 8 c35a chkD (Tryz.f35.body.getD .skip) = some (inst c35c) := by kernel_rfl
theorem c35call : callable Tryz.prog 35 = true := by kernel_rfl
theorem c35res : cRess Tryz.prog Tryz.f35.results.toList = some [.tmp 2] := by kernel_rfl
def c36t : Nat → List AI
  | 0 => [⟨0, (some 4), .o (.asg (.cst (.int .i64 0))), none, []⟩]
  | 1 => [⟨0, (some 5), .o (.move (.tmp 1)), none, [4]⟩,
    ⟨1, (some 6), .o (.move (.tmp 0)), none, []⟩,
    ⟨2, (some 7), .o (.len true (.tmp 6)), none, [6]⟩,
    ⟨3, (some 8), .o (.icmp .geq (.tmp 5) (.tmp 7)), none, [7, 5]⟩,
    ⟨4, (some 9), .o (.move (.tmp 8)), none, [8]⟩,
    ⟨5, (some 10), .o (.move (.tmp 0)), (some (9, false)), []⟩,
    ⟨6, (some 11), .o (.move (.tmp 1)), (some (9, false)), []⟩,
    ⟨7, (some 12), .o (.index (.tmp 10) (.tmp 11)), (some (9, false)), [11, 10]⟩,
    ⟨8, (some 13), .call (.cst (.fn (.func 67) [] [])) [(.tmp 12)], (some (9, false)), [12]⟩,
    ⟨9, (some 14), .o (.not (.tmp 13)), (some (9, false)), [13]⟩,
    ⟨10, (some 15), .o (.pick (.tmp 9) (.cst (.bool true)) (.tmp 14)), none, [14, 9]⟩]
  | 2 => [⟨0, (some 16), .o (.move (.tmp 1)), none, [15, 0, 1]⟩,
    ⟨1, (some 4), .o (.asg (.tmp 16)), none, [16]⟩]
  | 3 => [⟨0, (some 17), .o (.move (.tmp 1)), none, [15, 4]⟩,
    ⟨1, (some 18), .o (.move (.tmp 0)), none, []⟩,
    ⟨2, (some 19), .o (.len true (.tmp 18)), none, [18]⟩,
    ⟨3, (some 20), .o (.icmp .lss (.tmp 17) (.tmp 19)), none, [19, 17]⟩,
    ⟨4, (some 21), .o (.move (.tmp 20)), none, [20]⟩,
    ⟨5, (some 22), .o (.move (.tmp 0)), (some (21, true)), []⟩,
    ⟨6, (some 23), .o (.move (.tmp 1)), (some (21, true)), []⟩,
    ⟨7, (some 24), .o (.index (.tmp 22) (.tmp 23)), (some (21, true)), []⟩,
    ⟨8, (some 25), .call (.cst (.fn (.func 67) [] [])) [(.tmp 24)], (some (21, true)), []⟩,
    ⟨9, (some 26), .o (.move (.tmp 25)), (some (21, true)), []⟩,
    ⟨10, (some 27), .o (.move (.tmp 0)), (some (26, false)), []⟩,
    ⟨11, (some 28), .o (.move (.tmp 1)), (some (26, false)), []⟩,
    ⟨12, (some 29), .o (.index (.tmp 27) (.tmp 28)), (some (26, false)), []⟩,
    ⟨13, (some 30), .call (.cst (.fn (.func 68) [] [])) [(.tmp 29)], (some (26, false)), []⟩,
    ⟨14, (some 31), .o (.pick (.tmp 26) (.cst (.bool true)) (.tmp 30)), (some (21, true)), []⟩,
    ⟨15, (some 32), .o (.move (.tmp 31)), (some (21, true)), []⟩,
    ⟨16, (some 33), .o (.move (.tmp 0)), (some (32, false)), []⟩,
    ⟨17, (some 34), .o (.move (.tmp 1)), (some (32, false)), []⟩,
    ⟨18, (some 35), .o (.index (.tmp 33) (.tmp 34)), (some (32, false)), []⟩,
    ⟨19, (some 36), .o (.icmp .eql (.tmp 35) (.cst (.int .u8 95))), (some (32, false)), []⟩,
    ⟨20, (some 37), .o (.pick (.tmp 32) (.cst (.bool true)) (.tmp 36)), (some (21, true)), []⟩,
    ⟨21, (some 38), .o (.pick (.tmp 21) (.tmp 37) (.cst (.bool false))), none, [21]⟩]
  | 4 => [⟨0, (some 39), .o (.move (.tmp 1)), none, [38, 1]⟩,
    ⟨1, (some 40), .o (.ibin .add (.tmp 39) (.cst (.int .i64 1))), none, [39]⟩,
    ⟨2, (some 1), .o (.asg (.tmp 40)), none, [40]⟩]
  | 6 => [⟨0, (some 41), .o (.move (.tmp 1)), none, [1, 22, 23, 24, 25, 26, 27, 28, 29, 30, 31, 32, 33, 34, 35, 36, 37, 0]⟩,
    ⟨1, (some 4), .o (.asg (.tmp 41)), none, [41]⟩]
  | _ => []
def c36l5 : AC := (.seq (.seq (.regT c36t 3) (.cond (.tmp 38) .skip (.exit 0))) (.block 1 (.regT c36t 4)))
def c36c : AC := (.seq (.regT c36t 0) (.seq (.seq (.regT c36t 1) (.cond (.tmp 15) (.seq (.regT c36t 2) .ret) .skip)) (.seq (.block 0 (.loop c36l5)) (.seq (.regT c36t 6) .ret))))
def c36a : Ann := fun id => match id with
  | 0 => [[(0, [])]]
  | 1 => [[(0, [4]), (1, []), (2, [6]), (3, [7, 5]), (4, [8]), (5, []), (6, []), (7, [11, 10]), (8, [12]), (9, [13]), (10, [14, 9])]]
  | 2 => [[(0, [15, 0, 1]), (1, [16])]]
  | 3 => [[(0, [15, 4]), (1, []), (2, [18]), (3, [19, 17]), (4, [20]), (5, []), (6, []), (7, []), (8, []), (9, []), (10, []), (11, []), (12, []), (13, []), (14, []), (15, []), (16, []), (17, []), (18, []), (19, []), (20, []), (21, [21])]]
  | 4 => [[(0, [38, 1]), (1, [39]), (2, [40])]]
  | 5 => [[(0, [1, 22, 23, 24, 25, 26, 27, 28, 29, 30, 31, 32, 33, 34, 35, 36, 37, 0]), (1, [41])]]
  | _ => []
theorem c36ok : comp Tryz.prog 42 c36a chkD (Tryz.f36.body.getD .skip) = some (inst c36c) := by kernel_rfl
theorem c36call : callable Tryz.prog 36 = true := by kernel_rfl
theorem c36res : cRess Tryz.prog Tryz.f36.results.toList = some [.tmp 4] := by kernel_rfl
def c38t : Nat → List AI
  | 0 => [⟨0, (some 4), .o (.alloc [(.int .i64 0), (.str ⟨#[]⟩), (.int .i64 0)] 79), none, []⟩]
  | 1 => [⟨0, (some 5), .o (.move (.tmp 0)), none, []⟩,
    ⟨1, (some 6), .call (.cst (.fn (.func 40) [] [])) [(.tmp 5)], none, [5]⟩,
    ⟨2, (some 7), .o (.move (.tmp 1)), none, [1]⟩,
    ⟨3, (some 8), .o (.icmp .neq (.tmp 6) (.tmp 7)), none, [7, 6]⟩]
  | 2 => [⟨0, (some 9), .o (.move (.tmp 0)), none, [8]⟩,
    ⟨1, (some 10), .call (.cst (.fn (.func 47) [] [])) [(.tmp 9), (.cst (.int .i64 20))], none, [9]⟩]
  | 3 => [⟨0, (some 11), .o (.move (.tmp 0)), none, [8, 10, 0]⟩,
    ⟨1, (some 12), .call (.cst (.fn (.func 39) [] [])) [(.tmp 11)], none, [11]⟩,
    ⟨2, none, .o (.store 3 (.tmp 4) (.tmp 12)), none, [12]⟩]
  | _ => []
def c38c : AC := (.seq (.regT c38t 0) (.seq (.seq (.regT c38t 1) (.cond (.tmp 8) (.regT c38t 2) .skip)) (.seq (.regT c38t 3) .ret)))
def c38a : Ann := fun id => match id with
  | 0 => [[(0, [])]]
  | 1 => [[(0, []), (1, [5]), (2, [1]), (3, [7, 6])]]
  | 2 => [[(0, [8]), (1, [9])]]
  | 3 => [[(0, [8, 10, 0]), (1, [11]), (2, [12])]]
  | _ => []
theorem c38ok : comp Tryz.prog 13 c38a chkD (Tryz.f38.body.getD .skip) = some (inst c38c) := by kernel_rfl
theorem c38call : callable Tryz.prog 38 = true := by kernel_rfl
theorem c38res : cRess Tryz.prog Tryz.f38.results.toList = some [.cell 4 true 3] := by kernel_rfl
def c39t : Nat → List AI
  | 0 => [⟨0, (some 2), .o (.alloc [(.int .i64 0), (.str ⟨#[]⟩), (.int .i64 0)] 79), none, []⟩]
  | 1 => [⟨0, (some 4), .o (.move (.tmp 0)), none, []⟩,
    ⟨1, (some 5), .o (.nilc (.tmp 4)), none, [4]⟩,
    ⟨2, (some 6), .o (.faddr 0 (.tmp 5)), none, [5]⟩,
    ⟨3, (some 7), .o (.load false 1 (.tmp 6)), none, [6]⟩,
    ⟨4, (some 8), .o (.iaddr 3 (.tmp 7) (.cst (.int .i64 0))), none, [7]⟩,
    ⟨5, (some 9), .o (.load true 3 (.tmp 8)), none, [8]⟩,
    ⟨6, (some 3), .o (.alloc [(.int .i64 0), (.str ⟨#[]⟩), (.int .i64 0)] 79), none, []⟩,
    ⟨7, none, .o (.store 3 (.tmp 3) (.tmp 9)), none, [9]⟩]
  | 2 => [⟨0, (some 10), .o (.faddr 0 (.tmp 3)), none, []⟩,
    ⟨1, (some 11), .o (.load false 1 (.tmp 10)), none, [10]⟩,
    ⟨2, (some 12), .o (.icmp .neq (.tmp 11) (.cst (.int .i64 0))), none, [11]⟩]
  | 3 => [⟨0, (some 13), .o (.move (.tmp 0)), none, [12]⟩,
    ⟨1, (some 14), .o (.move (.tmp 0)), none, [0]⟩,
    ⟨2, (some 15), .o (.nilc (.tmp 14)), none, [14]⟩,
    ⟨3, (some 16), .o (.faddr 0 (.tmp 15)), none, [15]⟩,
    ⟨4, (some 17), .o (.load false 1 (.tmp 16)), none, [16]⟩,
    ⟨5, (some 18), .o (.lslice 3 (.tmp 17) (some (.cst (.int .i64 1))) none), none, [17]⟩,
    ⟨6, (some 19), .o (.nilc (.tmp 13)), none, [13]⟩,
    ⟨7, (some 20), .o (.faddr 0 (.tmp 19)), none, [19]⟩,
    ⟨8, none, .o (.store 1 (.tmp 20) (.tmp 18)), none, [20, 18]⟩]
  | 4 => [⟨0, (some 21), .o (.load true 3 (.tmp 3)), none, [0, 12, 3]⟩,
    ⟨1, none, .o (.store 3 (.tmp 2) (.tmp 21)), none, [21]⟩]
  | _ => []
def c39c : AC := (.seq (.regT c39t 0) (.seq (.regT c39t 1) (.seq (.seq (.regT c39t 2) (.cond (.tmp 12) (.regT c39t 3) .skip)) (.seq (.regT c39t 4) .ret))))
def c39a : Ann := fun id => match id with
  | 0 => [[(0, [])]]
  | 1 => [[(0, []), (1, [4]), (2, [5]), (3, [6]), (4, [7]), (5, [8]), (6, []), (7, [9])]]
  | 2 => [[(0, []), (1, [10]), (2, [11])]]
  | 3 => [[(0, [12]), (1, [0]), (2, [14]), (3, [15]), (4, [16]), (5, [17]), (6, [13]), (7, [19]), (8, [20, 18])]]
  | 4 => [[(0, [0, 12, 3]), (1, [21])]]
  | _ => []
theorem c39ok : comp Tryz.prog 22 c39a chkD (Tryz.f39.body.getD .skip) = some (inst c39c) := by kernel_rfl
theorem c39call : callable Tryz.prog 39 = true := by kernel_rfl
theorem c39res : cRess Tryz.prog Tryz.f39.results.toList = some [.cell 2 true 3] := by kernel_rfl
def c40t : Nat → List AI
  | 0 => [⟨0, (some 2), .o (.asg (.cst (.int .i64 0))), none, []⟩]
  | 1 => [⟨0, (some 3), .o (.move (.tmp 0)), none, [2, 0]⟩,
    ⟨1, (some 4), .o (.nilc (.tmp 3)), none, [3]⟩,
    ⟨2, (some 5), .o (.faddr 0 (.tmp 4)), none, [4]⟩,
    ⟨3, (some 6), .o (.load false 1 (.tmp 5)), none, [5]⟩,
    ⟨4, (some 7), .o (.iaddr 3 (.tmp 6) (.cst (.int .i64 0))), none, [6]⟩,
    ⟨5, (some 8), .o (.faddr 0 (.tmp 7)), none, [7]⟩,
    ⟨6, (some 9), .o (.load false 1 (.tmp 8)), none, [8]⟩,
    ⟨7, (some 2), .o (.asg (.tmp 9)), none, [9]⟩]
  | _ => []
def c40c : AC := (.seq (.regT c40t 0) (.seq (.regT c40t 1) .ret))
def c40a : Ann := fun id => match id with
  | 0 => [[(0, [])]]
  | 1 => [[(0, [2, 0]), (1, [3]), (2, [4]), (3, [5]), (4, [6]), (5, [7]), (6, [8]), (7, [9])]]
  | _ => []
theorem c40ok : comp Tryz.prog 10 c40a chkD (Tryz.f40.body.getD .skip) = some (inst c40c) := by kernel_rfl
theorem c40call : callable Tryz.prog 40 = true := by kernel_rfl
theorem c40res : cRess Tryz.prog Tryz.f40.results.toList = some [.tmp 2] := by kernel_rfl
def c41t : Nat → List AI
  | 0 => [⟨0, (some 4), .o (.move (.tmp 0)), none, []⟩,
    ⟨1, (some 5), .o (.move (.tmp 1)), none, []⟩,
    ⟨2, (some 6), .call (.cst (.fn (.func 63) [] [])) [(.tmp 4), (.tmp 5)], none, [5, 4]⟩]
  | 1 => [⟨0, (some 7), .o (.move (.tmp 0)), none, [6]⟩,
    ⟨1, (some 8), .o (.nilc (.tmp 7)), none, []⟩,
    ⟨2, (some 9), .o (.faddr 1 (.tmp 8)), none, [8]⟩,
    ⟨3, (some 10), .o (.load false 1 (.tmp 9)), none, [9]⟩,
    ⟨4, (some 11), .o (.ibin .add (.tmp 10) (.cst (.int .i64 1))), none, [10]⟩,
    ⟨5, (some 12), .o (.nilc (.tmp 7)), none, [7]⟩,
    ⟨6, (some 13), .o (.faddr 1 (.tmp 12)), none, [12]⟩,
    ⟨7, none, .o (.store 1 (.tmp 13) (.tmp 11)), none, [13, 11]⟩]
  | _ => []
def c41l2 : AC := (.seq (.seq (.regT c41t 0) (.cond (.tmp 6) .skip (.exit 0))) (.block 1 (.regT c41t 1)))
def c41c : AC := (.block 0 (.loop c41l2))
def c41a : Ann := fun id => match id with
  | 0 => [[(0, []), (1, []), (2, [5, 4])]]
  | 1 => [[(0, [6]), (1, []), (2, [8]), (3, [9]), (4, [10]), (5, [7]), (6, [12]), (7, [13, 11])]]
  | _ => []
theorem c41ok : comp Tryz.prog 14 c41a chkD (Tryz.f41.body.getD .skip) = some (inst c41c) := by kernel_rfl
theorem c41call : callable Tryz.prog 41 = true := by kernel_rfl
theorem c41res : cRess Tryz.prog Tryz.f41.results.toList = some [] := by kernel_rfl
def c42t : Nat → List AI
  | 0 => [⟨0, (some 2), .o (.asg (.cst (.bool false))), none, []⟩]
  | 1 => [⟨0, (some 3), .o (.move (.tmp 0)), none, [2, 0]⟩,
    ⟨1, (some 4), .call (.cst (.fn (.func 43) [] [])) [(.tmp 3), (.cst (.str ⟨#[32, 9, 10, 13]⟩))], none, [3]⟩,
    ⟨2, (some 5), .o (.icmp .geq (.tmp 4) (.cst (.int .i64 0))), none, [4]⟩,
    ⟨3, (some 2), .o (.asg (.tmp 5)), none, [5]⟩]
  | _ => []
def c42c : AC := (.seq (.regT c42t 0) (.seq (.regT c42t 1) .ret))
def c42a : Ann := fun id => match id with
  | 0 => [[(0, [])]]
  | 1 => [[(0, [2, 0]), (1, [3]), (2, [4]), (3, [5])]]
  | _ => []
theorem c42ok : comp Tryz.prog 6 c42a chkD (Tryz.f42.body.getD .skip) = some (inst c42c) := by kernel_rfl
theorem c42call : callable Tryz.prog 42 = true := by kernel_rfl
theorem c42res : cRess Tryz.prog Tryz.f42.results.toList = some [.tmp 2] := by kernel_rfl
def c43t : Nat → List AI
  | 0 => [⟨0, (some 4), .o (.asg (.cst (.int .i64 0))), none, []⟩]
  | 1 => [⟨0, (some 7), .o (.move (.tmp 1)), none, [4, 1]⟩,
    ⟨1, (some 8), .o (.range (.tmp 7)), none, [7]⟩]
  | 2 => [⟨0, (some 9), .o (.next (.tmp 8)), none, [4, 16, 5]⟩,
    ⟨1, (some 10), .o (.extract (.tmp 9) 0), none, []⟩]
  | 3 => [⟨0, (some 11), .o (.extract (.tmp 9) 1), none, [10]⟩,
    ⟨1, (some 12), .o (.extract (.tmp 9) 2), none, [9]⟩,
    ⟨2, (some 5), .o (.asg (.tmp 11)), none, [11]⟩,
    ⟨3, (some 6), .o (.asg (.tmp 12)), none, [12]⟩]
  | 4 => [⟨0, (some 13), .o (.move (.tmp 6)), none, [6]⟩,
    ⟨1, (some 14), .o (.conv .u8 (.tmp 13)), none, [13]⟩,
    ⟨2, (some 15), .o (.move (.tmp 0)), none, []⟩,
    ⟨3, (some 16), .o (.icmp .eql (.tmp 14) (.tmp 15)), none, [15, 14]⟩]
  | 5 => [⟨0, (some 17), .o (.move (.tmp 5)), none, [16, 5, 8, 0]⟩,
    ⟨1, (some 4), .o (.asg (.tmp 17)), none, [17]⟩]
  | 7 => [⟨0, (some 4), .o (.asg (.cst (.int .i64 (-1)))), none, [0, 8, 5, 16]⟩]
  | _ => []
def c43l6 : AC := (.seq (.regT c43t 2) (.seq (.cond (.tmp 10) .skip (.exit 0)) (.block 1 (.seq (.regT c43t 3) (.seq (.regT c43t 4) (.cond (.tmp 16) (.seq (.regT c43t 5) .ret) .skip))))))
def c43c : AC := (.seq (.regT c43t 0) (.seq (.seq (.regT c43t 1) (.block 0 (.loop c43l6))) (.seq (.regT c43t 7) .ret)))
def c43a : Ann := fun id => match id with
  | 0 => [[(0, [])]]
  | 1 => [[(0, [4, 1]), (1, [7])]]
  | 2 => [[(0, [4, 16, 5]), (1, [])]]
  | 3 => [[(0, [10]), (1, [9]), (2, [11]), (3, [12])]]
  | 4 => [[(0, [6]), (1, [13]), (2, []), (3, [15, 14])]]
  | 5 => [[(0, [16, 5, 8, 0]), (1, [17])]]
  | 6 => [[(0, [0, 8, 5, 16])]]
  | _ => []
theorem c43ok : comp Tryz.prog 18 c43a chkD (Tryz.f43.body.getD .skip) = some (inst c43c) := by kernel_rfl
theorem c43call : callable Tryz.prog 43 = true := by kernel_rfl
theorem c43res : cRess Tryz.prog Tryz.f43.results.toList = some [.tmp 4] := by kernel_rfl
def c44t : Nat → List AI
  | 0 => [⟨0, (some 4), .o (.asg (.cst (.int .i64 0))), none, []⟩]
  | 1 => [⟨0, (some 5), .o (.move (.tmp 0)), none, [4, 0]⟩,
    ⟨1, (some 6), .o (.move (.tmp 1)), none, [1]⟩,
    ⟨2, (some 7), .call (.cst (.fn (.func 69) [] [])) [(.tmp 5), (.tmp 6)], none, [6, 5]⟩,
    ⟨3, (some 4), .o (.asg (.tmp 7)), none, [7]⟩]
  | _ => []
def c44c : AC := (.seq (.regT c44t 0) (.seq (.regT c44t 1) .ret))
def c44a : Ann := fun id => match id with
  | 0 => [[(0, [])]]
  | 1 => [[(0, [4, 0]), (1, [1]), (2, [6, 5]), (3, [7])]]
  | _ => []
theorem c44ok : comp Tryz.prog 8 c44a chkD (Tryz.f44.body.getD .skip) = some (inst c44c) := by kernel_rfl
theorem c44call : callable Tryz.prog 44 = true := by kernel_rfl
theorem c44res : cRess Tryz.prog Tryz.f44.results.toList = some [.tmp 4] := by kernel_rfl
def c45t : Nat → List AI
  | 0 => [⟨0, (some 2), .o (.alloc [(.int .i64 0), (.str ⟨#[]⟩), (.int .i64 0)] 79), none, []⟩,
    ⟨1, (some 3), .o (.asg (.cst (.bool false))), none, []⟩]
  | 1 => [⟨0, (some 9), .o (.move (.tmp 0)), none, [3]⟩,
    ⟨1, (some 10), .o (.nilc (.tmp 9)), none, [9]⟩,
    ⟨2, (some 11), .o (.faddr 1 (.tmp 10)), none, [10]⟩,
    ⟨3, (some 12), .o (.load false 1 (.tmp 11)), none, [11]⟩,
    ⟨4, (some 13), .o (.build [(.int .i64 0), (.str ⟨#[]⟩), (.int .i64 0)] [(2, 1, (.tmp 12))]), none, [12]⟩,
    ⟨5, (some 4), .o (.alloc [(.int .i64 0), (.str ⟨#[]⟩), (.int .i64 0)] 79), none, []⟩,
    ⟨6, none, .o (.store 3 (.tmp 4) (.tmp 13)), none, [13]⟩]
  | 2 => [⟨0, (some 5), .o (.asg (.cst (.bool true))), none, []⟩]
  | 3 => [⟨0, (some 14), .o (.move (.tmp 0)), none, []⟩,
    ⟨1, (some 15), .o (.nilc (.tmp 14)), none, []⟩,
    ⟨2, (some 16), .o (.faddr 0 (.tmp 15)), none, []⟩,
    ⟨3, (some 17), .o (.load false 1 (.tmp 16)), none, []⟩,
    ⟨4, (some 18), .o (.move (.tmp 0)), none, []⟩,
    ⟨5, (some 19), .o (.nilc (.tmp 18)), none, []⟩,
    ⟨6, (some 20), .o (.faddr 1 (.tmp 19)), none, []⟩,
    ⟨7, (some 21), .o (.load false 1 (.tmp 20)), none, []⟩,
    ⟨8, (some 22), .o (.index (.tmp 17) (.tmp 21)), none, []⟩,
    ⟨9, (some 6), .o (.asg (.tmp 22)), none, []⟩]
  | 4 => [⟨0, (some 38), .o (.move (.tmp 6)), none, []⟩,
    ⟨1, (some 39), .call (.cst (.fn (.func 64) [] [])) [(.tmp 38)], none, [38]⟩,
    ⟨2, (some 37), .o (.asg (.tmp 39)), none, [39]⟩]
  | 5 => [⟨0, (some 40), .o (.move (.tmp 0)), none, [37, 6]⟩,
    ⟨1, (some 41), .call (.cst (.fn (.func 35) [] [])) [(.tmp 40)], none, [40]⟩]
  | 6 => [⟨0, (some 42), .o (.faddr 0 (.tmp 4)), none, [41]⟩,
    ⟨1, none, .o (.store 1 (.tmp 42) (.cst (.int .i64 1))), none, [42]⟩]
  | 7 => [⟨0, (some 43), .o (.move (.tmp 0)), none, []⟩,
    ⟨1, (some 44), .call (.cst (.fn (.func 70) [] [])) [(.tmp 43)], none, [43]⟩]
  | 8 => [⟨0, (some 45), .o (.faddr 0 (.tmp 4)), none, [44]⟩,
    ⟨1, none, .o (.store 1 (.tmp 45) (.cst (.int .i64 2))), none, [45]⟩]
  | 9 => [⟨0, (some 46), .o (.move (.tmp 0)), none, []⟩,
    ⟨1, (some 47), .o (.nilc (.tmp 46)), none, []⟩,
    ⟨2, (some 48), .o (.faddr 1 (.tmp 47)), none, [47]⟩,
    ⟨3, (some 49), .o (.load false 1 (.tmp 48)), none, [48]⟩,
    ⟨4, (some 50), .o (.ibin .add (.tmp 49) (.cst (.int .i64 1))), none, [49]⟩,
    ⟨5, (some 51), .o (.nilc (.tmp 46)), none, [46]⟩,
    ⟨6, (some 52), .o (.faddr 1 (.tmp 51)), none, [51]⟩,
    ⟨7, none, .o (.store 1 (.tmp 52) (.tmp 50)), none, [52, 50]⟩]
  | 10 => [⟨0, (some 54), .o (.move (.tmp 6)), none, [37]⟩,
    ⟨1, (some 55), .call (.cst (.fn (.func 66) [] [])) [(.tmp 54)], none, [54]⟩,
    ⟨2, (some 53), .o (.asg (.tmp 55)), none, [55]⟩]
  | 11 => [⟨0, (some 56), .o (.faddr 0 (.tmp 4)), none, [53, 6, 5]⟩,
    ⟨1, none, .o (.store 1 (.tmp 56) (.cst (.int .i64 4))), none, [56]⟩]
  | 12 => [⟨0, (some 57), .o (.move (.tmp 0)), none, []⟩,
    ⟨1, (some 58), .call (.cst (.fn (.func 41) [] [])) [(.tmp 57), (.cst (.fn (.func 66) [] []))], none, [57]⟩]
  | 13 => [⟨0, (some 60), .o (.move (.tmp 0)), none, []⟩,
    ⟨1, (some 61), .o (.nilc (.tmp 60)), none, []⟩,
    ⟨2, (some 62), .o (.faddr 0 (.tmp 61)), none, []⟩,
    ⟨3, (some 63), .o (.load false 1 (.tmp 62)), none, []⟩,
    ⟨4, (some 64), .o (.faddr 2 (.tmp 4)), none, []⟩,
    ⟨5, (some 65), .o (.load false 1 (.tmp 64)), none, []⟩,
    ⟨6, (some 66), .o (.move (.tmp 0)), none, []⟩,
    ⟨7, (some 67), .o (.nilc (.tmp 66)), none, []⟩,
    ⟨8, (some 68), .o (.faddr 1 (.tmp 67)), none, []⟩,
    ⟨9, (some 69), .o (.load false 1 (.tmp 68)), none, []⟩,
    ⟨10, (some 70), .o (.sslice (.tmp 63) (some (.tmp 65)) (some (.tmp 69))), none, []⟩,
    ⟨11, (some 71), .call (.cst (.fn (.func 71) [] [])) [(.tmp 70)], none, []⟩,
    ⟨12, (some 59), .o (.move (.tmp 71)), none, []⟩,
    ⟨13, (some 72), .o (.extract (.tmp 59) 0), none, []⟩,
    ⟨14, (some 73), .o (.extract (.tmp 59) 1), none, []⟩,
    ⟨15, (some 7), .o (.alloc [(.bool false), (.sl true 0 [])] 111), none, [0, 1, 2, 3, 4, 5, 6, 7, 8, 9, 10, 12, 13, 14]⟩,
    ⟨16, none, .o (.store 2 (.tmp 7) (.tmp 72)), none, [14]⟩,
    ⟨17, (some 8), .o (.asg (.tmp 73)), none, []⟩]
  | 14 => [⟨0, (some 60), .o (.move (.tmp 0)), none, []⟩,
    ⟨1, (some 61), .o (.nilc (.tmp 60)), none, []⟩,
    ⟨2, (some 62), .o (.faddr 0 (.tmp 61)), none, []⟩,
    ⟨3, (some 63), .o (.load false 1 (.tmp 62)), none, []⟩,
    ⟨4, (some 64), .o (.faddr 2 (.tmp 4)), none, []⟩,
    ⟨5, (some 65), .o (.load false 1 (.tmp 64)), none, []⟩,
    ⟨6, (some 66), .o (.move (.tmp 0)), none, []⟩,
    ⟨7, (some 67), .o (.nilc (.tmp 66)), none, []⟩,
    ⟨8, (some 68), .o (.faddr 1 (.tmp 67)), none, []⟩,
    ⟨9, (some 69), .o (.load false 1 (.tmp 68)), none, []⟩,
    ⟨10, (some 70), .o (.sslice (.tmp 63) (some (.tmp 65)) (some (.tmp 69))), none, []⟩,
    ⟨15, (some 7), .o (.alloc [(.bool false), (.sl true 0 [])] 111), none, [0, 1, 2, 3, 4, 5, 6, 7, 8, 9, 10]⟩,
    ⟨11, (some 71), .call (.cst (.fn (.func 71) [] [])) [(.tmp 70)], none, []⟩,
    ⟨12, (some 59), .o (.move (.tmp 71)), none, []⟩,
    ⟨13, (some 72), .o (.extract (.tmp 59) 0), none, []⟩,
    ⟨14, (some 73), .o (.extract (.tmp 59) 1), none, []⟩,
    ⟨16, none, .o (.store 2 (.tmp 7) (.tmp 72)), none, [14]⟩,
    ⟨17, (some 8), .o (.asg (.tmp 73)), none, []⟩]
  | 15 => [⟨0, (some 74), .o (.move (.tmp 8)), none, [8]⟩,
    ⟨1, (some 75), .o (.icmp .eql (.tmp 74) (.cst (.int .i64 0))), none, [74]⟩,
    ⟨2, (some 5), .o (.asg (.tmp 75)), none, [75]⟩]
  | 16 => [⟨0, (some 77), .o (.move (.tmp 6)), none, [53]⟩,
    ⟨1, (some 78), .o (.icmp .eql (.tmp 77) (.cst (.int .u8 39))), none, [77]⟩,
    ⟨2, (some 76), .o (.asg (.tmp 78)), none, [78]⟩]
  | 17 => [⟨0, (some 79), .o (.faddr 0 (.tmp 4)), none, [76, 6, 5]⟩,
    ⟨1, none, .o (.store 1 (.tmp 79) (.cst (.int .i64 5))), none, [79]⟩]
  | 18 => [⟨0, (some 81), .o (.move (.tmp 0)), none, [0]⟩,
    ⟨1, (some 82), .call (.cst (.fn (.func 72) [] [])) [(.tmp 81)], none, [81]⟩,
    ⟨2, (some 80), .o (.move (.tmp 82)), none, [82]⟩,
    ⟨3, (some 83), .o (.extract (.tmp 80) 0), none, []⟩,
    ⟨4, (some 84), .o (.extract (.tmp 80) 1), none, [80]⟩,
    ⟨5, (some 85), .o (.faddr 1 (.tmp 4)), none, []⟩,
    ⟨6, none, .o (.store 1 (.tmp 85) (.tmp 83)), none, [85, 83]⟩,
    ⟨7, (some 5), .o (.asg (.tmp 84)), none, [84]⟩]
  | 19 => [⟨0, (some 86), .o (.load true 3 (.tmp 4)), none, [4]⟩,
    ⟨1, (some 87), .o (.move (.tmp 5)), none, [5]⟩,
    ⟨2, none, .o (.store 3 (.tmp 2) (.tmp 86)), none, [86]⟩,
    ⟨3, (some 3), .o (.asg (.tmp 87)), none, [87]⟩]
  | 20 => [⟨0, (some 89), .o (.move (.tmp 6)), none, [76]⟩,
    ⟨1, (some 90), .o (.icmp .eql (.tmp 89) (.cst (.int .u8 35))), none, [89]⟩,
    ⟨2, (some 91), .o (.move (.tmp 90)), none, [90]⟩,
    ⟨3, (some 92), .o (.move (.tmp 0)), (some (91, true)), []⟩,
    ⟨4, (some 93), .call (.cst (.fn (.func 73) [] [])) [(.tmp 92), (.cst (.int .i64 1))], (some (91, true)), [92]⟩,
    ⟨5, (some 94), .o (.icmp .eql (.tmp 93) (.cst (.int .u8 40))), (some (91, true)), [93]⟩,
    ⟨6, (some 95), .o (.pick (.tmp 91) (.tmp 94) (.cst (.bool false))), none, [94, 91]⟩,
    ⟨7, (some 88), .o (.asg (.tmp 95)), none, [95]⟩]
  | 21 => [⟨0, (some 96), .o (.faddr 0 (.tmp 4)), none, [88, 6]⟩,
    ⟨1, none, .o (.store 1 (.tmp 96) (.cst (.int .i64 17))), none, [96]⟩]
  | 22 => [⟨0, (some 97), .o (.move (.tmp 0)), none, []⟩,
    ⟨1, (some 98), .o (.nilc (.tmp 97)), none, []⟩,
    ⟨2, (some 99), .o (.faddr 1 (.tmp 98)), none, [98]⟩,
    ⟨3, (some 100), .o (.load false 1 (.tmp 99)), none, [99]⟩,
    ⟨4, (some 101), .o (.ibin .add (.tmp 100) (.cst (.int .i64 2))), none, [100]⟩,
    ⟨5, (some 102), .o (.nilc (.tmp 97)), none, [97]⟩,
    ⟨6, (some 103), .o (.faddr 1 (.tmp 102)), none, [102]⟩,
    ⟨7, none, .o (.store 1 (.tmp 103) (.tmp 101)), none, [103, 101]⟩]
  | 23 => [⟨0, (some 105), .o (.move (.tmp 6)), none, [88]⟩,
    ⟨1, (some 106), .o (.icmp .eql (.tmp 105) (.cst (.int .u8 35))), none, [105]⟩,
    ⟨2, (some 104), .o (.asg (.tmp 106)), none, [106]⟩]
  | 24 => [⟨0, (some 107), .o (.faddr 0 (.tmp 4)), none, [104, 6, 5]⟩,
    ⟨1, none, .o (.store 1 (.tmp 107) (.cst (.int .i64 6))), none, [107]⟩]
  | 25 => [⟨0, (some 108), .o (.move (.tmp 0)), none, []⟩,
    ⟨1, (some 109), .o (.nilc (.tmp 108)), none, []⟩,
    ⟨2, (some 110), .o (.faddr 1 (.tmp 109)), none, [109]⟩,
    ⟨3, (some 111), .o (.load false 1 (.tmp 110)), none, [110]⟩,
    ⟨4, (some 112), .o (.ibin .add (.tmp 111) (.cst (.int .i64 1))), none, [111]⟩,
    ⟨5, (some 113), .o (.nilc (.tmp 108)), none, [108]⟩,
    ⟨6, (some 114), .o (.faddr 1 (.tmp 113)), none, [113]⟩,
    ⟨7, none, .o (.store 1 (.tmp 114) (.tmp 112)), none, [114, 112]⟩]
  | 26 => [⟨0, (some 116), .o (.move (.tmp 0)), none, [0]⟩,
    ⟨1, (some 117), .call (.cst (.fn (.func 74) [] [])) [(.tmp 116)], none, [116]⟩,
    ⟨2, (some 115), .o (.move (.tmp 117)), none, [117]⟩,
    ⟨3, (some 118), .o (.extract (.tmp 115) 0), none, []⟩,
    ⟨4, (some 119), .o (.extract (.tmp 115) 1), none, [115]⟩,
    ⟨5, (some 120), .o (.faddr 1 (.tmp 4)), none, []⟩,
    ⟨6, none, .o (.store 1 (.tmp 120) (.tmp 118)), none, [120, 118]⟩,
    ⟨7, (some 5), .o (.asg (.tmp 119)), none, [119]⟩]
  | 27 => [⟨0, (some 121), .o (.load true 3 (.tmp 4)), none, [4]⟩,
    ⟨1, (some 122), .o (.move (.tmp 5)), none, [5]⟩,
    ⟨2, none, .o (.store 3 (.tmp 2) (.tmp 121)), none, [121]⟩,
    ⟨3, (some 3), .o (.asg (.tmp 122)), none, [122]⟩]
  | 28 => [⟨0, (some 124), .o (.move (.tmp 6)), none, [104]⟩,
    ⟨1, (some 125), .o (.icmp .eql (.tmp 124) (.cst (.int .u8 58))), none, [124]⟩,
    ⟨2, (some 126), .o (.move (.tmp 125)), none, [125]⟩,
    ⟨3, (some 127), .o (.move (.tmp 0)), (some (126, true)), []⟩,
    ⟨4, (some 128), .call (.cst (.fn (.func 73) [] [])) [(.tmp 127), (.cst (.int .i64 1))], (some (126, true)), [127]⟩,
    ⟨5, (some 129), .o (.icmp .eql (.tmp 128) (.cst (.int .u8 61))), (some (126, true)), [128]⟩,
    ⟨6, (some 130), .o (.pick (.tmp 126) (.tmp 129) (.cst (.bool false))), none, [129, 126]⟩,
    ⟨7, (some 123), .o (.asg (.tmp 130)), none, [130]⟩]
  | 29 => [⟨0, (some 131), .o (.faddr 0 (.tmp 4)), none, [123, 6]⟩,
    ⟨1, none, .o (.store 1 (.tmp 131) (.cst (.int .i64 7))), none, [131]⟩]
  | 30 => [⟨0, (some 132), .o (.move (.tmp 0)), none, []⟩,
    ⟨1, (some 133), .o (.nilc (.tmp 132)), none, []⟩,
    ⟨2, (some 134), .o (.faddr 1 (.tmp 133)), none, [133]⟩,
    ⟨3, (some 135), .o (.load false 1 (.tmp 134)), none, [134]⟩,
    ⟨4, (some 136), .o (.ibin .add (.tmp 135) (.cst (.int .i64 2))), none, [135]⟩,
    ⟨5, (some 137), .o (.nilc (.tmp 132)), none, [132]⟩,
    ⟨6, (some 138), .o (.faddr 1 (.tmp 137)), none, [137]⟩,
    ⟨7, none, .o (.store 1 (.tmp 138) (.tmp 136)), none, [138, 136]⟩]
  | 31 => [⟨0, (some 140), .o (.move (.tmp 6)), none, [123]⟩,
    ⟨1, (some 141), .o (.icmp .eql (.tmp 140) (.cst (.int .u8 58))), none, [140]⟩,
    ⟨2, (some 139), .o (.asg (.tmp 141)), none, [141]⟩]
  | 32 => [⟨0, (some 142), .o (.faddr 0 (.tmp 4)), none, [139, 6]⟩,
    ⟨1, none, .o (.store 1 (.tmp 142) (.cst (.int .i64 16))), none, [142]⟩]
  | 33 => [⟨0, (some 143), .o (.move (.tmp 0)), none, []⟩,
    ⟨1, (some 144), .o (.nilc (.tmp 143)), none, []⟩,
    ⟨2, (some 145), .o (.faddr 1 (.tmp 144)), none, [144]⟩,
    ⟨3, (some 146), .o (.load false 1 (.tmp 145)), none, [145]⟩,
    ⟨4, (some 147), .o (.ibin .add (.tmp 146) (.cst (.int .i64 1))), none, [146]⟩,
    ⟨5, (some 148), .o (.nilc (.tmp 143)), none, [143]⟩,
    ⟨6, (some 149), .o (.faddr 1 (.tmp 148)), none, [148]⟩,
    ⟨7, none, .o (.store 1 (.tmp 149) (.tmp 147)), none, [149, 147]⟩]
  | 34 => [⟨0, (some 151), .o (.move (.tmp 0)), none, [139]⟩,
    ⟨1, (some 152), .call (.cst (.fn (.func 75) [] [])) [(.tmp 151)], none, [151]⟩,
    ⟨2, (some 150), .o (.asg (.tmp 152)), none, [152]⟩]
  | 35 => [⟨0, (some 153), .o (.faddr 0 (.tmp 4)), none, [150, 6]⟩,
    ⟨1, none, .o (.store 1 (.tmp 153) (.cst (.int .i64 3))), none, [153]⟩]
  | 36 => [⟨0, (some 23), .o (.move (.tmp 6)), none, [150, 6, 5]⟩,
    ⟨1, (some 24), .call (.cst (.fn (.func 43) [] [])) [(.tmp 23), (.cst (.str ⟨#[40, 41, 91, 93, 124, 94, 46, 59]⟩))], none, [23]⟩,
    ⟨2, (some 25), .o (.ibin .add (.cst (.int .i64 8)) (.tmp 24)), none, [24]⟩,
    ⟨3, (some 26), .o (.faddr 0 (.tmp 4)), none, []⟩,
    ⟨4, none, .o (.store 1 (.tmp 26) (.tmp 25)), none, [26, 25]⟩]
  | 37 => [⟨0, (some 27), .o (.faddr 0 (.tmp 4)), none, []⟩,
    ⟨1, (some 28), .o (.load false 1 (.tmp 27)), none, [27]⟩,
    ⟨2, (some 29), .o (.icmp .geq (.tmp 28) (.cst (.int .i64 8))), none, [28]⟩,
    ⟨3, (some 5), .o (.asg (.tmp 29)), none, [29]⟩]
  | 38 => [⟨0, (some 30), .o (.move (.tmp 0)), none, []⟩,
    ⟨1, (some 31), .o (.nilc (.tmp 30)), none, []⟩,
    ⟨2, (some 32), .o (.faddr 1 (.tmp 31)), none, [31]⟩,
    ⟨3, (some 33), .o (.load false 1 (.tmp 32)), none, [32]⟩,
    ⟨4, (some 34), .o (.ibin .add (.tmp 33) (.cst (.int .i64 1))), none, [33]⟩,
    ⟨5, (some 35), .o (.nilc (.tmp 30)), none, [30]⟩,
    ⟨6, (some 36), .o (.faddr 1 (.tmp 35)), none, [35]⟩,
    ⟨7, none, .o (.store 1 (.tmp 36) (.tmp 34)), none, [36, 34]⟩]
  | 39 => [⟨0, (some 154), .o (.move (.tmp 0)), none, []⟩,
    ⟨1, (some 155), .o (.nilc (.tmp 154)), none, []⟩,
    ⟨2, (some 156), .o (.faddr 0 (.tmp 155)), none, []⟩,
    ⟨3, (some 157), .o (.load false 1 (.tmp 156)), none, []⟩,
    ⟨4, (some 158), .o (.faddr 2 (.tmp 4)), none, []⟩,
    ⟨5, (some 159), .o (.load false 1 (.tmp 158)), none, []⟩,
    ⟨6, (some 160), .o (.move (.tmp 0)), none, []⟩,
    ⟨7, (some 161), .o (.nilc (.tmp 160)), none, []⟩,
    ⟨8, (some 162), .o (.faddr 1 (.tmp 161)), none, []⟩,
    ⟨9, (some 163), .o (.load false 1 (.tmp 162)), none, []⟩,
    ⟨10, (some 164), .o (.sslice (.tmp 157) (some (.tmp 159)) (some (.tmp 163))), none, []⟩,
    ⟨11, (some 165), .o (.faddr 1 (.tmp 4)), none, []⟩,
    ⟨12, none, .o (.store 1 (.tmp 165) (.tmp 164)), none, []⟩]
  | 40 => [⟨0, (some 166), .o (.load true 3 (.tmp 4)), none, [4]⟩,
    ⟨1, (some 167), .o (.move (.tmp 5)), none, [5]⟩,
    ⟨2, none, .o (.store 3 (.tmp 2) (.tmp 166)), none, [166]⟩,
    ⟨3, (some 3), .o (.asg (.tmp 167)), none, [167]⟩]
  | _ => []
def c45c : AC := (.seq (.regT c45t 0) (.seq (.regT c45t 1) (.seq (.regT c45t 2) (.seq (.seq (.regD [c45t 3]) (.block 0 (.seq (.regT c45t 4) (.cond (.tmp 37) (.seq (.regT c45t 5) (.seq (.regT c45t 6) (.seq (.regT c45t 7) (.cond (.tmp 44) (.seq (.regT c45t 8) (.regT c45t 9)) .skip)))) (.seq (.regT c45t 10) (.cond (.tmp 53) (.seq (.regT c45t 11) (.seq (.regT c45t 12) (.seq (.regD [c45t 13, c45t 14]) (.regT c45t 15)))) (.seq (.regT c45t 16) (.cond (.tmp 76) (.seq (.regT c45t 17) (.seq (.regT c45t 18) (.seq (.regT c45t 19) .ret))) (.seq (.regT c45t 20) (.cond (.tmp 88) (.seq (.regT c45t 21) (.regT c45t 22)) (.seq (.regT c45t 23) (.cond (.tmp 104) (.seq (.regT c45t 24) (.seq (.regT c45t 25) (.seq (.regT c45t 26) (.seq (.regT c45t 27) .ret)))) (.seq (.regT c45t 28) (.cond (.tmp 123) (.seq (.regT c45t 29) (.regT c45t 30)) (.seq (.regT c45t 31) (.cond (.tmp 139) (.seq (.regT c45t 32) (.regT c45t 33)) (.seq (.regT c45t 34) (.cond (.tmp 150) (.regT c45t 35) (.seq (.regT c45t 36) (.seq (.regT c45t 37) (.regT c45t 38))))))))))))))))))))) (.seq (.regD [c45t 39]) (.seq (.regT c45t 40) .ret))))))
def c45a : Ann := fun id => match id with
  | 0 => [[(0, []), (1, [])]]
  | 1 => [[(0, [3]), (1, [9]), (2, [10]), (3, [11]), (4, [12]), (5, []), (6, [13])]]
  | 2 => [[(0, [])]]
  | 3 => [[(0, []), (1, []), (2, []), (3, []), (4, []), (5, []), (6, []), (7, []), (8, []), (9, [])]]
  | 7 => [[(0, []), (1, [38]), (2, [39])]]
  | 8 => [[(0, [37, 6]), (1, [40])]]
  | 9 => [[(0, [41]), (1, [42])]]
  | 10 => [[(0, []), (1, [43])]]
  | 11 => [[(0, [44]), (1, [45])]]
  | 12 => [[(0, []), (1, []), (2, [47]), (3, [48]), (4, [49]), (5, [46]), (6, [51]), (7, [52, 50])]]
  | 13 => [[(0, [37]), (1, [54]), (2, [55])]]
  | 14 => [[(0, [53, 6, 5]), (1, [56])]]
  | 15 => [[(0, []), (1, [57])]]
  | 16 => [[(0, []), (1, []), (2, []), (3, []), (4, []), (5, []), (6, []), (7, []), (8, []), (9, []), (10, []), (11, []), (12, []), (13, []), (14, []), (15, [0, 1, 2, 3, 4, 5, 6, 7, 8, 9, 10, 12, 13, 14]), (16, [14]), (17, [])], [(0, []), (1, []), (2, []), (3, []), (4, []), (5, []), (6, []), (7, []), (8, []), (9, []), (10, []), (15, [0, 1, 2, 3, 4, 5, 6, 7, 8, 9, 10]), (11, []), (12, []), (13, []), (14, []), (16, [14]), (17, [])]]
  | 17 => [[(0, [8]), (1, [74]), (2, [75])]]
  | 18 => [[(0, [53]), (1, [77]), (2, [78])]]
  | 19 => [[(0, [76, 6, 5]), (1, [79])]]
  | 20 => [[(0, [0]), (1, [81]), (2, [82]), (3, []), (4, [80]), (5, []), (6, [85, 83]), (7, [84])]]
  | 21 => [[(0, [4]), (1, [5]), (2, [86]), (3, [87])]]
  | 22 => [[(0, [76]), (1, [89]), (2, [90]), (3, []), (4, [92]), (5, [93]), (6, [94, 91]), (7, [95])]]
  | 23 => [[(0, [88, 6]), (1, [96])]]
  | 24 => [[(0, []), (1, []), (2, [98]), (3, [99]), (4, [100]), (5, [97]), (6, [102]), (7, [103, 101])]]
  | 25 => [[(0, [88]), (1, [105]), (2, [106])]]
  | 26 => [[(0, [104, 6, 5]), (1, [107])]]
  | 27 => [[(0, []), (1, []), (2, [109]), (3, [110]), (4, [111]), (5, [108]), (6, [113]), (7, [114, 112])]]
  | 28 => [[(0, [0]), (1, [116]), (2, [117]), (3, []), (4, [115]), (5, []), (6, [120, 118]), (7, [119])]]
  | 29 => [[(0, [4]), (1, [5]), (2, [121]), (3, [122])]]
  | 30 => [[(0, [104]), (1, [124]), (2, [125]), (3, []), (4, [127]), (5, [128]), (6, [129, 126]), (7, [130])]]
  | 31 => [[(0, [123, 6]), (1, [131])]]
  | 32 => [[(0, []), (1, []), (2, [133]), (3, [134]), (4, [135]), (5, [132]), (6, [137]), (7, [138, 136])]]
  | 33 => [[(0, [123]), (1, [140]), (2, [141])]]
  | 34 => [[(0, [139, 6]), (1, [142])]]
  | 35 => [[(0, []), (1, []), (2, [144]), (3, [145]), (4, [146]), (5, [143]), (6, [148]), (7, [149, 147])]]
  | 36 => [[(0, [139]), (1, [151]), (2, [152])]]
  | 37 => [[(0, [150, 6]), (1, [153])]]
  | 4 => [[(0, [150, 6, 5]), (1, [23]), (2, [24]), (3, []), (4, [26, 25])]]
  | 5 => [[(0, []), (1, [27]), (2, [28]), (3, [29])]]
  | 6 => [[(0, []), (1, []), (2, [31]), (3, [32]), (4, [33]), (5, [30]), (6, [35]), (7, [36, 34])]]
  | 38 => [[(0, []), (1, []), (2, []), (3, []), (4, []), (5, []), (6, []), (7, []), (8, []), (9, []), (10, []), (11, []), (12, [])]]
  | 39 => [[(0, [4]), (1, [5]), (2, [166]), (3, [167])]]
  | _ => []
theorem c45ok : comp Tryz.prog 168 c45a chkD (Tryz.f45.body.getD .skip) = some (inst c45c) := by kernel_rfl
theorem c45call : callable Tryz.prog 45 = true := by kernel_rfl
theorem c45res : cRess Tryz.prog Tryz.f45.results.toList = some [.cell 2 true 3, .tmp 3] := by kernel_rfl
def c46t : Nat → List AI
  | 0 => [⟨0, (some 2), .o (.alloc [(.int .i64 0), (.str ⟨#[]⟩), (.int .i64 0), (.int .i64 0), (.sl true 0 []), (.sl true 0 [])] 25), none, []⟩,
    ⟨1, (some 3), .o (.asg (.cst (.bool false))), none, []⟩]
  | 1 => [⟨0, (some 5), .o (.move (.tmp 0)), none, [3]⟩,
    ⟨1, (some 6), .call (.cst (.fn (.func 40) [] [])) [(.tmp 5)], none, [5]⟩,
    ⟨2, (some 7), .o (.icmp .neq (.tmp 6) (.cst (.int .i64 13))), none, [6]⟩]
  | 2 => [⟨0, (some 8), .o (.move (.tmp 0)), none, [7, 0]⟩,
    ⟨1, (some 9), .call (.cst (.fn (.func 76) [] [])) [(.tmp 8)], none, [8]⟩,
    ⟨2, none, .o (.store 6 (.tmp 2) (.tmp 9)), none, [9]⟩,
    ⟨3, (some 3), .o (.asg (.cst (.bool false))), none, []⟩]
  | 3 => [⟨0, (some 10), .o (.move (.tmp 0)), none, [7, 3]⟩,
    ⟨1, (some 11), .call (.cst (.fn (.func 39) [] [])) [(.tmp 10)], none, [10]⟩,
    ⟨2, (some 12), .o (.field false 2 1 (.tmp 11)), none, [11]⟩,
    ⟨3, (some 13), .o (.build [(.int .i64 0), (.str ⟨#[]⟩), (.int .i64 0), (.int .i64 0), (.sl true 0 []), (.sl true 0 [])] [(0, 1, (.cst (.int .i64 11))), (2, 1, (.tmp 12))]), none, [12]⟩,
    ⟨4, (some 4), .o (.alloc [(.int .i64 0), (.str ⟨#[]⟩), (.int .i64 0), (.int .i64 0), (.sl true 0 []), (.sl true 0 [])] 25), none, []⟩,
    ⟨5, none, .o (.store 6 (.tmp 4) (.tmp 13)), none, [13]⟩]
  | 4 => [⟨0, (some 14), .o (.move (.tmp 0)), none, [0]⟩,
    ⟨1, (some 15), .call (.cst (.fn (.func 76) [] [])) [(.tmp 14)], none, [14]⟩,
    ⟨2, (some 16), .o (.bslice 25 true 6 1 [(.int .i64 0), (.str ⟨#[]⟩), (.int .i64 0), (.int .i64 0), (.sl true 0 []), (.sl true 0 [])] [(0, 6, (.tmp 15))]), none, [15]⟩,
    ⟨3, (some 17), .o (.faddr 5 (.tmp 4)), none, []⟩,
    ⟨4, none, .o (.store 1 (.tmp 17) (.tmp 16)), none, [17, 16]⟩]
  | 5 => [⟨0, (some 18), .o (.load true 6 (.tmp 4)), none, [4]⟩,
    ⟨1, none, .o (.store 6 (.tmp 2) (.tmp 18)), none, [18]⟩,
    ⟨2, (some 3), .o (.asg (.cst (.bool true))), none, []⟩]
  | _ => []
def c46c : AC := (.seq (.regT c46t 0) (.seq (.seq (.regT c46t 1) (.cond (.tmp 7) (.seq (.regT c46t 2) .ret) .skip)) (.seq (.regT c46t 3) (.seq (.regT c46t 4) (.seq (.regT c46t 5) .ret)))))
def c46a : Ann := fun id => match id with
  | 0 => [[(0, []), (1, [])]]
  | 1 => [[(0, [3]), (1, [5]), (2, [6])]]
  | 2 => [[(0, [7, 0]), (1, [8]), (2, [9]), (3, [])]]
  | 3 => [[(0, [7, 3]), (1, [10]), (2, [11]), (3, [12]), (4, []), (5, [13])]]
  | 4 => [[(0, [0]), (1, [14]), (2, [15]), (3, []), (4, [17, 16])]]
  | 5 => [[(0, [4]), (1, [18]), (2, [])]]
  | _ => []
theorem c46ok : comp Tryz.prog 19 c46a chkD (Tryz.f46.body.getD .skip) = some (inst c46c) := by kernel_rfl
theorem c46call : callable Tryz.prog 46 = true := by kernel_rfl
theorem c46res : cRess Tryz.prog Tryz.f46.results.toList = some [.cell 2 true 6, .tmp 3] := by kernel_rfl
def c47t : Nat → List AI
  | 0 => [⟨0, (some 4), .o (.move (.tmp 0)), none, [0]⟩,
    ⟨1, (some 5), .o (.nilc (.tmp 4)), none, [4]⟩,
    ⟨2, (some 6), .o (.faddr 0 (.tmp 5)), none, [5]⟩,
    ⟨3, (some 7), .o (.load false 1 (.tmp 6)), none, [6]⟩,
    ⟨4, (some 8), .o (.iaddr 3 (.tmp 7) (.cst (.int .i64 0))), none, [7]⟩,
    ⟨5, (some 9), .o (.faddr 2 (.tmp 8)), none, [8]⟩,
    ⟨6, (some 10), .o (.load false 1 (.tmp 9)), none, [9]⟩,
    ⟨7, (some 11), .o (.move (.tmp 1)), none, [1]⟩,
    ⟨8, (some 12), .o (.build [(.int .i64 0), (.int .i64 0)] [(0, 1, (.tmp 10)), (1, 1, (.tmp 11))]), none, [11, 10]⟩,
    ⟨9, (some 13), .o (.mkif 53 (.tmp 12)), none, [12]⟩,
    ⟨10, none, .panic (.tmp 13), none, [13]⟩]
  | _ => []
def c47c : AC := (.regT c47t 0)
def c47a : Ann := fun id => match id with
  | 0 => [[(0, [0]), (1, [4]), (2, [5]), (3, [6]), (4, [7]), (5, [8]), (6, [9]), (7, [1]), (8, [11, 10]), (9, [12]), (10, [13])]]
  | _ => []
theorem c47ok : comp Tryz.prog 14 c47a chkD (Tryz.f47.body.getD .skip) = some (inst c47c) := by kernel_rfl
theorem c47call : callable Tryz.prog 47 = true := by kernel_rfl
def c54t : Nat → List AI
  | 0 => [⟨0, (some 4), .o (.asg (.cst (.int .i64 0))), none, []⟩,
    ⟨1, (some 5), .o (.asg (.cst .nilI)), none, [4]⟩]
  | 1 => [⟨0, (some 6), .o (.move (.tmp 0)), none, [5]⟩,
    ⟨1, (some 7), .call (.cst (.fn (.func 86) [] [])) [(.tmp 6)], none, [6]⟩]
  | 2 => [⟨0, (some 8), .o (.move (.tmp 0)), none, [7]⟩,
    ⟨1, (some 9), .o (.move (.tmp 0)), none, [0]⟩,
    ⟨2, (some 10), .o (.nilc (.tmp 9)), none, [9]⟩,
    ⟨3, (some 11), .o (.faddr 1 (.tmp 10)), none, [10]⟩,
    ⟨4, (some 12), .o (.load false 1 (.tmp 11)), none, [11]⟩,
    ⟨5, (some 13), .o (.move (.tmp 1)), none, []⟩,
    ⟨6, (some 14), .o (.append 5 1 1 [(.int .u8 0)] (.tmp 12) (.tmp 13)), none, [13, 12]⟩,
    ⟨7, (some 15), .o (.nilc (.tmp 8)), none, [8]⟩,
    ⟨8, (some 16), .o (.faddr 1 (.tmp 15)), none, [15]⟩,
    ⟨9, none, .o (.store 1 (.tmp 16) (.tmp 14)), none, [16, 14]⟩]
  | 3 => [⟨0, (some 17), .o (.move (.tmp 1)), none, [1]⟩,
    ⟨1, (some 18), .o (.len true (.tmp 17)), none, [17]⟩,
    ⟨2, (some 4), .o (.asg (.tmp 18)), none, [18]⟩,
    ⟨3, (some 5), .o (.asg (.cst .nilI)), none, []⟩]
  | _ => []
def c54c : AC := (.seq (.regT c54t 0) (.seq (.regT c54t 1) (.seq (.regT c54t 2) (.seq (.regT c54t 3) .ret))))
def c54a : Ann := fun id => match id with
  | 0 => [[(0, []), (1, [4])]]
  | 1 => [[(0, [5]), (1, [6])]]
  | 2 => [[(0, [7]), (1, [0]), (2, [9]), (3, [10]), (4, [11]), (5, []), (6, [13, 12]), (7, [8]), (8, [15]), (9, [16, 14])]]
  | 3 => [[(0, [1]), (1, [17]), (2, [18]), (3, [])]]
  | _ => []
theorem c54ok : comp Tryz.prog 19 c54a chkD (Tryz.f54.body.getD .skip) = some (inst c54c) := by kernel_rfl
theorem c54call : callable Tryz.prog 54 = true := by kernel_rfl
theorem c54res : cRess Tryz.prog Tryz.f54.results.toList = some [.tmp 4, .tmp 5] := by kernel_rfl
def c57t : Nat → List AI
  | 0 => [⟨0, (some 8), .o (.move (.tmp 1)), none, [1]⟩,
    ⟨1, (some 9), .o (.len false (.tmp 8)), none, []⟩,
    ⟨2, (some 10), .o (.move (.cst (.int .i64 0))), none, []⟩]
  | 1 => [⟨0, (some 11), .o (.icmp .lss (.tmp 10) (.tmp 9)), none, []⟩]
  | 2 => [⟨0, (some 12), .o (.move (.tmp 10)), none, [11]⟩,
    ⟨1, (some 13), .o (.iaddr 6 (.tmp 8) (.tmp 10)), none, []⟩,
    ⟨2, (some 14), .o (.load true 6 (.tmp 13)), none, [13]⟩,
    ⟨3, (some 7), .o (.alloc [(.int .i64 0), (.str ⟨#[]⟩), (.int .i64 0), (.int .i64 0), (.sl true 0 []), (.sl true 0 [])] 25), none, []⟩,
    ⟨4, (some 6), .o (.asg (.tmp 12)), none, [12]⟩,
    ⟨5, none, .o (.store 6 (.tmp 7) (.tmp 14)), none, [14]⟩]
  | 3 => [⟨0, (some 15), .o (.move (.tmp 6)), none, [6]⟩,
    ⟨1, (some 16), .o (.icmp .gtr (.tmp 15) (.cst (.int .i64 0))), none, [15]⟩]
  | 4 => [⟨0, (some 17), .o (.move (.tmp 0)), none, [16]⟩,
    ⟨1, (some 18), .o (.nilc (.tmp 17)), none, [17]⟩,
    ⟨2, (some 19), .o (.faddr 0 (.tmp 18)), none, [18]⟩,
    ⟨3, (some 20), .o (.move (.tmp 2)), none, []⟩,
    ⟨4, (some 21), .call (.cst (.fn (.func 54) [] [])) [(.tmp 19), (.tmp 20)], none, [20, 19]⟩]
  | 5 => [⟨0, (some 22), .o (.move (.tmp 0)), none, [16, 21]⟩,
    ⟨1, (some 23), .o (.load true 6 (.tmp 7)), none, [7]⟩,
    ⟨2, (some 24), .call (.cst (.fn (.func 33) [] [])) [(.tmp 22), (.tmp 23)], none, [23, 22]⟩]
  | 6 => [⟨0, (some 25), .o (.ibin .add (.tmp 10) (.cst (.int .i64 1))), none, [24, 10]⟩,
    ⟨1, (some 10), .o (.move (.tmp 25)), none, [25]⟩]
  | _ => []
def c57l7 : AC := (.seq (.regT c57t 1) (.seq (.cond (.tmp 11) .skip (.exit 0)) (.seq (.block 1 (.seq (.regT c57t 2) (.seq (.seq (.regT c57t 3) (.cond (.tmp 16) (.regT c57t 4) .skip)) (.regT c57t 5)))) (.regT c57t 6))))
def c57c : AC := (.seq (.regT c57t 0) (.block 0 (.loop c57l7)))
def c57a : Ann := fun id => match id with
  | 0 => [[(0, [1]), (1, []), (2, [])]]
  | 1 => [[(0, [])]]
  | 2 => [[(0, [11]), (1, []), (2, [13]), (3, []), (4, [12]), (5, [14])]]
  | 3 => [[(0, [6]), (1, [15])]]
  | 4 => [[(0, [16]), (1, [17]), (2, [18]), (3, []), (4, [20, 19])]]
  | 5 => [[(0, [16, 21]), (1, [7]), (2, [23, 22])]]
  | 6 => [[(0, [24, 10]), (1, [25])]]
  | _ => []
theorem c57ok : comp Tryz.prog 26 c57a chkD (Tryz.f57.body.getD .skip) = some (inst c57c) := by kernel_rfl
theorem c57call : callable Tryz.prog 57 = true := by kernel_rfl
theorem c57res : cRess Tryz.prog Tryz.f57.results.toList = some [] := by kernel_rfl
def c58t : Nat → List AI
  | 0 => [⟨0, (some 4), .o (.asg (.cst .nilI)), none, []⟩]
  | 1 => [⟨0, (some 5), .o (.move (.tmp 0)), none, [4]⟩,
    ⟨1, (some 6), .call (.cst (.fn (.func 86) [] [])) [(.tmp 5)], none, [5]⟩]
  | 2 => [⟨0, (some 7), .o (.move (.tmp 0)), none, [6]⟩,
    ⟨1, (some 8), .o (.move (.tmp 0)), none, [0]⟩,
    ⟨2, (some 9), .o (.nilc (.tmp 8)), none, [8]⟩,
    ⟨3, (some 10), .o (.faddr 1 (.tmp 9)), none, [9]⟩,
    ⟨4, (some 11), .o (.load false 1 (.tmp 10)), none, [10]⟩,
    ⟨5, (some 12), .o (.move (.tmp 1)), none, [1]⟩,
    ⟨6, (some 13), .o (.bslice 5 false 1 1 [(.int .u8 0)] [(0, 1, (.tmp 12))]), none, [12]⟩,
    ⟨7, (some 14), .o (.append 5 1 1 [(.int .u8 0)] (.tmp 11) (.tmp 13)), none, [13, 11]⟩,
    ⟨8, (some 15), .o (.nilc (.tmp 7)), none, [7]⟩,
    ⟨9, (some 16), .o (.faddr 1 (.tmp 15)), none, [15]⟩,
    ⟨10, none, .o (.store 1 (.tmp 16) (.tmp 14)), none, [16, 14]⟩]
  | 3 => [⟨0, (some 4), .o (.asg (.cst .nilI)), none, []⟩]
  | _ => []
def c58c : AC := (.seq (.regT c58t 0) (.seq (.regT c58t 1) (.seq (.regT c58t 2) (.seq (.regT c58t 3) .ret))))
def c58a : Ann := fun id => match id with
  | 0 => [[(0, [])]]
  | 1 => [[(0, [4]), (1, [5])]]
  | 2 => [[(0, [6]), (1, [0]), (2, [8]), (3, [9]), (4, [10]), (5, [1]), (6, [12]), (7, [13, 11]), (8, [7]), (9, [15]), (10, [16, 14])]]
  | 3 => [[(0, [])]]
  | _ => []
theorem c58ok : comp Tryz.prog 17 c58a chkD (Tryz.f58.body.getD .skip) = some (inst c58c) := by kernel_rfl
theorem c58call : callable Tryz.prog 58 = true := by kernel_rfl
theorem c58res : cRess Tryz.prog Tryz.f58.results.toList = some [.tmp 4] := by kernel_rfl
def c59t : Nat → List AI
  | 0 => [⟨0, (some 4), .o (.box 25 (.tmp 1)), none, [1]⟩]
  | 1 => [⟨0, (some 6), .o (.move (.tmp 0)), none, []⟩,
    ⟨1, (some 7), .o (.load true 6 (.tmp 4)), none, []⟩,
    ⟨2, (some 8), .o (.move (.tmp 2)), none, []⟩,
    ⟨3, (some 9), .call (.cst (.fn (.func 89) [] [])) [(.tmp 8)], none, [0, 1]⟩,
    ⟨4, (some 10), .o (.mx false (.cst (.int .i64 1)) (.tmp 9)), none, []⟩,
    ⟨5, (some 11), .call (.cst (.fn (.func 88) [] [])) [(.tmp 6), (.tmp 7), (.tmp 10)], none, []⟩]
  | _ => []
def c59c : AC := (.seq (.regT c59t 0) (.regD [c59t 1]))
def c59a : Ann := fun id => match id with
  | 0 => [[(0, [1])]]
  | 1 => [[(0, []), (1, []), (2, []), (3, [0, 1]), (4, []), (5, [])]]
  | _ => []
theorem c59ok : comp Tryz.prog 12 c59a chkD (Tryz.f59.body.getD .skip) = some (inst c59c) := by kernel_rfl
theorem c59call : callable Tryz.prog 59 = true := by kernel_rfl
theorem c59res : cRess Tryz.prog Tryz.f59.results.toList = some [] := by kernel_rfl
def c60t : Nat → List AI
  | 0 => [⟨0, (some 3), .o (.box 98 (.tmp 0)), none, [0]⟩,
    ⟨1, (some 5), .o (.box 23 (.tmp 2)), none, [2]⟩]
  | 1 => [⟨0, (some 6), .o (.move (.tmp 1)), none, []⟩,
    ⟨1, (some 7), .call (.cst (.fn (.func 89) [] [])) [(.tmp 6)], none, [6]⟩]
  | 2 => [⟨0, (some 13), .o (.icmp .eql (.tmp 7) (.cst (.int .i64 2))), none, []⟩,
    ⟨1, (some 12), .o (.asg (.tmp 13)), none, [13]⟩]
  | 3 => [⟨0, (some 14), .o (.load false 1 (.tmp 3)), none, [12, 7, 5, 3]⟩,
    ⟨1, (some 15), .o (.nilc (.tmp 14)), none, [14]⟩,
    ⟨2, (some 16), .o (.faddr 0 (.tmp 15)), none, [15]⟩,
    ⟨3, (some 17), .o (.move (.tmp 1)), none, [1]⟩,
    ⟨4, (some 18), .o (.sbin .add (.cst (.str ⟨#[32]⟩)) (.tmp 17)), none, [17]⟩,
    ⟨5, (some 19), .call (.cst (.fn (.func 54) [] [])) [(.tmp 16), (.tmp 18)], none, [18, 16]⟩]
  | 4 => [⟨0, (some 21), .o (.icmp .eql (.tmp 7) (.cst (.int .i64 1))), none, [12, 7]⟩,
    ⟨1, (some 20), .o (.asg (.tmp 21)), none, [21]⟩]
  | 5 => [⟨0, (some 22), .o (.load false 1 (.tmp 3)), none, [20]⟩,
    ⟨1, (some 23), .o (.nilc (.tmp 22)), none, [22]⟩,
    ⟨2, (some 24), .o (.faddr 0 (.tmp 23)), none, [23]⟩,
    ⟨3, (some 25), .o (.move (.tmp 1)), none, [1]⟩,
    ⟨4, (some 26), .o (.sbin .add (.cst (.str ⟨#[32]⟩)) (.tmp 25)), none, [25]⟩,
    ⟨5, (some 27), .o (.sbin .add (.tmp 26) (.cst (.str ⟨#[32]⟩))), none, [26]⟩,
    ⟨6, (some 28), .call (.cst (.fn (.func 54) [] [])) [(.tmp 24), (.tmp 27)], none, [27, 24]⟩]
  | 6 => [⟨0, (some 29), .o (.load false 1 (.tmp 3)), none, []⟩,
    ⟨1, (some 30), .o (.load false 1 (.tmp 5)), none, []⟩,
    ⟨2, (some 31), .o (.iaddr 6 (.tmp 30) (.cst (.int .i64 0))), none, []⟩,
    ⟨3, (some 32), .o (.load true 6 (.tmp 31)), none, []⟩,
    ⟨4, (some 33), .call (.cst (.fn (.func 88) [] [])) [(.tmp 29), (.tmp 32), (.cst (.int .i64 2))], none, []⟩]
  | 7 => [⟨0, (some 8), .o (.load false 1 (.tmp 3)), none, [20]⟩,
    ⟨1, (some 9), .o (.move (.tmp 1)), none, [1]⟩,
    ⟨2, (some 10), .o (.mkfn (.func 91) [] [(.tmp 3), (.tmp 5)]), none, [5, 3]⟩,
    ⟨3, (some 11), .call (.cst (.fn (.func 90) [] [])) [(.tmp 8), (.tmp 9), (.cst (.str ⟨#[32]⟩)), (.cst (.str ⟨#[]⟩)), (.tmp 10)], none, [10, 9, 8]⟩]
  | _ => []
def c60c : AC := (.seq (.regT c60t 0) (.seq (.regT c60t 1) (.block 0 (.seq (.regT c60t 2) (.cond (.tmp 12) (.regT c60t 3) (.seq (.regT c60t 4) (.cond (.tmp 20) (.seq (.regT c60t 5) (.regD [c60t 6])) (.regT c60t 7))))))))
def c60a : Ann := fun id => match id with
  | 0 => [[(0, [0]), (1, [2])]]
  | 1 => [[(0, []), (1, [6])]]
  | 3 => [[(0, []), (1, [13])]]
  | 4 => [[(0, [12, 7, 5, 3]), (1, [14]), (2, [15]), (3, [1]), (4, [17]), (5, [18, 16])]]
  | 5 => [[(0, [12, 7]), (1, [21])]]
  | 6 => [[(0, [20]), (1, [22]), (2, [23]), (3, [1]), (4, [25]), (5, [26]), (6, [27, 24])]]
  | 7 => [[(0, []), (1, []), (2, []), (3, []), (4, [])]]
  | 2 => [[(0, [20]), (1, [1]), (2, [5, 3]), (3, [10, 9, 8])]]
  | _ => []
theorem c60ok : comp Tryz.prog 34 c60a chkD (Tryz.f60.body.getD .skip) = some (inst c60c) := by kernel_rfl
theorem c60call : callable Tryz.prog 60 = true := by kernel_rfl
theorem c60res : cRess Tryz.prog Tryz.f60.results.toList = some [] := by kernel_rfl
def c61t : Nat → List AI
  | 0 => [⟨0, (some 3), .o (.box 25 (.tmp 1)), none, [1]⟩]
  | 1 => [⟨0, (some 4), .o (.faddr 4 (.tmp 3)), none, []⟩,
    ⟨1, (some 5), .o (.load false 1 (.tmp 4)), none, [4]⟩,
    ⟨2, (some 6), .o (.len false (.tmp 5)), none, [5]⟩,
    ⟨3, (some 7), .o (.faddr 3 (.tmp 3)), none, []⟩,
    ⟨4, (some 8), .o (.load false 1 (.tmp 7)), none, [7]⟩,
    ⟨5, (some 9), .o (.icmp .gtr (.tmp 6) (.tmp 8)), none, [8, 6]⟩]
  | 2 => [⟨0, (some 10), .o (.move (.tmp 0)), none, []⟩,
    ⟨1, (some 11), .o (.nilc (.tmp 10)), none, []⟩,
    ⟨2, (some 12), .o (.faddr 0 (.tmp 11)), none, []⟩,
    ⟨3, (some 13), .o (.faddr 4 (.tmp 3)), none, []⟩,
    ⟨4, (some 14), .o (.load false 1 (.tmp 13)), none, []⟩,
    ⟨5, (some 15), .o (.faddr 3 (.tmp 3)), none, []⟩,
    ⟨6, (some 16), .o (.load false 1 (.tmp 15)), none, []⟩,
    ⟨7, (some 17), .o (.lslice 1 (.tmp 14) (some (.tmp 16)) none), none, []⟩,
    ⟨8, (some 18), .call (.cst (.fn (.func 92) [] [])) [(.tmp 17), (.cst (.str ⟨#[32]⟩))], none, [0, 1, 2]⟩,
    ⟨9, (some 19), .o (.sbin .add (.cst (.str ⟨#[124, 32]⟩)) (.tmp 18)), none, []⟩,
    ⟨10, (some 20), .o (.sbin .add (.tmp 19) (.cst (.str ⟨#[32, 124, 32]⟩))), none, []⟩,
    ⟨11, (some 21), .call (.cst (.fn (.func 54) [] [])) [(.tmp 12), (.tmp 20)], none, []⟩]
  | 3 => [⟨0, (some 22), .o (.move (.tmp 0)), none, [9, 21, 0]⟩,
    ⟨1, (some 23), .o (.faddr 5 (.tmp 3)), none, [3]⟩,
    ⟨2, (some 24), .o (.load false 1 (.tmp 23)), none, [23]⟩,
    ⟨3, (some 25), .call (.cst (.fn (.func 57) [] [])) [(.tmp 22), (.tmp 24), (.cst (.str ⟨#[46, 32]⟩))], none, [24, 22]⟩]
  | _ => []
def c61c : AC := (.seq (.regT c61t 0) (.seq (.seq (.regT c61t 1) (.cond (.tmp 9) (.regD [c61t 2]) .skip)) (.regT c61t 3)))
def c61a : Ann := fun id => match id with
  | 0 => [[(0, [1])]]
  | 1 => [[(0, []), (1, [4]), (2, [5]), (3, []), (4, [7]), (5, [8, 6])]]
  | 2 => [[(0, []), (1, []), (2, []), (3, []), (4, []), (5, []), (6, []), (7, []), (8, [0, 1, 2]), (9, []), (10, []), (11, [])]]
  | 3 => [[(0, [9, 21, 0]), (1, [3]), (2, [23]), (3, [24, 22])]]
  | _ => []
theorem c61ok : comp Tryz.prog 26 c61a chkD (Tryz.f61.body.getD .skip) = some (inst c61c) := by kernel_rfl
theorem c61call : callable Tryz.prog 61 = true := by kernel_rfl
theorem c61res : cRess Tryz.prog Tryz.f61.results.toList = some [] := by kernel_rfl
def c62t : Nat → List AI
  | 0 => [⟨0, (some 2), .o (.box 98 (.tmp 0)), none, [0]⟩,
    ⟨1, (some 3), .o (.box 25 (.tmp 1)), none, [1]⟩]
  | 1 => [⟨0, (some 10), .o (.faddr 1 (.tmp 3)), none, []⟩,
    ⟨1, (some 11), .o (.load false 1 (.tmp 10)), none, [10]⟩,
    ⟨2, (some 12), .o (.sbin .eql (.tmp 11) (.cst (.str ⟨#[]⟩))), none, [11]⟩,
    ⟨3, (some 9), .o (.asg (.tmp 12)), none, [12]⟩]
  | 2 => [⟨0, (some 14), .o (.faddr 3 (.tmp 3)), none, [9]⟩,
    ⟨1, (some 15), .o (.load false 1 (.tmp 14)), none, [14]⟩,
    ⟨2, (some 16), .o (.icmp .eql (.tmp 15) (.cst (.int .i64 0))), none, [15]⟩,
    ⟨3, (some 13), .o (.asg (.tmp 16)), none, [16]⟩]
  | 3 => [⟨0, (some 17), .o (.load false 1 (.tmp 2)), none, []⟩,
    ⟨1, (some 18), .o (.nilc (.tmp 17)), none, []⟩,
    ⟨2, (some 19), .o (.faddr 0 (.tmp 18)), none, []⟩,
    ⟨3, (some 20), .o (.faddr 1 (.tmp 3)), none, []⟩,
    ⟨4, (some 21), .o (.load false 1 (.tmp 20)), none, []⟩,
    ⟨5, (some 22), .o (.sbin .add (.tmp 21) (.cst (.str ⟨#[32]⟩))), none, []⟩,
    ⟨6, (some 23), .call (.cst (.fn (.func 54) [] [])) [(.tmp 19), (.tmp 22)], none, []⟩]
  | 4 => [⟨0, (some 25), .o (.faddr 1 (.tmp 3)), none, [13]⟩,
    ⟨1, (some 26), .o (.load false 1 (.tmp 25)), none, [25]⟩,
    ⟨2, (some 27), .call (.cst (.fn (.func 89) [] [])) [(.tmp 26)], none, [26]⟩,
    ⟨3, (some 28), .o (.icmp .eql (.tmp 27) (.cst (.int .i64 1))), none, [27]⟩,
    ⟨4, (some 24), .o (.asg (.tmp 28)), none, [28]⟩]
  | 5 => [⟨0, (some 29), .o (.load false 1 (.tmp 2)), none, []⟩,
    ⟨1, (some 30), .o (.nilc (.tmp 29)), none, []⟩,
    ⟨2, (some 31), .o (.faddr 0 (.tmp 30)), none, []⟩,
    ⟨3, (some 32), .o (.faddr 1 (.tmp 3)), none, []⟩,
    ⟨4, (some 33), .o (.load false 1 (.tmp 32)), none, []⟩,
    ⟨5, (some 34), .o (.sbin .add (.tmp 33) (.cst (.str ⟨#[32]⟩))), none, []⟩,
    ⟨6, (some 35), .o (.faddr 4 (.tmp 3)), none, []⟩,
    ⟨7, (some 36), .o (.load false 1 (.tmp 35)), none, []⟩,
    ⟨8, (some 37), .o (.iaddr 1 (.tmp 36) (.cst (.int .i64 0))), none, []⟩,
    ⟨9, (some 38), .o (.load false 1 (.tmp 37)), none, []⟩,
    ⟨10, (some 39), .o (.sbin .add (.tmp 34) (.tmp 38)), none, []⟩,
    ⟨11, (some 40), .o (.sbin .add (.tmp 39) (.cst (.str ⟨#[32]⟩))), none, []⟩,
    ⟨12, (some 41), .call (.cst (.fn (.func 54) [] [])) [(.tmp 31), (.tmp 40)], none, []⟩]
  | 6 => [⟨0, (some 4), .o (.load false 1 (.tmp 2)), none, [24]⟩,
    ⟨1, (some 5), .o (.faddr 1 (.tmp 3)), none, []⟩,
    ⟨2, (some 6), .o (.load false 1 (.tmp 5)), none, [5]⟩,
    ⟨3, (some 7), .o (.mkfn (.func 93) [] [(.tmp 2), (.tmp 3)]), none, [3, 2]⟩,
    ⟨4, (some 8), .call (.cst (.fn (.func 90) [] [])) [(.tmp 4), (.tmp 6), (.cst (.str ⟨#[]⟩)), (.cst (.str ⟨#[32]⟩)), (.tmp 7)], none, [7, 6, 4]⟩]
  | _ => []
def c62c : AC := (.seq (.regT c62t 0) (.block 0 (.seq (.regT c62t 1) (.cond (.tmp 9) .skip (.seq (.regT c62t 2) (.cond (.tmp 13) (.regD [c62t 3]) (.seq (.regT c62t 4) (.cond (.tmp 24) (.regD [c62t 5]) (.regT c62t 6)))))))))
def c62a : Ann := fun id => match id with
  | 0 => [[(0, [0]), (1, [1])]]
  | 2 => [[(0, []), (1, [10]), (2, [11]), (3, [12])]]
  | 3 => [[(0, [9]), (1, [14]), (2, [15]), (3, [16])]]
  | 4 => [[(0, []), (1, []), (2, []), (3, []), (4, []), (5, []), (6, [])]]
  | 5 => [[(0, [13]), (1, [25]), (2, [26]), (3, [27]), (4, [28])]]
  | 6 => [[(0, []), (1, []), (2, []), (3, []), (4, []), (5, []), (6, []), (7, []), (8, []), (9, []), (10, []), (11, []), (12, [])]]
  | 1 => [[(0, [24]), (1, []), (2, [5]), (3, [3, 2]), (4, [7, 6, 4])]]
  | _ => []
theorem c62ok : comp Tryz.prog 42 c62a chkD (Tryz.f62.body.getD .skip) = some (inst c62c) := by kernel_rfl
theorem c62call : callable Tryz.prog 62 = true := by kernel_rfl
theorem c62res : cRess Tryz.prog Tryz.f62.results.toList = some [] := by kernel_rfl
def c63t : Nat → List AI
  | 0 => [⟨0, (some 4), .o (.asg (.cst (.bool false))), none, []⟩]
  | 1 => [⟨0, (some 5), .o (.move (.tmp 0)), none, []⟩,
    ⟨1, (some 6), .o (.nilc (.tmp 5)), none, []⟩,
    ⟨2, (some 7), .o (.faddr 1 (.tmp 6)), none, []⟩,
    ⟨3, (some 8), .o (.load false 1 (.tmp 7)), none, []⟩,
    ⟨4, (some 9), .o (.move (.tmp 0)), none, []⟩,
    ⟨5, (some 10), .o (.nilc (.tmp 9)), none, []⟩,
    ⟨6, (some 11), .o (.faddr 0 (.tmp 10)), none, []⟩,
    ⟨7, (some 12), .o (.load false 1 (.tmp 11)), none, []⟩,
    ⟨8, (some 13), .o (.len true (.tmp 12)), none, []⟩,
    ⟨9, (some 14), .o (.icmp .lss (.tmp 8) (.tmp 13)), none, []⟩,
    ⟨10, (some 15), .o (.move (.tmp 14)), none, []⟩,
    ⟨11, (some 16), .o (.move (.tmp 1)), (some (15, true)), []⟩,
    ⟨12, (some 17), .o (.move (.tmp 0)), (some (15, true)), []⟩,
    ⟨13, (some 18), .o (.nilc (.tmp 17)), (some (15, true)), []⟩,
    ⟨14, (some 19), .o (.faddr 0 (.tmp 18)), (some (15, true)), []⟩,
    ⟨15, (some 20), .o (.load false 1 (.tmp 19)), (some (15, true)), []⟩,
    ⟨16, (some 21), .o (.move (.tmp 0)), (some (15, true)), []⟩,
    ⟨17, (some 22), .o (.nilc (.tmp 21)), (some (15, true)), []⟩,
    ⟨18, (some 23), .o (.faddr 1 (.tmp 22)), (some (15, true)), []⟩,
    ⟨19, (some 24), .o (.load false 1 (.tmp 23)), (some (15, true)), []⟩,
    ⟨20, (some 25), .o (.index (.tmp 20) (.tmp 24)), (some (15, true)), []⟩,
    ⟨21, (some 26), .call (.tmp 16) [(.tmp 25)], (some (15, true)), []⟩,
    ⟨22, (some 27), .o (.pick (.tmp 15) (.tmp 26) (.cst (.bool false))), none, []⟩,
    ⟨23, (some 4), .o (.asg (.tmp 27)), none, []⟩]
  | _ => []
def c63c : AC := (.seq (.regT c63t 0) (.seq (.regD [c63t 1]) .ret))
def c63a : Ann := fun id => match id with
  | 0 => [[(0, [])]]
  | 1 => [[(0, []), (1, []), (2, []), (3, []), (4, []), (5, []), (6, []), (7, []), (8, []), (9, []), (10, []), (11, []), (12, []), (13, []), (14, []), (15, []), (16, []), (17, []), (18, []), (19, []), (20, []), (21, []), (22, []), (23, [])]]
  | _ => []
theorem c63ok : comp Tryz.prog 28 c63a chkD (Tryz.f63.body.getD .skip) = some (inst c63c) := by kernel_rfl
theorem c63call : callable Tryz.prog 63 = true := by kernel_rfl
theorem c63res : cRess Tryz.prog Tryz.f63.results.toList = some [.tmp 4] := by kernel_rfl
end Go.SL
set_option maxRecDepth 100000
namespace Go.SL
open Go.Proofs
def c64t : Nat → List AI
  | 0 => [⟨0, (some 2), .o (.asg (.cst (.bool false))), none, []⟩]
  | 1 => [⟨0, (some 3), .o (.move (.tmp 0)), none, [2]⟩,
    ⟨1, (some 4), .o (.ibin .or (.tmp 3) (.cst (.int .u8 32))), none, [3]⟩,
    ⟨2, (some 5), .o (.icmp .geq (.tmp 4) (.cst (.int .u8 97))), none, [4]⟩,
    ⟨3, (some 6), .o (.move (.tmp 5)), none, [5]⟩,
    ⟨4, (some 7), .o (.move (.tmp 0)), (some (6, true)), [0]⟩,
    ⟨5, (some 8), .o (.ibin .or (.tmp 7) (.cst (.int .u8 32))), (some (6, true)), [7]⟩,
    ⟨6, (some 9), .o (.icmp .leq (.tmp 8) (.cst (.int .u8 122))), (some (6, true)), [8]⟩,
    ⟨7, (some 10), .o (.pick (.tmp 6) (.tmp 9) (.cst (.bool false))), none, [9, 6]⟩,
    ⟨8, (some 2), .o (.asg (.tmp 10)), none, [10]⟩]
  | _ => []
def c64c : AC := (.seq (.regT c64t 0) (.seq (.regT c64t 1) .ret))
def c64a : Ann := fun id => match id with
  | 0 => [[(0, [])]]
  | 1 => [[(0, [2]), (1, [3]), (2, [4]), (3, [5]), (4, [0]), (5, [7]), (6, [8]), (7, [9, 6]), (8, [10])]]
  | _ => []
theorem c64ok : comp Tryz.prog 11 c64a chkD (Tryz.f64.body.getD .skip) = some (inst c64c) := by kernel_rfl
theorem c64call : callable Tryz.prog 64 = true := by kernel_rfl
theorem c64res : cRess Tryz.prog Tryz.f64.results.toList = some [.tmp 2] := by kernel_rfl
def c65t : Nat → List AI
  | 0 => [⟨0, (some 2), .o (.asg (.cst (.bool false))), none, []⟩]
  | 1 => [⟨0, (some 3), .o (.move (.tmp 0)), none, [2]⟩,
    ⟨1, (some 4), .call (.cst (.fn (.func 64) [] [])) [(.tmp 3)], none, [3]⟩,
    ⟨2, (some 5), .o (.move (.tmp 4)), none, [4]⟩,
    ⟨3, (some 6), .o (.move (.tmp 0)), (some (5, false)), []⟩,
    ⟨4, (some 7), .call (.cst (.fn (.func 66) [] [])) [(.tmp 6)], (some (5, false)), [6]⟩,
    ⟨5, (some 8), .o (.pick (.tmp 5) (.cst (.bool true)) (.tmp 7)), none, [7, 5]⟩,
    ⟨6, (some 9), .o (.move (.tmp 8)), none, [8]⟩,
    ⟨7, (some 10), .o (.move (.tmp 0)), (some (9, false)), [0]⟩,
    ⟨8, (some 11), .o (.icmp .eql (.tmp 10) (.cst (.int .u8 95))), (some (9, false)), [10]⟩,
    ⟨9, (some 12), .o (.pick (.tmp 9) (.cst (.bool true)) (.tmp 11)), none, [11, 9]⟩,
    ⟨10, (some 2), .o (.asg (.tmp 12)), none, [12]⟩]
  | _ => []
def c65c : AC := (.seq (.regT c65t 0) (.seq (.regT c65t 1) .ret))
def c65a : Ann := fun id => match id with
  | 0 => [[(0, [])]]
  | 1 => [[(0, [2]), (1, [3]), (2, [4]), (3, []), (4, [6]), (5, [7, 5]), (6, [8]), (7, [0]), (8, [10]), (9, [11, 9]), (10, [12])]]
  | _ => []
theorem c65ok : comp Tryz.prog 13 c65a chkD (Tryz.f65.body.getD .skip) = some (inst c65c) := by kernel_rfl
theorem c65call : callable Tryz.prog 65 = true := by kernel_rfl
theorem c65res : cRess Tryz.prog Tryz.f65.results.toList = some [.tmp 2] := by kernel_rfl
def c66t : Nat → List AI
  | 0 => [⟨0, (some 2), .o (.asg (.cst (.bool false))), none, []⟩]
  | 1 => [⟨0, (some 3), .o (.move (.tmp 0)), none, [2]⟩,
    ⟨1, (some 4), .o (.icmp .geq (.tmp 3) (.cst (.int .u8 48))), none, [3]⟩,
    ⟨2, (some 5), .o (.move (.tmp 4)), none, [4]⟩,
    ⟨3, (some 6), .o (.move (.tmp 0)), (some (5, true)), [0]⟩,
    ⟨4, (some 7), .o (.icmp .leq (.tmp 6) (.cst (.int .u8 57))), (some (5, true)), [6]⟩,
    ⟨5, (some 8), .o (.pick (.tmp 5) (.tmp 7) (.cst (.bool false))), none, [7, 5]⟩,
    ⟨6, (some 2), .o (.asg (.tmp 8)), none, [8]⟩]
  | _ => []
def c66c : AC := (.seq (.regT c66t 0) (.seq (.regT c66t 1) .ret))
def c66a : Ann := fun id => match id with
  | 0 => [[(0, [])]]
  | 1 => [[(0, [2]), (1, [3]), (2, [4]), (3, [0]), (4, [6]), (5, [7, 5]), (6, [8])]]
  | _ => []
theorem c66ok : comp Tryz.prog 9 c66a chkD (Tryz.f66.body.getD .skip) = some (inst c66c) := by kernel_rfl
theorem c66call : callable Tryz.prog 66 = true := by kernel_rfl
theorem c66res : cRess Tryz.prog Tryz.f66.results.toList = some [.tmp 2] := by kernel_rfl
def c67t : Nat → List AI
  | 0 => [⟨0, (some 2), .o (.asg (.cst (.bool false))), none, []⟩]
  | 1 => [⟨0, (some 3), .o (.move (.tmp 0)), none, [2]⟩,
    ⟨1, (some 4), .o (.icmp .geq (.tmp 3) (.cst (.int .u8 97))), none, [3]⟩,
    ⟨2, (some 5), .o (.move (.tmp 4)), none, [4]⟩,
    ⟨3, (some 6), .o (.move (.tmp 0)), (some (5, true)), []⟩,
    ⟨4, (some 7), .o (.icmp .leq (.tmp 6) (.cst (.int .u8 122))), (some (5, true)), [6]⟩,
    ⟨5, (some 8), .o (.pick (.tmp 5) (.tmp 7) (.cst (.bool false))), none, [7, 5]⟩,
    ⟨6, (some 9), .o (.move (.tmp 8)), none, [8]⟩,
    ⟨7, (some 10), .o (.move (.tmp 0)), (some (9, false)), []⟩,
    ⟨8, (some 11), .o (.icmp .geq (.tmp 10) (.cst (.int .u8 65))), (some (9, false)), [10]⟩,
    ⟨9, (some 12), .o (.move (.tmp 11)), (some (9, false)), [11]⟩,
    ⟨10, (some 13), .o (.move (.tmp 0)), (some (12, true)), [0]⟩,
    ⟨11, (some 14), .o (.icmp .leq (.tmp 13) (.cst (.int .u8 90))), (some (12, true)), [13]⟩,
    ⟨12, (some 15), .o (.pick (.tmp 12) (.tmp 14) (.cst (.bool false))), (some (9, false)), [14, 12]⟩,
    ⟨13, (some 16), .o (.pick (.tmp 9) (.cst (.bool true)) (.tmp 15)), none, [15, 9]⟩,
    ⟨14, (some 2), .o (.asg (.tmp 16)), none, [16]⟩]
  | _ => []
def c67c : AC := (.seq (.regT c67t 0) (.seq (.regT c67t 1) .ret))
def c67a : Ann := fun id => match id with
  | 0 => [[(0, [])]]
  | 1 => [[(0, [2]), (1, [3]), (2, [4]), (3, []), (4, [6]), (5, [7, 5]), (6, [8]), (7, []), (8, [10]), (9, [11]), (10, [0]), (11, [13]), (12, [14, 12]), (13, [15, 9]), (14, [16])]]
  | _ => []
theorem c67ok : comp Tryz.prog 17 c67a chkD (Tryz.f67.body.getD .skip) = some (inst c67c) := by kernel_rfl
theorem c67call : callable Tryz.prog 67 = true := by kernel_rfl
theorem c67res : cRess Tryz.prog Tryz.f67.results.toList = some [.tmp 2] := by kernel_rfl
def c68t : Nat → List AI
  | 0 => [⟨0, (some 2), .o (.asg (.cst (.bool false))), none, []⟩]
  | 1 => [⟨0, (some 3), .o (.move (.tmp 0)), none, [2]⟩,
    ⟨1, (some 4), .o (.icmp .geq (.tmp 3) (.cst (.int .u8 48))), none, [3]⟩,
    ⟨2, (some 5), .o (.move (.tmp 4)), none, [4]⟩,
    ⟨3, (some 6), .o (.move (.tmp 0)), (some (5, true)), [0]⟩,
    ⟨4, (some 7), .o (.icmp .leq (.tmp 6) (.cst (.int .u8 57))), (some (5, true)), [6]⟩,
    ⟨5, (some 8), .o (.pick (.tmp 5) (.tmp 7) (.cst (.bool false))), none, [7, 5]⟩,
    ⟨6, (some 2), .o (.asg (.tmp 8)), none, [8]⟩]
  | _ => []
def c68c : AC := (.seq (.regT c68t 0) (.seq (.regT c68t 1) .ret))
def c68a : Ann := fun id => match id with
  | 0 => [[(0, [])]]
  | 1 => [[(0, [2]), (1, [3]), (2, [4]), (3, [0]), (4, [6]), (5, [7, 5]), (6, [8])]]
  | _ => []
theorem c68ok : comp Tryz.prog 9 c68a chkD (Tryz.f68.body.getD .skip) = some (inst c68c) := by kernel_rfl
theorem c68call : callable Tryz.prog 68 = true := by kernel_rfl
theorem c68res : cRess Tryz.prog Tryz.f68.results.toList = some [.tmp 2] := by kernel_rfl
def c69t : Nat → List AI
  | 0 => [⟨0, (some 4), .o (.asg (.cst (.int .i64 0))), none, []⟩]
  | 1 => [⟨0, (some 5), .o (.move (.tmp 0)), none, [4, 0]⟩,
    ⟨1, (some 6), .o (.move (.tmp 1)), none, [1]⟩,
    ⟨2, (some 7), .call (.cst (.fn (.func 94) [] [])) [(.tmp 5), (.tmp 6)], none, [6, 5]⟩,
    ⟨3, (some 4), .o (.asg (.tmp 7)), none, [7]⟩]
  | _ => []
def c69c : AC := (.seq (.regT c69t 0) (.seq (.regT c69t 1) .ret))
def c69a : Ann := fun id => match id with
  | 0 => [[(0, [])]]
  | 1 => [[(0, [4, 0]), (1, [1]), (2, [6, 5]), (3, [7])]]
  | _ => []
theorem c69ok : comp Tryz.prog 8 c69a chkD (Tryz.f69.body.getD .skip) = some (inst c69c) := by kernel_rfl
theorem c69call : callable Tryz.prog 69 = true := by kernel_rfl
theorem c69res : cRess Tryz.prog Tryz.f69.results.toList = some [.tmp 4] := by kernel_rfl
def c70t : Nat → List AI
  | 0 => [⟨0, (some 2), .o (.asg (.cst (.bool false))), none, []⟩]
  | 1 => [⟨0, (some 3), .o (.move (.tmp 0)), none, [2]⟩,
    ⟨1, (some 4), .call (.cst (.fn (.func 73) [] [])) [(.tmp 3), (.cst (.int .i64 0))], none, [3]⟩,
    ⟨2, (some 5), .o (.icmp .eql (.tmp 4) (.cst (.int .u8 58))), none, [4]⟩,
    ⟨3, (some 6), .o (.move (.tmp 5)), none, [5]⟩,
    ⟨4, (some 7), .o (.move (.tmp 0)), (some (6, true)), [0]⟩,
    ⟨5, (some 8), .call (.cst (.fn (.func 73) [] [])) [(.tmp 7), (.cst (.int .i64 1))], (some (6, true)), [7]⟩,
    ⟨6, (some 9), .o (.icmp .neq (.tmp 8) (.cst (.int .u8 61))), (some (6, true)), [8]⟩,
    ⟨7, (some 10), .o (.pick (.tmp 6) (.tmp 9) (.cst (.bool false))), none, [9, 6]⟩,
    ⟨8, (some 2), .o (.asg (.tmp 10)), none, [10]⟩]
  | _ => []
def c70c : AC := (.seq (.regT c70t 0) (.seq (.regT c70t 1) .ret))
def c70a : Ann := fun id => match id with
  | 0 => [[(0, [])]]
  | 1 => [[(0, [2]), (1, [3]), (2, [4]), (3, [5]), (4, [0]), (5, [7]), (6, [8]), (7, [9, 6]), (8, [10])]]
  | _ => []
theorem c70ok : comp Tryz.prog 11 c70a chkD (Tryz.f70.body.getD .skip) = some (inst c70c) := by kernel_rfl
theorem c70call : callable Tryz.prog 70 = true := by kernel_rfl
theorem c70res : cRess Tryz.prog Tryz.f70.results.toList = some [.tmp 2] := by kernel_rfl
def c71t : Nat → List AI
  | 0 => [⟨0, (some 2), .o (.alloc [(.bool false), (.sl true 0 [])] 111), none, []⟩,
    ⟨1, (some 3), .o (.asg (.cst (.int .i64 0))), none, []⟩]
  | 1 => [⟨0, (some 11), .o (.move (.tmp 0)), none, [3]⟩,
    ⟨1, (some 12), .call (.cst (.fn (.func 95) [] [])) [(.tmp 11), (.cst (.str ⟨#[45]⟩))], none, [11]⟩,
    ⟨2, (some 10), .o (.move (.tmp 12)), none, [12]⟩,
    ⟨3, (some 13), .o (.extract (.tmp 10) 0), none, []⟩,
    ⟨4, (some 14), .o (.extract (.tmp 10) 1), none, [10]⟩,
    ⟨5, (some 4), .o (.asg (.tmp 13)), none, [13]⟩,
    ⟨6, (some 5), .o (.asg (.tmp 14)), none, [14]⟩]
  | 2 => [⟨0, (some 6), .o (.asg (.cst (.fn (.func 96) [] []))), none, []⟩]
  | 3 => [⟨0, (some 15), .o (.move (.tmp 4)), none, []⟩,
    ⟨1, (some 16), .o (.sbin .eql (.tmp 15) (.cst (.str ⟨#[]⟩))), none, [15]⟩,
    ⟨2, (some 17), .o (.move (.tmp 16)), none, [16]⟩,
    ⟨3, (some 18), .o (.move (.tmp 4)), (some (17, false)), []⟩,
    ⟨4, (some 19), .o (.move (.tmp 6)), (some (17, false)), [6]⟩,
    ⟨5, (some 20), .call (.cst (.fn (.func 97) [] [])) [(.tmp 18), (.tmp 19)], (some (17, false)), [19, 18]⟩,
    ⟨6, (some 21), .o (.icmp .geq (.tmp 20) (.cst (.int .i64 0))), (some (17, false)), [20]⟩,
    ⟨7, (some 22), .o (.pick (.tmp 17) (.cst (.bool true)) (.tmp 21)), none, [21, 17]⟩,
    ⟨8, (some 23), .o (.move (.tmp 22)), none, [22]⟩,
    ⟨9, (some 24), .o (.move (.tmp 4)), (some (23, false)), []⟩,
    ⟨10, (some 25), .o (.index (.tmp 24) (.cst (.int .i64 0))), (some (23, false)), [24]⟩,
    ⟨11, (some 26), .o (.icmp .eql (.tmp 25) (.cst (.int .u8 48))), (some (23, false)), [25]⟩,
    ⟨12, (some 27), .o (.move (.tmp 26)), (some (23, false)), [26]⟩,
    ⟨13, (some 28), .o (.move (.tmp 0)), (some (27, true)), []⟩,
    ⟨14, (some 29), .o (.len true (.tmp 28)), (some (27, true)), [28]⟩,
    ⟨15, (some 30), .o (.icmp .gtr (.tmp 29) (.cst (.int .i64 1))), (some (27, true)), [29]⟩,
    ⟨16, (some 31), .o (.pick (.tmp 27) (.tmp 30) (.cst (.bool false))), (some (23, false)), [30, 27]⟩,
    ⟨17, (some 32), .o (.pick (.tmp 23) (.cst (.bool true)) (.tmp 31)), none, [31, 23]⟩]
  | 4 => [⟨0, (some 33), .o (.build [(.bool false), (.sl true 0 [])] []), none, [32, 5, 4, 0]⟩,
    ⟨1, none, .o (.store 2 (.tmp 2) (.tmp 33)), none, [33]⟩,
    ⟨2, (some 3), .o (.asg (.cst (.int .i64 11))), none, []⟩]
  | 5 => [⟨0, (some 34), .o (.move (.tmp 0)), none, [0, 32, 3]⟩,
    ⟨1, (some 35), .o (.len true (.tmp 34)), none, [34]⟩,
    ⟨2, (some 36), .o (.icmp .gtr (.tmp 35) (.cst (.int .i64 400))), none, [35]⟩]
  | 6 => [⟨0, (some 37), .o (.build [(.bool false), (.sl true 0 [])] []), none, [36, 4, 5]⟩,
    ⟨1, none, .o (.store 2 (.tmp 2) (.tmp 37)), none, [37]⟩,
    ⟨2, (some 3), .o (.asg (.cst (.int .i64 24))), none, []⟩]
  | 7 => [⟨0, (some 7), .o (.asg (.cst (.sl true 0 []))), none, [36, 3]⟩]
  | 8 => [⟨0, (some 38), .o (.move (.tmp 4)), none, [4]⟩,
    ⟨1, (some 39), .o (.s2b (.tmp 38)), none, [38]⟩,
    ⟨2, (some 40), .o (.len false (.tmp 39)), none, []⟩,
    ⟨3, (some 41), .o (.move (.cst (.int .i64 0))), none, []⟩]
  | 9 => [⟨0, (some 42), .o (.icmp .lss (.tmp 41) (.tmp 40)), none, []⟩]
  | 10 => [⟨0, (some 43), .o (.iaddr 1 (.tmp 39) (.tmp 41)), none, [42]⟩,
    ⟨1, (some 44), .o (.load false 1 (.tmp 43)), none, [43]⟩,
    ⟨2, (some 9), .o (.asg (.tmp 44)), none, [44]⟩]
  | 11 => [⟨0, (some 45), .o (.move (.tmp 7)), none, [7]⟩,
    ⟨1, (some 46), .o (.bslice 136 false 1 1 [(.int .u32 0)] [(0, 1, (.cst (.int .u32 10)))]), none, []⟩,
    ⟨2, (some 47), .call (.cst (.fn (.func 99) [] [])) [(.tmp 45), (.tmp 46)], none, [46, 45]⟩,
    ⟨3, (some 48), .o (.move (.tmp 9)), none, [9]⟩,
    ⟨4, (some 49), .o (.ibin .sub (.tmp 48) (.cst (.int .u8 48))), none, [48]⟩,
    ⟨5, (some 50), .o (.conv .u32 (.tmp 49)), none, [49]⟩,
    ⟨6, (some 51), .o (.bslice 136 false 1 1 [(.int .u32 0)] [(0, 1, (.tmp 50))]), none, [50]⟩,
    ⟨7, (some 52), .call (.cst (.fn (.func 100) [] [])) [(.tmp 51)], none, [51]⟩,
    ⟨8, (some 53), .call (.cst (.fn (.func 98) [] [])) [(.tmp 47), (.tmp 52)], none, [52, 47]⟩,
    ⟨9, (some 7), .o (.asg (.tmp 53)), none, [53]⟩]
  | 12 => [⟨0, (some 54), .o (.ibin .add (.tmp 41) (.cst (.int .i64 1))), none, [41]⟩,
    ⟨1, (some 41), .o (.move (.tmp 54)), none, [54]⟩]
  | 14 => [⟨0, (some 55), .o (.move (.tmp 5)), none, [41, 40, 39, 5]⟩,
    ⟨1, (some 56), .o (.move (.tmp 7)), none, [7]⟩,
    ⟨2, (some 57), .call (.cst (.fn (.func 101) [] [])) [(.tmp 55), (.tmp 56)], none, [56, 55]⟩,
    ⟨3, (some 58), .o (.extract (.tmp 57) 0), none, []⟩,
    ⟨4, (some 59), .o (.extract (.tmp 57) 1), none, [57]⟩,
    ⟨5, none, .o (.store 2 (.tmp 2) (.tmp 58)), none, [58]⟩,
    ⟨6, (some 3), .o (.asg (.tmp 59)), none, [59]⟩]
  | _ => []
def c71l13 : AC := (.seq (.regT c71t 9) (.seq (.cond (.tmp 42) .skip (.exit 0)) (.seq (.block 1 (.seq (.regT c71t 10) (.regT c71t 11))) (.regT c71t 12))))
def c71c : AC := (.seq (.regT c71t 0) (.seq (.regT c71t 1) (.seq (.regT c71t 2) (.seq (.seq (.regT c71t 3) (.cond (.tmp 32) (.seq (.regT c71t 4) .ret) .skip)) (.seq (.seq (.regT c71t 5) (.cond (.tmp 36) (.seq (.regT c71t 6) .ret) .skip)) (.seq (.regT c71t 7) (.seq (.seq (.regT c71t 8) (.block 0 (.loop c71l13))) (.seq (.regT c71t 14) .ret))))))))
def c71a : Ann := fun id => match id with
  | 0 => [[(0, []), (1, [])]]
  | 1 => [[(0, [3]), (1, [11]), (2, [12]), (3, []), (4, [10]), (5, [13]), (6, [14])]]
  | 2 => [[(0, [])]]
  | 3 => [[(0, []), (1, [15]), (2, [16]), (3, []), (4, [6]), (5, [19, 18]), (6, [20]), (7, [21, 17]), (8, [22]), (9, []), (10, [24]), (11, [25]), (12, [26]), (13, []), (14, [28]), (15, [29]), (16, [30, 27]), (17, [31, 23])]]
  | 4 => [[(0, [32, 5, 4, 0]), (1, [33]), (2, [])]]
  | 5 => [[(0, [0, 32, 3]), (1, [34]), (2, [35])]]
  | 6 => [[(0, [36, 4, 5]), (1, [37]), (2, [])]]
  | 7 => [[(0, [36, 3])]]
  | 8 => [[(0, [4]), (1, [38]), (2, []), (3, [])]]
  | 9 => [[(0, [])]]
  | 10 => [[(0, [42]), (1, [43]), (2, [44])]]
  | 11 => [[(0, [7]), (1, []), (2, [46, 45]), (3, [9]), (4, [48]), (5, [49]), (6, [50]), (7, [51]), (8, [52, 47]), (9, [53])]]
  | 12 => [[(0, [41]), (1, [54])]]
  | 13 => [[(0, [41, 40, 39, 5]), (1, [7]), (2, [56, 55]), (3, []), (4, [57]), (5, [58]), (6, [59])]]
  | _ => []
theorem c71ok : comp Tryz.prog 60 c71a chkD (Tryz.f71.body.getD .skip) = some (inst c71c) := by kernel_rfl
theorem c71call : callable Tryz.prog 71 = true := by kernel_rfl
theorem c71res : cRess Tryz.prog Tryz.f71.results.toList = some [.cell 2 true 2, .tmp 3] := by kernel_rfl
def c72t : Nat → List AI
  | 0 => [⟨0, (some 2), .o (.asg (.cst (.str ⟨#[]⟩))), none, []⟩,
    ⟨1, (some 3), .o (.asg (.cst (.bool false))), none, [2]⟩]
  | 1 => [⟨0, (some 4), .o (.alloc [.nilP, (.sl true 0 [])] 69), none, [2, 3]⟩]
  | 2 => [⟨0, (some 5), .o (.move (.tmp 0)), none, []⟩,
    ⟨1, (some 6), .call (.cst (.fn (.func 73) [] [])) [(.tmp 5), (.cst (.int .i64 0))], none, [5]⟩,
    ⟨2, (some 7), .o (.icmp .neq (.tmp 6) (.cst (.int .u8 39))), none, [6]⟩]
  | 3 => [⟨0, (some 8), .o (.move (.tmp 0)), none, [7]⟩,
    ⟨1, (some 9), .o (.nilc (.tmp 8)), none, []⟩,
    ⟨2, (some 10), .o (.faddr 1 (.tmp 9)), none, [9]⟩,
    ⟨3, (some 11), .o (.load false 1 (.tmp 10)), none, [10]⟩,
    ⟨4, (some 12), .o (.ibin .add (.tmp 11) (.cst (.int .i64 1))), none, [11]⟩,
    ⟨5, (some 13), .o (.nilc (.tmp 8)), none, [8]⟩,
    ⟨6, (some 14), .o (.faddr 1 (.tmp 13)), none, [13]⟩,
    ⟨7, none, .o (.store 1 (.tmp 14) (.tmp 12)), none, [14, 12]⟩]
  | 4 => [⟨0, (some 15), .o (.move (.tmp 0)), none, []⟩,
    ⟨1, (some 16), .o (.nilc (.tmp 15)), none, []⟩,
    ⟨2, (some 17), .o (.faddr 1 (.tmp 16)), none, []⟩,
    ⟨3, (some 18), .o (.load false 1 (.tmp 17)), none, []⟩,
    ⟨4, (some 19), .o (.move (.tmp 0)), none, []⟩,
    ⟨5, (some 20), .o (.nilc (.tmp 19)), none, []⟩,
    ⟨6, (some 21), .o (.faddr 0 (.tmp 20)), none, []⟩,
    ⟨7, (some 22), .o (.load false 1 (.tmp 21)), none, []⟩,
    ⟨8, (some 23), .o (.len true (.tmp 22)), none, []⟩,
    ⟨9, (some 24), .o (.icmp .lss (.tmp 18) (.tmp 23)), none, []⟩]
  | 5 => [⟨0, (some 32), .o (.move (.tmp 0)), none, []⟩,
    ⟨1, (some 33), .o (.nilc (.tmp 32)), none, []⟩,
    ⟨2, (some 34), .o (.faddr 0 (.tmp 33)), none, []⟩,
    ⟨3, (some 35), .o (.load false 1 (.tmp 34)), none, []⟩,
    ⟨4, (some 36), .o (.move (.tmp 0)), none, []⟩,
    ⟨5, (some 37), .o (.nilc (.tmp 36)), none, []⟩,
    ⟨6, (some 38), .o (.faddr 1 (.tmp 37)), none, []⟩,
    ⟨7, (some 39), .o (.load false 1 (.tmp 38)), none, []⟩,
    ⟨8, (some 40), .o (.index (.tmp 35) (.tmp 39)), none, []⟩,
    ⟨9, (some 41), .o (.icmp .eql (.tmp 40) (.cst (.int .u8 39))), none, []⟩]
  | 6 => [⟨0, (some 42), .o (.move (.tmp 0)), none, [41]⟩,
    ⟨1, (some 43), .call (.cst (.fn (.func 73) [] [])) [(.tmp 42), (.cst (.int .i64 1))], none, [42]⟩,
    ⟨2, (some 44), .o (.icmp .neq (.tmp 43) (.cst (.int .u8 39))), none, [43]⟩]
  | 7 => [⟨0, (some 45), .o (.move (.tmp 0)), none, [44, 0]⟩,
    ⟨1, (some 46), .o (.nilc (.tmp 45)), none, []⟩,
    ⟨2, (some 47), .o (.faddr 1 (.tmp 46)), none, [46]⟩,
    ⟨3, (some 48), .o (.load false 1 (.tmp 47)), none, [47]⟩,
    ⟨4, (some 49), .o (.ibin .add (.tmp 48) (.cst (.int .i64 1))), none, [48]⟩,
    ⟨5, (some 50), .o (.nilc (.tmp 45)), none, [45]⟩,
    ⟨6, (some 51), .o (.faddr 1 (.tmp 50)), none, [50]⟩,
    ⟨7, none, .o (.store 1 (.tmp 51) (.tmp 49)), none, [51, 49]⟩]
  | 8 => [⟨0, (some 52), .call (.cst (.fn (.func 34) [] [])) [(.tmp 4)], none, []⟩,
    ⟨1, (some 53), .call (.cst (.fn (.func 102) [] [])) [(.tmp 4)], none, [4]⟩,
    ⟨2, (some 54), .o (.icmp .leq (.tmp 53) (.cst (.int .i64 1024))), none, [53]⟩,
    ⟨3, (some 2), .o (.asg (.tmp 52)), none, [52]⟩,
    ⟨4, (some 3), .o (.asg (.tmp 54)), none, [54]⟩]
  | 9 => [⟨0, (some 55), .o (.move (.tmp 0)), none, [44, 3, 2]⟩,
    ⟨1, (some 56), .o (.nilc (.tmp 55)), none, []⟩,
    ⟨2, (some 57), .o (.faddr 1 (.tmp 56)), none, [56]⟩,
    ⟨3, (some 58), .o (.load false 1 (.tmp 57)), none, [57]⟩,
    ⟨4, (some 59), .o (.ibin .add (.tmp 58) (.cst (.int .i64 1))), none, [58]⟩,
    ⟨5, (some 60), .o (.nilc (.tmp 55)), none, [55]⟩,
    ⟨6, (some 61), .o (.faddr 1 (.tmp 60)), none, [60]⟩,
    ⟨7, none, .o (.store 1 (.tmp 61) (.tmp 59)), none, [61, 59]⟩]
  | 10 => [⟨0, (some 62), .o (.move (.tmp 0)), none, []⟩,
    ⟨1, (some 63), .o (.nilc (.tmp 62)), none, []⟩,
    ⟨2, (some 64), .o (.faddr 0 (.tmp 63)), none, []⟩,
    ⟨3, (some 65), .o (.load false 1 (.tmp 64)), none, []⟩,
    ⟨4, (some 66), .o (.move (.tmp 0)), none, []⟩,
    ⟨5, (some 67), .o (.nilc (.tmp 66)), none, []⟩,
    ⟨6, (some 68), .o (.faddr 1 (.tmp 67)), none, []⟩,
    ⟨7, (some 69), .o (.load false 1 (.tmp 68)), none, []⟩,
    ⟨8, (some 70), .o (.index (.tmp 65) (.tmp 69)), none, []⟩,
    ⟨9, (some 71), .call (.cst (.fn (.func 58) [] [])) [(.tmp 4), (.tmp 70)], none, []⟩]
  | 11 => [⟨0, (some 25), .o (.move (.tmp 0)), none, [71]⟩,
    ⟨1, (some 26), .o (.nilc (.tmp 25)), none, []⟩,
    ⟨2, (some 27), .o (.faddr 1 (.tmp 26)), none, [26]⟩,
    ⟨3, (some 28), .o (.load false 1 (.tmp 27)), none, [27]⟩,
    ⟨4, (some 29), .o (.ibin .add (.tmp 28) (.cst (.int .i64 1))), none, [28]⟩,
    ⟨5, (some 30), .o (.nilc (.tmp 25)), none, [25]⟩,
    ⟨6, (some 31), .o (.faddr 1 (.tmp 30)), none, [30]⟩,
    ⟨7, none, .o (.store 1 (.tmp 31) (.tmp 29)), none, [31, 29]⟩]
  | 13 => [⟨0, (some 2), .o (.asg (.cst (.str ⟨#[]⟩))), none, [0, 4]⟩,
    ⟨1, (some 3), .o (.asg (.cst (.bool false))), none, []⟩]
  | _ => []
def c72l12 : AC := (.seq (.seq (.regD [c72t 4]) (.cond (.tmp 24) .skip (.exit 0))) (.seq (.block 1 (.seq (.seq (.regD [c72t 5]) (.cond (.tmp 41) (.seq (.seq (.regT c72t 6) (.cond (.tmp 44) (.seq (.regT c72t 7) (.seq (.regT c72t 8) .ret)) .skip)) (.regT c72t 9)) .skip)) (.regD [c72t 10]))) (.regT c72t 11)))
def c72c : AC := (.seq (.regT c72t 0) (.scope (.seq (.regT c72t 1) (.seq (.seq (.regT c72t 2) (.cond (.tmp 7) (.goto 0) .skip)) (.seq (.seq (.regT c72t 3) (.block 0 (.loop c72l12))) (.seq (.label 0) (.seq (.regT c72t 13) .ret)))))))
def c72a : Ann := fun id => match id with
  | 0 => [[(0, []), (1, [2])]]
  | 1 => [[(0, [2, 3])]]
  | 2 => [[(0, []), (1, [5]), (2, [6])]]
  | 3 => [[(0, [7]), (1, []), (2, [9]), (3, [10]), (4, [11]), (5, [8]), (6, [13]), (7, [14, 12])]]
  | 4 => [[(0, []), (1, []), (2, []), (3, []), (4, []), (5, []), (6, []), (7, []), (8, []), (9, [])]]
  | 6 => [[(0, []), (1, []), (2, []), (3, []), (4, []), (5, []), (6, []), (7, []), (8, []), (9, [])]]
  | 7 => [[(0, [41]), (1, [42]), (2, [43])]]
  | 8 => [[(0, [44, 0]), (1, []), (2, [46]), (3, [47]), (4, [48]), (5, [45]), (6, [50]), (7, [51, 49])]]
  | 9 => [[(0, []), (1, [4]), (2, [53]), (3, [52]), (4, [54])]]
  | 10 => [[(0, [44, 3, 2]), (1, []), (2, [56]), (3, [57]), (4, [58]), (5, [55]), (6, [60]), (7, [61, 59])]]
  | 11 => [[(0, []), (1, []), (2, []), (3, []), (4, []), (5, []), (6, []), (7, []), (8, []), (9, [])]]
  | 5 => [[(0, [71]), (1, []), (2, [26]), (3, [27]), (4, [28]), (5, [25]), (6, [30]), (7, [31, 29])]]
  | 12 => [[(0, [0, 4]), (1, [])]]
  | _ => []
theorem c72ok : comp Tryz.prog 72 c72a chkD (Tryz.f72.body.getD .skip) = some (inst c72c) := by kernel_rfl
theorem c72call : callable Tryz.prog 72 = true := by kernel_rfl
theorem c72res : cRess Tryz.prog Tryz.f72.results.toList = some [.tmp 2, .tmp 3] := by kernel_rfl
def c73t : Nat → List AI
  | 0 => [⟨0, (some 4), .o (.asg (.cst (.int .u8 0))), none, []⟩]
  | 1 => [⟨0, (some 5), .o (.move (.tmp 0)), none, []⟩,
    ⟨1, (some 6), .o (.nilc (.tmp 5)), none, []⟩,
    ⟨2, (some 7), .o (.faddr 1 (.tmp 6)), none, []⟩,
    ⟨3, (some 8), .o (.load false 1 (.tmp 7)), none, []⟩,
    ⟨4, (some 9), .o (.move (.tmp 1)), none, []⟩,
    ⟨5, (some 10), .o (.ibin .add (.tmp 8) (.tmp 9)), none, []⟩,
    ⟨6, (some 11), .o (.move (.tmp 0)), none, []⟩,
    ⟨7, (some 12), .o (.nilc (.tmp 11)), none, []⟩,
    ⟨8, (some 13), .o (.faddr 0 (.tmp 12)), none, []⟩,
    ⟨9, (some 14), .o (.load false 1 (.tmp 13)), none, []⟩,
    ⟨10, (some 15), .o (.len true (.tmp 14)), none, []⟩,
    ⟨11, (some 16), .o (.icmp .lss (.tmp 10) (.tmp 15)), none, []⟩]
  | 2 => [⟨0, (some 17), .o (.move (.tmp 0)), none, []⟩,
    ⟨1, (some 18), .o (.nilc (.tmp 17)), none, []⟩,
    ⟨2, (some 19), .o (.faddr 0 (.tmp 18)), none, []⟩,
    ⟨3, (some 20), .o (.load false 1 (.tmp 19)), none, []⟩,
    ⟨4, (some 21), .o (.move (.tmp 0)), none, []⟩,
    ⟨5, (some 22), .o (.nilc (.tmp 21)), none, []⟩,
    ⟨6, (some 23), .o (.faddr 1 (.tmp 22)), none, []⟩,
    ⟨7, (some 24), .o (.load false 1 (.tmp 23)), none, []⟩,
    ⟨8, (some 25), .o (.move (.tmp 1)), none, []⟩,
    ⟨9, (some 26), .o (.ibin .add (.tmp 24) (.tmp 25)), none, []⟩,
    ⟨10, (some 27), .o (.index (.tmp 20) (.tmp 26)), none, []⟩,
    ⟨11, (some 4), .o (.asg (.tmp 27)), none, []⟩]
  | 3 => [⟨0, (some 4), .o (.asg (.cst (.int .u8 0))), none, [1, 0, 16]⟩]
  | _ => []
def c73c : AC := (.seq (.regT c73t 0) (.seq (.seq (.regD [c73t 1]) (.cond (.tmp 16) (.seq (.regD [c73t 2]) .ret) .skip)) (.seq (.regT c73t 3) .ret)))
def c73a : Ann := fun id => match id with
  | 0 => [[(0, [])]]
  | 1 => [[(0, []), (1, []), (2, []), (3, []), (4, []), (5, []), (6, []), (7, []), (8, []), (9, []), (10, []), (11, [])]]
  | 2 => [[(0, []), (1, []), (2, []), (3, []), (4, []), (5, []), (6, []), (7, []), (8, []), (9, []), (10, []), (11, [])]]
  | 3 => [[(0, [1, 0, 16])]]
  | _ => []
theorem c73ok : comp Tryz.prog 28 c73a chkD (Tryz.f73.body.getD .skip) = some (inst c73c) := by kernel_rfl
theorem c73call : callable Tryz.prog 73 = true := by kernel_rfl
theorem c73res : cRess Tryz.prog Tryz.f73.results.toList = some [.tmp 4] := by kernel_rfl
def c74t : Nat → List AI
  | 0 => [⟨0, (some 2), .o (.asg (.cst (.str ⟨#[]⟩))), none, []⟩,
    ⟨1, (some 3), .o (.asg (.cst (.bool false))), none, [2]⟩]
  | 1 => [⟨0, (some 5), .o (.move (.tmp 0)), none, [3]⟩,
    ⟨1, (some 6), .o (.nilc (.tmp 5)), none, [5]⟩,
    ⟨2, (some 7), .o (.faddr 1 (.tmp 6)), none, [6]⟩,
    ⟨3, (some 8), .o (.load false 1 (.tmp 7)), none, [7]⟩,
    ⟨4, (some 4), .o (.asg (.tmp 8)), none, [8]⟩]
  | 2 => [⟨0, (some 9), .o (.move (.tmp 0)), none, []⟩,
    ⟨1, (some 10), .call (.cst (.fn (.func 35) [] [])) [(.tmp 9)], none, [9]⟩]
  | 3 => [⟨0, (some 11), .o (.move (.tmp 0)), none, [21, 10]⟩,
    ⟨1, (some 12), .call (.cst (.fn (.func 70) [] [])) [(.tmp 11)], none, [11]⟩]
  | 4 => [⟨0, (some 13), .o (.move (.tmp 0)), none, [12]⟩,
    ⟨1, (some 14), .o (.nilc (.tmp 13)), none, []⟩,
    ⟨2, (some 15), .o (.faddr 1 (.tmp 14)), none, [14]⟩,
    ⟨3, (some 16), .o (.load false 1 (.tmp 15)), none, [15]⟩,
    ⟨4, (some 17), .o (.ibin .add (.tmp 16) (.cst (.int .i64 1))), none, [16]⟩,
    ⟨5, (some 18), .o (.nilc (.tmp 13)), none, [13]⟩,
    ⟨6, (some 19), .o (.faddr 1 (.tmp 18)), none, [18]⟩,
    ⟨7, none, .o (.store 1 (.tmp 19) (.tmp 17)), none, [19, 17]⟩]
  | 5 => [⟨0, (some 20), .o (.move (.tmp 0)), none, []⟩,
    ⟨1, (some 21), .call (.cst (.fn (.func 35) [] [])) [(.tmp 20)], none, [20]⟩]
  | 7 => [⟨0, (some 22), .o (.move (.tmp 0)), none, [10]⟩,
    ⟨1, (some 23), .call (.cst (.fn (.func 75) [] [])) [(.tmp 22)], none, [22]⟩,
    ⟨2, (some 24), .o (.not (.tmp 23)), none, [23]⟩]
  | 8 => [⟨0, (some 25), .o (.move (.tmp 0)), none, [24, 4, 0]⟩,
    ⟨1, (some 26), .call (.cst (.fn (.func 72) [] [])) [(.tmp 25)], none, [25]⟩,
    ⟨2, (some 27), .o (.extract (.tmp 26) 0), none, []⟩,
    ⟨3, (some 28), .o (.extract (.tmp 26) 1), none, [26]⟩,
    ⟨4, (some 2), .o (.asg (.tmp 27)), none, [27]⟩,
    ⟨5, (some 3), .o (.asg (.tmp 28)), none, [28]⟩]
  | 9 => [⟨0, (some 29), .o (.move (.tmp 0)), none, []⟩,
    ⟨1, (some 30), .o (.nilc (.tmp 29)), none, []⟩,
    ⟨2, (some 31), .o (.faddr 0 (.tmp 30)), none, []⟩,
    ⟨3, (some 32), .o (.load false 1 (.tmp 31)), none, []⟩,
    ⟨4, (some 33), .o (.move (.tmp 4)), none, []⟩,
    ⟨5, (some 34), .o (.move (.tmp 0)), none, []⟩,
    ⟨6, (some 35), .o (.nilc (.tmp 34)), none, []⟩,
    ⟨7, (some 36), .o (.faddr 1 (.tmp 35)), none, []⟩,
    ⟨8, (some 37), .o (.load false 1 (.tmp 36)), none, []⟩,
    ⟨9, (some 38), .o (.sslice (.tmp 32) (some (.tmp 33)) (some (.tmp 37))), none, []⟩,
    ⟨10, (some 39), .o (.move (.tmp 0)), none, []⟩,
    ⟨11, (some 40), .o (.nilc (.tmp 39)), none, []⟩,
    ⟨12, (some 41), .o (.faddr 1 (.tmp 40)), none, []⟩,
    ⟨13, (some 42), .o (.load false 1 (.tmp 41)), none, []⟩,
    ⟨14, (some 43), .o (.move (.tmp 4)), none, []⟩,
    ⟨15, (some 44), .o (.ibin .sub (.tmp 42) (.tmp 43)), none, []⟩,
    ⟨16, (some 45), .o (.icmp .leq (.tmp 44) (.cst (.int .i64 1024))), none, []⟩,
    ⟨17, (some 2), .o (.asg (.tmp 38)), none, [10, 11, 12, 13, 14, 15, 16]⟩,
    ⟨18, (some 3), .o (.asg (.tmp 45)), none, []⟩]
  | _ => []
def c74l6 : AC := (.seq (.seq (.regT c74t 3) (.cond (.tmp 12) .skip (.exit 0))) (.block 1 (.seq (.regT c74t 4) (.regT c74t 5))))
def c74c : AC := (.seq (.regT c74t 0) (.seq (.regT c74t 1) (.seq (.seq (.regT c74t 2) (.cond (.tmp 10) (.block 0 (.loop c74l6)) (.seq (.regT c74t 7) (.cond (.tmp 24) (.seq (.regT c74t 8) .ret) .skip)))) (.seq (.regD [c74t 9]) .ret))))
def c74a : Ann := fun id => match id with
  | 0 => [[(0, []), (1, [2])]]
  | 1 => [[(0, [3]), (1, [5]), (2, [6]), (3, [7]), (4, [8])]]
  | 2 => [[(0, []), (1, [9])]]
  | 3 => [[(0, [21, 10]), (1, [11])]]
  | 4 => [[(0, [12]), (1, []), (2, [14]), (3, [15]), (4, [16]), (5, [13]), (6, [18]), (7, [19, 17])]]
  | 5 => [[(0, []), (1, [20])]]
  | 6 => [[(0, [10]), (1, [22]), (2, [23])]]
  | 7 => [[(0, [24, 4, 0]), (1, [25]), (2, []), (3, [26]), (4, [27]), (5, [28])]]
  | 8 => [[(0, []), (1, []), (2, []), (3, []), (4, []), (5, []), (6, []), (7, []), (8, []), (9, []), (10, []), (11, []), (12, []), (13, []), (14, []), (15, []), (16, []), (17, [10, 11, 12, 13, 14, 15, 16]), (18, [])]]
  | _ => []
theorem c74ok : comp Tryz.prog 46 c74a chkD (Tryz.f74.body.getD .skip) = some (inst c74c) := by kernel_rfl
theorem c74call : callable Tryz.prog 74 = true := by kernel_rfl
theorem c74res : cRess Tryz.prog Tryz.f74.results.toList = some [.tmp 2, .tmp 3] := by kernel_rfl
def c75t : Nat → List AI
  | 0 => [⟨0, (some 2), .o (.asg (.cst (.bool false))), none, []⟩]
  | 1 => [⟨0, (some 4), .o (.move (.tmp 0)), none, [2]⟩,
    ⟨1, (some 5), .o (.nilc (.tmp 4)), none, [4]⟩,
    ⟨2, (some 6), .o (.faddr 1 (.tmp 5)), none, [5]⟩,
    ⟨3, (some 7), .o (.load false 1 (.tmp 6)), none, [6]⟩,
    ⟨4, (some 3), .o (.asg (.tmp 7)), none, [7]⟩]
  | 2 => [⟨0, (some 8), .o (.move (.tmp 0)), none, []⟩,
    ⟨1, (some 9), .o (.nilc (.tmp 8)), none, [8]⟩,
    ⟨2, (some 10), .o (.faddr 1 (.tmp 9)), none, [9]⟩,
    ⟨3, (some 11), .o (.load false 1 (.tmp 10)), none, [10]⟩,
    ⟨4, (some 12), .o (.move (.tmp 3)), none, []⟩,
    ⟨5, (some 13), .o (.ibin .add (.tmp 12) (.cst (.int .i64 2))), none, [12]⟩,
    ⟨6, (some 14), .o (.icmp .lss (.tmp 11) (.tmp 13)), none, [13, 11]⟩,
    ⟨7, (some 15), .o (.move (.tmp 14)), none, [14]⟩,
    ⟨8, (some 16), .o (.move (.tmp 0)), (some (15, true)), []⟩,
    ⟨9, (some 17), .call (.cst (.fn (.func 63) [] [])) [(.tmp 16), (.cst (.fn (.func 103) [] []))], (some (15, true)), []⟩,
    ⟨10, (some 18), .o (.pick (.tmp 15) (.tmp 17) (.cst (.bool false))), none, [15]⟩]
  | 3 => [⟨0, (some 19), .o (.move (.tmp 0)), none, [18]⟩,
    ⟨1, (some 20), .o (.nilc (.tmp 19)), none, []⟩,
    ⟨2, (some 21), .o (.faddr 1 (.tmp 20)), none, [20]⟩,
    ⟨3, (some 22), .o (.load false 1 (.tmp 21)), none, [21]⟩,
    ⟨4, (some 23), .o (.ibin .add (.tmp 22) (.cst (.int .i64 1))), none, [22]⟩,
    ⟨5, (some 24), .o (.nilc (.tmp 19)), none, [19]⟩,
    ⟨6, (some 25), .o (.faddr 1 (.tmp 24)), none, [24]⟩,
    ⟨7, none, .o (.store 1 (.tmp 25) (.tmp 23)), none, [25, 23]⟩]
  | 5 => [⟨0, (some 26), .o (.move (.tmp 0)), none, [16, 17, 0]⟩,
    ⟨1, (some 27), .o (.nilc (.tmp 26)), none, [26]⟩,
    ⟨2, (some 28), .o (.faddr 1 (.tmp 27)), none, [27]⟩,
    ⟨3, (some 29), .o (.load false 1 (.tmp 28)), none, [28]⟩,
    ⟨4, (some 30), .o (.move (.tmp 3)), none, [3]⟩,
    ⟨5, (some 31), .o (.icmp .gtr (.tmp 29) (.tmp 30)), none, [30, 29]⟩,
    ⟨6, (some 2), .o (.asg (.tmp 31)), none, [31]⟩]
  | _ => []
def c75l4 : AC := (.seq (.seq (.regT c75t 2) (.cond (.tmp 18) .skip (.exit 0))) (.block 1 (.regT c75t 3)))
def c75c : AC := (.seq (.regT c75t 0) (.seq (.regT c75t 1) (.seq (.block 0 (.loop c75l4)) (.seq (.regT c75t 5) .ret))))
def c75a : Ann := fun id => match id with
  | 0 => [[(0, [])]]
  | 1 => [[(0, [2]), (1, [4]), (2, [5]), (3, [6]), (4, [7])]]
  | 2 => [[(0, []), (1, [8]), (2, [9]), (3, [10]), (4, []), (5, [12]), (6, [13, 11]), (7, [14]), (8, []), (9, []), (10, [15])]]
  | 3 => [[(0, [18]), (1, []), (2, [20]), (3, [21]), (4, [22]), (5, [19]), (6, [24]), (7, [25, 23])]]
  | 4 => [[(0, [16, 17, 0]), (1, [26]), (2, [27]), (3, [28]), (4, [3]), (5, [30, 29]), (6, [31])]]
  | _ => []
theorem c75ok : comp Tryz.prog 32 c75a chkD (Tryz.f75.body.getD .skip) = some (inst c75c) := by kernel_rfl
theorem c75call : callable Tryz.prog 75 = true := by kernel_rfl
theorem c75res : cRess Tryz.prog Tryz.f75.results.toList = some [.tmp 2] := by kernel_rfl
def c76t : Nat → List AI
  | 0 => [⟨0, (some 1), .o (.box 43 (.tmp 0)), none, [0]⟩,
    ⟨1, (some 2), .o (.alloc [(.int .i64 0), (.str ⟨#[]⟩), (.int .i64 0), (.int .i64 0), (.sl true 0 []), (.sl true 0 [])] 25), none, []⟩]
  | 1 => [⟨0, (some 5), .o (.load false 1 (.tmp 1)), none, []⟩,
    ⟨1, (some 6), .call (.cst (.fn (.func 40) [] [])) [(.tmp 5)], none, [5]⟩,
    ⟨2, (some 7), .o (.icmp .eql (.tmp 6) (.cst (.int .i64 1))), none, [6]⟩,
    ⟨3, (some 8), .o (.move (.tmp 7)), none, [7]⟩,
    ⟨4, (some 9), .o (.load false 1 (.tmp 1)), (some (8, true)), []⟩,
    ⟨5, (some 10), .o (.nilc (.tmp 9)), (some (8, true)), [9]⟩,
    ⟨6, (some 11), .o (.faddr 0 (.tmp 10)), (some (8, true)), [10]⟩,
    ⟨7, (some 12), .o (.load false 1 (.tmp 11)), (some (8, true)), [11]⟩,
    ⟨8, (some 13), .o (.iaddr 3 (.tmp 12) (.cst (.int .i64 1))), (some (8, true)), [12]⟩,
    ⟨9, (some 14), .o (.faddr 0 (.tmp 13)), (some (8, true)), [13]⟩,
    ⟨10, (some 15), .o (.load false 1 (.tmp 14)), (some (8, true)), [14]⟩,
    ⟨11, (some 16), .o (.icmp .eql (.tmp 15) (.cst (.int .i64 7))), (some (8, true)), [15]⟩,
    ⟨12, (some 17), .o (.pick (.tmp 8) (.tmp 16) (.cst (.bool false))), none, [16, 8]⟩]
  | 2 => [⟨0, (some 18), .o (.load false 1 (.tmp 1)), none, [17]⟩,
    ⟨1, (some 19), .call (.cst (.fn (.func 39) [] [])) [(.tmp 18)], none, [18]⟩,
    ⟨2, (some 3), .o (.alloc [(.int .i64 0), (.str ⟨#[]⟩), (.int .i64 0)] 79), none, []⟩,
    ⟨3, none, .o (.store 3 (.tmp 3) (.tmp 19)), none, [19]⟩]
  | 3 => [⟨0, (some 20), .o (.faddr 1 (.tmp 3)), none, []⟩,
    ⟨1, (some 21), .o (.load false 1 (.tmp 20)), none, [20]⟩,
    ⟨2, (some 22), .o (.faddr 2 (.tmp 3)), none, [3]⟩,
    ⟨3, (some 23), .o (.load false 1 (.tmp 22)), none, [22]⟩,
    ⟨4, (some 24), .o (.build [(.int .i64 0), (.str ⟨#[]⟩), (.int .i64 0), (.int .i64 0), (.sl true 0 []), (.sl true 0 [])] [(0, 1, (.cst (.int .i64 6))), (1, 1, (.tmp 21)), (2, 1, (.tmp 23))]), none, [23, 21]⟩,
    ⟨5, (some 4), .o (.alloc [(.int .i64 0), (.str ⟨#[]⟩), (.int .i64 0), (.int .i64 0), (.sl true 0 []), (.sl true 0 [])] 25), none, []⟩,
    ⟨6, none, .o (.store 6 (.tmp 4) (.tmp 24)), none, [24]⟩]
  | 4 => [⟨0, (some 25), .o (.load false 1 (.tmp 1)), none, []⟩,
    ⟨1, (some 26), .o (.mkfn (.func 105) [] [(.tmp 1), (.tmp 4)]), none, [1]⟩,
    ⟨2, (some 27), .call (.cst (.fn (.func 104) [] [])) [(.tmp 25), (.tmp 26)], none, [26, 25]⟩]
  | 5 => [⟨0, (some 28), .o (.load true 6 (.tmp 4)), none, [27, 4]⟩,
    ⟨1, none, .o (.store 6 (.tmp 2) (.tmp 28)), none, [28]⟩]
  | 6 => [⟨0, (some 29), .o (.load false 1 (.tmp 1)), none, [1, 17]⟩,
    ⟨1, (some 30), .call (.cst (.fn (.func 106) [] [])) [(.tmp 29)], none, [29]⟩,
    ⟨2, none, .o (.store 6 (.tmp 2) (.tmp 30)), none, [30]⟩]
  | _ => []
def c76c : AC := (.seq (.regT c76t 0) (.seq (.seq (.regT c76t 1) (.cond (.tmp 17) (.seq (.regT c76t 2) (.seq (.regT c76t 3) (.seq (.regT c76t 4) (.seq (.regT c76t 5) .ret)))) .skip)) (.seq (.regT c76t 6) .ret)))
def c76a : Ann := fun id => match id with
  | 0 => [[(0, [0]), (1, [])]]
  | 1 => [[(0, []), (1, [5]), (2, [6]), (3, [7]), (4, []), (5, [9]), (6, [10]), (7, [11]), (8, [12]), (9, [13]), (10, [14]), (11, [15]), (12, [16, 8])]]
  | 2 => [[(0, [17]), (1, [18]), (2, []), (3, [19])]]
  | 3 => [[(0, []), (1, [20]), (2, [3]), (3, [22]), (4, [23, 21]), (5, []), (6, [24])]]
  | 4 => [[(0, []), (1, [1]), (2, [26, 25])]]
  | 5 => [[(0, [27, 4]), (1, [28])]]
  | 6 => [[(0, [1, 17]), (1, [29]), (2, [30])]]
  | _ => []
theorem c76ok : comp Tryz.prog 31 c76a chkD (Tryz.f76.body.getD .skip) = some (inst c76c) := by kernel_rfl
theorem c76call : callable Tryz.prog 76 = true := by kernel_rfl
theorem c76res : cRess Tryz.prog Tryz.f76.results.toList = some [.cell 2 true 6] := by kernel_rfl
def c86t : Nat → List AI
  | 0 => [⟨0, (some 2), .o (.move (.tmp 0)), none, []⟩,
    ⟨1, (some 3), .o (.nilc (.tmp 2)), none, [2]⟩,
    ⟨2, (some 4), .o (.faddr 0 (.tmp 3)), none, [3]⟩,
    ⟨3, (some 5), .o (.load false 1 (.tmp 4)), none, [4]⟩,
    ⟨4, (some 6), .o (.eqnil 0 false (.tmp 5)), none, [5]⟩]
  | 1 => [⟨0, (some 7), .o (.move (.tmp 0)), none, [6]⟩,
    ⟨1, (some 8), .o (.move (.tmp 0)), none, [0]⟩,
    ⟨2, (some 9), .o (.p2u (.tmp 8)), none, [8]⟩,
    ⟨3, (some 10), .call (.cst (.fn (.func 114) [] [])) [(.tmp 9)], none, [9]⟩,
    ⟨4, (some 11), .o (.u2p [(68, 2), (69, 2), (70, 2), (71, 2)] (.tmp 10)), none, [10]⟩,
    ⟨5, (some 12), .o (.nilc (.tmp 7)), none, [7]⟩,
    ⟨6, (some 13), .o (.faddr 0 (.tmp 12)), none, [12]⟩,
    ⟨7, none, .o (.store 1 (.tmp 13) (.tmp 11)), none, [13, 11]⟩]
  | 2 => [⟨0, (some 14), .o (.move (.tmp 0)), none, [6]⟩,
    ⟨1, (some 15), .o (.nilc (.tmp 14)), none, [14]⟩,
    ⟨2, (some 16), .o (.faddr 0 (.tmp 15)), none, [15]⟩,
    ⟨3, (some 17), .o (.load false 1 (.tmp 16)), none, [16]⟩,
    ⟨4, (some 18), .o (.move (.tmp 0)), none, [0]⟩,
    ⟨5, (some 19), .o (.peq true (.tmp 17) (.tmp 18)), none, [18, 17]⟩]
  | _ => []
def c86c : AC := (.seq (.regT c86t 0) (.cond (.tmp 6) (.regT c86t 1) (.seq (.regT c86t 2) (.cond (.tmp 19) .no .skip))))
def c86a : Ann := fun id => match id with
  | 0 => [[(0, []), (1, [2]), (2, [3]), (3, [4]), (4, [5])]]
  | 1 => [[(0, [6]), (1, [0]), (2, [8]), (3, [9]), (4, [10]), (5, [7]), (6, [12]), (7, [13, 11])]]
  | 2 => [[(0, [6]), (1, [14]), (2, [15]), (3, [16]), (4, [0]), (5, [18, 17])]]
  | _ => []
theorem c86ok : comp Tryz.prog 20 c86a chkD (Tryz.f86.body.getD .skip) = some (inst c86c) := by kernel_rfl
theorem c86call : callable Tryz.prog 86 = true := by kernel_rfl
theorem c86res : cRess Tryz.prog Tryz.f86.results.toList = some [] := by kernel_rfl
def c88t : Nat → List AI
  | 0 => [⟨0, (some 4), .o (.box 25 (.tmp 1)), none, [1]⟩]
  | 1 => [⟨0, (some 6), .o (.load true 6 (.tmp 4)), none, []⟩,
    ⟨1, (some 7), .call (.cst (.fn (.func 116) [] [])) [(.tmp 6)], none, [6]⟩,
    ⟨2, (some 8), .o (.move (.tmp 2)), none, [2]⟩,
    ⟨3, (some 9), .o (.icmp .geq (.tmp 7) (.tmp 8)), none, [8, 7]⟩]
  | 2 => [⟨0, (some 10), .o (.move (.tmp 0)), none, [9, 0]⟩,
    ⟨1, (some 11), .o (.load true 6 (.tmp 4)), none, [4]⟩,
    ⟨2, (some 12), .call (.cst (.fn (.func 33) [] [])) [(.tmp 10), (.tmp 11)], none, [11, 10]⟩]
  | 3 => [⟨0, (some 13), .o (.move (.tmp 0)), none, [9, 12]⟩,
    ⟨1, (some 14), .o (.nilc (.tmp 13)), none, [13]⟩,
    ⟨2, (some 15), .o (.faddr 0 (.tmp 14)), none, [14]⟩,
    ⟨3, (some 16), .call (.cst (.fn (.func 58) [] [])) [(.tmp 15), (.cst (.int .u8 40))], none, [15]⟩]
  | 4 => [⟨0, (some 17), .o (.move (.tmp 0)), none, [16]⟩,
    ⟨1, (some 18), .o (.load true 6 (.tmp 4)), none, [4]⟩,
    ⟨2, (some 19), .call (.cst (.fn (.func 33) [] [])) [(.tmp 17), (.tmp 18)], none, [18, 17]⟩]
  | 5 => [⟨0, (some 20), .o (.move (.tmp 0)), none, [19, 0]⟩,
    ⟨1, (some 21), .o (.nilc (.tmp 20)), none, [20]⟩,
    ⟨2, (some 22), .o (.faddr 0 (.tmp 21)), none, [21]⟩,
    ⟨3, (some 23), .call (.cst (.fn (.func 58) [] [])) [(.tmp 22), (.cst (.int .u8 41))], none, [22]⟩]
  | _ => []
def c88c : AC := (.seq (.regT c88t 0) (.seq (.seq (.regT c88t 1) (.cond (.tmp 9) (.seq (.regT c88t 2) .ret) .skip)) (.seq (.regT c88t 3) (.seq (.regT c88t 4) (.regT c88t 5)))))
def c88a : Ann := fun id => match id with
  | 0 => [[(0, [1])]]
  | 1 => [[(0, []), (1, [6]), (2, [2]), (3, [8, 7])]]
  | 2 => [[(0, [9, 0]), (1, [4]), (2, [11, 10])]]
  | 3 => [[(0, [9, 12]), (1, [13]), (2, [14]), (3, [15])]]
  | 4 => [[(0, [16]), (1, [4]), (2, [18, 17])]]
  | 5 => [[(0, [19, 0]), (1, [20]), (2, [21]), (3, [22])]]
  | _ => []
theorem c88ok : comp Tryz.prog 24 c88a chkD (Tryz.f88.body.getD .skip) = some (inst c88c) := by kernel_rfl
theorem c88call : callable Tryz.prog 88 = true := by kernel_rfl
theorem c88res : cRess Tryz.prog Tryz.f88.results.toList = some [] := by kernel_rfl
def c89t : Nat → List AI
  | 0 => [⟨0, (some 2), .o (.asg (.cst (.int .i64 0))), none, []⟩]
  | 1 => [⟨0, (some 4), .o (.move (.tmp 0)), none, [2]⟩,
    ⟨1, (some 5), .call (.cst (.fn (.func 23) [] [])) [(.tmp 4)], none, [4]⟩,
    ⟨2, (some 3), .o (.asg (.tmp 5)), none, [5]⟩]
  | 2 => [⟨0, (some 2), .o (.asg (.cst (.int .i64 2))), none, [3, 0]⟩]
  | 3 => [⟨0, (some 7), .o (.move (.tmp 0)), none, [3, 0]⟩,
    ⟨1, (some 8), .o (.sslice (.tmp 7) none (some (.cst (.int .i64 1)))), none, [7]⟩,
    ⟨2, (some 9), .call (.cst (.fn (.func 23) [] [])) [(.tmp 8)], none, [8]⟩,
    ⟨3, (some 6), .o (.asg (.tmp 9)), none, [9]⟩]
  | 4 => [⟨0, (some 2), .o (.asg (.cst (.int .i64 0))), none, [6]⟩]
  | 5 => [⟨0, (some 2), .o (.asg (.cst (.int .i64 1))), none, [6]⟩]
  | _ => []
def c89c : AC := (.seq (.regT c89t 0) (.seq (.block 0 (.seq (.regT c89t 1) (.cond (.tmp 3) (.seq (.regT c89t 2) .ret) (.seq (.regT c89t 3) (.cond (.tmp 6) (.seq (.regT c89t 4) .ret) .skip))))) (.seq (.regT c89t 5) .ret)))
def c89a : Ann := fun id => match id with
  | 0 => [[(0, [])]]
  | 1 => [[(0, [2]), (1, [4]), (2, [5])]]
  | 2 => [[(0, [3, 0])]]
  | 3 => [[(0, [3, 0]), (1, [7]), (2, [8]), (3, [9])]]
  | 4 => [[(0, [6])]]
  | 5 => [[(0, [6])]]
  | _ => []
theorem c89ok : comp Tryz.prog 10 c89a chkD (Tryz.f89.body.getD .skip) = some (inst c89c) := by kernel_rfl
theorem c89call : callable Tryz.prog 89 = true := by kernel_rfl
theorem c89res : cRess Tryz.prog Tryz.f89.results.toList = some [.tmp 2] := by kernel_rfl
def c90t : Nat → List AI
  | 0 => [⟨0, (some 10), .o (.asg (.cst (.int .i64 0))), none, []⟩]
  | 1 => [⟨0, (some 12), .o (.move (.tmp 1)), none, []⟩,
    ⟨1, (some 13), .o (.sbin .neq (.tmp 12) (.cst (.str ⟨#[]⟩))), none, [12]⟩]
  | 2 => [⟨0, (some 16), .o (.move (.tmp 1)), none, [13]⟩,
    ⟨1, (some 17), .call (.cst (.fn (.func 44) [] [])) [(.tmp 16), (.cst (.int .u8 58))], none, [16]⟩,
    ⟨2, (some 18), .o (.ibin .add (.tmp 17) (.cst (.int .i64 1))), none, [17]⟩,
    ⟨3, (some 11), .o (.asg (.tmp 18)), none, [18]⟩]
  | 3 => [⟨0, (some 19), .o (.move (.tmp 0)), none, []⟩,
    ⟨1, (some 20), .o (.nilc (.tmp 19)), none, []⟩,
    ⟨2, (some 21), .o (.faddr 0 (.tmp 20)), none, []⟩,
    ⟨3, (some 22), .o (.move (.tmp 2)), none, []⟩,
    ⟨4, (some 23), .o (.move (.tmp 1)), none, []⟩,
    ⟨5, (some 24), .o (.move (.tmp 11)), none, []⟩,
    ⟨6, (some 25), .o (.sslice (.tmp 23) none (some (.tmp 24))), none, []⟩,
    ⟨7, (some 26), .o (.sbin .add (.tmp 22) (.tmp 25)), none, []⟩,
    ⟨8, (some 27), .o (.sbin .add (.tmp 26) (.cst (.str ⟨#[32]⟩))), none, []⟩,
    ⟨9, (some 28), .call (.cst (.fn (.func 54) [] [])) [(.tmp 21), (.tmp 27)], none, []⟩]
  | 4 => [⟨0, (some 29), .o (.move (.tmp 4)), none, [28]⟩,
    ⟨1, (some 30), .o (.move (.tmp 10)), none, []⟩,
    ⟨2, (some 31), .call (.tmp 29) [(.tmp 30)], none, [30, 29]⟩]
  | 5 => [⟨0, (some 32), .o (.move (.tmp 0)), none, [31]⟩,
    ⟨1, (some 33), .o (.nilc (.tmp 32)), none, [32]⟩,
    ⟨2, (some 34), .o (.faddr 0 (.tmp 33)), none, [33]⟩,
    ⟨3, (some 35), .o (.move (.tmp 3)), none, []⟩,
    ⟨4, (some 36), .call (.cst (.fn (.func 54) [] [])) [(.tmp 34), (.tmp 35)], none, [35, 34]⟩]
  | 6 => [⟨0, (some 37), .o (.move (.tmp 1)), none, [36, 1]⟩,
    ⟨1, (some 38), .o (.move (.tmp 11)), none, [11]⟩,
    ⟨2, (some 39), .o (.sslice (.tmp 37) (some (.tmp 38)) none), none, [38, 37]⟩,
    ⟨3, (some 1), .o (.asg (.tmp 39)), none, [39]⟩]
  | 7 => [⟨0, (some 14), .o (.move (.tmp 10)), none, [10]⟩,
    ⟨1, (some 15), .o (.ibin .add (.tmp 14) (.cst (.int .i64 1))), none, [14]⟩,
    ⟨2, (some 10), .o (.asg (.tmp 15)), none, [15]⟩]
  | _ => []
def c90l8 : AC := (.seq (.seq (.regT c90t 1) (.cond (.tmp 13) .skip (.exit 0))) (.seq (.block 1 (.seq (.regT c90t 2) (.seq (.regD [c90t 3]) (.seq (.regT c90t 4) (.seq (.regT c90t 5) (.regT c90t 6)))))) (.regT c90t 7)))
def c90c : AC := (.seq (.regT c90t 0) (.block 0 (.loop c90l8)))
def c90a : Ann := fun id => match id with
  | 0 => [[(0, [])]]
  | 1 => [[(0, []), (1, [12])]]
  | 3 => [[(0, [13]), (1, [16]), (2, [17]), (3, [18])]]
  | 4 => [[(0, []), (1, []), (2, []), (3, []), (4, []), (5, []), (6, []), (7, []), (8, []), (9, [])]]
  | 5 => [[(0, [28]), (1, []), (2, [30, 29])]]
  | 6 => [[(0, [31]), (1, [32]), (2, [33]), (3, []), (4, [35, 34])]]
  | 7 => [[(0, [36, 1]), (1, [11]), (2, [38, 37]), (3, [39])]]
  | 2 => [[(0, [10]), (1, [14]), (2, [15])]]
  | _ => []
theorem c90ok : comp Tryz.prog 40 c90a chkD (Tryz.f90.body.getD .skip) = some (inst c90c) := by kernel_rfl
theorem c90call : callable Tryz.prog 90 = true := by kernel_rfl
theorem c90res : cRess Tryz.prog Tryz.f90.results.toList = some [] := by kernel_rfl
def c91t : Nat → List AI
  | 0 => [⟨0, (some 4), .o (.load false 1 (.tmp 1)), none, []⟩,
    ⟨1, (some 5), .o (.load false 1 (.tmp 2)), none, []⟩,
    ⟨2, (some 6), .o (.move (.tmp 0)), none, []⟩,
    ⟨3, (some 7), .o (.iaddr 6 (.tmp 5) (.tmp 6)), none, []⟩,
    ⟨4, (some 8), .o (.load true 6 (.tmp 7)), none, []⟩,
    ⟨5, (some 9), .call (.cst (.fn (.func 88) [] [])) [(.tmp 4), (.tmp 8), (.cst (.int .i64 1))], none, []⟩]
  | _ => []
def c91c : AC := (.regD [c91t 0])
def c91a : Ann := fun id => match id with
  | 0 => [[(0, []), (1, []), (2, []), (3, []), (4, []), (5, [])]]
  | _ => []
theorem c91ok : comp Tryz.prog 10 c91a chkD (Tryz.f91.body.getD .skip) = some (inst c91c) := by kernel_rfl
theorem c91call : callable Tryz.prog 91 = true := by kernel_rfl
theorem c91res : cRess Tryz.prog Tryz.f91.results.toList = some [] := by kernel_rfl
def c95t : Nat → List AI
  | 0 => [⟨0, (some 4), .o (.asg (.cst (.str ⟨#[]⟩))), none, []⟩,
    ⟨1, (some 5), .o (.asg (.cst (.bool false))), none, [4]⟩]
  | 1 => [⟨0, (some 6), .o (.move (.tmp 0)), none, [5, 0]⟩,
    ⟨1, (some 7), .o (.move (.tmp 1)), none, [1]⟩,
    ⟨2, (some 8), .call (.cst (.fn (.func 118) [] [])) [(.tmp 6), (.tmp 7)], none, [7, 6]⟩,
    ⟨3, (some 9), .o (.extract (.tmp 8) 0), none, []⟩,
    ⟨4, (some 10), .o (.extract (.tmp 8) 1), none, [8]⟩,
    ⟨5, (some 4), .o (.asg (.tmp 9)), none, [9]⟩,
    ⟨6, (some 5), .o (.asg (.tmp 10)), none, [10]⟩]
  | _ => []
def c95c : AC := (.seq (.regT c95t 0) (.seq (.regT c95t 1) .ret))
def c95a : Ann := fun id => match id with
  | 0 => [[(0, []), (1, [4])]]
  | 1 => [[(0, [5, 0]), (1, [1]), (2, [7, 6]), (3, []), (4, [8]), (5, [9]), (6, [10])]]
  | _ => []
theorem c95ok : comp Tryz.prog 11 c95a chkD (Tryz.f95.body.getD .skip) = some (inst c95c) := by kernel_rfl
theorem c95call : callable Tryz.prog 95 = true := by kernel_rfl
theorem c95res : cRess Tryz.prog Tryz.f95.results.toList = some [.tmp 4, .tmp 5] := by kernel_rfl
def c96t : Nat → List AI
  | 0 => [⟨0, (some 2), .o (.asg (.cst (.bool false))), none, []⟩]
  | 1 => [⟨0, (some 3), .o (.move (.tmp 0)), none, [2]⟩,
    ⟨1, (some 4), .o (.icmp .lss (.tmp 3) (.cst (.int .i32 48))), none, [3]⟩,
    ⟨2, (some 5), .o (.move (.tmp 4)), none, [4]⟩,
    ⟨3, (some 6), .o (.move (.tmp 0)), (some (5, false)), [0]⟩,
    ⟨4, (some 7), .o (.icmp .gtr (.tmp 6) (.cst (.int .i32 57))), (some (5, false)), [6]⟩,
    ⟨5, (some 8), .o (.pick (.tmp 5) (.cst (.bool true)) (.tmp 7)), none, [7, 5]⟩,
    ⟨6, (some 2), .o (.asg (.tmp 8)), none, [8]⟩]
  | _ => []
def c96c : AC := (.seq (.regT c96t 0) (.seq (.regT c96t 1) .ret))
def c96a : Ann := fun id => match id with
  | 0 => [[(0, [])]]
  | 1 => [[(0, [2]), (1, [3]), (2, [4]), (3, [0]), (4, [6]), (5, [7, 5]), (6, [8])]]
  | _ => []
theorem c96ok : comp Tryz.prog 9 c96a chkD (Tryz.f96.body.getD .skip) = some (inst c96c) := by kernel_rfl
theorem c96call : callable Tryz.prog 96 = true := by kernel_rfl
theorem c96res : cRess Tryz.prog Tryz.f96.results.toList = some [.tmp 2] := by kernel_rfl
def c97t : Nat → List AI
  | 0 => [⟨0, (some 4), .o (.asg (.cst (.int .i64 0))), none, []⟩]
  | 1 => [⟨0, (some 5), .o (.move (.tmp 0)), none, [4, 0]⟩,
    ⟨1, (some 6), .o (.move (.tmp 1)), none, [1]⟩,
    ⟨2, (some 7), .call (.cst (.fn (.func 119) [] [])) [(.tmp 5), (.tmp 6), (.cst (.bool true))], none, [6, 5]⟩,
    ⟨3, (some 4), .o (.asg (.tmp 7)), none, [7]⟩]
  | _ => []
def c97c : AC := (.seq (.regT c97t 0) (.seq (.regT c97t 1) .ret))
def c97a : Ann := fun id => match id with
  | 0 => [[(0, [])]]
  | 1 => [[(0, [4, 0]), (1, [1]), (2, [6, 5]), (3, [7])]]
  | _ => []
theorem c97ok : comp Tryz.prog 8 c97a chkD (Tryz.f97.body.getD .skip) = some (inst c97c) := by kernel_rfl
theorem c97call : callable Tryz.prog 97 = true := by kernel_rfl
theorem c97res : cRess Tryz.prog Tryz.f97.results.toList = some [.tmp 4] := by kernel_rfl
def c98t : Nat → List AI
  | 0 => [⟨0, (some 4), .o (.asg (.cst (.sl true 0 []))), none, []⟩]
  | 1 => [⟨0, (some 8), .o (.move (.tmp 0)), none, [4]⟩,
    ⟨1, (some 9), .o (.len false (.tmp 8)), none, [8]⟩,
    ⟨2, (some 10), .o (.move (.tmp 1)), none, []⟩,
    ⟨3, (some 11), .o (.len false (.tmp 10)), none, [10]⟩,
    ⟨4, (some 12), .o (.icmp .lss (.tmp 9) (.tmp 11)), none, [11, 9]⟩]
  | 2 => [⟨0, (some 13), .o (.move (.tmp 1)), none, [12, 1]⟩,
    ⟨1, (some 14), .o (.move (.tmp 0)), none, [0]⟩,
    ⟨2, (some 0), .o (.asg (.tmp 13)), none, [13]⟩,
    ⟨3, (some 1), .o (.asg (.tmp 14)), none, [14]⟩]
  | 3 => [⟨0, (some 15), .o (.move (.tmp 0)), none, [12]⟩,
    ⟨1, (some 16), .o (.len false (.tmp 15)), none, [15]⟩,
    ⟨2, (some 17), .o (.ibin .add (.tmp 16) (.cst (.int .i64 1))), none, [16]⟩,
    ⟨3, (some 18), .o (.mks 136 4 (.int .u32 0) (.tmp 17)), none, [17]⟩,
    ⟨4, (some 5), .o (.asg (.tmp 18)), none, [18]⟩]
  | 4 => [⟨0, (some 6), .o (.asg (.cst (.int .u64 0))), none, []⟩]
  | 5 => [⟨0, (some 19), .o (.move (.tmp 0)), none, []⟩,
    ⟨1, (some 20), .o (.len false (.tmp 19)), none, [19]⟩,
    ⟨2, (some 21), .o (.move (.cst (.int .i64 0))), none, []⟩]
  | 6 => [⟨0, (some 22), .o (.icmp .lss (.tmp 21) (.tmp 20)), none, []⟩]
  | 7 => [⟨0, (some 23), .o (.move (.tmp 21)), none, [22]⟩,
    ⟨1, (some 7), .o (.asg (.tmp 23)), none, [23]⟩]
  | 8 => [⟨0, (some 24), .o (.move (.tmp 6)), none, [6]⟩,
    ⟨1, (some 25), .o (.move (.tmp 0)), none, []⟩,
    ⟨2, (some 26), .o (.move (.tmp 7)), none, []⟩,
    ⟨3, (some 27), .o (.iaddr 1 (.tmp 25) (.tmp 26)), none, [26, 25]⟩,
    ⟨4, (some 28), .o (.load false 1 (.tmp 27)), none, [27]⟩,
    ⟨5, (some 29), .o (.conv .u64 (.tmp 28)), none, [28]⟩,
    ⟨6, (some 30), .o (.ibin .add (.tmp 24) (.tmp 29)), none, [29, 24]⟩,
    ⟨7, (some 6), .o (.asg (.tmp 30)), none, [30]⟩]
  | 9 => [⟨0, (some 31), .o (.move (.tmp 7)), none, []⟩,
    ⟨1, (some 32), .o (.move (.tmp 1)), none, []⟩,
    ⟨2, (some 33), .o (.len false (.tmp 32)), none, [32]⟩,
    ⟨3, (some 34), .o (.icmp .lss (.tmp 31) (.tmp 33)), none, [33, 31]⟩]
  | 10 => [⟨0, (some 35), .o (.move (.tmp 6)), none, [34, 6]⟩,
    ⟨1, (some 36), .o (.move (.tmp 1)), none, []⟩,
    ⟨2, (some 37), .o (.move (.tmp 7)), none, []⟩,
    ⟨3, (some 38), .o (.iaddr 1 (.tmp 36) (.tmp 37)), none, [37, 36]⟩,
    ⟨4, (some 39), .o (.load false 1 (.tmp 38)), none, [38]⟩,
    ⟨5, (some 40), .o (.conv .u64 (.tmp 39)), none, [39]⟩,
    ⟨6, (some 41), .o (.ibin .add (.tmp 35) (.tmp 40)), none, [40, 35]⟩,
    ⟨7, (some 6), .o (.asg (.tmp 41)), none, [41]⟩]
  | 11 => [⟨0, (some 42), .o (.move (.tmp 5)), none, [34]⟩,
    ⟨1, (some 43), .o (.move (.tmp 7)), none, [7]⟩,
    ⟨2, (some 44), .o (.move (.tmp 6)), none, []⟩,
    ⟨3, (some 45), .o (.conv .u32 (.tmp 44)), none, [44]⟩,
    ⟨4, (some 46), .o (.iaddr 1 (.tmp 42) (.tmp 43)), none, [43, 42]⟩,
    ⟨5, none, .o (.store 1 (.tmp 46) (.tmp 45)), none, [46, 45]⟩]
  | 12 => [⟨0, (some 47), .o (.move (.tmp 6)), none, [6]⟩,
    ⟨1, (some 48), .o (.shift .shr (.tmp 47) (.cst (.int .u64 32))), none, [47]⟩,
    ⟨2, (some 6), .o (.asg (.tmp 48)), none, [48]⟩]
  | 13 => [⟨0, (some 49), .o (.ibin .add (.tmp 21) (.cst (.int .i64 1))), none, [21]⟩,
    ⟨1, (some 21), .o (.move (.tmp 49)), none, [49]⟩]
  | 15 => [⟨0, (some 50), .o (.move (.tmp 5)), none, [21, 20, 1]⟩,
    ⟨1, (some 51), .o (.move (.tmp 0)), none, [0]⟩,
    ⟨2, (some 52), .o (.len false (.tmp 51)), none, [51]⟩,
    ⟨3, (some 53), .o (.move (.tmp 6)), none, [6]⟩,
    ⟨4, (some 54), .o (.conv .u32 (.tmp 53)), none, [53]⟩,
    ⟨5, (some 55), .o (.iaddr 1 (.tmp 50) (.tmp 52)), none, [52, 50]⟩,
    ⟨6, none, .o (.store 1 (.tmp 55) (.tmp 54)), none, [55, 54]⟩]
  | 16 => [⟨0, (some 56), .o (.move (.tmp 5)), none, [5]⟩,
    ⟨1, (some 57), .call (.cst (.fn (.func 100) [] [])) [(.tmp 56)], none, [56]⟩,
    ⟨2, (some 4), .o (.asg (.tmp 57)), none, [57]⟩]
  | _ => []
def c98l14 : AC := (.seq (.regT c98t 6) (.seq (.cond (.tmp 22) .skip (.exit 0)) (.seq (.block 1 (.seq (.regT c98t 7) (.seq (.regT c98t 8) (.seq (.seq (.regT c98t 9) (.cond (.tmp 34) (.regT c98t 10) .skip)) (.seq (.regT c98t 11) (.regT c98t 12)))))) (.regT c98t 13))))
def c98c : AC := (.seq (.regT c98t 0) (.seq (.seq (.regT c98t 1) (.cond (.tmp 12) (.regT c98t 2) .skip)) (.seq (.regT c98t 3) (.seq (.regT c98t 4) (.seq (.seq (.regT c98t 5) (.block 0 (.loop c98l14))) (.seq (.regT c98t 15) (.seq (.regT c98t 16) .ret)))))))
def c98a : Ann := fun id => match id with
  | 0 => [[(0, [])]]
  | 1 => [[(0, [4]), (1, [8]), (2, []), (3, [10]), (4, [11, 9])]]
  | 2 => [[(0, [12, 1]), (1, [0]), (2, [13]), (3, [14])]]
  | 3 => [[(0, [12]), (1, [15]), (2, [16]), (3, [17]), (4, [18])]]
  | 4 => [[(0, [])]]
  | 5 => [[(0, []), (1, [19]), (2, [])]]
  | 6 => [[(0, [])]]
  | 7 => [[(0, [22]), (1, [23])]]
  | 8 => [[(0, [6]), (1, []), (2, []), (3, [26, 25]), (4, [27]), (5, [28]), (6, [29, 24]), (7, [30])]]
  | 9 => [[(0, []), (1, []), (2, [32]), (3, [33, 31])]]
  | 10 => [[(0, [34, 6]), (1, []), (2, []), (3, [37, 36]), (4, [38]), (5, [39]), (6, [40, 35]), (7, [41])]]
  | 11 => [[(0, [34]), (1, [7]), (2, []), (3, [44]), (4, [43, 42]), (5, [46, 45])]]
  | 12 => [[(0, [6]), (1, [47]), (2, [48])]]
  | 13 => [[(0, [21]), (1, [49])]]
  | 14 => [[(0, [21, 20, 1]), (1, [0]), (2, [51]), (3, [6]), (4, [53]), (5, [52, 50]), (6, [55, 54])]]
  | 15 => [[(0, [5]), (1, [56]), (2, [57])]]
  | _ => []
theorem c98ok : comp Tryz.prog 58 c98a chkD (Tryz.f98.body.getD .skip) = some (inst c98c) := by kernel_rfl
theorem c98call : callable Tryz.prog 98 = true := by kernel_rfl
theorem c98res : cRess Tryz.prog Tryz.f98.results.toList = some [.tmp 4] := by kernel_rfl
def c99t : Nat → List AI
  | 0 => [⟨0, (some 4), .o (.asg (.cst (.sl true 0 []))), none, []⟩]
  | 1 => [⟨0, (some 11), .o (.move (.tmp 0)), none, [4]⟩,
    ⟨1, (some 12), .o (.len false (.tmp 11)), none, [11]⟩,
    ⟨2, (some 13), .o (.move (.tmp 1)), none, []⟩,
    ⟨3, (some 14), .o (.len false (.tmp 13)), none, [13]⟩,
    ⟨4, (some 15), .o (.ibin .add (.tmp 12) (.tmp 14)), none, [14, 12]⟩,
    ⟨5, (some 16), .o (.mks 136 4 (.int .u32 0) (.tmp 15)), none, [15]⟩,
    ⟨6, (some 5), .o (.asg (.tmp 16)), none, [16]⟩]
  | 2 => [⟨0, (some 17), .o (.move (.tmp 0)), none, [0]⟩,
    ⟨1, (some 18), .o (.len false (.tmp 17)), none, []⟩,
    ⟨2, (some 19), .o (.move (.cst (.int .i64 0))), none, []⟩]
  | 3 => [⟨0, (some 20), .o (.icmp .lss (.tmp 19) (.tmp 18)), none, []⟩]
  | 4 => [⟨0, (some 21), .o (.move (.tmp 19)), none, [20]⟩,
    ⟨1, (some 22), .o (.iaddr 1 (.tmp 17) (.tmp 19)), none, []⟩,
    ⟨2, (some 23), .o (.load false 1 (.tmp 22)), none, [22]⟩,
    ⟨3, (some 6), .o (.asg (.tmp 21)), none, [21]⟩,
    ⟨4, (some 7), .o (.asg (.tmp 23)), none, [23]⟩]
  | 5 => [⟨0, (some 8), .o (.asg (.cst (.int .u64 0))), none, []⟩]
  | 6 => [⟨0, (some 24), .o (.move (.tmp 1)), none, []⟩,
    ⟨1, (some 25), .o (.len false (.tmp 24)), none, []⟩,
    ⟨2, (some 26), .o (.move (.cst (.int .i64 0))), none, []⟩]
  | 7 => [⟨0, (some 27), .o (.icmp .lss (.tmp 26) (.tmp 25)), none, []⟩]
  | 8 => [⟨0, (some 28), .o (.move (.tmp 26)), none, [27]⟩,
    ⟨1, (some 29), .o (.iaddr 1 (.tmp 24) (.tmp 26)), none, []⟩,
    ⟨2, (some 30), .o (.load false 1 (.tmp 29)), none, [29]⟩,
    ⟨3, (some 9), .o (.asg (.tmp 28)), none, [28]⟩,
    ⟨4, (some 10), .o (.asg (.tmp 30)), none, [30]⟩]
  | 9 => [⟨0, (some 31), .o (.move (.tmp 8)), none, [8]⟩,
    ⟨1, (some 32), .o (.move (.tmp 7)), none, []⟩,
    ⟨2, (some 33), .o (.conv .u64 (.tmp 32)), none, [32]⟩,
    ⟨3, (some 34), .o (.move (.tmp 10)), none, [10]⟩,
    ⟨4, (some 35), .o (.conv .u64 (.tmp 34)), none, [34]⟩,
    ⟨5, (some 36), .o (.ibin .mul (.tmp 33) (.tmp 35)), none, [35, 33]⟩,
    ⟨6, (some 37), .o (.move (.tmp 5)), none, []⟩,
    ⟨7, (some 38), .o (.move (.tmp 6)), none, []⟩,
    ⟨8, (some 39), .o (.move (.tmp 9)), none, []⟩,
    ⟨9, (some 40), .o (.ibin .add (.tmp 38) (.tmp 39)), none, [39, 38]⟩,
    ⟨10, (some 41), .o (.iaddr 1 (.tmp 37) (.tmp 40)), none, [40, 37]⟩,
    ⟨11, (some 42), .o (.load false 1 (.tmp 41)), none, [41]⟩,
    ⟨12, (some 43), .o (.conv .u64 (.tmp 42)), none, [42]⟩,
    ⟨13, (some 44), .o (.ibin .add (.tmp 36) (.tmp 43)), none, [43, 36]⟩,
    ⟨14, (some 45), .o (.ibin .add (.tmp 31) (.tmp 44)), none, [44, 31]⟩,
    ⟨15, (some 8), .o (.asg (.tmp 45)), none, [45]⟩]
  | 10 => [⟨0, (some 46), .o (.move (.tmp 5)), none, []⟩,
    ⟨1, (some 47), .o (.move (.tmp 6)), none, []⟩,
    ⟨2, (some 48), .o (.move (.tmp 9)), none, [9]⟩,
    ⟨3, (some 49), .o (.ibin .add (.tmp 47) (.tmp 48)), none, [48, 47]⟩,
    ⟨4, (some 50), .o (.move (.tmp 8)), none, []⟩,
    ⟨5, (some 51), .o (.conv .u32 (.tmp 50)), none, [50]⟩,
    ⟨6, (some 52), .o (.iaddr 1 (.tmp 46) (.tmp 49)), none, [49, 46]⟩,
    ⟨7, none, .o (.store 1 (.tmp 52) (.tmp 51)), none, [52, 51]⟩]
  | 11 => [⟨0, (some 53), .o (.move (.tmp 8)), none, [8]⟩,
    ⟨1, (some 54), .o (.shift .shr (.tmp 53) (.cst (.int .u64 32))), none, [53]⟩,
    ⟨2, (some 8), .o (.asg (.tmp 54)), none, [54]⟩]
  | 12 => [⟨0, (some 55), .o (.ibin .add (.tmp 26) (.cst (.int .i64 1))), none, [26]⟩,
    ⟨1, (some 26), .o (.move (.tmp 55)), none, [55]⟩]
  | 14 => [⟨0, (some 56), .o (.move (.tmp 5)), none, [26, 25, 24, 7]⟩,
    ⟨1, (some 57), .o (.move (.tmp 6)), none, [6]⟩,
    ⟨2, (some 58), .o (.move (.tmp 1)), none, []⟩,
    ⟨3, (some 59), .o (.len false (.tmp 58)), none, [58]⟩,
    ⟨4, (some 60), .o (.ibin .add (.tmp 57) (.tmp 59)), none, [59, 57]⟩,
    ⟨5, (some 61), .o (.move (.tmp 8)), none, [8]⟩,
    ⟨6, (some 62), .o (.conv .u32 (.tmp 61)), none, [61]⟩,
    ⟨7, (some 63), .o (.iaddr 1 (.tmp 56) (.tmp 60)), none, [60, 56]⟩,
    ⟨8, none, .o (.store 1 (.tmp 63) (.tmp 62)), none, [63, 62]⟩]
  | 15 => [⟨0, (some 64), .o (.ibin .add (.tmp 19) (.cst (.int .i64 1))), none, [19]⟩,
    ⟨1, (some 19), .o (.move (.tmp 64)), none, [64]⟩]
  | 17 => [⟨0, (some 65), .o (.move (.tmp 5)), none, [19, 18, 17, 5, 1]⟩,
    ⟨1, (some 66), .call (.cst (.fn (.func 100) [] [])) [(.tmp 65)], none, [65]⟩,
    ⟨2, (some 4), .o (.asg (.tmp 66)), none, [66]⟩]
  | _ => []
def c99l13 : AC := (.seq (.regT c99t 7) (.seq (.cond (.tmp 27) .skip (.exit 2)) (.seq (.block 3 (.seq (.regT c99t 8) (.seq (.regT c99t 9) (.seq (.regT c99t 10) (.regT c99t 11))))) (.regT c99t 12))))
def c99l16 : AC := (.seq (.regT c99t 3) (.seq (.cond (.tmp 20) .skip (.exit 0)) (.seq (.block 1 (.seq (.regT c99t 4) (.seq (.regT c99t 5) (.seq (.seq (.regT c99t 6) (.block 2 (.loop c99l13))) (.regT c99t 14))))) (.regT c99t 15))))
def c99c : AC := (.seq (.regT c99t 0) (.seq (.regT c99t 1) (.seq (.seq (.regT c99t 2) (.block 0 (.loop c99l16))) (.seq (.regT c99t 17) .ret))))
def c99a : Ann := fun id => match id with
  | 0 => [[(0, [])]]
  | 1 => [[(0, [4]), (1, [11]), (2, []), (3, [13]), (4, [14, 12]), (5, [15]), (6, [16])]]
  | 2 => [[(0, [0]), (1, []), (2, [])]]
  | 3 => [[(0, [])]]
  | 4 => [[(0, [20]), (1, []), (2, [22]), (3, [21]), (4, [23])]]
  | 5 => [[(0, [])]]
  | 6 => [[(0, []), (1, []), (2, [])]]
  | 7 => [[(0, [])]]
  | 8 => [[(0, [27]), (1, []), (2, [29]), (3, [28]), (4, [30])]]
  | 9 => [[(0, [8]), (1, []), (2, [32]), (3, [10]), (4, [34]), (5, [35, 33]), (6, []), (7, []), (8, []), (9, [39, 38]), (10, [40, 37]), (11, [41]), (12, [42]), (13, [43, 36]), (14, [44, 31]), (15, [45])]]
  | 10 => [[(0, []), (1, []), (2, [9]), (3, [48, 47]), (4, []), (5, [50]), (6, [49, 46]), (7, [52, 51])]]
  | 11 => [[(0, [8]), (1, [53]), (2, [54])]]
  | 12 => [[(0, [26]), (1, [55])]]
  | 13 => [[(0, [26, 25, 24, 7]), (1, [6]), (2, []), (3, [58]), (4, [59, 57]), (5, [8]), (6, [61]), (7, [60, 56]), (8, [63, 62])]]
  | 14 => [[(0, [19]), (1, [64])]]
  | 15 => [[(0, [19, 18, 17, 5, 1]), (1, [65]), (2, [66])]]
  | _ => []
theorem c99ok : comp Tryz.prog 67 c99a chkD (Tryz.f99.body.getD .skip) = some (inst c99c) := by kernel_rfl
theorem c99call : callable Tryz.prog 99 = true := by kernel_rfl
theorem c99res : cRess Tryz.prog Tryz.f99.results.toList = some [.tmp 4] := by kernel_rfl
def c100t : Nat → List AI
  | 0 => [⟨0, (some 2), .o (.asg (.cst (.sl true 0 []))), none, []⟩]
  | 1 => [⟨0, (some 3), .o (.move (.tmp 0)), none, [2]⟩,
    ⟨1, (some 4), .o (.len false (.tmp 3)), none, [3]⟩,
    ⟨2, (some 5), .o (.icmp .gtr (.tmp 4) (.cst (.int .i64 0))), none, [4]⟩,
    ⟨3, (some 6), .o (.move (.tmp 5)), none, [5]⟩,
    ⟨4, (some 7), .o (.move (.tmp 0)), (some (6, true)), []⟩,
    ⟨5, (some 8), .o (.move (.tmp 0)), (some (6, true)), []⟩,
    ⟨6, (some 9), .o (.len false (.tmp 8)), (some (6, true)), []⟩,
    ⟨7, (some 10), .o (.ibin .sub (.tmp 9) (.cst (.int .i64 1))), (some (6, true)), []⟩,
    ⟨8, (some 11), .o (.iaddr 1 (.tmp 7) (.tmp 10)), (some (6, true)), []⟩,
    ⟨9, (some 12), .o (.load false 1 (.tmp 11)), (some (6, true)), []⟩,
    ⟨10, (some 13), .o (.icmp .eql (.tmp 12) (.cst (.int .u32 0))), (some (6, true)), []⟩,
    ⟨11, (some 14), .o (.pick (.tmp 6) (.tmp 13) (.cst (.bool false))), none, [6]⟩]
  | 2 => [⟨0, (some 15), .o (.move (.tmp 0)), none, [14]⟩,
    ⟨1, (some 16), .o (.move (.tmp 0)), none, [0]⟩,
    ⟨2, (some 17), .o (.len false (.tmp 16)), none, [16]⟩,
    ⟨3, (some 18), .o (.ibin .sub (.tmp 17) (.cst (.int .i64 1))), none, [17]⟩,
    ⟨4, (some 19), .o (.lslice 1 (.tmp 15) none (some (.tmp 18))), none, [18, 15]⟩,
    ⟨5, (some 0), .o (.asg (.tmp 19)), none, [19]⟩]
  | 4 => [⟨0, (some 20), .o (.move (.tmp 0)), none, [0, 7, 8, 9, 10, 11, 12, 13]⟩,
    ⟨1, (some 2), .o (.asg (.tmp 20)), none, [20]⟩]
  | _ => []
def c100l3 : AC := (.seq (.seq (.regT c100t 1) (.cond (.tmp 14) .skip (.exit 0))) (.block 1 (.regT c100t 2)))
def c100c : AC := (.seq (.regT c100t 0) (.seq (.block 0 (.loop c100l3)) (.seq (.regT c100t 4) .ret)))
def c100a : Ann := fun id => match id with
  | 0 => [[(0, [])]]
  | 1 => [[(0, [2]), (1, [3]), (2, [4]), (3, [5]), (4, []), (5, []), (6, []), (7, []), (8, []), (9, []), (10, []), (11, [6])]]
  | 2 => [[(0, [14]), (1, [0]), (2, [16]), (3, [17]), (4, [18, 15]), (5, [19])]]
  | 3 => [[(0, [0, 7, 8, 9, 10, 11, 12, 13]), (1, [20])]]
  | _ => []
theorem c100ok : comp Tryz.prog 21 c100a chkD (Tryz.f100.body.getD .skip) = some (inst c100c) := by kernel_rfl
theorem c100call : callable Tryz.prog 100 = true := by kernel_rfl
theorem c100res : cRess Tryz.prog Tryz.f100.results.toList = some [.tmp 2] := by kernel_rfl
def c101t : Nat → List AI
  | 0 => [⟨0, (some 4), .o (.alloc [(.bool false), (.sl true 0 [])] 111), none, []⟩,
    ⟨1, (some 5), .o (.asg (.cst (.int .i64 0))), none, []⟩]
  | 1 => [⟨0, (some 7), .o (.move (.tmp 0)), none, [5, 0]⟩,
    ⟨1, (some 8), .o (.move (.tmp 1)), none, [1]⟩,
    ⟨2, (some 9), .call (.cst (.fn (.func 120) [] [])) [(.tmp 7), (.tmp 8)], none, [8, 7]⟩,
    ⟨3, (some 6), .o (.alloc [(.bool false), (.sl true 0 [])] 111), none, []⟩,
    ⟨4, none, .o (.store 2 (.tmp 6) (.tmp 9)), none, [9]⟩]
  | 2 => [⟨0, (some 10), .o (.faddr 1 (.tmp 6)), none, []⟩,
    ⟨1, (some 11), .o (.load false 1 (.tmp 10)), none, [10]⟩,
    ⟨2, (some 12), .o (.len false (.tmp 11)), none, [11]⟩,
    ⟨3, (some 13), .o (.icmp .gtr (.tmp 12) (.cst (.int .i64 128))), none, [12]⟩]
  | 3 => [⟨0, (some 14), .o (.build [(.bool false), (.sl true 0 [])] []), none, [13, 6]⟩,
    ⟨1, none, .o (.store 2 (.tmp 4) (.tmp 14)), none, [14]⟩,
    ⟨2, (some 5), .o (.asg (.cst (.int .i64 24))), none, []⟩]
  | 4 => [⟨0, (some 15), .o (.load true 2 (.tmp 6)), none, [6, 13, 5]⟩,
    ⟨1, none, .o (.store 2 (.tmp 4) (.tmp 15)), none, [15]⟩,
    ⟨2, (some 5), .o (.asg (.cst (.int .i64 0))), none, []⟩]
  | _ => []
def c101c : AC := (.seq (.regT c101t 0) (.seq (.regT c101t 1) (.seq (.seq (.regT c101t 2) (.cond (.tmp 13) (.seq (.regT c101t 3) .ret) .skip)) (.seq (.regT c101t 4) .ret))))
def c101a : Ann := fun id => match id with
  | 0 => [[(0, []), (1, [])]]
  | 1 => [[(0, [5, 0]), (1, [1]), (2, [8, 7]), (3, []), (4, [9])]]
  | 2 => [[(0, []), (1, [10]), (2, [11]), (3, [12])]]
  | 3 => [[(0, [13, 6]), (1, [14]), (2, [])]]
  | 4 => [[(0, [6, 13, 5]), (1, [15]), (2, [])]]
  | _ => []
theorem c101ok : comp Tryz.prog 16 c101a chkD (Tryz.f101.body.getD .skip) = some (inst c101c) := by kernel_rfl
theorem c101call : callable Tryz.prog 101 = true := by kernel_rfl
theorem c101res : cRess Tryz.prog Tryz.f101.results.toList = some [.cell 4 true 2, .tmp 5] := by kernel_rfl
def c102t : Nat → List AI
  | 0 => [⟨0, (some 2), .o (.asg (.cst (.int .i64 0))), none, []⟩]
  | 1 => [⟨0, (some 3), .o (.move (.tmp 0)), none, [2, 0]⟩,
    ⟨1, (some 4), .o (.nilc (.tmp 3)), none, [3]⟩,
    ⟨2, (some 5), .o (.faddr 1 (.tmp 4)), none, [4]⟩,
    ⟨3, (some 6), .o (.load false 1 (.tmp 5)), none, [5]⟩,
    ⟨4, (some 7), .o (.len false (.tmp 6)), none, [6]⟩,
    ⟨5, (some 2), .o (.asg (.tmp 7)), none, [7]⟩]
  | _ => []
def c102c : AC := (.seq (.regT c102t 0) (.seq (.regT c102t 1) .ret))
def c102a : Ann := fun id => match id with
  | 0 => [[(0, [])]]
  | 1 => [[(0, [2, 0]), (1, [3]), (2, [4]), (3, [5]), (4, [6]), (5, [7])]]
  | _ => []
theorem c102ok : comp Tryz.prog 8 c102a chkD (Tryz.f102.body.getD .skip) = some (inst c102c) := by kernel_rfl
theorem c102call : callable Tryz.prog 102 = true := by kernel_rfl
theorem c102res : cRess Tryz.prog Tryz.f102.results.toList = some [.tmp 2] := by kernel_rfl
def c103t : Nat → List AI
  | 0 => [⟨0, (some 2), .o (.asg (.cst (.bool false))), none, []⟩]
  | 1 => [⟨0, (some 3), .o (.move (.tmp 0)), none, [2, 0]⟩,
    ⟨1, (some 4), .call (.cst (.fn (.func 43) [] [])) [(.tmp 3), (.cst (.str ⟨#[43, 45, 42, 47, 92, 60, 62, 61, 126, 44, 64, 37, 38, 63]⟩))], none, [3]⟩,
    ⟨2, (some 5), .o (.icmp .geq (.tmp 4) (.cst (.int .i64 0))), none, [4]⟩,
    ⟨3, (some 2), .o (.asg (.tmp 5)), none, [5]⟩]
  | _ => []
def c103c : AC := (.seq (.regT c103t 0) (.seq (.regT c103t 1) .ret))
def c103a : Ann := fun id => match id with
  | 0 => [[(0, [])]]
  | 1 => [[(0, [2, 0]), (1, [3]), (2, [4]), (3, [5])]]
  | _ => []
theorem c103ok : comp Tryz.prog 6 c103a chkD (Tryz.f103.body.getD .skip) = some (inst c103c) := by kernel_rfl
theorem c103call : callable Tryz.prog 103 = true := by kernel_rfl
theorem c103res : cRess Tryz.prog Tryz.f103.results.toList = some [.tmp 2] := by kernel_rfl
def c104t : Nat → List AI
  | 0 => [⟨0, (some 4), .o (.move (.tmp 0)), none, []⟩,
    ⟨1, (some 5), .o (.nilc (.tmp 4)), none, [4]⟩,
    ⟨2, (some 6), .o (.faddr 1 (.tmp 5)), none, [5]⟩,
    ⟨3, (some 7), .o (.load false 1 (.tmp 6)), none, [6]⟩,
    ⟨4, (some 8), .o (.icmp .eql (.tmp 7) (.cst (.int .i64 40))), none, [7]⟩]
  | 1 => [⟨0, (some 9), .o (.move (.tmp 0)), none, [8]⟩,
    ⟨1, (some 10), .call (.cst (.fn (.func 47) [] [])) [(.tmp 9), (.cst (.int .i64 3))], none, [9]⟩]
  | 2 => [⟨0, (some 11), .o (.move (.tmp 0)), none, [8, 10]⟩,
    ⟨1, (some 12), .o (.nilc (.tmp 11)), none, []⟩,
    ⟨2, (some 13), .o (.faddr 1 (.tmp 12)), none, [12]⟩,
    ⟨3, (some 14), .o (.load false 1 (.tmp 13)), none, [13]⟩,
    ⟨4, (some 15), .o (.ibin .add (.tmp 14) (.cst (.int .i64 1))), none, [14]⟩,
    ⟨5, (some 16), .o (.nilc (.tmp 11)), none, [11]⟩,
    ⟨6, (some 17), .o (.faddr 1 (.tmp 16)), none, [16]⟩,
    ⟨7, none, .o (.store 1 (.tmp 17) (.tmp 15)), none, [17, 15]⟩]
  | 3 => [⟨0, (some 18), .o (.move (.tmp 0)), none, []⟩,
    ⟨1, (some 19), .call (.cst (.fn (.func 39) [] [])) [(.tmp 18)], none, [18]⟩]
  | 4 => [⟨0, (some 20), .o (.move (.tmp 1)), none, [19, 1]⟩,
    ⟨1, (some 21), .call (.tmp 20) [], none, [20]⟩]
  | 5 => [⟨0, (some 22), .o (.move (.tmp 0)), none, [21, 0]⟩,
    ⟨1, (some 23), .o (.nilc (.tmp 22)), none, []⟩,
    ⟨2, (some 24), .o (.faddr 1 (.tmp 23)), none, [23]⟩,
    ⟨3, (some 25), .o (.load false 1 (.tmp 24)), none, [24]⟩,
    ⟨4, (some 26), .o (.ibin .sub (.tmp 25) (.cst (.int .i64 1))), none, [25]⟩,
    ⟨5, (some 27), .o (.nilc (.tmp 22)), none, [22]⟩,
    ⟨6, (some 28), .o (.faddr 1 (.tmp 27)), none, [27]⟩,
    ⟨7, none, .o (.store 1 (.tmp 28) (.tmp 26)), none, [28, 26]⟩]
  | _ => []
def c104c : AC := (.seq (.seq (.regT c104t 0) (.cond (.tmp 8) (.regT c104t 1) .skip)) (.seq (.regT c104t 2) (.seq (.regT c104t 3) (.seq (.regT c104t 4) (.regT c104t 5)))))
def c104a : Ann := fun id => match id with
  | 0 => [[(0, []), (1, [4]), (2, [5]), (3, [6]), (4, [7])]]
  | 1 => [[(0, [8]), (1, [9])]]
  | 2 => [[(0, [8, 10]), (1, []), (2, [12]), (3, [13]), (4, [14]), (5, [11]), (6, [16]), (7, [17, 15])]]
  | 3 => [[(0, []), (1, [18])]]
  | 4 => [[(0, [19, 1]), (1, [20])]]
  | 5 => [[(0, [21, 0]), (1, []), (2, [23]), (3, [24]), (4, [25]), (5, [22]), (6, [27]), (7, [28, 26])]]
  | _ => []
theorem c104ok : comp Tryz.prog 29 c104a chkD (Tryz.f104.body.getD .skip) = some (inst c104c) := by kernel_rfl
theorem c104call : callable Tryz.prog 104 = true := by kernel_rfl
theorem c104res : cRess Tryz.prog Tryz.f104.results.toList = some [] := by kernel_rfl
def c105t : Nat → List AI
  | 0 => [⟨0, (some 2), .o (.load false 1 (.tmp 0)), none, [0]⟩,
    ⟨1, (some 3), .call (.cst (.fn (.func 76) [] [])) [(.tmp 2)], none, [2]⟩,
    ⟨2, (some 4), .o (.bslice 25 true 6 1 [(.int .i64 0), (.str ⟨#[]⟩), (.int .i64 0), (.int .i64 0), (.sl true 0 []), (.sl true 0 [])] [(0, 6, (.tmp 3))]), none, [3]⟩,
    ⟨3, (some 5), .o (.faddr 5 (.tmp 1)), none, [1]⟩,
    ⟨4, none, .o (.store 1 (.tmp 5) (.tmp 4)), none, [5, 4]⟩]
  | _ => []
def c105c : AC := (.regT c105t 0)
def c105a : Ann := fun id => match id with
  | 0 => [[(0, [0]), (1, [2]), (2, [3]), (3, [1]), (4, [5, 4])]]
  | _ => []
theorem c105ok : comp Tryz.prog 6 c105a chkD (Tryz.f105.body.getD .skip) = some (inst c105c) := by kernel_rfl
theorem c105call : callable Tryz.prog 105 = true := by kernel_rfl
theorem c105res : cRess Tryz.prog Tryz.f105.results.toList = some [] := by kernel_rfl
end Go.SL
set_option maxRecDepth 100000
namespace Go.SL
open Go.Proofs
def c106t : Nat → List AI
  | 0 => [⟨0, (some 2), .o (.alloc [(.int .i64 0), (.str ⟨#[]⟩), (.int .i64 0), (.int .i64 0), (.sl true 0 []), (.sl true 0 [])] 25), none, []⟩]
  | 1 => [⟨0, (some 8), .o (.move (.tmp 0)), none, []⟩,
    ⟨1, (some 9), .call (.cst (.fn (.func 121) [] [])) [(.tmp 8)], none, [8]⟩,
    ⟨2, (some 7), .o (.move (.tmp 9)), none, [9]⟩,
    ⟨3, (some 10), .o (.extract (.tmp 7) 0), none, []⟩,
    ⟨4, (some 11), .o (.extract (.tmp 7) 1), none, [7]⟩,
    ⟨5, (some 3), .o (.alloc [(.int .i64 0), (.str ⟨#[]⟩), (.int .i64 0), (.int .i64 0), (.sl true 0 []), (.sl true 0 [])] 25), none, []⟩,
    ⟨6, none, .o (.store 6 (.tmp 3) (.tmp 10)), none, [10]⟩,
    ⟨7, (some 4), .o (.asg (.tmp 11)), none, [11]⟩]
  | 2 => [⟨0, (some 12), .o (.move (.tmp 0)), none, []⟩,
    ⟨1, (some 13), .call (.cst (.fn (.func 40) [] [])) [(.tmp 12)], none, [12]⟩,
    ⟨2, (some 14), .o (.icmp .neq (.tmp 13) (.cst (.int .i64 15))), none, [13]⟩]
  | 3 => [⟨0, (some 15), .o (.load true 6 (.tmp 3)), none, [14, 4, 3, 0]⟩,
    ⟨1, none, .o (.store 6 (.tmp 2) (.tmp 15)), none, [15]⟩]
  | 4 => [⟨0, (some 16), .o (.faddr 0 (.tmp 3)), none, [14]⟩,
    ⟨1, (some 17), .o (.load false 1 (.tmp 16)), none, [16]⟩,
    ⟨2, (some 18), .o (.icmp .neq (.tmp 17) (.cst (.int .i64 7))), none, [17]⟩,
    ⟨3, (some 19), .o (.move (.tmp 18)), none, [18]⟩,
    ⟨4, (some 20), .o (.move (.tmp 4)), (some (19, false)), [4]⟩,
    ⟨5, (some 21), .o (.not (.tmp 20)), (some (19, false)), [20]⟩,
    ⟨6, (some 22), .o (.pick (.tmp 19) (.cst (.bool true)) (.tmp 21)), none, [21, 19]⟩]
  | 5 => [⟨0, (some 23), .o (.move (.tmp 0)), none, [22]⟩,
    ⟨1, (some 24), .call (.cst (.fn (.func 47) [] [])) [(.tmp 23), (.cst (.int .i64 20))], none, [23]⟩]
  | 6 => [⟨0, (some 25), .o (.faddr 1 (.tmp 3)), none, []⟩,
    ⟨1, (some 26), .o (.load false 1 (.tmp 25)), none, []⟩,
    ⟨2, (some 27), .o (.faddr 2 (.tmp 3)), none, []⟩,
    ⟨3, (some 28), .o (.load false 1 (.tmp 27)), none, []⟩,
    ⟨4, (some 29), .o (.faddr 5 (.tmp 3)), none, []⟩,
    ⟨5, (some 30), .o (.load false 1 (.tmp 29)), none, []⟩,
    ⟨6, (some 31), .o (.lslice 6 (.tmp 30) (some (.cst (.int .i64 1))) none), none, []⟩,
    ⟨7, (some 32), .o (.build [(.int .i64 0), (.str ⟨#[]⟩), (.int .i64 0), (.int .i64 0), (.sl true 0 []), (.sl true 0 [])] [(0, 1, (.cst (.int .i64 9))), (1, 1, (.tmp 26)), (2, 1, (.tmp 28)), (5, 1, (.tmp 31))]), none, []⟩,
    ⟨8, (some 5), .o (.alloc [(.int .i64 0), (.str ⟨#[]⟩), (.int .i64 0), (.int .i64 0), (.sl true 0 []), (.sl true 0 [])] 25), none, [0, 1, 2, 3, 4, 5, 6, 7]⟩,
    ⟨9, none, .o (.store 6 (.tmp 5) (.tmp 32)), none, []⟩]
  | 7 => [⟨0, (some 33), .o (.faddr 2 (.tmp 3)), none, []⟩,
    ⟨1, (some 34), .o (.load false 1 (.tmp 33)), none, []⟩,
    ⟨2, (some 35), .o (.faddr 5 (.tmp 3)), none, []⟩,
    ⟨3, (some 36), .o (.load false 1 (.tmp 35)), none, []⟩,
    ⟨4, (some 37), .o (.iaddr 6 (.tmp 36) (.cst (.int .i64 0))), none, []⟩,
    ⟨5, (some 38), .o (.load true 6 (.tmp 37)), none, []⟩,
    ⟨6, (some 39), .o (.load true 6 (.tmp 5)), none, []⟩,
    ⟨7, (some 40), .o (.bslice 25 true 6 2 [(.int .i64 0), (.str ⟨#[]⟩), (.int .i64 0), (.int .i64 0), (.sl true 0 []), (.sl true 0 [])] [(0, 6, (.tmp 38)), (6, 6, (.tmp 39))]), none, [0, 1]⟩,
    ⟨8, (some 41), .o (.build [(.int .i64 0), (.str ⟨#[]⟩), (.int .i64 0), (.int .i64 0), (.sl true 0 []), (.sl true 0 [])] [(0, 1, (.cst (.int .i64 8))), (2, 1, (.tmp 34)), (5, 1, (.tmp 40))]), none, []⟩,
    ⟨9, (some 6), .o (.alloc [(.int .i64 0), (.str ⟨#[]⟩), (.int .i64 0), (.int .i64 0), (.sl true 0 []), (.sl true 0 [])] 25), none, [0, 1, 2, 3, 4, 5, 6, 8]⟩,
    ⟨10, none, .o (.store 6 (.tmp 6) (.tmp 41)), none, []⟩]
  | 8 => [⟨0, (some 33), .o (.faddr 2 (.tmp 3)), none, []⟩,
    ⟨1, (some 34), .o (.load false 1 (.tmp 33)), none, []⟩,
    ⟨2, (some 35), .o (.faddr 5 (.tmp 3)), none, []⟩,
    ⟨3, (some 36), .o (.load false 1 (.tmp 35)), none, []⟩,
    ⟨4, (some 37), .o (.iaddr 6 (.tmp 36) (.cst (.int .i64 0))), none, []⟩,
    ⟨5, (some 38), .o (.load true 6 (.tmp 37)), none, []⟩,
    ⟨6, (some 39), .o (.load true 6 (.tmp 5)), none, []⟩,
    ⟨9, (some 6), .o (.alloc [(.int .i64 0), (.str ⟨#[]⟩), (.int .i64 0), (.int .i64 0), (.sl true 0 []), (.sl true 0 [])] 25), none, [0, 1, 2, 3, 4, 5, 6]⟩,
    ⟨7, (some 40), .o (.bslice 25 true 6 2 [(.int .i64 0), (.str ⟨#[]⟩), (.int .i64 0), (.int .i64 0), (.sl true 0 []), (.sl true 0 [])] [(0, 6, (.tmp 38)), (6, 6, (.tmp 39))]), none, [0, 1]⟩,
    ⟨8, (some 41), .o (.build [(.int .i64 0), (.str ⟨#[]⟩), (.int .i64 0), (.int .i64 0), (.sl true 0 []), (.sl true 0 [])] [(0, 1, (.cst (.int .i64 8))), (2, 1, (.tmp 34)), (5, 1, (.tmp 40))]), none, []⟩,
    ⟨10, none, .o (.store 6 (.tmp 6) (.tmp 41)), none, []⟩]
  | 9 => [⟨0, (some 42), .o (.move (.tmp 0)), none, []⟩,
    ⟨1, (some 43), .call (.cst (.fn (.func 40) [] [])) [(.tmp 42)], none, [42]⟩,
    ⟨2, (some 44), .o (.icmp .eql (.tmp 43) (.cst (.int .i64 15))), none, [43]⟩]
  | 10 => [⟨0, (some 45), .o (.move (.tmp 0)), none, [44]⟩,
    ⟨1, (some 46), .call (.cst (.fn (.func 39) [] [])) [(.tmp 45)], none, [45]⟩]
  | 11 => [⟨0, (some 47), .o (.faddr 5 (.tmp 6)), none, []⟩,
    ⟨1, (some 48), .o (.load false 1 (.tmp 47)), none, []⟩,
    ⟨2, (some 49), .o (.move (.tmp 0)), none, []⟩,
    ⟨3, (some 50), .call (.cst (.fn (.func 122) [] [])) [(.tmp 49)], none, [0, 1]⟩,
    ⟨4, (some 51), .o (.bslice 25 true 6 1 [(.int .i64 0), (.str ⟨#[]⟩), (.int .i64 0), (.int .i64 0), (.sl true 0 []), (.sl true 0 [])] [(0, 6, (.tmp 50))]), none, [0, 1]⟩,
    ⟨5, (some 52), .o (.append 25 6 88 [(.int .i64 0), (.str ⟨#[]⟩), (.int .i64 0), (.int .i64 0), (.sl true 0 []), (.sl true 0 [])] (.tmp 48) (.tmp 51)), none, []⟩,
    ⟨6, (some 53), .o (.faddr 5 (.tmp 6)), none, []⟩,
    ⟨7, none, .o (.store 1 (.tmp 53) (.tmp 52)), none, []⟩]
  | 13 => [⟨0, (some 54), .o (.load true 6 (.tmp 6)), none, [6, 0]⟩,
    ⟨1, none, .o (.store 6 (.tmp 2) (.tmp 54)), none, [54]⟩]
  | _ => []
def c106l12 : AC := (.seq (.seq (.regT c106t 9) (.cond (.tmp 44) .skip (.exit 0))) (.block 1 (.seq (.regT c106t 10) (.regD [c106t 11]))))
def c106c : AC := (.seq (.regT c106t 0) (.seq (.regT c106t 1) (.seq (.seq (.regT c106t 2) (.cond (.tmp 14) (.seq (.regT c106t 3) .ret) .skip)) (.seq (.seq (.regT c106t 4) (.cond (.tmp 22) (.regT c106t 5) .skip)) (.seq (.regD [c106t 6]) (.seq (.regD [c106t 7, c106t 8]) (.seq (.block 0 (.loop c106l12)) (.seq (.regT c106t 13) .ret))))))))
def c106a : Ann := fun id => match id with
  | 0 => [[(0, [])]]
  | 1 => [[(0, []), (1, [8]), (2, [9]), (3, []), (4, [7]), (5, []), (6, [10]), (7, [11])]]
  | 2 => [[(0, []), (1, [12]), (2, [13])]]
  | 3 => [[(0, [14, 4, 3, 0]), (1, [15])]]
  | 4 => [[(0, [14]), (1, [16]), (2, [17]), (3, [18]), (4, [4]), (5, [20]), (6, [21, 19])]]
  | 5 => [[(0, [22]), (1, [23])]]
  | 6 => [[(0, []), (1, []), (2, []), (3, []), (4, []), (5, []), (6, []), (7, []), (8, [0, 1, 2, 3, 4, 5, 6, 7]), (9, [])]]
  | 7 => [[(0, []), (1, []), (2, []), (3, []), (4, []), (5, []), (6, []), (7, [0, 1]), (8, []), (9, [0, 1, 2, 3, 4, 5, 6, 8]), (10, [])], [(0, []), (1, []), (2, []), (3, []), (4, []), (5, []), (6, []), (9, [0, 1, 2, 3, 4, 5, 6]), (7, [0, 1]), (8, []), (10, [])]]
  | 8 => [[(0, []), (1, [42]), (2, [43])]]
  | 9 => [[(0, [44]), (1, [45])]]
  | 10 => [[(0, []), (1, []), (2, []), (3, [0, 1]), (4, [0, 1]), (5, []), (6, []), (7, [])]]
  | 11 => [[(0, [6, 0]), (1, [54])]]
  | _ => []
theorem c106ok : comp Tryz.prog 55 c106a chkD (Tryz.f106.body.getD .skip) = some (inst c106c) := by kernel_rfl
theorem c106call : callable Tryz.prog 106 = true := by kernel_rfl
theorem c106res : cRess Tryz.prog Tryz.f106.results.toList = some [.cell 2 true 6] := by kernel_rfl
def c116t : Nat → List AI
  | 0 => [⟨0, (some 1), .o (.box 25 (.tmp 0)), none, [0]⟩,
    ⟨1, (some 2), .o (.asg (.cst (.int .i64 0))), none, []⟩]
  | 1 => [⟨0, (some 3), .o (.faddr 0 (.tmp 1)), none, [2]⟩,
    ⟨1, (some 4), .o (.load false 1 (.tmp 3)), none, [3]⟩]
  | 2 => [⟨0, (some 6), .o (.icmp .eql (.tmp 4) (.cst (.int .i64 6))), none, []⟩,
    ⟨1, (some 5), .o (.asg (.tmp 6)), none, [6]⟩]
  | 3 => [⟨0, (some 7), .o (.icmp .eql (.tmp 4) (.cst (.int .i64 8))), none, [5]⟩,
    ⟨1, (some 5), .o (.asg (.tmp 7)), none, [7]⟩]
  | 4 => [⟨0, (some 2), .o (.asg (.cst (.int .i64 0))), none, [5, 4, 1]⟩]
  | 5 => [⟨0, (some 9), .o (.icmp .eql (.tmp 4) (.cst (.int .i64 7))), none, [5, 4]⟩,
    ⟨1, (some 8), .o (.asg (.tmp 9)), none, [9]⟩]
  | 6 => [⟨0, (some 10), .o (.faddr 1 (.tmp 1)), none, [8, 1]⟩,
    ⟨1, (some 11), .o (.load false 1 (.tmp 10)), none, [10]⟩,
    ⟨2, (some 12), .call (.cst (.fn (.func 89) [] [])) [(.tmp 11)], none, [11]⟩,
    ⟨3, (some 2), .o (.asg (.tmp 12)), none, [12]⟩]
  | 7 => [⟨0, (some 2), .o (.asg (.cst (.int .i64 2))), none, [8, 1]⟩]
  | _ => []
def c116c : AC := (.seq (.regT c116t 0) (.seq (.seq (.regT c116t 1) (.block 0 (.seq (.seq (.regT c116t 2) (.cond (.tmp 5) .skip (.regT c116t 3))) (.cond (.tmp 5) (.seq (.regT c116t 4) .ret) (.seq (.regT c116t 5) (.cond (.tmp 8) (.seq (.regT c116t 6) .ret) .skip)))))) (.seq (.regT c116t 7) .ret)))
def c116a : Ann := fun id => match id with
  | 0 => [[(0, [0]), (1, [])]]
  | 1 => [[(0, [2]), (1, [3])]]
  | 2 => [[(0, []), (1, [6])]]
  | 3 => [[(0, [5]), (1, [7])]]
  | 4 => [[(0, [5, 4, 1])]]
  | 5 => [[(0, [5, 4]), (1, [9])]]
  | 6 => [[(0, [8, 1]), (1, [10]), (2, [11]), (3, [12])]]
  | 7 => [[(0, [8, 1])]]
  | _ => []
theorem c116ok : comp Tryz.prog 13 c116a chkD (Tryz.f116.body.getD .skip) = some (inst c116c) := by kernel_rfl
theorem c116call : callable Tryz.prog 116 = true := by kernel_rfl
theorem c116res : cRess Tryz.prog Tryz.f116.results.toList = some [.tmp 2] := by kernel_rfl
def c118t : Nat → List AI
  | 0 => [⟨0, (some 4), .o (.asg (.cst (.str ⟨#[]⟩))), none, []⟩,
    ⟨1, (some 5), .o (.asg (.cst (.bool false))), none, [4]⟩]
  | 1 => [⟨0, (some 6), .o (.move (.tmp 0)), none, [5]⟩,
    ⟨1, (some 7), .o (.move (.tmp 1)), none, []⟩,
    ⟨2, (some 8), .call (.cst (.fn (.func 134) [] [])) [(.tmp 6), (.tmp 7)], none, [7, 6]⟩,
    ⟨3, (some 9), .o (.not (.tmp 8)), none, [8]⟩]
  | 2 => [⟨0, (some 10), .o (.move (.tmp 0)), none, [9, 0, 1]⟩,
    ⟨1, (some 4), .o (.asg (.tmp 10)), none, [10]⟩,
    ⟨2, (some 5), .o (.asg (.cst (.bool false))), none, []⟩]
  | 3 => [⟨0, (some 11), .o (.move (.tmp 0)), none, [0, 9, 5, 4]⟩,
    ⟨1, (some 12), .o (.move (.tmp 1)), none, [1]⟩,
    ⟨2, (some 13), .o (.len true (.tmp 12)), none, [12]⟩,
    ⟨3, (some 14), .o (.sslice (.tmp 11) (some (.tmp 13)) none), none, [13, 11]⟩,
    ⟨4, (some 4), .o (.asg (.tmp 14)), none, [14]⟩,
    ⟨5, (some 5), .o (.asg (.cst (.bool true))), none, []⟩]
  | _ => []
def c118c : AC := (.seq (.regT c118t 0) (.seq (.seq (.regT c118t 1) (.cond (.tmp 9) (.seq (.regT c118t 2) .ret) .skip)) (.seq (.regT c118t 3) .ret)))
def c118a : Ann := fun id => match id with
  | 0 => [[(0, []), (1, [4])]]
  | 1 => [[(0, [5]), (1, []), (2, [7, 6]), (3, [8])]]
  | 2 => [[(0, [9, 0, 1]), (1, [10]), (2, [])]]
  | 3 => [[(0, [0, 9, 5, 4]), (1, [1]), (2, [12]), (3, [13, 11]), (4, [14]), (5, [])]]
  | _ => []
theorem c118ok : comp Tryz.prog 15 c118a chkD (Tryz.f118.body.getD .skip) = some (inst c118c) := by kernel_rfl
theorem c118call : callable Tryz.prog 118 = true := by kernel_rfl
theorem c118res : cRess Tryz.prog Tryz.f118.results.toList = some [.tmp 4, .tmp 5] := by kernel_rfl
def c119t : Nat → List AI
  | 0 => [⟨0, (some 6), .o (.asg (.cst (.int .i64 0))), none, []⟩]
  | 1 => [⟨0, (some 9), .o (.move (.tmp 0)), none, [6, 0]⟩,
    ⟨1, (some 10), .o (.range (.tmp 9)), none, [9]⟩]
  | 2 => [⟨0, (some 11), .o (.next (.tmp 10)), none, [6, 19, 7]⟩,
    ⟨1, (some 12), .o (.extract (.tmp 11) 0), none, []⟩]
  | 3 => [⟨0, (some 13), .o (.extract (.tmp 11) 1), none, [12]⟩,
    ⟨1, (some 14), .o (.extract (.tmp 11) 2), none, [11]⟩,
    ⟨2, (some 7), .o (.asg (.tmp 13)), none, [13]⟩,
    ⟨3, (some 8), .o (.asg (.tmp 14)), none, [14]⟩]
  | 4 => [⟨0, (some 15), .o (.move (.tmp 1)), none, []⟩,
    ⟨1, (some 16), .o (.move (.tmp 8)), none, [8]⟩,
    ⟨2, (some 17), .call (.tmp 15) [(.tmp 16)], none, [16, 15]⟩,
    ⟨3, (some 18), .o (.move (.tmp 2)), none, []⟩,
    ⟨4, (some 19), .o (.bbin false (.tmp 17) (.tmp 18)), none, [18, 17]⟩]
  | 5 => [⟨0, (some 20), .o (.move (.tmp 7)), none, [19, 7, 10, 1, 2]⟩,
    ⟨1, (some 6), .o (.asg (.tmp 20)), none, [20]⟩]
  | 7 => [⟨0, (some 6), .o (.asg (.cst (.int .i64 (-1)))), none, [2, 1, 10, 7, 19]⟩]
  | _ => []
def c119l6 : AC := (.seq (.regT c119t 2) (.seq (.cond (.tmp 12) .skip (.exit 0)) (.block 1 (.seq (.regT c119t 3) (.seq (.regT c119t 4) (.cond (.tmp 19) (.seq (.regT c119t 5) .ret) .skip))))))
def c119c : AC := (.seq (.regT c119t 0) (.seq (.seq (.regT c119t 1) (.block 0 (.loop c119l6))) (.seq (.regT c119t 7) .ret)))
def c119a : Ann := fun id => match id with
  | 0 => [[(0, [])]]
  | 1 => [[(0, [6, 0]), (1, [9])]]
  | 2 => [[(0, [6, 19, 7]), (1, [])]]
  | 3 => [[(0, [12]), (1, [11]), (2, [13]), (3, [14])]]
  | 4 => [[(0, []), (1, [8]), (2, [16, 15]), (3, []), (4, [18, 17])]]
  | 5 => [[(0, [19, 7, 10, 1, 2]), (1, [20])]]
  | 6 => [[(0, [2, 1, 10, 7, 19])]]
  | _ => []
theorem c119ok : comp Tryz.prog 21 c119a chkD (Tryz.f119.body.getD .skip) = some (inst c119c) := by kernel_rfl
theorem c119call : callable Tryz.prog 119 = true := by kernel_rfl
theorem c119res : cRess Tryz.prog Tryz.f119.results.toList = some [.tmp 6] := by kernel_rfl
def c120t : Nat → List AI
  | 0 => [⟨0, (some 4), .o (.alloc [(.bool false), (.sl true 0 [])] 111), none, []⟩]
  | 1 => [⟨0, (some 6), .o (.move (.tmp 1)), none, [1]⟩,
    ⟨1, (some 7), .call (.cst (.fn (.func 135) [] [])) [(.tmp 6)], none, [6]⟩,
    ⟨2, (some 5), .o (.asg (.tmp 7)), none, [7]⟩]
  | 2 => [⟨0, (some 8), .o (.move (.tmp 0)), none, [0]⟩,
    ⟨1, (some 9), .o (.move (.tmp 8)), none, [8]⟩,
    ⟨2, (some 10), .o (.move (.tmp 5)), (some (9, true)), []⟩,
    ⟨3, (some 11), .o (.len false (.tmp 10)), (some (9, true)), [10]⟩,
    ⟨4, (some 12), .o (.icmp .gtr (.tmp 11) (.cst (.int .i64 0))), (some (9, true)), [11]⟩,
    ⟨5, (some 13), .o (.pick (.tmp 9) (.tmp 12) (.cst (.bool false))), none, [12, 9]⟩,
    ⟨6, (some 14), .o (.move (.tmp 5)), none, [5]⟩,
    ⟨7, (some 15), .o (.build [(.bool false), (.sl true 0 [])] [(0, 1, (.tmp 13)), (1, 1, (.tmp 14))]), none, [14, 13]⟩,
    ⟨8, none, .o (.store 2 (.tmp 4) (.tmp 15)), none, [15]⟩]
  | _ => []
def c120c : AC := (.seq (.regT c120t 0) (.seq (.regT c120t 1) (.seq (.regT c120t 2) .ret)))
def c120a : Ann := fun id => match id with
  | 0 => [[(0, [])]]
  | 1 => [[(0, [1]), (1, [6]), (2, [7])]]
  | 2 => [[(0, [0]), (1, [8]), (2, []), (3, [10]), (4, [11]), (5, [12, 9]), (6, [5]), (7, [14, 13]), (8, [15])]]
  | _ => []
theorem c120ok : comp Tryz.prog 16 c120a chkD (Tryz.f120.body.getD .skip) = some (inst c120c) := by kernel_rfl
theorem c120call : callable Tryz.prog 120 = true := by kernel_rfl
theorem c120res : cRess Tryz.prog Tryz.f120.results.toList = some [.cell 4 true 2] := by kernel_rfl
def c121t : Nat → List AI
  | 0 => [⟨0, (some 2), .o (.alloc [(.int .i64 0), (.str ⟨#[]⟩), (.int .i64 0), (.int .i64 0), (.sl true 0 []), (.sl true 0 [])] 25), none, []⟩,
    ⟨1, (some 3), .o (.asg (.cst (.bool false))), none, []⟩]
  | 1 => [⟨0, (some 4), .o (.move (.tmp 0)), none, [3]⟩,
    ⟨1, (some 5), .o (.move (.tmp 0)), none, [0]⟩,
    ⟨2, (some 6), .o (.mkfn (.func 137) [(.tmp 5)] []), none, [5]⟩,
    ⟨3, (some 7), .call (.cst (.fn (.func 136) [] [])) [(.tmp 4), (.cst (.int .i64 2)), (.cst (.bool true)), (.tmp 6)], none, [6, 4]⟩,
    ⟨4, (some 8), .o (.extract (.tmp 7) 0), none, []⟩,
    ⟨5, (some 9), .o (.extract (.tmp 7) 1), none, [7]⟩,
    ⟨6, none, .o (.store 6 (.tmp 2) (.tmp 8)), none, [8]⟩,
    ⟨7, (some 3), .o (.asg (.tmp 9)), none, [9]⟩]
  | _ => []
def c121c : AC := (.seq (.regT c121t 0) (.seq (.regT c121t 1) .ret))
def c121a : Ann := fun id => match id with
  | 0 => [[(0, []), (1, [])]]
  | 1 => [[(0, [3]), (1, [0]), (2, [5]), (3, [6, 4]), (4, []), (5, [7]), (6, [8]), (7, [9])]]
  | _ => []
theorem c121ok : comp Tryz.prog 10 c121a chkD (Tryz.f121.body.getD .skip) = some (inst c121c) := by kernel_rfl
theorem c121call : callable Tryz.prog 121 = true := by kernel_rfl
theorem c121res : cRess Tryz.prog Tryz.f121.results.toList = some [.cell 2 true 6, .tmp 3] := by kernel_rfl
def c122t : Nat → List AI
  | 0 => [⟨0, (some 2), .o (.alloc [(.int .i64 0), (.str ⟨#[]⟩), (.int .i64 0), (.int .i64 0), (.sl true 0 []), (.sl true 0 [])] 25), none, []⟩]
  | 1 => [⟨0, (some 9), .o (.move (.tmp 0)), none, []⟩,
    ⟨1, (some 10), .o (.nilc (.tmp 9)), none, [9]⟩,
    ⟨2, (some 11), .o (.faddr 0 (.tmp 10)), none, [10]⟩,
    ⟨3, (some 12), .o (.load false 1 (.tmp 11)), none, [11]⟩,
    ⟨4, (some 13), .o (.iaddr 3 (.tmp 12) (.cst (.int .i64 0))), none, [12]⟩,
    ⟨5, (some 14), .o (.load true 3 (.tmp 13)), none, [13]⟩,
    ⟨6, (some 3), .o (.alloc [(.int .i64 0), (.str ⟨#[]⟩), (.int .i64 0)] 79), none, []⟩,
    ⟨7, none, .o (.store 3 (.tmp 3) (.tmp 14)), none, [14]⟩]
  | 2 => [⟨0, (some 15), .o (.faddr 2 (.tmp 3)), none, []⟩,
    ⟨1, (some 16), .o (.load false 1 (.tmp 15)), none, [15]⟩,
    ⟨2, (some 17), .o (.build [(.int .i64 0), (.str ⟨#[]⟩), (.int .i64 0), (.int .i64 0), (.sl true 0 []), (.sl true 0 [])] [(0, 1, (.cst (.int .i64 9))), (2, 1, (.tmp 16))]), none, [16]⟩,
    ⟨3, (some 4), .o (.alloc [(.int .i64 0), (.str ⟨#[]⟩), (.int .i64 0), (.int .i64 0), (.sl true 0 []), (.sl true 0 [])] 25), none, []⟩,
    ⟨4, none, .o (.store 6 (.tmp 4) (.tmp 17)), none, [17]⟩]
  | 3 => [⟨0, (some 18), .o (.faddr 0 (.tmp 3)), none, [3]⟩,
    ⟨1, (some 19), .o (.load false 1 (.tmp 18)), none, [18]⟩]
  | 4 => [⟨0, (some 23), .o (.icmp .eql (.tmp 19) (.cst (.int .i64 1))), none, []⟩,
    ⟨1, (some 22), .o (.asg (.tmp 23)), none, [23]⟩]
  | 5 => [⟨0, (some 24), .o (.move (.tmp 0)), none, [22, 19, 0]⟩,
    ⟨1, (some 25), .call (.cst (.fn (.func 39) [] [])) [(.tmp 24)], none, [24]⟩,
    ⟨2, (some 26), .o (.field false 1 1 (.tmp 25)), none, [25]⟩,
    ⟨3, (some 27), .o (.faddr 1 (.tmp 4)), none, []⟩,
    ⟨4, none, .o (.store 1 (.tmp 27) (.tmp 26)), none, [27, 26]⟩]
  | 6 => [⟨0, (some 29), .o (.icmp .eql (.tmp 19) (.cst (.int .i64 3))), none, [22]⟩,
    ⟨1, (some 28), .o (.asg (.tmp 29)), none, [29]⟩]
  | 7 => [⟨0, (some 30), .o (.move (.tmp 0)), none, [28, 19]⟩,
    ⟨1, (some 31), .call (.cst (.fn (.func 39) [] [])) [(.tmp 30)], none, [30]⟩,
    ⟨2, (some 32), .o (.field false 1 1 (.tmp 31)), none, [31]⟩,
    ⟨3, (some 33), .o (.faddr 1 (.tmp 4)), none, []⟩,
    ⟨4, none, .o (.store 1 (.tmp 33) (.tmp 32)), none, [33, 32]⟩]
  | 8 => [⟨0, (some 35), .o (.move (.tmp 0)), none, [0]⟩,
    ⟨1, (some 36), .call (.cst (.fn (.func 138) [] [])) [(.tmp 35)], none, [35]⟩,
    ⟨2, (some 34), .o (.move (.tmp 36)), none, [36]⟩,
    ⟨3, (some 37), .o (.extract (.tmp 34) 0), none, []⟩,
    ⟨4, (some 38), .o (.extract (.tmp 34) 1), none, [34]⟩,
    ⟨5, (some 5), .o (.alloc [(.int .i64 0), (.str ⟨#[]⟩), (.int .i64 0), (.int .i64 0), (.sl true 0 []), (.sl true 0 [])] 25), none, []⟩,
    ⟨6, none, .o (.store 6 (.tmp 5) (.tmp 37)), none, [37]⟩,
    ⟨7, (some 6), .o (.asg (.tmp 38)), none, [38]⟩]
  | 9 => [⟨0, (some 39), .o (.load true 6 (.tmp 5)), none, [6, 5]⟩,
    ⟨1, (some 40), .o (.bslice 25 true 6 1 [(.int .i64 0), (.str ⟨#[]⟩), (.int .i64 0), (.int .i64 0), (.sl true 0 []), (.sl true 0 [])] [(0, 6, (.tmp 39))]), none, [39]⟩,
    ⟨2, (some 41), .o (.faddr 5 (.tmp 4)), none, []⟩,
    ⟨3, none, .o (.store 1 (.tmp 41) (.tmp 40)), none, [41, 40]⟩]
  | 10 => [⟨0, (some 43), .o (.icmp .eql (.tmp 19) (.cst (.int .i64 2))), none, [28, 19]⟩,
    ⟨1, (some 42), .o (.asg (.tmp 43)), none, [43]⟩]
  | 11 => [⟨0, (some 44), .o (.move (.tmp 0)), none, [42]⟩,
    ⟨1, (some 45), .call (.cst (.fn (.func 40) [] [])) [(.tmp 44)], none, [44]⟩,
    ⟨2, (some 46), .o (.icmp .eql (.tmp 45) (.cst (.int .i64 2))), none, [45]⟩]
  | 12 => [⟨0, (some 47), .o (.faddr 1 (.tmp 4)), none, []⟩,
    ⟨1, (some 48), .o (.load false 1 (.tmp 47)), none, []⟩,
    ⟨2, (some 49), .o (.move (.tmp 0)), none, []⟩,
    ⟨3, (some 50), .call (.cst (.fn (.func 39) [] [])) [(.tmp 49)], none, [0, 1]⟩,
    ⟨4, (some 51), .o (.field false 1 1 (.tmp 50)), none, []⟩,
    ⟨5, (some 52), .o (.sbin .add (.tmp 48) (.tmp 51)), none, []⟩,
    ⟨6, (some 53), .o (.faddr 1 (.tmp 4)), none, []⟩,
    ⟨7, none, .o (.store 1 (.tmp 53) (.tmp 52)), none, []⟩]
  | 13 => [⟨0, (some 55), .o (.move (.tmp 0)), none, []⟩,
    ⟨1, (some 56), .call (.cst (.fn (.func 137) [] [])) [(.tmp 55)], none, [55]⟩,
    ⟨2, (some 54), .o (.move (.tmp 56)), none, [56]⟩,
    ⟨3, (some 57), .o (.extract (.tmp 54) 0), none, []⟩,
    ⟨4, (some 58), .o (.extract (.tmp 54) 1), none, [54]⟩,
    ⟨5, (some 7), .o (.alloc [(.int .i64 0), (.str ⟨#[]⟩), (.int .i64 0), (.int .i64 0), (.sl true 0 []), (.sl true 0 [])] 25), none, []⟩,
    ⟨6, none, .o (.store 6 (.tmp 7) (.tmp 57)), none, [57]⟩,
    ⟨7, (some 8), .o (.asg (.tmp 58)), none, [58]⟩]
  | 14 => [⟨0, (some 59), .o (.faddr 5 (.tmp 4)), none, [8]⟩,
    ⟨1, (some 60), .o (.load false 1 (.tmp 59)), none, [59]⟩,
    ⟨2, (some 61), .o (.load true 6 (.tmp 7)), none, [7]⟩,
    ⟨3, (some 62), .o (.bslice 25 true 6 1 [(.int .i64 0), (.str ⟨#[]⟩), (.int .i64 0), (.int .i64 0), (.sl true 0 []), (.sl true 0 [])] [(0, 6, (.tmp 61))]), none, [61]⟩,
    ⟨4, (some 63), .o (.append 25 6 88 [(.int .i64 0), (.str ⟨#[]⟩), (.int .i64 0), (.int .i64 0), (.sl true 0 []), (.sl true 0 [])] (.tmp 60) (.tmp 62)), none, [62, 60]⟩,
    ⟨5, (some 64), .o (.faddr 5 (.tmp 4)), none, []⟩,
    ⟨6, none, .o (.store 1 (.tmp 64) (.tmp 63)), none, [64, 63]⟩]
  | 16 => [⟨0, (some 20), .o (.move (.tmp 0)), none, [42, 0]⟩,
    ⟨1, (some 21), .call (.cst (.fn (.func 47) [] [])) [(.tmp 20), (.cst (.int .i64 20))], none, [20]⟩]
  | 17 => [⟨0, (some 65), .o (.load true 6 (.tmp 4)), none, [21, 0, 4]⟩,
    ⟨1, none, .o (.store 6 (.tmp 2) (.tmp 65)), none, [65]⟩]
  | _ => []
def c122l15 : AC := (.seq (.seq (.regT c122t 11) (.cond (.tmp 46) .skip (.exit 1))) (.block 2 (.seq (.regD [c122t 12]) (.seq (.regT c122t 13) (.regT c122t 14)))))
def c122c : AC := (.seq (.regT c122t 0) (.seq (.regT c122t 1) (.seq (.regT c122t 2) (.seq (.seq (.regT c122t 3) (.block 0 (.seq (.regT c122t 4) (.cond (.tmp 22) (.regT c122t 5) (.seq (.regT c122t 6) (.cond (.tmp 28) (.seq (.regT c122t 7) (.seq (.regT c122t 8) (.regT c122t 9))) (.seq (.regT c122t 10) (.cond (.tmp 42) (.block 1 (.loop c122l15)) (.regT c122t 16))))))))) (.seq (.regT c122t 17) .ret)))))
def c122a : Ann := fun id => match id with
  | 0 => [[(0, [])]]
  | 1 => [[(0, []), (1, [9]), (2, [10]), (3, [11]), (4, [12]), (5, [13]), (6, []), (7, [14])]]
  | 2 => [[(0, []), (1, [15]), (2, [16]), (3, []), (4, [17])]]
  | 3 => [[(0, [3]), (1, [18])]]
  | 5 => [[(0, []), (1, [23])]]
  | 6 => [[(0, [22, 19, 0]), (1, [24]), (2, [25]), (3, []), (4, [27, 26])]]
  | 7 => [[(0, [22]), (1, [29])]]
  | 8 => [[(0, [28, 19]), (1, [30]), (2, [31]), (3, []), (4, [33, 32])]]
  | 9 => [[(0, [0]), (1, [35]), (2, [36]), (3, []), (4, [34]), (5, []), (6, [37]), (7, [38])]]
  | 10 => [[(0, [6, 5]), (1, [39]), (2, []), (3, [41, 40])]]
  | 11 => [[(0, [28, 19]), (1, [43])]]
  | 12 => [[(0, [42]), (1, [44]), (2, [45])]]
  | 13 => [[(0, []), (1, []), (2, []), (3, [0, 1]), (4, []), (5, []), (6, []), (7, [])]]
  | 14 => [[(0, []), (1, [55]), (2, [56]), (3, []), (4, [54]), (5, []), (6, [57]), (7, [58])]]
  | 15 => [[(0, [8]), (1, [59]), (2, [7]), (3, [61]), (4, [62, 60]), (5, []), (6, [64, 63])]]
  | 4 => [[(0, [42, 0]), (1, [20])]]
  | 16 => [[(0, [21, 0, 4]), (1, [65])]]
  | _ => []
theorem c122ok : comp Tryz.prog 66 c122a chkD (Tryz.f122.body.getD .skip) = some (inst c122c) := by kernel_rfl
theorem c122call : callable Tryz.prog 122 = true := by kernel_rfl
theorem c122res : cRess Tryz.prog Tryz.f122.results.toList = some [.cell 2 true 6] := by kernel_rfl
def c134t : Nat → List AI
  | 0 => [⟨0, (some 4), .o (.asg (.cst (.bool false))), none, []⟩]
  | 1 => [⟨0, (some 5), .o (.move (.tmp 0)), none, [4]⟩,
    ⟨1, (some 6), .o (.len true (.tmp 5)), none, [5]⟩,
    ⟨2, (some 7), .o (.move (.tmp 1)), none, []⟩,
    ⟨3, (some 8), .o (.len true (.tmp 7)), none, [7]⟩,
    ⟨4, (some 9), .o (.icmp .geq (.tmp 6) (.tmp 8)), none, [8, 6]⟩,
    ⟨5, (some 10), .o (.move (.tmp 9)), none, [9]⟩,
    ⟨6, (some 11), .o (.move (.tmp 0)), (some (10, true)), [0]⟩,
    ⟨7, (some 12), .o (.move (.tmp 1)), (some (10, true)), []⟩,
    ⟨8, (some 13), .o (.len true (.tmp 12)), (some (10, true)), [12]⟩,
    ⟨9, (some 14), .o (.sslice (.tmp 11) none (some (.tmp 13))), (some (10, true)), [13, 11]⟩,
    ⟨10, (some 15), .o (.move (.tmp 1)), (some (10, true)), [1]⟩,
    ⟨11, (some 16), .o (.sbin .eql (.tmp 14) (.tmp 15)), (some (10, true)), [15, 14]⟩,
    ⟨12, (some 17), .o (.pick (.tmp 10) (.tmp 16) (.cst (.bool false))), none, [16, 10]⟩,
    ⟨13, (some 4), .o (.asg (.tmp 17)), none, [17]⟩]
  | _ => []
def c134c : AC := (.seq (.regT c134t 0) (.seq (.regT c134t 1) .ret))
def c134a : Ann := fun id => match id with
  | 0 => [[(0, [])]]
  | 1 => [[(0, [4]), (1, [5]), (2, []), (3, [7]), (4, [8, 6]), (5, [9]), (6, [0]), (7, []), (8, [12]), (9, [13, 11]), (10, [1]), (11, [15, 14]), (12, [16, 10]), (13, [17])]]
  | _ => []
theorem c134ok : comp Tryz.prog 18 c134a chkD (Tryz.f134.body.getD .skip) = some (inst c134c) := by kernel_rfl
theorem c134call : callable Tryz.prog 134 = true := by kernel_rfl
theorem c134res : cRess Tryz.prog Tryz.f134.results.toList = some [.tmp 4] := by kernel_rfl
def c135t : Nat → List AI
  | 0 => [⟨0, (some 2), .o (.asg (.cst (.sl true 0 []))), none, []⟩]
  | 1 => [⟨0, (some 3), .o (.alloc [(.sl true 0 [])] 67), none, [2]⟩]
  | 2 => [⟨0, (some 7), .o (.move (.tmp 0)), none, [0]⟩,
    ⟨1, (some 8), .call (.cst (.fn (.func 100) [] [])) [(.tmp 7)], none, [7]⟩,
    ⟨2, (some 9), .call (.cst (.fn (.func 145) [] [])) [(.tmp 8)], none, [8]⟩]
  | 3 => [⟨0, (some 5), .o (.asg (.tmp 11)), none, [11, 10, 9]⟩]
  | 4 => [⟨0, (some 12), .o (.move (.tmp 5)), none, []⟩,
    ⟨1, (some 13), .o (.shift .shr (.tmp 12) (.cst (.int .u64 24))), none, [12]⟩,
    ⟨2, (some 14), .o (.conv .u8 (.tmp 13)), none, [13]⟩,
    ⟨3, (some 15), .o (.move (.tmp 5)), none, []⟩,
    ⟨4, (some 16), .o (.shift .shr (.tmp 15) (.cst (.int .u64 16))), none, [15]⟩,
    ⟨5, (some 17), .o (.conv .u8 (.tmp 16)), none, [16]⟩,
    ⟨6, (some 18), .o (.move (.tmp 5)), none, []⟩,
    ⟨7, (some 19), .o (.shift .shr (.tmp 18) (.cst (.int .u64 8))), none, [18]⟩,
    ⟨8, (some 20), .o (.conv .u8 (.tmp 19)), none, [19]⟩,
    ⟨9, (some 21), .o (.move (.tmp 5)), none, [5]⟩,
    ⟨10, (some 22), .o (.conv .u8 (.tmp 21)), none, [21]⟩,
    ⟨11, (some 23), .o (.build [(.int .u8 0), (.int .u8 0), (.int .u8 0), (.int .u8 0)] [(0, 1, (.tmp 14)), (1, 1, (.tmp 17)), (2, 1, (.tmp 20)), (3, 1, (.tmp 22))]), none, [22, 20, 17, 14]⟩,
    ⟨12, (some 6), .o (.alloc [(.int .u8 0), (.int .u8 0), (.int .u8 0), (.int .u8 0)] 165), none, []⟩,
    ⟨13, none, .o (.store 4 (.tmp 6) (.tmp 23)), none, [23]⟩]
  | 5 => [⟨0, (some 24), .o (.load false 1 (.tmp 3)), none, []⟩,
    ⟨1, (some 25), .o (.aslice 4 (.tmp 6)), none, [0]⟩,
    ⟨2, (some 26), .o (.append 5 1 1 [(.int .u8 0)] (.tmp 24) (.tmp 25)), none, []⟩,
    ⟨3, none, .o (.store 1 (.tmp 3) (.tmp 26)), none, []⟩]
  | 7 => [⟨0, (some 27), .o (.load false 1 (.tmp 3)), none, [9]⟩,
    ⟨1, (some 28), .o (.len false (.tmp 27)), none, [27]⟩,
    ⟨2, (some 29), .o (.icmp .gtr (.tmp 28) (.cst (.int .i64 0))), none, [28]⟩,
    ⟨3, (some 30), .o (.move (.tmp 29)), none, [29]⟩,
    ⟨4, (some 31), .o (.load false 1 (.tmp 3)), (some (30, true)), []⟩,
    ⟨5, (some 32), .o (.iaddr 1 (.tmp 31) (.cst (.int .i64 0))), (some (30, true)), []⟩,
    ⟨6, (some 33), .o (.load false 1 (.tmp 32)), (some (30, true)), []⟩,
    ⟨7, (some 34), .o (.icmp .eql (.tmp 33) (.cst (.int .u8 0))), (some (30, true)), []⟩,
    ⟨8, (some 35), .o (.pick (.tmp 30) (.tmp 34) (.cst (.bool false))), none, [30]⟩]
  | 8 => [⟨0, (some 36), .o (.load false 1 (.tmp 3)), none, [35]⟩,
    ⟨1, (some 37), .o (.lslice 1 (.tmp 36) (some (.cst (.int .i64 1))) none), none, [36]⟩,
    ⟨2, none, .o (.store 1 (.tmp 3) (.tmp 37)), none, [37]⟩]
  | 10 => [⟨0, (some 38), .o (.load false 1 (.tmp 3)), none, [31, 32, 33, 34, 3]⟩,
    ⟨1, (some 39), .call (.cst (.fn (.func 146) [] [])) [(.tmp 38)], none, [38]⟩,
    ⟨2, (some 2), .o (.asg (.tmp 39)), none, [39]⟩]
  | _ => []
def c135r6a : AC := (.regT c135t 3)
def c135r6b : AC := (.block 1 (.seq (.regT c135t 4) (.regD [c135t 5])))
def c135l9 : AC := (.seq (.seq (.regT c135t 7) (.cond (.tmp 35) .skip (.exit 2))) (.block 3 (.regT c135t 8)))
def c135c : AC := (.seq (.regT c135t 0) (.seq (.regT c135t 1) (.seq (.seq (.regT c135t 2) (.block 0 (.rangeF (.tmp 9) [10, 11] c135r6a c135r6b))) (.seq (.block 2 (.loop c135l9)) (.seq (.regT c135t 10) .ret)))))
def c135a : Ann := fun id => match id with
  | 0 => [[(0, [])]]
  | 1 => [[(0, [2])]]
  | 2 => [[(0, [0]), (1, [7]), (2, [8])]]
  | 3 => [[(0, [11, 10, 9])]]
  | 4 => [[(0, []), (1, [12]), (2, [13]), (3, []), (4, [15]), (5, [16]), (6, []), (7, [18]), (8, [19]), (9, [5]), (10, [21]), (11, [22, 20, 17, 14]), (12, []), (13, [23])]]
  | 5 => [[(0, []), (1, [0]), (2, []), (3, [])]]
  | 6 => [[(0, [9]), (1, [27]), (2, [28]), (3, [29]), (4, []), (5, []), (6, []), (7, []), (8, [30])]]
  | 7 => [[(0, [35]), (1, [36]), (2, [37])]]
  | 8 => [[(0, [31, 32, 33, 34, 3]), (1, [38]), (2, [39])]]
  | _ => []
theorem c135ok : comp Tryz.prog 40 c135a chkD (Tryz.f135.body.getD .skip) = some (inst c135c) := by kernel_rfl
theorem c135call : callable Tryz.prog 135 = true := by kernel_rfl
theorem c135res : cRess Tryz.prog Tryz.f135.results.toList = some [.tmp 2] := by kernel_rfl
def c136t : Nat → List AI
  | 0 => [⟨0, (some 8), .o (.alloc [(.int .i64 0), (.str ⟨#[]⟩), (.int .i64 0), (.int .i64 0), (.sl true 0 []), (.sl true 0 [])] 25), none, []⟩,
    ⟨1, (some 9), .o (.asg (.cst (.bool false))), none, []⟩]
  | 1 => [⟨0, (some 13), .o (.move (.tmp 3)), none, [9, 3]⟩,
    ⟨1, (some 14), .call (.tmp 13) [], none, [13]⟩,
    ⟨2, (some 12), .o (.move (.tmp 14)), none, [14]⟩,
    ⟨3, (some 15), .o (.extract (.tmp 12) 0), none, []⟩,
    ⟨4, (some 16), .o (.extract (.tmp 12) 1), none, [12]⟩,
    ⟨5, (some 10), .o (.alloc [(.int .i64 0), (.str ⟨#[]⟩), (.int .i64 0), (.int .i64 0), (.sl true 0 []), (.sl true 0 [])] 25), none, []⟩,
    ⟨6, none, .o (.store 6 (.tmp 10) (.tmp 15)), none, [15]⟩,
    ⟨7, (some 11), .o (.asg (.tmp 16)), none, [16]⟩]
  | 2 => [⟨0, (some 17), .o (.move (.tmp 0)), none, [24]⟩,
    ⟨1, (some 18), .call (.cst (.fn (.func 40) [] [])) [(.tmp 17)], none, [17]⟩,
    ⟨2, (some 19), .o (.move (.tmp 1)), none, []⟩,
    ⟨3, (some 20), .o (.icmp .eql (.tmp 18) (.tmp 19)), none, [19, 18]⟩]
  | 3 => [⟨0, (some 21), .o (.move (.tmp 0)), none, [20, 11]⟩,
    ⟨1, (some 22), .o (.load true 6 (.tmp 10)), none, []⟩,
    ⟨2, (some 23), .call (.cst (.fn (.func 147) [] [])) [(.tmp 21), (.tmp 22)], none, [22, 21]⟩,
    ⟨3, none, .o (.store 6 (.tmp 10) (.tmp 23)), none, [23]⟩,
    ⟨4, (some 11), .o (.asg (.cst (.bool true))), none, []⟩]
  | 4 => [⟨0, (some 24), .o (.move (.tmp 2)), none, []⟩]
  | 6 => [⟨0, (some 25), .o (.load true 6 (.tmp 10)), none, [24, 10, 0, 1, 2]⟩,
    ⟨1, (some 26), .o (.move (.tmp 11)), none, [11]⟩,
    ⟨2, none, .o (.store 6 (.tmp 8) (.tmp 25)), none, [25]⟩,
    ⟨3, (some 9), .o (.asg (.tmp 26)), none, [26]⟩]
  | _ => []
def c136l5 : AC := (.seq (.seq (.regT c136t 2) (.cond (.tmp 20) .skip (.exit 0))) (.block 1 (.seq (.regT c136t 3) (.seq (.regT c136t 4) (.cond (.tmp 24) (.exit 0) .skip)))))
def c136c : AC := (.seq (.regT c136t 0) (.seq (.regT c136t 1) (.seq (.block 0 (.loop c136l5)) (.seq (.regT c136t 6) .ret))))
def c136a : Ann := fun id => match id with
  | 0 => [[(0, []), (1, [])]]
  | 1 => [[(0, [9, 3]), (1, [13]), (2, [14]), (3, []), (4, [12]), (5, []), (6, [15]), (7, [16])]]
  | 2 => [[(0, [24]), (1, [17]), (2, []), (3, [19, 18])]]
  | 3 => [[(0, [20, 11]), (1, []), (2, [22, 21]), (3, [23]), (4, [])]]
  | 4 => [[(0, [])]]
  | 5 => [[(0, [24, 10, 0, 1, 2]), (1, [11]), (2, [25]), (3, [26])]]
  | _ => []
theorem c136ok : comp Tryz.prog 27 c136a chkD (Tryz.f136.body.getD .skip) = some (inst c136c) := by kernel_rfl
theorem c136call : callable Tryz.prog 136 = true := by kernel_rfl
theorem c136res : cRess Tryz.prog Tryz.f136.results.toList = some [.cell 8 true 6, .tmp 9] := by kernel_rfl
def c137t : Nat → List AI
  | 0 => [⟨0, (some 2), .o (.alloc [(.int .i64 0), (.str ⟨#[]⟩), (.int .i64 0), (.int .i64 0), (.sl true 0 []), (.sl true 0 [])] 25), none, []⟩,
    ⟨1, (some 3), .o (.asg (.cst (.bool false))), none, []⟩]
  | 1 => [⟨0, (some 4), .o (.move (.tmp 0)), none, [3]⟩,
    ⟨1, (some 5), .o (.move (.tmp 0)), none, [0]⟩,
    ⟨2, (some 6), .o (.mkfn (.func 138) [(.tmp 5)] []), none, [5]⟩,
    ⟨3, (some 7), .call (.cst (.fn (.func 136) [] [])) [(.tmp 4), (.cst (.int .i64 3)), (.cst (.bool false)), (.tmp 6)], none, [6, 4]⟩,
    ⟨4, (some 8), .o (.extract (.tmp 7) 0), none, []⟩,
    ⟨5, (some 9), .o (.extract (.tmp 7) 1), none, [7]⟩,
    ⟨6, none, .o (.store 6 (.tmp 2) (.tmp 8)), none, [8]⟩,
    ⟨7, (some 3), .o (.asg (.tmp 9)), none, [9]⟩]
  | _ => []
def c137c : AC := (.seq (.regT c137t 0) (.seq (.regT c137t 1) .ret))
def c137a : Ann := fun id => match id with
  | 0 => [[(0, []), (1, [])]]
  | 1 => [[(0, [3]), (1, [0]), (2, [5]), (3, [6, 4]), (4, []), (5, [7]), (6, [8]), (7, [9])]]
  | _ => []
theorem c137ok : comp Tryz.prog 10 c137a chkD (Tryz.f137.body.getD .skip) = some (inst c137c) := by kernel_rfl
theorem c137call : callable Tryz.prog 137 = true := by kernel_rfl
theorem c137res : cRess Tryz.prog Tryz.f137.results.toList = some [.cell 2 true 6, .tmp 3] := by kernel_rfl
def c138t : Nat → List AI
  | 0 => [⟨0, (some 2), .o (.alloc [(.int .i64 0), (.str ⟨#[]⟩), (.int .i64 0), (.int .i64 0), (.sl true 0 []), (.sl true 0 [])] 25), none, []⟩,
    ⟨1, (some 3), .o (.asg (.cst (.bool false))), none, []⟩]
  | 1 => [⟨0, (some 4), .o (.move (.tmp 0)), none, [3]⟩,
    ⟨1, (some 5), .o (.move (.tmp 0)), none, [0]⟩,
    ⟨2, (some 6), .o (.mkfn (.func 148) [(.tmp 5)] []), none, [5]⟩,
    ⟨3, (some 7), .call (.cst (.fn (.func 136) [] [])) [(.tmp 4), (.cst (.int .i64 1)), (.cst (.bool false)), (.tmp 6)], none, [6, 4]⟩,
    ⟨4, (some 8), .o (.extract (.tmp 7) 0), none, []⟩,
    ⟨5, (some 9), .o (.extract (.tmp 7) 1), none, [7]⟩,
    ⟨6, none, .o (.store 6 (.tmp 2) (.tmp 8)), none, [8]⟩,
    ⟨7, (some 3), .o (.asg (.tmp 9)), none, [9]⟩]
  | _ => []
def c138c : AC := (.seq (.regT c138t 0) (.seq (.regT c138t 1) .ret))
def c138a : Ann := fun id => match id with
  | 0 => [[(0, []), (1, [])]]
  | 1 => [[(0, [3]), (1, [0]), (2, [5]), (3, [6, 4]), (4, []), (5, [7]), (6, [8]), (7, [9])]]
  | _ => []
theorem c138ok : comp Tryz.prog 10 c138a chkD (Tryz.f138.body.getD .skip) = some (inst c138c) := by kernel_rfl
theorem c138call : callable Tryz.prog 138 = true := by kernel_rfl
theorem c138res : cRess Tryz.prog Tryz.f138.results.toList = some [.cell 2 true 6, .tmp 3] := by kernel_rfl
def c145t : Nat → List AI
  | 0 => [⟨0, (some 1), .o (.box 134 (.tmp 0)), none, [0]⟩,
    ⟨1, (some 2), .o (.asg (.cst .nilF)), none, []⟩]
  | 1 => [⟨0, (some 3), .o (.mkfn (.func 154) [] [(.tmp 1)]), none, [2, 1]⟩,
    ⟨1, (some 2), .o (.asg (.tmp 3)), none, [3]⟩]
  | _ => []
def c145c : AC := (.seq (.regT c145t 0) (.seq (.regT c145t 1) .ret))
def c145a : Ann := fun id => match id with
  | 0 => [[(0, [0]), (1, [])]]
  | 1 => [[(0, [2, 1]), (1, [3])]]
  | _ => []
theorem c145ok : comp Tryz.prog 4 c145a chkD (Tryz.f145.body.getD .skip) = some (inst c145c) := by kernel_rfl
theorem c145call : callable Tryz.prog 145 = true := by kernel_rfl
theorem c145res : cRess Tryz.prog Tryz.f145.results.toList = some [.tmp 2] := by kernel_rfl
def c146t : Nat → List AI
  | 0 => [⟨0, (some 2), .o (.asg (.cst (.sl true 0 []))), none, []⟩]
  | 1 => [⟨0, (some 3), .o (.move (.tmp 0)), none, [2]⟩,
    ⟨1, (some 4), .o (.eqnil 1 false (.tmp 3)), none, [3]⟩]
  | 2 => [⟨0, (some 2), .o (.asg (.cst (.sl true 0 []))), none, [4, 0]⟩]
  | 3 => [⟨0, (some 5), .o (.bslice 5 false 1 0 [(.int .u8 0)] []), none, [4, 2]⟩,
    ⟨1, (some 6), .o (.move (.tmp 0)), none, [0]⟩,
    ⟨2, (some 7), .o (.append 5 1 1 [(.int .u8 0)] (.tmp 5) (.tmp 6)), none, [6, 5]⟩,
    ⟨3, (some 2), .o (.asg (.tmp 7)), none, [7]⟩]
  | _ => []
def c146c : AC := (.seq (.regT c146t 0) (.seq (.seq (.regT c146t 1) (.cond (.tmp 4) (.seq (.regT c146t 2) .ret) .skip)) (.seq (.regT c146t 3) .ret)))
def c146a : Ann := fun id => match id with
  | 0 => [[(0, [])]]
  | 1 => [[(0, [2]), (1, [3])]]
  | 2 => [[(0, [4, 0])]]
  | 3 => [[(0, [4, 2]), (1, [0]), (2, [6, 5]), (3, [7])]]
  | _ => []
theorem c146ok : comp Tryz.prog 8 c146a chkD (Tryz.f146.body.getD .skip) = some (inst c146c) := by kernel_rfl
theorem c146call : callable Tryz.prog 146 = true := by kernel_rfl
theorem c146res : cRess Tryz.prog Tryz.f146.results.toList = some [.tmp 2] := by kernel_rfl
def c147t : Nat → List AI
  | 0 => [⟨0, (some 3), .o (.box 25 (.tmp 1)), none, [1]⟩,
    ⟨1, (some 4), .o (.alloc [(.int .i64 0), (.str ⟨#[]⟩), (.int .i64 0), (.int .i64 0), (.sl true 0 []), (.sl true 0 [])] 25), none, []⟩]
  | 1 => [⟨0, (some 6), .o (.move (.tmp 0)), none, [0]⟩,
    ⟨1, (some 7), .call (.cst (.fn (.func 122) [] [])) [(.tmp 6)], none, [6]⟩,
    ⟨2, (some 5), .o (.alloc [(.int .i64 0), (.str ⟨#[]⟩), (.int .i64 0), (.int .i64 0), (.sl true 0 []), (.sl true 0 [])] 25), none, []⟩,
    ⟨3, none, .o (.store 6 (.tmp 5) (.tmp 7)), none, [7]⟩]
  | 2 => [⟨0, (some 8), .o (.faddr 1 (.tmp 5)), none, []⟩,
    ⟨1, (some 9), .o (.load false 1 (.tmp 8)), none, []⟩,
    ⟨2, (some 10), .o (.faddr 2 (.tmp 5)), none, []⟩,
    ⟨3, (some 11), .o (.load false 1 (.tmp 10)), none, []⟩,
    ⟨4, (some 12), .o (.load true 6 (.tmp 3)), none, []⟩,
    ⟨6, (some 14), .o (.faddr 5 (.tmp 5)), none, []⟩,
    ⟨7, (some 15), .o (.load false 1 (.tmp 14)), none, []⟩,
    ⟨5, (some 13), .o (.bslice 25 true 6 1 [(.int .i64 0), (.str ⟨#[]⟩), (.int .i64 0), (.int .i64 0), (.sl true 0 []), (.sl true 0 [])] [(0, 6, (.tmp 12))]), none, [0, 1, 2, 3, 6, 7]⟩,
    ⟨8, (some 16), .o (.append 25 6 88 [(.int .i64 0), (.str ⟨#[]⟩), (.int .i64 0), (.int .i64 0), (.sl true 0 []), (.sl true 0 [])] (.tmp 13) (.tmp 15)), none, [0, 1, 2, 3]⟩,
    ⟨9, (some 17), .o (.build [(.int .i64 0), (.str ⟨#[]⟩), (.int .i64 0), (.int .i64 0), (.sl true 0 []), (.sl true 0 [])] [(0, 1, (.cst (.int .i64 7))), (1, 1, (.tmp 9)), (2, 1, (.tmp 11)), (5, 1, (.tmp 16))]), none, []⟩,
    ⟨10, none, .o (.store 6 (.tmp 4) (.tmp 17)), none, []⟩]
  | _ => []
def c147c : AC := (.seq (.regT c147t 0) (.seq (.regT c147t 1) (.seq (.regD [c147t 2]) .ret)))
def c147a : Ann := fun id => match id with
  | 0 => [[(0, [1]), (1, [])]]
  | 1 => [[(0, [0]), (1, [6]), (2, []), (3, [7])]]
  | 2 => [[(0, []), (1, []), (2, []), (3, []), (4, []), (6, []), (7, []), (5, [0, 1, 2, 3, 6, 7]), (8, [0, 1, 2, 3]), (9, []), (10, [])]]
  | _ => []
theorem c147ok : comp Tryz.prog 18 c147a chkD (Tryz.f147.body.getD .skip) = some (inst c147c) := by kernel_rfl
theorem c147call : callable Tryz.prog 147 = true := by kernel_rfl
theorem c147res : cRess Tryz.prog Tryz.f147.results.toList = some [.cell 4 true 6] := by kernel_rfl
def c148t : Nat → List AI
  | 0 => [⟨0, (some 1), .o (.box 43 (.tmp 0)), none, [0]⟩,
    ⟨1, (some 2), .o (.alloc [(.int .i64 0), (.str ⟨#[]⟩), (.int .i64 0), (.int .i64 0), (.sl true 0 []), (.sl true 0 [])] 25), none, []⟩,
    ⟨2, (some 3), .o (.asg (.cst (.bool false))), none, []⟩]
  | 1 => [⟨0, (some 6), .o (.load false 1 (.tmp 1)), none, [3]⟩,
    ⟨1, (some 7), .o (.nilc (.tmp 6)), none, [6]⟩,
    ⟨2, (some 8), .o (.faddr 0 (.tmp 7)), none, [7]⟩,
    ⟨3, (some 9), .o (.load false 1 (.tmp 8)), none, [8]⟩,
    ⟨4, (some 10), .o (.iaddr 3 (.tmp 9) (.cst (.int .i64 0))), none, [9]⟩,
    ⟨5, (some 11), .o (.load true 3 (.tmp 10)), none, [10]⟩,
    ⟨6, (some 4), .o (.alloc [(.int .i64 0), (.str ⟨#[]⟩), (.int .i64 0)] 79), none, []⟩,
    ⟨7, none, .o (.store 3 (.tmp 4) (.tmp 11)), none, [11]⟩]
  | 2 => [⟨0, (some 12), .o (.faddr 1 (.tmp 4)), none, []⟩,
    ⟨1, (some 13), .o (.load false 1 (.tmp 12)), none, [12]⟩,
    ⟨2, (some 14), .o (.faddr 2 (.tmp 4)), none, []⟩,
    ⟨3, (some 15), .o (.load false 1 (.tmp 14)), none, [14]⟩,
    ⟨4, (some 16), .o (.build [(.int .i64 0), (.str ⟨#[]⟩), (.int .i64 0), (.int .i64 0), (.sl true 0 []), (.sl true 0 [])] [(1, 1, (.tmp 13)), (2, 1, (.tmp 15))]), none, [15, 13]⟩,
    ⟨5, (some 5), .o (.alloc [(.int .i64 0), (.str ⟨#[]⟩), (.int .i64 0), (.int .i64 0), (.sl true 0 []), (.sl true 0 [])] 25), none, []⟩,
    ⟨6, none, .o (.store 6 (.tmp 5) (.tmp 16)), none, [16]⟩]
  | 3 => [⟨0, (some 17), .o (.faddr 0 (.tmp 4)), none, [4]⟩,
    ⟨1, (some 18), .o (.load false 1 (.tmp 17)), none, [17]⟩]
  | 4 => [⟨0, (some 22), .o (.icmp .eql (.tmp 18) (.cst (.int .i64 1))), none, []⟩,
    ⟨1, (some 21), .o (.asg (.tmp 22)), none, [22]⟩]
  | 5 => [⟨0, (some 23), .o (.faddr 0 (.tmp 5)), none, [21, 18]⟩,
    ⟨1, none, .o (.store 1 (.tmp 23) (.cst (.int .i64 5))), none, [23]⟩]
  | 6 => [⟨0, (some 25), .o (.icmp .eql (.tmp 18) (.cst (.int .i64 4))), none, [21]⟩,
    ⟨1, (some 24), .o (.asg (.tmp 25)), none, [25]⟩]
  | 7 => [⟨0, (some 26), .o (.faddr 0 (.tmp 5)), none, [24, 18]⟩,
    ⟨1, none, .o (.store 1 (.tmp 26) (.cst (.int .i64 1))), none, [26]⟩]
  | 8 => [⟨0, (some 28), .o (.icmp .eql (.tmp 18) (.cst (.int .i64 5))), none, [24]⟩,
    ⟨1, (some 27), .o (.asg (.tmp 28)), none, [28]⟩]
  | 9 => [⟨0, (some 29), .o (.faddr 0 (.tmp 5)), none, [27, 18]⟩,
    ⟨1, none, .o (.store 1 (.tmp 29) (.cst (.int .i64 2))), none, [29]⟩]
  | 10 => [⟨0, (some 31), .o (.icmp .eql (.tmp 18) (.cst (.int .i64 6))), none, [27]⟩,
    ⟨1, (some 30), .o (.asg (.tmp 31)), none, [31]⟩]
  | 11 => [⟨0, (some 32), .o (.faddr 0 (.tmp 5)), none, [30, 18]⟩,
    ⟨1, none, .o (.store 1 (.tmp 32) (.cst (.int .i64 3))), none, [32]⟩]
  | 12 => [⟨0, (some 34), .o (.icmp .eql (.tmp 18) (.cst (.int .i64 17))), none, [30]⟩,
    ⟨1, (some 33), .o (.asg (.tmp 34)), none, [34]⟩]
  | 13 => [⟨0, (some 35), .o (.load false 1 (.tmp 1)), none, [33, 18, 5, 1]⟩,
    ⟨1, (some 36), .call (.cst (.fn (.func 155) [] [])) [(.tmp 35)], none, [35]⟩,
    ⟨2, none, .o (.store 6 (.tmp 2) (.tmp 36)), none, [36]⟩,
    ⟨3, (some 3), .o (.asg (.cst (.bool true))), none, []⟩]
  | 14 => [⟨0, (some 38), .o (.icmp .eql (.tmp 18) (.cst (.int .i64 10))), none, [33]⟩,
    ⟨1, (some 37), .o (.asg (.tmp 38)), none, [38]⟩]
  | 15 => [⟨0, (some 39), .o (.load false 1 (.tmp 1)), none, [37, 18, 5, 1]⟩,
    ⟨1, (some 40), .call (.cst (.fn (.func 156) [] [])) [(.tmp 39)], none, [39]⟩,
    ⟨2, none, .o (.store 6 (.tmp 2) (.tmp 40)), none, [40]⟩,
    ⟨3, (some 3), .o (.asg (.cst (.bool true))), none, []⟩]
  | 16 => [⟨0, (some 42), .o (.icmp .eql (.tmp 18) (.cst (.int .i64 8))), none, [37, 18]⟩,
    ⟨1, (some 41), .o (.asg (.tmp 42)), none, [42]⟩]
  | 17 => [⟨0, (some 43), .o (.load false 1 (.tmp 1)), none, [41]⟩,
    ⟨1, (some 44), .o (.mkfn (.func 157) [] [(.tmp 1), (.tmp 5)]), none, [1]⟩,
    ⟨2, (some 45), .call (.cst (.fn (.func 104) [] [])) [(.tmp 43), (.tmp 44)], none, [44, 43]⟩]
  | 18 => [⟨0, (some 46), .o (.load true 6 (.tmp 5)), none, [45, 5]⟩,
    ⟨1, none, .o (.store 6 (.tmp 2) (.tmp 46)), none, [46]⟩,
    ⟨2, (some 3), .o (.asg (.cst (.bool false))), none, []⟩]
  | 19 => [⟨0, (some 19), .o (.load false 1 (.tmp 1)), none, [41]⟩,
    ⟨1, (some 20), .call (.cst (.fn (.func 47) [] [])) [(.tmp 19), (.cst (.int .i64 20))], none, [19]⟩]
  | 20 => [⟨0, (some 47), .o (.load false 1 (.tmp 1)), none, [20, 3, 1]⟩,
    ⟨1, (some 48), .call (.cst (.fn (.func 39) [] [])) [(.tmp 47)], none, [47]⟩]
  | 21 => [⟨0, (some 49), .o (.load true 6 (.tmp 5)), none, [48, 5]⟩,
    ⟨1, none, .o (.store 6 (.tmp 2) (.tmp 49)), none, [49]⟩,
    ⟨2, (some 3), .o (.asg (.cst (.bool true))), none, []⟩]
  | _ => []
def c148c : AC := (.seq (.regT c148t 0) (.seq (.regT c148t 1) (.seq (.regT c148t 2) (.seq (.seq (.regT c148t 3) (.block 0 (.seq (.regT c148t 4) (.cond (.tmp 21) (.regT c148t 5) (.seq (.regT c148t 6) (.cond (.tmp 24) (.regT c148t 7) (.seq (.regT c148t 8) (.cond (.tmp 27) (.regT c148t 9) (.seq (.regT c148t 10) (.cond (.tmp 30) (.regT c148t 11) (.seq (.regT c148t 12) (.cond (.tmp 33) (.seq (.regT c148t 13) .ret) (.seq (.regT c148t 14) (.cond (.tmp 37) (.seq (.regT c148t 15) .ret) (.seq (.regT c148t 16) (.cond (.tmp 41) (.seq (.regT c148t 17) (.seq (.regT c148t 18) .ret)) (.regT c148t 19))))))))))))))))) (.seq (.regT c148t 20) (.seq (.regT c148t 21) .ret))))))
def c148a : Ann := fun id => match id with
  | 0 => [[(0, [0]), (1, []), (2, [])]]
  | 1 => [[(0, [3]), (1, [6]), (2, [7]), (3, [8]), (4, [9]), (5, [10]), (6, []), (7, [11])]]
  | 2 => [[(0, []), (1, [12]), (2, []), (3, [14]), (4, [15, 13]), (5, []), (6, [16])]]
  | 3 => [[(0, [4]), (1, [17])]]
  | 5 => [[(0, []), (1, [22])]]
  | 6 => [[(0, [21, 18]), (1, [23])]]
  | 7 => [[(0, [21]), (1, [25])]]
  | 8 => [[(0, [24, 18]), (1, [26])]]
  | 9 => [[(0, [24]), (1, [28])]]
  | 10 => [[(0, [27, 18]), (1, [29])]]
  | 11 => [[(0, [27]), (1, [31])]]
  | 12 => [[(0, [30, 18]), (1, [32])]]
  | 13 => [[(0, [30]), (1, [34])]]
  | 14 => [[(0, [33, 18, 5, 1]), (1, [35]), (2, [36]), (3, [])]]
  | 15 => [[(0, [33]), (1, [38])]]
  | 16 => [[(0, [37, 18, 5, 1]), (1, [39]), (2, [40]), (3, [])]]
  | 17 => [[(0, [37, 18]), (1, [42])]]
  | 18 => [[(0, [41]), (1, [1]), (2, [44, 43])]]
  | 19 => [[(0, [45, 5]), (1, [46]), (2, [])]]
  | 4 => [[(0, [41]), (1, [19])]]
  | 20 => [[(0, [20, 3, 1]), (1, [47])]]
  | 21 => [[(0, [48, 5]), (1, [49]), (2, [])]]
  | _ => []
theorem c148ok : comp Tryz.prog 50 c148a chkD (Tryz.f148.body.getD .skip) = some (inst c148c) := by kernel_rfl
theorem c148call : callable Tryz.prog 148 = true := by kernel_rfl
theorem c148res : cRess Tryz.prog Tryz.f148.results.toList = some [.cell 2 true 6, .tmp 3] := by kernel_rfl
end Go.SL
set_option maxRecDepth 100000
namespace Go.SL
open Go.Proofs
def c154t : Nat → List AI
  | 0 => [⟨0, (some 4), .o (.load false 1 (.tmp 1)), none, []⟩,
    ⟨1, (some 5), .o (.len false (.tmp 4)), none, [4]⟩,
    ⟨2, (some 6), .o (.ibin .sub (.tmp 5) (.cst (.int .i64 1))), none, [5]⟩,
    ⟨3, (some 3), .o (.asg (.tmp 6)), none, [6]⟩]
  | 1 => [⟨0, (some 7), .o (.move (.tmp 3)), none, []⟩,
    ⟨1, (some 8), .o (.icmp .geq (.tmp 7) (.cst (.int .i64 0))), none, [7]⟩]
  | 2 => [⟨0, (some 11), .o (.move (.tmp 0)), none, [8]⟩,
    ⟨1, (some 12), .o (.move (.tmp 3)), none, []⟩,
    ⟨2, (some 13), .o (.load false 1 (.tmp 1)), none, []⟩,
    ⟨3, (some 14), .o (.move (.tmp 3)), none, []⟩,
    ⟨4, (some 15), .o (.iaddr 1 (.tmp 13) (.tmp 14)), none, [14, 13]⟩,
    ⟨5, (some 16), .o (.load false 1 (.tmp 15)), none, [15]⟩,
    ⟨6, (some 17), .call (.tmp 11) [(.tmp 12), (.tmp 16)], none, [16, 12, 11]⟩,
    ⟨7, (some 18), .o (.not (.tmp 17)), none, [17]⟩]
  | 3 => [⟨0, (some 9), .o (.move (.tmp 3)), none, [18, 3]⟩,
    ⟨1, (some 10), .o (.ibin .sub (.tmp 9) (.cst (.int .i64 1))), none, [9]⟩,
    ⟨2, (some 3), .o (.asg (.tmp 10)), none, [10]⟩]
  | _ => []
def c154l4 : AC := (.seq (.seq (.regT c154t 1) (.cond (.tmp 8) .skip (.exit 0))) (.seq (.block 1 (.seq (.regT c154t 2) (.cond (.tmp 18) .ret .skip))) (.regT c154t 3)))
def c154c : AC := (.seq (.regT c154t 0) (.block 0 (.loop c154l4)))
def c154a : Ann := fun id => match id with
  | 0 => [[(0, []), (1, [4]), (2, [5]), (3, [6])]]
  | 1 => [[(0, []), (1, [7])]]
  | 3 => [[(0, [8]), (1, []), (2, []), (3, []), (4, [14, 13]), (5, [15]), (6, [16, 12, 11]), (7, [17])]]
  | 2 => [[(0, [18, 3]), (1, [9]), (2, [10])]]
  | _ => []
theorem c154ok : comp Tryz.prog 19 c154a chkD (Tryz.f154.body.getD .skip) = some (inst c154c) := by kernel_rfl
theorem c154call : callable Tryz.prog 154 = true := by kernel_rfl
theorem c154res : cRess Tryz.prog Tryz.f154.results.toList = some [] := by kernel_rfl
def c155t : Nat → List AI
  | 0 => [⟨0, (some 1), .o (.box 43 (.tmp 0)), none, [0]⟩,
    ⟨1, (some 2), .o (.alloc [(.int .i64 0), (.str ⟨#[]⟩), (.int .i64 0), (.int .i64 0), (.sl true 0 []), (.sl true 0 [])] 25), none, []⟩]
  | 1 => [⟨0, (some 4), .o (.load false 1 (.tmp 1)), none, []⟩,
    ⟨1, (some 5), .o (.nilc (.tmp 4)), none, [4]⟩,
    ⟨2, (some 6), .o (.faddr 0 (.tmp 5)), none, [5]⟩,
    ⟨3, (some 7), .o (.load false 1 (.tmp 6)), none, [6]⟩,
    ⟨4, (some 8), .o (.iaddr 3 (.tmp 7) (.cst (.int .i64 0))), none, [7]⟩,
    ⟨5, (some 9), .o (.faddr 2 (.tmp 8)), none, [8]⟩,
    ⟨6, (some 10), .o (.load false 1 (.tmp 9)), none, [9]⟩,
    ⟨7, (some 11), .o (.build [(.int .i64 0), (.str ⟨#[]⟩), (.int .i64 0), (.int .i64 0), (.sl true 0 []), (.sl true 0 [])] [(0, 1, (.cst (.int .i64 4))), (2, 1, (.tmp 10))]), none, [10]⟩,
    ⟨8, (some 3), .o (.alloc [(.int .i64 0), (.str ⟨#[]⟩), (.int .i64 0), (.int .i64 0), (.sl true 0 []), (.sl true 0 [])] 25), none, []⟩,
    ⟨9, none, .o (.store 6 (.tmp 3) (.tmp 11)), none, [11]⟩]
  | 2 => [⟨0, (some 12), .o (.load false 1 (.tmp 1)), none, []⟩,
    ⟨1, (some 13), .o (.mkfn (.func 159) [] [(.tmp 1), (.tmp 3)]), none, [1]⟩,
    ⟨2, (some 14), .call (.cst (.fn (.func 104) [] [])) [(.tmp 12), (.tmp 13)], none, [13, 12]⟩]
  | 3 => [⟨0, (some 15), .o (.load true 6 (.tmp 3)), none, [14, 3]⟩,
    ⟨1, none, .o (.store 6 (.tmp 2) (.tmp 15)), none, [15]⟩]
  | _ => []
def c155c : AC := (.seq (.regT c155t 0) (.seq (.regT c155t 1) (.seq (.regT c155t 2) (.seq (.regT c155t 3) .ret))))
def c155a : Ann := fun id => match id with
  | 0 => [[(0, [0]), (1, [])]]
  | 1 => [[(0, []), (1, [4]), (2, [5]), (3, [6]), (4, [7]), (5, [8]), (6, [9]), (7, [10]), (8, []), (9, [11])]]
  | 2 => [[(0, []), (1, [1]), (2, [13, 12])]]
  | 3 => [[(0, [14, 3]), (1, [15])]]
  | _ => []
theorem c155ok : comp Tryz.prog 16 c155a chkD (Tryz.f155.body.getD .skip) = some (inst c155c) := by kernel_rfl
theorem c155call : callable Tryz.prog 155 = true := by kernel_rfl
theorem c155res : cRess Tryz.prog Tryz.f155.results.toList = some [.cell 2 true 6] := by kernel_rfl
def c156t : Nat → List AI
  | 0 => [⟨0, (some 1), .o (.box 43 (.tmp 0)), none, [0]⟩,
    ⟨1, (some 2), .o (.alloc [(.int .i64 0), (.str ⟨#[]⟩), (.int .i64 0), (.int .i64 0), (.sl true 0 []), (.sl true 0 [])] 25), none, []⟩]
  | 1 => [⟨0, (some 4), .o (.load false 1 (.tmp 1)), none, []⟩,
    ⟨1, (some 5), .o (.nilc (.tmp 4)), none, [4]⟩,
    ⟨2, (some 6), .o (.faddr 0 (.tmp 5)), none, [5]⟩,
    ⟨3, (some 7), .o (.load false 1 (.tmp 6)), none, [6]⟩,
    ⟨4, (some 8), .o (.iaddr 3 (.tmp 7) (.cst (.int .i64 0))), none, [7]⟩,
    ⟨5, (some 9), .o (.faddr 2 (.tmp 8)), none, [8]⟩,
    ⟨6, (some 10), .o (.load false 1 (.tmp 9)), none, [9]⟩,
    ⟨7, (some 11), .o (.build [(.int .i64 0), (.str ⟨#[]⟩), (.int .i64 0), (.int .i64 0), (.sl true 0 []), (.sl true 0 [])] [(0, 1, (.cst (.int .i64 10))), (2, 1, (.tmp 10))]), none, [10]⟩,
    ⟨8, (some 3), .o (.alloc [(.int .i64 0), (.str ⟨#[]⟩), (.int .i64 0), (.int .i64 0), (.sl true 0 []), (.sl true 0 [])] 25), none, []⟩,
    ⟨9, none, .o (.store 6 (.tmp 3) (.tmp 11)), none, [11]⟩]
  | 2 => [⟨0, (some 12), .o (.load false 1 (.tmp 1)), none, []⟩,
    ⟨1, (some 13), .o (.mkfn (.func 161) [] [(.tmp 1), (.tmp 3)]), none, [1]⟩,
    ⟨2, (some 14), .call (.cst (.fn (.func 104) [] [])) [(.tmp 12), (.tmp 13)], none, [13, 12]⟩]
  | 3 => [⟨0, (some 15), .o (.load true 6 (.tmp 3)), none, [14, 3]⟩,
    ⟨1, none, .o (.store 6 (.tmp 2) (.tmp 15)), none, [15]⟩]
  | _ => []
def c156c : AC := (.seq (.regT c156t 0) (.seq (.regT c156t 1) (.seq (.regT c156t 2) (.seq (.regT c156t 3) .ret))))
def c156a : Ann := fun id => match id with
  | 0 => [[(0, [0]), (1, [])]]
  | 1 => [[(0, []), (1, [4]), (2, [5]), (3, [6]), (4, [7]), (5, [8]), (6, [9]), (7, [10]), (8, []), (9, [11])]]
  | 2 => [[(0, []), (1, [1]), (2, [13, 12])]]
  | 3 => [[(0, [14, 3]), (1, [15])]]
  | _ => []
theorem c156ok : comp Tryz.prog 16 c156a chkD (Tryz.f156.body.getD .skip) = some (inst c156c) := by kernel_rfl
theorem c156call : callable Tryz.prog 156 = true := by kernel_rfl
theorem c156res : cRess Tryz.prog Tryz.f156.results.toList = some [.cell 2 true 6] := by kernel_rfl
def c157t : Nat → List AI
  | 0 => [⟨0, (some 2), .o (.load false 1 (.tmp 0)), none, []⟩,
    ⟨1, (some 3), .call (.cst (.fn (.func 76) [] [])) [(.tmp 2)], none, [2]⟩,
    ⟨2, none, .o (.store 6 (.tmp 1) (.tmp 3)), none, [3, 1]⟩]
  | 1 => [⟨0, (some 4), .o (.load false 1 (.tmp 0)), none, [0]⟩,
    ⟨1, (some 5), .call (.cst (.fn (.func 38) [] [])) [(.tmp 4), (.cst (.int .i64 9))], none, [4]⟩]
  | _ => []
def c157c : AC := (.seq (.regT c157t 0) (.regT c157t 1))
def c157a : Ann := fun id => match id with
  | 0 => [[(0, []), (1, [2]), (2, [3, 1])]]
  | 1 => [[(0, [0]), (1, [4])]]
  | _ => []
theorem c157ok : comp Tryz.prog 6 c157a chkD (Tryz.f157.body.getD .skip) = some (inst c157c) := by kernel_rfl
theorem c157call : callable Tryz.prog 157 = true := by kernel_rfl
theorem c157res : cRess Tryz.prog Tryz.f157.results.toList = some [] := by kernel_rfl
def c159t : Nat → List AI
  | 0 => [⟨0, (some 2), .o (.load false 1 (.tmp 0)), none, []⟩,
    ⟨1, (some 3), .call (.cst (.fn (.func 40) [] [])) [(.tmp 2)], none, [2]⟩,
    ⟨2, (some 4), .o (.icmp .neq (.tmp 3) (.cst (.int .i64 9))), none, [3]⟩]
  | 1 => [⟨0, (some 5), .o (.faddr 5 (.tmp 1)), none, []⟩,
    ⟨1, (some 6), .o (.load false 1 (.tmp 5)), none, []⟩,
    ⟨2, (some 7), .o (.load false 1 (.tmp 0)), none, []⟩,
    ⟨4, (some 9), .o (.len false (.tmp 6)), none, []⟩,
    ⟨3, (some 8), .call (.cst (.fn (.func 160) [] [])) [(.tmp 7)], none, [0, 1, 4]⟩,
    ⟨5, (some 10), .o (.bslice 25 true 6 1 [(.int .i64 0), (.str ⟨#[]⟩), (.int .i64 0), (.int .i64 0), (.sl true 0 []), (.sl true 0 [])] [(0, 6, (.cst (.agg [(.int .i64 0), (.str ⟨#[]⟩), (.int .i64 0), (.int .i64 0), (.sl true 0 []), (.sl true 0 [])])))]), none, [0, 1, 2, 4]⟩,
    ⟨6, (some 11), .o (.append 25 6 88 [(.int .i64 0), (.str ⟨#[]⟩), (.int .i64 0), (.int .i64 0), (.sl true 0 []), (.sl true 0 [])] (.tmp 6) (.tmp 10)), none, []⟩,
    ⟨7, (some 12), .o (.iaddr 6 (.tmp 11) (.tmp 9)), none, []⟩,
    ⟨9, (some 13), .o (.faddr 5 (.tmp 1)), none, []⟩,
    ⟨8, none, .o (.store 6 (.tmp 12) (.tmp 8)), none, [9]⟩,
    ⟨10, none, .o (.store 1 (.tmp 13) (.tmp 11)), none, [7]⟩]
  | 2 => [⟨0, (some 5), .o (.faddr 5 (.tmp 1)), none, []⟩,
    ⟨1, (some 6), .o (.load false 1 (.tmp 5)), none, []⟩,
    ⟨2, (some 7), .o (.load false 1 (.tmp 0)), none, []⟩,
    ⟨4, (some 9), .o (.len false (.tmp 6)), none, []⟩,
    ⟨3, (some 8), .call (.cst (.fn (.func 160) [] [])) [(.tmp 7)], none, [0, 1, 4]⟩,
    ⟨5, (some 10), .o (.bslice 25 true 6 1 [(.int .i64 0), (.str ⟨#[]⟩), (.int .i64 0), (.int .i64 0), (.sl true 0 []), (.sl true 0 [])] [(0, 6, (.cst (.agg [(.int .i64 0), (.str ⟨#[]⟩), (.int .i64 0), (.int .i64 0), (.sl true 0 []), (.sl true 0 [])])))]), none, [0, 1, 2, 4]⟩,
    ⟨6, (some 11), .o (.append 25 6 88 [(.int .i64 0), (.str ⟨#[]⟩), (.int .i64 0), (.int .i64 0), (.sl true 0 []), (.sl true 0 [])] (.tmp 6) (.tmp 10)), none, []⟩,
    ⟨7, (some 12), .o (.iaddr 6 (.tmp 11) (.tmp 9)), none, []⟩,
    ⟨9, (some 13), .o (.faddr 5 (.tmp 1)), none, []⟩,
    ⟨10, none, .o (.store 1 (.tmp 13) (.tmp 11)), none, [7]⟩,
    ⟨8, none, .o (.store 6 (.tmp 12) (.tmp 8)), none, [9]⟩]
  | 3 => [⟨0, (some 5), .o (.faddr 5 (.tmp 1)), none, []⟩,
    ⟨1, (some 6), .o (.load false 1 (.tmp 5)), none, []⟩,
    ⟨2, (some 7), .o (.load false 1 (.tmp 0)), none, []⟩,
    ⟨4, (some 9), .o (.len false (.tmp 6)), none, []⟩,
    ⟨5, (some 10), .o (.bslice 25 true 6 1 [(.int .i64 0), (.str ⟨#[]⟩), (.int .i64 0), (.int .i64 0), (.sl true 0 []), (.sl true 0 [])] [(0, 6, (.cst (.agg [(.int .i64 0), (.str ⟨#[]⟩), (.int .i64 0), (.int .i64 0), (.sl true 0 []), (.sl true 0 [])])))]), none, [0, 1, 2, 4]⟩,
    ⟨3, (some 8), .call (.cst (.fn (.func 160) [] [])) [(.tmp 7)], none, [0, 1, 4]⟩,
    ⟨6, (some 11), .o (.append 25 6 88 [(.int .i64 0), (.str ⟨#[]⟩), (.int .i64 0), (.int .i64 0), (.sl true 0 []), (.sl true 0 [])] (.tmp 6) (.tmp 10)), none, []⟩,
    ⟨7, (some 12), .o (.iaddr 6 (.tmp 11) (.tmp 9)), none, []⟩,
    ⟨9, (some 13), .o (.faddr 5 (.tmp 1)), none, []⟩,
    ⟨8, none, .o (.store 6 (.tmp 12) (.tmp 8)), none, [9]⟩,
    ⟨10, none, .o (.store 1 (.tmp 13) (.tmp 11)), none, [7]⟩]
  | 4 => [⟨0, (some 5), .o (.faddr 5 (.tmp 1)), none, []⟩,
    ⟨1, (some 6), .o (.load false 1 (.tmp 5)), none, []⟩,
    ⟨2, (some 7), .o (.load false 1 (.tmp 0)), none, []⟩,
    ⟨4, (some 9), .o (.len false (.tmp 6)), none, []⟩,
    ⟨5, (some 10), .o (.bslice 25 true 6 1 [(.int .i64 0), (.str ⟨#[]⟩), (.int .i64 0), (.int .i64 0), (.sl true 0 []), (.sl true 0 [])] [(0, 6, (.cst (.agg [(.int .i64 0), (.str ⟨#[]⟩), (.int .i64 0), (.int .i64 0), (.sl true 0 []), (.sl true 0 [])])))]), none, [0, 1, 2, 4]⟩,
    ⟨3, (some 8), .call (.cst (.fn (.func 160) [] [])) [(.tmp 7)], none, [0, 1, 4]⟩,
    ⟨6, (some 11), .o (.append 25 6 88 [(.int .i64 0), (.str ⟨#[]⟩), (.int .i64 0), (.int .i64 0), (.sl true 0 []), (.sl true 0 [])] (.tmp 6) (.tmp 10)), none, []⟩,
    ⟨7, (some 12), .o (.iaddr 6 (.tmp 11) (.tmp 9)), none, []⟩,
    ⟨9, (some 13), .o (.faddr 5 (.tmp 1)), none, []⟩,
    ⟨10, none, .o (.store 1 (.tmp 13) (.tmp 11)), none, [7]⟩,
    ⟨8, none, .o (.store 6 (.tmp 12) (.tmp 8)), none, [9]⟩]
  | 6 => [⟨0, (some 14), .o (.load false 1 (.tmp 0)), none, [0, 1]⟩,
    ⟨1, (some 15), .call (.cst (.fn (.func 39) [] [])) [(.tmp 14)], none, [14]⟩]
  | _ => []
def c159l5 : AC := (.seq (.seq (.regT c159t 0) (.cond (.tmp 4) .skip (.exit 0))) (.block 1 (.regD [c159t 1, c159t 2, c159t 3, c159t 4])))
def c159c : AC := (.seq (.block 0 (.loop c159l5)) (.regT c159t 6))
def c159a : Ann := fun id => match id with
  | 0 => [[(0, []), (1, [2]), (2, [3])]]
  | 1 => [[(0, []), (1, []), (2, []), (4, []), (3, [0, 1, 4]), (5, [0, 1, 2, 4]), (6, []), (7, []), (9, []), (8, [9]), (10, [7])], [(0, []), (1, []), (2, []), (4, []), (3, [0, 1, 4]), (5, [0, 1, 2, 4]), (6, []), (7, []), (9, []), (10, [7]), (8, [9])], [(0, []), (1, []), (2, []), (4, []), (5, [0, 1, 2, 4]), (3, [0, 1, 4]), (6, []), (7, []), (9, []), (8, [9]), (10, [7])], [(0, []), (1, []), (2, []), (4, []), (5, [0, 1, 2, 4]), (3, [0, 1, 4]), (6, []), (7, []), (9, []), (10, [7]), (8, [9])]]
  | 2 => [[(0, [0, 1]), (1, [14])]]
  | _ => []
theorem c159ok : comp Tryz.prog 16 c159a chkD (Tryz.f159.body.getD .skip) = some (inst c159c) := by kernel_rfl
theorem c159call : callable Tryz.prog 159 = true := by kernel_rfl
theorem c159res : cRess Tryz.prog Tryz.f159.results.toList = some [] := by kernel_rfl
def c160t : Nat → List AI
  | 0 => [⟨0, (some 2), .o (.alloc [(.int .i64 0), (.str ⟨#[]⟩), (.int .i64 0), (.int .i64 0), (.sl true 0 []), (.sl true 0 [])] 25), none, []⟩]
  | 1 => [⟨0, (some 5), .o (.move (.tmp 0)), none, []⟩,
    ⟨1, (some 6), .o (.nilc (.tmp 5)), none, [5]⟩,
    ⟨2, (some 7), .o (.faddr 0 (.tmp 6)), none, [6]⟩,
    ⟨3, (some 8), .o (.load false 1 (.tmp 7)), none, [7]⟩,
    ⟨4, (some 9), .o (.iaddr 3 (.tmp 8) (.cst (.int .i64 0))), none, [8]⟩,
    ⟨5, (some 10), .o (.load true 3 (.tmp 9)), none, [9]⟩,
    ⟨6, (some 3), .o (.alloc [(.int .i64 0), (.str ⟨#[]⟩), (.int .i64 0)] 79), none, []⟩,
    ⟨7, none, .o (.store 3 (.tmp 3) (.tmp 10)), none, [10]⟩]
  | 2 => [⟨0, (some 11), .o (.faddr 1 (.tmp 3)), none, []⟩,
    ⟨1, (some 12), .o (.load false 1 (.tmp 11)), none, [11]⟩,
    ⟨2, (some 13), .o (.faddr 2 (.tmp 3)), none, []⟩,
    ⟨3, (some 14), .o (.load false 1 (.tmp 13)), none, [13]⟩,
    ⟨4, (some 15), .o (.build [(.int .i64 0), (.str ⟨#[]⟩), (.int .i64 0), (.int .i64 0), (.sl true 0 []), (.sl true 0 [])] [(0, 1, (.cst (.int .i64 3))), (1, 1, (.tmp 12)), (2, 1, (.tmp 14))]), none, [14, 12]⟩,
    ⟨5, (some 4), .o (.alloc [(.int .i64 0), (.str ⟨#[]⟩), (.int .i64 0), (.int .i64 0), (.sl true 0 []), (.sl true 0 [])] 25), none, []⟩,
    ⟨6, none, .o (.store 6 (.tmp 4) (.tmp 15)), none, [15]⟩]
  | 3 => [⟨0, (some 16), .o (.faddr 0 (.tmp 3)), none, []⟩,
    ⟨1, (some 17), .o (.load false 1 (.tmp 16)), none, [16]⟩]
  | 4 => [⟨0, (some 21), .o (.icmp .eql (.tmp 17) (.cst (.int .i64 17))), none, []⟩,
    ⟨1, (some 20), .o (.asg (.tmp 21)), none, [21]⟩]
  | 5 => [⟨0, (some 22), .o (.icmp .eql (.tmp 17) (.cst (.int .i64 8))), none, [20]⟩,
    ⟨1, (some 20), .o (.asg (.tmp 22)), none, [22]⟩]
  | 6 => [⟨0, (some 23), .o (.move (.tmp 0)), none, [20, 17, 4, 3, 0]⟩,
    ⟨1, (some 24), .call (.cst (.fn (.func 155) [] [])) [(.tmp 23)], none, [23]⟩,
    ⟨2, none, .o (.store 6 (.tmp 2) (.tmp 24)), none, [24]⟩]
  | 7 => [⟨0, (some 26), .o (.icmp .eql (.tmp 17) (.cst (.int .i64 4))), none, [20]⟩,
    ⟨1, (some 25), .o (.asg (.tmp 26)), none, [26]⟩]
  | 8 => [⟨0, (some 27), .o (.faddr 0 (.tmp 4)), none, [25, 17, 3]⟩,
    ⟨1, none, .o (.store 1 (.tmp 27) (.cst (.int .i64 1))), none, [27]⟩]
  | 9 => [⟨0, (some 29), .o (.icmp .eql (.tmp 17) (.cst (.int .i64 5))), none, [25]⟩,
    ⟨1, (some 28), .o (.asg (.tmp 29)), none, [29]⟩]
  | 10 => [⟨0, (some 30), .o (.faddr 0 (.tmp 4)), none, [28, 17, 3]⟩,
    ⟨1, none, .o (.store 1 (.tmp 30) (.cst (.int .i64 2))), none, [30]⟩]
  | 11 => [⟨0, (some 32), .o (.icmp .eql (.tmp 17) (.cst (.int .i64 1))), none, [28]⟩,
    ⟨1, (some 31), .o (.asg (.tmp 32)), none, [32]⟩]
  | 12 => [⟨0, (some 33), .o (.faddr 1 (.tmp 3)), none, [31, 17]⟩,
    ⟨1, (some 34), .o (.load false 1 (.tmp 33)), none, [33]⟩,
    ⟨2, (some 35), .o (.sbin .eql (.tmp 34) (.cst (.str ⟨#[116, 114, 117, 101]⟩))), none, [34]⟩,
    ⟨3, (some 36), .o (.move (.tmp 35)), none, [35]⟩,
    ⟨4, (some 37), .o (.faddr 1 (.tmp 3)), (some (36, false)), []⟩,
    ⟨5, (some 38), .o (.load false 1 (.tmp 37)), (some (36, false)), [37]⟩,
    ⟨6, (some 39), .o (.sbin .eql (.tmp 38) (.cst (.str ⟨#[102, 97, 108, 115, 101]⟩))), (some (36, false)), [38]⟩,
    ⟨7, (some 40), .o (.pick (.tmp 36) (.cst (.bool true)) (.tmp 39)), none, [39, 36]⟩,
    ⟨8, (some 41), .o (.move (.tmp 40)), none, [40]⟩,
    ⟨9, (some 42), .o (.faddr 1 (.tmp 3)), (some (41, false)), [3]⟩,
    ⟨10, (some 43), .o (.load false 1 (.tmp 42)), (some (41, false)), [42]⟩,
    ⟨11, (some 44), .o (.sbin .eql (.tmp 43) (.cst (.str ⟨#[110, 105, 108]⟩))), (some (41, false)), [43]⟩,
    ⟨12, (some 45), .o (.pick (.tmp 41) (.cst (.bool true)) (.tmp 44)), none, [44, 41]⟩]
  | 13 => [⟨0, (some 46), .o (.faddr 0 (.tmp 4)), none, [45]⟩,
    ⟨1, none, .o (.store 1 (.tmp 46) (.cst (.int .i64 13))), none, [46]⟩]
  | 14 => [⟨0, (some 48), .o (.icmp .eql (.tmp 17) (.cst (.int .i64 6))), none, [31, 3]⟩,
    ⟨1, (some 47), .o (.asg (.tmp 48)), none, [48]⟩]
  | 15 => [⟨0, (some 49), .o (.icmp .eql (.tmp 17) (.cst (.int .i64 2))), none, [47]⟩,
    ⟨1, (some 47), .o (.asg (.tmp 49)), none, [49]⟩]
  | 16 => [⟨0, (some 50), .o (.icmp .eql (.tmp 17) (.cst (.int .i64 3))), none, [47, 17]⟩,
    ⟨1, (some 47), .o (.asg (.tmp 50)), none, [50]⟩]
  | 17 => [⟨0, (some 18), .o (.move (.tmp 0)), none, [47, 17]⟩,
    ⟨1, (some 19), .call (.cst (.fn (.func 47) [] [])) [(.tmp 18), (.cst (.int .i64 20))], none, [18]⟩]
  | 18 => [⟨0, (some 51), .o (.move (.tmp 0)), none, [0, 45, 19, 47, 17]⟩,
    ⟨1, (some 52), .call (.cst (.fn (.func 39) [] [])) [(.tmp 51)], none, [51]⟩]
  | 19 => [⟨0, (some 53), .o (.load true 6 (.tmp 4)), none, [52, 4]⟩,
    ⟨1, none, .o (.store 6 (.tmp 2) (.tmp 53)), none, [53]⟩]
  | _ => []
def c160c : AC := (.seq (.regT c160t 0) (.seq (.regT c160t 1) (.seq (.regT c160t 2) (.seq (.seq (.regT c160t 3) (.block 0 (.seq (.seq (.regT c160t 4) (.cond (.tmp 20) .skip (.regT c160t 5))) (.cond (.tmp 20) (.seq (.regT c160t 6) .ret) (.seq (.regT c160t 7) (.cond (.tmp 25) (.regT c160t 8) (.seq (.regT c160t 9) (.cond (.tmp 28) (.regT c160t 10) (.seq (.regT c160t 11) (.cond (.tmp 31) (.seq (.regT c160t 12) (.cond (.tmp 45) (.regT c160t 13) .skip)) (.seq (.seq (.regT c160t 14) (.cond (.tmp 47) .skip (.seq (.regT c160t 15) (.cond (.tmp 47) .skip (.regT c160t 16))))) (.cond (.tmp 47) .skip (.regT c160t 17))))))))))))) (.seq (.regT c160t 18) (.seq (.regT c160t 19) .ret))))))
def c160a : Ann := fun id => match id with
  | 0 => [[(0, [])]]
  | 1 => [[(0, []), (1, [5]), (2, [6]), (3, [7]), (4, [8]), (5, [9]), (6, []), (7, [10])]]
  | 2 => [[(0, []), (1, [11]), (2, []), (3, [13]), (4, [14, 12]), (5, []), (6, [15])]]
  | 3 => [[(0, []), (1, [16])]]
  | 5 => [[(0, []), (1, [21])]]
  | 6 => [[(0, [20]), (1, [22])]]
  | 7 => [[(0, [20, 17, 4, 3, 0]), (1, [23]), (2, [24])]]
  | 8 => [[(0, [20]), (1, [26])]]
  | 9 => [[(0, [25, 17, 3]), (1, [27])]]
  | 10 => [[(0, [25]), (1, [29])]]
  | 11 => [[(0, [28, 17, 3]), (1, [30])]]
  | 12 => [[(0, [28]), (1, [32])]]
  | 13 => [[(0, [31, 17]), (1, [33]), (2, [34]), (3, [35]), (4, []), (5, [37]), (6, [38]), (7, [39, 36]), (8, [40]), (9, [3]), (10, [42]), (11, [43]), (12, [44, 41])]]
  | 14 => [[(0, [45]), (1, [46])]]
  | 15 => [[(0, [31, 3]), (1, [48])]]
  | 16 => [[(0, [47]), (1, [49])]]
  | 17 => [[(0, [47, 17]), (1, [50])]]
  | 4 => [[(0, [47, 17]), (1, [18])]]
  | 18 => [[(0, [0, 45, 19, 47, 17]), (1, [51])]]
  | 19 => [[(0, [52, 4]), (1, [53])]]
  | _ => []
theorem c160ok : comp Tryz.prog 54 c160a chkD (Tryz.f160.body.getD .skip) = some (inst c160c) := by kernel_rfl
theorem c160call : callable Tryz.prog 160 = true := by kernel_rfl
theorem c160res : cRess Tryz.prog Tryz.f160.results.toList = some [.cell 2 true 6] := by kernel_rfl
def c161t : Nat → List AI
  | 0 => [⟨0, (some 2), .o (.load false 1 (.tmp 0)), none, []⟩,
    ⟨1, (some 3), .call (.cst (.fn (.func 40) [] [])) [(.tmp 2)], none, [2]⟩,
    ⟨2, (some 4), .o (.icmp .eql (.tmp 3) (.cst (.int .i64 16))), none, [3]⟩]
  | 1 => [⟨0, (some 5), .o (.load false 1 (.tmp 0)), none, [4]⟩,
    ⟨1, (some 6), .call (.cst (.fn (.func 39) [] [])) [(.tmp 5)], none, [5]⟩]
  | 2 => [⟨0, (some 7), .o (.faddr 4 (.tmp 1)), none, []⟩,
    ⟨1, (some 8), .o (.load false 1 (.tmp 7)), none, []⟩,
    ⟨2, (some 9), .o (.load false 1 (.tmp 0)), none, []⟩,
    ⟨3, (some 10), .call (.cst (.fn (.func 38) [] [])) [(.tmp 9), (.cst (.int .i64 1))], none, [0, 1]⟩,
    ⟨4, (some 11), .o (.field false 1 1 (.tmp 10)), none, []⟩,
    ⟨5, (some 12), .o (.bslice 9 false 1 1 [(.str ⟨#[]⟩)] [(0, 1, (.tmp 11))]), none, [0, 1]⟩,
    ⟨6, (some 13), .o (.append 9 1 16 [(.str ⟨#[]⟩)] (.tmp 8) (.tmp 12)), none, []⟩,
    ⟨7, (some 14), .o (.faddr 4 (.tmp 1)), none, []⟩,
    ⟨8, none, .o (.store 1 (.tmp 14) (.tmp 13)), none, []⟩]
  | 4 => [⟨0, (some 15), .o (.faddr 4 (.tmp 1)), none, []⟩,
    ⟨1, (some 16), .o (.load false 1 (.tmp 15)), none, [15]⟩,
    ⟨2, (some 17), .o (.len false (.tmp 16)), none, [16]⟩,
    ⟨3, (some 18), .o (.faddr 3 (.tmp 1)), none, []⟩,
    ⟨4, none, .o (.store 1 (.tmp 18) (.tmp 17)), none, [18, 17]⟩]
  | 5 => [⟨0, (some 19), .o (.faddr 3 (.tmp 1)), none, []⟩,
    ⟨1, (some 20), .o (.load false 1 (.tmp 19)), none, [19]⟩,
    ⟨2, (some 21), .o (.icmp .gtr (.tmp 20) (.cst (.int .i64 0))), none, [20]⟩,
    ⟨3, (some 22), .o (.move (.tmp 21)), none, [21]⟩,
    ⟨4, (some 23), .o (.load false 1 (.tmp 0)), (some (22, true)), []⟩,
    ⟨5, (some 24), .call (.cst (.fn (.func 40) [] [])) [(.tmp 23)], (some (22, true)), [23]⟩,
    ⟨6, (some 25), .o (.icmp .neq (.tmp 24) (.cst (.int .i64 11))), (some (22, true)), [24]⟩,
    ⟨7, (some 26), .o (.pick (.tmp 22) (.tmp 25) (.cst (.bool false))), none, [25, 22]⟩]
  | 6 => [⟨0, (some 27), .o (.load false 1 (.tmp 0)), none, [26]⟩,
    ⟨1, (some 28), .call (.cst (.fn (.func 38) [] [])) [(.tmp 27), (.cst (.int .i64 12))], none, [27]⟩]
  | 7 => [⟨0, (some 29), .o (.load false 1 (.tmp 0)), none, [26, 28]⟩,
    ⟨1, (some 30), .call (.cst (.fn (.func 28) [] [])) [(.tmp 29), (.tmp 1), (.cst (.int .i64 11))], none, [29, 1]⟩]
  | 8 => [⟨0, (some 31), .o (.load false 1 (.tmp 0)), none, [30, 0]⟩,
    ⟨1, (some 32), .call (.cst (.fn (.func 39) [] [])) [(.tmp 31)], none, [31]⟩]
  | _ => []
def c161l3 : AC := (.seq (.seq (.regT c161t 0) (.cond (.tmp 4) .skip (.exit 0))) (.block 1 (.seq (.regT c161t 1) (.regD [c161t 2]))))
def c161c : AC := (.seq (.block 0 (.loop c161l3)) (.seq (.seq (.regT c161t 4) (.seq (.regT c161t 5) (.cond (.tmp 26) (.regT c161t 6) .skip))) (.seq (.regT c161t 7) (.regT c161t 8))))
def c161a : Ann := fun id => match id with
  | 0 => [[(0, []), (1, [2]), (2, [3])]]
  | 1 => [[(0, [4]), (1, [5])]]
  | 2 => [[(0, []), (1, []), (2, []), (3, [0, 1]), (4, []), (5, [0, 1]), (6, []), (7, []), (8, [])]]
  | 3 => [[(0, []), (1, [15]), (2, [16]), (3, []), (4, [18, 17])]]
  | 4 => [[(0, []), (1, [19]), (2, [20]), (3, [21]), (4, []), (5, [23]), (6, [24]), (7, [25, 22])]]
  | 5 => [[(0, [26]), (1, [27])]]
  | 6 => [[(0, [26, 28]), (1, [29, 1])]]
  | 7 => [[(0, [30, 0]), (1, [31])]]
  | _ => []
theorem c161ok : comp Tryz.prog 33 c161a chkD (Tryz.f161.body.getD .skip) = some (inst c161c) := by kernel_rfl
theorem c161call : callable Tryz.prog 161 = true := by kernel_rfl
theorem c161res : cRess Tryz.prog Tryz.f161.results.toList = some [] := by kernel_rfl
end Go.SL
namespace Go.SL
open Go.Proofs
set_option maxRecDepth 10000
def letterS (c : Int) : Bool := decide (97 ≤ c) && decide (c ≤ 122) || decide (65 ≤ c) && decide (c ≤ 90)
def digitS (c : Int) : Bool := decide (48 ≤ c) && decide (c ≤ 57)
theorem byte_cases (p : Int → Prop) [DecidablePred p] (h : ∀ n : Fin 256, p (n.val : Int)) (c : Int) (h0 : 0 ≤ c) (h1 : c < 256) : p c := by
  have := h ⟨c.toNat, by omega⟩
  simpa [Int.toNat_of_nonneg h0] using this
theorem letter_or (c : Int) (h0 : 0 ≤ c) (h1 : c < 256) : (decide (97 ≤ orK .u8 c 32) && decide (orK .u8 c 32 ≤ 122)) = letterS c :=
  byte_cases (fun c => (decide (97 ≤ orK .u8 c 32) && decide (orK .u8 c 32 ≤ 122)) = letterS c) (by decide) c h0 h1
theorem f64_ok (c : Int) (h0 : 0 ≤ c) (h1 : c < 256) : DF Tryz.prog 64 [.int .u8 c] (.bool (letterS c)) := by
  have hl := letter_or c h0 h1
  refine AF.start 60 Tryz.func64 rfl rfl c64call c64ok ?_
  simp [c64c, c64t]
  refine ATT.cC (fun h => ?_) (fun h => ?_)
  · simp [h]
    refine ATT.fin Tryz.func64 c64res ?_
    simp [h] at hl ⊢
    exact hl
  · simp [h]
    refine ATT.fin Tryz.func64 c64res ?_
    simp [h] at hl ⊢
    exact hl
theorem f66_ok (c : Int) : DF Tryz.prog 66 [.int .u8 c] (.bool (digitS c)) := by
  refine AF.start 60 Tryz.func66 rfl rfl c66call c66ok ?_
  simp [c66c, c66t]
  refine ATT.cC (fun h => ?_) (fun h => ?_)
  · simp [h]
    refine ATT.fin Tryz.func66 c66res ?_
    simp [digitS, h]
  · simp [h]
    refine ATT.fin Tryz.func66 c66res ?_
    simp [digitS, h]
def identS (c : Int) : Bool := letterS c || digitS c || decide (c = 95)
theorem f65_ok (c : Int) (h0 : 0 ≤ c) (h1 : c < 256) : DF Tryz.prog 65 [.int .u8 c] (.bool (identS c)) := by
  refine AF.start 60 Tryz.func65 rfl rfl c65call c65ok ?_
  simp [c65c, c65t]
  refine ATT.callD Tryz.func65 60 (f64_ok c h0 h1) trivial (by simp) rfl ?_
  simp
  cases hl : letterS c with
  | true =>
    simp
    refine ATT.fin Tryz.func65 c65res ?_
    simp [identS, hl]
  | false =>
    simp
    refine ATT.callD Tryz.func65 60 (f66_ok c) (by simp) (by simp) rfl ?_
    simp
    cases hd : digitS c with
    | true =>
      simp
      refine ATT.fin Tryz.func65 c65res ?_
      simp [identS, hl, hd]
    | false =>
      simp
      refine ATT.fin Tryz.func65 c65res ?_
      simp [identS, hl, hd]
theorem sbyte_bd (s : ByteArray) (i : Int) : 0 ≤ sbyte s i ∧ sbyte s i < 256 := by
  unfold sbyte
  have := (s.data.toList.getD i.toNat 0).toNat_lt
  omega
abbrev RD (s : ByteArray) (i : Nat) : List Bx := [.cells [.d (.str s), .d (.int .i64 i)] 76]
def FnB (g : FuncId) (p : Int → Bool) : Prop := ∀ c, 0 ≤ c → c < 256 → DF Tryz.prog g [.int .u8 c] (.bool (p c))
theorem f63_ok {g : FuncId} {p : Int → Bool} (hp : FnB g p) (s : ByteArray) (i : Nat) :
    MF Tryz.prog 63 [.ptr 0 0, .d (.fn (.func g) [] [])] (RD s i) (.d (.bool (decide (i < s.size) && p (sbyte s i)))) (RD s i) := by
  refine AF.start 60 Tryz.func63 rfl rfl c63call c63ok ?_
  simp [c63c, c63t, RD]
  refine ATT.cE (fun h => ?_) (fun h => ?_)
  · simp [h]
    refine ATT.callRD Tryz.func63 60 (hp (sbyte s i) (sbyte_bd s i).1 (sbyte_bd s i).2) (by simp) (by simp) (by simp [inR, h]) ?_
    simp
    refine ATT.fin Tryz.func63 c63res ?_
    simp
  · simp [h]
    refine ATT.fin Tryz.func63 c63res ?_
    simp
def skipS (p : Int → Bool) (s : ByteArray) (i : Nat) : Nat := if h : i < s.size then (if p (sbyte s i) then skipS p s (i + 1) else i) else i
termination_by s.size - i
theorem skipS_no {p : Int → Bool} {s : ByteArray} {i : Nat} (h : (decide (i < s.size) && p (sbyte s i)) = false) : skipS p s i = i := by
  unfold skipS
  split
  · rename_i h1
    simp [h1] at h
    simp [h]
  · rfl
theorem skipS_yes {p : Int → Bool} {s : ByteArray} {i : Nat} (h : (decide (i < s.size) && p (sbyte s i)) = true) : skipS p s i = skipS p s (i + 1) := by
  simp at h
  rw [skipS]
  simp [h]
theorem f41_ok {g : FuncId} {p : Int → Bool} (hp : FnB g p) (s : ByteArray) (hs : s.size ≤ 1073741824) (i : Nat) :
    MF Tryz.prog 41 [.ptr 0 0, .d (.fn (.func g) [] [])] (RD s i) (.d (.tup [])) (RD s (skipS p s i)) := by
  refine AF.start 60 Tryz.func41 rfl rfl c41call c41ok ?_
  simp [c41c, RD]
  refine ATT.loop' [(0, V.ptr 0 0), (1, V.d (D.fn (Fn.func g) [] []))] rfl (by simp) ?_
  suffices H : ∀ m i, s.size - i = m → LP Tryz.prog 14 (.of 41) (fun o h => o = Out.ret (V.d (D.tup [])) ∧ ∃ r w, h = ⟨Bx.cells [V.d (D.str s), V.d (D.int IntKind.i64 (skipS p s i))] 76 :: r, w⟩) c41l2 [AItem.blk 0] [(0, V.ptr 0 0), (1, V.d (D.fn (Fn.func g) [] []))] ⟨RD s i, []⟩ from H _ i rfl
  intro m
  induction m with
  | zero =>
    intro i hi
    refine LP.of 60 c41l2.eq_1 ?_
    simp [c41t, RD]
    refine ATT.callM Tryz.func41 60 [0] (f63_ok hp s i) rfl trivial (by simp) (by simp [RD]) (by simp) rfl ?_
    have h0 : ¬ i < s.size := by omega
    simp [RD, h0]
    refine ATT.fin0 Tryz.func41 c41res ?_
    simp [skipS_no (p := p) (s := s) (i := i) (by simp [h0])]
  | succ m ih =>
    intro i hi
    refine LP.of 60 c41l2.eq_1 ?_
    simp [c41t, RD]
    refine ATT.callM Tryz.func41 60 [0] (f63_ok hp s i) rfl trivial (by simp) (by simp [RD]) (by simp) rfl ?_
    simp [RD]
    cases hb : (decide (i < s.size) && p (sbyte s i)) with
    | false =>
      simp
      refine ATT.fin0 Tryz.func41 c41res ?_
      simp [skipS_no hb]
    | true =>
      simp [c41t]
      refine ATT.again' [(0, V.ptr 0 0), (1, V.d (D.fn (Fn.func g) [] []))] ?_ (by simp) ?_
      · simp [inI]; omega
      · rw [skipS_yes hb]
        exact ih (i + 1) (by omega)
def atS (s : ByteArray) (i : Nat) : Int := if i < s.size then sbyte s i else 0
theorem f73_ok (s : ByteArray) (hs : s.size ≤ 1073741824) (i n : Nat) (hi : i ≤ 1073741830) (hn : n ≤ 2) :
    MF Tryz.prog 73 [.ptr 0 0, .d (.int .i64 n)] (RD s i) (.d (.int .u8 (atS s (i + n)))) (RD s i) := by
  have hI : inI ((i : Int) + n) = true := inI_of (by omega) (by omega)
  refine AF.start 60 Tryz.func73 rfl rfl c73call c73ok ?_
  simp [c73c, c73t, RD, hI]
  refine ATT.cD (fun h => ?_) (fun h => ?_)
  · have h' : i + n < s.size := by omega
    have hR : inR ((i : Int) + n) s.size = true := inR_of (by omega) (by omega)
    simp [h, hI, hR]
    refine ATT.fin Tryz.func73 c73res ?_
    simp [atS, h']
  · have h' : ¬ i + n < s.size := by omega
    simp [h, c73t]
    refine ATT.fin Tryz.func73 c73res ?_
    simp [atS, h']
def colonS (s : ByteArray) (i : Nat) : Bool := decide (atS s i = 58) && !decide (atS s (i + 1) = 61)
theorem f70_ok (s : ByteArray) (hs : s.size ≤ 1073741824) (i : Nat) (hi : i ≤ 1073741824) : MF Tryz.prog 70 [.ptr 0 0] (RD s i) (.d (.bool (colonS s i))) (RD s i) := by
  refine AF.start 60 Tryz.func70 rfl rfl c70call c70ok ?_
  simp [c70c, c70t]
  refine ATT.callM Tryz.func70 60 [0] (f73_ok s hs i 0 (by omega) (by omega)) rfl trivial (by simp) (by simp [RD]) (by simp) rfl ?_
  simp [RD]
  refine ATT.cC (fun h => ?_) (fun h => ?_)
  · simp [h]
    refine ATT.callM Tryz.func70 60 [0] (f73_ok s hs i 1 (by omega) (by omega)) rfl (by simp) (by simp) (by simp [RD]) (by simp) rfl ?_
    simp [RD]
    refine ATT.fin Tryz.func70 c70res ?_
    simp [colonS, h]
  · simp [h]
    refine ATT.fin Tryz.func70 c70res ?_
    simp [colonS, h]
def nameS (s : ByteArray) (i : Nat) : Nat := if (decide (i < s.size) && letterS (sbyte s i)) then skipS identS s i else i
theorem letterB : FnB 64 letterS := fun c h0 h1 => f64_ok c h0 h1
theorem identB : FnB 65 identS := fun c h0 h1 => f65_ok c h0 h1
theorem digitB : FnB 66 digitS := fun c _ _ => f66_ok c
theorem f35_ok (s : ByteArray) (hs : s.size ≤ 1073741824) (i : Nat) : MF Tryz.prog 35 [.ptr 0 0] (RD s i) (.d (.bool (decide (i < s.size) && letterS (sbyte s i)))) (RD s (nameS s i)) := by
  have hM := f63_ok letterB s i
  have hn : nameS s i = if (decide (i < s.size) && letterS (sbyte s i)) then skipS identS s i else i := rfl
  generalize (decide (i < s.size) && letterS (sbyte s i)) = b at hM hn ⊢
  refine AF.start 60 Tryz.func35 rfl rfl c35call c35ok ?_
  simp [c35c, c35t]
  refine ATT.callM Tryz.func35 60 [0] hM rfl trivial (by simp) (by simp [RD]) (by simp) rfl ?_
  simp [RD]
  cases b with
  | false =>
    simp [c35t]
    refine ATT.fin Tryz.func35 c35res ?_
    simp [hn]
  | true =>
    simp [c35t]
    refine ATT.callM Tryz.func35 60 [0] (f41_ok identB s hs i) rfl trivial (by simp) (by simp [RD]) (by simp) rfl ?_
    simp [RD, c35t]
    refine ATT.fin Tryz.func35 c35res ?_
    simp [hn]
theorem f23_ok (s : ByteArray) (hs : s.size ≤ 1073741824) : DF Tryz.prog 23 [.str s] (.bool (decide (0 < s.size) && letterS (sbyte s 0) && decide (nameS s 0 = s.size))) := by
  have hM := f35_ok s hs 0
  generalize hb : (decide (0 < s.size) && letterS (sbyte s 0)) = b
  simp only [Int.ofNat_zero] at hM
  rw [hb] at hM
  refine AF.start 60 Tryz.func23 rfl rfl c23call c23ok ?_
  simp [c23c, c23t]
  refine ATT.callM Tryz.func23 60 [0] hM rfl trivial (by simp) (by simp [RD]) (by simp) rfl ?_
  simp [RD]
  cases b with
  | false =>
    simp
    refine ATT.fin Tryz.func23 c23res ?_
    simp
  | true =>
    simp
    refine ATT.fin Tryz.func23 c23res ?_
    simp
    omega
theorem f67_ok (c : Int) : DF Tryz.prog 67 [.int .u8 c] (.bool (letterS c)) := by
  refine AF.start 60 Tryz.func67 rfl rfl c67call c67ok ?_
  simp [c67c, c67t]
  refine ATT.cC (fun h => ?_) (fun h => ?_)
  · simp [h]
    by_cases h2 : c ≤ 122
    · simp [h2]
      refine ATT.fin Tryz.func67 c67res ?_
      simp [letterS, h, h2]
    · simp [h2]
      refine ATT.cC (fun h3 => ?_) (fun h3 => ?_)
      · simp [h3]
        refine ATT.fin Tryz.func67 c67res ?_
        simp [letterS, h, h2, h3]
      · simp [h3]
        refine ATT.fin Tryz.func67 c67res ?_
        simp [letterS, h, h2, h3]
  · simp [h]
    refine ATT.cC (fun h3 => ?_) (fun h3 => ?_)
    · simp [h3]
      refine ATT.fin Tryz.func67 c67res ?_
      simp [letterS, h, h3]
    · simp [h3]
      refine ATT.fin Tryz.func67 c67res ?_
      simp [letterS, h, h3]
theorem f68_ok (c : Int) : DF Tryz.prog 68 [.int .u8 c] (.bool (digitS c)) := by
  refine AF.start 60 Tryz.func68 rfl rfl c68call c68ok ?_
  simp [c68c, c68t]
  refine ATT.cC (fun h => ?_) (fun h => ?_)
  · simp [h]
    refine ATT.fin Tryz.func68 c68res ?_
    simp [digitS, h]
  · simp [h]
    refine ATT.fin Tryz.func68 c68res ?_
    simp [digitS, h]
theorem f36_ok (s : ByteArray) (hs : s.size ≤ 1073741824) (i : Nat) : DF Tryz.prog 36 [.str s, .int .i64 i] (.int .i64 (nameS s i)) := by
  refine AF.start 60 Tryz.func36 rfl rfl c36call c36ok ?_
  by_cases hi : i < s.size
  · have hge : ¬ (s.size : Int) ≤ i := by omega
    have hR : inR (i : Int) s.size = true := inR_of (by omega) (by omega)
    simp [c36c, c36t, hge, hR]
    refine ATT.callD Tryz.func36 60 (f67_ok (sbyte s i)) (by simp) (by simp) rfl ?_
    simp
    cases hl : letterS (sbyte s i) with
    | false =>
      simp [c36t]
      refine ATT.fin Tryz.func36 c36res ?_
      simp [nameS, hl]
    | true =>
      simp
      have hn : nameS s i = skipS identS s i := by simp [nameS, hi, hl]
      rw [hn]
      refine ATT.loop' [(0, V.d (D.str s)), (1, V.d (D.int IntKind.i64 i))] rfl (by simp) ?_
      clear hn hl hR hge hi
      generalize hr : skipS identS s i = r
      generalize hm : s.size - i = m
      induction m generalizing i with
      | zero =>
        refine LP.of 60 c36l5.eq_1 ?_
        have h0 : ¬ (i : Int) < s.size := by omega
        simp [c36t, h0]
        refine ATT.fin Tryz.func36 c36res ?_
        have : skipS identS s i = i := skipS_no (by simp; omega)
        simp [← hr, this]
      | succ m ih =>
        refine LP.of 60 c36l5.eq_1 ?_
        have h0 : (i : Int) < s.size := by omega
        have hR : inR (i : Int) s.size = true := inR_of (by omega) (by omega)
        have hI : inI ((i : Int) + 1) = true := inI_of (by omega) (by omega)
        have hid : identS (sbyte s i) = (letterS (sbyte s i) || digitS (sbyte s i) || decide (sbyte s i = 95)) := rfl
        have go : identS (sbyte s i) = true → skipS identS s (i + 1) = r := fun h => by
          rw [← hr]; exact (skipS_yes (by simp [h]; omega)).symm
        have stop : identS (sbyte s i) = false → i = r := fun h => by
          rw [← hr]; exact (skipS_no (by simp [h])).symm
        have next : identS (sbyte s i) = true → LP Tryz.prog 42 (.of 36) (fun o x => o = Out.ret (V.d (D.int IntKind.i64 ↑r))) c36l5 [AItem.blk 0, AItem.code ((AC.regT c36t 6).seq AC.ret)] [(0, V.d (D.str s)), (1, V.d (D.int IntKind.i64 ((i : Int) + 1)))] { bx := [], vc := [] } := fun h => by
          have := ih (i + 1) (go h) (by omega)
          simpa using this
        simp [c36t, h0, hR]
        refine ATT.callD Tryz.func36 60 (f67_ok (sbyte s i)) (by simp) (by simp) rfl ?_
        simp
        cases hl : letterS (sbyte s i) with
        | true =>
          simp [c36t, hI]
          exact ATT.again' _ rfl (by simp) (next (by simp [hid, hl]))
        | false =>
          simp [hR]
          refine ATT.callD Tryz.func36 60 (f68_ok (sbyte s i)) (by simp) (by simp) rfl ?_
          simp
          cases hd : digitS (sbyte s i) with
          | true =>
            simp [c36t, hI]
            exact ATT.again' _ rfl (by simp) (next (by simp [hid, hl, hd]))
          | false =>
            by_cases h95 : sbyte s i = 95
            · simp [c36t, hR, h95, hI]
              exact ATT.again' _ rfl (by simp) (next (by rw [hid, hl, hd]; simp [h95]))
            · simp [c36t, hR, h95]
              refine ATT.fin Tryz.func36 c36res ?_
              simp [stop (by simp [hid, hl, hd, h95])]
  · have hge : (s.size : Int) ≤ i := by omega
    simp [c36c, c36t, hge]
    refine ATT.fin Tryz.func36 c36res ?_
    simp [nameS, hi]
theorem f24_ok (s : ByteArray) (hs : s.size ≤ 1073741824) : DF Tryz.prog 24 [.str s] (.bool (decide (0 < s.size) && decide (nameS s 0 = s.size))) := by
  refine AF.start 60 Tryz.func24 rfl rfl c24call c24ok ?_
  by_cases h0 : 0 < s.size
  · simp [c24c, c24t, h0]
    refine ATT.callD Tryz.func24 60 (f36_ok s hs 0) (by simp) (by simp) rfl ?_
    simp
    refine ATT.fin Tryz.func24 c24res ?_
    simp
    omega
  · simp [c24c, c24t, h0]
    refine ATT.fin Tryz.func24 c24res ?_
    simp
def Ascii (s : ByteArray) : Prop := ∀ i, i < s.size → sbyte s i < 128
theorem get_sbyte (s : ByteArray) (i : Nat) (h : i < s.size) : ((s.get! i).toNat : Int) = sbyte s i := by
  unfold sbyte
  have h' : i < s.data.size := h
  simp [ByteArray.get!, getElem!_def, Array.getElem?_eq_getElem h', List.getD]
theorem decode_of (s : ByteArray) (i : Nat) (h : i < s.size) (ha : sbyte s i < 128) : Utf8.decode s i = ((sbyte s i).toNat, 1) := by
  have hg := get_sbyte s i h
  have : (s.get! i).toNat < 128 := by omega
  unfold Utf8.decode
  simp only [Nat.add_zero]
  rw [if_pos (by simpa using this)]
  congr 1
  omega
def placeS (c : Int) (s : ByteArray) (i : Nat) : Int := if h : i < s.size then (if sbyte s i = c then i else placeS c s (i + 1)) else -1
termination_by s.size - i
theorem f43_ok (c : Int) (s : ByteArray) (ha : Ascii s) : DF Tryz.prog 43 [.int .u8 c, .str s] (.int .i64 (placeS c s 0)) := by
  refine AF.start 60 Tryz.func43 rfl rfl c43call c43ok ?_
  simp [c43c, c43t]
  refine ATT.loop' [(8, V.ptr 0 0), (0, V.d (D.int IntKind.u8 c))] rfl (by simp) ?_
  generalize hr : placeS c s 0 = r
  suffices H : ∀ m i, s.size - i = m → placeS c s i = r → LP Tryz.prog 18 (.of 43) (fun o x => o = Out.ret (V.d (D.int IntKind.i64 r))) c43l6 [AItem.blk 0, AItem.code ((AC.regT c43t 7).seq AC.ret)]
      [(8, V.ptr 0 0), (0, V.d (D.int IntKind.u8 c))] { bx := [Bx.iter s i], vc := [] } from H _ 0 rfl hr
  clear hr
  intro m
  induction m with
  | zero =>
    intro i hm hr
    refine LP.of 60 c43l6.eq_1 ?_
    have h0 : ¬ i < s.size := by omega
    simp [c43t, h0]
    refine ATT.fin Tryz.func43 c43res ?_
    rw [placeS] at hr
    simp [h0] at hr
    simp [hr]
  | succ m ih =>
    intro i hm hr
    refine LP.of 60 c43l6.eq_1 ?_
    have h0 : i < s.size := by omega
    have hd := decode_of s i h0 (ha i h0)
    have hb := sbyte_bd s i
    have hw : IntKind.u8.wrap (sbyte s i) = sbyte s i := by
      simp [IntKind.wrap, IntKind.bits, IntKind.signed]
      omega
    have ht : (((sbyte s i).toNat : Nat) : Int) = sbyte s i := by omega
    simp [c43t, h0, hd, ht, hw]
    rw [placeS] at hr
    simp only [h0, dite_true] at hr
    refine ATT.cD (fun h => ?_) (fun h => ?_)
    · simp [c43t, h]
      refine ATT.fin Tryz.func43 c43res ?_
      rw [if_pos h] at hr
      simp [hr]
    · simp [h]
      rw [if_neg h] at hr
      exact ATT.again' _ rfl (by simp) (ih (i + 1) (by omega) hr)
end Go.SL
