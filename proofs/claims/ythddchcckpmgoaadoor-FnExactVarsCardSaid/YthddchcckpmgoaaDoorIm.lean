/- Proof: the functions in small steps. No condition. -/
import Derived.Test.YthddchcckpmgoaaDoorPvG
import Derived.Test.YthddchcckpmgoaaDoorLb
set_option autoImplicit true
set_option relaxedAutoImplicit true
set_option linter.unusedSimpArgs false
set_option linter.unusedVariables false
set_option maxRecDepth 20000
namespace Go.Pv
def ir3 : IFun := ⟨(.seq (.region [⟨(some 1), (.box (.t 0)), none⟩, ⟨(some 2), (.mv (.c (bool false))), none⟩] []) (.seq (.region [⟨(some 3), (.mv (.c (int 1048576))), none⟩] []) (.seq (.region [⟨(some 11), (.load 4 true (.t 1)), none⟩, ⟨(some 12), (.mv (.t 3)), none⟩, ⟨(some 13), (.call 6 [.t 11, .t 12]), none⟩, ⟨(some 3), (.mv (.t 13)), none⟩] []) (.seq (.seq (.region [⟨(some 14), (.mv (.t 3)), none⟩, ⟨(some 15), (.bin .lss (.t 14) (.c (int 0))), none⟩] []) (.cond (.t 15) (.seq (.region [⟨(some 2), (.mv (.c (bool true))), none⟩] []) .ret) .skip)) (.seq (.region [⟨(some 16), (.load 4 true (.t 1)), none⟩, ⟨(some 17), (.call 8 [.t 16]), none⟩, ⟨(some 18), (.call 7 [.t 17]), none⟩, ⟨(some 4), (.mv (.t 18)), none⟩] []) (.seq (.region [⟨(some 19), (.load 4 true (.t 1)), none⟩, ⟨(some 20), (.call 8 [.t 19]), none⟩, ⟨(some 5), (.alloc [int 0, str ⟨#[]⟩, int 0, .ls true []]), none⟩, ⟨none, (.store 4 (.t 5) (.t 20)), none⟩] []) (.seq (.region [⟨(some 21), (.load 4 true (.t 5)), none⟩, ⟨(some 22), (.call 9 [.t 21]), none⟩, ⟨(some 6), (.mv (.t 22)), none⟩] []) (.seq (.seq (.region [⟨(some 23), (.mv (.t 6)), none⟩, ⟨(some 24), (.mv (.t 4)), none⟩, ⟨(some 25), (.call 10 [.t 23, .t 24]), none⟩, ⟨(some 26), (.un .not (.t 25)), none⟩] []) (.cond (.t 26) (.seq (.region [⟨(some 2), (.mv (.c (bool false))), none⟩] []) .ret) .skip)) (.seq (.seq (.region [⟨(some 27), (.load 4 true (.t 5)), none⟩, ⟨(some 28), (.load 4 true (.t 1)), none⟩, ⟨(some 29), (.call 8 [.t 28]), none⟩, ⟨(some 30), (.call 11 [.t 27, .t 29]), none⟩, ⟨(some 31), (.un .not (.t 30)), none⟩] [(0, 1), (0, 2)]) (.cond (.t 31) (.seq (.region [⟨(some 2), (.mv (.c (bool false))), none⟩] []) .ret) .skip)) (.seq (.region [⟨(some 7), (.mv (.c (int 1))), none⟩] []) (.seq (.region [⟨(some 32), (.load 4 true (.t 5)), none⟩, ⟨(some 33), (.mv (.t 7)), none⟩, ⟨(some 34), (.call 12 [.t 32, .t 33]), none⟩, ⟨(some 7), (.mv (.t 34)), none⟩] []) (.seq (.seq (.region [⟨(some 35), (.mv (.t 7)), none⟩, ⟨(some 36), (.bin .lss (.t 35) (.c (int 0))), none⟩, ⟨(some 37), (.mv (.t 36)), none⟩, ⟨(some 38), (.mv (.t 6)), (some (37, false))⟩, ⟨(some 39), (.mv (.t 4)), (some (37, false))⟩, ⟨(some 40), (.call 10 [.t 38, .t 39]), (some (37, false))⟩, ⟨(some 41), (.un .not (.t 40)), (some (37, false))⟩, ⟨(some 42), (.pick (.t 37) (.c (bool true)) (.t 41)), none⟩] []) (.cond (.t 42) (.seq (.region [⟨(some 2), (.mv (.c (bool false))), none⟩] []) .ret) .skip)) (.seq (.region [⟨(some 8), (.mv (.c (int 1))), none⟩] []) (.seq (.region [⟨(some 43), (.mv (.t 6)), none⟩, ⟨(some 44), (.mv (.t 8)), none⟩, ⟨(some 45), (.call 13 [.t 43, .t 44]), none⟩, ⟨(some 8), (.mv (.t 45)), none⟩] []) (.seq (.region [⟨(some 9), (.mv (.c (int 1))), none⟩] []) (.seq (.region [⟨(some 46), (.mv (.t 6)), none⟩, ⟨(some 47), (.mv (.t 9)), none⟩, ⟨(some 48), (.call 14 [.t 46, .t 47]), none⟩, ⟨(some 9), (.mv (.t 48)), none⟩] []) (.seq (.seq (.region [⟨(some 49), (.mv (.t 9)), none⟩, ⟨(some 50), (.bin .lss (.t 49) (.c (int 0))), none⟩] []) (.cond (.t 50) (.seq (.region [⟨(some 2), (.mv (.c (bool false))), none⟩] []) .ret) .skip)) (.seq (.seq (.region [⟨(some 51), (.mv (.t 9)), none⟩, ⟨(some 52), (.mv (.t 8)), none⟩, ⟨(some 53), (.bin .neq (.t 51) (.t 52)), none⟩] []) (.cond (.t 53) (.seq (.region [⟨(some 2), (.mv (.c (bool false))), none⟩] []) .ret) .skip)) (.seq (.region [⟨(some 54), (.load 4 true (.t 1)), none⟩, ⟨(some 55), (.call 8 [.t 54]), none⟩, ⟨(some 56), (.call 9 [.t 55]), none⟩, ⟨(some 10), (.mv (.t 56)), none⟩] []) (.seq (.seq (.region [⟨(some 57), (.mv (.t 10)), none⟩, ⟨(some 58), (.mv (.t 4)), none⟩, ⟨(some 59), (.call 10 [.t 57, .t 58]), none⟩, ⟨(some 60), (.un .not (.t 59)), none⟩] []) (.cond (.t 60) (.seq (.region [⟨(some 2), (.mv (.c (bool false))), none⟩] []) .ret) .skip)) (.seq (.region [⟨(some 9), (.mv (.c (int 1))), none⟩] []) (.seq (.region [⟨(some 61), (.mv (.t 6)), none⟩, ⟨(some 62), (.mv (.t 9)), none⟩, ⟨(some 63), (.call 14 [.t 61, .t 62]), none⟩, ⟨(some 9), (.mv (.t 63)), none⟩] []) (.seq (.seq (.region [⟨(some 64), (.mv (.t 9)), none⟩, ⟨(some 65), (.bin .lss (.t 64) (.c (int 0))), none⟩] []) (.cond (.t 65) (.seq (.region [⟨(some 2), (.mv (.c (bool false))), none⟩] []) .ret) .skip)) (.seq (.seq (.region [⟨(some 66), (.mv (.t 9)), none⟩, ⟨(some 67), (.mv (.t 8)), none⟩, ⟨(some 68), (.bin .neq (.t 66) (.t 67)), none⟩] []) (.cond (.t 68) (.seq (.region [⟨(some 2), (.mv (.c (bool false))), none⟩] []) .ret) .skip)) (.seq (.region [⟨(some 2), (.mv (.c (bool true))), none⟩] []) .ret))))))))))))))))))))))))), [.t 2], [], []⟩
def ir6 : IFun := ⟨(.seq (.region [⟨(some 2), (.box (.t 0)), none⟩, ⟨(some 4), (.mv (.c (int 0))), none⟩] []) (.seq (.region [⟨(some 5), (.mv (.t 1)), none⟩, ⟨(some 6), (.fld 1 (.t 2)), none⟩, ⟨(some 7), (.load 1 false (.t 6)), none⟩, ⟨(some 8), (.len 1 (.t 7)), none⟩, ⟨(some 9), (.bin .sub (.t 5) (.t 8)), none⟩, ⟨(some 1), (.mv (.t 9)), none⟩] []) (.seq (.seq (.region [⟨(some 10), (.mv (.t 1)), none⟩, ⟨(some 11), (.bin .lss (.t 10) (.c (int 0))), none⟩] []) (.cond (.t 11) (.seq (.region [⟨(some 4), (.mv (.c (int (-1)))), none⟩] []) .ret) .skip)) (.seq (.region [⟨(some 12), (.fld 3 (.t 2)), none⟩, ⟨(some 13), (.load 1 false (.t 12)), none⟩, ⟨(some 14), (.mv (.t 1)), none⟩, ⟨(some 15), (.call 22 [.t 13, .t 14]), none⟩, ⟨(some 1), (.mv (.t 15)), none⟩] []) (.seq (.seq (.region [⟨(some 16), (.mv (.t 1)), none⟩, ⟨(some 17), (.bin .lss (.t 16) (.c (int 0))), none⟩] []) (.cond (.t 17) (.seq (.region [⟨(some 4), (.mv (.c (int (-1)))), none⟩] []) .ret) .skip)) (.seq (.region [⟨(some 18), (.mv (.t 1)), none⟩, ⟨(some 4), (.mv (.t 18)), none⟩] []) .ret)))))), [.t 4], [], []⟩
def lp7_0 : IC := (.seq (.seq (.region [⟨(some 9), (.mv (.t 5)), none⟩, ⟨(some 10), (.mv (.t 4)), none⟩, ⟨(some 11), (.len 0 (.t 10)), none⟩, ⟨(some 12), (.bin .lss (.t 9) (.t 11)), none⟩] []) (.cond (.t 12) .skip (.exit 0))) (.seq (.block 1 (.seq (.region [⟨(some 15), (.mv (.t 3)), none⟩, ⟨(some 16), (.mv (.t 4)), none⟩, ⟨(some 17), (.mv (.t 5)), none⟩, ⟨(some 18), (.idx 1 (.t 16) (.t 17)), none⟩, ⟨(some 19), (.load 1 false (.t 18)), none⟩, ⟨(some 20), (.call 24 [.t 15, .t 19]), none⟩, ⟨(some 21), (.un .not (.t 20)), none⟩] []) (.cond (.t 21) (.region [⟨(some 22), (.mv (.t 3)), none⟩, ⟨(some 23), (.mv (.t 4)), none⟩, ⟨(some 24), (.mv (.t 5)), none⟩, ⟨(some 25), (.idx 1 (.t 23) (.t 24)), none⟩, ⟨(some 26), (.load 1 false (.t 25)), none⟩, ⟨(some 27), (.bsl [str ⟨#[]⟩] 1 [(0, .t 26)]), none⟩, ⟨(some 28), (.app 1 16 true (.t 22) (.t 27)), none⟩, ⟨(some 3), (.mv (.t 28)), none⟩] []) .skip))) (.region [⟨(some 13), (.mv (.t 5)), none⟩, ⟨(some 14), (.bin .add (.t 13) (.c (int 1))), none⟩, ⟨(some 5), (.mv (.t 14)), none⟩] [])))
def ir7 : IFun := ⟨(.seq (.region [⟨(some 1), (.box (.t 0)), none⟩, ⟨(some 2), (.mv (.c (.ls true []))), none⟩] []) (.seq (.region [⟨(some 6), (.bsl [str ⟨#[]⟩] 0 []), none⟩, ⟨(some 3), (.mv (.t 6)), none⟩] []) (.seq (.region [⟨(some 7), (.load 4 true (.t 1)), none⟩, ⟨(some 8), (.call 23 [.t 7]), none⟩, ⟨(some 4), (.mv (.t 8)), none⟩] []) (.seq (.seq (.region [⟨(some 5), (.mv (.c (int 0))), none⟩] []) (.block 0 (.loop lp7_0 [3, 4, 5] [2, 3]))) (.seq (.region [⟨(some 29), (.mv (.t 3)), none⟩, ⟨(some 2), (.mv (.t 29)), none⟩] []) .ret))))), [.t 2], [], []⟩
def ir8 : IFun := ⟨(.seq (.region [⟨(some 1), (.box (.t 0)), none⟩, ⟨(some 2), (.alloc [int 0, str ⟨#[]⟩, int 0, .ls true []]), none⟩] []) (.seq (.region [⟨(some 3), (.alloc [int 0, str ⟨#[]⟩, int 0, .ls true []]), none⟩] []) (.seq (.region [⟨(some 4), (.fld 0 (.t 1)), none⟩, ⟨(some 5), (.load 1 false (.t 4)), none⟩, ⟨(some 6), (.fld 0 (.t 3)), none⟩, ⟨none, (.store 1 (.t 6) (.t 5)), none⟩] []) (.seq (.region [⟨(some 7), (.fld 1 (.t 1)), none⟩, ⟨(some 8), (.load 1 false (.t 7)), none⟩, ⟨(some 9), (.fld 1 (.t 3)), none⟩, ⟨none, (.store 1 (.t 9) (.t 8)), none⟩] []) (.seq (.region [⟨(some 10), (.fld 2 (.t 1)), none⟩, ⟨(some 11), (.load 1 false (.t 10)), none⟩, ⟨(some 12), (.fld 2 (.t 3)), none⟩, ⟨none, (.store 1 (.t 12) (.t 11)), none⟩] []) (.seq (.region [⟨(some 13), (.fld 3 (.t 1)), none⟩, ⟨(some 14), (.load 1 false (.t 13)), none⟩, ⟨(some 15), (.call 25 [.t 14]), none⟩, ⟨(some 16), (.fld 3 (.t 3)), none⟩, ⟨none, (.store 1 (.t 16) (.t 15)), none⟩] []) (.seq (.region [⟨(some 17), (.load 4 true (.t 3)), none⟩, ⟨none, (.store 4 (.t 2) (.t 17)), none⟩] []) .ret))))))), [.c 2 4 true], [], []⟩
def lp9_0 : IC := (.seq (.region [⟨(some 15), (.bin .lss (.t 14) (.t 13)), none⟩] []) (.seq (.cond (.t 15) .skip (.exit 0)) (.seq (.block 1 (.seq (.region [⟨(some 16), (.idx 1 (.t 12) (.t 14)), none⟩, ⟨(some 17), (.load 1 false (.t 16)), none⟩, ⟨(some 6), (.mv (.t 17)), none⟩] []) (.region [⟨(some 18), (.load 1 false (.t 4)), none⟩, ⟨(some 19), (.mv (.t 6)), none⟩, ⟨(some 20), (.callv (.t 18) [.t 19]), none⟩] []))) (.region [⟨(some 21), (.bin .add (.t 14) (.c (int 1))), none⟩, ⟨(some 14), (.mv (.t 21)), none⟩] []))))
def ir9 : IFun := ⟨(.seq (.region [⟨(some 1), (.box (.t 0)), none⟩, ⟨(some 2), (.mv (.c (.ls true []))), none⟩] []) (.seq (.region [⟨(some 3), (.alloc [.ls true []]), none⟩] []) (.seq (.region [⟨(some 7), (.mkfn 26 [.t 3]), none⟩, ⟨(some 4), (.alloc [.sc .nilFunc]), none⟩, ⟨none, (.store 1 (.t 4) (.t 7)), none⟩] []) (.seq (.seq (.region [⟨(some 8), (.fld 0 (.t 1)), none⟩, ⟨(some 9), (.load 1 false (.t 8)), none⟩, ⟨(some 10), (.bin .eql (.t 9) (.c (int 27))), none⟩] []) (.cond (.t 10) (.seq (.region [⟨(some 11), (.load 4 true (.t 1)), none⟩, ⟨(some 12), (.call 28 [.t 11]), none⟩, ⟨(some 13), (.len 0 (.t 12)), none⟩, ⟨(some 14), (.mv (.c (int 0))), none⟩] []) (.block 0 (.loop lp9_0 [1, 3, 4, 12, 13, 14] [1, 2, 3, 4]))) .skip)) (.seq (.seq (.region [⟨(some 22), (.fld 0 (.t 1)), none⟩, ⟨(some 23), (.load 1 false (.t 22)), none⟩, ⟨(some 24), (.bin .eql (.t 23) (.c (int 2))), none⟩] []) (.cond (.t 24) (.region [⟨(some 25), (.load 1 false (.t 4)), none⟩, ⟨(some 26), (.fld 1 (.t 1)), none⟩, ⟨(some 27), (.load 1 false (.t 26)), none⟩, ⟨(some 28), (.callv (.t 25) [.t 27]), none⟩] []) .skip)) (.seq (.region [⟨(some 29), (.load 4 true (.t 1)), none⟩, ⟨(some 30), (.mkfn 30 [.t 4]), none⟩, ⟨(some 31), (.call 29 [.t 29, .t 30]), none⟩] []) (.seq (.region [⟨(some 32), (.load 1 false (.t 3)), none⟩, ⟨(some 2), (.mv (.t 32)), none⟩] []) .ret))))))), [.t 2], [], []⟩
def lp10_0 : IC := (.seq (.seq (.region [⟨(some 11), (.mv (.t 5)), none⟩, ⟨(some 12), (.mv (.t 0)), none⟩, ⟨(some 13), (.len 0 (.t 12)), none⟩, ⟨(some 14), (.bin .lss (.t 11) (.t 13)), none⟩] []) (.cond (.t 14) .skip (.exit 0))) (.seq (.block 1 (.seq (.region [⟨(some 17), (.mv (.t 0)), none⟩, ⟨(some 18), (.mv (.t 5)), none⟩, ⟨(some 19), (.idx 1 (.t 17) (.t 18)), none⟩, ⟨(some 20), (.load 1 false (.t 19)), none⟩, ⟨(some 21), (.mv (.t 1)), none⟩, ⟨(some 22), (.mv (.t 5)), none⟩, ⟨(some 23), (.idx 1 (.t 21) (.t 22)), none⟩, ⟨(some 24), (.load 1 false (.t 23)), none⟩, ⟨(some 25), (.bin .neq (.t 20) (.t 24)), none⟩] [(0, 1), (0, 4), (1, 4), (2, 4), (3, 4), (0, 5), (1, 5), (2, 5), (3, 5), (4, 5), (0, 6), (1, 6), (2, 6), (3, 6), (0, 7), (1, 7), (2, 7), (3, 7)]) (.cond (.t 25) (.seq (.region [⟨(some 4), (.mv (.c (bool false))), none⟩] []) .ret) .skip))) (.region [⟨(some 15), (.mv (.t 5)), none⟩, ⟨(some 16), (.bin .add (.t 15) (.c (int 1))), none⟩, ⟨(some 5), (.mv (.t 16)), none⟩] [])))
def ir10 : IFun := ⟨(.seq (.region [⟨(some 4), (.mv (.c (bool false))), none⟩] []) (.seq (.seq (.region [⟨(some 6), (.mv (.t 0)), none⟩, ⟨(some 7), (.len 0 (.t 6)), none⟩, ⟨(some 8), (.mv (.t 1)), none⟩, ⟨(some 9), (.len 0 (.t 8)), none⟩, ⟨(some 10), (.bin .neq (.t 7) (.t 9)), none⟩] []) (.cond (.t 10) (.seq (.region [⟨(some 4), (.mv (.c (bool false))), none⟩] []) .ret) .skip)) (.seq (.seq (.region [⟨(some 5), (.mv (.c (int 0))), none⟩] []) (.block 0 (.loop lp10_0 [0, 1, 5] [4]))) (.seq (.region [⟨(some 4), (.mv (.c (bool true))), none⟩] []) .ret)))), [.t 4], [], []⟩
def ir11 : IFun := ⟨(.seq (.region [⟨(some 2), (.box (.t 0)), none⟩, ⟨(some 3), (.box (.t 1)), none⟩, ⟨(some 4), (.mv (.c (bool false))), none⟩] []) (.seq (.seq (.region [⟨(some 5), (.fld 0 (.t 2)), none⟩, ⟨(some 6), (.load 1 false (.t 5)), none⟩, ⟨(some 7), (.fld 0 (.t 3)), none⟩, ⟨(some 8), (.load 1 false (.t 7)), none⟩, ⟨(some 9), (.bin .neq (.t 6) (.t 8)), none⟩] []) (.cond (.t 9) (.seq (.region [⟨(some 4), (.mv (.c (bool false))), none⟩] []) .ret) .skip)) (.seq (.seq (.region [⟨(some 10), (.fld 1 (.t 2)), none⟩, ⟨(some 11), (.load 1 false (.t 10)), none⟩, ⟨(some 12), (.fld 1 (.t 3)), none⟩, ⟨(some 13), (.load 1 false (.t 12)), none⟩, ⟨(some 14), (.bin .neq (.t 11) (.t 13)), none⟩] []) (.cond (.t 14) (.seq (.region [⟨(some 4), (.mv (.c (bool false))), none⟩] []) .ret) .skip)) (.seq (.seq (.region [⟨(some 15), (.fld 2 (.t 2)), none⟩, ⟨(some 16), (.load 1 false (.t 15)), none⟩, ⟨(some 17), (.fld 2 (.t 3)), none⟩, ⟨(some 18), (.load 1 false (.t 17)), none⟩, ⟨(some 19), (.bin .neq (.t 16) (.t 18)), none⟩] []) (.cond (.t 19) (.seq (.region [⟨(some 4), (.mv (.c (bool false))), none⟩] []) .ret) .skip)) (.seq (.seq (.region [⟨(some 20), (.fld 3 (.t 2)), none⟩, ⟨(some 21), (.load 1 false (.t 20)), none⟩, ⟨(some 22), (.fld 3 (.t 3)), none⟩, ⟨(some 23), (.load 1 false (.t 22)), none⟩, ⟨(some 24), (.call 19 [.t 21, .t 23]), none⟩, ⟨(some 25), (.un .not (.t 24)), none⟩] []) (.cond (.t 25) (.seq (.region [⟨(some 4), (.mv (.c (bool false))), none⟩] []) .ret) .skip)) (.seq (.region [⟨(some 4), (.mv (.c (bool true))), none⟩] []) .ret)))))), [.t 4], [], []⟩
def ir12 : IFun := ⟨(.seq (.region [⟨(some 2), (.box (.t 0)), none⟩, ⟨(some 4), (.mv (.c (int 0))), none⟩] []) (.seq (.region [⟨(some 5), (.fld 3 (.t 2)), none⟩, ⟨(some 6), (.load 1 false (.t 5)), none⟩, ⟨(some 7), (.mv (.t 1)), none⟩, ⟨(some 8), (.call 20 [.t 6, .t 7]), none⟩, ⟨(some 1), (.mv (.t 8)), none⟩] []) (.seq (.region [⟨(some 9), (.mv (.t 1)), none⟩, ⟨(some 4), (.mv (.t 9)), none⟩] []) .ret))), [.t 4], [0], []⟩
def lp13_0 : IC := (.seq (.seq (.region [⟨(some 6), (.mv (.t 5)), none⟩, ⟨(some 7), (.mv (.t 0)), none⟩, ⟨(some 8), (.len 0 (.t 7)), none⟩, ⟨(some 9), (.bin .lss (.t 6) (.t 8)), none⟩] []) (.cond (.t 9) .skip (.exit 0))) (.seq (.block 1 (.seq (.region [⟨(some 12), (.mv (.t 0)), none⟩, ⟨(some 13), (.mv (.t 5)), none⟩, ⟨(some 14), (.mv (.t 1)), none⟩, ⟨(some 15), (.call 31 [.t 14]), none⟩, ⟨(some 16), (.idx 1 (.t 12) (.t 13)), none⟩, ⟨none, (.store 1 (.t 16) (.t 15)), none⟩] []) (.region [⟨(some 17), (.mv (.t 1)), none⟩, ⟨(some 18), (.bin .add (.t 17) (.c (int 1))), none⟩, ⟨(some 1), (.mv (.t 18)), none⟩] []))) (.region [⟨(some 10), (.mv (.t 5)), none⟩, ⟨(some 11), (.bin .add (.t 10) (.c (int 1))), none⟩, ⟨(some 5), (.mv (.t 11)), none⟩] [])))
def ir13 : IFun := ⟨(.seq (.region [⟨(some 4), (.mv (.c (int 0))), none⟩] []) (.seq (.seq (.region [⟨(some 5), (.mv (.c (int 0))), none⟩] []) (.block 0 (.loop lp13_0 [0, 1, 5] [0, 1, 4]))) (.seq (.region [⟨(some 19), (.mv (.t 1)), none⟩, ⟨(some 4), (.mv (.t 19)), none⟩] []) .ret))), [.t 4], [0], []⟩
def lp14_0 : IC := (.seq (.seq (.region [⟨(some 6), (.mv (.t 5)), none⟩, ⟨(some 7), (.mv (.t 0)), none⟩, ⟨(some 8), (.len 0 (.t 7)), none⟩, ⟨(some 9), (.bin .lss (.t 6) (.t 8)), none⟩] []) (.cond (.t 9) .skip (.exit 0))) (.seq (.block 1 (.seq (.seq (.region [⟨(some 12), (.mv (.t 0)), none⟩, ⟨(some 13), (.mv (.t 5)), none⟩, ⟨(some 14), (.idx 1 (.t 12) (.t 13)), none⟩, ⟨(some 15), (.load 1 false (.t 14)), none⟩, ⟨(some 16), (.mv (.t 1)), none⟩, ⟨(some 17), (.call 31 [.t 16]), none⟩, ⟨(some 18), (.bin .neq (.t 15) (.t 17)), none⟩] [(0, 1), (0, 4), (1, 4), (2, 4), (3, 4), (0, 5), (1, 5), (2, 5), (3, 5)]) (.cond (.t 18) (.seq (.region [⟨(some 4), (.mv (.c (int (-1)))), none⟩] []) .ret) .skip)) (.region [⟨(some 19), (.mv (.t 1)), none⟩, ⟨(some 20), (.bin .add (.t 19) (.c (int 1))), none⟩, ⟨(some 1), (.mv (.t 20)), none⟩] []))) (.region [⟨(some 10), (.mv (.t 5)), none⟩, ⟨(some 11), (.bin .add (.t 10) (.c (int 1))), none⟩, ⟨(some 5), (.mv (.t 11)), none⟩] [])))
def ir14 : IFun := ⟨(.seq (.region [⟨(some 4), (.mv (.c (int 0))), none⟩] []) (.seq (.seq (.region [⟨(some 5), (.mv (.c (int 0))), none⟩] []) (.block 0 (.loop lp14_0 [0, 1, 5] [1, 4]))) (.seq (.region [⟨(some 21), (.mv (.t 1)), none⟩, ⟨(some 4), (.mv (.t 21)), none⟩] []) .ret))), [.t 4], [], []⟩
def lp19_0 : IC := (.seq (.seq (.region [⟨(some 11), (.mv (.t 5)), none⟩, ⟨(some 12), (.mv (.t 0)), none⟩, ⟨(some 13), (.len 0 (.t 12)), none⟩, ⟨(some 14), (.bin .lss (.t 11) (.t 13)), none⟩] []) (.cond (.t 14) .skip (.exit 0))) (.seq (.block 1 (.seq (.region [⟨(some 17), (.mv (.t 0)), none⟩, ⟨(some 18), (.mv (.t 5)), none⟩, ⟨(some 19), (.idx 4 (.t 17) (.t 18)), none⟩, ⟨(some 20), (.load 4 true (.t 19)), none⟩, ⟨(some 21), (.mv (.t 1)), none⟩, ⟨(some 22), (.mv (.t 5)), none⟩, ⟨(some 23), (.idx 4 (.t 21) (.t 22)), none⟩, ⟨(some 24), (.load 4 true (.t 23)), none⟩, ⟨(some 25), (.call 11 [.t 20, .t 24]), none⟩, ⟨(some 26), (.un .not (.t 25)), none⟩] [(0, 1), (0, 4), (1, 4), (2, 4), (3, 4), (0, 5), (1, 5), (2, 5), (3, 5), (4, 5), (0, 6), (1, 6), (2, 6), (3, 6), (0, 7), (1, 7), (2, 7), (3, 7)]) (.cond (.t 26) (.seq (.region [⟨(some 4), (.mv (.c (bool false))), none⟩] []) .ret) .skip))) (.region [⟨(some 15), (.mv (.t 5)), none⟩, ⟨(some 16), (.bin .add (.t 15) (.c (int 1))), none⟩, ⟨(some 5), (.mv (.t 16)), none⟩] [])))
def ir19 : IFun := ⟨(.seq (.region [⟨(some 4), (.mv (.c (bool false))), none⟩] []) (.seq (.seq (.region [⟨(some 6), (.mv (.t 0)), none⟩, ⟨(some 7), (.len 0 (.t 6)), none⟩, ⟨(some 8), (.mv (.t 1)), none⟩, ⟨(some 9), (.len 0 (.t 8)), none⟩, ⟨(some 10), (.bin .neq (.t 7) (.t 9)), none⟩] []) (.cond (.t 10) (.seq (.region [⟨(some 4), (.mv (.c (bool false))), none⟩] []) .ret) .skip)) (.seq (.seq (.region [⟨(some 5), (.mv (.c (int 0))), none⟩] []) (.block 0 (.loop lp19_0 [0, 1, 5] [4]))) (.seq (.region [⟨(some 4), (.mv (.c (bool true))), none⟩] []) .ret)))), [.t 4], [], []⟩
def lp20_0 : IC := (.seq (.seq (.region [⟨(some 6), (.mv (.t 5)), none⟩, ⟨(some 7), (.mv (.t 0)), none⟩, ⟨(some 8), (.len 0 (.t 7)), none⟩, ⟨(some 9), (.bin .lss (.t 6) (.t 8)), none⟩] []) (.cond (.t 9) .skip (.exit 0))) (.seq (.block 1 (.seq (.region [⟨(some 12), (.mv (.t 0)), none⟩, ⟨(some 13), (.mv (.t 5)), none⟩, ⟨(some 14), (.mv (.t 1)), none⟩, ⟨(some 15), (.idx 4 (.t 12) (.t 13)), none⟩, ⟨(some 16), (.fld 0 (.t 15)), none⟩, ⟨none, (.store 1 (.t 16) (.t 14)), none⟩] []) (.seq (.region [⟨(some 17), (.mv (.t 1)), none⟩, ⟨(some 18), (.bin .add (.t 17) (.c (int 1))), none⟩, ⟨(some 1), (.mv (.t 18)), none⟩] []) (.seq (.region [⟨(some 19), (.mv (.t 0)), none⟩, ⟨(some 20), (.mv (.t 5)), none⟩, ⟨(some 21), (.mv (.t 1)), none⟩, ⟨(some 22), (.call 31 [.t 21]), none⟩, ⟨(some 23), (.idx 4 (.t 19) (.t 20)), none⟩, ⟨(some 24), (.fld 1 (.t 23)), none⟩, ⟨none, (.store 1 (.t 24) (.t 22)), none⟩] []) (.seq (.region [⟨(some 25), (.mv (.t 1)), none⟩, ⟨(some 26), (.bin .add (.t 25) (.c (int 1))), none⟩, ⟨(some 1), (.mv (.t 26)), none⟩] []) (.seq (.region [⟨(some 27), (.mv (.t 0)), none⟩, ⟨(some 28), (.mv (.t 5)), none⟩, ⟨(some 29), (.mv (.t 1)), none⟩, ⟨(some 30), (.idx 4 (.t 27) (.t 28)), none⟩, ⟨(some 31), (.fld 2 (.t 30)), none⟩, ⟨none, (.store 1 (.t 31) (.t 29)), none⟩] []) (.seq (.region [⟨(some 32), (.mv (.t 1)), none⟩, ⟨(some 33), (.bin .add (.t 32) (.c (int 1))), none⟩, ⟨(some 1), (.mv (.t 33)), none⟩] []) (.region [⟨(some 34), (.mv (.t 0)), none⟩, ⟨(some 35), (.mv (.t 5)), none⟩, ⟨(some 36), (.idx 4 (.t 34) (.t 35)), none⟩, ⟨(some 37), (.fld 3 (.t 36)), none⟩, ⟨(some 38), (.take 1 false (.t 37)), none⟩, ⟨(some 39), (.mv (.t 1)), none⟩, ⟨(some 40), (.call 20 [.t 38, .t 39]), none⟩, ⟨(some 1), (.mv (.t 40)), none⟩] [])))))))) (.region [⟨(some 10), (.mv (.t 5)), none⟩, ⟨(some 11), (.bin .add (.t 10) (.c (int 1))), none⟩, ⟨(some 5), (.mv (.t 11)), none⟩] [])))
def ir20 : IFun := ⟨(.seq (.region [⟨(some 4), (.mv (.c (int 0))), none⟩] []) (.seq (.seq (.region [⟨(some 5), (.mv (.c (int 0))), none⟩] []) (.block 0 (.loop lp20_0 [0, 1, 5] [0, 1, 4]))) (.seq (.region [⟨(some 41), (.mv (.t 1)), none⟩, ⟨(some 4), (.mv (.t 41)), none⟩] []) .ret))), [.t 4], [0], [38]⟩
def lp22_0 : IC := (.seq (.seq (.region [⟨(some 12), (.mv (.t 5)), none⟩, ⟨(some 13), (.mv (.t 0)), none⟩, ⟨(some 14), (.len 0 (.t 13)), none⟩, ⟨(some 15), (.bin .lss (.t 12) (.t 14)), none⟩] []) (.cond (.t 15) .skip (.exit 0))) (.seq (.block 1 (.seq (.region [⟨(some 18), (.mv (.t 0)), none⟩, ⟨(some 19), (.mv (.t 5)), none⟩, ⟨(some 20), (.idx 4 (.t 18) (.t 19)), none⟩, ⟨(some 21), (.load 4 true (.t 20)), none⟩, ⟨(some 22), (.mv (.t 1)), none⟩, ⟨(some 23), (.call 6 [.t 21, .t 22]), none⟩, ⟨(some 1), (.mv (.t 23)), none⟩] []) (.seq (.region [⟨(some 24), (.mv (.t 1)), none⟩, ⟨(some 25), (.bin .lss (.t 24) (.c (int 0))), none⟩] []) (.cond (.t 25) (.seq (.region [⟨(some 4), (.mv (.c (int (-1)))), none⟩] []) .ret) .skip)))) (.region [⟨(some 16), (.mv (.t 5)), none⟩, ⟨(some 17), (.bin .add (.t 16) (.c (int 1))), none⟩, ⟨(some 5), (.mv (.t 17)), none⟩] [])))
def ir22 : IFun := ⟨(.seq (.region [⟨(some 4), (.mv (.c (int 0))), none⟩] []) (.seq (.region [⟨(some 6), (.mv (.t 1)), none⟩, ⟨(some 7), (.mv (.t 0)), none⟩, ⟨(some 8), (.len 0 (.t 7)), none⟩, ⟨(some 9), (.bin .sub (.t 6) (.t 8)), none⟩, ⟨(some 1), (.mv (.t 9)), none⟩] []) (.seq (.seq (.region [⟨(some 10), (.mv (.t 1)), none⟩, ⟨(some 11), (.bin .lss (.t 10) (.c (int 0))), none⟩] []) (.cond (.t 11) (.seq (.region [⟨(some 4), (.mv (.c (int (-1)))), none⟩] []) .ret) .skip)) (.seq (.seq (.region [⟨(some 5), (.mv (.c (int 0))), none⟩] []) (.block 0 (.loop lp22_0 [0, 1, 5] [1, 4]))) (.seq (.region [⟨(some 26), (.mv (.t 1)), none⟩, ⟨(some 4), (.mv (.t 26)), none⟩] []) .ret))))), [.t 4], [], []⟩
def ir23 : IFun := ⟨(.seq (.region [⟨(some 1), (.box (.t 0)), none⟩, ⟨(some 2), (.mv (.c (.ls true []))), none⟩] []) (.seq (.region [⟨(some 4), (.bsl [str ⟨#[]⟩] 0 []), none⟩, ⟨(some 3), (.mv (.t 4)), none⟩] []) (.seq (.seq (.region [⟨(some 5), (.fld 0 (.t 1)), none⟩, ⟨(some 6), (.load 1 false (.t 5)), none⟩, ⟨(some 7), (.bin .eql (.t 6) (.c (int 27))), none⟩] []) (.cond (.t 7) (.region [⟨(some 8), (.fld 1 (.t 1)), none⟩, ⟨(some 9), (.load 1 false (.t 8)), none⟩, ⟨(some 10), (.call 42 [.t 9]), none⟩, ⟨(some 3), (.mv (.t 10)), none⟩] []) .skip)) (.seq (.region [⟨(some 11), (.mv (.t 3)), none⟩, ⟨(some 12), (.load 4 true (.t 1)), none⟩, ⟨(some 13), (.call 43 [.t 12]), none⟩, ⟨(some 14), (.app 1 16 true (.t 11) (.t 13)), none⟩, ⟨(some 2), (.mv (.t 14)), none⟩] []) .ret)))), [.t 2], [], []⟩
def lp24_0 : IC := (.seq (.seq (.region [⟨(some 6), (.mv (.t 5)), none⟩, ⟨(some 7), (.mv (.t 0)), none⟩, ⟨(some 8), (.len 0 (.t 7)), none⟩, ⟨(some 9), (.bin .lss (.t 6) (.t 8)), none⟩] []) (.cond (.t 9) .skip (.exit 0))) (.seq (.block 1 (.seq (.region [⟨(some 12), (.mv (.t 0)), none⟩, ⟨(some 13), (.mv (.t 5)), none⟩, ⟨(some 14), (.idx 1 (.t 12) (.t 13)), none⟩, ⟨(some 15), (.load 1 false (.t 14)), none⟩, ⟨(some 16), (.mv (.t 1)), none⟩, ⟨(some 17), (.bin .eql (.t 15) (.t 16)), none⟩] []) (.cond (.t 17) (.seq (.region [⟨(some 4), (.mv (.c (bool true))), none⟩] []) .ret) .skip))) (.region [⟨(some 10), (.mv (.t 5)), none⟩, ⟨(some 11), (.bin .add (.t 10) (.c (int 1))), none⟩, ⟨(some 5), (.mv (.t 11)), none⟩] [])))
def ir24 : IFun := ⟨(.seq (.region [⟨(some 4), (.mv (.c (bool false))), none⟩] []) (.seq (.seq (.region [⟨(some 5), (.mv (.c (int 0))), none⟩] []) (.block 0 (.loop lp24_0 [0, 1, 5] [4]))) (.seq (.region [⟨(some 4), (.mv (.c (bool false))), none⟩] []) .ret))), [.t 4], [], []⟩
def lp25_0 : IC := (.seq (.seq (.region [⟨(some 8), (.mv (.t 4)), none⟩, ⟨(some 9), (.mv (.t 0)), none⟩, ⟨(some 10), (.len 0 (.t 9)), none⟩, ⟨(some 11), (.bin .lss (.t 8) (.t 10)), none⟩] []) (.cond (.t 11) .skip (.exit 0))) (.seq (.block 1 (.region [⟨(some 14), (.mv (.t 3)), none⟩, ⟨(some 15), (.mv (.t 4)), none⟩, ⟨(some 16), (.mv (.t 0)), none⟩, ⟨(some 17), (.mv (.t 4)), none⟩, ⟨(some 18), (.idx 4 (.t 16) (.t 17)), none⟩, ⟨(some 19), (.load 4 true (.t 18)), none⟩, ⟨(some 20), (.call 8 [.t 19]), none⟩, ⟨(some 21), (.idx 4 (.t 14) (.t 15)), none⟩, ⟨none, (.store 4 (.t 21) (.t 20)), none⟩] [])) (.region [⟨(some 12), (.mv (.t 4)), none⟩, ⟨(some 13), (.bin .add (.t 12) (.c (int 1))), none⟩, ⟨(some 4), (.mv (.t 13)), none⟩] [])))
def ir25 : IFun := ⟨(.seq (.region [⟨(some 2), (.mv (.c (.ls true []))), none⟩] []) (.seq (.region [⟨(some 5), (.mv (.t 0)), none⟩, ⟨(some 6), (.len 0 (.t 5)), none⟩, ⟨(some 7), (.mksl [int 0, str ⟨#[]⟩, int 0, .ls true []] 56 (.t 6) (.t 6)), none⟩, ⟨(some 3), (.mv (.t 7)), none⟩] []) (.seq (.seq (.region [⟨(some 4), (.mv (.c (int 0))), none⟩] []) (.block 0 (.loop lp25_0 [0, 3, 4] [2, 3]))) (.seq (.region [⟨(some 22), (.mv (.t 3)), none⟩, ⟨(some 2), (.mv (.t 22)), none⟩] []) .ret)))), [.t 2], [], []⟩
def ir26 : IFun := ⟨(.seq (.region [⟨(some 3), (.load 1 false (.t 1)), none⟩, ⟨(some 4), (.mv (.t 0)), none⟩, ⟨(some 5), (.call 27 [.t 3, .t 4]), none⟩, ⟨(some 6), (.un .not (.t 5)), none⟩] []) (.cond (.t 6) (.region [⟨(some 7), (.load 1 false (.t 1)), none⟩, ⟨(some 8), (.mv (.t 0)), none⟩, ⟨(some 9), (.bsl [str ⟨#[]⟩] 1 [(0, .t 8)]), none⟩, ⟨(some 10), (.app 1 16 true (.t 7) (.t 9)), none⟩, ⟨none, (.store 1 (.t 1) (.t 10)), none⟩] []) .skip)), [], [], []⟩
def ir27 : IFun := ⟨(.seq (.region [⟨(some 4), (.mv (.c (bool false))), none⟩] []) (.seq (.region [⟨(some 5), (.mv (.t 0)), none⟩, ⟨(some 6), (.mv (.t 1)), none⟩, ⟨(some 7), (.call 44 [.t 5, .t 6]), none⟩, ⟨(some 8), (.bin .geq (.t 7) (.c (int 0))), none⟩, ⟨(some 4), (.mv (.t 8)), none⟩] []) .ret)), [.t 4], [], []⟩
def ir28 : IFun := ⟨(.seq (.region [⟨(some 1), (.box (.t 0)), none⟩, ⟨(some 2), (.mv (.c (.ls true []))), none⟩] []) (.seq (.seq (.region [⟨(some 3), (.fld 1 (.t 1)), none⟩, ⟨(some 4), (.load 1 false (.t 3)), none⟩, ⟨(some 5), (.bin .eql (.t 4) (.c (str ⟨#[]⟩))), none⟩] []) (.cond (.t 5) (.seq (.region [⟨(some 2), (.mv (.c (.ls true []))), none⟩] []) .ret) .skip)) (.seq (.region [⟨(some 6), (.fld 1 (.t 1)), none⟩, ⟨(some 7), (.load 1 false (.t 6)), none⟩, ⟨(some 8), (.call 45 [.t 7, .c (str ⟨#[32]⟩)]), none⟩, ⟨(some 2), (.mv (.t 8)), none⟩] []) .ret))), [.t 2], [], []⟩
def lp29_0 : IC := (.seq (.region [⟨(some 10), (.bin .lss (.t 9) (.t 8)), none⟩] []) (.seq (.cond (.t 10) .skip (.exit 0)) (.seq (.block 1 (.seq (.region [⟨(some 11), (.idx 4 (.t 7) (.t 9)), none⟩, ⟨(some 12), (.load 4 true (.t 11)), none⟩, ⟨(some 5), (.alloc [int 0, str ⟨#[]⟩, int 0, .ls true []]), none⟩, ⟨none, (.store 4 (.t 5) (.t 12)), none⟩] []) (.seq (.region [⟨(some 13), (.mv (.t 1)), none⟩, ⟨(some 14), (.load 4 true (.t 5)), none⟩, ⟨(some 15), (.callv (.t 13) [.t 14]), none⟩] []) (.seq (.region [⟨(some 16), (.fld 0 (.t 5)), none⟩, ⟨(some 17), (.load 1 false (.t 16)), none⟩, ⟨(some 18), (.bin .neq (.t 17) (.c (int 27))), none⟩] []) (.cond (.t 18) (.region [⟨(some 19), (.load 4 true (.t 5)), none⟩, ⟨(some 20), (.mv (.t 1)), none⟩, ⟨(some 21), (.call 29 [.t 19, .t 20]), none⟩] []) .skip))))) (.region [⟨(some 22), (.bin .add (.t 9) (.c (int 1))), none⟩, ⟨(some 9), (.mv (.t 22)), none⟩] []))))
def ir29 : IFun := ⟨(.seq (.region [⟨(some 2), (.box (.t 0)), none⟩] []) (.seq (.region [⟨(some 6), (.fld 3 (.t 2)), none⟩, ⟨(some 7), (.load 1 false (.t 6)), none⟩, ⟨(some 8), (.len 0 (.t 7)), none⟩, ⟨(some 9), (.mv (.c (int 0))), none⟩] []) (.block 0 (.loop lp29_0 [1, 7, 8, 9] [])))), [], [], []⟩
def ir30 : IFun := ⟨(.seq (.region [⟨(some 2), (.box (.t 0)), none⟩] []) (.seq (.region [⟨(some 3), (.fld 0 (.t 2)), none⟩, ⟨(some 4), (.load 1 false (.t 3)), none⟩, ⟨(some 5), (.bin .eql (.t 4) (.c (int 2))), none⟩] []) (.cond (.t 5) (.region [⟨(some 6), (.load 1 false (.t 1)), none⟩, ⟨(some 7), (.fld 1 (.t 2)), none⟩, ⟨(some 8), (.load 1 false (.t 7)), none⟩, ⟨(some 9), (.callv (.t 6) [.t 8]), none⟩] []) .skip))), [], [], []⟩
def lp31_0 : IC := (.seq (.seq (.region [⟨(some 6), (.mv (.t 0)), none⟩, ⟨(some 7), (.bin .gtr (.t 6) (.c (int 0))), none⟩] []) (.cond (.t 7) .skip (.exit 0))) (.block 1 (.seq (.region [⟨(some 8), (.mv (.t 0)), none⟩, ⟨(some 9), (.bin .rem (.t 8) (.c (int 10))), none⟩, ⟨(some 10), (.bin .add (.c (int 48)) (.t 9)), none⟩, ⟨(some 11), (.conv .u8 (.t 10)), none⟩, ⟨(some 12), (.bsl [intK .u8 0] 1 [(0, .t 11)]), none⟩, ⟨(some 13), (.b2s (.t 12)), none⟩, ⟨(some 14), (.mv (.t 3)), none⟩, ⟨(some 15), (.bin .add (.t 13) (.t 14)), none⟩, ⟨(some 3), (.mv (.t 15)), none⟩] []) (.region [⟨(some 16), (.mv (.t 0)), none⟩, ⟨(some 17), (.bin .quo (.t 16) (.c (int 10))), none⟩, ⟨(some 0), (.mv (.t 17)), none⟩] []))))
def ir31 : IFun := ⟨(.seq (.region [⟨(some 2), (.mv (.c (str ⟨#[]⟩))), none⟩] []) (.seq (.seq (.region [⟨(some 4), (.mv (.t 0)), none⟩, ⟨(some 5), (.bin .leq (.t 4) (.c (int 0))), none⟩] []) (.cond (.t 5) (.seq (.region [⟨(some 2), (.mv (.c (str ⟨#[109, 48]⟩))), none⟩] []) .ret) .skip)) (.seq (.region [⟨(some 3), (.mv (.c (str ⟨#[]⟩))), none⟩] []) (.seq (.block 0 (.loop lp31_0 [0, 3] [2, 3])) (.seq (.region [⟨(some 18), (.mv (.t 3)), none⟩, ⟨(some 19), (.bin .add (.c (str ⟨#[109]⟩)) (.t 18)), none⟩, ⟨(some 2), (.mv (.t 19)), none⟩] []) .ret))))), [.t 2], [], []⟩
def lp42_0 : IC := (.seq (.seq (.region [⟨(some 7), (.mv (.t 5)), none⟩, ⟨(some 8), (.mv (.t 0)), none⟩, ⟨(some 9), (.len 1 (.t 8)), none⟩, ⟨(some 10), (.bin .leq (.t 7) (.t 9)), none⟩, ⟨(some 11), (.mv (.t 10)), none⟩, ⟨(some 12), (.mv (.t 0)), (some (11, true))⟩, ⟨(some 13), (.bin .neq (.t 12) (.c (str ⟨#[]⟩))), (some (11, true))⟩, ⟨(some 14), (.pick (.t 11) (.t 13) (.c (bool false))), none⟩] []) (.cond (.t 14) .skip (.exit 0))) (.seq (.block 1 (.seq (.region [⟨(some 17), (.mv (.t 5)), none⟩, ⟨(some 18), (.mv (.t 0)), none⟩, ⟨(some 19), (.len 1 (.t 18)), none⟩, ⟨(some 20), (.bin .eql (.t 17) (.t 19)), none⟩, ⟨(some 21), (.mv (.t 20)), none⟩, ⟨(some 22), (.mv (.t 0)), (some (21, false))⟩, ⟨(some 23), (.mv (.t 5)), (some (21, false))⟩, ⟨(some 24), (.sidx (.t 22) (.t 23)), (some (21, false))⟩, ⟨(some 25), (.bin .eql (.t 24) (.c (intK .u8 32))), (some (21, false))⟩, ⟨(some 26), (.pick (.t 21) (.c (bool true)) (.t 25)), none⟩] []) (.cond (.t 26) (.seq (.region [⟨(some 27), (.mv (.t 3)), none⟩, ⟨(some 28), (.mv (.t 0)), none⟩, ⟨(some 29), (.mv (.t 4)), none⟩, ⟨(some 30), (.mv (.t 5)), none⟩, ⟨(some 31), (.sslc (.t 28) (some (.t 29)) (some (.t 30))), none⟩, ⟨(some 32), (.bsl [str ⟨#[]⟩] 1 [(0, .t 31)]), none⟩, ⟨(some 33), (.app 1 16 true (.t 27) (.t 32)), none⟩, ⟨(some 3), (.mv (.t 33)), none⟩] []) (.region [⟨(some 34), (.mv (.t 5)), none⟩, ⟨(some 35), (.bin .add (.t 34) (.c (int 1))), none⟩, ⟨(some 4), (.mv (.t 35)), none⟩] [])) .skip))) (.region [⟨(some 15), (.mv (.t 5)), none⟩, ⟨(some 16), (.bin .add (.t 15) (.c (int 1))), none⟩, ⟨(some 5), (.mv (.t 16)), none⟩] [])))
def ir42 : IFun := ⟨(.seq (.region [⟨(some 2), (.mv (.c (.ls true []))), none⟩] []) (.seq (.region [⟨(some 6), (.bsl [str ⟨#[]⟩] 0 []), none⟩, ⟨(some 3), (.mv (.t 6)), none⟩] []) (.seq (.region [⟨(some 4), (.mv (.c (int 0))), none⟩] []) (.seq (.seq (.region [⟨(some 5), (.mv (.c (int 0))), none⟩] []) (.block 0 (.loop lp42_0 [0, 3, 4, 5] [2, 3]))) (.seq (.region [⟨(some 36), (.mv (.t 3)), none⟩, ⟨(some 2), (.mv (.t 36)), none⟩] []) .ret))))), [.t 2], [], []⟩
def lp43_0 : IC := (.seq (.seq (.region [⟨(some 14), (.mv (.t 4)), none⟩, ⟨(some 15), (.fld 3 (.t 1)), none⟩, ⟨(some 16), (.load 1 false (.t 15)), none⟩, ⟨(some 17), (.len 0 (.t 16)), none⟩, ⟨(some 18), (.bin .lss (.t 14) (.t 17)), none⟩] []) (.cond (.t 18) .skip (.exit 0))) (.seq (.block 1 (.seq (.region [⟨(some 21), (.fld 3 (.t 1)), none⟩, ⟨(some 22), (.load 1 false (.t 21)), none⟩, ⟨(some 23), (.mv (.t 4)), none⟩, ⟨(some 24), (.idx 4 (.t 22) (.t 23)), none⟩, ⟨(some 25), (.fld 0 (.t 24)), none⟩, ⟨(some 26), (.load 1 false (.t 25)), none⟩, ⟨(some 27), (.bin .neq (.t 26) (.c (int 27))), none⟩] []) (.cond (.t 27) (.region [⟨(some 28), (.mv (.t 3)), none⟩, ⟨(some 29), (.fld 3 (.t 1)), none⟩, ⟨(some 30), (.load 1 false (.t 29)), none⟩, ⟨(some 31), (.mv (.t 4)), none⟩, ⟨(some 32), (.idx 4 (.t 30) (.t 31)), none⟩, ⟨(some 33), (.load 4 true (.t 32)), none⟩, ⟨(some 34), (.call 43 [.t 33]), none⟩, ⟨(some 35), (.app 1 16 true (.t 28) (.t 34)), none⟩, ⟨(some 3), (.mv (.t 35)), none⟩] []) .skip))) (.region [⟨(some 19), (.mv (.t 4)), none⟩, ⟨(some 20), (.bin .add (.t 19) (.c (int 1))), none⟩, ⟨(some 4), (.mv (.t 20)), none⟩] [])))
def ir43 : IFun := ⟨(.seq (.region [⟨(some 1), (.box (.t 0)), none⟩, ⟨(some 2), (.mv (.c (.ls true []))), none⟩] []) (.seq (.region [⟨(some 5), (.bsl [str ⟨#[]⟩] 0 []), none⟩, ⟨(some 3), (.mv (.t 5)), none⟩] []) (.seq (.seq (.region [⟨(some 6), (.fld 0 (.t 1)), none⟩, ⟨(some 7), (.load 1 false (.t 6)), none⟩, ⟨(some 8), (.bin .eql (.t 7) (.c (int 2))), none⟩] []) (.cond (.t 8) (.region [⟨(some 9), (.mv (.t 3)), none⟩, ⟨(some 10), (.fld 1 (.t 1)), none⟩, ⟨(some 11), (.load 1 false (.t 10)), none⟩, ⟨(some 12), (.bsl [str ⟨#[]⟩] 1 [(0, .t 11)]), none⟩, ⟨(some 13), (.app 1 16 true (.t 9) (.t 12)), none⟩, ⟨(some 3), (.mv (.t 13)), none⟩] []) .skip)) (.seq (.seq (.region [⟨(some 4), (.mv (.c (int 0))), none⟩] []) (.block 0 (.loop lp43_0 [1, 3, 4] [2, 3]))) (.seq (.region [⟨(some 36), (.mv (.t 3)), none⟩, ⟨(some 2), (.mv (.t 36)), none⟩] []) .ret))))), [.t 2], [], []⟩
def lp44_0 : IC := (.seq (.region [⟨(some 9), (.bin .lss (.t 8) (.t 7)), none⟩] []) (.seq (.cond (.t 9) .skip (.exit 0)) (.seq (.block 1 (.seq (.region [⟨(some 10), (.mv (.t 8)), none⟩, ⟨(some 5), (.mv (.t 10)), none⟩] []) (.seq (.region [⟨(some 11), (.mv (.t 1)), none⟩, ⟨(some 12), (.mv (.t 0)), none⟩, ⟨(some 13), (.mv (.t 5)), none⟩, ⟨(some 14), (.idx 1 (.t 12) (.t 13)), none⟩, ⟨(some 15), (.load 1 false (.t 14)), none⟩, ⟨(some 16), (.bin .eql (.t 11) (.t 15)), none⟩] []) (.cond (.t 16) (.seq (.region [⟨(some 17), (.mv (.t 5)), none⟩, ⟨(some 4), (.mv (.t 17)), none⟩] []) .ret) .skip)))) (.region [⟨(some 18), (.bin .add (.t 8) (.c (int 1))), none⟩, ⟨(some 8), (.mv (.t 18)), none⟩] []))))
def ir44 : IFun := ⟨(.seq (.region [⟨(some 4), (.mv (.c (int 0))), none⟩] []) (.seq (.seq (.region [⟨(some 6), (.mv (.t 0)), none⟩, ⟨(some 7), (.len 0 (.t 6)), none⟩, ⟨(some 8), (.mv (.c (int 0))), none⟩] []) (.block 0 (.loop lp44_0 [0, 1, 7, 8] [4]))) (.seq (.region [⟨(some 4), (.mv (.c (int (-1)))), none⟩] []) .ret))), [.t 4], [], []⟩
def EEfn : Nat → Option IFun
  | 3 => some ir3
  | 6 => some ir6
  | 7 => some ir7
  | 8 => some ir8
  | 9 => some ir9
  | 10 => some ir10
  | 11 => some ir11
  | 12 => some ir12
  | 13 => some ir13
  | 14 => some ir14
  | 19 => some ir19
  | 20 => some ir20
  | 22 => some ir22
  | 23 => some ir23
  | 24 => some ir24
  | 25 => some ir25
  | 26 => some ir26
  | 27 => some ir27
  | 28 => some ir28
  | 29 => some ir29
  | 30 => some ir30
  | 31 => some ir31
  | 42 => some ir42
  | 43 => some ir43
  | 44 => some ir44
  | _ => none
def EEown : Nat → Nat → Mode
  | 12, 0 => .lent
  | 13, 0 => .lent
  | 20, 0 => .lent
  | _, _ => .shown
def EElib : Nat → List V → List Cell → Option (V × List Cell)
  | 45 => libSplit
  | _ => fun _ _ => none
def EE : Env := { fn := EEfn, own := EEown, lib := EElib }
@[simp] theorem fn45 : EE.fn 45 = none := rfl
@[simp] theorem lib45 : EE.lib 45 = libSplit := rfl
@[simp] theorem own45 : EE.own 45 = fun _ => .shown := rfl
@[simp] theorem fn3 : EE.fn 3 = some ir3 := rfl
@[simp] theorem fn6 : EE.fn 6 = some ir6 := rfl
@[simp] theorem fn7 : EE.fn 7 = some ir7 := rfl
@[simp] theorem fn8 : EE.fn 8 = some ir8 := rfl
@[simp] theorem fn9 : EE.fn 9 = some ir9 := rfl
@[simp] theorem fn10 : EE.fn 10 = some ir10 := rfl
@[simp] theorem fn11 : EE.fn 11 = some ir11 := rfl
@[simp] theorem fn12 : EE.fn 12 = some ir12 := rfl
@[simp] theorem fn13 : EE.fn 13 = some ir13 := rfl
@[simp] theorem fn14 : EE.fn 14 = some ir14 := rfl
@[simp] theorem fn19 : EE.fn 19 = some ir19 := rfl
@[simp] theorem fn20 : EE.fn 20 = some ir20 := rfl
@[simp] theorem fn22 : EE.fn 22 = some ir22 := rfl
@[simp] theorem fn23 : EE.fn 23 = some ir23 := rfl
@[simp] theorem fn24 : EE.fn 24 = some ir24 := rfl
@[simp] theorem fn25 : EE.fn 25 = some ir25 := rfl
@[simp] theorem fn26 : EE.fn 26 = some ir26 := rfl
@[simp] theorem fn27 : EE.fn 27 = some ir27 := rfl
@[simp] theorem fn28 : EE.fn 28 = some ir28 := rfl
@[simp] theorem fn29 : EE.fn 29 = some ir29 := rfl
@[simp] theorem fn30 : EE.fn 30 = some ir30 := rfl
@[simp] theorem fn31 : EE.fn 31 = some ir31 := rfl
@[simp] theorem fn42 : EE.fn 42 = some ir42 := rfl
@[simp] theorem fn43 : EE.fn 43 = some ir43 := rfl
@[simp] theorem fn44 : EE.fn 44 = some ir44 := rfl
@[simp] theorem own12 : EE.own 12 = fun i => if i = 0 then .lent else .shown := by funext i; match i with | 0 => rfl | _ + 1 => rfl
@[simp] theorem own13 : EE.own 13 = fun i => if i = 0 then .lent else .shown := by funext i; match i with | 0 => rfl | _ + 1 => rfl
@[simp] theorem own20 : EE.own 20 = fun i => if i = 0 then .lent else .shown := by funext i; match i with | 0 => rfl | _ + 1 => rfl
@[simp] theorem own3 : EE.own 3 = fun _ => .shown := rfl
@[simp] theorem own6 : EE.own 6 = fun _ => .shown := rfl
@[simp] theorem own7 : EE.own 7 = fun _ => .shown := rfl
@[simp] theorem own8 : EE.own 8 = fun _ => .shown := rfl
@[simp] theorem own9 : EE.own 9 = fun _ => .shown := rfl
@[simp] theorem own10 : EE.own 10 = fun _ => .shown := rfl
@[simp] theorem own11 : EE.own 11 = fun _ => .shown := rfl
@[simp] theorem own14 : EE.own 14 = fun _ => .shown := rfl
@[simp] theorem own19 : EE.own 19 = fun _ => .shown := rfl
@[simp] theorem own22 : EE.own 22 = fun _ => .shown := rfl
@[simp] theorem own23 : EE.own 23 = fun _ => .shown := rfl
@[simp] theorem own24 : EE.own 24 = fun _ => .shown := rfl
@[simp] theorem own25 : EE.own 25 = fun _ => .shown := rfl
@[simp] theorem own26 : EE.own 26 = fun _ => .shown := rfl
@[simp] theorem own27 : EE.own 27 = fun _ => .shown := rfl
@[simp] theorem own28 : EE.own 28 = fun _ => .shown := rfl
@[simp] theorem own29 : EE.own 29 = fun _ => .shown := rfl
@[simp] theorem own30 : EE.own 30 = fun _ => .shown := rfl
@[simp] theorem own31 : EE.own 31 = fun _ => .shown := rfl
@[simp] theorem own42 : EE.own 42 = fun _ => .shown := rfl
@[simp] theorem own43 : EE.own 43 = fun _ => .shown := rfl
@[simp] theorem own44 : EE.own 44 = fun _ => .shown := rfl
end Go.Pv

namespace Go.Pv
attribute [simp low] ro_gen callR_gen retP_gen storeR_gen takeR_gen
attribute [simp high] ro_sslc bslR_1s
attribute [simp] strP_s
attribute [simp high] ro_alloc ro_box ro_store storeR_bx storeR_ep ro_take takeR_fp takeR_row ro_mkfn ro_callv ro_mksl ro_bsl bslR_0 bslR_1 ro_app ro_slc ro_call vals_nil vals_cons callR_plain retP_sc retP_ls retP_agls
attribute [simp] plainV_sc plainV_ls plainV_nil plainV_ag plainV_rf plainL_nil plainL_cons
attribute [simp high] ex_seq ex_region0 ex_skip ex_ret ex_exit ex_cond ex_block ex_loop ex_regionG ro_nil rg_nil rg_cons tame_mv tame_pick tame_bin tame_not tame_conv tame_load tame_fld tame_fget tame_idx tame_len tame_ext tame_slc tame_store tame_app tame_bsl tame_callv tame_mkfn tame_build tame_mksl tame_copy tame_clear tame_mget tame_ment tame_mst tame_mset tame_take tame_apps tame_beq tame_neg tame_b2s tame_sidx tame_sslc tame_mx tame_mn tame_alloc tame_box tame_c isOff_n isOff_g ftO_eq ro_mv ro_fld ro_len ro_bin ro_load ro_idx ro_pick ro_not ro_ext ro_fget ro_conv ro_guard val_t val_c
attribute [simp] str natV_int rowYP_ls rowYP_rf rowXP_nil rowXP_rf optV_n optV_s lenN_rf lenN_ls slcP_rf slcP_fz slcP_nil rdsO wrsO resV nonT wrT M.foot opC restM cloLs cloL clo1 rowX rowY
attribute [simp] bO_some bO_none look_nil look_cons setA_nil setA_cons fldP_bx fldP_ep fldP_fp lenP_rf lenP_ls extP_tu fgetP_ag loadP_bx loadP_ep loadP_fp idxP_rf idxP_ls rdXP_eq bin_add bin_sub bin_mul bin_eql bin_neq bin_lss bin_leq bin_gtr bin_geq bin_and7 bin_shr bin_shru bin_sadd bin_rem bin_quo bin_and255 bin_and30 bin_and32 bin_xor bin_seql bin_sneq ld1_sc ld1_ls
attribute [simp] finR sem Ar.get getsA getsR getR M.run St.get St.put asB asI asS initM putAll impL imp finishM expL exp coll bxsOf bxsOfL renB renBL renC idxOf cellsOf norm renAB closeB keepT dedup arsOf arsOfL cellsIn renA renAL callM expArgs callOf loopOf hasFz hasFzL hasFzC hasFzR freezeA newBs back wrAs newR chk rdA rdB rdM optK seeA fillP setAt oneOr subset norm0 okA fillV fillA fillB nameE nnT nnB nn nnL topA newE Exit'.isN Exit'.isX Exit'.outOf body bool int intK preL revive split3 unpack pack Mode.gives wholeOr rdS
theorem lentOf_shown (n : Nat) : lentOf (fun _ => Mode.shown) n = [] := by simp [lentOf]
attribute [simp] lentOf_shown
@[simp] theorem lentOf15 : lentOf (fun i => if i = 0 then Mode.lent else Mode.shown) 2 = [0] := by decide
@[congr] theorem bO_congr {α β : Type} {x x' : Option α} {f : α → Option β} (h : x = x') : bO x f = bO x' f := by rw [h]
theorem ev_loop (E : Env) {c c' : IC} (h : c = c') (k o : List Nat) (s : St) : ev E (.loop c k o s) = bO (exec E.own (ev E) c' s) fun r => if r.1.isN then bO (norm k r.2) fun s' => bO (loopOf (ev E) c k o s') fun x => some (.out x.1 x.2) else bO (norm o r.2) fun s' => some (.out r.1 s') := by
  rw [ev_eq, ← h]; rfl
theorem wrap64_id (n : Int) (h : -9223372036854775808 ≤ n) (h2 : n ≤ 9223372036854775807) : IntKind.i64.wrap n = n := IntWalk.i64_in n (by omega)
def ints (xs : List Int) : List (List V) := xs.map fun n => [V.sc (.int .i64 n)]
/-- the word at a place -/
def wI (ws : List Int) (i : Int) : Int := ws.getD i.toNat 0
def setI (ws : List Int) (i x : Int) : List Int := ws.set i.toNat x
theorem ints_getI (ws : List Int) (i : Int) (h0 : 0 ≤ i) (h : i < ws.length) : (ints ws)[i.toNat]? = some [.sc (.int .i64 (wI ws i))] := by
  have : i.toNat < ws.length := by omega
  simp [ints, wI, this]
theorem setI_len (ws : List Int) (i x : Int) : (setI ws i x).length = ws.length := by simp [setI]
@[simp] theorem ints_len (xs : List Int) : (ints xs).length = xs.length := by simp [ints]
@[simp] theorem ints_all (xs : List Int) : allLen 1 (ints xs) = true := by simp [ints, allLen]
@[simp] theorem ints_frz (xs : List Int) : frzR (ints xs) = ints xs := by
  induction xs with
  | nil => rfl
  | cons x xs ih => simp [ints, frzR, frzL, frz] at ih ⊢; exact ih
theorem ints_nil : ints [] = [] := rfl
theorem ints_app (xs ys : List Int) : ints xs ++ ints ys = ints (xs ++ ys) := by simp only [ints, List.map_append]
@[simp] theorem ints_one (x : Int) : [[V.sc (.int .i64 x)]] = ints [x] := rfl
@[simp] theorem ints_cons (x : Int) (l : List Int) : [V.sc (.int .i64 x)] :: ints l = ints (x :: l) := rfl
@[simp] theorem ints_emp (l : List Int) : (ints l).isEmpty = l.isEmpty := by cases l <;> rfl
@[simp] theorem ints_appI (xs ys : List Int) : ints xs ++ ints ys = ints (xs ++ ys) := by simp only [ints, List.map_append]
@[simp] theorem ints_app1 (xs : List Int) (x : Int) : ints xs ++ [[V.sc (.int .i64 x)]] = ints (xs ++ [x]) := by simp only [ints, List.map_append, List.map_cons, List.map_nil]
@[simp] theorem ints_set (xs : List Int) (i : Nat) (x : Int) : (ints xs).set i [V.sc (.int .i64 x)] = ints (xs.set i x) := by simp [ints, List.map_set]
attribute [simp] setI_len
@[simp] theorem ints_sub (xs : List Int) (o n : Nat) : sub (ints xs) o n = ints ((xs.drop o).take n) := by simp [sub, ints, List.map_drop, List.map_take]
@[simp] theorem ints_hasFz (xs : List Int) : hasFzR (ints xs) = false := by
  induction xs with
  | nil => rfl
  | cons x xs ih => simp [ints, hasFzR, hasFzL, hasFz] at ih ⊢; exact ih
@[simp] theorem ints_flat (xs : List Int) : flatR (ints xs) = true := by simp [ints, flatR, flat1]
@[simp] theorem ints_rep (n : Nat) : List.replicate n [V.sc (.int .i64 0)] = ints (List.replicate n 0) := by simp [ints]
abbrev IS (ws : List Int) : V := .ls false (ints ws)
abbrev SL (ws : List Int) : V := .ag [.ls false (ints ws)]
end Go.Pv

namespace Go.Pv
def FU : Nat := 4194304
def bS {α β : Type} (x : Option α) (f : α → Option β) : Option β := match x with | some a => f a | none => none
theorem bS_some {α β : Type} {x : Option α} {f : α → Option β} {b : β} (h : bS x f = some b) : ∃ a, x = some a ∧ f a = some b := by
  cases x with
  | none => cases h
  | some a => exact ⟨a, rfl, h⟩
@[simp] theorem bS_s {α β : Type} (a : α) (f : α → Option β) : bS (some a) f = f a := rfl
@[simp] theorem bS_n {α β : Type} (f : α → Option β) : bS none f = none := rfl
@[simp] theorem gl0 {τ : Type} (a0 : τ) (l : List τ) : (a0 :: l)[0]? = some a0 := nr rfl
@[simp] theorem gl1 {τ : Type} (a0 a1 : τ) (l : List τ) : (a0 :: a1 :: l)[1]? = some a1 := nr rfl
@[simp] theorem gl2 {τ : Type} (a0 a1 a2 : τ) (l : List τ) : (a0 :: a1 :: a2 :: l)[2]? = some a2 := nr rfl
@[simp] theorem gl3 {τ : Type} (a0 a1 a2 a3 : τ) (l : List τ) : (a0 :: a1 :: a2 :: a3 :: l)[3]? = some a3 := nr rfl
@[simp] theorem gl4 {τ : Type} (a0 a1 a2 a3 a4 : τ) (l : List τ) : (a0 :: a1 :: a2 :: a3 :: a4 :: l)[4]? = some a4 := nr rfl
@[simp] theorem gl5 {τ : Type} (a0 a1 a2 a3 a4 a5 : τ) (l : List τ) : (a0 :: a1 :: a2 :: a3 :: a4 :: a5 :: l)[5]? = some a5 := nr rfl
@[simp] theorem gl6 {τ : Type} (a0 a1 a2 a3 a4 a5 a6 : τ) (l : List τ) : (a0 :: a1 :: a2 :: a3 :: a4 :: a5 :: a6 :: l)[6]? = some a6 := nr rfl
@[simp] theorem gl7 {τ : Type} (a0 a1 a2 a3 a4 a5 a6 a7 : τ) (l : List τ) : (a0 :: a1 :: a2 :: a3 :: a4 :: a5 :: a6 :: a7 :: l)[7]? = some a7 := nr rfl
@[simp] theorem gl8 {τ : Type} (a0 a1 a2 a3 a4 a5 a6 a7 a8 : τ) (l : List τ) : (a0 :: a1 :: a2 :: a3 :: a4 :: a5 :: a6 :: a7 :: a8 :: l)[8]? = some a8 := nr rfl
@[simp] theorem gl9 {τ : Type} (a0 a1 a2 a3 a4 a5 a6 a7 a8 a9 : τ) (l : List τ) : (a0 :: a1 :: a2 :: a3 :: a4 :: a5 :: a6 :: a7 :: a8 :: a9 :: l)[9]? = some a9 := nr rfl
@[simp] theorem gl10 {τ : Type} (a0 a1 a2 a3 a4 a5 a6 a7 a8 a9 a10 : τ) (l : List τ) : (a0 :: a1 :: a2 :: a3 :: a4 :: a5 :: a6 :: a7 :: a8 :: a9 :: a10 :: l)[10]? = some a10 := nr rfl
@[simp] theorem gl11 {τ : Type} (a0 a1 a2 a3 a4 a5 a6 a7 a8 a9 a10 a11 : τ) (l : List τ) : (a0 :: a1 :: a2 :: a3 :: a4 :: a5 :: a6 :: a7 :: a8 :: a9 :: a10 :: a11 :: l)[11]? = some a11 := nr rfl
@[simp] theorem gl12 {τ : Type} (a0 a1 a2 a3 a4 a5 a6 a7 a8 a9 a10 a11 a12 : τ) (l : List τ) : (a0 :: a1 :: a2 :: a3 :: a4 :: a5 :: a6 :: a7 :: a8 :: a9 :: a10 :: a11 :: a12 :: l)[12]? = some a12 := nr rfl
@[simp] theorem gl13 {τ : Type} (a0 a1 a2 a3 a4 a5 a6 a7 a8 a9 a10 a11 a12 a13 : τ) (l : List τ) : (a0 :: a1 :: a2 :: a3 :: a4 :: a5 :: a6 :: a7 :: a8 :: a9 :: a10 :: a11 :: a12 :: a13 :: l)[13]? = some a13 := nr rfl
@[simp] theorem gl14 {τ : Type} (a0 a1 a2 a3 a4 a5 a6 a7 a8 a9 a10 a11 a12 a13 a14 : τ) (l : List τ) : (a0 :: a1 :: a2 :: a3 :: a4 :: a5 :: a6 :: a7 :: a8 :: a9 :: a10 :: a11 :: a12 :: a13 :: a14 :: l)[14]? = some a14 := nr rfl
@[simp] theorem gl15 {τ : Type} (a0 a1 a2 a3 a4 a5 a6 a7 a8 a9 a10 a11 a12 a13 a14 a15 : τ) (l : List τ) : (a0 :: a1 :: a2 :: a3 :: a4 :: a5 :: a6 :: a7 :: a8 :: a9 :: a10 :: a11 :: a12 :: a13 :: a14 :: a15 :: l)[15]? = some a15 := nr rfl
@[simp] theorem gl16 {τ : Type} (a0 a1 a2 a3 a4 a5 a6 a7 a8 a9 a10 a11 a12 a13 a14 a15 a16 : τ) (l : List τ) : (a0 :: a1 :: a2 :: a3 :: a4 :: a5 :: a6 :: a7 :: a8 :: a9 :: a10 :: a11 :: a12 :: a13 :: a14 :: a15 :: a16 :: l)[16]? = some a16 := nr rfl
@[simp] theorem gl17 {τ : Type} (a0 a1 a2 a3 a4 a5 a6 a7 a8 a9 a10 a11 a12 a13 a14 a15 a16 a17 : τ) (l : List τ) : (a0 :: a1 :: a2 :: a3 :: a4 :: a5 :: a6 :: a7 :: a8 :: a9 :: a10 :: a11 :: a12 :: a13 :: a14 :: a15 :: a16 :: a17 :: l)[17]? = some a17 := nr rfl
@[simp] theorem gl18 {τ : Type} (a0 a1 a2 a3 a4 a5 a6 a7 a8 a9 a10 a11 a12 a13 a14 a15 a16 a17 a18 : τ) (l : List τ) : (a0 :: a1 :: a2 :: a3 :: a4 :: a5 :: a6 :: a7 :: a8 :: a9 :: a10 :: a11 :: a12 :: a13 :: a14 :: a15 :: a16 :: a17 :: a18 :: l)[18]? = some a18 := nr rfl
@[simp] theorem gl19 {τ : Type} (a0 a1 a2 a3 a4 a5 a6 a7 a8 a9 a10 a11 a12 a13 a14 a15 a16 a17 a18 a19 : τ) (l : List τ) : (a0 :: a1 :: a2 :: a3 :: a4 :: a5 :: a6 :: a7 :: a8 :: a9 :: a10 :: a11 :: a12 :: a13 :: a14 :: a15 :: a16 :: a17 :: a18 :: a19 :: l)[19]? = some a19 := nr rfl
@[simp] theorem ldN_f (n : Nat) (fz : Bool) (cs : List V) (off : Nat) : ldN n false fz cs off = bO cs[off]? fun v => ld1 fz v := nr (by simp only [ldN]; cases cs[off]? <;> rfl)
theorem ldN_t0 (n : Nat) (fz : Bool) (cs : List V) (off : Nat) : ldN n true fz cs off = if off + n ≤ cs.length then bO (ldL fz ((cs.drop off).take n)) (fun l => some (.ag l)) else none := by
  simp only [ldN, if_true]
  split
  · cases ldL fz ((cs.drop off).take n) <;> rfl
  · rfl
@[simp] theorem ldN_t (n : Nat) (fz : Bool) (cs : List V) (off : Nat) : ldN n true fz cs off = if off + n ≤ cs.length then bO (ldL fz ((cs.drop off).take n)) (fun l => some (.ag l)) else none := nr (ldN_t0 n fz cs off)
@[simp] theorem ldL_nil (fz : Bool) : ldL fz [] = some [] := nr rfl
@[simp] theorem ldL_cons (fz : Bool) (v : V) (l : List V) : ldL fz (v :: l) = bO (ld1 fz v) fun x => bO (ldL fz l) fun r => some (x :: r) := nr (by simp only [ldL]; cases ld1 fz v <;> cases ldL fz l <;> rfl)
/-- an element, by its place -/
def getI {τ : Type} (xs : List τ) (i : Int) : Option τ := if 0 ≤ i ∧ i < xs.length then xs[i.toNat]? else none
theorem getI_some {τ : Type} {xs : List τ} {i : Int} {x : τ} (h : getI xs i = some x) : 0 ≤ i ∧ i < xs.length ∧ xs[i.toNat]? = some x := by
  unfold getI at h
  split at h
  · rename_i hc; exact ⟨hc.1, hc.2, h⟩
  · cases h
/-- an element of a part -/
def getV {τ : Type} (xs : List τ) (off len : Nat) (i : Int) : Option τ := if (0 ≤ i ∧ i < len) ∧ off + len ≤ xs.length then xs[off + i.toNat]? else none
theorem getV_some {τ : Type} {xs : List τ} {off len : Nat} {i : Int} {x : τ} (h : getV xs off len i = some x) : 0 ≤ i ∧ i < len ∧ off + len ≤ xs.length ∧ xs[off + i.toNat]? = some x := by
  unfold getV at h
  split at h
  · rename_i hc; exact ⟨hc.1.1, hc.1.2, hc.2, h⟩
  · cases h
def getB (s : ByteArray) (i : Int) : Option UInt8 := if 0 ≤ i then s[i.toNat]? else none
theorem getB_some {s : ByteArray} {i : Int} {b : UInt8} (h : getB s i = some b) : 0 ≤ i ∧ i < s.size ∧ i.toNat < s.size ∧ s[i.toNat]? = some b := by
  unfold getB at h
  split at h
  · rename_i hc
    refine ⟨hc, ?_, ?_, h⟩
    all_goals
      have := h
      rw [getElem?_def] at this
      split at this
      · omega
      · cases this
  · cases h
theorem ints_getI' {xs : List Int} {i : Int} {x : Int} (h : getI xs i = some x) : 0 ≤ i ∧ i < xs.length ∧ i.toNat < xs.length ∧ (ints xs)[i.toNat]? = some [.sc (.int .i64 x)] := by
  obtain ⟨h1, h2, h3⟩ := getI_some h
  exact ⟨h1, h2, by omega, by simp only [ints, List.getElem?_map, h3, Option.map_some]⟩
theorem ints_getN {xs : List Int} {i : Nat} {x : Int} (h : xs[i]? = some x) : (ints xs)[i]? = some [.sc (.int .i64 x)] := by simp only [ints, List.getElem?_map, h, Option.map_some]
@[simp] theorem ints_nil' : ints [] = [] := nr rfl
def strs (xs : List ByteArray) : List (List V) := xs.map fun s => [V.sc (.string s)]
@[simp] theorem strs_nil : strs [] = [] := nr rfl
@[simp] theorem strs_len (xs : List ByteArray) : (strs xs).length = xs.length := by simp [strs]
@[simp] theorem strs_all (xs : List ByteArray) : allLen 1 (strs xs) = true := by simp [strs, allLen]
@[simp] theorem strs_frz (xs : List ByteArray) : frzR (strs xs) = strs xs := by
  induction xs with
  | nil => rfl
  | cons x xs ih => simp [strs, frzR, frzL, frz] at ih ⊢; exact ih
@[simp] theorem strs_one (x : ByteArray) : [[V.sc (.string x)]] = strs [x] := nr rfl
@[simp] theorem strs_emp (l : List ByteArray) : (strs l).isEmpty = l.isEmpty := by cases l <;> rfl
@[simp] theorem strs_app (xs ys : List ByteArray) : strs xs ++ strs ys = strs (xs ++ ys) := by simp only [strs, List.map_append]
@[simp] theorem strs_app1 (xs : List ByteArray) (x : ByteArray) : strs xs ++ [[V.sc (.string x)]] = strs (xs ++ [x]) := by simp only [strs, List.map_append, List.map_cons, List.map_nil]
@[simp] theorem strs_set (xs : List ByteArray) (i : Nat) (x : ByteArray) : (strs xs).set i [V.sc (.string x)] = strs (xs.set i x) := by simp [strs, List.map_set]
@[simp] theorem strs_sub (xs : List ByteArray) (o n : Nat) : sub (strs xs) o n = strs ((xs.drop o).take n) := by simp [sub, strs, List.map_drop, List.map_take]
@[simp] theorem strs_hasFz (xs : List ByteArray) : hasFzR (strs xs) = false := by
  induction xs with
  | nil => rfl
  | cons x xs ih => simp [strs, hasFzR, hasFzL, hasFz] at ih ⊢; exact ih
@[simp] theorem strs_flat (xs : List ByteArray) : flatR (strs xs) = true := by simp [strs, flatR, flat1]
@[simp] theorem strs_rep (n : Nat) (s : ByteArray) : List.replicate n [V.sc (.string s)] = strs (List.replicate n s) := by simp [strs]
theorem strs_getI {xs : List ByteArray} {i : Int} {x : ByteArray} (h : getI xs i = some x) : 0 ≤ i ∧ i < xs.length ∧ i.toNat < xs.length ∧ (strs xs)[i.toNat]? = some [.sc (.string x)] := by
  obtain ⟨h1, h2, h3⟩ := getI_some h
  exact ⟨h1, h2, by omega, by simp only [strs, List.getElem?_map, h3, Option.map_some]⟩
theorem strs_getN {xs : List ByteArray} {i : Nat} {x : ByteArray} (h : xs[i]? = some x) : (strs xs)[i]? = some [.sc (.string x)] := by simp only [strs, List.getElem?_map, h, Option.map_some]
/-- bytes -/
def byi (xs : List Int) : List (List V) := xs.map fun n => [V.sc (.int .u8 n)]
@[simp] theorem byi_nil : byi [] = [] := nr rfl
@[simp] theorem byi_len (xs : List Int) : (byi xs).length = xs.length := by simp [byi]
@[simp] theorem byi_all (xs : List Int) : allLen 1 (byi xs) = true := by simp [byi, allLen]
@[simp] theorem byi_frz (xs : List Int) : frzR (byi xs) = byi xs := by
  induction xs with
  | nil => rfl
  | cons x xs ih => simp [byi, frzR, frzL, frz] at ih ⊢; exact ih
@[simp] theorem byi_one (x : Int) : [[V.sc (.int .u8 x)]] = byi [x] := nr rfl
@[simp] theorem byi_emp (l : List Int) : (byi l).isEmpty = l.isEmpty := by cases l <;> rfl
@[simp] theorem byi_app (xs ys : List Int) : byi xs ++ byi ys = byi (xs ++ ys) := by simp only [byi, List.map_append]
@[simp] theorem byi_app1 (xs : List Int) (x : Int) : byi xs ++ [[V.sc (.int .u8 x)]] = byi (xs ++ [x]) := by simp only [byi, List.map_append, List.map_cons, List.map_nil]
@[simp] theorem byi_sub (xs : List Int) (o n : Nat) : sub (byi xs) o n = byi ((xs.drop o).take n) := by simp [sub, byi, List.map_drop, List.map_take]
@[simp] theorem byi_hasFz (xs : List Int) : hasFzR (byi xs) = false := by
  induction xs with
  | nil => rfl
  | cons x xs ih => simp [byi, hasFzR, hasFzL, hasFz] at ih ⊢; exact ih
@[simp] theorem byi_flat (xs : List Int) : flatR (byi xs) = true := by simp [byi, flatR, flat1]
@[simp] theorem byi_rep (n : Nat) : List.replicate n [V.sc (.int .u8 0)] = byi (List.replicate n 0) := by simp only [byi, List.map_replicate]
theorem byi_getI {xs : List Int} {i : Int} {x : Int} (h : getI xs i = some x) : 0 ≤ i ∧ i < xs.length ∧ i.toNat < xs.length ∧ (byi xs)[i.toNat]? = some [.sc (.int .u8 x)] := by
  obtain ⟨h1, h2, h3⟩ := getI_some h
  exact ⟨h1, h2, by omega, by simp only [byi, List.getElem?_map, h3, Option.map_some]⟩
theorem byi_getN {xs : List Int} {i : Nat} {x : Int} (h : xs[i]? = some x) : (byi xs)[i]? = some [.sc (.int .u8 x)] := by simp only [byi, List.getElem?_map, h, Option.map_some]
def strOf (xs : List Int) : ByteArray := ⟨(xs.map fun n => UInt8.ofNat n.toNat).toArray⟩
@[simp] theorem byi_bytes (xs : List Int) : bytesR (byi xs) = some (xs.map fun n => UInt8.ofNat n.toNat) := by
  induction xs with
  | nil => rfl
  | cons x xs ih =>
    have : byi (x :: xs) = [V.sc (.int .u8 x)] :: byi xs := rfl
    rw [this]
    simp only [bytesR, ih, Option.map_some, List.map_cons]
@[simp] theorem strOf_eq (xs : List Int) : (⟨(xs.map fun n => UInt8.ofNat n.toNat).toArray⟩ : ByteArray) = strOf xs := rfl
def bytesOf (s : ByteArray) : List Int := s.data.toList.map fun b => (b.toNat : Int)
@[simp] theorem bytesOf_eq (s : ByteArray) : (s.data.toList.map fun b => [V.sc (.int .u8 (b.toNat : Int))]) = byi (bytesOf s) := by simp [byi, bytesOf]
@[simp] theorem bytesOf_len (s : ByteArray) : (bytesOf s).length = s.size := by simp only [bytesOf, List.length_map, Array.length_toList]; rfl
/-- bools -/
def bools (xs : List Bool) : List (List V) := xs.map fun n => [V.sc (.bool n)]
theorem sameL_len {n : Nat} {xs ys : List (List V)} (h1 : allLen n xs = true) (h2 : allLen n ys = true) : sameL xs ys = true := by
  unfold sameL
  rw [List.all_eq_true]
  intro y hy
  have h3 := List.all_eq_true.1 h1 y hy
  simp only [beq_iff_eq] at h3
  rw [h3]; exact h2
@[simp] theorem sameL_ints (xs ys : List Int) : sameL (ints xs) (ints ys) = true := sameL_len (ints_all xs) (ints_all ys)
@[simp] theorem sameL_strs (xs ys : List ByteArray) : sameL (strs xs) (strs ys) = true := sameL_len (strs_all xs) (strs_all ys)
@[simp] theorem sameL_byi (xs ys : List Int) : sameL (byi xs) (byi ys) = true := sameL_len (byi_all xs) (byi_all ys)
attribute [simp] one1 flat1 cap1 takeM tk1
/-- no names stand in a row -/
def noH (xs : List (List V)) : Bool := xs.all fun cs => cs.all fun v => !isRf v
theorem fillC_no {α : Type} : ∀ (cs : List V) (k : List V → M α), (cs.all fun v => !isRf v) = true → fillC cs k = k cs
  | [], k, _ => rfl
  | v :: l, k, h => by
    simp only [List.all_cons, Bool.and_eq_true, Bool.not_eq_true'] at h
    have := fillC_no l (fun l' => k (v :: l')) h.2
    cases v <;> first | exact this | cases h.1
theorem fillX_no {α : Type} : ∀ (xs : List (List V)) (k : List (List V) → M α), noH xs = true → fillX xs k = k xs
  | [], k, _ => rfl
  | cs :: l, k, h => by
    simp only [noH, List.all_cons, Bool.and_eq_true] at h
    simp only [fillX]
    rw [fillC_no cs _ h.1, fillX_no l _ h.2]
theorem fillX_set {α : Type} : ∀ (xs : List (List V)) (i : Nat) (cs : List V) (k : List (List V) → M α), noH xs = true → i < xs.length → fillX (xs.set i cs) k = fillC cs fun cs' => k (xs.set i cs')
  | [], i, cs, k, _, h => by simp at h
  | c :: l, 0, cs, k, h, _ => by
    simp only [noH, List.all_cons, Bool.and_eq_true] at h
    simp only [List.set_cons_zero, fillX]
    congr 1
    funext cs'
    rw [fillX_no l _ h.2]
  | c :: l, i + 1, cs, k, h, hi => by
    simp only [noH, List.all_cons, Bool.and_eq_true] at h
    simp only [List.set_cons_succ, fillX]
    rw [fillC_no c _ h.1, fillX_set l i cs _ h.2 (by simpa using hi)]
def rfs1 (cs : List V) : List Nat := rfsX [cs]
theorem rfsX_cons (c : List V) (l : List (List V)) : rfsX (c :: l) = rfs1 c ++ rfsX l := by simp [rfsX, rfs1]
theorem rfs1_rf (m o n : Nat) (l : List V) : rfs1 (.rf m o n :: l) = m :: rfs1 l := by simp [rfs1, rfsX]
theorem rfs1_sc (x : Value) (l : List V) : rfs1 (.sc x :: l) = rfs1 l := by simp [rfs1, rfsX]
theorem rfs1_ls (o : Bool) (x : List (List V)) (l : List V) : rfs1 (.ls o x :: l) = rfs1 l := by simp [rfs1, rfsX]
theorem rfs1_nil : rfs1 [] = [] := by simp [rfs1, rfsX]
theorem rfs1_no : ∀ (cs : List V), (cs.all fun v => !isRf v) = true → rfs1 cs = []
  | [], _ => rfs1_nil
  | v :: l, h => by
    simp only [List.all_cons, Bool.and_eq_true, Bool.not_eq_true'] at h
    have := rfs1_no l h.2
    unfold rfs1 rfsX at this ⊢
    rw [List.filterMap_cons]
    cases v <;> first | exact this | cases h.1
theorem rfsX_no : ∀ (xs : List (List V)), noH xs = true → rfsX xs = []
  | [], _ => rfl
  | cs :: l, h => by
    simp only [noH, List.all_cons, Bool.and_eq_true] at h
    rw [rfsX_cons, rfs1_no cs h.1, rfsX_no l h.2]; rfl
theorem rfsX_set : ∀ (xs : List (List V)) (i : Nat) (cs : List V), noH xs = true → i < xs.length → rfsX (xs.set i cs) = rfs1 cs
  | [], i, cs, _, h => by simp at h
  | c :: l, 0, cs, h, _ => by
    simp only [noH, List.all_cons, Bool.and_eq_true] at h
    rw [List.set_cons_zero, rfsX_cons, rfsX_no l h.2, List.append_nil]
  | c :: l, i + 1, cs, h, hi => by
    simp only [noH, List.all_cons, Bool.and_eq_true] at h
    rw [List.set_cons_succ, rfsX_cons, rfs1_no c h.1, List.nil_append]
    exact rfsX_set l i cs h.2 (by simpa using hi)
attribute [simp] rfs1_rf rfs1_sc rfs1_ls rfs1_nil
@[simp] theorem fillC_nil {α : Type} (k : List V → M α) : fillC [] k = k [] := nr rfl
@[simp] theorem fillC_sc {α : Type} (x : Value) (l : List V) (k : List V → M α) : fillC (.sc x :: l) k = fillC l fun l' => k (.sc x :: l') := nr rfl
@[simp] theorem fillC_ls {α : Type} (o : Bool) (x : List (List V)) (l : List V) (k : List V → M α) : fillC (.ls o x :: l) k = fillC l fun l' => k (.ls o x :: l') := nr rfl
@[simp] theorem fillC_rf {α : Type} (m off len : Nat) (l : List V) (k : List V → M α) : fillC (.rf m off len :: l) k = rdA m fun fz ys => chk (decide (off = 0 ∧ len = ys.length) && !fz) (.wr (.a m) .dead (fillC l fun l' => k (.ls true ys :: l'))) := nr rfl
attribute [simp] fillX_set rfsX_set
@[simp] theorem take_app1 {τ : Type} (xs : List τ) (y : τ) : List.take (xs.length + 1) (xs ++ [y]) = xs ++ [y] := List.take_of_length_le (by simp)
@[simp] theorem take_app2 {τ : Type} (xs ys : List τ) : List.take (xs.length + ys.length) (xs ++ ys) = xs ++ ys := List.take_of_length_le (by simp)
@[simp] theorem range_1 : List.range 1 = [0] := nr rfl
@[simp] theorem range_2 : List.range 2 = [0, 1] := nr rfl
@[simp] theorem range_3 : List.range 3 = [0, 1, 2] := nr rfl
@[simp] theorem range_4 : List.range 4 = [0, 1, 2, 3] := nr rfl
end Go.Pv

namespace Go.Pv
theorem ev_lib {f : Nat} {av : List V} {v : V} (h : EE.fn f = none) (h2 : EE.lib f av [] = some (v, [])) : ev EE (.call f av []) = some (.val v []) := by
  rw [ev_eq]
  simp only [body, h, h2, bO]
theorem strs_strV (xs : List ByteArray) : strs xs = strV xs := rfl
/-- strings.Split at a blank -/
def F45 (a b : ByteArray) : Option (List ByteArray) := if b = ⟨#[32]⟩ ∧ a.size < 4294967281 then some (splitL a) else none
def F45_ans (a b : ByteArray) (r : List ByteArray) : Ans := .val (.ls true (strs r)) []
theorem F45_ok (a b : ByteArray) (r_ : List ByteArray) (h_ : F45 a b = some r_) : ev EE (.call 45 [.sc (.string a), .sc (.string b)] []) = some (F45_ans a b r_) := by
  unfold F45 at h_
  split at h_
  · rename_i hc
    cases h_
    refine ev_lib rfl ?_
    show (if b = ⟨#[32]⟩ ∧ a.size < 4294967281 then some (V.ls true (strV (splitL a)), ([] : List Cell)) else none) = _
    rw [if_pos hc]; rfl
  · cases h_
end Go.Pv
