/- Proof: the functions in small steps. No condition. -/
import Derived.Test.YthddchcckpmgoaaPvG
set_option autoImplicit true
set_option relaxedAutoImplicit true
set_option linter.unusedSimpArgs false
set_option linter.unusedVariables false
set_option maxRecDepth 20000
namespace Go.Pv
def ir6 : IFun := ⟨(.seq (.region [⟨(some 1), (.box (.t 0)), none⟩, ⟨(some 2), (.mv (.c (bool false))), none⟩] []) (.seq (.region [⟨(some 3), (.mv (.c (int 1048576))), none⟩] []) (.seq (.region [⟨(some 11), (.load 12 true (.t 1)), none⟩, ⟨(some 12), (.mv (.t 3)), none⟩, ⟨(some 13), (.call 23 [.t 11, .t 12]), none⟩, ⟨(some 3), (.mv (.t 13)), none⟩] []) (.seq (.seq (.region [⟨(some 14), (.mv (.t 3)), none⟩, ⟨(some 15), (.bin .lss (.t 14) (.c (int 0))), none⟩] []) (.cond (.t 15) (.seq (.region [⟨(some 2), (.mv (.c (bool true))), none⟩] []) .ret) .skip)) (.seq (.region [⟨(some 16), (.load 12 true (.t 1)), none⟩, ⟨(some 17), (.call 25 [.t 16]), none⟩, ⟨(some 18), (.call 24 [.t 17]), none⟩, ⟨(some 4), (.mv (.t 18)), none⟩] []) (.seq (.region [⟨(some 19), (.load 12 true (.t 1)), none⟩, ⟨(some 20), (.call 25 [.t 19]), none⟩, ⟨(some 5), (.alloc [.ls true [], .ls true [], .ls true [], int 0, .ls true [], .ls true [], int 0, .ls true [], .ls true [], .ls true [], bool false, int 0]), none⟩, ⟨none, (.store 12 (.t 5) (.t 20)), none⟩] []) (.seq (.region [⟨(some 21), (.load 12 true (.t 5)), none⟩, ⟨(some 22), (.call 26 [.t 21]), none⟩, ⟨(some 6), (.mv (.t 22)), none⟩] []) (.seq (.seq (.region [⟨(some 23), (.mv (.t 6)), none⟩, ⟨(some 24), (.mv (.t 4)), none⟩, ⟨(some 25), (.call 12 [.t 23, .t 24]), none⟩, ⟨(some 26), (.un .not (.t 25)), none⟩] []) (.cond (.t 26) (.seq (.region [⟨(some 2), (.mv (.c (bool false))), none⟩] []) .ret) .skip)) (.seq (.seq (.region [⟨(some 27), (.load 12 true (.t 5)), none⟩, ⟨(some 28), (.load 12 true (.t 1)), none⟩, ⟨(some 29), (.call 25 [.t 28]), none⟩, ⟨(some 30), (.call 27 [.t 27, .t 29]), none⟩, ⟨(some 31), (.un .not (.t 30)), none⟩] [(0, 1), (0, 2)]) (.cond (.t 31) (.seq (.region [⟨(some 2), (.mv (.c (bool false))), none⟩] []) .ret) .skip)) (.seq (.region [⟨(some 7), (.mv (.c (int 1))), none⟩] []) (.seq (.region [⟨(some 32), (.load 12 true (.t 5)), none⟩, ⟨(some 33), (.mv (.t 7)), none⟩, ⟨(some 34), (.call 28 [.t 32, .t 33]), none⟩, ⟨(some 7), (.mv (.t 34)), none⟩] []) (.seq (.seq (.region [⟨(some 35), (.mv (.t 7)), none⟩, ⟨(some 36), (.bin .lss (.t 35) (.c (int 0))), none⟩, ⟨(some 37), (.mv (.t 36)), none⟩, ⟨(some 38), (.mv (.t 6)), (some (37, false))⟩, ⟨(some 39), (.mv (.t 4)), (some (37, false))⟩, ⟨(some 40), (.call 12 [.t 38, .t 39]), (some (37, false))⟩, ⟨(some 41), (.un .not (.t 40)), (some (37, false))⟩, ⟨(some 42), (.pick (.t 37) (.c (bool true)) (.t 41)), none⟩] []) (.cond (.t 42) (.seq (.region [⟨(some 2), (.mv (.c (bool false))), none⟩] []) .ret) .skip)) (.seq (.region [⟨(some 8), (.mv (.c (int 1))), none⟩] []) (.seq (.region [⟨(some 43), (.mv (.t 6)), none⟩, ⟨(some 44), (.mv (.t 8)), none⟩, ⟨(some 45), (.call 15 [.t 43, .t 44]), none⟩, ⟨(some 8), (.mv (.t 45)), none⟩] []) (.seq (.region [⟨(some 9), (.mv (.c (int 1))), none⟩] []) (.seq (.region [⟨(some 46), (.mv (.t 6)), none⟩, ⟨(some 47), (.mv (.t 9)), none⟩, ⟨(some 48), (.call 16 [.t 46, .t 47]), none⟩, ⟨(some 9), (.mv (.t 48)), none⟩] []) (.seq (.seq (.region [⟨(some 49), (.mv (.t 9)), none⟩, ⟨(some 50), (.bin .lss (.t 49) (.c (int 0))), none⟩] []) (.cond (.t 50) (.seq (.region [⟨(some 2), (.mv (.c (bool false))), none⟩] []) .ret) .skip)) (.seq (.seq (.region [⟨(some 51), (.mv (.t 9)), none⟩, ⟨(some 52), (.mv (.t 8)), none⟩, ⟨(some 53), (.bin .neq (.t 51) (.t 52)), none⟩] []) (.cond (.t 53) (.seq (.region [⟨(some 2), (.mv (.c (bool false))), none⟩] []) .ret) .skip)) (.seq (.region [⟨(some 54), (.load 12 true (.t 1)), none⟩, ⟨(some 55), (.call 25 [.t 54]), none⟩, ⟨(some 56), (.call 26 [.t 55]), none⟩, ⟨(some 10), (.mv (.t 56)), none⟩] []) (.seq (.seq (.region [⟨(some 57), (.mv (.t 10)), none⟩, ⟨(some 58), (.mv (.t 4)), none⟩, ⟨(some 59), (.call 12 [.t 57, .t 58]), none⟩, ⟨(some 60), (.un .not (.t 59)), none⟩] []) (.cond (.t 60) (.seq (.region [⟨(some 2), (.mv (.c (bool false))), none⟩] []) .ret) .skip)) (.seq (.region [⟨(some 9), (.mv (.c (int 1))), none⟩] []) (.seq (.region [⟨(some 61), (.mv (.t 6)), none⟩, ⟨(some 62), (.mv (.t 9)), none⟩, ⟨(some 63), (.call 16 [.t 61, .t 62]), none⟩, ⟨(some 9), (.mv (.t 63)), none⟩] []) (.seq (.seq (.region [⟨(some 64), (.mv (.t 9)), none⟩, ⟨(some 65), (.bin .lss (.t 64) (.c (int 0))), none⟩] []) (.cond (.t 65) (.seq (.region [⟨(some 2), (.mv (.c (bool false))), none⟩] []) .ret) .skip)) (.seq (.seq (.region [⟨(some 66), (.mv (.t 9)), none⟩, ⟨(some 67), (.mv (.t 8)), none⟩, ⟨(some 68), (.bin .neq (.t 66) (.t 67)), none⟩] []) (.cond (.t 68) (.seq (.region [⟨(some 2), (.mv (.c (bool false))), none⟩] []) .ret) .skip)) (.seq (.region [⟨(some 2), (.mv (.c (bool true))), none⟩] []) .ret))))))))))))))))))))))))), [.t 2], [], []⟩
def ir7 : IFun := ⟨(.seq (.region [⟨(some 1), (.box (.t 0)), none⟩, ⟨(some 2), (.mv (.c (bool false))), none⟩] []) (.seq (.region [⟨(some 3), (.mv (.c (int 1048576))), none⟩] []) (.seq (.region [⟨(some 11), (.load 12 true (.t 1)), none⟩, ⟨(some 12), (.mv (.t 3)), none⟩, ⟨(some 13), (.call 23 [.t 11, .t 12]), none⟩, ⟨(some 3), (.mv (.t 13)), none⟩] []) (.seq (.seq (.region [⟨(some 14), (.mv (.t 3)), none⟩, ⟨(some 15), (.bin .lss (.t 14) (.c (int 0))), none⟩] []) (.cond (.t 15) (.seq (.region [⟨(some 2), (.mv (.c (bool true))), none⟩] []) .ret) .skip)) (.seq (.region [⟨(some 16), (.load 12 true (.t 1)), none⟩, ⟨(some 17), (.call 25 [.t 16]), none⟩, ⟨(some 18), (.call 29 [.t 17]), none⟩, ⟨(some 4), (.alloc [int 0, .ls true []]), none⟩, ⟨none, (.store 2 (.t 4) (.t 18)), none⟩] []) (.seq (.region [⟨(some 19), (.load 12 true (.t 1)), none⟩, ⟨(some 20), (.call 25 [.t 19]), none⟩, ⟨(some 5), (.alloc [.ls true [], .ls true [], .ls true [], int 0, .ls true [], .ls true [], int 0, .ls true [], .ls true [], .ls true [], bool false, int 0]), none⟩, ⟨none, (.store 12 (.t 5) (.t 20)), none⟩] []) (.seq (.region [⟨(some 21), (.load 12 true (.t 5)), none⟩, ⟨(some 22), (.call 30 [.t 21]), none⟩, ⟨(some 6), (.alloc [int 0, .ls true []]), none⟩, ⟨none, (.store 2 (.t 6) (.t 22)), none⟩] []) (.seq (.seq (.region [⟨(some 23), (.load 2 true (.t 6)), none⟩, ⟨(some 24), (.load 2 true (.t 4)), none⟩, ⟨(some 25), (.call 31 [.t 23, .t 24]), none⟩, ⟨(some 26), (.un .not (.t 25)), none⟩] []) (.cond (.t 26) (.seq (.region [⟨(some 2), (.mv (.c (bool false))), none⟩] []) .ret) .skip)) (.seq (.seq (.region [⟨(some 27), (.load 12 true (.t 5)), none⟩, ⟨(some 28), (.load 12 true (.t 1)), none⟩, ⟨(some 29), (.call 25 [.t 28]), none⟩, ⟨(some 30), (.call 27 [.t 27, .t 29]), none⟩, ⟨(some 31), (.un .not (.t 30)), none⟩] [(0, 1), (0, 2)]) (.cond (.t 31) (.seq (.region [⟨(some 2), (.mv (.c (bool false))), none⟩] []) .ret) .skip)) (.seq (.region [⟨(some 7), (.mv (.c (int 1))), none⟩] []) (.seq (.region [⟨(some 32), (.load 12 true (.t 5)), none⟩, ⟨(some 33), (.mv (.t 7)), none⟩, ⟨(some 34), (.call 28 [.t 32, .t 33]), none⟩, ⟨(some 7), (.mv (.t 34)), none⟩] []) (.seq (.seq (.region [⟨(some 35), (.mv (.t 7)), none⟩, ⟨(some 36), (.bin .lss (.t 35) (.c (int 0))), none⟩, ⟨(some 37), (.mv (.t 36)), none⟩, ⟨(some 38), (.load 2 true (.t 6)), (some (37, false))⟩, ⟨(some 39), (.load 2 true (.t 4)), (some (37, false))⟩, ⟨(some 40), (.call 31 [.t 38, .t 39]), (some (37, false))⟩, ⟨(some 41), (.un .not (.t 40)), (some (37, false))⟩, ⟨(some 42), (.pick (.t 37) (.c (bool true)) (.t 41)), none⟩] []) (.cond (.t 42) (.seq (.region [⟨(some 2), (.mv (.c (bool false))), none⟩] []) .ret) .skip)) (.seq (.region [⟨(some 8), (.mv (.c (int 1))), none⟩] []) (.seq (.region [⟨(some 43), (.load 2 true (.t 6)), none⟩, ⟨(some 44), (.mv (.t 8)), none⟩, ⟨(some 45), (.call 32 [.t 43, .t 44]), none⟩, ⟨(some 8), (.mv (.t 45)), none⟩] []) (.seq (.region [⟨(some 9), (.mv (.c (int 1))), none⟩] []) (.seq (.region [⟨(some 46), (.load 2 true (.t 6)), none⟩, ⟨(some 47), (.mv (.t 9)), none⟩, ⟨(some 48), (.call 33 [.t 46, .t 47]), none⟩, ⟨(some 9), (.mv (.t 48)), none⟩] []) (.seq (.seq (.region [⟨(some 49), (.mv (.t 9)), none⟩, ⟨(some 50), (.bin .lss (.t 49) (.c (int 0))), none⟩] []) (.cond (.t 50) (.seq (.region [⟨(some 2), (.mv (.c (bool false))), none⟩] []) .ret) .skip)) (.seq (.seq (.region [⟨(some 51), (.mv (.t 9)), none⟩, ⟨(some 52), (.mv (.t 8)), none⟩, ⟨(some 53), (.bin .neq (.t 51) (.t 52)), none⟩] []) (.cond (.t 53) (.seq (.region [⟨(some 2), (.mv (.c (bool false))), none⟩] []) .ret) .skip)) (.seq (.region [⟨(some 54), (.load 12 true (.t 1)), none⟩, ⟨(some 55), (.call 25 [.t 54]), none⟩, ⟨(some 56), (.call 30 [.t 55]), none⟩, ⟨(some 10), (.alloc [int 0, .ls true []]), none⟩, ⟨none, (.store 2 (.t 10) (.t 56)), none⟩] []) (.seq (.seq (.region [⟨(some 57), (.load 2 true (.t 10)), none⟩, ⟨(some 58), (.load 2 true (.t 4)), none⟩, ⟨(some 59), (.call 31 [.t 57, .t 58]), none⟩, ⟨(some 60), (.un .not (.t 59)), none⟩] []) (.cond (.t 60) (.seq (.region [⟨(some 2), (.mv (.c (bool false))), none⟩] []) .ret) .skip)) (.seq (.region [⟨(some 9), (.mv (.c (int 1))), none⟩] []) (.seq (.region [⟨(some 61), (.load 2 true (.t 6)), none⟩, ⟨(some 62), (.mv (.t 9)), none⟩, ⟨(some 63), (.call 33 [.t 61, .t 62]), none⟩, ⟨(some 9), (.mv (.t 63)), none⟩] []) (.seq (.seq (.region [⟨(some 64), (.mv (.t 9)), none⟩, ⟨(some 65), (.bin .lss (.t 64) (.c (int 0))), none⟩] []) (.cond (.t 65) (.seq (.region [⟨(some 2), (.mv (.c (bool false))), none⟩] []) .ret) .skip)) (.seq (.seq (.region [⟨(some 66), (.mv (.t 9)), none⟩, ⟨(some 67), (.mv (.t 8)), none⟩, ⟨(some 68), (.bin .neq (.t 66) (.t 67)), none⟩] []) (.cond (.t 68) (.seq (.region [⟨(some 2), (.mv (.c (bool false))), none⟩] []) .ret) .skip)) (.seq (.region [⟨(some 2), (.mv (.c (bool true))), none⟩] []) .ret))))))))))))))))))))))))), [.t 2], [], []⟩
def ir8 : IFun := ⟨(.seq (.region [⟨(some 2), (.box (.t 0)), none⟩, ⟨(some 4), (.mv (.c (int 0))), none⟩] []) (.seq (.region [⟨(some 5), (.fld 0 (.t 2)), none⟩, ⟨(some 6), (.load 1 false (.t 5)), none⟩, ⟨(some 7), (.mv (.t 1)), none⟩, ⟨(some 8), (.call 34 [.t 6, .t 7]), none⟩, ⟨(some 1), (.mv (.t 8)), none⟩] []) (.seq (.seq (.region [⟨(some 9), (.mv (.t 1)), none⟩, ⟨(some 10), (.bin .lss (.t 9) (.c (int 0))), none⟩] []) (.cond (.t 10) (.seq (.region [⟨(some 4), (.mv (.c (int (-1)))), none⟩] []) .ret) .skip)) (.seq (.region [⟨(some 11), (.mv (.t 1)), none⟩, ⟨(some 4), (.mv (.t 11)), none⟩] []) .ret)))), [.t 4], [], []⟩
def ir10 : IFun := ⟨(.seq (.region [⟨(some 1), (.box (.t 0)), none⟩, ⟨(some 2), (.alloc [.ls true []]), none⟩] []) (.seq (.region [⟨(some 3), (.alloc [.ls true []]), none⟩] []) (.seq (.region [⟨(some 4), (.fld 0 (.t 1)), none⟩, ⟨(some 5), (.load 1 false (.t 4)), none⟩, ⟨(some 6), (.call 20 [.t 5]), none⟩, ⟨(some 7), (.fld 0 (.t 3)), none⟩, ⟨none, (.store 1 (.t 7) (.t 6)), none⟩] []) (.seq (.region [⟨(some 8), (.load 1 true (.t 3)), none⟩, ⟨none, (.store 1 (.t 2) (.t 8)), none⟩] []) .ret)))), [.c 2 1 true], [], []⟩
def lp12_0 : IC := (.seq (.seq (.region [⟨(some 11), (.mv (.t 5)), none⟩, ⟨(some 12), (.mv (.t 0)), none⟩, ⟨(some 13), (.len 0 (.t 12)), none⟩, ⟨(some 14), (.bin .lss (.t 11) (.t 13)), none⟩] []) (.cond (.t 14) .skip (.exit 0))) (.seq (.block 1 (.seq (.region [⟨(some 17), (.mv (.t 0)), none⟩, ⟨(some 18), (.mv (.t 5)), none⟩, ⟨(some 19), (.idx 1 (.t 17) (.t 18)), none⟩, ⟨(some 20), (.load 1 false (.t 19)), none⟩, ⟨(some 21), (.mv (.t 1)), none⟩, ⟨(some 22), (.mv (.t 5)), none⟩, ⟨(some 23), (.idx 1 (.t 21) (.t 22)), none⟩, ⟨(some 24), (.load 1 false (.t 23)), none⟩, ⟨(some 25), (.bin .neq (.t 20) (.t 24)), none⟩] [(0, 1), (0, 4), (1, 4), (2, 4), (3, 4), (0, 5), (1, 5), (2, 5), (3, 5), (4, 5), (0, 6), (1, 6), (2, 6), (3, 6), (0, 7), (1, 7), (2, 7), (3, 7)]) (.cond (.t 25) (.seq (.region [⟨(some 4), (.mv (.c (bool false))), none⟩] []) .ret) .skip))) (.region [⟨(some 15), (.mv (.t 5)), none⟩, ⟨(some 16), (.bin .add (.t 15) (.c (int 1))), none⟩, ⟨(some 5), (.mv (.t 16)), none⟩] [])))
def ir12 : IFun := ⟨(.seq (.region [⟨(some 4), (.mv (.c (bool false))), none⟩] []) (.seq (.seq (.region [⟨(some 6), (.mv (.t 0)), none⟩, ⟨(some 7), (.len 0 (.t 6)), none⟩, ⟨(some 8), (.mv (.t 1)), none⟩, ⟨(some 9), (.len 0 (.t 8)), none⟩, ⟨(some 10), (.bin .neq (.t 7) (.t 9)), none⟩] []) (.cond (.t 10) (.seq (.region [⟨(some 4), (.mv (.c (bool false))), none⟩] []) .ret) .skip)) (.seq (.seq (.region [⟨(some 5), (.mv (.c (int 0))), none⟩] []) (.block 0 (.loop lp12_0 [0, 1, 5] [4]))) (.seq (.region [⟨(some 4), (.mv (.c (bool true))), none⟩] []) .ret)))), [.t 4], [], []⟩
def ir13 : IFun := ⟨(.seq (.region [⟨(some 2), (.box (.t 0)), none⟩, ⟨(some 3), (.box (.t 1)), none⟩, ⟨(some 4), (.mv (.c (bool false))), none⟩] []) (.seq (.seq (.region [⟨(some 5), (.fld 0 (.t 2)), none⟩, ⟨(some 6), (.load 1 false (.t 5)), none⟩, ⟨(some 7), (.fld 0 (.t 3)), none⟩, ⟨(some 8), (.load 1 false (.t 7)), none⟩, ⟨(some 9), (.call 12 [.t 6, .t 8]), none⟩, ⟨(some 10), (.un .not (.t 9)), none⟩] []) (.cond (.t 10) (.seq (.region [⟨(some 4), (.mv (.c (bool false))), none⟩] []) .ret) .skip)) (.seq (.region [⟨(some 4), (.mv (.c (bool true))), none⟩] []) .ret))), [.t 4], [], []⟩
def ir14 : IFun := ⟨(.seq (.region [⟨(some 2), (.box (.t 0)), none⟩, ⟨(some 4), (.mv (.c (int 0))), none⟩] []) (.seq (.region [⟨(some 5), (.fld 0 (.t 2)), none⟩, ⟨(some 6), (.load 1 false (.t 5)), none⟩, ⟨(some 7), (.mv (.t 1)), none⟩, ⟨(some 8), (.call 15 [.t 6, .t 7]), none⟩, ⟨(some 1), (.mv (.t 8)), none⟩] []) (.seq (.region [⟨(some 9), (.mv (.t 1)), none⟩, ⟨(some 4), (.mv (.t 9)), none⟩] []) .ret))), [.t 4], [0], []⟩
def lp15_0 : IC := (.seq (.seq (.region [⟨(some 6), (.mv (.t 5)), none⟩, ⟨(some 7), (.mv (.t 0)), none⟩, ⟨(some 8), (.len 0 (.t 7)), none⟩, ⟨(some 9), (.bin .lss (.t 6) (.t 8)), none⟩] []) (.cond (.t 9) .skip (.exit 0))) (.seq (.block 1 (.seq (.region [⟨(some 12), (.mv (.t 0)), none⟩, ⟨(some 13), (.mv (.t 5)), none⟩, ⟨(some 14), (.mv (.t 1)), none⟩, ⟨(some 15), (.idx 1 (.t 12) (.t 13)), none⟩, ⟨none, (.store 1 (.t 15) (.t 14)), none⟩] []) (.region [⟨(some 16), (.mv (.t 1)), none⟩, ⟨(some 17), (.bin .add (.t 16) (.c (int 1))), none⟩, ⟨(some 1), (.mv (.t 17)), none⟩] []))) (.region [⟨(some 10), (.mv (.t 5)), none⟩, ⟨(some 11), (.bin .add (.t 10) (.c (int 1))), none⟩, ⟨(some 5), (.mv (.t 11)), none⟩] [])))
def ir15 : IFun := ⟨(.seq (.region [⟨(some 4), (.mv (.c (int 0))), none⟩] []) (.seq (.seq (.region [⟨(some 5), (.mv (.c (int 0))), none⟩] []) (.block 0 (.loop lp15_0 [0, 1, 5] [0, 1, 4]))) (.seq (.region [⟨(some 18), (.mv (.t 1)), none⟩, ⟨(some 4), (.mv (.t 18)), none⟩] []) .ret))), [.t 4], [0], []⟩
def lp16_0 : IC := (.seq (.seq (.region [⟨(some 6), (.mv (.t 5)), none⟩, ⟨(some 7), (.mv (.t 0)), none⟩, ⟨(some 8), (.len 0 (.t 7)), none⟩, ⟨(some 9), (.bin .lss (.t 6) (.t 8)), none⟩] []) (.cond (.t 9) .skip (.exit 0))) (.seq (.block 1 (.seq (.seq (.region [⟨(some 12), (.mv (.t 0)), none⟩, ⟨(some 13), (.mv (.t 5)), none⟩, ⟨(some 14), (.idx 1 (.t 12) (.t 13)), none⟩, ⟨(some 15), (.load 1 false (.t 14)), none⟩, ⟨(some 16), (.mv (.t 1)), none⟩, ⟨(some 17), (.bin .neq (.t 15) (.t 16)), none⟩] []) (.cond (.t 17) (.seq (.region [⟨(some 4), (.mv (.c (int (-1)))), none⟩] []) .ret) .skip)) (.region [⟨(some 18), (.mv (.t 1)), none⟩, ⟨(some 19), (.bin .add (.t 18) (.c (int 1))), none⟩, ⟨(some 1), (.mv (.t 19)), none⟩] []))) (.region [⟨(some 10), (.mv (.t 5)), none⟩, ⟨(some 11), (.bin .add (.t 10) (.c (int 1))), none⟩, ⟨(some 5), (.mv (.t 11)), none⟩] [])))
def ir16 : IFun := ⟨(.seq (.region [⟨(some 4), (.mv (.c (int 0))), none⟩] []) (.seq (.seq (.region [⟨(some 5), (.mv (.c (int 0))), none⟩] []) (.block 0 (.loop lp16_0 [0, 1, 5] [1, 4]))) (.seq (.region [⟨(some 20), (.mv (.t 1)), none⟩, ⟨(some 4), (.mv (.t 20)), none⟩] []) .ret))), [.t 4], [], []⟩
def lp20_0 : IC := (.seq (.seq (.region [⟨(some 8), (.mv (.t 4)), none⟩, ⟨(some 9), (.mv (.t 0)), none⟩, ⟨(some 10), (.len 0 (.t 9)), none⟩, ⟨(some 11), (.bin .lss (.t 8) (.t 10)), none⟩] []) (.cond (.t 11) .skip (.exit 0))) (.seq (.block 1 (.region [⟨(some 14), (.mv (.t 3)), none⟩, ⟨(some 15), (.mv (.t 4)), none⟩, ⟨(some 16), (.mv (.t 0)), none⟩, ⟨(some 17), (.mv (.t 4)), none⟩, ⟨(some 18), (.idx 1 (.t 16) (.t 17)), none⟩, ⟨(some 19), (.load 1 false (.t 18)), none⟩, ⟨(some 20), (.idx 1 (.t 14) (.t 15)), none⟩, ⟨none, (.store 1 (.t 20) (.t 19)), none⟩] [])) (.region [⟨(some 12), (.mv (.t 4)), none⟩, ⟨(some 13), (.bin .add (.t 12) (.c (int 1))), none⟩, ⟨(some 4), (.mv (.t 13)), none⟩] [])))
def ir20 : IFun := ⟨(.seq (.region [⟨(some 2), (.mv (.c (.ls true []))), none⟩] []) (.seq (.region [⟨(some 5), (.mv (.t 0)), none⟩, ⟨(some 6), (.len 0 (.t 5)), none⟩, ⟨(some 7), (.mksl [int 0] 8 (.t 6) (.t 6)), none⟩, ⟨(some 3), (.mv (.t 7)), none⟩] []) (.seq (.seq (.region [⟨(some 4), (.mv (.c (int 0))), none⟩] []) (.block 0 (.loop lp20_0 [0, 3, 4] [2, 3]))) (.seq (.region [⟨(some 21), (.mv (.t 3)), none⟩, ⟨(some 2), (.mv (.t 21)), none⟩] []) .ret)))), [.t 2], [], []⟩
def ir23 : IFun := ⟨(.seq (.region [⟨(some 2), (.box (.t 0)), none⟩, ⟨(some 4), (.mv (.c (int 0))), none⟩] []) (.seq (.region [⟨(some 5), (.fld 0 (.t 2)), none⟩, ⟨(some 6), (.load 2 true (.t 5)), none⟩, ⟨(some 7), (.mv (.t 1)), none⟩, ⟨(some 8), (.call 52 [.t 6, .t 7]), none⟩, ⟨(some 1), (.mv (.t 8)), none⟩] []) (.seq (.seq (.region [⟨(some 9), (.mv (.t 1)), none⟩, ⟨(some 10), (.bin .lss (.t 9) (.c (int 0))), none⟩] []) (.cond (.t 10) (.seq (.region [⟨(some 4), (.mv (.c (int (-1)))), none⟩] []) .ret) .skip)) (.seq (.region [⟨(some 11), (.fld 2 (.t 2)), none⟩, ⟨(some 12), (.load 1 true (.t 11)), none⟩, ⟨(some 13), (.mv (.t 1)), none⟩, ⟨(some 14), (.call 8 [.t 12, .t 13]), none⟩, ⟨(some 1), (.mv (.t 14)), none⟩] []) (.seq (.seq (.region [⟨(some 15), (.mv (.t 1)), none⟩, ⟨(some 16), (.bin .lss (.t 15) (.c (int 0))), none⟩] []) (.cond (.t 16) (.seq (.region [⟨(some 4), (.mv (.c (int (-1)))), none⟩] []) .ret) .skip)) (.seq (.region [⟨(some 17), (.fld 3 (.t 2)), none⟩, ⟨(some 18), (.load 4 true (.t 17)), none⟩, ⟨(some 19), (.mv (.t 1)), none⟩, ⟨(some 20), (.call 53 [.t 18, .t 19]), none⟩, ⟨(some 1), (.mv (.t 20)), none⟩] []) (.seq (.seq (.region [⟨(some 21), (.mv (.t 1)), none⟩, ⟨(some 22), (.bin .lss (.t 21) (.c (int 0))), none⟩] []) (.cond (.t 22) (.seq (.region [⟨(some 4), (.mv (.c (int (-1)))), none⟩] []) .ret) .skip)) (.seq (.region [⟨(some 23), (.fld 7 (.t 2)), none⟩, ⟨(some 24), (.load 1 false (.t 23)), none⟩, ⟨(some 25), (.mv (.t 1)), none⟩, ⟨(some 26), (.call 54 [.t 24, .t 25]), none⟩, ⟨(some 1), (.mv (.t 26)), none⟩] []) (.seq (.seq (.region [⟨(some 27), (.mv (.t 1)), none⟩, ⟨(some 28), (.bin .lss (.t 27) (.c (int 0))), none⟩] []) (.cond (.t 28) (.seq (.region [⟨(some 4), (.mv (.c (int (-1)))), none⟩] []) .ret) .skip)) (.seq (.region [⟨(some 29), (.fld 8 (.t 2)), none⟩, ⟨(some 30), (.load 1 false (.t 29)), none⟩, ⟨(some 31), (.mv (.t 1)), none⟩, ⟨(some 32), (.call 34 [.t 30, .t 31]), none⟩, ⟨(some 1), (.mv (.t 32)), none⟩] []) (.seq (.seq (.region [⟨(some 33), (.mv (.t 1)), none⟩, ⟨(some 34), (.bin .lss (.t 33) (.c (int 0))), none⟩] []) (.cond (.t 34) (.seq (.region [⟨(some 4), (.mv (.c (int (-1)))), none⟩] []) .ret) .skip)) (.seq (.region [⟨(some 35), (.fld 9 (.t 2)), none⟩, ⟨(some 36), (.load 1 false (.t 35)), none⟩, ⟨(some 37), (.mv (.t 1)), none⟩, ⟨(some 38), (.call 55 [.t 36, .t 37]), none⟩, ⟨(some 1), (.mv (.t 38)), none⟩] []) (.seq (.seq (.region [⟨(some 39), (.mv (.t 1)), none⟩, ⟨(some 40), (.bin .lss (.t 39) (.c (int 0))), none⟩] []) (.cond (.t 40) (.seq (.region [⟨(some 4), (.mv (.c (int (-1)))), none⟩] []) .ret) .skip)) (.seq (.region [⟨(some 41), (.mv (.t 1)), none⟩, ⟨(some 4), (.mv (.t 41)), none⟩] []) .ret)))))))))))))), [.t 4], [], []⟩
def lp24_0 : IC := (.seq (.seq (.region [⟨(some 9), (.mv (.t 4)), none⟩, ⟨(some 10), (.fld 7 (.t 1)), none⟩, ⟨(some 11), (.load 1 false (.t 10)), none⟩, ⟨(some 12), (.len 0 (.t 11)), none⟩, ⟨(some 13), (.bin .lss (.t 9) (.t 12)), none⟩] []) (.cond (.t 13) .skip (.exit 0))) (.seq (.block 1 (.region [⟨(some 16), (.mv (.t 3)), none⟩, ⟨(some 17), (.fld 7 (.t 1)), none⟩, ⟨(some 18), (.load 1 false (.t 17)), none⟩, ⟨(some 19), (.mv (.t 4)), none⟩, ⟨(some 20), (.idx 3 (.t 18) (.t 19)), none⟩, ⟨(some 21), (.fld 2 (.t 20)), none⟩, ⟨(some 22), (.load 1 false (.t 21)), none⟩, ⟨(some 23), (.bsl [int 0] 1 [(0, .t 22)]), none⟩, ⟨(some 24), (.app 1 8 false (.t 16) (.t 23)), none⟩, ⟨(some 3), (.mv (.t 24)), none⟩] [])) (.region [⟨(some 14), (.mv (.t 4)), none⟩, ⟨(some 15), (.bin .add (.t 14) (.c (int 1))), none⟩, ⟨(some 4), (.mv (.t 15)), none⟩] [])))
def ir24 : IFun := ⟨(.seq (.region [⟨(some 1), (.box (.t 0)), none⟩, ⟨(some 2), (.mv (.c (.ls true []))), none⟩] []) (.seq (.region [⟨(some 5), (.bsl [int 0] 0 []), none⟩, ⟨(some 6), (.fld 8 (.t 1)), none⟩, ⟨(some 7), (.load 1 false (.t 6)), none⟩, ⟨(some 8), (.app 1 8 false (.t 5) (.t 7)), none⟩, ⟨(some 3), (.mv (.t 8)), none⟩] []) (.seq (.seq (.region [⟨(some 4), (.mv (.c (int 0))), none⟩] []) (.block 0 (.loop lp24_0 [1, 3, 4] [2, 3]))) (.seq (.region [⟨(some 25), (.mv (.t 3)), none⟩, ⟨(some 2), (.mv (.t 25)), none⟩] []) .ret)))), [.t 2], [], []⟩
def ir25 : IFun := ⟨(.seq (.region [⟨(some 1), (.box (.t 0)), none⟩, ⟨(some 2), (.alloc [.ls true [], .ls true [], .ls true [], int 0, .ls true [], .ls true [], int 0, .ls true [], .ls true [], .ls true [], bool false, int 0]), none⟩] []) (.seq (.region [⟨(some 3), (.alloc [.ls true [], .ls true [], .ls true [], int 0, .ls true [], .ls true [], int 0, .ls true [], .ls true [], .ls true [], bool false, int 0]), none⟩] []) (.seq (.region [⟨(some 4), (.fld 0 (.t 1)), none⟩, ⟨(some 5), (.load 2 true (.t 4)), none⟩, ⟨(some 6), (.call 56 [.t 5]), none⟩, ⟨(some 7), (.fld 0 (.t 3)), none⟩, ⟨none, (.store 2 (.t 7) (.t 6)), none⟩] []) (.seq (.region [⟨(some 8), (.fld 2 (.t 1)), none⟩, ⟨(some 9), (.load 1 true (.t 8)), none⟩, ⟨(some 10), (.call 10 [.t 9]), none⟩, ⟨(some 11), (.fld 2 (.t 3)), none⟩, ⟨none, (.store 1 (.t 11) (.t 10)), none⟩] []) (.seq (.region [⟨(some 12), (.fld 3 (.t 1)), none⟩, ⟨(some 13), (.load 4 true (.t 12)), none⟩, ⟨(some 14), (.call 57 [.t 13]), none⟩, ⟨(some 15), (.fld 3 (.t 3)), none⟩, ⟨none, (.store 4 (.t 15) (.t 14)), none⟩] []) (.seq (.region [⟨(some 16), (.fld 7 (.t 1)), none⟩, ⟨(some 17), (.load 1 false (.t 16)), none⟩, ⟨(some 18), (.call 58 [.t 17]), none⟩, ⟨(some 19), (.fld 7 (.t 3)), none⟩, ⟨none, (.store 1 (.t 19) (.t 18)), none⟩] []) (.seq (.region [⟨(some 20), (.fld 8 (.t 1)), none⟩, ⟨(some 21), (.load 1 false (.t 20)), none⟩, ⟨(some 22), (.call 20 [.t 21]), none⟩, ⟨(some 23), (.fld 8 (.t 3)), none⟩, ⟨none, (.store 1 (.t 23) (.t 22)), none⟩] []) (.seq (.region [⟨(some 24), (.fld 9 (.t 1)), none⟩, ⟨(some 25), (.load 1 false (.t 24)), none⟩, ⟨(some 26), (.call 59 [.t 25]), none⟩, ⟨(some 27), (.fld 9 (.t 3)), none⟩, ⟨none, (.store 1 (.t 27) (.t 26)), none⟩] []) (.seq (.region [⟨(some 28), (.fld 10 (.t 1)), none⟩, ⟨(some 29), (.load 1 false (.t 28)), none⟩, ⟨(some 30), (.fld 10 (.t 3)), none⟩, ⟨none, (.store 1 (.t 30) (.t 29)), none⟩] []) (.seq (.region [⟨(some 31), (.fld 11 (.t 1)), none⟩, ⟨(some 32), (.load 1 false (.t 31)), none⟩, ⟨(some 33), (.fld 11 (.t 3)), none⟩, ⟨none, (.store 1 (.t 33) (.t 32)), none⟩] []) (.seq (.region [⟨(some 34), (.load 12 true (.t 3)), none⟩, ⟨none, (.store 12 (.t 2) (.t 34)), none⟩] []) .ret))))))))))), [.c 2 12 true], [], []⟩
def lp26_0 : IC := (.seq (.region [⟨(some 13), (.bin .lss (.t 12) (.t 11)), none⟩] []) (.seq (.cond (.t 13) .skip (.exit 0)) (.seq (.block 1 (.seq (.region [⟨(some 14), (.idx 3 (.t 10) (.t 12)), none⟩, ⟨(some 15), (.load 3 true (.t 14)), none⟩, ⟨(some 5), (.alloc [int 0, int 0, int 0]), none⟩, ⟨none, (.store 3 (.t 5) (.t 15)), none⟩] []) (.region [⟨(some 16), (.mv (.t 3)), none⟩, ⟨(some 17), (.fld 2 (.t 5)), none⟩, ⟨(some 18), (.load 1 false (.t 17)), none⟩, ⟨(some 19), (.bsl [int 0] 1 [(0, .t 18)]), none⟩, ⟨(some 20), (.app 1 8 false (.t 16) (.t 19)), none⟩, ⟨(some 3), (.mv (.t 20)), none⟩] []))) (.region [⟨(some 21), (.bin .add (.t 12) (.c (int 1))), none⟩, ⟨(some 12), (.mv (.t 21)), none⟩] []))))
def ir26 : IFun := ⟨(.seq (.region [⟨(some 1), (.box (.t 0)), none⟩, ⟨(some 2), (.mv (.c (.ls true []))), none⟩] []) (.seq (.region [⟨(some 6), (.fld 8 (.t 1)), none⟩, ⟨(some 7), (.load 1 false (.t 6)), none⟩, ⟨(some 8), (.call 60 [.t 7]), none⟩, ⟨(some 3), (.mv (.t 8)), none⟩] []) (.seq (.seq (.region [⟨(some 9), (.fld 7 (.t 1)), none⟩, ⟨(some 10), (.load 1 false (.t 9)), none⟩, ⟨(some 11), (.len 0 (.t 10)), none⟩, ⟨(some 12), (.mv (.c (int 0))), none⟩] []) (.block 0 (.loop lp26_0 [3, 10, 11, 12] [2, 3]))) (.seq (.region [⟨(some 22), (.mv (.t 3)), none⟩, ⟨(some 2), (.mv (.t 22)), none⟩] []) .ret)))), [.t 2], [], []⟩
def ir27 : IFun := ⟨(.seq (.region [⟨(some 2), (.box (.t 0)), none⟩, ⟨(some 3), (.box (.t 1)), none⟩, ⟨(some 4), (.mv (.c (bool false))), none⟩] []) (.seq (.seq (.region [⟨(some 5), (.fld 0 (.t 2)), none⟩, ⟨(some 6), (.load 2 true (.t 5)), none⟩, ⟨(some 7), (.fld 0 (.t 3)), none⟩, ⟨(some 8), (.load 2 true (.t 7)), none⟩, ⟨(some 9), (.call 61 [.t 6, .t 8]), none⟩, ⟨(some 10), (.un .not (.t 9)), none⟩] []) (.cond (.t 10) (.seq (.region [⟨(some 4), (.mv (.c (bool false))), none⟩] []) .ret) .skip)) (.seq (.seq (.region [⟨(some 11), (.fld 2 (.t 2)), none⟩, ⟨(some 12), (.load 1 true (.t 11)), none⟩, ⟨(some 13), (.fld 2 (.t 3)), none⟩, ⟨(some 14), (.load 1 true (.t 13)), none⟩, ⟨(some 15), (.call 13 [.t 12, .t 14]), none⟩, ⟨(some 16), (.un .not (.t 15)), none⟩] []) (.cond (.t 16) (.seq (.region [⟨(some 4), (.mv (.c (bool false))), none⟩] []) .ret) .skip)) (.seq (.seq (.region [⟨(some 17), (.fld 3 (.t 2)), none⟩, ⟨(some 18), (.load 4 true (.t 17)), none⟩, ⟨(some 19), (.fld 3 (.t 3)), none⟩, ⟨(some 20), (.load 4 true (.t 19)), none⟩, ⟨(some 21), (.call 62 [.t 18, .t 20]), none⟩, ⟨(some 22), (.un .not (.t 21)), none⟩] []) (.cond (.t 22) (.seq (.region [⟨(some 4), (.mv (.c (bool false))), none⟩] []) .ret) .skip)) (.seq (.seq (.region [⟨(some 23), (.fld 7 (.t 2)), none⟩, ⟨(some 24), (.load 1 false (.t 23)), none⟩, ⟨(some 25), (.fld 7 (.t 3)), none⟩, ⟨(some 26), (.load 1 false (.t 25)), none⟩, ⟨(some 27), (.call 63 [.t 24, .t 26]), none⟩, ⟨(some 28), (.un .not (.t 27)), none⟩] []) (.cond (.t 28) (.seq (.region [⟨(some 4), (.mv (.c (bool false))), none⟩] []) .ret) .skip)) (.seq (.seq (.region [⟨(some 29), (.fld 8 (.t 2)), none⟩, ⟨(some 30), (.load 1 false (.t 29)), none⟩, ⟨(some 31), (.fld 8 (.t 3)), none⟩, ⟨(some 32), (.load 1 false (.t 31)), none⟩, ⟨(some 33), (.call 12 [.t 30, .t 32]), none⟩, ⟨(some 34), (.un .not (.t 33)), none⟩] []) (.cond (.t 34) (.seq (.region [⟨(some 4), (.mv (.c (bool false))), none⟩] []) .ret) .skip)) (.seq (.seq (.region [⟨(some 35), (.fld 9 (.t 2)), none⟩, ⟨(some 36), (.load 1 false (.t 35)), none⟩, ⟨(some 37), (.fld 9 (.t 3)), none⟩, ⟨(some 38), (.load 1 false (.t 37)), none⟩, ⟨(some 39), (.call 64 [.t 36, .t 38]), none⟩, ⟨(some 40), (.un .not (.t 39)), none⟩] []) (.cond (.t 40) (.seq (.region [⟨(some 4), (.mv (.c (bool false))), none⟩] []) .ret) .skip)) (.seq (.seq (.region [⟨(some 41), (.fld 10 (.t 2)), none⟩, ⟨(some 42), (.load 1 false (.t 41)), none⟩, ⟨(some 43), (.fld 10 (.t 3)), none⟩, ⟨(some 44), (.load 1 false (.t 43)), none⟩, ⟨(some 45), (.beq true (.t 42) (.t 44)), none⟩] []) (.cond (.t 45) (.seq (.region [⟨(some 4), (.mv (.c (bool false))), none⟩] []) .ret) .skip)) (.seq (.seq (.region [⟨(some 46), (.fld 11 (.t 2)), none⟩, ⟨(some 47), (.load 1 false (.t 46)), none⟩, ⟨(some 48), (.fld 11 (.t 3)), none⟩, ⟨(some 49), (.load 1 false (.t 48)), none⟩, ⟨(some 50), (.bin .neq (.t 47) (.t 49)), none⟩] []) (.cond (.t 50) (.seq (.region [⟨(some 4), (.mv (.c (bool false))), none⟩] []) .ret) .skip)) (.seq (.region [⟨(some 4), (.mv (.c (bool true))), none⟩] []) .ret)))))))))), [.t 4], [], []⟩
def ir28 : IFun := ⟨(.seq (.region [⟨(some 2), (.box (.t 0)), none⟩, ⟨(some 4), (.mv (.c (int 0))), none⟩] []) (.seq (.region [⟨(some 5), (.fld 0 (.t 2)), none⟩, ⟨(some 6), (.load 2 true (.t 5)), none⟩, ⟨(some 7), (.mv (.t 1)), none⟩, ⟨(some 8), (.call 65 [.t 6, .t 7]), none⟩, ⟨(some 1), (.mv (.t 8)), none⟩] []) (.seq (.region [⟨(some 9), (.fld 2 (.t 2)), none⟩, ⟨(some 10), (.load 1 true (.t 9)), none⟩, ⟨(some 11), (.mv (.t 1)), none⟩, ⟨(some 12), (.call 14 [.t 10, .t 11]), none⟩, ⟨(some 1), (.mv (.t 12)), none⟩] []) (.seq (.region [⟨(some 13), (.fld 3 (.t 2)), none⟩, ⟨(some 14), (.load 4 true (.t 13)), none⟩, ⟨(some 15), (.mv (.t 1)), none⟩, ⟨(some 16), (.call 66 [.t 14, .t 15]), none⟩, ⟨(some 1), (.mv (.t 16)), none⟩] []) (.seq (.region [⟨(some 17), (.fld 7 (.t 2)), none⟩, ⟨(some 18), (.load 1 false (.t 17)), none⟩, ⟨(some 19), (.mv (.t 1)), none⟩, ⟨(some 20), (.call 67 [.t 18, .t 19]), none⟩, ⟨(some 1), (.mv (.t 20)), none⟩] []) (.seq (.region [⟨(some 21), (.fld 8 (.t 2)), none⟩, ⟨(some 22), (.load 1 false (.t 21)), none⟩, ⟨(some 23), (.mv (.t 1)), none⟩, ⟨(some 24), (.call 15 [.t 22, .t 23]), none⟩, ⟨(some 1), (.mv (.t 24)), none⟩] []) (.seq (.region [⟨(some 25), (.fld 9 (.t 2)), none⟩, ⟨(some 26), (.load 1 false (.t 25)), none⟩, ⟨(some 27), (.mv (.t 1)), none⟩, ⟨(some 28), (.call 68 [.t 26, .t 27]), none⟩, ⟨(some 1), (.mv (.t 28)), none⟩] []) (.seq (.region [⟨(some 29), (.mv (.t 1)), none⟩, ⟨(some 4), (.mv (.t 29)), none⟩] []) .ret)))))))), [.t 4], [0], []⟩
def ir29 : IFun := ⟨(.seq (.region [⟨(some 1), (.box (.t 0)), none⟩, ⟨(some 2), (.alloc [int 0, .ls true []]), none⟩] []) (.seq (.region [⟨(some 4), (.bsl [str ⟨#[]⟩] 0 []), none⟩, ⟨(some 5), (.fld 9 (.t 1)), none⟩, ⟨(some 6), (.load 1 false (.t 5)), none⟩, ⟨(some 7), (.app 1 16 true (.t 4) (.t 6)), none⟩, ⟨(some 8), (.build [int 0, .ls true []] [(0, 1, .c (int 3)), (1, 1, .t 7)]), none⟩, ⟨(some 3), (.alloc [int 0, .ls true []]), none⟩, ⟨none, (.store 2 (.t 3) (.t 8)), none⟩] []) (.seq (.seq (.region [⟨(some 9), (.fld 10 (.t 1)), none⟩, ⟨(some 10), (.load 1 false (.t 9)), none⟩] []) (.cond (.t 10) (.region [⟨(some 11), (.fld 11 (.t 1)), none⟩, ⟨(some 12), (.load 1 false (.t 11)), none⟩, ⟨(some 13), (.fld 0 (.t 3)), none⟩, ⟨none, (.store 1 (.t 13) (.t 12)), none⟩] []) .skip)) (.seq (.region [⟨(some 14), (.load 2 true (.t 3)), none⟩, ⟨none, (.store 2 (.t 2) (.t 14)), none⟩] []) .ret)))), [.c 2 2 true], [], []⟩
def ir30 : IFun := ⟨(.seq (.region [⟨(some 1), (.box (.t 0)), none⟩, ⟨(some 2), (.alloc [int 0, .ls true []]), none⟩] []) (.seq (.region [⟨(some 4), (.fld 9 (.t 1)), none⟩, ⟨(some 5), (.load 1 false (.t 4)), none⟩, ⟨(some 6), (.app 1 16 true (.c (.ls true [])) (.t 5)), none⟩, ⟨(some 7), (.build [int 0, .ls true []] [(0, 1, .c (int 3)), (1, 1, .t 6)]), none⟩, ⟨(some 3), (.alloc [int 0, .ls true []]), none⟩, ⟨none, (.store 2 (.t 3) (.t 7)), none⟩] []) (.seq (.seq (.region [⟨(some 8), (.fld 10 (.t 1)), none⟩, ⟨(some 9), (.load 1 false (.t 8)), none⟩] []) (.cond (.t 9) (.region [⟨(some 10), (.fld 11 (.t 1)), none⟩, ⟨(some 11), (.load 1 false (.t 10)), none⟩, ⟨(some 12), (.fld 0 (.t 3)), none⟩, ⟨none, (.store 1 (.t 12) (.t 11)), none⟩] []) .skip)) (.seq (.region [⟨(some 13), (.load 2 true (.t 3)), none⟩, ⟨none, (.store 2 (.t 2) (.t 13)), none⟩] []) .ret)))), [.c 2 2 true], [], []⟩
def ir31 : IFun := ⟨(.seq (.region [⟨(some 2), (.box (.t 0)), none⟩, ⟨(some 3), (.box (.t 1)), none⟩, ⟨(some 4), (.mv (.c (bool false))), none⟩] []) (.seq (.seq (.region [⟨(some 5), (.fld 0 (.t 2)), none⟩, ⟨(some 6), (.load 1 false (.t 5)), none⟩, ⟨(some 7), (.fld 0 (.t 3)), none⟩, ⟨(some 8), (.load 1 false (.t 7)), none⟩, ⟨(some 9), (.bin .neq (.t 6) (.t 8)), none⟩] []) (.cond (.t 9) (.seq (.region [⟨(some 4), (.mv (.c (bool false))), none⟩] []) .ret) .skip)) (.seq (.seq (.region [⟨(some 10), (.fld 1 (.t 2)), none⟩, ⟨(some 11), (.load 1 false (.t 10)), none⟩, ⟨(some 12), (.fld 1 (.t 3)), none⟩, ⟨(some 13), (.load 1 false (.t 12)), none⟩, ⟨(some 14), (.call 64 [.t 11, .t 13]), none⟩, ⟨(some 15), (.un .not (.t 14)), none⟩] []) (.cond (.t 15) (.seq (.region [⟨(some 4), (.mv (.c (bool false))), none⟩] []) .ret) .skip)) (.seq (.region [⟨(some 4), (.mv (.c (bool true))), none⟩] []) .ret)))), [.t 4], [], []⟩
def ir32 : IFun := ⟨(.seq (.region [⟨(some 2), (.box (.t 0)), none⟩, ⟨(some 4), (.mv (.c (int 0))), none⟩] []) (.seq (.region [⟨(some 5), (.fld 1 (.t 2)), none⟩, ⟨(some 6), (.load 1 false (.t 5)), none⟩, ⟨(some 7), (.mv (.t 1)), none⟩, ⟨(some 8), (.call 68 [.t 6, .t 7]), none⟩, ⟨(some 1), (.mv (.t 8)), none⟩] []) (.seq (.region [⟨(some 9), (.mv (.t 1)), none⟩, ⟨(some 4), (.mv (.t 9)), none⟩] []) .ret))), [.t 4], [0], []⟩
def ir33 : IFun := ⟨(.seq (.region [⟨(some 2), (.box (.t 0)), none⟩, ⟨(some 4), (.mv (.c (int 0))), none⟩] []) (.seq (.region [⟨(some 5), (.fld 1 (.t 2)), none⟩, ⟨(some 6), (.load 1 false (.t 5)), none⟩, ⟨(some 7), (.mv (.t 1)), none⟩, ⟨(some 8), (.call 69 [.t 6, .t 7]), none⟩, ⟨(some 1), (.mv (.t 8)), none⟩] []) (.seq (.seq (.region [⟨(some 9), (.mv (.t 1)), none⟩, ⟨(some 10), (.bin .lss (.t 9) (.c (int 0))), none⟩] []) (.cond (.t 10) (.seq (.region [⟨(some 4), (.mv (.c (int (-1)))), none⟩] []) .ret) .skip)) (.seq (.region [⟨(some 11), (.mv (.t 1)), none⟩, ⟨(some 4), (.mv (.t 11)), none⟩] []) .ret)))), [.t 4], [], []⟩
def ir34 : IFun := ⟨(.seq (.region [⟨(some 4), (.mv (.c (int 0))), none⟩] []) (.seq (.region [⟨(some 5), (.mv (.t 1)), none⟩, ⟨(some 6), (.mv (.t 0)), none⟩, ⟨(some 7), (.len 0 (.t 6)), none⟩, ⟨(some 8), (.bin .sub (.t 5) (.t 7)), none⟩, ⟨(some 1), (.mv (.t 8)), none⟩] []) (.seq (.seq (.region [⟨(some 9), (.mv (.t 1)), none⟩, ⟨(some 10), (.bin .lss (.t 9) (.c (int 0))), none⟩] []) (.cond (.t 10) (.seq (.region [⟨(some 4), (.mv (.c (int (-1)))), none⟩] []) .ret) .skip)) (.seq (.region [⟨(some 11), (.mv (.t 1)), none⟩, ⟨(some 4), (.mv (.t 11)), none⟩] []) .ret)))), [.t 4], [], []⟩
def ir52 : IFun := ⟨(.seq (.region [⟨(some 2), (.box (.t 0)), none⟩, ⟨(some 4), (.mv (.c (int 0))), none⟩] []) (.seq (.region [⟨(some 5), (.fld 0 (.t 2)), none⟩, ⟨(some 6), (.load 1 false (.t 5)), none⟩, ⟨(some 7), (.mv (.t 1)), none⟩, ⟨(some 8), (.call 88 [.t 6, .t 7]), none⟩, ⟨(some 1), (.mv (.t 8)), none⟩] []) (.seq (.seq (.region [⟨(some 9), (.mv (.t 1)), none⟩, ⟨(some 10), (.bin .lss (.t 9) (.c (int 0))), none⟩] []) (.cond (.t 10) (.seq (.region [⟨(some 4), (.mv (.c (int (-1)))), none⟩] []) .ret) .skip)) (.seq (.region [⟨(some 11), (.fld 1 (.t 2)), none⟩, ⟨(some 12), (.load 1 false (.t 11)), none⟩, ⟨(some 13), (.mv (.t 1)), none⟩, ⟨(some 14), (.call 55 [.t 12, .t 13]), none⟩, ⟨(some 1), (.mv (.t 14)), none⟩] []) (.seq (.seq (.region [⟨(some 15), (.mv (.t 1)), none⟩, ⟨(some 16), (.bin .lss (.t 15) (.c (int 0))), none⟩] []) (.cond (.t 16) (.seq (.region [⟨(some 4), (.mv (.c (int (-1)))), none⟩] []) .ret) .skip)) (.seq (.region [⟨(some 17), (.mv (.t 1)), none⟩, ⟨(some 4), (.mv (.t 17)), none⟩] []) .ret)))))), [.t 4], [], []⟩
def ir53 : IFun := ⟨(.seq (.region [⟨(some 2), (.box (.t 0)), none⟩, ⟨(some 4), (.mv (.c (int 0))), none⟩] []) (.seq (.region [⟨(some 5), (.fld 1 (.t 2)), none⟩, ⟨(some 6), (.load 1 false (.t 5)), none⟩, ⟨(some 7), (.mv (.t 1)), none⟩, ⟨(some 8), (.call 34 [.t 6, .t 7]), none⟩, ⟨(some 1), (.mv (.t 8)), none⟩] []) (.seq (.seq (.region [⟨(some 9), (.mv (.t 1)), none⟩, ⟨(some 10), (.bin .lss (.t 9) (.c (int 0))), none⟩] []) (.cond (.t 10) (.seq (.region [⟨(some 4), (.mv (.c (int (-1)))), none⟩] []) .ret) .skip)) (.seq (.region [⟨(some 11), (.fld 2 (.t 2)), none⟩, ⟨(some 12), (.load 1 false (.t 11)), none⟩, ⟨(some 13), (.mv (.t 1)), none⟩, ⟨(some 14), (.call 34 [.t 12, .t 13]), none⟩, ⟨(some 1), (.mv (.t 14)), none⟩] []) (.seq (.seq (.region [⟨(some 15), (.mv (.t 1)), none⟩, ⟨(some 16), (.bin .lss (.t 15) (.c (int 0))), none⟩] []) (.cond (.t 16) (.seq (.region [⟨(some 4), (.mv (.c (int (-1)))), none⟩] []) .ret) .skip)) (.seq (.region [⟨(some 17), (.mv (.t 1)), none⟩, ⟨(some 4), (.mv (.t 17)), none⟩] []) .ret)))))), [.t 4], [], []⟩
def ir54 : IFun := ⟨(.seq (.region [⟨(some 4), (.mv (.c (int 0))), none⟩] []) (.seq (.region [⟨(some 5), (.mv (.t 1)), none⟩, ⟨(some 6), (.mv (.t 0)), none⟩, ⟨(some 7), (.len 0 (.t 6)), none⟩, ⟨(some 8), (.bin .sub (.t 5) (.t 7)), none⟩, ⟨(some 1), (.mv (.t 8)), none⟩] []) (.seq (.seq (.region [⟨(some 9), (.mv (.t 1)), none⟩, ⟨(some 10), (.bin .lss (.t 9) (.c (int 0))), none⟩] []) (.cond (.t 10) (.seq (.region [⟨(some 4), (.mv (.c (int (-1)))), none⟩] []) .ret) .skip)) (.seq (.region [⟨(some 11), (.mv (.t 1)), none⟩, ⟨(some 4), (.mv (.t 11)), none⟩] []) .ret)))), [.t 4], [], []⟩
def lp55_0 : IC := (.seq (.seq (.region [⟨(some 12), (.mv (.t 5)), none⟩, ⟨(some 13), (.mv (.t 0)), none⟩, ⟨(some 14), (.len 0 (.t 13)), none⟩, ⟨(some 15), (.bin .lss (.t 12) (.t 14)), none⟩] []) (.cond (.t 15) .skip (.exit 0))) (.seq (.block 1 (.seq (.region [⟨(some 18), (.mv (.t 1)), none⟩, ⟨(some 19), (.mv (.t 0)), none⟩, ⟨(some 20), (.mv (.t 5)), none⟩, ⟨(some 21), (.idx 1 (.t 19) (.t 20)), none⟩, ⟨(some 22), (.load 1 false (.t 21)), none⟩, ⟨(some 23), (.len 1 (.t 22)), none⟩, ⟨(some 24), (.bin .sub (.t 18) (.t 23)), none⟩, ⟨(some 1), (.mv (.t 24)), none⟩] []) (.seq (.region [⟨(some 25), (.mv (.t 1)), none⟩, ⟨(some 26), (.bin .lss (.t 25) (.c (int 0))), none⟩] []) (.cond (.t 26) (.seq (.region [⟨(some 4), (.mv (.c (int (-1)))), none⟩] []) .ret) .skip)))) (.region [⟨(some 16), (.mv (.t 5)), none⟩, ⟨(some 17), (.bin .add (.t 16) (.c (int 1))), none⟩, ⟨(some 5), (.mv (.t 17)), none⟩] [])))
def ir55 : IFun := ⟨(.seq (.region [⟨(some 4), (.mv (.c (int 0))), none⟩] []) (.seq (.region [⟨(some 6), (.mv (.t 1)), none⟩, ⟨(some 7), (.mv (.t 0)), none⟩, ⟨(some 8), (.len 0 (.t 7)), none⟩, ⟨(some 9), (.bin .sub (.t 6) (.t 8)), none⟩, ⟨(some 1), (.mv (.t 9)), none⟩] []) (.seq (.seq (.region [⟨(some 10), (.mv (.t 1)), none⟩, ⟨(some 11), (.bin .lss (.t 10) (.c (int 0))), none⟩] []) (.cond (.t 11) (.seq (.region [⟨(some 4), (.mv (.c (int (-1)))), none⟩] []) .ret) .skip)) (.seq (.seq (.region [⟨(some 5), (.mv (.c (int 0))), none⟩] []) (.block 0 (.loop lp55_0 [0, 1, 5] [1, 4]))) (.seq (.region [⟨(some 27), (.mv (.t 1)), none⟩, ⟨(some 4), (.mv (.t 27)), none⟩] []) .ret))))), [.t 4], [], []⟩
def ir56 : IFun := ⟨(.seq (.region [⟨(some 1), (.box (.t 0)), none⟩, ⟨(some 2), (.alloc [.ls true [], .ls true []]), none⟩] []) (.seq (.region [⟨(some 3), (.alloc [.ls true [], .ls true []]), none⟩] []) (.seq (.region [⟨(some 4), (.fld 0 (.t 1)), none⟩, ⟨(some 5), (.load 1 false (.t 4)), none⟩, ⟨(some 6), (.call 89 [.t 5]), none⟩, ⟨(some 7), (.fld 0 (.t 3)), none⟩, ⟨none, (.store 1 (.t 7) (.t 6)), none⟩] []) (.seq (.region [⟨(some 8), (.fld 1 (.t 1)), none⟩, ⟨(some 9), (.load 1 false (.t 8)), none⟩, ⟨(some 10), (.call 59 [.t 9]), none⟩, ⟨(some 11), (.fld 1 (.t 3)), none⟩, ⟨none, (.store 1 (.t 11) (.t 10)), none⟩] []) (.seq (.region [⟨(some 12), (.load 2 true (.t 3)), none⟩, ⟨none, (.store 2 (.t 2) (.t 12)), none⟩] []) .ret))))), [.c 2 2 true], [], []⟩
def ir57 : IFun := ⟨(.seq (.region [⟨(some 1), (.box (.t 0)), none⟩, ⟨(some 2), (.alloc [int 0, .ls true [], .ls true [], int 0]), none⟩] []) (.seq (.region [⟨(some 3), (.alloc [int 0, .ls true [], .ls true [], int 0]), none⟩] []) (.seq (.region [⟨(some 4), (.fld 0 (.t 1)), none⟩, ⟨(some 5), (.load 1 false (.t 4)), none⟩, ⟨(some 6), (.fld 0 (.t 3)), none⟩, ⟨none, (.store 1 (.t 6) (.t 5)), none⟩] []) (.seq (.region [⟨(some 7), (.fld 1 (.t 1)), none⟩, ⟨(some 8), (.load 1 false (.t 7)), none⟩, ⟨(some 9), (.call 20 [.t 8]), none⟩, ⟨(some 10), (.fld 1 (.t 3)), none⟩, ⟨none, (.store 1 (.t 10) (.t 9)), none⟩] []) (.seq (.region [⟨(some 11), (.fld 2 (.t 1)), none⟩, ⟨(some 12), (.load 1 false (.t 11)), none⟩, ⟨(some 13), (.call 20 [.t 12]), none⟩, ⟨(some 14), (.fld 2 (.t 3)), none⟩, ⟨none, (.store 1 (.t 14) (.t 13)), none⟩] []) (.seq (.region [⟨(some 15), (.fld 3 (.t 1)), none⟩, ⟨(some 16), (.load 1 false (.t 15)), none⟩, ⟨(some 17), (.fld 3 (.t 3)), none⟩, ⟨none, (.store 1 (.t 17) (.t 16)), none⟩] []) (.seq (.region [⟨(some 18), (.load 4 true (.t 3)), none⟩, ⟨none, (.store 4 (.t 2) (.t 18)), none⟩] []) .ret))))))), [.c 2 4 true], [], []⟩
def lp58_0 : IC := (.seq (.seq (.region [⟨(some 8), (.mv (.t 4)), none⟩, ⟨(some 9), (.mv (.t 0)), none⟩, ⟨(some 10), (.len 0 (.t 9)), none⟩, ⟨(some 11), (.bin .lss (.t 8) (.t 10)), none⟩] []) (.cond (.t 11) .skip (.exit 0))) (.seq (.block 1 (.region [⟨(some 14), (.mv (.t 3)), none⟩, ⟨(some 15), (.mv (.t 4)), none⟩, ⟨(some 16), (.mv (.t 0)), none⟩, ⟨(some 17), (.mv (.t 4)), none⟩, ⟨(some 18), (.idx 3 (.t 16) (.t 17)), none⟩, ⟨(some 19), (.load 3 true (.t 18)), none⟩, ⟨(some 20), (.call 90 [.t 19]), none⟩, ⟨(some 21), (.idx 3 (.t 14) (.t 15)), none⟩, ⟨none, (.store 3 (.t 21) (.t 20)), none⟩] [])) (.region [⟨(some 12), (.mv (.t 4)), none⟩, ⟨(some 13), (.bin .add (.t 12) (.c (int 1))), none⟩, ⟨(some 4), (.mv (.t 13)), none⟩] [])))
def ir58 : IFun := ⟨(.seq (.region [⟨(some 2), (.mv (.c (.ls true []))), none⟩] []) (.seq (.region [⟨(some 5), (.mv (.t 0)), none⟩, ⟨(some 6), (.len 0 (.t 5)), none⟩, ⟨(some 7), (.mksl [int 0, int 0, int 0] 24 (.t 6) (.t 6)), none⟩, ⟨(some 3), (.mv (.t 7)), none⟩] []) (.seq (.seq (.region [⟨(some 4), (.mv (.c (int 0))), none⟩] []) (.block 0 (.loop lp58_0 [0, 3, 4] [2, 3]))) (.seq (.region [⟨(some 22), (.mv (.t 3)), none⟩, ⟨(some 2), (.mv (.t 22)), none⟩] []) .ret)))), [.t 2], [], []⟩
def lp59_0 : IC := (.seq (.seq (.region [⟨(some 8), (.mv (.t 4)), none⟩, ⟨(some 9), (.mv (.t 0)), none⟩, ⟨(some 10), (.len 0 (.t 9)), none⟩, ⟨(some 11), (.bin .lss (.t 8) (.t 10)), none⟩] []) (.cond (.t 11) .skip (.exit 0))) (.seq (.block 1 (.region [⟨(some 14), (.mv (.t 3)), none⟩, ⟨(some 15), (.mv (.t 4)), none⟩, ⟨(some 16), (.mv (.t 0)), none⟩, ⟨(some 17), (.mv (.t 4)), none⟩, ⟨(some 18), (.idx 1 (.t 16) (.t 17)), none⟩, ⟨(some 19), (.load 1 false (.t 18)), none⟩, ⟨(some 20), (.idx 1 (.t 14) (.t 15)), none⟩, ⟨none, (.store 1 (.t 20) (.t 19)), none⟩] [])) (.region [⟨(some 12), (.mv (.t 4)), none⟩, ⟨(some 13), (.bin .add (.t 12) (.c (int 1))), none⟩, ⟨(some 4), (.mv (.t 13)), none⟩] [])))
def ir59 : IFun := ⟨(.seq (.region [⟨(some 2), (.mv (.c (.ls true []))), none⟩] []) (.seq (.region [⟨(some 5), (.mv (.t 0)), none⟩, ⟨(some 6), (.len 0 (.t 5)), none⟩, ⟨(some 7), (.mksl [str ⟨#[]⟩] 16 (.t 6) (.t 6)), none⟩, ⟨(some 3), (.mv (.t 7)), none⟩] []) (.seq (.seq (.region [⟨(some 4), (.mv (.c (int 0))), none⟩] []) (.block 0 (.loop lp59_0 [0, 3, 4] [2, 3]))) (.seq (.region [⟨(some 21), (.mv (.t 3)), none⟩, ⟨(some 2), (.mv (.t 21)), none⟩] []) .ret)))), [.t 2], [], []⟩
def ir60 : IFun := ⟨(.seq (.region [⟨(some 2), (.mv (.c (.ls true []))), none⟩] []) (.seq (.region [⟨(some 3), (.mv (.t 0)), none⟩, ⟨(some 4), (.app 1 8 false (.c (.ls true [])) (.t 3)), none⟩, ⟨(some 2), (.mv (.t 4)), none⟩] []) .ret)), [.t 2], [], []⟩
def ir61 : IFun := ⟨(.seq (.region [⟨(some 2), (.box (.t 0)), none⟩, ⟨(some 3), (.box (.t 1)), none⟩, ⟨(some 4), (.mv (.c (bool false))), none⟩] []) (.seq (.seq (.region [⟨(some 5), (.fld 0 (.t 2)), none⟩, ⟨(some 6), (.load 1 false (.t 5)), none⟩, ⟨(some 7), (.fld 0 (.t 3)), none⟩, ⟨(some 8), (.load 1 false (.t 7)), none⟩, ⟨(some 9), (.call 91 [.t 6, .t 8]), none⟩, ⟨(some 10), (.un .not (.t 9)), none⟩] []) (.cond (.t 10) (.seq (.region [⟨(some 4), (.mv (.c (bool false))), none⟩] []) .ret) .skip)) (.seq (.seq (.region [⟨(some 11), (.fld 1 (.t 2)), none⟩, ⟨(some 12), (.load 1 false (.t 11)), none⟩, ⟨(some 13), (.fld 1 (.t 3)), none⟩, ⟨(some 14), (.load 1 false (.t 13)), none⟩, ⟨(some 15), (.call 64 [.t 12, .t 14]), none⟩, ⟨(some 16), (.un .not (.t 15)), none⟩] []) (.cond (.t 16) (.seq (.region [⟨(some 4), (.mv (.c (bool false))), none⟩] []) .ret) .skip)) (.seq (.region [⟨(some 4), (.mv (.c (bool true))), none⟩] []) .ret)))), [.t 4], [], []⟩
def ir62 : IFun := ⟨(.seq (.region [⟨(some 2), (.box (.t 0)), none⟩, ⟨(some 3), (.box (.t 1)), none⟩, ⟨(some 4), (.mv (.c (bool false))), none⟩] []) (.seq (.seq (.region [⟨(some 5), (.fld 0 (.t 2)), none⟩, ⟨(some 6), (.load 1 false (.t 5)), none⟩, ⟨(some 7), (.fld 0 (.t 3)), none⟩, ⟨(some 8), (.load 1 false (.t 7)), none⟩, ⟨(some 9), (.bin .neq (.t 6) (.t 8)), none⟩] []) (.cond (.t 9) (.seq (.region [⟨(some 4), (.mv (.c (bool false))), none⟩] []) .ret) .skip)) (.seq (.seq (.region [⟨(some 10), (.fld 1 (.t 2)), none⟩, ⟨(some 11), (.load 1 false (.t 10)), none⟩, ⟨(some 12), (.fld 1 (.t 3)), none⟩, ⟨(some 13), (.load 1 false (.t 12)), none⟩, ⟨(some 14), (.call 12 [.t 11, .t 13]), none⟩, ⟨(some 15), (.un .not (.t 14)), none⟩] []) (.cond (.t 15) (.seq (.region [⟨(some 4), (.mv (.c (bool false))), none⟩] []) .ret) .skip)) (.seq (.seq (.region [⟨(some 16), (.fld 2 (.t 2)), none⟩, ⟨(some 17), (.load 1 false (.t 16)), none⟩, ⟨(some 18), (.fld 2 (.t 3)), none⟩, ⟨(some 19), (.load 1 false (.t 18)), none⟩, ⟨(some 20), (.call 12 [.t 17, .t 19]), none⟩, ⟨(some 21), (.un .not (.t 20)), none⟩] []) (.cond (.t 21) (.seq (.region [⟨(some 4), (.mv (.c (bool false))), none⟩] []) .ret) .skip)) (.seq (.seq (.region [⟨(some 22), (.fld 3 (.t 2)), none⟩, ⟨(some 23), (.load 1 false (.t 22)), none⟩, ⟨(some 24), (.fld 3 (.t 3)), none⟩, ⟨(some 25), (.load 1 false (.t 24)), none⟩, ⟨(some 26), (.bin .neq (.t 23) (.t 25)), none⟩] []) (.cond (.t 26) (.seq (.region [⟨(some 4), (.mv (.c (bool false))), none⟩] []) .ret) .skip)) (.seq (.region [⟨(some 4), (.mv (.c (bool true))), none⟩] []) .ret)))))), [.t 4], [], []⟩
def lp63_0 : IC := (.seq (.seq (.region [⟨(some 11), (.mv (.t 5)), none⟩, ⟨(some 12), (.mv (.t 0)), none⟩, ⟨(some 13), (.len 0 (.t 12)), none⟩, ⟨(some 14), (.bin .lss (.t 11) (.t 13)), none⟩] []) (.cond (.t 14) .skip (.exit 0))) (.seq (.block 1 (.seq (.region [⟨(some 17), (.mv (.t 0)), none⟩, ⟨(some 18), (.mv (.t 5)), none⟩, ⟨(some 19), (.idx 3 (.t 17) (.t 18)), none⟩, ⟨(some 20), (.load 3 true (.t 19)), none⟩, ⟨(some 21), (.mv (.t 1)), none⟩, ⟨(some 22), (.mv (.t 5)), none⟩, ⟨(some 23), (.idx 3 (.t 21) (.t 22)), none⟩, ⟨(some 24), (.load 3 true (.t 23)), none⟩, ⟨(some 25), (.call 92 [.t 20, .t 24]), none⟩, ⟨(some 26), (.un .not (.t 25)), none⟩] [(0, 1), (0, 4), (1, 4), (2, 4), (3, 4), (0, 5), (1, 5), (2, 5), (3, 5), (4, 5), (0, 6), (1, 6), (2, 6), (3, 6), (0, 7), (1, 7), (2, 7), (3, 7)]) (.cond (.t 26) (.seq (.region [⟨(some 4), (.mv (.c (bool false))), none⟩] []) .ret) .skip))) (.region [⟨(some 15), (.mv (.t 5)), none⟩, ⟨(some 16), (.bin .add (.t 15) (.c (int 1))), none⟩, ⟨(some 5), (.mv (.t 16)), none⟩] [])))
def ir63 : IFun := ⟨(.seq (.region [⟨(some 4), (.mv (.c (bool false))), none⟩] []) (.seq (.seq (.region [⟨(some 6), (.mv (.t 0)), none⟩, ⟨(some 7), (.len 0 (.t 6)), none⟩, ⟨(some 8), (.mv (.t 1)), none⟩, ⟨(some 9), (.len 0 (.t 8)), none⟩, ⟨(some 10), (.bin .neq (.t 7) (.t 9)), none⟩] []) (.cond (.t 10) (.seq (.region [⟨(some 4), (.mv (.c (bool false))), none⟩] []) .ret) .skip)) (.seq (.seq (.region [⟨(some 5), (.mv (.c (int 0))), none⟩] []) (.block 0 (.loop lp63_0 [0, 1, 5] [4]))) (.seq (.region [⟨(some 4), (.mv (.c (bool true))), none⟩] []) .ret)))), [.t 4], [], []⟩
def lp64_0 : IC := (.seq (.seq (.region [⟨(some 11), (.mv (.t 5)), none⟩, ⟨(some 12), (.mv (.t 0)), none⟩, ⟨(some 13), (.len 0 (.t 12)), none⟩, ⟨(some 14), (.bin .lss (.t 11) (.t 13)), none⟩] []) (.cond (.t 14) .skip (.exit 0))) (.seq (.block 1 (.seq (.region [⟨(some 17), (.mv (.t 0)), none⟩, ⟨(some 18), (.mv (.t 5)), none⟩, ⟨(some 19), (.idx 1 (.t 17) (.t 18)), none⟩, ⟨(some 20), (.load 1 false (.t 19)), none⟩, ⟨(some 21), (.mv (.t 1)), none⟩, ⟨(some 22), (.mv (.t 5)), none⟩, ⟨(some 23), (.idx 1 (.t 21) (.t 22)), none⟩, ⟨(some 24), (.load 1 false (.t 23)), none⟩, ⟨(some 25), (.bin .neq (.t 20) (.t 24)), none⟩] [(0, 1), (0, 4), (1, 4), (2, 4), (3, 4), (0, 5), (1, 5), (2, 5), (3, 5), (4, 5), (0, 6), (1, 6), (2, 6), (3, 6), (0, 7), (1, 7), (2, 7), (3, 7)]) (.cond (.t 25) (.seq (.region [⟨(some 4), (.mv (.c (bool false))), none⟩] []) .ret) .skip))) (.region [⟨(some 15), (.mv (.t 5)), none⟩, ⟨(some 16), (.bin .add (.t 15) (.c (int 1))), none⟩, ⟨(some 5), (.mv (.t 16)), none⟩] [])))
def ir64 : IFun := ⟨(.seq (.region [⟨(some 4), (.mv (.c (bool false))), none⟩] []) (.seq (.seq (.region [⟨(some 6), (.mv (.t 0)), none⟩, ⟨(some 7), (.len 0 (.t 6)), none⟩, ⟨(some 8), (.mv (.t 1)), none⟩, ⟨(some 9), (.len 0 (.t 8)), none⟩, ⟨(some 10), (.bin .neq (.t 7) (.t 9)), none⟩] []) (.cond (.t 10) (.seq (.region [⟨(some 4), (.mv (.c (bool false))), none⟩] []) .ret) .skip)) (.seq (.seq (.region [⟨(some 5), (.mv (.c (int 0))), none⟩] []) (.block 0 (.loop lp64_0 [0, 1, 5] [4]))) (.seq (.region [⟨(some 4), (.mv (.c (bool true))), none⟩] []) .ret)))), [.t 4], [], []⟩
def ir65 : IFun := ⟨(.seq (.region [⟨(some 2), (.box (.t 0)), none⟩, ⟨(some 4), (.mv (.c (int 0))), none⟩] []) (.seq (.region [⟨(some 5), (.fld 0 (.t 2)), none⟩, ⟨(some 6), (.load 1 false (.t 5)), none⟩, ⟨(some 7), (.mv (.t 1)), none⟩, ⟨(some 8), (.call 93 [.t 6, .t 7]), none⟩, ⟨(some 1), (.mv (.t 8)), none⟩] []) (.seq (.region [⟨(some 9), (.fld 1 (.t 2)), none⟩, ⟨(some 10), (.load 1 false (.t 9)), none⟩, ⟨(some 11), (.mv (.t 1)), none⟩, ⟨(some 12), (.call 68 [.t 10, .t 11]), none⟩, ⟨(some 1), (.mv (.t 12)), none⟩] []) (.seq (.region [⟨(some 13), (.mv (.t 1)), none⟩, ⟨(some 4), (.mv (.t 13)), none⟩] []) .ret)))), [.t 4], [0], []⟩
def ir66 : IFun := ⟨(.seq (.region [⟨(some 2), (.box (.t 0)), none⟩, ⟨(some 4), (.mv (.c (int 0))), none⟩] []) (.seq (.region [⟨(some 5), (.fld 1 (.t 2)), none⟩, ⟨(some 6), (.load 1 false (.t 5)), none⟩, ⟨(some 7), (.mv (.t 1)), none⟩, ⟨(some 8), (.call 15 [.t 6, .t 7]), none⟩, ⟨(some 1), (.mv (.t 8)), none⟩] []) (.seq (.region [⟨(some 9), (.fld 2 (.t 2)), none⟩, ⟨(some 10), (.load 1 false (.t 9)), none⟩, ⟨(some 11), (.mv (.t 1)), none⟩, ⟨(some 12), (.call 15 [.t 10, .t 11]), none⟩, ⟨(some 1), (.mv (.t 12)), none⟩] []) (.seq (.region [⟨(some 13), (.mv (.t 1)), none⟩, ⟨(some 4), (.mv (.t 13)), none⟩] []) .ret)))), [.t 4], [0], []⟩
def lp67_0 : IC := (.seq (.seq (.region [⟨(some 6), (.mv (.t 5)), none⟩, ⟨(some 7), (.mv (.t 0)), none⟩, ⟨(some 8), (.len 0 (.t 7)), none⟩, ⟨(some 9), (.bin .lss (.t 6) (.t 8)), none⟩] []) (.cond (.t 9) .skip (.exit 0))) (.seq (.block 1 (.seq (.region [⟨(some 12), (.mv (.t 0)), none⟩, ⟨(some 13), (.mv (.t 5)), none⟩, ⟨(some 14), (.mv (.t 1)), none⟩, ⟨(some 15), (.idx 3 (.t 12) (.t 13)), none⟩, ⟨(some 16), (.fld 0 (.t 15)), none⟩, ⟨none, (.store 1 (.t 16) (.t 14)), none⟩] []) (.seq (.region [⟨(some 17), (.mv (.t 1)), none⟩, ⟨(some 18), (.bin .add (.t 17) (.c (int 1))), none⟩, ⟨(some 1), (.mv (.t 18)), none⟩] []) (.seq (.region [⟨(some 19), (.mv (.t 0)), none⟩, ⟨(some 20), (.mv (.t 5)), none⟩, ⟨(some 21), (.mv (.t 1)), none⟩, ⟨(some 22), (.idx 3 (.t 19) (.t 20)), none⟩, ⟨(some 23), (.fld 1 (.t 22)), none⟩, ⟨none, (.store 1 (.t 23) (.t 21)), none⟩] []) (.seq (.region [⟨(some 24), (.mv (.t 1)), none⟩, ⟨(some 25), (.bin .add (.t 24) (.c (int 1))), none⟩, ⟨(some 1), (.mv (.t 25)), none⟩] []) (.seq (.region [⟨(some 26), (.mv (.t 0)), none⟩, ⟨(some 27), (.mv (.t 5)), none⟩, ⟨(some 28), (.mv (.t 1)), none⟩, ⟨(some 29), (.idx 3 (.t 26) (.t 27)), none⟩, ⟨(some 30), (.fld 2 (.t 29)), none⟩, ⟨none, (.store 1 (.t 30) (.t 28)), none⟩] []) (.region [⟨(some 31), (.mv (.t 1)), none⟩, ⟨(some 32), (.bin .add (.t 31) (.c (int 1))), none⟩, ⟨(some 1), (.mv (.t 32)), none⟩] []))))))) (.region [⟨(some 10), (.mv (.t 5)), none⟩, ⟨(some 11), (.bin .add (.t 10) (.c (int 1))), none⟩, ⟨(some 5), (.mv (.t 11)), none⟩] [])))
def ir67 : IFun := ⟨(.seq (.region [⟨(some 4), (.mv (.c (int 0))), none⟩] []) (.seq (.seq (.region [⟨(some 5), (.mv (.c (int 0))), none⟩] []) (.block 0 (.loop lp67_0 [0, 1, 5] [0, 1, 4]))) (.seq (.region [⟨(some 33), (.mv (.t 1)), none⟩, ⟨(some 4), (.mv (.t 33)), none⟩] []) .ret))), [.t 4], [0], []⟩
def lp68_0 : IC := (.seq (.seq (.region [⟨(some 6), (.mv (.t 5)), none⟩, ⟨(some 7), (.mv (.t 0)), none⟩, ⟨(some 8), (.len 0 (.t 7)), none⟩, ⟨(some 9), (.bin .lss (.t 6) (.t 8)), none⟩] []) (.cond (.t 9) .skip (.exit 0))) (.seq (.block 1 (.seq (.region [⟨(some 12), (.mv (.t 0)), none⟩, ⟨(some 13), (.mv (.t 5)), none⟩, ⟨(some 14), (.mv (.t 1)), none⟩, ⟨(some 15), (.call 94 [.t 14]), none⟩, ⟨(some 16), (.idx 1 (.t 12) (.t 13)), none⟩, ⟨none, (.store 1 (.t 16) (.t 15)), none⟩] []) (.region [⟨(some 17), (.mv (.t 1)), none⟩, ⟨(some 18), (.bin .add (.t 17) (.c (int 1))), none⟩, ⟨(some 1), (.mv (.t 18)), none⟩] []))) (.region [⟨(some 10), (.mv (.t 5)), none⟩, ⟨(some 11), (.bin .add (.t 10) (.c (int 1))), none⟩, ⟨(some 5), (.mv (.t 11)), none⟩] [])))
def ir68 : IFun := ⟨(.seq (.region [⟨(some 4), (.mv (.c (int 0))), none⟩] []) (.seq (.seq (.region [⟨(some 5), (.mv (.c (int 0))), none⟩] []) (.block 0 (.loop lp68_0 [0, 1, 5] [0, 1, 4]))) (.seq (.region [⟨(some 19), (.mv (.t 1)), none⟩, ⟨(some 4), (.mv (.t 19)), none⟩] []) .ret))), [.t 4], [0], []⟩
def lp69_0 : IC := (.seq (.seq (.region [⟨(some 6), (.mv (.t 5)), none⟩, ⟨(some 7), (.mv (.t 0)), none⟩, ⟨(some 8), (.len 0 (.t 7)), none⟩, ⟨(some 9), (.bin .lss (.t 6) (.t 8)), none⟩] []) (.cond (.t 9) .skip (.exit 0))) (.seq (.block 1 (.seq (.seq (.region [⟨(some 12), (.mv (.t 0)), none⟩, ⟨(some 13), (.mv (.t 5)), none⟩, ⟨(some 14), (.idx 1 (.t 12) (.t 13)), none⟩, ⟨(some 15), (.load 1 false (.t 14)), none⟩, ⟨(some 16), (.mv (.t 1)), none⟩, ⟨(some 17), (.call 94 [.t 16]), none⟩, ⟨(some 18), (.bin .neq (.t 15) (.t 17)), none⟩] [(0, 1), (0, 4), (1, 4), (2, 4), (3, 4), (0, 5), (1, 5), (2, 5), (3, 5)]) (.cond (.t 18) (.seq (.region [⟨(some 4), (.mv (.c (int (-1)))), none⟩] []) .ret) .skip)) (.region [⟨(some 19), (.mv (.t 1)), none⟩, ⟨(some 20), (.bin .add (.t 19) (.c (int 1))), none⟩, ⟨(some 1), (.mv (.t 20)), none⟩] []))) (.region [⟨(some 10), (.mv (.t 5)), none⟩, ⟨(some 11), (.bin .add (.t 10) (.c (int 1))), none⟩, ⟨(some 5), (.mv (.t 11)), none⟩] [])))
def ir69 : IFun := ⟨(.seq (.region [⟨(some 4), (.mv (.c (int 0))), none⟩] []) (.seq (.seq (.region [⟨(some 5), (.mv (.c (int 0))), none⟩] []) (.block 0 (.loop lp69_0 [0, 1, 5] [1, 4]))) (.seq (.region [⟨(some 21), (.mv (.t 1)), none⟩, ⟨(some 4), (.mv (.t 21)), none⟩] []) .ret))), [.t 4], [], []⟩
def lp88_0 : IC := (.seq (.seq (.region [⟨(some 12), (.mv (.t 5)), none⟩, ⟨(some 13), (.mv (.t 0)), none⟩, ⟨(some 14), (.len 0 (.t 13)), none⟩, ⟨(some 15), (.bin .lss (.t 12) (.t 14)), none⟩] []) (.cond (.t 15) .skip (.exit 0))) (.seq (.block 1 (.seq (.region [⟨(some 18), (.mv (.t 0)), none⟩, ⟨(some 19), (.mv (.t 5)), none⟩, ⟨(some 20), (.idx 3 (.t 18) (.t 19)), none⟩, ⟨(some 21), (.load 3 true (.t 20)), none⟩, ⟨(some 22), (.mv (.t 1)), none⟩, ⟨(some 23), (.call 109 [.t 21, .t 22]), none⟩, ⟨(some 1), (.mv (.t 23)), none⟩] []) (.seq (.region [⟨(some 24), (.mv (.t 1)), none⟩, ⟨(some 25), (.bin .lss (.t 24) (.c (int 0))), none⟩] []) (.cond (.t 25) (.seq (.region [⟨(some 4), (.mv (.c (int (-1)))), none⟩] []) .ret) .skip)))) (.region [⟨(some 16), (.mv (.t 5)), none⟩, ⟨(some 17), (.bin .add (.t 16) (.c (int 1))), none⟩, ⟨(some 5), (.mv (.t 17)), none⟩] [])))
def ir88 : IFun := ⟨(.seq (.region [⟨(some 4), (.mv (.c (int 0))), none⟩] []) (.seq (.region [⟨(some 6), (.mv (.t 1)), none⟩, ⟨(some 7), (.mv (.t 0)), none⟩, ⟨(some 8), (.len 0 (.t 7)), none⟩, ⟨(some 9), (.bin .sub (.t 6) (.t 8)), none⟩, ⟨(some 1), (.mv (.t 9)), none⟩] []) (.seq (.seq (.region [⟨(some 10), (.mv (.t 1)), none⟩, ⟨(some 11), (.bin .lss (.t 10) (.c (int 0))), none⟩] []) (.cond (.t 11) (.seq (.region [⟨(some 4), (.mv (.c (int (-1)))), none⟩] []) .ret) .skip)) (.seq (.seq (.region [⟨(some 5), (.mv (.c (int 0))), none⟩] []) (.block 0 (.loop lp88_0 [0, 1, 5] [1, 4]))) (.seq (.region [⟨(some 26), (.mv (.t 1)), none⟩, ⟨(some 4), (.mv (.t 26)), none⟩] []) .ret))))), [.t 4], [], []⟩
def lp89_0 : IC := (.seq (.seq (.region [⟨(some 8), (.mv (.t 4)), none⟩, ⟨(some 9), (.mv (.t 0)), none⟩, ⟨(some 10), (.len 0 (.t 9)), none⟩, ⟨(some 11), (.bin .lss (.t 8) (.t 10)), none⟩] []) (.cond (.t 11) .skip (.exit 0))) (.seq (.block 1 (.region [⟨(some 14), (.mv (.t 3)), none⟩, ⟨(some 15), (.mv (.t 4)), none⟩, ⟨(some 16), (.mv (.t 0)), none⟩, ⟨(some 17), (.mv (.t 4)), none⟩, ⟨(some 18), (.idx 3 (.t 16) (.t 17)), none⟩, ⟨(some 19), (.load 3 true (.t 18)), none⟩, ⟨(some 20), (.call 110 [.t 19]), none⟩, ⟨(some 21), (.idx 3 (.t 14) (.t 15)), none⟩, ⟨none, (.store 3 (.t 21) (.t 20)), none⟩] [])) (.region [⟨(some 12), (.mv (.t 4)), none⟩, ⟨(some 13), (.bin .add (.t 12) (.c (int 1))), none⟩, ⟨(some 4), (.mv (.t 13)), none⟩] [])))
def ir89 : IFun := ⟨(.seq (.region [⟨(some 2), (.mv (.c (.ls true []))), none⟩] []) (.seq (.region [⟨(some 5), (.mv (.t 0)), none⟩, ⟨(some 6), (.len 0 (.t 5)), none⟩, ⟨(some 7), (.mksl [int 0, int 0, .ls true []] 40 (.t 6) (.t 6)), none⟩, ⟨(some 3), (.mv (.t 7)), none⟩] []) (.seq (.seq (.region [⟨(some 4), (.mv (.c (int 0))), none⟩] []) (.block 0 (.loop lp89_0 [0, 3, 4] [2, 3]))) (.seq (.region [⟨(some 22), (.mv (.t 3)), none⟩, ⟨(some 2), (.mv (.t 22)), none⟩] []) .ret)))), [.t 2], [], []⟩
def ir90 : IFun := ⟨(.seq (.region [⟨(some 1), (.box (.t 0)), none⟩, ⟨(some 2), (.alloc [int 0, int 0, int 0]), none⟩] []) (.seq (.region [⟨(some 3), (.alloc [int 0, int 0, int 0]), none⟩] []) (.seq (.region [⟨(some 4), (.fld 0 (.t 1)), none⟩, ⟨(some 5), (.load 1 false (.t 4)), none⟩, ⟨(some 6), (.fld 0 (.t 3)), none⟩, ⟨none, (.store 1 (.t 6) (.t 5)), none⟩] []) (.seq (.region [⟨(some 7), (.fld 1 (.t 1)), none⟩, ⟨(some 8), (.load 1 false (.t 7)), none⟩, ⟨(some 9), (.fld 1 (.t 3)), none⟩, ⟨none, (.store 1 (.t 9) (.t 8)), none⟩] []) (.seq (.region [⟨(some 10), (.fld 2 (.t 1)), none⟩, ⟨(some 11), (.load 1 false (.t 10)), none⟩, ⟨(some 12), (.fld 2 (.t 3)), none⟩, ⟨none, (.store 1 (.t 12) (.t 11)), none⟩] []) (.seq (.region [⟨(some 13), (.load 3 true (.t 3)), none⟩, ⟨none, (.store 3 (.t 2) (.t 13)), none⟩] []) .ret)))))), [.c 2 3 true], [], []⟩
def lp91_0 : IC := (.seq (.seq (.region [⟨(some 11), (.mv (.t 5)), none⟩, ⟨(some 12), (.mv (.t 0)), none⟩, ⟨(some 13), (.len 0 (.t 12)), none⟩, ⟨(some 14), (.bin .lss (.t 11) (.t 13)), none⟩] []) (.cond (.t 14) .skip (.exit 0))) (.seq (.block 1 (.seq (.region [⟨(some 17), (.mv (.t 0)), none⟩, ⟨(some 18), (.mv (.t 5)), none⟩, ⟨(some 19), (.idx 3 (.t 17) (.t 18)), none⟩, ⟨(some 20), (.load 3 true (.t 19)), none⟩, ⟨(some 21), (.mv (.t 1)), none⟩, ⟨(some 22), (.mv (.t 5)), none⟩, ⟨(some 23), (.idx 3 (.t 21) (.t 22)), none⟩, ⟨(some 24), (.load 3 true (.t 23)), none⟩, ⟨(some 25), (.call 111 [.t 20, .t 24]), none⟩, ⟨(some 26), (.un .not (.t 25)), none⟩] [(0, 1), (0, 4), (1, 4), (2, 4), (3, 4), (0, 5), (1, 5), (2, 5), (3, 5), (4, 5), (0, 6), (1, 6), (2, 6), (3, 6), (0, 7), (1, 7), (2, 7), (3, 7)]) (.cond (.t 26) (.seq (.region [⟨(some 4), (.mv (.c (bool false))), none⟩] []) .ret) .skip))) (.region [⟨(some 15), (.mv (.t 5)), none⟩, ⟨(some 16), (.bin .add (.t 15) (.c (int 1))), none⟩, ⟨(some 5), (.mv (.t 16)), none⟩] [])))
def ir91 : IFun := ⟨(.seq (.region [⟨(some 4), (.mv (.c (bool false))), none⟩] []) (.seq (.seq (.region [⟨(some 6), (.mv (.t 0)), none⟩, ⟨(some 7), (.len 0 (.t 6)), none⟩, ⟨(some 8), (.mv (.t 1)), none⟩, ⟨(some 9), (.len 0 (.t 8)), none⟩, ⟨(some 10), (.bin .neq (.t 7) (.t 9)), none⟩] []) (.cond (.t 10) (.seq (.region [⟨(some 4), (.mv (.c (bool false))), none⟩] []) .ret) .skip)) (.seq (.seq (.region [⟨(some 5), (.mv (.c (int 0))), none⟩] []) (.block 0 (.loop lp91_0 [0, 1, 5] [4]))) (.seq (.region [⟨(some 4), (.mv (.c (bool true))), none⟩] []) .ret)))), [.t 4], [], []⟩
def ir92 : IFun := ⟨(.seq (.region [⟨(some 2), (.box (.t 0)), none⟩, ⟨(some 3), (.box (.t 1)), none⟩, ⟨(some 4), (.mv (.c (bool false))), none⟩] []) (.seq (.seq (.region [⟨(some 5), (.fld 0 (.t 2)), none⟩, ⟨(some 6), (.load 1 false (.t 5)), none⟩, ⟨(some 7), (.fld 0 (.t 3)), none⟩, ⟨(some 8), (.load 1 false (.t 7)), none⟩, ⟨(some 9), (.bin .neq (.t 6) (.t 8)), none⟩] []) (.cond (.t 9) (.seq (.region [⟨(some 4), (.mv (.c (bool false))), none⟩] []) .ret) .skip)) (.seq (.seq (.region [⟨(some 10), (.fld 1 (.t 2)), none⟩, ⟨(some 11), (.load 1 false (.t 10)), none⟩, ⟨(some 12), (.fld 1 (.t 3)), none⟩, ⟨(some 13), (.load 1 false (.t 12)), none⟩, ⟨(some 14), (.bin .neq (.t 11) (.t 13)), none⟩] []) (.cond (.t 14) (.seq (.region [⟨(some 4), (.mv (.c (bool false))), none⟩] []) .ret) .skip)) (.seq (.seq (.region [⟨(some 15), (.fld 2 (.t 2)), none⟩, ⟨(some 16), (.load 1 false (.t 15)), none⟩, ⟨(some 17), (.fld 2 (.t 3)), none⟩, ⟨(some 18), (.load 1 false (.t 17)), none⟩, ⟨(some 19), (.bin .neq (.t 16) (.t 18)), none⟩] []) (.cond (.t 19) (.seq (.region [⟨(some 4), (.mv (.c (bool false))), none⟩] []) .ret) .skip)) (.seq (.region [⟨(some 4), (.mv (.c (bool true))), none⟩] []) .ret))))), [.t 4], [], []⟩
def lp93_0 : IC := (.seq (.seq (.region [⟨(some 6), (.mv (.t 5)), none⟩, ⟨(some 7), (.mv (.t 0)), none⟩, ⟨(some 8), (.len 0 (.t 7)), none⟩, ⟨(some 9), (.bin .lss (.t 6) (.t 8)), none⟩] []) (.cond (.t 9) .skip (.exit 0))) (.seq (.block 1 (.seq (.region [⟨(some 12), (.mv (.t 0)), none⟩, ⟨(some 13), (.mv (.t 5)), none⟩, ⟨(some 14), (.mv (.t 1)), none⟩, ⟨(some 15), (.idx 3 (.t 12) (.t 13)), none⟩, ⟨(some 16), (.fld 0 (.t 15)), none⟩, ⟨none, (.store 1 (.t 16) (.t 14)), none⟩] []) (.seq (.region [⟨(some 17), (.mv (.t 1)), none⟩, ⟨(some 18), (.bin .add (.t 17) (.c (int 1))), none⟩, ⟨(some 1), (.mv (.t 18)), none⟩] []) (.seq (.region [⟨(some 19), (.mv (.t 0)), none⟩, ⟨(some 20), (.mv (.t 5)), none⟩, ⟨(some 21), (.mv (.t 1)), none⟩, ⟨(some 22), (.idx 3 (.t 19) (.t 20)), none⟩, ⟨(some 23), (.fld 1 (.t 22)), none⟩, ⟨none, (.store 1 (.t 23) (.t 21)), none⟩] []) (.seq (.region [⟨(some 24), (.mv (.t 1)), none⟩, ⟨(some 25), (.bin .add (.t 24) (.c (int 1))), none⟩, ⟨(some 1), (.mv (.t 25)), none⟩] []) (.region [⟨(some 26), (.mv (.t 0)), none⟩, ⟨(some 27), (.mv (.t 5)), none⟩, ⟨(some 28), (.idx 3 (.t 26) (.t 27)), none⟩, ⟨(some 29), (.fld 2 (.t 28)), none⟩, ⟨(some 30), (.take 1 false (.t 29)), none⟩, ⟨(some 31), (.mv (.t 1)), none⟩, ⟨(some 32), (.call 112 [.t 30, .t 31]), none⟩, ⟨(some 1), (.mv (.t 32)), none⟩] [])))))) (.region [⟨(some 10), (.mv (.t 5)), none⟩, ⟨(some 11), (.bin .add (.t 10) (.c (int 1))), none⟩, ⟨(some 5), (.mv (.t 11)), none⟩] [])))
def ir93 : IFun := ⟨(.seq (.region [⟨(some 4), (.mv (.c (int 0))), none⟩] []) (.seq (.seq (.region [⟨(some 5), (.mv (.c (int 0))), none⟩] []) (.block 0 (.loop lp93_0 [0, 1, 5] [0, 1, 4]))) (.seq (.region [⟨(some 33), (.mv (.t 1)), none⟩, ⟨(some 4), (.mv (.t 33)), none⟩] []) .ret))), [.t 4], [0], [30]⟩
def lp94_0 : IC := (.seq (.seq (.region [⟨(some 6), (.mv (.t 0)), none⟩, ⟨(some 7), (.bin .gtr (.t 6) (.c (int 0))), none⟩] []) (.cond (.t 7) .skip (.exit 0))) (.block 1 (.seq (.region [⟨(some 8), (.mv (.t 0)), none⟩, ⟨(some 9), (.bin .rem (.t 8) (.c (int 10))), none⟩, ⟨(some 10), (.bin .add (.c (int 48)) (.t 9)), none⟩, ⟨(some 11), (.conv .u8 (.t 10)), none⟩, ⟨(some 12), (.bsl [intK .u8 0] 1 [(0, .t 11)]), none⟩, ⟨(some 13), (.b2s (.t 12)), none⟩, ⟨(some 14), (.mv (.t 3)), none⟩, ⟨(some 15), (.bin .add (.t 13) (.t 14)), none⟩, ⟨(some 3), (.mv (.t 15)), none⟩] []) (.region [⟨(some 16), (.mv (.t 0)), none⟩, ⟨(some 17), (.bin .quo (.t 16) (.c (int 10))), none⟩, ⟨(some 0), (.mv (.t 17)), none⟩] []))))
def ir94 : IFun := ⟨(.seq (.region [⟨(some 2), (.mv (.c (str ⟨#[]⟩))), none⟩] []) (.seq (.seq (.region [⟨(some 4), (.mv (.t 0)), none⟩, ⟨(some 5), (.bin .leq (.t 4) (.c (int 0))), none⟩] []) (.cond (.t 5) (.seq (.region [⟨(some 2), (.mv (.c (str ⟨#[109, 48]⟩))), none⟩] []) .ret) .skip)) (.seq (.region [⟨(some 3), (.mv (.c (str ⟨#[]⟩))), none⟩] []) (.seq (.block 0 (.loop lp94_0 [0, 3] [2, 3])) (.seq (.region [⟨(some 18), (.mv (.t 3)), none⟩, ⟨(some 19), (.bin .add (.c (str ⟨#[109]⟩)) (.t 18)), none⟩, ⟨(some 2), (.mv (.t 19)), none⟩] []) .ret))))), [.t 2], [], []⟩
def ir109 : IFun := ⟨(.seq (.region [⟨(some 2), (.box (.t 0)), none⟩, ⟨(some 4), (.mv (.c (int 0))), none⟩] []) (.seq (.region [⟨(some 5), (.fld 2 (.t 2)), none⟩, ⟨(some 6), (.load 1 false (.t 5)), none⟩, ⟨(some 7), (.mv (.t 1)), none⟩, ⟨(some 8), (.call 114 [.t 6, .t 7]), none⟩, ⟨(some 1), (.mv (.t 8)), none⟩] []) (.seq (.seq (.region [⟨(some 9), (.mv (.t 1)), none⟩, ⟨(some 10), (.bin .lss (.t 9) (.c (int 0))), none⟩] []) (.cond (.t 10) (.seq (.region [⟨(some 4), (.mv (.c (int (-1)))), none⟩] []) .ret) .skip)) (.seq (.region [⟨(some 11), (.mv (.t 1)), none⟩, ⟨(some 4), (.mv (.t 11)), none⟩] []) .ret)))), [.t 4], [], []⟩
def ir110 : IFun := ⟨(.seq (.region [⟨(some 1), (.box (.t 0)), none⟩, ⟨(some 2), (.alloc [int 0, int 0, .ls true []]), none⟩] []) (.seq (.region [⟨(some 3), (.alloc [int 0, int 0, .ls true []]), none⟩] []) (.seq (.region [⟨(some 4), (.fld 0 (.t 1)), none⟩, ⟨(some 5), (.load 1 false (.t 4)), none⟩, ⟨(some 6), (.fld 0 (.t 3)), none⟩, ⟨none, (.store 1 (.t 6) (.t 5)), none⟩] []) (.seq (.region [⟨(some 7), (.fld 1 (.t 1)), none⟩, ⟨(some 8), (.load 1 false (.t 7)), none⟩, ⟨(some 9), (.fld 1 (.t 3)), none⟩, ⟨none, (.store 1 (.t 9) (.t 8)), none⟩] []) (.seq (.region [⟨(some 10), (.fld 2 (.t 1)), none⟩, ⟨(some 11), (.load 1 false (.t 10)), none⟩, ⟨(some 12), (.call 115 [.t 11]), none⟩, ⟨(some 13), (.fld 2 (.t 3)), none⟩, ⟨none, (.store 1 (.t 13) (.t 12)), none⟩] []) (.seq (.region [⟨(some 14), (.load 3 true (.t 3)), none⟩, ⟨none, (.store 3 (.t 2) (.t 14)), none⟩] []) .ret)))))), [.c 2 3 true], [], []⟩
def ir111 : IFun := ⟨(.seq (.region [⟨(some 2), (.box (.t 0)), none⟩, ⟨(some 3), (.box (.t 1)), none⟩, ⟨(some 4), (.mv (.c (bool false))), none⟩] []) (.seq (.seq (.region [⟨(some 5), (.fld 0 (.t 2)), none⟩, ⟨(some 6), (.load 1 false (.t 5)), none⟩, ⟨(some 7), (.fld 0 (.t 3)), none⟩, ⟨(some 8), (.load 1 false (.t 7)), none⟩, ⟨(some 9), (.bin .neq (.t 6) (.t 8)), none⟩] []) (.cond (.t 9) (.seq (.region [⟨(some 4), (.mv (.c (bool false))), none⟩] []) .ret) .skip)) (.seq (.seq (.region [⟨(some 10), (.fld 1 (.t 2)), none⟩, ⟨(some 11), (.load 1 false (.t 10)), none⟩, ⟨(some 12), (.fld 1 (.t 3)), none⟩, ⟨(some 13), (.load 1 false (.t 12)), none⟩, ⟨(some 14), (.bin .neq (.t 11) (.t 13)), none⟩] []) (.cond (.t 14) (.seq (.region [⟨(some 4), (.mv (.c (bool false))), none⟩] []) .ret) .skip)) (.seq (.seq (.region [⟨(some 15), (.fld 2 (.t 2)), none⟩, ⟨(some 16), (.load 1 false (.t 15)), none⟩, ⟨(some 17), (.fld 2 (.t 3)), none⟩, ⟨(some 18), (.load 1 false (.t 17)), none⟩, ⟨(some 19), (.call 116 [.t 16, .t 18]), none⟩, ⟨(some 20), (.un .not (.t 19)), none⟩] []) (.cond (.t 20) (.seq (.region [⟨(some 4), (.mv (.c (bool false))), none⟩] []) .ret) .skip)) (.seq (.region [⟨(some 4), (.mv (.c (bool true))), none⟩] []) .ret))))), [.t 4], [], []⟩
def lp112_0 : IC := (.seq (.seq (.region [⟨(some 6), (.mv (.t 5)), none⟩, ⟨(some 7), (.mv (.t 0)), none⟩, ⟨(some 8), (.len 0 (.t 7)), none⟩, ⟨(some 9), (.bin .lss (.t 6) (.t 8)), none⟩] []) (.cond (.t 9) .skip (.exit 0))) (.seq (.block 1 (.seq (.region [⟨(some 12), (.mv (.t 0)), none⟩, ⟨(some 13), (.mv (.t 5)), none⟩, ⟨(some 14), (.mv (.t 1)), none⟩, ⟨(some 15), (.idx 3 (.t 12) (.t 13)), none⟩, ⟨(some 16), (.fld 0 (.t 15)), none⟩, ⟨none, (.store 1 (.t 16) (.t 14)), none⟩] []) (.seq (.region [⟨(some 17), (.mv (.t 1)), none⟩, ⟨(some 18), (.bin .add (.t 17) (.c (int 1))), none⟩, ⟨(some 1), (.mv (.t 18)), none⟩] []) (.seq (.region [⟨(some 19), (.mv (.t 0)), none⟩, ⟨(some 20), (.mv (.t 5)), none⟩, ⟨(some 21), (.mv (.t 1)), none⟩, ⟨(some 22), (.idx 3 (.t 19) (.t 20)), none⟩, ⟨(some 23), (.fld 1 (.t 22)), none⟩, ⟨none, (.store 1 (.t 23) (.t 21)), none⟩] []) (.seq (.region [⟨(some 24), (.mv (.t 1)), none⟩, ⟨(some 25), (.bin .add (.t 24) (.c (int 1))), none⟩, ⟨(some 1), (.mv (.t 25)), none⟩] []) (.seq (.region [⟨(some 26), (.mv (.t 0)), none⟩, ⟨(some 27), (.mv (.t 5)), none⟩, ⟨(some 28), (.mv (.t 1)), none⟩, ⟨(some 29), (.idx 3 (.t 26) (.t 27)), none⟩, ⟨(some 30), (.fld 2 (.t 29)), none⟩, ⟨none, (.store 1 (.t 30) (.t 28)), none⟩] []) (.region [⟨(some 31), (.mv (.t 1)), none⟩, ⟨(some 32), (.bin .add (.t 31) (.c (int 1))), none⟩, ⟨(some 1), (.mv (.t 32)), none⟩] []))))))) (.region [⟨(some 10), (.mv (.t 5)), none⟩, ⟨(some 11), (.bin .add (.t 10) (.c (int 1))), none⟩, ⟨(some 5), (.mv (.t 11)), none⟩] [])))
def ir112 : IFun := ⟨(.seq (.region [⟨(some 4), (.mv (.c (int 0))), none⟩] []) (.seq (.seq (.region [⟨(some 5), (.mv (.c (int 0))), none⟩] []) (.block 0 (.loop lp112_0 [0, 1, 5] [0, 1, 4]))) (.seq (.region [⟨(some 33), (.mv (.t 1)), none⟩, ⟨(some 4), (.mv (.t 33)), none⟩] []) .ret))), [.t 4], [0], []⟩
def ir114 : IFun := ⟨(.seq (.region [⟨(some 4), (.mv (.c (int 0))), none⟩] []) (.seq (.region [⟨(some 5), (.mv (.t 1)), none⟩, ⟨(some 6), (.mv (.t 0)), none⟩, ⟨(some 7), (.len 0 (.t 6)), none⟩, ⟨(some 8), (.bin .sub (.t 5) (.t 7)), none⟩, ⟨(some 1), (.mv (.t 8)), none⟩] []) (.seq (.seq (.region [⟨(some 9), (.mv (.t 1)), none⟩, ⟨(some 10), (.bin .lss (.t 9) (.c (int 0))), none⟩] []) (.cond (.t 10) (.seq (.region [⟨(some 4), (.mv (.c (int (-1)))), none⟩] []) .ret) .skip)) (.seq (.region [⟨(some 11), (.mv (.t 1)), none⟩, ⟨(some 4), (.mv (.t 11)), none⟩] []) .ret)))), [.t 4], [], []⟩
def lp115_0 : IC := (.seq (.seq (.region [⟨(some 8), (.mv (.t 4)), none⟩, ⟨(some 9), (.mv (.t 0)), none⟩, ⟨(some 10), (.len 0 (.t 9)), none⟩, ⟨(some 11), (.bin .lss (.t 8) (.t 10)), none⟩] []) (.cond (.t 11) .skip (.exit 0))) (.seq (.block 1 (.region [⟨(some 14), (.mv (.t 3)), none⟩, ⟨(some 15), (.mv (.t 4)), none⟩, ⟨(some 16), (.mv (.t 0)), none⟩, ⟨(some 17), (.mv (.t 4)), none⟩, ⟨(some 18), (.idx 3 (.t 16) (.t 17)), none⟩, ⟨(some 19), (.load 3 true (.t 18)), none⟩, ⟨(some 20), (.call 117 [.t 19]), none⟩, ⟨(some 21), (.idx 3 (.t 14) (.t 15)), none⟩, ⟨none, (.store 3 (.t 21) (.t 20)), none⟩] [])) (.region [⟨(some 12), (.mv (.t 4)), none⟩, ⟨(some 13), (.bin .add (.t 12) (.c (int 1))), none⟩, ⟨(some 4), (.mv (.t 13)), none⟩] [])))
def ir115 : IFun := ⟨(.seq (.region [⟨(some 2), (.mv (.c (.ls true []))), none⟩] []) (.seq (.region [⟨(some 5), (.mv (.t 0)), none⟩, ⟨(some 6), (.len 0 (.t 5)), none⟩, ⟨(some 7), (.mksl [int 0, int 0, int 0] 24 (.t 6) (.t 6)), none⟩, ⟨(some 3), (.mv (.t 7)), none⟩] []) (.seq (.seq (.region [⟨(some 4), (.mv (.c (int 0))), none⟩] []) (.block 0 (.loop lp115_0 [0, 3, 4] [2, 3]))) (.seq (.region [⟨(some 22), (.mv (.t 3)), none⟩, ⟨(some 2), (.mv (.t 22)), none⟩] []) .ret)))), [.t 2], [], []⟩
def lp116_0 : IC := (.seq (.seq (.region [⟨(some 11), (.mv (.t 5)), none⟩, ⟨(some 12), (.mv (.t 0)), none⟩, ⟨(some 13), (.len 0 (.t 12)), none⟩, ⟨(some 14), (.bin .lss (.t 11) (.t 13)), none⟩] []) (.cond (.t 14) .skip (.exit 0))) (.seq (.block 1 (.seq (.region [⟨(some 17), (.mv (.t 0)), none⟩, ⟨(some 18), (.mv (.t 5)), none⟩, ⟨(some 19), (.idx 3 (.t 17) (.t 18)), none⟩, ⟨(some 20), (.load 3 true (.t 19)), none⟩, ⟨(some 21), (.mv (.t 1)), none⟩, ⟨(some 22), (.mv (.t 5)), none⟩, ⟨(some 23), (.idx 3 (.t 21) (.t 22)), none⟩, ⟨(some 24), (.load 3 true (.t 23)), none⟩, ⟨(some 25), (.call 118 [.t 20, .t 24]), none⟩, ⟨(some 26), (.un .not (.t 25)), none⟩] [(0, 1), (0, 4), (1, 4), (2, 4), (3, 4), (0, 5), (1, 5), (2, 5), (3, 5), (4, 5), (0, 6), (1, 6), (2, 6), (3, 6), (0, 7), (1, 7), (2, 7), (3, 7)]) (.cond (.t 26) (.seq (.region [⟨(some 4), (.mv (.c (bool false))), none⟩] []) .ret) .skip))) (.region [⟨(some 15), (.mv (.t 5)), none⟩, ⟨(some 16), (.bin .add (.t 15) (.c (int 1))), none⟩, ⟨(some 5), (.mv (.t 16)), none⟩] [])))
def ir116 : IFun := ⟨(.seq (.region [⟨(some 4), (.mv (.c (bool false))), none⟩] []) (.seq (.seq (.region [⟨(some 6), (.mv (.t 0)), none⟩, ⟨(some 7), (.len 0 (.t 6)), none⟩, ⟨(some 8), (.mv (.t 1)), none⟩, ⟨(some 9), (.len 0 (.t 8)), none⟩, ⟨(some 10), (.bin .neq (.t 7) (.t 9)), none⟩] []) (.cond (.t 10) (.seq (.region [⟨(some 4), (.mv (.c (bool false))), none⟩] []) .ret) .skip)) (.seq (.seq (.region [⟨(some 5), (.mv (.c (int 0))), none⟩] []) (.block 0 (.loop lp116_0 [0, 1, 5] [4]))) (.seq (.region [⟨(some 4), (.mv (.c (bool true))), none⟩] []) .ret)))), [.t 4], [], []⟩
def ir117 : IFun := ⟨(.seq (.region [⟨(some 1), (.box (.t 0)), none⟩, ⟨(some 2), (.alloc [int 0, int 0, int 0]), none⟩] []) (.seq (.region [⟨(some 3), (.alloc [int 0, int 0, int 0]), none⟩] []) (.seq (.region [⟨(some 4), (.fld 0 (.t 1)), none⟩, ⟨(some 5), (.load 1 false (.t 4)), none⟩, ⟨(some 6), (.fld 0 (.t 3)), none⟩, ⟨none, (.store 1 (.t 6) (.t 5)), none⟩] []) (.seq (.region [⟨(some 7), (.fld 1 (.t 1)), none⟩, ⟨(some 8), (.load 1 false (.t 7)), none⟩, ⟨(some 9), (.fld 1 (.t 3)), none⟩, ⟨none, (.store 1 (.t 9) (.t 8)), none⟩] []) (.seq (.region [⟨(some 10), (.fld 2 (.t 1)), none⟩, ⟨(some 11), (.load 1 false (.t 10)), none⟩, ⟨(some 12), (.fld 2 (.t 3)), none⟩, ⟨none, (.store 1 (.t 12) (.t 11)), none⟩] []) (.seq (.region [⟨(some 13), (.load 3 true (.t 3)), none⟩, ⟨none, (.store 3 (.t 2) (.t 13)), none⟩] []) .ret)))))), [.c 2 3 true], [], []⟩
def ir118 : IFun := ⟨(.seq (.region [⟨(some 2), (.box (.t 0)), none⟩, ⟨(some 3), (.box (.t 1)), none⟩, ⟨(some 4), (.mv (.c (bool false))), none⟩] []) (.seq (.seq (.region [⟨(some 5), (.fld 0 (.t 2)), none⟩, ⟨(some 6), (.load 1 false (.t 5)), none⟩, ⟨(some 7), (.fld 0 (.t 3)), none⟩, ⟨(some 8), (.load 1 false (.t 7)), none⟩, ⟨(some 9), (.bin .neq (.t 6) (.t 8)), none⟩] []) (.cond (.t 9) (.seq (.region [⟨(some 4), (.mv (.c (bool false))), none⟩] []) .ret) .skip)) (.seq (.seq (.region [⟨(some 10), (.fld 1 (.t 2)), none⟩, ⟨(some 11), (.load 1 false (.t 10)), none⟩, ⟨(some 12), (.fld 1 (.t 3)), none⟩, ⟨(some 13), (.load 1 false (.t 12)), none⟩, ⟨(some 14), (.bin .neq (.t 11) (.t 13)), none⟩] []) (.cond (.t 14) (.seq (.region [⟨(some 4), (.mv (.c (bool false))), none⟩] []) .ret) .skip)) (.seq (.seq (.region [⟨(some 15), (.fld 2 (.t 2)), none⟩, ⟨(some 16), (.load 1 false (.t 15)), none⟩, ⟨(some 17), (.fld 2 (.t 3)), none⟩, ⟨(some 18), (.load 1 false (.t 17)), none⟩, ⟨(some 19), (.bin .neq (.t 16) (.t 18)), none⟩] []) (.cond (.t 19) (.seq (.region [⟨(some 4), (.mv (.c (bool false))), none⟩] []) .ret) .skip)) (.seq (.region [⟨(some 4), (.mv (.c (bool true))), none⟩] []) .ret))))), [.t 4], [], []⟩
def EEfn : Nat → Option IFun
  | 6 => some ir6
  | 7 => some ir7
  | 8 => some ir8
  | 10 => some ir10
  | 12 => some ir12
  | 13 => some ir13
  | 14 => some ir14
  | 15 => some ir15
  | 16 => some ir16
  | 20 => some ir20
  | 23 => some ir23
  | 24 => some ir24
  | 25 => some ir25
  | 26 => some ir26
  | 27 => some ir27
  | 28 => some ir28
  | 29 => some ir29
  | 30 => some ir30
  | 31 => some ir31
  | 32 => some ir32
  | 33 => some ir33
  | 34 => some ir34
  | 52 => some ir52
  | 53 => some ir53
  | 54 => some ir54
  | 55 => some ir55
  | 56 => some ir56
  | 57 => some ir57
  | 58 => some ir58
  | 59 => some ir59
  | 60 => some ir60
  | 61 => some ir61
  | 62 => some ir62
  | 63 => some ir63
  | 64 => some ir64
  | 65 => some ir65
  | 66 => some ir66
  | 67 => some ir67
  | 68 => some ir68
  | 69 => some ir69
  | 88 => some ir88
  | 89 => some ir89
  | 90 => some ir90
  | 91 => some ir91
  | 92 => some ir92
  | 93 => some ir93
  | 94 => some ir94
  | 109 => some ir109
  | 110 => some ir110
  | 111 => some ir111
  | 112 => some ir112
  | 114 => some ir114
  | 115 => some ir115
  | 116 => some ir116
  | 117 => some ir117
  | 118 => some ir118
  | _ => none
def EEown : Nat → Nat → Mode
  | 14, 0 => .lent
  | 15, 0 => .lent
  | 28, 0 => .lent
  | 32, 0 => .lent
  | 65, 0 => .lent
  | 66, 0 => .lent
  | 67, 0 => .lent
  | 68, 0 => .lent
  | 93, 0 => .lent
  | 112, 0 => .lent
  | _, _ => .shown
def EElib : Nat → List V → List Cell → Option (V × List Cell) := fun _ _ _ => none
def EE : Env := { fn := EEfn, own := EEown, lib := EElib }
@[simp] theorem fn6 : EE.fn 6 = some ir6 := rfl
@[simp] theorem fn7 : EE.fn 7 = some ir7 := rfl
@[simp] theorem fn8 : EE.fn 8 = some ir8 := rfl
@[simp] theorem fn10 : EE.fn 10 = some ir10 := rfl
@[simp] theorem fn12 : EE.fn 12 = some ir12 := rfl
@[simp] theorem fn13 : EE.fn 13 = some ir13 := rfl
@[simp] theorem fn14 : EE.fn 14 = some ir14 := rfl
@[simp] theorem fn15 : EE.fn 15 = some ir15 := rfl
@[simp] theorem fn16 : EE.fn 16 = some ir16 := rfl
@[simp] theorem fn20 : EE.fn 20 = some ir20 := rfl
@[simp] theorem fn23 : EE.fn 23 = some ir23 := rfl
@[simp] theorem fn24 : EE.fn 24 = some ir24 := rfl
@[simp] theorem fn25 : EE.fn 25 = some ir25 := rfl
@[simp] theorem fn26 : EE.fn 26 = some ir26 := rfl
@[simp] theorem fn27 : EE.fn 27 = some ir27 := rfl
@[simp] theorem fn28 : EE.fn 28 = some ir28 := rfl
@[simp] theorem fn29 : EE.fn 29 = some ir29 := rfl
@[simp] theorem fn30 : EE.fn 30 = some ir30 := rfl
@[simp] theorem fn31 : EE.fn 31 = some ir31 := rfl
@[simp] theorem fn32 : EE.fn 32 = some ir32 := rfl
@[simp] theorem fn33 : EE.fn 33 = some ir33 := rfl
@[simp] theorem fn34 : EE.fn 34 = some ir34 := rfl
@[simp] theorem fn52 : EE.fn 52 = some ir52 := rfl
@[simp] theorem fn53 : EE.fn 53 = some ir53 := rfl
@[simp] theorem fn54 : EE.fn 54 = some ir54 := rfl
@[simp] theorem fn55 : EE.fn 55 = some ir55 := rfl
@[simp] theorem fn56 : EE.fn 56 = some ir56 := rfl
@[simp] theorem fn57 : EE.fn 57 = some ir57 := rfl
@[simp] theorem fn58 : EE.fn 58 = some ir58 := rfl
@[simp] theorem fn59 : EE.fn 59 = some ir59 := rfl
@[simp] theorem fn60 : EE.fn 60 = some ir60 := rfl
@[simp] theorem fn61 : EE.fn 61 = some ir61 := rfl
@[simp] theorem fn62 : EE.fn 62 = some ir62 := rfl
@[simp] theorem fn63 : EE.fn 63 = some ir63 := rfl
@[simp] theorem fn64 : EE.fn 64 = some ir64 := rfl
@[simp] theorem fn65 : EE.fn 65 = some ir65 := rfl
@[simp] theorem fn66 : EE.fn 66 = some ir66 := rfl
@[simp] theorem fn67 : EE.fn 67 = some ir67 := rfl
@[simp] theorem fn68 : EE.fn 68 = some ir68 := rfl
@[simp] theorem fn69 : EE.fn 69 = some ir69 := rfl
@[simp] theorem fn88 : EE.fn 88 = some ir88 := rfl
@[simp] theorem fn89 : EE.fn 89 = some ir89 := rfl
@[simp] theorem fn90 : EE.fn 90 = some ir90 := rfl
@[simp] theorem fn91 : EE.fn 91 = some ir91 := rfl
@[simp] theorem fn92 : EE.fn 92 = some ir92 := rfl
@[simp] theorem fn93 : EE.fn 93 = some ir93 := rfl
@[simp] theorem fn94 : EE.fn 94 = some ir94 := rfl
@[simp] theorem fn109 : EE.fn 109 = some ir109 := rfl
@[simp] theorem fn110 : EE.fn 110 = some ir110 := rfl
@[simp] theorem fn111 : EE.fn 111 = some ir111 := rfl
@[simp] theorem fn112 : EE.fn 112 = some ir112 := rfl
@[simp] theorem fn114 : EE.fn 114 = some ir114 := rfl
@[simp] theorem fn115 : EE.fn 115 = some ir115 := rfl
@[simp] theorem fn116 : EE.fn 116 = some ir116 := rfl
@[simp] theorem fn117 : EE.fn 117 = some ir117 := rfl
@[simp] theorem fn118 : EE.fn 118 = some ir118 := rfl
@[simp] theorem own14 : EE.own 14 = fun i => if i = 0 then .lent else .shown := by funext i; match i with | 0 => rfl | _ + 1 => rfl
@[simp] theorem own15 : EE.own 15 = fun i => if i = 0 then .lent else .shown := by funext i; match i with | 0 => rfl | _ + 1 => rfl
@[simp] theorem own28 : EE.own 28 = fun i => if i = 0 then .lent else .shown := by funext i; match i with | 0 => rfl | _ + 1 => rfl
@[simp] theorem own32 : EE.own 32 = fun i => if i = 0 then .lent else .shown := by funext i; match i with | 0 => rfl | _ + 1 => rfl
@[simp] theorem own65 : EE.own 65 = fun i => if i = 0 then .lent else .shown := by funext i; match i with | 0 => rfl | _ + 1 => rfl
@[simp] theorem own66 : EE.own 66 = fun i => if i = 0 then .lent else .shown := by funext i; match i with | 0 => rfl | _ + 1 => rfl
@[simp] theorem own67 : EE.own 67 = fun i => if i = 0 then .lent else .shown := by funext i; match i with | 0 => rfl | _ + 1 => rfl
@[simp] theorem own68 : EE.own 68 = fun i => if i = 0 then .lent else .shown := by funext i; match i with | 0 => rfl | _ + 1 => rfl
@[simp] theorem own93 : EE.own 93 = fun i => if i = 0 then .lent else .shown := by funext i; match i with | 0 => rfl | _ + 1 => rfl
@[simp] theorem own112 : EE.own 112 = fun i => if i = 0 then .lent else .shown := by funext i; match i with | 0 => rfl | _ + 1 => rfl
@[simp] theorem own6 : EE.own 6 = fun _ => .shown := rfl
@[simp] theorem own7 : EE.own 7 = fun _ => .shown := rfl
@[simp] theorem own8 : EE.own 8 = fun _ => .shown := rfl
@[simp] theorem own10 : EE.own 10 = fun _ => .shown := rfl
@[simp] theorem own12 : EE.own 12 = fun _ => .shown := rfl
@[simp] theorem own13 : EE.own 13 = fun _ => .shown := rfl
@[simp] theorem own16 : EE.own 16 = fun _ => .shown := rfl
@[simp] theorem own20 : EE.own 20 = fun _ => .shown := rfl
@[simp] theorem own23 : EE.own 23 = fun _ => .shown := rfl
@[simp] theorem own24 : EE.own 24 = fun _ => .shown := rfl
@[simp] theorem own25 : EE.own 25 = fun _ => .shown := rfl
@[simp] theorem own26 : EE.own 26 = fun _ => .shown := rfl
@[simp] theorem own27 : EE.own 27 = fun _ => .shown := rfl
@[simp] theorem own29 : EE.own 29 = fun _ => .shown := rfl
@[simp] theorem own30 : EE.own 30 = fun _ => .shown := rfl
@[simp] theorem own31 : EE.own 31 = fun _ => .shown := rfl
@[simp] theorem own33 : EE.own 33 = fun _ => .shown := rfl
@[simp] theorem own34 : EE.own 34 = fun _ => .shown := rfl
@[simp] theorem own52 : EE.own 52 = fun _ => .shown := rfl
@[simp] theorem own53 : EE.own 53 = fun _ => .shown := rfl
@[simp] theorem own54 : EE.own 54 = fun _ => .shown := rfl
@[simp] theorem own55 : EE.own 55 = fun _ => .shown := rfl
@[simp] theorem own56 : EE.own 56 = fun _ => .shown := rfl
@[simp] theorem own57 : EE.own 57 = fun _ => .shown := rfl
@[simp] theorem own58 : EE.own 58 = fun _ => .shown := rfl
@[simp] theorem own59 : EE.own 59 = fun _ => .shown := rfl
@[simp] theorem own60 : EE.own 60 = fun _ => .shown := rfl
@[simp] theorem own61 : EE.own 61 = fun _ => .shown := rfl
@[simp] theorem own62 : EE.own 62 = fun _ => .shown := rfl
@[simp] theorem own63 : EE.own 63 = fun _ => .shown := rfl
@[simp] theorem own64 : EE.own 64 = fun _ => .shown := rfl
@[simp] theorem own69 : EE.own 69 = fun _ => .shown := rfl
@[simp] theorem own88 : EE.own 88 = fun _ => .shown := rfl
@[simp] theorem own89 : EE.own 89 = fun _ => .shown := rfl
@[simp] theorem own90 : EE.own 90 = fun _ => .shown := rfl
@[simp] theorem own91 : EE.own 91 = fun _ => .shown := rfl
@[simp] theorem own92 : EE.own 92 = fun _ => .shown := rfl
@[simp] theorem own94 : EE.own 94 = fun _ => .shown := rfl
@[simp] theorem own109 : EE.own 109 = fun _ => .shown := rfl
@[simp] theorem own110 : EE.own 110 = fun _ => .shown := rfl
@[simp] theorem own111 : EE.own 111 = fun _ => .shown := rfl
@[simp] theorem own114 : EE.own 114 = fun _ => .shown := rfl
@[simp] theorem own115 : EE.own 115 = fun _ => .shown := rfl
@[simp] theorem own116 : EE.own 116 = fun _ => .shown := rfl
@[simp] theorem own117 : EE.own 117 = fun _ => .shown := rfl
@[simp] theorem own118 : EE.own 118 = fun _ => .shown := rfl
end Go.Pv

namespace Go.Pv
attribute [simp low] ro_gen callR_gen retP_gen storeR_gen takeR_gen
attribute [simp high] ro_alloc ro_box ro_store storeR_bx storeR_ep ro_take takeR_fp takeR_row ro_mkfn ro_callv ro_mksl ro_bsl bslR_0 bslR_1 ro_app ro_slc ro_call vals_nil vals_cons callR_plain retP_sc retP_ls retP_agls
attribute [simp] plainV_sc plainV_ls plainV_nil plainV_ag plainV_rf plainL_nil plainL_cons
attribute [simp high] ex_seq ex_region0 ex_skip ex_ret ex_exit ex_cond ex_block ex_loop ex_regionG ro_nil rg_nil rg_cons tame_mv tame_pick tame_bin tame_not tame_conv tame_load tame_fld tame_fget tame_idx tame_len tame_ext tame_slc tame_store tame_app tame_bsl tame_callv tame_mkfn tame_build tame_mksl tame_copy tame_clear tame_mget tame_ment tame_mst tame_mset tame_take tame_apps tame_beq tame_neg tame_b2s tame_sidx tame_sslc tame_mx tame_mn tame_alloc tame_box tame_c isOff_n isOff_g ftO_eq ro_mv ro_fld ro_len ro_bin ro_load ro_idx ro_pick ro_not ro_ext ro_fget ro_conv ro_guard val_t val_c
attribute [simp] str natV_int rowYP_ls rowYP_rf rowXP_nil rowXP_rf optV_n optV_s lenN_rf lenN_ls slcP_rf slcP_fz slcP_nil rdsO wrsO resV nonT wrT M.foot opC restM cloLs cloL clo1 rowX rowY
attribute [simp] bO_some bO_none look_nil look_cons setA_nil setA_cons fldP_bx fldP_ep fldP_fp lenP_rf lenP_ls extP_tu fgetP_ag loadP_bx loadP_ep loadP_fp idxP_rf idxP_ls rdXP_eq bin_add bin_sub bin_mul bin_eql bin_neq bin_lss bin_leq bin_gtr bin_geq bin_and7 bin_shr bin_shru bin_sadd bin_rem bin_quo bin_and255 bin_and30 bin_and32 bin_xor bin_seql bin_sneq ld1_sc ld1_ls
attribute [simp] finR sem Ar.get getsA getsR getR M.run St.get St.put asB asI asS initM putAll impL imp finishM expL exp coll bxsOf bxsOfL renB renBL renC idxOf cellsOf norm renAB closeB keepT dedup arsOf arsOfL cellsIn renA renAL callM expArgs callOf loopOf hasFz hasFzL hasFzC hasFzR freezeA newBs back wrAs newR chk rdA rdB rdM optK seeA fillP setAt oneOr subset norm0 okA fillV fillA fillB nameE nnT nnB nn nnL topA newE Exit'.isN Exit'.isX Exit'.outOf body bool int intK preL revive split3 unpack pack Mode.gives wholeOr rdS
theorem lentOf_shown (n : Nat) : lentOf (fun _ => Mode.shown) n = [] := by simp [lentOf]
attribute [simp] lentOf_shown
@[simp] theorem lentOf15 : lentOf (fun i => if i = 0 then Mode.lent else Mode.shown) 2 = [0] := by decide
@[congr] theorem bO_congr {α β : Type} {x x' : Option α} {f : α → Option β} (h : x = x') : bO x f = bO x' f := by rw [h]
theorem ev_loop (E : Env) {c c' : IC} (h : c = c') (k o : List Nat) (s : St) : ev E (.loop c k o s) = bO (exec E.own (ev E) c' s) fun r => if r.1.isN then bO (norm k r.2) fun s' => bO (loopOf (ev E) c k o s') fun x => some (.out x.1 x.2) else bO (norm o r.2) fun s' => some (.out r.1 s') := by
  rw [ev_eq, ← h]; rfl
theorem wrap64_id (n : Int) (h : -9223372036854775808 ≤ n) (h2 : n ≤ 9223372036854775807) : IntKind.i64.wrap n = n := IntWalk.i64_in n (by omega)
def ints (xs : List Int) : List (List V) := xs.map fun n => [V.sc (.int .i64 n)]
/-- the word at a place -/
def wI (ws : List Int) (i : Int) : Int := ws.getD i.toNat 0
def setI (ws : List Int) (i x : Int) : List Int := ws.set i.toNat x
theorem ints_getI (ws : List Int) (i : Int) (h0 : 0 ≤ i) (h : i < ws.length) : (ints ws)[i.toNat]? = some [.sc (.int .i64 (wI ws i))] := by
  have : i.toNat < ws.length := by omega
  simp [ints, wI, this]
theorem setI_len (ws : List Int) (i x : Int) : (setI ws i x).length = ws.length := by simp [setI]
@[simp] theorem ints_len (xs : List Int) : (ints xs).length = xs.length := by simp [ints]
@[simp] theorem ints_all (xs : List Int) : allLen 1 (ints xs) = true := by simp [ints, allLen]
@[simp] theorem ints_frz (xs : List Int) : frzR (ints xs) = ints xs := by
  induction xs with
  | nil => rfl
  | cons x xs ih => simp [ints, frzR, frzL, frz] at ih ⊢; exact ih
theorem ints_nil : ints [] = [] := rfl
theorem ints_app (xs ys : List Int) : ints xs ++ ints ys = ints (xs ++ ys) := by simp only [ints, List.map_append]
@[simp] theorem ints_one (x : Int) : [[V.sc (.int .i64 x)]] = ints [x] := rfl
@[simp] theorem ints_cons (x : Int) (l : List Int) : [V.sc (.int .i64 x)] :: ints l = ints (x :: l) := rfl
@[simp] theorem ints_emp (l : List Int) : (ints l).isEmpty = l.isEmpty := by cases l <;> rfl
@[simp] theorem ints_appI (xs ys : List Int) : ints xs ++ ints ys = ints (xs ++ ys) := by simp only [ints, List.map_append]
@[simp] theorem ints_app1 (xs : List Int) (x : Int) : ints xs ++ [[V.sc (.int .i64 x)]] = ints (xs ++ [x]) := by simp only [ints, List.map_append, List.map_cons, List.map_nil]
@[simp] theorem ints_set (xs : List Int) (i : Nat) (x : Int) : (ints xs).set i [V.sc (.int .i64 x)] = ints (xs.set i x) := by simp [ints, List.map_set]
attribute [simp] setI_len
@[simp] theorem ints_sub (xs : List Int) (o n : Nat) : sub (ints xs) o n = ints ((xs.drop o).take n) := by simp [sub, ints, List.map_drop, List.map_take]
@[simp] theorem ints_hasFz (xs : List Int) : hasFzR (ints xs) = false := by
  induction xs with
  | nil => rfl
  | cons x xs ih => simp [ints, hasFzR, hasFzL, hasFz] at ih ⊢; exact ih
@[simp] theorem ints_flat (xs : List Int) : flatR (ints xs) = true := by simp [ints, flatR, flat1]
@[simp] theorem ints_rep (n : Nat) : List.replicate n [V.sc (.int .i64 0)] = ints (List.replicate n 0) := by simp [ints]
abbrev IS (ws : List Int) : V := .ls false (ints ws)
abbrev SL (ws : List Int) : V := .ag [.ls false (ints ws)]
end Go.Pv

namespace Go.Pv
def FU : Nat := 4194304
def bS {α β : Type} (x : Option α) (f : α → Option β) : Option β := match x with | some a => f a | none => none
theorem bS_some {α β : Type} {x : Option α} {f : α → Option β} {b : β} (h : bS x f = some b) : ∃ a, x = some a ∧ f a = some b := by
  cases x with
  | none => cases h
  | some a => exact ⟨a, rfl, h⟩
@[simp] theorem bS_s {α β : Type} (a : α) (f : α → Option β) : bS (some a) f = f a := rfl
@[simp] theorem bS_n {α β : Type} (f : α → Option β) : bS none f = none := rfl
@[simp] theorem gl0 {τ : Type} (a0 : τ) (l : List τ) : (a0 :: l)[0]? = some a0 := nr rfl
@[simp] theorem gl1 {τ : Type} (a0 a1 : τ) (l : List τ) : (a0 :: a1 :: l)[1]? = some a1 := nr rfl
@[simp] theorem gl2 {τ : Type} (a0 a1 a2 : τ) (l : List τ) : (a0 :: a1 :: a2 :: l)[2]? = some a2 := nr rfl
@[simp] theorem gl3 {τ : Type} (a0 a1 a2 a3 : τ) (l : List τ) : (a0 :: a1 :: a2 :: a3 :: l)[3]? = some a3 := nr rfl
@[simp] theorem gl4 {τ : Type} (a0 a1 a2 a3 a4 : τ) (l : List τ) : (a0 :: a1 :: a2 :: a3 :: a4 :: l)[4]? = some a4 := nr rfl
@[simp] theorem gl5 {τ : Type} (a0 a1 a2 a3 a4 a5 : τ) (l : List τ) : (a0 :: a1 :: a2 :: a3 :: a4 :: a5 :: l)[5]? = some a5 := nr rfl
@[simp] theorem gl6 {τ : Type} (a0 a1 a2 a3 a4 a5 a6 : τ) (l : List τ) : (a0 :: a1 :: a2 :: a3 :: a4 :: a5 :: a6 :: l)[6]? = some a6 := nr rfl
@[simp] theorem gl7 {τ : Type} (a0 a1 a2 a3 a4 a5 a6 a7 : τ) (l : List τ) : (a0 :: a1 :: a2 :: a3 :: a4 :: a5 :: a6 :: a7 :: l)[7]? = some a7 := nr rfl
@[simp] theorem gl8 {τ : Type} (a0 a1 a2 a3 a4 a5 a6 a7 a8 : τ) (l : List τ) : (a0 :: a1 :: a2 :: a3 :: a4 :: a5 :: a6 :: a7 :: a8 :: l)[8]? = some a8 := nr rfl
@[simp] theorem gl9 {τ : Type} (a0 a1 a2 a3 a4 a5 a6 a7 a8 a9 : τ) (l : List τ) : (a0 :: a1 :: a2 :: a3 :: a4 :: a5 :: a6 :: a7 :: a8 :: a9 :: l)[9]? = some a9 := nr rfl
@[simp] theorem gl10 {τ : Type} (a0 a1 a2 a3 a4 a5 a6 a7 a8 a9 a10 : τ) (l : List τ) : (a0 :: a1 :: a2 :: a3 :: a4 :: a5 :: a6 :: a7 :: a8 :: a9 :: a10 :: l)[10]? = some a10 := nr rfl
@[simp] theorem gl11 {τ : Type} (a0 a1 a2 a3 a4 a5 a6 a7 a8 a9 a10 a11 : τ) (l : List τ) : (a0 :: a1 :: a2 :: a3 :: a4 :: a5 :: a6 :: a7 :: a8 :: a9 :: a10 :: a11 :: l)[11]? = some a11 := nr rfl
@[simp] theorem gl12 {τ : Type} (a0 a1 a2 a3 a4 a5 a6 a7 a8 a9 a10 a11 a12 : τ) (l : List τ) : (a0 :: a1 :: a2 :: a3 :: a4 :: a5 :: a6 :: a7 :: a8 :: a9 :: a10 :: a11 :: a12 :: l)[12]? = some a12 := nr rfl
@[simp] theorem gl13 {τ : Type} (a0 a1 a2 a3 a4 a5 a6 a7 a8 a9 a10 a11 a12 a13 : τ) (l : List τ) : (a0 :: a1 :: a2 :: a3 :: a4 :: a5 :: a6 :: a7 :: a8 :: a9 :: a10 :: a11 :: a12 :: a13 :: l)[13]? = some a13 := nr rfl
@[simp] theorem gl14 {τ : Type} (a0 a1 a2 a3 a4 a5 a6 a7 a8 a9 a10 a11 a12 a13 a14 : τ) (l : List τ) : (a0 :: a1 :: a2 :: a3 :: a4 :: a5 :: a6 :: a7 :: a8 :: a9 :: a10 :: a11 :: a12 :: a13 :: a14 :: l)[14]? = some a14 := nr rfl
@[simp] theorem gl15 {τ : Type} (a0 a1 a2 a3 a4 a5 a6 a7 a8 a9 a10 a11 a12 a13 a14 a15 : τ) (l : List τ) : (a0 :: a1 :: a2 :: a3 :: a4 :: a5 :: a6 :: a7 :: a8 :: a9 :: a10 :: a11 :: a12 :: a13 :: a14 :: a15 :: l)[15]? = some a15 := nr rfl
@[simp] theorem gl16 {τ : Type} (a0 a1 a2 a3 a4 a5 a6 a7 a8 a9 a10 a11 a12 a13 a14 a15 a16 : τ) (l : List τ) : (a0 :: a1 :: a2 :: a3 :: a4 :: a5 :: a6 :: a7 :: a8 :: a9 :: a10 :: a11 :: a12 :: a13 :: a14 :: a15 :: a16 :: l)[16]? = some a16 := nr rfl
@[simp] theorem gl17 {τ : Type} (a0 a1 a2 a3 a4 a5 a6 a7 a8 a9 a10 a11 a12 a13 a14 a15 a16 a17 : τ) (l : List τ) : (a0 :: a1 :: a2 :: a3 :: a4 :: a5 :: a6 :: a7 :: a8 :: a9 :: a10 :: a11 :: a12 :: a13 :: a14 :: a15 :: a16 :: a17 :: l)[17]? = some a17 := nr rfl
@[simp] theorem gl18 {τ : Type} (a0 a1 a2 a3 a4 a5 a6 a7 a8 a9 a10 a11 a12 a13 a14 a15 a16 a17 a18 : τ) (l : List τ) : (a0 :: a1 :: a2 :: a3 :: a4 :: a5 :: a6 :: a7 :: a8 :: a9 :: a10 :: a11 :: a12 :: a13 :: a14 :: a15 :: a16 :: a17 :: a18 :: l)[18]? = some a18 := nr rfl
@[simp] theorem gl19 {τ : Type} (a0 a1 a2 a3 a4 a5 a6 a7 a8 a9 a10 a11 a12 a13 a14 a15 a16 a17 a18 a19 : τ) (l : List τ) : (a0 :: a1 :: a2 :: a3 :: a4 :: a5 :: a6 :: a7 :: a8 :: a9 :: a10 :: a11 :: a12 :: a13 :: a14 :: a15 :: a16 :: a17 :: a18 :: a19 :: l)[19]? = some a19 := nr rfl
@[simp] theorem ldN_f (n : Nat) (fz : Bool) (cs : List V) (off : Nat) : ldN n false fz cs off = bO cs[off]? fun v => ld1 fz v := nr (by simp only [ldN]; cases cs[off]? <;> rfl)
theorem ldN_t0 (n : Nat) (fz : Bool) (cs : List V) (off : Nat) : ldN n true fz cs off = if off + n ≤ cs.length then bO (ldL fz ((cs.drop off).take n)) (fun l => some (.ag l)) else none := by
  simp only [ldN, if_true]
  split
  · cases ldL fz ((cs.drop off).take n) <;> rfl
  · rfl
@[simp] theorem ldN_t (n : Nat) (fz : Bool) (cs : List V) (off : Nat) : ldN n true fz cs off = if off + n ≤ cs.length then bO (ldL fz ((cs.drop off).take n)) (fun l => some (.ag l)) else none := nr (ldN_t0 n fz cs off)
@[simp] theorem ldL_nil (fz : Bool) : ldL fz [] = some [] := nr rfl
@[simp] theorem ldL_cons (fz : Bool) (v : V) (l : List V) : ldL fz (v :: l) = bO (ld1 fz v) fun x => bO (ldL fz l) fun r => some (x :: r) := nr (by simp only [ldL]; cases ld1 fz v <;> cases ldL fz l <;> rfl)
/-- an element, by its place -/
def getI {τ : Type} (xs : List τ) (i : Int) : Option τ := if 0 ≤ i ∧ i < xs.length then xs[i.toNat]? else none
theorem getI_some {τ : Type} {xs : List τ} {i : Int} {x : τ} (h : getI xs i = some x) : 0 ≤ i ∧ i < xs.length ∧ xs[i.toNat]? = some x := by
  unfold getI at h
  split at h
  · rename_i hc; exact ⟨hc.1, hc.2, h⟩
  · cases h
/-- an element of a part -/
def getV {τ : Type} (xs : List τ) (off len : Nat) (i : Int) : Option τ := if (0 ≤ i ∧ i < len) ∧ off + len ≤ xs.length then xs[off + i.toNat]? else none
theorem getV_some {τ : Type} {xs : List τ} {off len : Nat} {i : Int} {x : τ} (h : getV xs off len i = some x) : 0 ≤ i ∧ i < len ∧ off + len ≤ xs.length ∧ xs[off + i.toNat]? = some x := by
  unfold getV at h
  split at h
  · rename_i hc; exact ⟨hc.1.1, hc.1.2, hc.2, h⟩
  · cases h
def getB (s : ByteArray) (i : Int) : Option UInt8 := if 0 ≤ i then s[i.toNat]? else none
theorem getB_some {s : ByteArray} {i : Int} {b : UInt8} (h : getB s i = some b) : 0 ≤ i ∧ i < s.size ∧ i.toNat < s.size ∧ s[i.toNat]? = some b := by
  unfold getB at h
  split at h
  · rename_i hc
    refine ⟨hc, ?_, ?_, h⟩
    all_goals
      have := h
      rw [getElem?_def] at this
      split at this
      · omega
      · cases this
  · cases h
theorem ints_getI' {xs : List Int} {i : Int} {x : Int} (h : getI xs i = some x) : 0 ≤ i ∧ i < xs.length ∧ i.toNat < xs.length ∧ (ints xs)[i.toNat]? = some [.sc (.int .i64 x)] := by
  obtain ⟨h1, h2, h3⟩ := getI_some h
  exact ⟨h1, h2, by omega, by simp only [ints, List.getElem?_map, h3, Option.map_some]⟩
theorem ints_getN {xs : List Int} {i : Nat} {x : Int} (h : xs[i]? = some x) : (ints xs)[i]? = some [.sc (.int .i64 x)] := by simp only [ints, List.getElem?_map, h, Option.map_some]
@[simp] theorem ints_nil' : ints [] = [] := nr rfl
def strs (xs : List ByteArray) : List (List V) := xs.map fun s => [V.sc (.string s)]
@[simp] theorem strs_nil : strs [] = [] := nr rfl
@[simp] theorem strs_len (xs : List ByteArray) : (strs xs).length = xs.length := by simp [strs]
@[simp] theorem strs_all (xs : List ByteArray) : allLen 1 (strs xs) = true := by simp [strs, allLen]
@[simp] theorem strs_frz (xs : List ByteArray) : frzR (strs xs) = strs xs := by
  induction xs with
  | nil => rfl
  | cons x xs ih => simp [strs, frzR, frzL, frz] at ih ⊢; exact ih
@[simp] theorem strs_one (x : ByteArray) : [[V.sc (.string x)]] = strs [x] := nr rfl
@[simp] theorem strs_emp (l : List ByteArray) : (strs l).isEmpty = l.isEmpty := by cases l <;> rfl
@[simp] theorem strs_app (xs ys : List ByteArray) : strs xs ++ strs ys = strs (xs ++ ys) := by simp only [strs, List.map_append]
@[simp] theorem strs_app1 (xs : List ByteArray) (x : ByteArray) : strs xs ++ [[V.sc (.string x)]] = strs (xs ++ [x]) := by simp only [strs, List.map_append, List.map_cons, List.map_nil]
@[simp] theorem strs_set (xs : List ByteArray) (i : Nat) (x : ByteArray) : (strs xs).set i [V.sc (.string x)] = strs (xs.set i x) := by simp [strs, List.map_set]
@[simp] theorem strs_sub (xs : List ByteArray) (o n : Nat) : sub (strs xs) o n = strs ((xs.drop o).take n) := by simp [sub, strs, List.map_drop, List.map_take]
@[simp] theorem strs_hasFz (xs : List ByteArray) : hasFzR (strs xs) = false := by
  induction xs with
  | nil => rfl
  | cons x xs ih => simp [strs, hasFzR, hasFzL, hasFz] at ih ⊢; exact ih
@[simp] theorem strs_flat (xs : List ByteArray) : flatR (strs xs) = true := by simp [strs, flatR, flat1]
@[simp] theorem strs_rep (n : Nat) (s : ByteArray) : List.replicate n [V.sc (.string s)] = strs (List.replicate n s) := by simp [strs]
theorem strs_getI {xs : List ByteArray} {i : Int} {x : ByteArray} (h : getI xs i = some x) : 0 ≤ i ∧ i < xs.length ∧ i.toNat < xs.length ∧ (strs xs)[i.toNat]? = some [.sc (.string x)] := by
  obtain ⟨h1, h2, h3⟩ := getI_some h
  exact ⟨h1, h2, by omega, by simp only [strs, List.getElem?_map, h3, Option.map_some]⟩
theorem strs_getN {xs : List ByteArray} {i : Nat} {x : ByteArray} (h : xs[i]? = some x) : (strs xs)[i]? = some [.sc (.string x)] := by simp only [strs, List.getElem?_map, h, Option.map_some]
/-- bytes -/
def byi (xs : List Int) : List (List V) := xs.map fun n => [V.sc (.int .u8 n)]
@[simp] theorem byi_nil : byi [] = [] := nr rfl
@[simp] theorem byi_len (xs : List Int) : (byi xs).length = xs.length := by simp [byi]
@[simp] theorem byi_all (xs : List Int) : allLen 1 (byi xs) = true := by simp [byi, allLen]
@[simp] theorem byi_frz (xs : List Int) : frzR (byi xs) = byi xs := by
  induction xs with
  | nil => rfl
  | cons x xs ih => simp [byi, frzR, frzL, frz] at ih ⊢; exact ih
@[simp] theorem byi_one (x : Int) : [[V.sc (.int .u8 x)]] = byi [x] := nr rfl
@[simp] theorem byi_emp (l : List Int) : (byi l).isEmpty = l.isEmpty := by cases l <;> rfl
@[simp] theorem byi_app (xs ys : List Int) : byi xs ++ byi ys = byi (xs ++ ys) := by simp only [byi, List.map_append]
@[simp] theorem byi_app1 (xs : List Int) (x : Int) : byi xs ++ [[V.sc (.int .u8 x)]] = byi (xs ++ [x]) := by simp only [byi, List.map_append, List.map_cons, List.map_nil]
@[simp] theorem byi_sub (xs : List Int) (o n : Nat) : sub (byi xs) o n = byi ((xs.drop o).take n) := by simp [sub, byi, List.map_drop, List.map_take]
@[simp] theorem byi_hasFz (xs : List Int) : hasFzR (byi xs) = false := by
  induction xs with
  | nil => rfl
  | cons x xs ih => simp [byi, hasFzR, hasFzL, hasFz] at ih ⊢; exact ih
@[simp] theorem byi_flat (xs : List Int) : flatR (byi xs) = true := by simp [byi, flatR, flat1]
@[simp] theorem byi_rep (n : Nat) : List.replicate n [V.sc (.int .u8 0)] = byi (List.replicate n 0) := by simp only [byi, List.map_replicate]
theorem byi_getI {xs : List Int} {i : Int} {x : Int} (h : getI xs i = some x) : 0 ≤ i ∧ i < xs.length ∧ i.toNat < xs.length ∧ (byi xs)[i.toNat]? = some [.sc (.int .u8 x)] := by
  obtain ⟨h1, h2, h3⟩ := getI_some h
  exact ⟨h1, h2, by omega, by simp only [byi, List.getElem?_map, h3, Option.map_some]⟩
theorem byi_getN {xs : List Int} {i : Nat} {x : Int} (h : xs[i]? = some x) : (byi xs)[i]? = some [.sc (.int .u8 x)] := by simp only [byi, List.getElem?_map, h, Option.map_some]
def strOf (xs : List Int) : ByteArray := ⟨(xs.map fun n => UInt8.ofNat n.toNat).toArray⟩
@[simp] theorem byi_bytes (xs : List Int) : bytesR (byi xs) = some (xs.map fun n => UInt8.ofNat n.toNat) := by
  induction xs with
  | nil => rfl
  | cons x xs ih =>
    have : byi (x :: xs) = [V.sc (.int .u8 x)] :: byi xs := rfl
    rw [this]
    simp only [bytesR, ih, Option.map_some, List.map_cons]
@[simp] theorem strOf_eq (xs : List Int) : (⟨(xs.map fun n => UInt8.ofNat n.toNat).toArray⟩ : ByteArray) = strOf xs := rfl
def bytesOf (s : ByteArray) : List Int := s.data.toList.map fun b => (b.toNat : Int)
@[simp] theorem bytesOf_eq (s : ByteArray) : (s.data.toList.map fun b => [V.sc (.int .u8 (b.toNat : Int))]) = byi (bytesOf s) := by simp [byi, bytesOf]
@[simp] theorem bytesOf_len (s : ByteArray) : (bytesOf s).length = s.size := by simp only [bytesOf, List.length_map, Array.length_toList]; rfl
/-- bools -/
def bools (xs : List Bool) : List (List V) := xs.map fun n => [V.sc (.bool n)]
theorem sameL_len {n : Nat} {xs ys : List (List V)} (h1 : allLen n xs = true) (h2 : allLen n ys = true) : sameL xs ys = true := by
  unfold sameL
  rw [List.all_eq_true]
  intro y hy
  have h3 := List.all_eq_true.1 h1 y hy
  simp only [beq_iff_eq] at h3
  rw [h3]; exact h2
@[simp] theorem sameL_ints (xs ys : List Int) : sameL (ints xs) (ints ys) = true := sameL_len (ints_all xs) (ints_all ys)
@[simp] theorem sameL_strs (xs ys : List ByteArray) : sameL (strs xs) (strs ys) = true := sameL_len (strs_all xs) (strs_all ys)
@[simp] theorem sameL_byi (xs ys : List Int) : sameL (byi xs) (byi ys) = true := sameL_len (byi_all xs) (byi_all ys)
attribute [simp] one1 flat1 cap1 takeM tk1
/-- no names stand in a row -/
def noH (xs : List (List V)) : Bool := xs.all fun cs => cs.all fun v => !isRf v
theorem fillC_no {α : Type} : ∀ (cs : List V) (k : List V → M α), (cs.all fun v => !isRf v) = true → fillC cs k = k cs
  | [], k, _ => rfl
  | v :: l, k, h => by
    simp only [List.all_cons, Bool.and_eq_true, Bool.not_eq_true'] at h
    have := fillC_no l (fun l' => k (v :: l')) h.2
    cases v <;> first | exact this | cases h.1
theorem fillX_no {α : Type} : ∀ (xs : List (List V)) (k : List (List V) → M α), noH xs = true → fillX xs k = k xs
  | [], k, _ => rfl
  | cs :: l, k, h => by
    simp only [noH, List.all_cons, Bool.and_eq_true] at h
    simp only [fillX]
    rw [fillC_no cs _ h.1, fillX_no l _ h.2]
theorem fillX_set {α : Type} : ∀ (xs : List (List V)) (i : Nat) (cs : List V) (k : List (List V) → M α), noH xs = true → i < xs.length → fillX (xs.set i cs) k = fillC cs fun cs' => k (xs.set i cs')
  | [], i, cs, k, _, h => by simp at h
  | c :: l, 0, cs, k, h, _ => by
    simp only [noH, List.all_cons, Bool.and_eq_true] at h
    simp only [List.set_cons_zero, fillX]
    congr 1
    funext cs'
    rw [fillX_no l _ h.2]
  | c :: l, i + 1, cs, k, h, hi => by
    simp only [noH, List.all_cons, Bool.and_eq_true] at h
    simp only [List.set_cons_succ, fillX]
    rw [fillC_no c _ h.1, fillX_set l i cs _ h.2 (by simpa using hi)]
def rfs1 (cs : List V) : List Nat := rfsX [cs]
theorem rfsX_cons (c : List V) (l : List (List V)) : rfsX (c :: l) = rfs1 c ++ rfsX l := by simp [rfsX, rfs1]
theorem rfs1_rf (m o n : Nat) (l : List V) : rfs1 (.rf m o n :: l) = m :: rfs1 l := by simp [rfs1, rfsX]
theorem rfs1_sc (x : Value) (l : List V) : rfs1 (.sc x :: l) = rfs1 l := by simp [rfs1, rfsX]
theorem rfs1_ls (o : Bool) (x : List (List V)) (l : List V) : rfs1 (.ls o x :: l) = rfs1 l := by simp [rfs1, rfsX]
theorem rfs1_nil : rfs1 [] = [] := by simp [rfs1, rfsX]
theorem rfs1_no : ∀ (cs : List V), (cs.all fun v => !isRf v) = true → rfs1 cs = []
  | [], _ => rfs1_nil
  | v :: l, h => by
    simp only [List.all_cons, Bool.and_eq_true, Bool.not_eq_true'] at h
    have := rfs1_no l h.2
    unfold rfs1 rfsX at this ⊢
    rw [List.filterMap_cons]
    cases v <;> first | exact this | cases h.1
theorem rfsX_no : ∀ (xs : List (List V)), noH xs = true → rfsX xs = []
  | [], _ => rfl
  | cs :: l, h => by
    simp only [noH, List.all_cons, Bool.and_eq_true] at h
    rw [rfsX_cons, rfs1_no cs h.1, rfsX_no l h.2]; rfl
theorem rfsX_set : ∀ (xs : List (List V)) (i : Nat) (cs : List V), noH xs = true → i < xs.length → rfsX (xs.set i cs) = rfs1 cs
  | [], i, cs, _, h => by simp at h
  | c :: l, 0, cs, h, _ => by
    simp only [noH, List.all_cons, Bool.and_eq_true] at h
    rw [List.set_cons_zero, rfsX_cons, rfsX_no l h.2, List.append_nil]
  | c :: l, i + 1, cs, h, hi => by
    simp only [noH, List.all_cons, Bool.and_eq_true] at h
    rw [List.set_cons_succ, rfsX_cons, rfs1_no c h.1, List.nil_append]
    exact rfsX_set l i cs h.2 (by simpa using hi)
attribute [simp] rfs1_rf rfs1_sc rfs1_ls rfs1_nil
@[simp] theorem fillC_nil {α : Type} (k : List V → M α) : fillC [] k = k [] := nr rfl
@[simp] theorem fillC_sc {α : Type} (x : Value) (l : List V) (k : List V → M α) : fillC (.sc x :: l) k = fillC l fun l' => k (.sc x :: l') := nr rfl
@[simp] theorem fillC_ls {α : Type} (o : Bool) (x : List (List V)) (l : List V) (k : List V → M α) : fillC (.ls o x :: l) k = fillC l fun l' => k (.ls o x :: l') := nr rfl
@[simp] theorem fillC_rf {α : Type} (m off len : Nat) (l : List V) (k : List V → M α) : fillC (.rf m off len :: l) k = rdA m fun fz ys => chk (decide (off = 0 ∧ len = ys.length) && !fz) (.wr (.a m) .dead (fillC l fun l' => k (.ls true ys :: l'))) := nr rfl
attribute [simp] fillX_set rfsX_set
end Go.Pv
