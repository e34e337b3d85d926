/- Proof: the functions in small steps. No condition. -/
import Derived.Test.YtaadneenebhnoaaPvH
set_option autoImplicit true
set_option relaxedAutoImplicit true
set_option linter.unusedSimpArgs false
set_option linter.unusedVariables false
set_option maxRecDepth 20000
namespace Go.Pv
def lp3_0 : IC := (.seq (.seq (.region [⟨(some 12), (.mv (.t 6)), none⟩, ⟨(some 13), (.fld 3 (.t 3)), none⟩, ⟨(some 14), (.load 1 false (.t 13)), none⟩, ⟨(some 15), (.len 0 (.t 14)), none⟩, ⟨(some 16), (.bin .lss (.t 12) (.t 15)), none⟩] []) (.cond (.t 16) .skip (.exit 0))) (.seq (.block 1 (.seq (.region [⟨(some 19), (.mv (.t 4)), none⟩, ⟨(some 20), (.fld 3 (.t 3)), none⟩, ⟨(some 21), (.load 1 false (.t 20)), none⟩, ⟨(some 22), (.mv (.t 6)), none⟩, ⟨(some 23), (.idx 4 (.t 21) (.t 22)), none⟩, ⟨(some 24), (.load 4 true (.t 23)), none⟩, ⟨(some 25), (.call 6 [.t 24]), none⟩, ⟨(some 26), (.bin .add (.t 19) (.t 25)), none⟩, ⟨(some 4), (.mv (.t 26)), none⟩] []) (.seq (.region [⟨(some 27), (.fld 3 (.t 3)), none⟩, ⟨(some 28), (.load 1 false (.t 27)), none⟩, ⟨(some 29), (.mv (.t 6)), none⟩, ⟨(some 30), (.idx 4 (.t 28) (.t 29)), none⟩, ⟨(some 31), (.load 4 true (.t 30)), none⟩, ⟨(some 32), (.call 7 [.t 31]), none⟩, ⟨(some 33), (.mv (.t 5)), none⟩, ⟨(some 34), (.bin .gtr (.t 32) (.t 33)), none⟩] []) (.cond (.t 34) (.region [⟨(some 35), (.fld 3 (.t 3)), none⟩, ⟨(some 36), (.load 1 false (.t 35)), none⟩, ⟨(some 37), (.mv (.t 6)), none⟩, ⟨(some 38), (.idx 4 (.t 36) (.t 37)), none⟩, ⟨(some 39), (.load 4 true (.t 38)), none⟩, ⟨(some 40), (.call 7 [.t 39]), none⟩, ⟨(some 5), (.mv (.t 40)), none⟩] []) .skip)))) (.region [⟨(some 17), (.mv (.t 6)), none⟩, ⟨(some 18), (.bin .add (.t 17) (.c (int 1))), none⟩, ⟨(some 6), (.mv (.t 18)), none⟩] [])))
def ir3 : IFun := ⟨(.seq (.region [⟨(some 2), (.mv (.c (bool false))), none⟩] []) (.seq (.seq (.region [⟨(some 8), (.mv (.t 0)), none⟩, ⟨(some 9), (.call 4 [.t 8]), none⟩] []) (.cond (.t 9) (.seq (.region [⟨(some 2), (.mv (.c (bool true))), none⟩] []) .ret) .skip)) (.seq (.region [⟨(some 10), (.mv (.t 0)), none⟩, ⟨(some 11), (.call 5 [.t 10]), none⟩, ⟨(some 3), (.alloc [int 0, str ⟨#[]⟩, int 0, .ls true []]), none⟩, ⟨none, (.store 4 (.t 3) (.t 11)), none⟩] []) (.seq (.region [⟨(some 4), (.mv (.c (int 1))), none⟩, ⟨(some 5), (.mv (.c (int 0))), none⟩] []) (.seq (.seq (.region [⟨(some 6), (.mv (.c (int 0))), none⟩] []) (.block 0 (.loop lp3_0 [0, 3, 4, 5, 6] [0, 2, 3, 4, 5]))) (.seq (.region [⟨(some 41), (.mv (.t 0)), none⟩, ⟨(some 42), (.call 8 [.t 41]), none⟩, ⟨(some 7), (.alloc [int 0, str ⟨#[]⟩, int 0, .ls true []]), none⟩, ⟨none, (.store 4 (.t 7) (.t 42)), none⟩] []) (.seq (.region [⟨(some 43), (.load 4 true (.t 3)), none⟩, ⟨(some 44), (.call 6 [.t 43]), none⟩, ⟨(some 45), (.mv (.t 4)), none⟩, ⟨(some 46), (.bin .eql (.t 44) (.t 45)), none⟩, ⟨(some 47), (.mv (.t 46)), none⟩, ⟨(some 48), (.load 4 true (.t 3)), (some (47, true))⟩, ⟨(some 49), (.call 7 [.t 48]), (some (47, true))⟩, ⟨(some 50), (.mv (.t 5)), (some (47, true))⟩, ⟨(some 51), (.bin .add (.t 50) (.c (int 1))), (some (47, true))⟩, ⟨(some 52), (.bin .eql (.t 49) (.t 51)), (some (47, true))⟩, ⟨(some 53), (.pick (.t 47) (.t 52) (.c (bool false))), none⟩, ⟨(some 54), (.mv (.t 53)), none⟩, ⟨(some 55), (.load 4 true (.t 7)), (some (54, true))⟩, ⟨(some 56), (.call 7 [.t 55]), (some (54, true))⟩, ⟨(some 57), (.load 4 true (.t 7)), (some (54, true))⟩, ⟨(some 58), (.call 9 [.t 57]), (some (54, true))⟩, ⟨(some 59), (.bin .eql (.t 56) (.t 58)), (some (54, true))⟩, ⟨(some 60), (.pick (.t 54) (.t 59) (.c (bool false))), none⟩, ⟨(some 61), (.mv (.t 60)), none⟩, ⟨(some 62), (.load 4 true (.t 7)), (some (61, true))⟩, ⟨(some 63), (.call 6 [.t 62]), (some (61, true))⟩, ⟨(some 64), (.load 4 true (.t 7)), (some (61, true))⟩, ⟨(some 65), (.call 10 [.t 64]), (some (61, true))⟩, ⟨(some 66), (.bin .eql (.t 63) (.t 65)), (some (61, true))⟩, ⟨(some 67), (.pick (.t 61) (.t 66) (.c (bool false))), none⟩, ⟨(some 2), (.mv (.t 67)), none⟩] [(0, 2), (1, 2), (5, 7), (6, 7), (5, 8), (6, 8), (12, 14), (13, 14), (19, 21), (20, 21)]) .ret))))))), [.t 2], [], []⟩
def ir4 : IFun := ⟨(.seq (.region [⟨(some 2), (.mv (.c (bool false))), none⟩] []) (.seq (.region [⟨(some 3), (.mv (.t 0)), none⟩, ⟨(some 4), (.len 0 (.t 3)), none⟩, ⟨(some 5), (.bin .gtr (.t 4) (.c (int 1048576))), none⟩, ⟨(some 2), (.mv (.t 5)), none⟩] []) .ret)), [.t 2], [], []⟩
def ir5 : IFun := ⟨(.seq (.region [⟨(some 2), (.alloc [int 0, str ⟨#[]⟩, int 0, .ls true []]), none⟩] []) (.seq (.region [⟨(some 3), (.mv (.t 0)), none⟩, ⟨(some 4), (.call 12 [.t 3]), none⟩, ⟨(some 5), (.call 11 [.t 4]), none⟩, ⟨none, (.store 4 (.t 2) (.t 5)), none⟩] []) .ret)), [.c 2 4 true], [], []⟩
def lp6_0 : IC := (.seq (.region [⟨(some 10), (.bin .lss (.t 9) (.t 8)), none⟩] []) (.seq (.cond (.t 10) .skip (.exit 0)) (.seq (.block 1 (.seq (.region [⟨(some 11), (.idx 4 (.t 7) (.t 9)), none⟩, ⟨(some 12), (.load 4 true (.t 11)), none⟩, ⟨(some 5), (.alloc [int 0, str ⟨#[]⟩, int 0, .ls true []]), none⟩, ⟨none, (.store 4 (.t 5) (.t 12)), none⟩] []) (.region [⟨(some 13), (.mv (.t 3)), none⟩, ⟨(some 14), (.load 4 true (.t 5)), none⟩, ⟨(some 15), (.call 6 [.t 14]), none⟩, ⟨(some 16), (.bin .add (.t 13) (.t 15)), none⟩, ⟨(some 3), (.mv (.t 16)), none⟩] []))) (.region [⟨(some 17), (.bin .add (.t 9) (.c (int 1))), none⟩, ⟨(some 9), (.mv (.t 17)), none⟩] []))))
def ir6 : IFun := ⟨(.seq (.region [⟨(some 1), (.box (.t 0)), none⟩, ⟨(some 2), (.mv (.c (int 0))), none⟩] []) (.seq (.region [⟨(some 3), (.mv (.c (int 1))), none⟩] []) (.seq (.seq (.region [⟨(some 6), (.fld 3 (.t 1)), none⟩, ⟨(some 7), (.load 1 false (.t 6)), none⟩, ⟨(some 8), (.len 0 (.t 7)), none⟩, ⟨(some 9), (.mv (.c (int 0))), none⟩] []) (.block 0 (.loop lp6_0 [3, 7, 8, 9] [2, 3]))) (.seq (.region [⟨(some 18), (.mv (.t 3)), none⟩, ⟨(some 2), (.mv (.t 18)), none⟩] []) .ret)))), [.t 2], [], []⟩
def lp7_0 : IC := (.seq (.region [⟨(some 10), (.bin .lss (.t 9) (.t 8)), none⟩] []) (.seq (.cond (.t 10) .skip (.exit 0)) (.seq (.block 1 (.seq (.region [⟨(some 11), (.idx 4 (.t 7) (.t 9)), none⟩, ⟨(some 12), (.load 4 true (.t 11)), none⟩, ⟨(some 5), (.alloc [int 0, str ⟨#[]⟩, int 0, .ls true []]), none⟩, ⟨none, (.store 4 (.t 5) (.t 12)), none⟩] []) (.region [⟨(some 13), (.mv (.t 3)), none⟩, ⟨(some 14), (.load 4 true (.t 5)), none⟩, ⟨(some 15), (.call 7 [.t 14]), none⟩, ⟨(some 16), (.mx (.t 13) (.t 15)), none⟩, ⟨(some 3), (.mv (.t 16)), none⟩] []))) (.region [⟨(some 17), (.bin .add (.t 9) (.c (int 1))), none⟩, ⟨(some 9), (.mv (.t 17)), none⟩] []))))
def ir7 : IFun := ⟨(.seq (.region [⟨(some 1), (.box (.t 0)), none⟩, ⟨(some 2), (.mv (.c (int 0))), none⟩] []) (.seq (.region [⟨(some 3), (.mv (.c (int 0))), none⟩] []) (.seq (.seq (.region [⟨(some 6), (.fld 3 (.t 1)), none⟩, ⟨(some 7), (.load 1 false (.t 6)), none⟩, ⟨(some 8), (.len 0 (.t 7)), none⟩, ⟨(some 9), (.mv (.c (int 0))), none⟩] []) (.block 0 (.loop lp7_0 [3, 7, 8, 9] [2, 3]))) (.seq (.region [⟨(some 18), (.mv (.t 3)), none⟩, ⟨(some 19), (.bin .add (.t 18) (.c (int 1))), none⟩, ⟨(some 2), (.mv (.t 19)), none⟩] []) .ret)))), [.t 2], [], []⟩
def ir8 : IFun := ⟨(.seq (.region [⟨(some 2), (.alloc [int 0, str ⟨#[]⟩, int 0, .ls true []]), none⟩] []) (.seq (.region [⟨(some 3), (.mv (.t 0)), none⟩, ⟨(some 4), (.call 12 [.t 3]), none⟩, ⟨(some 5), (.call 11 [.t 4]), none⟩, ⟨none, (.store 4 (.t 2) (.t 5)), none⟩] []) .ret)), [.c 2 4 true], [], []⟩
def lp9_0 : IC := (.seq (.seq (.region [⟨(some 5), (.mv (.t 4)), none⟩, ⟨(some 6), (.fld 3 (.t 1)), none⟩, ⟨(some 7), (.load 1 false (.t 6)), none⟩, ⟨(some 8), (.len 0 (.t 7)), none⟩, ⟨(some 9), (.bin .lss (.t 5) (.t 8)), none⟩] []) (.cond (.t 9) .skip (.exit 0))) (.seq (.block 1 (.region [⟨(some 12), (.mv (.t 3)), none⟩, ⟨(some 13), (.fld 3 (.t 1)), none⟩, ⟨(some 14), (.load 1 false (.t 13)), none⟩, ⟨(some 15), (.mv (.t 4)), none⟩, ⟨(some 16), (.idx 4 (.t 14) (.t 15)), none⟩, ⟨(some 17), (.load 4 true (.t 16)), none⟩, ⟨(some 18), (.call 9 [.t 17]), none⟩, ⟨(some 19), (.call 13 [.t 12, .t 18]), none⟩, ⟨(some 3), (.mv (.t 19)), none⟩] [])) (.region [⟨(some 10), (.mv (.t 4)), none⟩, ⟨(some 11), (.bin .add (.t 10) (.c (int 1))), none⟩, ⟨(some 4), (.mv (.t 11)), none⟩] [])))
def ir9 : IFun := ⟨(.seq (.region [⟨(some 1), (.box (.t 0)), none⟩, ⟨(some 2), (.mv (.c (int 0))), none⟩] []) (.seq (.region [⟨(some 3), (.mv (.c (int 0))), none⟩] []) (.seq (.seq (.region [⟨(some 4), (.mv (.c (int 0))), none⟩] []) (.block 0 (.loop lp9_0 [1, 3, 4] [2, 3]))) (.seq (.region [⟨(some 20), (.mv (.t 3)), none⟩, ⟨(some 21), (.bin .add (.t 20) (.c (int 1))), none⟩, ⟨(some 2), (.mv (.t 21)), none⟩] []) .ret)))), [.t 2], [], []⟩
def lp10_0 : IC := (.seq (.seq (.region [⟨(some 5), (.mv (.t 4)), none⟩, ⟨(some 6), (.fld 3 (.t 1)), none⟩, ⟨(some 7), (.load 1 false (.t 6)), none⟩, ⟨(some 8), (.len 0 (.t 7)), none⟩, ⟨(some 9), (.bin .lss (.t 5) (.t 8)), none⟩] []) (.cond (.t 9) .skip (.exit 0))) (.seq (.block 1 (.region [⟨(some 12), (.mv (.t 3)), none⟩, ⟨(some 13), (.fld 3 (.t 1)), none⟩, ⟨(some 14), (.load 1 false (.t 13)), none⟩, ⟨(some 15), (.mv (.t 4)), none⟩, ⟨(some 16), (.idx 4 (.t 14) (.t 15)), none⟩, ⟨(some 17), (.load 4 true (.t 16)), none⟩, ⟨(some 18), (.call 10 [.t 17]), none⟩, ⟨(some 19), (.bin .add (.t 12) (.t 18)), none⟩, ⟨(some 3), (.mv (.t 19)), none⟩] [])) (.region [⟨(some 10), (.mv (.t 4)), none⟩, ⟨(some 11), (.bin .add (.t 10) (.c (int 1))), none⟩, ⟨(some 4), (.mv (.t 11)), none⟩] [])))
def ir10 : IFun := ⟨(.seq (.region [⟨(some 1), (.box (.t 0)), none⟩, ⟨(some 2), (.mv (.c (int 0))), none⟩] []) (.seq (.region [⟨(some 3), (.mv (.c (int 1))), none⟩] []) (.seq (.seq (.region [⟨(some 4), (.mv (.c (int 0))), none⟩] []) (.block 0 (.loop lp10_0 [1, 3, 4] [2, 3]))) (.seq (.region [⟨(some 20), (.mv (.t 3)), none⟩, ⟨(some 2), (.mv (.t 20)), none⟩] []) .ret)))), [.t 2], [], []⟩
def ir11 : IFun := ⟨(.seq (.region [⟨(some 2), (.alloc [int 0, str ⟨#[]⟩, int 0, .ls true []]), none⟩] []) (.seq (.region [⟨(some 5), (.mv (.t 0)), none⟩, ⟨(some 6), (.call 15 [.t 5]), none⟩, ⟨(some 7), (.call 14 [.t 6]), none⟩, ⟨(some 3), (.alloc [int 0, str ⟨#[]⟩, int 0, .ls true []]), none⟩, ⟨none, (.store 4 (.t 3) (.t 7)), none⟩] []) (.seq (.seq (.region [⟨(some 8), (.fld 3 (.t 3)), none⟩, ⟨(some 9), (.load 1 false (.t 8)), none⟩, ⟨(some 10), (.len 0 (.t 9)), none⟩, ⟨(some 11), (.bin .eql (.t 10) (.c (int 0))), none⟩] []) (.cond (.t 11) (.seq (.region [⟨(some 12), (.hold 4 true (.t 3)), none⟩, ⟨none, (.store 4 (.t 2) (.t 12)), none⟩] []) .ret) .skip)) (.seq (.region [⟨(some 13), (.mv (.t 0)), none⟩, ⟨(some 14), (.fld 3 (.t 3)), none⟩, ⟨(some 15), (.load 1 false (.t 14)), none⟩, ⟨(some 16), (.len 0 (.t 15)), none⟩, ⟨(some 17), (.call 16 [.t 13, .t 16]), none⟩, ⟨(some 4), (.mv (.t 17)), none⟩] []) (.seq (.seq (.region [⟨(some 18), (.mv (.t 0)), none⟩, ⟨(some 19), (.call 16 [.t 18, .c (int 12)]), none⟩] []) (.block 0 (.seq (.region [⟨(some 21), (.bin .eql (.t 19) (.c (int 0))), none⟩, ⟨(some 20), (.mv (.t 21)), none⟩] []) (.cond (.t 20) (.region [⟨(some 22), (.fld 3 (.t 3)), none⟩, ⟨(some 23), (.load 1 false (.t 22)), none⟩, ⟨(some 24), (.mv (.t 4)), none⟩, ⟨(some 25), (.mv (.t 0)), none⟩, ⟨(some 26), (.call 16 [.t 25, .c (int 30)]), none⟩, ⟨(some 27), (.bin .sub (.t 26) (.c (int 1))), none⟩, ⟨(some 28), (.idx 4 (.t 23) (.t 24)), none⟩, ⟨(some 29), (.fld 0 (.t 28)), none⟩, ⟨none, (.store 1 (.t 29) (.t 27)), none⟩] [(0, 2), (1, 2), (0, 3), (1, 3), (2, 3), (0, 4), (1, 4), (2, 4), (0, 5), (1, 5), (2, 5)]) (.seq (.region [⟨(some 31), (.bin .eql (.t 19) (.c (int 1))), none⟩, ⟨(some 30), (.mv (.t 31)), none⟩] []) (.cond (.t 30) (.region [⟨(some 32), (.fld 3 (.t 3)), none⟩, ⟨(some 33), (.load 1 false (.t 32)), none⟩, ⟨(some 34), (.mv (.t 4)), none⟩, ⟨(some 35), (.mv (.t 0)), none⟩, ⟨(some 36), (.bsl [str ⟨#[]⟩] 6 [(0, .c (str ⟨#[]⟩)), (1, .c (str ⟨#[120]⟩)), (2, .c (str ⟨#[108, 101, 116]⟩)), (3, .c (str ⟨#[112, 114, 111, 116, 111]⟩)), (4, .c (str ⟨#[97, 32, 98]⟩)), (5, .c (str ⟨#[49]⟩))]), none⟩, ⟨(some 37), (.call 17 [.t 35, .t 36]), none⟩, ⟨(some 38), (.idx 4 (.t 33) (.t 34)), none⟩, ⟨(some 39), (.fld 1 (.t 38)), none⟩, ⟨none, (.store 1 (.t 39) (.t 37)), none⟩] [(0, 2), (1, 2), (0, 3), (1, 3), (2, 3), (0, 4), (1, 4), (2, 4), (3, 4), (0, 5), (1, 5), (2, 5)]) (.seq (.region [⟨(some 41), (.bin .eql (.t 19) (.c (int 2))), none⟩, ⟨(some 40), (.mv (.t 41)), none⟩] []) (.cond (.t 40) (.region [⟨(some 42), (.fld 3 (.t 3)), none⟩, ⟨(some 43), (.load 1 false (.t 42)), none⟩, ⟨(some 44), (.mv (.t 4)), none⟩, ⟨(some 45), (.idx 4 (.t 43) (.t 44)), none⟩, ⟨(some 46), (.fld 2 (.t 45)), none⟩, ⟨none, (.store 1 (.t 46) (.c (int 3))), none⟩] []) (.seq (.region [⟨(some 48), (.bin .eql (.t 19) (.c (int 3))), none⟩, ⟨(some 47), (.mv (.t 48)), none⟩] []) (.cond (.t 47) (.alt [⟨(some 49), (.alloc [bool false]), none⟩, ⟨none, (.store 1 (.t 49) (.c (bool true))), none⟩, ⟨none, (.store 1 (.t 49) (.c (bool false))), none⟩, ⟨(some 50), (.load 1 false (.t 49)), none⟩] [⟨(some 49), (.alloc [bool false]), none⟩, ⟨none, (.store 1 (.t 49) (.c (bool false))), none⟩, ⟨none, (.store 1 (.t 49) (.c (bool true))), none⟩, ⟨(some 50), (.load 1 false (.t 49)), none⟩] (.cond (.t 50) (.seq (.region [⟨(some 51), (.fld 3 (.t 3)), none⟩, ⟨(some 52), (.load 1 false (.t 51)), none⟩, ⟨(some 53), (.mv (.t 4)), none⟩, ⟨(some 54), (.idx 4 (.t 52) (.t 53)), none⟩, ⟨(some 55), (.fld 3 (.t 54)), none⟩, ⟨(some 56), (.take 1 false (.t 55)), none⟩, ⟨(some 57), (.build [int 0, str ⟨#[]⟩, int 0, .ls true []] [(0, 1, .c (int 12))]), none⟩, ⟨(some 58), (.len 0 (.t 56)), none⟩, ⟨(some 59), (.bsl [int 0, str ⟨#[]⟩, int 0, .ls true []] 1 [(0, .c (.ag [int 0, str ⟨#[]⟩, int 0, .ls true []]))]), none⟩, ⟨(some 60), (.app 4 56 true (.t 56) (.t 59)), none⟩, ⟨(some 61), (.idx 4 (.t 52) (.t 53)), none⟩, ⟨(some 62), (.fld 3 (.t 61)), none⟩, ⟨none, (.sth 1 (.t 62) (.t 60)), none⟩] []) (.region [⟨(some 63), (.idx 4 (.t 60) (.t 58)), none⟩, ⟨none, (.store 4 (.t 63) (.t 57)), none⟩] [])) (.region [⟨(some 64), (.fld 3 (.t 3)), none⟩, ⟨(some 65), (.load 1 false (.t 64)), none⟩, ⟨(some 66), (.mv (.t 4)), none⟩, ⟨(some 67), (.fld 3 (.t 3)), none⟩, ⟨(some 68), (.load 1 false (.t 67)), none⟩, ⟨(some 69), (.mv (.t 4)), none⟩, ⟨(some 70), (.idx 4 (.t 68) (.t 69)), none⟩, ⟨(some 71), (.fld 3 (.t 70)), none⟩, ⟨(some 72), (.take 1 false (.t 71)), none⟩, ⟨(some 73), (.build [int 0, str ⟨#[]⟩, int 0, .ls true []] [(0, 1, .c (int 12))]), none⟩, ⟨(some 74), (.bsl [int 0, str ⟨#[]⟩, int 0, .ls true []] 1 [(0, .t 73)]), none⟩, ⟨(some 75), (.app 4 56 true (.t 72) (.t 74)), none⟩, ⟨(some 76), (.idx 4 (.t 65) (.t 66)), none⟩, ⟨(some 77), (.fld 3 (.t 76)), none⟩, ⟨none, (.store 1 (.t 77) (.t 75)), none⟩] [(0, 2), (1, 2), (0, 3), (1, 3), (2, 3), (0, 4), (1, 4), (2, 4), (0, 5), (1, 5), (2, 5), (3, 5), (4, 5), (0, 6), (1, 6), (2, 6), (0, 7), (1, 7), (2, 7), (0, 8), (1, 8), (2, 8), (0, 9), (1, 9), (2, 9), (3, 9), (4, 9), (5, 9), (6, 9), (7, 9), (8, 9), (0, 10), (1, 10), (2, 10), (3, 10), (4, 10), (5, 10), (6, 10), (7, 10), (8, 10), (0, 11), (1, 11), (2, 11)])) [2, 3]) (.seq (.region [⟨(some 79), (.bin .eql (.t 19) (.c (int 4))), none⟩, ⟨(some 78), (.mv (.t 79)), none⟩] []) (.cond (.t 78) (.region [⟨(some 80), (.mv (.t 0)), none⟩, ⟨(some 81), (.call 16 [.t 80, .c (int 28)]), none⟩, ⟨(some 82), (.fld 0 (.t 3)), none⟩, ⟨none, (.store 1 (.t 82) (.t 81)), none⟩] []) (.seq (.region [⟨(some 84), (.bin .eql (.t 19) (.c (int 5))), none⟩, ⟨(some 83), (.mv (.t 84)), none⟩] []) (.cond (.t 83) (.region [⟨(some 85), (.fld 3 (.t 3)), none⟩, ⟨(some 86), (.load 1 false (.t 85)), none⟩, ⟨(some 87), (.mv (.t 0)), none⟩, ⟨(some 88), (.call 18 [.t 87]), none⟩, ⟨(some 89), (.build [int 0, str ⟨#[]⟩, int 0, .ls true []] [(0, 1, .c (int 10)), (2, 1, .t 88)]), none⟩, ⟨(some 90), (.bsl [int 0, str ⟨#[]⟩, int 0, .ls true []] 1 [(0, .t 89)]), none⟩, ⟨(some 91), (.build [int 0, str ⟨#[]⟩, int 0, .ls true []] [(0, 1, .c (int 9)), (3, 1, .t 90)]), none⟩, ⟨(some 92), (.bsl [int 0, str ⟨#[]⟩, int 0, .ls true []] 1 [(0, .t 91)]), none⟩, ⟨(some 93), (.app 4 56 true (.t 86) (.t 92)), none⟩, ⟨(some 94), (.fld 3 (.t 3)), none⟩, ⟨none, (.store 1 (.t 94) (.t 93)), none⟩] [(0, 2), (1, 2), (0, 3), (1, 3), (0, 4), (1, 4), (0, 5), (1, 5), (0, 6), (1, 6), (0, 7), (1, 7)]) .skip)))))))))))))) (.seq (.region [⟨(some 95), (.hold 4 true (.t 3)), none⟩, ⟨none, (.store 4 (.t 2) (.t 95)), none⟩] []) .ret)))))), [.c 2 4 true], [], [56, 72, 1000012, 1000095, 2000062]⟩
def lp12_0 : IC := (.seq (.seq (.region [⟨(some 8), (.mv (.t 4)), none⟩, ⟨(some 9), (.mv (.t 0)), none⟩, ⟨(some 10), (.len 0 (.t 9)), none⟩, ⟨(some 11), (.bin .lss (.t 8) (.t 10)), none⟩, ⟨(some 12), (.mv (.t 11)), none⟩, ⟨(some 13), (.mv (.t 4)), (some (12, true))⟩, ⟨(some 14), (.bin .lss (.t 13) (.c (int 4000))), (some (12, true))⟩, ⟨(some 15), (.pick (.t 12) (.t 14) (.c (bool false))), none⟩] []) (.cond (.t 15) .skip (.exit 0))) (.seq (.block 1 (.region [⟨(some 18), (.mv (.t 3)), none⟩, ⟨(some 19), (.bin .mul (.t 18) (.c (int 131))), none⟩, ⟨(some 20), (.mv (.t 0)), none⟩, ⟨(some 21), (.mv (.t 4)), none⟩, ⟨(some 22), (.idx 1 (.t 20) (.t 21)), none⟩, ⟨(some 23), (.load 1 false (.t 22)), none⟩, ⟨(some 24), (.conv .i64 (.t 23)), none⟩, ⟨(some 25), (.bin .add (.t 19) (.t 24)), none⟩, ⟨(some 26), (.bin .add (.t 25) (.c (int 7))), none⟩, ⟨(some 27), (.bin .and (.t 26) (.c (int 1073741823))), none⟩, ⟨(some 3), (.mv (.t 27)), none⟩] [])) (.region [⟨(some 16), (.mv (.t 4)), none⟩, ⟨(some 17), (.bin .add (.t 16) (.c (int 1))), none⟩, ⟨(some 4), (.mv (.t 17)), none⟩] [])))
def ir12 : IFun := ⟨(.seq (.region [⟨(some 2), (.mv (.c (.sc (.pointer none)))), none⟩] []) (.seq (.region [⟨(some 5), (.mv (.t 0)), none⟩, ⟨(some 6), (.len 0 (.t 5)), none⟩, ⟨(some 7), (.bin .add (.c (int 18961)) (.t 6)), none⟩, ⟨(some 3), (.mv (.t 7)), none⟩] []) (.seq (.seq (.region [⟨(some 4), (.mv (.c (int 0))), none⟩] []) (.block 0 (.loop lp12_0 [0, 3, 4] [0, 2, 3]))) (.seq (.region [⟨(some 28), (.mv (.t 0)), none⟩, ⟨(some 29), (.mv (.t 3)), none⟩, ⟨(some 30), (.build [.ls true [], int 0, int 0] [(0, 1, .t 28), (2, 1, .t 29)]), none⟩, ⟨(some 31), (.box (.t 30)), none⟩, ⟨(some 2), (.mv (.t 31)), none⟩] []) .ret)))), [.t 2], [], []⟩
def ir13 : IFun := ⟨(.seq (.region [⟨(some 4), (.mv (.c (int 0))), none⟩] []) (.seq (.seq (.region [⟨(some 5), (.mv (.t 0)), none⟩, ⟨(some 6), (.mv (.t 1)), none⟩, ⟨(some 7), (.bin .gtr (.t 5) (.t 6)), none⟩] []) (.cond (.t 7) (.seq (.region [⟨(some 8), (.mv (.t 0)), none⟩, ⟨(some 4), (.mv (.t 8)), none⟩] []) .ret) .skip)) (.seq (.region [⟨(some 9), (.mv (.t 1)), none⟩, ⟨(some 4), (.mv (.t 9)), none⟩] []) .ret))), [.t 4], [], []⟩
def lp14_0 : IC := (.seq (.seq (.region [⟨(some 12), (.mv (.t 4)), none⟩, ⟨(some 13), (.fld 3 (.t 1)), none⟩, ⟨(some 14), (.load 1 false (.t 13)), none⟩, ⟨(some 15), (.len 0 (.t 14)), none⟩, ⟨(some 16), (.bin .lss (.t 12) (.t 15)), none⟩] []) (.cond (.t 16) .skip (.exit 0))) (.seq (.block 1 (.region [⟨(some 19), (.fld 3 (.t 3)), none⟩, ⟨(some 20), (.load 1 false (.t 19)), none⟩, ⟨(some 21), (.fld 3 (.t 1)), none⟩, ⟨(some 22), (.load 1 false (.t 21)), none⟩, ⟨(some 23), (.mv (.t 4)), none⟩, ⟨(some 24), (.idx 4 (.t 22) (.t 23)), none⟩, ⟨(some 25), (.load 4 true (.t 24)), none⟩, ⟨(some 26), (.call 14 [.t 25]), none⟩, ⟨(some 27), (.bsl [int 0, str ⟨#[]⟩, int 0, .ls true []] 1 [(0, .t 26)]), none⟩, ⟨(some 28), (.app 4 56 true (.t 20) (.t 27)), none⟩, ⟨(some 29), (.fld 3 (.t 3)), none⟩, ⟨none, (.store 1 (.t 29) (.t 28)), none⟩] [(0, 2), (1, 2), (0, 3), (1, 3), (0, 4), (1, 4), (2, 4), (3, 4), (0, 5), (1, 5), (0, 6), (1, 6), (0, 7), (1, 7), (0, 8), (1, 8)])) (.region [⟨(some 17), (.mv (.t 4)), none⟩, ⟨(some 18), (.bin .add (.t 17) (.c (int 1))), none⟩, ⟨(some 4), (.mv (.t 18)), none⟩] [])))
def ir14 : IFun := ⟨(.seq (.region [⟨(some 1), (.box (.t 0)), none⟩, ⟨(some 2), (.alloc [int 0, str ⟨#[]⟩, int 0, .ls true []]), none⟩] []) (.seq (.region [⟨(some 5), (.fld 0 (.t 1)), none⟩, ⟨(some 6), (.load 1 false (.t 5)), none⟩, ⟨(some 7), (.fld 1 (.t 1)), none⟩, ⟨(some 8), (.load 1 false (.t 7)), none⟩, ⟨(some 9), (.fld 2 (.t 1)), none⟩, ⟨(some 10), (.load 1 false (.t 9)), none⟩, ⟨(some 11), (.build [int 0, str ⟨#[]⟩, int 0, .ls true []] [(0, 1, .t 6), (1, 1, .t 8), (2, 1, .t 10)]), none⟩, ⟨(some 3), (.alloc [int 0, str ⟨#[]⟩, int 0, .ls true []]), none⟩, ⟨none, (.store 4 (.t 3) (.t 11)), none⟩] []) (.seq (.seq (.region [⟨(some 4), (.mv (.c (int 0))), none⟩] []) (.block 0 (.loop lp14_0 [1, 2, 3, 4] [2, 3]))) (.seq (.region [⟨(some 30), (.load 4 true (.t 3)), none⟩, ⟨none, (.store 4 (.t 2) (.t 30)), none⟩] []) .ret)))), [.c 2 4 true], [], []⟩
def ir15 : IFun := ⟨(.seq (.region [⟨(some 2), (.alloc [int 0, str ⟨#[]⟩, int 0, .ls true []]), none⟩] []) (.seq (.region [⟨(some 6), (.mv (.t 0)), none⟩, ⟨(some 7), (.call 20 [.t 6]), none⟩, ⟨(some 8), (.call 19 [.t 7]), none⟩, ⟨(some 5), (.mv (.t 8)), none⟩, ⟨(some 9), (.ext 0 (.t 5)), none⟩, ⟨(some 10), (.ext 1 (.t 5)), none⟩, ⟨(some 3), (.alloc [int 0, str ⟨#[]⟩, int 0, .ls true []]), none⟩, ⟨none, (.store 4 (.t 3) (.t 9)), none⟩, ⟨(some 4), (.mv (.t 10)), none⟩] []) (.seq (.seq (.region [⟨(some 11), (.mv (.t 4)), none⟩, ⟨(some 12), (.bin .geq (.t 11) (.c (int 0))), none⟩] []) (.cond (.t 12) (.seq (.region [⟨(some 13), (.build [int 0, str ⟨#[]⟩, int 0, .ls true []] [(0, 1, .c (int 1))]), none⟩, ⟨none, (.store 4 (.t 2) (.t 13)), none⟩] []) .ret) .skip)) (.seq (.region [⟨(some 14), (.load 4 true (.t 3)), none⟩, ⟨none, (.store 4 (.t 2) (.t 14)), none⟩] []) .ret)))), [.c 2 4 true], [], []⟩
def ir16 : IFun := ⟨(.seq (.region [⟨(some 4), (.mv (.c (int 0))), none⟩] []) (.seq (.seq (.region [⟨(some 9), (.mv (.t 1)), none⟩, ⟨(some 10), (.bin .leq (.t 9) (.c (int 0))), none⟩] []) (.cond (.t 10) (.seq (.region [⟨(some 4), (.mv (.c (int 0))), none⟩] []) .ret) .skip)) (.seq (.seq (.region [⟨(some 11), (.mv (.t 1)), none⟩, ⟨(some 12), (.bin .leq (.t 11) (.c (int 256))), none⟩] []) (.cond (.t 12) (.seq (.region [⟨(some 13), (.mv (.t 0)), none⟩, ⟨(some 14), (.call 21 [.t 13]), none⟩, ⟨(some 15), (.mv (.t 1)), none⟩, ⟨(some 16), (.bin .rem (.t 14) (.t 15)), none⟩, ⟨(some 4), (.mv (.t 16)), none⟩] []) .ret) .skip)) (.seq (.region [⟨(some 17), (.mv (.t 0)), none⟩, ⟨(some 18), (.call 21 [.t 17]), none⟩, ⟨(some 5), (.mv (.t 18)), none⟩] []) (.seq (.region [⟨(some 19), (.mv (.t 0)), none⟩, ⟨(some 20), (.call 21 [.t 19]), none⟩, ⟨(some 6), (.mv (.t 20)), none⟩] []) (.seq (.region [⟨(some 21), (.mv (.t 0)), none⟩, ⟨(some 22), (.call 21 [.t 21]), none⟩, ⟨(some 7), (.mv (.t 22)), none⟩] []) (.seq (.region [⟨(some 23), (.mv (.t 0)), none⟩, ⟨(some 24), (.call 21 [.t 23]), none⟩, ⟨(some 8), (.mv (.t 24)), none⟩] []) (.seq (.region [⟨(some 25), (.mv (.t 5)), none⟩, ⟨(some 26), (.bin .mul (.t 25) (.c (int 16777216))), none⟩, ⟨(some 27), (.mv (.t 6)), none⟩, ⟨(some 28), (.bin .mul (.t 27) (.c (int 65536))), none⟩, ⟨(some 29), (.bin .add (.t 26) (.t 28)), none⟩, ⟨(some 30), (.mv (.t 7)), none⟩, ⟨(some 31), (.bin .mul (.t 30) (.c (int 256))), none⟩, ⟨(some 32), (.bin .add (.t 29) (.t 31)), none⟩, ⟨(some 33), (.mv (.t 8)), none⟩, ⟨(some 34), (.bin .add (.t 32) (.t 33)), none⟩, ⟨(some 35), (.mv (.t 1)), none⟩, ⟨(some 36), (.bin .rem (.t 34) (.t 35)), none⟩, ⟨(some 4), (.mv (.t 36)), none⟩] []) .ret)))))))), [.t 4], [], []⟩
def ir17 : IFun := ⟨(.seq (.region [⟨(some 4), (.mv (.c (str ⟨#[]⟩))), none⟩] []) (.seq (.region [⟨(some 5), (.mv (.t 1)), none⟩, ⟨(some 6), (.mv (.t 0)), none⟩, ⟨(some 7), (.mv (.t 1)), none⟩, ⟨(some 8), (.len 0 (.t 7)), none⟩, ⟨(some 9), (.call 16 [.t 6, .t 8]), none⟩, ⟨(some 10), (.idx 1 (.t 5) (.t 9)), none⟩, ⟨(some 11), (.load 1 false (.t 10)), none⟩, ⟨(some 4), (.mv (.t 11)), none⟩] []) .ret)), [.t 4], [], []⟩
def ir18 : IFun := ⟨(.seq (.region [⟨(some 2), (.mv (.c (int 0))), none⟩] []) (.seq (.region [⟨(some 3), (.mv (.t 0)), none⟩, ⟨(some 4), (.bsl [int 0] 15 [(0, .c (int 0)), (1, .c (int 1)), (2, .c (int 2)), (3, .c (int (-1))), (4, .c (int (-5))), (5, .c (int 77)), (6, .c (int 1999)), (7, .c (int 2000)), (8, .c (int 2147483647)), (9, .c (int 2147483648)), (10, .c (int (-2147483648))), (11, .c (int (-2147483649))), (12, .c (int 4294967296)), (13, .c (int 9223372036854775807)), (14, .c (int (-9223372036854775808)))]), none⟩, ⟨(some 5), (.call 22 [.t 3, .t 4]), none⟩, ⟨(some 2), (.mv (.t 5)), none⟩] []) .ret)), [.t 2], [], []⟩
def lp19_0 : IC := (.seq (.seq (.region [⟨(some 21), (.mv (.t 6)), none⟩, ⟨(some 22), (.nilc (.t 21)), none⟩, ⟨(some 23), (.fld 2 (.t 22)), none⟩, ⟨(some 24), (.load 1 false (.t 23)), none⟩, ⟨(some 25), (.bin .lss (.t 24) (.c (int 0))), none⟩, ⟨(some 26), (.mv (.t 25)), none⟩, ⟨(some 27), (.mv (.t 6)), (some (26, true))⟩, ⟨(some 28), (.call 24 [.t 27]), (some (26, true))⟩, ⟨(some 29), (.fget 0 1 false (.t 28)), (some (26, true))⟩, ⟨(some 30), (.bin .neq (.t 29) (.c (int 0))), (some (26, true))⟩, ⟨(some 31), (.pick (.t 26) (.t 30) (.c (bool false))), none⟩] []) (.cond (.t 31) .skip (.exit 0))) (.block 1 (.region [⟨(some 32), (.fld 3 (.t 7)), none⟩, ⟨(some 33), (.load 1 false (.t 32)), none⟩, ⟨(some 34), (.mv (.t 6)), none⟩, ⟨(some 35), (.call 25 [.t 34]), none⟩, ⟨(some 36), (.bsl [int 0, str ⟨#[]⟩, int 0, .ls true []] 1 [(0, .t 35)]), none⟩, ⟨(some 37), (.app 4 56 true (.t 33) (.t 36)), none⟩, ⟨(some 38), (.fld 3 (.t 7)), none⟩, ⟨none, (.store 1 (.t 38) (.t 37)), none⟩] [(0, 2), (1, 2), (0, 3), (1, 3), (0, 4), (1, 4)])))
def ir19 : IFun := ⟨(.seq (.region [⟨(some 2), (.alloc [int 0, str ⟨#[]⟩, int 0, .ls true []]), none⟩, ⟨(some 3), (.mv (.c (int 0))), none⟩] []) (.seq (.region [⟨(some 9), (.mv (.t 0)), none⟩, ⟨(some 10), (.call 23 [.t 9]), none⟩, ⟨(some 8), (.mv (.t 10)), none⟩, ⟨(some 11), (.ext 0 (.t 8)), none⟩, ⟨(some 12), (.ext 1 (.t 8)), none⟩, ⟨(some 4), (.mv (.t 11)), none⟩, ⟨(some 5), (.mv (.t 12)), none⟩] []) (.seq (.seq (.region [⟨(some 13), (.mv (.t 5)), none⟩, ⟨(some 14), (.bin .geq (.t 13) (.c (int 0))), none⟩] []) (.cond (.t 14) (.seq (.region [⟨(some 15), (.build [int 0, str ⟨#[]⟩, int 0, .ls true []] []), none⟩, ⟨(some 16), (.mv (.t 5)), none⟩, ⟨none, (.store 4 (.t 2) (.t 15)), none⟩, ⟨(some 3), (.mv (.t 16)), none⟩] []) .ret) .skip)) (.seq (.region [⟨(some 17), (.mv (.t 4)), none⟩, ⟨(some 18), (.build [.ls true [], int 0, int 0] [(0, 1, .t 17), (2, 1, .c (int (-1)))]), none⟩, ⟨(some 19), (.box (.t 18)), none⟩, ⟨(some 6), (.mv (.t 19)), none⟩] []) (.seq (.region [⟨(some 20), (.build [int 0, str ⟨#[]⟩, int 0, .ls true []] [(0, 1, .c (int 1))]), none⟩, ⟨(some 7), (.alloc [int 0, str ⟨#[]⟩, int 0, .ls true []]), none⟩, ⟨none, (.store 4 (.t 7) (.t 20)), none⟩] []) (.seq (.block 0 (.loop lp19_0 [2, 6, 7] [2, 3, 6, 7])) (.seq (.seq (.region [⟨(some 39), (.mv (.t 6)), none⟩, ⟨(some 40), (.nilc (.t 39)), none⟩, ⟨(some 41), (.fld 2 (.t 40)), none⟩, ⟨(some 42), (.load 1 false (.t 41)), none⟩, ⟨(some 43), (.bin .geq (.t 42) (.c (int 0))), none⟩] []) (.cond (.t 43) (.seq (.region [⟨(some 44), (.build [int 0, str ⟨#[]⟩, int 0, .ls true []] []), none⟩, ⟨(some 45), (.mv (.t 6)), none⟩, ⟨(some 46), (.nilc (.t 45)), none⟩, ⟨(some 47), (.fld 2 (.t 46)), none⟩, ⟨(some 48), (.load 1 false (.t 47)), none⟩, ⟨none, (.store 4 (.t 2) (.t 44)), none⟩, ⟨(some 3), (.mv (.t 48)), none⟩] [(0, 1), (0, 2), (0, 3), (0, 4), (1, 5), (2, 5), (3, 5), (4, 5)]) .ret) .skip)) (.seq (.seq (.region [⟨(some 49), (.load 4 true (.t 7)), none⟩, ⟨(some 50), (.call 10 [.t 49]), none⟩, ⟨(some 51), (.bin .gtr (.t 50) (.c (int 200))), none⟩, ⟨(some 52), (.mv (.t 51)), none⟩, ⟨(some 53), (.load 4 true (.t 7)), (some (52, false))⟩, ⟨(some 54), (.call 9 [.t 53]), (some (52, false))⟩, ⟨(some 55), (.bin .gtr (.t 54) (.c (int 20))), (some (52, false))⟩, ⟨(some 56), (.pick (.t 52) (.c (bool true)) (.t 55)), none⟩] []) (.cond (.t 56) (.seq (.region [⟨(some 57), (.build [int 0, str ⟨#[]⟩, int 0, .ls true []] []), none⟩, ⟨none, (.store 4 (.t 2) (.t 57)), none⟩, ⟨(some 3), (.mv (.c (int 0))), none⟩] []) .ret) .skip)) (.seq (.region [⟨(some 58), (.load 4 true (.t 7)), none⟩, ⟨none, (.store 4 (.t 2) (.t 58)), none⟩, ⟨(some 3), (.mv (.c (int (-1)))), none⟩] []) .ret))))))))), [.c 2 4 true, .t 3], [], []⟩
def ir20 : IFun := ⟨(.seq (.region [⟨(some 2), (.mv (.c (str ⟨#[]⟩))), none⟩] []) (.seq (.region [⟨(some 3), (.mv (.t 0)), none⟩, ⟨(some 4), (.call 26 []), none⟩, ⟨(some 5), (.call 17 [.t 3, .t 4]), none⟩, ⟨(some 2), (.mv (.t 5)), none⟩] []) .ret)), [.t 2], [], []⟩
def ir21 : IFun := ⟨(.seq (.region [⟨(some 2), (.mv (.c (int 0))), none⟩] []) (.seq (.region [⟨(some 4), (.mv (.t 0)), none⟩, ⟨(some 5), (.mv (.t 0)), none⟩, ⟨(some 6), (.nilc (.t 5)), none⟩, ⟨(some 7), (.fld 2 (.t 6)), none⟩, ⟨(some 8), (.load 1 false (.t 7)), none⟩, ⟨(some 9), (.bin .mul (.t 8) (.c (int 6364136223846793005))), none⟩, ⟨(some 10), (.bin .add (.t 9) (.c (int 1442695040888963407))), none⟩, ⟨(some 11), (.nilc (.t 4)), none⟩, ⟨(some 12), (.fld 2 (.t 11)), none⟩, ⟨none, (.store 1 (.t 12) (.t 10)), none⟩] []) (.seq (.region [⟨(some 13), (.mv (.t 0)), none⟩, ⟨(some 14), (.nilc (.t 13)), none⟩, ⟨(some 15), (.fld 2 (.t 14)), none⟩, ⟨(some 16), (.load 1 false (.t 15)), none⟩, ⟨(some 17), (.bin .shr (.t 16) (.c (intK .u64 33))), none⟩, ⟨(some 18), (.mv (.t 0)), none⟩, ⟨(some 19), (.nilc (.t 18)), none⟩, ⟨(some 20), (.fld 2 (.t 19)), none⟩, ⟨(some 21), (.load 1 false (.t 20)), none⟩, ⟨(some 22), (.bin .shr (.t 21) (.c (intK .u64 45))), none⟩, ⟨(some 23), (.bin .xor (.t 17) (.t 22)), none⟩, ⟨(some 24), (.bin .and (.t 23) (.c (int 255))), none⟩, ⟨(some 3), (.mv (.t 24)), none⟩] [(0, 5), (1, 5), (2, 5), (3, 5), (4, 5), (0, 6), (1, 6), (2, 6), (3, 6), (4, 6), (0, 7), (1, 7), (2, 7), (3, 7), (4, 7), (0, 8), (1, 8), (2, 8), (3, 8), (4, 8), (0, 9), (1, 9), (2, 9), (3, 9), (4, 9)]) (.seq (.seq (.region [⟨(some 25), (.mv (.t 0)), none⟩, ⟨(some 26), (.nilc (.t 25)), none⟩, ⟨(some 27), (.fld 1 (.t 26)), none⟩, ⟨(some 28), (.load 1 false (.t 27)), none⟩, ⟨(some 29), (.mv (.t 0)), none⟩, ⟨(some 30), (.nilc (.t 29)), none⟩, ⟨(some 31), (.fld 0 (.t 30)), none⟩, ⟨(some 32), (.load 1 false (.t 31)), none⟩, ⟨(some 33), (.len 0 (.t 32)), none⟩, ⟨(some 34), (.bin .lss (.t 28) (.t 33)), none⟩] [(0, 4), (1, 4), (2, 4), (3, 4), (0, 5), (1, 5), (2, 5), (3, 5), (0, 6), (1, 6), (2, 6), (3, 6), (0, 7), (1, 7), (2, 7), (3, 7), (0, 8), (1, 8), (2, 8), (3, 8)]) (.cond (.t 34) (.seq (.region [⟨(some 35), (.mv (.t 3)), none⟩, ⟨(some 36), (.mv (.t 0)), none⟩, ⟨(some 37), (.nilc (.t 36)), none⟩, ⟨(some 38), (.fld 0 (.t 37)), none⟩, ⟨(some 39), (.load 1 false (.t 38)), none⟩, ⟨(some 40), (.mv (.t 0)), none⟩, ⟨(some 41), (.nilc (.t 40)), none⟩, ⟨(some 42), (.fld 1 (.t 41)), none⟩, ⟨(some 43), (.load 1 false (.t 42)), none⟩, ⟨(some 44), (.idx 1 (.t 39) (.t 43)), none⟩, ⟨(some 45), (.load 1 false (.t 44)), none⟩, ⟨(some 46), (.conv .i64 (.t 45)), none⟩, ⟨(some 47), (.bin .add (.t 35) (.t 46)), none⟩, ⟨(some 48), (.bin .and (.t 47) (.c (int 255))), none⟩, ⟨(some 3), (.mv (.t 48)), none⟩] [(0, 1), (0, 2), (0, 3), (0, 4), (0, 5), (1, 5), (2, 5), (3, 5), (4, 5), (0, 6), (1, 6), (2, 6), (3, 6), (4, 6), (0, 7), (1, 7), (2, 7), (3, 7), (4, 7), (0, 8), (1, 8), (2, 8), (3, 8), (4, 8), (0, 9), (0, 10), (0, 11)]) (.region [⟨(some 49), (.mv (.t 0)), none⟩, ⟨(some 50), (.mv (.t 0)), none⟩, ⟨(some 51), (.nilc (.t 50)), none⟩, ⟨(some 52), (.fld 1 (.t 51)), none⟩, ⟨(some 53), (.load 1 false (.t 52)), none⟩, ⟨(some 54), (.bin .add (.t 53) (.c (int 1))), none⟩, ⟨(some 55), (.nilc (.t 49)), none⟩, ⟨(some 56), (.fld 1 (.t 55)), none⟩, ⟨none, (.store 1 (.t 56) (.t 54)), none⟩] [])) .skip)) (.seq (.region [⟨(some 57), (.mv (.t 3)), none⟩, ⟨(some 2), (.mv (.t 57)), none⟩] []) .ret))))), [.t 2], [], []⟩
def ir22 : IFun := ⟨(.seq (.region [⟨(some 4), (.mv (.c (int 0))), none⟩] []) (.seq (.region [⟨(some 5), (.mv (.t 1)), none⟩, ⟨(some 6), (.mv (.t 0)), none⟩, ⟨(some 7), (.mv (.t 1)), none⟩, ⟨(some 8), (.len 0 (.t 7)), none⟩, ⟨(some 9), (.call 16 [.t 6, .t 8]), none⟩, ⟨(some 10), (.idx 1 (.t 5) (.t 9)), none⟩, ⟨(some 11), (.load 1 false (.t 10)), none⟩, ⟨(some 4), (.mv (.t 11)), none⟩] []) .ret)), [.t 4], [], []⟩
def lp23_0 : IC := (.seq (.seq (.region [⟨(some 14), (.mv (.t 5)), none⟩, ⟨(some 15), (.mv (.t 0)), none⟩, ⟨(some 16), (.len 1 (.t 15)), none⟩, ⟨(some 17), (.bin .lss (.t 14) (.t 16)), none⟩] []) (.cond (.t 17) .skip (.exit 0))) (.block 1 (.seq (.seq (.region [⟨(some 18), (.mv (.t 0)), none⟩, ⟨(some 19), (.mv (.t 5)), none⟩, ⟨(some 20), (.sidx (.t 18) (.t 19)), none⟩, ⟨(some 21), (.bin .eql (.t 20) (.c (intK .u8 32))), none⟩, ⟨(some 22), (.mv (.t 21)), none⟩, ⟨(some 23), (.mv (.t 0)), (some (22, false))⟩, ⟨(some 24), (.mv (.t 5)), (some (22, false))⟩, ⟨(some 25), (.sidx (.t 23) (.t 24)), (some (22, false))⟩, ⟨(some 26), (.bin .eql (.t 25) (.c (intK .u8 10))), (some (22, false))⟩, ⟨(some 27), (.pick (.t 22) (.c (bool true)) (.t 26)), none⟩] []) (.cond (.t 27) (.seq (.region [⟨(some 28), (.mv (.t 5)), none⟩, ⟨(some 29), (.bin .add (.t 28) (.c (int 1))), none⟩, ⟨(some 5), (.mv (.t 29)), none⟩] []) (.exit 1)) .skip)) (.seq (.region [⟨(some 31), (.mv (.t 0)), none⟩, ⟨(some 32), (.mv (.t 5)), none⟩, ⟨(some 33), (.call 27 [.t 31, .t 32]), none⟩, ⟨(some 30), (.mv (.t 33)), none⟩, ⟨(some 34), (.ext 0 (.t 30)), none⟩, ⟨(some 35), (.ext 1 (.t 30)), none⟩, ⟨(some 36), (.ext 2 (.t 30)), none⟩, ⟨(some 6), (.alloc [int 0, str ⟨#[]⟩, int 0, int 0]), none⟩, ⟨none, (.store 4 (.t 6) (.t 34)), none⟩, ⟨(some 7), (.mv (.t 35)), none⟩, ⟨(some 8), (.mv (.t 36)), none⟩] []) (.seq (.seq (.region [⟨(some 37), (.mv (.t 8)), none⟩, ⟨(some 38), (.un .not (.t 37)), none⟩] []) (.cond (.t 38) (.seq (.region [⟨(some 39), (.bsl [int 0, str ⟨#[]⟩, int 0, int 0] 0 []), none⟩, ⟨(some 40), (.mv (.t 5)), none⟩, ⟨(some 2), (.mv (.t 39)), none⟩, ⟨(some 3), (.mv (.t 40)), none⟩] []) .ret) .skip)) (.seq (.region [⟨(some 41), (.mv (.t 4)), none⟩, ⟨(some 42), (.load 4 true (.t 6)), none⟩, ⟨(some 43), (.bsl [int 0, str ⟨#[]⟩, int 0, int 0] 1 [(0, .t 42)]), none⟩, ⟨(some 44), (.app 4 40 true (.t 41) (.t 43)), none⟩, ⟨(some 4), (.mv (.t 44)), none⟩] []) (.region [⟨(some 45), (.mv (.t 7)), none⟩, ⟨(some 5), (.mv (.t 45)), none⟩] [])))))))
def ir23 : IFun := ⟨(.seq (.region [⟨(some 2), (.mv (.c (.ls true []))), none⟩, ⟨(some 3), (.mv (.c (int 0))), none⟩] []) (.seq (.region [⟨(some 9), (.bsl [int 0, str ⟨#[]⟩, int 0, int 0] 0 []), none⟩, ⟨(some 4), (.mv (.t 9)), none⟩] []) (.seq (.seq (.region [⟨(some 10), (.mv (.t 0)), none⟩, ⟨(some 11), (.len 1 (.t 10)), none⟩, ⟨(some 12), (.bin .gtr (.t 11) (.c (int 800))), none⟩] []) (.cond (.t 12) (.seq (.region [⟨(some 13), (.mv (.t 4)), none⟩, ⟨(some 2), (.mv (.t 13)), none⟩, ⟨(some 3), (.mv (.c (int 0))), none⟩] []) .ret) .skip)) (.seq (.region [⟨(some 5), (.mv (.c (int 0))), none⟩] []) (.seq (.block 0 (.loop lp23_0 [0, 4, 5] [0, 2, 3, 4])) (.seq (.region [⟨(some 46), (.mv (.t 4)), none⟩, ⟨(some 47), (.mv (.t 0)), none⟩, ⟨(some 48), (.len 1 (.t 47)), none⟩, ⟨(some 49), (.build [int 0, str ⟨#[]⟩, int 0, int 0] [(0, 1, .c (int 0)), (3, 1, .t 48)]), none⟩, ⟨(some 50), (.bsl [int 0, str ⟨#[]⟩, int 0, int 0] 1 [(0, .t 49)]), none⟩, ⟨(some 51), (.app 4 40 true (.t 46) (.t 50)), none⟩, ⟨(some 2), (.mv (.t 51)), none⟩, ⟨(some 3), (.mv (.c (int (-1)))), none⟩] []) .ret)))))), [.t 2, .t 3], [], []⟩
def ir24 : IFun := ⟨(.seq (.region [⟨(some 2), (.alloc [int 0, str ⟨#[]⟩, int 0, int 0]), none⟩] []) (.seq (.region [⟨(some 3), (.mv (.t 0)), none⟩, ⟨(some 4), (.nilc (.t 3)), none⟩, ⟨(some 5), (.fld 0 (.t 4)), none⟩, ⟨(some 6), (.load 1 false (.t 5)), none⟩, ⟨(some 7), (.mv (.t 0)), none⟩, ⟨(some 8), (.nilc (.t 7)), none⟩, ⟨(some 9), (.fld 1 (.t 8)), none⟩, ⟨(some 10), (.load 1 false (.t 9)), none⟩, ⟨(some 11), (.idx 4 (.t 6) (.t 10)), none⟩, ⟨(some 12), (.load 4 true (.t 11)), none⟩, ⟨none, (.store 4 (.t 2) (.t 12)), none⟩] [(0, 4), (1, 4), (2, 4), (3, 4), (0, 5), (1, 5), (2, 5), (3, 5), (0, 6), (1, 6), (2, 6), (3, 6), (0, 7), (1, 7), (2, 7), (3, 7)]) .ret)), [.c 2 4 true], [], []⟩
def ir25 : IFun := ⟨(.seq (.region [⟨(some 2), (.alloc [int 0, str ⟨#[]⟩, int 0, .ls true []]), none⟩] []) (.seq (.block 0 (.seq (.region [⟨(some 8), (.mv (.t 0)), none⟩, ⟨(some 9), (.call 28 [.t 8, .c (str ⟨#[108, 101, 116]⟩)]), none⟩, ⟨(some 7), (.mv (.t 9)), none⟩] []) (.cond (.t 7) (.seq (.region [⟨(some 10), (.mv (.t 0)), none⟩, ⟨(some 11), (.call 29 [.t 10]), none⟩] []) (.seq (.region [⟨(some 12), (.mv (.t 0)), none⟩, ⟨(some 13), (.call 30 [.t 12, .c (bool false)]), none⟩, ⟨(some 3), (.mv (.t 13)), none⟩] []) (.seq (.region [⟨(some 14), (.mv (.t 0)), none⟩, ⟨(some 15), (.call 31 [.t 14, .c (str ⟨#[61]⟩)]), none⟩] []) (.seq (.region [⟨(some 16), (.mv (.t 0)), none⟩, ⟨(some 17), (.call 32 [.t 16]), none⟩, ⟨(some 4), (.alloc [int 0, str ⟨#[]⟩, int 0, .ls true []]), none⟩, ⟨none, (.store 4 (.t 4) (.t 17)), none⟩] []) (.seq (.region [⟨(some 18), (.mv (.t 0)), none⟩, ⟨(some 19), (.call 31 [.t 18, .c (str ⟨#[59]⟩)]), none⟩] []) (.seq (.region [⟨(some 20), (.mv (.t 3)), none⟩, ⟨(some 21), (.load 4 true (.t 4)), none⟩, ⟨(some 22), (.bsl [int 0, str ⟨#[]⟩, int 0, .ls true []] 1 [(0, .t 21)]), none⟩, ⟨(some 23), (.build [int 0, str ⟨#[]⟩, int 0, .ls true []] [(0, 1, .c (int 2)), (1, 1, .t 20), (3, 1, .t 22)]), none⟩, ⟨none, (.store 4 (.t 2) (.t 23)), none⟩] []) .ret)))))) (.seq (.region [⟨(some 25), (.mv (.t 0)), none⟩, ⟨(some 26), (.call 28 [.t 25, .c (str ⟨#[105, 102]⟩)]), none⟩, ⟨(some 24), (.mv (.t 26)), none⟩] []) (.cond (.t 24) (.seq (.region [⟨(some 27), (.mv (.t 0)), none⟩, ⟨(some 28), (.call 33 [.t 27, .c (int 5)]), none⟩, ⟨none, (.store 4 (.t 2) (.t 28)), none⟩] []) .ret) (.seq (.region [⟨(some 30), (.mv (.t 0)), none⟩, ⟨(some 31), (.call 28 [.t 30, .c (str ⟨#[119, 104, 105, 108, 101]⟩)]), none⟩, ⟨(some 29), (.mv (.t 31)), none⟩] []) (.cond (.t 29) (.seq (.region [⟨(some 32), (.mv (.t 0)), none⟩, ⟨(some 33), (.call 33 [.t 32, .c (int 6)]), none⟩, ⟨none, (.store 4 (.t 2) (.t 33)), none⟩] []) .ret) (.seq (.region [⟨(some 35), (.mv (.t 0)), none⟩, ⟨(some 36), (.call 28 [.t 35, .c (str ⟨#[114, 101, 116, 117, 114, 110]⟩)]), none⟩, ⟨(some 34), (.mv (.t 36)), none⟩] []) (.cond (.t 34) (.seq (.region [⟨(some 37), (.mv (.t 0)), none⟩, ⟨(some 38), (.call 34 [.t 37, .c (int 7)]), none⟩, ⟨none, (.store 4 (.t 2) (.t 38)), none⟩] []) .ret) (.seq (.region [⟨(some 40), (.mv (.t 0)), none⟩, ⟨(some 41), (.call 28 [.t 40, .c (str ⟨#[112, 114, 105, 110, 116]⟩)]), none⟩, ⟨(some 39), (.mv (.t 41)), none⟩] []) (.cond (.t 39) (.seq (.region [⟨(some 42), (.mv (.t 0)), none⟩, ⟨(some 43), (.call 34 [.t 42, .c (int 8)]), none⟩, ⟨none, (.store 4 (.t 2) (.t 43)), none⟩] []) .ret) .skip))))))))))) (.seq (.region [⟨(some 44), (.mv (.t 0)), none⟩, ⟨(some 45), (.call 32 [.t 44]), none⟩, ⟨(some 5), (.alloc [int 0, str ⟨#[]⟩, int 0, .ls true []]), none⟩, ⟨none, (.store 4 (.t 5) (.t 45)), none⟩] []) (.seq (.seq (.region [⟨(some 46), (.mv (.t 0)), none⟩, ⟨(some 47), (.call 35 [.t 46, .c (str ⟨#[61]⟩)]), none⟩, ⟨(some 48), (.mv (.t 47)), none⟩, ⟨(some 49), (.fld 0 (.t 5)), (some (48, true))⟩, ⟨(some 50), (.load 1 false (.t 49)), (some (48, true))⟩, ⟨(some 51), (.bin .eql (.t 50) (.c (int 16))), (some (48, true))⟩, ⟨(some 52), (.mv (.t 51)), (some (48, true))⟩, ⟨(some 53), (.fld 0 (.t 5)), (some (52, false))⟩, ⟨(some 54), (.load 1 false (.t 53)), (some (52, false))⟩, ⟨(some 55), (.bin .eql (.t 54) (.c (int 17))), (some (52, false))⟩, ⟨(some 56), (.pick (.t 52) (.c (bool true)) (.t 55)), (some (48, true))⟩, ⟨(some 57), (.pick (.t 48) (.t 56) (.c (bool false))), none⟩] []) (.cond (.t 57) (.seq (.region [⟨(some 58), (.mv (.t 0)), none⟩, ⟨(some 59), (.call 29 [.t 58]), none⟩] []) (.seq (.region [⟨(some 60), (.mv (.t 0)), none⟩, ⟨(some 61), (.call 32 [.t 60]), none⟩, ⟨(some 6), (.alloc [int 0, str ⟨#[]⟩, int 0, .ls true []]), none⟩, ⟨none, (.store 4 (.t 6) (.t 61)), none⟩] []) (.seq (.region [⟨(some 62), (.mv (.t 0)), none⟩, ⟨(some 63), (.call 31 [.t 62, .c (str ⟨#[59]⟩)]), none⟩] []) (.seq (.seq (.region [⟨(some 64), (.fld 0 (.t 5)), none⟩, ⟨(some 65), (.load 1 false (.t 64)), none⟩, ⟨(some 66), (.bin .eql (.t 65) (.c (int 16))), none⟩] []) (.cond (.t 66) (.seq (.region [⟨(some 67), (.fld 1 (.t 5)), none⟩, ⟨(some 68), (.load 1 false (.t 67)), none⟩, ⟨(some 69), (.load 4 true (.t 6)), none⟩, ⟨(some 70), (.bsl [int 0, str ⟨#[]⟩, int 0, .ls true []] 1 [(0, .t 69)]), none⟩, ⟨(some 71), (.build [int 0, str ⟨#[]⟩, int 0, .ls true []] [(0, 1, .c (int 3)), (1, 1, .t 68), (3, 1, .t 70)]), none⟩, ⟨none, (.store 4 (.t 2) (.t 71)), none⟩] []) .ret) .skip)) (.seq (.region [⟨(some 72), (.fld 1 (.t 5)), none⟩, ⟨(some 73), (.load 1 false (.t 72)), none⟩, ⟨(some 74), (.fld 3 (.t 5)), none⟩, ⟨(some 75), (.load 1 false (.t 74)), none⟩, ⟨(some 76), (.idx 4 (.t 75) (.c (int 0))), none⟩, ⟨(some 77), (.take 4 true (.t 76)), none⟩, ⟨(some 78), (.load 4 true (.t 6)), none⟩, ⟨(some 79), (.bsl [int 0, str ⟨#[]⟩, int 0, .ls true []] 2 [(0, .t 77), (1, .t 78)]), none⟩, ⟨(some 80), (.build [int 0, str ⟨#[]⟩, int 0, .ls true []] [(0, 1, .c (int 4)), (1, 1, .t 73), (3, 1, .t 79)]), none⟩, ⟨none, (.store 4 (.t 2) (.t 80)), none⟩] [(0, 2), (1, 2), (0, 3), (1, 3), (0, 4), (1, 4), (0, 5), (1, 5), (0, 6), (1, 6), (2, 6), (3, 6), (4, 6), (5, 6), (0, 7), (1, 7)]) .ret))))) .skip)) (.seq (.region [⟨(some 81), (.mv (.t 0)), none⟩, ⟨(some 82), (.call 31 [.t 81, .c (str ⟨#[59]⟩)]), none⟩] []) (.seq (.region [⟨(some 83), (.load 4 true (.t 5)), none⟩, ⟨(some 84), (.bsl [int 0, str ⟨#[]⟩, int 0, .ls true []] 1 [(0, .t 83)]), none⟩, ⟨(some 85), (.call 36 [.c (int 9), .t 84]), none⟩, ⟨none, (.store 4 (.t 2) (.t 85)), none⟩] []) .ret)))))), [.c 2 4 true], [], [77]⟩
def ir26 : IFun := ⟨(.seq (.region [⟨(some 0), (.mv (.c (.ls true []))), none⟩] []) (.seq (.region [⟨(some 1), (.bsl [str ⟨#[]⟩] 12 [(0, .c (str ⟨#[108, 101, 116, 32, 120, 32, 61, 32, 53, 59, 10, 112, 114, 105, 110, 116, 32, 120, 32, 43, 32, 50, 32, 42, 32, 51, 59, 10]⟩)), (1, .c (str ⟨#[108, 101, 116, 32, 102, 32, 61, 32, 102, 117, 110, 99, 116, 105, 111, 110, 40, 97, 44, 32, 98, 41, 32, 123, 32, 114, 101, 116, 117, 114, 110, 32, 97, 32, 43, 32, 98, 59, 32, 125, 59, 10, 112, 114, 105, 110, 116, 32, 102, 40, 49, 44, 32, 50, 41, 59, 10, 112, 114, 105, 110, 116, 32, 102, 40, 34, 97, 34, 44, 32, 34, 98, 34, 41, 59, 10]⟩)), (2, .c (str ⟨#[108, 101, 116, 32, 111, 32, 61, 32, 123, 97, 58, 32, 49, 44, 32, 98, 58, 32, 123, 99, 58, 32, 50, 125, 125, 59, 10, 111, 46, 100, 32, 61, 32, 111, 46, 97, 32, 43, 32, 111, 46, 98, 46, 99, 59, 10, 112, 114, 105, 110, 116, 32, 111, 46, 100, 59, 10, 112, 114, 105, 110, 116, 32, 111, 46, 122, 122, 59, 10]⟩)), (3, .c (str ⟨#[108, 101, 116, 32, 105, 32, 61, 32, 48, 59, 10, 108, 101, 116, 32, 115, 32, 61, 32, 34, 34, 59, 10, 119, 104, 105, 108, 101, 32, 40, 105, 32, 60, 32, 52, 41, 32, 123, 32, 115, 32, 61, 32, 115, 32, 43, 32, 34, 120, 34, 59, 32, 105, 32, 61, 32, 105, 32, 43, 32, 49, 59, 32, 112, 114, 105, 110, 116, 32, 115, 59, 32, 125, 10]⟩)), (4, .c (str ⟨#[108, 101, 116, 32, 112, 32, 61, 32, 123, 110, 58, 32, 55, 125, 59, 10, 108, 101, 116, 32, 113, 32, 61, 32, 123, 125, 59, 10, 113, 46, 112, 114, 111, 116, 111, 32, 61, 32, 112, 59, 10, 112, 114, 105, 110, 116, 32, 113, 46, 110, 59, 10, 113, 46, 110, 32, 61, 32, 56, 59, 10, 112, 114, 105, 110, 116, 32, 112, 46, 110, 59, 10, 112, 114, 105, 110, 116, 32, 113, 46, 112, 114, 111, 116, 111, 32, 61, 61, 32, 112, 59, 10]⟩)), (5, .c (str ⟨#[108, 101, 116, 32, 99, 32, 61, 32, 102, 117, 110, 99, 116, 105, 111, 110, 40, 41, 32, 123, 32, 108, 101, 116, 32, 110, 32, 61, 32, 48, 59, 32, 114, 101, 116, 117, 114, 110, 32, 102, 117, 110, 99, 116, 105, 111, 110, 40, 41, 32, 123, 32, 110, 32, 61, 32, 110, 32, 43, 32, 49, 59, 32, 114, 101, 116, 117, 114, 110, 32, 110, 59, 32, 125, 59, 32, 125, 59, 10, 108, 101, 116, 32, 100, 32, 61, 32, 99, 40, 41, 59, 10, 100, 40, 41, 59, 10, 112, 114, 105, 110, 116, 32, 100, 40, 41, 59, 10, 112, 114, 105, 110, 116, 32, 99, 40, 41, 40, 41, 59, 10]⟩)), (6, .c (str ⟨#[108, 101, 116, 32, 108, 32, 61, 32, 110, 117, 108, 108, 59, 10, 108, 101, 116, 32, 105, 32, 61, 32, 48, 59, 10, 119, 104, 105, 108, 101, 32, 40, 105, 32, 60, 32, 54, 41, 32, 123, 32, 108, 32, 61, 32, 123, 118, 58, 32, 105, 44, 32, 110, 101, 120, 116, 58, 32, 108, 125, 59, 32, 105, 32, 61, 32, 105, 32, 43, 32, 49, 59, 32, 125, 10, 119, 104, 105, 108, 101, 32, 40, 33, 40, 108, 32, 61, 61, 32, 110, 117, 108, 108, 41, 41, 32, 123, 32, 112, 114, 105, 110, 116, 32, 108, 46, 118, 59, 32, 108, 32, 61, 32, 108, 46, 110, 101, 120, 116, 59, 32, 125, 10]⟩)), (7, .c (str ⟨#[108, 101, 116, 32, 102, 32, 61, 32, 102, 117, 110, 99, 116, 105, 111, 110, 40, 110, 41, 32, 123, 32, 105, 102, 32, 40, 110, 32, 60, 32, 50, 41, 32, 123, 32, 114, 101, 116, 117, 114, 110, 32, 110, 59, 32, 125, 32, 101, 108, 115, 101, 32, 123, 32, 114, 101, 116, 117, 114, 110, 32, 102, 40, 110, 32, 45, 32, 49, 41, 32, 43, 32, 102, 40, 110, 32, 45, 32, 50, 41, 59, 32, 125, 32, 125, 59, 10, 112, 114, 105, 110, 116, 32, 102, 40, 54, 41, 59, 10]⟩)), (8, .c (str ⟨#[108, 101, 116, 32, 97, 32, 61, 32, 123, 125, 59, 10, 97, 46, 112, 114, 111, 116, 111, 32, 61, 32, 97, 59, 10, 112, 114, 105, 110, 116, 32, 97, 46, 113, 59, 10, 112, 114, 105, 110, 116, 32, 49, 32, 60, 32, 34, 97, 34, 59, 10, 112, 114, 105, 110, 116, 32, 51, 59, 10]⟩)), (9, .c (str ⟨#[108, 101, 116, 32, 105, 32, 61, 32, 48, 59, 10, 119, 104, 105, 108, 101, 32, 40, 105, 32, 60, 32, 51, 48, 41, 32, 123, 32, 108, 101, 116, 32, 111, 32, 61, 32, 123, 97, 58, 32, 123, 98, 58, 32, 105, 125, 125, 59, 32, 111, 46, 97, 46, 99, 32, 61, 32, 111, 59, 32, 105, 32, 61, 32, 105, 32, 43, 32, 49, 59, 32, 125, 10, 112, 114, 105, 110, 116, 32, 105, 59, 10]⟩)), (10, .c (str ⟨#[112, 114, 105, 110, 116, 32, 45, 53, 32, 42, 32, 51, 32, 60, 32, 50, 59, 10, 112, 114, 105, 110, 116, 32, 33, 48, 59, 10, 112, 114, 105, 110, 116, 32, 117, 110, 100, 101, 102, 105, 110, 101, 100, 59, 10, 112, 114, 105, 110, 116, 32, 110, 117, 108, 108, 59, 10, 112, 114, 105, 110, 116, 32, 123, 125, 59, 10, 112, 114, 105, 110, 116, 32, 102, 117, 110, 99, 116, 105, 111, 110, 40, 41, 32, 123, 125, 59, 10]⟩)), (11, .c (str ⟨#[108, 101, 116, 32, 102, 32, 61, 32, 102, 117, 110, 99, 116, 105, 111, 110, 40, 110, 41, 32, 123, 32, 114, 101, 116, 117, 114, 110, 32, 102, 40, 110, 32, 43, 32, 49, 41, 59, 32, 125, 59, 10, 102, 40, 48, 41, 59, 10]⟩))]), none⟩, ⟨(some 0), (.mv (.t 1)), none⟩] []) .ret)), [.t 0], [], []⟩
def ir27 : IFun := ⟨(.seq (.region [⟨(some 4), (.alloc [int 0, str ⟨#[]⟩, int 0, int 0]), none⟩, ⟨(some 5), (.mv (.c (int 0))), none⟩, ⟨(some 6), (.mv (.c (bool false))), none⟩] []) (.seq (.block 0 (.seq (.region [⟨(some 18), (.mv (.t 0)), none⟩, ⟨(some 19), (.mv (.t 1)), none⟩, ⟨(some 20), (.sidx (.t 18) (.t 19)), none⟩, ⟨(some 21), (.call 37 [.t 20]), none⟩, ⟨(some 17), (.mv (.t 21)), none⟩] []) (.cond (.t 17) (.seq (.region [⟨(some 23), (.mv (.t 0)), none⟩, ⟨(some 24), (.mv (.t 1)), none⟩, ⟨(some 25), (.call 38 [.t 23, .t 24]), none⟩, ⟨(some 22), (.mv (.t 25)), none⟩, ⟨(some 26), (.ext 0 (.t 22)), none⟩, ⟨(some 27), (.ext 1 (.t 22)), none⟩, ⟨(some 28), (.ext 2 (.t 22)), none⟩, ⟨(some 7), (.alloc [int 0, str ⟨#[]⟩, int 0, int 0]), none⟩, ⟨none, (.store 4 (.t 7) (.t 26)), none⟩, ⟨(some 8), (.mv (.t 27)), none⟩, ⟨(some 9), (.mv (.t 28)), none⟩] []) (.seq (.region [⟨(some 29), (.load 4 true (.t 7)), none⟩, ⟨(some 30), (.mv (.t 8)), none⟩, ⟨(some 31), (.mv (.t 9)), none⟩, ⟨none, (.store 4 (.t 4) (.t 29)), none⟩, ⟨(some 5), (.mv (.t 30)), none⟩, ⟨(some 6), (.mv (.t 31)), none⟩] []) .ret)) (.seq (.region [⟨(some 33), (.mv (.t 0)), none⟩, ⟨(some 34), (.mv (.t 1)), none⟩, ⟨(some 35), (.sidx (.t 33) (.t 34)), none⟩, ⟨(some 36), (.call 39 [.t 35]), none⟩, ⟨(some 32), (.mv (.t 36)), none⟩] []) (.cond (.t 32) (.seq (.region [⟨(some 38), (.mv (.t 0)), none⟩, ⟨(some 39), (.mv (.t 1)), none⟩, ⟨(some 40), (.call 40 [.t 38, .t 39]), none⟩, ⟨(some 37), (.mv (.t 40)), none⟩, ⟨(some 41), (.ext 0 (.t 37)), none⟩, ⟨(some 42), (.ext 1 (.t 37)), none⟩, ⟨(some 43), (.ext 2 (.t 37)), none⟩, ⟨(some 10), (.alloc [int 0, str ⟨#[]⟩, int 0, int 0]), none⟩, ⟨none, (.store 4 (.t 10) (.t 41)), none⟩, ⟨(some 11), (.mv (.t 42)), none⟩, ⟨(some 12), (.mv (.t 43)), none⟩] []) (.seq (.region [⟨(some 44), (.load 4 true (.t 10)), none⟩, ⟨(some 45), (.mv (.t 11)), none⟩, ⟨(some 46), (.mv (.t 12)), none⟩, ⟨none, (.store 4 (.t 4) (.t 44)), none⟩, ⟨(some 5), (.mv (.t 45)), none⟩, ⟨(some 6), (.mv (.t 46)), none⟩] []) .ret)) (.seq (.region [⟨(some 48), (.mv (.t 0)), none⟩, ⟨(some 49), (.mv (.t 1)), none⟩, ⟨(some 50), (.sidx (.t 48) (.t 49)), none⟩, ⟨(some 51), (.bin .eql (.t 50) (.c (intK .u8 34))), none⟩, ⟨(some 47), (.mv (.t 51)), none⟩] []) (.cond (.t 47) (.seq (.region [⟨(some 53), (.mv (.t 0)), none⟩, ⟨(some 54), (.mv (.t 1)), none⟩, ⟨(some 55), (.call 41 [.t 53, .t 54]), none⟩, ⟨(some 52), (.mv (.t 55)), none⟩, ⟨(some 56), (.ext 0 (.t 52)), none⟩, ⟨(some 57), (.ext 1 (.t 52)), none⟩, ⟨(some 58), (.ext 2 (.t 52)), none⟩, ⟨(some 13), (.alloc [int 0, str ⟨#[]⟩, int 0, int 0]), none⟩, ⟨none, (.store 4 (.t 13) (.t 56)), none⟩, ⟨(some 14), (.mv (.t 57)), none⟩, ⟨(some 15), (.mv (.t 58)), none⟩] []) (.seq (.region [⟨(some 59), (.load 4 true (.t 13)), none⟩, ⟨(some 60), (.mv (.t 14)), none⟩, ⟨(some 61), (.mv (.t 15)), none⟩, ⟨none, (.store 4 (.t 4) (.t 59)), none⟩, ⟨(some 5), (.mv (.t 60)), none⟩, ⟨(some 6), (.mv (.t 61)), none⟩] []) .ret)) .skip))))))) (.seq (.region [⟨(some 62), (.mv (.t 0)), none⟩, ⟨(some 63), (.mv (.t 1)), none⟩, ⟨(some 64), (.call 42 [.t 62, .t 63]), none⟩, ⟨(some 16), (.mv (.t 64)), none⟩] []) (.seq (.region [⟨(some 65), (.mv (.t 16)), none⟩, ⟨(some 66), (.mv (.t 1)), none⟩, ⟨(some 67), (.build [int 0, str ⟨#[]⟩, int 0, int 0] [(0, 1, .c (int 4)), (1, 1, .t 65), (3, 1, .t 66)]), none⟩, ⟨(some 68), (.mv (.t 1)), none⟩, ⟨(some 69), (.mv (.t 16)), none⟩, ⟨(some 70), (.len 1 (.t 69)), none⟩, ⟨(some 71), (.bin .add (.t 68) (.t 70)), none⟩, ⟨(some 72), (.mv (.t 16)), none⟩, ⟨(some 73), (.bin .neq (.t 72) (.c (str ⟨#[]⟩))), none⟩, ⟨none, (.store 4 (.t 4) (.t 67)), none⟩, ⟨(some 5), (.mv (.t 71)), none⟩, ⟨(some 6), (.mv (.t 73)), none⟩] []) .ret)))), [.c 4 4 true, .t 5, .t 6], [], []⟩
def ir28 : IFun := ⟨(.seq (.region [⟨(some 4), (.mv (.c (bool false))), none⟩] []) (.seq (.region [⟨(some 6), (.mv (.t 0)), none⟩, ⟨(some 7), (.call 24 [.t 6]), none⟩, ⟨(some 5), (.alloc [int 0, str ⟨#[]⟩, int 0, int 0]), none⟩, ⟨none, (.store 4 (.t 5) (.t 7)), none⟩] []) (.seq (.region [⟨(some 8), (.mv (.t 0)), none⟩, ⟨(some 9), (.nilc (.t 8)), none⟩, ⟨(some 10), (.fld 2 (.t 9)), none⟩, ⟨(some 11), (.load 1 false (.t 10)), none⟩, ⟨(some 12), (.bin .lss (.t 11) (.c (int 0))), none⟩, ⟨(some 13), (.mv (.t 12)), none⟩, ⟨(some 14), (.fld 0 (.t 5)), (some (13, true))⟩, ⟨(some 15), (.load 1 false (.t 14)), (some (13, true))⟩, ⟨(some 16), (.bin .eql (.t 15) (.c (int 1))), (some (13, true))⟩, ⟨(some 17), (.pick (.t 13) (.t 16) (.c (bool false))), none⟩, ⟨(some 18), (.mv (.t 17)), none⟩, ⟨(some 19), (.fld 1 (.t 5)), (some (18, true))⟩, ⟨(some 20), (.load 1 false (.t 19)), (some (18, true))⟩, ⟨(some 21), (.mv (.t 1)), (some (18, true))⟩, ⟨(some 22), (.bin .eql (.t 20) (.t 21)), (some (18, true))⟩, ⟨(some 23), (.pick (.t 18) (.t 22) (.c (bool false))), none⟩, ⟨(some 4), (.mv (.t 23)), none⟩] []) .ret))), [.t 4], [], []⟩
def ir29 : IFun := ⟨(.seq (.region [⟨(some 2), (.mv (.t 0)), none⟩, ⟨(some 3), (.nilc (.t 2)), none⟩, ⟨(some 4), (.fld 1 (.t 3)), none⟩, ⟨(some 5), (.load 1 false (.t 4)), none⟩, ⟨(some 6), (.mv (.t 0)), none⟩, ⟨(some 7), (.nilc (.t 6)), none⟩, ⟨(some 8), (.fld 0 (.t 7)), none⟩, ⟨(some 9), (.load 1 false (.t 8)), none⟩, ⟨(some 10), (.len 0 (.t 9)), none⟩, ⟨(some 11), (.bin .sub (.t 10) (.c (int 1))), none⟩, ⟨(some 12), (.bin .lss (.t 5) (.t 11)), none⟩] [(0, 4), (1, 4), (2, 4), (3, 4), (0, 5), (1, 5), (2, 5), (3, 5), (0, 6), (1, 6), (2, 6), (3, 6), (0, 7), (1, 7), (2, 7), (3, 7), (0, 8), (1, 8), (2, 8), (3, 8), (0, 9), (1, 9), (2, 9), (3, 9)]) (.cond (.t 12) (.region [⟨(some 13), (.mv (.t 0)), none⟩, ⟨(some 14), (.nilc (.t 13)), none⟩, ⟨(some 15), (.fld 1 (.t 14)), none⟩, ⟨(some 16), (.load 1 false (.t 15)), none⟩, ⟨(some 17), (.bin .add (.t 16) (.c (int 1))), none⟩, ⟨(some 18), (.nilc (.t 13)), none⟩, ⟨(some 19), (.fld 1 (.t 18)), none⟩, ⟨none, (.store 1 (.t 19) (.t 17)), none⟩] []) .skip)), [], [], []⟩
def ir30 : IFun := ⟨(.seq (.region [⟨(some 4), (.mv (.c (str ⟨#[]⟩))), none⟩] []) (.seq (.region [⟨(some 6), (.mv (.t 0)), none⟩, ⟨(some 7), (.call 24 [.t 6]), none⟩, ⟨(some 5), (.alloc [int 0, str ⟨#[]⟩, int 0, int 0]), none⟩, ⟨none, (.store 4 (.t 5) (.t 7)), none⟩] []) (.seq (.seq (.region [⟨(some 8), (.mv (.t 0)), none⟩, ⟨(some 9), (.nilc (.t 8)), none⟩, ⟨(some 10), (.fld 2 (.t 9)), none⟩, ⟨(some 11), (.load 1 false (.t 10)), none⟩, ⟨(some 12), (.bin .geq (.t 11) (.c (int 0))), none⟩, ⟨(some 13), (.mv (.t 12)), none⟩, ⟨(some 14), (.fld 0 (.t 5)), (some (13, false))⟩, ⟨(some 15), (.load 1 false (.t 14)), (some (13, false))⟩, ⟨(some 16), (.bin .neq (.t 15) (.c (int 1))), (some (13, false))⟩, ⟨(some 17), (.pick (.t 13) (.c (bool true)) (.t 16)), none⟩, ⟨(some 18), (.mv (.t 17)), none⟩, ⟨(some 19), (.load 4 true (.t 5)), (some (18, false))⟩, ⟨(some 20), (.call 43 [.t 19]), (some (18, false))⟩, ⟨(some 21), (.mv (.t 20)), (some (18, false))⟩, ⟨(some 22), (.mv (.t 1)), (some (21, true))⟩, ⟨(some 23), (.un .not (.t 22)), (some (21, true))⟩, ⟨(some 24), (.mv (.t 23)), (some (21, true))⟩, ⟨(some 25), (.fld 1 (.t 5)), (some (24, false))⟩, ⟨(some 26), (.load 1 false (.t 25)), (some (24, false))⟩, ⟨(some 27), (.bin .neq (.t 26) (.c (str ⟨#[112, 114, 111, 116, 111]⟩))), (some (24, false))⟩, ⟨(some 28), (.pick (.t 24) (.c (bool true)) (.t 27)), (some (21, true))⟩, ⟨(some 29), (.pick (.t 21) (.t 28) (.c (bool false))), (some (18, false))⟩, ⟨(some 30), (.pick (.t 18) (.c (bool true)) (.t 29)), none⟩] []) (.cond (.t 30) (.seq (.region [⟨(some 31), (.mv (.t 0)), none⟩, ⟨(some 32), (.call 44 [.t 31]), none⟩] []) (.seq (.region [⟨(some 4), (.mv (.c (str ⟨#[]⟩))), none⟩] []) .ret)) .skip)) (.seq (.region [⟨(some 33), (.mv (.t 0)), none⟩, ⟨(some 34), (.call 29 [.t 33]), none⟩] []) (.seq (.region [⟨(some 35), (.fld 1 (.t 5)), none⟩, ⟨(some 36), (.load 1 false (.t 35)), none⟩, ⟨(some 4), (.mv (.t 36)), none⟩] []) .ret))))), [.t 4], [], []⟩
def ir31 : IFun := ⟨(.seq (.seq (.region [⟨(some 4), (.mv (.t 0)), none⟩, ⟨(some 5), (.mv (.t 1)), none⟩, ⟨(some 6), (.call 35 [.t 4, .t 5]), none⟩, ⟨(some 7), (.un .not (.t 6)), none⟩] []) (.cond (.t 7) (.seq (.region [⟨(some 8), (.mv (.t 0)), none⟩, ⟨(some 9), (.call 44 [.t 8]), none⟩] []) .ret) .skip)) (.region [⟨(some 10), (.mv (.t 0)), none⟩, ⟨(some 11), (.call 29 [.t 10]), none⟩] [])), [], [], []⟩
def ir32 : IFun := ⟨(.seq (.region [⟨(some 2), (.alloc [int 0, str ⟨#[]⟩, int 0, .ls true []]), none⟩] []) (.seq (.region [⟨(some 6), (.mv (.t 0)), none⟩, ⟨(some 7), (.call 45 [.t 6]), none⟩, ⟨(some 3), (.alloc [int 0, str ⟨#[]⟩, int 0, .ls true []]), none⟩, ⟨none, (.store 4 (.t 3) (.t 7)), none⟩] []) (.seq (.region [⟨(some 4), (.mv (.c (int 0))), none⟩] []) (.seq (.block 0 (.seq (.region [⟨(some 9), (.mv (.t 0)), none⟩, ⟨(some 10), (.call 35 [.t 9, .c (str ⟨#[60]⟩)]), none⟩, ⟨(some 8), (.mv (.t 10)), none⟩] []) (.cond (.t 8) (.region [⟨(some 4), (.mv (.c (int 22))), none⟩] []) (.seq (.region [⟨(some 12), (.mv (.t 0)), none⟩, ⟨(some 13), (.call 35 [.t 12, .c (str ⟨#[61, 61]⟩)]), none⟩, ⟨(some 11), (.mv (.t 13)), none⟩] []) (.cond (.t 11) (.region [⟨(some 4), (.mv (.c (int 23))), none⟩] []) .skip))))) (.seq (.seq (.region [⟨(some 14), (.mv (.t 4)), none⟩, ⟨(some 15), (.bin .eql (.t 14) (.c (int 0))), none⟩] []) (.cond (.t 15) (.seq (.region [⟨(some 16), (.load 4 true (.t 3)), none⟩, ⟨none, (.store 4 (.t 2) (.t 16)), none⟩] []) .ret) .skip)) (.seq (.region [⟨(some 17), (.mv (.t 0)), none⟩, ⟨(some 18), (.call 29 [.t 17]), none⟩] []) (.seq (.region [⟨(some 19), (.mv (.t 0)), none⟩, ⟨(some 20), (.call 45 [.t 19]), none⟩, ⟨(some 5), (.alloc [int 0, str ⟨#[]⟩, int 0, .ls true []]), none⟩, ⟨none, (.store 4 (.t 5) (.t 20)), none⟩] []) (.seq (.region [⟨(some 21), (.mv (.t 4)), none⟩, ⟨(some 22), (.load 4 true (.t 3)), none⟩, ⟨(some 23), (.load 4 true (.t 5)), none⟩, ⟨(some 24), (.bsl [int 0, str ⟨#[]⟩, int 0, .ls true []] 2 [(0, .t 22), (1, .t 23)]), none⟩, ⟨(some 25), (.call 36 [.t 21, .t 24]), none⟩, ⟨none, (.store 4 (.t 2) (.t 25)), none⟩] []) .ret)))))))), [.c 2 4 true], [], []⟩
def ir33 : IFun := ⟨(.seq (.region [⟨(some 4), (.alloc [int 0, str ⟨#[]⟩, int 0, .ls true []]), none⟩] []) (.seq (.region [⟨(some 8), (.mv (.t 0)), none⟩, ⟨(some 9), (.call 29 [.t 8]), none⟩] []) (.seq (.region [⟨(some 10), (.mv (.t 0)), none⟩, ⟨(some 11), (.call 31 [.t 10, .c (str ⟨#[40]⟩)]), none⟩] []) (.seq (.region [⟨(some 12), (.mv (.t 0)), none⟩, ⟨(some 13), (.call 32 [.t 12]), none⟩, ⟨(some 5), (.alloc [int 0, str ⟨#[]⟩, int 0, .ls true []]), none⟩, ⟨none, (.store 4 (.t 5) (.t 13)), none⟩] []) (.seq (.region [⟨(some 14), (.mv (.t 0)), none⟩, ⟨(some 15), (.call 31 [.t 14, .c (str ⟨#[41]⟩)]), none⟩] []) (.seq (.region [⟨(some 16), (.mv (.t 0)), none⟩, ⟨(some 17), (.call 46 [.t 16]), none⟩, ⟨(some 6), (.alloc [int 0, str ⟨#[]⟩, int 0, .ls true []]), none⟩, ⟨none, (.store 4 (.t 6) (.t 17)), none⟩] []) (.seq (.region [⟨(some 18), (.mv (.t 1)), none⟩, ⟨(some 19), (.load 4 true (.t 5)), none⟩, ⟨(some 20), (.load 4 true (.t 6)), none⟩, ⟨(some 21), (.bsl [int 0, str ⟨#[]⟩, int 0, .ls true []] 2 [(0, .t 19), (1, .t 20)]), none⟩, ⟨(some 22), (.call 36 [.t 18, .t 21]), none⟩, ⟨(some 7), (.alloc [int 0, str ⟨#[]⟩, int 0, .ls true []]), none⟩, ⟨none, (.store 4 (.t 7) (.t 22)), none⟩] []) (.seq (.seq (.region [⟨(some 23), (.mv (.t 1)), none⟩, ⟨(some 24), (.bin .eql (.t 23) (.c (int 5))), none⟩, ⟨(some 25), (.mv (.t 24)), none⟩, ⟨(some 26), (.mv (.t 0)), (some (25, true))⟩, ⟨(some 27), (.call 28 [.t 26, .c (str ⟨#[101, 108, 115, 101]⟩)]), (some (25, true))⟩, ⟨(some 28), (.pick (.t 25) (.t 27) (.c (bool false))), none⟩] []) (.cond (.t 28) (.seq (.region [⟨(some 29), (.mv (.t 0)), none⟩, ⟨(some 30), (.call 29 [.t 29]), none⟩] []) (.region [⟨(some 31), (.fld 3 (.t 7)), none⟩, ⟨(some 32), (.load 1 false (.t 31)), none⟩, ⟨(some 33), (.mv (.t 0)), none⟩, ⟨(some 34), (.call 46 [.t 33]), none⟩, ⟨(some 35), (.bsl [int 0, str ⟨#[]⟩, int 0, .ls true []] 1 [(0, .t 34)]), none⟩, ⟨(some 36), (.app 4 56 true (.t 32) (.t 35)), none⟩, ⟨(some 37), (.fld 3 (.t 7)), none⟩, ⟨none, (.store 1 (.t 37) (.t 36)), none⟩] [(0, 2), (1, 2), (0, 3), (1, 3), (0, 4), (1, 4)])) .skip)) (.seq (.region [⟨(some 38), (.load 4 true (.t 7)), none⟩, ⟨none, (.store 4 (.t 4) (.t 38)), none⟩] []) .ret))))))))), [.c 4 4 true], [], []⟩
def ir34 : IFun := ⟨(.seq (.region [⟨(some 4), (.alloc [int 0, str ⟨#[]⟩, int 0, .ls true []]), none⟩] []) (.seq (.region [⟨(some 6), (.mv (.t 0)), none⟩, ⟨(some 7), (.call 29 [.t 6]), none⟩] []) (.seq (.region [⟨(some 8), (.mv (.t 0)), none⟩, ⟨(some 9), (.call 32 [.t 8]), none⟩, ⟨(some 5), (.alloc [int 0, str ⟨#[]⟩, int 0, .ls true []]), none⟩, ⟨none, (.store 4 (.t 5) (.t 9)), none⟩] []) (.seq (.region [⟨(some 10), (.mv (.t 0)), none⟩, ⟨(some 11), (.call 31 [.t 10, .c (str ⟨#[59]⟩)]), none⟩] []) (.seq (.region [⟨(some 12), (.mv (.t 1)), none⟩, ⟨(some 13), (.load 4 true (.t 5)), none⟩, ⟨(some 14), (.bsl [int 0, str ⟨#[]⟩, int 0, .ls true []] 1 [(0, .t 13)]), none⟩, ⟨(some 15), (.call 36 [.t 12, .t 14]), none⟩, ⟨none, (.store 4 (.t 4) (.t 15)), none⟩] []) .ret))))), [.c 4 4 true], [], []⟩
def ir35 : IFun := ⟨(.seq (.region [⟨(some 4), (.mv (.c (bool false))), none⟩] []) (.seq (.region [⟨(some 6), (.mv (.t 0)), none⟩, ⟨(some 7), (.call 24 [.t 6]), none⟩, ⟨(some 5), (.alloc [int 0, str ⟨#[]⟩, int 0, int 0]), none⟩, ⟨none, (.store 4 (.t 5) (.t 7)), none⟩] []) (.seq (.region [⟨(some 8), (.mv (.t 0)), none⟩, ⟨(some 9), (.nilc (.t 8)), none⟩, ⟨(some 10), (.fld 2 (.t 9)), none⟩, ⟨(some 11), (.load 1 false (.t 10)), none⟩, ⟨(some 12), (.bin .lss (.t 11) (.c (int 0))), none⟩, ⟨(some 13), (.mv (.t 12)), none⟩, ⟨(some 14), (.fld 0 (.t 5)), (some (13, true))⟩, ⟨(some 15), (.load 1 false (.t 14)), (some (13, true))⟩, ⟨(some 16), (.bin .eql (.t 15) (.c (int 4))), (some (13, true))⟩, ⟨(some 17), (.pick (.t 13) (.t 16) (.c (bool false))), none⟩, ⟨(some 18), (.mv (.t 17)), none⟩, ⟨(some 19), (.fld 1 (.t 5)), (some (18, true))⟩, ⟨(some 20), (.load 1 false (.t 19)), (some (18, true))⟩, ⟨(some 21), (.mv (.t 1)), (some (18, true))⟩, ⟨(some 22), (.bin .eql (.t 20) (.t 21)), (some (18, true))⟩, ⟨(some 23), (.pick (.t 18) (.t 22) (.c (bool false))), none⟩, ⟨(some 4), (.mv (.t 23)), none⟩] []) .ret))), [.t 4], [], []⟩
def ir36 : IFun := ⟨(.seq (.region [⟨(some 4), (.alloc [int 0, str ⟨#[]⟩, int 0, .ls true []]), none⟩] []) (.seq (.region [⟨(some 5), (.mv (.t 0)), none⟩, ⟨(some 6), (.mv (.t 1)), none⟩, ⟨(some 7), (.build [int 0, str ⟨#[]⟩, int 0, .ls true []] [(0, 1, .t 5), (3, 1, .t 6)]), none⟩, ⟨none, (.store 4 (.t 4) (.t 7)), none⟩] []) .ret)), [.c 4 4 true], [], []⟩
def ir37 : IFun := ⟨(.seq (.region [⟨(some 2), (.mv (.c (bool false))), none⟩] []) (.seq (.region [⟨(some 3), (.mv (.t 0)), none⟩, ⟨(some 4), (.bin .geq (.t 3) (.c (intK .u8 97))), none⟩, ⟨(some 5), (.mv (.t 4)), none⟩, ⟨(some 6), (.mv (.t 0)), (some (5, true))⟩, ⟨(some 7), (.bin .leq (.t 6) (.c (intK .u8 122))), (some (5, true))⟩, ⟨(some 8), (.pick (.t 5) (.t 7) (.c (bool false))), none⟩, ⟨(some 9), (.mv (.t 8)), none⟩, ⟨(some 10), (.mv (.t 0)), (some (9, false))⟩, ⟨(some 11), (.bin .geq (.t 10) (.c (intK .u8 65))), (some (9, false))⟩, ⟨(some 12), (.mv (.t 11)), (some (9, false))⟩, ⟨(some 13), (.mv (.t 0)), (some (12, true))⟩, ⟨(some 14), (.bin .leq (.t 13) (.c (intK .u8 90))), (some (12, true))⟩, ⟨(some 15), (.pick (.t 12) (.t 14) (.c (bool false))), (some (9, false))⟩, ⟨(some 16), (.pick (.t 9) (.c (bool true)) (.t 15)), none⟩, ⟨(some 2), (.mv (.t 16)), none⟩] []) .ret)), [.t 2], [], []⟩
def lp38_0 : IC := (.seq (.seq (.region [⟨(some 9), (.mv (.t 7)), none⟩, ⟨(some 10), (.mv (.t 0)), none⟩, ⟨(some 11), (.len 1 (.t 10)), none⟩, ⟨(some 12), (.bin .lss (.t 9) (.t 11)), none⟩, ⟨(some 13), (.mv (.t 12)), none⟩, ⟨(some 14), (.mv (.t 0)), (some (13, true))⟩, ⟨(some 15), (.mv (.t 7)), (some (13, true))⟩, ⟨(some 16), (.sidx (.t 14) (.t 15)), (some (13, true))⟩, ⟨(some 17), (.call 37 [.t 16]), (some (13, true))⟩, ⟨(some 18), (.mv (.t 17)), (some (13, true))⟩, ⟨(some 19), (.mv (.t 0)), (some (18, false))⟩, ⟨(some 20), (.mv (.t 7)), (some (18, false))⟩, ⟨(some 21), (.sidx (.t 19) (.t 20)), (some (18, false))⟩, ⟨(some 22), (.call 39 [.t 21]), (some (18, false))⟩, ⟨(some 23), (.pick (.t 18) (.c (bool true)) (.t 22)), (some (13, true))⟩, ⟨(some 24), (.pick (.t 13) (.t 23) (.c (bool false))), none⟩] []) (.cond (.t 24) .skip (.exit 0))) (.block 1 (.region [⟨(some 25), (.mv (.t 7)), none⟩, ⟨(some 26), (.bin .add (.t 25) (.c (int 1))), none⟩, ⟨(some 7), (.mv (.t 26)), none⟩] [])))
def ir38 : IFun := ⟨(.seq (.region [⟨(some 4), (.alloc [int 0, str ⟨#[]⟩, int 0, int 0]), none⟩, ⟨(some 5), (.mv (.c (int 0))), none⟩, ⟨(some 6), (.mv (.c (bool false))), none⟩] []) (.seq (.region [⟨(some 8), (.mv (.t 1)), none⟩, ⟨(some 7), (.mv (.t 8)), none⟩] []) (.seq (.block 0 (.loop lp38_0 [0, 1, 4, 7] [0, 1, 4, 5, 6, 7])) (.seq (.region [⟨(some 27), (.mv (.t 0)), none⟩, ⟨(some 28), (.mv (.t 1)), none⟩, ⟨(some 29), (.mv (.t 7)), none⟩, ⟨(some 30), (.sslc (.t 27) (some (.t 28)) (some (.t 29))), none⟩, ⟨(some 31), (.mv (.t 1)), none⟩, ⟨(some 32), (.build [int 0, str ⟨#[]⟩, int 0, int 0] [(0, 1, .c (int 1)), (1, 1, .t 30), (3, 1, .t 31)]), none⟩, ⟨(some 33), (.mv (.t 7)), none⟩, ⟨(some 34), (.mv (.t 7)), none⟩, ⟨(some 35), (.mv (.t 1)), none⟩, ⟨(some 36), (.bin .sub (.t 34) (.t 35)), none⟩, ⟨(some 37), (.bin .leq (.t 36) (.c (int 12))), none⟩, ⟨none, (.store 4 (.t 4) (.t 32)), none⟩, ⟨(some 5), (.mv (.t 33)), none⟩, ⟨(some 6), (.mv (.t 37)), none⟩] []) .ret)))), [.c 4 4 true, .t 5, .t 6], [], []⟩
def ir39 : IFun := ⟨(.seq (.region [⟨(some 2), (.mv (.c (bool false))), none⟩] []) (.seq (.region [⟨(some 3), (.mv (.t 0)), none⟩, ⟨(some 4), (.bin .geq (.t 3) (.c (intK .u8 48))), none⟩, ⟨(some 5), (.mv (.t 4)), none⟩, ⟨(some 6), (.mv (.t 0)), (some (5, true))⟩, ⟨(some 7), (.bin .leq (.t 6) (.c (intK .u8 57))), (some (5, true))⟩, ⟨(some 8), (.pick (.t 5) (.t 7) (.c (bool false))), none⟩, ⟨(some 2), (.mv (.t 8)), none⟩] []) .ret)), [.t 2], [], []⟩
def lp40_0 : IC := (.seq (.seq (.region [⟨(some 10), (.mv (.t 7)), none⟩, ⟨(some 11), (.mv (.t 0)), none⟩, ⟨(some 12), (.len 1 (.t 11)), none⟩, ⟨(some 13), (.bin .lss (.t 10) (.t 12)), none⟩, ⟨(some 14), (.mv (.t 13)), none⟩, ⟨(some 15), (.mv (.t 0)), (some (14, true))⟩, ⟨(some 16), (.mv (.t 7)), (some (14, true))⟩, ⟨(some 17), (.sidx (.t 15) (.t 16)), (some (14, true))⟩, ⟨(some 18), (.call 39 [.t 17]), (some (14, true))⟩, ⟨(some 19), (.pick (.t 14) (.t 18) (.c (bool false))), none⟩] []) (.cond (.t 19) .skip (.exit 0))) (.block 1 (.seq (.seq (.region [⟨(some 20), (.mv (.t 8)), none⟩, ⟨(some 21), (.bin .leq (.t 20) (.c (int 2147483647))), none⟩] []) (.cond (.t 21) (.region [⟨(some 22), (.mv (.t 8)), none⟩, ⟨(some 23), (.bin .mul (.c (int 10)) (.t 22)), none⟩, ⟨(some 24), (.mv (.t 0)), none⟩, ⟨(some 25), (.mv (.t 7)), none⟩, ⟨(some 26), (.sidx (.t 24) (.t 25)), none⟩, ⟨(some 27), (.conv .i64 (.t 26)), none⟩, ⟨(some 28), (.bin .add (.t 23) (.t 27)), none⟩, ⟨(some 29), (.bin .sub (.t 28) (.c (int 48))), none⟩, ⟨(some 8), (.mv (.t 29)), none⟩] []) .skip)) (.region [⟨(some 30), (.mv (.t 7)), none⟩, ⟨(some 31), (.bin .add (.t 30) (.c (int 1))), none⟩, ⟨(some 7), (.mv (.t 31)), none⟩] []))))
def ir40 : IFun := ⟨(.seq (.region [⟨(some 4), (.alloc [int 0, str ⟨#[]⟩, int 0, int 0]), none⟩, ⟨(some 5), (.mv (.c (int 0))), none⟩, ⟨(some 6), (.mv (.c (bool false))), none⟩] []) (.seq (.region [⟨(some 9), (.mv (.t 1)), none⟩, ⟨(some 7), (.mv (.t 9)), none⟩] []) (.seq (.region [⟨(some 8), (.mv (.c (int 0))), none⟩] []) (.seq (.block 0 (.loop lp40_0 [0, 1, 4, 7, 8] [0, 1, 4, 5, 6, 7, 8])) (.seq (.region [⟨(some 32), (.mv (.t 8)), none⟩, ⟨(some 33), (.mv (.t 1)), none⟩, ⟨(some 34), (.build [int 0, str ⟨#[]⟩, int 0, int 0] [(0, 1, .c (int 2)), (2, 1, .t 32), (3, 1, .t 33)]), none⟩, ⟨(some 35), (.mv (.t 7)), none⟩, ⟨(some 36), (.mv (.t 8)), none⟩, ⟨(some 37), (.bin .leq (.t 36) (.c (int 2147483647))), none⟩, ⟨(some 38), (.mv (.t 37)), none⟩, ⟨(some 39), (.mv (.t 8)), (some (38, true))⟩, ⟨(some 40), (.call 47 [.t 39]), (some (38, true))⟩, ⟨(some 41), (.mv (.t 0)), (some (38, true))⟩, ⟨(some 42), (.mv (.t 1)), (some (38, true))⟩, ⟨(some 43), (.mv (.t 7)), (some (38, true))⟩, ⟨(some 44), (.sslc (.t 41) (some (.t 42)) (some (.t 43))), (some (38, true))⟩, ⟨(some 45), (.bin .eql (.t 40) (.t 44)), (some (38, true))⟩, ⟨(some 46), (.pick (.t 38) (.t 45) (.c (bool false))), none⟩, ⟨none, (.store 4 (.t 4) (.t 34)), none⟩, ⟨(some 5), (.mv (.t 35)), none⟩, ⟨(some 6), (.mv (.t 46)), none⟩] [(0, 1), (0, 3), (1, 3), (2, 3), (0, 4), (1, 4), (2, 4), (3, 4), (0, 5), (1, 5), (2, 5), (3, 5), (0, 6), (1, 6), (2, 6), (3, 6), (0, 7), (1, 7), (2, 7), (3, 7), (0, 8), (1, 8), (2, 8), (3, 8), (0, 9), (1, 9), (2, 9), (3, 9), (7, 9), (8, 9), (0, 10), (1, 10), (2, 10), (3, 10), (7, 10), (8, 10), (9, 10), (0, 11), (1, 11), (2, 11), (3, 11), (7, 11), (8, 11), (9, 11), (10, 11), (0, 12), (1, 12), (2, 12), (3, 12), (7, 12), (8, 12), (0, 13), (1, 13), (2, 13), (3, 13), (0, 14), (1, 14), (2, 14), (3, 14), (3, 15), (9, 15), (10, 15), (11, 15), (12, 15), (13, 15), (14, 15), (9, 16), (10, 16), (11, 16), (12, 16), (13, 16), (14, 16)]) .ret))))), [.c 4 4 true, .t 5, .t 6], [], []⟩
def lp41_0 : IC := (.seq (.seq (.region [⟨(some 10), (.mv (.t 7)), none⟩, ⟨(some 11), (.mv (.t 0)), none⟩, ⟨(some 12), (.len 1 (.t 11)), none⟩, ⟨(some 13), (.bin .lss (.t 10) (.t 12)), none⟩, ⟨(some 14), (.mv (.t 13)), none⟩, ⟨(some 15), (.mv (.t 0)), (some (14, true))⟩, ⟨(some 16), (.mv (.t 7)), (some (14, true))⟩, ⟨(some 17), (.sidx (.t 15) (.t 16)), (some (14, true))⟩, ⟨(some 18), (.bin .neq (.t 17) (.c (intK .u8 34))), (some (14, true))⟩, ⟨(some 19), (.pick (.t 14) (.t 18) (.c (bool false))), none⟩, ⟨(some 20), (.mv (.t 19)), none⟩, ⟨(some 21), (.mv (.t 0)), (some (20, true))⟩, ⟨(some 22), (.mv (.t 7)), (some (20, true))⟩, ⟨(some 23), (.sidx (.t 21) (.t 22)), (some (20, true))⟩, ⟨(some 24), (.bin .geq (.t 23) (.c (intK .u8 32))), (some (20, true))⟩, ⟨(some 25), (.pick (.t 20) (.t 24) (.c (bool false))), none⟩, ⟨(some 26), (.mv (.t 25)), none⟩, ⟨(some 27), (.mv (.t 0)), (some (26, true))⟩, ⟨(some 28), (.mv (.t 7)), (some (26, true))⟩, ⟨(some 29), (.sidx (.t 27) (.t 28)), (some (26, true))⟩, ⟨(some 30), (.bin .leq (.t 29) (.c (intK .u8 126))), (some (26, true))⟩, ⟨(some 31), (.pick (.t 26) (.t 30) (.c (bool false))), none⟩] []) (.cond (.t 31) .skip (.exit 0))) (.block 1 (.region [⟨(some 32), (.mv (.t 7)), none⟩, ⟨(some 33), (.bin .add (.t 32) (.c (int 1))), none⟩, ⟨(some 7), (.mv (.t 33)), none⟩] [])))
def ir41 : IFun := ⟨(.seq (.region [⟨(some 4), (.alloc [int 0, str ⟨#[]⟩, int 0, int 0]), none⟩, ⟨(some 5), (.mv (.c (int 0))), none⟩, ⟨(some 6), (.mv (.c (bool false))), none⟩] []) (.seq (.region [⟨(some 8), (.mv (.t 1)), none⟩, ⟨(some 9), (.bin .add (.t 8) (.c (int 1))), none⟩, ⟨(some 7), (.mv (.t 9)), none⟩] []) (.seq (.block 0 (.loop lp41_0 [0, 1, 4, 7] [0, 1, 4, 5, 6, 7])) (.seq (.seq (.region [⟨(some 34), (.mv (.t 7)), none⟩, ⟨(some 35), (.mv (.t 0)), none⟩, ⟨(some 36), (.len 1 (.t 35)), none⟩, ⟨(some 37), (.bin .geq (.t 34) (.t 36)), none⟩, ⟨(some 38), (.mv (.t 37)), none⟩, ⟨(some 39), (.mv (.t 0)), (some (38, false))⟩, ⟨(some 40), (.mv (.t 7)), (some (38, false))⟩, ⟨(some 41), (.sidx (.t 39) (.t 40)), (some (38, false))⟩, ⟨(some 42), (.bin .neq (.t 41) (.c (intK .u8 34))), (some (38, false))⟩, ⟨(some 43), (.pick (.t 38) (.c (bool true)) (.t 42)), none⟩, ⟨(some 44), (.mv (.t 43)), none⟩, ⟨(some 45), (.mv (.t 7)), (some (44, false))⟩, ⟨(some 46), (.mv (.t 1)), (some (44, false))⟩, ⟨(some 47), (.bin .sub (.t 45) (.t 46)), (some (44, false))⟩, ⟨(some 48), (.bin .sub (.t 47) (.c (int 1))), (some (44, false))⟩, ⟨(some 49), (.bin .gtr (.t 48) (.c (int 30))), (some (44, false))⟩, ⟨(some 50), (.pick (.t 44) (.c (bool true)) (.t 49)), none⟩] []) (.cond (.t 50) (.seq (.region [⟨(some 51), (.build [int 0, str ⟨#[]⟩, int 0, int 0] []), none⟩, ⟨(some 52), (.mv (.t 1)), none⟩, ⟨none, (.store 4 (.t 4) (.t 51)), none⟩, ⟨(some 5), (.mv (.t 52)), none⟩, ⟨(some 6), (.mv (.c (bool false))), none⟩] []) .ret) .skip)) (.seq (.region [⟨(some 53), (.mv (.t 0)), none⟩, ⟨(some 54), (.mv (.t 1)), none⟩, ⟨(some 55), (.bin .add (.t 54) (.c (int 1))), none⟩, ⟨(some 56), (.mv (.t 7)), none⟩, ⟨(some 57), (.sslc (.t 53) (some (.t 55)) (some (.t 56))), none⟩, ⟨(some 58), (.mv (.t 1)), none⟩, ⟨(some 59), (.build [int 0, str ⟨#[]⟩, int 0, int 0] [(0, 1, .c (int 3)), (1, 1, .t 57), (3, 1, .t 58)]), none⟩, ⟨(some 60), (.mv (.t 7)), none⟩, ⟨(some 61), (.bin .add (.t 60) (.c (int 1))), none⟩, ⟨none, (.store 4 (.t 4) (.t 59)), none⟩, ⟨(some 5), (.mv (.t 61)), none⟩, ⟨(some 6), (.mv (.c (bool true))), none⟩] []) .ret))))), [.c 4 4 true, .t 5, .t 6], [], []⟩
def lp42_0 : IC := (.seq (.seq (.region [⟨(some 25), (.mv (.t 6)), none⟩, ⟨(some 26), (.mv (.t 5)), none⟩, ⟨(some 27), (.len 1 (.t 26)), none⟩, ⟨(some 28), (.bin .lss (.t 25) (.t 27)), none⟩] []) (.cond (.t 28) .skip (.exit 0))) (.seq (.block 1 (.seq (.region [⟨(some 31), (.mv (.t 5)), none⟩, ⟨(some 32), (.mv (.t 6)), none⟩, ⟨(some 33), (.sidx (.t 31) (.t 32)), none⟩, ⟨(some 34), (.mv (.t 0)), none⟩, ⟨(some 35), (.mv (.t 1)), none⟩, ⟨(some 36), (.sidx (.t 34) (.t 35)), none⟩, ⟨(some 37), (.bin .eql (.t 33) (.t 36)), none⟩] [(0, 1), (0, 3), (1, 3), (2, 3), (0, 4), (1, 4), (2, 4), (3, 4), (0, 5), (1, 5), (2, 5)]) (.cond (.t 37) (.seq (.region [⟨(some 38), (.mv (.t 0)), none⟩, ⟨(some 39), (.mv (.t 1)), none⟩, ⟨(some 40), (.mv (.t 1)), none⟩, ⟨(some 41), (.bin .add (.t 40) (.c (int 1))), none⟩, ⟨(some 42), (.sslc (.t 38) (some (.t 39)) (some (.t 41))), none⟩, ⟨(some 4), (.mv (.t 42)), none⟩] []) .ret) .skip))) (.region [⟨(some 29), (.mv (.t 6)), none⟩, ⟨(some 30), (.bin .add (.t 29) (.c (int 1))), none⟩, ⟨(some 6), (.mv (.t 30)), none⟩] [])))
def ir42 : IFun := ⟨(.seq (.region [⟨(some 4), (.mv (.c (str ⟨#[]⟩))), none⟩] []) (.seq (.seq (.region [⟨(some 7), (.mv (.t 0)), none⟩, ⟨(some 8), (.mv (.t 1)), none⟩, ⟨(some 9), (.sidx (.t 7) (.t 8)), none⟩, ⟨(some 10), (.bin .eql (.t 9) (.c (intK .u8 61))), none⟩, ⟨(some 11), (.mv (.t 10)), none⟩, ⟨(some 12), (.mv (.t 1)), (some (11, true))⟩, ⟨(some 13), (.bin .add (.t 12) (.c (int 1))), (some (11, true))⟩, ⟨(some 14), (.mv (.t 0)), (some (11, true))⟩, ⟨(some 15), (.len 1 (.t 14)), (some (11, true))⟩, ⟨(some 16), (.bin .lss (.t 13) (.t 15)), (some (11, true))⟩, ⟨(some 17), (.pick (.t 11) (.t 16) (.c (bool false))), none⟩, ⟨(some 18), (.mv (.t 17)), none⟩, ⟨(some 19), (.mv (.t 0)), (some (18, true))⟩, ⟨(some 20), (.mv (.t 1)), (some (18, true))⟩, ⟨(some 21), (.bin .add (.t 20) (.c (int 1))), (some (18, true))⟩, ⟨(some 22), (.sidx (.t 19) (.t 21)), (some (18, true))⟩, ⟨(some 23), (.bin .eql (.t 22) (.c (intK .u8 61))), (some (18, true))⟩, ⟨(some 24), (.pick (.t 18) (.t 23) (.c (bool false))), none⟩] []) (.cond (.t 24) (.seq (.region [⟨(some 4), (.mv (.c (str ⟨#[61, 61]⟩))), none⟩] []) .ret) .skip)) (.seq (.region [⟨(some 5), (.mv (.c (str ⟨#[40, 41, 123, 125, 44, 59, 58, 46, 61, 43, 45, 42, 60, 33]⟩))), none⟩] []) (.seq (.seq (.region [⟨(some 6), (.mv (.c (int 0))), none⟩] []) (.block 0 (.loop lp42_0 [0, 1, 5, 6] [4]))) (.seq (.region [⟨(some 4), (.mv (.c (str ⟨#[]⟩))), none⟩] []) .ret))))), [.t 4], [], []⟩
def lp43_0 : IC := (.seq (.seq (.region [⟨(some 6), (.mv (.t 4)), none⟩, ⟨(some 7), (.mv (.t 3)), none⟩, ⟨(some 8), (.len 0 (.t 7)), none⟩, ⟨(some 9), (.bin .lss (.t 6) (.t 8)), none⟩] []) (.cond (.t 9) .skip (.exit 0))) (.seq (.block 1 (.seq (.region [⟨(some 12), (.fld 0 (.t 1)), none⟩, ⟨(some 13), (.load 1 false (.t 12)), none⟩, ⟨(some 14), (.bin .eql (.t 13) (.c (int 1))), none⟩, ⟨(some 15), (.mv (.t 14)), none⟩, ⟨(some 16), (.fld 1 (.t 1)), (some (15, true))⟩, ⟨(some 17), (.load 1 false (.t 16)), (some (15, true))⟩, ⟨(some 18), (.mv (.t 3)), (some (15, true))⟩, ⟨(some 19), (.mv (.t 4)), (some (15, true))⟩, ⟨(some 20), (.idx 1 (.t 18) (.t 19)), (some (15, true))⟩, ⟨(some 21), (.load 1 false (.t 20)), (some (15, true))⟩, ⟨(some 22), (.bin .eql (.t 17) (.t 21)), (some (15, true))⟩, ⟨(some 23), (.pick (.t 15) (.t 22) (.c (bool false))), none⟩] [(4, 6), (5, 6), (4, 7), (5, 7), (6, 7), (4, 8), (5, 8), (4, 9), (5, 9)]) (.cond (.t 23) (.seq (.region [⟨(some 2), (.mv (.c (bool true))), none⟩] []) .ret) .skip))) (.region [⟨(some 10), (.mv (.t 4)), none⟩, ⟨(some 11), (.bin .add (.t 10) (.c (int 1))), none⟩, ⟨(some 4), (.mv (.t 11)), none⟩] [])))
def ir43 : IFun := ⟨(.seq (.region [⟨(some 1), (.box (.t 0)), none⟩, ⟨(some 2), (.mv (.c (bool false))), none⟩] []) (.seq (.region [⟨(some 5), (.bsl [str ⟨#[]⟩] 12 [(0, .c (str ⟨#[108, 101, 116]⟩)), (1, .c (str ⟨#[105, 102]⟩)), (2, .c (str ⟨#[101, 108, 115, 101]⟩)), (3, .c (str ⟨#[119, 104, 105, 108, 101]⟩)), (4, .c (str ⟨#[114, 101, 116, 117, 114, 110]⟩)), (5, .c (str ⟨#[112, 114, 105, 110, 116]⟩)), (6, .c (str ⟨#[102, 117, 110, 99, 116, 105, 111, 110]⟩)), (7, .c (str ⟨#[116, 114, 117, 101]⟩)), (8, .c (str ⟨#[102, 97, 108, 115, 101]⟩)), (9, .c (str ⟨#[110, 117, 108, 108]⟩)), (10, .c (str ⟨#[117, 110, 100, 101, 102, 105, 110, 101, 100]⟩)), (11, .c (str ⟨#[112, 114, 111, 116, 111]⟩))]), none⟩, ⟨(some 3), (.mv (.t 5)), none⟩] []) (.seq (.seq (.region [⟨(some 4), (.mv (.c (int 0))), none⟩] []) (.block 0 (.loop lp43_0 [1, 3, 4] [2]))) (.seq (.region [⟨(some 2), (.mv (.c (bool false))), none⟩] []) .ret)))), [.t 2], [], []⟩
def ir44 : IFun := ⟨(.seq (.region [⟨(some 2), (.mv (.t 0)), none⟩, ⟨(some 3), (.nilc (.t 2)), none⟩, ⟨(some 4), (.fld 2 (.t 3)), none⟩, ⟨(some 5), (.load 1 false (.t 4)), none⟩, ⟨(some 6), (.bin .lss (.t 5) (.c (int 0))), none⟩] []) (.cond (.t 6) (.region [⟨(some 7), (.mv (.t 0)), none⟩, ⟨(some 8), (.mv (.t 0)), none⟩, ⟨(some 9), (.call 24 [.t 8]), none⟩, ⟨(some 10), (.fget 3 1 false (.t 9)), none⟩, ⟨(some 11), (.nilc (.t 7)), none⟩, ⟨(some 12), (.fld 2 (.t 11)), none⟩, ⟨none, (.store 1 (.t 12) (.t 10)), none⟩] []) .skip)), [], [], []⟩
def lp45_0 : IC := (.seq (.seq (.region [⟨(some 8), (.mv (.t 0)), none⟩, ⟨(some 9), (.call 35 [.t 8, .c (str ⟨#[43]⟩)]), none⟩, ⟨(some 10), (.mv (.t 9)), none⟩, ⟨(some 11), (.mv (.t 0)), (some (10, false))⟩, ⟨(some 12), (.call 35 [.t 11, .c (str ⟨#[45]⟩)]), (some (10, false))⟩, ⟨(some 13), (.pick (.t 10) (.c (bool true)) (.t 12)), none⟩] []) (.cond (.t 13) .skip (.exit 0))) (.block 1 (.seq (.region [⟨(some 4), (.mv (.c (int 19))), none⟩] []) (.seq (.seq (.region [⟨(some 14), (.mv (.t 0)), none⟩, ⟨(some 15), (.call 35 [.t 14, .c (str ⟨#[45]⟩)]), none⟩] []) (.cond (.t 15) (.region [⟨(some 4), (.mv (.c (int 20))), none⟩] []) .skip)) (.seq (.region [⟨(some 16), (.mv (.t 0)), none⟩, ⟨(some 17), (.call 29 [.t 16]), none⟩] []) (.seq (.region [⟨(some 18), (.mv (.t 0)), none⟩, ⟨(some 19), (.call 48 [.t 18]), none⟩, ⟨(some 5), (.alloc [int 0, str ⟨#[]⟩, int 0, .ls true []]), none⟩, ⟨none, (.store 4 (.t 5) (.t 19)), none⟩] []) (.region [⟨(some 20), (.mv (.t 4)), none⟩, ⟨(some 21), (.load 4 true (.t 3)), none⟩, ⟨(some 22), (.load 4 true (.t 5)), none⟩, ⟨(some 23), (.bsl [int 0, str ⟨#[]⟩, int 0, .ls true []] 2 [(0, .t 21), (1, .t 22)]), none⟩, ⟨(some 24), (.call 36 [.t 20, .t 23]), none⟩, ⟨none, (.store 4 (.t 3) (.t 24)), none⟩] [])))))))
def ir45 : IFun := ⟨(.seq (.region [⟨(some 2), (.alloc [int 0, str ⟨#[]⟩, int 0, .ls true []]), none⟩] []) (.seq (.region [⟨(some 6), (.mv (.t 0)), none⟩, ⟨(some 7), (.call 48 [.t 6]), none⟩, ⟨(some 3), (.alloc [int 0, str ⟨#[]⟩, int 0, .ls true []]), none⟩, ⟨none, (.store 4 (.t 3) (.t 7)), none⟩] []) (.seq (.block 0 (.loop lp45_0 [0, 2, 3] [2, 3])) (.seq (.region [⟨(some 25), (.load 4 true (.t 3)), none⟩, ⟨none, (.store 4 (.t 2) (.t 25)), none⟩] []) .ret)))), [.c 2 4 true], [], []⟩
def lp46_0 : IC := (.seq (.seq (.region [⟨(some 7), (.mv (.t 0)), none⟩, ⟨(some 8), (.nilc (.t 7)), none⟩, ⟨(some 9), (.fld 2 (.t 8)), none⟩, ⟨(some 10), (.load 1 false (.t 9)), none⟩, ⟨(some 11), (.bin .lss (.t 10) (.c (int 0))), none⟩, ⟨(some 12), (.mv (.t 11)), none⟩, ⟨(some 13), (.mv (.t 0)), (some (12, true))⟩, ⟨(some 14), (.call 35 [.t 13, .c (str ⟨#[125]⟩)]), (some (12, true))⟩, ⟨(some 15), (.un .not (.t 14)), (some (12, true))⟩, ⟨(some 16), (.pick (.t 12) (.t 15) (.c (bool false))), none⟩] []) (.cond (.t 16) .skip (.exit 0))) (.block 1 (.region [⟨(some 17), (.fld 3 (.t 3)), none⟩, ⟨(some 18), (.load 1 false (.t 17)), none⟩, ⟨(some 19), (.mv (.t 0)), none⟩, ⟨(some 20), (.call 25 [.t 19]), none⟩, ⟨(some 21), (.bsl [int 0, str ⟨#[]⟩, int 0, .ls true []] 1 [(0, .t 20)]), none⟩, ⟨(some 22), (.app 4 56 true (.t 18) (.t 21)), none⟩, ⟨(some 23), (.fld 3 (.t 3)), none⟩, ⟨none, (.store 1 (.t 23) (.t 22)), none⟩] [(0, 2), (1, 2), (0, 3), (1, 3), (0, 4), (1, 4)])))
def ir46 : IFun := ⟨(.seq (.region [⟨(some 2), (.alloc [int 0, str ⟨#[]⟩, int 0, .ls true []]), none⟩] []) (.seq (.region [⟨(some 4), (.mv (.t 0)), none⟩, ⟨(some 5), (.call 31 [.t 4, .c (str ⟨#[123]⟩)]), none⟩] []) (.seq (.region [⟨(some 6), (.build [int 0, str ⟨#[]⟩, int 0, .ls true []] [(0, 1, .c (int 1))]), none⟩, ⟨(some 3), (.alloc [int 0, str ⟨#[]⟩, int 0, .ls true []]), none⟩, ⟨none, (.store 4 (.t 3) (.t 6)), none⟩] []) (.seq (.block 0 (.loop lp46_0 [0, 2, 3] [0, 2, 3])) (.seq (.region [⟨(some 24), (.mv (.t 0)), none⟩, ⟨(some 25), (.call 31 [.t 24, .c (str ⟨#[125]⟩)]), none⟩] []) (.seq (.region [⟨(some 26), (.load 4 true (.t 3)), none⟩, ⟨none, (.store 4 (.t 2) (.t 26)), none⟩] []) .ret)))))), [.c 2 4 true], [], []⟩
def lp47_0 : IC := (.seq (.seq (.region [⟨(some 10), (.mv (.t 0)), none⟩, ⟨(some 11), (.bin .neq (.t 10) (.c (int 0))), none⟩] []) (.cond (.t 11) .skip (.exit 0))) (.block 1 (.seq (.region [⟨(some 12), (.mv (.t 0)), none⟩, ⟨(some 13), (.bin .rem (.t 12) (.c (int 10))), none⟩, ⟨(some 5), (.mv (.t 13)), none⟩] []) (.seq (.seq (.region [⟨(some 14), (.mv (.t 5)), none⟩, ⟨(some 15), (.bin .lss (.t 14) (.c (int 0))), none⟩] []) (.cond (.t 15) (.region [⟨(some 16), (.mv (.t 5)), none⟩, ⟨(some 17), (.bin .sub (.c (int 0)) (.t 16)), none⟩, ⟨(some 5), (.mv (.t 17)), none⟩] []) .skip)) (.seq (.region [⟨(some 18), (.mv (.t 5)), none⟩, ⟨(some 19), (.bin .add (.c (int 48)) (.t 18)), none⟩, ⟨(some 20), (.conv .u8 (.t 19)), none⟩, ⟨(some 21), (.bsl [intK .u8 0] 1 [(0, .t 20)]), none⟩, ⟨(some 22), (.b2s (.t 21)), none⟩, ⟨(some 23), (.mv (.t 4)), none⟩, ⟨(some 24), (.bin .add (.t 22) (.t 23)), none⟩, ⟨(some 4), (.mv (.t 24)), none⟩] []) (.region [⟨(some 25), (.mv (.t 0)), none⟩, ⟨(some 26), (.bin .quo (.t 25) (.c (int 10))), none⟩, ⟨(some 0), (.mv (.t 26)), none⟩] []))))))
def ir47 : IFun := ⟨(.seq (.region [⟨(some 2), (.mv (.c (str ⟨#[]⟩))), none⟩] []) (.seq (.seq (.region [⟨(some 6), (.mv (.t 0)), none⟩, ⟨(some 7), (.bin .eql (.t 6) (.c (int 0))), none⟩] []) (.cond (.t 7) (.seq (.region [⟨(some 2), (.mv (.c (str ⟨#[48]⟩))), none⟩] []) .ret) .skip)) (.seq (.region [⟨(some 8), (.mv (.t 0)), none⟩, ⟨(some 9), (.bin .lss (.t 8) (.c (int 0))), none⟩, ⟨(some 3), (.mv (.t 9)), none⟩] []) (.seq (.region [⟨(some 4), (.mv (.c (str ⟨#[]⟩))), none⟩] []) (.seq (.block 0 (.loop lp47_0 [0, 3, 4] [2, 3, 4])) (.seq (.seq (.region [⟨(some 27), (.mv (.t 3)), none⟩] []) (.cond (.t 27) (.seq (.region [⟨(some 28), (.mv (.t 4)), none⟩, ⟨(some 29), (.bin .add (.c (str ⟨#[45]⟩)) (.t 28)), none⟩, ⟨(some 2), (.mv (.t 29)), none⟩] []) .ret) .skip)) (.seq (.region [⟨(some 30), (.mv (.t 4)), none⟩, ⟨(some 2), (.mv (.t 30)), none⟩] []) .ret))))))), [.t 2], [], []⟩
def lp48_0 : IC := (.seq (.seq (.region [⟨(some 7), (.mv (.t 0)), none⟩, ⟨(some 8), (.call 35 [.t 7, .c (str ⟨#[42]⟩)]), none⟩] []) (.cond (.t 8) .skip (.exit 0))) (.block 1 (.seq (.region [⟨(some 9), (.mv (.t 0)), none⟩, ⟨(some 10), (.call 29 [.t 9]), none⟩] []) (.seq (.region [⟨(some 11), (.mv (.t 0)), none⟩, ⟨(some 12), (.call 49 [.t 11]), none⟩, ⟨(some 4), (.alloc [int 0, str ⟨#[]⟩, int 0, .ls true []]), none⟩, ⟨none, (.store 4 (.t 4) (.t 12)), none⟩] []) (.region [⟨(some 13), (.load 4 true (.t 3)), none⟩, ⟨(some 14), (.load 4 true (.t 4)), none⟩, ⟨(some 15), (.bsl [int 0, str ⟨#[]⟩, int 0, .ls true []] 2 [(0, .t 13), (1, .t 14)]), none⟩, ⟨(some 16), (.call 36 [.c (int 21), .t 15]), none⟩, ⟨none, (.store 4 (.t 3) (.t 16)), none⟩] [])))))
def ir48 : IFun := ⟨(.seq (.region [⟨(some 2), (.alloc [int 0, str ⟨#[]⟩, int 0, .ls true []]), none⟩] []) (.seq (.region [⟨(some 5), (.mv (.t 0)), none⟩, ⟨(some 6), (.call 49 [.t 5]), none⟩, ⟨(some 3), (.alloc [int 0, str ⟨#[]⟩, int 0, .ls true []]), none⟩, ⟨none, (.store 4 (.t 3) (.t 6)), none⟩] []) (.seq (.block 0 (.loop lp48_0 [0, 2, 3] [2, 3])) (.seq (.region [⟨(some 17), (.load 4 true (.t 3)), none⟩, ⟨none, (.store 4 (.t 2) (.t 17)), none⟩] []) .ret)))), [.c 2 4 true], [], []⟩
def lp49_0 : IC := (.seq (.seq (.region [⟨(some 38), (.mv (.t 0)), none⟩, ⟨(some 39), (.nilc (.t 38)), none⟩, ⟨(some 40), (.fld 2 (.t 39)), none⟩, ⟨(some 41), (.load 1 false (.t 40)), none⟩, ⟨(some 42), (.bin .lss (.t 41) (.c (int 0))), none⟩, ⟨(some 43), (.mv (.t 42)), none⟩, ⟨(some 44), (.mv (.t 0)), (some (43, true))⟩, ⟨(some 45), (.call 35 [.t 44, .c (str ⟨#[41]⟩)]), (some (43, true))⟩, ⟨(some 46), (.un .not (.t 45)), (some (43, true))⟩, ⟨(some 47), (.pick (.t 43) (.t 46) (.c (bool false))), none⟩] []) (.cond (.t 47) .skip (.exit 2))) (.block 3 (.seq (.seq (.region [⟨(some 48), (.mv (.t 6)), none⟩, ⟨(some 49), (.len 0 (.t 48)), none⟩, ⟨(some 50), (.bin .gtr (.t 49) (.c (int 1))), none⟩] []) (.cond (.t 50) (.region [⟨(some 51), (.mv (.t 0)), none⟩, ⟨(some 52), (.call 31 [.t 51, .c (str ⟨#[44]⟩)]), none⟩] []) .skip)) (.region [⟨(some 53), (.mv (.t 6)), none⟩, ⟨(some 54), (.mv (.t 0)), none⟩, ⟨(some 55), (.call 32 [.t 54]), none⟩, ⟨(some 56), (.bsl [int 0, str ⟨#[]⟩, int 0, .ls true []] 1 [(0, .t 55)]), none⟩, ⟨(some 57), (.app 4 56 true (.t 53) (.t 56)), none⟩, ⟨(some 6), (.mv (.t 57)), none⟩] []))))
def lp49_1 : IC := (.seq (.seq (.region [⟨(some 18), (.mv (.t 0)), none⟩, ⟨(some 19), (.call 35 [.t 18, .c (str ⟨#[46]⟩)]), none⟩, ⟨(some 20), (.mv (.t 19)), none⟩, ⟨(some 21), (.mv (.t 0)), (some (20, false))⟩, ⟨(some 22), (.call 35 [.t 21, .c (str ⟨#[40]⟩)]), (some (20, false))⟩, ⟨(some 23), (.pick (.t 20) (.c (bool true)) (.t 22)), none⟩] []) (.cond (.t 23) .skip (.exit 0))) (.block 1 (.seq (.seq (.region [⟨(some 24), (.mv (.t 0)), none⟩, ⟨(some 25), (.call 35 [.t 24, .c (str ⟨#[46]⟩)]), none⟩] []) (.cond (.t 25) (.seq (.region [⟨(some 26), (.mv (.t 0)), none⟩, ⟨(some 27), (.call 29 [.t 26]), none⟩] []) (.seq (.region [⟨(some 28), (.mv (.t 0)), none⟩, ⟨(some 29), (.call 30 [.t 28, .c (bool true)]), none⟩, ⟨(some 5), (.mv (.t 29)), none⟩] []) (.seq (.region [⟨(some 30), (.mv (.t 5)), none⟩, ⟨(some 31), (.load 4 true (.t 4)), none⟩, ⟨(some 32), (.bsl [int 0, str ⟨#[]⟩, int 0, .ls true []] 1 [(0, .t 31)]), none⟩, ⟨(some 33), (.build [int 0, str ⟨#[]⟩, int 0, .ls true []] [(0, 1, .c (int 17)), (1, 1, .t 30), (3, 1, .t 32)]), none⟩, ⟨none, (.store 4 (.t 4) (.t 33)), none⟩] []) (.exit 1)))) .skip)) (.seq (.region [⟨(some 34), (.mv (.t 0)), none⟩, ⟨(some 35), (.call 29 [.t 34]), none⟩] []) (.seq (.region [⟨(some 36), (.load 4 true (.t 4)), none⟩, ⟨(some 37), (.bsl [int 0, str ⟨#[]⟩, int 0, .ls true []] 1 [(0, .t 36)]), none⟩, ⟨(some 6), (.mv (.t 37)), none⟩] []) (.seq (.block 2 (.loop lp49_0 [0, 2, 4, 6] [0, 2, 4, 6])) (.seq (.region [⟨(some 58), (.mv (.t 0)), none⟩, ⟨(some 59), (.call 31 [.t 58, .c (str ⟨#[41]⟩)]), none⟩] []) (.region [⟨(some 60), (.mv (.t 6)), none⟩, ⟨(some 61), (.call 36 [.c (int 18), .t 60]), none⟩, ⟨none, (.store 4 (.t 4) (.t 61)), none⟩] []))))))))
def ir49 : IFun := ⟨(.seq (.region [⟨(some 2), (.alloc [int 0, str ⟨#[]⟩, int 0, .ls true []]), none⟩] []) (.seq (.seq (.region [⟨(some 7), (.mv (.t 0)), none⟩, ⟨(some 8), (.call 35 [.t 7, .c (str ⟨#[33]⟩)]), none⟩] []) (.cond (.t 8) (.seq (.region [⟨(some 9), (.mv (.t 0)), none⟩, ⟨(some 10), (.call 29 [.t 9]), none⟩] []) (.seq (.region [⟨(some 11), (.mv (.t 0)), none⟩, ⟨(some 12), (.call 49 [.t 11]), none⟩, ⟨(some 3), (.alloc [int 0, str ⟨#[]⟩, int 0, .ls true []]), none⟩, ⟨none, (.store 4 (.t 3) (.t 12)), none⟩] []) (.seq (.region [⟨(some 13), (.load 4 true (.t 3)), none⟩, ⟨(some 14), (.bsl [int 0, str ⟨#[]⟩, int 0, .ls true []] 1 [(0, .t 13)]), none⟩, ⟨(some 15), (.call 36 [.c (int 24), .t 14]), none⟩, ⟨none, (.store 4 (.t 2) (.t 15)), none⟩] []) .ret))) .skip)) (.seq (.region [⟨(some 16), (.mv (.t 0)), none⟩, ⟨(some 17), (.call 50 [.t 16]), none⟩, ⟨(some 4), (.alloc [int 0, str ⟨#[]⟩, int 0, .ls true []]), none⟩, ⟨none, (.store 4 (.t 4) (.t 17)), none⟩] []) (.seq (.block 0 (.loop lp49_1 [0, 2, 4] [2, 4])) (.seq (.region [⟨(some 62), (.load 4 true (.t 4)), none⟩, ⟨none, (.store 4 (.t 2) (.t 62)), none⟩] []) .ret))))), [.c 2 4 true], [], []⟩
def ir50 : IFun := ⟨(.seq (.region [⟨(some 2), (.alloc [int 0, str ⟨#[]⟩, int 0, .ls true []]), none⟩] []) (.seq (.region [⟨(some 6), (.mv (.t 0)), none⟩, ⟨(some 7), (.call 24 [.t 6]), none⟩, ⟨(some 3), (.alloc [int 0, str ⟨#[]⟩, int 0, int 0]), none⟩, ⟨none, (.store 4 (.t 3) (.t 7)), none⟩] []) (.seq (.region [⟨(some 8), (.mv (.t 0)), none⟩, ⟨(some 9), (.call 51 [.t 8]), none⟩, ⟨(some 4), (.mv (.t 9)), none⟩] []) (.seq (.block 0 (.seq (.region [⟨(some 11), (.mv (.t 4)), none⟩, ⟨(some 12), (.bin .neq (.t 11) (.c (int 0))), none⟩, ⟨(some 10), (.mv (.t 12)), none⟩] []) (.cond (.t 10) (.seq (.region [⟨(some 13), (.mv (.t 0)), none⟩, ⟨(some 14), (.call 29 [.t 13]), none⟩] []) (.seq (.region [⟨(some 15), (.mv (.t 4)), none⟩, ⟨(some 16), (.build [int 0, str ⟨#[]⟩, int 0, .ls true []] [(0, 1, .t 15)]), none⟩, ⟨none, (.store 4 (.t 2) (.t 16)), none⟩] []) .ret)) (.seq (.region [⟨(some 18), (.mv (.t 0)), none⟩, ⟨(some 19), (.nilc (.t 18)), none⟩, ⟨(some 20), (.fld 2 (.t 19)), none⟩, ⟨(some 21), (.load 1 false (.t 20)), none⟩, ⟨(some 22), (.bin .lss (.t 21) (.c (int 0))), none⟩, ⟨(some 23), (.mv (.t 22)), none⟩, ⟨(some 24), (.fld 0 (.t 3)), (some (23, true))⟩, ⟨(some 25), (.load 1 false (.t 24)), (some (23, true))⟩, ⟨(some 26), (.bin .eql (.t 25) (.c (int 2))), (some (23, true))⟩, ⟨(some 27), (.pick (.t 23) (.t 26) (.c (bool false))), none⟩, ⟨(some 17), (.mv (.t 27)), none⟩] []) (.cond (.t 17) (.seq (.region [⟨(some 28), (.mv (.t 0)), none⟩, ⟨(some 29), (.call 29 [.t 28]), none⟩] []) (.seq (.region [⟨(some 30), (.fld 2 (.t 3)), none⟩, ⟨(some 31), (.load 1 false (.t 30)), none⟩, ⟨(some 32), (.build [int 0, str ⟨#[]⟩, int 0, .ls true []] [(0, 1, .c (int 10)), (2, 1, .t 31)]), none⟩, ⟨none, (.store 4 (.t 2) (.t 32)), none⟩] []) .ret)) (.seq (.region [⟨(some 34), (.mv (.t 0)), none⟩, ⟨(some 35), (.nilc (.t 34)), none⟩, ⟨(some 36), (.fld 2 (.t 35)), none⟩, ⟨(some 37), (.load 1 false (.t 36)), none⟩, ⟨(some 38), (.bin .lss (.t 37) (.c (int 0))), none⟩, ⟨(some 39), (.mv (.t 38)), none⟩, ⟨(some 40), (.fld 0 (.t 3)), (some (39, true))⟩, ⟨(some 41), (.load 1 false (.t 40)), (some (39, true))⟩, ⟨(some 42), (.bin .eql (.t 41) (.c (int 3))), (some (39, true))⟩, ⟨(some 43), (.pick (.t 39) (.t 42) (.c (bool false))), none⟩, ⟨(some 33), (.mv (.t 43)), none⟩] []) (.cond (.t 33) (.seq (.region [⟨(some 44), (.mv (.t 0)), none⟩, ⟨(some 45), (.call 29 [.t 44]), none⟩] []) (.seq (.region [⟨(some 46), (.fld 1 (.t 3)), none⟩, ⟨(some 47), (.load 1 false (.t 46)), none⟩, ⟨(some 48), (.build [int 0, str ⟨#[]⟩, int 0, .ls true []] [(0, 1, .c (int 11)), (1, 1, .t 47)]), none⟩, ⟨none, (.store 4 (.t 2) (.t 48)), none⟩] []) .ret)) (.seq (.region [⟨(some 50), (.mv (.t 0)), none⟩, ⟨(some 51), (.call 35 [.t 50, .c (str ⟨#[45]⟩)]), none⟩, ⟨(some 49), (.mv (.t 51)), none⟩] []) (.cond (.t 49) (.seq (.region [⟨(some 52), (.mv (.t 0)), none⟩, ⟨(some 53), (.call 29 [.t 52]), none⟩] []) (.seq (.region [⟨(some 54), (.mv (.t 0)), none⟩, ⟨(some 55), (.call 24 [.t 54]), none⟩, ⟨none, (.store 4 (.t 3) (.t 55)), none⟩] []) (.seq (.seq (.region [⟨(some 56), (.fld 0 (.t 3)), none⟩, ⟨(some 57), (.load 1 false (.t 56)), none⟩, ⟨(some 58), (.bin .neq (.t 57) (.c (int 2))), none⟩] []) (.cond (.t 58) (.seq (.region [⟨(some 59), (.mv (.t 0)), none⟩, ⟨(some 60), (.call 44 [.t 59]), none⟩] []) (.seq (.region [⟨(some 61), (.build [int 0, str ⟨#[]⟩, int 0, .ls true []] []), none⟩, ⟨none, (.store 4 (.t 2) (.t 61)), none⟩] []) .ret)) .skip)) (.seq (.region [⟨(some 62), (.mv (.t 0)), none⟩, ⟨(some 63), (.call 29 [.t 62]), none⟩] []) (.seq (.region [⟨(some 64), (.fld 2 (.t 3)), none⟩, ⟨(some 65), (.load 1 false (.t 64)), none⟩, ⟨(some 66), (.bin .sub (.c (int 0)) (.t 65)), none⟩, ⟨(some 67), (.build [int 0, str ⟨#[]⟩, int 0, .ls true []] [(0, 1, .c (int 10)), (2, 1, .t 66)]), none⟩, ⟨none, (.store 4 (.t 2) (.t 67)), none⟩] []) .ret))))) (.seq (.region [⟨(some 69), (.mv (.t 0)), none⟩, ⟨(some 70), (.call 35 [.t 69, .c (str ⟨#[40]⟩)]), none⟩, ⟨(some 68), (.mv (.t 70)), none⟩] []) (.cond (.t 68) (.seq (.region [⟨(some 71), (.mv (.t 0)), none⟩, ⟨(some 72), (.call 29 [.t 71]), none⟩] []) (.seq (.region [⟨(some 73), (.mv (.t 0)), none⟩, ⟨(some 74), (.call 32 [.t 73]), none⟩, ⟨(some 5), (.alloc [int 0, str ⟨#[]⟩, int 0, .ls true []]), none⟩, ⟨none, (.store 4 (.t 5) (.t 74)), none⟩] []) (.seq (.region [⟨(some 75), (.mv (.t 0)), none⟩, ⟨(some 76), (.call 31 [.t 75, .c (str ⟨#[41]⟩)]), none⟩] []) (.seq (.region [⟨(some 77), (.load 4 true (.t 5)), none⟩, ⟨none, (.store 4 (.t 2) (.t 77)), none⟩] []) .ret)))) (.seq (.region [⟨(some 79), (.mv (.t 0)), none⟩, ⟨(some 80), (.call 35 [.t 79, .c (str ⟨#[123]⟩)]), none⟩, ⟨(some 78), (.mv (.t 80)), none⟩] []) (.cond (.t 78) (.seq (.region [⟨(some 81), (.mv (.t 0)), none⟩, ⟨(some 82), (.call 52 [.t 81]), none⟩, ⟨none, (.store 4 (.t 2) (.t 82)), none⟩] []) .ret) (.seq (.region [⟨(some 84), (.mv (.t 0)), none⟩, ⟨(some 85), (.call 28 [.t 84, .c (str ⟨#[102, 117, 110, 99, 116, 105, 111, 110]⟩)]), none⟩, ⟨(some 83), (.mv (.t 85)), none⟩] []) (.cond (.t 83) (.seq (.region [⟨(some 86), (.mv (.t 0)), none⟩, ⟨(some 87), (.call 53 [.t 86]), none⟩, ⟨none, (.store 4 (.t 2) (.t 87)), none⟩] []) .ret) .skip))))))))))))))) (.seq (.region [⟨(some 88), (.mv (.t 0)), none⟩, ⟨(some 89), (.call 30 [.t 88, .c (bool false)]), none⟩, ⟨(some 90), (.build [int 0, str ⟨#[]⟩, int 0, .ls true []] [(0, 1, .c (int 16)), (1, 1, .t 89)]), none⟩, ⟨none, (.store 4 (.t 2) (.t 90)), none⟩] []) .ret))))), [.c 2 4 true], [], []⟩
def ir51 : IFun := ⟨(.seq (.region [⟨(some 2), (.mv (.c (int 0))), none⟩] []) (.seq (.block 0 (.seq (.region [⟨(some 4), (.mv (.t 0)), none⟩, ⟨(some 5), (.call 28 [.t 4, .c (str ⟨#[116, 114, 117, 101]⟩)]), none⟩, ⟨(some 3), (.mv (.t 5)), none⟩] []) (.cond (.t 3) (.seq (.region [⟨(some 2), (.mv (.c (int 12))), none⟩] []) .ret) (.seq (.region [⟨(some 7), (.mv (.t 0)), none⟩, ⟨(some 8), (.call 28 [.t 7, .c (str ⟨#[102, 97, 108, 115, 101]⟩)]), none⟩, ⟨(some 6), (.mv (.t 8)), none⟩] []) (.cond (.t 6) (.seq (.region [⟨(some 2), (.mv (.c (int 13))), none⟩] []) .ret) (.seq (.region [⟨(some 10), (.mv (.t 0)), none⟩, ⟨(some 11), (.call 28 [.t 10, .c (str ⟨#[110, 117, 108, 108]⟩)]), none⟩, ⟨(some 9), (.mv (.t 11)), none⟩] []) (.cond (.t 9) (.seq (.region [⟨(some 2), (.mv (.c (int 14))), none⟩] []) .ret) (.seq (.region [⟨(some 13), (.mv (.t 0)), none⟩, ⟨(some 14), (.call 28 [.t 13, .c (str ⟨#[117, 110, 100, 101, 102, 105, 110, 101, 100]⟩)]), none⟩, ⟨(some 12), (.mv (.t 14)), none⟩] []) (.cond (.t 12) (.seq (.region [⟨(some 2), (.mv (.c (int 15))), none⟩] []) .ret) .skip))))))))) (.seq (.region [⟨(some 2), (.mv (.c (int 0))), none⟩] []) .ret))), [.t 2], [], []⟩
def lp52_0 : IC := (.seq (.seq (.region [⟨(some 9), (.mv (.t 0)), none⟩, ⟨(some 10), (.nilc (.t 9)), none⟩, ⟨(some 11), (.fld 2 (.t 10)), none⟩, ⟨(some 12), (.load 1 false (.t 11)), none⟩, ⟨(some 13), (.bin .lss (.t 12) (.c (int 0))), none⟩, ⟨(some 14), (.mv (.t 13)), none⟩, ⟨(some 15), (.mv (.t 0)), (some (14, true))⟩, ⟨(some 16), (.call 35 [.t 15, .c (str ⟨#[125]⟩)]), (some (14, true))⟩, ⟨(some 17), (.un .not (.t 16)), (some (14, true))⟩, ⟨(some 18), (.pick (.t 14) (.t 17) (.c (bool false))), none⟩] []) (.cond (.t 18) .skip (.exit 0))) (.block 1 (.seq (.seq (.region [⟨(some 19), (.fld 3 (.t 3)), none⟩, ⟨(some 20), (.load 1 false (.t 19)), none⟩, ⟨(some 21), (.len 0 (.t 20)), none⟩, ⟨(some 22), (.bin .gtr (.t 21) (.c (int 0))), none⟩] []) (.cond (.t 22) (.region [⟨(some 23), (.mv (.t 0)), none⟩, ⟨(some 24), (.call 31 [.t 23, .c (str ⟨#[44]⟩)]), none⟩] []) .skip)) (.seq (.region [⟨(some 25), (.mv (.t 0)), none⟩, ⟨(some 26), (.call 30 [.t 25, .c (bool false)]), none⟩, ⟨(some 4), (.mv (.t 26)), none⟩] []) (.seq (.region [⟨(some 27), (.mv (.t 0)), none⟩, ⟨(some 28), (.call 31 [.t 27, .c (str ⟨#[58]⟩)]), none⟩] []) (.seq (.region [⟨(some 29), (.mv (.t 0)), none⟩, ⟨(some 30), (.call 32 [.t 29]), none⟩, ⟨(some 5), (.alloc [int 0, str ⟨#[]⟩, int 0, .ls true []]), none⟩, ⟨none, (.store 4 (.t 5) (.t 30)), none⟩] []) (.region [⟨(some 31), (.fld 3 (.t 3)), none⟩, ⟨(some 32), (.load 1 false (.t 31)), none⟩, ⟨(some 33), (.mv (.t 4)), none⟩, ⟨(some 34), (.load 4 true (.t 5)), none⟩, ⟨(some 35), (.bsl [int 0, str ⟨#[]⟩, int 0, .ls true []] 1 [(0, .t 34)]), none⟩, ⟨(some 36), (.build [int 0, str ⟨#[]⟩, int 0, .ls true []] [(0, 1, .c (int 26)), (1, 1, .t 33), (3, 1, .t 35)]), none⟩, ⟨(some 37), (.bsl [int 0, str ⟨#[]⟩, int 0, .ls true []] 1 [(0, .t 36)]), none⟩, ⟨(some 38), (.app 4 56 true (.t 32) (.t 37)), none⟩, ⟨(some 39), (.fld 3 (.t 3)), none⟩, ⟨none, (.store 1 (.t 39) (.t 38)), none⟩] [])))))))
def ir52 : IFun := ⟨(.seq (.region [⟨(some 2), (.alloc [int 0, str ⟨#[]⟩, int 0, .ls true []]), none⟩] []) (.seq (.region [⟨(some 6), (.mv (.t 0)), none⟩, ⟨(some 7), (.call 31 [.t 6, .c (str ⟨#[123]⟩)]), none⟩] []) (.seq (.region [⟨(some 8), (.build [int 0, str ⟨#[]⟩, int 0, .ls true []] [(0, 1, .c (int 25))]), none⟩, ⟨(some 3), (.alloc [int 0, str ⟨#[]⟩, int 0, .ls true []]), none⟩, ⟨none, (.store 4 (.t 3) (.t 8)), none⟩] []) (.seq (.block 0 (.loop lp52_0 [0, 2, 3] [0, 2, 3])) (.seq (.region [⟨(some 40), (.mv (.t 0)), none⟩, ⟨(some 41), (.call 31 [.t 40, .c (str ⟨#[125]⟩)]), none⟩] []) (.seq (.region [⟨(some 42), (.load 4 true (.t 3)), none⟩, ⟨none, (.store 4 (.t 2) (.t 42)), none⟩] []) .ret)))))), [.c 2 4 true], [], []⟩
def lp53_0 : IC := (.seq (.seq (.region [⟨(some 10), (.mv (.t 0)), none⟩, ⟨(some 11), (.nilc (.t 10)), none⟩, ⟨(some 12), (.fld 2 (.t 11)), none⟩, ⟨(some 13), (.load 1 false (.t 12)), none⟩, ⟨(some 14), (.bin .lss (.t 13) (.c (int 0))), none⟩, ⟨(some 15), (.mv (.t 14)), none⟩, ⟨(some 16), (.mv (.t 0)), (some (15, true))⟩, ⟨(some 17), (.call 35 [.t 16, .c (str ⟨#[41]⟩)]), (some (15, true))⟩, ⟨(some 18), (.un .not (.t 17)), (some (15, true))⟩, ⟨(some 19), (.pick (.t 15) (.t 18) (.c (bool false))), none⟩] []) (.cond (.t 19) .skip (.exit 0))) (.seq (.block 1 (.seq (.seq (.region [⟨(some 22), (.mv (.t 4)), none⟩, ⟨(some 23), (.bin .gtr (.t 22) (.c (int 0))), none⟩] []) (.cond (.t 23) (.seq (.region [⟨(some 24), (.mv (.t 0)), none⟩, ⟨(some 25), (.call 31 [.t 24, .c (str ⟨#[44]⟩)]), none⟩] []) (.region [⟨(some 26), (.mv (.t 3)), none⟩, ⟨(some 27), (.bin .add (.t 26) (.c (str ⟨#[32]⟩))), none⟩, ⟨(some 3), (.mv (.t 27)), none⟩] [])) .skip)) (.region [⟨(some 28), (.mv (.t 3)), none⟩, ⟨(some 29), (.mv (.t 0)), none⟩, ⟨(some 30), (.call 30 [.t 29, .c (bool false)]), none⟩, ⟨(some 31), (.bin .add (.t 28) (.t 30)), none⟩, ⟨(some 3), (.mv (.t 31)), none⟩] []))) (.region [⟨(some 20), (.mv (.t 4)), none⟩, ⟨(some 21), (.bin .add (.t 20) (.c (int 1))), none⟩, ⟨(some 4), (.mv (.t 21)), none⟩] [])))
def ir53 : IFun := ⟨(.seq (.region [⟨(some 2), (.alloc [int 0, str ⟨#[]⟩, int 0, .ls true []]), none⟩] []) (.seq (.region [⟨(some 6), (.mv (.t 0)), none⟩, ⟨(some 7), (.call 29 [.t 6]), none⟩] []) (.seq (.region [⟨(some 8), (.mv (.t 0)), none⟩, ⟨(some 9), (.call 31 [.t 8, .c (str ⟨#[40]⟩)]), none⟩] []) (.seq (.region [⟨(some 3), (.mv (.c (str ⟨#[]⟩))), none⟩] []) (.seq (.seq (.region [⟨(some 4), (.mv (.c (int 0))), none⟩] []) (.block 0 (.loop lp53_0 [0, 2, 3, 4] [0, 2, 3]))) (.seq (.region [⟨(some 32), (.mv (.t 0)), none⟩, ⟨(some 33), (.call 31 [.t 32, .c (str ⟨#[41]⟩)]), none⟩] []) (.seq (.region [⟨(some 34), (.mv (.t 0)), none⟩, ⟨(some 35), (.call 46 [.t 34]), none⟩, ⟨(some 5), (.alloc [int 0, str ⟨#[]⟩, int 0, .ls true []]), none⟩, ⟨none, (.store 4 (.t 5) (.t 35)), none⟩] []) (.seq (.region [⟨(some 36), (.mv (.t 3)), none⟩, ⟨(some 37), (.load 4 true (.t 5)), none⟩, ⟨(some 38), (.bsl [int 0, str ⟨#[]⟩, int 0, .ls true []] 1 [(0, .t 37)]), none⟩, ⟨(some 39), (.build [int 0, str ⟨#[]⟩, int 0, .ls true []] [(0, 1, .c (int 27)), (1, 1, .t 36), (3, 1, .t 38)]), none⟩, ⟨none, (.store 4 (.t 2) (.t 39)), none⟩] []) .ret)))))))), [.c 2 4 true], [], []⟩
def EEfn : Nat → Option IFun
  | 3 => some ir3
  | 4 => some ir4
  | 5 => some ir5
  | 6 => some ir6
  | 7 => some ir7
  | 8 => some ir8
  | 9 => some ir9
  | 10 => some ir10
  | 11 => some ir11
  | 12 => some ir12
  | 13 => some ir13
  | 14 => some ir14
  | 15 => some ir15
  | 16 => some ir16
  | 17 => some ir17
  | 18 => some ir18
  | 19 => some ir19
  | 20 => some ir20
  | 21 => some ir21
  | 22 => some ir22
  | 23 => some ir23
  | 24 => some ir24
  | 25 => some ir25
  | 26 => some ir26
  | 27 => some ir27
  | 28 => some ir28
  | 29 => some ir29
  | 30 => some ir30
  | 31 => some ir31
  | 32 => some ir32
  | 33 => some ir33
  | 34 => some ir34
  | 35 => some ir35
  | 36 => some ir36
  | 37 => some ir37
  | 38 => some ir38
  | 39 => some ir39
  | 40 => some ir40
  | 41 => some ir41
  | 42 => some ir42
  | 43 => some ir43
  | 44 => some ir44
  | 45 => some ir45
  | 46 => some ir46
  | 47 => some ir47
  | 48 => some ir48
  | 49 => some ir49
  | 50 => some ir50
  | 51 => some ir51
  | 52 => some ir52
  | 53 => some ir53
  | _ => none
def EEown : Nat → Nat → Mode
  | 36, 1 => .given
  | _, _ => .shown
def EElib : Nat → List V → List Cell → Option (V × List Cell)
  | _ => fun _ _ => none
def EE : Env := { fn := EEfn, own := EEown, lib := EElib }
@[simp] theorem fn3 : EE.fn 3 = some ir3 := rfl
@[simp] theorem fn4 : EE.fn 4 = some ir4 := rfl
@[simp] theorem fn5 : EE.fn 5 = some ir5 := rfl
@[simp] theorem fn6 : EE.fn 6 = some ir6 := rfl
@[simp] theorem fn7 : EE.fn 7 = some ir7 := rfl
@[simp] theorem fn8 : EE.fn 8 = some ir8 := rfl
@[simp] theorem fn9 : EE.fn 9 = some ir9 := rfl
@[simp] theorem fn10 : EE.fn 10 = some ir10 := rfl
@[simp] theorem fn11 : EE.fn 11 = some ir11 := rfl
@[simp] theorem fn12 : EE.fn 12 = some ir12 := rfl
@[simp] theorem fn13 : EE.fn 13 = some ir13 := rfl
@[simp] theorem fn14 : EE.fn 14 = some ir14 := rfl
@[simp] theorem fn15 : EE.fn 15 = some ir15 := rfl
@[simp] theorem fn16 : EE.fn 16 = some ir16 := rfl
@[simp] theorem fn17 : EE.fn 17 = some ir17 := rfl
@[simp] theorem fn18 : EE.fn 18 = some ir18 := rfl
@[simp] theorem fn19 : EE.fn 19 = some ir19 := rfl
@[simp] theorem fn20 : EE.fn 20 = some ir20 := rfl
@[simp] theorem fn21 : EE.fn 21 = some ir21 := rfl
@[simp] theorem fn22 : EE.fn 22 = some ir22 := rfl
@[simp] theorem fn23 : EE.fn 23 = some ir23 := rfl
@[simp] theorem fn24 : EE.fn 24 = some ir24 := rfl
@[simp] theorem fn25 : EE.fn 25 = some ir25 := rfl
@[simp] theorem fn26 : EE.fn 26 = some ir26 := rfl
@[simp] theorem fn27 : EE.fn 27 = some ir27 := rfl
@[simp] theorem fn28 : EE.fn 28 = some ir28 := rfl
@[simp] theorem fn29 : EE.fn 29 = some ir29 := rfl
@[simp] theorem fn30 : EE.fn 30 = some ir30 := rfl
@[simp] theorem fn31 : EE.fn 31 = some ir31 := rfl
@[simp] theorem fn32 : EE.fn 32 = some ir32 := rfl
@[simp] theorem fn33 : EE.fn 33 = some ir33 := rfl
@[simp] theorem fn34 : EE.fn 34 = some ir34 := rfl
@[simp] theorem fn35 : EE.fn 35 = some ir35 := rfl
@[simp] theorem fn36 : EE.fn 36 = some ir36 := rfl
@[simp] theorem fn37 : EE.fn 37 = some ir37 := rfl
@[simp] theorem fn38 : EE.fn 38 = some ir38 := rfl
@[simp] theorem fn39 : EE.fn 39 = some ir39 := rfl
@[simp] theorem fn40 : EE.fn 40 = some ir40 := rfl
@[simp] theorem fn41 : EE.fn 41 = some ir41 := rfl
@[simp] theorem fn42 : EE.fn 42 = some ir42 := rfl
@[simp] theorem fn43 : EE.fn 43 = some ir43 := rfl
@[simp] theorem fn44 : EE.fn 44 = some ir44 := rfl
@[simp] theorem fn45 : EE.fn 45 = some ir45 := rfl
@[simp] theorem fn46 : EE.fn 46 = some ir46 := rfl
@[simp] theorem fn47 : EE.fn 47 = some ir47 := rfl
@[simp] theorem fn48 : EE.fn 48 = some ir48 := rfl
@[simp] theorem fn49 : EE.fn 49 = some ir49 := rfl
@[simp] theorem fn50 : EE.fn 50 = some ir50 := rfl
@[simp] theorem fn51 : EE.fn 51 = some ir51 := rfl
@[simp] theorem fn52 : EE.fn 52 = some ir52 := rfl
@[simp] theorem fn53 : EE.fn 53 = some ir53 := rfl
@[simp] theorem own36 : EE.own 36 = fun i => if i = 1 then .given else .shown := by funext i; match i with | 0 => rfl | 1 => rfl | _ + 2 => rfl
@[simp] theorem own3 : EE.own 3 = fun _ => .shown := rfl
@[simp] theorem own4 : EE.own 4 = fun _ => .shown := rfl
@[simp] theorem own5 : EE.own 5 = fun _ => .shown := rfl
@[simp] theorem own6 : EE.own 6 = fun _ => .shown := rfl
@[simp] theorem own7 : EE.own 7 = fun _ => .shown := rfl
@[simp] theorem own8 : EE.own 8 = fun _ => .shown := rfl
@[simp] theorem own9 : EE.own 9 = fun _ => .shown := rfl
@[simp] theorem own10 : EE.own 10 = fun _ => .shown := rfl
@[simp] theorem own11 : EE.own 11 = fun _ => .shown := rfl
@[simp] theorem own12 : EE.own 12 = fun _ => .shown := rfl
@[simp] theorem own13 : EE.own 13 = fun _ => .shown := rfl
@[simp] theorem own14 : EE.own 14 = fun _ => .shown := rfl
@[simp] theorem own15 : EE.own 15 = fun _ => .shown := rfl
@[simp] theorem own16 : EE.own 16 = fun _ => .shown := rfl
@[simp] theorem own17 : EE.own 17 = fun _ => .shown := rfl
@[simp] theorem own18 : EE.own 18 = fun _ => .shown := rfl
@[simp] theorem own19 : EE.own 19 = fun _ => .shown := rfl
@[simp] theorem own20 : EE.own 20 = fun _ => .shown := rfl
@[simp] theorem own21 : EE.own 21 = fun _ => .shown := rfl
@[simp] theorem own22 : EE.own 22 = fun _ => .shown := rfl
@[simp] theorem own23 : EE.own 23 = fun _ => .shown := rfl
@[simp] theorem own24 : EE.own 24 = fun _ => .shown := rfl
@[simp] theorem own25 : EE.own 25 = fun _ => .shown := rfl
@[simp] theorem own26 : EE.own 26 = fun _ => .shown := rfl
@[simp] theorem own27 : EE.own 27 = fun _ => .shown := rfl
@[simp] theorem own28 : EE.own 28 = fun _ => .shown := rfl
@[simp] theorem own29 : EE.own 29 = fun _ => .shown := rfl
@[simp] theorem own30 : EE.own 30 = fun _ => .shown := rfl
@[simp] theorem own31 : EE.own 31 = fun _ => .shown := rfl
@[simp] theorem own32 : EE.own 32 = fun _ => .shown := rfl
@[simp] theorem own33 : EE.own 33 = fun _ => .shown := rfl
@[simp] theorem own34 : EE.own 34 = fun _ => .shown := rfl
@[simp] theorem own35 : EE.own 35 = fun _ => .shown := rfl
@[simp] theorem own37 : EE.own 37 = fun _ => .shown := rfl
@[simp] theorem own38 : EE.own 38 = fun _ => .shown := rfl
@[simp] theorem own39 : EE.own 39 = fun _ => .shown := rfl
@[simp] theorem own40 : EE.own 40 = fun _ => .shown := rfl
@[simp] theorem own41 : EE.own 41 = fun _ => .shown := rfl
@[simp] theorem own42 : EE.own 42 = fun _ => .shown := rfl
@[simp] theorem own43 : EE.own 43 = fun _ => .shown := rfl
@[simp] theorem own44 : EE.own 44 = fun _ => .shown := rfl
@[simp] theorem own45 : EE.own 45 = fun _ => .shown := rfl
@[simp] theorem own46 : EE.own 46 = fun _ => .shown := rfl
@[simp] theorem own47 : EE.own 47 = fun _ => .shown := rfl
@[simp] theorem own48 : EE.own 48 = fun _ => .shown := rfl
@[simp] theorem own49 : EE.own 49 = fun _ => .shown := rfl
@[simp] theorem own50 : EE.own 50 = fun _ => .shown := rfl
@[simp] theorem own51 : EE.own 51 = fun _ => .shown := rfl
@[simp] theorem own52 : EE.own 52 = fun _ => .shown := rfl
@[simp] theorem own53 : EE.own 53 = fun _ => .shown := rfl
end Go.Pv

namespace Go.Pv
attribute [simp low] ro_gen
attribute [simp high] ro_mv ro_fld ro_len ro_len1 ro_bin ro_load ro_idx ro_pick' ro_not' ro_neg ro_beq ro_ext ro_fget ro_conv' ro_guard' ro_sslc ro_sidx ro_alloc ro_box ro_store ro_take ro_mkfn ro_callv ro_mksl ro_bsl ro_app ro_apps ro_slc ro_call ro_b2s ro_nilc ro_mkmap ro_mn' ro_mx' ro_build ro_copy ro_mget2 ro_mset2 ro_nil rg_nil rg_cons
attribute [simp high] ex_seq ex_region0 ex_skip ex_ret ex_exit ex_cond' ex_block ex_loop ex_regionG tame_mv tame_pick tame_bin tame_not tame_conv tame_load tame_fld tame_fget tame_idx tame_len tame_ext tame_slc tame_store tame_app tame_bsl tame_callv tame_mkfn tame_build tame_mksl tame_copy tame_clear tame_mget tame_ment tame_mst tame_mset tame_take tame_apps tame_beq tame_neg tame_b2s tame_sidx tame_sslc tame_mx tame_mn tame_alloc tame_box tame_c isOff_n isOff_g ftO_eq val_t val_c
attribute [simp high] storeR_bx takeR_fp bslR_0 look_hit setA_hit
attribute [simp] storeR_S storeA_a storeA_h takeR_S takeC_t takeC_f takeC_h takeX_eq bslR_in callR_S body_call bodyC_some norm_S
attribute [simp] look_nil setA_nil look_8 setA_8
attribute [simp low] look_miss setA_miss
attribute [simp] rdAP_a expV_rf expR_eq expV_ag expV_tu expV_fn expV_sc expV_ls expV_bx expV_mp expVL_n expVL_c expAS_n expAS_c collC_b collC_m collS_n collS_c seeS_n seeS_c freezeS_n freezeS_c newNP_n newBS_n newBS_c wrAS_n wrAS_c backS_n backS_b backS_m rev1_rf rev1_nil rev1_sc reviveS_n reviveS_c pre1_rf pre1_nil pre1_sc preS_n preS_c fillCS_n fillCS_rf fillCS_sc fillCS_ls heldP_h heldP_a heldP_d heldP_n fillAS_n fillAS_c boxP_b boxP_m boxP_d boxP_n fillBS_n fillBS_c fillVS_eq callS_eq putS_n putS_c initS_eq bxOff_bx getR1_t getR1_c getRS_n getRS_c finishS_eq
attribute [simp] vals_nil vals_cons strP_s mpN_mp copyR_rf fillQ_nil fillQ_cons sidxP_s boolP_b negP_i convP_i guardP_b guardP_t guardC_s guardC_n intsP_i rowV_ls rowV_rf expS_sc expS_ls expS_rf expSL_nil expSL_cons expVL_nil expVL_cons inOrd_nil inOrd_cons okX
attribute [simp] plainV_sc plainV_ls plainV_nil plainV_ag plainV_rf plainL_nil plainL_cons
attribute [simp] effW sameR_b sameR_a List.filter_cons
attribute [simp high] ex_alt ro_hold ro_sth sameA_rfl
attribute [simp] sthR
attribute [simp high] tame_nilc
@[simp] theorem lentOf_g1 : lentOf (fun i => if i = 1 then Mode.given else Mode.shown) 2 = [] := by decide
@[simp] theorem sub_nil0 (a n : Nat) : sub [] a n = [] := by simp [sub]
attribute [simp] str natV_int rowYP_ls rowYP_rf rowXP_nil rowXP_rf optV_n optV_s lenN_rf lenN_ls slcP_rf slcP_fz slcP_nil rdsO wrsO resV nonT wrT opC restM cloLs cloL clo1 rowX rowY
attribute [simp] bO_some bO_none fldP_bx fldP_ep fldP_fp lenP_rf lenP_ls extP_tu fgetP_ag loadP_bx loadP_ep loadP_fp idxP_rf idxP_ls rdXP_eq bin_add bin_sub bin_mul bin_eql bin_neq bin_lss bin_leq bin_gtr bin_geq bin_and7 bin_shr bin_shru bin_sadd bin_rem bin_quo bin_and255 bin_and30 bin_and32 bin_xor bin_seql bin_sneq ld1_sc ld1_ls
attribute [simp] M.foot finR rdS wholeOr chk rdA rdB rdM newR optK fillV fillA fillB fillX fillC callM preL expArgs exp expL coll seeA freezeA newBs wrAs back revive St.get St.put
attribute [simp] impL imp bxsOf bxsOfL renB renBL renC idxOf cellsOf renAB closeB keepT dedup arsOf arsOfL cellsIn renA renAL callOf loopOf hasFz hasFzL hasFzC hasFzR setAt oneOr subset norm0 okA nameE nnT nnB nn nnL topA newE Exit'.isN Exit'.isX Exit'.outOf bool int intK split3 unpack pack Mode.gives
theorem lentOf_shown (n : Nat) : lentOf (fun _ => Mode.shown) n = [] := by simp [lentOf]
attribute [simp] lentOf_shown
@[simp] theorem lentOf15 : lentOf (fun i => if i = 0 then Mode.lent else Mode.shown) 2 = [0] := by decide
@[congr] theorem bO_congr {α β : Type} {x x' : Option α} {f : α → Option β} (h : x = x') : bO x f = bO x' f := by rw [h]
theorem ev_loop (E : Env) {c c' : IC} (h : c = c') (k o : List Nat) (s : St) : ev E (.loop c k o s) = bO (exec E.own (ev E) c' s) fun r => if r.1.isN then bO (norm k r.2) fun s' => bO (loopOf (ev E) c k o s') fun x => some (.out x.1 x.2) else bO (norm o r.2) fun s' => some (.out r.1 s') := by
  rw [ev_eq, ← h]; rfl
theorem wrap64_id (n : Int) (h : -9223372036854775808 ≤ n) (h2 : n ≤ 9223372036854775807) : IntKind.i64.wrap n = n := IntWalk.i64_in n (by omega)
def ints (xs : List Int) : List (List V) := xs.map fun n => [V.sc (.int .i64 n)]
/-- the word at a place -/
def wI (ws : List Int) (i : Int) : Int := ws.getD i.toNat 0
def setI (ws : List Int) (i x : Int) : List Int := ws.set i.toNat x
theorem ints_getI (ws : List Int) (i : Int) (h0 : 0 ≤ i) (h : i < ws.length) : (ints ws)[i.toNat]? = some [.sc (.int .i64 (wI ws i))] := by
  have : i.toNat < ws.length := by omega
  simp [ints, wI, this]
theorem setI_len (ws : List Int) (i x : Int) : (setI ws i x).length = ws.length := by simp [setI]
@[simp] theorem ints_len (xs : List Int) : (ints xs).length = xs.length := by simp [ints]
@[simp] theorem ints_all (xs : List Int) : allLen 1 (ints xs) = true := by simp [ints, allLen]
@[simp] theorem ints_frz (xs : List Int) : frzR (ints xs) = ints xs := by
  induction xs with
  | nil => rfl
  | cons x xs ih => simp [ints, frzR, frzL, frz] at ih ⊢; exact ih
theorem ints_nil : ints [] = [] := rfl
theorem ints_app (xs ys : List Int) : ints xs ++ ints ys = ints (xs ++ ys) := by simp only [ints, List.map_append]
@[simp] theorem ints_one (x : Int) : [[V.sc (.int .i64 x)]] = ints [x] := rfl
@[simp] theorem ints_cons (x : Int) (l : List Int) : [V.sc (.int .i64 x)] :: ints l = ints (x :: l) := rfl
@[simp] theorem ints_emp (l : List Int) : (ints l).isEmpty = l.isEmpty := by cases l <;> rfl
@[simp] theorem ints_appI (xs ys : List Int) : ints xs ++ ints ys = ints (xs ++ ys) := by simp only [ints, List.map_append]
@[simp] theorem ints_app1 (xs : List Int) (x : Int) : ints xs ++ [[V.sc (.int .i64 x)]] = ints (xs ++ [x]) := by simp only [ints, List.map_append, List.map_cons, List.map_nil]
@[simp] theorem ints_set (xs : List Int) (i : Nat) (x : Int) : (ints xs).set i [V.sc (.int .i64 x)] = ints (xs.set i x) := by simp [ints, List.map_set]
attribute [simp] setI_len
@[simp] theorem ints_sub (xs : List Int) (o n : Nat) : sub (ints xs) o n = ints ((xs.drop o).take n) := by simp [sub, ints, List.map_drop, List.map_take]
@[simp] theorem ints_hasFz (xs : List Int) : hasFzR (ints xs) = false := by
  induction xs with
  | nil => rfl
  | cons x xs ih => simp [ints, hasFzR, hasFzL, hasFz] at ih ⊢; exact ih
@[simp] theorem ints_flat (xs : List Int) : flatR (ints xs) = true := by simp [ints, flatR, flat1]
@[simp] theorem ints_rep (n : Nat) : List.replicate n [V.sc (.int .i64 0)] = ints (List.replicate n 0) := by simp [ints]
abbrev IS (ws : List Int) : V := .ls false (ints ws)
abbrev SL (ws : List Int) : V := .ag [.ls false (ints ws)]
end Go.Pv

namespace Go.Pv
def FU : Nat := 4194304
def bS {α β : Type} (x : Option α) (f : α → Option β) : Option β := match x with | some a => f a | none => none
theorem bS_some {α β : Type} {x : Option α} {f : α → Option β} {b : β} (h : bS x f = some b) : ∃ a, x = some a ∧ f a = some b := by
  cases x with
  | none => cases h
  | some a => exact ⟨a, rfl, h⟩
theorem bI {α : Type} {c : Prop} [Decidable c] {x y : Option α} {r : α} (h : (if c then x else y) = some r) : (c ∧ x = some r) ∨ (¬c ∧ y = some r) := by
  by_cases hc : c
  · rw [if_pos hc] at h; exact .inl ⟨hc, h⟩
  · rw [if_neg hc] at h; exact .inr ⟨hc, h⟩
theorem bP {α : Type} {c : Prop} [Decidable c] {x : Option α} {r : α} (h : (if c then x else none) = some r) : c ∧ x = some r := by
  rcases bI h with h | ⟨_, h⟩
  · exact h
  · cases h
@[simp] theorem bS_s {α β : Type} (a : α) (f : α → Option β) : bS (some a) f = f a := rfl
@[simp] theorem bS_n {α β : Type} (f : α → Option β) : bS none f = none := rfl
@[simp] theorem gl0 {τ : Type} (a0 : τ) (l : List τ) : (a0 :: l)[0]? = some a0 := nr rfl
@[simp] theorem gl1 {τ : Type} (a0 a1 : τ) (l : List τ) : (a0 :: a1 :: l)[1]? = some a1 := nr rfl
@[simp] theorem gl2 {τ : Type} (a0 a1 a2 : τ) (l : List τ) : (a0 :: a1 :: a2 :: l)[2]? = some a2 := nr rfl
@[simp] theorem gl3 {τ : Type} (a0 a1 a2 a3 : τ) (l : List τ) : (a0 :: a1 :: a2 :: a3 :: l)[3]? = some a3 := nr rfl
@[simp] theorem gl4 {τ : Type} (a0 a1 a2 a3 a4 : τ) (l : List τ) : (a0 :: a1 :: a2 :: a3 :: a4 :: l)[4]? = some a4 := nr rfl
@[simp] theorem gl5 {τ : Type} (a0 a1 a2 a3 a4 a5 : τ) (l : List τ) : (a0 :: a1 :: a2 :: a3 :: a4 :: a5 :: l)[5]? = some a5 := nr rfl
@[simp] theorem gl6 {τ : Type} (a0 a1 a2 a3 a4 a5 a6 : τ) (l : List τ) : (a0 :: a1 :: a2 :: a3 :: a4 :: a5 :: a6 :: l)[6]? = some a6 := nr rfl
@[simp] theorem gl7 {τ : Type} (a0 a1 a2 a3 a4 a5 a6 a7 : τ) (l : List τ) : (a0 :: a1 :: a2 :: a3 :: a4 :: a5 :: a6 :: a7 :: l)[7]? = some a7 := nr rfl
@[simp] theorem gl8 {τ : Type} (a0 a1 a2 a3 a4 a5 a6 a7 a8 : τ) (l : List τ) : (a0 :: a1 :: a2 :: a3 :: a4 :: a5 :: a6 :: a7 :: a8 :: l)[8]? = some a8 := nr rfl
@[simp] theorem gl9 {τ : Type} (a0 a1 a2 a3 a4 a5 a6 a7 a8 a9 : τ) (l : List τ) : (a0 :: a1 :: a2 :: a3 :: a4 :: a5 :: a6 :: a7 :: a8 :: a9 :: l)[9]? = some a9 := nr rfl
@[simp] theorem gl10 {τ : Type} (a0 a1 a2 a3 a4 a5 a6 a7 a8 a9 a10 : τ) (l : List τ) : (a0 :: a1 :: a2 :: a3 :: a4 :: a5 :: a6 :: a7 :: a8 :: a9 :: a10 :: l)[10]? = some a10 := nr rfl
@[simp] theorem gl11 {τ : Type} (a0 a1 a2 a3 a4 a5 a6 a7 a8 a9 a10 a11 : τ) (l : List τ) : (a0 :: a1 :: a2 :: a3 :: a4 :: a5 :: a6 :: a7 :: a8 :: a9 :: a10 :: a11 :: l)[11]? = some a11 := nr rfl
@[simp] theorem gl12 {τ : Type} (a0 a1 a2 a3 a4 a5 a6 a7 a8 a9 a10 a11 a12 : τ) (l : List τ) : (a0 :: a1 :: a2 :: a3 :: a4 :: a5 :: a6 :: a7 :: a8 :: a9 :: a10 :: a11 :: a12 :: l)[12]? = some a12 := nr rfl
@[simp] theorem gl13 {τ : Type} (a0 a1 a2 a3 a4 a5 a6 a7 a8 a9 a10 a11 a12 a13 : τ) (l : List τ) : (a0 :: a1 :: a2 :: a3 :: a4 :: a5 :: a6 :: a7 :: a8 :: a9 :: a10 :: a11 :: a12 :: a13 :: l)[13]? = some a13 := nr rfl
@[simp] theorem gl14 {τ : Type} (a0 a1 a2 a3 a4 a5 a6 a7 a8 a9 a10 a11 a12 a13 a14 : τ) (l : List τ) : (a0 :: a1 :: a2 :: a3 :: a4 :: a5 :: a6 :: a7 :: a8 :: a9 :: a10 :: a11 :: a12 :: a13 :: a14 :: l)[14]? = some a14 := nr rfl
@[simp] theorem gl15 {τ : Type} (a0 a1 a2 a3 a4 a5 a6 a7 a8 a9 a10 a11 a12 a13 a14 a15 : τ) (l : List τ) : (a0 :: a1 :: a2 :: a3 :: a4 :: a5 :: a6 :: a7 :: a8 :: a9 :: a10 :: a11 :: a12 :: a13 :: a14 :: a15 :: l)[15]? = some a15 := nr rfl
@[simp] theorem gl16 {τ : Type} (a0 a1 a2 a3 a4 a5 a6 a7 a8 a9 a10 a11 a12 a13 a14 a15 a16 : τ) (l : List τ) : (a0 :: a1 :: a2 :: a3 :: a4 :: a5 :: a6 :: a7 :: a8 :: a9 :: a10 :: a11 :: a12 :: a13 :: a14 :: a15 :: a16 :: l)[16]? = some a16 := nr rfl
@[simp] theorem gl17 {τ : Type} (a0 a1 a2 a3 a4 a5 a6 a7 a8 a9 a10 a11 a12 a13 a14 a15 a16 a17 : τ) (l : List τ) : (a0 :: a1 :: a2 :: a3 :: a4 :: a5 :: a6 :: a7 :: a8 :: a9 :: a10 :: a11 :: a12 :: a13 :: a14 :: a15 :: a16 :: a17 :: l)[17]? = some a17 := nr rfl
@[simp] theorem gl18 {τ : Type} (a0 a1 a2 a3 a4 a5 a6 a7 a8 a9 a10 a11 a12 a13 a14 a15 a16 a17 a18 : τ) (l : List τ) : (a0 :: a1 :: a2 :: a3 :: a4 :: a5 :: a6 :: a7 :: a8 :: a9 :: a10 :: a11 :: a12 :: a13 :: a14 :: a15 :: a16 :: a17 :: a18 :: l)[18]? = some a18 := nr rfl
@[simp] theorem gl19 {τ : Type} (a0 a1 a2 a3 a4 a5 a6 a7 a8 a9 a10 a11 a12 a13 a14 a15 a16 a17 a18 a19 : τ) (l : List τ) : (a0 :: a1 :: a2 :: a3 :: a4 :: a5 :: a6 :: a7 :: a8 :: a9 :: a10 :: a11 :: a12 :: a13 :: a14 :: a15 :: a16 :: a17 :: a18 :: a19 :: l)[19]? = some a19 := nr rfl
@[simp] theorem ldN_f (n : Nat) (fz : Bool) (cs : List V) (off : Nat) : ldN n false fz cs off = bO cs[off]? fun v => ld1 fz v := nr (by simp only [ldN]; cases cs[off]? <;> rfl)
theorem ldN_t0 (n : Nat) (fz : Bool) (cs : List V) (off : Nat) : ldN n true fz cs off = if off + n ≤ cs.length then bO (ldL fz ((cs.drop off).take n)) (fun l => some (.ag l)) else none := by
  simp only [ldN, if_true]
  split
  · cases ldL fz ((cs.drop off).take n) <;> rfl
  · rfl
@[simp] theorem ldN_t (n : Nat) (fz : Bool) (cs : List V) (off : Nat) : ldN n true fz cs off = if off + n ≤ cs.length then bO (ldL fz ((cs.drop off).take n)) (fun l => some (.ag l)) else none := nr (ldN_t0 n fz cs off)
@[simp] theorem ldL_nil (fz : Bool) : ldL fz [] = some [] := nr rfl
@[simp] theorem ldL_cons (fz : Bool) (v : V) (l : List V) : ldL fz (v :: l) = bO (ld1 fz v) fun x => bO (ldL fz l) fun r => some (x :: r) := nr (by simp only [ldL]; cases ld1 fz v <;> cases ldL fz l <;> rfl)
/-- an element, by its place -/
def getI {τ : Type} (xs : List τ) (i : Int) : Option τ := if 0 ≤ i ∧ i < xs.length then xs[i.toNat]? else none
theorem getI_some {τ : Type} {xs : List τ} {i : Int} {x : τ} (h : getI xs i = some x) : 0 ≤ i ∧ i < xs.length ∧ xs[i.toNat]? = some x := by
  unfold getI at h
  split at h
  · rename_i hc; exact ⟨hc.1, hc.2, h⟩
  · cases h
/-- an element of a part -/
def getV {τ : Type} (xs : List τ) (off len : Nat) (i : Int) : Option τ := if (0 ≤ i ∧ i < len) ∧ off + len ≤ xs.length then xs[off + i.toNat]? else none
theorem getV_some {τ : Type} {xs : List τ} {off len : Nat} {i : Int} {x : τ} (h : getV xs off len i = some x) : 0 ≤ i ∧ i < len ∧ off + len ≤ xs.length ∧ xs[off + i.toNat]? = some x := by
  unfold getV at h
  split at h
  · rename_i hc; exact ⟨hc.1.1, hc.1.2, hc.2, h⟩
  · cases h
def getB (s : ByteArray) (i : Int) : Option UInt8 := if 0 ≤ i then s[i.toNat]? else none
theorem getB_some {s : ByteArray} {i : Int} {b : UInt8} (h : getB s i = some b) : 0 ≤ i ∧ i < s.size ∧ i.toNat < s.size ∧ s[i.toNat]? = some b := by
  unfold getB at h
  split at h
  · rename_i hc
    refine ⟨hc, ?_, ?_, h⟩
    all_goals
      have := h
      rw [getElem?_def] at this
      split at this
      · omega
      · cases this
  · cases h
theorem ints_getI' {xs : List Int} {i : Int} {x : Int} (h : getI xs i = some x) : 0 ≤ i ∧ i < xs.length ∧ i.toNat < xs.length ∧ (ints xs)[i.toNat]? = some [.sc (.int .i64 x)] := by
  obtain ⟨h1, h2, h3⟩ := getI_some h
  exact ⟨h1, h2, by omega, by simp only [ints, List.getElem?_map, h3, Option.map_some]⟩
theorem ints_getN {xs : List Int} {i : Nat} {x : Int} (h : xs[i]? = some x) : (ints xs)[i]? = some [.sc (.int .i64 x)] := by simp only [ints, List.getElem?_map, h, Option.map_some]
@[simp] theorem ints_nil' : ints [] = [] := nr rfl
def strs (xs : List ByteArray) : List (List V) := xs.map fun s => [V.sc (.string s)]
@[simp] theorem strs_nil : strs [] = [] := nr rfl
@[simp] theorem strs_len (xs : List ByteArray) : (strs xs).length = xs.length := by simp [strs]
@[simp] theorem strs_all (xs : List ByteArray) : allLen 1 (strs xs) = true := by simp [strs, allLen]
@[simp] theorem strs_frz (xs : List ByteArray) : frzR (strs xs) = strs xs := by
  induction xs with
  | nil => rfl
  | cons x xs ih => simp [strs, frzR, frzL, frz] at ih ⊢; exact ih
@[simp] theorem strs_one (x : ByteArray) : [[V.sc (.string x)]] = strs [x] := nr rfl
@[simp] theorem strs_cons (x : ByteArray) (l : List ByteArray) : [V.sc (.string x)] :: strs l = strs (x :: l) := nr rfl
@[simp] theorem strs_emp (l : List ByteArray) : (strs l).isEmpty = l.isEmpty := by cases l <;> rfl
@[simp] theorem strs_app (xs ys : List ByteArray) : strs xs ++ strs ys = strs (xs ++ ys) := by simp only [strs, List.map_append]
@[simp] theorem strs_app1 (xs : List ByteArray) (x : ByteArray) : strs xs ++ [[V.sc (.string x)]] = strs (xs ++ [x]) := by simp only [strs, List.map_append, List.map_cons, List.map_nil]
@[simp] theorem strs_set (xs : List ByteArray) (i : Nat) (x : ByteArray) : (strs xs).set i [V.sc (.string x)] = strs (xs.set i x) := by simp [strs, List.map_set]
@[simp] theorem strs_sub (xs : List ByteArray) (o n : Nat) : sub (strs xs) o n = strs ((xs.drop o).take n) := by simp [sub, strs, List.map_drop, List.map_take]
@[simp] theorem strs_hasFz (xs : List ByteArray) : hasFzR (strs xs) = false := by
  induction xs with
  | nil => rfl
  | cons x xs ih => simp [strs, hasFzR, hasFzL, hasFz] at ih ⊢; exact ih
@[simp] theorem strs_flat (xs : List ByteArray) : flatR (strs xs) = true := by simp [strs, flatR, flat1]
@[simp] theorem strs_rep (n : Nat) (s : ByteArray) : List.replicate n [V.sc (.string s)] = strs (List.replicate n s) := by simp [strs]
theorem strs_getI {xs : List ByteArray} {i : Int} {x : ByteArray} (h : getI xs i = some x) : 0 ≤ i ∧ i < xs.length ∧ i.toNat < xs.length ∧ (strs xs)[i.toNat]? = some [.sc (.string x)] := by
  obtain ⟨h1, h2, h3⟩ := getI_some h
  exact ⟨h1, h2, by omega, by simp only [strs, List.getElem?_map, h3, Option.map_some]⟩
theorem strs_getN {xs : List ByteArray} {i : Nat} {x : ByteArray} (h : xs[i]? = some x) : (strs xs)[i]? = some [.sc (.string x)] := by simp only [strs, List.getElem?_map, h, Option.map_some]
/-- bytes -/
def byi (xs : List Int) : List (List V) := xs.map fun n => [V.sc (.int .u8 n)]
@[simp] theorem byi_nil : byi [] = [] := nr rfl
@[simp] theorem byi_len (xs : List Int) : (byi xs).length = xs.length := by simp [byi]
@[simp] theorem byi_all (xs : List Int) : allLen 1 (byi xs) = true := by simp [byi, allLen]
@[simp] theorem byi_frz (xs : List Int) : frzR (byi xs) = byi xs := by
  induction xs with
  | nil => rfl
  | cons x xs ih => simp [byi, frzR, frzL, frz] at ih ⊢; exact ih
@[simp] theorem byi_one (x : Int) : [[V.sc (.int .u8 x)]] = byi [x] := nr rfl
@[simp] theorem byi_cons (x : Int) (l : List Int) : [V.sc (.int .u8 x)] :: byi l = byi (x :: l) := nr rfl
@[simp] theorem byi_emp (l : List Int) : (byi l).isEmpty = l.isEmpty := by cases l <;> rfl
@[simp] theorem byi_app (xs ys : List Int) : byi xs ++ byi ys = byi (xs ++ ys) := by simp only [byi, List.map_append]
@[simp] theorem byi_app1 (xs : List Int) (x : Int) : byi xs ++ [[V.sc (.int .u8 x)]] = byi (xs ++ [x]) := by simp only [byi, List.map_append, List.map_cons, List.map_nil]
@[simp] theorem byi_sub (xs : List Int) (o n : Nat) : sub (byi xs) o n = byi ((xs.drop o).take n) := by simp [sub, byi, List.map_drop, List.map_take]
@[simp] theorem byi_hasFz (xs : List Int) : hasFzR (byi xs) = false := by
  induction xs with
  | nil => rfl
  | cons x xs ih => simp [byi, hasFzR, hasFzL, hasFz] at ih ⊢; exact ih
@[simp] theorem byi_flat (xs : List Int) : flatR (byi xs) = true := by simp [byi, flatR, flat1]
@[simp] theorem byi_rep (n : Nat) : List.replicate n [V.sc (.int .u8 0)] = byi (List.replicate n 0) := by simp only [byi, List.map_replicate]
theorem byi_getI {xs : List Int} {i : Int} {x : Int} (h : getI xs i = some x) : 0 ≤ i ∧ i < xs.length ∧ i.toNat < xs.length ∧ (byi xs)[i.toNat]? = some [.sc (.int .u8 x)] := by
  obtain ⟨h1, h2, h3⟩ := getI_some h
  exact ⟨h1, h2, by omega, by simp only [byi, List.getElem?_map, h3, Option.map_some]⟩
theorem byi_getN {xs : List Int} {i : Nat} {x : Int} (h : xs[i]? = some x) : (byi xs)[i]? = some [.sc (.int .u8 x)] := by simp only [byi, List.getElem?_map, h, Option.map_some]
def strOf (xs : List Int) : ByteArray := ⟨(xs.map fun n => UInt8.ofNat n.toNat).toArray⟩
@[simp] theorem byi_bytes (xs : List Int) : bytesR (byi xs) = some (xs.map fun n => UInt8.ofNat n.toNat) := by
  induction xs with
  | nil => rfl
  | cons x xs ih =>
    have : byi (x :: xs) = [V.sc (.int .u8 x)] :: byi xs := rfl
    rw [this]
    simp only [bytesR, ih, Option.map_some, List.map_cons]
@[simp] theorem strOf_eq (xs : List Int) : (⟨(xs.map fun n => UInt8.ofNat n.toNat).toArray⟩ : ByteArray) = strOf xs := rfl
def bytesOf (s : ByteArray) : List Int := s.data.toList.map fun b => (b.toNat : Int)
@[simp] theorem bytesOf_eq (s : ByteArray) : (s.data.toList.map fun b => [V.sc (.int .u8 (b.toNat : Int))]) = byi (bytesOf s) := by simp [byi, bytesOf]
@[simp] theorem bytesOf_len (s : ByteArray) : (bytesOf s).length = s.size := by simp only [bytesOf, List.length_map, Array.length_toList]; rfl
/-- bools -/
def bools (xs : List Bool) : List (List V) := xs.map fun n => [V.sc (.bool n)]
theorem sameL_len {n : Nat} {xs ys : List (List V)} (h1 : allLen n xs = true) (h2 : allLen n ys = true) : sameL xs ys = true := by
  unfold sameL
  rw [List.all_eq_true]
  intro y hy
  have h3 := List.all_eq_true.1 h1 y hy
  simp only [beq_iff_eq] at h3
  rw [h3]; exact h2
@[simp] theorem sameL_ints (xs ys : List Int) : sameL (ints xs) (ints ys) = true := sameL_len (ints_all xs) (ints_all ys)
@[simp] theorem sameL_strs (xs ys : List ByteArray) : sameL (strs xs) (strs ys) = true := sameL_len (strs_all xs) (strs_all ys)
@[simp] theorem sameL_byi (xs ys : List Int) : sameL (byi xs) (byi ys) = true := sameL_len (byi_all xs) (byi_all ys)
attribute [simp] one1 flat1 cap1 tk1
/-- no names stand in a row -/
def noH (xs : List (List V)) : Bool := xs.all fun cs => cs.all fun v => !isRf v
theorem fillCS_no : ∀ (cs : List V) (s : St), (cs.all fun v => !isRf v) = true → fillCS cs s = some (cs, s)
  | [], s, _ => rfl
  | v :: l, s, h => by
    simp only [List.all_cons, Bool.and_eq_true, Bool.not_eq_true'] at h
    have := fillCS_no l s h.2
    cases v with
    | rf a o n => cases h.1
    | _ => simp only [fillCS, this, bO]
theorem fillXS_no : ∀ (xs : List (List V)) (s : St), noH xs = true → fillXS xs s = some (xs, s)
  | [], s, _ => rfl
  | cs :: l, s, h => by
    simp only [noH, List.all_cons, Bool.and_eq_true] at h
    simp only [fillXS]
    rw [fillCS_no cs _ h.1]
    simp only [bO]
    rw [fillXS_no l _ h.2]
theorem fillXS_set : ∀ (xs : List (List V)) (i : Nat) (cs : List V) (s : St), noH xs = true → i < xs.length → fillXS (xs.set i cs) s = bO (fillCS cs s) fun q => some (xs.set i q.1, q.2)
  | [], i, cs, s, _, h => by simp at h
  | c :: l, 0, cs, s, h, _ => by
    simp only [noH, List.all_cons, Bool.and_eq_true] at h
    simp only [List.set_cons_zero, fillXS]
    cases fillCS cs s with
    | none => rfl
    | some q => simp only [bO]; rw [fillXS_no l _ h.2]
  | c :: l, i + 1, cs, s, h, hi => by
    simp only [noH, List.all_cons, Bool.and_eq_true] at h
    simp only [List.set_cons_succ, fillXS]
    rw [fillCS_no c _ h.1]
    simp only [bO]
    rw [fillXS_set l i cs _ h.2 (by simpa using hi)]
    cases fillCS cs s <;> rfl
def rfs1 (cs : List V) : List Nat := rfsX [cs]
theorem rfsX_cons (c : List V) (l : List (List V)) : rfsX (c :: l) = rfs1 c ++ rfsX l := by simp [rfsX, rfs1]
theorem rfs1_rf (m o n : Nat) (l : List V) : rfs1 (.rf m o n :: l) = m :: rfs1 l := by simp [rfs1, rfsX]
theorem rfs1_sc (x : Value) (l : List V) : rfs1 (.sc x :: l) = rfs1 l := by simp [rfs1, rfsX]
theorem rfs1_ls (o : Bool) (x : List (List V)) (l : List V) : rfs1 (.ls o x :: l) = rfs1 l := by simp [rfs1, rfsX]
theorem rfs1_nil : rfs1 [] = [] := by simp [rfs1, rfsX]
theorem rfs1_no : ∀ (cs : List V), (cs.all fun v => !isRf v) = true → rfs1 cs = []
  | [], _ => rfs1_nil
  | v :: l, h => by
    simp only [List.all_cons, Bool.and_eq_true, Bool.not_eq_true'] at h
    have := rfs1_no l h.2
    unfold rfs1 rfsX at this ⊢
    rw [List.filterMap_cons]
    cases v <;> first | exact this | cases h.1
theorem rfsX_no : ∀ (xs : List (List V)), noH xs = true → rfsX xs = []
  | [], _ => rfl
  | cs :: l, h => by
    simp only [noH, List.all_cons, Bool.and_eq_true] at h
    rw [rfsX_cons, rfs1_no cs h.1, rfsX_no l h.2]; rfl
theorem rfsX_set : ∀ (xs : List (List V)) (i : Nat) (cs : List V), noH xs = true → i < xs.length → rfsX (xs.set i cs) = rfs1 cs
  | [], i, cs, _, h => by simp at h
  | c :: l, 0, cs, h, _ => by
    simp only [noH, List.all_cons, Bool.and_eq_true] at h
    rw [List.set_cons_zero, rfsX_cons, rfsX_no l h.2, List.append_nil]
  | c :: l, i + 1, cs, h, hi => by
    simp only [noH, List.all_cons, Bool.and_eq_true] at h
    rw [List.set_cons_succ, rfsX_cons, rfs1_no c h.1, List.nil_append]
    exact rfsX_set l i cs h.2 (by simpa using hi)
attribute [simp] rfs1_rf rfs1_sc rfs1_ls rfs1_nil
attribute [simp] fillXS_set rfsX_set
@[simp] theorem take_app1 {τ : Type} (xs : List τ) (y : τ) : List.take (xs.length + 1) (xs ++ [y]) = xs ++ [y] := List.take_of_length_le (by simp)
@[simp] theorem take_app2 {τ : Type} (xs ys : List τ) : List.take (xs.length + ys.length) (xs ++ ys) = xs ++ ys := List.take_of_length_le (by simp)
@[simp] theorem one_len {τ : Type} (l : List τ) : 1 + l.length = l.length + 1 := Nat.add_comm 1 _
@[simp] theorem two_len {τ : Type} (l : List τ) : 2 + l.length = l.length + 2 := Nat.add_comm 2 _
@[simp] theorem take_cons1 {τ : Type} (x : τ) (l : List τ) : List.take (l.length + 1) (x :: l) = x :: l := List.take_of_length_le (by simp)
@[simp] theorem range_1 : List.range 1 = [0] := nr rfl
@[simp] theorem range_2 : List.range 2 = [0, 1] := nr rfl
@[simp] theorem range_3 : List.range 3 = [0, 1, 2] := nr rfl
@[simp] theorem range_4 : List.range 4 = [0, 1, 2, 3] := nr rfl
/-- texts put together, where there is room -/
def cat (a b : ByteArray) : Option ByteArray := if a.size + b.size ≤ 9223372036854775807 then some (a ++ b) else none
theorem cat_some {α : Type} {a b : ByteArray} {k : ByteArray → Option α} {r : α} (h : bS (cat a b) k = some r) : ∃ x, (a.size + b.size ≤ 9223372036854775807 ∧ a ++ b = x) ∧ k x = some r := by
  obtain ⟨x, h1, h2⟩ := bS_some h
  unfold cat at h1
  split at h1
  · rename_i c
    cases h1
    exact ⟨_, ⟨c, rfl⟩, h2⟩
  · cases h1
theorem bS_cat {α : Type} {a b : ByteArray} {k : ByteArray → Option α} (h : a.size + b.size ≤ 9223372036854775807) : bS (cat a b) k = k (a ++ b) := by
  unfold cat
  rw [if_pos h]; rfl
/-! rows of scalars are stored as they are -/
theorem cloLs_sc {τ α : Type} (f : τ → Value) : ∀ (xs : List τ) (k : List (List V) → M α), cloLs (xs.map fun x => [V.sc (f x)]) k = k (xs.map fun x => [V.sc (f x)])
  | [], k => rfl
  | x :: l, k => by
    have := cloLs_sc f l fun l' => k ([V.sc (f x)] :: l')
    simp only [List.map_cons]
    rw [← this]; rfl
@[simp] theorem cloLs_strs {α : Type} (xs : List ByteArray) (k : List (List V) → M α) : cloLs (strs xs) k = k (strs xs) := cloLs_sc Value.string xs k
@[simp] theorem cloLs_ints {α : Type} (xs : List Int) (k : List (List V) → M α) : cloLs (ints xs) k = k (ints xs) := cloLs_sc (fun n => Value.int .i64 n) xs k
@[simp] theorem strs_mem1 (xs : List ByteArray) : (∀ x : List V, x ∈ strs xs → x.length = 1) = True := by
  simp [strs]
@[simp] theorem ints_mem1 (xs : List Int) : (∀ x : List V, x ∈ ints xs → x.length = 1) = True := by
  simp [ints]
@[simp] theorem set_last {τ : Type} (xs : List τ) (z y : τ) : (xs ++ [z]).set xs.length y = xs ++ [y] := by
  rw [List.set_append_right _ _ (Nat.le_refl _), Nat.sub_self]; rfl
@[simp] theorem take_setlen {τ : Type} (xs : List τ) (i : Nat) (y : τ) : List.take xs.length (xs.set i y) = xs.set i y := List.take_of_length_le (by simp)
theorem allLen_mem {n : Nat} {xs : List (List V)} (h : allLen n xs = true) : ∀ x : List V, x ∈ xs → x.length = n := by
  intro x hx
  have := List.all_eq_true.1 h x hx
  simpa using this
@[simp] theorem allLen_set {n : Nat} {xs : List (List V)} {i : Nat} {y : List V} (h : allLen n xs = true) (hy : y.length = n) : allLen n (xs.set i y) = true := by
  apply List.all_eq_true.2
  intro x hx
  rcases List.mem_or_eq_of_mem_set hx with hx | rfl
  · exact List.all_eq_true.1 h x hx
  · simpa using hy
theorem expL_cl {α : Type} (b : Bool) : ∀ (l : List V) (k : List V → List Nat → M α), (∀ v ∈ l, (∃ x, v = .sc x) ∨ ∃ o xs, v = .ls o xs) → expL b l k = k l []
  | [], k, _ => rfl
  | v :: l, k, h => by
    have e := expL_cl b l (fun l' sh => k (v :: l') sh) (fun u hu => h u (by simp [hu]))
    rcases h v (by simp) with ⟨x, rfl⟩ | ⟨o, xs, rfl⟩
    · rw [← e]; simp [expL, exp]
    · rw [← e]; simp [expL, exp]
theorem cloLs_cl {α : Type} : ∀ (rows : List (List V)) (k : List (List V) → M α), (∀ r ∈ rows, ∀ v ∈ r, (∃ x, v = .sc x) ∨ ∃ o xs, v = .ls o xs) → cloLs rows k = k rows
  | [], k, _ => rfl
  | r :: l, k, h => by
    have e := cloLs_cl l (fun l' => k (r :: l')) (fun u hu => h u (by simp [hu]))
    have hr := h r (by simp)
    have hc : r.all clo1 = true := by
      apply List.all_eq_true.2
      intro v hv
      rcases hr v hv with ⟨x, rfl⟩ | ⟨o, xs, rfl⟩ <;> rfl
    show (cloL r fun vs' => cloLs l fun l' => k (vs' :: l')) = _
    unfold cloL
    rw [expL_cl true r _ hr]
    unfold chk
    rw [if_pos hc]; exact e
attribute [simp] takeM tk1
@[simp] theorem isRf_rf (a b c : Nat) : isRf (.rf a b c) = true := nr rfl
@[simp] theorem lt_self1 (n : Nat) : ((n : Int) < (n : Int) + 1) = True := eq_true (by omega)
theorem rfsX_cl : ∀ (rows : List (List V)), (∀ r ∈ rows, ∀ v ∈ r, (∃ x, v = .sc x) ∨ ∃ o xs, v = .ls o xs) → rfsX rows = []
  | [], _ => rfl
  | r :: l, h => by
    have e := rfsX_cl l (fun u hu => h u (by simp [hu]))
    have hr : (r.filterMap fun v => match v with | .rf m _ _ => some m | _ => none) = [] := by
      rw [List.filterMap_eq_nil_iff]
      intro v hv
      rcases h r (by simp) v hv with ⟨x, rfl⟩ | ⟨o, xs, rfl⟩ <;> rfl
    show (r.filterMap fun v => match v with | .rf m _ _ => some m | _ => none) ++ rfsX l = []
    rw [hr, e]; rfl
theorem fillCS_cl : ∀ (l : List V) (s : St), (∀ v ∈ l, (∃ x, v = .sc x) ∨ ∃ o xs, v = .ls o xs) → fillCS l s = some (l, s)
  | [], s, _ => rfl
  | v :: l, s, h => by
    have e := fillCS_cl l s (fun u hu => h u (by simp [hu]))
    rcases h v (by simp) with ⟨x, rfl⟩ | ⟨o, xs, rfl⟩
    · rw [fillCS_sc, e]; rfl
    · rw [fillCS_ls, e]; rfl
theorem fillXS_cl : ∀ (rows : List (List V)) (s : St), (∀ r ∈ rows, ∀ v ∈ r, (∃ x, v = .sc x) ∨ ∃ o xs, v = .ls o xs) → fillXS rows s = some (rows, s)
  | [], s, _ => rfl
  | r :: l, s, h => by
    have e := fillXS_cl l s (fun u hu => h u (by simp [hu]))
    show (bO (fillCS r s) fun p => bO (fillXS l p.2) fun q => some (p.1 :: q.1, q.2)) = _
    rw [fillCS_cl r s (h r (by simp))]
    show (bO (fillXS l s) fun q => some (r :: q.1, q.2)) = _
    rw [e]; rfl
end Go.Pv

namespace Go.Pv
set_option maxRecDepth 100000
set_option linter.unusedSimpArgs false
set_option linter.unusedVariables false
/-- PLAIN LAWS of the printed functions: helpers -/
theorem wr1 {i : Int} (h : 0 ≤ i) (h2 : i ≤ 4611686018427387904) : IntKind.i64.wrap (i + 1) = i + 1 := wrap64_id _ (by omega) (by omega)
theorem getI_n {τ : Type} {xs : List τ} {i : Nat} {x : τ} (h : xs[i]? = some x) : getI xs (i : Int) = some x := by
  unfold getI
  have := (List.getElem?_eq_some_iff.1 h).1
  rw [if_pos ⟨by omega, by omega⟩]
  simpa using h
theorem cp_step {τ : Type} {xs acc : List τ} {i : Nat} {x : τ} (h : ∀ j, j < i → acc[j]? = xs[j]?) (hx : xs[i]? = some x) (hl : acc.length = xs.length) :
    ∀ j, j < i + 1 → (acc.set i x)[j]? = xs[j]? := by
  intro j hj
  have hi := (List.getElem?_eq_some_iff.1 hx).1
  rw [List.getElem?_set]
  by_cases e : i = j
  · subst e
    rw [if_pos rfl, if_pos (by omega), hx]
  · rw [if_neg e]; exact h j (by omega)
theorem cp_end {τ : Type} {xs acc : List τ} {i : Nat} (h : ∀ j, j < i → acc[j]? = xs[j]?) (hl : acc.length = xs.length) (hi : xs.length ≤ i) : acc = xs := by
  apply List.ext_getElem?
  intro j
  by_cases hj : j < i
  · exact h j hj
  · rw [List.getElem?_eq_none (by omega), List.getElem?_eq_none (by omega)]
theorem lt_get {τ : Type} {xs : List τ} {i : Nat} (h : i < xs.length) : ∃ x, xs[i]? = some x := ⟨xs[i], List.getElem?_eq_getElem h⟩
theorem lim_le {n b : Nat} (h : n * b ≤ maxB) : lim n b = true := by simp [lim, h]
/-- a loop that copies: one turn's rule is enough -/
theorem copy_loop {τ : Type} (L : Nat → List τ → List τ → Int → Option (List τ)) (xs : List τ) (hB : xs.length ≤ 4194303)
    (h0 : ∀ n acc (i : Nat), ¬ i < xs.length → L (n + 1) xs acc (i : Int) = some acc)
    (h1 : ∀ n (acc : List τ) (i : Nat) x y, xs[i]? = some x → acc[i]? = some y → i ≤ 4194303 → L (n + 1) xs acc (i : Int) = L n xs (acc.set i x) ((i + 1 : Nat) : Int)) (z : τ) :
    L FU xs (List.replicate xs.length z) 0 = some xs := by
  have key : ∀ (n i : Nat) (acc : List τ), acc.length = xs.length → (∀ j, j < i → acc[j]? = xs[j]?) → i ≤ xs.length → xs.length - i < n → L n xs acc (i : Int) = some xs := by
    intro n
    induction n with
    | zero => intro i acc hl h hi hn; omega
    | succ n ih =>
      intro i acc hl h hi hn
      by_cases c : i < xs.length
      · obtain ⟨x, hx⟩ := lt_get c
        obtain ⟨y, hy⟩ := lt_get (xs := acc) (i := i) (by omega)
        rw [h1 n acc i x y hx hy (by omega)]
        exact ih (i + 1) _ (by simp [hl]) (cp_step h hx hl) (by omega) (by omega)
      · rw [h0 n acc i c, cp_end h hl (by omega)]
  have := key FU 0 (List.replicate xs.length z) (by simp) (by intro j hj; omega) (by omega) (by simp only [FU]; omega)
  simpa using this
/-- a loop that looks a row through -/
theorem walk_loop {σ : Type} (L : Nat → Int → Option σ) (len : Nat) (r : σ) (hB : len ≤ 4194303)
    (h0 : ∀ n (i : Nat), ¬ i < len → L (n + 1) (i : Int) = some r)
    (h1 : ∀ n (i : Nat), i < len → L (n + 1) (i : Int) = L n ((i + 1 : Nat) : Int)) : L FU 0 = some r := by
  have key : ∀ (n i : Nat), i ≤ len → len - i < n → L n (i : Int) = some r := by
    intro n
    induction n with
    | zero => intro i hi hn; omega
    | succ n ih =>
      intro i hi hn
      by_cases c : i < len
      · rw [h1 n i c]; exact ih (i + 1) (by omega) (by omega)
      · exact h0 n i c
  have := key FU 0 (by omega) (by simp only [FU]; omega)
  simpa using this
/-- a loop with a state, by an invariant -/
theorem inv_loop {σ ρ : Type} (L : Nat → σ → Int → Option ρ) (len : Nat) (I : Nat → σ → Prop) (Q : ρ → Prop) (hB : len ≤ 4194303)
    (h0 : ∀ n (i : Nat) s, i ≤ len → ¬ i < len → I i s → ∃ r, L (n + 1) s (i : Int) = some r ∧ Q r)
    (h1 : ∀ n (i : Nat) s, i < len → I i s → (∃ s', L (n + 1) s (i : Int) = L n s' ((i + 1 : Nat) : Int) ∧ I (i + 1) s') ∨ (∃ r, L (n + 1) s (i : Int) = some r ∧ Q r)) (s0 : σ) (hI : I 0 s0) : ∃ r, L FU s0 0 = some r ∧ Q r := by
  have key : ∀ (n i : Nat) (s : σ), i ≤ len → len - i < n → I i s → ∃ r, L n s (i : Int) = some r ∧ Q r := by
    intro n
    induction n with
    | zero => intro i s hi hn; omega
    | succ n ih =>
      intro i s hi hn hs
      by_cases c : i < len
      · rcases h1 n i s c hs with ⟨s', e, hs'⟩ | ⟨r, e, hr⟩
        · rw [e]; exact ih (i + 1) s' (by omega) (by omega) hs'
        · exact ⟨r, e, hr⟩
      · exact h0 n i s hi c hs
  have := key FU 0 s0 (by omega) (by simp only [FU]; omega) hI
  simpa using this
end Go.Pv
