import Derived.Test.YtneonhnackjdjaaAd
import Derived.Test.YtneonhnackjdjaaProg
import Derived.KernelRfl
namespace Go.Proofs.Ytneonhnackjdjaa
open Go.Ab
set_option linter.unusedVariables false
set_option linter.unusedSimpArgs false
theorem hm : Try.prog.follows .mixedOrders = true := by kernel_rfl
def a3 : XFun := ⟨89, [.t 4],
 (.seq (.reg [.s ⟨(some 4), .mv (.c (.bool false)), []⟩])
 (.seq (.seq (.reg [.s ⟨(some 13), .mv (.t 0), []⟩,
  .s ⟨(some 14), .lenL (.t 13), []⟩,
  .s ⟨(some 15), .bin .gtr (.t 14) (.c (.int .i64 4096)), []⟩,
  .s ⟨(some 16), .mv (.t 15), []⟩,
  .g 16 false [⟨(some 17), .mv (.t 1), []⟩,
   ⟨(some 18), .build [(.slice none 0 0), (.slice none 0 0), (.int .i64 0), (.slice none 0 0)] [], []⟩,
   ⟨(some 19), .call 7 [(.t 17), (.t 18)], []⟩],
  .s ⟨(some 20), .pick (.t 16) (.c (.bool true)) (.t 19), []⟩])
 (.cond (.t 20) (.seq (.reg [.s ⟨(some 21), .call 8 [], []⟩,
  .s ⟨(some 4), .mv (.t 21), []⟩])
 .ret)
 .skip))
 (.seq (.reg [.s ⟨(some 22), .mv (.t 0), []⟩,
  .s ⟨(some 23), .call 9 [(.t 22)], []⟩,
  .s ⟨(some 5), .mv (.t 23), []⟩])
 (.seq (.reg [.s ⟨(some 24), .mv (.t 1), []⟩,
  .s ⟨(some 25), .call 10 [(.t 24)], []⟩,
  .s ⟨(some 6), .mv (.t 25), []⟩])
 (.seq (.reg [.s ⟨(some 27), .mv (.t 5), []⟩,
  .s ⟨(some 28), .mv (.t 6), []⟩,
  .s ⟨(some 29), .call 11 [(.t 27), (.t 28)], []⟩,
  .s ⟨(some 26), .mv (.t 29), []⟩,
  .s ⟨(some 30), .ext 0 (.t 26), []⟩,
  .s ⟨(some 31), .ext 1 (.t 26), []⟩,
  .s ⟨(some 7), .mv (.t 30), []⟩,
  .s ⟨(some 8), .mv (.t 31), []⟩])
 (.seq (.reg [.s ⟨(some 33), .mv (.t 5), []⟩,
  .s ⟨(some 34), .mv (.t 6), []⟩,
  .s ⟨(some 35), .call 11 [(.t 33), (.t 34)], []⟩,
  .s ⟨(some 32), .mv (.t 35), []⟩,
  .s ⟨(some 36), .ext 0 (.t 32), []⟩,
  .s ⟨(some 37), .ext 1 (.t 32), []⟩,
  .s ⟨(some 9), .mv (.t 36), []⟩,
  .s ⟨(some 10), .mv (.t 37), []⟩])
 (.seq (.reg [.s ⟨(some 39), .mv (.t 0), []⟩,
  .s ⟨(some 40), .mv (.t 1), []⟩,
  .s ⟨(some 41), .call 12 [(.t 39), (.t 40)], []⟩,
  .s ⟨(some 38), .mv (.t 41), []⟩,
  .s ⟨(some 42), .ext 0 (.t 38), []⟩,
  .s ⟨(some 43), .ext 1 (.t 38), []⟩,
  .s ⟨(some 11), .mv (.t 42), []⟩,
  .s ⟨(some 12), .mv (.t 43), []⟩])
 (.seq (.seq (.reg [.s ⟨(some 44), .mv (.t 8), []⟩,
  .s ⟨(some 45), .mv (.t 12), []⟩,
  .s ⟨(some 46), .bin .neq (.t 44) (.t 45), []⟩,
  .s ⟨(some 47), .mv (.t 46), []⟩,
  .g 47 false [⟨(some 48), .mv (.t 10), []⟩,
   ⟨(some 49), .mv (.t 12), []⟩,
   ⟨(some 50), .bin .neq (.t 48) (.t 49), []⟩],
  .s ⟨(some 51), .pick (.t 47) (.c (.bool true)) (.t 50), []⟩,
  .s ⟨(some 52), .mv (.t 51), []⟩,
  .g 52 false [⟨(some 53), .mv (.t 7), []⟩,
   ⟨(some 54), .mv (.t 11), []⟩,
   ⟨(some 55), .call 13 [(.t 53), (.t 54)], []⟩,
   ⟨(some 56), .un .not (.t 55), []⟩],
  .s ⟨(some 57), .pick (.t 52) (.c (.bool true)) (.t 56), []⟩,
  .s ⟨(some 58), .mv (.t 57), []⟩,
  .g 58 false [⟨(some 59), .mv (.t 5), []⟩,
   ⟨(some 60), .mv (.t 0), []⟩,
   ⟨(some 61), .call 14 [(.t 59), (.t 60)], []⟩,
   ⟨(some 62), .un .not (.t 61), []⟩],
  .s ⟨(some 63), .pick (.t 58) (.c (.bool true)) (.t 62), []⟩,
  .s ⟨(some 64), .mv (.t 63), []⟩,
  .g 64 false [⟨(some 65), .mv (.t 6), []⟩,
   ⟨(some 66), .mv (.t 1), []⟩,
   ⟨(some 67), .call 15 [(.t 65), (.t 66)], []⟩,
   ⟨(some 68), .un .not (.t 67), []⟩],
  .s ⟨(some 69), .pick (.t 64) (.c (.bool true)) (.t 68), []⟩,
  .s ⟨(some 70), .mv (.t 69), []⟩,
  .g 70 false [⟨(some 71), .mv (.t 6), []⟩,
   ⟨(some 72), .call 16 [(.t 71)], []⟩,
   ⟨(some 73), .mv (.t 1), []⟩,
   ⟨(some 74), .call 17 [(.t 73)], []⟩,
   ⟨(some 75), .beq true (.t 72) (.t 74), []⟩],
  .s ⟨(some 76), .pick (.t 70) (.c (.bool true)) (.t 75), []⟩])
 (.cond (.t 76) (.seq (.reg [.s ⟨(some 4), .mv (.c (.bool false)), []⟩])
 .ret)
 .skip))
 (.seq (.reg [.s ⟨(some 77), .mv (.t 8), []⟩,
  .s ⟨(some 78), .bin .neq (.t 77) (.c (.int .i64 0)), []⟩,
  .s ⟨(some 79), .mv (.t 78), []⟩,
  .g 79 false [⟨(some 80), .mv (.t 7), []⟩,
   ⟨(some 81), .mv (.t 9), []⟩,
   ⟨(some 82), .mv (.t 5), []⟩,
   ⟨(some 83), .bslice 22 3 [(.slice none 0 0), (.slice none 0 0), (.slice none 0 0)] [(0, 1, (.t 80)), (1, 1, (.t 81)), (2, 1, (.t 82))], []⟩,
   ⟨(some 84), .call 18 [(.t 83)], []⟩],
  .s ⟨(some 85), .pick (.t 79) (.c (.bool true)) (.t 84), []⟩,
  .s ⟨(some 86), .mv (.t 85), []⟩,
  .g 86 true [⟨(some 87), .call 8 [], []⟩],
  .s ⟨(some 88), .pick (.t 86) (.t 87) (.c (.bool false)), []⟩,
  .s ⟨(some 4), .mv (.t 88), []⟩])
 .ret)))))))))⟩
def a4 : XFun := ⟨53, [.t 4],
 (.seq (.reg [.s ⟨(some 4), .mv (.c (.bool false)), []⟩])
 (.seq (.seq (.reg [.s ⟨(some 12), .mv (.t 0), []⟩,
  .s ⟨(some 13), .lenL (.t 12), []⟩,
  .s ⟨(some 14), .bin .gtr (.t 13) (.c (.int .i64 8192)), []⟩])
 (.cond (.t 14) (.seq (.reg [.s ⟨(some 15), .call 8 [], []⟩,
  .s ⟨(some 4), .mv (.t 15), []⟩])
 .ret)
 .skip))
 (.seq (.reg [.s ⟨(some 16), .mv (.t 0), []⟩,
  .s ⟨(some 17), .call 9 [(.t 16)], []⟩,
  .s ⟨(some 5), .mv (.t 17), []⟩])
 (.seq (.reg [.s ⟨(some 19), .mv (.t 5), []⟩,
  .s ⟨(some 20), .mv (.t 1), []⟩,
  .s ⟨(some 21), .call 19 [(.t 19), (.t 20)], []⟩,
  .s ⟨(some 18), .mv (.t 21), []⟩,
  .s ⟨(some 22), .ext 0 (.t 18), []⟩,
  .s ⟨(some 23), .ext 1 (.t 18), []⟩,
  .s ⟨(some 24), .ext 2 (.t 18), []⟩,
  .s ⟨(some 6), .mv (.t 22), []⟩,
  .s ⟨(some 7), .mv (.t 23), []⟩,
  .s ⟨(some 8), .mv (.t 24), []⟩])
 (.seq (.reg [.s ⟨(some 26), .mv (.t 0), []⟩,
  .s ⟨(some 27), .mv (.t 1), []⟩,
  .s ⟨(some 28), .call 20 [(.t 26), (.t 27)], []⟩,
  .s ⟨(some 25), .mv (.t 28), []⟩,
  .s ⟨(some 29), .ext 0 (.t 25), []⟩,
  .s ⟨(some 30), .ext 1 (.t 25), []⟩,
  .s ⟨(some 31), .ext 2 (.t 25), []⟩,
  .s ⟨(some 9), .mv (.t 29), []⟩,
  .s ⟨(some 10), .mv (.t 30), []⟩,
  .s ⟨(some 11), .mv (.t 31), []⟩])
 (.seq (.reg [.s ⟨(some 32), .mv (.t 6), []⟩,
  .s ⟨(some 33), .mv (.t 9), []⟩,
  .s ⟨(some 34), .call 15 [(.t 32), (.t 33)], []⟩,
  .s ⟨(some 35), .mv (.t 34), []⟩,
  .g 35 true [⟨(some 36), .mv (.t 7), []⟩,
   ⟨(some 37), .mv (.t 10), []⟩,
   ⟨(some 38), .bin .eql (.t 36) (.t 37), []⟩],
  .s ⟨(some 39), .pick (.t 35) (.t 38) (.c (.bool false)), []⟩,
  .s ⟨(some 40), .mv (.t 39), []⟩,
  .g 40 true [⟨(some 41), .mv (.t 8), []⟩,
   ⟨(some 42), .mv (.t 11), []⟩,
   ⟨(some 43), .bin .eql (.t 41) (.t 42), []⟩],
  .s ⟨(some 44), .pick (.t 40) (.t 43) (.c (.bool false)), []⟩,
  .s ⟨(some 45), .mv (.t 44), []⟩,
  .g 45 true [⟨(some 46), .mv (.t 5), []⟩,
   ⟨(some 47), .mv (.t 0), []⟩,
   ⟨(some 48), .call 14 [(.t 46), (.t 47)], []⟩],
  .s ⟨(some 49), .pick (.t 45) (.t 48) (.c (.bool false)), []⟩,
  .s ⟨(some 50), .mv (.t 49), []⟩,
  .g 50 true [⟨(some 51), .call 8 [], []⟩],
  .s ⟨(some 52), .pick (.t 50) (.t 51) (.c (.bool false)), []⟩,
  .s ⟨(some 4), .mv (.t 52), []⟩])
 .ret))))))⟩
def a5 : XFun := ⟨124, [.t 6],
 (.seq (.reg [.s ⟨(some 6), .mv (.c (.bool false)), []⟩])
 (.seq (.seq (.reg [.s ⟨(some 18), .mv (.t 0), []⟩,
  .s ⟨(some 19), .lenL (.t 18), []⟩,
  .s ⟨(some 20), .bin .gtr (.t 19) (.c (.int .i64 1024)), []⟩,
  .s ⟨(some 21), .mv (.t 20), []⟩,
  .g 21 false [⟨(some 22), .mv (.t 2), []⟩,
   ⟨(some 23), .lenL (.t 22), []⟩,
   ⟨(some 24), .bin .gtr (.t 23) (.c (.int .i64 4096)), []⟩],
  .s ⟨(some 25), .pick (.t 21) (.c (.bool true)) (.t 24), []⟩,
  .s ⟨(some 26), .mv (.t 25), []⟩,
  .g 26 false [⟨(some 27), .mv (.t 1), []⟩,
   ⟨(some 28), .build [(.slice none 0 0), (.slice none 0 0), (.int .i64 0), (.slice none 0 0)] [], []⟩,
   ⟨(some 29), .call 7 [(.t 27), (.t 28)], []⟩],
  .s ⟨(some 30), .pick (.t 26) (.c (.bool true)) (.t 29), []⟩])
 (.cond (.t 30) (.seq (.reg [.s ⟨(some 31), .call 8 [], []⟩,
  .s ⟨(some 6), .mv (.t 31), []⟩])
 .ret)
 .skip))
 (.seq (.reg [.s ⟨(some 32), .mv (.t 0), []⟩,
  .s ⟨(some 33), .lenL (.t 32), []⟩,
  .s ⟨(some 7), .mv (.t 33), []⟩])
 (.seq (.reg [.s ⟨(some 35), .mv (.t 0), []⟩,
  .s ⟨(some 36), .mv (.t 1), []⟩,
  .s ⟨(some 37), .call 10 [(.t 36)], []⟩,
  .s ⟨(some 38), .call 11 [(.t 35), (.t 37)], []⟩,
  .s ⟨(some 34), .mv (.t 38), []⟩,
  .s ⟨(some 39), .ext 0 (.t 34), []⟩,
  .s ⟨(some 40), .ext 1 (.t 34), []⟩,
  .s ⟨(some 8), .mv (.t 39), []⟩,
  .s ⟨(some 9), .mv (.t 40), []⟩])
 (.seq (.seq (.reg [.s ⟨(some 41), .mv (.t 9), []⟩,
  .s ⟨(some 42), .bin .eql (.t 41) (.c (.int .i64 0)), []⟩,
  .s ⟨(some 43), .mv (.t 1), []⟩,
  .s ⟨(some 44), .call 16 [(.t 43)], []⟩,
  .s ⟨(some 45), .beq true (.t 42) (.t 44), []⟩])
 (.cond (.t 45) (.seq (.reg [.s ⟨(some 6), .mv (.c (.bool false)), []⟩])
 .ret)
 .skip))
 (.seq (.seq (.reg [.s ⟨(some 46), .mv (.t 9), []⟩,
  .s ⟨(some 47), .bin .eql (.t 46) (.c (.int .i64 0)), []⟩])
 (.cond (.t 47) (.seq (.reg [.s ⟨(some 49), .mv (.t 8), []⟩,
  .s ⟨(some 50), .call 21 [(.t 49)], []⟩,
  .s ⟨(some 51), .mv (.t 2), []⟩,
  .s ⟨(some 52), .app 5 1 1 (.t 50) (.t 51), []⟩,
  .s ⟨(some 53), .mv (.t 7), []⟩,
  .s ⟨(some 54), .call 19 [(.t 52), (.t 53)], []⟩,
  .s ⟨(some 48), .mv (.t 54), []⟩,
  .s ⟨(some 55), .ext 0 (.t 48), []⟩,
  .s ⟨(some 56), .ext 1 (.t 48), []⟩,
  .s ⟨(some 57), .ext 2 (.t 48), []⟩,
  .s ⟨(some 10), .mv (.t 55), []⟩,
  .s ⟨(some 11), .mv (.t 56), []⟩,
  .s ⟨(some 12), .mv (.t 57), []⟩])
 (.seq (.reg [.s ⟨(some 58), .mv (.t 12), []⟩,
  .s ⟨(some 59), .bin .neq (.t 58) (.c (.int .i64 0)), []⟩,
  .s ⟨(some 60), .mv (.t 59), []⟩,
  .g 60 false [⟨(some 61), .mv (.t 11), []⟩,
   ⟨(some 62), .mv (.t 8), []⟩,
   ⟨(some 63), .lenL (.t 62), []⟩,
   ⟨(some 64), .bin .neq (.t 61) (.t 63), []⟩],
  .s ⟨(some 65), .pick (.t 60) (.c (.bool true)) (.t 64), []⟩,
  .s ⟨(some 66), .mv (.t 65), []⟩,
  .g 66 false [⟨(some 67), .mv (.t 10), []⟩,
   ⟨(some 68), .mv (.t 1), []⟩,
   ⟨(some 69), .call 15 [(.t 67), (.t 68)], []⟩,
   ⟨(some 70), .un .not (.t 69), []⟩],
  .s ⟨(some 71), .pick (.t 66) (.c (.bool true)) (.t 70), []⟩])
 (.cond (.t 71) (.seq (.reg [.s ⟨(some 6), .mv (.c (.bool false)), []⟩])
 .ret)
 .skip)))
 (.seq (.reg [.s ⟨(some 72), .mv (.t 8), []⟩,
  .s ⟨(some 73), .lenL (.t 72), []⟩,
  .s ⟨(some 74), .bin .neq (.t 73) (.c (.int .i64 0)), []⟩])
 (.cond (.t 74) (.seq (.reg [.s ⟨(some 6), .mv (.c (.bool false)), []⟩])
 .ret)
 .skip))))
 (.seq (.reg [.s ⟨(some 76), .mv (.t 2), []⟩,
  .s ⟨(some 77), .call 19 [(.t 76), (.c (.int .i64 0))], []⟩,
  .s ⟨(some 75), .mv (.t 77), []⟩,
  .s ⟨(some 78), .ext 0 (.t 75), []⟩,
  .s ⟨(some 79), .ext 1 (.t 75), []⟩,
  .s ⟨(some 80), .ext 2 (.t 75), []⟩,
  .s ⟨(some 13), .mv (.t 78), []⟩,
  .s ⟨(some 14), .mv (.t 79), []⟩,
  .s ⟨(some 15), .mv (.t 80), []⟩])
 (.seq (.seq (.reg [.s ⟨(some 81), .mv (.t 15), []⟩,
  .s ⟨(some 82), .bin .neq (.t 81) (.c (.int .i64 0)), []⟩])
 (.cond (.t 82) (.seq (.reg [.s ⟨(some 83), .mv (.t 13), []⟩,
  .s ⟨(some 84), .lenL (.t 83), []⟩,
  .s ⟨(some 85), .bin .eql (.t 84) (.c (.int .i64 0)), []⟩,
  .s ⟨(some 86), .mv (.t 85), []⟩,
  .g 86 true [⟨(some 87), .mv (.t 14), []⟩,
   ⟨(some 88), .bin .eql (.t 87) (.c (.int .i64 0)), []⟩],
  .s ⟨(some 89), .pick (.t 86) (.t 88) (.c (.bool false)), []⟩,
  .s ⟨(some 90), .mv (.t 89), []⟩,
  .g 90 true [⟨(some 91), .call 8 [], []⟩],
  .s ⟨(some 92), .pick (.t 90) (.t 91) (.c (.bool false)), []⟩,
  .s ⟨(some 6), .mv (.t 92), []⟩])
 .ret)
 .skip))
 (.seq (.reg [.s ⟨(some 94), .mv (.t 13), []⟩,
  .s ⟨(some 95), .call 11 [(.c (.slice none 0 0)), (.t 94)], []⟩,
  .s ⟨(some 93), .mv (.t 95), []⟩,
  .s ⟨(some 96), .ext 0 (.t 93), []⟩,
  .s ⟨(some 97), .ext 1 (.t 93), []⟩,
  .s ⟨(some 16), .mv (.t 96), []⟩,
  .s ⟨(some 17), .mv (.t 97), []⟩])
 (.seq (.reg [.s ⟨(some 98), .mv (.t 13), []⟩,
  .s ⟨(some 99), .call 16 [(.t 98)], []⟩,
  .s ⟨(some 100), .mv (.t 99), []⟩,
  .g 100 true [⟨(some 101), .mv (.t 17), []⟩,
   ⟨(some 102), .bin .eql (.t 101) (.c (.int .i64 0)), []⟩],
  .s ⟨(some 103), .pick (.t 100) (.t 102) (.c (.bool false)), []⟩,
  .s ⟨(some 104), .mv (.t 103), []⟩,
  .g 104 true [⟨(some 105), .mv (.t 14), []⟩,
   ⟨(some 106), .bin .geq (.t 105) (.c (.int .i64 1)), []⟩],
  .s ⟨(some 107), .pick (.t 104) (.t 106) (.c (.bool false)), []⟩,
  .s ⟨(some 108), .mv (.t 107), []⟩,
  .g 108 true [⟨(some 109), .mv (.t 14), []⟩,
   ⟨(some 110), .mv (.t 2), []⟩,
   ⟨(some 111), .lenL (.t 110), []⟩,
   ⟨(some 112), .bin .leq (.t 109) (.t 111), []⟩],
  .s ⟨(some 113), .pick (.t 108) (.t 112) (.c (.bool false)), []⟩,
  .s ⟨(some 114), .mv (.t 113), []⟩,
  .g 114 true [⟨(some 115), .mv (.t 16), []⟩,
   ⟨(some 116), .mv (.t 2), []⟩,
   ⟨(some 117), .mv (.t 14), []⟩,
   ⟨(some 118), .slc 1 (.t 116) none (some (.t 117)) none, []⟩,
   ⟨(some 119), .call 13 [(.t 115), (.t 118)], []⟩],
  .s ⟨(some 120), .pick (.t 114) (.t 119) (.c (.bool false)), []⟩,
  .s ⟨(some 121), .mv (.t 120), []⟩,
  .g 121 true [⟨(some 122), .call 8 [], []⟩],
  .s ⟨(some 123), .pick (.t 121) (.t 122) (.c (.bool false)), []⟩,
  .s ⟨(some 6), .mv (.t 123), []⟩])
 .ret))))))))))⟩
def a6 : XFun := ⟨304, [.t 6],
 (.seq (.reg [.s ⟨(some 6), .mv (.c (.bool false)), []⟩])
 (.seq (.seq (.reg [.s ⟨(some 28), .mv (.t 0), []⟩,
  .s ⟨(some 29), .lenL (.t 28), []⟩,
  .s ⟨(some 30), .bin .gtr (.t 29) (.c (.int .i64 20)), []⟩,
  .s ⟨(some 31), .mv (.t 30), []⟩,
  .g 31 false [⟨(some 32), .mv (.t 1), []⟩,
   ⟨(some 33), .lenL (.t 32), []⟩,
   ⟨(some 34), .mv (.t 0), []⟩,
   ⟨(some 35), .lenL (.t 34), []⟩,
   ⟨(some 36), .bin .lss (.t 33) (.t 35), []⟩],
  .s ⟨(some 37), .pick (.t 31) (.c (.bool true)) (.t 36), []⟩,
  .s ⟨(some 38), .mv (.t 37), []⟩,
  .g 38 false [⟨(some 39), .mv (.t 2), []⟩,
   ⟨(some 40), .lenL (.t 39), []⟩,
   ⟨(some 41), .bin .lss (.t 40) (.c (.int .i64 6)), []⟩],
  .s ⟨(some 42), .pick (.t 38) (.c (.bool true)) (.t 41), []⟩])
 (.cond (.t 42) (.seq (.reg [.s ⟨(some 43), .call 8 [], []⟩,
  .s ⟨(some 6), .mv (.t 43), []⟩])
 .ret)
 .skip))
 (.seq (.reg [.s ⟨(some 44), .mkslice 2 1 8 [(.int .i64 0)] (.c (.int .i64 600)) (.c (.int .i64 600)), []⟩,
  .s ⟨(some 7), .mv (.t 44), []⟩])
 (.seq (.reg [.s ⟨(some 45), .mkslice 2 1 8 [(.int .i64 0)] (.c (.int .i64 16)) (.c (.int .i64 16)), []⟩,
  .s ⟨(some 8), .mv (.t 45), []⟩])
 (.seq (.seq (.reg [.s ⟨(some 9), .mv (.c (.int .i64 0)), []⟩])
 (.block 0 (.loop (.seq (.seq (.reg [.s ⟨(some 46), .mv (.t 9), []⟩,
  .s ⟨(some 47), .bin .lss (.t 46) (.c (.int .i64 6)), []⟩])
 (.cond (.t 47) .skip
 (.exit 0)))
 (.seq (.block 1 (.reg [.s ⟨(some 50), .mv (.t 8), []⟩,
  .s ⟨(some 51), .mv (.t 9), []⟩,
  .s ⟨(some 52), .bin .add (.c (.int .i64 6)) (.t 51), []⟩,
  .s ⟨(some 53), .mv (.t 2), []⟩,
  .s ⟨(some 54), .mv (.t 9), []⟩,
  .s ⟨(some 55), .idx 1 (.t 53) (.t 54), []⟩,
  .s ⟨(some 56), .load false 1 (.t 55), []⟩,
  .s ⟨(some 57), .idx 1 (.t 50) (.t 52), []⟩,
  .s ⟨none, .store 1 (.t 57) (.t 56), []⟩]))
 (.reg [.s ⟨(some 48), .mv (.t 9), []⟩,
  .s ⟨(some 49), .bin .add (.t 48) (.c (.int .i64 1)), []⟩,
  .s ⟨(some 9), .mv (.t 49), []⟩]))))))
 (.seq (.reg [.s ⟨(some 58), .mv (.t 8), []⟩,
  .s ⟨(some 59), .idx 1 (.t 58) (.c (.int .i64 15)), []⟩,
  .s ⟨none, .store 1 (.t 59) (.c (.int .i64 600)), []⟩])
 (.seq (.reg [.s ⟨(some 10), .mv (.c (.slice none 0 0)), []⟩])
 (.seq (.reg [.s ⟨(some 11), .mv (.c (.slice none 0 0)), []⟩])
 (.seq (.seq (.reg [.s ⟨(some 12), .mv (.c (.int .i64 0)), []⟩])
 (.block 2 (.loop (.seq (.seq (.reg [.s ⟨(some 60), .mv (.t 12), []⟩,
  .s ⟨(some 61), .mv (.t 0), []⟩,
  .s ⟨(some 62), .lenL (.t 61), []⟩,
  .s ⟨(some 63), .bin .lss (.t 60) (.t 62), []⟩])
 (.cond (.t 63) .skip
 (.exit 2)))
 (.seq (.block 3 (.seq (.reg [.s ⟨(some 66), .mv (.t 11), []⟩,
  .s ⟨(some 67), .bslice 2 0 [] [], []⟩,
  .s ⟨(some 68), .mv (.t 8), []⟩,
  .s ⟨(some 69), .app 2 1 8 (.t 67) (.t 68), []⟩,
  .s ⟨(some 70), .bslice 26 1 [(.slice none 0 0)] [(0, 1, (.t 69))], []⟩,
  .s ⟨(some 71), .app 26 1 24 (.t 66) (.t 70), []⟩,
  .s ⟨(some 11), .mv (.t 71), []⟩])
 (.seq (.reg [.s ⟨(some 72), .mv (.t 12), []⟩,
  .s ⟨(some 73), .bin .mul (.c (.int .i64 10)) (.t 72), []⟩,
  .s ⟨(some 74), .mv (.t 12), []⟩,
  .s ⟨(some 75), .bin .mul (.c (.int .i64 10)) (.t 74), []⟩,
  .s ⟨(some 76), .bin .add (.t 75) (.c (.int .i64 10)), []⟩,
  .s ⟨(some 77), .mv (.t 0), []⟩,
  .s ⟨(some 78), .mv (.t 12), []⟩,
  .s ⟨(some 79), .idx 1 (.t 77) (.t 78), []⟩,
  .s ⟨(some 80), .load false 1 (.t 79), []⟩,
  .s ⟨(some 81), .bin .rem (.t 80) (.c (.int .u8 10)), []⟩,
  .s ⟨(some 82), .cint .i64 (.t 81), []⟩,
  .s ⟨(some 83), .bin .add (.c (.int .i64 10)) (.t 82), []⟩,
  .s ⟨(some 84), .build [(.int .i64 0), (.int .i64 0), (.int .i64 0), (.slice none 0 0)] [(0, 1, (.t 73)), (1, 1, (.t 76)), (2, 1, (.t 83))], []⟩,
  .s ⟨(some 13), .alloc 48 [(.int .i64 0), (.int .i64 0), (.int .i64 0), (.slice none 0 0)], []⟩,
  .s ⟨none, .store 4 (.t 13) (.t 84), []⟩])
 (.seq (.reg [.s ⟨(some 85), .mv (.t 8), []⟩,
  .s ⟨(some 86), .idx 1 (.t 85) (.c (.int .i64 15)), []⟩,
  .s ⟨(some 87), .load false 1 (.t 86), []⟩,
  .s ⟨(some 14), .mv (.t 87), []⟩])
 (.seq (.reg [.s ⟨(some 88), .mv (.t 7), []⟩,
  .s ⟨(some 89), .mv (.t 14), []⟩,
  .s ⟨(some 90), .bin .sub (.t 89) (.c (.int .i64 1)), []⟩,
  .s ⟨(some 91), .idx 1 (.t 88) (.t 90), []⟩,
  .s ⟨none, .store 1 (.t 91) (.c (.int .i64 9999)), []⟩])
 (.seq (.seq (.reg [.s ⟨(some 92), .mv (.t 12), []⟩,
  .s ⟨(some 93), .bin .gtr (.t 92) (.c (.int .i64 0)), []⟩])
 (.cond (.t 93) (.reg [.s ⟨(some 94), .mv (.t 7), []⟩,
  .s ⟨(some 95), .mv (.t 14), []⟩,
  .s ⟨(some 96), .bin .sub (.t 95) (.c (.int .i64 1)), []⟩,
  .s ⟨(some 97), .mv (.t 12), []⟩,
  .s ⟨(some 98), .bin .sub (.t 97) (.c (.int .i64 1)), []⟩,
  .s ⟨(some 99), .bin .mul (.c (.int .i64 10)) (.t 98), []⟩,
  .s ⟨(some 100), .bin .add (.t 99) (.c (.int .i64 5)), []⟩,
  .s ⟨(some 101), .idx 1 (.t 94) (.t 96), []⟩,
  .s ⟨none, .store 1 (.t 101) (.t 100), []⟩])
 .skip))
 (.seq (.seq (.reg [.s ⟨(some 15), .mv (.c (.int .i64 0)), []⟩])
 (.block 4 (.loop (.seq (.seq (.reg [.s ⟨(some 102), .mv (.t 15), []⟩,
  .s ⟨(some 103), .bin .lss (.t 102) (.c (.int .i64 6)), []⟩])
 (.cond (.t 103) .skip
 (.exit 4)))
 (.seq (.block 5 (.seq (.reg [.s ⟨(some 106), .mv (.t 1), []⟩,
  .s ⟨(some 107), .mv (.t 12), []⟩,
  .s ⟨(some 108), .idx 1 (.t 106) (.t 107), []⟩,
  .s ⟨(some 109), .load false 1 (.t 108), []⟩,
  .s ⟨(some 110), .mv (.t 15), []⟩,
  .s ⟨(some 111), .bin .shr (.t 109) (.t 110), []⟩,
  .s ⟨(some 112), .bin .and (.t 111) (.c (.int .u8 1)), []⟩,
  .s ⟨(some 113), .bin .eql (.t 112) (.c (.int .u8 1)), []⟩])
 (.cond (.t 113) (.seq (.reg [.s ⟨(some 114), .faddr 3 (.t 13), []⟩,
  .s ⟨(some 115), .load false 1 (.t 114), []⟩,
  .s ⟨(some 116), .lenL (.t 115), []⟩,
  .s ⟨(some 117), .bin .sub (.c (.int .i64 (-2))) (.t 116), []⟩,
  .s ⟨(some 16), .mv (.t 117), []⟩])
 (.seq (.reg [.s ⟨(some 118), .mv (.t 7), []⟩,
  .s ⟨(some 119), .mv (.t 14), []⟩,
  .s ⟨(some 120), .mv (.t 16), []⟩,
  .s ⟨(some 121), .bin .add (.t 119) (.t 120), []⟩,
  .s ⟨(some 122), .mv (.t 8), []⟩,
  .s ⟨(some 123), .mv (.t 15), []⟩,
  .s ⟨(some 124), .bin .add (.c (.int .i64 6)) (.t 123), []⟩,
  .s ⟨(some 125), .idx 1 (.t 122) (.t 124), []⟩,
  .s ⟨(some 126), .load false 1 (.t 125), []⟩,
  .s ⟨(some 127), .idx 1 (.t 118) (.t 121), []⟩,
  .s ⟨none, .store 1 (.t 127) (.t 126), []⟩])
 (.seq (.reg [.s ⟨(some 128), .faddr 3 (.t 13), []⟩,
  .s ⟨(some 129), .load false 1 (.t 128), []⟩,
  .s ⟨(some 130), .mv (.t 15), []⟩,
  .s ⟨(some 131), .bin .add (.c (.int .i64 6)) (.t 130), []⟩,
  .s ⟨(some 132), .mv (.t 16), []⟩,
  .s ⟨(some 133), .build [(.int .i64 0), (.int .i64 0)] [(0, 1, (.t 131)), (1, 1, (.t 132))], []⟩,
  .s ⟨(some 134), .bslice 50 1 [(.int .i64 0), (.int .i64 0)] [(0, 2, (.t 133))], []⟩,
  .s ⟨(some 135), .app 50 2 16 (.t 129) (.t 134), []⟩,
  .s ⟨(some 136), .faddr 3 (.t 13), []⟩,
  .s ⟨none, .store 1 (.t 136) (.t 135), []⟩])
 (.reg [.s ⟨(some 137), .mv (.t 8), []⟩,
  .s ⟨(some 138), .mv (.t 15), []⟩,
  .s ⟨(some 139), .bin .add (.c (.int .i64 6)) (.t 138), []⟩,
  .s ⟨(some 140), .mv (.t 12), []⟩,
  .s ⟨(some 141), .bin .mul (.c (.int .i64 1000)) (.t 140), []⟩,
  .s ⟨(some 142), .mv (.t 15), []⟩,
  .s ⟨(some 143), .bin .add (.t 141) (.t 142), []⟩,
  .s ⟨(some 144), .idx 1 (.t 137) (.t 139), []⟩,
  .s ⟨none, .store 1 (.t 144) (.t 143), []⟩]))))
 .skip)))
 (.reg [.s ⟨(some 104), .mv (.t 15), []⟩,
  .s ⟨(some 105), .bin .add (.t 104) (.c (.int .i64 1)), []⟩,
  .s ⟨(some 15), .mv (.t 105), []⟩]))))))
 (.seq (.reg [.s ⟨(some 145), .mv (.t 8), []⟩,
  .s ⟨(some 146), .mv (.t 14), []⟩,
  .s ⟨(some 147), .faddr 2 (.t 13), []⟩,
  .s ⟨(some 148), .load false 1 (.t 147), []⟩,
  .s ⟨(some 149), .bin .sub (.t 146) (.t 148), []⟩,
  .s ⟨(some 150), .idx 1 (.t 145) (.c (.int .i64 15)), []⟩,
  .s ⟨none, .store 1 (.t 150) (.t 149), []⟩])
 (.reg [.s ⟨(some 151), .mv (.t 10), []⟩,
  .s ⟨(some 152), .load true 4 (.t 13), []⟩,
  .s ⟨(some 153), .bslice 48 1 [(.int .i64 0), (.int .i64 0), (.int .i64 0), (.slice none 0 0)] [(0, 4, (.t 152))], []⟩,
  .s ⟨(some 154), .app 48 4 48 (.t 151) (.t 153), []⟩,
  .s ⟨(some 10), .mv (.t 154), []⟩])))))))))
 (.reg [.s ⟨(some 64), .mv (.t 12), []⟩,
  .s ⟨(some 65), .bin .add (.t 64) (.c (.int .i64 1)), []⟩,
  .s ⟨(some 12), .mv (.t 65), []⟩]))))))
 (.seq (.reg [.s ⟨(some 155), .mv (.t 8), []⟩,
  .s ⟨(some 156), .mv (.t 7), []⟩,
  .s ⟨(some 157), .build [(.slice none 0 0), (.slice none 0 0), (.int .i64 0), (.slice none 0 0)] [(1, 1, (.t 155)), (3, 1, (.t 156))], []⟩,
  .s ⟨(some 17), .alloc 28 [(.slice none 0 0), (.slice none 0 0), (.int .i64 0), (.slice none 0 0)], []⟩,
  .s ⟨none, .store 4 (.t 17) (.t 157), []⟩])
 (.seq (.seq (.reg [.s ⟨(some 18), .mv (.c (.int .i64 0)), []⟩])
 (.block 6 (.loop (.seq (.seq (.reg [.s ⟨(some 158), .mv (.t 18), []⟩,
  .s ⟨(some 159), .bin .lss (.t 158) (.c (.int .i64 16)), []⟩])
 (.cond (.t 159) .skip
 (.exit 6)))
 (.seq (.block 7 (.reg [.s ⟨(some 162), .faddr 0 (.t 17), []⟩,
  .s ⟨(some 163), .load false 1 (.t 162), []⟩,
  .s ⟨(some 164), .bslice 4 1 [(.bool false)] [(0, 1, (.c (.bool true)))], []⟩,
  .s ⟨(some 165), .app 4 1 1 (.t 163) (.t 164), []⟩,
  .s ⟨(some 166), .faddr 0 (.t 17), []⟩,
  .s ⟨none, .store 1 (.t 166) (.t 165), []⟩]))
 (.reg [.s ⟨(some 160), .mv (.t 18), []⟩,
  .s ⟨(some 161), .bin .add (.t 160) (.c (.int .i64 1)), []⟩,
  .s ⟨(some 18), .mv (.t 161), []⟩]))))))
 (.seq (.seq (.reg [.s ⟨(some 167), .mv (.t 0), []⟩,
  .s ⟨(some 168), .lenL (.t 167), []⟩,
  .s ⟨(some 169), .bin .sub (.t 168) (.c (.int .i64 1)), []⟩,
  .s ⟨(some 19), .mv (.t 169), []⟩])
 (.block 8 (.loop (.seq (.seq (.reg [.s ⟨(some 170), .mv (.t 19), []⟩,
  .s ⟨(some 171), .bin .geq (.t 170) (.c (.int .i64 0)), []⟩])
 (.cond (.t 171) .skip
 (.exit 8)))
 (.seq (.block 9 (.seq (.reg [.s ⟨(some 174), .mv (.t 19), []⟩,
  .s ⟨(some 175), .bin .mul (.c (.int .i64 10)) (.t 174), []⟩,
  .s ⟨(some 176), .bin .add (.t 175) (.c (.int .i64 5)), []⟩,
  .s ⟨(some 20), .mv (.t 176), []⟩])
 (.seq (.reg [.s ⟨(some 178), .mv (.t 10), []⟩,
  .s ⟨(some 179), .mv (.t 20), []⟩,
  .s ⟨(some 180), .load true 4 (.t 17), []⟩,
  .s ⟨(some 181), .call 22 [(.t 178), (.t 179), (.t 180)], []⟩,
  .s ⟨(some 177), .mv (.t 181), []⟩,
  .s ⟨(some 182), .ext 0 (.t 177), []⟩,
  .s ⟨(some 183), .ext 1 (.t 177), []⟩,
  .s ⟨(some 21), .alloc 28 [(.slice none 0 0), (.slice none 0 0), (.int .i64 0), (.slice none 0 0)], []⟩,
  .s ⟨none, .store 4 (.t 21) (.t 182), []⟩,
  .s ⟨(some 22), .mv (.t 183), []⟩])
 (.seq (.reg [.s ⟨(some 185), .mv (.t 10), []⟩,
  .s ⟨(some 186), .mv (.t 20), []⟩,
  .s ⟨(some 187), .load true 4 (.t 17), []⟩,
  .s ⟨(some 188), .call 23 [(.t 185), (.t 186), (.t 187)], []⟩,
  .s ⟨(some 184), .mv (.t 188), []⟩,
  .s ⟨(some 189), .ext 0 (.t 184), []⟩,
  .s ⟨(some 190), .ext 1 (.t 184), []⟩,
  .s ⟨(some 191), .ext 2 (.t 184), []⟩,
  .s ⟨(some 24), .alloc 28 [(.slice none 0 0), (.slice none 0 0), (.int .i64 0), (.slice none 0 0)], []⟩,
  .s ⟨(some 23), .mv (.t 189), []⟩,
  .s ⟨none, .store 4 (.t 24) (.t 190), []⟩,
  .s ⟨(some 25), .mv (.t 191), []⟩])
 (.seq (.seq (.par [.s ⟨(some 192), .mv (.t 22), []⟩,
  .s ⟨(some 193), .bin .neq (.t 192) (.c (.int .i64 0)), []⟩,
  .s ⟨(some 194), .mv (.t 193), []⟩,
  .g 194 false [⟨(some 195), .mv (.t 25), []⟩,
   ⟨(some 196), .bin .neq (.t 195) (.c (.int .i64 0)), []⟩],
  .s ⟨(some 197), .pick (.t 194) (.c (.bool true)) (.t 196), []⟩,
  .s ⟨(some 198), .mv (.t 197), []⟩,
  .g 198 false [⟨(some 199), .faddr 2 (.t 21), []⟩,
   ⟨(some 200), .load false 1 (.t 199), []⟩,
   ⟨(some 201), .mv (.t 11), []⟩,
   ⟨(some 202), .mv (.t 19), []⟩,
   ⟨(some 203), .idx 1 (.t 201) (.t 202), []⟩,
   ⟨(some 204), .load false 1 (.t 203), []⟩,
   ⟨(some 205), .idx 1 (.t 204) (.c (.int .i64 15)), []⟩,
   ⟨(some 206), .load false 1 (.t 205), []⟩,
   ⟨(some 207), .bin .neq (.t 200) (.t 206), []⟩],
  .s ⟨(some 208), .pick (.t 198) (.c (.bool true)) (.t 207), []⟩,
  .s ⟨(some 209), .mv (.t 208), []⟩,
  .g 209 false [⟨(some 210), .faddr 1 (.t 24), []⟩,
   ⟨(some 211), .load false 1 (.t 210), []⟩,
   ⟨(some 212), .lenL (.t 211), []⟩,
   ⟨(some 213), .bin .neq (.t 212) (.c (.int .i64 16)), []⟩],
  .s ⟨(some 214), .pick (.t 209) (.c (.bool true)) (.t 213), []⟩,
  .s ⟨(some 215), .mv (.t 214), []⟩,
  .g 215 false [⟨(some 216), .faddr 0 (.t 24), []⟩,
   ⟨(some 217), .load false 1 (.t 216), []⟩,
   ⟨(some 218), .lenL (.t 217), []⟩,
   ⟨(some 219), .bin .neq (.t 218) (.c (.int .i64 16)), []⟩],
  .s ⟨(some 220), .pick (.t 215) (.c (.bool true)) (.t 219), []⟩,
  .s ⟨(some 221), .mv (.t 220), []⟩,
  .g 221 false [⟨(some 222), .faddr 1 (.t 24), []⟩,
   ⟨(some 223), .load false 1 (.t 222), []⟩,
   ⟨(some 224), .idx 1 (.t 223) (.c (.int .i64 15)), []⟩,
   ⟨(some 225), .load false 1 (.t 224), []⟩,
   ⟨(some 226), .mv (.t 11), []⟩,
   ⟨(some 227), .mv (.t 19), []⟩,
   ⟨(some 228), .idx 1 (.t 226) (.t 227), []⟩,
   ⟨(some 229), .load false 1 (.t 228), []⟩,
   ⟨(some 230), .idx 1 (.t 229) (.c (.int .i64 15)), []⟩,
   ⟨(some 231), .load false 1 (.t 230), []⟩,
   ⟨(some 232), .bin .neq (.t 225) (.t 231), []⟩],
  .s ⟨(some 233), .pick (.t 221) (.c (.bool true)) (.t 232), []⟩,
  .s ⟨(some 234), .mv (.t 233), []⟩,
  .g 234 false [⟨(some 235), .faddr 0 (.t 24), []⟩,
   ⟨(some 236), .load false 1 (.t 235), []⟩,
   ⟨(some 237), .idx 1 (.t 236) (.c (.int .i64 15)), []⟩,
   ⟨(some 238), .load false 1 (.t 237), []⟩,
   ⟨(some 239), .un .not (.t 238), []⟩],
  .s ⟨(some 240), .pick (.t 234) (.c (.bool true)) (.t 239), []⟩])
 (.cond (.t 240) (.seq (.reg [.s ⟨(some 6), .mv (.c (.bool false)), []⟩])
 .ret)
 .skip))
 (.seq (.seq (.reg [.s ⟨(some 241), .mv (.t 19), []⟩,
  .s ⟨(some 242), .bin .gtr (.t 241) (.c (.int .i64 0)), []⟩,
  .s ⟨(some 243), .mv (.t 242), []⟩,
  .g 243 true [⟨(some 244), .mv (.t 23), []⟩,
   ⟨(some 245), .mv (.t 19), []⟩,
   ⟨(some 246), .bin .sub (.t 245) (.c (.int .i64 1)), []⟩,
   ⟨(some 247), .bin .mul (.c (.int .i64 10)) (.t 246), []⟩,
   ⟨(some 248), .bin .add (.t 247) (.c (.int .i64 5)), []⟩,
   ⟨(some 249), .bin .neq (.t 244) (.t 248), []⟩],
  .s ⟨(some 250), .pick (.t 243) (.t 249) (.c (.bool false)), []⟩,
  .s ⟨(some 251), .mv (.t 250), []⟩,
  .g 251 false [⟨(some 252), .mv (.t 19), []⟩,
   ⟨(some 253), .bin .eql (.t 252) (.c (.int .i64 0)), []⟩,
   ⟨(some 254), .mv (.t 253), []⟩],
  .g 254 true [⟨(some 255), .mv (.t 23), []⟩,
   ⟨(some 256), .bin .neq (.t 255) (.c (.int .i64 9999)), []⟩],
  .g 251 false [⟨(some 257), .pick (.t 254) (.t 256) (.c (.bool false)), []⟩],
  .s ⟨(some 258), .pick (.t 251) (.c (.bool true)) (.t 257), []⟩])
 (.cond (.t 258) (.seq (.reg [.s ⟨(some 6), .mv (.c (.bool false)), []⟩])
 .ret)
 .skip))
 (.seq (.seq (.reg [.s ⟨(some 26), .mv (.c (.int .i64 6)), []⟩])
 (.block 10 (.loop (.seq (.seq (.reg [.s ⟨(some 259), .mv (.t 26), []⟩,
  .s ⟨(some 260), .bin .leq (.t 259) (.c (.int .i64 11)), []⟩])
 (.cond (.t 260) .skip
 (.exit 10)))
 (.seq (.block 11 (.seq (.par [.s ⟨(some 263), .faddr 0 (.t 24), []⟩,
  .s ⟨(some 264), .load false 1 (.t 263), []⟩,
  .s ⟨(some 265), .mv (.t 26), []⟩,
  .s ⟨(some 266), .idx 1 (.t 264) (.t 265), []⟩,
  .s ⟨(some 267), .load false 1 (.t 266), []⟩,
  .s ⟨(some 268), .un .not (.t 267), []⟩,
  .s ⟨(some 269), .mv (.t 268), []⟩,
  .g 269 false [⟨(some 270), .faddr 1 (.t 24), []⟩,
   ⟨(some 271), .load false 1 (.t 270), []⟩,
   ⟨(some 272), .mv (.t 26), []⟩,
   ⟨(some 273), .idx 1 (.t 271) (.t 272), []⟩,
   ⟨(some 274), .load false 1 (.t 273), []⟩,
   ⟨(some 275), .mv (.t 11), []⟩,
   ⟨(some 276), .mv (.t 19), []⟩,
   ⟨(some 277), .idx 1 (.t 275) (.t 276), []⟩,
   ⟨(some 278), .load false 1 (.t 277), []⟩,
   ⟨(some 279), .mv (.t 26), []⟩,
   ⟨(some 280), .idx 1 (.t 278) (.t 279), []⟩,
   ⟨(some 281), .load false 1 (.t 280), []⟩,
   ⟨(some 282), .bin .neq (.t 274) (.t 281), []⟩],
  .s ⟨(some 283), .pick (.t 269) (.c (.bool true)) (.t 282), []⟩])
 (.cond (.t 283) (.seq (.reg [.s ⟨(some 6), .mv (.c (.bool false)), []⟩])
 .ret)
 .skip)))
 (.reg [.s ⟨(some 261), .mv (.t 26), []⟩,
  .s ⟨(some 262), .bin .add (.t 261) (.c (.int .i64 1)), []⟩,
  .s ⟨(some 26), .mv (.t 262), []⟩]))))))
 (.seq (.seq (.reg [.s ⟨(some 27), .mv (.c (.int .i64 0)), []⟩])
 (.block 12 (.loop (.seq (.seq (.reg [.s ⟨(some 284), .mv (.t 27), []⟩,
  .s ⟨(some 285), .bin .lss (.t 284) (.c (.int .i64 6)), []⟩])
 (.cond (.t 285) .skip
 (.exit 12)))
 (.seq (.block 13 (.seq (.reg [.s ⟨(some 288), .faddr 0 (.t 24), []⟩,
  .s ⟨(some 289), .load false 1 (.t 288), []⟩,
  .s ⟨(some 290), .mv (.t 27), []⟩,
  .s ⟨(some 291), .idx 1 (.t 289) (.t 290), []⟩,
  .s ⟨(some 292), .load false 1 (.t 291), []⟩,
  .s ⟨(some 293), .mv (.t 292), []⟩,
  .g 293 false [⟨(some 294), .faddr 0 (.t 24), []⟩,
   ⟨(some 295), .load false 1 (.t 294), []⟩,
   ⟨(some 296), .mv (.t 27), []⟩,
   ⟨(some 297), .bin .rem (.t 296) (.c (.int .i64 3)), []⟩,
   ⟨(some 298), .bin .add (.c (.int .i64 12)) (.t 297), []⟩,
   ⟨(some 299), .idx 1 (.t 295) (.t 298), []⟩,
   ⟨(some 300), .load false 1 (.t 299), []⟩],
  .s ⟨(some 301), .pick (.t 293) (.c (.bool true)) (.t 300), []⟩])
 (.cond (.t 301) (.seq (.reg [.s ⟨(some 6), .mv (.c (.bool false)), []⟩])
 .ret)
 .skip)))
 (.reg [.s ⟨(some 286), .mv (.t 27), []⟩,
  .s ⟨(some 287), .bin .add (.t 286) (.c (.int .i64 1)), []⟩,
  .s ⟨(some 27), .mv (.t 287), []⟩]))))))
 (.reg [.s ⟨(some 302), .load true 4 (.t 24), []⟩,
  .s ⟨none, .store 4 (.t 17) (.t 302), []⟩])))))))))
 (.reg [.s ⟨(some 172), .mv (.t 19), []⟩,
  .s ⟨(some 173), .bin .sub (.t 172) (.c (.int .i64 1)), []⟩,
  .s ⟨(some 19), .mv (.t 173), []⟩]))))))
 (.seq (.reg [.s ⟨(some 303), .call 8 [], []⟩,
  .s ⟨(some 6), .mv (.t 303), []⟩])
 .ret)))))))))))))⟩
theorem s6 : slimF Try.prog Try.f6 = some a6.fn := by kernel_rfl
def a7 : XFun := ⟨58, [.t 4],
 (.seq (.reg [.s ⟨(some 3), .box 28 (.t 1), []⟩,
  .s ⟨(some 4), .mv (.c (.bool false)), []⟩])
 (.seq (.reg [.s ⟨(some 5), .mv (.c (.int .i64 0)), []⟩])
 (.seq (.seq (.reg [.s ⟨(some 6), .mv (.c (.int .i64 0)), []⟩])
 (.block 0 (.loop (.seq (.seq (.reg [.s ⟨(some 7), .mv (.t 6), []⟩,
  .s ⟨(some 8), .mv (.t 0), []⟩,
  .s ⟨(some 9), .lenL (.t 8), []⟩,
  .s ⟨(some 10), .bin .lss (.t 7) (.t 9), []⟩,
  .s ⟨(some 11), .mv (.t 10), []⟩,
  .g 11 true [⟨(some 12), .mv (.t 6), []⟩,
   ⟨(some 13), .bin .leq (.t 12) (.c (.int .i64 5000)), []⟩],
  .s ⟨(some 14), .pick (.t 11) (.t 13) (.c (.bool false)), []⟩])
 (.cond (.t 14) .skip
 (.exit 0)))
 (.seq (.block 1 (.seq (.reg [.s ⟨(some 17), .mv (.t 5), []⟩,
  .s ⟨(some 18), .mv (.t 0), []⟩,
  .s ⟨(some 19), .mv (.t 6), []⟩,
  .s ⟨(some 20), .idx 4 (.t 18) (.t 19), []⟩,
  .s ⟨(some 21), .faddr 3 (.t 20), []⟩,
  .s ⟨(some 22), .load false 1 (.t 21), []⟩,
  .s ⟨(some 23), .lenL (.t 22), []⟩,
  .s ⟨(some 24), .minmax false (.t 23) [(.c (.int .i64 1000))], []⟩,
  .s ⟨(some 25), .bin .add (.t 17) (.t 24), []⟩,
  .s ⟨(some 5), .mv (.t 25), []⟩])
 (.seq (.reg [.s ⟨(some 26), .mv (.t 0), []⟩,
  .s ⟨(some 27), .mv (.t 6), []⟩,
  .s ⟨(some 28), .idx 4 (.t 26) (.t 27), []⟩,
  .s ⟨(some 29), .faddr 3 (.t 28), []⟩,
  .s ⟨(some 30), .load false 1 (.t 29), []⟩,
  .s ⟨(some 31), .lenL (.t 30), []⟩,
  .s ⟨(some 32), .bin .gtr (.t 31) (.c (.int .i64 1000)), []⟩])
 (.cond (.t 32) (.seq (.reg [.s ⟨(some 4), .mv (.c (.bool true)), []⟩])
 .ret)
 .skip))))
 (.reg [.s ⟨(some 15), .mv (.t 6), []⟩,
  .s ⟨(some 16), .bin .add (.t 15) (.c (.int .i64 1)), []⟩,
  .s ⟨(some 6), .mv (.t 16), []⟩]))))))
 (.seq (.reg [.s ⟨(some 33), .mv (.t 0), []⟩,
  .s ⟨(some 34), .lenL (.t 33), []⟩,
  .s ⟨(some 35), .bin .gtr (.t 34) (.c (.int .i64 5000)), []⟩,
  .s ⟨(some 36), .mv (.t 35), []⟩,
  .g 36 false [⟨(some 37), .mv (.t 5), []⟩,
   ⟨(some 38), .bin .gtr (.t 37) (.c (.int .i64 20000)), []⟩],
  .s ⟨(some 39), .pick (.t 36) (.c (.bool true)) (.t 38), []⟩,
  .s ⟨(some 40), .mv (.t 39), []⟩,
  .g 40 false [⟨(some 41), .faddr 0 (.t 3), []⟩,
   ⟨(some 42), .load false 1 (.t 41), []⟩,
   ⟨(some 43), .lenL (.t 42), []⟩,
   ⟨(some 44), .bin .gtr (.t 43) (.c (.int .i64 1000)), []⟩],
  .s ⟨(some 45), .pick (.t 40) (.c (.bool true)) (.t 44), []⟩,
  .s ⟨(some 46), .mv (.t 45), []⟩,
  .g 46 false [⟨(some 47), .faddr 1 (.t 3), []⟩,
   ⟨(some 48), .load false 1 (.t 47), []⟩,
   ⟨(some 49), .lenL (.t 48), []⟩,
   ⟨(some 50), .bin .gtr (.t 49) (.c (.int .i64 1000)), []⟩],
  .s ⟨(some 51), .pick (.t 46) (.c (.bool true)) (.t 50), []⟩,
  .s ⟨(some 52), .mv (.t 51), []⟩,
  .g 52 false [⟨(some 53), .faddr 3 (.t 3), []⟩,
   ⟨(some 54), .load false 1 (.t 53), []⟩,
   ⟨(some 55), .lenL (.t 54), []⟩,
   ⟨(some 56), .bin .gtr (.t 55) (.c (.int .i64 65536)), []⟩],
  .s ⟨(some 57), .pick (.t 52) (.c (.bool true)) (.t 56), []⟩,
  .s ⟨(some 4), .mv (.t 57), []⟩])
 .ret))))⟩
def a8 : XFun := ⟨99, [.t 0],
 (.seq (.reg [.s ⟨(some 0), .mv (.c (.bool false)), []⟩])
 (.seq (.reg [.s ⟨(some 10), .build [(.int .i64 0), (.int .i64 0)] [(0, 1, (.c (.int .i64 7))), (1, 1, (.c (.int .i64 (-2))))], []⟩,
  .s ⟨(some 11), .bslice 50 1 [(.int .i64 0), (.int .i64 0)] [(0, 2, (.t 10))], []⟩,
  .s ⟨(some 12), .build [(.int .i64 0), (.int .i64 0), (.int .i64 0), (.slice none 0 0)] [(0, 1, (.c (.int .i64 10))), (1, 1, (.c (.int .i64 20))), (2, 1, (.c (.int .i64 3))), (3, 1, (.t 11))], []⟩,
  .s ⟨(some 13), .bslice 48 1 [(.int .i64 0), (.int .i64 0), (.int .i64 0), (.slice none 0 0)] [(0, 4, (.t 12))], []⟩,
  .s ⟨(some 1), .mv (.t 13), []⟩])
 (.seq (.reg [.s ⟨(some 15), .mv (.t 1), []⟩,
  .s ⟨(some 16), .call 11 [(.c (.slice none 0 0)), (.t 15)], []⟩,
  .s ⟨(some 14), .mv (.t 16), []⟩,
  .s ⟨(some 17), .ext 0 (.t 14), []⟩,
  .s ⟨(some 18), .ext 1 (.t 14), []⟩,
  .s ⟨(some 2), .mv (.t 17), []⟩,
  .s ⟨(some 3), .mv (.t 18), []⟩])
 (.seq (.reg [.s ⟨(some 20), .mv (.t 2), []⟩,
  .s ⟨(some 21), .call 19 [(.t 20), (.c (.int .i64 0))], []⟩,
  .s ⟨(some 19), .mv (.t 21), []⟩,
  .s ⟨(some 22), .ext 0 (.t 19), []⟩,
  .s ⟨(some 23), .ext 1 (.t 19), []⟩,
  .s ⟨(some 24), .ext 2 (.t 19), []⟩,
  .s ⟨(some 4), .mv (.t 22), []⟩,
  .s ⟨(some 5), .mv (.t 23), []⟩,
  .s ⟨(some 6), .mv (.t 24), []⟩])
 (.seq (.reg [.s ⟨(some 26), .mv (.t 4), []⟩,
  .s ⟨(some 27), .call 24 [(.c (.int .i64 10)), (.c (.int .i64 5))], []⟩,
  .s ⟨(some 28), .call 23 [(.t 26), (.c (.int .i64 12)), (.t 27)], []⟩,
  .s ⟨(some 25), .mv (.t 28), []⟩,
  .s ⟨(some 29), .ext 0 (.t 25), []⟩,
  .s ⟨(some 30), .ext 1 (.t 25), []⟩,
  .s ⟨(some 31), .ext 2 (.t 25), []⟩,
  .s ⟨(some 8), .alloc 28 [(.slice none 0 0), (.slice none 0 0), (.int .i64 0), (.slice none 0 0)], []⟩,
  .s ⟨(some 7), .mv (.t 29), []⟩,
  .s ⟨none, .store 4 (.t 8) (.t 30), []⟩,
  .s ⟨(some 9), .mv (.t 31), []⟩])
 (.seq (.reg [.s ⟨(some 32), .mv (.t 3), []⟩,
  .s ⟨(some 33), .bin .eql (.t 32) (.c (.int .i64 0)), []⟩,
  .s ⟨(some 34), .mv (.t 33), []⟩,
  .g 34 true [⟨(some 35), .mv (.t 2), []⟩,
   ⟨(some 36), .lenL (.t 35), []⟩,
   ⟨(some 37), .bin .eql (.t 36) (.c (.int .i64 7)), []⟩],
  .s ⟨(some 38), .pick (.t 34) (.t 37) (.c (.bool false)), []⟩,
  .s ⟨(some 39), .mv (.t 38), []⟩,
  .g 39 true [⟨(some 40), .mv (.t 6), []⟩,
   ⟨(some 41), .bin .eql (.t 40) (.c (.int .i64 0)), []⟩],
  .s ⟨(some 42), .pick (.t 39) (.t 41) (.c (.bool false)), []⟩,
  .s ⟨(some 43), .mv (.t 42), []⟩,
  .g 43 true [⟨(some 44), .mv (.t 5), []⟩,
   ⟨(some 45), .bin .eql (.t 44) (.c (.int .i64 7)), []⟩],
  .s ⟨(some 46), .pick (.t 43) (.t 45) (.c (.bool false)), []⟩,
  .s ⟨(some 47), .mv (.t 46), []⟩,
  .g 47 true [⟨(some 48), .mv (.t 1), []⟩,
   ⟨(some 49), .mv (.t 4), []⟩,
   ⟨(some 50), .call 15 [(.t 48), (.t 49)], []⟩],
  .s ⟨(some 51), .pick (.t 47) (.t 50) (.c (.bool false)), []⟩,
  .s ⟨(some 52), .mv (.t 51), []⟩,
  .g 52 true [⟨(some 53), .mv (.t 9), []⟩,
   ⟨(some 54), .bin .eql (.t 53) (.c (.int .i64 0)), []⟩],
  .s ⟨(some 55), .pick (.t 52) (.t 54) (.c (.bool false)), []⟩,
  .s ⟨(some 56), .mv (.t 55), []⟩,
  .g 56 true [⟨(some 57), .mv (.t 7), []⟩,
   ⟨(some 58), .bin .eql (.t 57) (.c (.int .i64 7)), []⟩],
  .s ⟨(some 59), .pick (.t 56) (.t 58) (.c (.bool false)), []⟩,
  .s ⟨(some 60), .mv (.t 59), []⟩,
  .g 60 true [⟨(some 61), .faddr 1 (.t 8), []⟩,
   ⟨(some 62), .load false 1 (.t 61), []⟩,
   ⟨(some 63), .lenL (.t 62), []⟩,
   ⟨(some 64), .bin .eql (.t 63) (.c (.int .i64 16)), []⟩],
  .s ⟨(some 65), .pick (.t 60) (.t 64) (.c (.bool false)), []⟩,
  .s ⟨(some 66), .mv (.t 65), []⟩,
  .g 66 true [⟨(some 67), .faddr 1 (.t 8), []⟩,
   ⟨(some 68), .load false 1 (.t 67), []⟩,
   ⟨(some 69), .idx 1 (.t 68) (.c (.int .i64 15)), []⟩,
   ⟨(some 70), .load false 1 (.t 69), []⟩,
   ⟨(some 71), .bin .eql (.t 70) (.c (.int .i64 8)), []⟩],
  .s ⟨(some 72), .pick (.t 66) (.t 71) (.c (.bool false)), []⟩,
  .s ⟨(some 73), .mv (.t 72), []⟩,
  .g 73 true [⟨(some 74), .faddr 1 (.t 8), []⟩,
   ⟨(some 75), .load false 1 (.t 74), []⟩,
   ⟨(some 76), .idx 1 (.t 75) (.c (.int .i64 7)), []⟩,
   ⟨(some 77), .load false 1 (.t 76), []⟩,
   ⟨(some 78), .bin .eql (.t 77) (.c (.int .i64 6)), []⟩],
  .s ⟨(some 79), .pick (.t 73) (.t 78) (.c (.bool false)), []⟩,
  .s ⟨(some 80), .mv (.t 79), []⟩,
  .g 80 true [⟨(some 81), .faddr 0 (.t 8), []⟩,
   ⟨(some 82), .load false 1 (.t 81), []⟩,
   ⟨(some 83), .lenL (.t 82), []⟩,
   ⟨(some 84), .bin .eql (.t 83) (.c (.int .i64 16)), []⟩],
  .s ⟨(some 85), .pick (.t 80) (.t 84) (.c (.bool false)), []⟩,
  .s ⟨(some 86), .mv (.t 85), []⟩,
  .g 86 true [⟨(some 87), .faddr 0 (.t 8), []⟩,
   ⟨(some 88), .load false 1 (.t 87), []⟩,
   ⟨(some 89), .idx 1 (.t 88) (.c (.int .i64 7)), []⟩,
   ⟨(some 90), .load false 1 (.t 89), []⟩],
  .s ⟨(some 91), .pick (.t 86) (.t 90) (.c (.bool false)), []⟩,
  .s ⟨(some 92), .mv (.t 91), []⟩,
  .g 92 true [⟨(some 93), .faddr 0 (.t 8), []⟩,
   ⟨(some 94), .load false 1 (.t 93), []⟩,
   ⟨(some 95), .idx 1 (.t 94) (.c (.int .i64 0)), []⟩,
   ⟨(some 96), .load false 1 (.t 95), []⟩,
   ⟨(some 97), .un .not (.t 96), []⟩],
  .s ⟨(some 98), .pick (.t 92) (.t 97) (.c (.bool false)), []⟩,
  .s ⟨(some 0), .mv (.t 98), []⟩])
 .ret))))))⟩
theorem s8 : slimF Try.prog Try.f8 = some a8.fn := by kernel_rfl
def a9 : XFun := ⟨26, [.t 2],
 (.seq (.reg [.s ⟨(some 2), .mv (.c (.slice none 0 0)), []⟩])
 (.seq (.reg [.s ⟨(some 5), .mv (.t 0), []⟩,
  .s ⟨(some 6), .lenL (.t 5), []⟩,
  .s ⟨(some 7), .mv (.t 0), []⟩,
  .s ⟨(some 8), .lenL (.t 7), []⟩,
  .s ⟨(some 9), .bin .add (.t 8) (.c (.int .i64 8)), []⟩,
  .s ⟨(some 10), .mkslice 5 1 1 [(.int .u8 0)] (.t 6) (.t 9), []⟩,
  .s ⟨(some 3), .mv (.t 10), []⟩])
 (.seq (.reg [.s ⟨(some 11), .mv (.t 3), []⟩,
  .s ⟨(some 12), .mv (.t 0), []⟩,
  .s ⟨(some 13), .copy 1 (.t 11) (.t 12), []⟩])
 (.seq (.seq (.reg [.s ⟨(some 4), .mv (.c (.int .u8 8)), []⟩])
 (.block 0 (.loop (.seq (.seq (.reg [.s ⟨(some 14), .mv (.t 4), []⟩,
  .s ⟨(some 15), .bin .gtr (.t 14) (.c (.int .u8 0)), []⟩])
 (.cond (.t 15) .skip
 (.exit 0)))
 (.seq (.block 1 (.reg [.s ⟨(some 18), .mv (.t 3), []⟩,
  .s ⟨(some 19), .mv (.t 4), []⟩,
  .s ⟨(some 20), .bslice 5 1 [(.int .u8 0)] [(0, 1, (.t 19))], []⟩,
  .s ⟨(some 21), .app 5 1 1 (.t 18) (.t 20), []⟩,
  .s ⟨(some 3), .mv (.t 21), []⟩]))
 (.reg [.s ⟨(some 16), .mv (.t 4), []⟩,
  .s ⟨(some 17), .bin .sub (.t 16) (.c (.int .u8 1)), []⟩,
  .s ⟨(some 4), .mv (.t 17), []⟩]))))))
 (.seq (.reg [.s ⟨(some 22), .mv (.t 3), []⟩,
  .s ⟨(some 23), .mv (.t 0), []⟩,
  .s ⟨(some 24), .lenL (.t 23), []⟩,
  .s ⟨(some 25), .slc 1 (.t 22) none (some (.t 24)) none, []⟩,
  .s ⟨(some 2), .mv (.t 25), []⟩])
 .ret)))))⟩
def a10 : XFun := ⟨29, [.t 2],
 (.seq (.reg [.s ⟨(some 2), .mv (.c (.slice none 0 0)), []⟩])
 (.seq (.reg [.s ⟨(some 3), .mv (.c (.slice none 0 0)), []⟩])
 (.seq (.seq (.reg [.s ⟨(some 4), .mv (.c (.int .i64 0)), []⟩])
 (.block 0 (.loop (.seq (.seq (.reg [.s ⟨(some 6), .mv (.t 4), []⟩,
  .s ⟨(some 7), .mv (.t 0), []⟩,
  .s ⟨(some 8), .lenL (.t 7), []⟩,
  .s ⟨(some 9), .bin .lss (.t 6) (.t 8), []⟩])
 (.cond (.t 9) .skip
 (.exit 0)))
 (.seq (.block 1 (.seq (.reg [.s ⟨(some 12), .mv (.t 0), []⟩,
  .s ⟨(some 13), .mv (.t 4), []⟩,
  .s ⟨(some 14), .idx 4 (.t 12) (.t 13), []⟩,
  .s ⟨(some 15), .load true 4 (.t 14), []⟩,
  .s ⟨(some 5), .alloc 48 [(.int .i64 0), (.int .i64 0), (.int .i64 0), (.slice none 0 0)], []⟩,
  .s ⟨none, .store 4 (.t 5) (.t 15), []⟩])
 (.seq (.reg [.s ⟨(some 16), .bslice 50 0 [] [], []⟩,
  .s ⟨(some 17), .mv (.t 0), []⟩,
  .s ⟨(some 18), .mv (.t 4), []⟩,
  .s ⟨(some 19), .idx 4 (.t 17) (.t 18), []⟩,
  .s ⟨(some 20), .faddr 3 (.t 19), []⟩,
  .s ⟨(some 21), .load false 1 (.t 20), []⟩,
  .s ⟨(some 22), .app 50 2 16 (.t 16) (.t 21), []⟩,
  .s ⟨(some 23), .faddr 3 (.t 5), []⟩,
  .s ⟨none, .store 1 (.t 23) (.t 22), []⟩])
 (.reg [.s ⟨(some 24), .mv (.t 3), []⟩,
  .s ⟨(some 25), .load true 4 (.t 5), []⟩,
  .s ⟨(some 26), .bslice 48 1 [(.int .i64 0), (.int .i64 0), (.int .i64 0), (.slice none 0 0)] [(0, 4, (.t 25))], []⟩,
  .s ⟨(some 27), .app 48 4 48 (.t 24) (.t 26), []⟩,
  .s ⟨(some 3), .mv (.t 27), []⟩]))))
 (.reg [.s ⟨(some 10), .mv (.t 4), []⟩,
  .s ⟨(some 11), .bin .add (.t 10) (.c (.int .i64 1)), []⟩,
  .s ⟨(some 4), .mv (.t 11), []⟩]))))))
 (.seq (.reg [.s ⟨(some 28), .mv (.t 3), []⟩,
  .s ⟨(some 2), .mv (.t 28), []⟩])
 .ret))))⟩
def a11 : XFun := ⟨66, [.t 4, .t 5],
 (.seq (.reg [.s ⟨(some 4), .mv (.c (.slice none 0 0)), []⟩,
  .s ⟨(some 5), .mv (.c (.int .i64 0)), []⟩])
 (.seq (.seq (.reg [.s ⟨(some 12), .mv (.t 1), []⟩,
  .s ⟨(some 13), .call 16 [(.t 12)], []⟩,
  .s ⟨(some 14), .un .not (.t 13), []⟩])
 (.cond (.t 14) (.seq (.reg [.s ⟨(some 4), .mv (.c (.slice none 0 0)), []⟩,
  .s ⟨(some 5), .mv (.c (.int .i64 1)), []⟩])
 .ret)
 .skip))
 (.seq (.reg [.s ⟨(some 15), .mv (.t 0), []⟩,
  .s ⟨(some 16), .mv (.t 1), []⟩,
  .s ⟨(some 17), .lenL (.t 16), []⟩,
  .s ⟨(some 18), .bslice 2 1 [(.int .i64 0)] [(0, 1, (.t 17))], []⟩,
  .s ⟨(some 19), .call 25 [(.t 15), (.t 18)], []⟩,
  .s ⟨(some 6), .mv (.t 19), []⟩])
 (.seq (.reg [.s ⟨(some 7), .mv (.c (.int .i64 0)), []⟩])
 (.seq (.seq (.reg [.s ⟨(some 20), .mv (.t 1), []⟩,
  .s ⟨(some 21), .lenL (.t 20), []⟩,
  .s ⟨(some 22), .mv (.c (.int .i64 0)), []⟩])
 (.block 0 (.loop (.seq (.reg [.s ⟨(some 23), .bin .lss (.t 22) (.t 21), []⟩])
 (.seq (.cond (.t 23) .skip
 (.exit 0))
 (.seq (.block 1 (.seq (.reg [.s ⟨(some 24), .idx 4 (.t 20) (.t 22), []⟩,
  .s ⟨(some 25), .load true 4 (.t 24), []⟩,
  .s ⟨(some 9), .alloc 48 [(.int .i64 0), (.int .i64 0), (.int .i64 0), (.slice none 0 0)], []⟩,
  .s ⟨none, .store 4 (.t 9) (.t 25), []⟩])
 (.seq (.reg [.s ⟨(some 26), .mv (.t 6), []⟩,
  .s ⟨(some 27), .faddr 0 (.t 9), []⟩,
  .s ⟨(some 28), .load false 1 (.t 27), []⟩,
  .s ⟨(some 29), .mv (.t 7), []⟩,
  .s ⟨(some 30), .bin .sub (.t 28) (.t 29), []⟩,
  .s ⟨(some 31), .faddr 1 (.t 9), []⟩,
  .s ⟨(some 32), .load false 1 (.t 31), []⟩,
  .s ⟨(some 33), .faddr 0 (.t 9), []⟩,
  .s ⟨(some 34), .load false 1 (.t 33), []⟩,
  .s ⟨(some 35), .bin .sub (.t 32) (.t 34), []⟩,
  .s ⟨(some 36), .faddr 2 (.t 9), []⟩,
  .s ⟨(some 37), .load false 1 (.t 36), []⟩,
  .s ⟨(some 38), .faddr 3 (.t 9), []⟩,
  .s ⟨(some 39), .load false 1 (.t 38), []⟩,
  .s ⟨(some 40), .lenL (.t 39), []⟩,
  .s ⟨(some 41), .bslice 2 4 [(.int .i64 0), (.int .i64 0), (.int .i64 0), (.int .i64 0)] [(0, 1, (.t 30)), (1, 1, (.t 35)), (2, 1, (.t 37)), (3, 1, (.t 40))], []⟩,
  .s ⟨(some 42), .call 25 [(.t 26), (.t 41)], []⟩,
  .s ⟨(some 6), .mv (.t 42), []⟩])
 (.seq (.seq (.reg [.s ⟨(some 43), .faddr 3 (.t 9), []⟩,
  .s ⟨(some 44), .load false 1 (.t 43), []⟩,
  .s ⟨(some 45), .lenL (.t 44), []⟩,
  .s ⟨(some 46), .mv (.c (.int .i64 0)), []⟩])
 (.block 2 (.loop (.seq (.reg [.s ⟨(some 47), .bin .lss (.t 46) (.t 45), []⟩])
 (.seq (.cond (.t 47) .skip
 (.exit 2))
 (.seq (.block 3 (.seq (.reg [.s ⟨(some 48), .idx 2 (.t 44) (.t 46), []⟩,
  .s ⟨(some 49), .load true 2 (.t 48), []⟩,
  .s ⟨(some 11), .alloc 50 [(.int .i64 0), (.int .i64 0)], []⟩,
  .s ⟨none, .store 2 (.t 11) (.t 49), []⟩])
 (.parT (.quiet ⟨none, (some 50), .mv (.t 6)⟩
  (.quiet ⟨none, (some 51), .faddr 0 (.t 11)⟩
  (.quiet ⟨none, (some 52), .load false 1 (.t 51)⟩
  (.quiet ⟨none, (some 53), .cint .u8 (.t 52)⟩
  (.quiet ⟨none, (some 56), .faddr 1 (.t 11)⟩
  (.quiet ⟨none, (some 57), .load false 1 (.t 56)⟩
  (.quiet ⟨none, (some 58), .un .neg (.t 57)⟩
  (.both (.eff ⟨none, (some 54), .bslice 5 1 [(.int .u8 0)] [(0, 1, (.t 53))]⟩ [⟨none, (some 57), .load false 1 (.t 56)⟩]
  (.both (.eff ⟨none, (some 55), .app 5 1 1 (.t 50) (.t 54)⟩ [⟨none, (some 57), .load false 1 (.t 56)⟩]
  (.eff ⟨none, (some 59), .bslice 2 1 [(.int .i64 0)] [(0, 1, (.t 58))]⟩ [⟨none, (some 52), .load false 1 (.t 51)⟩]
  (.eff ⟨none, (some 60), .call 25 [(.t 55), (.t 59)]⟩ []
  (.quiet ⟨none, (some 6), .mv (.t 60)⟩
  .done))))
  (.eff ⟨none, (some 59), .bslice 2 1 [(.int .i64 0)] [(0, 1, (.t 58))]⟩ [⟨none, (some 52), .load false 1 (.t 51)⟩]
  (.eff ⟨none, (some 55), .app 5 1 1 (.t 50) (.t 54)⟩ [⟨none, (some 57), .load false 1 (.t 56)⟩]
  (.eff ⟨none, (some 60), .call 25 [(.t 55), (.t 59)]⟩ []
  (.quiet ⟨none, (some 6), .mv (.t 60)⟩
  .done))))))
  (.eff ⟨none, (some 59), .bslice 2 1 [(.int .i64 0)] [(0, 1, (.t 58))]⟩ [⟨none, (some 52), .load false 1 (.t 51)⟩]
  (.eff ⟨none, (some 54), .bslice 5 1 [(.int .u8 0)] [(0, 1, (.t 53))]⟩ [⟨none, (some 57), .load false 1 (.t 56)⟩]
  (.eff ⟨none, (some 55), .app 5 1 1 (.t 50) (.t 54)⟩ [⟨none, (some 57), .load false 1 (.t 56)⟩]
  (.eff ⟨none, (some 60), .call 25 [(.t 55), (.t 59)]⟩ []
  (.quiet ⟨none, (some 6), .mv (.t 60)⟩
  .done))))))))))))))))
 (.reg [.s ⟨(some 61), .bin .add (.t 46) (.c (.int .i64 1)), []⟩,
  .s ⟨(some 46), .mv (.t 61), []⟩])))))))
 (.reg [.s ⟨(some 62), .faddr 1 (.t 9), []⟩,
  .s ⟨(some 63), .load false 1 (.t 62), []⟩,
  .s ⟨(some 7), .mv (.t 63), []⟩])))))
 (.reg [.s ⟨(some 64), .bin .add (.t 22) (.c (.int .i64 1)), []⟩,
  .s ⟨(some 22), .mv (.t 64), []⟩])))))))
 (.seq (.reg [.s ⟨(some 65), .mv (.t 6), []⟩,
  .s ⟨(some 4), .mv (.t 65), []⟩,
  .s ⟨(some 5), .mv (.c (.int .i64 0)), []⟩])
 .ret))))))⟩
theorem s11 : slimF Try.prog Try.f11 = some a11.fn := by kernel_rfl
def a15 : XFun := ⟨27, [.t 4],
 (.seq (.reg [.s ⟨(some 4), .mv (.c (.bool false)), []⟩])
 (.seq (.seq (.reg [.s ⟨(some 6), .mv (.t 0), []⟩,
  .s ⟨(some 7), .lenL (.t 6), []⟩,
  .s ⟨(some 8), .mv (.t 1), []⟩,
  .s ⟨(some 9), .lenL (.t 8), []⟩,
  .s ⟨(some 10), .bin .neq (.t 7) (.t 9), []⟩])
 (.cond (.t 10) (.seq (.reg [.s ⟨(some 4), .mv (.c (.bool false)), []⟩])
 .ret)
 .skip))
 (.seq (.seq (.reg [.s ⟨(some 5), .mv (.c (.int .i64 0)), []⟩])
 (.block 0 (.loop (.seq (.seq (.reg [.s ⟨(some 11), .mv (.t 5), []⟩,
  .s ⟨(some 12), .mv (.t 0), []⟩,
  .s ⟨(some 13), .lenL (.t 12), []⟩,
  .s ⟨(some 14), .bin .lss (.t 11) (.t 13), []⟩])
 (.cond (.t 14) .skip
 (.exit 0)))
 (.seq (.block 1 (.seq (.par [.s ⟨(some 17), .mv (.t 0), []⟩,
  .s ⟨(some 18), .mv (.t 5), []⟩,
  .s ⟨(some 19), .idx 4 (.t 17) (.t 18), []⟩,
  .s ⟨(some 20), .load true 4 (.t 19), []⟩,
  .s ⟨(some 21), .mv (.t 1), []⟩,
  .s ⟨(some 22), .mv (.t 5), []⟩,
  .s ⟨(some 23), .idx 4 (.t 21) (.t 22), []⟩,
  .s ⟨(some 24), .load true 4 (.t 23), []⟩,
  .s ⟨(some 25), .call 27 [(.t 20), (.t 24)], []⟩,
  .s ⟨(some 26), .un .not (.t 25), []⟩])
 (.cond (.t 26) (.seq (.reg [.s ⟨(some 4), .mv (.c (.bool false)), []⟩])
 .ret)
 .skip)))
 (.reg [.s ⟨(some 15), .mv (.t 5), []⟩,
  .s ⟨(some 16), .bin .add (.t 15) (.c (.int .i64 1)), []⟩,
  .s ⟨(some 5), .mv (.t 16), []⟩]))))))
 (.seq (.reg [.s ⟨(some 4), .mv (.c (.bool true)), []⟩])
 .ret))))⟩
theorem s15 : slimF Try.prog Try.f15 = some a15.fn := by kernel_rfl
def a16 : XFun := ⟨50, [.t 2],
 (.seq (.reg [.s ⟨(some 2), .mv (.c (.bool false)), []⟩])
 (.seq (.reg [.s ⟨(some 3), .mv (.c (.int .i64 0)), []⟩])
 (.seq (.seq (.reg [.s ⟨(some 6), .mv (.t 0), []⟩,
  .s ⟨(some 7), .lenL (.t 6), []⟩,
  .s ⟨(some 8), .mv (.c (.int .i64 0)), []⟩])
 (.block 0 (.loop (.seq (.reg [.s ⟨(some 9), .bin .lss (.t 8) (.t 7), []⟩])
 (.seq (.cond (.t 9) .skip
 (.exit 0))
 (.seq (.block 1 (.seq (.reg [.s ⟨(some 10), .idx 4 (.t 6) (.t 8), []⟩,
  .s ⟨(some 11), .load true 4 (.t 10), []⟩,
  .s ⟨(some 5), .alloc 48 [(.int .i64 0), (.int .i64 0), (.int .i64 0), (.slice none 0 0)], []⟩,
  .s ⟨none, .store 4 (.t 5) (.t 11), []⟩])
 (.seq (.seq (.reg [.s ⟨(some 12), .faddr 0 (.t 5), []⟩,
  .s ⟨(some 13), .load false 1 (.t 12), []⟩,
  .s ⟨(some 14), .mv (.t 3), []⟩,
  .s ⟨(some 15), .bin .lss (.t 13) (.t 14), []⟩,
  .s ⟨(some 16), .mv (.t 15), []⟩,
  .g 16 false [⟨(some 17), .faddr 1 (.t 5), []⟩,
   ⟨(some 18), .load false 1 (.t 17), []⟩,
   ⟨(some 19), .faddr 0 (.t 5), []⟩,
   ⟨(some 20), .load false 1 (.t 19), []⟩,
   ⟨(some 21), .bin .leq (.t 18) (.t 20), []⟩],
  .s ⟨(some 22), .pick (.t 16) (.c (.bool true)) (.t 21), []⟩,
  .s ⟨(some 23), .mv (.t 22), []⟩,
  .g 23 false [⟨(some 24), .faddr 1 (.t 5), []⟩,
   ⟨(some 25), .load false 1 (.t 24), []⟩,
   ⟨(some 26), .bin .gtr (.t 25) (.c (.int .i64 16777216)), []⟩],
  .s ⟨(some 27), .pick (.t 23) (.c (.bool true)) (.t 26), []⟩,
  .s ⟨(some 28), .mv (.t 27), []⟩,
  .g 28 false [⟨(some 29), .faddr 2 (.t 5), []⟩,
   ⟨(some 30), .load false 1 (.t 29), []⟩,
   ⟨(some 31), .bin .lss (.t 30) (.c (.int .i64 0)), []⟩],
  .s ⟨(some 32), .pick (.t 28) (.c (.bool true)) (.t 31), []⟩,
  .s ⟨(some 33), .mv (.t 32), []⟩,
  .g 33 false [⟨(some 34), .faddr 2 (.t 5), []⟩,
   ⟨(some 35), .load false 1 (.t 34), []⟩,
   ⟨(some 36), .bin .gtr (.t 35) (.c (.int .i64 65536)), []⟩],
  .s ⟨(some 37), .pick (.t 33) (.c (.bool true)) (.t 36), []⟩,
  .s ⟨(some 38), .mv (.t 37), []⟩,
  .g 38 false [⟨(some 39), .faddr 3 (.t 5), []⟩,
   ⟨(some 40), .load false 1 (.t 39), []⟩,
   ⟨(some 41), .call 28 [(.t 40)], []⟩,
   ⟨(some 42), .un .not (.t 41), []⟩],
  .s ⟨(some 43), .pick (.t 38) (.c (.bool true)) (.t 42), []⟩])
 (.cond (.t 43) (.seq (.reg [.s ⟨(some 2), .mv (.c (.bool false)), []⟩])
 .ret)
 .skip))
 (.reg [.s ⟨(some 44), .faddr 1 (.t 5), []⟩,
  .s ⟨(some 45), .load false 1 (.t 44), []⟩,
  .s ⟨(some 3), .mv (.t 45), []⟩]))))
 (.reg [.s ⟨(some 46), .bin .add (.t 8) (.c (.int .i64 1)), []⟩,
  .s ⟨(some 8), .mv (.t 46), []⟩])))))))
 (.seq (.reg [.s ⟨(some 47), .mv (.t 0), []⟩,
  .s ⟨(some 48), .lenL (.t 47), []⟩,
  .s ⟨(some 49), .bin .leq (.t 48) (.c (.int .i64 4000)), []⟩,
  .s ⟨(some 2), .mv (.t 49), []⟩])
 .ret))))⟩
theorem s16 : slimF Try.prog Try.f16 = some a16.fn := by kernel_rfl
def a19 : XFun := ⟨70, [.t 4, .t 5, .t 6],
 (.seq (.reg [.s ⟨(some 4), .mv (.c (.slice none 0 0)), []⟩,
  .s ⟨(some 5), .mv (.c (.int .i64 0)), []⟩,
  .s ⟨(some 6), .mv (.c (.int .i64 0)), []⟩])
 (.seq (.seq (.reg [.s ⟨(some 11), .mv (.t 1), []⟩,
  .s ⟨(some 12), .bin .lss (.t 11) (.c (.int .i64 0)), []⟩,
  .s ⟨(some 13), .mv (.t 12), []⟩,
  .g 13 false [⟨(some 14), .mv (.t 1), []⟩,
   ⟨(some 15), .mv (.t 0), []⟩,
   ⟨(some 16), .lenL (.t 15), []⟩,
   ⟨(some 17), .bin .gtr (.t 14) (.t 16), []⟩],
  .s ⟨(some 18), .pick (.t 13) (.c (.bool true)) (.t 17), []⟩])
 (.cond (.t 18) (.seq (.reg [.s ⟨(some 4), .mv (.c (.slice none 0 0)), []⟩,
  .s ⟨(some 5), .mv (.c (.int .i64 0)), []⟩,
  .s ⟨(some 6), .mv (.c (.int .i64 1)), []⟩])
 .ret)
 .skip))
 (.seq (.reg [.s ⟨(some 19), .mv (.t 0), []⟩,
  .s ⟨(some 20), .mv (.t 1), []⟩,
  .s ⟨(some 21), .build [(.slice none 0 0), (.int .i64 0), (.bool false)] [(0, 1, (.t 19)), (1, 1, (.t 20))], []⟩,
  .s ⟨(some 22), .box 66 (.t 21), []⟩,
  .s ⟨(some 7), .mv (.t 22), []⟩])
 (.seq (.reg [.s ⟨(some 8), .mv (.c (.int .i64 0)), []⟩])
 (.seq (.seq (.reg [.s ⟨(some 23), .mv (.t 7), []⟩,
  .s ⟨(some 24), .call 30 [(.t 23), (.c (.int .i64 4000))], []⟩,
  .s ⟨(some 9), .mv (.t 24), []⟩])
 (.block 0 (.loop (.seq (.seq (.reg [.s ⟨(some 25), .mv (.t 9), []⟩,
  .s ⟨(some 26), .bin .gtr (.t 25) (.c (.int .i64 0)), []⟩,
  .s ⟨(some 27), .mv (.t 26), []⟩,
  .g 27 true [⟨(some 28), .mv (.t 7), []⟩,
   ⟨(some 29), .nilchk (.t 28), []⟩,
   ⟨(some 30), .faddr 2 (.t 29), []⟩,
   ⟨(some 31), .load false 1 (.t 30), []⟩,
   ⟨(some 32), .un .not (.t 31), []⟩],
  .s ⟨(some 33), .pick (.t 27) (.t 32) (.c (.bool false)), []⟩])
 (.cond (.t 33) .skip
 (.exit 0)))
 (.seq (.block 1 (.seq (.reg [.s ⟨(some 36), .mv (.t 7), []⟩,
  .s ⟨(some 37), .mv (.t 8), []⟩,
  .s ⟨(some 38), .call 31 [(.t 36), (.t 37)], []⟩,
  .s ⟨(some 10), .alloc 48 [(.int .i64 0), (.int .i64 0), (.int .i64 0), (.slice none 0 0)], []⟩,
  .s ⟨none, .store 4 (.t 10) (.t 38), []⟩])
 (.seq (.par [.s ⟨(some 39), .mv (.t 4), []⟩,
  .s ⟨(some 40), .load true 4 (.t 10), []⟩,
  .s ⟨(some 43), .faddr 1 (.t 10), []⟩,
  .s ⟨(some 44), .load false 1 (.t 43), []⟩,
  .s ⟨(some 41), .bslice 48 1 [(.int .i64 0), (.int .i64 0), (.int .i64 0), (.slice none 0 0)] [(0, 4, (.t 40))], [⟨none, (some 44), .load false 1 (.t 43)⟩]⟩,
  .s ⟨(some 42), .app 48 4 48 (.t 39) (.t 41), [⟨none, (some 44), .load false 1 (.t 43)⟩]⟩,
  .s ⟨(some 4), .mv (.t 42), [⟨none, (some 44), .load false 1 (.t 43)⟩]⟩,
  .s ⟨(some 8), .mv (.t 44), []⟩])
 (.reg [.s ⟨(some 45), .mv (.t 7), []⟩,
  .s ⟨(some 46), .mv (.t 7), []⟩,
  .s ⟨(some 47), .nilchk (.t 46), []⟩,
  .s ⟨(some 48), .faddr 2 (.t 47), []⟩,
  .s ⟨(some 49), .load false 1 (.t 48), []⟩,
  .s ⟨(some 50), .mv (.t 49), []⟩,
  .g 50 false [⟨(some 51), .mv (.t 8), []⟩,
   ⟨(some 52), .bin .gtr (.t 51) (.c (.int .i64 16777216)), []⟩],
  .s ⟨(some 53), .pick (.t 50) (.c (.bool true)) (.t 52), []⟩,
  .s ⟨(some 54), .nilchk (.t 45), []⟩,
  .s ⟨(some 55), .faddr 2 (.t 54), []⟩,
  .s ⟨none, .store 1 (.t 55) (.t 53), []⟩]))))
 (.reg [.s ⟨(some 34), .mv (.t 9), []⟩,
  .s ⟨(some 35), .bin .sub (.t 34) (.c (.int .i64 1)), []⟩,
  .s ⟨(some 9), .mv (.t 35), []⟩]))))))
 (.seq (.seq (.reg [.s ⟨(some 56), .mv (.t 7), []⟩,
  .s ⟨(some 57), .nilchk (.t 56), []⟩,
  .s ⟨(some 58), .faddr 2 (.t 57), []⟩,
  .s ⟨(some 59), .load false 1 (.t 58), []⟩,
  .s ⟨(some 60), .mv (.t 59), []⟩,
  .g 60 false [⟨(some 61), .mv (.t 4), []⟩,
   ⟨(some 62), .call 16 [(.t 61)], []⟩,
   ⟨(some 63), .un .not (.t 62), []⟩],
  .s ⟨(some 64), .pick (.t 60) (.c (.bool true)) (.t 63), []⟩])
 (.cond (.t 64) (.seq (.reg [.s ⟨(some 4), .mv (.c (.slice none 0 0)), []⟩,
  .s ⟨(some 5), .mv (.c (.int .i64 0)), []⟩,
  .s ⟨(some 6), .mv (.c (.int .i64 5)), []⟩])
 .ret)
 .skip))
 (.seq (.par [.s ⟨(some 65), .mv (.t 4), []⟩,
  .s ⟨(some 66), .mv (.t 7), []⟩,
  .s ⟨(some 67), .nilchk (.t 66), []⟩,
  .s ⟨(some 68), .faddr 1 (.t 67), []⟩,
  .s ⟨(some 69), .load false 1 (.t 68), []⟩,
  .s ⟨(some 4), .mv (.t 65), [⟨none, (some 69), .load false 1 (.t 68)⟩]⟩,
  .s ⟨(some 5), .mv (.t 69), []⟩,
  .s ⟨(some 6), .mv (.c (.int .i64 0)), []⟩])
 .ret)))))))⟩
theorem s19 : slimF Try.prog Try.f19 = some a19.fn := by kernel_rfl
def a22 : XFun := ⟨44, [.c 6 true 4, .t 7],
 (.seq (.reg [.s ⟨(some 5), .box 28 (.t 2), []⟩,
  .s ⟨(some 6), .alloc 28 [(.slice none 0 0), (.slice none 0 0), (.int .i64 0), (.slice none 0 0)], []⟩,
  .s ⟨(some 7), .mv (.c (.int .i64 0)), []⟩])
 (.seq (.reg [.s ⟨(some 13), .mv (.t 0), []⟩,
  .s ⟨(some 14), .mv (.t 1), []⟩,
  .s ⟨(some 15), .call 33 [(.t 13), (.t 14)], []⟩,
  .s ⟨(some 12), .mv (.t 15), []⟩,
  .s ⟨(some 16), .ext 0 (.t 12), []⟩,
  .s ⟨(some 17), .ext 1 (.t 12), []⟩,
  .s ⟨(some 8), .alloc 48 [(.int .i64 0), (.int .i64 0), (.int .i64 0), (.slice none 0 0)], []⟩,
  .s ⟨none, .store 4 (.t 8) (.t 16), []⟩,
  .s ⟨(some 9), .mv (.t 17), []⟩])
 (.seq (.reg [.s ⟨(some 19), .load true 4 (.t 5), []⟩,
  .s ⟨(some 20), .call 34 [(.t 19), (.c (.int .i64 15))], []⟩,
  .s ⟨(some 18), .mv (.t 20), []⟩,
  .s ⟨(some 21), .ext 0 (.t 18), []⟩,
  .s ⟨(some 22), .ext 1 (.t 18), []⟩,
  .s ⟨(some 10), .mv (.t 21), []⟩,
  .s ⟨(some 11), .mv (.t 22), []⟩])
 (.seq (.seq (.reg [.s ⟨(some 23), .mv (.t 9), []⟩,
  .s ⟨(some 24), .un .not (.t 23), []⟩,
  .s ⟨(some 25), .mv (.t 24), []⟩,
  .g 25 false [⟨(some 26), .mv (.t 11), []⟩,
   ⟨(some 27), .un .not (.t 26), []⟩],
  .s ⟨(some 28), .pick (.t 25) (.c (.bool true)) (.t 27), []⟩])
 (.cond (.t 28) (.seq (.reg [.s ⟨(some 29), .build [(.slice none 0 0), (.slice none 0 0), (.int .i64 0), (.slice none 0 0)] [], []⟩,
  .s ⟨none, .store 4 (.t 6) (.t 29), []⟩,
  .s ⟨(some 7), .mv (.c (.int .i64 4)), []⟩])
 .ret)
 .skip))
 (.seq (.par [.s ⟨(some 30), .faddr 0 (.t 5), []⟩,
  .s ⟨(some 31), .load false 1 (.t 30), []⟩,
  .s ⟨(some 33), .faddr 1 (.t 5), []⟩,
  .s ⟨(some 34), .load false 1 (.t 33), []⟩,
  .s ⟨(some 36), .mv (.t 10), []⟩,
  .s ⟨(some 37), .faddr 2 (.t 8), []⟩,
  .s ⟨(some 38), .load false 1 (.t 37), []⟩,
  .s ⟨(some 39), .bin .add (.t 36) (.t 38), []⟩,
  .s ⟨(some 40), .faddr 3 (.t 5), []⟩,
  .s ⟨(some 41), .load false 1 (.t 40), []⟩,
  .s ⟨(some 32), .call 35 [(.t 31)], [⟨none, (some 41), .load false 1 (.t 40)⟩, ⟨none, (some 38), .load false 1 (.t 37)⟩, ⟨none, (some 34), .load false 1 (.t 33)⟩]⟩,
  .s ⟨(some 35), .call 36 [(.t 34)], [⟨none, (some 41), .load false 1 (.t 40)⟩, ⟨none, (some 38), .load false 1 (.t 37)⟩]⟩,
  .s ⟨(some 42), .call 36 [(.t 41)], [⟨none, (some 38), .load false 1 (.t 37)⟩]⟩,
  .s ⟨(some 43), .build [(.slice none 0 0), (.slice none 0 0), (.int .i64 0), (.slice none 0 0)] [(0, 1, (.t 32)), (1, 1, (.t 35)), (2, 1, (.t 39)), (3, 1, (.t 42))], []⟩,
  .s ⟨none, .store 4 (.t 6) (.t 43), []⟩,
  .s ⟨(some 7), .mv (.c (.int .i64 0)), []⟩])
 .ret)))))⟩
theorem s22 : slimF Try.prog Try.f22 = some a22.fn := by kernel_rfl
def a23 : XFun := ⟨126, [.t 6, .c 7 true 4, .t 8],
 (.seq (.reg [.s ⟨(some 5), .box 28 (.t 2), []⟩,
  .s ⟨(some 6), .mv (.c (.int .i64 0)), []⟩,
  .s ⟨(some 7), .alloc 28 [(.slice none 0 0), (.slice none 0 0), (.int .i64 0), (.slice none 0 0)], []⟩,
  .s ⟨(some 8), .mv (.c (.int .i64 0)), []⟩])
 (.seq (.reg [.s ⟨(some 21), .mv (.t 0), []⟩,
  .s ⟨(some 22), .mv (.t 1), []⟩,
  .s ⟨(some 23), .load true 4 (.t 5), []⟩,
  .s ⟨(some 24), .call 22 [(.t 21), (.t 22), (.t 23)], []⟩,
  .s ⟨(some 20), .mv (.t 24), []⟩,
  .s ⟨(some 25), .ext 0 (.t 20), []⟩,
  .s ⟨(some 26), .ext 1 (.t 20), []⟩,
  .s ⟨(some 9), .alloc 28 [(.slice none 0 0), (.slice none 0 0), (.int .i64 0), (.slice none 0 0)], []⟩,
  .s ⟨none, .store 4 (.t 9) (.t 25), []⟩,
  .s ⟨(some 8), .mv (.t 26), []⟩])
 (.seq (.seq (.reg [.s ⟨(some 27), .mv (.t 8), []⟩,
  .s ⟨(some 28), .bin .neq (.t 27) (.c (.int .i64 0)), []⟩])
 (.cond (.t 28) (.seq (.par [.s ⟨(some 29), .load true 4 (.t 7), []⟩,
  .s ⟨(some 30), .mv (.t 8), []⟩,
  .s ⟨(some 6), .mv (.c (.int .i64 0)), []⟩,
  .s ⟨none, .store 4 (.t 7) (.t 29), []⟩,
  .s ⟨(some 8), .mv (.t 30), []⟩])
 .ret)
 .skip))
 (.seq (.reg [.s ⟨(some 32), .mv (.t 0), []⟩,
  .s ⟨(some 33), .mv (.t 1), []⟩,
  .s ⟨(some 34), .call 33 [(.t 32), (.t 33)], []⟩,
  .s ⟨(some 31), .mv (.t 34), []⟩,
  .s ⟨(some 35), .ext 0 (.t 31), []⟩,
  .s ⟨(some 36), .ext 1 (.t 31), []⟩,
  .s ⟨(some 10), .alloc 48 [(.int .i64 0), (.int .i64 0), (.int .i64 0), (.slice none 0 0)], []⟩,
  .s ⟨none, .store 4 (.t 10) (.t 35), []⟩,
  .s ⟨(some 11), .mv (.t 36), []⟩])
 (.seq (.seq (.reg [.s ⟨(some 37), .load true 4 (.t 10), []⟩,
  .s ⟨(some 38), .bslice 48 1 [(.int .i64 0), (.int .i64 0), (.int .i64 0), (.slice none 0 0)] [(0, 4, (.t 37))], []⟩,
  .s ⟨(some 39), .call 16 [(.t 38)], []⟩,
  .s ⟨(some 40), .un .not (.t 39), []⟩])
 (.cond (.t 40) (.seq (.par [.s ⟨(some 41), .load true 4 (.t 7), []⟩,
  .s ⟨(some 6), .mv (.c (.int .i64 0)), []⟩,
  .s ⟨none, .store 4 (.t 7) (.t 41), []⟩,
  .s ⟨(some 8), .mv (.c (.int .i64 1)), []⟩])
 .ret)
 .skip))
 (.seq (.reg [.s ⟨(some 43), .load true 4 (.t 5), []⟩,
  .s ⟨(some 44), .faddr 2 (.t 9), []⟩,
  .s ⟨(some 45), .load false 1 (.t 44), []⟩,
  .s ⟨(some 46), .bin .sub (.t 45) (.c (.int .i64 1)), []⟩,
  .s ⟨(some 47), .call 37 [(.t 43), (.t 46)], []⟩,
  .s ⟨(some 42), .mv (.t 47), []⟩,
  .s ⟨(some 48), .ext 0 (.t 42), []⟩,
  .s ⟨(some 49), .ext 1 (.t 42), []⟩,
  .s ⟨(some 12), .mv (.t 48), []⟩,
  .s ⟨(some 13), .mv (.t 49), []⟩])
 (.seq (.seq (.reg [.s ⟨(some 50), .mv (.t 13), []⟩,
  .s ⟨(some 51), .un .not (.t 50), []⟩,
  .s ⟨(some 52), .mv (.t 51), []⟩,
  .g 52 false [⟨(some 53), .mv (.t 12), []⟩,
   ⟨(some 54), .bin .lss (.t 53) (.c (.int .i64 0)), []⟩],
  .s ⟨(some 55), .pick (.t 52) (.c (.bool true)) (.t 54), []⟩,
  .s ⟨(some 56), .mv (.t 55), []⟩,
  .g 56 false [⟨(some 57), .mv (.t 12), []⟩,
   ⟨(some 58), .bin .geq (.t 57) (.c (.int .i64 16777216)), []⟩],
  .s ⟨(some 59), .pick (.t 56) (.c (.bool true)) (.t 58), []⟩])
 (.cond (.t 59) (.seq (.par [.s ⟨(some 60), .load true 4 (.t 7), []⟩,
  .s ⟨(some 6), .mv (.c (.int .i64 0)), []⟩,
  .s ⟨none, .store 4 (.t 7) (.t 60), []⟩,
  .s ⟨(some 8), .mv (.c (.int .i64 4)), []⟩])
 .ret)
 .skip))
 (.seq (.parT (.quiet ⟨none, (some 63), .faddr 3 (.t 9)⟩
  (.quiet ⟨none, (some 64), .load false 1 (.t 63)⟩
  (.both (.eff ⟨none, (some 61), .mkslice 4 1 1 [(.bool false)] (.c (.int .i64 16)) (.c (.int .i64 16))⟩ [⟨none, (some 64), .load false 1 (.t 63)⟩]
  (.both (.eff ⟨none, (some 62), .mkslice 2 1 8 [(.int .i64 0)] (.c (.int .i64 16)) (.c (.int .i64 16))⟩ [⟨none, (some 64), .load false 1 (.t 63)⟩]
  (.quiet ⟨none, (some 65), .build [(.slice none 0 0), (.slice none 0 0), (.int .i64 0), (.slice none 0 0)] [(0, 1, (.t 61)), (1, 1, (.t 62)), (3, 1, (.t 64))]⟩
  (.eff ⟨none, (some 14), .alloc 28 [(.slice none 0 0), (.slice none 0 0), (.int .i64 0), (.slice none 0 0)]⟩ [⟨none, (some 64), .load false 1 (.t 63)⟩]
  (.eff ⟨none, none, .store 4 (.t 14) (.t 65)⟩ []
  .done))))
  (.eff ⟨none, (some 14), .alloc 28 [(.slice none 0 0), (.slice none 0 0), (.int .i64 0), (.slice none 0 0)]⟩ [⟨none, (some 64), .load false 1 (.t 63)⟩]
  (.eff ⟨none, (some 62), .mkslice 2 1 8 [(.int .i64 0)] (.c (.int .i64 16)) (.c (.int .i64 16))⟩ [⟨none, (some 64), .load false 1 (.t 63)⟩]
  (.quiet ⟨none, (some 65), .build [(.slice none 0 0), (.slice none 0 0), (.int .i64 0), (.slice none 0 0)] [(0, 1, (.t 61)), (1, 1, (.t 62)), (3, 1, (.t 64))]⟩
  (.eff ⟨none, none, .store 4 (.t 14) (.t 65)⟩ []
  .done))))))
  (.both (.eff ⟨none, (some 62), .mkslice 2 1 8 [(.int .i64 0)] (.c (.int .i64 16)) (.c (.int .i64 16))⟩ [⟨none, (some 64), .load false 1 (.t 63)⟩]
  (.both (.eff ⟨none, (some 61), .mkslice 4 1 1 [(.bool false)] (.c (.int .i64 16)) (.c (.int .i64 16))⟩ [⟨none, (some 64), .load false 1 (.t 63)⟩]
  (.quiet ⟨none, (some 65), .build [(.slice none 0 0), (.slice none 0 0), (.int .i64 0), (.slice none 0 0)] [(0, 1, (.t 61)), (1, 1, (.t 62)), (3, 1, (.t 64))]⟩
  (.eff ⟨none, (some 14), .alloc 28 [(.slice none 0 0), (.slice none 0 0), (.int .i64 0), (.slice none 0 0)]⟩ [⟨none, (some 64), .load false 1 (.t 63)⟩]
  (.eff ⟨none, none, .store 4 (.t 14) (.t 65)⟩ []
  .done))))
  (.eff ⟨none, (some 14), .alloc 28 [(.slice none 0 0), (.slice none 0 0), (.int .i64 0), (.slice none 0 0)]⟩ [⟨none, (some 64), .load false 1 (.t 63)⟩]
  (.eff ⟨none, (some 61), .mkslice 4 1 1 [(.bool false)] (.c (.int .i64 16)) (.c (.int .i64 16))⟩ [⟨none, (some 64), .load false 1 (.t 63)⟩]
  (.quiet ⟨none, (some 65), .build [(.slice none 0 0), (.slice none 0 0), (.int .i64 0), (.slice none 0 0)] [(0, 1, (.t 61)), (1, 1, (.t 62)), (3, 1, (.t 64))]⟩
  (.eff ⟨none, none, .store 4 (.t 14) (.t 65)⟩ []
  .done))))))
  (.eff ⟨none, (some 14), .alloc 28 [(.slice none 0 0), (.slice none 0 0), (.int .i64 0), (.slice none 0 0)]⟩ [⟨none, (some 64), .load false 1 (.t 63)⟩]
  (.both (.eff ⟨none, (some 61), .mkslice 4 1 1 [(.bool false)] (.c (.int .i64 16)) (.c (.int .i64 16))⟩ [⟨none, (some 64), .load false 1 (.t 63)⟩]
  (.eff ⟨none, (some 62), .mkslice 2 1 8 [(.int .i64 0)] (.c (.int .i64 16)) (.c (.int .i64 16))⟩ [⟨none, (some 64), .load false 1 (.t 63)⟩]
  (.quiet ⟨none, (some 65), .build [(.slice none 0 0), (.slice none 0 0), (.int .i64 0), (.slice none 0 0)] [(0, 1, (.t 61)), (1, 1, (.t 62)), (3, 1, (.t 64))]⟩
  (.eff ⟨none, none, .store 4 (.t 14) (.t 65)⟩ []
  .done))))
  (.eff ⟨none, (some 62), .mkslice 2 1 8 [(.int .i64 0)] (.c (.int .i64 16)) (.c (.int .i64 16))⟩ [⟨none, (some 64), .load false 1 (.t 63)⟩]
  (.eff ⟨none, (some 61), .mkslice 4 1 1 [(.bool false)] (.c (.int .i64 16)) (.c (.int .i64 16))⟩ [⟨none, (some 64), .load false 1 (.t 63)⟩]
  (.quiet ⟨none, (some 65), .build [(.slice none 0 0), (.slice none 0 0), (.int .i64 0), (.slice none 0 0)] [(0, 1, (.t 61)), (1, 1, (.t 62)), (3, 1, (.t 64))]⟩
  (.eff ⟨none, none, .store 4 (.t 14) (.t 65)⟩ []
  .done)))))))))))
 (.seq (.seq (.reg [.s ⟨(some 15), .mv (.c (.int .i64 6)), []⟩])
 (.block 0 (.loop (.seq (.seq (.reg [.s ⟨(some 66), .mv (.t 15), []⟩,
  .s ⟨(some 67), .bin .leq (.t 66) (.c (.int .i64 11)), []⟩])
 (.cond (.t 67) .skip
 (.exit 0)))
 (.seq (.block 1 (.par [.s ⟨(some 71), .faddr 1 (.t 14), []⟩,
  .s ⟨(some 72), .load false 1 (.t 71), []⟩,
  .s ⟨(some 73), .mv (.t 15), []⟩,
  .s ⟨(some 74), .faddr 0 (.t 14), []⟩,
  .s ⟨(some 75), .load false 1 (.t 74), []⟩,
  .s ⟨(some 76), .mv (.t 15), []⟩,
  .s ⟨(some 77), .load true 4 (.t 5), []⟩,
  .s ⟨(some 78), .mv (.t 15), []⟩,
  .s ⟨(some 79), .call 34 [(.t 77), (.t 78)], [⟨none, (some 75), .load false 1 (.t 74)⟩, ⟨none, (some 72), .load false 1 (.t 71)⟩]⟩,
  .s ⟨(some 70), .mv (.t 79), []⟩,
  .s ⟨(some 80), .ext 0 (.t 70), []⟩,
  .s ⟨(some 81), .ext 1 (.t 70), []⟩,
  .s ⟨(some 82), .idx 1 (.t 72) (.t 73), []⟩,
  .s ⟨none, .store 1 (.t 82) (.t 80), [⟨none, (some 75), .load false 1 (.t 74)⟩]⟩,
  .s ⟨(some 83), .idx 1 (.t 75) (.t 76), []⟩,
  .s ⟨none, .store 1 (.t 83) (.t 81), []⟩]))
 (.reg [.s ⟨(some 68), .mv (.t 15), []⟩,
  .s ⟨(some 69), .bin .add (.t 68) (.c (.int .i64 1)), []⟩,
  .s ⟨(some 15), .mv (.t 69), []⟩]))))))
 (.seq (.par [.s ⟨(some 84), .faddr 1 (.t 14), []⟩,
  .s ⟨(some 85), .load false 1 (.t 84), []⟩,
  .s ⟨(some 86), .faddr 0 (.t 14), []⟩,
  .s ⟨(some 87), .load false 1 (.t 86), []⟩,
  .s ⟨(some 88), .faddr 2 (.t 9), []⟩,
  .s ⟨(some 89), .load false 1 (.t 88), []⟩,
  .s ⟨(some 90), .idx 1 (.t 85) (.c (.int .i64 15)), []⟩,
  .s ⟨none, .store 1 (.t 90) (.t 89), [⟨none, (some 87), .load false 1 (.t 86)⟩]⟩,
  .s ⟨(some 91), .idx 1 (.t 87) (.c (.int .i64 15)), []⟩,
  .s ⟨none, .store 1 (.t 91) (.c (.bool true)), []⟩])
 (.seq (.seq (.reg [.s ⟨(some 92), .faddr 3 (.t 10), []⟩,
  .s ⟨(some 93), .load false 1 (.t 92), []⟩,
  .s ⟨(some 94), .lenL (.t 93), []⟩,
  .s ⟨(some 95), .mv (.c (.int .i64 0)), []⟩])
 (.block 2 (.loop (.seq (.reg [.s ⟨(some 96), .bin .lss (.t 95) (.t 94), []⟩])
 (.seq (.cond (.t 96) .skip
 (.exit 2))
 (.seq (.block 3 (.seq (.reg [.s ⟨(some 97), .idx 2 (.t 93) (.t 95), []⟩,
  .s ⟨(some 98), .load true 2 (.t 97), []⟩,
  .s ⟨(some 17), .alloc 50 [(.int .i64 0), (.int .i64 0)], []⟩,
  .s ⟨none, .store 2 (.t 17) (.t 98), []⟩])
 (.seq (.reg [.s ⟨(some 100), .load true 4 (.t 5), []⟩,
  .s ⟨(some 101), .faddr 2 (.t 9), []⟩,
  .s ⟨(some 102), .load false 1 (.t 101), []⟩,
  .s ⟨(some 103), .faddr 1 (.t 17), []⟩,
  .s ⟨(some 104), .load false 1 (.t 103), []⟩,
  .s ⟨(some 105), .bin .add (.t 102) (.t 104), []⟩,
  .s ⟨(some 106), .call 37 [(.t 100), (.t 105)], []⟩,
  .s ⟨(some 99), .mv (.t 106), []⟩,
  .s ⟨(some 107), .ext 0 (.t 99), []⟩,
  .s ⟨(some 108), .ext 1 (.t 99), []⟩,
  .s ⟨(some 18), .mv (.t 107), []⟩,
  .s ⟨(some 19), .mv (.t 108), []⟩])
 (.seq (.seq (.reg [.s ⟨(some 109), .mv (.t 19), []⟩,
  .s ⟨(some 110), .un .not (.t 109), []⟩])
 (.cond (.t 110) (.seq (.par [.s ⟨(some 111), .load true 4 (.t 7), []⟩,
  .s ⟨(some 6), .mv (.c (.int .i64 0)), []⟩,
  .s ⟨none, .store 4 (.t 7) (.t 111), []⟩,
  .s ⟨(some 8), .mv (.c (.int .i64 4)), []⟩])
 .ret)
 .skip))
 (.par [.s ⟨(some 112), .faddr 1 (.t 14), []⟩,
  .s ⟨(some 113), .load false 1 (.t 112), []⟩,
  .s ⟨(some 114), .faddr 0 (.t 17), []⟩,
  .s ⟨(some 115), .load false 1 (.t 114), []⟩,
  .s ⟨(some 116), .faddr 0 (.t 14), []⟩,
  .s ⟨(some 117), .load false 1 (.t 116), []⟩,
  .s ⟨(some 118), .faddr 0 (.t 17), []⟩,
  .s ⟨(some 119), .load false 1 (.t 118), []⟩,
  .s ⟨(some 120), .mv (.t 18), []⟩,
  .s ⟨(some 121), .idx 1 (.t 113) (.t 115), []⟩,
  .s ⟨none, .store 1 (.t 121) (.t 120), [⟨none, (some 119), .load false 1 (.t 118)⟩, ⟨none, (some 117), .load false 1 (.t 116)⟩]⟩,
  .s ⟨(some 122), .idx 1 (.t 117) (.t 119), []⟩,
  .s ⟨none, .store 1 (.t 122) (.c (.bool true)), []⟩])))))
 (.reg [.s ⟨(some 123), .bin .add (.t 95) (.c (.int .i64 1)), []⟩,
  .s ⟨(some 95), .mv (.t 123), []⟩])))))))
 (.seq (.par [.s ⟨(some 124), .mv (.t 12), []⟩,
  .s ⟨(some 125), .load true 4 (.t 14), []⟩,
  .s ⟨(some 6), .mv (.t 124), []⟩,
  .s ⟨none, .store 4 (.t 7) (.t 125), []⟩,
  .s ⟨(some 8), .mv (.c (.int .i64 0)), []⟩])
 .ret))))))))))))⟩
theorem s23 : slimF Try.prog Try.f23 = some a23.fn := by kernel_rfl
def a24 : XFun := ⟨35, [.c 4 true 4],
 (.seq (.reg [.s ⟨(some 4), .alloc 28 [(.slice none 0 0), (.slice none 0 0), (.int .i64 0), (.slice none 0 0)], []⟩])
 (.seq (.parT (.both (.eff ⟨none, (some 8), .mkslice 4 1 1 [(.bool false)] (.c (.int .i64 16)) (.c (.int .i64 16))⟩ []
  (.both (.eff ⟨none, (some 9), .mkslice 2 1 8 [(.int .i64 0)] (.c (.int .i64 16)) (.c (.int .i64 16))⟩ []
  (.quiet ⟨none, (some 10), .build [(.slice none 0 0), (.slice none 0 0), (.int .i64 0), (.slice none 0 0)] [(0, 1, (.t 8)), (1, 1, (.t 9))]⟩
  (.eff ⟨none, (some 5), .alloc 28 [(.slice none 0 0), (.slice none 0 0), (.int .i64 0), (.slice none 0 0)]⟩ []
  (.eff ⟨none, none, .store 4 (.t 5) (.t 10)⟩ []
  .done))))
  (.eff ⟨none, (some 5), .alloc 28 [(.slice none 0 0), (.slice none 0 0), (.int .i64 0), (.slice none 0 0)]⟩ []
  (.eff ⟨none, (some 9), .mkslice 2 1 8 [(.int .i64 0)] (.c (.int .i64 16)) (.c (.int .i64 16))⟩ []
  (.quiet ⟨none, (some 10), .build [(.slice none 0 0), (.slice none 0 0), (.int .i64 0), (.slice none 0 0)] [(0, 1, (.t 8)), (1, 1, (.t 9))]⟩
  (.eff ⟨none, none, .store 4 (.t 5) (.t 10)⟩ []
  .done))))))
  (.both (.eff ⟨none, (some 9), .mkslice 2 1 8 [(.int .i64 0)] (.c (.int .i64 16)) (.c (.int .i64 16))⟩ []
  (.both (.eff ⟨none, (some 8), .mkslice 4 1 1 [(.bool false)] (.c (.int .i64 16)) (.c (.int .i64 16))⟩ []
  (.quiet ⟨none, (some 10), .build [(.slice none 0 0), (.slice none 0 0), (.int .i64 0), (.slice none 0 0)] [(0, 1, (.t 8)), (1, 1, (.t 9))]⟩
  (.eff ⟨none, (some 5), .alloc 28 [(.slice none 0 0), (.slice none 0 0), (.int .i64 0), (.slice none 0 0)]⟩ []
  (.eff ⟨none, none, .store 4 (.t 5) (.t 10)⟩ []
  .done))))
  (.eff ⟨none, (some 5), .alloc 28 [(.slice none 0 0), (.slice none 0 0), (.int .i64 0), (.slice none 0 0)]⟩ []
  (.eff ⟨none, (some 8), .mkslice 4 1 1 [(.bool false)] (.c (.int .i64 16)) (.c (.int .i64 16))⟩ []
  (.quiet ⟨none, (some 10), .build [(.slice none 0 0), (.slice none 0 0), (.int .i64 0), (.slice none 0 0)] [(0, 1, (.t 8)), (1, 1, (.t 9))]⟩
  (.eff ⟨none, none, .store 4 (.t 5) (.t 10)⟩ []
  .done))))))
  (.eff ⟨none, (some 5), .alloc 28 [(.slice none 0 0), (.slice none 0 0), (.int .i64 0), (.slice none 0 0)]⟩ []
  (.both (.eff ⟨none, (some 8), .mkslice 4 1 1 [(.bool false)] (.c (.int .i64 16)) (.c (.int .i64 16))⟩ []
  (.eff ⟨none, (some 9), .mkslice 2 1 8 [(.int .i64 0)] (.c (.int .i64 16)) (.c (.int .i64 16))⟩ []
  (.quiet ⟨none, (some 10), .build [(.slice none 0 0), (.slice none 0 0), (.int .i64 0), (.slice none 0 0)] [(0, 1, (.t 8)), (1, 1, (.t 9))]⟩
  (.eff ⟨none, none, .store 4 (.t 5) (.t 10)⟩ []
  .done))))
  (.eff ⟨none, (some 9), .mkslice 2 1 8 [(.int .i64 0)] (.c (.int .i64 16)) (.c (.int .i64 16))⟩ []
  (.eff ⟨none, (some 8), .mkslice 4 1 1 [(.bool false)] (.c (.int .i64 16)) (.c (.int .i64 16))⟩ []
  (.quiet ⟨none, (some 10), .build [(.slice none 0 0), (.slice none 0 0), (.int .i64 0), (.slice none 0 0)] [(0, 1, (.t 8)), (1, 1, (.t 9))]⟩
  (.eff ⟨none, none, .store 4 (.t 5) (.t 10)⟩ []
  .done)))))))))
 (.seq (.seq (.reg [.s ⟨(some 6), .mv (.c (.int .i64 0)), []⟩])
 (.block 0 (.loop (.seq (.seq (.reg [.s ⟨(some 11), .mv (.t 6), []⟩,
  .s ⟨(some 12), .bin .lss (.t 11) (.c (.int .i64 16)), []⟩])
 (.cond (.t 12) .skip
 (.exit 0)))
 (.seq (.block 1 (.reg [.s ⟨(some 15), .faddr 0 (.t 5), []⟩,
  .s ⟨(some 16), .load false 1 (.t 15), []⟩,
  .s ⟨(some 17), .mv (.t 6), []⟩,
  .s ⟨(some 18), .idx 1 (.t 16) (.t 17), []⟩,
  .s ⟨none, .store 1 (.t 18) (.c (.bool true)), []⟩]))
 (.reg [.s ⟨(some 13), .mv (.t 6), []⟩,
  .s ⟨(some 14), .bin .add (.t 13) (.c (.int .i64 1)), []⟩,
  .s ⟨(some 6), .mv (.t 14), []⟩]))))))
 (.seq (.seq (.reg [.s ⟨(some 7), .mv (.c (.int .i64 0)), []⟩])
 (.block 2 (.loop (.seq (.seq (.reg [.s ⟨(some 19), .mv (.t 7), []⟩,
  .s ⟨(some 20), .mv (.t 0), []⟩,
  .s ⟨(some 21), .bin .lss (.t 19) (.t 20), []⟩])
 (.cond (.t 21) .skip
 (.exit 2)))
 (.seq (.block 3 (.reg [.s ⟨(some 24), .faddr 3 (.t 5), []⟩,
  .s ⟨(some 25), .load false 1 (.t 24), []⟩,
  .s ⟨(some 26), .mv (.t 7), []⟩,
  .s ⟨(some 27), .bslice 2 1 [(.int .i64 0)] [(0, 1, (.t 26))], []⟩,
  .s ⟨(some 28), .app 2 1 8 (.t 25) (.t 27), []⟩,
  .s ⟨(some 29), .faddr 3 (.t 5), []⟩,
  .s ⟨none, .store 1 (.t 29) (.t 28), []⟩]))
 (.reg [.s ⟨(some 22), .mv (.t 7), []⟩,
  .s ⟨(some 23), .bin .add (.t 22) (.c (.int .i64 1)), []⟩,
  .s ⟨(some 7), .mv (.t 23), []⟩]))))))
 (.seq (.reg [.s ⟨(some 30), .faddr 1 (.t 5), []⟩,
  .s ⟨(some 31), .load false 1 (.t 30), []⟩,
  .s ⟨(some 32), .mv (.t 1), []⟩,
  .s ⟨(some 33), .idx 1 (.t 31) (.c (.int .i64 15)), []⟩,
  .s ⟨none, .store 1 (.t 33) (.t 32), []⟩])
 (.seq (.reg [.s ⟨(some 34), .load true 4 (.t 5), []⟩,
  .s ⟨none, .store 4 (.t 4) (.t 34), []⟩])
 .ret))))))⟩
theorem s24 : slimF Try.prog Try.f24 = some a24.fn := by kernel_rfl
def a25 : XFun := ⟨19, [.t 4],
 (.seq (.reg [.s ⟨(some 4), .mv (.c (.slice none 0 0)), []⟩])
 (.seq (.seq (.reg [.s ⟨(some 7), .mv (.t 1), []⟩,
  .s ⟨(some 8), .lenL (.t 7), []⟩,
  .s ⟨(some 9), .mv (.c (.int .i64 0)), []⟩])
 (.block 0 (.loop (.seq (.reg [.s ⟨(some 10), .bin .lss (.t 9) (.t 8), []⟩])
 (.seq (.cond (.t 10) .skip
 (.exit 0))
 (.seq (.block 1 (.seq (.reg [.s ⟨(some 11), .idx 1 (.t 7) (.t 9), []⟩,
  .s ⟨(some 12), .load false 1 (.t 11), []⟩,
  .s ⟨(some 6), .mv (.t 12), []⟩])
 (.reg [.s ⟨(some 13), .mv (.t 0), []⟩,
  .s ⟨(some 14), .mv (.t 6), []⟩,
  .s ⟨(some 15), .cint .u64 (.t 14), []⟩,
  .s ⟨(some 16), .call 38 [(.t 13), (.t 15)], []⟩,
  .s ⟨(some 0), .mv (.t 16), []⟩])))
 (.reg [.s ⟨(some 17), .bin .add (.t 9) (.c (.int .i64 1)), []⟩,
  .s ⟨(some 9), .mv (.t 17), []⟩])))))))
 (.seq (.reg [.s ⟨(some 18), .mv (.t 0), []⟩,
  .s ⟨(some 4), .mv (.t 18), []⟩])
 .ret)))⟩
theorem s25 : slimF Try.prog Try.f25 = some a25.fn := by kernel_rfl
def a26 : XFun := ⟨16, [.t 4],
 (.seq (.reg [.s ⟨(some 4), .mv (.c (.slice none 0 0)), []⟩])
 (.seq (.reg [.s ⟨(some 5), .mv (.c (.int .i64 1)), []⟩])
 (.seq (.block 0 (.loop (.seq (.seq (.reg [.s ⟨(some 6), .mv (.t 1), []⟩,
  .s ⟨(some 7), .mv (.t 5), []⟩,
  .s ⟨(some 8), .call 39 [(.t 6), (.t 7)], []⟩,
  .s ⟨(some 9), .un .not (.t 8), []⟩])
 (.cond (.t 9) .skip
 (.exit 0)))
 (.block 1 (.reg [.s ⟨(some 10), .mv (.t 5), []⟩,
  .s ⟨(some 11), .bin .add (.t 10) (.c (.int .i64 1)), []⟩,
  .s ⟨(some 5), .mv (.t 11), []⟩])))))
 (.seq (.reg [.s ⟨(some 12), .mv (.t 0), []⟩,
  .s ⟨(some 13), .mv (.t 1), []⟩,
  .s ⟨(some 14), .mv (.t 5), []⟩,
  .s ⟨(some 15), .call 40 [(.t 12), (.t 13), (.c (.bool false)), (.t 14)], []⟩,
  .s ⟨(some 4), .mv (.t 15), []⟩])
 .ret))))⟩
def a27 : XFun := ⟨52, [.t 4],
 (.seq (.reg [.s ⟨(some 2), .box 48 (.t 0), []⟩,
  .s ⟨(some 3), .box 48 (.t 1), []⟩,
  .s ⟨(some 4), .mv (.c (.bool false)), []⟩])
 (.seq (.seq (.reg [.s ⟨(some 6), .faddr 0 (.t 2), []⟩,
  .s ⟨(some 7), .load false 1 (.t 6), []⟩,
  .s ⟨(some 8), .faddr 0 (.t 3), []⟩,
  .s ⟨(some 9), .load false 1 (.t 8), []⟩,
  .s ⟨(some 10), .bin .neq (.t 7) (.t 9), []⟩,
  .s ⟨(some 11), .mv (.t 10), []⟩,
  .g 11 false [⟨(some 12), .faddr 1 (.t 2), []⟩,
   ⟨(some 13), .load false 1 (.t 12), []⟩,
   ⟨(some 14), .faddr 1 (.t 3), []⟩,
   ⟨(some 15), .load false 1 (.t 14), []⟩,
   ⟨(some 16), .bin .neq (.t 13) (.t 15), []⟩],
  .s ⟨(some 17), .pick (.t 11) (.c (.bool true)) (.t 16), []⟩,
  .s ⟨(some 18), .mv (.t 17), []⟩,
  .g 18 false [⟨(some 19), .faddr 2 (.t 2), []⟩,
   ⟨(some 20), .load false 1 (.t 19), []⟩,
   ⟨(some 21), .faddr 2 (.t 3), []⟩,
   ⟨(some 22), .load false 1 (.t 21), []⟩,
   ⟨(some 23), .bin .neq (.t 20) (.t 22), []⟩],
  .s ⟨(some 24), .pick (.t 18) (.c (.bool true)) (.t 23), []⟩,
  .s ⟨(some 25), .mv (.t 24), []⟩,
  .g 25 false [⟨(some 26), .faddr 3 (.t 2), []⟩,
   ⟨(some 27), .load false 1 (.t 26), []⟩,
   ⟨(some 28), .lenL (.t 27), []⟩,
   ⟨(some 29), .faddr 3 (.t 3), []⟩,
   ⟨(some 30), .load false 1 (.t 29), []⟩,
   ⟨(some 31), .lenL (.t 30), []⟩,
   ⟨(some 32), .bin .neq (.t 28) (.t 31), []⟩],
  .s ⟨(some 33), .pick (.t 25) (.c (.bool true)) (.t 32), []⟩])
 (.cond (.t 33) (.seq (.reg [.s ⟨(some 4), .mv (.c (.bool false)), []⟩])
 .ret)
 .skip))
 (.seq (.seq (.reg [.s ⟨(some 5), .mv (.c (.int .i64 0)), []⟩])
 (.block 0 (.loop (.seq (.seq (.reg [.s ⟨(some 34), .mv (.t 5), []⟩,
  .s ⟨(some 35), .faddr 3 (.t 2), []⟩,
  .s ⟨(some 36), .load false 1 (.t 35), []⟩,
  .s ⟨(some 37), .lenL (.t 36), []⟩,
  .s ⟨(some 38), .bin .lss (.t 34) (.t 37), []⟩])
 (.cond (.t 38) .skip
 (.exit 0)))
 (.seq (.block 1 (.seq (.par [.s ⟨(some 41), .faddr 3 (.t 2), []⟩,
  .s ⟨(some 42), .load false 1 (.t 41), []⟩,
  .s ⟨(some 43), .mv (.t 5), []⟩,
  .s ⟨(some 44), .idx 2 (.t 42) (.t 43), []⟩,
  .s ⟨(some 45), .load true 2 (.t 44), []⟩,
  .s ⟨(some 46), .faddr 3 (.t 3), []⟩,
  .s ⟨(some 47), .load false 1 (.t 46), []⟩,
  .s ⟨(some 48), .mv (.t 5), []⟩,
  .s ⟨(some 49), .idx 2 (.t 47) (.t 48), []⟩,
  .s ⟨(some 50), .load true 2 (.t 49), []⟩,
  .s ⟨(some 51), .aeq true [0, 0] (.t 45) (.t 50), []⟩])
 (.cond (.t 51) (.seq (.reg [.s ⟨(some 4), .mv (.c (.bool false)), []⟩])
 .ret)
 .skip)))
 (.reg [.s ⟨(some 39), .mv (.t 5), []⟩,
  .s ⟨(some 40), .bin .add (.t 39) (.c (.int .i64 1)), []⟩,
  .s ⟨(some 5), .mv (.t 40), []⟩]))))))
 (.seq (.reg [.s ⟨(some 4), .mv (.c (.bool true)), []⟩])
 .ret))))⟩
theorem s27 : slimF Try.prog Try.f27 = some a27.fn := by kernel_rfl
def a28 : XFun := ⟨34, [.t 2],
 (.seq (.reg [.s ⟨(some 2), .mv (.c (.bool false)), []⟩])
 (.seq (.reg [.s ⟨(some 3), .mv (.c (.int .i64 5)), []⟩])
 (.seq (.seq (.reg [.s ⟨(some 6), .mv (.t 0), []⟩,
  .s ⟨(some 7), .lenL (.t 6), []⟩,
  .s ⟨(some 8), .mv (.c (.int .i64 0)), []⟩])
 (.block 0 (.loop (.seq (.reg [.s ⟨(some 9), .bin .lss (.t 8) (.t 7), []⟩])
 (.seq (.cond (.t 9) .skip
 (.exit 0))
 (.seq (.block 1 (.seq (.reg [.s ⟨(some 10), .idx 2 (.t 6) (.t 8), []⟩,
  .s ⟨(some 11), .load true 2 (.t 10), []⟩,
  .s ⟨(some 5), .alloc 50 [(.int .i64 0), (.int .i64 0)], []⟩,
  .s ⟨none, .store 2 (.t 5) (.t 11), []⟩])
 (.seq (.seq (.reg [.s ⟨(some 12), .faddr 0 (.t 5), []⟩,
  .s ⟨(some 13), .load false 1 (.t 12), []⟩,
  .s ⟨(some 14), .mv (.t 3), []⟩,
  .s ⟨(some 15), .bin .leq (.t 13) (.t 14), []⟩,
  .s ⟨(some 16), .mv (.t 15), []⟩,
  .g 16 false [⟨(some 17), .faddr 0 (.t 5), []⟩,
   ⟨(some 18), .load false 1 (.t 17), []⟩,
   ⟨(some 19), .bin .gtr (.t 18) (.c (.int .i64 11)), []⟩],
  .s ⟨(some 20), .pick (.t 16) (.c (.bool true)) (.t 19), []⟩,
  .s ⟨(some 21), .mv (.t 20), []⟩,
  .g 21 false [⟨(some 22), .faddr 1 (.t 5), []⟩,
   ⟨(some 23), .load false 1 (.t 22), []⟩,
   ⟨(some 24), .bin .gtr (.t 23) (.c (.int .i64 (-2))), []⟩],
  .s ⟨(some 25), .pick (.t 21) (.c (.bool true)) (.t 24), []⟩,
  .s ⟨(some 26), .mv (.t 25), []⟩,
  .g 26 false [⟨(some 27), .faddr 1 (.t 5), []⟩,
   ⟨(some 28), .load false 1 (.t 27), []⟩,
   ⟨(some 29), .bin .lss (.t 28) (.c (.int .i64 (-65536))), []⟩],
  .s ⟨(some 30), .pick (.t 26) (.c (.bool true)) (.t 29), []⟩])
 (.cond (.t 30) (.seq (.reg [.s ⟨(some 2), .mv (.c (.bool false)), []⟩])
 .ret)
 .skip))
 (.reg [.s ⟨(some 31), .faddr 0 (.t 5), []⟩,
  .s ⟨(some 32), .load false 1 (.t 31), []⟩,
  .s ⟨(some 3), .mv (.t 32), []⟩]))))
 (.reg [.s ⟨(some 33), .bin .add (.t 8) (.c (.int .i64 1)), []⟩,
  .s ⟨(some 8), .mv (.t 33), []⟩])))))))
 (.seq (.reg [.s ⟨(some 2), .mv (.c (.bool true)), []⟩])
 .ret))))⟩
theorem s28 : slimF Try.prog Try.f28 = some a28.fn := by kernel_rfl
def a30 : XFun := ⟨44, [.t 4],
 (.seq (.reg [.s ⟨(some 4), .mv (.c (.int .i64 0)), []⟩])
 (.seq (.par [.s ⟨(some 9), .mv (.t 0), []⟩,
  .s ⟨(some 10), .nilchk (.t 9), []⟩,
  .s ⟨(some 11), .faddr 0 (.t 10), []⟩,
  .s ⟨(some 12), .load false 1 (.t 11), []⟩,
  .s ⟨(some 13), .mv (.t 0), []⟩,
  .s ⟨(some 14), .nilchk (.t 13), []⟩,
  .s ⟨(some 15), .faddr 1 (.t 14), []⟩,
  .s ⟨(some 16), .load false 1 (.t 15), []⟩,
  .s ⟨(some 17), .call 41 [(.t 12), (.t 16)], []⟩,
  .s ⟨(some 8), .mv (.t 17), []⟩,
  .s ⟨(some 18), .ext 0 (.t 8), []⟩,
  .s ⟨(some 19), .ext 1 (.t 8), []⟩,
  .s ⟨(some 20), .ext 2 (.t 8), []⟩,
  .s ⟨(some 5), .mv (.t 18), []⟩,
  .s ⟨(some 6), .mv (.t 19), []⟩,
  .s ⟨(some 7), .mv (.t 20), []⟩])
 (.seq (.seq (.reg [.s ⟨(some 21), .mv (.t 0), []⟩,
  .s ⟨(some 22), .nilchk (.t 21), []⟩,
  .s ⟨(some 23), .faddr 2 (.t 22), []⟩,
  .s ⟨(some 24), .load false 1 (.t 23), []⟩,
  .s ⟨(some 25), .mv (.t 24), []⟩,
  .g 25 false [⟨(some 26), .mv (.t 7), []⟩,
   ⟨(some 27), .bin .neq (.t 26) (.c (.int .i64 0)), []⟩],
  .s ⟨(some 28), .pick (.t 25) (.c (.bool true)) (.t 27), []⟩,
  .s ⟨(some 29), .mv (.t 28), []⟩,
  .g 29 false [⟨(some 30), .mv (.t 5), []⟩,
   ⟨(some 31), .mv (.t 1), []⟩,
   ⟨(some 32), .cint .u64 (.t 31), []⟩,
   ⟨(some 33), .bin .gtr (.t 30) (.t 32), []⟩],
  .s ⟨(some 34), .pick (.t 29) (.c (.bool true)) (.t 33), []⟩])
 (.cond (.t 34) (.seq (.reg [.s ⟨(some 35), .mv (.t 0), []⟩,
  .s ⟨(some 36), .nilchk (.t 35), []⟩,
  .s ⟨(some 37), .faddr 2 (.t 36), []⟩,
  .s ⟨none, .store 1 (.t 37) (.c (.bool true)), []⟩])
 (.seq (.reg [.s ⟨(some 4), .mv (.c (.int .i64 0)), []⟩])
 .ret))
 .skip))
 (.seq (.reg [.s ⟨(some 38), .mv (.t 0), []⟩,
  .s ⟨(some 39), .mv (.t 6), []⟩,
  .s ⟨(some 40), .nilchk (.t 38), []⟩,
  .s ⟨(some 41), .faddr 1 (.t 40), []⟩,
  .s ⟨none, .store 1 (.t 41) (.t 39), []⟩])
 (.seq (.reg [.s ⟨(some 42), .mv (.t 5), []⟩,
  .s ⟨(some 43), .cint .i64 (.t 42), []⟩,
  .s ⟨(some 4), .mv (.t 43), []⟩])
 .ret)))))⟩
theorem s30 : slimF Try.prog Try.f30 = some a30.fn := by kernel_rfl
def a31 : XFun := ⟨49, [.c 4 true 4],
 (.seq (.reg [.s ⟨(some 4), .alloc 48 [(.int .i64 0), (.int .i64 0), (.int .i64 0), (.slice none 0 0)], []⟩])
 (.seq (.reg [.s ⟨(some 8), .mv (.t 1), []⟩,
  .s ⟨(some 9), .mv (.t 0), []⟩,
  .s ⟨(some 10), .call 30 [(.t 9), (.c (.int .i64 16777216))], []⟩,
  .s ⟨(some 11), .bin .add (.t 8) (.t 10), []⟩,
  .s ⟨(some 12), .build [(.int .i64 0), (.int .i64 0), (.int .i64 0), (.slice none 0 0)] [(0, 1, (.t 11))], []⟩,
  .s ⟨(some 5), .alloc 48 [(.int .i64 0), (.int .i64 0), (.int .i64 0), (.slice none 0 0)], []⟩,
  .s ⟨none, .store 4 (.t 5) (.t 12), []⟩])
 (.seq (.par [.s ⟨(some 13), .faddr 0 (.t 5), []⟩,
  .s ⟨(some 14), .load false 1 (.t 13), []⟩,
  .s ⟨(some 15), .mv (.t 0), []⟩,
  .s ⟨(some 16), .call 30 [(.t 15), (.c (.int .i64 16777216))], [⟨none, (some 14), .load false 1 (.t 13)⟩]⟩,
  .s ⟨(some 17), .bin .add (.t 14) (.t 16), []⟩,
  .s ⟨(some 18), .faddr 1 (.t 5), []⟩,
  .s ⟨none, .store 1 (.t 18) (.t 17), []⟩])
 (.seq (.reg [.s ⟨(some 19), .mv (.t 0), []⟩,
  .s ⟨(some 20), .call 30 [(.t 19), (.c (.int .i64 65536))], []⟩,
  .s ⟨(some 21), .faddr 2 (.t 5), []⟩,
  .s ⟨none, .store 1 (.t 21) (.t 20), []⟩])
 (.seq (.seq (.reg [.s ⟨(some 22), .mv (.t 0), []⟩,
  .s ⟨(some 23), .call 30 [(.t 22), (.c (.int .i64 11))], []⟩,
  .s ⟨(some 6), .mv (.t 23), []⟩])
 (.block 0 (.loop (.seq (.seq (.reg [.s ⟨(some 24), .mv (.t 6), []⟩,
  .s ⟨(some 25), .bin .gtr (.t 24) (.c (.int .i64 0)), []⟩,
  .s ⟨(some 26), .mv (.t 25), []⟩,
  .g 26 true [⟨(some 27), .mv (.t 0), []⟩,
   ⟨(some 28), .nilchk (.t 27), []⟩,
   ⟨(some 29), .faddr 2 (.t 28), []⟩,
   ⟨(some 30), .load false 1 (.t 29), []⟩,
   ⟨(some 31), .un .not (.t 30), []⟩],
  .s ⟨(some 32), .pick (.t 26) (.t 31) (.c (.bool false)), []⟩])
 (.cond (.t 32) .skip
 (.exit 0)))
 (.seq (.block 1 (.seq (.reg [.s ⟨(some 35), .mv (.t 0), []⟩,
  .s ⟨(some 36), .call 42 [(.t 35)], []⟩,
  .s ⟨(some 7), .mv (.t 36), []⟩])
 (.par [.s ⟨(some 37), .faddr 3 (.t 5), []⟩,
  .s ⟨(some 38), .load false 1 (.t 37), []⟩,
  .s ⟨(some 39), .mv (.t 7), []⟩,
  .s ⟨(some 40), .cint .i64 (.t 39), []⟩,
  .s ⟨(some 41), .mv (.t 0), []⟩,
  .s ⟨(some 42), .call 30 [(.t 41), (.c (.int .i64 65536))], [⟨none, (some 38), .load false 1 (.t 37)⟩]⟩,
  .s ⟨(some 43), .un .neg (.t 42), []⟩,
  .s ⟨(some 44), .build [(.int .i64 0), (.int .i64 0)] [(0, 1, (.t 40)), (1, 1, (.t 43))], []⟩,
  .s ⟨(some 45), .bslice 50 1 [(.int .i64 0), (.int .i64 0)] [(0, 2, (.t 44))], [⟨none, (some 38), .load false 1 (.t 37)⟩]⟩,
  .s ⟨(some 46), .app 50 2 16 (.t 38) (.t 45), []⟩,
  .s ⟨(some 47), .faddr 3 (.t 5), []⟩,
  .s ⟨none, .store 1 (.t 47) (.t 46), []⟩])))
 (.reg [.s ⟨(some 33), .mv (.t 6), []⟩,
  .s ⟨(some 34), .bin .sub (.t 33) (.c (.int .i64 1)), []⟩,
  .s ⟨(some 6), .mv (.t 34), []⟩]))))))
 (.seq (.reg [.s ⟨(some 48), .load true 4 (.t 5), []⟩,
  .s ⟨none, .store 4 (.t 4) (.t 48), []⟩])
 .ret))))))⟩
theorem s31 : slimF Try.prog Try.f31 = some a31.fn := by kernel_rfl
def a33 : XFun := ⟨31, [.c 4 true 4, .t 5],
 (.seq (.reg [.s ⟨(some 4), .alloc 48 [(.int .i64 0), (.int .i64 0), (.int .i64 0), (.slice none 0 0)], []⟩,
  .s ⟨(some 5), .mv (.c (.bool false)), []⟩])
 (.seq (.seq (.reg [.s ⟨(some 8), .mv (.t 0), []⟩,
  .s ⟨(some 9), .lenL (.t 8), []⟩,
  .s ⟨(some 10), .mv (.c (.int .i64 0)), []⟩])
 (.block 0 (.loop (.seq (.reg [.s ⟨(some 11), .bin .lss (.t 10) (.t 9), []⟩])
 (.seq (.cond (.t 11) .skip
 (.exit 0))
 (.seq (.block 1 (.seq (.reg [.s ⟨(some 12), .idx 4 (.t 8) (.t 10), []⟩,
  .s ⟨(some 13), .load true 4 (.t 12), []⟩,
  .s ⟨(some 7), .alloc 48 [(.int .i64 0), (.int .i64 0), (.int .i64 0), (.slice none 0 0)], []⟩,
  .s ⟨none, .store 4 (.t 7) (.t 13), []⟩])
 (.seq (.reg [.s ⟨(some 14), .faddr 0 (.t 7), []⟩,
  .s ⟨(some 15), .load false 1 (.t 14), []⟩,
  .s ⟨(some 16), .mv (.t 1), []⟩,
  .s ⟨(some 17), .bin .leq (.t 15) (.t 16), []⟩,
  .s ⟨(some 18), .mv (.t 17), []⟩,
  .g 18 true [⟨(some 19), .mv (.t 1), []⟩,
   ⟨(some 20), .faddr 1 (.t 7), []⟩,
   ⟨(some 21), .load false 1 (.t 20), []⟩,
   ⟨(some 22), .bin .lss (.t 19) (.t 21), []⟩],
  .s ⟨(some 23), .pick (.t 18) (.t 22) (.c (.bool false)), []⟩])
 (.cond (.t 23) (.seq (.reg [.s ⟨(some 24), .faddr 3 (.t 7), []⟩,
  .s ⟨(some 25), .load false 1 (.t 24), []⟩,
  .s ⟨(some 26), .call 44 [(.t 25)], []⟩,
  .s ⟨(some 27), .faddr 3 (.t 7), []⟩,
  .s ⟨none, .store 1 (.t 27) (.t 26), []⟩])
 (.seq (.reg [.s ⟨(some 28), .load true 4 (.t 7), []⟩,
  .s ⟨none, .store 4 (.t 4) (.t 28), []⟩,
  .s ⟨(some 5), .mv (.c (.bool true)), []⟩])
 .ret))
 .skip))))
 (.reg [.s ⟨(some 29), .bin .add (.t 10) (.c (.int .i64 1)), []⟩,
  .s ⟨(some 10), .mv (.t 29), []⟩])))))))
 (.seq (.reg [.s ⟨(some 30), .build [(.int .i64 0), (.int .i64 0), (.int .i64 0), (.slice none 0 0)] [], []⟩,
  .s ⟨none, .store 4 (.t 4) (.t 30), []⟩,
  .s ⟨(some 5), .mv (.c (.bool false)), []⟩])
 .ret)))⟩
theorem s33 : slimF Try.prog Try.f33 = some a33.fn := by kernel_rfl
def a34 : XFun := ⟨31, [.t 4, .t 5],
 (.seq (.reg [.s ⟨(some 2), .box 28 (.t 0), []⟩,
  .s ⟨(some 4), .mv (.c (.int .i64 0)), []⟩,
  .s ⟨(some 5), .mv (.c (.bool false)), []⟩])
 (.seq (.block 0 (.seq (.reg [.s ⟨(some 7), .mv (.t 1), []⟩,
  .s ⟨(some 8), .faddr 0 (.t 2), []⟩,
  .s ⟨(some 9), .load false 1 (.t 8), []⟩,
  .s ⟨(some 10), .lenL (.t 9), []⟩,
  .s ⟨(some 11), .bin .geq (.t 7) (.t 10), []⟩,
  .s ⟨(some 12), .mv (.t 11), []⟩,
  .g 12 false [⟨(some 13), .faddr 0 (.t 2), []⟩,
   ⟨(some 14), .load false 1 (.t 13), []⟩,
   ⟨(some 15), .mv (.t 1), []⟩,
   ⟨(some 16), .idx 1 (.t 14) (.t 15), []⟩,
   ⟨(some 17), .load false 1 (.t 16), []⟩,
   ⟨(some 18), .un .not (.t 17), []⟩],
  .s ⟨(some 19), .pick (.t 12) (.c (.bool true)) (.t 18), []⟩,
  .s ⟨(some 6), .mv (.t 19), []⟩])
 (.cond (.t 6) (.seq (.reg [.s ⟨(some 4), .mv (.c (.int .i64 0)), []⟩,
  .s ⟨(some 5), .mv (.c (.bool false)), []⟩])
 .ret)
 (.seq (.reg [.s ⟨(some 21), .mv (.t 1), []⟩,
  .s ⟨(some 22), .faddr 1 (.t 2), []⟩,
  .s ⟨(some 23), .load false 1 (.t 22), []⟩,
  .s ⟨(some 24), .lenL (.t 23), []⟩,
  .s ⟨(some 25), .bin .geq (.t 21) (.t 24), []⟩,
  .s ⟨(some 20), .mv (.t 25), []⟩])
 (.cond (.t 20) (.seq (.reg [.s ⟨(some 4), .mv (.c (.int .i64 0)), []⟩,
  .s ⟨(some 5), .mv (.c (.bool true)), []⟩])
 .ret)
 .skip)))))
 (.seq (.reg [.s ⟨(some 26), .faddr 1 (.t 2), []⟩,
  .s ⟨(some 27), .load false 1 (.t 26), []⟩,
  .s ⟨(some 28), .mv (.t 1), []⟩,
  .s ⟨(some 29), .idx 1 (.t 27) (.t 28), []⟩,
  .s ⟨(some 30), .load false 1 (.t 29), []⟩,
  .s ⟨(some 4), .mv (.t 30), []⟩,
  .s ⟨(some 5), .mv (.c (.bool true)), []⟩])
 .ret)))⟩
theorem s34 : slimF Try.prog Try.f34 = some a34.fn := by kernel_rfl
def a35 : XFun := ⟨11, [.t 2],
 (.seq (.reg [.s ⟨(some 2), .mv (.c (.slice none 0 0)), []⟩])
 (.seq (.reg [.s ⟨(some 4), .mv (.t 0), []⟩,
  .s ⟨(some 5), .lenL (.t 4), []⟩,
  .s ⟨(some 6), .mkslice 4 1 1 [(.bool false)] (.t 5) (.t 5), []⟩,
  .s ⟨(some 3), .mv (.t 6), []⟩])
 (.seq (.reg [.s ⟨(some 7), .mv (.t 3), []⟩,
  .s ⟨(some 8), .mv (.t 0), []⟩,
  .s ⟨(some 9), .copy 1 (.t 7) (.t 8), []⟩])
 (.seq (.reg [.s ⟨(some 10), .mv (.t 3), []⟩,
  .s ⟨(some 2), .mv (.t 10), []⟩])
 .ret))))⟩
theorem s35 : slimF Try.prog Try.f35 = some a35.fn := by kernel_rfl
def a36 : XFun := ⟨11, [.t 2],
 (.seq (.reg [.s ⟨(some 2), .mv (.c (.slice none 0 0)), []⟩])
 (.seq (.reg [.s ⟨(some 4), .mv (.t 0), []⟩,
  .s ⟨(some 5), .lenL (.t 4), []⟩,
  .s ⟨(some 6), .mkslice 2 1 8 [(.int .i64 0)] (.t 5) (.t 5), []⟩,
  .s ⟨(some 3), .mv (.t 6), []⟩])
 (.seq (.reg [.s ⟨(some 7), .mv (.t 3), []⟩,
  .s ⟨(some 8), .mv (.t 0), []⟩,
  .s ⟨(some 9), .copy 1 (.t 7) (.t 8), []⟩])
 (.seq (.reg [.s ⟨(some 10), .mv (.t 3), []⟩,
  .s ⟨(some 2), .mv (.t 10), []⟩])
 .ret))))⟩
theorem s36 : slimF Try.prog Try.f36 = some a36.fn := by kernel_rfl
def a37 : XFun := ⟨20, [.t 4, .t 5],
 (.seq (.reg [.s ⟨(some 2), .box 28 (.t 0), []⟩,
  .s ⟨(some 4), .mv (.c (.int .i64 0)), []⟩,
  .s ⟨(some 5), .mv (.c (.bool false)), []⟩])
 (.seq (.seq (.reg [.s ⟨(some 6), .mv (.t 1), []⟩,
  .s ⟨(some 7), .bin .lss (.t 6) (.c (.int .i64 0)), []⟩,
  .s ⟨(some 8), .mv (.t 7), []⟩,
  .g 8 false [⟨(some 9), .mv (.t 1), []⟩,
   ⟨(some 10), .faddr 3 (.t 2), []⟩,
   ⟨(some 11), .load false 1 (.t 10), []⟩,
   ⟨(some 12), .lenL (.t 11), []⟩,
   ⟨(some 13), .bin .geq (.t 9) (.t 12), []⟩],
  .s ⟨(some 14), .pick (.t 8) (.c (.bool true)) (.t 13), []⟩])
 (.cond (.t 14) (.seq (.reg [.s ⟨(some 4), .mv (.c (.int .i64 0)), []⟩,
  .s ⟨(some 5), .mv (.c (.bool false)), []⟩])
 .ret)
 .skip))
 (.seq (.reg [.s ⟨(some 15), .faddr 3 (.t 2), []⟩,
  .s ⟨(some 16), .load false 1 (.t 15), []⟩,
  .s ⟨(some 17), .mv (.t 1), []⟩,
  .s ⟨(some 18), .idx 1 (.t 16) (.t 17), []⟩,
  .s ⟨(some 19), .load false 1 (.t 18), []⟩,
  .s ⟨(some 4), .mv (.t 19), []⟩,
  .s ⟨(some 5), .mv (.c (.bool true)), []⟩])
 .ret)))⟩
theorem s37 : slimF Try.prog Try.f37 = some a37.fn := by kernel_rfl
def a38 : XFun := ⟨23, [.t 4],
 (.seq (.reg [.s ⟨(some 4), .mv (.c (.slice none 0 0)), []⟩])
 (.seq (.reg [.s ⟨(some 6), .mv (.t 0), []⟩,
  .s ⟨(some 7), .call 45 [(.t 6)], []⟩,
  .s ⟨(some 5), .mv (.t 7), []⟩])
 (.seq (.block 0 (.loop (.seq (.seq (.reg [.s ⟨(some 8), .mv (.t 1), []⟩,
  .s ⟨(some 9), .bin .gtr (.t 8) (.c (.int .u64 127)), []⟩])
 (.cond (.t 9) .skip
 (.exit 0)))
 (.block 1 (.seq (.reg [.s ⟨(some 10), .mv (.t 5), []⟩,
  .s ⟨(some 11), .mv (.t 1), []⟩,
  .s ⟨(some 12), .cint .u8 (.t 11), []⟩,
  .s ⟨(some 13), .bin .or (.t 12) (.c (.int .u8 128)), []⟩,
  .s ⟨(some 14), .bslice 5 1 [(.int .u8 0)] [(0, 1, (.t 13))], []⟩,
  .s ⟨(some 15), .app 5 1 1 (.t 10) (.t 14), []⟩,
  .s ⟨(some 5), .mv (.t 15), []⟩])
 (.reg [.s ⟨(some 16), .mv (.t 1), []⟩,
  .s ⟨(some 17), .bin .shr (.t 16) (.c (.int .u64 7)), []⟩,
  .s ⟨(some 1), .mv (.t 17), []⟩]))))))
 (.seq (.reg [.s ⟨(some 18), .mv (.t 5), []⟩,
  .s ⟨(some 19), .mv (.t 1), []⟩,
  .s ⟨(some 20), .cint .u8 (.t 19), []⟩,
  .s ⟨(some 21), .bslice 5 1 [(.int .u8 0)] [(0, 1, (.t 20))], []⟩,
  .s ⟨(some 22), .app 5 1 1 (.t 18) (.t 21), []⟩,
  .s ⟨(some 4), .mv (.t 22), []⟩])
 .ret))))⟩
theorem s38 : slimF Try.prog Try.f38 = some a38.fn := by kernel_rfl
def a39 : XFun := ⟨16, [.t 4],
 (.seq (.reg [.s ⟨(some 4), .mv (.c (.bool false)), []⟩])
 (.seq (.reg [.s ⟨(some 5), .mv (.t 1), []⟩,
  .s ⟨(some 6), .bin .mul (.c (.int .i64 7)) (.t 5), []⟩,
  .s ⟨(some 7), .bin .geq (.t 6) (.c (.int .i64 64)), []⟩,
  .s ⟨(some 8), .mv (.t 7), []⟩,
  .g 8 false [⟨(some 9), .mv (.t 0), []⟩,
   ⟨(some 10), .mv (.t 1), []⟩,
   ⟨(some 11), .bin .mul (.c (.int .i64 7)) (.t 10), []⟩,
   ⟨(some 12), .cint .u64 (.t 11), []⟩,
   ⟨(some 13), .bin .shl (.c (.int .u64 1)) (.t 12), []⟩,
   ⟨(some 14), .bin .lss (.t 9) (.t 13), []⟩],
  .s ⟨(some 15), .pick (.t 8) (.c (.bool true)) (.t 14), []⟩,
  .s ⟨(some 4), .mv (.t 15), []⟩])
 .ret))⟩
def a41 : XFun := ⟨13, [.t 4, .t 5, .t 6],
 (.seq (.reg [.s ⟨(some 4), .mv (.c (.int .u64 0)), []⟩,
  .s ⟨(some 5), .mv (.c (.int .i64 0)), []⟩,
  .s ⟨(some 6), .mv (.c (.int .i64 0)), []⟩])
 (.seq (.reg [.s ⟨(some 7), .mv (.t 0), []⟩,
  .s ⟨(some 8), .mv (.t 1), []⟩,
  .s ⟨(some 9), .call 46 [(.t 7), (.t 8), (.fn 47), (.fn 38)], []⟩,
  .s ⟨(some 10), .ext 0 (.t 9), []⟩,
  .s ⟨(some 11), .ext 1 (.t 9), []⟩,
  .s ⟨(some 12), .ext 2 (.t 9), []⟩,
  .s ⟨(some 4), .mv (.t 10), []⟩,
  .s ⟨(some 5), .mv (.t 11), []⟩,
  .s ⟨(some 6), .mv (.t 12), []⟩])
 .ret))⟩
theorem s41 : slimF Try.prog Try.f41 = some a41.fn := by kernel_rfl
def a42 : XFun := ⟨40, [.t 2],
 (.seq (.reg [.s ⟨(some 2), .mv (.c (.int .u8 0)), []⟩])
 (.seq (.seq (.par [.s ⟨(some 3), .mv (.t 0), []⟩,
  .s ⟨(some 4), .nilchk (.t 3), []⟩,
  .s ⟨(some 5), .faddr 2 (.t 4), []⟩,
  .s ⟨(some 6), .load false 1 (.t 5), []⟩,
  .s ⟨(some 7), .mv (.t 6), []⟩,
  .g 7 false [⟨(some 8), .mv (.t 0), []⟩,
   ⟨(some 9), .nilchk (.t 8), []⟩,
   ⟨(some 10), .faddr 1 (.t 9), []⟩,
   ⟨(some 11), .load false 1 (.t 10), []⟩,
   ⟨(some 12), .mv (.t 0), []⟩,
   ⟨(some 13), .nilchk (.t 12), []⟩,
   ⟨(some 14), .faddr 0 (.t 13), []⟩,
   ⟨(some 15), .load false 1 (.t 14), []⟩,
   ⟨(some 16), .lenL (.t 15), []⟩,
   ⟨(some 17), .bin .geq (.t 11) (.t 16), []⟩],
  .s ⟨(some 18), .pick (.t 7) (.c (.bool true)) (.t 17), []⟩])
 (.cond (.t 18) (.seq (.reg [.s ⟨(some 19), .mv (.t 0), []⟩,
  .s ⟨(some 20), .nilchk (.t 19), []⟩,
  .s ⟨(some 21), .faddr 2 (.t 20), []⟩,
  .s ⟨none, .store 1 (.t 21) (.c (.bool true)), []⟩])
 (.seq (.reg [.s ⟨(some 2), .mv (.c (.int .u8 0)), []⟩])
 .ret))
 .skip))
 (.seq (.reg [.s ⟨(some 22), .mv (.t 0), []⟩,
  .s ⟨(some 23), .nilchk (.t 22), []⟩,
  .s ⟨(some 24), .faddr 1 (.t 23), []⟩,
  .s ⟨(some 25), .load false 1 (.t 24), []⟩,
  .s ⟨(some 26), .bin .add (.t 25) (.c (.int .i64 1)), []⟩,
  .s ⟨(some 27), .nilchk (.t 22), []⟩,
  .s ⟨(some 28), .faddr 1 (.t 27), []⟩,
  .s ⟨none, .store 1 (.t 28) (.t 26), []⟩])
 (.seq (.par [.s ⟨(some 29), .mv (.t 0), []⟩,
  .s ⟨(some 30), .nilchk (.t 29), []⟩,
  .s ⟨(some 31), .faddr 0 (.t 30), []⟩,
  .s ⟨(some 32), .load false 1 (.t 31), []⟩,
  .s ⟨(some 33), .mv (.t 0), []⟩,
  .s ⟨(some 34), .nilchk (.t 33), []⟩,
  .s ⟨(some 35), .faddr 1 (.t 34), []⟩,
  .s ⟨(some 36), .load false 1 (.t 35), []⟩,
  .s ⟨(some 37), .bin .sub (.t 36) (.c (.int .i64 1)), []⟩,
  .s ⟨(some 38), .idx 1 (.t 32) (.t 37), []⟩,
  .s ⟨(some 39), .load false 1 (.t 38), []⟩,
  .s ⟨(some 2), .mv (.t 39), []⟩])
 .ret))))⟩
theorem s42 : slimF Try.prog Try.f42 = some a42.fn := by kernel_rfl
def a44 : XFun := ⟨8, [.t 2],
 (.seq (.reg [.s ⟨(some 2), .mv (.c (.slice none 0 0)), []⟩])
 (.seq (.seq (.reg [.s ⟨(some 3), .mv (.t 0), []⟩,
  .s ⟨(some 4), .snil false (.t 3), []⟩])
 (.cond (.t 4) (.seq (.reg [.s ⟨(some 2), .mv (.c (.slice none 0 0)), []⟩])
 .ret)
 .skip))
 (.seq (.reg [.s ⟨(some 5), .bslice 50 0 [] [], []⟩,
  .s ⟨(some 6), .mv (.t 0), []⟩,
  .s ⟨(some 7), .app 50 2 16 (.t 5) (.t 6), []⟩,
  .s ⟨(some 2), .mv (.t 7), []⟩])
 .ret)))⟩
theorem s44 : slimF Try.prog Try.f44 = some a44.fn := by kernel_rfl
def a45 : XFun := ⟨8, [.t 2],
 (.seq (.reg [.s ⟨(some 2), .mv (.c (.slice none 0 0)), []⟩])
 (.seq (.seq (.reg [.s ⟨(some 3), .mv (.t 0), []⟩,
  .s ⟨(some 4), .snil false (.t 3), []⟩])
 (.cond (.t 4) (.seq (.reg [.s ⟨(some 2), .mv (.c (.slice none 0 0)), []⟩])
 .ret)
 .skip))
 (.seq (.reg [.s ⟨(some 5), .bslice 5 0 [] [], []⟩,
  .s ⟨(some 6), .mv (.t 0), []⟩,
  .s ⟨(some 7), .app 5 1 1 (.t 5) (.t 6), []⟩,
  .s ⟨(some 2), .mv (.t 7), []⟩])
 .ret)))⟩
theorem s45 : slimF Try.prog Try.f45 = some a45.fn := by kernel_rfl
def a46 : XFun := ⟨52, [.t 8, .t 9, .t 10],
 (.seq (.reg [.s ⟨(some 8), .mv (.c (.int .u64 0)), []⟩,
  .s ⟨(some 9), .mv (.c (.int .i64 0)), []⟩,
  .s ⟨(some 10), .mv (.c (.int .i64 0)), []⟩])
 (.seq (.seq (.reg [.s ⟨(some 14), .mv (.t 1), []⟩,
  .s ⟨(some 15), .bin .lss (.t 14) (.c (.int .i64 0)), []⟩,
  .s ⟨(some 16), .mv (.t 15), []⟩,
  .g 16 false [⟨(some 17), .mv (.t 1), []⟩,
   ⟨(some 18), .mv (.t 0), []⟩,
   ⟨(some 19), .lenL (.t 18), []⟩,
   ⟨(some 20), .bin .gtr (.t 17) (.t 19), []⟩],
  .s ⟨(some 21), .pick (.t 16) (.c (.bool true)) (.t 20), []⟩])
 (.cond (.t 21) (.seq (.reg [.s ⟨(some 8), .mv (.c (.int .u64 0)), []⟩,
  .s ⟨(some 9), .mv (.c (.int .i64 0)), []⟩,
  .s ⟨(some 10), .mv (.c (.int .i64 1)), []⟩])
 .ret)
 .skip))
 (.seq (.reg [.s ⟨(some 23), .mv (.t 0), []⟩,
  .s ⟨(some 24), .mv (.t 1), []⟩,
  .s ⟨(some 25), .slc 1 (.t 23) (some (.t 24)) none none, []⟩,
  .s ⟨(some 26), .call 51 [(.t 25)], []⟩,
  .s ⟨(some 22), .mv (.t 26), []⟩,
  .s ⟨(some 27), .ext 0 (.t 22), []⟩,
  .s ⟨(some 28), .ext 1 (.t 22), []⟩,
  .s ⟨(some 11), .mv (.t 27), []⟩,
  .s ⟨(some 12), .mv (.t 28), []⟩])
 (.seq (.reg [.s ⟨(some 29), .mv (.t 2), []⟩,
  .s ⟨(some 30), .mv (.t 11), []⟩,
  .s ⟨(some 31), .mv (.t 12), []⟩,
  .s ⟨(some 32), .callv (.t 29) [(.t 30), (.t 31)], []⟩,
  .s ⟨(some 13), .mv (.t 32), []⟩])
 (.seq (.seq (.par [.s ⟨(some 33), .mv (.t 12), []⟩,
  .s ⟨(some 34), .bin .eql (.t 33) (.c (.int .i64 0)), []⟩,
  .s ⟨(some 35), .mv (.t 34), []⟩,
  .g 35 false [⟨(some 36), .mv (.t 3), []⟩,
   ⟨(some 37), .mv (.t 13), []⟩,
   ⟨(some 39), .mv (.t 0), []⟩,
   ⟨(some 40), .mv (.t 1), []⟩,
   ⟨(some 41), .mv (.t 1), []⟩,
   ⟨(some 42), .mv (.t 12), []⟩,
   ⟨(some 43), .bin .add (.t 41) (.t 42), []⟩,
   ⟨(some 44), .slc 1 (.t 39) (some (.t 40)) (some (.t 43)) none, []⟩,
   ⟨(some 38), .callv (.t 36) [(.c (.slice none 0 0)), (.t 37)], []⟩,
   ⟨(some 45), .call 52 [(.t 38), (.t 44)], []⟩,
   ⟨(some 46), .un .not (.t 45), []⟩],
  .s ⟨(some 47), .pick (.t 35) (.c (.bool true)) (.t 46), []⟩])
 (.cond (.t 47) (.seq (.reg [.s ⟨(some 8), .mv (.c (.int .u64 0)), []⟩,
  .s ⟨(some 9), .mv (.c (.int .i64 0)), []⟩,
  .s ⟨(some 10), .mv (.c (.int .i64 5)), []⟩])
 .ret)
 .skip))
 (.seq (.reg [.s ⟨(some 48), .mv (.t 13), []⟩,
  .s ⟨(some 49), .mv (.t 1), []⟩,
  .s ⟨(some 50), .mv (.t 12), []⟩,
  .s ⟨(some 51), .bin .add (.t 49) (.t 50), []⟩,
  .s ⟨(some 8), .mv (.t 48), []⟩,
  .s ⟨(some 9), .mv (.t 51), []⟩,
  .s ⟨(some 10), .mv (.c (.int .i64 0)), []⟩])
 .ret))))))⟩
theorem s46 : slimF Try.prog Try.f46 = some a46.fn := by kernel_rfl
def a47 : XFun := ⟨6, [.t 4],
 (.seq (.reg [.s ⟨(some 4), .mv (.c (.int .u64 0)), []⟩])
 (.seq (.reg [.s ⟨(some 5), .mv (.t 0), []⟩,
  .s ⟨(some 4), .mv (.t 5), []⟩])
 .ret))⟩
theorem s47 : slimF Try.prog Try.f47 = some a47.fn := by kernel_rfl
def a50 : XFun := ⟨32, [.t 6],
 (.seq (.reg [.s ⟨(some 6), .mv (.c (.bool false)), []⟩])
 (.seq (.seq (.reg [.s ⟨(some 8), .mv (.t 2), []⟩,
  .s ⟨(some 9), .lenL (.t 8), []⟩,
  .s ⟨(some 10), .mv (.t 0), []⟩,
  .s ⟨(some 11), .lenL (.t 10), []⟩,
  .s ⟨(some 12), .mv (.t 1), []⟩,
  .s ⟨(some 13), .bin .sub (.t 11) (.t 12), []⟩,
  .s ⟨(some 14), .bin .gtr (.t 9) (.t 13), []⟩])
 (.cond (.t 14) (.seq (.reg [.s ⟨(some 6), .mv (.c (.bool false)), []⟩])
 .ret)
 .skip))
 (.seq (.seq (.reg [.s ⟨(some 7), .mv (.c (.int .i64 0)), []⟩])
 (.block 0 (.loop (.seq (.seq (.reg [.s ⟨(some 15), .mv (.t 7), []⟩,
  .s ⟨(some 16), .mv (.t 2), []⟩,
  .s ⟨(some 17), .lenL (.t 16), []⟩,
  .s ⟨(some 18), .bin .lss (.t 15) (.t 17), []⟩])
 (.cond (.t 18) .skip
 (.exit 0)))
 (.seq (.block 1 (.seq (.par [.s ⟨(some 21), .mv (.t 0), []⟩,
  .s ⟨(some 22), .mv (.t 1), []⟩,
  .s ⟨(some 23), .mv (.t 7), []⟩,
  .s ⟨(some 24), .bin .add (.t 22) (.t 23), []⟩,
  .s ⟨(some 25), .idx 1 (.t 21) (.t 24), []⟩,
  .s ⟨(some 26), .load false 1 (.t 25), []⟩,
  .s ⟨(some 27), .mv (.t 2), []⟩,
  .s ⟨(some 28), .mv (.t 7), []⟩,
  .s ⟨(some 29), .idx 1 (.t 27) (.t 28), []⟩,
  .s ⟨(some 30), .load false 1 (.t 29), []⟩,
  .s ⟨(some 31), .bin .neq (.t 26) (.t 30), []⟩])
 (.cond (.t 31) (.seq (.reg [.s ⟨(some 6), .mv (.c (.bool false)), []⟩])
 .ret)
 .skip)))
 (.reg [.s ⟨(some 19), .mv (.t 7), []⟩,
  .s ⟨(some 20), .bin .add (.t 19) (.c (.int .i64 1)), []⟩,
  .s ⟨(some 7), .mv (.t 20), []⟩]))))))
 (.seq (.reg [.s ⟨(some 6), .mv (.c (.bool true)), []⟩])
 .ret))))⟩
def a51 : XFun := ⟨31, [.t 2, .t 3],
 (.seq (.reg [.s ⟨(some 2), .mv (.c (.int .u64 0)), []⟩,
  .s ⟨(some 3), .mv (.c (.int .i64 0)), []⟩])
 (.seq (.seq (.reg [.s ⟨(some 5), .mv (.t 0), []⟩,
  .s ⟨(some 6), .lenL (.t 5), []⟩,
  .s ⟨(some 7), .minmax false (.t 6) [(.c (.int .i64 10))], []⟩,
  .s ⟨(some 8), .mv (.c (.int .i64 0)), []⟩])
 (.block 0 (.loop (.seq (.reg [.s ⟨(some 9), .bin .lss (.t 8) (.t 7), []⟩])
 (.seq (.cond (.t 9) .skip
 (.exit 0))
 (.seq (.block 1 (.seq (.reg [.s ⟨(some 10), .mv (.t 8), []⟩,
  .s ⟨(some 4), .mv (.t 10), []⟩])
 (.seq (.reg [.s ⟨(some 11), .mv (.t 2), []⟩,
  .s ⟨(some 12), .mv (.t 0), []⟩,
  .s ⟨(some 13), .mv (.t 4), []⟩,
  .s ⟨(some 14), .idx 1 (.t 12) (.t 13), []⟩,
  .s ⟨(some 15), .load false 1 (.t 14), []⟩,
  .s ⟨(some 16), .bin .and (.t 15) (.c (.int .u8 127)), []⟩,
  .s ⟨(some 17), .cint .u64 (.t 16), []⟩,
  .s ⟨(some 18), .mv (.t 4), []⟩,
  .s ⟨(some 19), .bin .mul (.c (.int .i64 7)) (.t 18), []⟩,
  .s ⟨(some 20), .bin .shl (.t 17) (.t 19), []⟩,
  .s ⟨(some 21), .bin .or (.t 11) (.t 20), []⟩,
  .s ⟨(some 2), .mv (.t 21), []⟩])
 (.seq (.reg [.s ⟨(some 22), .mv (.t 0), []⟩,
  .s ⟨(some 23), .mv (.t 4), []⟩,
  .s ⟨(some 24), .idx 1 (.t 22) (.t 23), []⟩,
  .s ⟨(some 25), .load false 1 (.t 24), []⟩,
  .s ⟨(some 26), .bin .lss (.t 25) (.c (.int .u8 128)), []⟩])
 (.cond (.t 26) (.seq (.reg [.s ⟨(some 27), .mv (.t 2), []⟩,
  .s ⟨(some 28), .mv (.t 4), []⟩,
  .s ⟨(some 29), .bin .add (.t 28) (.c (.int .i64 1)), []⟩,
  .s ⟨(some 2), .mv (.t 27), []⟩,
  .s ⟨(some 3), .mv (.t 29), []⟩])
 .ret)
 .skip)))))
 (.reg [.s ⟨(some 30), .bin .add (.t 8) (.c (.int .i64 1)), []⟩,
  .s ⟨(some 8), .mv (.t 30), []⟩])))))))
 (.seq (.reg [.s ⟨(some 2), .mv (.c (.int .u64 0)), []⟩,
  .s ⟨(some 3), .mv (.c (.int .i64 0)), []⟩])
 .ret)))⟩
theorem s51 : slimF Try.prog Try.f51 = some a51.fn := by kernel_rfl
def a52 : XFun := ⟨26, [.t 4],
 (.seq (.reg [.s ⟨(some 4), .mv (.c (.bool false)), []⟩])
 (.seq (.seq (.reg [.s ⟨(some 6), .mv (.t 0), []⟩,
  .s ⟨(some 7), .lenL (.t 6), []⟩,
  .s ⟨(some 8), .mv (.t 1), []⟩,
  .s ⟨(some 9), .lenL (.t 8), []⟩,
  .s ⟨(some 10), .bin .neq (.t 7) (.t 9), []⟩])
 (.cond (.t 10) (.seq (.reg [.s ⟨(some 4), .mv (.c (.bool false)), []⟩])
 .ret)
 .skip))
 (.seq (.seq (.reg [.s ⟨(some 11), .mv (.t 0), []⟩,
  .s ⟨(some 12), .lenL (.t 11), []⟩,
  .s ⟨(some 13), .mv (.c (.int .i64 0)), []⟩])
 (.block 0 (.loop (.seq (.reg [.s ⟨(some 14), .bin .lss (.t 13) (.t 12), []⟩])
 (.seq (.cond (.t 14) .skip
 (.exit 0))
 (.seq (.block 1 (.seq (.reg [.s ⟨(some 15), .mv (.t 13), []⟩,
  .s ⟨(some 5), .mv (.t 15), []⟩])
 (.seq (.par [.s ⟨(some 16), .mv (.t 0), []⟩,
  .s ⟨(some 17), .mv (.t 5), []⟩,
  .s ⟨(some 18), .idx 1 (.t 16) (.t 17), []⟩,
  .s ⟨(some 19), .load false 1 (.t 18), []⟩,
  .s ⟨(some 20), .mv (.t 1), []⟩,
  .s ⟨(some 21), .mv (.t 5), []⟩,
  .s ⟨(some 22), .idx 1 (.t 20) (.t 21), []⟩,
  .s ⟨(some 23), .load false 1 (.t 22), []⟩,
  .s ⟨(some 24), .bin .neq (.t 19) (.t 23), []⟩])
 (.cond (.t 24) (.seq (.reg [.s ⟨(some 4), .mv (.c (.bool false)), []⟩])
 .ret)
 .skip))))
 (.reg [.s ⟨(some 25), .bin .add (.t 13) (.c (.int .i64 1)), []⟩,
  .s ⟨(some 13), .mv (.t 25), []⟩])))))))
 (.seq (.reg [.s ⟨(some 4), .mv (.c (.bool true)), []⟩])
 .ret))))⟩
theorem s52 : slimF Try.prog Try.f52 = some a52.fn := by kernel_rfl
end Go.Proofs.Ytneonhnackjdjaa
