import Derived.Test.YtnaafaopdefigaaAd
import Derived.Test.YtnaafaopdefigaaProg
import Derived.KernelRfl
namespace Go.Proofs.Ytnaafaopdefigaa
open Go.Ab
set_option linter.unusedVariables false
set_option linter.unusedSimpArgs false
theorem hm : Try.prog.follows .mixedOrders = true := by kernel_rfl
def a3 : XFun := ⟨54, [.t 4],
 (.seq (.reg [.s ⟨(some 3), .box 24 (.t 1), []⟩,
  .s ⟨(some 4), .mv (.c (.bool false)), []⟩])
 (.seq (.seq (.reg [.s ⟨(some 8), .mv (.t 0), []⟩,
  .s ⟨(some 9), .lenL (.t 8), []⟩,
  .s ⟨(some 10), .bin .gtr (.t 9) (.c (.int .i64 65536)), []⟩])
 (.cond (.t 10) (.seq (.reg [.s ⟨(some 11), .call 8 [], []⟩,
  .s ⟨(some 4), .mv (.t 11), []⟩])
 .ret)
 .skip))
 (.seq (.reg [.s ⟨(some 12), .mv (.t 0), []⟩,
  .s ⟨(some 13), .call 9 [(.t 12)], []⟩,
  .s ⟨(some 5), .mv (.t 13), []⟩])
 (.seq (.reg [.s ⟨(some 14), .mv (.t 5), []⟩,
  .s ⟨(some 15), .load true 7 (.t 3), []⟩,
  .s ⟨(some 16), .call 10 [(.t 14), (.t 15)], []⟩,
  .s ⟨(some 6), .mv (.t 16), []⟩])
 (.seq (.reg [.s ⟨(some 17), .mv (.t 5), []⟩,
  .s ⟨(some 18), .load true 7 (.t 3), []⟩,
  .s ⟨(some 19), .call 10 [(.t 17), (.t 18)], []⟩,
  .s ⟨(some 7), .mv (.t 19), []⟩])
 (.seq (.seq (.par [.s ⟨(some 20), .load true 7 (.t 3), []⟩,
  .s ⟨(some 22), .load true 7 (.t 3), []⟩,
  .s ⟨(some 21), .call 11 [(.t 20)], [⟨none, (some 22), .load true 7 (.t 3)⟩]⟩,
  .s ⟨(some 23), .call 12 [(.t 22)], []⟩,
  .s ⟨(some 24), .beq true (.t 21) (.t 23), []⟩,
  .s ⟨(some 25), .mv (.t 24), []⟩,
  .g 25 false [⟨(some 26), .load true 7 (.t 3), []⟩,
   ⟨(some 28), .load true 7 (.t 3), []⟩,
   ⟨(some 27), .call 13 [(.t 26)], [⟨(some (25, false)), (some 28), .load true 7 (.t 3)⟩]⟩,
   ⟨(some 29), .call 14 [(.t 28)], []⟩,
   ⟨(some 30), .bin .neq (.t 27) (.t 29), []⟩],
  .s ⟨(some 31), .pick (.t 25) (.c (.bool true)) (.t 30), []⟩,
  .s ⟨(some 32), .mv (.t 31), []⟩,
  .g 32 false [⟨(some 33), .mv (.t 6), []⟩,
   ⟨(some 34), .mv (.t 0), []⟩,
   ⟨(some 35), .load true 7 (.t 3), []⟩,
   ⟨(some 36), .call 16 [(.t 34), (.t 35)], []⟩,
   ⟨(some 37), .call 15 [(.t 33), (.t 36)], []⟩,
   ⟨(some 38), .un .not (.t 37), []⟩],
  .s ⟨(some 39), .pick (.t 32) (.c (.bool true)) (.t 38), []⟩,
  .s ⟨(some 40), .mv (.t 39), []⟩,
  .g 40 false [⟨(some 41), .mv (.t 5), []⟩,
   ⟨(some 42), .mv (.t 0), []⟩,
   ⟨(some 43), .call 17 [(.t 41), (.t 42)], []⟩,
   ⟨(some 44), .un .not (.t 43), []⟩],
  .s ⟨(some 45), .pick (.t 40) (.c (.bool true)) (.t 44), []⟩])
 (.cond (.t 45) (.seq (.reg [.s ⟨(some 4), .mv (.c (.bool false)), []⟩])
 .ret)
 .skip))
 (.seq (.reg [.s ⟨(some 46), .mv (.t 6), []⟩,
  .s ⟨(some 47), .mv (.t 7), []⟩,
  .s ⟨(some 48), .mv (.t 5), []⟩,
  .s ⟨(some 49), .bslice 22 3 [(.slice none 0 0), (.slice none 0 0), (.slice none 0 0)] [(0, 1, (.t 46)), (1, 1, (.t 47)), (2, 1, (.t 48))], []⟩,
  .s ⟨(some 50), .call 18 [(.t 49)], []⟩,
  .s ⟨(some 51), .mv (.t 50), []⟩,
  .g 51 true [⟨(some 52), .call 8 [], []⟩],
  .s ⟨(some 53), .pick (.t 51) (.t 52) (.c (.bool false)), []⟩,
  .s ⟨(some 4), .mv (.t 53), []⟩])
 .ret)))))))⟩
def a4 : XFun := ⟨53, [.t 4],
 (.seq (.reg [.s ⟨(some 4), .mv (.c (.bool false)), []⟩])
 (.seq (.seq (.reg [.s ⟨(some 12), .mv (.t 0), []⟩,
  .s ⟨(some 13), .lenL (.t 12), []⟩,
  .s ⟨(some 14), .bin .gtr (.t 13) (.c (.int .i64 65536)), []⟩])
 (.cond (.t 14) (.seq (.reg [.s ⟨(some 15), .call 8 [], []⟩,
  .s ⟨(some 4), .mv (.t 15), []⟩])
 .ret)
 .skip))
 (.seq (.reg [.s ⟨(some 16), .mv (.t 0), []⟩,
  .s ⟨(some 17), .call 9 [(.t 16)], []⟩,
  .s ⟨(some 5), .mv (.t 17), []⟩])
 (.seq (.reg [.s ⟨(some 19), .mv (.t 5), []⟩,
  .s ⟨(some 20), .mv (.t 1), []⟩,
  .s ⟨(some 21), .call 19 [(.t 19), (.t 20)], []⟩,
  .s ⟨(some 18), .mv (.t 21), []⟩,
  .s ⟨(some 22), .ext 0 (.t 18), []⟩,
  .s ⟨(some 23), .ext 1 (.t 18), []⟩,
  .s ⟨(some 24), .ext 2 (.t 18), []⟩,
  .s ⟨(some 6), .alloc 24 [(.int .u8 0), (.int .u8 0), (.int .i64 0), (.int .i64 0), (.int .i64 0), (.int .i64 0), (.int .i64 0)], []⟩,
  .s ⟨none, .store 7 (.t 6) (.t 22), []⟩,
  .s ⟨(some 7), .mv (.t 23), []⟩,
  .s ⟨(some 8), .mv (.t 24), []⟩])
 (.seq (.reg [.s ⟨(some 26), .mv (.t 0), []⟩,
  .s ⟨(some 27), .mv (.t 1), []⟩,
  .s ⟨(some 28), .call 20 [(.t 26), (.t 27)], []⟩,
  .s ⟨(some 25), .mv (.t 28), []⟩,
  .s ⟨(some 29), .ext 0 (.t 25), []⟩,
  .s ⟨(some 30), .ext 1 (.t 25), []⟩,
  .s ⟨(some 31), .ext 2 (.t 25), []⟩,
  .s ⟨(some 9), .alloc 24 [(.int .u8 0), (.int .u8 0), (.int .i64 0), (.int .i64 0), (.int .i64 0), (.int .i64 0), (.int .i64 0)], []⟩,
  .s ⟨none, .store 7 (.t 9) (.t 29), []⟩,
  .s ⟨(some 10), .mv (.t 30), []⟩,
  .s ⟨(some 11), .mv (.t 31), []⟩])
 (.seq (.reg [.s ⟨(some 32), .load true 7 (.t 6), []⟩,
  .s ⟨(some 33), .load true 7 (.t 9), []⟩,
  .s ⟨(some 34), .aeq false [0, 0, 0, 0, 0, 0, 0] (.t 32) (.t 33), []⟩,
  .s ⟨(some 35), .mv (.t 34), []⟩,
  .g 35 true [⟨(some 36), .mv (.t 7), []⟩,
   ⟨(some 37), .mv (.t 10), []⟩,
   ⟨(some 38), .bin .eql (.t 36) (.t 37), []⟩],
  .s ⟨(some 39), .pick (.t 35) (.t 38) (.c (.bool false)), []⟩,
  .s ⟨(some 40), .mv (.t 39), []⟩,
  .g 40 true [⟨(some 41), .mv (.t 8), []⟩,
   ⟨(some 42), .mv (.t 11), []⟩,
   ⟨(some 43), .bin .eql (.t 41) (.t 42), []⟩],
  .s ⟨(some 44), .pick (.t 40) (.t 43) (.c (.bool false)), []⟩,
  .s ⟨(some 45), .mv (.t 44), []⟩,
  .g 45 true [⟨(some 46), .mv (.t 5), []⟩,
   ⟨(some 47), .mv (.t 0), []⟩,
   ⟨(some 48), .call 17 [(.t 46), (.t 47)], []⟩],
  .s ⟨(some 49), .pick (.t 45) (.t 48) (.c (.bool false)), []⟩,
  .s ⟨(some 50), .mv (.t 49), []⟩,
  .g 50 true [⟨(some 51), .call 8 [], []⟩],
  .s ⟨(some 52), .pick (.t 50) (.t 51) (.c (.bool false)), []⟩,
  .s ⟨(some 4), .mv (.t 52), []⟩])
 .ret))))))⟩
theorem s4 : slimF Try.prog Try.f4 = some a4.fn := by kernel_rfl
def a5 : XFun := ⟨157, [.t 6],
 (.seq (.reg [.s ⟨(some 4), .box 24 (.t 1), []⟩,
  .s ⟨(some 6), .mv (.c (.bool false)), []⟩])
 (.seq (.seq (.reg [.s ⟨(some 19), .mv (.t 0), []⟩,
  .s ⟨(some 20), .lenL (.t 19), []⟩,
  .s ⟨(some 21), .bin .gtr (.t 20) (.c (.int .i64 1024)), []⟩,
  .s ⟨(some 22), .mv (.t 21), []⟩,
  .g 22 false [⟨(some 23), .mv (.t 2), []⟩,
   ⟨(some 24), .lenL (.t 23), []⟩,
   ⟨(some 25), .bin .gtr (.t 24) (.c (.int .i64 1024)), []⟩],
  .s ⟨(some 26), .pick (.t 22) (.c (.bool true)) (.t 25), []⟩])
 (.cond (.t 26) (.seq (.reg [.s ⟨(some 27), .call 8 [], []⟩,
  .s ⟨(some 6), .mv (.t 27), []⟩])
 .ret)
 .skip))
 (.seq (.reg [.s ⟨(some 28), .mv (.t 0), []⟩,
  .s ⟨(some 29), .lenL (.t 28), []⟩,
  .s ⟨(some 7), .mv (.t 29), []⟩])
 (.seq (.reg [.s ⟨(some 30), .mv (.t 0), []⟩,
  .s ⟨(some 31), .load true 7 (.t 4), []⟩,
  .s ⟨(some 32), .call 10 [(.t 30), (.t 31)], []⟩,
  .s ⟨(some 8), .mv (.t 32), []⟩])
 (.seq (.seq (.reg [.s ⟨(some 33), .load true 7 (.t 4), []⟩,
  .s ⟨(some 34), .call 11 [(.t 33)], []⟩,
  .s ⟨(some 35), .un .not (.t 34), []⟩])
 (.cond (.t 35) (.seq (.reg [.s ⟨(some 36), .mv (.t 8), []⟩,
  .s ⟨(some 37), .mv (.t 0), []⟩,
  .s ⟨(some 38), .call 15 [(.t 36), (.t 37)], []⟩,
  .s ⟨(some 39), .mv (.t 38), []⟩,
  .g 39 true [⟨(some 40), .load true 7 (.t 4), []⟩,
   ⟨(some 41), .call 13 [(.t 40)], []⟩,
   ⟨(some 42), .bin .eql (.t 41) (.c (.int .i64 0)), []⟩],
  .s ⟨(some 43), .pick (.t 39) (.t 42) (.c (.bool false)), []⟩,
  .s ⟨(some 44), .mv (.t 43), []⟩,
  .g 44 true [⟨(some 45), .call 8 [], []⟩],
  .s ⟨(some 46), .pick (.t 44) (.t 45) (.c (.bool false)), []⟩,
  .s ⟨(some 6), .mv (.t 46), []⟩])
 .ret)
 .skip))
 (.seq (.reg [.s ⟨(some 48), .mv (.t 8), []⟩,
  .s ⟨(some 49), .call 21 [(.t 48)], []⟩,
  .s ⟨(some 50), .mv (.t 2), []⟩,
  .s ⟨(some 51), .app 5 1 1 (.t 49) (.t 50), []⟩,
  .s ⟨(some 52), .mv (.t 7), []⟩,
  .s ⟨(some 53), .call 19 [(.t 51), (.t 52)], []⟩,
  .s ⟨(some 47), .mv (.t 53), []⟩,
  .s ⟨(some 54), .ext 0 (.t 47), []⟩,
  .s ⟨(some 55), .ext 1 (.t 47), []⟩,
  .s ⟨(some 56), .ext 2 (.t 47), []⟩,
  .s ⟨(some 9), .alloc 24 [(.int .u8 0), (.int .u8 0), (.int .i64 0), (.int .i64 0), (.int .i64 0), (.int .i64 0), (.int .i64 0)], []⟩,
  .s ⟨none, .store 7 (.t 9) (.t 54), []⟩,
  .s ⟨(some 10), .mv (.t 55), []⟩,
  .s ⟨(some 11), .mv (.t 56), []⟩])
 (.seq (.seq (.reg [.s ⟨(some 57), .load true 7 (.t 9), []⟩,
  .s ⟨(some 58), .load true 7 (.t 4), []⟩,
  .s ⟨(some 59), .aeq true [0, 0, 0, 0, 0, 0, 0] (.t 57) (.t 58), []⟩,
  .s ⟨(some 60), .mv (.t 59), []⟩,
  .g 60 false [⟨(some 61), .mv (.t 10), []⟩,
   ⟨(some 62), .mv (.t 8), []⟩,
   ⟨(some 63), .lenL (.t 62), []⟩,
   ⟨(some 64), .bin .neq (.t 61) (.t 63), []⟩],
  .s ⟨(some 65), .pick (.t 60) (.c (.bool true)) (.t 64), []⟩,
  .s ⟨(some 66), .mv (.t 65), []⟩,
  .g 66 false [⟨(some 67), .mv (.t 11), []⟩,
   ⟨(some 68), .bin .neq (.t 67) (.c (.int .i64 0)), []⟩],
  .s ⟨(some 69), .pick (.t 66) (.c (.bool true)) (.t 68), []⟩,
  .s ⟨(some 70), .mv (.t 69), []⟩,
  .g 70 false [⟨(some 71), .load true 7 (.t 4), []⟩,
   ⟨(some 72), .call 13 [(.t 71)], []⟩,
   ⟨(some 73), .mv (.t 8), []⟩,
   ⟨(some 74), .lenL (.t 73), []⟩,
   ⟨(some 75), .mv (.t 7), []⟩,
   ⟨(some 76), .bin .sub (.t 74) (.t 75), []⟩,
   ⟨(some 77), .bin .neq (.t 72) (.t 76), []⟩],
  .s ⟨(some 78), .pick (.t 70) (.c (.bool true)) (.t 77), []⟩,
  .s ⟨(some 79), .mv (.t 78), []⟩,
  .g 79 false [⟨(some 80), .mv (.t 8), []⟩,
   ⟨(some 81), .lenL (.t 80), []⟩,
   ⟨(some 82), .mv (.t 7), []⟩,
   ⟨(some 83), .bin .sub (.t 81) (.t 82), []⟩,
   ⟨(some 84), .bin .lss (.t 83) (.c (.int .i64 1)), []⟩],
  .s ⟨(some 85), .pick (.t 79) (.c (.bool true)) (.t 84), []⟩,
  .s ⟨(some 86), .mv (.t 85), []⟩,
  .g 86 false [⟨(some 87), .mv (.t 8), []⟩,
   ⟨(some 88), .lenL (.t 87), []⟩,
   ⟨(some 89), .mv (.t 7), []⟩,
   ⟨(some 90), .bin .sub (.t 88) (.t 89), []⟩,
   ⟨(some 91), .bin .gtr (.t 90) (.c (.int .i64 12)), []⟩],
  .s ⟨(some 92), .pick (.t 86) (.c (.bool true)) (.t 91), []⟩])
 (.cond (.t 92) (.seq (.reg [.s ⟨(some 6), .mv (.c (.bool false)), []⟩])
 .ret)
 .skip))
 (.seq (.seq (.reg [.s ⟨(some 93), .mv (.t 7), []⟩,
  .s ⟨(some 12), .mv (.t 93), []⟩])
 (.block 0 (.loop (.seq (.seq (.reg [.s ⟨(some 94), .mv (.t 12), []⟩,
  .s ⟨(some 95), .mv (.t 8), []⟩,
  .s ⟨(some 96), .lenL (.t 95), []⟩,
  .s ⟨(some 97), .bin .lss (.t 94) (.t 96), []⟩])
 (.cond (.t 97) .skip
 (.exit 0)))
 (.seq (.block 1 (.seq (.reg [.s ⟨(some 101), .mv (.t 8), []⟩,
  .s ⟨(some 102), .mv (.t 12), []⟩,
  .s ⟨(some 103), .slc 1 (.t 101) none (some (.t 102)) none, []⟩,
  .s ⟨(some 104), .mv (.t 7), []⟩,
  .s ⟨(some 105), .call 19 [(.t 103), (.t 104)], []⟩,
  .s ⟨(some 100), .mv (.t 105), []⟩,
  .s ⟨(some 106), .ext 0 (.t 100), []⟩,
  .s ⟨(some 107), .ext 1 (.t 100), []⟩,
  .s ⟨(some 108), .ext 2 (.t 100), []⟩,
  .s ⟨(some 13), .alloc 24 [(.int .u8 0), (.int .u8 0), (.int .i64 0), (.int .i64 0), (.int .i64 0), (.int .i64 0), (.int .i64 0)], []⟩,
  .s ⟨none, .store 7 (.t 13) (.t 106), []⟩,
  .s ⟨(some 14), .mv (.t 107), []⟩,
  .s ⟨(some 15), .mv (.t 108), []⟩])
 (.seq (.reg [.s ⟨(some 109), .mv (.t 15), []⟩,
  .s ⟨(some 110), .bin .eql (.t 109) (.c (.int .i64 0)), []⟩])
 (.cond (.t 110) (.seq (.reg [.s ⟨(some 6), .mv (.c (.bool false)), []⟩])
 .ret)
 .skip))))
 (.reg [.s ⟨(some 98), .mv (.t 12), []⟩,
  .s ⟨(some 99), .bin .add (.t 98) (.c (.int .i64 1)), []⟩,
  .s ⟨(some 12), .mv (.t 99), []⟩]))))))
 (.seq (.reg [.s ⟨(some 112), .mv (.t 2), []⟩,
  .s ⟨(some 113), .call 19 [(.t 112), (.c (.int .i64 0))], []⟩,
  .s ⟨(some 111), .mv (.t 113), []⟩,
  .s ⟨(some 114), .ext 0 (.t 111), []⟩,
  .s ⟨(some 115), .ext 1 (.t 111), []⟩,
  .s ⟨(some 116), .ext 2 (.t 111), []⟩,
  .s ⟨(some 16), .alloc 24 [(.int .u8 0), (.int .u8 0), (.int .i64 0), (.int .i64 0), (.int .i64 0), (.int .i64 0), (.int .i64 0)], []⟩,
  .s ⟨none, .store 7 (.t 16) (.t 114), []⟩,
  .s ⟨(some 17), .mv (.t 115), []⟩,
  .s ⟨(some 18), .mv (.t 116), []⟩])
 (.seq (.seq (.par [.s ⟨(some 117), .mv (.t 18), []⟩,
  .s ⟨(some 118), .bin .eql (.t 117) (.c (.int .i64 0)), []⟩,
  .s ⟨(some 119), .mv (.t 118), []⟩,
  .g 119 true [⟨(some 120), .load true 7 (.t 16), []⟩,
   ⟨(some 121), .call 11 [(.t 120)], []⟩,
   ⟨(some 122), .un .not (.t 121), []⟩,
   ⟨(some 123), .mv (.t 122), []⟩],
  .g 123 false [⟨(some 124), .mv (.t 17), []⟩,
   ⟨(some 125), .bin .lss (.t 124) (.c (.int .i64 1)), []⟩],
  .g 119 true [⟨(some 126), .pick (.t 123) (.c (.bool true)) (.t 125), []⟩,
   ⟨(some 127), .mv (.t 126), []⟩],
  .g 127 false [⟨(some 128), .mv (.t 17), []⟩,
   ⟨(some 129), .mv (.t 2), []⟩,
   ⟨(some 130), .lenL (.t 129), []⟩,
   ⟨(some 131), .bin .gtr (.t 128) (.t 130), []⟩],
  .g 119 true [⟨(some 132), .pick (.t 127) (.c (.bool true)) (.t 131), []⟩,
   ⟨(some 133), .mv (.t 132), []⟩],
  .g 133 false [⟨(some 134), .load true 7 (.t 16), []⟩,
   ⟨(some 136), .mv (.t 2), []⟩,
   ⟨(some 137), .mv (.t 17), []⟩,
   ⟨(some 138), .slc 1 (.t 136) none (some (.t 137)) none, []⟩,
   ⟨(some 135), .call 10 [(.c (.slice none 0 0)), (.t 134)], []⟩,
   ⟨(some 139), .call 15 [(.t 135), (.t 138)], []⟩,
   ⟨(some 140), .un .not (.t 139), []⟩],
  .g 119 true [⟨(some 141), .pick (.t 133) (.c (.bool true)) (.t 140), []⟩],
  .s ⟨(some 142), .pick (.t 119) (.t 141) (.c (.bool false)), []⟩])
 (.cond (.t 142) (.seq (.reg [.s ⟨(some 6), .mv (.c (.bool false)), []⟩])
 .ret)
 .skip))
 (.seq (.reg [.s ⟨(some 143), .mv (.t 18), []⟩,
  .s ⟨(some 144), .bin .eql (.t 143) (.c (.int .i64 0)), []⟩,
  .s ⟨(some 145), .mv (.t 144), []⟩,
  .g 145 false [⟨(some 146), .load true 7 (.t 16), []⟩,
   ⟨(some 147), .build [(.int .u8 0), (.int .u8 0), (.int .i64 0), (.int .i64 0), (.int .i64 0), (.int .i64 0), (.int .i64 0)] [], []⟩,
   ⟨(some 148), .aeq false [0, 0, 0, 0, 0, 0, 0] (.t 146) (.t 147), []⟩,
   ⟨(some 149), .mv (.t 148), []⟩],
  .g 149 true [⟨(some 150), .mv (.t 17), []⟩,
   ⟨(some 151), .bin .eql (.t 150) (.c (.int .i64 0)), []⟩],
  .g 145 false [⟨(some 152), .pick (.t 149) (.t 151) (.c (.bool false)), []⟩],
  .s ⟨(some 153), .pick (.t 145) (.c (.bool true)) (.t 152), []⟩,
  .s ⟨(some 154), .mv (.t 153), []⟩,
  .g 154 true [⟨(some 155), .call 8 [], []⟩],
  .s ⟨(some 156), .pick (.t 154) (.t 155) (.c (.bool false)), []⟩,
  .s ⟨(some 6), .mv (.t 156), []⟩])
 .ret)))))))))))⟩
def a6 : XFun := ⟨78, [.t 2],
 (.seq (.reg [.s ⟨(some 2), .mv (.c (.bool false)), []⟩])
 (.seq (.seq (.reg [.s ⟨(some 11), .mv (.t 0), []⟩,
  .s ⟨(some 12), .lenL (.t 11), []⟩,
  .s ⟨(some 13), .bin .gtr (.t 12) (.c (.int .i64 100)), []⟩])
 (.cond (.t 13) (.seq (.reg [.s ⟨(some 14), .call 8 [], []⟩,
  .s ⟨(some 2), .mv (.t 14), []⟩])
 .ret)
 .skip))
 (.seq (.reg [.s ⟨(some 3), .mv (.c (.slice none 0 0)), []⟩])
 (.seq (.reg [.s ⟨(some 4), .mv (.c (.slice none 0 0)), []⟩])
 (.seq (.seq (.reg [.s ⟨(some 5), .mv (.c (.int .i64 0)), []⟩])
 (.block 0 (.loop (.seq (.seq (.reg [.s ⟨(some 15), .mv (.t 5), []⟩,
  .s ⟨(some 16), .mv (.t 0), []⟩,
  .s ⟨(some 17), .lenL (.t 16), []⟩,
  .s ⟨(some 18), .bin .lss (.t 15) (.t 17), []⟩])
 (.cond (.t 18) .skip
 (.exit 0)))
 (.seq (.block 1 (.seq (.reg [.s ⟨(some 21), .mv (.t 0), []⟩,
  .s ⟨(some 22), .mv (.t 5), []⟩,
  .s ⟨(some 23), .idx 7 (.t 21) (.t 22), []⟩,
  .s ⟨(some 24), .load true 7 (.t 23), []⟩,
  .s ⟨(some 25), .call 11 [(.t 24)], []⟩])
 (.cond (.t 25) (.seq (.reg [.s ⟨(some 26), .mv (.t 4), []⟩,
  .s ⟨(some 27), .mv (.t 0), []⟩,
  .s ⟨(some 28), .mv (.t 5), []⟩,
  .s ⟨(some 29), .idx 7 (.t 27) (.t 28), []⟩,
  .s ⟨(some 30), .load true 7 (.t 29), []⟩,
  .s ⟨(some 31), .bslice 24 1 [(.int .u8 0), (.int .u8 0), (.int .i64 0), (.int .i64 0), (.int .i64 0), (.int .i64 0), (.int .i64 0)] [(0, 7, (.t 30))], []⟩,
  .s ⟨(some 32), .app 24 7 48 (.t 26) (.t 31), []⟩,
  .s ⟨(some 4), .mv (.t 32), []⟩])
 (.reg [.s ⟨(some 33), .mv (.t 3), []⟩,
  .s ⟨(some 34), .mv (.t 0), []⟩,
  .s ⟨(some 35), .mv (.t 5), []⟩,
  .s ⟨(some 36), .idx 7 (.t 34) (.t 35), []⟩,
  .s ⟨(some 37), .load true 7 (.t 36), []⟩,
  .s ⟨(some 38), .call 10 [(.t 33), (.t 37)], []⟩,
  .s ⟨(some 3), .mv (.t 38), []⟩]))
 .skip)))
 (.reg [.s ⟨(some 19), .mv (.t 5), []⟩,
  .s ⟨(some 20), .bin .add (.t 19) (.c (.int .i64 1)), []⟩,
  .s ⟨(some 5), .mv (.t 20), []⟩]))))))
 (.seq (.reg [.s ⟨(some 6), .mv (.c (.int .i64 0)), []⟩])
 (.seq (.seq (.reg [.s ⟨(some 7), .mv (.c (.int .i64 0)), []⟩])
 (.block 2 (.loop (.seq (.seq (.reg [.s ⟨(some 39), .mv (.t 7), []⟩,
  .s ⟨(some 40), .mv (.t 4), []⟩,
  .s ⟨(some 41), .lenL (.t 40), []⟩,
  .s ⟨(some 42), .bin .lss (.t 39) (.t 41), []⟩])
 (.cond (.t 42) .skip
 (.exit 2)))
 (.seq (.block 3 (.seq (.reg [.s ⟨(some 46), .mv (.t 3), []⟩,
  .s ⟨(some 47), .mv (.t 6), []⟩,
  .s ⟨(some 48), .call 19 [(.t 46), (.t 47)], []⟩,
  .s ⟨(some 45), .mv (.t 48), []⟩,
  .s ⟨(some 49), .ext 0 (.t 45), []⟩,
  .s ⟨(some 50), .ext 1 (.t 45), []⟩,
  .s ⟨(some 51), .ext 2 (.t 45), []⟩,
  .s ⟨(some 8), .alloc 24 [(.int .u8 0), (.int .u8 0), (.int .i64 0), (.int .i64 0), (.int .i64 0), (.int .i64 0), (.int .i64 0)], []⟩,
  .s ⟨none, .store 7 (.t 8) (.t 49), []⟩,
  .s ⟨(some 9), .mv (.t 50), []⟩,
  .s ⟨(some 10), .mv (.t 51), []⟩])
 (.seq (.seq (.par [.s ⟨(some 52), .mv (.t 10), []⟩,
  .s ⟨(some 53), .bin .neq (.t 52) (.c (.int .i64 0)), []⟩,
  .s ⟨(some 54), .mv (.t 53), []⟩,
  .g 54 false [⟨(some 55), .load true 7 (.t 8), []⟩,
   ⟨(some 56), .mv (.t 4), []⟩,
   ⟨(some 57), .mv (.t 7), []⟩,
   ⟨(some 58), .idx 7 (.t 56) (.t 57), []⟩,
   ⟨(some 59), .load true 7 (.t 58), []⟩,
   ⟨(some 60), .aeq true [0, 0, 0, 0, 0, 0, 0] (.t 55) (.t 59), []⟩],
  .s ⟨(some 61), .pick (.t 54) (.c (.bool true)) (.t 60), []⟩,
  .s ⟨(some 62), .mv (.t 61), []⟩,
  .g 62 false [⟨(some 63), .mv (.t 9), []⟩,
   ⟨(some 64), .mv (.t 6), []⟩,
   ⟨(some 65), .load true 7 (.t 8), []⟩,
   ⟨(some 66), .call 13 [(.t 65)], []⟩,
   ⟨(some 67), .bin .add (.t 64) (.t 66), []⟩,
   ⟨(some 68), .bin .neq (.t 63) (.t 67), []⟩],
  .s ⟨(some 69), .pick (.t 62) (.c (.bool true)) (.t 68), []⟩])
 (.cond (.t 69) (.seq (.reg [.s ⟨(some 2), .mv (.c (.bool false)), []⟩])
 .ret)
 .skip))
 (.reg [.s ⟨(some 70), .mv (.t 9), []⟩,
  .s ⟨(some 6), .mv (.t 70), []⟩]))))
 (.reg [.s ⟨(some 43), .mv (.t 7), []⟩,
  .s ⟨(some 44), .bin .add (.t 43) (.c (.int .i64 1)), []⟩,
  .s ⟨(some 7), .mv (.t 44), []⟩]))))))
 (.seq (.reg [.s ⟨(some 71), .mv (.t 6), []⟩,
  .s ⟨(some 72), .mv (.t 3), []⟩,
  .s ⟨(some 73), .lenL (.t 72), []⟩,
  .s ⟨(some 74), .bin .eql (.t 71) (.t 73), []⟩,
  .s ⟨(some 75), .mv (.t 74), []⟩,
  .g 75 true [⟨(some 76), .call 8 [], []⟩],
  .s ⟨(some 77), .pick (.t 75) (.t 76) (.c (.bool false)), []⟩,
  .s ⟨(some 2), .mv (.t 77), []⟩])
 .ret))))))))⟩
def a7 : XFun := ⟨81, [.t 6],
 (.seq (.reg [.s ⟨(some 6), .mv (.c (.bool false)), []⟩])
 (.seq (.reg [.s ⟨(some 12), .bslice 5 3 [(.int .u8 0), (.int .u8 0), (.int .u8 0)] [(0, 1, (.c (.int .u8 10))), (1, 1, (.c (.int .u8 11))), (2, 1, (.c (.int .u8 12)))], []⟩,
  .s ⟨(some 7), .mv (.t 12), []⟩])
 (.seq (.seq (.reg [.s ⟨(some 8), .mv (.c (.int .i64 0)), []⟩])
 (.block 0 (.loop (.seq (.seq (.reg [.s ⟨(some 13), .mv (.t 8), []⟩,
  .s ⟨(some 14), .mv (.t 7), []⟩,
  .s ⟨(some 15), .lenL (.t 14), []⟩,
  .s ⟨(some 16), .bin .lss (.t 13) (.t 15), []⟩])
 (.cond (.t 16) .skip
 (.exit 0)))
 (.seq (.block 1 (.seq (.reg [.s ⟨(some 19), .mv (.t 7), []⟩,
  .s ⟨(some 20), .mv (.t 8), []⟩,
  .s ⟨(some 21), .idx 1 (.t 19) (.t 20), []⟩,
  .s ⟨(some 22), .load false 1 (.t 21), []⟩,
  .s ⟨(some 23), .mv (.t 1), []⟩,
  .s ⟨(some 24), .build [(.int .u8 0), (.int .u8 0), (.int .i64 0), (.int .i64 0), (.int .i64 0), (.int .i64 0), (.int .i64 0)] [(0, 1, (.t 22)), (5, 1, (.t 23))], []⟩,
  .s ⟨(some 9), .alloc 24 [(.int .u8 0), (.int .u8 0), (.int .i64 0), (.int .i64 0), (.int .i64 0), (.int .i64 0), (.int .i64 0)], []⟩,
  .s ⟨none, .store 7 (.t 9) (.t 24), []⟩])
 (.seq (.reg [.s ⟨(some 25), .mv (.t 7), []⟩,
  .s ⟨(some 26), .mv (.t 8), []⟩,
  .s ⟨(some 27), .idx 1 (.t 25) (.t 26), []⟩,
  .s ⟨(some 28), .load false 1 (.t 27), []⟩,
  .s ⟨(some 29), .mv (.t 2), []⟩,
  .s ⟨(some 30), .build [(.int .u8 0), (.int .u8 0), (.int .i64 0), (.int .i64 0), (.int .i64 0), (.int .i64 0), (.int .i64 0)] [(0, 1, (.t 28)), (5, 1, (.t 29))], []⟩,
  .s ⟨(some 10), .alloc 24 [(.int .u8 0), (.int .u8 0), (.int .i64 0), (.int .i64 0), (.int .i64 0), (.int .i64 0), (.int .i64 0)], []⟩,
  .s ⟨none, .store 7 (.t 10) (.t 30), []⟩])
 (.seq (.seq (.reg [.s ⟨(some 31), .mv (.t 7), []⟩,
  .s ⟨(some 32), .mv (.t 8), []⟩,
  .s ⟨(some 33), .idx 1 (.t 31) (.t 32), []⟩,
  .s ⟨(some 34), .load false 1 (.t 33), []⟩,
  .s ⟨(some 35), .bin .eql (.t 34) (.c (.int .u8 11)), []⟩])
 (.cond (.t 35) (.seq (.reg [.s ⟨(some 36), .mv (.t 0), []⟩,
  .s ⟨(some 37), .faddr 2 (.t 9), []⟩,
  .s ⟨none, .store 1 (.t 37) (.t 36), []⟩])
 (.reg [.s ⟨(some 38), .mv (.t 0), []⟩,
  .s ⟨(some 39), .faddr 2 (.t 10), []⟩,
  .s ⟨none, .store 1 (.t 39) (.t 38), []⟩]))
 .skip))
 (.seq (.reg [.s ⟨(some 40), .mv (.t 1), []⟩,
  .s ⟨(some 41), .bin .geq (.t 40) (.c (.int .i64 0)), []⟩,
  .s ⟨(some 42), .mv (.t 41), []⟩,
  .g 42 true [⟨(some 43), .mv (.t 1), []⟩,
   ⟨(some 44), .bin .lss (.t 43) (.c (.int .i64 16777216)), []⟩],
  .s ⟨(some 45), .pick (.t 42) (.t 44) (.c (.bool false)), []⟩,
  .s ⟨(some 46), .mv (.t 45), []⟩,
  .g 46 true [⟨(some 47), .mv (.t 7), []⟩,
   ⟨(some 48), .mv (.t 8), []⟩,
   ⟨(some 49), .idx 1 (.t 47) (.t 48), []⟩,
   ⟨(some 50), .load false 1 (.t 49), []⟩,
   ⟨(some 51), .bin .neq (.t 50) (.c (.int .u8 11)), []⟩,
   ⟨(some 52), .mv (.t 51), []⟩],
  .g 52 false [⟨(some 53), .mv (.t 0), []⟩,
   ⟨(some 54), .bin .geq (.t 53) (.c (.int .i64 0)), []⟩,
   ⟨(some 55), .mv (.t 54), []⟩],
  .g 55 true [⟨(some 56), .mv (.t 0), []⟩,
   ⟨(some 57), .bin .lss (.t 56) (.c (.int .i64 16)), []⟩],
  .g 52 false [⟨(some 58), .pick (.t 55) (.t 57) (.c (.bool false)), []⟩],
  .g 46 true [⟨(some 59), .pick (.t 52) (.c (.bool true)) (.t 58), []⟩],
  .s ⟨(some 60), .pick (.t 46) (.t 59) (.c (.bool false)), []⟩,
  .s ⟨(some 11), .mv (.t 60), []⟩])
 (.seq (.seq (.reg [.s ⟨(some 61), .load true 7 (.t 9), []⟩,
  .s ⟨(some 62), .call 11 [(.t 61)], []⟩,
  .s ⟨(some 63), .mv (.t 11), []⟩,
  .s ⟨(some 64), .beq true (.t 62) (.t 63), []⟩])
 (.cond (.t 64) (.seq (.reg [.s ⟨(some 6), .mv (.c (.bool false)), []⟩])
 .ret)
 .skip))
 (.seq (.seq (.par [.s ⟨(some 65), .mv (.t 11), []⟩,
  .s ⟨(some 66), .mv (.t 65), []⟩,
  .g 66 true [⟨(some 67), .load true 7 (.t 10), []⟩,
   ⟨(some 68), .call 11 [(.t 67)], []⟩],
  .s ⟨(some 69), .pick (.t 66) (.t 68) (.c (.bool false)), []⟩,
  .s ⟨(some 70), .mv (.t 69), []⟩,
  .g 70 true [⟨(some 71), .load true 7 (.t 9), []⟩,
   ⟨(some 73), .load true 7 (.t 10), []⟩,
   ⟨(some 72), .call 13 [(.t 71)], [⟨(some (70, true)), (some 73), .load true 7 (.t 10)⟩]⟩,
   ⟨(some 74), .call 13 [(.t 73)], []⟩,
   ⟨(some 75), .bin .neq (.t 72) (.t 74), []⟩],
  .s ⟨(some 76), .pick (.t 70) (.t 75) (.c (.bool false)), []⟩])
 (.cond (.t 76) (.seq (.reg [.s ⟨(some 6), .mv (.c (.bool false)), []⟩])
 .ret)
 .skip))
 (.seq (.reg [.s ⟨(some 77), .faddr 4 (.t 9), []⟩,
  .s ⟨none, .store 1 (.t 77) (.c (.int .i64 1)), []⟩])
 (.seq (.reg [.s ⟨(some 78), .load true 7 (.t 9), []⟩,
  .s ⟨(some 79), .call 11 [(.t 78)], []⟩])
 (.cond (.t 79) (.seq (.reg [.s ⟨(some 6), .mv (.c (.bool false)), []⟩])
 .ret)
 .skip))))))))))
 (.reg [.s ⟨(some 17), .mv (.t 8), []⟩,
  .s ⟨(some 18), .bin .add (.t 17) (.c (.int .i64 1)), []⟩,
  .s ⟨(some 8), .mv (.t 18), []⟩]))))))
 (.seq (.reg [.s ⟨(some 80), .call 8 [], []⟩,
  .s ⟨(some 6), .mv (.t 80), []⟩])
 .ret))))⟩
def a8 : XFun := ⟨52, [.t 0],
 (.seq (.reg [.s ⟨(some 0), .mv (.c (.bool false)), []⟩])
 (.seq (.reg [.s ⟨(some 6), .build [(.int .u8 0), (.int .u8 0), (.int .i64 0), (.int .i64 0), (.int .i64 0), (.int .i64 0), (.int .i64 0)] [(0, 1, (.c (.int .u8 8))), (2, 1, (.c (.int .i64 1))), (3, 1, (.c (.int .i64 2))), (4, 1, (.c (.int .i64 3))), (5, 1, (.c (.int .i64 (-2)))), (6, 1, (.c (.int .i64 4)))], []⟩,
  .s ⟨(some 1), .alloc 24 [(.int .u8 0), (.int .u8 0), (.int .i64 0), (.int .i64 0), (.int .i64 0), (.int .i64 0), (.int .i64 0)], []⟩,
  .s ⟨none, .store 7 (.t 1) (.t 6), []⟩])
 (.seq (.reg [.s ⟨(some 7), .bslice 5 1 [(.int .u8 0)] [(0, 1, (.c (.int .u8 255)))], []⟩,
  .s ⟨(some 8), .load true 7 (.t 1), []⟩,
  .s ⟨(some 9), .call 10 [(.t 7), (.t 8)], []⟩,
  .s ⟨(some 2), .mv (.t 9), []⟩])
 (.seq (.reg [.s ⟨(some 11), .mv (.t 2), []⟩,
  .s ⟨(some 12), .call 19 [(.t 11), (.c (.int .i64 1))], []⟩,
  .s ⟨(some 10), .mv (.t 12), []⟩,
  .s ⟨(some 13), .ext 0 (.t 10), []⟩,
  .s ⟨(some 14), .ext 1 (.t 10), []⟩,
  .s ⟨(some 15), .ext 2 (.t 10), []⟩,
  .s ⟨(some 3), .alloc 24 [(.int .u8 0), (.int .u8 0), (.int .i64 0), (.int .i64 0), (.int .i64 0), (.int .i64 0), (.int .i64 0)], []⟩,
  .s ⟨none, .store 7 (.t 3) (.t 13), []⟩,
  .s ⟨(some 4), .mv (.t 14), []⟩,
  .s ⟨(some 5), .mv (.t 15), []⟩])
 (.seq (.reg [.s ⟨(some 16), .load true 7 (.t 1), []⟩,
  .s ⟨(some 17), .call 11 [(.t 16)], []⟩,
  .s ⟨(some 18), .mv (.t 17), []⟩,
  .g 18 true [⟨(some 19), .mv (.t 2), []⟩,
   ⟨(some 20), .lenL (.t 19), []⟩,
   ⟨(some 21), .bin .eql (.t 20) (.c (.int .i64 6)), []⟩],
  .s ⟨(some 22), .pick (.t 18) (.t 21) (.c (.bool false)), []⟩,
  .s ⟨(some 23), .mv (.t 22), []⟩,
  .g 23 true [⟨(some 24), .mv (.t 2), []⟩,
   ⟨(some 25), .idx 1 (.t 24) (.c (.int .i64 2)), []⟩,
   ⟨(some 26), .load false 1 (.t 25), []⟩,
   ⟨(some 27), .bin .eql (.t 26) (.c (.int .u8 18)), []⟩],
  .s ⟨(some 28), .pick (.t 23) (.t 27) (.c (.bool false)), []⟩,
  .s ⟨(some 29), .mv (.t 28), []⟩,
  .g 29 true [⟨(some 30), .load true 7 (.t 3), []⟩,
   ⟨(some 31), .load true 7 (.t 1), []⟩,
   ⟨(some 32), .aeq false [0, 0, 0, 0, 0, 0, 0] (.t 30) (.t 31), []⟩],
  .s ⟨(some 33), .pick (.t 29) (.t 32) (.c (.bool false)), []⟩,
  .s ⟨(some 34), .mv (.t 33), []⟩,
  .g 34 true [⟨(some 35), .mv (.t 4), []⟩,
   ⟨(some 36), .bin .eql (.t 35) (.c (.int .i64 6)), []⟩],
  .s ⟨(some 37), .pick (.t 34) (.t 36) (.c (.bool false)), []⟩,
  .s ⟨(some 38), .mv (.t 37), []⟩,
  .g 38 true [⟨(some 39), .mv (.t 5), []⟩,
   ⟨(some 40), .bin .eql (.t 39) (.c (.int .i64 0)), []⟩],
  .s ⟨(some 41), .pick (.t 38) (.t 40) (.c (.bool false)), []⟩,
  .s ⟨(some 42), .mv (.t 41), []⟩,
  .g 42 true [⟨(some 43), .load true 7 (.t 1), []⟩,
   ⟨(some 44), .call 13 [(.t 43)], []⟩,
   ⟨(some 45), .bin .eql (.t 44) (.c (.int .i64 5)), []⟩],
  .s ⟨(some 46), .pick (.t 42) (.t 45) (.c (.bool false)), []⟩,
  .s ⟨(some 47), .mv (.t 46), []⟩,
  .g 47 true [⟨(some 48), .build [(.int .u8 0), (.int .u8 0), (.int .i64 0), (.int .i64 0), (.int .i64 0), (.int .i64 0), (.int .i64 0)] [], []⟩,
   ⟨(some 49), .call 11 [(.t 48)], []⟩,
   ⟨(some 50), .un .not (.t 49), []⟩],
  .s ⟨(some 51), .pick (.t 47) (.t 50) (.c (.bool false)), []⟩,
  .s ⟨(some 0), .mv (.t 51), []⟩])
 .ret)))))⟩
theorem s8 : slimF Try.prog Try.f8 = some a8.fn := by kernel_rfl
def a9 : XFun := ⟨26, [.t 2],
 (.seq (.reg [.s ⟨(some 2), .mv (.c (.slice none 0 0)), []⟩])
 (.seq (.reg [.s ⟨(some 5), .mv (.t 0), []⟩,
  .s ⟨(some 6), .lenL (.t 5), []⟩,
  .s ⟨(some 7), .mv (.t 0), []⟩,
  .s ⟨(some 8), .lenL (.t 7), []⟩,
  .s ⟨(some 9), .bin .add (.t 8) (.c (.int .i64 8)), []⟩,
  .s ⟨(some 10), .mkslice 5 1 1 [(.int .u8 0)] (.t 6) (.t 9), []⟩,
  .s ⟨(some 3), .mv (.t 10), []⟩])
 (.seq (.reg [.s ⟨(some 11), .mv (.t 3), []⟩,
  .s ⟨(some 12), .mv (.t 0), []⟩,
  .s ⟨(some 13), .copy 1 (.t 11) (.t 12), []⟩])
 (.seq (.seq (.reg [.s ⟨(some 4), .mv (.c (.int .u8 8)), []⟩])
 (.block 0 (.loop (.seq (.seq (.reg [.s ⟨(some 14), .mv (.t 4), []⟩,
  .s ⟨(some 15), .bin .gtr (.t 14) (.c (.int .u8 0)), []⟩])
 (.cond (.t 15) .skip
 (.exit 0)))
 (.seq (.block 1 (.reg [.s ⟨(some 18), .mv (.t 3), []⟩,
  .s ⟨(some 19), .mv (.t 4), []⟩,
  .s ⟨(some 20), .bslice 5 1 [(.int .u8 0)] [(0, 1, (.t 19))], []⟩,
  .s ⟨(some 21), .app 5 1 1 (.t 18) (.t 20), []⟩,
  .s ⟨(some 3), .mv (.t 21), []⟩]))
 (.reg [.s ⟨(some 16), .mv (.t 4), []⟩,
  .s ⟨(some 17), .bin .sub (.t 16) (.c (.int .u8 1)), []⟩,
  .s ⟨(some 4), .mv (.t 17), []⟩]))))))
 (.seq (.reg [.s ⟨(some 22), .mv (.t 3), []⟩,
  .s ⟨(some 23), .mv (.t 0), []⟩,
  .s ⟨(some 24), .lenL (.t 23), []⟩,
  .s ⟨(some 25), .slc 1 (.t 22) none (some (.t 24)) none, []⟩,
  .s ⟨(some 2), .mv (.t 25), []⟩])
 .ret)))))⟩
theorem s9 : slimF Try.prog Try.f9 = some a9.fn := by kernel_rfl
def a10 : XFun := ⟨22, [.t 4],
 (.seq (.reg [.s ⟨(some 3), .box 24 (.t 1), []⟩,
  .s ⟨(some 4), .mv (.c (.slice none 0 0)), []⟩])
 (.seq (.reg [.s ⟨(some 8), .mv (.t 0), []⟩,
  .s ⟨(some 9), .call 22 [(.t 8)], []⟩,
  .s ⟨(some 5), .mv (.t 9), []⟩])
 (.seq (.seq (.reg [.s ⟨(some 10), .load true 7 (.t 3), []⟩,
  .s ⟨(some 11), .call 11 [(.t 10)], []⟩,
  .s ⟨(some 12), .un .not (.t 11), []⟩])
 (.cond (.t 12) (.seq (.reg [.s ⟨(some 13), .mv (.t 5), []⟩,
  .s ⟨(some 4), .mv (.t 13), []⟩])
 .ret)
 .skip))
 (.seq (.reg [.s ⟨(some 15), .load true 7 (.t 3), []⟩,
  .s ⟨(some 16), .call 23 [(.t 15)], []⟩,
  .s ⟨(some 14), .mv (.t 16), []⟩,
  .s ⟨(some 17), .ext 0 (.t 14), []⟩,
  .s ⟨(some 18), .ext 1 (.t 14), []⟩,
  .s ⟨(some 6), .mv (.t 17), []⟩,
  .s ⟨(some 7), .mv (.t 18), []⟩])
 (.seq (.reg [.s ⟨(some 19), .mv (.t 5), []⟩,
  .s ⟨(some 20), .mv (.t 6), []⟩,
  .s ⟨(some 21), .app 5 1 1 (.t 19) (.t 20), []⟩,
  .s ⟨(some 4), .mv (.t 21), []⟩])
 .ret)))))⟩
theorem s10 : slimF Try.prog Try.f10 = some a10.fn := by kernel_rfl
def a11 : XFun := ⟨26, [.t 2],
 (.seq (.reg [.s ⟨(some 1), .box 24 (.t 0), []⟩,
  .s ⟨(some 2), .mv (.c (.bool false)), []⟩])
 (.seq (.reg [.s ⟨(some 8), .load true 7 (.t 1), []⟩,
  .s ⟨(some 9), .call 23 [(.t 8)], []⟩,
  .s ⟨(some 7), .mv (.t 9), []⟩,
  .s ⟨(some 10), .ext 0 (.t 7), []⟩,
  .s ⟨(some 11), .ext 1 (.t 7), []⟩,
  .s ⟨(some 3), .mv (.t 10), []⟩,
  .s ⟨(some 4), .mv (.t 11), []⟩])
 (.seq (.seq (.reg [.s ⟨(some 12), .mv (.t 4), []⟩,
  .s ⟨(some 13), .un .not (.t 12), []⟩])
 (.cond (.t 13) (.seq (.reg [.s ⟨(some 2), .mv (.c (.bool false)), []⟩])
 .ret)
 .skip))
 (.seq (.reg [.s ⟨(some 15), .mv (.t 3), []⟩,
  .s ⟨(some 16), .call 24 [(.t 15), (.c (.int .i64 0))], []⟩,
  .s ⟨(some 14), .mv (.t 16), []⟩,
  .s ⟨(some 17), .ext 0 (.t 14), []⟩,
  .s ⟨(some 18), .ext 1 (.t 14), []⟩,
  .s ⟨(some 19), .ext 2 (.t 14), []⟩,
  .s ⟨(some 5), .alloc 24 [(.int .u8 0), (.int .u8 0), (.int .i64 0), (.int .i64 0), (.int .i64 0), (.int .i64 0), (.int .i64 0)], []⟩,
  .s ⟨none, .store 7 (.t 5) (.t 17), []⟩,
  .s ⟨(some 6), .mv (.t 18), []⟩,
  .s ⟨(some 4), .mv (.t 19), []⟩])
 (.seq (.reg [.s ⟨(some 20), .mv (.t 4), []⟩,
  .s ⟨(some 21), .mv (.t 20), []⟩,
  .g 21 true [⟨(some 22), .load true 7 (.t 5), []⟩,
   ⟨(some 23), .load true 7 (.t 1), []⟩,
   ⟨(some 24), .aeq false [0, 0, 0, 0, 0, 0, 0] (.t 22) (.t 23), []⟩],
  .s ⟨(some 25), .pick (.t 21) (.t 24) (.c (.bool false)), []⟩,
  .s ⟨(some 2), .mv (.t 25), []⟩])
 .ret)))))⟩
theorem s11 : slimF Try.prog Try.f11 = some a11.fn := by kernel_rfl
def a12 : XFun := ⟨131, [.t 2],
 (.seq (.reg [.s ⟨(some 1), .box 24 (.t 0), []⟩,
  .s ⟨(some 2), .mv (.c (.bool false)), []⟩])
 (.seq (.reg [.s ⟨(some 6), .faddr 0 (.t 1), []⟩,
  .s ⟨(some 7), .load false 1 (.t 6), []⟩,
  .s ⟨(some 8), .call 25 [(.t 7)], []⟩,
  .s ⟨(some 5), .mv (.t 8), []⟩,
  .s ⟨(some 9), .ext 0 (.t 5), []⟩,
  .s ⟨(some 10), .ext 1 (.t 5), []⟩,
  .s ⟨(some 3), .mv (.t 9), []⟩,
  .s ⟨(some 4), .mv (.t 10), []⟩])
 (.seq (.seq (.par [.s ⟨(some 11), .mv (.t 4), []⟩,
  .s ⟨(some 12), .un .not (.t 11), []⟩,
  .s ⟨(some 13), .mv (.t 12), []⟩,
  .g 13 false [⟨(some 14), .faddr 2 (.t 1), []⟩,
   ⟨(some 15), .load false 1 (.t 14), []⟩,
   ⟨(some 16), .mv (.t 3), []⟩,
   ⟨(some 17), .call 27 [(.t 16), (.c (.int .u8 114))], [⟨(some (13, false)), (some 15), .load false 1 (.t 14)⟩]⟩,
   ⟨(some 18), .mv (.t 17), []⟩],
  .g 18 false [⟨(some 19), .mv (.t 3), []⟩,
   ⟨(some 20), .call 27 [(.t 19), (.c (.int .u8 97))], [⟨(some (13, false)), (some 15), .load false 1 (.t 14)⟩]⟩],
  .g 13 false [⟨(some 21), .pick (.t 18) (.c (.bool true)) (.t 20), []⟩,
   ⟨(some 22), .call 26 [(.t 15), (.t 21)], []⟩,
   ⟨(some 23), .un .not (.t 22), []⟩],
  .s ⟨(some 24), .pick (.t 13) (.c (.bool true)) (.t 23), []⟩,
  .s ⟨(some 25), .mv (.t 24), []⟩,
  .g 25 false [⟨(some 26), .faddr 3 (.t 1), []⟩,
   ⟨(some 27), .load false 1 (.t 26), []⟩,
   ⟨(some 28), .mv (.t 3), []⟩,
   ⟨(some 29), .call 27 [(.t 28), (.c (.int .u8 97))], [⟨(some (25, false)), (some 27), .load false 1 (.t 26)⟩]⟩,
   ⟨(some 30), .call 26 [(.t 27), (.t 29)], []⟩,
   ⟨(some 31), .un .not (.t 30), []⟩],
  .s ⟨(some 32), .pick (.t 25) (.c (.bool true)) (.t 31), []⟩,
  .s ⟨(some 33), .mv (.t 32), []⟩,
  .g 33 false [⟨(some 34), .faddr 4 (.t 1), []⟩,
   ⟨(some 35), .load false 1 (.t 34), []⟩,
   ⟨(some 36), .mv (.t 3), []⟩,
   ⟨(some 37), .call 27 [(.t 36), (.c (.int .u8 116))], [⟨(some (33, false)), (some 35), .load false 1 (.t 34)⟩]⟩,
   ⟨(some 38), .call 26 [(.t 35), (.t 37)], []⟩,
   ⟨(some 39), .un .not (.t 38), []⟩],
  .s ⟨(some 40), .pick (.t 33) (.c (.bool true)) (.t 39), []⟩])
 (.cond (.t 40) (.seq (.reg [.s ⟨(some 2), .mv (.c (.bool false)), []⟩])
 .ret)
 .skip))
 (.seq (.seq (.reg [.s ⟨(some 41), .mv (.t 3), []⟩,
  .s ⟨(some 42), .call 27 [(.t 41), (.c (.int .u8 109))], []⟩,
  .s ⟨(some 43), .mv (.t 42), []⟩,
  .g 43 true [⟨(some 44), .faddr 6 (.t 1), []⟩,
   ⟨(some 45), .load false 1 (.t 44), []⟩,
   ⟨(some 46), .bin .lss (.t 45) (.c (.int .i64 1)), []⟩,
   ⟨(some 47), .mv (.t 46), []⟩],
  .g 47 false [⟨(some 48), .faddr 6 (.t 1), []⟩,
   ⟨(some 49), .load false 1 (.t 48), []⟩,
   ⟨(some 50), .bin .gtr (.t 49) (.c (.int .i64 65536)), []⟩],
  .g 43 true [⟨(some 51), .pick (.t 47) (.c (.bool true)) (.t 50), []⟩],
  .s ⟨(some 52), .pick (.t 43) (.t 51) (.c (.bool false)), []⟩,
  .s ⟨(some 53), .mv (.t 52), []⟩,
  .g 53 false [⟨(some 54), .mv (.t 3), []⟩,
   ⟨(some 55), .call 27 [(.t 54), (.c (.int .u8 109))], []⟩,
   ⟨(some 56), .un .not (.t 55), []⟩,
   ⟨(some 57), .mv (.t 56), []⟩],
  .g 57 true [⟨(some 58), .faddr 6 (.t 1), []⟩,
   ⟨(some 59), .load false 1 (.t 58), []⟩,
   ⟨(some 60), .bin .neq (.t 59) (.c (.int .i64 0)), []⟩],
  .g 53 false [⟨(some 61), .pick (.t 57) (.t 60) (.c (.bool false)), []⟩],
  .s ⟨(some 62), .pick (.t 53) (.c (.bool true)) (.t 61), []⟩])
 (.cond (.t 62) (.seq (.reg [.s ⟨(some 2), .mv (.c (.bool false)), []⟩])
 .ret)
 .skip))
 (.seq (.block 0 (.seq (.reg [.s ⟨(some 64), .faddr 0 (.t 1), []⟩,
  .s ⟨(some 65), .load false 1 (.t 64), []⟩,
  .s ⟨(some 66), .bin .eql (.t 65) (.c (.int .u8 4)), []⟩,
  .s ⟨(some 63), .mv (.t 66), []⟩])
 (.cond (.t 63) (.seq (.reg [.s ⟨(some 67), .faddr 1 (.t 1), []⟩,
  .s ⟨(some 68), .load false 1 (.t 67), []⟩,
  .s ⟨(some 69), .bin .lss (.t 68) (.c (.int .u8 1)), []⟩,
  .s ⟨(some 70), .mv (.t 69), []⟩,
  .g 70 false [⟨(some 71), .faddr 1 (.t 1), []⟩,
   ⟨(some 72), .load false 1 (.t 71), []⟩,
   ⟨(some 73), .bin .gtr (.t 72) (.c (.int .u8 13)), []⟩],
  .s ⟨(some 74), .pick (.t 70) (.c (.bool true)) (.t 73), []⟩])
 (.cond (.t 74) (.seq (.reg [.s ⟨(some 2), .mv (.c (.bool false)), []⟩])
 .ret)
 .skip))
 (.seq (.reg [.s ⟨(some 76), .faddr 0 (.t 1), []⟩,
  .s ⟨(some 77), .load false 1 (.t 76), []⟩,
  .s ⟨(some 78), .bin .eql (.t 77) (.c (.int .u8 5)), []⟩,
  .s ⟨(some 75), .mv (.t 78), []⟩])
 (.cond (.t 75) (.seq (.reg [.s ⟨(some 79), .faddr 1 (.t 1), []⟩,
  .s ⟨(some 80), .load false 1 (.t 79), []⟩,
  .s ⟨(some 81), .bin .neq (.t 80) (.c (.int .u8 14)), []⟩,
  .s ⟨(some 82), .mv (.t 81), []⟩,
  .g 82 true [⟨(some 83), .faddr 1 (.t 1), []⟩,
   ⟨(some 84), .load false 1 (.t 83), []⟩,
   ⟨(some 85), .bin .neq (.t 84) (.c (.int .u8 15)), []⟩],
  .s ⟨(some 86), .pick (.t 82) (.t 85) (.c (.bool false)), []⟩])
 (.cond (.t 86) (.seq (.reg [.s ⟨(some 2), .mv (.c (.bool false)), []⟩])
 .ret)
 .skip))
 (.seq (.reg [.s ⟨(some 88), .faddr 1 (.t 1), []⟩,
  .s ⟨(some 89), .load false 1 (.t 88), []⟩,
  .s ⟨(some 90), .bin .neq (.t 89) (.c (.int .u8 0)), []⟩,
  .s ⟨(some 87), .mv (.t 90), []⟩])
 (.cond (.t 87) (.seq (.reg [.s ⟨(some 2), .mv (.c (.bool false)), []⟩])
 .ret)
 .skip)))))))
 (.seq (.block 1 (.seq (.reg [.s ⟨(some 92), .faddr 0 (.t 1), []⟩,
  .s ⟨(some 93), .load false 1 (.t 92), []⟩,
  .s ⟨(some 94), .bin .eql (.t 93) (.c (.int .u8 2)), []⟩,
  .s ⟨(some 91), .mv (.t 94), []⟩])
 (.cond (.t 91) (.seq (.reg [.s ⟨(some 2), .mv (.c (.bool true)), []⟩])
 .ret)
 (.seq (.reg [.s ⟨(some 96), .mv (.t 3), []⟩,
  .s ⟨(some 97), .call 27 [(.t 96), (.c (.int .u8 110))], []⟩,
  .s ⟨(some 95), .mv (.t 97), []⟩])
 (.cond (.t 95) (.seq (.reg [.s ⟨(some 98), .faddr 5 (.t 1), []⟩,
  .s ⟨(some 99), .load false 1 (.t 98), []⟩,
  .s ⟨(some 100), .bin .geq (.t 99) (.c (.int .i64 (-65536))), []⟩,
  .s ⟨(some 101), .mv (.t 100), []⟩,
  .g 101 true [⟨(some 102), .faddr 5 (.t 1), []⟩,
   ⟨(some 103), .load false 1 (.t 102), []⟩,
   ⟨(some 104), .bin .leq (.t 103) (.c (.int .i64 65536)), []⟩],
  .s ⟨(some 105), .pick (.t 101) (.t 104) (.c (.bool false)), []⟩,
  .s ⟨(some 2), .mv (.t 105), []⟩])
 .ret)
 (.seq (.reg [.s ⟨(some 107), .mv (.t 3), []⟩,
  .s ⟨(some 108), .call 27 [(.t 107), (.c (.int .u8 106))], []⟩,
  .s ⟨(some 106), .mv (.t 108), []⟩])
 (.cond (.t 106) (.seq (.reg [.s ⟨(some 109), .faddr 5 (.t 1), []⟩,
  .s ⟨(some 110), .load false 1 (.t 109), []⟩,
  .s ⟨(some 111), .bin .geq (.t 110) (.c (.int .i64 0)), []⟩,
  .s ⟨(some 112), .mv (.t 111), []⟩,
  .g 112 true [⟨(some 113), .faddr 5 (.t 1), []⟩,
   ⟨(some 114), .load false 1 (.t 113), []⟩,
   ⟨(some 115), .bin .lss (.t 114) (.c (.int .i64 16777216)), []⟩],
  .s ⟨(some 116), .pick (.t 112) (.t 115) (.c (.bool false)), []⟩,
  .s ⟨(some 2), .mv (.t 116), []⟩])
 .ret)
 (.seq (.reg [.s ⟨(some 118), .mv (.t 3), []⟩,
  .s ⟨(some 119), .call 27 [(.t 118), (.c (.int .u8 107))], []⟩,
  .s ⟨(some 117), .mv (.t 119), []⟩])
 (.cond (.t 117) (.seq (.reg [.s ⟨(some 120), .faddr 5 (.t 1), []⟩,
  .s ⟨(some 121), .load false 1 (.t 120), []⟩,
  .s ⟨(some 122), .bin .geq (.t 121) (.c (.int .i64 2)), []⟩,
  .s ⟨(some 123), .mv (.t 122), []⟩,
  .g 123 true [⟨(some 124), .faddr 5 (.t 1), []⟩,
   ⟨(some 125), .load false 1 (.t 124), []⟩,
   ⟨(some 126), .bin .leq (.t 125) (.c (.int .i64 4)), []⟩],
  .s ⟨(some 127), .pick (.t 123) (.t 126) (.c (.bool false)), []⟩,
  .s ⟨(some 2), .mv (.t 127), []⟩])
 .ret)
 .skip)))))))))
 (.seq (.reg [.s ⟨(some 128), .faddr 5 (.t 1), []⟩,
  .s ⟨(some 129), .load false 1 (.t 128), []⟩,
  .s ⟨(some 130), .bin .eql (.t 129) (.c (.int .i64 0)), []⟩,
  .s ⟨(some 2), .mv (.t 130), []⟩])
 .ret)))))))⟩
theorem s12 : slimF Try.prog Try.f12 = some a12.fn := by kernel_rfl
def a13 : XFun := ⟨6, [.t 2],
 (.seq (.reg [.s ⟨(some 1), .box 24 (.t 0), []⟩,
  .s ⟨(some 2), .mv (.c (.int .i64 0)), []⟩])
 (.seq (.reg [.s ⟨(some 3), .load true 7 (.t 1), []⟩,
  .s ⟨(some 4), .call 10 [(.c (.slice none 0 0)), (.t 3)], []⟩,
  .s ⟨(some 5), .lenL (.t 4), []⟩,
  .s ⟨(some 2), .mv (.t 5), []⟩])
 .ret))⟩
theorem s13 : slimF Try.prog Try.f13 = some a13.fn := by kernel_rfl
def a14 : XFun := ⟨6, [.t 2],
 (.seq (.reg [.s ⟨(some 1), .box 24 (.t 0), []⟩,
  .s ⟨(some 2), .mv (.c (.int .i64 0)), []⟩])
 (.seq (.reg [.s ⟨(some 3), .load true 7 (.t 1), []⟩,
  .s ⟨(some 4), .call 16 [(.c (.slice none 0 0)), (.t 3)], []⟩,
  .s ⟨(some 5), .lenL (.t 4), []⟩,
  .s ⟨(some 2), .mv (.t 5), []⟩])
 .ret))⟩
def a15 : XFun := ⟨35, [.t 4],
 (.seq (.reg [.s ⟨(some 4), .mv (.c (.bool false)), []⟩])
 (.seq (.seq (.reg [.s ⟨(some 7), .mv (.t 0), []⟩,
  .s ⟨(some 8), .lenL (.t 7), []⟩,
  .s ⟨(some 9), .mv (.t 1), []⟩,
  .s ⟨(some 10), .lenL (.t 9), []⟩,
  .s ⟨(some 11), .bin .gtr (.t 8) (.t 10), []⟩])
 (.cond (.t 11) (.seq (.reg [.s ⟨(some 12), .mv (.t 1), []⟩,
  .s ⟨(some 13), .mv (.t 0), []⟩,
  .s ⟨(some 14), .call 15 [(.t 12), (.t 13)], []⟩,
  .s ⟨(some 4), .mv (.t 14), []⟩])
 .ret)
 .skip))
 (.seq (.seq (.reg [.s ⟨(some 15), .mv (.t 1), []⟩,
  .s ⟨(some 16), .lenL (.t 15), []⟩,
  .s ⟨(some 17), .mv (.c (.int .i64 0)), []⟩])
 (.block 0 (.loop (.seq (.reg [.s ⟨(some 18), .bin .lss (.t 17) (.t 16), []⟩])
 (.seq (.cond (.t 18) .skip
 (.exit 0))
 (.seq (.block 1 (.seq (.reg [.s ⟨(some 19), .mv (.t 17), []⟩,
  .s ⟨(some 20), .idx 1 (.t 15) (.t 17), []⟩,
  .s ⟨(some 21), .load false 1 (.t 20), []⟩,
  .s ⟨(some 5), .mv (.t 19), []⟩,
  .s ⟨(some 6), .mv (.t 21), []⟩])
 (.seq (.reg [.s ⟨(some 22), .mv (.t 5), []⟩,
  .s ⟨(some 23), .mv (.t 0), []⟩,
  .s ⟨(some 24), .lenL (.t 23), []⟩,
  .s ⟨(some 25), .bin .geq (.t 22) (.t 24), []⟩,
  .s ⟨(some 26), .mv (.t 25), []⟩,
  .g 26 false [⟨(some 27), .mv (.t 0), []⟩,
   ⟨(some 28), .mv (.t 5), []⟩,
   ⟨(some 29), .idx 1 (.t 27) (.t 28), []⟩,
   ⟨(some 30), .load false 1 (.t 29), []⟩,
   ⟨(some 31), .mv (.t 6), []⟩,
   ⟨(some 32), .bin .neq (.t 30) (.t 31), []⟩],
  .s ⟨(some 33), .pick (.t 26) (.c (.bool true)) (.t 32), []⟩])
 (.cond (.t 33) (.seq (.reg [.s ⟨(some 4), .mv (.c (.bool false)), []⟩])
 .ret)
 .skip))))
 (.reg [.s ⟨(some 34), .bin .add (.t 17) (.c (.int .i64 1)), []⟩,
  .s ⟨(some 17), .mv (.t 34), []⟩])))))))
 (.seq (.reg [.s ⟨(some 4), .mv (.c (.bool true)), []⟩])
 .ret))))⟩
theorem s15 : slimF Try.prog Try.f15 = some a15.fn := by kernel_rfl
def a16 : XFun := ⟨105, [.t 4],
 (.seq (.reg [.s ⟨(some 3), .box 24 (.t 1), []⟩,
  .s ⟨(some 4), .mv (.c (.slice none 0 0)), []⟩])
 (.seq (.reg [.s ⟨(some 11), .mv (.t 0), []⟩,
  .s ⟨(some 12), .call 21 [(.t 11)], []⟩,
  .s ⟨(some 5), .mv (.t 12), []⟩])
 (.seq (.seq (.reg [.s ⟨(some 13), .load true 7 (.t 3), []⟩,
  .s ⟨(some 14), .call 12 [(.t 13)], []⟩,
  .s ⟨(some 15), .un .not (.t 14), []⟩])
 (.cond (.t 15) (.seq (.reg [.s ⟨(some 16), .mv (.t 5), []⟩,
  .s ⟨(some 4), .mv (.t 16), []⟩])
 .ret)
 .skip))
 (.seq (.reg [.s ⟨(some 17), .mv (.t 5), []⟩,
  .s ⟨(some 18), .faddr 0 (.t 3), []⟩,
  .s ⟨(some 19), .load false 1 (.t 18), []⟩,
  .s ⟨(some 20), .bslice 5 1 [(.int .u8 0)] [(0, 1, (.t 19))], []⟩,
  .s ⟨(some 21), .app 5 1 1 (.t 17) (.t 20), []⟩,
  .s ⟨(some 5), .mv (.t 21), []⟩])
 (.seq (.reg [.s ⟨(some 23), .faddr 0 (.t 3), []⟩,
  .s ⟨(some 24), .load false 1 (.t 23), []⟩,
  .s ⟨(some 25), .call 25 [(.t 24)], []⟩,
  .s ⟨(some 22), .mv (.t 25), []⟩,
  .s ⟨(some 26), .ext 0 (.t 22), []⟩,
  .s ⟨(some 27), .ext 1 (.t 22), []⟩,
  .s ⟨(some 6), .mv (.t 26), []⟩,
  .s ⟨(some 7), .mv (.t 27), []⟩])
 (.seq (.seq (.reg [.s ⟨(some 8), .mv (.c (.int .i64 0)), []⟩])
 (.block 0 (.loop (.seq (.seq (.reg [.s ⟨(some 28), .mv (.t 8), []⟩,
  .s ⟨(some 29), .mv (.t 6), []⟩,
  .s ⟨(some 30), .lenS (.t 29), []⟩,
  .s ⟨(some 31), .bin .lss (.t 28) (.t 30), []⟩])
 (.cond (.t 31) .skip
 (.exit 0)))
 (.seq (.block 1 (.seq (.reg [.s ⟨(some 34), .mv (.t 6), []⟩,
  .s ⟨(some 35), .mv (.t 8), []⟩,
  .s ⟨(some 36), .sidx (.t 34) (.t 35), []⟩])
 (.block 2 (.seq (.reg [.s ⟨(some 38), .bin .eql (.t 36) (.c (.int .u8 111)), []⟩,
  .s ⟨(some 37), .mv (.t 38), []⟩])
 (.cond (.t 37) (.reg [.s ⟨(some 39), .mv (.t 5), []⟩,
  .s ⟨(some 40), .faddr 1 (.t 3), []⟩,
  .s ⟨(some 41), .load false 1 (.t 40), []⟩,
  .s ⟨(some 42), .bslice 5 1 [(.int .u8 0)] [(0, 1, (.t 41))], []⟩,
  .s ⟨(some 43), .app 5 1 1 (.t 39) (.t 42), []⟩,
  .s ⟨(some 5), .mv (.t 43), []⟩])
 (.seq (.reg [.s ⟨(some 45), .bin .eql (.t 36) (.c (.int .u8 114)), []⟩,
  .s ⟨(some 44), .mv (.t 45), []⟩])
 (.cond (.t 44) (.reg [.s ⟨(some 46), .mv (.t 5), []⟩,
  .s ⟨(some 47), .faddr 2 (.t 3), []⟩,
  .s ⟨(some 48), .load false 1 (.t 47), []⟩,
  .s ⟨(some 49), .cint .u8 (.t 48), []⟩,
  .s ⟨(some 50), .bslice 5 1 [(.int .u8 0)] [(0, 1, (.t 49))], []⟩,
  .s ⟨(some 51), .app 5 1 1 (.t 46) (.t 50), []⟩,
  .s ⟨(some 5), .mv (.t 51), []⟩])
 (.seq (.reg [.s ⟨(some 53), .bin .eql (.t 36) (.c (.int .u8 97)), []⟩,
  .s ⟨(some 52), .mv (.t 53), []⟩])
 (.cond (.t 52) (.seq (.reg [.s ⟨(some 55), .faddr 2 (.t 3), []⟩,
  .s ⟨(some 56), .load false 1 (.t 55), []⟩,
  .s ⟨(some 57), .faddr 3 (.t 3), []⟩,
  .s ⟨(some 58), .load false 1 (.t 57), []⟩,
  .s ⟨(some 59), .call 28 [(.t 56), (.t 58)], []⟩,
  .s ⟨(some 54), .mv (.t 59), []⟩,
  .s ⟨(some 60), .ext 0 (.t 54), []⟩,
  .s ⟨(some 61), .ext 1 (.t 54), []⟩,
  .s ⟨(some 9), .mv (.t 60), []⟩,
  .s ⟨(some 10), .mv (.t 61), []⟩])
 (.reg [.s ⟨(some 62), .mv (.t 5), []⟩,
  .s ⟨(some 63), .mv (.t 9), []⟩,
  .s ⟨(some 64), .bslice 5 1 [(.int .u8 0)] [(0, 1, (.t 63))], []⟩,
  .s ⟨(some 65), .app 5 1 1 (.t 62) (.t 64), []⟩,
  .s ⟨(some 5), .mv (.t 65), []⟩]))
 (.seq (.reg [.s ⟨(some 67), .bin .eql (.t 36) (.c (.int .u8 116)), []⟩,
  .s ⟨(some 66), .mv (.t 67), []⟩])
 (.cond (.t 66) (.reg [.s ⟨(some 68), .mv (.t 5), []⟩,
  .s ⟨(some 69), .faddr 4 (.t 3), []⟩,
  .s ⟨(some 70), .load false 1 (.t 69), []⟩,
  .s ⟨(some 71), .cint .u8 (.t 70), []⟩,
  .s ⟨(some 72), .bslice 5 1 [(.int .u8 0)] [(0, 1, (.t 71))], []⟩,
  .s ⟨(some 73), .app 5 1 1 (.t 68) (.t 72), []⟩,
  .s ⟨(some 5), .mv (.t 73), []⟩])
 (.seq (.reg [.s ⟨(some 75), .bin .eql (.t 36) (.c (.int .u8 110)), []⟩,
  .s ⟨(some 74), .mv (.t 75), []⟩])
 (.cond (.t 74) (.reg [.s ⟨(some 76), .mv (.t 5), []⟩,
  .s ⟨(some 77), .faddr 5 (.t 3), []⟩,
  .s ⟨(some 78), .load false 1 (.t 77), []⟩,
  .s ⟨(some 79), .call 29 [(.t 76), (.t 78)], []⟩,
  .s ⟨(some 5), .mv (.t 79), []⟩])
 (.seq (.reg [.s ⟨(some 81), .bin .eql (.t 36) (.c (.int .u8 109)), []⟩,
  .s ⟨(some 80), .mv (.t 81), []⟩])
 (.cond (.t 80) (.reg [.s ⟨(some 82), .mv (.t 5), []⟩,
  .s ⟨(some 83), .faddr 6 (.t 3), []⟩,
  .s ⟨(some 84), .load false 1 (.t 83), []⟩,
  .s ⟨(some 85), .cint .u64 (.t 84), []⟩,
  .s ⟨(some 86), .call 30 [(.t 82), (.t 85)], []⟩,
  .s ⟨(some 5), .mv (.t 86), []⟩])
 (.seq (.reg [.s ⟨(some 88), .bin .eql (.t 36) (.c (.int .u8 106)), []⟩,
  .s ⟨(some 87), .mv (.t 88), []⟩])
 (.cond (.t 87) (.reg [.s ⟨(some 90), .mv (.t 5), []⟩,
  .s ⟨(some 91), .faddr 5 (.t 3), []⟩,
  .s ⟨(some 92), .load false 1 (.t 91), []⟩,
  .s ⟨(some 93), .call 31 [(.t 90), (.t 92)], []⟩,
  .s ⟨(some 89), .mv (.t 93), []⟩,
  .s ⟨(some 94), .ext 0 (.t 89), []⟩,
  .s ⟨(some 95), .ext 1 (.t 89), []⟩,
  .s ⟨(some 5), .mv (.t 94), []⟩])
 (.seq (.reg [.s ⟨(some 97), .bin .eql (.t 36) (.c (.int .u8 107)), []⟩,
  .s ⟨(some 96), .mv (.t 97), []⟩])
 (.cond (.t 96) (.reg [.s ⟨(some 98), .mv (.t 5), []⟩,
  .s ⟨(some 99), .faddr 5 (.t 3), []⟩,
  .s ⟨(some 100), .load false 1 (.t 99), []⟩,
  .s ⟨(some 101), .cint .u8 (.t 100), []⟩,
  .s ⟨(some 102), .bslice 5 1 [(.int .u8 0)] [(0, 1, (.t 101))], []⟩,
  .s ⟨(some 103), .app 5 1 1 (.t 98) (.t 102), []⟩,
  .s ⟨(some 5), .mv (.t 103), []⟩])
 .skip)))))))))))))))))))
 (.reg [.s ⟨(some 32), .mv (.t 8), []⟩,
  .s ⟨(some 33), .bin .add (.t 32) (.c (.int .i64 1)), []⟩,
  .s ⟨(some 8), .mv (.t 33), []⟩]))))))
 (.seq (.reg [.s ⟨(some 104), .mv (.t 5), []⟩,
  .s ⟨(some 4), .mv (.t 104), []⟩])
 .ret)))))))⟩
theorem s16 : slimF Try.prog Try.f16 = some a16.fn := by kernel_rfl
def a17 : XFun := ⟨50, [.t 4],
 (.seq (.reg [.s ⟨(some 4), .mv (.c (.bool false)), []⟩])
 (.seq (.seq (.reg [.s ⟨(some 8), .mv (.t 0), []⟩,
  .s ⟨(some 9), .lenL (.t 8), []⟩,
  .s ⟨(some 10), .mv (.t 1), []⟩,
  .s ⟨(some 11), .lenL (.t 10), []⟩,
  .s ⟨(some 12), .bin .neq (.t 9) (.t 11), []⟩,
  .s ⟨(some 13), .mv (.t 12), []⟩,
  .g 13 false [⟨(some 14), .mv (.t 0), []⟩,
   ⟨(some 15), .capL (.t 14), []⟩,
   ⟨(some 16), .mv (.t 0), []⟩,
   ⟨(some 17), .lenL (.t 16), []⟩,
   ⟨(some 18), .bin .add (.t 17) (.c (.int .i64 8)), []⟩,
   ⟨(some 19), .bin .lss (.t 15) (.t 18), []⟩],
  .s ⟨(some 20), .pick (.t 13) (.c (.bool true)) (.t 19), []⟩])
 (.cond (.t 20) (.seq (.reg [.s ⟨(some 4), .mv (.c (.bool false)), []⟩])
 .ret)
 .skip))
 (.seq (.seq (.reg [.s ⟨(some 21), .mv (.t 0), []⟩,
  .s ⟨(some 22), .mv (.t 0), []⟩,
  .s ⟨(some 23), .lenL (.t 22), []⟩,
  .s ⟨(some 24), .bin .add (.t 23) (.c (.int .i64 8)), []⟩,
  .s ⟨(some 25), .slc 1 (.t 21) none (some (.t 24)) none, []⟩,
  .s ⟨(some 26), .lenL (.t 25), []⟩,
  .s ⟨(some 27), .mv (.c (.int .i64 0)), []⟩])
 (.block 0 (.loop (.seq (.reg [.s ⟨(some 28), .bin .lss (.t 27) (.t 26), []⟩])
 (.seq (.cond (.t 28) .skip
 (.exit 0))
 (.seq (.block 1 (.seq (.reg [.s ⟨(some 29), .mv (.t 27), []⟩,
  .s ⟨(some 30), .idx 1 (.t 25) (.t 27), []⟩,
  .s ⟨(some 31), .load false 1 (.t 30), []⟩,
  .s ⟨(some 5), .mv (.t 29), []⟩,
  .s ⟨(some 6), .mv (.t 31), []⟩])
 (.seq (.reg [.s ⟨(some 32), .mv (.t 1), []⟩,
  .s ⟨(some 33), .lenL (.t 32), []⟩,
  .s ⟨(some 34), .bin .add (.c (.int .i64 8)) (.t 33), []⟩,
  .s ⟨(some 35), .mv (.t 5), []⟩,
  .s ⟨(some 36), .bin .sub (.t 34) (.t 35), []⟩,
  .s ⟨(some 37), .cint .u8 (.t 36), []⟩,
  .s ⟨(some 7), .mv (.t 37), []⟩])
 (.seq (.seq (.reg [.s ⟨(some 38), .mv (.t 5), []⟩,
  .s ⟨(some 39), .mv (.t 1), []⟩,
  .s ⟨(some 40), .lenL (.t 39), []⟩,
  .s ⟨(some 41), .bin .lss (.t 38) (.t 40), []⟩])
 (.cond (.t 41) (.reg [.s ⟨(some 42), .mv (.t 1), []⟩,
  .s ⟨(some 43), .mv (.t 5), []⟩,
  .s ⟨(some 44), .idx 1 (.t 42) (.t 43), []⟩,
  .s ⟨(some 45), .load false 1 (.t 44), []⟩,
  .s ⟨(some 7), .mv (.t 45), []⟩])
 .skip))
 (.seq (.reg [.s ⟨(some 46), .mv (.t 6), []⟩,
  .s ⟨(some 47), .mv (.t 7), []⟩,
  .s ⟨(some 48), .bin .neq (.t 46) (.t 47), []⟩])
 (.cond (.t 48) (.seq (.reg [.s ⟨(some 4), .mv (.c (.bool false)), []⟩])
 .ret)
 .skip))))))
 (.reg [.s ⟨(some 49), .bin .add (.t 27) (.c (.int .i64 1)), []⟩,
  .s ⟨(some 27), .mv (.t 49), []⟩])))))))
 (.seq (.reg [.s ⟨(some 4), .mv (.c (.bool true)), []⟩])
 .ret))))⟩
theorem s17 : slimF Try.prog Try.f17 = some a17.fn := by kernel_rfl
def a18 : XFun := ⟨74, [.t 2],
 (.seq (.reg [.s ⟨(some 2), .mv (.c (.bool false)), []⟩])
 (.seq (.seq (.reg [.s ⟨(some 12), .mv (.t 0), []⟩,
  .s ⟨(some 13), .lenL (.t 12), []⟩,
  .s ⟨(some 14), .mv (.c (.int .i64 0)), []⟩])
 (.block 0 (.loop (.seq (.reg [.s ⟨(some 15), .bin .lss (.t 14) (.t 13), []⟩])
 (.seq (.cond (.t 15) .skip
 (.exit 0))
 (.seq (.block 1 (.seq (.reg [.s ⟨(some 16), .mv (.t 14), []⟩,
  .s ⟨(some 3), .mv (.t 16), []⟩])
 (.seq (.reg [.s ⟨(some 18), .mv (.t 0), []⟩,
  .s ⟨(some 19), .call 32 [(.t 18)], []⟩,
  .s ⟨(some 17), .mv (.t 19), []⟩,
  .s ⟨(some 20), .ext 0 (.t 17), []⟩,
  .s ⟨(some 21), .ext 1 (.t 17), []⟩,
  .s ⟨(some 4), .mv (.t 20), []⟩,
  .s ⟨(some 5), .mv (.t 21), []⟩])
 (.seq (.seq (.reg [.s ⟨(some 22), .mv (.t 5), []⟩,
  .s ⟨(some 23), .un .not (.t 22), []⟩])
 (.cond (.t 23) (.seq (.reg [.s ⟨(some 2), .mv (.c (.bool true)), []⟩])
 .ret)
 .skip))
 (.seq (.par [.s ⟨(some 24), .mv (.t 0), []⟩,
  .s ⟨(some 25), .mv (.t 3), []⟩,
  .s ⟨(some 26), .idx 1 (.t 24) (.t 25), []⟩,
  .s ⟨(some 27), .load false 1 (.t 26), []⟩,
  .s ⟨(some 28), .mv (.t 0), []⟩,
  .s ⟨(some 29), .mv (.t 3), []⟩,
  .s ⟨(some 30), .idx 1 (.t 28) (.t 29), []⟩,
  .s ⟨(some 31), .load false 1 (.t 30), []⟩,
  .s ⟨(some 32), .capL (.t 31), []⟩,
  .s ⟨(some 33), .slc 1 (.t 27) none (some (.t 32)) none, []⟩,
  .s ⟨(some 6), .mv (.t 33), []⟩])
 (.seq (.reg [.s ⟨(some 34), .mv (.t 6), []⟩,
  .s ⟨(some 35), .call 21 [(.t 34)], []⟩,
  .s ⟨(some 7), .mv (.t 35), []⟩])
 (.seq (.seq (.reg [.s ⟨(some 36), .mv (.t 6), []⟩,
  .s ⟨(some 37), .lenL (.t 36), []⟩,
  .s ⟨(some 38), .mv (.c (.int .i64 0)), []⟩])
 (.block 2 (.loop (.seq (.reg [.s ⟨(some 39), .bin .lss (.t 38) (.t 37), []⟩])
 (.seq (.cond (.t 39) .skip
 (.exit 2))
 (.seq (.block 3 (.seq (.reg [.s ⟨(some 40), .mv (.t 38), []⟩,
  .s ⟨(some 8), .mv (.t 40), []⟩])
 (.reg [.s ⟨(some 41), .mv (.t 6), []⟩,
  .s ⟨(some 42), .mv (.t 8), []⟩,
  .s ⟨(some 43), .mv (.t 4), []⟩,
  .s ⟨(some 44), .idx 1 (.t 41) (.t 42), []⟩,
  .s ⟨none, .store 1 (.t 44) (.t 43), []⟩])))
 (.reg [.s ⟨(some 45), .bin .add (.t 38) (.c (.int .i64 1)), []⟩,
  .s ⟨(some 38), .mv (.t 45), []⟩])))))))
 (.seq (.seq (.reg [.s ⟨(some 46), .mv (.t 0), []⟩,
  .s ⟨(some 47), .lenL (.t 46), []⟩,
  .s ⟨(some 48), .mv (.c (.int .i64 0)), []⟩])
 (.block 4 (.loop (.seq (.reg [.s ⟨(some 49), .bin .lss (.t 48) (.t 47), []⟩])
 (.seq (.cond (.t 49) .skip
 (.exit 4))
 (.seq (.block 5 (.seq (.reg [.s ⟨(some 50), .mv (.t 48), []⟩,
  .s ⟨(some 9), .mv (.t 50), []⟩])
 (.seq (.reg [.s ⟨(some 51), .mv (.t 0), []⟩,
  .s ⟨(some 52), .mv (.t 9), []⟩,
  .s ⟨(some 53), .idx 1 (.t 51) (.t 52), []⟩,
  .s ⟨(some 54), .load false 1 (.t 53), []⟩,
  .s ⟨(some 55), .lenL (.t 54), []⟩,
  .s ⟨(some 56), .mv (.c (.int .i64 0)), []⟩])
 (.block 6 (.loop (.seq (.reg [.s ⟨(some 57), .bin .lss (.t 56) (.t 55), []⟩])
 (.seq (.cond (.t 57) .skip
 (.exit 6))
 (.seq (.block 7 (.seq (.reg [.s ⟨(some 58), .idx 1 (.t 54) (.t 56), []⟩,
  .s ⟨(some 59), .load false 1 (.t 58), []⟩,
  .s ⟨(some 11), .mv (.t 59), []⟩])
 (.seq (.reg [.s ⟨(some 60), .mv (.t 9), []⟩,
  .s ⟨(some 61), .mv (.t 3), []⟩,
  .s ⟨(some 62), .bin .neq (.t 60) (.t 61), []⟩,
  .s ⟨(some 63), .mv (.t 62), []⟩,
  .g 63 true [⟨(some 64), .mv (.t 11), []⟩,
   ⟨(some 65), .mv (.t 4), []⟩,
   ⟨(some 66), .bin .eql (.t 64) (.t 65), []⟩],
  .s ⟨(some 67), .pick (.t 63) (.t 66) (.c (.bool false)), []⟩])
 (.cond (.t 67) (.seq (.reg [.s ⟨(some 2), .mv (.c (.bool false)), []⟩])
 .ret)
 .skip))))
 (.reg [.s ⟨(some 68), .bin .add (.t 56) (.c (.int .i64 1)), []⟩,
  .s ⟨(some 56), .mv (.t 68), []⟩])))))))))
 (.reg [.s ⟨(some 69), .bin .add (.t 48) (.c (.int .i64 1)), []⟩,
  .s ⟨(some 48), .mv (.t 69), []⟩])))))))
 (.reg [.s ⟨(some 70), .mv (.t 6), []⟩,
  .s ⟨(some 71), .mv (.t 7), []⟩,
  .s ⟨(some 72), .copy 1 (.t 70) (.t 71), []⟩])))))))))
 (.reg [.s ⟨(some 73), .bin .add (.t 14) (.c (.int .i64 1)), []⟩,
  .s ⟨(some 14), .mv (.t 73), []⟩])))))))
 (.seq (.reg [.s ⟨(some 2), .mv (.c (.bool true)), []⟩])
 .ret)))⟩
def a19 : XFun := ⟨46, [.c 4 true 7, .t 5, .t 6],
 (.seq (.reg [.s ⟨(some 4), .alloc 24 [(.int .u8 0), (.int .u8 0), (.int .i64 0), (.int .i64 0), (.int .i64 0), (.int .i64 0), (.int .i64 0)], []⟩,
  .s ⟨(some 5), .mv (.c (.int .i64 0)), []⟩,
  .s ⟨(some 6), .mv (.c (.int .i64 0)), []⟩])
 (.seq (.seq (.reg [.s ⟨(some 10), .mv (.t 1), []⟩,
  .s ⟨(some 11), .bin .lss (.t 10) (.c (.int .i64 0)), []⟩,
  .s ⟨(some 12), .mv (.t 11), []⟩,
  .g 12 false [⟨(some 13), .mv (.t 1), []⟩,
   ⟨(some 14), .mv (.t 0), []⟩,
   ⟨(some 15), .lenL (.t 14), []⟩,
   ⟨(some 16), .bin .gtr (.t 13) (.t 15), []⟩],
  .s ⟨(some 17), .pick (.t 12) (.c (.bool true)) (.t 16), []⟩])
 (.cond (.t 17) (.seq (.reg [.s ⟨(some 18), .load true 7 (.t 4), []⟩,
  .s ⟨none, .store 7 (.t 4) (.t 18), []⟩,
  .s ⟨(some 5), .mv (.c (.int .i64 0)), []⟩,
  .s ⟨(some 6), .mv (.c (.int .i64 1)), []⟩])
 .ret)
 .skip))
 (.seq (.reg [.s ⟨(some 20), .mv (.t 0), []⟩,
  .s ⟨(some 21), .mv (.t 1), []⟩,
  .s ⟨(some 22), .call 24 [(.t 20), (.t 21)], []⟩,
  .s ⟨(some 19), .mv (.t 22), []⟩,
  .s ⟨(some 23), .ext 0 (.t 19), []⟩,
  .s ⟨(some 24), .ext 1 (.t 19), []⟩,
  .s ⟨(some 25), .ext 2 (.t 19), []⟩,
  .s ⟨(some 7), .alloc 24 [(.int .u8 0), (.int .u8 0), (.int .i64 0), (.int .i64 0), (.int .i64 0), (.int .i64 0), (.int .i64 0)], []⟩,
  .s ⟨none, .store 7 (.t 7) (.t 23), []⟩,
  .s ⟨(some 8), .mv (.t 24), []⟩,
  .s ⟨(some 9), .mv (.t 25), []⟩])
 (.seq (.seq (.par [.s ⟨(some 26), .mv (.t 9), []⟩,
  .s ⟨(some 27), .un .not (.t 26), []⟩,
  .s ⟨(some 28), .mv (.t 27), []⟩,
  .g 28 false [⟨(some 29), .load true 7 (.t 7), []⟩,
   ⟨(some 30), .call 11 [(.t 29)], []⟩,
   ⟨(some 31), .un .not (.t 30), []⟩],
  .s ⟨(some 32), .pick (.t 28) (.c (.bool true)) (.t 31), []⟩,
  .s ⟨(some 33), .mv (.t 32), []⟩,
  .g 33 false [⟨(some 34), .load true 7 (.t 7), []⟩,
   ⟨(some 36), .mv (.t 0), []⟩,
   ⟨(some 37), .mv (.t 1), []⟩,
   ⟨(some 38), .mv (.t 8), []⟩,
   ⟨(some 39), .slc 1 (.t 36) (some (.t 37)) (some (.t 38)) none, []⟩,
   ⟨(some 35), .call 10 [(.c (.slice none 0 0)), (.t 34)], []⟩,
   ⟨(some 40), .call 33 [(.t 35), (.t 39)], []⟩,
   ⟨(some 41), .un .not (.t 40), []⟩],
  .s ⟨(some 42), .pick (.t 33) (.c (.bool true)) (.t 41), []⟩])
 (.cond (.t 42) (.seq (.reg [.s ⟨(some 43), .load true 7 (.t 4), []⟩,
  .s ⟨none, .store 7 (.t 4) (.t 43), []⟩,
  .s ⟨(some 5), .mv (.c (.int .i64 0)), []⟩,
  .s ⟨(some 6), .mv (.c (.int .i64 5)), []⟩])
 .ret)
 .skip))
 (.seq (.reg [.s ⟨(some 44), .load true 7 (.t 7), []⟩,
  .s ⟨(some 45), .mv (.t 8), []⟩,
  .s ⟨none, .store 7 (.t 4) (.t 44), []⟩,
  .s ⟨(some 5), .mv (.t 45), []⟩,
  .s ⟨(some 6), .mv (.c (.int .i64 0)), []⟩])
 .ret)))))⟩
theorem s19 : slimF Try.prog Try.f19 = some a19.fn := by kernel_rfl
def a20 : XFun := ⟨183, [.c 4 true 7, .t 5, .t 6],
 (.seq (.reg [.s ⟨(some 4), .alloc 24 [(.int .u8 0), (.int .u8 0), (.int .i64 0), (.int .i64 0), (.int .i64 0), (.int .i64 0), (.int .i64 0)], []⟩,
  .s ⟨(some 5), .mv (.c (.int .i64 0)), []⟩,
  .s ⟨(some 6), .mv (.c (.int .i64 0)), []⟩])
 (.seq (.reg [.s ⟨(some 7), .alloc 24 [(.int .u8 0), (.int .u8 0), (.int .i64 0), (.int .i64 0), (.int .i64 0), (.int .i64 0), (.int .i64 0)], []⟩])
 (.seq (.seq (.reg [.s ⟨(some 21), .mv (.t 1), []⟩,
  .s ⟨(some 22), .bin .lss (.t 21) (.c (.int .i64 0)), []⟩,
  .s ⟨(some 23), .mv (.t 22), []⟩,
  .g 23 false [⟨(some 24), .mv (.t 1), []⟩,
   ⟨(some 25), .mv (.t 0), []⟩,
   ⟨(some 26), .lenL (.t 25), []⟩,
   ⟨(some 27), .bin .gtr (.t 24) (.t 26), []⟩],
  .s ⟨(some 28), .pick (.t 23) (.c (.bool true)) (.t 27), []⟩])
 (.cond (.t 28) (.seq (.reg [.s ⟨(some 29), .load true 7 (.t 7), []⟩,
  .s ⟨none, .store 7 (.t 4) (.t 29), []⟩,
  .s ⟨(some 5), .mv (.c (.int .i64 0)), []⟩,
  .s ⟨(some 6), .mv (.c (.int .i64 1)), []⟩])
 .ret)
 .skip))
 (.seq (.seq (.reg [.s ⟨(some 30), .mv (.t 1), []⟩,
  .s ⟨(some 31), .mv (.t 0), []⟩,
  .s ⟨(some 32), .lenL (.t 31), []⟩,
  .s ⟨(some 33), .bin .eql (.t 30) (.t 32), []⟩])
 (.cond (.t 33) (.seq (.reg [.s ⟨(some 34), .load true 7 (.t 7), []⟩,
  .s ⟨none, .store 7 (.t 4) (.t 34), []⟩,
  .s ⟨(some 5), .mv (.c (.int .i64 0)), []⟩,
  .s ⟨(some 6), .mv (.c (.int .i64 5)), []⟩])
 .ret)
 .skip))
 (.seq (.reg [.s ⟨(some 35), .mv (.t 0), []⟩,
  .s ⟨(some 36), .mv (.t 1), []⟩,
  .s ⟨(some 37), .idx 1 (.t 35) (.t 36), []⟩,
  .s ⟨(some 38), .load false 1 (.t 37), []⟩,
  .s ⟨(some 39), .build [(.int .u8 0), (.int .u8 0), (.int .i64 0), (.int .i64 0), (.int .i64 0), (.int .i64 0), (.int .i64 0)] [(0, 1, (.t 38))], []⟩,
  .s ⟨(some 8), .alloc 24 [(.int .u8 0), (.int .u8 0), (.int .i64 0), (.int .i64 0), (.int .i64 0), (.int .i64 0), (.int .i64 0)], []⟩,
  .s ⟨none, .store 7 (.t 8) (.t 39), []⟩])
 (.seq (.reg [.s ⟨(some 41), .faddr 0 (.t 8), []⟩,
  .s ⟨(some 42), .load false 1 (.t 41), []⟩,
  .s ⟨(some 43), .call 25 [(.t 42)], []⟩,
  .s ⟨(some 40), .mv (.t 43), []⟩,
  .s ⟨(some 44), .ext 0 (.t 40), []⟩,
  .s ⟨(some 45), .ext 1 (.t 40), []⟩,
  .s ⟨(some 9), .mv (.t 44), []⟩,
  .s ⟨(some 10), .mv (.t 45), []⟩])
 (.seq (.reg [.s ⟨(some 46), .mv (.t 1), []⟩,
  .s ⟨(some 47), .bin .add (.t 46) (.c (.int .i64 1)), []⟩,
  .s ⟨(some 11), .mv (.t 47), []⟩])
 (.seq (.seq (.reg [.s ⟨(some 12), .mv (.c (.int .i64 0)), []⟩])
 (.block 0 (.loop (.seq (.seq (.reg [.s ⟨(some 48), .mv (.t 12), []⟩,
  .s ⟨(some 49), .mv (.t 9), []⟩,
  .s ⟨(some 50), .lenS (.t 49), []⟩,
  .s ⟨(some 51), .bin .lss (.t 48) (.t 50), []⟩])
 (.cond (.t 51) .skip
 (.exit 0)))
 (.seq (.block 1 (.seq (.reg [.s ⟨(some 13), .mv (.c (.int .i64 0)), []⟩])
 (.seq (.reg [.s ⟨(some 14), .mv (.c (.int .u8 0)), []⟩])
 (.seq (.seq (.reg [.s ⟨(some 54), .mv (.t 9), []⟩,
  .s ⟨(some 55), .mv (.t 12), []⟩,
  .s ⟨(some 56), .sidx (.t 54) (.t 55), []⟩,
  .s ⟨(some 57), .bin .eql (.t 56) (.c (.int .u8 111)), []⟩,
  .s ⟨(some 58), .mv (.t 57), []⟩,
  .g 58 false [⟨(some 59), .mv (.t 9), []⟩,
   ⟨(some 60), .mv (.t 12), []⟩,
   ⟨(some 61), .sidx (.t 59) (.t 60), []⟩,
   ⟨(some 62), .bin .eql (.t 61) (.c (.int .u8 114)), []⟩],
  .s ⟨(some 63), .pick (.t 58) (.c (.bool true)) (.t 62), []⟩,
  .s ⟨(some 64), .mv (.t 63), []⟩,
  .g 64 false [⟨(some 65), .mv (.t 9), []⟩,
   ⟨(some 66), .mv (.t 12), []⟩,
   ⟨(some 67), .sidx (.t 65) (.t 66), []⟩,
   ⟨(some 68), .bin .eql (.t 67) (.c (.int .u8 97)), []⟩],
  .s ⟨(some 69), .pick (.t 64) (.c (.bool true)) (.t 68), []⟩,
  .s ⟨(some 70), .mv (.t 69), []⟩,
  .g 70 false [⟨(some 71), .mv (.t 9), []⟩,
   ⟨(some 72), .mv (.t 12), []⟩,
   ⟨(some 73), .sidx (.t 71) (.t 72), []⟩,
   ⟨(some 74), .bin .eql (.t 73) (.c (.int .u8 116)), []⟩],
  .s ⟨(some 75), .pick (.t 70) (.c (.bool true)) (.t 74), []⟩,
  .s ⟨(some 76), .mv (.t 75), []⟩,
  .g 76 false [⟨(some 77), .mv (.t 9), []⟩,
   ⟨(some 78), .mv (.t 12), []⟩,
   ⟨(some 79), .sidx (.t 77) (.t 78), []⟩,
   ⟨(some 80), .bin .eql (.t 79) (.c (.int .u8 107)), []⟩],
  .s ⟨(some 81), .pick (.t 76) (.c (.bool true)) (.t 80), []⟩])
 (.cond (.t 81) (.reg [.s ⟨(some 83), .mv (.t 0), []⟩,
  .s ⟨(some 84), .mv (.t 11), []⟩,
  .s ⟨(some 85), .call 34 [(.t 83), (.t 84)], []⟩,
  .s ⟨(some 82), .mv (.t 85), []⟩,
  .s ⟨(some 86), .ext 0 (.t 82), []⟩,
  .s ⟨(some 87), .ext 1 (.t 82), []⟩,
  .s ⟨(some 88), .ext 2 (.t 82), []⟩,
  .s ⟨(some 14), .mv (.t 86), []⟩,
  .s ⟨(some 11), .mv (.t 87), []⟩,
  .s ⟨(some 13), .mv (.t 88), []⟩])
 .skip))
 (.seq (.seq (.reg [.s ⟨(some 89), .mv (.t 9), []⟩,
  .s ⟨(some 90), .mv (.t 12), []⟩,
  .s ⟨(some 91), .sidx (.t 89) (.t 90), []⟩])
 (.block 2 (.seq (.reg [.s ⟨(some 93), .bin .eql (.t 91) (.c (.int .u8 111)), []⟩,
  .s ⟨(some 92), .mv (.t 93), []⟩])
 (.cond (.t 92) (.reg [.s ⟨(some 94), .mv (.t 14), []⟩,
  .s ⟨(some 95), .faddr 1 (.t 8), []⟩,
  .s ⟨none, .store 1 (.t 95) (.t 94), []⟩])
 (.seq (.reg [.s ⟨(some 97), .bin .eql (.t 91) (.c (.int .u8 114)), []⟩,
  .s ⟨(some 96), .mv (.t 97), []⟩])
 (.cond (.t 96) (.reg [.s ⟨(some 98), .mv (.t 14), []⟩,
  .s ⟨(some 99), .cint .i64 (.t 98), []⟩,
  .s ⟨(some 100), .faddr 2 (.t 8), []⟩,
  .s ⟨none, .store 1 (.t 100) (.t 99), []⟩])
 (.seq (.reg [.s ⟨(some 102), .bin .eql (.t 91) (.c (.int .u8 97)), []⟩,
  .s ⟨(some 101), .mv (.t 102), []⟩])
 (.cond (.t 101) (.seq (.reg [.s ⟨(some 103), .mv (.t 14), []⟩,
  .s ⟨(some 104), .bin .quo (.t 103) (.c (.int .u8 16)), []⟩,
  .s ⟨(some 105), .cint .i64 (.t 104), []⟩,
  .s ⟨(some 106), .faddr 2 (.t 8), []⟩,
  .s ⟨none, .store 1 (.t 106) (.t 105), []⟩])
 (.reg [.s ⟨(some 107), .mv (.t 14), []⟩,
  .s ⟨(some 108), .bin .rem (.t 107) (.c (.int .u8 16)), []⟩,
  .s ⟨(some 109), .cint .i64 (.t 108), []⟩,
  .s ⟨(some 110), .faddr 3 (.t 8), []⟩,
  .s ⟨none, .store 1 (.t 110) (.t 109), []⟩]))
 (.seq (.reg [.s ⟨(some 112), .bin .eql (.t 91) (.c (.int .u8 116)), []⟩,
  .s ⟨(some 111), .mv (.t 112), []⟩])
 (.cond (.t 111) (.reg [.s ⟨(some 113), .mv (.t 14), []⟩,
  .s ⟨(some 114), .cint .i64 (.t 113), []⟩,
  .s ⟨(some 115), .faddr 4 (.t 8), []⟩,
  .s ⟨none, .store 1 (.t 115) (.t 114), []⟩])
 (.seq (.reg [.s ⟨(some 117), .bin .eql (.t 91) (.c (.int .u8 107)), []⟩,
  .s ⟨(some 116), .mv (.t 117), []⟩])
 (.cond (.t 116) (.reg [.s ⟨(some 118), .mv (.t 14), []⟩,
  .s ⟨(some 119), .cint .i64 (.t 118), []⟩,
  .s ⟨(some 120), .faddr 5 (.t 8), []⟩,
  .s ⟨none, .store 1 (.t 120) (.t 119), []⟩])
 (.seq (.reg [.s ⟨(some 122), .bin .eql (.t 91) (.c (.int .u8 110)), []⟩,
  .s ⟨(some 121), .mv (.t 122), []⟩])
 (.cond (.t 121) (.reg [.s ⟨(some 124), .mv (.t 0), []⟩,
  .s ⟨(some 125), .mv (.t 11), []⟩,
  .s ⟨(some 126), .call 35 [(.t 124), (.t 125)], []⟩,
  .s ⟨(some 123), .mv (.t 126), []⟩,
  .s ⟨(some 127), .ext 0 (.t 123), []⟩,
  .s ⟨(some 128), .ext 1 (.t 123), []⟩,
  .s ⟨(some 129), .ext 2 (.t 123), []⟩,
  .s ⟨(some 130), .faddr 5 (.t 8), []⟩,
  .s ⟨none, .store 1 (.t 130) (.t 127), []⟩,
  .s ⟨(some 11), .mv (.t 128), []⟩,
  .s ⟨(some 13), .mv (.t 129), []⟩])
 (.seq (.reg [.s ⟨(some 132), .bin .eql (.t 91) (.c (.int .u8 109)), []⟩,
  .s ⟨(some 131), .mv (.t 132), []⟩])
 (.cond (.t 131) (.seq (.reg [.s ⟨(some 134), .mv (.t 0), []⟩,
  .s ⟨(some 135), .mv (.t 11), []⟩,
  .s ⟨(some 136), .call 36 [(.t 134), (.t 135)], []⟩,
  .s ⟨(some 133), .mv (.t 136), []⟩,
  .s ⟨(some 137), .ext 0 (.t 133), []⟩,
  .s ⟨(some 138), .ext 1 (.t 133), []⟩,
  .s ⟨(some 139), .ext 2 (.t 133), []⟩,
  .s ⟨(some 15), .mv (.t 137), []⟩,
  .s ⟨(some 16), .mv (.t 138), []⟩,
  .s ⟨(some 17), .mv (.t 139), []⟩])
 (.seq (.reg [.s ⟨(some 140), .mv (.t 15), []⟩,
  .s ⟨(some 141), .cint .i64 (.t 140), []⟩,
  .s ⟨(some 142), .faddr 6 (.t 8), []⟩,
  .s ⟨none, .store 1 (.t 142) (.t 141), []⟩])
 (.seq (.reg [.s ⟨(some 143), .mv (.t 16), []⟩,
  .s ⟨(some 11), .mv (.t 143), []⟩])
 (.reg [.s ⟨(some 144), .mv (.t 17), []⟩,
  .s ⟨(some 13), .mv (.t 144), []⟩]))))
 (.seq (.reg [.s ⟨(some 146), .bin .eql (.t 91) (.c (.int .u8 106)), []⟩,
  .s ⟨(some 145), .mv (.t 146), []⟩])
 (.cond (.t 145) (.seq (.reg [.s ⟨(some 148), .mv (.t 0), []⟩,
  .s ⟨(some 149), .mv (.t 11), []⟩,
  .s ⟨(some 150), .call 37 [(.t 148), (.t 149)], []⟩,
  .s ⟨(some 147), .mv (.t 150), []⟩,
  .s ⟨(some 151), .ext 0 (.t 147), []⟩,
  .s ⟨(some 152), .ext 1 (.t 147), []⟩,
  .s ⟨(some 153), .ext 2 (.t 147), []⟩,
  .s ⟨(some 18), .mv (.t 151), []⟩,
  .s ⟨(some 19), .mv (.t 152), []⟩,
  .s ⟨(some 20), .mv (.t 153), []⟩])
 (.seq (.reg [.s ⟨(some 154), .mv (.t 18), []⟩,
  .s ⟨(some 155), .faddr 5 (.t 8), []⟩,
  .s ⟨none, .store 1 (.t 155) (.t 154), []⟩])
 (.seq (.reg [.s ⟨(some 156), .mv (.t 19), []⟩,
  .s ⟨(some 11), .mv (.t 156), []⟩])
 (.reg [.s ⟨(some 157), .mv (.t 20), []⟩,
  .s ⟨(some 13), .mv (.t 157), []⟩]))))
 .skip))))))))))))))))))
 (.seq (.reg [.s ⟨(some 158), .mv (.t 13), []⟩,
  .s ⟨(some 159), .bin .neq (.t 158) (.c (.int .i64 0)), []⟩])
 (.cond (.t 159) (.seq (.reg [.s ⟨(some 160), .load true 7 (.t 7), []⟩,
  .s ⟨none, .store 7 (.t 4) (.t 160), []⟩,
  .s ⟨(some 5), .mv (.c (.int .i64 0)), []⟩,
  .s ⟨(some 6), .mv (.c (.int .i64 5)), []⟩])
 .ret)
 .skip)))))))
 (.reg [.s ⟨(some 52), .mv (.t 12), []⟩,
  .s ⟨(some 53), .bin .add (.t 52) (.c (.int .i64 1)), []⟩,
  .s ⟨(some 12), .mv (.t 53), []⟩]))))))
 (.seq (.seq (.par [.s ⟨(some 161), .load true 7 (.t 8), []⟩,
  .s ⟨(some 162), .call 12 [(.t 161)], []⟩,
  .s ⟨(some 163), .un .not (.t 162), []⟩,
  .s ⟨(some 164), .mv (.t 163), []⟩,
  .g 164 false [⟨(some 165), .mv (.t 11), []⟩,
   ⟨(some 166), .mv (.t 0), []⟩,
   ⟨(some 167), .lenL (.t 166), []⟩,
   ⟨(some 168), .bin .gtr (.t 165) (.t 167), []⟩],
  .s ⟨(some 169), .pick (.t 164) (.c (.bool true)) (.t 168), []⟩,
  .s ⟨(some 170), .mv (.t 169), []⟩,
  .g 170 false [⟨(some 171), .load true 7 (.t 8), []⟩,
   ⟨(some 173), .mv (.t 0), []⟩,
   ⟨(some 174), .mv (.t 1), []⟩,
   ⟨(some 175), .mv (.t 11), []⟩,
   ⟨(some 176), .slc 1 (.t 173) (some (.t 174)) (some (.t 175)) none, []⟩,
   ⟨(some 172), .call 16 [(.c (.slice none 0 0)), (.t 171)], []⟩,
   ⟨(some 177), .call 15 [(.t 172), (.t 176)], []⟩,
   ⟨(some 178), .un .not (.t 177), []⟩],
  .s ⟨(some 179), .pick (.t 170) (.c (.bool true)) (.t 178), []⟩])
 (.cond (.t 179) (.seq (.reg [.s ⟨(some 180), .load true 7 (.t 7), []⟩,
  .s ⟨none, .store 7 (.t 4) (.t 180), []⟩,
  .s ⟨(some 5), .mv (.c (.int .i64 0)), []⟩,
  .s ⟨(some 6), .mv (.c (.int .i64 5)), []⟩])
 .ret)
 .skip))
 (.seq (.reg [.s ⟨(some 181), .load true 7 (.t 8), []⟩,
  .s ⟨(some 182), .mv (.t 11), []⟩,
  .s ⟨none, .store 7 (.t 4) (.t 181), []⟩,
  .s ⟨(some 5), .mv (.t 182), []⟩,
  .s ⟨(some 6), .mv (.c (.int .i64 0)), []⟩])
 .ret))))))))))⟩
theorem s20 : slimF Try.prog Try.f20 = some a20.fn := by kernel_rfl
def a21 : XFun := ⟨18, [.t 2],
 (.seq (.reg [.s ⟨(some 2), .mv (.c (.slice none 0 0)), []⟩])
 (.seq (.reg [.s ⟨(some 3), .mv (.c (.slice none 0 0)), []⟩])
 (.seq (.seq (.reg [.s ⟨(some 6), .mv (.t 0), []⟩,
  .s ⟨(some 7), .lenL (.t 6), []⟩,
  .s ⟨(some 8), .mv (.c (.int .i64 0)), []⟩])
 (.block 0 (.loop (.seq (.reg [.s ⟨(some 9), .bin .lss (.t 8) (.t 7), []⟩])
 (.seq (.cond (.t 9) .skip
 (.exit 0))
 (.seq (.block 1 (.seq (.reg [.s ⟨(some 10), .idx 1 (.t 6) (.t 8), []⟩,
  .s ⟨(some 11), .load false 1 (.t 10), []⟩,
  .s ⟨(some 5), .mv (.t 11), []⟩])
 (.reg [.s ⟨(some 12), .mv (.t 3), []⟩,
  .s ⟨(some 13), .mv (.t 5), []⟩,
  .s ⟨(some 14), .bslice 5 1 [(.int .u8 0)] [(0, 1, (.t 13))], []⟩,
  .s ⟨(some 15), .app 5 1 1 (.t 12) (.t 14), []⟩,
  .s ⟨(some 3), .mv (.t 15), []⟩])))
 (.reg [.s ⟨(some 16), .bin .add (.t 8) (.c (.int .i64 1)), []⟩,
  .s ⟨(some 8), .mv (.t 16), []⟩])))))))
 (.seq (.reg [.s ⟨(some 17), .mv (.t 3), []⟩,
  .s ⟨(some 2), .mv (.t 17), []⟩])
 .ret))))⟩
theorem s21 : slimF Try.prog Try.f21 = some a21.fn := by kernel_rfl
def a22 : XFun := ⟨8, [.t 2],
 (.seq (.reg [.s ⟨(some 2), .mv (.c (.slice none 0 0)), []⟩])
 (.seq (.seq (.reg [.s ⟨(some 3), .mv (.t 0), []⟩,
  .s ⟨(some 4), .snil false (.t 3), []⟩])
 (.cond (.t 4) (.seq (.reg [.s ⟨(some 2), .mv (.c (.slice none 0 0)), []⟩])
 .ret)
 .skip))
 (.seq (.reg [.s ⟨(some 5), .bslice 5 0 [] [], []⟩,
  .s ⟨(some 6), .mv (.t 0), []⟩,
  .s ⟨(some 7), .app 5 1 1 (.t 5) (.t 6), []⟩,
  .s ⟨(some 2), .mv (.t 7), []⟩])
 .ret)))⟩
theorem s22 : slimF Try.prog Try.f22 = some a22.fn := by kernel_rfl
def a23 : XFun := ⟨36, [.t 2, .t 3],
 (.seq (.reg [.s ⟨(some 1), .box 24 (.t 0), []⟩,
  .s ⟨(some 2), .mv (.c (.slice none 0 0)), []⟩,
  .s ⟨(some 3), .mv (.c (.bool false)), []⟩])
 (.seq (.reg [.s ⟨(some 10), .faddr 0 (.t 1), []⟩,
  .s ⟨(some 11), .load false 1 (.t 10), []⟩,
  .s ⟨(some 12), .call 38 [(.t 11)], []⟩,
  .s ⟨(some 9), .mv (.t 12), []⟩,
  .s ⟨(some 13), .ext 0 (.t 9), []⟩,
  .s ⟨(some 14), .ext 1 (.t 9), []⟩,
  .s ⟨(some 4), .mv (.t 13), []⟩,
  .s ⟨(some 5), .mv (.t 14), []⟩])
 (.seq (.seq (.reg [.s ⟨(some 15), .mv (.t 5), []⟩,
  .s ⟨(some 16), .un .not (.t 15), []⟩])
 (.cond (.t 16) (.seq (.reg [.s ⟨(some 2), .mv (.c (.slice none 0 0)), []⟩,
  .s ⟨(some 3), .mv (.c (.bool false)), []⟩])
 .ret)
 .skip))
 (.seq (.reg [.s ⟨(some 17), .faddr 0 (.t 1), []⟩,
  .s ⟨(some 18), .load false 1 (.t 17), []⟩,
  .s ⟨(some 19), .bslice 5 1 [(.int .u8 0)] [(0, 1, (.t 18))], []⟩,
  .s ⟨(some 6), .mv (.t 19), []⟩])
 (.seq (.seq (.reg [.s ⟨(some 20), .mv (.t 4), []⟩,
  .s ⟨(some 21), .lenL (.t 20), []⟩,
  .s ⟨(some 22), .mv (.c (.int .i64 0)), []⟩])
 (.block 0 (.loop (.seq (.reg [.s ⟨(some 23), .bin .lss (.t 22) (.t 21), []⟩])
 (.seq (.cond (.t 23) .skip
 (.exit 0))
 (.seq (.block 1 (.seq (.reg [.s ⟨(some 24), .idx 3 (.t 20) (.t 22), []⟩,
  .s ⟨(some 25), .load true 3 (.t 24), []⟩,
  .s ⟨(some 8), .alloc 73 [.nilFunc, .nilFunc, .nilFunc], []⟩,
  .s ⟨none, .store 3 (.t 8) (.t 25), []⟩])
 (.seq (.seq (.reg [.s ⟨(some 26), .faddr 0 (.t 8), []⟩,
  .s ⟨(some 27), .load false 1 (.t 26), []⟩,
  .s ⟨(some 28), .callv (.t 27) [(.t 1)], []⟩,
  .s ⟨(some 29), .un .not (.t 28), []⟩])
 (.cond (.t 29) (.seq (.reg [.s ⟨(some 2), .mv (.c (.slice none 0 0)), []⟩,
  .s ⟨(some 3), .mv (.c (.bool false)), []⟩])
 .ret)
 .skip))
 (.reg [.s ⟨(some 30), .faddr 1 (.t 8), []⟩,
  .s ⟨(some 31), .load false 1 (.t 30), []⟩,
  .s ⟨(some 32), .mv (.t 6), []⟩,
  .s ⟨(some 33), .callv (.t 31) [(.t 32), (.t 1)], []⟩,
  .s ⟨(some 6), .mv (.t 33), []⟩]))))
 (.reg [.s ⟨(some 34), .bin .add (.t 22) (.c (.int .i64 1)), []⟩,
  .s ⟨(some 22), .mv (.t 34), []⟩])))))))
 (.seq (.reg [.s ⟨(some 35), .mv (.t 6), []⟩,
  .s ⟨(some 2), .mv (.t 35), []⟩,
  .s ⟨(some 3), .mv (.c (.bool true)), []⟩])
 .ret))))))⟩
theorem s23 : slimF Try.prog Try.f23 = some a23.fn := by kernel_rfl
def a24 : XFun := ⟨47, [.c 4 true 7, .t 5, .t 6],
 (.seq (.reg [.s ⟨(some 4), .alloc 24 [(.int .u8 0), (.int .u8 0), (.int .i64 0), (.int .i64 0), (.int .i64 0), (.int .i64 0), (.int .i64 0)], []⟩,
  .s ⟨(some 5), .mv (.c (.int .i64 0)), []⟩,
  .s ⟨(some 6), .mv (.c (.bool false)), []⟩])
 (.seq (.seq (.reg [.s ⟨(some 10), .mv (.t 1), []⟩,
  .s ⟨(some 11), .mv (.t 0), []⟩,
  .s ⟨(some 12), .lenL (.t 11), []⟩,
  .s ⟨(some 13), .bin .geq (.t 10) (.t 12), []⟩])
 (.cond (.t 13) (.seq (.reg [.s ⟨(some 14), .load true 7 (.t 4), []⟩,
  .s ⟨none, .store 7 (.t 4) (.t 14), []⟩,
  .s ⟨(some 5), .mv (.c (.int .i64 0)), []⟩,
  .s ⟨(some 6), .mv (.c (.bool false)), []⟩])
 .ret)
 .skip))
 (.seq (.reg [.s ⟨(some 15), .mv (.t 0), []⟩,
  .s ⟨(some 16), .mv (.t 1), []⟩,
  .s ⟨(some 17), .idx 1 (.t 15) (.t 16), []⟩,
  .s ⟨(some 18), .load false 1 (.t 17), []⟩,
  .s ⟨(some 19), .faddr 0 (.t 4), []⟩,
  .s ⟨none, .store 1 (.t 19) (.t 18), []⟩])
 (.seq (.reg [.s ⟨(some 21), .faddr 0 (.t 4), []⟩,
  .s ⟨(some 22), .load false 1 (.t 21), []⟩,
  .s ⟨(some 23), .call 38 [(.t 22)], []⟩,
  .s ⟨(some 20), .mv (.t 23), []⟩,
  .s ⟨(some 24), .ext 0 (.t 20), []⟩,
  .s ⟨(some 25), .ext 1 (.t 20), []⟩,
  .s ⟨(some 7), .mv (.t 24), []⟩,
  .s ⟨(some 6), .mv (.t 25), []⟩])
 (.seq (.reg [.s ⟨(some 26), .mv (.t 1), []⟩,
  .s ⟨(some 27), .bin .add (.t 26) (.c (.int .i64 1)), []⟩,
  .s ⟨(some 5), .mv (.t 27), []⟩])
 (.seq (.seq (.reg [.s ⟨(some 28), .mv (.t 7), []⟩,
  .s ⟨(some 29), .lenL (.t 28), []⟩,
  .s ⟨(some 30), .mv (.c (.int .i64 0)), []⟩])
 (.block 0 (.loop (.seq (.reg [.s ⟨(some 31), .bin .lss (.t 30) (.t 29), []⟩])
 (.seq (.cond (.t 31) .skip
 (.exit 0))
 (.seq (.block 1 (.seq (.reg [.s ⟨(some 32), .idx 3 (.t 28) (.t 30), []⟩,
  .s ⟨(some 33), .load true 3 (.t 32), []⟩,
  .s ⟨(some 9), .alloc 73 [.nilFunc, .nilFunc, .nilFunc], []⟩,
  .s ⟨none, .store 3 (.t 9) (.t 33), []⟩])
 (.seq (.reg [.s ⟨(some 34), .mv (.t 6), []⟩])
 (.cond (.t 34) (.reg [.s ⟨(some 36), .faddr 2 (.t 9), []⟩,
  .s ⟨(some 37), .load false 1 (.t 36), []⟩,
  .s ⟨(some 38), .mv (.t 0), []⟩,
  .s ⟨(some 39), .mv (.t 5), []⟩,
  .s ⟨(some 40), .callv (.t 37) [(.t 38), (.t 39), (.t 4)], []⟩,
  .s ⟨(some 35), .mv (.t 40), []⟩,
  .s ⟨(some 41), .ext 0 (.t 35), []⟩,
  .s ⟨(some 42), .ext 1 (.t 35), []⟩,
  .s ⟨(some 5), .mv (.t 41), []⟩,
  .s ⟨(some 6), .mv (.t 42), []⟩])
 .skip))))
 (.reg [.s ⟨(some 43), .bin .add (.t 30) (.c (.int .i64 1)), []⟩,
  .s ⟨(some 30), .mv (.t 43), []⟩])))))))
 (.seq (.reg [.s ⟨(some 44), .load true 7 (.t 4), []⟩,
  .s ⟨(some 45), .mv (.t 5), []⟩,
  .s ⟨(some 46), .mv (.t 6), []⟩,
  .s ⟨none, .store 7 (.t 4) (.t 44), []⟩,
  .s ⟨(some 5), .mv (.t 45), []⟩,
  .s ⟨(some 6), .mv (.t 46), []⟩])
 .ret)))))))⟩
theorem s24 : slimF Try.prog Try.f24 = some a24.fn := by kernel_rfl
def a25 : XFun := ⟨20, [.t 2, .t 3],
 (.seq (.reg [.s ⟨(some 2), .mv (.c (.string ⟨#[]⟩)), []⟩,
  .s ⟨(some 3), .mv (.c (.bool false)), []⟩])
 (.seq (.reg [.s ⟨(some 5), .bslice 9 18 [(.string ⟨#[]⟩), (.string ⟨#[]⟩), (.string ⟨#[]⟩), (.string ⟨#[]⟩), (.string ⟨#[]⟩), (.string ⟨#[]⟩), (.string ⟨#[]⟩), (.string ⟨#[]⟩), (.string ⟨#[]⟩), (.string ⟨#[]⟩), (.string ⟨#[]⟩), (.string ⟨#[]⟩), (.string ⟨#[]⟩), (.string ⟨#[]⟩), (.string ⟨#[]⟩), (.string ⟨#[]⟩), (.string ⟨#[]⟩), (.string ⟨#[]⟩)] [(0, 1, (.c (.string ⟨#[]⟩))), (1, 1, (.c (.string ⟨#[114, 110]⟩))), (2, 1, (.c (.string ⟨#[97]⟩))), (3, 1, (.c (.string ⟨#[111, 97, 116]⟩))), (4, 1, (.c (.string ⟨#[111, 97]⟩))), (5, 1, (.c (.string ⟨#[97, 110]⟩))), (6, 1, (.c (.string ⟨#[97, 110]⟩))), (7, 1, (.c (.string ⟨#[97, 116, 110, 109]⟩))), (8, 1, (.c (.string ⟨#[97, 116, 110, 109]⟩))), (9, 1, (.c (.string ⟨#[106]⟩))), (10, 1, (.c (.string ⟨#[114, 106]⟩))), (11, 1, (.c (.string ⟨#[106]⟩))), (12, 1, (.c (.string ⟨#[]⟩))), (13, 1, (.c (.string ⟨#[110]⟩))), (14, 1, (.c (.string ⟨#[114]⟩))), (15, 1, (.c (.string ⟨#[114]⟩))), (16, 1, (.c (.string ⟨#[114]⟩))), (17, 1, (.c (.string ⟨#[107]⟩)))], []⟩,
  .s ⟨(some 4), .mv (.t 5), []⟩])
 (.seq (.seq (.reg [.s ⟨(some 6), .mv (.t 0), []⟩,
  .s ⟨(some 7), .bin .lss (.t 6) (.c (.int .u8 1)), []⟩,
  .s ⟨(some 8), .mv (.t 7), []⟩,
  .g 8 false [⟨(some 9), .mv (.t 0), []⟩,
   ⟨(some 10), .cint .i64 (.t 9), []⟩,
   ⟨(some 11), .mv (.t 4), []⟩,
   ⟨(some 12), .lenL (.t 11), []⟩,
   ⟨(some 13), .bin .gtr (.t 10) (.t 12), []⟩],
  .s ⟨(some 14), .pick (.t 8) (.c (.bool true)) (.t 13), []⟩])
 (.cond (.t 14) (.seq (.reg [.s ⟨(some 2), .mv (.c (.string ⟨#[]⟩)), []⟩,
  .s ⟨(some 3), .mv (.c (.bool false)), []⟩])
 .ret)
 .skip))
 (.seq (.reg [.s ⟨(some 15), .mv (.t 4), []⟩,
  .s ⟨(some 16), .mv (.t 0), []⟩,
  .s ⟨(some 17), .bin .sub (.t 16) (.c (.int .u8 1)), []⟩,
  .s ⟨(some 18), .idx 1 (.t 15) (.t 17), []⟩,
  .s ⟨(some 19), .load false 1 (.t 18), []⟩,
  .s ⟨(some 2), .mv (.t 19), []⟩,
  .s ⟨(some 3), .mv (.c (.bool true)), []⟩])
 .ret))))⟩
theorem s25 : slimF Try.prog Try.f25 = some a25.fn := by kernel_rfl
def a26 : XFun := ⟨18, [.t 4],
 (.seq (.reg [.s ⟨(some 4), .mv (.c (.bool false)), []⟩])
 (.seq (.reg [.s ⟨(some 5), .mv (.t 0), []⟩,
  .s ⟨(some 6), .bin .eql (.t 5) (.c (.int .i64 0)), []⟩,
  .s ⟨(some 7), .mv (.t 6), []⟩,
  .g 7 false [⟨(some 8), .mv (.t 1), []⟩,
   ⟨(some 9), .mv (.t 8), []⟩],
  .g 9 true [⟨(some 10), .mv (.t 0), []⟩,
   ⟨(some 11), .bin .gtr (.t 10) (.c (.int .i64 0)), []⟩],
  .g 7 false [⟨(some 12), .pick (.t 9) (.t 11) (.c (.bool false)), []⟩,
   ⟨(some 13), .mv (.t 12), []⟩],
  .g 13 true [⟨(some 14), .mv (.t 0), []⟩,
   ⟨(some 15), .bin .lss (.t 14) (.c (.int .i64 16)), []⟩],
  .g 7 false [⟨(some 16), .pick (.t 13) (.t 15) (.c (.bool false)), []⟩],
  .s ⟨(some 17), .pick (.t 7) (.c (.bool true)) (.t 16), []⟩,
  .s ⟨(some 4), .mv (.t 17), []⟩])
 .ret))⟩
theorem s26 : slimF Try.prog Try.f26 = some a26.fn := by kernel_rfl
def a27 : XFun := ⟨17, [.t 4],
 (.seq (.reg [.s ⟨(some 4), .mv (.c (.bool false)), []⟩])
 (.seq (.seq (.reg [.s ⟨(some 5), .mv (.c (.int .i64 0)), []⟩])
 (.block 0 (.loop (.seq (.seq (.reg [.s ⟨(some 6), .mv (.t 5), []⟩,
  .s ⟨(some 7), .mv (.t 0), []⟩,
  .s ⟨(some 8), .lenS (.t 7), []⟩,
  .s ⟨(some 9), .bin .lss (.t 6) (.t 8), []⟩])
 (.cond (.t 9) .skip
 (.exit 0)))
 (.seq (.block 1 (.seq (.reg [.s ⟨(some 12), .mv (.t 0), []⟩,
  .s ⟨(some 13), .mv (.t 5), []⟩,
  .s ⟨(some 14), .sidx (.t 12) (.t 13), []⟩,
  .s ⟨(some 15), .mv (.t 1), []⟩,
  .s ⟨(some 16), .bin .eql (.t 14) (.t 15), []⟩])
 (.cond (.t 16) (.seq (.reg [.s ⟨(some 4), .mv (.c (.bool true)), []⟩])
 .ret)
 .skip)))
 (.reg [.s ⟨(some 10), .mv (.t 5), []⟩,
  .s ⟨(some 11), .bin .add (.t 10) (.c (.int .i64 1)), []⟩,
  .s ⟨(some 5), .mv (.t 11), []⟩]))))))
 (.seq (.reg [.s ⟨(some 4), .mv (.c (.bool false)), []⟩])
 .ret)))⟩
theorem s27 : slimF Try.prog Try.f27 = some a27.fn := by kernel_rfl
def a28 : XFun := ⟨23, [.t 4, .t 5],
 (.seq (.reg [.s ⟨(some 4), .mv (.c (.int .u8 0)), []⟩,
  .s ⟨(some 5), .mv (.c (.bool false)), []⟩])
 (.seq (.seq (.reg [.s ⟨(some 6), .mv (.c (.int .i64 0)), []⟩])
 (.block 0 (.loop (.seq (.seq (.reg [.s ⟨(some 7), .mv (.t 6), []⟩,
  .s ⟨(some 8), .bin .lss (.t 7) (.c (.int .i64 256)), []⟩])
 (.cond (.t 8) .skip
 (.exit 0)))
 (.seq (.block 1 (.seq (.reg [.s ⟨(some 11), .mv (.t 6), []⟩,
  .s ⟨(some 12), .bin .quo (.t 11) (.c (.int .i64 16)), []⟩,
  .s ⟨(some 13), .mv (.t 0), []⟩,
  .s ⟨(some 14), .bin .eql (.t 12) (.t 13), []⟩,
  .s ⟨(some 15), .mv (.t 14), []⟩,
  .g 15 true [⟨(some 16), .mv (.t 6), []⟩,
   ⟨(some 17), .bin .rem (.t 16) (.c (.int .i64 16)), []⟩,
   ⟨(some 18), .mv (.t 1), []⟩,
   ⟨(some 19), .bin .eql (.t 17) (.t 18), []⟩],
  .s ⟨(some 20), .pick (.t 15) (.t 19) (.c (.bool false)), []⟩])
 (.cond (.t 20) (.seq (.reg [.s ⟨(some 21), .mv (.t 6), []⟩,
  .s ⟨(some 22), .cint .u8 (.t 21), []⟩,
  .s ⟨(some 4), .mv (.t 22), []⟩,
  .s ⟨(some 5), .mv (.c (.bool true)), []⟩])
 .ret)
 .skip)))
 (.reg [.s ⟨(some 9), .mv (.t 6), []⟩,
  .s ⟨(some 10), .bin .add (.t 9) (.c (.int .i64 1)), []⟩,
  .s ⟨(some 6), .mv (.t 10), []⟩]))))))
 (.seq (.reg [.s ⟨(some 4), .mv (.c (.int .u8 0)), []⟩,
  .s ⟨(some 5), .mv (.c (.bool false)), []⟩])
 .ret)))⟩
theorem s28 : slimF Try.prog Try.f28 = some a28.fn := by kernel_rfl
def a29 : XFun := ⟨19, [.t 4],
 (.seq (.reg [.s ⟨(some 4), .mv (.c (.slice none 0 0)), []⟩])
 (.seq (.reg [.s ⟨(some 5), .mv (.c (.int .i64 1)), []⟩])
 (.seq (.block 0 (.loop (.seq (.seq (.reg [.s ⟨(some 6), .mv (.t 1), []⟩,
  .s ⟨(some 7), .mv (.t 5), []⟩,
  .s ⟨(some 8), .call 39 [(.t 6), (.t 7)], []⟩,
  .s ⟨(some 9), .un .not (.t 8), []⟩])
 (.cond (.t 9) .skip
 (.exit 0)))
 (.block 1 (.reg [.s ⟨(some 10), .mv (.t 5), []⟩,
  .s ⟨(some 11), .bin .add (.t 10) (.c (.int .i64 1)), []⟩,
  .s ⟨(some 5), .mv (.t 11), []⟩])))))
 (.seq (.reg [.s ⟨(some 12), .mv (.t 0), []⟩,
  .s ⟨(some 13), .mv (.t 1), []⟩,
  .s ⟨(some 14), .cint .u64 (.t 13), []⟩,
  .s ⟨(some 15), .mv (.t 1), []⟩,
  .s ⟨(some 16), .bin .lss (.t 15) (.c (.int .i64 0)), []⟩,
  .s ⟨(some 17), .mv (.t 5), []⟩,
  .s ⟨(some 18), .call 40 [(.t 12), (.t 14), (.t 16), (.t 17)], []⟩,
  .s ⟨(some 4), .mv (.t 18), []⟩])
 .ret))))⟩
theorem s29 : slimF Try.prog Try.f29 = some a29.fn := by kernel_rfl
def a30 : XFun := ⟨16, [.t 4],
 (.seq (.reg [.s ⟨(some 4), .mv (.c (.slice none 0 0)), []⟩])
 (.seq (.reg [.s ⟨(some 5), .mv (.c (.int .i64 1)), []⟩])
 (.seq (.block 0 (.loop (.seq (.seq (.reg [.s ⟨(some 6), .mv (.t 1), []⟩,
  .s ⟨(some 7), .mv (.t 5), []⟩,
  .s ⟨(some 8), .call 41 [(.t 6), (.t 7)], []⟩,
  .s ⟨(some 9), .un .not (.t 8), []⟩])
 (.cond (.t 9) .skip
 (.exit 0)))
 (.block 1 (.reg [.s ⟨(some 10), .mv (.t 5), []⟩,
  .s ⟨(some 11), .bin .add (.t 10) (.c (.int .i64 1)), []⟩,
  .s ⟨(some 5), .mv (.t 11), []⟩])))))
 (.seq (.reg [.s ⟨(some 12), .mv (.t 0), []⟩,
  .s ⟨(some 13), .mv (.t 1), []⟩,
  .s ⟨(some 14), .mv (.t 5), []⟩,
  .s ⟨(some 15), .call 40 [(.t 12), (.t 13), (.c (.bool false)), (.t 14)], []⟩,
  .s ⟨(some 4), .mv (.t 15), []⟩])
 .ret))))⟩
theorem s30 : slimF Try.prog Try.f30 = some a30.fn := by kernel_rfl
def a31 : XFun := ⟨27, [.t 4, .t 5],
 (.seq (.reg [.s ⟨(some 4), .mv (.c (.slice none 0 0)), []⟩,
  .s ⟨(some 5), .mv (.c (.int .i64 0)), []⟩])
 (.seq (.seq (.reg [.s ⟨(some 6), .mv (.t 1), []⟩,
  .s ⟨(some 7), .bin .lss (.t 6) (.c (.int .i64 0)), []⟩,
  .s ⟨(some 8), .mv (.t 7), []⟩,
  .g 8 false [⟨(some 9), .mv (.t 1), []⟩,
   ⟨(some 10), .bin .geq (.t 9) (.c (.int .i64 16777216)), []⟩],
  .s ⟨(some 11), .pick (.t 8) (.c (.bool true)) (.t 10), []⟩])
 (.cond (.t 11) (.seq (.reg [.s ⟨(some 4), .mv (.c (.slice none 0 0)), []⟩,
  .s ⟨(some 5), .mv (.c (.int .i64 1)), []⟩])
 .ret)
 .skip))
 (.seq (.reg [.s ⟨(some 12), .bslice 5 0 [] [], []⟩,
  .s ⟨(some 13), .mv (.t 0), []⟩,
  .s ⟨(some 14), .app 5 1 1 (.t 12) (.t 13), []⟩,
  .s ⟨(some 15), .mv (.t 1), []⟩,
  .s ⟨(some 16), .bin .quo (.t 15) (.c (.int .i64 65536)), []⟩,
  .s ⟨(some 17), .cint .u8 (.t 16), []⟩,
  .s ⟨(some 18), .mv (.t 1), []⟩,
  .s ⟨(some 19), .bin .quo (.t 18) (.c (.int .i64 256)), []⟩,
  .s ⟨(some 20), .bin .rem (.t 19) (.c (.int .i64 256)), []⟩,
  .s ⟨(some 21), .cint .u8 (.t 20), []⟩,
  .s ⟨(some 22), .mv (.t 1), []⟩,
  .s ⟨(some 23), .bin .rem (.t 22) (.c (.int .i64 256)), []⟩,
  .s ⟨(some 24), .cint .u8 (.t 23), []⟩,
  .s ⟨(some 25), .bslice 5 3 [(.int .u8 0), (.int .u8 0), (.int .u8 0)] [(0, 1, (.t 17)), (1, 1, (.t 21)), (2, 1, (.t 24))], []⟩,
  .s ⟨(some 26), .app 5 1 1 (.t 14) (.t 25), []⟩,
  .s ⟨(some 4), .mv (.t 26), []⟩,
  .s ⟨(some 5), .mv (.c (.int .i64 0)), []⟩])
 .ret)))⟩
theorem s31 : slimF Try.prog Try.f31 = some a31.fn := by kernel_rfl
def a32 : XFun := ⟨37, [.t 2, .t 3],
 (.seq (.reg [.s ⟨(some 2), .mv (.c (.int .u8 0)), []⟩,
  .s ⟨(some 3), .mv (.c (.bool false)), []⟩])
 (.seq (.reg [.s ⟨(some 4), .alloc 80 [(.bool false), (.bool false), (.bool false), (.bool false), (.bool false), (.bool false), (.bool false), (.bool false), (.bool false), (.bool false), (.bool false), (.bool false), (.bool false), (.bool false), (.bool false), (.bool false), (.bool false), (.bool false), (.bool false), (.bool false), (.bool false), (.bool false), (.bool false), (.bool false), (.bool false), (.bool false), (.bool false), (.bool false), (.bool false), (.bool false), (.bool false), (.bool false), (.bool false), (.bool false), (.bool false), (.bool false), (.bool false), (.bool false), (.bool false), (.bool false), (.bool false), (.bool false), (.bool false), (.bool false), (.bool false), (.bool false), (.bool false), (.bool false), (.bool false), (.bool false), (.bool false), (.bool false), (.bool false), (.bool false), (.bool false), (.bool false), (.bool false), (.bool false), (.bool false), (.bool false), (.bool false), (.bool false), (.bool false), (.bool false), (.bool false), (.bool false), (.bool false), (.bool false), (.bool false), (.bool false), (.bool false), (.bool false), (.bool false), (.bool false), (.bool false), (.bool false), (.bool false), (.bool false), (.bool false), (.bool false), (.bool false), (.bool false), (.bool false), (.bool false), (.bool false), (.bool false), (.bool false), (.bool false), (.bool false), (.bool false), (.bool false), (.bool false), (.bool false), (.bool false), (.bool false), (.bool false), (.bool false), (.bool false), (.bool false), (.bool false), (.bool false), (.bool false), (.bool false), (.bool false), (.bool false), (.bool false), (.bool false), (.bool false), (.bool false), (.bool false), (.bool false), (.bool false), (.bool false), (.bool false), (.bool false), (.bool false), (.bool false), (.bool false), (.bool false), (.bool false), (.bool false), (.bool false), (.bool false), (.bool false), (.bool false), (.bool false), (.bool false), (.bool false), (.bool false), (.bool false), (.bool false), (.bool false), (.bool false), (.bool false), (.bool false), (.bool false), (.bool false), (.bool false), (.bool false), (.bool false), (.bool false), (.bool false), (.bool false), (.bool false), (.bool false), (.bool false), (.bool false), (.bool false), (.bool false), (.bool false), (.bool false), (.bool false), (.bool false), (.bool false), (.bool false), (.bool false), (.bool false), (.bool false), (.bool false), (.bool false), (.bool false), (.bool false), (.bool false), (.bool false), (.bool false), (.bool false), (.bool false), (.bool false), (.bool false), (.bool false), (.bool false), (.bool false), (.bool false), (.bool false), (.bool false), (.bool false), (.bool false), (.bool false), (.bool false), (.bool false), (.bool false), (.bool false), (.bool false), (.bool false), (.bool false), (.bool false), (.bool false), (.bool false), (.bool false), (.bool false), (.bool false), (.bool false), (.bool false), (.bool false), (.bool false), (.bool false), (.bool false), (.bool false), (.bool false), (.bool false), (.bool false), (.bool false), (.bool false), (.bool false), (.bool false), (.bool false), (.bool false), (.bool false), (.bool false), (.bool false), (.bool false), (.bool false), (.bool false), (.bool false), (.bool false), (.bool false), (.bool false), (.bool false), (.bool false), (.bool false), (.bool false), (.bool false), (.bool false), (.bool false), (.bool false), (.bool false), (.bool false), (.bool false), (.bool false), (.bool false), (.bool false), (.bool false), (.bool false), (.bool false), (.bool false), (.bool false), (.bool false), (.bool false), (.bool false), (.bool false), (.bool false), (.bool false), (.bool false), (.bool false), (.bool false), (.bool false), (.bool false), (.bool false), (.bool false), (.bool false), (.bool false), (.bool false), (.bool false), (.bool false), (.bool false), (.bool false)], []⟩])
 (.seq (.seq (.reg [.s ⟨(some 11), .mv (.t 0), []⟩,
  .s ⟨(some 12), .lenL (.t 11), []⟩,
  .s ⟨(some 13), .mv (.c (.int .i64 0)), []⟩])
 (.block 0 (.loop (.seq (.reg [.s ⟨(some 14), .bin .lss (.t 13) (.t 12), []⟩])
 (.seq (.cond (.t 14) .skip
 (.exit 0))
 (.seq (.block 1 (.seq (.reg [.s ⟨(some 15), .idx 1 (.t 11) (.t 13), []⟩,
  .s ⟨(some 16), .load false 1 (.t 15), []⟩,
  .s ⟨(some 6), .mv (.t 16), []⟩])
 (.seq (.reg [.s ⟨(some 17), .mv (.t 6), []⟩,
  .s ⟨(some 18), .lenL (.t 17), []⟩,
  .s ⟨(some 19), .mv (.c (.int .i64 0)), []⟩])
 (.block 2 (.loop (.seq (.reg [.s ⟨(some 20), .bin .lss (.t 19) (.t 18), []⟩])
 (.seq (.cond (.t 20) .skip
 (.exit 2))
 (.seq (.block 3 (.seq (.reg [.s ⟨(some 21), .idx 1 (.t 17) (.t 19), []⟩,
  .s ⟨(some 22), .load false 1 (.t 21), []⟩,
  .s ⟨(some 8), .mv (.t 22), []⟩])
 (.reg [.s ⟨(some 23), .mv (.t 8), []⟩,
  .s ⟨(some 24), .aaddr 256 1 (.t 4) (.t 23), []⟩,
  .s ⟨none, .store 1 (.t 24) (.c (.bool true)), []⟩])))
 (.reg [.s ⟨(some 25), .bin .add (.t 19) (.c (.int .i64 1)), []⟩,
  .s ⟨(some 19), .mv (.t 25), []⟩])))))))))
 (.reg [.s ⟨(some 26), .bin .add (.t 13) (.c (.int .i64 1)), []⟩,
  .s ⟨(some 13), .mv (.t 26), []⟩])))))))
 (.seq (.seq (.reg [.s ⟨(some 27), .load true 256 (.t 4), []⟩,
  .s ⟨(some 28), .mv (.c (.int .i64 0)), []⟩])
 (.block 4 (.loop (.seq (.reg [.s ⟨(some 29), .bin .lss (.t 28) (.c (.int .i64 256)), []⟩])
 (.seq (.cond (.t 29) .skip
 (.exit 4))
 (.seq (.block 5 (.seq (.reg [.s ⟨(some 30), .mv (.t 28), []⟩,
  .s ⟨(some 31), .aidx false 256 1 (.t 27) (.t 28), []⟩,
  .s ⟨(some 9), .mv (.t 30), []⟩,
  .s ⟨(some 10), .mv (.t 31), []⟩])
 (.seq (.reg [.s ⟨(some 32), .mv (.t 10), []⟩,
  .s ⟨(some 33), .un .not (.t 32), []⟩])
 (.cond (.t 33) (.seq (.reg [.s ⟨(some 34), .mv (.t 9), []⟩,
  .s ⟨(some 35), .cint .u8 (.t 34), []⟩,
  .s ⟨(some 2), .mv (.t 35), []⟩,
  .s ⟨(some 3), .mv (.c (.bool true)), []⟩])
 .ret)
 .skip))))
 (.reg [.s ⟨(some 36), .bin .add (.t 28) (.c (.int .i64 1)), []⟩,
  .s ⟨(some 28), .mv (.t 36), []⟩])))))))
 (.seq (.reg [.s ⟨(some 2), .mv (.c (.int .u8 0)), []⟩,
  .s ⟨(some 3), .mv (.c (.bool false)), []⟩])
 .ret)))))⟩
def a33 : XFun := ⟨10, [.t 4],
 (.seq (.reg [.s ⟨(some 4), .mv (.c (.bool false)), []⟩])
 (.seq (.reg [.s ⟨(some 5), .mv (.t 0), []⟩,
  .s ⟨(some 6), .tostr (.t 5), []⟩,
  .s ⟨(some 7), .mv (.t 1), []⟩,
  .s ⟨(some 8), .tostr (.t 7), []⟩,
  .s ⟨(some 9), .bin .eql (.t 6) (.t 8), []⟩,
  .s ⟨(some 4), .mv (.t 9), []⟩])
 .ret))⟩
theorem s33 : slimF Try.prog Try.f33 = some a33.fn := by kernel_rfl
def a34 : XFun := ⟨20, [.t 4, .t 5, .t 6],
 (.seq (.reg [.s ⟨(some 4), .mv (.c (.int .u8 0)), []⟩,
  .s ⟨(some 5), .mv (.c (.int .i64 0)), []⟩,
  .s ⟨(some 6), .mv (.c (.int .i64 0)), []⟩])
 (.seq (.reg [.s ⟨(some 8), .mv (.t 0), []⟩,
  .s ⟨(some 9), .mv (.t 1), []⟩,
  .s ⟨(some 10), .call 42 [(.t 8), (.t 9), (.c (.int .i64 1))], []⟩,
  .s ⟨(some 7), .mv (.t 10), []⟩])
 (.seq (.seq (.reg [.s ⟨(some 11), .mv (.t 7), []⟩,
  .s ⟨(some 12), .bin .neq (.t 11) (.c (.int .i64 0)), []⟩])
 (.cond (.t 12) (.seq (.reg [.s ⟨(some 13), .mv (.t 7), []⟩,
  .s ⟨(some 4), .mv (.c (.int .u8 0)), []⟩,
  .s ⟨(some 5), .mv (.c (.int .i64 0)), []⟩,
  .s ⟨(some 6), .mv (.t 13), []⟩])
 .ret)
 .skip))
 (.seq (.reg [.s ⟨(some 14), .mv (.t 0), []⟩,
  .s ⟨(some 15), .mv (.t 1), []⟩,
  .s ⟨(some 16), .idx 1 (.t 14) (.t 15), []⟩,
  .s ⟨(some 17), .load false 1 (.t 16), []⟩,
  .s ⟨(some 18), .mv (.t 1), []⟩,
  .s ⟨(some 19), .bin .add (.t 18) (.c (.int .i64 1)), []⟩,
  .s ⟨(some 4), .mv (.t 17), []⟩,
  .s ⟨(some 5), .mv (.t 19), []⟩,
  .s ⟨(some 6), .mv (.c (.int .i64 0)), []⟩])
 .ret))))⟩
theorem s34 : slimF Try.prog Try.f34 = some a34.fn := by kernel_rfl
def a35 : XFun := ⟨56, [.t 4, .t 5, .t 6],
 (.seq (.reg [.s ⟨(some 4), .mv (.c (.int .i64 0)), []⟩,
  .s ⟨(some 5), .mv (.c (.int .i64 0)), []⟩,
  .s ⟨(some 6), .mv (.c (.int .i64 0)), []⟩])
 (.seq (.seq (.reg [.s ⟨(some 9), .mv (.t 1), []⟩,
  .s ⟨(some 10), .bin .lss (.t 9) (.c (.int .i64 0)), []⟩,
  .s ⟨(some 11), .mv (.t 10), []⟩,
  .g 11 false [⟨(some 12), .mv (.t 1), []⟩,
   ⟨(some 13), .mv (.t 0), []⟩,
   ⟨(some 14), .lenL (.t 13), []⟩,
   ⟨(some 15), .bin .gtr (.t 12) (.t 14), []⟩],
  .s ⟨(some 16), .pick (.t 11) (.c (.bool true)) (.t 15), []⟩])
 (.cond (.t 16) (.seq (.reg [.s ⟨(some 4), .mv (.c (.int .i64 0)), []⟩,
  .s ⟨(some 5), .mv (.c (.int .i64 0)), []⟩,
  .s ⟨(some 6), .mv (.c (.int .i64 1)), []⟩])
 .ret)
 .skip))
 (.seq (.reg [.s ⟨(some 17), .mv (.t 0), []⟩,
  .s ⟨(some 18), .mv (.t 1), []⟩,
  .s ⟨(some 19), .call 43 [(.t 17), (.t 18)], []⟩,
  .s ⟨(some 7), .mv (.t 19), []⟩])
 (.seq (.seq (.reg [.s ⟨(some 20), .mv (.t 7), []⟩,
  .s ⟨(some 21), .bin .eql (.t 20) (.c (.int .i64 0)), []⟩])
 (.cond (.t 21) (.seq (.reg [.s ⟨(some 4), .mv (.c (.int .i64 0)), []⟩,
  .s ⟨(some 5), .mv (.c (.int .i64 0)), []⟩,
  .s ⟨(some 6), .mv (.c (.int .i64 5)), []⟩])
 .ret)
 .skip))
 (.seq (.reg [.s ⟨(some 22), .mv (.t 0), []⟩,
  .s ⟨(some 23), .mv (.t 1), []⟩,
  .s ⟨(some 24), .mv (.t 7), []⟩,
  .s ⟨(some 25), .call 44 [(.t 22), (.t 23), (.t 24)], []⟩,
  .s ⟨(some 8), .mv (.t 25), []⟩])
 (.seq (.seq (.reg [.s ⟨(some 26), .mv (.t 0), []⟩,
  .s ⟨(some 27), .mv (.t 1), []⟩,
  .s ⟨(some 28), .mv (.t 7), []⟩,
  .s ⟨(some 29), .bin .add (.t 27) (.t 28), []⟩,
  .s ⟨(some 30), .bin .sub (.t 29) (.c (.int .i64 1)), []⟩,
  .s ⟨(some 31), .idx 1 (.t 26) (.t 30), []⟩,
  .s ⟨(some 32), .load false 1 (.t 31), []⟩,
  .s ⟨(some 33), .bin .geq (.t 32) (.c (.int .u8 64)), []⟩,
  .s ⟨(some 34), .mv (.t 33), []⟩,
  .g 34 true [⟨(some 35), .mv (.t 7), []⟩,
   ⟨(some 36), .bin .lss (.t 35) (.c (.int .i64 10)), []⟩],
  .s ⟨(some 37), .pick (.t 34) (.t 36) (.c (.bool false)), []⟩])
 (.cond (.t 37) (.reg [.s ⟨(some 38), .mv (.t 8), []⟩,
  .s ⟨(some 39), .mv (.t 7), []⟩,
  .s ⟨(some 40), .bin .mul (.c (.int .i64 7)) (.t 39), []⟩,
  .s ⟨(some 41), .cint .u64 (.t 40), []⟩,
  .s ⟨(some 42), .bin .shl (.c (.int .u64 1)) (.t 41), []⟩,
  .s ⟨(some 43), .bin .sub (.t 38) (.t 42), []⟩,
  .s ⟨(some 8), .mv (.t 43), []⟩])
 .skip))
 (.seq (.seq (.reg [.s ⟨(some 44), .mv (.t 0), []⟩,
  .s ⟨(some 45), .mv (.t 1), []⟩,
  .s ⟨(some 46), .mv (.t 8), []⟩,
  .s ⟨(some 47), .cint .i64 (.t 46), []⟩,
  .s ⟨(some 48), .call 29 [(.c (.slice none 0 0)), (.t 47)], []⟩,
  .s ⟨(some 49), .call 45 [(.t 44), (.t 45), (.t 48)], []⟩,
  .s ⟨(some 50), .un .not (.t 49), []⟩])
 (.cond (.t 50) (.seq (.reg [.s ⟨(some 4), .mv (.c (.int .i64 0)), []⟩,
  .s ⟨(some 5), .mv (.c (.int .i64 0)), []⟩,
  .s ⟨(some 6), .mv (.c (.int .i64 5)), []⟩])
 .ret)
 .skip))
 (.seq (.reg [.s ⟨(some 51), .mv (.t 8), []⟩,
  .s ⟨(some 52), .cint .i64 (.t 51), []⟩,
  .s ⟨(some 53), .mv (.t 1), []⟩,
  .s ⟨(some 54), .mv (.t 7), []⟩,
  .s ⟨(some 55), .bin .add (.t 53) (.t 54), []⟩,
  .s ⟨(some 4), .mv (.t 52), []⟩,
  .s ⟨(some 5), .mv (.t 55), []⟩,
  .s ⟨(some 6), .mv (.c (.int .i64 0)), []⟩])
 .ret))))))))⟩
theorem s35 : slimF Try.prog Try.f35 = some a35.fn := by kernel_rfl
def a36 : XFun := ⟨38, [.t 4, .t 5, .t 6],
 (.seq (.reg [.s ⟨(some 4), .mv (.c (.int .u64 0)), []⟩,
  .s ⟨(some 5), .mv (.c (.int .i64 0)), []⟩,
  .s ⟨(some 6), .mv (.c (.int .i64 0)), []⟩])
 (.seq (.seq (.reg [.s ⟨(some 9), .mv (.t 1), []⟩,
  .s ⟨(some 10), .bin .lss (.t 9) (.c (.int .i64 0)), []⟩,
  .s ⟨(some 11), .mv (.t 10), []⟩,
  .g 11 false [⟨(some 12), .mv (.t 1), []⟩,
   ⟨(some 13), .mv (.t 0), []⟩,
   ⟨(some 14), .lenL (.t 13), []⟩,
   ⟨(some 15), .bin .gtr (.t 12) (.t 14), []⟩],
  .s ⟨(some 16), .pick (.t 11) (.c (.bool true)) (.t 15), []⟩])
 (.cond (.t 16) (.seq (.reg [.s ⟨(some 4), .mv (.c (.int .u64 0)), []⟩,
  .s ⟨(some 5), .mv (.c (.int .i64 0)), []⟩,
  .s ⟨(some 6), .mv (.c (.int .i64 1)), []⟩])
 .ret)
 .skip))
 (.seq (.reg [.s ⟨(some 17), .mv (.t 0), []⟩,
  .s ⟨(some 18), .mv (.t 1), []⟩,
  .s ⟨(some 19), .call 43 [(.t 17), (.t 18)], []⟩,
  .s ⟨(some 7), .mv (.t 19), []⟩])
 (.seq (.reg [.s ⟨(some 20), .mv (.t 0), []⟩,
  .s ⟨(some 21), .mv (.t 1), []⟩,
  .s ⟨(some 22), .mv (.t 7), []⟩,
  .s ⟨(some 23), .call 44 [(.t 20), (.t 21), (.t 22)], []⟩,
  .s ⟨(some 8), .mv (.t 23), []⟩])
 (.seq (.seq (.reg [.s ⟨(some 24), .mv (.t 7), []⟩,
  .s ⟨(some 25), .bin .eql (.t 24) (.c (.int .i64 0)), []⟩,
  .s ⟨(some 26), .mv (.t 25), []⟩,
  .g 26 false [⟨(some 27), .mv (.t 0), []⟩,
   ⟨(some 28), .mv (.t 1), []⟩,
   ⟨(some 29), .mv (.t 8), []⟩,
   ⟨(some 30), .call 30 [(.c (.slice none 0 0)), (.t 29)], []⟩,
   ⟨(some 31), .call 45 [(.t 27), (.t 28), (.t 30)], []⟩,
   ⟨(some 32), .un .not (.t 31), []⟩],
  .s ⟨(some 33), .pick (.t 26) (.c (.bool true)) (.t 32), []⟩])
 (.cond (.t 33) (.seq (.reg [.s ⟨(some 4), .mv (.c (.int .u64 0)), []⟩,
  .s ⟨(some 5), .mv (.c (.int .i64 0)), []⟩,
  .s ⟨(some 6), .mv (.c (.int .i64 5)), []⟩])
 .ret)
 .skip))
 (.seq (.reg [.s ⟨(some 34), .mv (.t 8), []⟩,
  .s ⟨(some 35), .mv (.t 1), []⟩,
  .s ⟨(some 36), .mv (.t 7), []⟩,
  .s ⟨(some 37), .bin .add (.t 35) (.t 36), []⟩,
  .s ⟨(some 4), .mv (.t 34), []⟩,
  .s ⟨(some 5), .mv (.t 37), []⟩,
  .s ⟨(some 6), .mv (.c (.int .i64 0)), []⟩])
 .ret))))))⟩
theorem s36 : slimF Try.prog Try.f36 = some a36.fn := by kernel_rfl
def a37 : XFun := ⟨37, [.t 4, .t 5, .t 6],
 (.seq (.reg [.s ⟨(some 4), .mv (.c (.int .i64 0)), []⟩,
  .s ⟨(some 5), .mv (.c (.int .i64 0)), []⟩,
  .s ⟨(some 6), .mv (.c (.int .i64 0)), []⟩])
 (.seq (.reg [.s ⟨(some 8), .mv (.t 0), []⟩,
  .s ⟨(some 9), .mv (.t 1), []⟩,
  .s ⟨(some 10), .call 42 [(.t 8), (.t 9), (.c (.int .i64 3))], []⟩,
  .s ⟨(some 7), .mv (.t 10), []⟩])
 (.seq (.seq (.reg [.s ⟨(some 11), .mv (.t 7), []⟩,
  .s ⟨(some 12), .bin .neq (.t 11) (.c (.int .i64 0)), []⟩])
 (.cond (.t 12) (.seq (.reg [.s ⟨(some 13), .mv (.t 7), []⟩,
  .s ⟨(some 4), .mv (.c (.int .i64 0)), []⟩,
  .s ⟨(some 5), .mv (.c (.int .i64 0)), []⟩,
  .s ⟨(some 6), .mv (.t 13), []⟩])
 .ret)
 .skip))
 (.seq (.par [.s ⟨(some 14), .mv (.t 0), []⟩,
  .s ⟨(some 15), .mv (.t 1), []⟩,
  .s ⟨(some 16), .idx 1 (.t 14) (.t 15), []⟩,
  .s ⟨(some 17), .load false 1 (.t 16), []⟩,
  .s ⟨(some 18), .cint .i64 (.t 17), []⟩,
  .s ⟨(some 19), .bin .mul (.c (.int .i64 65536)) (.t 18), []⟩,
  .s ⟨(some 20), .mv (.t 0), []⟩,
  .s ⟨(some 21), .mv (.t 1), []⟩,
  .s ⟨(some 22), .bin .add (.t 21) (.c (.int .i64 1)), []⟩,
  .s ⟨(some 23), .idx 1 (.t 20) (.t 22), []⟩,
  .s ⟨(some 24), .load false 1 (.t 23), []⟩,
  .s ⟨(some 25), .cint .i64 (.t 24), []⟩,
  .s ⟨(some 26), .bin .mul (.c (.int .i64 256)) (.t 25), []⟩,
  .s ⟨(some 27), .bin .add (.t 19) (.t 26), []⟩,
  .s ⟨(some 28), .mv (.t 0), []⟩,
  .s ⟨(some 29), .mv (.t 1), []⟩,
  .s ⟨(some 30), .bin .add (.t 29) (.c (.int .i64 2)), []⟩,
  .s ⟨(some 31), .idx 1 (.t 28) (.t 30), []⟩,
  .s ⟨(some 32), .load false 1 (.t 31), []⟩,
  .s ⟨(some 33), .cint .i64 (.t 32), []⟩,
  .s ⟨(some 34), .bin .add (.t 27) (.t 33), []⟩,
  .s ⟨(some 35), .mv (.t 1), []⟩,
  .s ⟨(some 36), .bin .add (.t 35) (.c (.int .i64 3)), []⟩,
  .s ⟨(some 4), .mv (.t 34), []⟩,
  .s ⟨(some 5), .mv (.t 36), []⟩,
  .s ⟨(some 6), .mv (.c (.int .i64 0)), []⟩])
 .ret))))⟩
theorem s37 : slimF Try.prog Try.f37 = some a37.fn := by kernel_rfl
def a38 : XFun := ⟨68, [.t 2, .t 3],
 (.seq (.reg [.s ⟨(some 2), .mv (.c (.slice none 0 0)), []⟩,
  .s ⟨(some 3), .mv (.c (.bool false)), []⟩])
 (.seq (.reg [.s ⟨(some 4), .mv (.fn 46), []⟩])
 (.seq (.seq (.reg [.s ⟨(some 5), .mv (.t 0), []⟩])
 (.block 0 (.seq (.seq (.reg [.s ⟨(some 7), .bin .eql (.t 5) (.c (.int .u8 1)), []⟩,
  .s ⟨(some 6), .mv (.t 7), []⟩])
 (.cond (.t 6) .skip
 (.reg [.s ⟨(some 8), .bin .eql (.t 5) (.c (.int .u8 13)), []⟩,
  .s ⟨(some 6), .mv (.t 8), []⟩])))
 (.cond (.t 6) (.seq (.reg [.s ⟨(some 2), .mv (.c (.slice none 0 0)), []⟩,
  .s ⟨(some 3), .mv (.c (.bool true)), []⟩])
 .ret)
 (.seq (.reg [.s ⟨(some 10), .bin .eql (.t 5) (.c (.int .u8 2)), []⟩,
  .s ⟨(some 9), .mv (.t 10), []⟩])
 (.cond (.t 9) (.seq (.reg [.s ⟨(some 11), .call 47 [], []⟩,
  .s ⟨(some 12), .mv (.t 4), []⟩,
  .s ⟨(some 13), .call 48 [(.t 12)], []⟩,
  .s ⟨(some 14), .bslice 73 2 [.nilFunc, .nilFunc, .nilFunc, .nilFunc, .nilFunc, .nilFunc] [(0, 3, (.t 11)), (3, 3, (.t 13))], []⟩,
  .s ⟨(some 2), .mv (.t 14), []⟩,
  .s ⟨(some 3), .mv (.c (.bool true)), []⟩])
 .ret)
 (.seq (.reg [.s ⟨(some 16), .bin .eql (.t 5) (.c (.int .u8 3)), []⟩,
  .s ⟨(some 15), .mv (.t 16), []⟩])
 (.cond (.t 15) (.seq (.reg [.s ⟨(some 17), .call 49 [], []⟩,
  .s ⟨(some 18), .bslice 73 1 [.nilFunc, .nilFunc, .nilFunc] [(0, 3, (.t 17))], []⟩,
  .s ⟨(some 2), .mv (.t 18), []⟩,
  .s ⟨(some 3), .mv (.c (.bool true)), []⟩])
 .ret)
 (.seq (.reg [.s ⟨(some 20), .bin .eql (.t 5) (.c (.int .u8 4)), []⟩,
  .s ⟨(some 19), .mv (.t 20), []⟩])
 (.cond (.t 19) (.seq (.reg [.s ⟨(some 21), .call 50 [(.c (.int .u8 1)), (.c (.int .u8 13))], []⟩,
  .s ⟨(some 22), .call 49 [], []⟩,
  .s ⟨(some 23), .call 51 [], []⟩,
  .s ⟨(some 24), .bslice 73 3 [.nilFunc, .nilFunc, .nilFunc, .nilFunc, .nilFunc, .nilFunc, .nilFunc, .nilFunc, .nilFunc] [(0, 3, (.t 21)), (3, 3, (.t 22)), (6, 3, (.t 23))], []⟩,
  .s ⟨(some 2), .mv (.t 24), []⟩,
  .s ⟨(some 3), .mv (.c (.bool true)), []⟩])
 .ret)
 (.seq (.reg [.s ⟨(some 26), .bin .eql (.t 5) (.c (.int .u8 5)), []⟩,
  .s ⟨(some 25), .mv (.t 26), []⟩])
 (.cond (.t 25) (.seq (.reg [.s ⟨(some 27), .call 50 [(.c (.int .u8 14)), (.c (.int .u8 15))], []⟩,
  .s ⟨(some 28), .call 49 [], []⟩,
  .s ⟨(some 29), .bslice 73 2 [.nilFunc, .nilFunc, .nilFunc, .nilFunc, .nilFunc, .nilFunc] [(0, 3, (.t 27)), (3, 3, (.t 28))], []⟩,
  .s ⟨(some 2), .mv (.t 29), []⟩,
  .s ⟨(some 3), .mv (.c (.bool true)), []⟩])
 .ret)
 (.seq (.seq (.reg [.s ⟨(some 31), .bin .eql (.t 5) (.c (.int .u8 6)), []⟩,
  .s ⟨(some 30), .mv (.t 31), []⟩])
 (.cond (.t 30) .skip
 (.reg [.s ⟨(some 32), .bin .eql (.t 5) (.c (.int .u8 7)), []⟩,
  .s ⟨(some 30), .mv (.t 32), []⟩])))
 (.cond (.t 30) (.seq (.reg [.s ⟨(some 33), .call 49 [], []⟩,
  .s ⟨(some 34), .call 48 [(.fn 52)], []⟩,
  .s ⟨(some 35), .bslice 73 2 [.nilFunc, .nilFunc, .nilFunc, .nilFunc, .nilFunc, .nilFunc] [(0, 3, (.t 33)), (3, 3, (.t 34))], []⟩,
  .s ⟨(some 2), .mv (.t 35), []⟩,
  .s ⟨(some 3), .mv (.c (.bool true)), []⟩])
 .ret)
 (.seq (.seq (.reg [.s ⟨(some 37), .bin .eql (.t 5) (.c (.int .u8 8)), []⟩,
  .s ⟨(some 36), .mv (.t 37), []⟩])
 (.cond (.t 36) .skip
 (.reg [.s ⟨(some 38), .bin .eql (.t 5) (.c (.int .u8 9)), []⟩,
  .s ⟨(some 36), .mv (.t 38), []⟩])))
 (.cond (.t 36) (.seq (.reg [.s ⟨(some 39), .call 49 [], []⟩,
  .s ⟨(some 40), .call 51 [], []⟩,
  .s ⟨(some 41), .call 48 [(.fn 52)], []⟩,
  .s ⟨(some 42), .call 53 [], []⟩,
  .s ⟨(some 43), .bslice 73 4 [.nilFunc, .nilFunc, .nilFunc, .nilFunc, .nilFunc, .nilFunc, .nilFunc, .nilFunc, .nilFunc, .nilFunc, .nilFunc, .nilFunc] [(0, 3, (.t 39)), (3, 3, (.t 40)), (6, 3, (.t 41)), (9, 3, (.t 42))], []⟩,
  .s ⟨(some 2), .mv (.t 43), []⟩,
  .s ⟨(some 3), .mv (.c (.bool true)), []⟩])
 .ret)
 (.seq (.seq (.reg [.s ⟨(some 45), .bin .eql (.t 5) (.c (.int .u8 10)), []⟩,
  .s ⟨(some 44), .mv (.t 45), []⟩])
 (.cond (.t 44) .skip
 (.reg [.s ⟨(some 46), .bin .eql (.t 5) (.c (.int .u8 12)), []⟩,
  .s ⟨(some 44), .mv (.t 46), []⟩])))
 (.cond (.t 44) (.seq (.reg [.s ⟨(some 47), .call 54 [], []⟩,
  .s ⟨(some 48), .bslice 73 1 [.nilFunc, .nilFunc, .nilFunc] [(0, 3, (.t 47))], []⟩,
  .s ⟨(some 2), .mv (.t 48), []⟩,
  .s ⟨(some 3), .mv (.c (.bool true)), []⟩])
 .ret)
 (.seq (.reg [.s ⟨(some 50), .bin .eql (.t 5) (.c (.int .u8 11)), []⟩,
  .s ⟨(some 49), .mv (.t 50), []⟩])
 (.cond (.t 49) (.seq (.reg [.s ⟨(some 51), .call 47 [], []⟩,
  .s ⟨(some 52), .call 54 [], []⟩,
  .s ⟨(some 53), .bslice 73 2 [.nilFunc, .nilFunc, .nilFunc, .nilFunc, .nilFunc, .nilFunc] [(0, 3, (.t 51)), (3, 3, (.t 52))], []⟩,
  .s ⟨(some 2), .mv (.t 53), []⟩,
  .s ⟨(some 3), .mv (.c (.bool true)), []⟩])
 .ret)
 (.seq (.reg [.s ⟨(some 55), .bin .eql (.t 5) (.c (.int .u8 14)), []⟩,
  .s ⟨(some 54), .mv (.t 55), []⟩])
 (.cond (.t 54) (.seq (.reg [.s ⟨(some 56), .call 48 [(.fn 52)], []⟩,
  .s ⟨(some 57), .bslice 73 1 [.nilFunc, .nilFunc, .nilFunc] [(0, 3, (.t 56))], []⟩,
  .s ⟨(some 2), .mv (.t 57), []⟩,
  .s ⟨(some 3), .mv (.c (.bool true)), []⟩])
 .ret)
 (.seq (.seq (.reg [.s ⟨(some 59), .bin .eql (.t 5) (.c (.int .u8 15)), []⟩,
  .s ⟨(some 58), .mv (.t 59), []⟩])
 (.cond (.t 58) .skip
 (.seq (.reg [.s ⟨(some 60), .bin .eql (.t 5) (.c (.int .u8 16)), []⟩,
  .s ⟨(some 58), .mv (.t 60), []⟩])
 (.cond (.t 58) .skip
 (.reg [.s ⟨(some 61), .bin .eql (.t 5) (.c (.int .u8 17)), []⟩,
  .s ⟨(some 58), .mv (.t 61), []⟩])))))
 (.cond (.t 58) (.seq (.reg [.s ⟨(some 62), .call 47 [], []⟩,
  .s ⟨(some 63), .bslice 73 1 [.nilFunc, .nilFunc, .nilFunc] [(0, 3, (.t 62))], []⟩,
  .s ⟨(some 2), .mv (.t 63), []⟩,
  .s ⟨(some 3), .mv (.c (.bool true)), []⟩])
 .ret)
 (.seq (.reg [.s ⟨(some 65), .bin .eql (.t 5) (.c (.int .u8 18)), []⟩,
  .s ⟨(some 64), .mv (.t 65), []⟩])
 (.cond (.t 64) (.seq (.reg [.s ⟨(some 66), .call 55 [], []⟩,
  .s ⟨(some 67), .bslice 73 1 [.nilFunc, .nilFunc, .nilFunc] [(0, 3, (.t 66))], []⟩,
  .s ⟨(some 2), .mv (.t 67), []⟩,
  .s ⟨(some 3), .mv (.c (.bool true)), []⟩])
 .ret)
 .skip))))))))))))))))))))))))))
 (.seq (.reg [.s ⟨(some 2), .mv (.c (.slice none 0 0)), []⟩,
  .s ⟨(some 3), .mv (.c (.bool false)), []⟩])
 .ret))))⟩
theorem s38 : slimF Try.prog Try.f38 = some a38.fn := by kernel_rfl
def a39 : XFun := ⟨26, [.t 4],
 (.seq (.reg [.s ⟨(some 4), .mv (.c (.bool false)), []⟩])
 (.seq (.seq (.reg [.s ⟨(some 5), .mv (.t 1), []⟩,
  .s ⟨(some 6), .bin .mul (.c (.int .i64 7)) (.t 5), []⟩,
  .s ⟨(some 7), .bin .sub (.t 6) (.c (.int .i64 1)), []⟩,
  .s ⟨(some 8), .bin .geq (.t 7) (.c (.int .i64 63)), []⟩])
 (.cond (.t 8) (.seq (.reg [.s ⟨(some 4), .mv (.c (.bool true)), []⟩])
 .ret)
 .skip))
 (.seq (.reg [.s ⟨(some 9), .mv (.t 0), []⟩,
  .s ⟨(some 10), .mv (.t 1), []⟩,
  .s ⟨(some 11), .bin .mul (.c (.int .i64 7)) (.t 10), []⟩,
  .s ⟨(some 12), .bin .sub (.t 11) (.c (.int .i64 1)), []⟩,
  .s ⟨(some 13), .cint .u64 (.t 12), []⟩,
  .s ⟨(some 14), .bin .shl (.c (.int .i64 1)) (.t 13), []⟩,
  .s ⟨(some 15), .un .neg (.t 14), []⟩,
  .s ⟨(some 16), .bin .geq (.t 9) (.t 15), []⟩,
  .s ⟨(some 17), .mv (.t 16), []⟩,
  .g 17 true [⟨(some 18), .mv (.t 0), []⟩,
   ⟨(some 19), .mv (.t 1), []⟩,
   ⟨(some 20), .bin .mul (.c (.int .i64 7)) (.t 19), []⟩,
   ⟨(some 21), .bin .sub (.t 20) (.c (.int .i64 1)), []⟩,
   ⟨(some 22), .cint .u64 (.t 21), []⟩,
   ⟨(some 23), .bin .shl (.c (.int .i64 1)) (.t 22), []⟩,
   ⟨(some 24), .bin .lss (.t 18) (.t 23), []⟩],
  .s ⟨(some 25), .pick (.t 17) (.t 24) (.c (.bool false)), []⟩,
  .s ⟨(some 4), .mv (.t 25), []⟩])
 .ret)))⟩
theorem s39 : slimF Try.prog Try.f39 = some a39.fn := by kernel_rfl
def a40 : XFun := ⟨38, [.t 8],
 (.seq (.reg [.s ⟨(some 8), .mv (.c (.slice none 0 0)), []⟩])
 (.seq (.reg [.s ⟨(some 12), .mv (.t 0), []⟩,
  .s ⟨(some 13), .call 21 [(.t 12)], []⟩,
  .s ⟨(some 9), .mv (.t 13), []⟩])
 (.seq (.seq (.reg [.s ⟨(some 10), .mv (.c (.int .i64 0)), []⟩])
 (.block 0 (.loop (.seq (.seq (.reg [.s ⟨(some 14), .mv (.t 10), []⟩,
  .s ⟨(some 15), .mv (.t 3), []⟩,
  .s ⟨(some 16), .bin .lss (.t 14) (.t 15), []⟩])
 (.cond (.t 16) .skip
 (.exit 0)))
 (.seq (.block 1 (.seq (.reg [.s ⟨(some 19), .mv (.t 1), []⟩,
  .s ⟨(some 20), .bin .rem (.t 19) (.c (.int .u64 128)), []⟩,
  .s ⟨(some 11), .mv (.t 20), []⟩])
 (.seq (.reg [.s ⟨(some 21), .mv (.t 1), []⟩,
  .s ⟨(some 22), .bin .quo (.t 21) (.c (.int .u64 128)), []⟩,
  .s ⟨(some 1), .mv (.t 22), []⟩])
 (.seq (.seq (.reg [.s ⟨(some 23), .mv (.t 2), []⟩])
 (.cond (.t 23) (.reg [.s ⟨(some 24), .mv (.t 1), []⟩,
  .s ⟨(some 25), .bin .or (.t 24) (.c (.int .u64 18302628885633695744)), []⟩,
  .s ⟨(some 1), .mv (.t 25), []⟩])
 .skip))
 (.seq (.seq (.reg [.s ⟨(some 26), .mv (.t 10), []⟩,
  .s ⟨(some 27), .mv (.t 3), []⟩,
  .s ⟨(some 28), .bin .sub (.t 27) (.c (.int .i64 1)), []⟩,
  .s ⟨(some 29), .bin .lss (.t 26) (.t 28), []⟩])
 (.cond (.t 29) (.reg [.s ⟨(some 30), .mv (.t 11), []⟩,
  .s ⟨(some 31), .bin .add (.t 30) (.c (.int .u64 128)), []⟩,
  .s ⟨(some 11), .mv (.t 31), []⟩])
 .skip))
 (.reg [.s ⟨(some 32), .mv (.t 9), []⟩,
  .s ⟨(some 33), .mv (.t 11), []⟩,
  .s ⟨(some 34), .cint .u8 (.t 33), []⟩,
  .s ⟨(some 35), .bslice 5 1 [(.int .u8 0)] [(0, 1, (.t 34))], []⟩,
  .s ⟨(some 36), .app 5 1 1 (.t 32) (.t 35), []⟩,
  .s ⟨(some 9), .mv (.t 36), []⟩]))))))
 (.reg [.s ⟨(some 17), .mv (.t 10), []⟩,
  .s ⟨(some 18), .bin .add (.t 17) (.c (.int .i64 1)), []⟩,
  .s ⟨(some 10), .mv (.t 18), []⟩]))))))
 (.seq (.reg [.s ⟨(some 37), .mv (.t 9), []⟩,
  .s ⟨(some 8), .mv (.t 37), []⟩])
 .ret))))⟩
theorem s40 : slimF Try.prog Try.f40 = some a40.fn := by kernel_rfl
def a41 : XFun := ⟨16, [.t 4],
 (.seq (.reg [.s ⟨(some 4), .mv (.c (.bool false)), []⟩])
 (.seq (.reg [.s ⟨(some 5), .mv (.t 1), []⟩,
  .s ⟨(some 6), .bin .mul (.c (.int .i64 7)) (.t 5), []⟩,
  .s ⟨(some 7), .bin .geq (.t 6) (.c (.int .i64 64)), []⟩,
  .s ⟨(some 8), .mv (.t 7), []⟩,
  .g 8 false [⟨(some 9), .mv (.t 0), []⟩,
   ⟨(some 10), .mv (.t 1), []⟩,
   ⟨(some 11), .bin .mul (.c (.int .i64 7)) (.t 10), []⟩,
   ⟨(some 12), .cint .u64 (.t 11), []⟩,
   ⟨(some 13), .bin .shl (.c (.int .u64 1)) (.t 12), []⟩,
   ⟨(some 14), .bin .lss (.t 9) (.t 13), []⟩],
  .s ⟨(some 15), .pick (.t 8) (.c (.bool true)) (.t 14), []⟩,
  .s ⟨(some 4), .mv (.t 15), []⟩])
 .ret))⟩
theorem s41 : slimF Try.prog Try.f41 = some a41.fn := by kernel_rfl
def a42 : XFun := ⟨21, [.t 6],
 (.seq (.reg [.s ⟨(some 6), .mv (.c (.int .i64 0)), []⟩])
 (.seq (.seq (.reg [.s ⟨(some 7), .mv (.t 1), []⟩,
  .s ⟨(some 8), .bin .lss (.t 7) (.c (.int .i64 0)), []⟩,
  .s ⟨(some 9), .mv (.t 8), []⟩,
  .g 9 false [⟨(some 10), .mv (.t 1), []⟩,
   ⟨(some 11), .mv (.t 0), []⟩,
   ⟨(some 12), .lenL (.t 11), []⟩,
   ⟨(some 13), .bin .gtr (.t 10) (.t 12), []⟩],
  .s ⟨(some 14), .pick (.t 9) (.c (.bool true)) (.t 13), []⟩])
 (.cond (.t 14) (.seq (.reg [.s ⟨(some 6), .mv (.c (.int .i64 1)), []⟩])
 .ret)
 .skip))
 (.seq (.seq (.reg [.s ⟨(some 15), .mv (.t 0), []⟩,
  .s ⟨(some 16), .lenL (.t 15), []⟩,
  .s ⟨(some 17), .mv (.t 1), []⟩,
  .s ⟨(some 18), .bin .sub (.t 16) (.t 17), []⟩,
  .s ⟨(some 19), .mv (.t 2), []⟩,
  .s ⟨(some 20), .bin .lss (.t 18) (.t 19), []⟩])
 (.cond (.t 20) (.seq (.reg [.s ⟨(some 6), .mv (.c (.int .i64 5)), []⟩])
 .ret)
 .skip))
 (.seq (.reg [.s ⟨(some 6), .mv (.c (.int .i64 0)), []⟩])
 .ret))))⟩
theorem s42 : slimF Try.prog Try.f42 = some a42.fn := by kernel_rfl
def a43 : XFun := ⟨27, [.t 4],
 (.seq (.reg [.s ⟨(some 4), .mv (.c (.int .i64 0)), []⟩])
 (.seq (.seq (.reg [.s ⟨(some 5), .mv (.c (.int .i64 0)), []⟩])
 (.block 0 (.loop (.seq (.seq (.reg [.s ⟨(some 6), .mv (.t 5), []⟩,
  .s ⟨(some 7), .bin .lss (.t 6) (.c (.int .i64 10)), []⟩,
  .s ⟨(some 8), .mv (.t 7), []⟩,
  .g 8 true [⟨(some 9), .mv (.t 1), []⟩,
   ⟨(some 10), .mv (.t 5), []⟩,
   ⟨(some 11), .bin .add (.t 9) (.t 10), []⟩,
   ⟨(some 12), .mv (.t 0), []⟩,
   ⟨(some 13), .lenL (.t 12), []⟩,
   ⟨(some 14), .bin .lss (.t 11) (.t 13), []⟩],
  .s ⟨(some 15), .pick (.t 8) (.t 14) (.c (.bool false)), []⟩])
 (.cond (.t 15) .skip
 (.exit 0)))
 (.seq (.block 1 (.seq (.reg [.s ⟨(some 18), .mv (.t 0), []⟩,
  .s ⟨(some 19), .mv (.t 1), []⟩,
  .s ⟨(some 20), .mv (.t 5), []⟩,
  .s ⟨(some 21), .bin .add (.t 19) (.t 20), []⟩,
  .s ⟨(some 22), .idx 1 (.t 18) (.t 21), []⟩,
  .s ⟨(some 23), .load false 1 (.t 22), []⟩,
  .s ⟨(some 24), .bin .lss (.t 23) (.c (.int .u8 128)), []⟩])
 (.cond (.t 24) (.seq (.reg [.s ⟨(some 25), .mv (.t 5), []⟩,
  .s ⟨(some 26), .bin .add (.t 25) (.c (.int .i64 1)), []⟩,
  .s ⟨(some 4), .mv (.t 26), []⟩])
 .ret)
 .skip)))
 (.reg [.s ⟨(some 16), .mv (.t 5), []⟩,
  .s ⟨(some 17), .bin .add (.t 16) (.c (.int .i64 1)), []⟩,
  .s ⟨(some 5), .mv (.t 17), []⟩]))))))
 (.seq (.reg [.s ⟨(some 4), .mv (.c (.int .i64 0)), []⟩])
 .ret)))⟩
theorem s43 : slimF Try.prog Try.f43 = some a43.fn := by kernel_rfl
def a44 : XFun := ⟨27, [.t 6],
 (.seq (.reg [.s ⟨(some 6), .mv (.c (.int .u64 0)), []⟩])
 (.seq (.reg [.s ⟨(some 7), .mv (.c (.int .u64 0)), []⟩])
 (.seq (.seq (.reg [.s ⟨(some 9), .mv (.t 2), []⟩,
  .s ⟨(some 10), .bin .sub (.t 9) (.c (.int .i64 1)), []⟩,
  .s ⟨(some 8), .mv (.t 10), []⟩])
 (.block 0 (.loop (.seq (.seq (.reg [.s ⟨(some 11), .mv (.t 8), []⟩,
  .s ⟨(some 12), .bin .geq (.t 11) (.c (.int .i64 0)), []⟩])
 (.cond (.t 12) .skip
 (.exit 0)))
 (.seq (.block 1 (.reg [.s ⟨(some 15), .mv (.t 7), []⟩,
  .s ⟨(some 16), .bin .mul (.c (.int .u64 128)) (.t 15), []⟩,
  .s ⟨(some 17), .mv (.t 0), []⟩,
  .s ⟨(some 18), .mv (.t 1), []⟩,
  .s ⟨(some 19), .mv (.t 8), []⟩,
  .s ⟨(some 20), .bin .add (.t 18) (.t 19), []⟩,
  .s ⟨(some 21), .idx 1 (.t 17) (.t 20), []⟩,
  .s ⟨(some 22), .load false 1 (.t 21), []⟩,
  .s ⟨(some 23), .bin .rem (.t 22) (.c (.int .u8 128)), []⟩,
  .s ⟨(some 24), .cint .u64 (.t 23), []⟩,
  .s ⟨(some 25), .bin .add (.t 16) (.t 24), []⟩,
  .s ⟨(some 7), .mv (.t 25), []⟩]))
 (.reg [.s ⟨(some 13), .mv (.t 8), []⟩,
  .s ⟨(some 14), .bin .sub (.t 13) (.c (.int .i64 1)), []⟩,
  .s ⟨(some 8), .mv (.t 14), []⟩]))))))
 (.seq (.reg [.s ⟨(some 26), .mv (.t 7), []⟩,
  .s ⟨(some 6), .mv (.t 26), []⟩])
 .ret))))⟩
theorem s44 : slimF Try.prog Try.f44 = some a44.fn := by kernel_rfl
def a45 : XFun := ⟨32, [.t 6],
 (.seq (.reg [.s ⟨(some 6), .mv (.c (.bool false)), []⟩])
 (.seq (.seq (.reg [.s ⟨(some 8), .mv (.t 2), []⟩,
  .s ⟨(some 9), .lenL (.t 8), []⟩,
  .s ⟨(some 10), .mv (.t 0), []⟩,
  .s ⟨(some 11), .lenL (.t 10), []⟩,
  .s ⟨(some 12), .mv (.t 1), []⟩,
  .s ⟨(some 13), .bin .sub (.t 11) (.t 12), []⟩,
  .s ⟨(some 14), .bin .gtr (.t 9) (.t 13), []⟩])
 (.cond (.t 14) (.seq (.reg [.s ⟨(some 6), .mv (.c (.bool false)), []⟩])
 .ret)
 .skip))
 (.seq (.seq (.reg [.s ⟨(some 7), .mv (.c (.int .i64 0)), []⟩])
 (.block 0 (.loop (.seq (.seq (.reg [.s ⟨(some 15), .mv (.t 7), []⟩,
  .s ⟨(some 16), .mv (.t 2), []⟩,
  .s ⟨(some 17), .lenL (.t 16), []⟩,
  .s ⟨(some 18), .bin .lss (.t 15) (.t 17), []⟩])
 (.cond (.t 18) .skip
 (.exit 0)))
 (.seq (.block 1 (.seq (.par [.s ⟨(some 21), .mv (.t 0), []⟩,
  .s ⟨(some 22), .mv (.t 1), []⟩,
  .s ⟨(some 23), .mv (.t 7), []⟩,
  .s ⟨(some 24), .bin .add (.t 22) (.t 23), []⟩,
  .s ⟨(some 25), .idx 1 (.t 21) (.t 24), []⟩,
  .s ⟨(some 26), .load false 1 (.t 25), []⟩,
  .s ⟨(some 27), .mv (.t 2), []⟩,
  .s ⟨(some 28), .mv (.t 7), []⟩,
  .s ⟨(some 29), .idx 1 (.t 27) (.t 28), []⟩,
  .s ⟨(some 30), .load false 1 (.t 29), []⟩,
  .s ⟨(some 31), .bin .neq (.t 26) (.t 30), []⟩])
 (.cond (.t 31) (.seq (.reg [.s ⟨(some 6), .mv (.c (.bool false)), []⟩])
 .ret)
 .skip)))
 (.reg [.s ⟨(some 19), .mv (.t 7), []⟩,
  .s ⟨(some 20), .bin .add (.t 19) (.c (.int .i64 1)), []⟩,
  .s ⟨(some 7), .mv (.t 20), []⟩]))))))
 (.seq (.reg [.s ⟨(some 6), .mv (.c (.bool true)), []⟩])
 .ret))))⟩
theorem s45 : slimF Try.prog Try.f45 = some a45.fn := by kernel_rfl
def a46 : XFun := ⟨3, [.t 2],
 (.seq (.reg [.s ⟨(some 2), .mv (.c (.bool false)), []⟩])
 (.seq (.reg [.s ⟨(some 2), .mv (.c (.bool true)), []⟩])
 .ret))⟩
theorem s46 : slimF Try.prog Try.f46 = some a46.fn := by kernel_rfl
def a47 : XFun := ⟨2, [.c 0 true 3],
 (.seq (.reg [.s ⟨(some 0), .alloc 73 [.nilFunc, .nilFunc, .nilFunc], []⟩])
 (.seq (.reg [.s ⟨(some 1), .call 56 [(.fn 57), (.fn 59), (.fn 60)], []⟩,
  .s ⟨none, .store 3 (.t 0) (.t 1), []⟩])
 .ret))⟩
theorem s47 : slimF Try.prog Try.f47 = some a47.fn := by kernel_rfl
def a48 : XFun := ⟨5, [.c 2 true 3],
 (.seq (.reg [.s ⟨(some 2), .alloc 73 [.nilFunc, .nilFunc, .nilFunc], []⟩])
 (.seq (.reg [.s ⟨(some 3), .mv (.t 0), []⟩,
  .s ⟨(some 4), .build [.nilFunc, .nilFunc, .nilFunc] [(0, 1, (.t 3)), (1, 1, (.fn 61)), (2, 1, (.fn 63))], []⟩,
  .s ⟨none, .store 3 (.t 2) (.t 4), []⟩])
 .ret))⟩
theorem s48 : slimF Try.prog Try.f48 = some a48.fn := by kernel_rfl
def a49 : XFun := ⟨2, [.c 0 true 3],
 (.seq (.reg [.s ⟨(some 0), .alloc 73 [.nilFunc, .nilFunc, .nilFunc], []⟩])
 (.seq (.reg [.s ⟨(some 1), .call 56 [(.fn 65), (.fn 66), (.fn 68)], []⟩,
  .s ⟨none, .store 3 (.t 0) (.t 1), []⟩])
 .ret))⟩
theorem s49 : slimF Try.prog Try.f49 = some a49.fn := by kernel_rfl
def a50 : XFun := ⟨7, [.c 4 true 3],
 (.seq (.reg [.s ⟨(some 2), .box 5 (.t 0), []⟩,
  .s ⟨(some 3), .box 5 (.t 1), []⟩,
  .s ⟨(some 4), .alloc 73 [.nilFunc, .nilFunc, .nilFunc], []⟩])
 (.seq (.reg [.s ⟨(some 5), .mkfn (.func 70) [] [(.t 2), (.t 3)], []⟩,
  .s ⟨(some 6), .call 56 [(.t 5), (.fn 71), (.fn 72)], []⟩,
  .s ⟨none, .store 3 (.t 4) (.t 6), []⟩])
 .ret))⟩
theorem s50 : slimF Try.prog Try.f50 = some a50.fn := by kernel_rfl
def a51 : XFun := ⟨2, [.c 0 true 3],
 (.seq (.reg [.s ⟨(some 0), .alloc 73 [.nilFunc, .nilFunc, .nilFunc], []⟩])
 (.seq (.reg [.s ⟨(some 1), .call 56 [(.fn 73), (.fn 74), (.fn 75)], []⟩,
  .s ⟨none, .store 3 (.t 0) (.t 1), []⟩])
 .ret))⟩
theorem s51 : slimF Try.prog Try.f51 = some a51.fn := by kernel_rfl
def a52 : XFun := ⟨15, [.t 2],
 (.seq (.reg [.s ⟨(some 2), .mv (.c (.bool false)), []⟩])
 (.seq (.reg [.s ⟨(some 3), .mv (.t 0), []⟩,
  .s ⟨(some 4), .nilchk (.t 3), []⟩,
  .s ⟨(some 5), .faddr 5 (.t 4), []⟩,
  .s ⟨(some 6), .load false 1 (.t 5), []⟩,
  .s ⟨(some 7), .bin .geq (.t 6) (.c (.int .i64 (-65536))), []⟩,
  .s ⟨(some 8), .mv (.t 7), []⟩,
  .g 8 true [⟨(some 9), .mv (.t 0), []⟩,
   ⟨(some 10), .nilchk (.t 9), []⟩,
   ⟨(some 11), .faddr 5 (.t 10), []⟩,
   ⟨(some 12), .load false 1 (.t 11), []⟩,
   ⟨(some 13), .bin .leq (.t 12) (.c (.int .i64 65536)), []⟩],
  .s ⟨(some 14), .pick (.t 8) (.t 13) (.c (.bool false)), []⟩,
  .s ⟨(some 2), .mv (.t 14), []⟩])
 .ret))⟩
theorem s52 : slimF Try.prog Try.f52 = some a52.fn := by kernel_rfl
def a53 : XFun := ⟨2, [.c 0 true 3],
 (.seq (.reg [.s ⟨(some 0), .alloc 73 [.nilFunc, .nilFunc, .nilFunc], []⟩])
 (.seq (.reg [.s ⟨(some 1), .build [.nilFunc, .nilFunc, .nilFunc] [(0, 1, (.fn 76)), (1, 1, (.fn 77)), (2, 1, (.fn 79))], []⟩,
  .s ⟨none, .store 3 (.t 0) (.t 1), []⟩])
 .ret))⟩
theorem s53 : slimF Try.prog Try.f53 = some a53.fn := by kernel_rfl
def a54 : XFun := ⟨2, [.c 0 true 3],
 (.seq (.reg [.s ⟨(some 0), .alloc 73 [.nilFunc, .nilFunc, .nilFunc], []⟩])
 (.seq (.reg [.s ⟨(some 1), .build [.nilFunc, .nilFunc, .nilFunc] [(0, 1, (.fn 81)), (1, 1, (.fn 82)), (2, 1, (.fn 84))], []⟩,
  .s ⟨none, .store 3 (.t 0) (.t 1), []⟩])
 .ret))⟩
theorem s54 : slimF Try.prog Try.f54 = some a54.fn := by kernel_rfl
def a55 : XFun := ⟨2, [.c 0 true 3],
 (.seq (.reg [.s ⟨(some 0), .alloc 73 [.nilFunc, .nilFunc, .nilFunc], []⟩])
 (.seq (.reg [.s ⟨(some 1), .call 56 [(.fn 86), (.fn 87), (.fn 88)], []⟩,
  .s ⟨none, .store 3 (.t 0) (.t 1), []⟩])
 .ret))⟩
theorem s55 : slimF Try.prog Try.f55 = some a55.fn := by kernel_rfl
def a56 : XFun := ⟨11, [.c 6 true 3],
 (.seq (.reg [.s ⟨(some 4), .box 91 (.t 1), []⟩,
  .s ⟨(some 5), .box 92 (.t 2), []⟩,
  .s ⟨(some 6), .alloc 73 [.nilFunc, .nilFunc, .nilFunc], []⟩])
 (.seq (.reg [.s ⟨(some 7), .mv (.t 0), []⟩,
  .s ⟨(some 8), .mkfn (.func 89) [] [(.t 4)], []⟩,
  .s ⟨(some 9), .mkfn (.func 90) [] [(.t 5)], []⟩,
  .s ⟨(some 10), .build [.nilFunc, .nilFunc, .nilFunc] [(0, 1, (.t 7)), (1, 1, (.t 8)), (2, 1, (.t 9))], []⟩,
  .s ⟨none, .store 3 (.t 6) (.t 10), []⟩])
 .ret))⟩
theorem s56 : slimF Try.prog Try.f56 = some a56.fn := by kernel_rfl
def a57 : XFun := ⟨8, [.t 2],
 (.seq (.reg [.s ⟨(some 2), .mv (.c (.bool false)), []⟩])
 (.seq (.reg [.s ⟨(some 3), .mv (.t 0), []⟩,
  .s ⟨(some 4), .nilchk (.t 3), []⟩,
  .s ⟨(some 5), .faddr 2 (.t 4), []⟩,
  .s ⟨(some 6), .load false 1 (.t 5), []⟩,
  .s ⟨(some 7), .call 58 [(.t 6)], []⟩,
  .s ⟨(some 2), .mv (.t 7), []⟩])
 .ret))⟩
theorem s57 : slimF Try.prog Try.f57 = some a57.fn := by kernel_rfl
def a58 : XFun := ⟨9, [.t 2],
 (.seq (.reg [.s ⟨(some 2), .mv (.c (.bool false)), []⟩])
 (.seq (.reg [.s ⟨(some 3), .mv (.t 0), []⟩,
  .s ⟨(some 4), .bin .geq (.t 3) (.c (.int .i64 0)), []⟩,
  .s ⟨(some 5), .mv (.t 4), []⟩,
  .g 5 true [⟨(some 6), .mv (.t 0), []⟩,
   ⟨(some 7), .bin .lss (.t 6) (.c (.int .i64 16)), []⟩],
  .s ⟨(some 8), .pick (.t 5) (.t 7) (.c (.bool false)), []⟩,
  .s ⟨(some 2), .mv (.t 8), []⟩])
 .ret))⟩
theorem s58 : slimF Try.prog Try.f58 = some a58.fn := by kernel_rfl
def a59 : XFun := ⟨8, [.t 2],
 (.seq (.reg [.s ⟨(some 2), .mv (.c (.int .u8 0)), []⟩])
 (.seq (.reg [.s ⟨(some 3), .mv (.t 0), []⟩,
  .s ⟨(some 4), .nilchk (.t 3), []⟩,
  .s ⟨(some 5), .faddr 2 (.t 4), []⟩,
  .s ⟨(some 6), .load false 1 (.t 5), []⟩,
  .s ⟨(some 7), .cint .u8 (.t 6), []⟩,
  .s ⟨(some 2), .mv (.t 7), []⟩])
 .ret))⟩
theorem s59 : slimF Try.prog Try.f59 = some a59.fn := by kernel_rfl
def a60 : XFun := ⟨9, [],
 (.reg [.s ⟨(some 4), .mv (.t 0), []⟩,
  .s ⟨(some 5), .mv (.t 1), []⟩,
  .s ⟨(some 6), .cint .i64 (.t 5), []⟩,
  .s ⟨(some 7), .nilchk (.t 4), []⟩,
  .s ⟨(some 8), .faddr 2 (.t 7), []⟩,
  .s ⟨none, .store 1 (.t 8) (.t 6), []⟩])⟩
theorem s60 : slimF Try.prog Try.f60 = some a60.fn := by kernel_rfl
def a61 : XFun := ⟨11, [.t 4],
 (.seq (.reg [.s ⟨(some 4), .mv (.c (.slice none 0 0)), []⟩])
 (.seq (.reg [.s ⟨(some 5), .mv (.t 0), []⟩,
  .s ⟨(some 6), .mv (.t 1), []⟩,
  .s ⟨(some 7), .nilchk (.t 6), []⟩,
  .s ⟨(some 8), .faddr 5 (.t 7), []⟩,
  .s ⟨(some 9), .load false 1 (.t 8), []⟩,
  .s ⟨(some 10), .call 62 [(.t 5), (.t 9)], []⟩,
  .s ⟨(some 4), .mv (.t 10), []⟩])
 .ret))⟩
theorem s61 : slimF Try.prog Try.f61 = some a61.fn := by kernel_rfl
def a62 : XFun := ⟨28, [.t 4],
 (.seq (.reg [.s ⟨(some 4), .mv (.c (.slice none 0 0)), []⟩])
 (.seq (.reg [.s ⟨(some 6), .mv (.t 0), []⟩,
  .s ⟨(some 7), .call 22 [(.t 6)], []⟩,
  .s ⟨(some 5), .mv (.t 7), []⟩])
 (.seq (.block 0 (.loop (.seq (.seq (.reg [.s ⟨(some 8), .mv (.t 1), []⟩,
  .s ⟨(some 9), .bin .gtr (.t 8) (.c (.int .i64 63)), []⟩,
  .s ⟨(some 10), .mv (.t 9), []⟩,
  .g 10 false [⟨(some 11), .mv (.t 1), []⟩,
   ⟨(some 12), .bin .lss (.t 11) (.c (.int .i64 (-64))), []⟩],
  .s ⟨(some 13), .pick (.t 10) (.c (.bool true)) (.t 12), []⟩])
 (.cond (.t 13) .skip
 (.exit 0)))
 (.block 1 (.seq (.reg [.s ⟨(some 14), .mv (.t 5), []⟩,
  .s ⟨(some 15), .mv (.t 1), []⟩,
  .s ⟨(some 16), .cint .u8 (.t 15), []⟩,
  .s ⟨(some 17), .bin .or (.t 16) (.c (.int .u8 128)), []⟩,
  .s ⟨(some 18), .bslice 5 1 [(.int .u8 0)] [(0, 1, (.t 17))], []⟩,
  .s ⟨(some 19), .app 5 1 1 (.t 14) (.t 18), []⟩,
  .s ⟨(some 5), .mv (.t 19), []⟩])
 (.reg [.s ⟨(some 20), .mv (.t 1), []⟩,
  .s ⟨(some 21), .bin .shr (.t 20) (.c (.int .u64 7)), []⟩,
  .s ⟨(some 1), .mv (.t 21), []⟩]))))))
 (.seq (.reg [.s ⟨(some 22), .mv (.t 5), []⟩,
  .s ⟨(some 23), .mv (.t 1), []⟩,
  .s ⟨(some 24), .cint .u8 (.t 23), []⟩,
  .s ⟨(some 25), .bin .and (.t 24) (.c (.int .u8 127)), []⟩,
  .s ⟨(some 26), .bslice 5 1 [(.int .u8 0)] [(0, 1, (.t 25))], []⟩,
  .s ⟨(some 27), .app 5 1 1 (.t 22) (.t 26), []⟩,
  .s ⟨(some 4), .mv (.t 27), []⟩])
 .ret))))⟩
theorem s62 : slimF Try.prog Try.f62 = some a62.fn := by kernel_rfl
def a63 : XFun := ⟨25, [.t 6, .t 7],
 (.seq (.reg [.s ⟨(some 6), .mv (.c (.int .i64 0)), []⟩,
  .s ⟨(some 7), .mv (.c (.bool false)), []⟩])
 (.seq (.reg [.s ⟨(some 12), .mv (.t 0), []⟩,
  .s ⟨(some 13), .mv (.t 1), []⟩,
  .s ⟨(some 14), .call 64 [(.t 12), (.t 13)], []⟩,
  .s ⟨(some 11), .mv (.t 14), []⟩,
  .s ⟨(some 15), .ext 0 (.t 11), []⟩,
  .s ⟨(some 16), .ext 1 (.t 11), []⟩,
  .s ⟨(some 17), .ext 2 (.t 11), []⟩,
  .s ⟨(some 8), .mv (.t 15), []⟩,
  .s ⟨(some 9), .mv (.t 16), []⟩,
  .s ⟨(some 10), .mv (.t 17), []⟩])
 (.seq (.reg [.s ⟨(some 18), .mv (.t 2), []⟩,
  .s ⟨(some 19), .mv (.t 8), []⟩,
  .s ⟨(some 20), .nilchk (.t 18), []⟩,
  .s ⟨(some 21), .faddr 5 (.t 20), []⟩,
  .s ⟨none, .store 1 (.t 21) (.t 19), []⟩])
 (.seq (.reg [.s ⟨(some 22), .mv (.t 9), []⟩,
  .s ⟨(some 23), .mv (.t 10), []⟩,
  .s ⟨(some 24), .bin .eql (.t 23) (.c (.int .i64 0)), []⟩,
  .s ⟨(some 6), .mv (.t 22), []⟩,
  .s ⟨(some 7), .mv (.t 24), []⟩])
 .ret))))⟩
theorem s63 : slimF Try.prog Try.f63 = some a63.fn := by kernel_rfl
def a64 : XFun := ⟨13, [.t 4, .t 5, .t 6],
 (.seq (.reg [.s ⟨(some 4), .mv (.c (.int .i64 0)), []⟩,
  .s ⟨(some 5), .mv (.c (.int .i64 0)), []⟩,
  .s ⟨(some 6), .mv (.c (.int .i64 0)), []⟩])
 (.seq (.reg [.s ⟨(some 7), .mv (.t 0), []⟩,
  .s ⟨(some 8), .mv (.t 1), []⟩,
  .s ⟨(some 9), .call 92 [(.t 7), (.t 8), (.fn 93), (.fn 62)], []⟩,
  .s ⟨(some 10), .ext 0 (.t 9), []⟩,
  .s ⟨(some 11), .ext 1 (.t 9), []⟩,
  .s ⟨(some 12), .ext 2 (.t 9), []⟩,
  .s ⟨(some 4), .mv (.t 10), []⟩,
  .s ⟨(some 5), .mv (.t 11), []⟩,
  .s ⟨(some 6), .mv (.t 12), []⟩])
 .ret))⟩
theorem s64 : slimF Try.prog Try.f64 = some a64.fn := by kernel_rfl
def a65 : XFun := ⟨15, [.t 2],
 (.seq (.reg [.s ⟨(some 2), .mv (.c (.bool false)), []⟩])
 (.seq (.reg [.s ⟨(some 3), .mv (.t 0), []⟩,
  .s ⟨(some 4), .nilchk (.t 3), []⟩,
  .s ⟨(some 5), .faddr 2 (.t 4), []⟩,
  .s ⟨(some 6), .load false 1 (.t 5), []⟩,
  .s ⟨(some 7), .call 58 [(.t 6)], []⟩,
  .s ⟨(some 8), .mv (.t 7), []⟩,
  .g 8 true [⟨(some 9), .mv (.t 0), []⟩,
   ⟨(some 10), .nilchk (.t 9), []⟩,
   ⟨(some 11), .faddr 3 (.t 10), []⟩,
   ⟨(some 12), .load false 1 (.t 11), []⟩,
   ⟨(some 13), .call 58 [(.t 12)], []⟩],
  .s ⟨(some 14), .pick (.t 8) (.t 13) (.c (.bool false)), []⟩,
  .s ⟨(some 2), .mv (.t 14), []⟩])
 .ret))⟩
theorem s65 : slimF Try.prog Try.f65 = some a65.fn := by kernel_rfl
def a66 : XFun := ⟨18, [.t 2],
 (.seq (.reg [.s ⟨(some 2), .mv (.c (.int .u8 0)), []⟩])
 (.seq (.par [.s ⟨(some 6), .mv (.t 0), []⟩,
  .s ⟨(some 7), .nilchk (.t 6), []⟩,
  .s ⟨(some 8), .faddr 2 (.t 7), []⟩,
  .s ⟨(some 9), .load false 1 (.t 8), []⟩,
  .s ⟨(some 10), .mv (.t 0), []⟩,
  .s ⟨(some 11), .nilchk (.t 10), []⟩,
  .s ⟨(some 12), .faddr 3 (.t 11), []⟩,
  .s ⟨(some 13), .load false 1 (.t 12), []⟩,
  .s ⟨(some 14), .call 67 [(.t 9), (.t 13)], []⟩,
  .s ⟨(some 5), .mv (.t 14), []⟩,
  .s ⟨(some 15), .ext 0 (.t 5), []⟩,
  .s ⟨(some 16), .ext 1 (.t 5), []⟩,
  .s ⟨(some 3), .mv (.t 15), []⟩,
  .s ⟨(some 4), .mv (.t 16), []⟩])
 (.seq (.reg [.s ⟨(some 17), .mv (.t 3), []⟩,
  .s ⟨(some 2), .mv (.t 17), []⟩])
 .ret)))⟩
theorem s66 : slimF Try.prog Try.f66 = some a66.fn := by kernel_rfl
def a67 : XFun := ⟨25, [.t 4, .t 5],
 (.seq (.reg [.s ⟨(some 4), .mv (.c (.int .u8 0)), []⟩,
  .s ⟨(some 5), .mv (.c (.bool false)), []⟩])
 (.seq (.seq (.reg [.s ⟨(some 6), .mv (.t 0), []⟩,
  .s ⟨(some 7), .bin .lss (.t 6) (.c (.int .i64 0)), []⟩,
  .s ⟨(some 8), .mv (.t 7), []⟩,
  .g 8 false [⟨(some 9), .mv (.t 0), []⟩,
   ⟨(some 10), .bin .geq (.t 9) (.c (.int .i64 16)), []⟩],
  .s ⟨(some 11), .pick (.t 8) (.c (.bool true)) (.t 10), []⟩,
  .s ⟨(some 12), .mv (.t 11), []⟩,
  .g 12 false [⟨(some 13), .mv (.t 1), []⟩,
   ⟨(some 14), .bin .lss (.t 13) (.c (.int .i64 0)), []⟩],
  .s ⟨(some 15), .pick (.t 12) (.c (.bool true)) (.t 14), []⟩,
  .s ⟨(some 16), .mv (.t 15), []⟩,
  .g 16 false [⟨(some 17), .mv (.t 1), []⟩,
   ⟨(some 18), .bin .geq (.t 17) (.c (.int .i64 16)), []⟩],
  .s ⟨(some 19), .pick (.t 16) (.c (.bool true)) (.t 18), []⟩])
 (.cond (.t 19) (.seq (.reg [.s ⟨(some 4), .mv (.c (.int .u8 0)), []⟩,
  .s ⟨(some 5), .mv (.c (.bool false)), []⟩])
 .ret)
 .skip))
 (.seq (.reg [.s ⟨(some 20), .mv (.t 0), []⟩,
  .s ⟨(some 21), .bin .shl (.t 20) (.c (.int .u64 4)), []⟩,
  .s ⟨(some 22), .mv (.t 1), []⟩,
  .s ⟨(some 23), .bin .or (.t 21) (.t 22), []⟩,
  .s ⟨(some 24), .cint .u8 (.t 23), []⟩,
  .s ⟨(some 4), .mv (.t 24), []⟩,
  .s ⟨(some 5), .mv (.c (.bool true)), []⟩])
 .ret)))⟩
theorem s67 : slimF Try.prog Try.f67 = some a67.fn := by kernel_rfl
def a68 : XFun := ⟨15, [],
 (.reg [.s ⟨(some 5), .mv (.t 0), []⟩,
  .s ⟨(some 6), .mv (.t 0), []⟩,
  .s ⟨(some 7), .mv (.t 1), []⟩,
  .s ⟨(some 8), .call 69 [(.t 7)], []⟩,
  .s ⟨(some 4), .mv (.t 8), []⟩,
  .s ⟨(some 9), .ext 0 (.t 4), []⟩,
  .s ⟨(some 10), .ext 1 (.t 4), []⟩,
  .s ⟨(some 11), .nilchk (.t 5), []⟩,
  .s ⟨(some 12), .faddr 2 (.t 11), []⟩,
  .s ⟨none, .store 1 (.t 12) (.t 9), []⟩,
  .s ⟨(some 13), .nilchk (.t 6), []⟩,
  .s ⟨(some 14), .faddr 3 (.t 13), []⟩,
  .s ⟨none, .store 1 (.t 14) (.t 10), []⟩])⟩
theorem s68 : slimF Try.prog Try.f68 = some a68.fn := by kernel_rfl
def a69 : XFun := ⟨10, [.t 2, .t 3],
 (.seq (.reg [.s ⟨(some 2), .mv (.c (.int .i64 0)), []⟩,
  .s ⟨(some 3), .mv (.c (.int .i64 0)), []⟩])
 (.seq (.reg [.s ⟨(some 4), .mv (.t 0), []⟩,
  .s ⟨(some 5), .bin .shr (.t 4) (.c (.int .u64 4)), []⟩,
  .s ⟨(some 6), .cint .i64 (.t 5), []⟩,
  .s ⟨(some 7), .mv (.t 0), []⟩,
  .s ⟨(some 8), .bin .and (.t 7) (.c (.int .u8 15)), []⟩,
  .s ⟨(some 9), .cint .i64 (.t 8), []⟩,
  .s ⟨(some 2), .mv (.t 6), []⟩,
  .s ⟨(some 3), .mv (.t 9), []⟩])
 .ret))⟩
theorem s69 : slimF Try.prog Try.f69 = some a69.fn := by kernel_rfl
def a70 : XFun := ⟨19, [.t 4],
 (.seq (.reg [.s ⟨(some 4), .mv (.c (.bool false)), []⟩])
 (.seq (.par [.s ⟨(some 5), .mv (.t 0), []⟩,
  .s ⟨(some 6), .nilchk (.t 5), []⟩,
  .s ⟨(some 7), .faddr 1 (.t 6), []⟩,
  .s ⟨(some 8), .load false 1 (.t 7), []⟩,
  .s ⟨(some 9), .load false 1 (.t 1), []⟩,
  .s ⟨(some 10), .bin .geq (.t 8) (.t 9), []⟩,
  .s ⟨(some 11), .mv (.t 10), []⟩,
  .g 11 true [⟨(some 12), .mv (.t 0), []⟩,
   ⟨(some 13), .nilchk (.t 12), []⟩,
   ⟨(some 14), .faddr 1 (.t 13), []⟩,
   ⟨(some 15), .load false 1 (.t 14), []⟩,
   ⟨(some 16), .load false 1 (.t 2), []⟩,
   ⟨(some 17), .bin .leq (.t 15) (.t 16), []⟩],
  .s ⟨(some 18), .pick (.t 11) (.t 17) (.c (.bool false)), []⟩,
  .s ⟨(some 4), .mv (.t 18), []⟩])
 .ret))⟩
theorem s70 : slimF Try.prog Try.f70 = some a70.fn := by kernel_rfl
def a71 : XFun := ⟨7, [.t 2],
 (.seq (.reg [.s ⟨(some 2), .mv (.c (.int .u8 0)), []⟩])
 (.seq (.reg [.s ⟨(some 3), .mv (.t 0), []⟩,
  .s ⟨(some 4), .nilchk (.t 3), []⟩,
  .s ⟨(some 5), .faddr 1 (.t 4), []⟩,
  .s ⟨(some 6), .load false 1 (.t 5), []⟩,
  .s ⟨(some 2), .mv (.t 6), []⟩])
 .ret))⟩
theorem s71 : slimF Try.prog Try.f71 = some a71.fn := by kernel_rfl
def a72 : XFun := ⟨8, [],
 (.reg [.s ⟨(some 4), .mv (.t 0), []⟩,
  .s ⟨(some 5), .mv (.t 1), []⟩,
  .s ⟨(some 6), .nilchk (.t 4), []⟩,
  .s ⟨(some 7), .faddr 1 (.t 6), []⟩,
  .s ⟨none, .store 1 (.t 7) (.t 5), []⟩])⟩
theorem s72 : slimF Try.prog Try.f72 = some a72.fn := by kernel_rfl
def a73 : XFun := ⟨8, [.t 2],
 (.seq (.reg [.s ⟨(some 2), .mv (.c (.bool false)), []⟩])
 (.seq (.reg [.s ⟨(some 3), .mv (.t 0), []⟩,
  .s ⟨(some 4), .nilchk (.t 3), []⟩,
  .s ⟨(some 5), .faddr 4 (.t 4), []⟩,
  .s ⟨(some 6), .load false 1 (.t 5), []⟩,
  .s ⟨(some 7), .call 58 [(.t 6)], []⟩,
  .s ⟨(some 2), .mv (.t 7), []⟩])
 .ret))⟩
theorem s73 : slimF Try.prog Try.f73 = some a73.fn := by kernel_rfl
def a74 : XFun := ⟨8, [.t 2],
 (.seq (.reg [.s ⟨(some 2), .mv (.c (.int .u8 0)), []⟩])
 (.seq (.reg [.s ⟨(some 3), .mv (.t 0), []⟩,
  .s ⟨(some 4), .nilchk (.t 3), []⟩,
  .s ⟨(some 5), .faddr 4 (.t 4), []⟩,
  .s ⟨(some 6), .load false 1 (.t 5), []⟩,
  .s ⟨(some 7), .cint .u8 (.t 6), []⟩,
  .s ⟨(some 2), .mv (.t 7), []⟩])
 .ret))⟩
theorem s74 : slimF Try.prog Try.f74 = some a74.fn := by kernel_rfl
def a75 : XFun := ⟨9, [],
 (.reg [.s ⟨(some 4), .mv (.t 0), []⟩,
  .s ⟨(some 5), .mv (.t 1), []⟩,
  .s ⟨(some 6), .cint .i64 (.t 5), []⟩,
  .s ⟨(some 7), .nilchk (.t 4), []⟩,
  .s ⟨(some 8), .faddr 4 (.t 7), []⟩,
  .s ⟨none, .store 1 (.t 8) (.t 6), []⟩])⟩
theorem s75 : slimF Try.prog Try.f75 = some a75.fn := by kernel_rfl
def a76 : XFun := ⟨15, [.t 2],
 (.seq (.reg [.s ⟨(some 2), .mv (.c (.bool false)), []⟩])
 (.seq (.reg [.s ⟨(some 3), .mv (.t 0), []⟩,
  .s ⟨(some 4), .nilchk (.t 3), []⟩,
  .s ⟨(some 5), .faddr 6 (.t 4), []⟩,
  .s ⟨(some 6), .load false 1 (.t 5), []⟩,
  .s ⟨(some 7), .bin .geq (.t 6) (.c (.int .i64 1)), []⟩,
  .s ⟨(some 8), .mv (.t 7), []⟩,
  .g 8 true [⟨(some 9), .mv (.t 0), []⟩,
   ⟨(some 10), .nilchk (.t 9), []⟩,
   ⟨(some 11), .faddr 6 (.t 10), []⟩,
   ⟨(some 12), .load false 1 (.t 11), []⟩,
   ⟨(some 13), .bin .leq (.t 12) (.c (.int .i64 65536)), []⟩],
  .s ⟨(some 14), .pick (.t 8) (.t 13) (.c (.bool false)), []⟩,
  .s ⟨(some 2), .mv (.t 14), []⟩])
 .ret))⟩
theorem s76 : slimF Try.prog Try.f76 = some a76.fn := by kernel_rfl
def a77 : XFun := ⟨12, [.t 4],
 (.seq (.reg [.s ⟨(some 4), .mv (.c (.slice none 0 0)), []⟩])
 (.seq (.reg [.s ⟨(some 5), .mv (.t 0), []⟩,
  .s ⟨(some 6), .mv (.t 1), []⟩,
  .s ⟨(some 7), .nilchk (.t 6), []⟩,
  .s ⟨(some 8), .faddr 6 (.t 7), []⟩,
  .s ⟨(some 9), .load false 1 (.t 8), []⟩,
  .s ⟨(some 10), .cint .u64 (.t 9), []⟩,
  .s ⟨(some 11), .call 78 [(.t 5), (.t 10)], []⟩,
  .s ⟨(some 4), .mv (.t 11), []⟩])
 .ret))⟩
theorem s77 : slimF Try.prog Try.f77 = some a77.fn := by kernel_rfl
def a78 : XFun := ⟨23, [.t 4],
 (.seq (.reg [.s ⟨(some 4), .mv (.c (.slice none 0 0)), []⟩])
 (.seq (.reg [.s ⟨(some 6), .mv (.t 0), []⟩,
  .s ⟨(some 7), .call 22 [(.t 6)], []⟩,
  .s ⟨(some 5), .mv (.t 7), []⟩])
 (.seq (.block 0 (.loop (.seq (.seq (.reg [.s ⟨(some 8), .mv (.t 1), []⟩,
  .s ⟨(some 9), .bin .gtr (.t 8) (.c (.int .u64 127)), []⟩])
 (.cond (.t 9) .skip
 (.exit 0)))
 (.block 1 (.seq (.reg [.s ⟨(some 10), .mv (.t 5), []⟩,
  .s ⟨(some 11), .mv (.t 1), []⟩,
  .s ⟨(some 12), .cint .u8 (.t 11), []⟩,
  .s ⟨(some 13), .bin .or (.t 12) (.c (.int .u8 128)), []⟩,
  .s ⟨(some 14), .bslice 5 1 [(.int .u8 0)] [(0, 1, (.t 13))], []⟩,
  .s ⟨(some 15), .app 5 1 1 (.t 10) (.t 14), []⟩,
  .s ⟨(some 5), .mv (.t 15), []⟩])
 (.reg [.s ⟨(some 16), .mv (.t 1), []⟩,
  .s ⟨(some 17), .bin .shr (.t 16) (.c (.int .u64 7)), []⟩,
  .s ⟨(some 1), .mv (.t 17), []⟩]))))))
 (.seq (.reg [.s ⟨(some 18), .mv (.t 5), []⟩,
  .s ⟨(some 19), .mv (.t 1), []⟩,
  .s ⟨(some 20), .cint .u8 (.t 19), []⟩,
  .s ⟨(some 21), .bslice 5 1 [(.int .u8 0)] [(0, 1, (.t 20))], []⟩,
  .s ⟨(some 22), .app 5 1 1 (.t 18) (.t 21), []⟩,
  .s ⟨(some 4), .mv (.t 22), []⟩])
 .ret))))⟩
theorem s78 : slimF Try.prog Try.f78 = some a78.fn := by kernel_rfl
def a79 : XFun := ⟨27, [.t 6, .t 7],
 (.seq (.reg [.s ⟨(some 6), .mv (.c (.int .i64 0)), []⟩,
  .s ⟨(some 7), .mv (.c (.bool false)), []⟩])
 (.seq (.reg [.s ⟨(some 12), .mv (.t 0), []⟩,
  .s ⟨(some 13), .mv (.t 1), []⟩,
  .s ⟨(some 14), .call 80 [(.t 12), (.t 13)], []⟩,
  .s ⟨(some 11), .mv (.t 14), []⟩,
  .s ⟨(some 15), .ext 0 (.t 11), []⟩,
  .s ⟨(some 16), .ext 1 (.t 11), []⟩,
  .s ⟨(some 17), .ext 2 (.t 11), []⟩,
  .s ⟨(some 8), .mv (.t 15), []⟩,
  .s ⟨(some 9), .mv (.t 16), []⟩,
  .s ⟨(some 10), .mv (.t 17), []⟩])
 (.seq (.reg [.s ⟨(some 18), .mv (.t 2), []⟩,
  .s ⟨(some 19), .mv (.t 8), []⟩,
  .s ⟨(some 20), .minmax false (.t 19) [(.c (.int .u64 16777216))], []⟩,
  .s ⟨(some 21), .cint .i64 (.t 20), []⟩,
  .s ⟨(some 22), .nilchk (.t 18), []⟩,
  .s ⟨(some 23), .faddr 6 (.t 22), []⟩,
  .s ⟨none, .store 1 (.t 23) (.t 21), []⟩])
 (.seq (.reg [.s ⟨(some 24), .mv (.t 9), []⟩,
  .s ⟨(some 25), .mv (.t 10), []⟩,
  .s ⟨(some 26), .bin .eql (.t 25) (.c (.int .i64 0)), []⟩,
  .s ⟨(some 6), .mv (.t 24), []⟩,
  .s ⟨(some 7), .mv (.t 26), []⟩])
 .ret))))⟩
theorem s79 : slimF Try.prog Try.f79 = some a79.fn := by kernel_rfl
def a80 : XFun := ⟨13, [.t 4, .t 5, .t 6],
 (.seq (.reg [.s ⟨(some 4), .mv (.c (.int .u64 0)), []⟩,
  .s ⟨(some 5), .mv (.c (.int .i64 0)), []⟩,
  .s ⟨(some 6), .mv (.c (.int .i64 0)), []⟩])
 (.seq (.reg [.s ⟨(some 7), .mv (.t 0), []⟩,
  .s ⟨(some 8), .mv (.t 1), []⟩,
  .s ⟨(some 9), .call 94 [(.t 7), (.t 8), (.fn 95), (.fn 78)], []⟩,
  .s ⟨(some 10), .ext 0 (.t 9), []⟩,
  .s ⟨(some 11), .ext 1 (.t 9), []⟩,
  .s ⟨(some 12), .ext 2 (.t 9), []⟩,
  .s ⟨(some 4), .mv (.t 10), []⟩,
  .s ⟨(some 5), .mv (.t 11), []⟩,
  .s ⟨(some 6), .mv (.t 12), []⟩])
 .ret))⟩
theorem s80 : slimF Try.prog Try.f80 = some a80.fn := by kernel_rfl
def a81 : XFun := ⟨15, [.t 2],
 (.seq (.reg [.s ⟨(some 2), .mv (.c (.bool false)), []⟩])
 (.seq (.reg [.s ⟨(some 3), .mv (.t 0), []⟩,
  .s ⟨(some 4), .nilchk (.t 3), []⟩,
  .s ⟨(some 5), .faddr 5 (.t 4), []⟩,
  .s ⟨(some 6), .load false 1 (.t 5), []⟩,
  .s ⟨(some 7), .bin .geq (.t 6) (.c (.int .i64 0)), []⟩,
  .s ⟨(some 8), .mv (.t 7), []⟩,
  .g 8 true [⟨(some 9), .mv (.t 0), []⟩,
   ⟨(some 10), .nilchk (.t 9), []⟩,
   ⟨(some 11), .faddr 5 (.t 10), []⟩,
   ⟨(some 12), .load false 1 (.t 11), []⟩,
   ⟨(some 13), .bin .lss (.t 12) (.c (.int .i64 16777216)), []⟩],
  .s ⟨(some 14), .pick (.t 8) (.t 13) (.c (.bool false)), []⟩,
  .s ⟨(some 2), .mv (.t 14), []⟩])
 .ret))⟩
theorem s81 : slimF Try.prog Try.f81 = some a81.fn := by kernel_rfl
def a82 : XFun := ⟨17, [.t 4],
 (.seq (.reg [.s ⟨(some 4), .mv (.c (.slice none 0 0)), []⟩])
 (.seq (.reg [.s ⟨(some 8), .mv (.t 0), []⟩,
  .s ⟨(some 9), .mv (.t 1), []⟩,
  .s ⟨(some 10), .nilchk (.t 9), []⟩,
  .s ⟨(some 11), .faddr 5 (.t 10), []⟩,
  .s ⟨(some 12), .load false 1 (.t 11), []⟩,
  .s ⟨(some 13), .call 83 [(.t 8), (.t 12)], []⟩,
  .s ⟨(some 7), .mv (.t 13), []⟩,
  .s ⟨(some 14), .ext 0 (.t 7), []⟩,
  .s ⟨(some 15), .ext 1 (.t 7), []⟩,
  .s ⟨(some 5), .mv (.t 14), []⟩,
  .s ⟨(some 6), .mv (.t 15), []⟩])
 (.seq (.reg [.s ⟨(some 16), .mv (.t 5), []⟩,
  .s ⟨(some 4), .mv (.t 16), []⟩])
 .ret)))⟩
theorem s82 : slimF Try.prog Try.f82 = some a82.fn := by kernel_rfl
def a83 : XFun := ⟨30, [.t 4, .t 5],
 (.seq (.reg [.s ⟨(some 4), .mv (.c (.slice none 0 0)), []⟩,
  .s ⟨(some 5), .mv (.c (.int .i64 0)), []⟩])
 (.seq (.seq (.reg [.s ⟨(some 8), .mv (.t 1), []⟩,
  .s ⟨(some 9), .bin .lss (.t 8) (.c (.int .i64 0)), []⟩,
  .s ⟨(some 10), .mv (.t 9), []⟩,
  .g 10 false [⟨(some 11), .mv (.t 1), []⟩,
   ⟨(some 12), .bin .geq (.t 11) (.c (.int .i64 16777216)), []⟩],
  .s ⟨(some 13), .pick (.t 10) (.c (.bool true)) (.t 12), []⟩])
 (.cond (.t 13) (.seq (.reg [.s ⟨(some 4), .mv (.c (.slice none 0 0)), []⟩,
  .s ⟨(some 5), .mv (.c (.int .i64 1)), []⟩])
 .ret)
 .skip))
 (.seq (.reg [.s ⟨(some 6), .alloc 99 [(.int .u8 0), (.int .u8 0), (.int .u8 0)], []⟩])
 (.seq (.seq (.reg [.s ⟨(some 14), .mv (.c (.int .i64 0)), []⟩])
 (.block 0 (.loop (.seq (.reg [.s ⟨(some 15), .bin .lss (.t 14) (.c (.int .i64 3)), []⟩])
 (.seq (.cond (.t 15) .skip
 (.exit 0))
 (.seq (.block 1 (.seq (.reg [.s ⟨(some 16), .mv (.t 14), []⟩,
  .s ⟨(some 7), .mv (.t 16), []⟩])
 (.reg [.s ⟨(some 17), .mv (.t 7), []⟩,
  .s ⟨(some 18), .bin .sub (.c (.int .i64 2)) (.t 17), []⟩,
  .s ⟨(some 19), .mv (.t 1), []⟩,
  .s ⟨(some 20), .mv (.t 7), []⟩,
  .s ⟨(some 21), .bin .mul (.c (.int .i64 8)) (.t 20), []⟩,
  .s ⟨(some 22), .bin .shr (.t 19) (.t 21), []⟩,
  .s ⟨(some 23), .cint .u8 (.t 22), []⟩,
  .s ⟨(some 24), .aaddr 3 1 (.t 6) (.t 18), []⟩,
  .s ⟨none, .store 1 (.t 24) (.t 23), []⟩])))
 (.reg [.s ⟨(some 25), .bin .add (.t 14) (.c (.int .i64 1)), []⟩,
  .s ⟨(some 14), .mv (.t 25), []⟩])))))))
 (.seq (.reg [.s ⟨(some 26), .mv (.t 0), []⟩,
  .s ⟨(some 27), .slcA 3 1 (.t 6) none none none, []⟩,
  .s ⟨(some 28), .bslice 22 2 [(.slice none 0 0), (.slice none 0 0)] [(0, 1, (.t 26)), (1, 1, (.t 27))], []⟩,
  .s ⟨(some 29), .call 96 [(.t 28)], []⟩,
  .s ⟨(some 4), .mv (.t 29), []⟩,
  .s ⟨(some 5), .mv (.c (.int .i64 0)), []⟩])
 .ret)))))⟩
theorem s83 : slimF Try.prog Try.f83 = some a83.fn := by kernel_rfl
def a84 : XFun := ⟨25, [.t 6, .t 7],
 (.seq (.reg [.s ⟨(some 6), .mv (.c (.int .i64 0)), []⟩,
  .s ⟨(some 7), .mv (.c (.bool false)), []⟩])
 (.seq (.reg [.s ⟨(some 12), .mv (.t 0), []⟩,
  .s ⟨(some 13), .mv (.t 1), []⟩,
  .s ⟨(some 14), .call 85 [(.t 12), (.t 13)], []⟩,
  .s ⟨(some 11), .mv (.t 14), []⟩,
  .s ⟨(some 15), .ext 0 (.t 11), []⟩,
  .s ⟨(some 16), .ext 1 (.t 11), []⟩,
  .s ⟨(some 17), .ext 2 (.t 11), []⟩,
  .s ⟨(some 8), .mv (.t 15), []⟩,
  .s ⟨(some 9), .mv (.t 16), []⟩,
  .s ⟨(some 10), .mv (.t 17), []⟩])
 (.seq (.reg [.s ⟨(some 18), .mv (.t 2), []⟩,
  .s ⟨(some 19), .mv (.t 8), []⟩,
  .s ⟨(some 20), .nilchk (.t 18), []⟩,
  .s ⟨(some 21), .faddr 5 (.t 20), []⟩,
  .s ⟨none, .store 1 (.t 21) (.t 19), []⟩])
 (.seq (.reg [.s ⟨(some 22), .mv (.t 9), []⟩,
  .s ⟨(some 23), .mv (.t 10), []⟩,
  .s ⟨(some 24), .bin .eql (.t 23) (.c (.int .i64 0)), []⟩,
  .s ⟨(some 6), .mv (.t 22), []⟩,
  .s ⟨(some 7), .mv (.t 24), []⟩])
 .ret))))⟩
theorem s84 : slimF Try.prog Try.f84 = some a84.fn := by kernel_rfl
def a85 : XFun := ⟨32, [.t 4, .t 5, .t 6],
 (.seq (.reg [.s ⟨(some 4), .mv (.c (.int .i64 0)), []⟩,
  .s ⟨(some 5), .mv (.c (.int .i64 0)), []⟩,
  .s ⟨(some 6), .mv (.c (.int .i64 0)), []⟩])
 (.seq (.reg [.s ⟨(some 11), .mv (.t 0), []⟩,
  .s ⟨(some 12), .mv (.t 1), []⟩,
  .s ⟨(some 13), .call 97 [(.t 11), (.t 12), (.c (.int .i64 3))], []⟩,
  .s ⟨(some 10), .mv (.t 13), []⟩,
  .s ⟨(some 14), .ext 0 (.t 10), []⟩,
  .s ⟨(some 15), .ext 1 (.t 10), []⟩,
  .s ⟨(some 16), .ext 2 (.t 10), []⟩,
  .s ⟨(some 7), .mv (.t 14), []⟩,
  .s ⟨(some 5), .mv (.t 15), []⟩,
  .s ⟨(some 6), .mv (.t 16), []⟩])
 (.seq (.seq (.reg [.s ⟨(some 17), .mv (.t 7), []⟩,
  .s ⟨(some 18), .lenL (.t 17), []⟩,
  .s ⟨(some 19), .mv (.c (.int .i64 0)), []⟩])
 (.block 0 (.loop (.seq (.reg [.s ⟨(some 20), .bin .lss (.t 19) (.t 18), []⟩])
 (.seq (.cond (.t 20) .skip
 (.exit 0))
 (.seq (.block 1 (.seq (.reg [.s ⟨(some 21), .idx 1 (.t 17) (.t 19), []⟩,
  .s ⟨(some 22), .load false 1 (.t 21), []⟩,
  .s ⟨(some 9), .mv (.t 22), []⟩])
 (.reg [.s ⟨(some 23), .mv (.t 4), []⟩,
  .s ⟨(some 24), .bin .shl (.t 23) (.c (.int .u64 8)), []⟩,
  .s ⟨(some 25), .mv (.t 9), []⟩,
  .s ⟨(some 26), .cint .i64 (.t 25), []⟩,
  .s ⟨(some 27), .bin .or (.t 24) (.t 26), []⟩,
  .s ⟨(some 4), .mv (.t 27), []⟩])))
 (.reg [.s ⟨(some 28), .bin .add (.t 19) (.c (.int .i64 1)), []⟩,
  .s ⟨(some 19), .mv (.t 28), []⟩])))))))
 (.seq (.reg [.s ⟨(some 29), .mv (.t 4), []⟩,
  .s ⟨(some 30), .mv (.t 5), []⟩,
  .s ⟨(some 31), .mv (.t 6), []⟩,
  .s ⟨(some 4), .mv (.t 29), []⟩,
  .s ⟨(some 5), .mv (.t 30), []⟩,
  .s ⟨(some 6), .mv (.t 31), []⟩])
 .ret))))⟩
theorem s85 : slimF Try.prog Try.f85 = some a85.fn := by kernel_rfl
def a86 : XFun := ⟨15, [.t 2],
 (.seq (.reg [.s ⟨(some 2), .mv (.c (.bool false)), []⟩])
 (.seq (.reg [.s ⟨(some 3), .mv (.t 0), []⟩,
  .s ⟨(some 4), .nilchk (.t 3), []⟩,
  .s ⟨(some 5), .faddr 5 (.t 4), []⟩,
  .s ⟨(some 6), .load false 1 (.t 5), []⟩,
  .s ⟨(some 7), .bin .geq (.t 6) (.c (.int .i64 2)), []⟩,
  .s ⟨(some 8), .mv (.t 7), []⟩,
  .g 8 true [⟨(some 9), .mv (.t 0), []⟩,
   ⟨(some 10), .nilchk (.t 9), []⟩,
   ⟨(some 11), .faddr 5 (.t 10), []⟩,
   ⟨(some 12), .load false 1 (.t 11), []⟩,
   ⟨(some 13), .bin .leq (.t 12) (.c (.int .i64 4)), []⟩],
  .s ⟨(some 14), .pick (.t 8) (.t 13) (.c (.bool false)), []⟩,
  .s ⟨(some 2), .mv (.t 14), []⟩])
 .ret))⟩
theorem s86 : slimF Try.prog Try.f86 = some a86.fn := by kernel_rfl
def a87 : XFun := ⟨8, [.t 2],
 (.seq (.reg [.s ⟨(some 2), .mv (.c (.int .u8 0)), []⟩])
 (.seq (.reg [.s ⟨(some 3), .mv (.t 0), []⟩,
  .s ⟨(some 4), .nilchk (.t 3), []⟩,
  .s ⟨(some 5), .faddr 5 (.t 4), []⟩,
  .s ⟨(some 6), .load false 1 (.t 5), []⟩,
  .s ⟨(some 7), .cint .u8 (.t 6), []⟩,
  .s ⟨(some 2), .mv (.t 7), []⟩])
 .ret))⟩
theorem s87 : slimF Try.prog Try.f87 = some a87.fn := by kernel_rfl
def a88 : XFun := ⟨9, [],
 (.reg [.s ⟨(some 4), .mv (.t 0), []⟩,
  .s ⟨(some 5), .mv (.t 1), []⟩,
  .s ⟨(some 6), .cint .i64 (.t 5), []⟩,
  .s ⟨(some 7), .nilchk (.t 4), []⟩,
  .s ⟨(some 8), .faddr 5 (.t 7), []⟩,
  .s ⟨none, .store 1 (.t 8) (.t 6), []⟩])⟩
theorem s88 : slimF Try.prog Try.f88 = some a88.fn := by kernel_rfl
def a89 : XFun := ⟨12, [.t 5],
 (.seq (.reg [.s ⟨(some 5), .mv (.c (.slice none 0 0)), []⟩])
 (.seq (.reg [.s ⟨(some 6), .mv (.t 0), []⟩,
  .s ⟨(some 7), .load false 1 (.t 2), []⟩,
  .s ⟨(some 8), .mv (.t 1), []⟩,
  .s ⟨(some 9), .callv (.t 7) [(.t 8)], []⟩,
  .s ⟨(some 10), .bslice 5 1 [(.int .u8 0)] [(0, 1, (.t 9))], []⟩,
  .s ⟨(some 11), .app 5 1 1 (.t 6) (.t 10), []⟩,
  .s ⟨(some 5), .mv (.t 11), []⟩])
 .ret))⟩
theorem s89 : slimF Try.prog Try.f89 = some a89.fn := by kernel_rfl
def a90 : XFun := ⟨26, [.t 7, .t 8],
 (.seq (.reg [.s ⟨(some 7), .mv (.c (.int .i64 0)), []⟩,
  .s ⟨(some 8), .mv (.c (.bool false)), []⟩])
 (.seq (.reg [.s ⟨(some 13), .mv (.t 0), []⟩,
  .s ⟨(some 14), .mv (.t 1), []⟩,
  .s ⟨(some 15), .call 91 [(.t 13), (.t 14)], []⟩,
  .s ⟨(some 12), .mv (.t 15), []⟩,
  .s ⟨(some 16), .ext 0 (.t 12), []⟩,
  .s ⟨(some 17), .ext 1 (.t 12), []⟩,
  .s ⟨(some 18), .ext 2 (.t 12), []⟩,
  .s ⟨(some 9), .mv (.t 16), []⟩,
  .s ⟨(some 10), .mv (.t 17), []⟩,
  .s ⟨(some 11), .mv (.t 18), []⟩])
 (.seq (.reg [.s ⟨(some 19), .load false 1 (.t 3), []⟩,
  .s ⟨(some 20), .mv (.t 2), []⟩,
  .s ⟨(some 21), .mv (.t 9), []⟩,
  .s ⟨(some 22), .callv (.t 19) [(.t 20), (.t 21)], []⟩])
 (.seq (.reg [.s ⟨(some 23), .mv (.t 10), []⟩,
  .s ⟨(some 24), .mv (.t 11), []⟩,
  .s ⟨(some 25), .bin .eql (.t 24) (.c (.int .i64 0)), []⟩,
  .s ⟨(some 7), .mv (.t 23), []⟩,
  .s ⟨(some 8), .mv (.t 25), []⟩])
 .ret))))⟩
theorem s90 : slimF Try.prog Try.f90 = some a90.fn := by kernel_rfl
def a91 : XFun := ⟨22, [.t 4, .t 5, .t 6],
 (.seq (.reg [.s ⟨(some 4), .mv (.c (.int .u8 0)), []⟩,
  .s ⟨(some 5), .mv (.c (.int .i64 0)), []⟩,
  .s ⟨(some 6), .mv (.c (.int .i64 0)), []⟩])
 (.seq (.reg [.s ⟨(some 9), .mv (.t 0), []⟩,
  .s ⟨(some 10), .mv (.t 1), []⟩,
  .s ⟨(some 11), .call 97 [(.t 9), (.t 10), (.c (.int .i64 1))], []⟩,
  .s ⟨(some 8), .mv (.t 11), []⟩,
  .s ⟨(some 12), .ext 0 (.t 8), []⟩,
  .s ⟨(some 13), .ext 1 (.t 8), []⟩,
  .s ⟨(some 14), .ext 2 (.t 8), []⟩,
  .s ⟨(some 7), .mv (.t 12), []⟩,
  .s ⟨(some 5), .mv (.t 13), []⟩,
  .s ⟨(some 6), .mv (.t 14), []⟩])
 (.seq (.seq (.reg [.s ⟨(some 15), .mv (.t 6), []⟩,
  .s ⟨(some 16), .bin .neq (.t 15) (.c (.int .i64 0)), []⟩])
 (.cond (.t 16) (.seq (.reg [.s ⟨(some 17), .mv (.t 6), []⟩,
  .s ⟨(some 4), .mv (.c (.int .u8 0)), []⟩,
  .s ⟨(some 5), .mv (.c (.int .i64 0)), []⟩,
  .s ⟨(some 6), .mv (.t 17), []⟩])
 .ret)
 .skip))
 (.seq (.reg [.s ⟨(some 18), .mv (.t 7), []⟩,
  .s ⟨(some 19), .idx 1 (.t 18) (.c (.int .i64 0)), []⟩,
  .s ⟨(some 20), .load false 1 (.t 19), []⟩,
  .s ⟨(some 21), .mv (.t 5), []⟩,
  .s ⟨(some 4), .mv (.t 20), []⟩,
  .s ⟨(some 5), .mv (.t 21), []⟩,
  .s ⟨(some 6), .mv (.c (.int .i64 0)), []⟩])
 .ret))))⟩
theorem s91 : slimF Try.prog Try.f91 = some a91.fn := by kernel_rfl
def a92 : XFun := ⟨52, [.t 8, .t 9, .t 10],
 (.seq (.reg [.s ⟨(some 8), .mv (.c (.int .i64 0)), []⟩,
  .s ⟨(some 9), .mv (.c (.int .i64 0)), []⟩,
  .s ⟨(some 10), .mv (.c (.int .i64 0)), []⟩])
 (.seq (.seq (.reg [.s ⟨(some 14), .mv (.t 1), []⟩,
  .s ⟨(some 15), .bin .lss (.t 14) (.c (.int .i64 0)), []⟩,
  .s ⟨(some 16), .mv (.t 15), []⟩,
  .g 16 false [⟨(some 17), .mv (.t 1), []⟩,
   ⟨(some 18), .mv (.t 0), []⟩,
   ⟨(some 19), .lenL (.t 18), []⟩,
   ⟨(some 20), .bin .gtr (.t 17) (.t 19), []⟩],
  .s ⟨(some 21), .pick (.t 16) (.c (.bool true)) (.t 20), []⟩])
 (.cond (.t 21) (.seq (.reg [.s ⟨(some 8), .mv (.c (.int .i64 0)), []⟩,
  .s ⟨(some 9), .mv (.c (.int .i64 0)), []⟩,
  .s ⟨(some 10), .mv (.c (.int .i64 1)), []⟩])
 .ret)
 .skip))
 (.seq (.reg [.s ⟨(some 23), .mv (.t 0), []⟩,
  .s ⟨(some 24), .mv (.t 1), []⟩,
  .s ⟨(some 25), .slc 1 (.t 23) (some (.t 24)) none none, []⟩,
  .s ⟨(some 26), .call 98 [(.t 25)], []⟩,
  .s ⟨(some 22), .mv (.t 26), []⟩,
  .s ⟨(some 27), .ext 0 (.t 22), []⟩,
  .s ⟨(some 28), .ext 1 (.t 22), []⟩,
  .s ⟨(some 11), .mv (.t 27), []⟩,
  .s ⟨(some 12), .mv (.t 28), []⟩])
 (.seq (.reg [.s ⟨(some 29), .mv (.t 2), []⟩,
  .s ⟨(some 30), .mv (.t 11), []⟩,
  .s ⟨(some 31), .mv (.t 12), []⟩,
  .s ⟨(some 32), .callv (.t 29) [(.t 30), (.t 31)], []⟩,
  .s ⟨(some 13), .mv (.t 32), []⟩])
 (.seq (.seq (.par [.s ⟨(some 33), .mv (.t 12), []⟩,
  .s ⟨(some 34), .bin .eql (.t 33) (.c (.int .i64 0)), []⟩,
  .s ⟨(some 35), .mv (.t 34), []⟩,
  .g 35 false [⟨(some 36), .mv (.t 3), []⟩,
   ⟨(some 37), .mv (.t 13), []⟩,
   ⟨(some 39), .mv (.t 0), []⟩,
   ⟨(some 40), .mv (.t 1), []⟩,
   ⟨(some 41), .mv (.t 1), []⟩,
   ⟨(some 42), .mv (.t 12), []⟩,
   ⟨(some 43), .bin .add (.t 41) (.t 42), []⟩,
   ⟨(some 44), .slc 1 (.t 39) (some (.t 40)) (some (.t 43)) none, []⟩,
   ⟨(some 38), .callv (.t 36) [(.c (.slice none 0 0)), (.t 37)], []⟩,
   ⟨(some 45), .call 99 [(.t 38), (.t 44)], []⟩,
   ⟨(some 46), .un .not (.t 45), []⟩],
  .s ⟨(some 47), .pick (.t 35) (.c (.bool true)) (.t 46), []⟩])
 (.cond (.t 47) (.seq (.reg [.s ⟨(some 8), .mv (.c (.int .i64 0)), []⟩,
  .s ⟨(some 9), .mv (.c (.int .i64 0)), []⟩,
  .s ⟨(some 10), .mv (.c (.int .i64 5)), []⟩])
 .ret)
 .skip))
 (.seq (.reg [.s ⟨(some 48), .mv (.t 13), []⟩,
  .s ⟨(some 49), .mv (.t 1), []⟩,
  .s ⟨(some 50), .mv (.t 12), []⟩,
  .s ⟨(some 51), .bin .add (.t 49) (.t 50), []⟩,
  .s ⟨(some 8), .mv (.t 48), []⟩,
  .s ⟨(some 9), .mv (.t 51), []⟩,
  .s ⟨(some 10), .mv (.c (.int .i64 0)), []⟩])
 .ret))))))⟩
theorem s92 : slimF Try.prog Try.f92 = some a92.fn := by kernel_rfl
def a93 : XFun := ⟨16, [.t 4],
 (.seq (.reg [.s ⟨(some 4), .mv (.c (.int .i64 0)), []⟩])
 (.seq (.reg [.s ⟨(some 6), .mv (.t 1), []⟩,
  .s ⟨(some 7), .bin .mul (.c (.int .i64 7)) (.t 6), []⟩,
  .s ⟨(some 8), .bin .sub (.c (.int .i64 64)) (.t 7), []⟩,
  .s ⟨(some 9), .minmax true (.c (.int .i64 0)) [(.t 8)], []⟩,
  .s ⟨(some 5), .mv (.t 9), []⟩])
 (.seq (.reg [.s ⟨(some 10), .mv (.t 0), []⟩,
  .s ⟨(some 11), .mv (.t 5), []⟩,
  .s ⟨(some 12), .bin .shl (.t 10) (.t 11), []⟩,
  .s ⟨(some 13), .cint .i64 (.t 12), []⟩,
  .s ⟨(some 14), .mv (.t 5), []⟩,
  .s ⟨(some 15), .bin .shr (.t 13) (.t 14), []⟩,
  .s ⟨(some 4), .mv (.t 15), []⟩])
 .ret)))⟩
theorem s93 : slimF Try.prog Try.f93 = some a93.fn := by kernel_rfl
def a94 : XFun := ⟨52, [.t 8, .t 9, .t 10],
 (.seq (.reg [.s ⟨(some 8), .mv (.c (.int .u64 0)), []⟩,
  .s ⟨(some 9), .mv (.c (.int .i64 0)), []⟩,
  .s ⟨(some 10), .mv (.c (.int .i64 0)), []⟩])
 (.seq (.seq (.reg [.s ⟨(some 14), .mv (.t 1), []⟩,
  .s ⟨(some 15), .bin .lss (.t 14) (.c (.int .i64 0)), []⟩,
  .s ⟨(some 16), .mv (.t 15), []⟩,
  .g 16 false [⟨(some 17), .mv (.t 1), []⟩,
   ⟨(some 18), .mv (.t 0), []⟩,
   ⟨(some 19), .lenL (.t 18), []⟩,
   ⟨(some 20), .bin .gtr (.t 17) (.t 19), []⟩],
  .s ⟨(some 21), .pick (.t 16) (.c (.bool true)) (.t 20), []⟩])
 (.cond (.t 21) (.seq (.reg [.s ⟨(some 8), .mv (.c (.int .u64 0)), []⟩,
  .s ⟨(some 9), .mv (.c (.int .i64 0)), []⟩,
  .s ⟨(some 10), .mv (.c (.int .i64 1)), []⟩])
 .ret)
 .skip))
 (.seq (.reg [.s ⟨(some 23), .mv (.t 0), []⟩,
  .s ⟨(some 24), .mv (.t 1), []⟩,
  .s ⟨(some 25), .slc 1 (.t 23) (some (.t 24)) none none, []⟩,
  .s ⟨(some 26), .call 98 [(.t 25)], []⟩,
  .s ⟨(some 22), .mv (.t 26), []⟩,
  .s ⟨(some 27), .ext 0 (.t 22), []⟩,
  .s ⟨(some 28), .ext 1 (.t 22), []⟩,
  .s ⟨(some 11), .mv (.t 27), []⟩,
  .s ⟨(some 12), .mv (.t 28), []⟩])
 (.seq (.reg [.s ⟨(some 29), .mv (.t 2), []⟩,
  .s ⟨(some 30), .mv (.t 11), []⟩,
  .s ⟨(some 31), .mv (.t 12), []⟩,
  .s ⟨(some 32), .callv (.t 29) [(.t 30), (.t 31)], []⟩,
  .s ⟨(some 13), .mv (.t 32), []⟩])
 (.seq (.seq (.par [.s ⟨(some 33), .mv (.t 12), []⟩,
  .s ⟨(some 34), .bin .eql (.t 33) (.c (.int .i64 0)), []⟩,
  .s ⟨(some 35), .mv (.t 34), []⟩,
  .g 35 false [⟨(some 36), .mv (.t 3), []⟩,
   ⟨(some 37), .mv (.t 13), []⟩,
   ⟨(some 39), .mv (.t 0), []⟩,
   ⟨(some 40), .mv (.t 1), []⟩,
   ⟨(some 41), .mv (.t 1), []⟩,
   ⟨(some 42), .mv (.t 12), []⟩,
   ⟨(some 43), .bin .add (.t 41) (.t 42), []⟩,
   ⟨(some 44), .slc 1 (.t 39) (some (.t 40)) (some (.t 43)) none, []⟩,
   ⟨(some 38), .callv (.t 36) [(.c (.slice none 0 0)), (.t 37)], []⟩,
   ⟨(some 45), .call 99 [(.t 38), (.t 44)], []⟩,
   ⟨(some 46), .un .not (.t 45), []⟩],
  .s ⟨(some 47), .pick (.t 35) (.c (.bool true)) (.t 46), []⟩])
 (.cond (.t 47) (.seq (.reg [.s ⟨(some 8), .mv (.c (.int .u64 0)), []⟩,
  .s ⟨(some 9), .mv (.c (.int .i64 0)), []⟩,
  .s ⟨(some 10), .mv (.c (.int .i64 5)), []⟩])
 .ret)
 .skip))
 (.seq (.reg [.s ⟨(some 48), .mv (.t 13), []⟩,
  .s ⟨(some 49), .mv (.t 1), []⟩,
  .s ⟨(some 50), .mv (.t 12), []⟩,
  .s ⟨(some 51), .bin .add (.t 49) (.t 50), []⟩,
  .s ⟨(some 8), .mv (.t 48), []⟩,
  .s ⟨(some 9), .mv (.t 51), []⟩,
  .s ⟨(some 10), .mv (.c (.int .i64 0)), []⟩])
 .ret))))))⟩
theorem s94 : slimF Try.prog Try.f94 = some a94.fn := by kernel_rfl
def a95 : XFun := ⟨6, [.t 4],
 (.seq (.reg [.s ⟨(some 4), .mv (.c (.int .u64 0)), []⟩])
 (.seq (.reg [.s ⟨(some 5), .mv (.t 0), []⟩,
  .s ⟨(some 4), .mv (.t 5), []⟩])
 .ret))⟩
theorem s95 : slimF Try.prog Try.f95 = some a95.fn := by kernel_rfl
def a96 : XFun := ⟨36, [.t 2],
 (.seq (.reg [.s ⟨(some 2), .mv (.c (.slice none 0 0)), []⟩])
 (.seq (.reg [.s ⟨(some 3), .mv (.c (.int .i64 0)), []⟩])
 (.seq (.seq (.reg [.s ⟨(some 9), .mv (.t 0), []⟩,
  .s ⟨(some 10), .lenL (.t 9), []⟩,
  .s ⟨(some 11), .mv (.c (.int .i64 0)), []⟩])
 (.block 0 (.loop (.seq (.reg [.s ⟨(some 12), .bin .lss (.t 11) (.t 10), []⟩])
 (.seq (.cond (.t 12) .skip
 (.exit 0))
 (.seq (.block 1 (.seq (.reg [.s ⟨(some 13), .idx 1 (.t 9) (.t 11), []⟩,
  .s ⟨(some 14), .load false 1 (.t 13), []⟩,
  .s ⟨(some 5), .mv (.t 14), []⟩])
 (.seq (.reg [.s ⟨(some 15), .mv (.t 3), []⟩,
  .s ⟨(some 16), .mv (.t 5), []⟩,
  .s ⟨(some 17), .lenL (.t 16), []⟩,
  .s ⟨(some 18), .bin .add (.t 15) (.t 17), []⟩,
  .s ⟨(some 3), .mv (.t 18), []⟩])
 (.seq (.reg [.s ⟨(some 19), .mv (.t 3), []⟩,
  .s ⟨(some 20), .bin .lss (.t 19) (.c (.int .i64 0)), []⟩])
 (.cond (.t 20) (.reg [.s ⟨(some 21), .mkif 9 (.c (.string ⟨#[108, 101, 110, 32, 111, 117, 116, 32, 111, 102, 32, 114, 97, 110, 103, 101]⟩)), []⟩,
  .s ⟨none, .pan (.t 21), []⟩])
 .skip)))))
 (.reg [.s ⟨(some 22), .bin .add (.t 11) (.c (.int .i64 1)), []⟩,
  .s ⟨(some 11), .mv (.t 22), []⟩])))))))
 (.seq (.reg [.s ⟨(some 23), .mv (.t 3), []⟩,
  .s ⟨(some 24), .call 100 [(.c (.slice none 0 0)), (.t 23)], []⟩,
  .s ⟨(some 6), .mv (.t 24), []⟩])
 (.seq (.seq (.reg [.s ⟨(some 25), .mv (.t 0), []⟩,
  .s ⟨(some 26), .lenL (.t 25), []⟩,
  .s ⟨(some 27), .mv (.c (.int .i64 0)), []⟩])
 (.block 2 (.loop (.seq (.reg [.s ⟨(some 28), .bin .lss (.t 27) (.t 26), []⟩])
 (.seq (.cond (.t 28) .skip
 (.exit 2))
 (.seq (.block 3 (.seq (.reg [.s ⟨(some 29), .idx 1 (.t 25) (.t 27), []⟩,
  .s ⟨(some 30), .load false 1 (.t 29), []⟩,
  .s ⟨(some 8), .mv (.t 30), []⟩])
 (.reg [.s ⟨(some 31), .mv (.t 6), []⟩,
  .s ⟨(some 32), .mv (.t 8), []⟩,
  .s ⟨(some 33), .app 5 1 1 (.t 31) (.t 32), []⟩,
  .s ⟨(some 6), .mv (.t 33), []⟩])))
 (.reg [.s ⟨(some 34), .bin .add (.t 27) (.c (.int .i64 1)), []⟩,
  .s ⟨(some 27), .mv (.t 34), []⟩])))))))
 (.seq (.reg [.s ⟨(some 35), .mv (.t 6), []⟩,
  .s ⟨(some 2), .mv (.t 35), []⟩])
 .ret))))))⟩
theorem s96 : slimF Try.prog Try.f96 = some a96.fn := by kernel_rfl
def a97 : XFun := ⟨31, [.t 6, .t 7, .t 8],
 (.seq (.reg [.s ⟨(some 6), .mv (.c (.slice none 0 0)), []⟩,
  .s ⟨(some 7), .mv (.c (.int .i64 0)), []⟩,
  .s ⟨(some 8), .mv (.c (.int .i64 0)), []⟩])
 (.seq (.seq (.reg [.s ⟨(some 10), .mv (.t 1), []⟩,
  .s ⟨(some 11), .bin .lss (.t 10) (.c (.int .i64 0)), []⟩,
  .s ⟨(some 12), .mv (.t 11), []⟩,
  .g 12 false [⟨(some 13), .mv (.t 1), []⟩,
   ⟨(some 14), .mv (.t 0), []⟩,
   ⟨(some 15), .lenL (.t 14), []⟩,
   ⟨(some 16), .bin .gtr (.t 13) (.t 15), []⟩],
  .s ⟨(some 17), .pick (.t 12) (.c (.bool true)) (.t 16), []⟩])
 (.cond (.t 17) (.seq (.reg [.s ⟨(some 6), .mv (.c (.slice none 0 0)), []⟩,
  .s ⟨(some 7), .mv (.c (.int .i64 0)), []⟩,
  .s ⟨(some 8), .mv (.c (.int .i64 1)), []⟩])
 .ret)
 .skip))
 (.seq (.seq (.reg [.s ⟨(some 18), .mv (.t 0), []⟩,
  .s ⟨(some 19), .mv (.t 1), []⟩,
  .s ⟨(some 20), .slc 1 (.t 18) (some (.t 19)) none none, []⟩,
  .s ⟨(some 9), .mv (.t 20), []⟩])
 (.seq (.reg [.s ⟨(some 21), .mv (.t 9), []⟩,
  .s ⟨(some 22), .lenL (.t 21), []⟩,
  .s ⟨(some 23), .mv (.t 2), []⟩,
  .s ⟨(some 24), .bin .geq (.t 22) (.t 23), []⟩])
 (.cond (.t 24) (.seq (.reg [.s ⟨(some 25), .mv (.t 9), []⟩,
  .s ⟨(some 26), .mv (.t 2), []⟩,
  .s ⟨(some 27), .slc 1 (.t 25) none (some (.t 26)) none, []⟩,
  .s ⟨(some 28), .mv (.t 1), []⟩,
  .s ⟨(some 29), .mv (.t 2), []⟩,
  .s ⟨(some 30), .bin .add (.t 28) (.t 29), []⟩,
  .s ⟨(some 6), .mv (.t 27), []⟩,
  .s ⟨(some 7), .mv (.t 30), []⟩,
  .s ⟨(some 8), .mv (.c (.int .i64 0)), []⟩])
 .ret)
 .skip)))
 (.seq (.reg [.s ⟨(some 6), .mv (.c (.slice none 0 0)), []⟩,
  .s ⟨(some 7), .mv (.c (.int .i64 0)), []⟩,
  .s ⟨(some 8), .mv (.c (.int .i64 5)), []⟩])
 .ret))))⟩
theorem s97 : slimF Try.prog Try.f97 = some a97.fn := by kernel_rfl
def a98 : XFun := ⟨31, [.t 2, .t 3],
 (.seq (.reg [.s ⟨(some 2), .mv (.c (.int .u64 0)), []⟩,
  .s ⟨(some 3), .mv (.c (.int .i64 0)), []⟩])
 (.seq (.seq (.reg [.s ⟨(some 5), .mv (.t 0), []⟩,
  .s ⟨(some 6), .lenL (.t 5), []⟩,
  .s ⟨(some 7), .minmax false (.t 6) [(.c (.int .i64 10))], []⟩,
  .s ⟨(some 8), .mv (.c (.int .i64 0)), []⟩])
 (.block 0 (.loop (.seq (.reg [.s ⟨(some 9), .bin .lss (.t 8) (.t 7), []⟩])
 (.seq (.cond (.t 9) .skip
 (.exit 0))
 (.seq (.block 1 (.seq (.reg [.s ⟨(some 10), .mv (.t 8), []⟩,
  .s ⟨(some 4), .mv (.t 10), []⟩])
 (.seq (.reg [.s ⟨(some 11), .mv (.t 2), []⟩,
  .s ⟨(some 12), .mv (.t 0), []⟩,
  .s ⟨(some 13), .mv (.t 4), []⟩,
  .s ⟨(some 14), .idx 1 (.t 12) (.t 13), []⟩,
  .s ⟨(some 15), .load false 1 (.t 14), []⟩,
  .s ⟨(some 16), .bin .and (.t 15) (.c (.int .u8 127)), []⟩,
  .s ⟨(some 17), .cint .u64 (.t 16), []⟩,
  .s ⟨(some 18), .mv (.t 4), []⟩,
  .s ⟨(some 19), .bin .mul (.c (.int .i64 7)) (.t 18), []⟩,
  .s ⟨(some 20), .bin .shl (.t 17) (.t 19), []⟩,
  .s ⟨(some 21), .bin .or (.t 11) (.t 20), []⟩,
  .s ⟨(some 2), .mv (.t 21), []⟩])
 (.seq (.reg [.s ⟨(some 22), .mv (.t 0), []⟩,
  .s ⟨(some 23), .mv (.t 4), []⟩,
  .s ⟨(some 24), .idx 1 (.t 22) (.t 23), []⟩,
  .s ⟨(some 25), .load false 1 (.t 24), []⟩,
  .s ⟨(some 26), .bin .lss (.t 25) (.c (.int .u8 128)), []⟩])
 (.cond (.t 26) (.seq (.reg [.s ⟨(some 27), .mv (.t 2), []⟩,
  .s ⟨(some 28), .mv (.t 4), []⟩,
  .s ⟨(some 29), .bin .add (.t 28) (.c (.int .i64 1)), []⟩,
  .s ⟨(some 2), .mv (.t 27), []⟩,
  .s ⟨(some 3), .mv (.t 29), []⟩])
 .ret)
 .skip)))))
 (.reg [.s ⟨(some 30), .bin .add (.t 8) (.c (.int .i64 1)), []⟩,
  .s ⟨(some 8), .mv (.t 30), []⟩])))))))
 (.seq (.reg [.s ⟨(some 2), .mv (.c (.int .u64 0)), []⟩,
  .s ⟨(some 3), .mv (.c (.int .i64 0)), []⟩])
 .ret)))⟩
theorem s98 : slimF Try.prog Try.f98 = some a98.fn := by kernel_rfl
def a99 : XFun := ⟨26, [.t 4],
 (.seq (.reg [.s ⟨(some 4), .mv (.c (.bool false)), []⟩])
 (.seq (.seq (.reg [.s ⟨(some 6), .mv (.t 0), []⟩,
  .s ⟨(some 7), .lenL (.t 6), []⟩,
  .s ⟨(some 8), .mv (.t 1), []⟩,
  .s ⟨(some 9), .lenL (.t 8), []⟩,
  .s ⟨(some 10), .bin .neq (.t 7) (.t 9), []⟩])
 (.cond (.t 10) (.seq (.reg [.s ⟨(some 4), .mv (.c (.bool false)), []⟩])
 .ret)
 .skip))
 (.seq (.seq (.reg [.s ⟨(some 11), .mv (.t 0), []⟩,
  .s ⟨(some 12), .lenL (.t 11), []⟩,
  .s ⟨(some 13), .mv (.c (.int .i64 0)), []⟩])
 (.block 0 (.loop (.seq (.reg [.s ⟨(some 14), .bin .lss (.t 13) (.t 12), []⟩])
 (.seq (.cond (.t 14) .skip
 (.exit 0))
 (.seq (.block 1 (.seq (.reg [.s ⟨(some 15), .mv (.t 13), []⟩,
  .s ⟨(some 5), .mv (.t 15), []⟩])
 (.seq (.par [.s ⟨(some 16), .mv (.t 0), []⟩,
  .s ⟨(some 17), .mv (.t 5), []⟩,
  .s ⟨(some 18), .idx 1 (.t 16) (.t 17), []⟩,
  .s ⟨(some 19), .load false 1 (.t 18), []⟩,
  .s ⟨(some 20), .mv (.t 1), []⟩,
  .s ⟨(some 21), .mv (.t 5), []⟩,
  .s ⟨(some 22), .idx 1 (.t 20) (.t 21), []⟩,
  .s ⟨(some 23), .load false 1 (.t 22), []⟩,
  .s ⟨(some 24), .bin .neq (.t 19) (.t 23), []⟩])
 (.cond (.t 24) (.seq (.reg [.s ⟨(some 4), .mv (.c (.bool false)), []⟩])
 .ret)
 .skip))))
 (.reg [.s ⟨(some 25), .bin .add (.t 13) (.c (.int .i64 1)), []⟩,
  .s ⟨(some 13), .mv (.t 25), []⟩])))))))
 (.seq (.reg [.s ⟨(some 4), .mv (.c (.bool true)), []⟩])
 .ret))))⟩
theorem s99 : slimF Try.prog Try.f99 = some a99.fn := by kernel_rfl
def a100 : XFun := ⟨27, [.t 4],
 (.seq (.reg [.s ⟨(some 4), .mv (.c (.slice none 0 0)), []⟩])
 (.seq (.seq (.reg [.s ⟨(some 5), .mv (.t 1), []⟩,
  .s ⟨(some 6), .bin .lss (.t 5) (.c (.int .i64 0)), []⟩])
 (.cond (.t 6) (.reg [.s ⟨(some 7), .mkif 9 (.c (.string ⟨#[99, 97, 110, 110, 111, 116, 32, 98, 101, 32, 110, 101, 103, 97, 116, 105, 118, 101]⟩)), []⟩,
  .s ⟨none, .pan (.t 7), []⟩])
 .skip))
 (.seq (.seq (.reg [.s ⟨(some 8), .mv (.t 1), []⟩,
  .s ⟨(some 9), .mv (.t 0), []⟩,
  .s ⟨(some 10), .capL (.t 9), []⟩,
  .s ⟨(some 11), .mv (.t 0), []⟩,
  .s ⟨(some 12), .lenL (.t 11), []⟩,
  .s ⟨(some 13), .bin .sub (.t 10) (.t 12), []⟩,
  .s ⟨(some 14), .bin .sub (.t 8) (.t 13), []⟩,
  .s ⟨(some 1), .mv (.t 14), []⟩])
 (.seq (.reg [.s ⟨(some 15), .mv (.t 1), []⟩,
  .s ⟨(some 16), .bin .gtr (.t 15) (.c (.int .i64 0)), []⟩])
 (.cond (.t 16) (.reg [.s ⟨(some 17), .mv (.t 0), []⟩,
  .s ⟨(some 18), .mv (.t 0), []⟩,
  .s ⟨(some 19), .capL (.t 18), []⟩,
  .s ⟨(some 20), .slc 1 (.t 17) none (some (.t 19)) none, []⟩,
  .s ⟨(some 21), .mv (.t 1), []⟩,
  .s ⟨(some 22), .appz 5 1 1 [(.int .u8 0)] (.t 20) (.t 21), []⟩,
  .s ⟨(some 23), .mv (.t 0), []⟩,
  .s ⟨(some 24), .lenL (.t 23), []⟩,
  .s ⟨(some 25), .slc 1 (.t 22) none (some (.t 24)) none, []⟩,
  .s ⟨(some 0), .mv (.t 25), []⟩])
 .skip)))
 (.seq (.reg [.s ⟨(some 26), .mv (.t 0), []⟩,
  .s ⟨(some 4), .mv (.t 26), []⟩])
 .ret))))⟩
theorem s100 : slimF Try.prog Try.f100 = some a100.fn := by kernel_rfl
end Go.Proofs.Ytnaafaopdefigaa
