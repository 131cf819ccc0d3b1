import Derived.Test.YtglpbhkkkhmlpaaAd
import Derived.Test.YtglpbhkkkhmlpaaProg
import Derived.KernelRfl
namespace Go.Proofs.Ytglpbhkkkhmlpaa
open Go.Ab
set_option linter.unusedVariables false
set_option linter.unusedSimpArgs false

theorem hm : Try.prog.follows .mixedOrders = true := by kernel_rfl
/-! theodolite/theodolitelaw05.LinesWrites -/
def a3 : XFun := ⟨47, [.t 2],
 (.seq (.reg [.s ⟨(some 2), .mv (.c (.bool false)), []⟩])
 (.seq (.seq (.reg [.s ⟨(some 8), .mv (.t 0), []⟩,
  .s ⟨(some 9), .lenL (.t 8), []⟩,
  .s ⟨(some 10), .bin .gtr (.t 9) (.c (.int .i64 30000)), []⟩])
 (.cond (.t 10) (.seq (.reg [.s ⟨(some 11), .call 7 [], []⟩,
  .s ⟨(some 2), .mv (.t 11), []⟩])
 .ret)
 .skip))
 (.seq (.reg [.s ⟨(some 12), .mv (.t 0), []⟩,
  .s ⟨(some 13), .call 8 [(.t 12)], []⟩,
  .s ⟨(some 3), .mv (.t 13), []⟩])
 (.seq (.reg [.s ⟨(some 15), .mv (.t 3), []⟩,
  .s ⟨(some 16), .call 9 [(.t 15)], []⟩,
  .s ⟨(some 14), .mv (.t 16), []⟩,
  .s ⟨(some 17), .ext 0 (.t 14), []⟩,
  .s ⟨(some 18), .ext 1 (.t 14), []⟩,
  .s ⟨(some 4), .mv (.t 17), []⟩,
  .s ⟨(some 5), .mv (.t 18), []⟩])
 (.seq (.reg [.s ⟨(some 20), .mv (.t 0), []⟩,
  .s ⟨(some 21), .call 10 [(.t 20)], []⟩,
  .s ⟨(some 19), .mv (.t 21), []⟩,
  .s ⟨(some 22), .ext 0 (.t 19), []⟩,
  .s ⟨(some 23), .ext 1 (.t 19), []⟩,
  .s ⟨(some 6), .mv (.t 22), []⟩,
  .s ⟨(some 7), .mv (.t 23), []⟩])
 (.seq (.reg [.s ⟨(some 24), .mv (.t 5), []⟩,
  .s ⟨(some 25), .mv (.t 7), []⟩,
  .s ⟨(some 26), .bin .eql (.t 24) (.t 25), []⟩,
  .s ⟨(some 27), .mv (.t 26), []⟩,
  .g 27 true [⟨(some 28), .mv (.t 4), []⟩,
   ⟨(some 29), .mv (.t 6), []⟩,
   ⟨(some 30), .call 11 [(.t 28), (.t 29)], []⟩],
  .s ⟨(some 31), .pick (.t 27) (.t 30) (.c (.bool false)), []⟩,
  .s ⟨(some 32), .mv (.t 31), []⟩,
  .g 32 true [⟨(some 33), .mv (.t 3), []⟩,
   ⟨(some 34), .call 12 [(.t 33)], []⟩,
   ⟨(some 35), .mv (.t 0), []⟩,
   ⟨(some 36), .call 13 [(.t 35)], []⟩,
   ⟨(some 37), .beq false (.t 34) (.t 36), []⟩],
  .s ⟨(some 38), .pick (.t 32) (.t 37) (.c (.bool false)), []⟩,
  .s ⟨(some 39), .mv (.t 38), []⟩,
  .g 39 true [⟨(some 40), .mv (.t 3), []⟩,
   ⟨(some 41), .mv (.t 0), []⟩,
   ⟨(some 42), .call 14 [(.t 40), (.t 41)], []⟩],
  .s ⟨(some 43), .pick (.t 39) (.t 42) (.c (.bool false)), []⟩,
  .s ⟨(some 44), .mv (.t 43), []⟩,
  .g 44 true [⟨(some 45), .call 7 [], []⟩],
  .s ⟨(some 46), .pick (.t 44) (.t 45) (.c (.bool false)), []⟩,
  .s ⟨(some 2), .mv (.t 46), []⟩])
 .ret))))))⟩
theorem s3 : slimF Try.prog Try.f3 = some a3.fn := by kernel_rfl
/-! theodolite/theodolitelaw05.LinesReads -/
def a4 : XFun := ⟨40, [.t 2],
 (.seq (.reg [.s ⟨(some 2), .mv (.c (.bool false)), []⟩])
 (.seq (.seq (.reg [.s ⟨(some 8), .mv (.t 0), []⟩,
  .s ⟨(some 9), .lenL (.t 8), []⟩,
  .s ⟨(some 10), .bin .gtr (.t 9) (.c (.int .i64 65536)), []⟩])
 (.cond (.t 10) (.seq (.reg [.s ⟨(some 11), .call 7 [], []⟩,
  .s ⟨(some 2), .mv (.t 11), []⟩])
 .ret)
 .skip))
 (.seq (.reg [.s ⟨(some 12), .mv (.t 0), []⟩,
  .s ⟨(some 13), .call 15 [(.t 12)], []⟩,
  .s ⟨(some 3), .mv (.t 13), []⟩])
 (.seq (.reg [.s ⟨(some 15), .mv (.t 3), []⟩,
  .s ⟨(some 16), .call 16 [(.t 15)], []⟩,
  .s ⟨(some 14), .mv (.t 16), []⟩,
  .s ⟨(some 17), .ext 0 (.t 14), []⟩,
  .s ⟨(some 18), .ext 1 (.t 14), []⟩,
  .s ⟨(some 4), .mv (.t 17), []⟩,
  .s ⟨(some 5), .mv (.t 18), []⟩])
 (.seq (.reg [.s ⟨(some 20), .mv (.t 0), []⟩,
  .s ⟨(some 21), .call 17 [(.t 20)], []⟩,
  .s ⟨(some 19), .mv (.t 21), []⟩,
  .s ⟨(some 22), .ext 0 (.t 19), []⟩,
  .s ⟨(some 23), .ext 1 (.t 19), []⟩,
  .s ⟨(some 6), .mv (.t 22), []⟩,
  .s ⟨(some 7), .mv (.t 23), []⟩])
 (.seq (.reg [.s ⟨(some 24), .mv (.t 5), []⟩,
  .s ⟨(some 25), .mv (.t 7), []⟩,
  .s ⟨(some 26), .bin .eql (.t 24) (.t 25), []⟩,
  .s ⟨(some 27), .mv (.t 26), []⟩,
  .g 27 true [⟨(some 28), .mv (.t 4), []⟩,
   ⟨(some 29), .mv (.t 6), []⟩,
   ⟨(some 30), .call 14 [(.t 28), (.t 29)], []⟩],
  .s ⟨(some 31), .pick (.t 27) (.t 30) (.c (.bool false)), []⟩,
  .s ⟨(some 32), .mv (.t 31), []⟩,
  .g 32 true [⟨(some 33), .mv (.t 3), []⟩,
   ⟨(some 34), .mv (.t 0), []⟩,
   ⟨(some 35), .call 18 [(.t 33), (.t 34)], []⟩],
  .s ⟨(some 36), .pick (.t 32) (.t 35) (.c (.bool false)), []⟩,
  .s ⟨(some 37), .mv (.t 36), []⟩,
  .g 37 true [⟨(some 38), .call 7 [], []⟩],
  .s ⟨(some 39), .pick (.t 37) (.t 38) (.c (.bool false)), []⟩,
  .s ⟨(some 2), .mv (.t 39), []⟩])
 .ret))))))⟩
theorem s4 : slimF Try.prog Try.f4 = some a4.fn := by kernel_rfl
/-! theodolite/theodolitelaw05.LinesBack -/
def a5 : XFun := ⟨142, [.t 4],
 (.seq (.reg [.s ⟨(some 4), .mv (.c (.bool false)), []⟩])
 (.seq (.seq (.reg [.s ⟨(some 17), .mv (.t 0), []⟩,
  .s ⟨(some 18), .lenL (.t 17), []⟩,
  .s ⟨(some 19), .bin .gtr (.t 18) (.c (.int .i64 30000)), []⟩,
  .s ⟨(some 20), .mv (.t 19), []⟩,
  .g 20 false [⟨(some 21), .mv (.t 1), []⟩,
   ⟨(some 22), .lenL (.t 21), []⟩,
   ⟨(some 23), .bin .gtr (.t 22) (.c (.int .i64 65536)), []⟩],
  .s ⟨(some 24), .pick (.t 20) (.c (.bool true)) (.t 23), []⟩])
 (.cond (.t 24) (.seq (.reg [.s ⟨(some 25), .call 7 [], []⟩,
  .s ⟨(some 4), .mv (.t 25), []⟩])
 .ret)
 .skip))
 (.seq (.reg [.s ⟨(some 27), .mv (.t 0), []⟩,
  .s ⟨(some 28), .call 8 [(.t 27)], []⟩,
  .s ⟨(some 29), .call 9 [(.t 28)], []⟩,
  .s ⟨(some 26), .mv (.t 29), []⟩,
  .s ⟨(some 30), .ext 0 (.t 26), []⟩,
  .s ⟨(some 31), .ext 1 (.t 26), []⟩,
  .s ⟨(some 5), .mv (.t 30), []⟩,
  .s ⟨(some 6), .mv (.t 31), []⟩])
 (.seq (.seq (.reg [.s ⟨(some 32), .mv (.t 6), []⟩,
  .s ⟨(some 33), .bin .eql (.t 32) (.c (.int .i64 0)), []⟩,
  .s ⟨(some 34), .mv (.t 0), []⟩,
  .s ⟨(some 35), .call 12 [(.t 34)], []⟩,
  .s ⟨(some 36), .beq true (.t 33) (.t 35), []⟩])
 (.cond (.t 36) (.seq (.reg [.s ⟨(some 4), .mv (.c (.bool false)), []⟩])
 .ret)
 .skip))
 (.seq (.seq (.reg [.s ⟨(some 37), .mv (.t 6), []⟩,
  .s ⟨(some 38), .bin .eql (.t 37) (.c (.int .i64 0)), []⟩])
 (.cond (.t 38) (.seq (.reg [.s ⟨(some 40), .mv (.t 5), []⟩,
  .s ⟨(some 41), .call 16 [(.t 40)], []⟩,
  .s ⟨(some 39), .mv (.t 41), []⟩,
  .s ⟨(some 42), .ext 0 (.t 39), []⟩,
  .s ⟨(some 43), .ext 1 (.t 39), []⟩,
  .s ⟨(some 7), .mv (.t 42), []⟩,
  .s ⟨(some 8), .mv (.t 43), []⟩])
 (.seq (.seq (.reg [.s ⟨(some 44), .mv (.t 8), []⟩,
  .s ⟨(some 45), .bin .neq (.t 44) (.c (.int .i64 0)), []⟩,
  .s ⟨(some 46), .mv (.t 45), []⟩,
  .g 46 false [⟨(some 47), .mv (.t 7), []⟩,
   ⟨(some 48), .mv (.t 0), []⟩,
   ⟨(some 49), .call 14 [(.t 47), (.t 48)], []⟩,
   ⟨(some 50), .un .not (.t 49), []⟩],
  .s ⟨(some 51), .pick (.t 46) (.c (.bool true)) (.t 50), []⟩,
  .s ⟨(some 52), .mv (.t 51), []⟩,
  .g 52 false [⟨(some 53), .mv (.t 5), []⟩,
   ⟨(some 54), .lenL (.t 53), []⟩,
   ⟨(some 55), .mv (.t 0), []⟩,
   ⟨(some 56), .lenL (.t 55), []⟩,
   ⟨(some 57), .bin .mul (.c (.int .i64 9)) (.t 56), []⟩,
   ⟨(some 58), .bin .add (.t 57) (.c (.int .i64 1)), []⟩,
   ⟨(some 59), .bin .gtr (.t 54) (.t 58), []⟩],
  .s ⟨(some 60), .pick (.t 52) (.c (.bool true)) (.t 59), []⟩])
 (.cond (.t 60) (.seq (.reg [.s ⟨(some 4), .mv (.c (.bool false)), []⟩])
 .ret)
 .skip))
 (.seq (.reg [.s ⟨(some 9), .mv (.c (.int .i64 0)), []⟩])
 (.block 0 (.loop (.seq (.seq (.reg [.s ⟨(some 61), .mv (.t 9), []⟩,
  .s ⟨(some 62), .mv (.t 5), []⟩,
  .s ⟨(some 63), .lenL (.t 62), []⟩,
  .s ⟨(some 64), .bin .lss (.t 61) (.t 63), []⟩,
  .s ⟨(some 65), .mv (.t 64), []⟩,
  .g 65 true [⟨(some 66), .mv (.t 9), []⟩,
   ⟨(some 67), .bin .lss (.t 66) (.c (.int .i64 200)), []⟩],
  .s ⟨(some 68), .pick (.t 65) (.t 67) (.c (.bool false)), []⟩])
 (.cond (.t 68) .skip
 (.exit 0)))
 (.seq (.block 1 (.seq (.reg [.s ⟨(some 72), .mv (.t 5), []⟩,
  .s ⟨(some 73), .mv (.t 9), []⟩,
  .s ⟨(some 74), .slc 1 (.t 72) none (some (.t 73)) none, []⟩,
  .s ⟨(some 75), .call 16 [(.t 74)], []⟩,
  .s ⟨(some 71), .mv (.t 75), []⟩,
  .s ⟨(some 76), .ext 0 (.t 71), []⟩,
  .s ⟨(some 77), .ext 1 (.t 71), []⟩,
  .s ⟨(some 10), .mv (.t 76), []⟩,
  .s ⟨(some 11), .mv (.t 77), []⟩])
 (.seq (.reg [.s ⟨(some 78), .mv (.t 11), []⟩,
  .s ⟨(some 79), .bin .eql (.t 78) (.c (.int .i64 0)), []⟩])
 (.cond (.t 79) (.seq (.reg [.s ⟨(some 4), .mv (.c (.bool false)), []⟩])
 .ret)
 .skip))))
 (.reg [.s ⟨(some 69), .mv (.t 9), []⟩,
  .s ⟨(some 70), .bin .add (.t 69) (.c (.int .i64 1)), []⟩,
  .s ⟨(some 9), .mv (.t 70), []⟩]))))))))
 (.seq (.reg [.s ⟨(some 80), .mv (.t 6), []⟩,
  .s ⟨(some 81), .bin .neq (.t 80) (.c (.int .i64 1)), []⟩,
  .s ⟨(some 82), .mv (.t 81), []⟩,
  .g 82 false [⟨(some 83), .mv (.t 5), []⟩,
   ⟨(some 84), .lenL (.t 83), []⟩,
   ⟨(some 85), .bin .neq (.t 84) (.c (.int .i64 0)), []⟩],
  .s ⟨(some 86), .pick (.t 82) (.c (.bool true)) (.t 85), []⟩])
 (.cond (.t 86) (.seq (.reg [.s ⟨(some 4), .mv (.c (.bool false)), []⟩])
 .ret)
 .skip))))
 (.seq (.reg [.s ⟨(some 88), .mv (.t 1), []⟩,
  .s ⟨(some 89), .call 16 [(.t 88)], []⟩,
  .s ⟨(some 87), .mv (.t 89), []⟩,
  .s ⟨(some 90), .ext 0 (.t 87), []⟩,
  .s ⟨(some 91), .ext 1 (.t 87), []⟩,
  .s ⟨(some 12), .mv (.t 90), []⟩,
  .s ⟨(some 6), .mv (.t 91), []⟩])
 (.seq (.seq (.reg [.s ⟨(some 92), .mv (.t 6), []⟩,
  .s ⟨(some 93), .bin .neq (.t 92) (.c (.int .i64 0)), []⟩])
 (.cond (.t 93) (.seq (.reg [.s ⟨(some 94), .mv (.t 6), []⟩,
  .s ⟨(some 95), .bin .eql (.t 94) (.c (.int .i64 5)), []⟩,
  .s ⟨(some 96), .mv (.t 95), []⟩,
  .g 96 true [⟨(some 97), .mv (.t 12), []⟩,
   ⟨(some 98), .lenL (.t 97), []⟩,
   ⟨(some 99), .bin .eql (.t 98) (.c (.int .i64 0)), []⟩],
  .s ⟨(some 100), .pick (.t 96) (.t 99) (.c (.bool false)), []⟩,
  .s ⟨(some 101), .mv (.t 100), []⟩,
  .g 101 true [⟨(some 102), .call 7 [], []⟩],
  .s ⟨(some 103), .pick (.t 101) (.t 102) (.c (.bool false)), []⟩,
  .s ⟨(some 4), .mv (.t 103), []⟩])
 .ret)
 .skip))
 (.seq (.reg [.s ⟨(some 105), .mv (.t 12), []⟩,
  .s ⟨(some 106), .call 8 [(.t 105)], []⟩,
  .s ⟨(some 107), .call 9 [(.t 106)], []⟩,
  .s ⟨(some 104), .mv (.t 107), []⟩,
  .s ⟨(some 108), .ext 0 (.t 104), []⟩,
  .s ⟨(some 109), .ext 1 (.t 104), []⟩,
  .s ⟨(some 13), .mv (.t 108), []⟩,
  .s ⟨(some 14), .mv (.t 109), []⟩])
 (.seq (.reg [.s ⟨(some 111), .mv (.t 13), []⟩,
  .s ⟨(some 112), .call 16 [(.t 111)], []⟩,
  .s ⟨(some 110), .mv (.t 112), []⟩,
  .s ⟨(some 113), .ext 0 (.t 110), []⟩,
  .s ⟨(some 114), .ext 1 (.t 110), []⟩,
  .s ⟨(some 15), .mv (.t 113), []⟩,
  .s ⟨(some 16), .mv (.t 114), []⟩])
 (.seq (.reg [.s ⟨(some 115), .mv (.t 12), []⟩,
  .s ⟨(some 116), .call 12 [(.t 115)], []⟩,
  .s ⟨(some 117), .mv (.t 116), []⟩,
  .g 117 true [⟨(some 118), .mv (.t 14), []⟩,
   ⟨(some 119), .bin .eql (.t 118) (.c (.int .i64 0)), []⟩],
  .s ⟨(some 120), .pick (.t 117) (.t 119) (.c (.bool false)), []⟩,
  .s ⟨(some 121), .mv (.t 120), []⟩,
  .g 121 true [⟨(some 122), .mv (.t 16), []⟩,
   ⟨(some 123), .bin .eql (.t 122) (.c (.int .i64 0)), []⟩],
  .s ⟨(some 124), .pick (.t 121) (.t 123) (.c (.bool false)), []⟩,
  .s ⟨(some 125), .mv (.t 124), []⟩,
  .g 125 true [⟨(some 126), .mv (.t 12), []⟩,
   ⟨(some 127), .mv (.t 15), []⟩,
   ⟨(some 128), .call 14 [(.t 126), (.t 127)], []⟩],
  .s ⟨(some 129), .pick (.t 125) (.t 128) (.c (.bool false)), []⟩,
  .s ⟨(some 130), .mv (.t 129), []⟩,
  .g 130 true [⟨(some 131), .mv (.t 13), []⟩,
   ⟨(some 132), .lenL (.t 131), []⟩,
   ⟨(some 133), .mv (.t 12), []⟩,
   ⟨(some 134), .lenL (.t 133), []⟩,
   ⟨(some 135), .bin .mul (.c (.int .i64 9)) (.t 134), []⟩,
   ⟨(some 136), .bin .add (.t 135) (.c (.int .i64 1)), []⟩,
   ⟨(some 137), .bin .leq (.t 132) (.t 136), []⟩],
  .s ⟨(some 138), .pick (.t 130) (.t 137) (.c (.bool false)), []⟩,
  .s ⟨(some 139), .mv (.t 138), []⟩,
  .g 139 true [⟨(some 140), .call 7 [], []⟩],
  .s ⟨(some 141), .pick (.t 139) (.t 140) (.c (.bool false)), []⟩,
  .s ⟨(some 4), .mv (.t 141), []⟩])
 .ret))))))))))⟩
theorem s5 : slimF Try.prog Try.f5 = some a5.fn := by kernel_rfl
/-! theodolite/theodolitelaw05.LinesFinds -/
def a6 : XFun := ⟨123, [.t 6],
 (.seq (.reg [.s ⟨(some 6), .mv (.c (.bool false)), []⟩])
 (.seq (.seq (.reg [.s ⟨(some 17), .mv (.t 0), []⟩,
  .s ⟨(some 18), .lenL (.t 17), []⟩,
  .s ⟨(some 19), .bin .gtr (.t 18) (.c (.int .i64 2000)), []⟩])
 (.cond (.t 19) (.seq (.reg [.s ⟨(some 20), .call 7 [], []⟩,
  .s ⟨(some 6), .mv (.t 20), []⟩])
 .ret)
 .skip))
 (.seq (.reg [.s ⟨(some 22), .mv (.t 0), []⟩,
  .s ⟨(some 23), .call 8 [(.t 22)], []⟩,
  .s ⟨(some 24), .mv (.t 1), []⟩,
  .s ⟨(some 25), .call 19 [(.t 23), (.t 24)], []⟩,
  .s ⟨(some 21), .mv (.t 25), []⟩,
  .s ⟨(some 26), .ext 0 (.t 21), []⟩,
  .s ⟨(some 27), .ext 1 (.t 21), []⟩,
  .s ⟨(some 7), .mv (.t 26), []⟩,
  .s ⟨(some 8), .mv (.t 27), []⟩])
 (.seq (.reg [.s ⟨(some 29), .mv (.t 0), []⟩,
  .s ⟨(some 30), .mv (.t 1), []⟩,
  .s ⟨(some 31), .call 20 [(.t 29), (.t 30)], []⟩,
  .s ⟨(some 28), .mv (.t 31), []⟩,
  .s ⟨(some 32), .ext 0 (.t 28), []⟩,
  .s ⟨(some 33), .ext 1 (.t 28), []⟩,
  .s ⟨(some 9), .mv (.t 32), []⟩,
  .s ⟨(some 10), .mv (.t 33), []⟩])
 (.seq (.reg [.s ⟨(some 34), .mv (.t 0), []⟩,
  .s ⟨(some 35), .call 8 [(.t 34)], []⟩,
  .s ⟨(some 36), .mv (.t 2), []⟩,
  .s ⟨(some 37), .call 21 [(.t 35), (.t 36)], []⟩,
  .s ⟨(some 11), .mv (.t 37), []⟩])
 (.seq (.reg [.s ⟨(some 38), .mv (.t 0), []⟩,
  .s ⟨(some 39), .mv (.t 2), []⟩,
  .s ⟨(some 40), .call 22 [(.t 38), (.t 39)], []⟩,
  .s ⟨(some 12), .mv (.t 40), []⟩])
 (.seq (.seq (.reg [.s ⟨(some 41), .mv (.t 7), []⟩,
  .s ⟨(some 42), .mv (.t 9), []⟩,
  .s ⟨(some 43), .bin .neq (.t 41) (.t 42), []⟩,
  .s ⟨(some 44), .mv (.t 43), []⟩,
  .g 44 false [⟨(some 45), .mv (.t 8), []⟩,
   ⟨(some 46), .mv (.t 10), []⟩,
   ⟨(some 47), .beq true (.t 45) (.t 46), []⟩],
  .s ⟨(some 48), .pick (.t 44) (.c (.bool true)) (.t 47), []⟩,
  .s ⟨(some 49), .mv (.t 48), []⟩,
  .g 49 false [⟨(some 50), .mv (.t 11), []⟩,
   ⟨(some 51), .lenL (.t 50), []⟩,
   ⟨(some 52), .mv (.t 12), []⟩,
   ⟨(some 53), .lenL (.t 52), []⟩,
   ⟨(some 54), .bin .neq (.t 51) (.t 53), []⟩],
  .s ⟨(some 55), .pick (.t 49) (.c (.bool true)) (.t 54), []⟩])
 (.cond (.t 55) (.seq (.reg [.s ⟨(some 6), .mv (.c (.bool false)), []⟩])
 .ret)
 .skip))
 (.seq (.seq (.reg [.s ⟨(some 13), .mv (.c (.int .i64 0)), []⟩])
 (.block 0 (.loop (.seq (.seq (.reg [.s ⟨(some 56), .mv (.t 13), []⟩,
  .s ⟨(some 57), .mv (.t 11), []⟩,
  .s ⟨(some 58), .lenL (.t 57), []⟩,
  .s ⟨(some 59), .bin .lss (.t 56) (.t 58), []⟩])
 (.cond (.t 59) .skip
 (.exit 0)))
 (.seq (.block 1 (.seq (.par [.s ⟨(some 62), .mv (.t 11), []⟩,
  .s ⟨(some 63), .mv (.t 13), []⟩,
  .s ⟨(some 64), .idx 1 (.t 62) (.t 63), []⟩,
  .s ⟨(some 65), .load false 1 (.t 64), []⟩,
  .s ⟨(some 66), .mv (.t 12), []⟩,
  .s ⟨(some 67), .mv (.t 13), []⟩,
  .s ⟨(some 68), .idx 1 (.t 66) (.t 67), []⟩,
  .s ⟨(some 69), .load false 1 (.t 68), []⟩,
  .s ⟨(some 70), .bin .neq (.t 65) (.t 69), []⟩,
  .s ⟨(some 71), .mv (.t 70), []⟩,
  .g 71 false [⟨(some 72), .mv (.t 0), []⟩,
   ⟨(some 73), .call 12 [(.t 72)], []⟩,
   ⟨(some 74), .mv (.t 73), []⟩],
  .g 74 true [⟨(some 75), .mv (.t 13), []⟩,
   ⟨(some 76), .bin .gtr (.t 75) (.c (.int .i64 0)), []⟩],
  .g 71 false [⟨(some 77), .pick (.t 74) (.t 76) (.c (.bool false)), []⟩,
   ⟨(some 78), .mv (.t 77), []⟩],
  .g 78 true [⟨(some 79), .mv (.t 11), []⟩,
   ⟨(some 80), .mv (.t 13), []⟩,
   ⟨(some 81), .idx 1 (.t 79) (.t 80), []⟩,
   ⟨(some 82), .load false 1 (.t 81), []⟩,
   ⟨(some 83), .mv (.t 11), []⟩,
   ⟨(some 84), .mv (.t 13), []⟩,
   ⟨(some 85), .bin .sub (.t 84) (.c (.int .i64 1)), []⟩,
   ⟨(some 86), .idx 1 (.t 83) (.t 85), []⟩,
   ⟨(some 87), .load false 1 (.t 86), []⟩,
   ⟨(some 88), .bin .leq (.t 82) (.t 87), []⟩],
  .g 71 false [⟨(some 89), .pick (.t 78) (.t 88) (.c (.bool false)), []⟩],
  .s ⟨(some 90), .pick (.t 71) (.c (.bool true)) (.t 89), []⟩])
 (.cond (.t 90) (.seq (.reg [.s ⟨(some 6), .mv (.c (.bool false)), []⟩])
 .ret)
 .skip)))
 (.reg [.s ⟨(some 60), .mv (.t 13), []⟩,
  .s ⟨(some 61), .bin .add (.t 60) (.c (.int .i64 1)), []⟩,
  .s ⟨(some 13), .mv (.t 61), []⟩]))))))
 (.seq (.seq (.reg [.s ⟨(some 91), .mv (.t 0), []⟩,
  .s ⟨(some 92), .call 12 [(.t 91)], []⟩,
  .s ⟨(some 93), .un .not (.t 92), []⟩])
 (.cond (.t 93) (.seq (.reg [.s ⟨(some 94), .call 7 [], []⟩,
  .s ⟨(some 6), .mv (.t 94), []⟩])
 .ret)
 .skip))
 (.seq (.seq (.reg [.s ⟨(some 14), .mv (.c (.int .i64 0)), []⟩])
 (.block 2 (.loop (.seq (.seq (.reg [.s ⟨(some 95), .mv (.t 14), []⟩,
  .s ⟨(some 96), .mv (.t 0), []⟩,
  .s ⟨(some 97), .lenL (.t 96), []⟩,
  .s ⟨(some 98), .bin .lss (.t 95) (.t 97), []⟩])
 (.cond (.t 98) .skip
 (.exit 2)))
 (.seq (.block 3 (.seq (.reg [.s ⟨(some 102), .mv (.t 0), []⟩,
  .s ⟨(some 103), .mv (.t 0), []⟩,
  .s ⟨(some 104), .mv (.t 14), []⟩,
  .s ⟨(some 105), .idx 2 (.t 103) (.t 104), []⟩,
  .s ⟨(some 106), .faddr 0 (.t 105), []⟩,
  .s ⟨(some 107), .load false 1 (.t 106), []⟩,
  .s ⟨(some 108), .call 19 [(.t 102), (.t 107)], []⟩,
  .s ⟨(some 101), .mv (.t 108), []⟩,
  .s ⟨(some 109), .ext 0 (.t 101), []⟩,
  .s ⟨(some 110), .ext 1 (.t 101), []⟩,
  .s ⟨(some 15), .mv (.t 109), []⟩,
  .s ⟨(some 16), .mv (.t 110), []⟩])
 (.seq (.reg [.s ⟨(some 111), .mv (.t 16), []⟩,
  .s ⟨(some 112), .un .not (.t 111), []⟩,
  .s ⟨(some 113), .mv (.t 112), []⟩,
  .g 113 false [⟨(some 114), .mv (.t 15), []⟩,
   ⟨(some 115), .mv (.t 0), []⟩,
   ⟨(some 116), .mv (.t 14), []⟩,
   ⟨(some 117), .idx 2 (.t 115) (.t 116), []⟩,
   ⟨(some 118), .faddr 1 (.t 117), []⟩,
   ⟨(some 119), .load false 1 (.t 118), []⟩,
   ⟨(some 120), .bin .neq (.t 114) (.t 119), []⟩],
  .s ⟨(some 121), .pick (.t 113) (.c (.bool true)) (.t 120), []⟩])
 (.cond (.t 121) (.seq (.reg [.s ⟨(some 6), .mv (.c (.bool false)), []⟩])
 .ret)
 .skip))))
 (.reg [.s ⟨(some 99), .mv (.t 14), []⟩,
  .s ⟨(some 100), .bin .add (.t 99) (.c (.int .i64 1)), []⟩,
  .s ⟨(some 14), .mv (.t 100), []⟩]))))))
 (.seq (.reg [.s ⟨(some 122), .call 7 [], []⟩,
  .s ⟨(some 6), .mv (.t 122), []⟩])
 .ret)))))))))))⟩
theorem s6 : slimF Try.prog Try.f6 = some a6.fn := by kernel_rfl
/-! theodolite/theodolitelaw05.works -/
def a7 : XFun := ⟨79, [.t 0],
 (.seq (.reg [.s ⟨(some 0), .mv (.c (.bool false)), []⟩])
 (.seq (.reg [.s ⟨(some 9), .build [(.int .i64 0), (.int .i64 0)] [(0, 1, (.c (.int .i64 0))), (1, 1, (.c (.int .i64 0)))], []⟩,
  .s ⟨(some 10), .build [(.int .i64 0), (.int .i64 0)] [(0, 1, (.c (.int .i64 3))), (1, 1, (.c (.int .i64 1)))], []⟩,
  .s ⟨(some 11), .build [(.int .i64 0), (.int .i64 0)] [(0, 1, (.c (.int .i64 303))), (1, 1, (.c (.int .i64 0)))], []⟩,
  .s ⟨(some 12), .bslice 42 3 [(.int .i64 0), (.int .i64 0), (.int .i64 0), (.int .i64 0), (.int .i64 0), (.int .i64 0)] [(0, 2, (.t 9)), (2, 2, (.t 10)), (4, 2, (.t 11))], []⟩,
  .s ⟨(some 1), .mv (.t 12), []⟩])
 (.seq (.reg [.s ⟨(some 14), .mv (.t 1), []⟩,
  .s ⟨(some 15), .call 9 [(.t 14)], []⟩,
  .s ⟨(some 13), .mv (.t 15), []⟩,
  .s ⟨(some 16), .ext 0 (.t 13), []⟩,
  .s ⟨(some 17), .ext 1 (.t 13), []⟩,
  .s ⟨(some 2), .mv (.t 16), []⟩,
  .s ⟨(some 3), .mv (.t 17), []⟩])
 (.seq (.reg [.s ⟨(some 19), .mv (.t 2), []⟩,
  .s ⟨(some 20), .call 16 [(.t 19)], []⟩,
  .s ⟨(some 18), .mv (.t 20), []⟩,
  .s ⟨(some 21), .ext 0 (.t 18), []⟩,
  .s ⟨(some 22), .ext 1 (.t 18), []⟩,
  .s ⟨(some 4), .mv (.t 21), []⟩,
  .s ⟨(some 5), .mv (.t 22), []⟩])
 (.seq (.reg [.s ⟨(some 24), .mv (.t 1), []⟩,
  .s ⟨(some 25), .call 19 [(.t 24), (.c (.int .i64 3))], []⟩,
  .s ⟨(some 23), .mv (.t 25), []⟩,
  .s ⟨(some 26), .ext 0 (.t 23), []⟩,
  .s ⟨(some 27), .ext 1 (.t 23), []⟩,
  .s ⟨(some 6), .mv (.t 26), []⟩,
  .s ⟨(some 7), .mv (.t 27), []⟩])
 (.seq (.reg [.s ⟨(some 28), .mv (.t 1), []⟩,
  .s ⟨(some 29), .call 21 [(.t 28), (.c (.int .i64 0))], []⟩,
  .s ⟨(some 8), .mv (.t 29), []⟩])
 (.seq (.par [.s ⟨(some 30), .mv (.t 3), []⟩,
  .s ⟨(some 31), .bin .eql (.t 30) (.c (.int .i64 0)), []⟩,
  .s ⟨(some 32), .mv (.t 31), []⟩,
  .g 32 true [⟨(some 33), .mv (.t 2), []⟩,
   ⟨(some 34), .lenL (.t 33), []⟩,
   ⟨(some 35), .bin .eql (.t 34) (.c (.int .i64 9)), []⟩],
  .s ⟨(some 36), .pick (.t 32) (.t 35) (.c (.bool false)), []⟩,
  .s ⟨(some 37), .mv (.t 36), []⟩,
  .g 37 true [⟨(some 38), .mv (.t 2), []⟩,
   ⟨(some 39), .idx 1 (.t 38) (.c (.int .i64 1)), []⟩,
   ⟨(some 40), .load false 1 (.t 39), []⟩,
   ⟨(some 41), .bin .eql (.t 40) (.c (.int .u8 45)), []⟩],
  .s ⟨(some 42), .pick (.t 37) (.t 41) (.c (.bool false)), []⟩,
  .s ⟨(some 43), .mv (.t 42), []⟩,
  .g 43 true [⟨(some 44), .mv (.t 5), []⟩,
   ⟨(some 45), .bin .eql (.t 44) (.c (.int .i64 0)), []⟩],
  .s ⟨(some 46), .pick (.t 43) (.t 45) (.c (.bool false)), []⟩,
  .s ⟨(some 47), .mv (.t 46), []⟩,
  .g 47 true [⟨(some 48), .mv (.t 4), []⟩,
   ⟨(some 49), .lenL (.t 48), []⟩,
   ⟨(some 50), .bin .eql (.t 49) (.c (.int .i64 3)), []⟩],
  .s ⟨(some 51), .pick (.t 47) (.t 50) (.c (.bool false)), []⟩,
  .s ⟨(some 52), .mv (.t 51), []⟩,
  .g 52 true [⟨(some 53), .mv (.t 4), []⟩,
   ⟨(some 54), .idx 2 (.t 53) (.c (.int .i64 2)), []⟩,
   ⟨(some 55), .load true 2 (.t 54), []⟩,
   ⟨(some 56), .mv (.t 1), []⟩,
   ⟨(some 57), .idx 2 (.t 56) (.c (.int .i64 2)), []⟩,
   ⟨(some 58), .load true 2 (.t 57), []⟩,
   ⟨(some 59), .aeq false [0, 0] (.t 55) (.t 58), []⟩],
  .s ⟨(some 60), .pick (.t 52) (.t 59) (.c (.bool false)), []⟩,
  .s ⟨(some 61), .mv (.t 60), []⟩,
  .g 61 true [⟨(some 62), .mv (.t 7), []⟩],
  .s ⟨(some 63), .pick (.t 61) (.t 62) (.c (.bool false)), []⟩,
  .s ⟨(some 64), .mv (.t 63), []⟩,
  .g 64 true [⟨(some 65), .mv (.t 6), []⟩,
   ⟨(some 66), .bin .eql (.t 65) (.c (.int .i64 1)), []⟩],
  .s ⟨(some 67), .pick (.t 64) (.t 66) (.c (.bool false)), []⟩,
  .s ⟨(some 68), .mv (.t 67), []⟩,
  .g 68 true [⟨(some 69), .mv (.t 8), []⟩,
   ⟨(some 70), .lenL (.t 69), []⟩,
   ⟨(some 71), .bin .eql (.t 70) (.c (.int .i64 2)), []⟩],
  .s ⟨(some 72), .pick (.t 68) (.t 71) (.c (.bool false)), []⟩,
  .s ⟨(some 73), .mv (.t 72), []⟩,
  .g 73 true [⟨(some 74), .mv (.t 8), []⟩,
   ⟨(some 75), .idx 1 (.t 74) (.c (.int .i64 1)), []⟩,
   ⟨(some 76), .load false 1 (.t 75), []⟩,
   ⟨(some 77), .bin .eql (.t 76) (.c (.int .i64 303)), []⟩],
  .s ⟨(some 78), .pick (.t 73) (.t 77) (.c (.bool false)), []⟩,
  .s ⟨(some 0), .mv (.t 78), []⟩])
 .ret)))))))⟩
theorem s7 : slimF Try.prog Try.f7 = some a7.fn := by kernel_rfl
/-! theodolite/theodolitelaw05.twin -/
def a8 : XFun := ⟨6, [.t 2],
 (.seq (.reg [.s ⟨(some 2), .mv (.c (.slice none 0 0)), []⟩])
 (.seq (.reg [.s ⟨(some 3), .bslice 42 0 [] [], []⟩,
  .s ⟨(some 4), .mv (.t 0), []⟩,
  .s ⟨(some 5), .app 42 2 16 (.t 3) (.t 4), []⟩,
  .s ⟨(some 2), .mv (.t 5), []⟩])
 .ret))⟩
theorem s8 : slimF Try.prog Try.f8 = some a8.fn := by kernel_rfl
/-! theodolite/lines.Write -/
def a9 : XFun := ⟨26, [.t 2, .t 3],
 (.seq (.reg [.s ⟨(some 2), .mv (.c (.slice none 0 0)), []⟩,
  .s ⟨(some 3), .mv (.c (.int .i64 0)), []⟩])
 (.seq (.seq (.reg [.s ⟨(some 8), .mv (.t 0), []⟩,
  .s ⟨(some 9), .call 12 [(.t 8)], []⟩,
  .s ⟨(some 10), .un .not (.t 9), []⟩])
 (.cond (.t 10) (.seq (.reg [.s ⟨(some 2), .mv (.c (.slice none 0 0)), []⟩,
  .s ⟨(some 3), .mv (.c (.int .i64 1)), []⟩])
 .ret)
 .skip))
 (.seq (.reg [.s ⟨(some 4), .mv (.c (.slice none 0 0)), []⟩])
 (.seq (.reg [.s ⟨(some 5), .alloc 42 [(.int .i64 0), (.int .i64 0)], []⟩])
 (.seq (.seq (.reg [.s ⟨(some 11), .mv (.t 0), []⟩,
  .s ⟨(some 12), .lenL (.t 11), []⟩,
  .s ⟨(some 13), .mv (.c (.int .i64 0)), []⟩])
 (.block 0 (.loop (.seq (.reg [.s ⟨(some 14), .bin .lss (.t 13) (.t 12), []⟩])
 (.seq (.cond (.t 14) .skip
 (.exit 0))
 (.seq (.block 1 (.seq (.reg [.s ⟨(some 15), .idx 2 (.t 11) (.t 13), []⟩,
  .s ⟨(some 16), .load true 2 (.t 15), []⟩,
  .s ⟨(some 7), .alloc 42 [(.int .i64 0), (.int .i64 0)], []⟩,
  .s ⟨none, .store 2 (.t 7) (.t 16), []⟩])
 (.seq (.reg [.s ⟨(some 17), .mv (.t 4), []⟩,
  .s ⟨(some 18), .load true 2 (.t 5), []⟩,
  .s ⟨(some 19), .load true 2 (.t 7), []⟩,
  .s ⟨(some 20), .call 23 [(.t 17), (.t 18), (.t 19)], []⟩,
  .s ⟨(some 4), .mv (.t 20), []⟩])
 (.reg [.s ⟨(some 21), .load true 2 (.t 7), []⟩,
  .s ⟨none, .store 2 (.t 5) (.t 21), []⟩]))))
 (.reg [.s ⟨(some 22), .bin .add (.t 13) (.c (.int .i64 1)), []⟩,
  .s ⟨(some 13), .mv (.t 22), []⟩])))))))
 (.seq (.reg [.s ⟨(some 23), .mv (.t 4), []⟩,
  .s ⟨(some 24), .bslice 5 1 [(.int .u8 0)] [(0, 1, (.c (.int .u8 0)))], []⟩,
  .s ⟨(some 25), .app 5 1 1 (.t 23) (.t 24), []⟩,
  .s ⟨(some 2), .mv (.t 25), []⟩,
  .s ⟨(some 3), .mv (.c (.int .i64 0)), []⟩])
 .ret))))))⟩
theorem s9 : slimF Try.prog Try.f9 = some a9.fn := by kernel_rfl
/-! theodolite/theodoliteref05.Write -/
def a10 : XFun := ⟨84, [.t 2, .t 3],
 (.seq (.reg [.s ⟨(some 2), .mv (.c (.slice none 0 0)), []⟩,
  .s ⟨(some 3), .mv (.c (.int .i64 0)), []⟩])
 (.seq (.seq (.reg [.s ⟨(some 10), .mv (.t 0), []⟩,
  .s ⟨(some 11), .call 13 [(.t 10)], []⟩,
  .s ⟨(some 12), .un .not (.t 11), []⟩])
 (.cond (.t 12) (.seq (.reg [.s ⟨(some 2), .mv (.c (.slice none 0 0)), []⟩,
  .s ⟨(some 3), .mv (.c (.int .i64 1)), []⟩])
 .ret)
 .skip))
 (.seq (.reg [.s ⟨(some 4), .mv (.c (.slice none 0 0)), []⟩])
 (.seq (.reg [.s ⟨(some 5), .mv (.c (.int .i64 0)), []⟩])
 (.seq (.reg [.s ⟨(some 6), .mv (.c (.int .i64 0)), []⟩])
 (.seq (.seq (.reg [.s ⟨(some 7), .mv (.c (.int .i64 0)), []⟩])
 (.block 0 (.loop (.seq (.seq (.reg [.s ⟨(some 13), .mv (.t 7), []⟩,
  .s ⟨(some 14), .mv (.t 0), []⟩,
  .s ⟨(some 15), .lenL (.t 14), []⟩,
  .s ⟨(some 16), .bin .lss (.t 13) (.t 15), []⟩])
 (.cond (.t 16) .skip
 (.exit 0)))
 (.seq (.block 1 (.seq (.reg [.s ⟨(some 19), .mv (.t 0), []⟩,
  .s ⟨(some 20), .mv (.t 7), []⟩,
  .s ⟨(some 21), .idx 2 (.t 19) (.t 20), []⟩,
  .s ⟨(some 22), .faddr 0 (.t 21), []⟩,
  .s ⟨(some 23), .load false 1 (.t 22), []⟩,
  .s ⟨(some 24), .mv (.t 5), []⟩,
  .s ⟨(some 25), .bin .sub (.t 23) (.t 24), []⟩,
  .s ⟨(some 8), .mv (.t 25), []⟩])
 (.seq (.reg [.s ⟨(some 26), .mv (.t 0), []⟩,
  .s ⟨(some 27), .mv (.t 7), []⟩,
  .s ⟨(some 28), .idx 2 (.t 26) (.t 27), []⟩,
  .s ⟨(some 29), .faddr 1 (.t 28), []⟩,
  .s ⟨(some 30), .load false 1 (.t 29), []⟩,
  .s ⟨(some 31), .mv (.t 6), []⟩,
  .s ⟨(some 32), .bin .sub (.t 30) (.t 31), []⟩,
  .s ⟨(some 9), .mv (.t 32), []⟩])
 (.seq (.seq (.reg [.s ⟨(some 33), .mv (.t 8), []⟩,
  .s ⟨(some 34), .bin .leq (.t 33) (.c (.int .i64 20)), []⟩,
  .s ⟨(some 35), .mv (.t 34), []⟩,
  .g 35 true [⟨(some 36), .mv (.t 9), []⟩,
   ⟨(some 37), .bin .geq (.t 36) (.c (.int .i64 (-4))), []⟩],
  .s ⟨(some 38), .pick (.t 35) (.t 37) (.c (.bool false)), []⟩,
  .s ⟨(some 39), .mv (.t 38), []⟩,
  .g 39 true [⟨(some 40), .mv (.t 9), []⟩,
   ⟨(some 41), .bin .leq (.t 40) (.c (.int .i64 7)), []⟩],
  .s ⟨(some 42), .pick (.t 39) (.t 41) (.c (.bool false)), []⟩])
 (.cond (.t 42) (.reg [.s ⟨(some 43), .mv (.t 4), []⟩,
  .s ⟨(some 44), .mv (.t 8), []⟩,
  .s ⟨(some 45), .bin .mul (.c (.int .i64 12)) (.t 44), []⟩,
  .s ⟨(some 46), .bin .add (.c (.int .i64 4)) (.t 45), []⟩,
  .s ⟨(some 47), .mv (.t 9), []⟩,
  .s ⟨(some 48), .bin .add (.t 46) (.t 47), []⟩,
  .s ⟨(some 49), .bin .add (.t 48) (.c (.int .i64 4)), []⟩,
  .s ⟨(some 50), .cint .u8 (.t 49), []⟩,
  .s ⟨(some 51), .bslice 5 1 [(.int .u8 0)] [(0, 1, (.t 50))], []⟩,
  .s ⟨(some 52), .app 5 1 1 (.t 43) (.t 51), []⟩,
  .s ⟨(some 4), .mv (.t 52), []⟩])
 (.seq (.seq (.reg [.s ⟨(some 53), .mv (.t 8), []⟩,
  .s ⟨(some 54), .bin .neq (.t 53) (.c (.int .i64 0)), []⟩])
 (.cond (.t 54) (.reg [.s ⟨(some 55), .mv (.t 4), []⟩,
  .s ⟨(some 56), .bslice 5 1 [(.int .u8 0)] [(0, 1, (.c (.int .u8 1)))], []⟩,
  .s ⟨(some 57), .app 5 1 1 (.t 55) (.t 56), []⟩,
  .s ⟨(some 58), .mv (.t 8), []⟩,
  .s ⟨(some 59), .cint .u64 (.t 58), []⟩,
  .s ⟨(some 60), .call 24 [(.t 57), (.t 59)], []⟩,
  .s ⟨(some 4), .mv (.t 60), []⟩])
 .skip))
 (.seq (.seq (.reg [.s ⟨(some 61), .mv (.t 9), []⟩,
  .s ⟨(some 62), .bin .neq (.t 61) (.c (.int .i64 0)), []⟩])
 (.cond (.t 62) (.reg [.s ⟨(some 63), .mv (.t 4), []⟩,
  .s ⟨(some 64), .bslice 5 1 [(.int .u8 0)] [(0, 1, (.c (.int .u8 2)))], []⟩,
  .s ⟨(some 65), .app 5 1 1 (.t 63) (.t 64), []⟩,
  .s ⟨(some 66), .mv (.t 9), []⟩,
  .s ⟨(some 67), .call 25 [(.t 65), (.t 66)], []⟩,
  .s ⟨(some 4), .mv (.t 67), []⟩])
 .skip))
 (.reg [.s ⟨(some 68), .mv (.t 4), []⟩,
  .s ⟨(some 69), .bslice 5 1 [(.int .u8 0)] [(0, 1, (.c (.int .u8 3)))], []⟩,
  .s ⟨(some 70), .app 5 1 1 (.t 68) (.t 69), []⟩,
  .s ⟨(some 4), .mv (.t 70), []⟩])))))
 (.seq (.reg [.s ⟨(some 71), .mv (.t 0), []⟩,
  .s ⟨(some 72), .mv (.t 7), []⟩,
  .s ⟨(some 73), .idx 2 (.t 71) (.t 72), []⟩,
  .s ⟨(some 74), .faddr 0 (.t 73), []⟩,
  .s ⟨(some 75), .load false 1 (.t 74), []⟩,
  .s ⟨(some 5), .mv (.t 75), []⟩])
 (.reg [.s ⟨(some 76), .mv (.t 0), []⟩,
  .s ⟨(some 77), .mv (.t 7), []⟩,
  .s ⟨(some 78), .idx 2 (.t 76) (.t 77), []⟩,
  .s ⟨(some 79), .faddr 1 (.t 78), []⟩,
  .s ⟨(some 80), .load false 1 (.t 79), []⟩,
  .s ⟨(some 6), .mv (.t 80), []⟩]))))))
 (.reg [.s ⟨(some 17), .mv (.t 7), []⟩,
  .s ⟨(some 18), .bin .add (.t 17) (.c (.int .i64 1)), []⟩,
  .s ⟨(some 7), .mv (.t 18), []⟩]))))))
 (.seq (.reg [.s ⟨(some 81), .mv (.t 4), []⟩,
  .s ⟨(some 82), .bslice 5 1 [(.int .u8 0)] [(0, 1, (.c (.int .u8 0)))], []⟩,
  .s ⟨(some 83), .app 5 1 1 (.t 81) (.t 82), []⟩,
  .s ⟨(some 2), .mv (.t 83), []⟩,
  .s ⟨(some 3), .mv (.c (.int .i64 0)), []⟩])
 .ret)))))))⟩
theorem s10 : slimF Try.prog Try.f10 = some a10.fn := by kernel_rfl
/-! theodolite/theodoliteref00.EqBytes -/
def a11 : XFun := ⟨35, [.t 4],
 (.seq (.reg [.s ⟨(some 4), .mv (.c (.bool false)), []⟩])
 (.seq (.seq (.reg [.s ⟨(some 7), .mv (.t 0), []⟩,
  .s ⟨(some 8), .lenL (.t 7), []⟩,
  .s ⟨(some 9), .mv (.t 1), []⟩,
  .s ⟨(some 10), .lenL (.t 9), []⟩,
  .s ⟨(some 11), .bin .gtr (.t 8) (.t 10), []⟩])
 (.cond (.t 11) (.seq (.reg [.s ⟨(some 12), .mv (.t 1), []⟩,
  .s ⟨(some 13), .mv (.t 0), []⟩,
  .s ⟨(some 14), .call 11 [(.t 12), (.t 13)], []⟩,
  .s ⟨(some 4), .mv (.t 14), []⟩])
 .ret)
 .skip))
 (.seq (.seq (.reg [.s ⟨(some 15), .mv (.t 1), []⟩,
  .s ⟨(some 16), .lenL (.t 15), []⟩,
  .s ⟨(some 17), .mv (.c (.int .i64 0)), []⟩])
 (.block 0 (.loop (.seq (.reg [.s ⟨(some 18), .bin .lss (.t 17) (.t 16), []⟩])
 (.seq (.cond (.t 18) .skip
 (.exit 0))
 (.seq (.block 1 (.seq (.reg [.s ⟨(some 19), .mv (.t 17), []⟩,
  .s ⟨(some 20), .idx 1 (.t 15) (.t 17), []⟩,
  .s ⟨(some 21), .load false 1 (.t 20), []⟩,
  .s ⟨(some 5), .mv (.t 19), []⟩,
  .s ⟨(some 6), .mv (.t 21), []⟩])
 (.seq (.reg [.s ⟨(some 22), .mv (.t 5), []⟩,
  .s ⟨(some 23), .mv (.t 0), []⟩,
  .s ⟨(some 24), .lenL (.t 23), []⟩,
  .s ⟨(some 25), .bin .geq (.t 22) (.t 24), []⟩,
  .s ⟨(some 26), .mv (.t 25), []⟩,
  .g 26 false [⟨(some 27), .mv (.t 0), []⟩,
   ⟨(some 28), .mv (.t 5), []⟩,
   ⟨(some 29), .idx 1 (.t 27) (.t 28), []⟩,
   ⟨(some 30), .load false 1 (.t 29), []⟩,
   ⟨(some 31), .mv (.t 6), []⟩,
   ⟨(some 32), .bin .neq (.t 30) (.t 31), []⟩],
  .s ⟨(some 33), .pick (.t 26) (.c (.bool true)) (.t 32), []⟩])
 (.cond (.t 33) (.seq (.reg [.s ⟨(some 4), .mv (.c (.bool false)), []⟩])
 .ret)
 .skip))))
 (.reg [.s ⟨(some 34), .bin .add (.t 17) (.c (.int .i64 1)), []⟩,
  .s ⟨(some 17), .mv (.t 34), []⟩])))))))
 (.seq (.reg [.s ⟨(some 4), .mv (.c (.bool true)), []⟩])
 .ret))))⟩
theorem s11 : slimF Try.prog Try.f11 = some a11.fn := by kernel_rfl
/-! theodolite/lines.Right -/
def a12 : XFun := ⟨37, [.t 2],
 (.seq (.reg [.s ⟨(some 2), .mv (.c (.bool false)), []⟩])
 (.seq (.reg [.s ⟨(some 3), .mv (.c (.int .i64 (-1))), []⟩])
 (.seq (.seq (.reg [.s ⟨(some 6), .mv (.t 0), []⟩,
  .s ⟨(some 7), .lenL (.t 6), []⟩,
  .s ⟨(some 8), .mv (.c (.int .i64 0)), []⟩])
 (.block 0 (.loop (.seq (.reg [.s ⟨(some 9), .bin .lss (.t 8) (.t 7), []⟩])
 (.seq (.cond (.t 9) .skip
 (.exit 0))
 (.seq (.block 1 (.seq (.reg [.s ⟨(some 10), .idx 2 (.t 6) (.t 8), []⟩,
  .s ⟨(some 11), .load true 2 (.t 10), []⟩,
  .s ⟨(some 5), .alloc 42 [(.int .i64 0), (.int .i64 0)], []⟩,
  .s ⟨none, .store 2 (.t 5) (.t 11), []⟩])
 (.seq (.seq (.reg [.s ⟨(some 12), .faddr 0 (.t 5), []⟩,
  .s ⟨(some 13), .load false 1 (.t 12), []⟩,
  .s ⟨(some 14), .mv (.t 3), []⟩,
  .s ⟨(some 15), .bin .leq (.t 13) (.t 14), []⟩,
  .s ⟨(some 16), .mv (.t 15), []⟩,
  .g 16 false [⟨(some 17), .faddr 0 (.t 5), []⟩,
   ⟨(some 18), .load false 1 (.t 17), []⟩,
   ⟨(some 19), .bin .geq (.t 18) (.c (.int .i64 16777216)), []⟩],
  .s ⟨(some 20), .pick (.t 16) (.c (.bool true)) (.t 19), []⟩,
  .s ⟨(some 21), .mv (.t 20), []⟩,
  .g 21 false [⟨(some 22), .faddr 1 (.t 5), []⟩,
   ⟨(some 23), .load false 1 (.t 22), []⟩,
   ⟨(some 24), .bin .lss (.t 23) (.c (.int .i64 0)), []⟩],
  .s ⟨(some 25), .pick (.t 21) (.c (.bool true)) (.t 24), []⟩,
  .s ⟨(some 26), .mv (.t 25), []⟩,
  .g 26 false [⟨(some 27), .faddr 1 (.t 5), []⟩,
   ⟨(some 28), .load false 1 (.t 27), []⟩,
   ⟨(some 29), .bin .geq (.t 28) (.c (.int .i64 1000)), []⟩],
  .s ⟨(some 30), .pick (.t 26) (.c (.bool true)) (.t 29), []⟩])
 (.cond (.t 30) (.seq (.reg [.s ⟨(some 2), .mv (.c (.bool false)), []⟩])
 .ret)
 .skip))
 (.reg [.s ⟨(some 31), .faddr 0 (.t 5), []⟩,
  .s ⟨(some 32), .load false 1 (.t 31), []⟩,
  .s ⟨(some 3), .mv (.t 32), []⟩]))))
 (.reg [.s ⟨(some 33), .bin .add (.t 8) (.c (.int .i64 1)), []⟩,
  .s ⟨(some 8), .mv (.t 33), []⟩])))))))
 (.seq (.reg [.s ⟨(some 34), .mv (.t 0), []⟩,
  .s ⟨(some 35), .lenL (.t 34), []⟩,
  .s ⟨(some 36), .bin .leq (.t 35) (.c (.int .i64 20000)), []⟩,
  .s ⟨(some 2), .mv (.t 36), []⟩])
 .ret))))⟩
theorem s12 : slimF Try.prog Try.f12 = some a12.fn := by kernel_rfl
/-! theodolite/theodoliteref05.Right -/
def a13 : XFun := ⟨50, [.t 2],
 (.seq (.reg [.s ⟨(some 2), .mv (.c (.bool false)), []⟩])
 (.seq (.reg [.s ⟨(some 3), .mv (.c (.int .i64 (-1))), []⟩])
 (.seq (.seq (.reg [.s ⟨(some 4), .mv (.c (.int .i64 0)), []⟩])
 (.block 0 (.loop (.seq (.seq (.reg [.s ⟨(some 5), .mv (.t 4), []⟩,
  .s ⟨(some 6), .mv (.t 0), []⟩,
  .s ⟨(some 7), .lenL (.t 6), []⟩,
  .s ⟨(some 8), .bin .lss (.t 5) (.t 7), []⟩])
 (.cond (.t 8) .skip
 (.exit 0)))
 (.seq (.block 1 (.seq (.seq (.reg [.s ⟨(some 11), .mv (.t 0), []⟩,
  .s ⟨(some 12), .mv (.t 4), []⟩,
  .s ⟨(some 13), .idx 2 (.t 11) (.t 12), []⟩,
  .s ⟨(some 14), .faddr 0 (.t 13), []⟩,
  .s ⟨(some 15), .load false 1 (.t 14), []⟩,
  .s ⟨(some 16), .mv (.t 3), []⟩,
  .s ⟨(some 17), .bin .leq (.t 15) (.t 16), []⟩,
  .s ⟨(some 18), .mv (.t 17), []⟩,
  .g 18 false [⟨(some 19), .mv (.t 0), []⟩,
   ⟨(some 20), .mv (.t 4), []⟩,
   ⟨(some 21), .idx 2 (.t 19) (.t 20), []⟩,
   ⟨(some 22), .faddr 0 (.t 21), []⟩,
   ⟨(some 23), .load false 1 (.t 22), []⟩,
   ⟨(some 24), .bin .geq (.t 23) (.c (.int .i64 16777216)), []⟩],
  .s ⟨(some 25), .pick (.t 18) (.c (.bool true)) (.t 24), []⟩,
  .s ⟨(some 26), .mv (.t 25), []⟩,
  .g 26 false [⟨(some 27), .mv (.t 0), []⟩,
   ⟨(some 28), .mv (.t 4), []⟩,
   ⟨(some 29), .idx 2 (.t 27) (.t 28), []⟩,
   ⟨(some 30), .faddr 1 (.t 29), []⟩,
   ⟨(some 31), .load false 1 (.t 30), []⟩,
   ⟨(some 32), .bin .lss (.t 31) (.c (.int .i64 0)), []⟩],
  .s ⟨(some 33), .pick (.t 26) (.c (.bool true)) (.t 32), []⟩,
  .s ⟨(some 34), .mv (.t 33), []⟩,
  .g 34 false [⟨(some 35), .mv (.t 0), []⟩,
   ⟨(some 36), .mv (.t 4), []⟩,
   ⟨(some 37), .idx 2 (.t 35) (.t 36), []⟩,
   ⟨(some 38), .faddr 1 (.t 37), []⟩,
   ⟨(some 39), .load false 1 (.t 38), []⟩,
   ⟨(some 40), .bin .geq (.t 39) (.c (.int .i64 1000)), []⟩],
  .s ⟨(some 41), .pick (.t 34) (.c (.bool true)) (.t 40), []⟩])
 (.cond (.t 41) (.seq (.reg [.s ⟨(some 2), .mv (.c (.bool false)), []⟩])
 .ret)
 .skip))
 (.reg [.s ⟨(some 42), .mv (.t 0), []⟩,
  .s ⟨(some 43), .mv (.t 4), []⟩,
  .s ⟨(some 44), .idx 2 (.t 42) (.t 43), []⟩,
  .s ⟨(some 45), .faddr 0 (.t 44), []⟩,
  .s ⟨(some 46), .load false 1 (.t 45), []⟩,
  .s ⟨(some 3), .mv (.t 46), []⟩])))
 (.reg [.s ⟨(some 9), .mv (.t 4), []⟩,
  .s ⟨(some 10), .bin .add (.t 9) (.c (.int .i64 1)), []⟩,
  .s ⟨(some 4), .mv (.t 10), []⟩]))))))
 (.seq (.reg [.s ⟨(some 47), .mv (.t 0), []⟩,
  .s ⟨(some 48), .lenL (.t 47), []⟩,
  .s ⟨(some 49), .bin .leq (.t 48) (.c (.int .i64 20000)), []⟩,
  .s ⟨(some 2), .mv (.t 49), []⟩])
 .ret))))⟩
theorem s13 : slimF Try.prog Try.f13 = some a13.fn := by kernel_rfl
/-! theodolite/theodolitelaw05.SameRows -/
def a14 : XFun := ⟨26, [.t 4],
 (.seq (.reg [.s ⟨(some 4), .mv (.c (.bool false)), []⟩])
 (.seq (.seq (.reg [.s ⟨(some 6), .mv (.t 0), []⟩,
  .s ⟨(some 7), .lenL (.t 6), []⟩,
  .s ⟨(some 8), .mv (.t 1), []⟩,
  .s ⟨(some 9), .lenL (.t 8), []⟩,
  .s ⟨(some 10), .bin .neq (.t 7) (.t 9), []⟩])
 (.cond (.t 10) (.seq (.reg [.s ⟨(some 4), .mv (.c (.bool false)), []⟩])
 .ret)
 .skip))
 (.seq (.seq (.reg [.s ⟨(some 5), .mv (.c (.int .i64 0)), []⟩])
 (.block 0 (.loop (.seq (.seq (.reg [.s ⟨(some 11), .mv (.t 5), []⟩,
  .s ⟨(some 12), .mv (.t 0), []⟩,
  .s ⟨(some 13), .lenL (.t 12), []⟩,
  .s ⟨(some 14), .bin .lss (.t 11) (.t 13), []⟩])
 (.cond (.t 14) .skip
 (.exit 0)))
 (.seq (.block 1 (.seq (.par [.s ⟨(some 17), .mv (.t 0), []⟩,
  .s ⟨(some 18), .mv (.t 5), []⟩,
  .s ⟨(some 19), .idx 2 (.t 17) (.t 18), []⟩,
  .s ⟨(some 20), .load true 2 (.t 19), []⟩,
  .s ⟨(some 21), .mv (.t 1), []⟩,
  .s ⟨(some 22), .mv (.t 5), []⟩,
  .s ⟨(some 23), .idx 2 (.t 21) (.t 22), []⟩,
  .s ⟨(some 24), .load true 2 (.t 23), []⟩,
  .s ⟨(some 25), .aeq true [0, 0] (.t 20) (.t 24), []⟩])
 (.cond (.t 25) (.seq (.reg [.s ⟨(some 4), .mv (.c (.bool false)), []⟩])
 .ret)
 .skip)))
 (.reg [.s ⟨(some 15), .mv (.t 5), []⟩,
  .s ⟨(some 16), .bin .add (.t 15) (.c (.int .i64 1)), []⟩,
  .s ⟨(some 5), .mv (.t 16), []⟩]))))))
 (.seq (.reg [.s ⟨(some 4), .mv (.c (.bool true)), []⟩])
 .ret))))⟩
theorem s14 : slimF Try.prog Try.f14 = some a14.fn := by kernel_rfl
/-! theodolite/theodoliteref00.Roomy -/
def a15 : XFun := ⟨26, [.t 2],
 (.seq (.reg [.s ⟨(some 2), .mv (.c (.slice none 0 0)), []⟩])
 (.seq (.reg [.s ⟨(some 5), .mv (.t 0), []⟩,
  .s ⟨(some 6), .lenL (.t 5), []⟩,
  .s ⟨(some 7), .mv (.t 0), []⟩,
  .s ⟨(some 8), .lenL (.t 7), []⟩,
  .s ⟨(some 9), .bin .add (.t 8) (.c (.int .i64 8)), []⟩,
  .s ⟨(some 10), .mkslice 5 1 1 [(.int .u8 0)] (.t 6) (.t 9), []⟩,
  .s ⟨(some 3), .mv (.t 10), []⟩])
 (.seq (.reg [.s ⟨(some 11), .mv (.t 3), []⟩,
  .s ⟨(some 12), .mv (.t 0), []⟩,
  .s ⟨(some 13), .copy 1 (.t 11) (.t 12), []⟩])
 (.seq (.seq (.reg [.s ⟨(some 4), .mv (.c (.int .u8 8)), []⟩])
 (.block 0 (.loop (.seq (.seq (.reg [.s ⟨(some 14), .mv (.t 4), []⟩,
  .s ⟨(some 15), .bin .gtr (.t 14) (.c (.int .u8 0)), []⟩])
 (.cond (.t 15) .skip
 (.exit 0)))
 (.seq (.block 1 (.reg [.s ⟨(some 18), .mv (.t 3), []⟩,
  .s ⟨(some 19), .mv (.t 4), []⟩,
  .s ⟨(some 20), .bslice 5 1 [(.int .u8 0)] [(0, 1, (.t 19))], []⟩,
  .s ⟨(some 21), .app 5 1 1 (.t 18) (.t 20), []⟩,
  .s ⟨(some 3), .mv (.t 21), []⟩]))
 (.reg [.s ⟨(some 16), .mv (.t 4), []⟩,
  .s ⟨(some 17), .bin .sub (.t 16) (.c (.int .u8 1)), []⟩,
  .s ⟨(some 4), .mv (.t 17), []⟩]))))))
 (.seq (.reg [.s ⟨(some 22), .mv (.t 3), []⟩,
  .s ⟨(some 23), .mv (.t 0), []⟩,
  .s ⟨(some 24), .lenL (.t 23), []⟩,
  .s ⟨(some 25), .slc 1 (.t 22) none (some (.t 24)) none, []⟩,
  .s ⟨(some 2), .mv (.t 25), []⟩])
 .ret)))))⟩
theorem s15 : slimF Try.prog Try.f15 = some a15.fn := by kernel_rfl
/-! theodolite/lines.Read -/
def a16 : XFun := ⟨74, [.t 2, .t 3],
 (.seq (.reg [.s ⟨(some 2), .mv (.c (.slice none 0 0)), []⟩,
  .s ⟨(some 3), .mv (.c (.int .i64 0)), []⟩])
 (.seq (.reg [.s ⟨(some 4), .mv (.c (.slice none 0 0)), []⟩])
 (.seq (.reg [.s ⟨(some 5), .alloc 42 [(.int .i64 0), (.int .i64 0)], []⟩])
 (.seq (.seq (.reg [.s ⟨(some 6), .mv (.c (.int .i64 0)), []⟩])
 (.block 0 (.loop (.seq (.seq (.reg [.s ⟨(some 11), .mv (.t 6), []⟩,
  .s ⟨(some 12), .mv (.t 0), []⟩,
  .s ⟨(some 13), .lenL (.t 12), []⟩,
  .s ⟨(some 14), .bin .lss (.t 11) (.t 13), []⟩])
 (.cond (.t 14) .skip
 (.exit 0)))
 (.block 1 (.seq (.reg [.s ⟨(some 15), .mv (.t 0), []⟩,
  .s ⟨(some 16), .mv (.t 6), []⟩,
  .s ⟨(some 17), .idx 1 (.t 15) (.t 16), []⟩,
  .s ⟨(some 18), .load false 1 (.t 17), []⟩,
  .s ⟨(some 7), .mv (.t 18), []⟩])
 (.seq (.reg [.s ⟨(some 20), .mv (.t 0), []⟩,
  .s ⟨(some 21), .mv (.t 6), []⟩,
  .s ⟨(some 22), .call 26 [(.t 20), (.t 21)], []⟩,
  .s ⟨(some 19), .mv (.t 22), []⟩,
  .s ⟨(some 23), .ext 0 (.t 19), []⟩,
  .s ⟨(some 24), .ext 1 (.t 19), []⟩,
  .s ⟨(some 25), .ext 2 (.t 19), []⟩,
  .s ⟨(some 8), .alloc 42 [(.int .i64 0), (.int .i64 0)], []⟩,
  .s ⟨none, .store 2 (.t 8) (.t 23), []⟩,
  .s ⟨(some 9), .mv (.t 24), []⟩,
  .s ⟨(some 10), .mv (.t 25), []⟩])
 (.seq (.reg [.s ⟨(some 26), .faddr 0 (.t 5), []⟩,
  .s ⟨(some 27), .load false 1 (.t 26), []⟩,
  .s ⟨(some 28), .faddr 0 (.t 8), []⟩,
  .s ⟨(some 29), .load false 1 (.t 28), []⟩,
  .s ⟨(some 30), .bin .add (.t 27) (.t 29), []⟩,
  .s ⟨(some 31), .faddr 0 (.t 5), []⟩,
  .s ⟨none, .store 1 (.t 31) (.t 30), []⟩])
 (.seq (.reg [.s ⟨(some 32), .faddr 1 (.t 5), []⟩,
  .s ⟨(some 33), .load false 1 (.t 32), []⟩,
  .s ⟨(some 34), .faddr 1 (.t 8), []⟩,
  .s ⟨(some 35), .load false 1 (.t 34), []⟩,
  .s ⟨(some 36), .bin .add (.t 33) (.t 35), []⟩,
  .s ⟨(some 37), .faddr 1 (.t 5), []⟩,
  .s ⟨none, .store 1 (.t 37) (.t 36), []⟩])
 (.seq (.seq (.reg [.s ⟨(some 38), .mv (.t 10), []⟩,
  .s ⟨(some 39), .un .not (.t 38), []⟩,
  .s ⟨(some 40), .mv (.t 39), []⟩,
  .g 40 false [⟨(some 41), .faddr 0 (.t 5), []⟩,
   ⟨(some 42), .load false 1 (.t 41), []⟩,
   ⟨(some 43), .bin .gtr (.t 42) (.c (.int .i64 16777216)), []⟩],
  .s ⟨(some 44), .pick (.t 40) (.c (.bool true)) (.t 43), []⟩,
  .s ⟨(some 45), .mv (.t 44), []⟩,
  .g 45 false [⟨(some 46), .faddr 1 (.t 5), []⟩,
   ⟨(some 47), .load false 1 (.t 46), []⟩,
   ⟨(some 48), .bin .lss (.t 47) (.c (.int .i64 0)), []⟩],
  .s ⟨(some 49), .pick (.t 45) (.c (.bool true)) (.t 48), []⟩,
  .s ⟨(some 50), .mv (.t 49), []⟩,
  .g 50 false [⟨(some 51), .faddr 1 (.t 5), []⟩,
   ⟨(some 52), .load false 1 (.t 51), []⟩,
   ⟨(some 53), .bin .gtr (.t 52) (.c (.int .i64 16777216)), []⟩],
  .s ⟨(some 54), .pick (.t 50) (.c (.bool true)) (.t 53), []⟩])
 (.cond (.t 54) (.seq (.reg [.s ⟨(some 2), .mv (.c (.slice none 0 0)), []⟩,
  .s ⟨(some 3), .mv (.c (.int .i64 5)), []⟩])
 .ret)
 .skip))
 (.seq (.seq (.reg [.s ⟨(some 55), .mv (.t 7), []⟩,
  .s ⟨(some 56), .bin .eql (.t 55) (.c (.int .u8 0)), []⟩])
 (.cond (.t 56) (.seq (.seq (.reg [.s ⟨(some 57), .mv (.t 9), []⟩,
  .s ⟨(some 58), .mv (.t 0), []⟩,
  .s ⟨(some 59), .lenL (.t 58), []⟩,
  .s ⟨(some 60), .bin .neq (.t 57) (.t 59), []⟩,
  .s ⟨(some 61), .mv (.t 60), []⟩,
  .g 61 false [⟨(some 62), .mv (.t 4), []⟩,
   ⟨(some 63), .call 12 [(.t 62)], []⟩,
   ⟨(some 64), .un .not (.t 63), []⟩],
  .s ⟨(some 65), .pick (.t 61) (.c (.bool true)) (.t 64), []⟩])
 (.cond (.t 65) (.seq (.reg [.s ⟨(some 2), .mv (.c (.slice none 0 0)), []⟩,
  .s ⟨(some 3), .mv (.c (.int .i64 5)), []⟩])
 .ret)
 .skip))
 (.seq (.reg [.s ⟨(some 66), .mv (.t 4), []⟩,
  .s ⟨(some 2), .mv (.t 66), []⟩,
  .s ⟨(some 3), .mv (.c (.int .i64 0)), []⟩])
 .ret))
 .skip))
 (.seq (.seq (.reg [.s ⟨(some 67), .mv (.t 7), []⟩,
  .s ⟨(some 68), .bin .geq (.t 67) (.c (.int .u8 3)), []⟩])
 (.cond (.t 68) (.reg [.s ⟨(some 69), .mv (.t 4), []⟩,
  .s ⟨(some 70), .load true 2 (.t 5), []⟩,
  .s ⟨(some 71), .bslice 42 1 [(.int .i64 0), (.int .i64 0)] [(0, 2, (.t 70))], []⟩,
  .s ⟨(some 72), .app 42 2 16 (.t 69) (.t 71), []⟩,
  .s ⟨(some 4), .mv (.t 72), []⟩])
 .skip))
 (.reg [.s ⟨(some 73), .mv (.t 9), []⟩,
  .s ⟨(some 6), .mv (.t 73), []⟩])))))))))))))
 (.seq (.reg [.s ⟨(some 2), .mv (.c (.slice none 0 0)), []⟩,
  .s ⟨(some 3), .mv (.c (.int .i64 5)), []⟩])
 .ret)))))⟩
theorem s16 : slimF Try.prog Try.f16 = some a16.fn := by kernel_rfl
/-! theodolite/theodoliteref05.Read -/
def a17 : XFun := ⟨103, [.t 2, .t 3],
 (.seq (.reg [.s ⟨(some 2), .mv (.c (.slice none 0 0)), []⟩,
  .s ⟨(some 3), .mv (.c (.int .i64 0)), []⟩])
 (.seq (.reg [.s ⟨(some 4), .mv (.c (.slice none 0 0)), []⟩])
 (.seq (.reg [.s ⟨(some 5), .mv (.c (.int .i64 0)), []⟩])
 (.seq (.reg [.s ⟨(some 6), .mv (.c (.int .i64 0)), []⟩])
 (.seq (.reg [.s ⟨(some 7), .mv (.c (.int .i64 0)), []⟩])
 (.seq (.block 0 (.loop (.seq (.seq (.reg [.s ⟨(some 12), .mv (.t 7), []⟩,
  .s ⟨(some 13), .mv (.t 0), []⟩,
  .s ⟨(some 14), .lenL (.t 13), []⟩,
  .s ⟨(some 15), .bin .lss (.t 12) (.t 14), []⟩])
 (.cond (.t 15) .skip
 (.exit 0)))
 (.block 1 (.seq (.reg [.s ⟨(some 16), .mv (.t 0), []⟩,
  .s ⟨(some 17), .mv (.t 7), []⟩,
  .s ⟨(some 18), .idx 1 (.t 16) (.t 17), []⟩,
  .s ⟨(some 19), .load false 1 (.t 18), []⟩,
  .s ⟨(some 20), .cint .i64 (.t 19), []⟩,
  .s ⟨(some 8), .mv (.t 20), []⟩])
 (.seq (.reg [.s ⟨(some 21), .mv (.t 7), []⟩,
  .s ⟨(some 22), .bin .add (.t 21) (.c (.int .i64 1)), []⟩,
  .s ⟨(some 7), .mv (.t 22), []⟩])
 (.seq (.seq (.reg [.s ⟨(some 23), .mv (.t 8), []⟩,
  .s ⟨(some 24), .bin .eql (.t 23) (.c (.int .i64 0)), []⟩])
 (.cond (.t 24) (.seq (.seq (.reg [.s ⟨(some 25), .mv (.t 7), []⟩,
  .s ⟨(some 26), .mv (.t 0), []⟩,
  .s ⟨(some 27), .lenL (.t 26), []⟩,
  .s ⟨(some 28), .bin .neq (.t 25) (.t 27), []⟩,
  .s ⟨(some 29), .mv (.t 28), []⟩,
  .g 29 false [⟨(some 30), .mv (.t 4), []⟩,
   ⟨(some 31), .call 13 [(.t 30)], []⟩,
   ⟨(some 32), .un .not (.t 31), []⟩],
  .s ⟨(some 33), .pick (.t 29) (.c (.bool true)) (.t 32), []⟩])
 (.cond (.t 33) (.seq (.reg [.s ⟨(some 2), .mv (.c (.slice none 0 0)), []⟩,
  .s ⟨(some 3), .mv (.c (.int .i64 5)), []⟩])
 .ret)
 .skip))
 (.seq (.reg [.s ⟨(some 34), .mv (.t 4), []⟩,
  .s ⟨(some 2), .mv (.t 34), []⟩,
  .s ⟨(some 3), .mv (.c (.int .i64 0)), []⟩])
 .ret))
 .skip))
 (.seq (.reg [.s ⟨(some 9), .mv (.c (.int .i64 0)), []⟩])
 (.seq (.reg [.s ⟨(some 10), .mv (.c (.int .u64 0)), []⟩])
 (.seq (.reg [.s ⟨(some 11), .mv (.c (.int .i64 0)), []⟩])
 (.seq (.seq (.reg [.s ⟨(some 35), .mv (.t 8), []⟩])
 (.block 2 (.seq (.reg [.s ⟨(some 45), .bin .eql (.t 35) (.c (.int .i64 1)), []⟩,
  .s ⟨(some 44), .mv (.t 45), []⟩])
 (.cond (.t 44) (.reg [.s ⟨(some 47), .mv (.t 0), []⟩,
  .s ⟨(some 48), .mv (.t 7), []⟩,
  .s ⟨(some 49), .call 27 [(.t 47), (.t 48)], []⟩,
  .s ⟨(some 46), .mv (.t 49), []⟩,
  .s ⟨(some 50), .ext 0 (.t 46), []⟩,
  .s ⟨(some 51), .ext 1 (.t 46), []⟩,
  .s ⟨(some 52), .ext 2 (.t 46), []⟩,
  .s ⟨(some 10), .mv (.t 50), []⟩,
  .s ⟨(some 7), .mv (.t 51), []⟩,
  .s ⟨(some 9), .mv (.t 52), []⟩])
 (.seq (.reg [.s ⟨(some 54), .bin .eql (.t 35) (.c (.int .i64 2)), []⟩,
  .s ⟨(some 53), .mv (.t 54), []⟩])
 (.cond (.t 53) (.reg [.s ⟨(some 56), .mv (.t 0), []⟩,
  .s ⟨(some 57), .mv (.t 7), []⟩,
  .s ⟨(some 58), .call 28 [(.t 56), (.t 57)], []⟩,
  .s ⟨(some 55), .mv (.t 58), []⟩,
  .s ⟨(some 59), .ext 0 (.t 55), []⟩,
  .s ⟨(some 60), .ext 1 (.t 55), []⟩,
  .s ⟨(some 61), .ext 2 (.t 55), []⟩,
  .s ⟨(some 11), .mv (.t 59), []⟩,
  .s ⟨(some 7), .mv (.t 60), []⟩,
  .s ⟨(some 9), .mv (.t 61), []⟩])
 (.seq (.reg [.s ⟨(some 63), .bin .eql (.t 35) (.c (.int .i64 3)), []⟩,
  .s ⟨(some 62), .mv (.t 63), []⟩])
 (.cond (.t 62) .skip
 (.seq (.reg [.s ⟨(some 36), .mv (.t 8), []⟩,
  .s ⟨(some 37), .bin .sub (.t 36) (.c (.int .i64 4)), []⟩,
  .s ⟨(some 38), .bin .quo (.t 37) (.c (.int .i64 12)), []⟩,
  .s ⟨(some 39), .cint .u64 (.t 38), []⟩,
  .s ⟨(some 10), .mv (.t 39), []⟩])
 (.reg [.s ⟨(some 40), .mv (.t 8), []⟩,
  .s ⟨(some 41), .bin .sub (.t 40) (.c (.int .i64 4)), []⟩,
  .s ⟨(some 42), .bin .rem (.t 41) (.c (.int .i64 12)), []⟩,
  .s ⟨(some 43), .bin .sub (.t 42) (.c (.int .i64 4)), []⟩,
  .s ⟨(some 11), .mv (.t 43), []⟩]))))))))))
 (.seq (.seq (.reg [.s ⟨(some 64), .mv (.t 9), []⟩,
  .s ⟨(some 65), .bin .neq (.t 64) (.c (.int .i64 0)), []⟩,
  .s ⟨(some 66), .mv (.t 65), []⟩,
  .g 66 false [⟨(some 67), .mv (.t 10), []⟩,
   ⟨(some 68), .bin .gtr (.t 67) (.c (.int .u64 16777216)), []⟩],
  .s ⟨(some 69), .pick (.t 66) (.c (.bool true)) (.t 68), []⟩,
  .s ⟨(some 70), .mv (.t 69), []⟩,
  .g 70 false [⟨(some 71), .mv (.t 11), []⟩,
   ⟨(some 72), .bin .gtr (.t 71) (.c (.int .i64 16777216)), []⟩],
  .s ⟨(some 73), .pick (.t 70) (.c (.bool true)) (.t 72), []⟩,
  .s ⟨(some 74), .mv (.t 73), []⟩,
  .g 74 false [⟨(some 75), .mv (.t 11), []⟩,
   ⟨(some 76), .bin .lss (.t 75) (.c (.int .i64 (-16777216))), []⟩],
  .s ⟨(some 77), .pick (.t 74) (.c (.bool true)) (.t 76), []⟩])
 (.cond (.t 77) (.seq (.reg [.s ⟨(some 2), .mv (.c (.slice none 0 0)), []⟩,
  .s ⟨(some 3), .mv (.c (.int .i64 5)), []⟩])
 .ret)
 .skip))
 (.seq (.reg [.s ⟨(some 78), .mv (.t 5), []⟩,
  .s ⟨(some 79), .mv (.t 10), []⟩,
  .s ⟨(some 80), .cint .i64 (.t 79), []⟩,
  .s ⟨(some 81), .bin .add (.t 78) (.t 80), []⟩,
  .s ⟨(some 5), .mv (.t 81), []⟩])
 (.seq (.reg [.s ⟨(some 82), .mv (.t 6), []⟩,
  .s ⟨(some 83), .mv (.t 11), []⟩,
  .s ⟨(some 84), .bin .add (.t 82) (.t 83), []⟩,
  .s ⟨(some 6), .mv (.t 84), []⟩])
 (.seq (.seq (.reg [.s ⟨(some 85), .mv (.t 5), []⟩,
  .s ⟨(some 86), .bin .gtr (.t 85) (.c (.int .i64 16777216)), []⟩,
  .s ⟨(some 87), .mv (.t 86), []⟩,
  .g 87 false [⟨(some 88), .mv (.t 6), []⟩,
   ⟨(some 89), .bin .lss (.t 88) (.c (.int .i64 0)), []⟩],
  .s ⟨(some 90), .pick (.t 87) (.c (.bool true)) (.t 89), []⟩,
  .s ⟨(some 91), .mv (.t 90), []⟩,
  .g 91 false [⟨(some 92), .mv (.t 6), []⟩,
   ⟨(some 93), .bin .gtr (.t 92) (.c (.int .i64 16777216)), []⟩],
  .s ⟨(some 94), .pick (.t 91) (.c (.bool true)) (.t 93), []⟩])
 (.cond (.t 94) (.seq (.reg [.s ⟨(some 2), .mv (.c (.slice none 0 0)), []⟩,
  .s ⟨(some 3), .mv (.c (.int .i64 5)), []⟩])
 .ret)
 .skip))
 (.seq (.reg [.s ⟨(some 95), .mv (.t 8), []⟩,
  .s ⟨(some 96), .bin .geq (.t 95) (.c (.int .i64 3)), []⟩])
 (.cond (.t 96) (.reg [.s ⟨(some 97), .mv (.t 4), []⟩,
  .s ⟨(some 98), .mv (.t 5), []⟩,
  .s ⟨(some 99), .mv (.t 6), []⟩,
  .s ⟨(some 100), .build [(.int .i64 0), (.int .i64 0)] [(0, 1, (.t 98)), (1, 1, (.t 99))], []⟩,
  .s ⟨(some 101), .bslice 42 1 [(.int .i64 0), (.int .i64 0)] [(0, 2, (.t 100))], []⟩,
  .s ⟨(some 102), .app 42 2 16 (.t 97) (.t 101), []⟩,
  .s ⟨(some 4), .mv (.t 102), []⟩])
 .skip)))))))))))))))))
 (.seq (.reg [.s ⟨(some 2), .mv (.c (.slice none 0 0)), []⟩,
  .s ⟨(some 3), .mv (.c (.int .i64 5)), []⟩])
 .ret)))))))⟩
theorem s17 : slimF Try.prog Try.f17 = some a17.fn := by kernel_rfl
/-! theodolite/theodoliteref00.Kept -/
def a18 : XFun := ⟨50, [.t 4],
 (.seq (.reg [.s ⟨(some 4), .mv (.c (.bool false)), []⟩])
 (.seq (.seq (.reg [.s ⟨(some 8), .mv (.t 0), []⟩,
  .s ⟨(some 9), .lenL (.t 8), []⟩,
  .s ⟨(some 10), .mv (.t 1), []⟩,
  .s ⟨(some 11), .lenL (.t 10), []⟩,
  .s ⟨(some 12), .bin .neq (.t 9) (.t 11), []⟩,
  .s ⟨(some 13), .mv (.t 12), []⟩,
  .g 13 false [⟨(some 14), .mv (.t 0), []⟩,
   ⟨(some 15), .capL (.t 14), []⟩,
   ⟨(some 16), .mv (.t 0), []⟩,
   ⟨(some 17), .lenL (.t 16), []⟩,
   ⟨(some 18), .bin .add (.t 17) (.c (.int .i64 8)), []⟩,
   ⟨(some 19), .bin .lss (.t 15) (.t 18), []⟩],
  .s ⟨(some 20), .pick (.t 13) (.c (.bool true)) (.t 19), []⟩])
 (.cond (.t 20) (.seq (.reg [.s ⟨(some 4), .mv (.c (.bool false)), []⟩])
 .ret)
 .skip))
 (.seq (.seq (.reg [.s ⟨(some 21), .mv (.t 0), []⟩,
  .s ⟨(some 22), .mv (.t 0), []⟩,
  .s ⟨(some 23), .lenL (.t 22), []⟩,
  .s ⟨(some 24), .bin .add (.t 23) (.c (.int .i64 8)), []⟩,
  .s ⟨(some 25), .slc 1 (.t 21) none (some (.t 24)) none, []⟩,
  .s ⟨(some 26), .lenL (.t 25), []⟩,
  .s ⟨(some 27), .mv (.c (.int .i64 0)), []⟩])
 (.block 0 (.loop (.seq (.reg [.s ⟨(some 28), .bin .lss (.t 27) (.t 26), []⟩])
 (.seq (.cond (.t 28) .skip
 (.exit 0))
 (.seq (.block 1 (.seq (.reg [.s ⟨(some 29), .mv (.t 27), []⟩,
  .s ⟨(some 30), .idx 1 (.t 25) (.t 27), []⟩,
  .s ⟨(some 31), .load false 1 (.t 30), []⟩,
  .s ⟨(some 5), .mv (.t 29), []⟩,
  .s ⟨(some 6), .mv (.t 31), []⟩])
 (.seq (.reg [.s ⟨(some 32), .mv (.t 1), []⟩,
  .s ⟨(some 33), .lenL (.t 32), []⟩,
  .s ⟨(some 34), .bin .add (.c (.int .i64 8)) (.t 33), []⟩,
  .s ⟨(some 35), .mv (.t 5), []⟩,
  .s ⟨(some 36), .bin .sub (.t 34) (.t 35), []⟩,
  .s ⟨(some 37), .cint .u8 (.t 36), []⟩,
  .s ⟨(some 7), .mv (.t 37), []⟩])
 (.seq (.seq (.reg [.s ⟨(some 38), .mv (.t 5), []⟩,
  .s ⟨(some 39), .mv (.t 1), []⟩,
  .s ⟨(some 40), .lenL (.t 39), []⟩,
  .s ⟨(some 41), .bin .lss (.t 38) (.t 40), []⟩])
 (.cond (.t 41) (.reg [.s ⟨(some 42), .mv (.t 1), []⟩,
  .s ⟨(some 43), .mv (.t 5), []⟩,
  .s ⟨(some 44), .idx 1 (.t 42) (.t 43), []⟩,
  .s ⟨(some 45), .load false 1 (.t 44), []⟩,
  .s ⟨(some 7), .mv (.t 45), []⟩])
 .skip))
 (.seq (.reg [.s ⟨(some 46), .mv (.t 6), []⟩,
  .s ⟨(some 47), .mv (.t 7), []⟩,
  .s ⟨(some 48), .bin .neq (.t 46) (.t 47), []⟩])
 (.cond (.t 48) (.seq (.reg [.s ⟨(some 4), .mv (.c (.bool false)), []⟩])
 .ret)
 .skip))))))
 (.reg [.s ⟨(some 49), .bin .add (.t 27) (.c (.int .i64 1)), []⟩,
  .s ⟨(some 27), .mv (.t 49), []⟩])))))))
 (.seq (.reg [.s ⟨(some 4), .mv (.c (.bool true)), []⟩])
 .ret))))⟩
theorem s18 : slimF Try.prog Try.f18 = some a18.fn := by kernel_rfl
/-! theodolite/lines.At -/
def a19 : XFun := ⟨17, [.t 4, .t 5],
 (.seq (.reg [.s ⟨(some 3), .box 3 (.t 1), []⟩,
  .s ⟨(some 4), .mv (.c (.int .i64 0)), []⟩,
  .s ⟨(some 5), .mv (.c (.bool false)), []⟩])
 (.seq (.reg [.s ⟨(some 7), .mv (.t 0), []⟩,
  .s ⟨(some 8), .mkfn (.func 30) [] [(.t 3)], []⟩,
  .s ⟨(some 9), .call 29 [(.t 7), (.t 8)], []⟩,
  .s ⟨(some 6), .mv (.t 9), []⟩])
 (.seq (.seq (.reg [.s ⟨(some 10), .mv (.t 6), []⟩,
  .s ⟨(some 11), .lenL (.t 10), []⟩,
  .s ⟨(some 12), .bin .eql (.t 11) (.c (.int .i64 0)), []⟩])
 (.cond (.t 12) (.seq (.reg [.s ⟨(some 4), .mv (.c (.int .i64 0)), []⟩,
  .s ⟨(some 5), .mv (.c (.bool false)), []⟩])
 .ret)
 .skip))
 (.seq (.reg [.s ⟨(some 13), .mv (.t 6), []⟩,
  .s ⟨(some 14), .idx 2 (.t 13) (.c (.int .i64 0)), []⟩,
  .s ⟨(some 15), .faddr 1 (.t 14), []⟩,
  .s ⟨(some 16), .load false 1 (.t 15), []⟩,
  .s ⟨(some 4), .mv (.t 16), []⟩,
  .s ⟨(some 5), .mv (.c (.bool true)), []⟩])
 .ret))))⟩
theorem s19 : slimF Try.prog Try.f19 = some a19.fn := by kernel_rfl
/-! theodolite/theodoliteref05.At -/
def a20 : XFun := ⟨25, [.t 4, .t 5],
 (.seq (.reg [.s ⟨(some 4), .mv (.c (.int .i64 0)), []⟩,
  .s ⟨(some 5), .mv (.c (.bool false)), []⟩])
 (.seq (.seq (.reg [.s ⟨(some 6), .mv (.c (.int .i64 0)), []⟩])
 (.block 0 (.loop (.seq (.seq (.reg [.s ⟨(some 7), .mv (.t 6), []⟩,
  .s ⟨(some 8), .mv (.t 0), []⟩,
  .s ⟨(some 9), .lenL (.t 8), []⟩,
  .s ⟨(some 10), .bin .lss (.t 7) (.t 9), []⟩])
 (.cond (.t 10) .skip
 (.exit 0)))
 (.seq (.block 1 (.seq (.reg [.s ⟨(some 13), .mv (.t 0), []⟩,
  .s ⟨(some 14), .mv (.t 6), []⟩,
  .s ⟨(some 15), .idx 2 (.t 13) (.t 14), []⟩,
  .s ⟨(some 16), .faddr 0 (.t 15), []⟩,
  .s ⟨(some 17), .load false 1 (.t 16), []⟩,
  .s ⟨(some 18), .mv (.t 1), []⟩,
  .s ⟨(some 19), .bin .eql (.t 17) (.t 18), []⟩])
 (.cond (.t 19) (.seq (.reg [.s ⟨(some 20), .mv (.t 0), []⟩,
  .s ⟨(some 21), .mv (.t 6), []⟩,
  .s ⟨(some 22), .idx 2 (.t 20) (.t 21), []⟩,
  .s ⟨(some 23), .faddr 1 (.t 22), []⟩,
  .s ⟨(some 24), .load false 1 (.t 23), []⟩,
  .s ⟨(some 4), .mv (.t 24), []⟩,
  .s ⟨(some 5), .mv (.c (.bool true)), []⟩])
 .ret)
 .skip)))
 (.reg [.s ⟨(some 11), .mv (.t 6), []⟩,
  .s ⟨(some 12), .bin .add (.t 11) (.c (.int .i64 1)), []⟩,
  .s ⟨(some 6), .mv (.t 12), []⟩]))))))
 (.seq (.reg [.s ⟨(some 4), .mv (.c (.int .i64 0)), []⟩,
  .s ⟨(some 5), .mv (.c (.bool false)), []⟩])
 .ret)))⟩
theorem s20 : slimF Try.prog Try.f20 = some a20.fn := by kernel_rfl
/-! theodolite/lines.Pcs -/
def a21 : XFun := ⟨23, [.t 4],
 (.seq (.reg [.s ⟨(some 3), .box 3 (.t 1), []⟩,
  .s ⟨(some 4), .mv (.c (.slice none 0 0)), []⟩])
 (.seq (.reg [.s ⟨(some 5), .mv (.c (.slice none 0 0)), []⟩])
 (.seq (.seq (.reg [.s ⟨(some 8), .mv (.t 0), []⟩,
  .s ⟨(some 9), .mkfn (.func 31) [] [(.t 3)], []⟩,
  .s ⟨(some 10), .call 29 [(.t 8), (.t 9)], []⟩,
  .s ⟨(some 11), .lenL (.t 10), []⟩,
  .s ⟨(some 12), .mv (.c (.int .i64 0)), []⟩])
 (.block 0 (.loop (.seq (.reg [.s ⟨(some 13), .bin .lss (.t 12) (.t 11), []⟩])
 (.seq (.cond (.t 13) .skip
 (.exit 0))
 (.seq (.block 1 (.seq (.reg [.s ⟨(some 14), .idx 2 (.t 10) (.t 12), []⟩,
  .s ⟨(some 15), .load true 2 (.t 14), []⟩,
  .s ⟨(some 7), .alloc 42 [(.int .i64 0), (.int .i64 0)], []⟩,
  .s ⟨none, .store 2 (.t 7) (.t 15), []⟩])
 (.reg [.s ⟨(some 16), .mv (.t 5), []⟩,
  .s ⟨(some 17), .faddr 0 (.t 7), []⟩,
  .s ⟨(some 18), .load false 1 (.t 17), []⟩,
  .s ⟨(some 19), .bslice 3 1 [(.int .i64 0)] [(0, 1, (.t 18))], []⟩,
  .s ⟨(some 20), .app 3 1 8 (.t 16) (.t 19), []⟩,
  .s ⟨(some 5), .mv (.t 20), []⟩])))
 (.reg [.s ⟨(some 21), .bin .add (.t 12) (.c (.int .i64 1)), []⟩,
  .s ⟨(some 12), .mv (.t 21), []⟩])))))))
 (.seq (.reg [.s ⟨(some 22), .mv (.t 5), []⟩,
  .s ⟨(some 4), .mv (.t 22), []⟩])
 .ret))))⟩
theorem s21 : slimF Try.prog Try.f21 = some a21.fn := by kernel_rfl
/-! theodolite/theodoliteref05.Pcs -/
def a22 : XFun := ⟨29, [.t 4],
 (.seq (.reg [.s ⟨(some 4), .mv (.c (.slice none 0 0)), []⟩])
 (.seq (.reg [.s ⟨(some 5), .mv (.c (.slice none 0 0)), []⟩])
 (.seq (.seq (.reg [.s ⟨(some 6), .mv (.c (.int .i64 0)), []⟩])
 (.block 0 (.loop (.seq (.seq (.reg [.s ⟨(some 7), .mv (.t 6), []⟩,
  .s ⟨(some 8), .mv (.t 0), []⟩,
  .s ⟨(some 9), .lenL (.t 8), []⟩,
  .s ⟨(some 10), .bin .lss (.t 7) (.t 9), []⟩])
 (.cond (.t 10) .skip
 (.exit 0)))
 (.seq (.block 1 (.seq (.reg [.s ⟨(some 13), .mv (.t 0), []⟩,
  .s ⟨(some 14), .mv (.t 6), []⟩,
  .s ⟨(some 15), .idx 2 (.t 13) (.t 14), []⟩,
  .s ⟨(some 16), .faddr 1 (.t 15), []⟩,
  .s ⟨(some 17), .load false 1 (.t 16), []⟩,
  .s ⟨(some 18), .mv (.t 1), []⟩,
  .s ⟨(some 19), .bin .eql (.t 17) (.t 18), []⟩])
 (.cond (.t 19) (.reg [.s ⟨(some 20), .mv (.t 5), []⟩,
  .s ⟨(some 21), .mv (.t 0), []⟩,
  .s ⟨(some 22), .mv (.t 6), []⟩,
  .s ⟨(some 23), .idx 2 (.t 21) (.t 22), []⟩,
  .s ⟨(some 24), .faddr 0 (.t 23), []⟩,
  .s ⟨(some 25), .load false 1 (.t 24), []⟩,
  .s ⟨(some 26), .bslice 3 1 [(.int .i64 0)] [(0, 1, (.t 25))], []⟩,
  .s ⟨(some 27), .app 3 1 8 (.t 20) (.t 26), []⟩,
  .s ⟨(some 5), .mv (.t 27), []⟩])
 .skip)))
 (.reg [.s ⟨(some 11), .mv (.t 6), []⟩,
  .s ⟨(some 12), .bin .add (.t 11) (.c (.int .i64 1)), []⟩,
  .s ⟨(some 6), .mv (.t 12), []⟩]))))))
 (.seq (.reg [.s ⟨(some 28), .mv (.t 5), []⟩,
  .s ⟨(some 4), .mv (.t 28), []⟩])
 .ret))))⟩
theorem s22 : slimF Try.prog Try.f22 = some a22.fn := by kernel_rfl
/-! theodolite/lines.step -/
def a23 : XFun := ⟨57, [.t 6],
 (.seq (.reg [.s ⟨(some 4), .box 42 (.t 1), []⟩,
  .s ⟨(some 5), .box 42 (.t 2), []⟩,
  .s ⟨(some 6), .mv (.c (.slice none 0 0)), []⟩])
 (.seq (.par [.s ⟨(some 9), .faddr 0 (.t 5), []⟩,
  .s ⟨(some 10), .load false 1 (.t 9), []⟩,
  .s ⟨(some 11), .faddr 0 (.t 4), []⟩,
  .s ⟨(some 12), .load false 1 (.t 11), []⟩,
  .s ⟨(some 13), .bin .sub (.t 10) (.t 12), []⟩,
  .s ⟨(some 14), .faddr 1 (.t 5), []⟩,
  .s ⟨(some 15), .load false 1 (.t 14), []⟩,
  .s ⟨(some 16), .faddr 1 (.t 4), []⟩,
  .s ⟨(some 17), .load false 1 (.t 16), []⟩,
  .s ⟨(some 18), .bin .sub (.t 15) (.t 17), []⟩,
  .s ⟨(some 7), .mv (.t 13), []⟩,
  .s ⟨(some 8), .mv (.t 18), []⟩])
 (.seq (.seq (.reg [.s ⟨(some 19), .mv (.t 7), []⟩,
  .s ⟨(some 20), .bin .leq (.t 19) (.c (.int .i64 20)), []⟩,
  .s ⟨(some 21), .mv (.t 20), []⟩,
  .g 21 true [⟨(some 22), .mv (.t 8), []⟩,
   ⟨(some 23), .bin .geq (.t 22) (.c (.int .i64 (-4))), []⟩],
  .s ⟨(some 24), .pick (.t 21) (.t 23) (.c (.bool false)), []⟩,
  .s ⟨(some 25), .mv (.t 24), []⟩,
  .g 25 true [⟨(some 26), .mv (.t 8), []⟩,
   ⟨(some 27), .bin .lss (.t 26) (.c (.int .i64 8)), []⟩],
  .s ⟨(some 28), .pick (.t 25) (.t 27) (.c (.bool false)), []⟩])
 (.cond (.t 28) (.seq (.reg [.s ⟨(some 29), .mv (.t 0), []⟩,
  .s ⟨(some 30), .mv (.t 7), []⟩,
  .s ⟨(some 31), .bin .mul (.c (.int .i64 12)) (.t 30), []⟩,
  .s ⟨(some 32), .bin .add (.c (.int .i64 4)) (.t 31), []⟩,
  .s ⟨(some 33), .mv (.t 8), []⟩,
  .s ⟨(some 34), .bin .add (.t 32) (.t 33), []⟩,
  .s ⟨(some 35), .bin .add (.t 34) (.c (.int .i64 4)), []⟩,
  .s ⟨(some 36), .cint .u8 (.t 35), []⟩,
  .s ⟨(some 37), .bslice 5 1 [(.int .u8 0)] [(0, 1, (.t 36))], []⟩,
  .s ⟨(some 38), .app 5 1 1 (.t 29) (.t 37), []⟩,
  .s ⟨(some 6), .mv (.t 38), []⟩])
 .ret)
 .skip))
 (.seq (.seq (.reg [.s ⟨(some 39), .mv (.t 7), []⟩,
  .s ⟨(some 40), .bin .neq (.t 39) (.c (.int .i64 0)), []⟩])
 (.cond (.t 40) (.reg [.s ⟨(some 41), .mv (.t 0), []⟩,
  .s ⟨(some 42), .bslice 5 1 [(.int .u8 0)] [(0, 1, (.c (.int .u8 1)))], []⟩,
  .s ⟨(some 43), .app 5 1 1 (.t 41) (.t 42), []⟩,
  .s ⟨(some 44), .mv (.t 7), []⟩,
  .s ⟨(some 45), .cint .u64 (.t 44), []⟩,
  .s ⟨(some 46), .call 32 [(.t 43), (.t 45)], []⟩,
  .s ⟨(some 0), .mv (.t 46), []⟩])
 .skip))
 (.seq (.seq (.reg [.s ⟨(some 47), .mv (.t 8), []⟩,
  .s ⟨(some 48), .bin .neq (.t 47) (.c (.int .i64 0)), []⟩])
 (.cond (.t 48) (.reg [.s ⟨(some 49), .mv (.t 0), []⟩,
  .s ⟨(some 50), .bslice 5 1 [(.int .u8 0)] [(0, 1, (.c (.int .u8 2)))], []⟩,
  .s ⟨(some 51), .app 5 1 1 (.t 49) (.t 50), []⟩,
  .s ⟨(some 52), .mv (.t 8), []⟩,
  .s ⟨(some 53), .call 33 [(.t 51), (.t 52)], []⟩,
  .s ⟨(some 0), .mv (.t 53), []⟩])
 .skip))
 (.seq (.reg [.s ⟨(some 54), .mv (.t 0), []⟩,
  .s ⟨(some 55), .bslice 5 1 [(.int .u8 0)] [(0, 1, (.c (.int .u8 3)))], []⟩,
  .s ⟨(some 56), .app 5 1 1 (.t 54) (.t 55), []⟩,
  .s ⟨(some 6), .mv (.t 56), []⟩])
 .ret))))))⟩
theorem s23 : slimF Try.prog Try.f23 = some a23.fn := by kernel_rfl
/-! theodolite/theodoliteref02.PutU -/
def a24 : XFun := ⟨16, [.t 4],
 (.seq (.reg [.s ⟨(some 4), .mv (.c (.slice none 0 0)), []⟩])
 (.seq (.reg [.s ⟨(some 5), .mv (.c (.int .i64 1)), []⟩])
 (.seq (.block 0 (.loop (.seq (.seq (.reg [.s ⟨(some 6), .mv (.t 1), []⟩,
  .s ⟨(some 7), .mv (.t 5), []⟩,
  .s ⟨(some 8), .call 34 [(.t 6), (.t 7)], []⟩,
  .s ⟨(some 9), .un .not (.t 8), []⟩])
 (.cond (.t 9) .skip
 (.exit 0)))
 (.block 1 (.reg [.s ⟨(some 10), .mv (.t 5), []⟩,
  .s ⟨(some 11), .bin .add (.t 10) (.c (.int .i64 1)), []⟩,
  .s ⟨(some 5), .mv (.t 11), []⟩])))))
 (.seq (.reg [.s ⟨(some 12), .mv (.t 0), []⟩,
  .s ⟨(some 13), .mv (.t 1), []⟩,
  .s ⟨(some 14), .mv (.t 5), []⟩,
  .s ⟨(some 15), .call 35 [(.t 12), (.t 13), (.c (.bool false)), (.t 14)], []⟩,
  .s ⟨(some 4), .mv (.t 15), []⟩])
 .ret))))⟩
theorem s24 : slimF Try.prog Try.f24 = some a24.fn := by kernel_rfl
/-! theodolite/theodoliteref02.PutS -/
def a25 : XFun := ⟨19, [.t 4],
 (.seq (.reg [.s ⟨(some 4), .mv (.c (.slice none 0 0)), []⟩])
 (.seq (.reg [.s ⟨(some 5), .mv (.c (.int .i64 1)), []⟩])
 (.seq (.block 0 (.loop (.seq (.seq (.reg [.s ⟨(some 6), .mv (.t 1), []⟩,
  .s ⟨(some 7), .mv (.t 5), []⟩,
  .s ⟨(some 8), .call 36 [(.t 6), (.t 7)], []⟩,
  .s ⟨(some 9), .un .not (.t 8), []⟩])
 (.cond (.t 9) .skip
 (.exit 0)))
 (.block 1 (.reg [.s ⟨(some 10), .mv (.t 5), []⟩,
  .s ⟨(some 11), .bin .add (.t 10) (.c (.int .i64 1)), []⟩,
  .s ⟨(some 5), .mv (.t 11), []⟩])))))
 (.seq (.reg [.s ⟨(some 12), .mv (.t 0), []⟩,
  .s ⟨(some 13), .mv (.t 1), []⟩,
  .s ⟨(some 14), .cint .u64 (.t 13), []⟩,
  .s ⟨(some 15), .mv (.t 1), []⟩,
  .s ⟨(some 16), .bin .lss (.t 15) (.c (.int .i64 0)), []⟩,
  .s ⟨(some 17), .mv (.t 5), []⟩,
  .s ⟨(some 18), .call 35 [(.t 12), (.t 14), (.t 16), (.t 17)], []⟩,
  .s ⟨(some 4), .mv (.t 18), []⟩])
 .ret))))⟩
theorem s25 : slimF Try.prog Try.f25 = some a25.fn := by kernel_rfl
/-! theodolite/lines.move -/
def a26 : XFun := ⟨70, [.c 4 true 2, .t 5, .t 6],
 (.seq (.reg [.s ⟨(some 4), .alloc 42 [(.int .i64 0), (.int .i64 0)], []⟩,
  .s ⟨(some 5), .mv (.c (.int .i64 0)), []⟩,
  .s ⟨(some 6), .mv (.c (.bool false)), []⟩])
 (.seq (.reg [.s ⟨(some 14), .mv (.t 0), []⟩,
  .s ⟨(some 15), .mv (.t 1), []⟩,
  .s ⟨(some 16), .idx 1 (.t 14) (.t 15), []⟩,
  .s ⟨(some 17), .load false 1 (.t 16), []⟩,
  .s ⟨(some 18), .cint .i64 (.t 17), []⟩,
  .s ⟨(some 7), .mv (.t 18), []⟩])
 (.seq (.reg [.s ⟨(some 19), .mv (.t 7), []⟩])
 (.block 0 (.seq (.reg [.s ⟨(some 31), .bin .eql (.t 19) (.c (.int .i64 1)), []⟩,
  .s ⟨(some 30), .mv (.t 31), []⟩])
 (.cond (.t 30) (.seq (.reg [.s ⟨(some 33), .mv (.t 0), []⟩,
  .s ⟨(some 34), .mv (.t 1), []⟩,
  .s ⟨(some 35), .bin .add (.t 34) (.c (.int .i64 1)), []⟩,
  .s ⟨(some 36), .call 37 [(.t 33), (.t 35)], []⟩,
  .s ⟨(some 32), .mv (.t 36), []⟩,
  .s ⟨(some 37), .ext 0 (.t 32), []⟩,
  .s ⟨(some 38), .ext 1 (.t 32), []⟩,
  .s ⟨(some 39), .ext 2 (.t 32), []⟩,
  .s ⟨(some 8), .mv (.t 37), []⟩,
  .s ⟨(some 9), .mv (.t 38), []⟩,
  .s ⟨(some 10), .mv (.t 39), []⟩])
 (.seq (.reg [.s ⟨(some 40), .mv (.t 8), []⟩,
  .s ⟨(some 41), .minmax false (.t 40) [(.c (.int .u64 16777217))], []⟩,
  .s ⟨(some 42), .cint .i64 (.t 41), []⟩,
  .s ⟨(some 43), .build [(.int .i64 0), (.int .i64 0)] [(0, 1, (.t 42))], []⟩,
  .s ⟨(some 44), .mv (.t 9), []⟩,
  .s ⟨(some 45), .mv (.t 10), []⟩,
  .s ⟨(some 46), .bin .eql (.t 45) (.c (.int .i64 0)), []⟩,
  .s ⟨none, .store 2 (.t 4) (.t 43), []⟩,
  .s ⟨(some 5), .mv (.t 44), []⟩,
  .s ⟨(some 6), .mv (.t 46), []⟩])
 .ret))
 (.seq (.reg [.s ⟨(some 48), .bin .eql (.t 19) (.c (.int .i64 2)), []⟩,
  .s ⟨(some 47), .mv (.t 48), []⟩])
 (.cond (.t 47) (.seq (.reg [.s ⟨(some 50), .mv (.t 0), []⟩,
  .s ⟨(some 51), .mv (.t 1), []⟩,
  .s ⟨(some 52), .bin .add (.t 51) (.c (.int .i64 1)), []⟩,
  .s ⟨(some 53), .call 38 [(.t 50), (.t 52)], []⟩,
  .s ⟨(some 49), .mv (.t 53), []⟩,
  .s ⟨(some 54), .ext 0 (.t 49), []⟩,
  .s ⟨(some 55), .ext 1 (.t 49), []⟩,
  .s ⟨(some 56), .ext 2 (.t 49), []⟩,
  .s ⟨(some 11), .mv (.t 54), []⟩,
  .s ⟨(some 12), .mv (.t 55), []⟩,
  .s ⟨(some 13), .mv (.t 56), []⟩])
 (.seq (.reg [.s ⟨(some 57), .mv (.t 11), []⟩,
  .s ⟨(some 58), .minmax false (.t 57) [(.c (.int .i64 16777217))], []⟩,
  .s ⟨(some 59), .minmax true (.c (.int .i64 (-16777217))) [(.t 58)], []⟩,
  .s ⟨(some 60), .build [(.int .i64 0), (.int .i64 0)] [(1, 1, (.t 59))], []⟩,
  .s ⟨(some 61), .mv (.t 12), []⟩,
  .s ⟨(some 62), .mv (.t 13), []⟩,
  .s ⟨(some 63), .bin .eql (.t 62) (.c (.int .i64 0)), []⟩,
  .s ⟨none, .store 2 (.t 4) (.t 60), []⟩,
  .s ⟨(some 5), .mv (.t 61), []⟩,
  .s ⟨(some 6), .mv (.t 63), []⟩])
 .ret))
 (.seq (.seq (.reg [.s ⟨(some 65), .bin .eql (.t 19) (.c (.int .i64 0)), []⟩,
  .s ⟨(some 64), .mv (.t 65), []⟩])
 (.cond (.t 64) .skip
 (.reg [.s ⟨(some 66), .bin .eql (.t 19) (.c (.int .i64 3)), []⟩,
  .s ⟨(some 64), .mv (.t 66), []⟩])))
 (.cond (.t 64) (.seq (.reg [.s ⟨(some 67), .load true 2 (.t 4), []⟩,
  .s ⟨(some 68), .mv (.t 1), []⟩,
  .s ⟨(some 69), .bin .add (.t 68) (.c (.int .i64 1)), []⟩,
  .s ⟨none, .store 2 (.t 4) (.t 67), []⟩,
  .s ⟨(some 5), .mv (.t 69), []⟩,
  .s ⟨(some 6), .mv (.c (.bool true)), []⟩])
 .ret)
 (.seq (.reg [.s ⟨(some 20), .mv (.t 7), []⟩,
  .s ⟨(some 21), .bin .sub (.t 20) (.c (.int .i64 4)), []⟩,
  .s ⟨(some 22), .bin .quo (.t 21) (.c (.int .i64 12)), []⟩,
  .s ⟨(some 23), .mv (.t 7), []⟩,
  .s ⟨(some 24), .bin .sub (.t 23) (.c (.int .i64 4)), []⟩,
  .s ⟨(some 25), .bin .rem (.t 24) (.c (.int .i64 12)), []⟩,
  .s ⟨(some 26), .bin .sub (.t 25) (.c (.int .i64 4)), []⟩,
  .s ⟨(some 27), .build [(.int .i64 0), (.int .i64 0)] [(0, 1, (.t 22)), (1, 1, (.t 26))], []⟩,
  .s ⟨(some 28), .mv (.t 1), []⟩,
  .s ⟨(some 29), .bin .add (.t 28) (.c (.int .i64 1)), []⟩,
  .s ⟨none, .store 2 (.t 4) (.t 27), []⟩,
  .s ⟨(some 5), .mv (.t 29), []⟩,
  .s ⟨(some 6), .mv (.c (.bool true)), []⟩])
 .ret)))))))))))⟩
theorem s26 : slimF Try.prog Try.f26 = some a26.fn := by kernel_rfl
/-! theodolite/theodoliteref02.U -/
def a27 : XFun := ⟨38, [.t 4, .t 5, .t 6],
 (.seq (.reg [.s ⟨(some 4), .mv (.c (.int .u64 0)), []⟩,
  .s ⟨(some 5), .mv (.c (.int .i64 0)), []⟩,
  .s ⟨(some 6), .mv (.c (.int .i64 0)), []⟩])
 (.seq (.seq (.reg [.s ⟨(some 9), .mv (.t 1), []⟩,
  .s ⟨(some 10), .bin .lss (.t 9) (.c (.int .i64 0)), []⟩,
  .s ⟨(some 11), .mv (.t 10), []⟩,
  .g 11 false [⟨(some 12), .mv (.t 1), []⟩,
   ⟨(some 13), .mv (.t 0), []⟩,
   ⟨(some 14), .lenL (.t 13), []⟩,
   ⟨(some 15), .bin .gtr (.t 12) (.t 14), []⟩],
  .s ⟨(some 16), .pick (.t 11) (.c (.bool true)) (.t 15), []⟩])
 (.cond (.t 16) (.seq (.reg [.s ⟨(some 4), .mv (.c (.int .u64 0)), []⟩,
  .s ⟨(some 5), .mv (.c (.int .i64 0)), []⟩,
  .s ⟨(some 6), .mv (.c (.int .i64 1)), []⟩])
 .ret)
 .skip))
 (.seq (.reg [.s ⟨(some 17), .mv (.t 0), []⟩,
  .s ⟨(some 18), .mv (.t 1), []⟩,
  .s ⟨(some 19), .call 39 [(.t 17), (.t 18)], []⟩,
  .s ⟨(some 7), .mv (.t 19), []⟩])
 (.seq (.reg [.s ⟨(some 20), .mv (.t 0), []⟩,
  .s ⟨(some 21), .mv (.t 1), []⟩,
  .s ⟨(some 22), .mv (.t 7), []⟩,
  .s ⟨(some 23), .call 40 [(.t 20), (.t 21), (.t 22)], []⟩,
  .s ⟨(some 8), .mv (.t 23), []⟩])
 (.seq (.seq (.reg [.s ⟨(some 24), .mv (.t 7), []⟩,
  .s ⟨(some 25), .bin .eql (.t 24) (.c (.int .i64 0)), []⟩,
  .s ⟨(some 26), .mv (.t 25), []⟩,
  .g 26 false [⟨(some 27), .mv (.t 0), []⟩,
   ⟨(some 28), .mv (.t 1), []⟩,
   ⟨(some 29), .mv (.t 8), []⟩,
   ⟨(some 30), .call 24 [(.c (.slice none 0 0)), (.t 29)], []⟩,
   ⟨(some 31), .call 41 [(.t 27), (.t 28), (.t 30)], []⟩,
   ⟨(some 32), .un .not (.t 31), []⟩],
  .s ⟨(some 33), .pick (.t 26) (.c (.bool true)) (.t 32), []⟩])
 (.cond (.t 33) (.seq (.reg [.s ⟨(some 4), .mv (.c (.int .u64 0)), []⟩,
  .s ⟨(some 5), .mv (.c (.int .i64 0)), []⟩,
  .s ⟨(some 6), .mv (.c (.int .i64 5)), []⟩])
 .ret)
 .skip))
 (.seq (.reg [.s ⟨(some 34), .mv (.t 8), []⟩,
  .s ⟨(some 35), .mv (.t 1), []⟩,
  .s ⟨(some 36), .mv (.t 7), []⟩,
  .s ⟨(some 37), .bin .add (.t 35) (.t 36), []⟩,
  .s ⟨(some 4), .mv (.t 34), []⟩,
  .s ⟨(some 5), .mv (.t 37), []⟩,
  .s ⟨(some 6), .mv (.c (.int .i64 0)), []⟩])
 .ret))))))⟩
theorem s27 : slimF Try.prog Try.f27 = some a27.fn := by kernel_rfl
/-! theodolite/theodoliteref02.S -/
def a28 : XFun := ⟨56, [.t 4, .t 5, .t 6],
 (.seq (.reg [.s ⟨(some 4), .mv (.c (.int .i64 0)), []⟩,
  .s ⟨(some 5), .mv (.c (.int .i64 0)), []⟩,
  .s ⟨(some 6), .mv (.c (.int .i64 0)), []⟩])
 (.seq (.seq (.reg [.s ⟨(some 9), .mv (.t 1), []⟩,
  .s ⟨(some 10), .bin .lss (.t 9) (.c (.int .i64 0)), []⟩,
  .s ⟨(some 11), .mv (.t 10), []⟩,
  .g 11 false [⟨(some 12), .mv (.t 1), []⟩,
   ⟨(some 13), .mv (.t 0), []⟩,
   ⟨(some 14), .lenL (.t 13), []⟩,
   ⟨(some 15), .bin .gtr (.t 12) (.t 14), []⟩],
  .s ⟨(some 16), .pick (.t 11) (.c (.bool true)) (.t 15), []⟩])
 (.cond (.t 16) (.seq (.reg [.s ⟨(some 4), .mv (.c (.int .i64 0)), []⟩,
  .s ⟨(some 5), .mv (.c (.int .i64 0)), []⟩,
  .s ⟨(some 6), .mv (.c (.int .i64 1)), []⟩])
 .ret)
 .skip))
 (.seq (.reg [.s ⟨(some 17), .mv (.t 0), []⟩,
  .s ⟨(some 18), .mv (.t 1), []⟩,
  .s ⟨(some 19), .call 39 [(.t 17), (.t 18)], []⟩,
  .s ⟨(some 7), .mv (.t 19), []⟩])
 (.seq (.seq (.reg [.s ⟨(some 20), .mv (.t 7), []⟩,
  .s ⟨(some 21), .bin .eql (.t 20) (.c (.int .i64 0)), []⟩])
 (.cond (.t 21) (.seq (.reg [.s ⟨(some 4), .mv (.c (.int .i64 0)), []⟩,
  .s ⟨(some 5), .mv (.c (.int .i64 0)), []⟩,
  .s ⟨(some 6), .mv (.c (.int .i64 5)), []⟩])
 .ret)
 .skip))
 (.seq (.reg [.s ⟨(some 22), .mv (.t 0), []⟩,
  .s ⟨(some 23), .mv (.t 1), []⟩,
  .s ⟨(some 24), .mv (.t 7), []⟩,
  .s ⟨(some 25), .call 40 [(.t 22), (.t 23), (.t 24)], []⟩,
  .s ⟨(some 8), .mv (.t 25), []⟩])
 (.seq (.seq (.reg [.s ⟨(some 26), .mv (.t 0), []⟩,
  .s ⟨(some 27), .mv (.t 1), []⟩,
  .s ⟨(some 28), .mv (.t 7), []⟩,
  .s ⟨(some 29), .bin .add (.t 27) (.t 28), []⟩,
  .s ⟨(some 30), .bin .sub (.t 29) (.c (.int .i64 1)), []⟩,
  .s ⟨(some 31), .idx 1 (.t 26) (.t 30), []⟩,
  .s ⟨(some 32), .load false 1 (.t 31), []⟩,
  .s ⟨(some 33), .bin .geq (.t 32) (.c (.int .u8 64)), []⟩,
  .s ⟨(some 34), .mv (.t 33), []⟩,
  .g 34 true [⟨(some 35), .mv (.t 7), []⟩,
   ⟨(some 36), .bin .lss (.t 35) (.c (.int .i64 10)), []⟩],
  .s ⟨(some 37), .pick (.t 34) (.t 36) (.c (.bool false)), []⟩])
 (.cond (.t 37) (.reg [.s ⟨(some 38), .mv (.t 8), []⟩,
  .s ⟨(some 39), .mv (.t 7), []⟩,
  .s ⟨(some 40), .bin .mul (.c (.int .i64 7)) (.t 39), []⟩,
  .s ⟨(some 41), .cint .u64 (.t 40), []⟩,
  .s ⟨(some 42), .bin .shl (.c (.int .u64 1)) (.t 41), []⟩,
  .s ⟨(some 43), .bin .sub (.t 38) (.t 42), []⟩,
  .s ⟨(some 8), .mv (.t 43), []⟩])
 .skip))
 (.seq (.seq (.reg [.s ⟨(some 44), .mv (.t 0), []⟩,
  .s ⟨(some 45), .mv (.t 1), []⟩,
  .s ⟨(some 46), .mv (.t 8), []⟩,
  .s ⟨(some 47), .cint .i64 (.t 46), []⟩,
  .s ⟨(some 48), .call 25 [(.c (.slice none 0 0)), (.t 47)], []⟩,
  .s ⟨(some 49), .call 41 [(.t 44), (.t 45), (.t 48)], []⟩,
  .s ⟨(some 50), .un .not (.t 49), []⟩])
 (.cond (.t 50) (.seq (.reg [.s ⟨(some 4), .mv (.c (.int .i64 0)), []⟩,
  .s ⟨(some 5), .mv (.c (.int .i64 0)), []⟩,
  .s ⟨(some 6), .mv (.c (.int .i64 5)), []⟩])
 .ret)
 .skip))
 (.seq (.reg [.s ⟨(some 51), .mv (.t 8), []⟩,
  .s ⟨(some 52), .cint .i64 (.t 51), []⟩,
  .s ⟨(some 53), .mv (.t 1), []⟩,
  .s ⟨(some 54), .mv (.t 7), []⟩,
  .s ⟨(some 55), .bin .add (.t 53) (.t 54), []⟩,
  .s ⟨(some 4), .mv (.t 52), []⟩,
  .s ⟨(some 5), .mv (.t 55), []⟩,
  .s ⟨(some 6), .mv (.c (.int .i64 0)), []⟩])
 .ret))))))))⟩
theorem s28 : slimF Try.prog Try.f28 = some a28.fn := by kernel_rfl
/-! theodolite/lines.pick -/
def a29 : XFun := ⟨23, [.t 4],
 (.seq (.reg [.s ⟨(some 4), .mv (.c (.slice none 0 0)), []⟩])
 (.seq (.reg [.s ⟨(some 5), .mv (.c (.slice none 0 0)), []⟩])
 (.seq (.seq (.reg [.s ⟨(some 8), .mv (.t 0), []⟩,
  .s ⟨(some 9), .lenL (.t 8), []⟩,
  .s ⟨(some 10), .mv (.c (.int .i64 0)), []⟩])
 (.block 0 (.loop (.seq (.reg [.s ⟨(some 11), .bin .lss (.t 10) (.t 9), []⟩])
 (.seq (.cond (.t 11) .skip
 (.exit 0))
 (.seq (.block 1 (.seq (.reg [.s ⟨(some 12), .idx 2 (.t 8) (.t 10), []⟩,
  .s ⟨(some 13), .load true 2 (.t 12), []⟩,
  .s ⟨(some 7), .alloc 42 [(.int .i64 0), (.int .i64 0)], []⟩,
  .s ⟨none, .store 2 (.t 7) (.t 13), []⟩])
 (.seq (.reg [.s ⟨(some 14), .mv (.t 1), []⟩,
  .s ⟨(some 15), .load true 2 (.t 7), []⟩,
  .s ⟨(some 16), .callv (.t 14) [(.t 15)], []⟩])
 (.cond (.t 16) (.reg [.s ⟨(some 17), .mv (.t 5), []⟩,
  .s ⟨(some 18), .load true 2 (.t 7), []⟩,
  .s ⟨(some 19), .bslice 42 1 [(.int .i64 0), (.int .i64 0)] [(0, 2, (.t 18))], []⟩,
  .s ⟨(some 20), .app 42 2 16 (.t 17) (.t 19), []⟩,
  .s ⟨(some 5), .mv (.t 20), []⟩])
 .skip))))
 (.reg [.s ⟨(some 21), .bin .add (.t 10) (.c (.int .i64 1)), []⟩,
  .s ⟨(some 10), .mv (.t 21), []⟩])))))))
 (.seq (.reg [.s ⟨(some 22), .mv (.t 5), []⟩,
  .s ⟨(some 4), .mv (.t 22), []⟩])
 .ret))))⟩
theorem s29 : slimF Try.prog Try.f29 = some a29.fn := by kernel_rfl
/-! theodolite/lines.At$1 -/
def a30 : XFun := ⟨8, [.t 3],
 (.seq (.reg [.s ⟨(some 2), .box 42 (.t 0), []⟩,
  .s ⟨(some 3), .mv (.c (.bool false)), []⟩])
 (.seq (.reg [.s ⟨(some 4), .faddr 0 (.t 2), []⟩,
  .s ⟨(some 5), .load false 1 (.t 4), []⟩,
  .s ⟨(some 6), .load false 1 (.t 1), []⟩,
  .s ⟨(some 7), .bin .eql (.t 5) (.t 6), []⟩,
  .s ⟨(some 3), .mv (.t 7), []⟩])
 .ret))⟩
theorem s30 : slimF Try.prog Try.f30 = some a30.fn := by kernel_rfl
/-! theodolite/lines.Pcs$1 -/
def a31 : XFun := ⟨8, [.t 3],
 (.seq (.reg [.s ⟨(some 2), .box 42 (.t 0), []⟩,
  .s ⟨(some 3), .mv (.c (.bool false)), []⟩])
 (.seq (.reg [.s ⟨(some 4), .faddr 1 (.t 2), []⟩,
  .s ⟨(some 5), .load false 1 (.t 4), []⟩,
  .s ⟨(some 6), .load false 1 (.t 1), []⟩,
  .s ⟨(some 7), .bin .eql (.t 5) (.t 6), []⟩,
  .s ⟨(some 3), .mv (.t 7), []⟩])
 .ret))⟩
theorem s31 : slimF Try.prog Try.f31 = some a31.fn := by kernel_rfl
/-! theodolite/leb.PutU -/
def a32 : XFun := ⟨23, [.t 4],
 (.seq (.reg [.s ⟨(some 4), .mv (.c (.slice none 0 0)), []⟩])
 (.seq (.reg [.s ⟨(some 6), .mv (.t 0), []⟩,
  .s ⟨(some 7), .call 42 [(.t 6)], []⟩,
  .s ⟨(some 5), .mv (.t 7), []⟩])
 (.seq (.block 0 (.loop (.seq (.seq (.reg [.s ⟨(some 8), .mv (.t 1), []⟩,
  .s ⟨(some 9), .bin .gtr (.t 8) (.c (.int .u64 127)), []⟩])
 (.cond (.t 9) .skip
 (.exit 0)))
 (.block 1 (.seq (.reg [.s ⟨(some 10), .mv (.t 5), []⟩,
  .s ⟨(some 11), .mv (.t 1), []⟩,
  .s ⟨(some 12), .cint .u8 (.t 11), []⟩,
  .s ⟨(some 13), .bin .or (.t 12) (.c (.int .u8 128)), []⟩,
  .s ⟨(some 14), .bslice 5 1 [(.int .u8 0)] [(0, 1, (.t 13))], []⟩,
  .s ⟨(some 15), .app 5 1 1 (.t 10) (.t 14), []⟩,
  .s ⟨(some 5), .mv (.t 15), []⟩])
 (.reg [.s ⟨(some 16), .mv (.t 1), []⟩,
  .s ⟨(some 17), .bin .shr (.t 16) (.c (.int .u64 7)), []⟩,
  .s ⟨(some 1), .mv (.t 17), []⟩]))))))
 (.seq (.reg [.s ⟨(some 18), .mv (.t 5), []⟩,
  .s ⟨(some 19), .mv (.t 1), []⟩,
  .s ⟨(some 20), .cint .u8 (.t 19), []⟩,
  .s ⟨(some 21), .bslice 5 1 [(.int .u8 0)] [(0, 1, (.t 20))], []⟩,
  .s ⟨(some 22), .app 5 1 1 (.t 18) (.t 21), []⟩,
  .s ⟨(some 4), .mv (.t 22), []⟩])
 .ret))))⟩
theorem s32 : slimF Try.prog Try.f32 = some a32.fn := by kernel_rfl
/-! theodolite/leb.PutS -/
def a33 : XFun := ⟨28, [.t 4],
 (.seq (.reg [.s ⟨(some 4), .mv (.c (.slice none 0 0)), []⟩])
 (.seq (.reg [.s ⟨(some 6), .mv (.t 0), []⟩,
  .s ⟨(some 7), .call 42 [(.t 6)], []⟩,
  .s ⟨(some 5), .mv (.t 7), []⟩])
 (.seq (.block 0 (.loop (.seq (.seq (.reg [.s ⟨(some 8), .mv (.t 1), []⟩,
  .s ⟨(some 9), .bin .gtr (.t 8) (.c (.int .i64 63)), []⟩,
  .s ⟨(some 10), .mv (.t 9), []⟩,
  .g 10 false [⟨(some 11), .mv (.t 1), []⟩,
   ⟨(some 12), .bin .lss (.t 11) (.c (.int .i64 (-64))), []⟩],
  .s ⟨(some 13), .pick (.t 10) (.c (.bool true)) (.t 12), []⟩])
 (.cond (.t 13) .skip
 (.exit 0)))
 (.block 1 (.seq (.reg [.s ⟨(some 14), .mv (.t 5), []⟩,
  .s ⟨(some 15), .mv (.t 1), []⟩,
  .s ⟨(some 16), .cint .u8 (.t 15), []⟩,
  .s ⟨(some 17), .bin .or (.t 16) (.c (.int .u8 128)), []⟩,
  .s ⟨(some 18), .bslice 5 1 [(.int .u8 0)] [(0, 1, (.t 17))], []⟩,
  .s ⟨(some 19), .app 5 1 1 (.t 14) (.t 18), []⟩,
  .s ⟨(some 5), .mv (.t 19), []⟩])
 (.reg [.s ⟨(some 20), .mv (.t 1), []⟩,
  .s ⟨(some 21), .bin .shr (.t 20) (.c (.int .u64 7)), []⟩,
  .s ⟨(some 1), .mv (.t 21), []⟩]))))))
 (.seq (.reg [.s ⟨(some 22), .mv (.t 5), []⟩,
  .s ⟨(some 23), .mv (.t 1), []⟩,
  .s ⟨(some 24), .cint .u8 (.t 23), []⟩,
  .s ⟨(some 25), .bin .and (.t 24) (.c (.int .u8 127)), []⟩,
  .s ⟨(some 26), .bslice 5 1 [(.int .u8 0)] [(0, 1, (.t 25))], []⟩,
  .s ⟨(some 27), .app 5 1 1 (.t 22) (.t 26), []⟩,
  .s ⟨(some 4), .mv (.t 27), []⟩])
 .ret))))⟩
theorem s33 : slimF Try.prog Try.f33 = some a33.fn := by kernel_rfl
/-! theodolite/theodoliteref02.fitsU -/
def a34 : XFun := ⟨16, [.t 4],
 (.seq (.reg [.s ⟨(some 4), .mv (.c (.bool false)), []⟩])
 (.seq (.reg [.s ⟨(some 5), .mv (.t 1), []⟩,
  .s ⟨(some 6), .bin .mul (.c (.int .i64 7)) (.t 5), []⟩,
  .s ⟨(some 7), .bin .geq (.t 6) (.c (.int .i64 64)), []⟩,
  .s ⟨(some 8), .mv (.t 7), []⟩,
  .g 8 false [⟨(some 9), .mv (.t 0), []⟩,
   ⟨(some 10), .mv (.t 1), []⟩,
   ⟨(some 11), .bin .mul (.c (.int .i64 7)) (.t 10), []⟩,
   ⟨(some 12), .cint .u64 (.t 11), []⟩,
   ⟨(some 13), .bin .shl (.c (.int .u64 1)) (.t 12), []⟩,
   ⟨(some 14), .bin .lss (.t 9) (.t 13), []⟩],
  .s ⟨(some 15), .pick (.t 8) (.c (.bool true)) (.t 14), []⟩,
  .s ⟨(some 4), .mv (.t 15), []⟩])
 .ret))⟩
theorem s34 : slimF Try.prog Try.f34 = some a34.fn := by kernel_rfl
/-! theodolite/theodoliteref02.digits -/
def a35 : XFun := ⟨38, [.t 8],
 (.seq (.reg [.s ⟨(some 8), .mv (.c (.slice none 0 0)), []⟩])
 (.seq (.reg [.s ⟨(some 12), .mv (.t 0), []⟩,
  .s ⟨(some 13), .call 43 [(.t 12)], []⟩,
  .s ⟨(some 9), .mv (.t 13), []⟩])
 (.seq (.seq (.reg [.s ⟨(some 10), .mv (.c (.int .i64 0)), []⟩])
 (.block 0 (.loop (.seq (.seq (.reg [.s ⟨(some 14), .mv (.t 10), []⟩,
  .s ⟨(some 15), .mv (.t 3), []⟩,
  .s ⟨(some 16), .bin .lss (.t 14) (.t 15), []⟩])
 (.cond (.t 16) .skip
 (.exit 0)))
 (.seq (.block 1 (.seq (.reg [.s ⟨(some 19), .mv (.t 1), []⟩,
  .s ⟨(some 20), .bin .rem (.t 19) (.c (.int .u64 128)), []⟩,
  .s ⟨(some 11), .mv (.t 20), []⟩])
 (.seq (.reg [.s ⟨(some 21), .mv (.t 1), []⟩,
  .s ⟨(some 22), .bin .quo (.t 21) (.c (.int .u64 128)), []⟩,
  .s ⟨(some 1), .mv (.t 22), []⟩])
 (.seq (.seq (.reg [.s ⟨(some 23), .mv (.t 2), []⟩])
 (.cond (.t 23) (.reg [.s ⟨(some 24), .mv (.t 1), []⟩,
  .s ⟨(some 25), .bin .or (.t 24) (.c (.int .u64 18302628885633695744)), []⟩,
  .s ⟨(some 1), .mv (.t 25), []⟩])
 .skip))
 (.seq (.seq (.reg [.s ⟨(some 26), .mv (.t 10), []⟩,
  .s ⟨(some 27), .mv (.t 3), []⟩,
  .s ⟨(some 28), .bin .sub (.t 27) (.c (.int .i64 1)), []⟩,
  .s ⟨(some 29), .bin .lss (.t 26) (.t 28), []⟩])
 (.cond (.t 29) (.reg [.s ⟨(some 30), .mv (.t 11), []⟩,
  .s ⟨(some 31), .bin .add (.t 30) (.c (.int .u64 128)), []⟩,
  .s ⟨(some 11), .mv (.t 31), []⟩])
 .skip))
 (.reg [.s ⟨(some 32), .mv (.t 9), []⟩,
  .s ⟨(some 33), .mv (.t 11), []⟩,
  .s ⟨(some 34), .cint .u8 (.t 33), []⟩,
  .s ⟨(some 35), .bslice 5 1 [(.int .u8 0)] [(0, 1, (.t 34))], []⟩,
  .s ⟨(some 36), .app 5 1 1 (.t 32) (.t 35), []⟩,
  .s ⟨(some 9), .mv (.t 36), []⟩]))))))
 (.reg [.s ⟨(some 17), .mv (.t 10), []⟩,
  .s ⟨(some 18), .bin .add (.t 17) (.c (.int .i64 1)), []⟩,
  .s ⟨(some 10), .mv (.t 18), []⟩]))))))
 (.seq (.reg [.s ⟨(some 37), .mv (.t 9), []⟩,
  .s ⟨(some 8), .mv (.t 37), []⟩])
 .ret))))⟩
theorem s35 : slimF Try.prog Try.f35 = some a35.fn := by kernel_rfl
/-! theodolite/theodoliteref02.fitsS -/
def a36 : XFun := ⟨26, [.t 4],
 (.seq (.reg [.s ⟨(some 4), .mv (.c (.bool false)), []⟩])
 (.seq (.seq (.reg [.s ⟨(some 5), .mv (.t 1), []⟩,
  .s ⟨(some 6), .bin .mul (.c (.int .i64 7)) (.t 5), []⟩,
  .s ⟨(some 7), .bin .sub (.t 6) (.c (.int .i64 1)), []⟩,
  .s ⟨(some 8), .bin .geq (.t 7) (.c (.int .i64 63)), []⟩])
 (.cond (.t 8) (.seq (.reg [.s ⟨(some 4), .mv (.c (.bool true)), []⟩])
 .ret)
 .skip))
 (.seq (.reg [.s ⟨(some 9), .mv (.t 0), []⟩,
  .s ⟨(some 10), .mv (.t 1), []⟩,
  .s ⟨(some 11), .bin .mul (.c (.int .i64 7)) (.t 10), []⟩,
  .s ⟨(some 12), .bin .sub (.t 11) (.c (.int .i64 1)), []⟩,
  .s ⟨(some 13), .cint .u64 (.t 12), []⟩,
  .s ⟨(some 14), .bin .shl (.c (.int .i64 1)) (.t 13), []⟩,
  .s ⟨(some 15), .un .neg (.t 14), []⟩,
  .s ⟨(some 16), .bin .geq (.t 9) (.t 15), []⟩,
  .s ⟨(some 17), .mv (.t 16), []⟩,
  .g 17 true [⟨(some 18), .mv (.t 0), []⟩,
   ⟨(some 19), .mv (.t 1), []⟩,
   ⟨(some 20), .bin .mul (.c (.int .i64 7)) (.t 19), []⟩,
   ⟨(some 21), .bin .sub (.t 20) (.c (.int .i64 1)), []⟩,
   ⟨(some 22), .cint .u64 (.t 21), []⟩,
   ⟨(some 23), .bin .shl (.c (.int .i64 1)) (.t 22), []⟩,
   ⟨(some 24), .bin .lss (.t 18) (.t 23), []⟩],
  .s ⟨(some 25), .pick (.t 17) (.t 24) (.c (.bool false)), []⟩,
  .s ⟨(some 4), .mv (.t 25), []⟩])
 .ret)))⟩
theorem s36 : slimF Try.prog Try.f36 = some a36.fn := by kernel_rfl
/-! theodolite/leb.U -/
def a37 : XFun := ⟨13, [.t 4, .t 5, .t 6],
 (.seq (.reg [.s ⟨(some 4), .mv (.c (.int .u64 0)), []⟩,
  .s ⟨(some 5), .mv (.c (.int .i64 0)), []⟩,
  .s ⟨(some 6), .mv (.c (.int .i64 0)), []⟩])
 (.seq (.reg [.s ⟨(some 7), .mv (.t 0), []⟩,
  .s ⟨(some 8), .mv (.t 1), []⟩,
  .s ⟨(some 9), .call 44 [(.t 7), (.t 8), (.fn 45), (.fn 32)], []⟩,
  .s ⟨(some 10), .ext 0 (.t 9), []⟩,
  .s ⟨(some 11), .ext 1 (.t 9), []⟩,
  .s ⟨(some 12), .ext 2 (.t 9), []⟩,
  .s ⟨(some 4), .mv (.t 10), []⟩,
  .s ⟨(some 5), .mv (.t 11), []⟩,
  .s ⟨(some 6), .mv (.t 12), []⟩])
 .ret))⟩
theorem s37 : slimF Try.prog Try.f37 = some a37.fn := by kernel_rfl
/-! theodolite/leb.S -/
def a38 : XFun := ⟨13, [.t 4, .t 5, .t 6],
 (.seq (.reg [.s ⟨(some 4), .mv (.c (.int .i64 0)), []⟩,
  .s ⟨(some 5), .mv (.c (.int .i64 0)), []⟩,
  .s ⟨(some 6), .mv (.c (.int .i64 0)), []⟩])
 (.seq (.reg [.s ⟨(some 7), .mv (.t 0), []⟩,
  .s ⟨(some 8), .mv (.t 1), []⟩,
  .s ⟨(some 9), .call 46 [(.t 7), (.t 8), (.fn 47), (.fn 33)], []⟩,
  .s ⟨(some 10), .ext 0 (.t 9), []⟩,
  .s ⟨(some 11), .ext 1 (.t 9), []⟩,
  .s ⟨(some 12), .ext 2 (.t 9), []⟩,
  .s ⟨(some 4), .mv (.t 10), []⟩,
  .s ⟨(some 5), .mv (.t 11), []⟩,
  .s ⟨(some 6), .mv (.t 12), []⟩])
 .ret))⟩
theorem s38 : slimF Try.prog Try.f38 = some a38.fn := by kernel_rfl
/-! theodolite/theodoliteref02.long -/
def a39 : XFun := ⟨27, [.t 4],
 (.seq (.reg [.s ⟨(some 4), .mv (.c (.int .i64 0)), []⟩])
 (.seq (.seq (.reg [.s ⟨(some 5), .mv (.c (.int .i64 0)), []⟩])
 (.block 0 (.loop (.seq (.seq (.reg [.s ⟨(some 6), .mv (.t 5), []⟩,
  .s ⟨(some 7), .bin .lss (.t 6) (.c (.int .i64 10)), []⟩,
  .s ⟨(some 8), .mv (.t 7), []⟩,
  .g 8 true [⟨(some 9), .mv (.t 1), []⟩,
   ⟨(some 10), .mv (.t 5), []⟩,
   ⟨(some 11), .bin .add (.t 9) (.t 10), []⟩,
   ⟨(some 12), .mv (.t 0), []⟩,
   ⟨(some 13), .lenL (.t 12), []⟩,
   ⟨(some 14), .bin .lss (.t 11) (.t 13), []⟩],
  .s ⟨(some 15), .pick (.t 8) (.t 14) (.c (.bool false)), []⟩])
 (.cond (.t 15) .skip
 (.exit 0)))
 (.seq (.block 1 (.seq (.reg [.s ⟨(some 18), .mv (.t 0), []⟩,
  .s ⟨(some 19), .mv (.t 1), []⟩,
  .s ⟨(some 20), .mv (.t 5), []⟩,
  .s ⟨(some 21), .bin .add (.t 19) (.t 20), []⟩,
  .s ⟨(some 22), .idx 1 (.t 18) (.t 21), []⟩,
  .s ⟨(some 23), .load false 1 (.t 22), []⟩,
  .s ⟨(some 24), .bin .lss (.t 23) (.c (.int .u8 128)), []⟩])
 (.cond (.t 24) (.seq (.reg [.s ⟨(some 25), .mv (.t 5), []⟩,
  .s ⟨(some 26), .bin .add (.t 25) (.c (.int .i64 1)), []⟩,
  .s ⟨(some 4), .mv (.t 26), []⟩])
 .ret)
 .skip)))
 (.reg [.s ⟨(some 16), .mv (.t 5), []⟩,
  .s ⟨(some 17), .bin .add (.t 16) (.c (.int .i64 1)), []⟩,
  .s ⟨(some 5), .mv (.t 17), []⟩]))))))
 (.seq (.reg [.s ⟨(some 4), .mv (.c (.int .i64 0)), []⟩])
 .ret)))⟩
theorem s39 : slimF Try.prog Try.f39 = some a39.fn := by kernel_rfl
/-! theodolite/theodoliteref02.sum -/
def a40 : XFun := ⟨27, [.t 6],
 (.seq (.reg [.s ⟨(some 6), .mv (.c (.int .u64 0)), []⟩])
 (.seq (.reg [.s ⟨(some 7), .mv (.c (.int .u64 0)), []⟩])
 (.seq (.seq (.reg [.s ⟨(some 9), .mv (.t 2), []⟩,
  .s ⟨(some 10), .bin .sub (.t 9) (.c (.int .i64 1)), []⟩,
  .s ⟨(some 8), .mv (.t 10), []⟩])
 (.block 0 (.loop (.seq (.seq (.reg [.s ⟨(some 11), .mv (.t 8), []⟩,
  .s ⟨(some 12), .bin .geq (.t 11) (.c (.int .i64 0)), []⟩])
 (.cond (.t 12) .skip
 (.exit 0)))
 (.seq (.block 1 (.reg [.s ⟨(some 15), .mv (.t 7), []⟩,
  .s ⟨(some 16), .bin .mul (.c (.int .u64 128)) (.t 15), []⟩,
  .s ⟨(some 17), .mv (.t 0), []⟩,
  .s ⟨(some 18), .mv (.t 1), []⟩,
  .s ⟨(some 19), .mv (.t 8), []⟩,
  .s ⟨(some 20), .bin .add (.t 18) (.t 19), []⟩,
  .s ⟨(some 21), .idx 1 (.t 17) (.t 20), []⟩,
  .s ⟨(some 22), .load false 1 (.t 21), []⟩,
  .s ⟨(some 23), .bin .rem (.t 22) (.c (.int .u8 128)), []⟩,
  .s ⟨(some 24), .cint .u64 (.t 23), []⟩,
  .s ⟨(some 25), .bin .add (.t 16) (.t 24), []⟩,
  .s ⟨(some 7), .mv (.t 25), []⟩]))
 (.reg [.s ⟨(some 13), .mv (.t 8), []⟩,
  .s ⟨(some 14), .bin .sub (.t 13) (.c (.int .i64 1)), []⟩,
  .s ⟨(some 8), .mv (.t 14), []⟩]))))))
 (.seq (.reg [.s ⟨(some 26), .mv (.t 7), []⟩,
  .s ⟨(some 6), .mv (.t 26), []⟩])
 .ret))))⟩
theorem s40 : slimF Try.prog Try.f40 = some a40.fn := by kernel_rfl
/-! theodolite/theodoliteref02.stands -/
def a41 : XFun := ⟨32, [.t 6],
 (.seq (.reg [.s ⟨(some 6), .mv (.c (.bool false)), []⟩])
 (.seq (.seq (.reg [.s ⟨(some 8), .mv (.t 2), []⟩,
  .s ⟨(some 9), .lenL (.t 8), []⟩,
  .s ⟨(some 10), .mv (.t 0), []⟩,
  .s ⟨(some 11), .lenL (.t 10), []⟩,
  .s ⟨(some 12), .mv (.t 1), []⟩,
  .s ⟨(some 13), .bin .sub (.t 11) (.t 12), []⟩,
  .s ⟨(some 14), .bin .gtr (.t 9) (.t 13), []⟩])
 (.cond (.t 14) (.seq (.reg [.s ⟨(some 6), .mv (.c (.bool false)), []⟩])
 .ret)
 .skip))
 (.seq (.seq (.reg [.s ⟨(some 7), .mv (.c (.int .i64 0)), []⟩])
 (.block 0 (.loop (.seq (.seq (.reg [.s ⟨(some 15), .mv (.t 7), []⟩,
  .s ⟨(some 16), .mv (.t 2), []⟩,
  .s ⟨(some 17), .lenL (.t 16), []⟩,
  .s ⟨(some 18), .bin .lss (.t 15) (.t 17), []⟩])
 (.cond (.t 18) .skip
 (.exit 0)))
 (.seq (.block 1 (.seq (.par [.s ⟨(some 21), .mv (.t 0), []⟩,
  .s ⟨(some 22), .mv (.t 1), []⟩,
  .s ⟨(some 23), .mv (.t 7), []⟩,
  .s ⟨(some 24), .bin .add (.t 22) (.t 23), []⟩,
  .s ⟨(some 25), .idx 1 (.t 21) (.t 24), []⟩,
  .s ⟨(some 26), .load false 1 (.t 25), []⟩,
  .s ⟨(some 27), .mv (.t 2), []⟩,
  .s ⟨(some 28), .mv (.t 7), []⟩,
  .s ⟨(some 29), .idx 1 (.t 27) (.t 28), []⟩,
  .s ⟨(some 30), .load false 1 (.t 29), []⟩,
  .s ⟨(some 31), .bin .neq (.t 26) (.t 30), []⟩])
 (.cond (.t 31) (.seq (.reg [.s ⟨(some 6), .mv (.c (.bool false)), []⟩])
 .ret)
 .skip)))
 (.reg [.s ⟨(some 19), .mv (.t 7), []⟩,
  .s ⟨(some 20), .bin .add (.t 19) (.c (.int .i64 1)), []⟩,
  .s ⟨(some 7), .mv (.t 20), []⟩]))))))
 (.seq (.reg [.s ⟨(some 6), .mv (.c (.bool true)), []⟩])
 .ret))))⟩
theorem s41 : slimF Try.prog Try.f41 = some a41.fn := by kernel_rfl
/-! slices.Clone[[]byte,byte] -/
def a42 : XFun := ⟨8, [.t 2],
 (.seq (.reg [.s ⟨(some 2), .mv (.c (.slice none 0 0)), []⟩])
 (.seq (.seq (.reg [.s ⟨(some 3), .mv (.t 0), []⟩,
  .s ⟨(some 4), .snil false (.t 3), []⟩])
 (.cond (.t 4) (.seq (.reg [.s ⟨(some 2), .mv (.c (.slice none 0 0)), []⟩])
 .ret)
 .skip))
 (.seq (.reg [.s ⟨(some 5), .bslice 5 0 [] [], []⟩,
  .s ⟨(some 6), .mv (.t 0), []⟩,
  .s ⟨(some 7), .app 5 1 1 (.t 5) (.t 6), []⟩,
  .s ⟨(some 2), .mv (.t 7), []⟩])
 .ret)))⟩
theorem s42 : slimF Try.prog Try.f42 = some a42.fn := by kernel_rfl
/-! theodolite/theodoliteref00.CopyBytes -/
def a43 : XFun := ⟨18, [.t 2],
 (.seq (.reg [.s ⟨(some 2), .mv (.c (.slice none 0 0)), []⟩])
 (.seq (.reg [.s ⟨(some 3), .mv (.c (.slice none 0 0)), []⟩])
 (.seq (.seq (.reg [.s ⟨(some 6), .mv (.t 0), []⟩,
  .s ⟨(some 7), .lenL (.t 6), []⟩,
  .s ⟨(some 8), .mv (.c (.int .i64 0)), []⟩])
 (.block 0 (.loop (.seq (.reg [.s ⟨(some 9), .bin .lss (.t 8) (.t 7), []⟩])
 (.seq (.cond (.t 9) .skip
 (.exit 0))
 (.seq (.block 1 (.seq (.reg [.s ⟨(some 10), .idx 1 (.t 6) (.t 8), []⟩,
  .s ⟨(some 11), .load false 1 (.t 10), []⟩,
  .s ⟨(some 5), .mv (.t 11), []⟩])
 (.reg [.s ⟨(some 12), .mv (.t 3), []⟩,
  .s ⟨(some 13), .mv (.t 5), []⟩,
  .s ⟨(some 14), .bslice 5 1 [(.int .u8 0)] [(0, 1, (.t 13))], []⟩,
  .s ⟨(some 15), .app 5 1 1 (.t 12) (.t 14), []⟩,
  .s ⟨(some 3), .mv (.t 15), []⟩])))
 (.reg [.s ⟨(some 16), .bin .add (.t 8) (.c (.int .i64 1)), []⟩,
  .s ⟨(some 8), .mv (.t 16), []⟩])))))))
 (.seq (.reg [.s ⟨(some 17), .mv (.t 3), []⟩,
  .s ⟨(some 2), .mv (.t 17), []⟩])
 .ret))))⟩
theorem s43 : slimF Try.prog Try.f43 = some a43.fn := by kernel_rfl
/-! theodolite/leb.read[uint64] -/
def a44 : XFun := ⟨52, [.t 8, .t 9, .t 10],
 (.seq (.reg [.s ⟨(some 8), .mv (.c (.int .u64 0)), []⟩,
  .s ⟨(some 9), .mv (.c (.int .i64 0)), []⟩,
  .s ⟨(some 10), .mv (.c (.int .i64 0)), []⟩])
 (.seq (.seq (.reg [.s ⟨(some 14), .mv (.t 1), []⟩,
  .s ⟨(some 15), .bin .lss (.t 14) (.c (.int .i64 0)), []⟩,
  .s ⟨(some 16), .mv (.t 15), []⟩,
  .g 16 false [⟨(some 17), .mv (.t 1), []⟩,
   ⟨(some 18), .mv (.t 0), []⟩,
   ⟨(some 19), .lenL (.t 18), []⟩,
   ⟨(some 20), .bin .gtr (.t 17) (.t 19), []⟩],
  .s ⟨(some 21), .pick (.t 16) (.c (.bool true)) (.t 20), []⟩])
 (.cond (.t 21) (.seq (.reg [.s ⟨(some 8), .mv (.c (.int .u64 0)), []⟩,
  .s ⟨(some 9), .mv (.c (.int .i64 0)), []⟩,
  .s ⟨(some 10), .mv (.c (.int .i64 1)), []⟩])
 .ret)
 .skip))
 (.seq (.reg [.s ⟨(some 23), .mv (.t 0), []⟩,
  .s ⟨(some 24), .mv (.t 1), []⟩,
  .s ⟨(some 25), .slc 1 (.t 23) (some (.t 24)) none none, []⟩,
  .s ⟨(some 26), .call 48 [(.t 25)], []⟩,
  .s ⟨(some 22), .mv (.t 26), []⟩,
  .s ⟨(some 27), .ext 0 (.t 22), []⟩,
  .s ⟨(some 28), .ext 1 (.t 22), []⟩,
  .s ⟨(some 11), .mv (.t 27), []⟩,
  .s ⟨(some 12), .mv (.t 28), []⟩])
 (.seq (.reg [.s ⟨(some 29), .mv (.t 2), []⟩,
  .s ⟨(some 30), .mv (.t 11), []⟩,
  .s ⟨(some 31), .mv (.t 12), []⟩,
  .s ⟨(some 32), .callv (.t 29) [(.t 30), (.t 31)], []⟩,
  .s ⟨(some 13), .mv (.t 32), []⟩])
 (.seq (.seq (.par [.s ⟨(some 33), .mv (.t 12), []⟩,
  .s ⟨(some 34), .bin .eql (.t 33) (.c (.int .i64 0)), []⟩,
  .s ⟨(some 35), .mv (.t 34), []⟩,
  .g 35 false [⟨(some 36), .mv (.t 3), []⟩,
   ⟨(some 37), .mv (.t 13), []⟩,
   ⟨(some 39), .mv (.t 0), []⟩,
   ⟨(some 40), .mv (.t 1), []⟩,
   ⟨(some 41), .mv (.t 1), []⟩,
   ⟨(some 42), .mv (.t 12), []⟩,
   ⟨(some 43), .bin .add (.t 41) (.t 42), []⟩,
   ⟨(some 44), .slc 1 (.t 39) (some (.t 40)) (some (.t 43)) none, []⟩,
   ⟨(some 38), .callv (.t 36) [(.c (.slice none 0 0)), (.t 37)], []⟩,
   ⟨(some 45), .call 49 [(.t 38), (.t 44)], []⟩,
   ⟨(some 46), .un .not (.t 45), []⟩],
  .s ⟨(some 47), .pick (.t 35) (.c (.bool true)) (.t 46), []⟩])
 (.cond (.t 47) (.seq (.reg [.s ⟨(some 8), .mv (.c (.int .u64 0)), []⟩,
  .s ⟨(some 9), .mv (.c (.int .i64 0)), []⟩,
  .s ⟨(some 10), .mv (.c (.int .i64 5)), []⟩])
 .ret)
 .skip))
 (.seq (.reg [.s ⟨(some 48), .mv (.t 13), []⟩,
  .s ⟨(some 49), .mv (.t 1), []⟩,
  .s ⟨(some 50), .mv (.t 12), []⟩,
  .s ⟨(some 51), .bin .add (.t 49) (.t 50), []⟩,
  .s ⟨(some 8), .mv (.t 48), []⟩,
  .s ⟨(some 9), .mv (.t 51), []⟩,
  .s ⟨(some 10), .mv (.c (.int .i64 0)), []⟩])
 .ret))))))⟩
theorem s44 : slimF Try.prog Try.f44 = some a44.fn := by kernel_rfl
/-! theodolite/leb.U$1 -/
def a45 : XFun := ⟨6, [.t 4],
 (.seq (.reg [.s ⟨(some 4), .mv (.c (.int .u64 0)), []⟩])
 (.seq (.reg [.s ⟨(some 5), .mv (.t 0), []⟩,
  .s ⟨(some 4), .mv (.t 5), []⟩])
 .ret))⟩
theorem s45 : slimF Try.prog Try.f45 = some a45.fn := by kernel_rfl
/-! theodolite/leb.read[int64] -/
def a46 : XFun := ⟨52, [.t 8, .t 9, .t 10],
 (.seq (.reg [.s ⟨(some 8), .mv (.c (.int .i64 0)), []⟩,
  .s ⟨(some 9), .mv (.c (.int .i64 0)), []⟩,
  .s ⟨(some 10), .mv (.c (.int .i64 0)), []⟩])
 (.seq (.seq (.reg [.s ⟨(some 14), .mv (.t 1), []⟩,
  .s ⟨(some 15), .bin .lss (.t 14) (.c (.int .i64 0)), []⟩,
  .s ⟨(some 16), .mv (.t 15), []⟩,
  .g 16 false [⟨(some 17), .mv (.t 1), []⟩,
   ⟨(some 18), .mv (.t 0), []⟩,
   ⟨(some 19), .lenL (.t 18), []⟩,
   ⟨(some 20), .bin .gtr (.t 17) (.t 19), []⟩],
  .s ⟨(some 21), .pick (.t 16) (.c (.bool true)) (.t 20), []⟩])
 (.cond (.t 21) (.seq (.reg [.s ⟨(some 8), .mv (.c (.int .i64 0)), []⟩,
  .s ⟨(some 9), .mv (.c (.int .i64 0)), []⟩,
  .s ⟨(some 10), .mv (.c (.int .i64 1)), []⟩])
 .ret)
 .skip))
 (.seq (.reg [.s ⟨(some 23), .mv (.t 0), []⟩,
  .s ⟨(some 24), .mv (.t 1), []⟩,
  .s ⟨(some 25), .slc 1 (.t 23) (some (.t 24)) none none, []⟩,
  .s ⟨(some 26), .call 48 [(.t 25)], []⟩,
  .s ⟨(some 22), .mv (.t 26), []⟩,
  .s ⟨(some 27), .ext 0 (.t 22), []⟩,
  .s ⟨(some 28), .ext 1 (.t 22), []⟩,
  .s ⟨(some 11), .mv (.t 27), []⟩,
  .s ⟨(some 12), .mv (.t 28), []⟩])
 (.seq (.reg [.s ⟨(some 29), .mv (.t 2), []⟩,
  .s ⟨(some 30), .mv (.t 11), []⟩,
  .s ⟨(some 31), .mv (.t 12), []⟩,
  .s ⟨(some 32), .callv (.t 29) [(.t 30), (.t 31)], []⟩,
  .s ⟨(some 13), .mv (.t 32), []⟩])
 (.seq (.seq (.par [.s ⟨(some 33), .mv (.t 12), []⟩,
  .s ⟨(some 34), .bin .eql (.t 33) (.c (.int .i64 0)), []⟩,
  .s ⟨(some 35), .mv (.t 34), []⟩,
  .g 35 false [⟨(some 36), .mv (.t 3), []⟩,
   ⟨(some 37), .mv (.t 13), []⟩,
   ⟨(some 39), .mv (.t 0), []⟩,
   ⟨(some 40), .mv (.t 1), []⟩,
   ⟨(some 41), .mv (.t 1), []⟩,
   ⟨(some 42), .mv (.t 12), []⟩,
   ⟨(some 43), .bin .add (.t 41) (.t 42), []⟩,
   ⟨(some 44), .slc 1 (.t 39) (some (.t 40)) (some (.t 43)) none, []⟩,
   ⟨(some 38), .callv (.t 36) [(.c (.slice none 0 0)), (.t 37)], []⟩,
   ⟨(some 45), .call 49 [(.t 38), (.t 44)], []⟩,
   ⟨(some 46), .un .not (.t 45), []⟩],
  .s ⟨(some 47), .pick (.t 35) (.c (.bool true)) (.t 46), []⟩])
 (.cond (.t 47) (.seq (.reg [.s ⟨(some 8), .mv (.c (.int .i64 0)), []⟩,
  .s ⟨(some 9), .mv (.c (.int .i64 0)), []⟩,
  .s ⟨(some 10), .mv (.c (.int .i64 5)), []⟩])
 .ret)
 .skip))
 (.seq (.reg [.s ⟨(some 48), .mv (.t 13), []⟩,
  .s ⟨(some 49), .mv (.t 1), []⟩,
  .s ⟨(some 50), .mv (.t 12), []⟩,
  .s ⟨(some 51), .bin .add (.t 49) (.t 50), []⟩,
  .s ⟨(some 8), .mv (.t 48), []⟩,
  .s ⟨(some 9), .mv (.t 51), []⟩,
  .s ⟨(some 10), .mv (.c (.int .i64 0)), []⟩])
 .ret))))))⟩
theorem s46 : slimF Try.prog Try.f46 = some a46.fn := by kernel_rfl
/-! theodolite/leb.S$1 -/
def a47 : XFun := ⟨16, [.t 4],
 (.seq (.reg [.s ⟨(some 4), .mv (.c (.int .i64 0)), []⟩])
 (.seq (.reg [.s ⟨(some 6), .mv (.t 1), []⟩,
  .s ⟨(some 7), .bin .mul (.c (.int .i64 7)) (.t 6), []⟩,
  .s ⟨(some 8), .bin .sub (.c (.int .i64 64)) (.t 7), []⟩,
  .s ⟨(some 9), .minmax true (.c (.int .i64 0)) [(.t 8)], []⟩,
  .s ⟨(some 5), .mv (.t 9), []⟩])
 (.seq (.reg [.s ⟨(some 10), .mv (.t 0), []⟩,
  .s ⟨(some 11), .mv (.t 5), []⟩,
  .s ⟨(some 12), .bin .shl (.t 10) (.t 11), []⟩,
  .s ⟨(some 13), .cint .i64 (.t 12), []⟩,
  .s ⟨(some 14), .mv (.t 5), []⟩,
  .s ⟨(some 15), .bin .shr (.t 13) (.t 14), []⟩,
  .s ⟨(some 4), .mv (.t 15), []⟩])
 .ret)))⟩
theorem s47 : slimF Try.prog Try.f47 = some a47.fn := by kernel_rfl
/-! theodolite/leb.digits -/
def a48 : XFun := ⟨31, [.t 2, .t 3],
 (.seq (.reg [.s ⟨(some 2), .mv (.c (.int .u64 0)), []⟩,
  .s ⟨(some 3), .mv (.c (.int .i64 0)), []⟩])
 (.seq (.seq (.reg [.s ⟨(some 5), .mv (.t 0), []⟩,
  .s ⟨(some 6), .lenL (.t 5), []⟩,
  .s ⟨(some 7), .minmax false (.t 6) [(.c (.int .i64 10))], []⟩,
  .s ⟨(some 8), .mv (.c (.int .i64 0)), []⟩])
 (.block 0 (.loop (.seq (.reg [.s ⟨(some 9), .bin .lss (.t 8) (.t 7), []⟩])
 (.seq (.cond (.t 9) .skip
 (.exit 0))
 (.seq (.block 1 (.seq (.reg [.s ⟨(some 10), .mv (.t 8), []⟩,
  .s ⟨(some 4), .mv (.t 10), []⟩])
 (.seq (.reg [.s ⟨(some 11), .mv (.t 2), []⟩,
  .s ⟨(some 12), .mv (.t 0), []⟩,
  .s ⟨(some 13), .mv (.t 4), []⟩,
  .s ⟨(some 14), .idx 1 (.t 12) (.t 13), []⟩,
  .s ⟨(some 15), .load false 1 (.t 14), []⟩,
  .s ⟨(some 16), .bin .and (.t 15) (.c (.int .u8 127)), []⟩,
  .s ⟨(some 17), .cint .u64 (.t 16), []⟩,
  .s ⟨(some 18), .mv (.t 4), []⟩,
  .s ⟨(some 19), .bin .mul (.c (.int .i64 7)) (.t 18), []⟩,
  .s ⟨(some 20), .bin .shl (.t 17) (.t 19), []⟩,
  .s ⟨(some 21), .bin .or (.t 11) (.t 20), []⟩,
  .s ⟨(some 2), .mv (.t 21), []⟩])
 (.seq (.reg [.s ⟨(some 22), .mv (.t 0), []⟩,
  .s ⟨(some 23), .mv (.t 4), []⟩,
  .s ⟨(some 24), .idx 1 (.t 22) (.t 23), []⟩,
  .s ⟨(some 25), .load false 1 (.t 24), []⟩,
  .s ⟨(some 26), .bin .lss (.t 25) (.c (.int .u8 128)), []⟩])
 (.cond (.t 26) (.seq (.reg [.s ⟨(some 27), .mv (.t 2), []⟩,
  .s ⟨(some 28), .mv (.t 4), []⟩,
  .s ⟨(some 29), .bin .add (.t 28) (.c (.int .i64 1)), []⟩,
  .s ⟨(some 2), .mv (.t 27), []⟩,
  .s ⟨(some 3), .mv (.t 29), []⟩])
 .ret)
 .skip)))))
 (.reg [.s ⟨(some 30), .bin .add (.t 8) (.c (.int .i64 1)), []⟩,
  .s ⟨(some 8), .mv (.t 30), []⟩])))))))
 (.seq (.reg [.s ⟨(some 2), .mv (.c (.int .u64 0)), []⟩,
  .s ⟨(some 3), .mv (.c (.int .i64 0)), []⟩])
 .ret)))⟩
theorem s48 : slimF Try.prog Try.f48 = some a48.fn := by kernel_rfl
/-! slices.Equal[[]byte,byte] -/
def a49 : XFun := ⟨26, [.t 4],
 (.seq (.reg [.s ⟨(some 4), .mv (.c (.bool false)), []⟩])
 (.seq (.seq (.reg [.s ⟨(some 6), .mv (.t 0), []⟩,
  .s ⟨(some 7), .lenL (.t 6), []⟩,
  .s ⟨(some 8), .mv (.t 1), []⟩,
  .s ⟨(some 9), .lenL (.t 8), []⟩,
  .s ⟨(some 10), .bin .neq (.t 7) (.t 9), []⟩])
 (.cond (.t 10) (.seq (.reg [.s ⟨(some 4), .mv (.c (.bool false)), []⟩])
 .ret)
 .skip))
 (.seq (.seq (.reg [.s ⟨(some 11), .mv (.t 0), []⟩,
  .s ⟨(some 12), .lenL (.t 11), []⟩,
  .s ⟨(some 13), .mv (.c (.int .i64 0)), []⟩])
 (.block 0 (.loop (.seq (.reg [.s ⟨(some 14), .bin .lss (.t 13) (.t 12), []⟩])
 (.seq (.cond (.t 14) .skip
 (.exit 0))
 (.seq (.block 1 (.seq (.reg [.s ⟨(some 15), .mv (.t 13), []⟩,
  .s ⟨(some 5), .mv (.t 15), []⟩])
 (.seq (.par [.s ⟨(some 16), .mv (.t 0), []⟩,
  .s ⟨(some 17), .mv (.t 5), []⟩,
  .s ⟨(some 18), .idx 1 (.t 16) (.t 17), []⟩,
  .s ⟨(some 19), .load false 1 (.t 18), []⟩,
  .s ⟨(some 20), .mv (.t 1), []⟩,
  .s ⟨(some 21), .mv (.t 5), []⟩,
  .s ⟨(some 22), .idx 1 (.t 20) (.t 21), []⟩,
  .s ⟨(some 23), .load false 1 (.t 22), []⟩,
  .s ⟨(some 24), .bin .neq (.t 19) (.t 23), []⟩])
 (.cond (.t 24) (.seq (.reg [.s ⟨(some 4), .mv (.c (.bool false)), []⟩])
 .ret)
 .skip))))
 (.reg [.s ⟨(some 25), .bin .add (.t 13) (.c (.int .i64 1)), []⟩,
  .s ⟨(some 13), .mv (.t 25), []⟩])))))))
 (.seq (.reg [.s ⟨(some 4), .mv (.c (.bool true)), []⟩])
 .ret))))⟩
theorem s49 : slimF Try.prog Try.f49 = some a49.fn := by kernel_rfl
end Go.Proofs.Ytglpbhkkkhmlpaa
