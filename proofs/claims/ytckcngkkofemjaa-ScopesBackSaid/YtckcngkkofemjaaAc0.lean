import Derived.Test.YtckcngkkofemjaaAd
import Derived.Test.YtckcngkkofemjaaProg
import Derived.KernelRfl
namespace Go.Proofs.Ytckcngkkofemjaa
open Go.Ab
set_option linter.unusedVariables false
set_option linter.unusedSimpArgs false
theorem hm : Try.prog.follows .mixedOrders = true := by kernel_rfl
def a3 : XFun := ⟨97, [.t 8],
 (.seq (.reg [.s ⟨(some 4), .box 25 (.t 0), []⟩,
  .s ⟨(some 8), .mv (.c (.bool false)), []⟩])
 (.seq (.seq (.reg [.s ⟨(some 19), .load true 2 (.t 4), []⟩,
  .s ⟨(some 20), .call 6 [(.t 19)], []⟩,
  .s ⟨(some 21), .mv (.t 20), []⟩,
  .g 21 false [⟨(some 22), .mv (.t 3), []⟩,
   ⟨(some 23), .lenS (.t 22), []⟩,
   ⟨(some 24), .bin .gtr (.t 23) (.c (.int .i64 1000)), []⟩],
  .s ⟨(some 25), .pick (.t 21) (.c (.bool true)) (.t 24), []⟩])
 (.cond (.t 25) (.seq (.reg [.s ⟨(some 26), .call 7 [], []⟩,
  .s ⟨(some 8), .mv (.t 26), []⟩])
 .ret)
 .skip))
 (.seq (.reg [.s ⟨(some 27), .faddr 0 (.t 4), []⟩,
  .s ⟨(some 28), .load false 1 (.t 27), []⟩,
  .s ⟨(some 29), .call 8 [(.t 28)], []⟩,
  .s ⟨(some 9), .mv (.t 29), []⟩])
 (.seq (.reg [.s ⟨(some 30), .faddr 1 (.t 4), []⟩,
  .s ⟨(some 31), .load false 1 (.t 30), []⟩,
  .s ⟨(some 32), .call 9 [(.t 31)], []⟩,
  .s ⟨(some 10), .mv (.t 32), []⟩])
 (.seq (.reg [.s ⟨(some 34), .mv (.t 9), []⟩,
  .s ⟨(some 35), .mv (.t 1), []⟩,
  .s ⟨(some 36), .call 10 [(.t 34), (.t 35)], []⟩,
  .s ⟨(some 33), .mv (.t 36), []⟩,
  .s ⟨(some 37), .ext 0 (.t 33), []⟩,
  .s ⟨(some 38), .ext 1 (.t 33), []⟩,
  .s ⟨(some 11), .mv (.t 37), []⟩,
  .s ⟨(some 12), .mv (.t 38), []⟩])
 (.seq (.reg [.s ⟨(some 40), .faddr 0 (.t 4), []⟩,
  .s ⟨(some 41), .load false 1 (.t 40), []⟩,
  .s ⟨(some 42), .mv (.t 1), []⟩,
  .s ⟨(some 43), .call 11 [(.t 41), (.t 42)], []⟩,
  .s ⟨(some 39), .mv (.t 43), []⟩,
  .s ⟨(some 44), .ext 0 (.t 39), []⟩,
  .s ⟨(some 45), .ext 1 (.t 39), []⟩,
  .s ⟨(some 13), .mv (.t 44), []⟩,
  .s ⟨(some 14), .mv (.t 45), []⟩])
 (.seq (.reg [.s ⟨(some 47), .mv (.t 9), []⟩,
  .s ⟨(some 48), .mv (.t 10), []⟩,
  .s ⟨(some 49), .mv (.t 2), []⟩,
  .s ⟨(some 50), .mv (.t 3), []⟩,
  .s ⟨(some 51), .call 12 [(.t 47), (.t 48), (.t 49), (.t 50)], []⟩,
  .s ⟨(some 46), .mv (.t 51), []⟩,
  .s ⟨(some 52), .ext 0 (.t 46), []⟩,
  .s ⟨(some 53), .ext 1 (.t 46), []⟩,
  .s ⟨(some 15), .mv (.t 52), []⟩,
  .s ⟨(some 16), .mv (.t 53), []⟩])
 (.seq (.reg [.s ⟨(some 55), .faddr 0 (.t 4), []⟩,
  .s ⟨(some 56), .load false 1 (.t 55), []⟩,
  .s ⟨(some 57), .faddr 1 (.t 4), []⟩,
  .s ⟨(some 58), .load false 1 (.t 57), []⟩,
  .s ⟨(some 59), .mv (.t 2), []⟩,
  .s ⟨(some 60), .mv (.t 3), []⟩,
  .s ⟨(some 61), .call 13 [(.t 56), (.t 58), (.t 59), (.t 60)], []⟩,
  .s ⟨(some 54), .mv (.t 61), []⟩,
  .s ⟨(some 62), .ext 0 (.t 54), []⟩,
  .s ⟨(some 63), .ext 1 (.t 54), []⟩,
  .s ⟨(some 17), .mv (.t 62), []⟩,
  .s ⟨(some 18), .mv (.t 63), []⟩])
 (.seq (.reg [.s ⟨(some 64), .mv (.t 11), []⟩,
  .s ⟨(some 65), .mv (.t 13), []⟩,
  .s ⟨(some 66), .bin .eql (.t 64) (.t 65), []⟩,
  .s ⟨(some 67), .mv (.t 66), []⟩,
  .g 67 true [⟨(some 68), .mv (.t 12), []⟩,
   ⟨(some 69), .mv (.t 14), []⟩,
   ⟨(some 70), .beq false (.t 68) (.t 69), []⟩],
  .s ⟨(some 71), .pick (.t 67) (.t 70) (.c (.bool false)), []⟩,
  .s ⟨(some 72), .mv (.t 71), []⟩,
  .g 72 true [⟨(some 73), .mv (.t 15), []⟩,
   ⟨(some 74), .mv (.t 17), []⟩,
   ⟨(some 75), .bin .eql (.t 73) (.t 74), []⟩],
  .s ⟨(some 76), .pick (.t 72) (.t 75) (.c (.bool false)), []⟩,
  .s ⟨(some 77), .mv (.t 76), []⟩,
  .g 77 true [⟨(some 78), .mv (.t 16), []⟩,
   ⟨(some 79), .mv (.t 18), []⟩,
   ⟨(some 80), .beq false (.t 78) (.t 79), []⟩],
  .s ⟨(some 81), .pick (.t 77) (.t 80) (.c (.bool false)), []⟩,
  .s ⟨(some 82), .mv (.t 81), []⟩,
  .g 82 true [⟨(some 83), .mv (.t 9), []⟩,
   ⟨(some 84), .faddr 0 (.t 4), []⟩,
   ⟨(some 85), .load false 1 (.t 84), []⟩,
   ⟨(some 86), .call 14 [(.t 83), (.t 85)], []⟩],
  .s ⟨(some 87), .pick (.t 82) (.t 86) (.c (.bool false)), []⟩,
  .s ⟨(some 88), .mv (.t 87), []⟩,
  .g 88 true [⟨(some 89), .mv (.t 10), []⟩,
   ⟨(some 90), .faddr 1 (.t 4), []⟩,
   ⟨(some 91), .load false 1 (.t 90), []⟩,
   ⟨(some 92), .call 15 [(.t 89), (.t 91)], []⟩],
  .s ⟨(some 93), .pick (.t 88) (.t 92) (.c (.bool false)), []⟩,
  .s ⟨(some 94), .mv (.t 93), []⟩,
  .g 94 true [⟨(some 95), .call 7 [], []⟩],
  .s ⟨(some 96), .pick (.t 94) (.t 95) (.c (.bool false)), []⟩,
  .s ⟨(some 8), .mv (.t 96), []⟩])
 .ret)))))))))⟩
theorem s3 : slimF Try.prog Try.f3 = some a3.fn := by kernel_rfl
def a4 : XFun := ⟨149, [.t 6],
 (.seq (.reg [.s ⟨(some 4), .box 25 (.t 1), []⟩,
  .s ⟨(some 6), .mv (.c (.bool false)), []⟩])
 (.seq (.seq (.reg [.s ⟨(some 20), .mv (.t 0), []⟩,
  .s ⟨(some 21), .lenL (.t 20), []⟩,
  .s ⟨(some 22), .bin .gtr (.t 21) (.c (.int .i64 1024)), []⟩,
  .s ⟨(some 23), .mv (.t 22), []⟩,
  .g 23 false [⟨(some 24), .mv (.t 2), []⟩,
   ⟨(some 25), .lenL (.t 24), []⟩,
   ⟨(some 26), .bin .gtr (.t 25) (.c (.int .i64 4096)), []⟩],
  .s ⟨(some 27), .pick (.t 23) (.c (.bool true)) (.t 26), []⟩,
  .s ⟨(some 28), .mv (.t 27), []⟩,
  .g 28 false [⟨(some 29), .load true 2 (.t 4), []⟩,
   ⟨(some 30), .call 6 [(.t 29)], []⟩],
  .s ⟨(some 31), .pick (.t 28) (.c (.bool true)) (.t 30), []⟩])
 (.cond (.t 31) (.seq (.reg [.s ⟨(some 32), .call 7 [], []⟩,
  .s ⟨(some 6), .mv (.t 32), []⟩])
 .ret)
 .skip))
 (.seq (.reg [.s ⟨(some 33), .mv (.t 0), []⟩,
  .s ⟨(some 34), .lenL (.t 33), []⟩,
  .s ⟨(some 7), .mv (.t 34), []⟩])
 (.seq (.par [.s ⟨(some 36), .mv (.t 0), []⟩,
  .s ⟨(some 37), .faddr 0 (.t 4), []⟩,
  .s ⟨(some 38), .load false 1 (.t 37), []⟩,
  .s ⟨(some 40), .faddr 1 (.t 4), []⟩,
  .s ⟨(some 41), .load false 1 (.t 40), []⟩,
  .s ⟨(some 39), .call 8 [(.t 38)], [⟨none, (some 41), .load false 1 (.t 40)⟩]⟩,
  .s ⟨(some 42), .call 9 [(.t 41)], []⟩,
  .s ⟨(some 43), .call 16 [(.t 36), (.t 39), (.t 42)], []⟩,
  .s ⟨(some 35), .mv (.t 43), []⟩,
  .s ⟨(some 44), .ext 0 (.t 35), []⟩,
  .s ⟨(some 45), .ext 1 (.t 35), []⟩,
  .s ⟨(some 8), .mv (.t 44), []⟩,
  .s ⟨(some 9), .mv (.t 45), []⟩])
 (.seq (.seq (.reg [.s ⟨(some 46), .mv (.t 9), []⟩,
  .s ⟨(some 47), .bin .eql (.t 46) (.c (.int .i64 0)), []⟩,
  .s ⟨(some 48), .faddr 0 (.t 4), []⟩,
  .s ⟨(some 49), .load false 1 (.t 48), []⟩,
  .s ⟨(some 50), .faddr 1 (.t 4), []⟩,
  .s ⟨(some 51), .load false 1 (.t 50), []⟩,
  .s ⟨(some 52), .call 17 [(.t 49), (.t 51)], []⟩,
  .s ⟨(some 53), .beq true (.t 47) (.t 52), []⟩])
 (.cond (.t 53) (.seq (.reg [.s ⟨(some 6), .mv (.c (.bool false)), []⟩])
 .ret)
 .skip))
 (.seq (.seq (.reg [.s ⟨(some 54), .mv (.t 9), []⟩,
  .s ⟨(some 55), .bin .eql (.t 54) (.c (.int .i64 0)), []⟩])
 (.cond (.t 55) (.seq (.reg [.s ⟨(some 57), .mv (.t 8), []⟩,
  .s ⟨(some 58), .call 19 [(.t 57)], []⟩,
  .s ⟨(some 59), .mv (.t 2), []⟩,
  .s ⟨(some 60), .app 5 1 1 (.t 58) (.t 59), []⟩,
  .s ⟨(some 61), .mv (.t 7), []⟩,
  .s ⟨(some 62), .call 18 [(.t 60), (.t 61)], []⟩,
  .s ⟨(some 56), .mv (.t 62), []⟩,
  .s ⟨(some 63), .ext 0 (.t 56), []⟩,
  .s ⟨(some 64), .ext 1 (.t 56), []⟩,
  .s ⟨(some 65), .ext 2 (.t 56), []⟩,
  .s ⟨(some 66), .ext 3 (.t 56), []⟩,
  .s ⟨(some 10), .mv (.t 63), []⟩,
  .s ⟨(some 11), .mv (.t 64), []⟩,
  .s ⟨(some 12), .mv (.t 65), []⟩,
  .s ⟨(some 13), .mv (.t 66), []⟩])
 (.seq (.reg [.s ⟨(some 67), .mv (.t 13), []⟩,
  .s ⟨(some 68), .bin .neq (.t 67) (.c (.int .i64 0)), []⟩,
  .s ⟨(some 69), .mv (.t 68), []⟩,
  .g 69 false [⟨(some 70), .mv (.t 12), []⟩,
   ⟨(some 71), .mv (.t 8), []⟩,
   ⟨(some 72), .lenL (.t 71), []⟩,
   ⟨(some 73), .bin .neq (.t 70) (.t 72), []⟩],
  .s ⟨(some 74), .pick (.t 69) (.c (.bool true)) (.t 73), []⟩,
  .s ⟨(some 75), .mv (.t 74), []⟩,
  .g 75 false [⟨(some 76), .mv (.t 10), []⟩,
   ⟨(some 77), .faddr 0 (.t 4), []⟩,
   ⟨(some 78), .load false 1 (.t 77), []⟩,
   ⟨(some 79), .call 14 [(.t 76), (.t 78)], []⟩,
   ⟨(some 80), .un .not (.t 79), []⟩],
  .s ⟨(some 81), .pick (.t 75) (.c (.bool true)) (.t 80), []⟩,
  .s ⟨(some 82), .mv (.t 81), []⟩,
  .g 82 false [⟨(some 83), .mv (.t 11), []⟩,
   ⟨(some 84), .faddr 1 (.t 4), []⟩,
   ⟨(some 85), .load false 1 (.t 84), []⟩,
   ⟨(some 86), .call 15 [(.t 83), (.t 85)], []⟩,
   ⟨(some 87), .un .not (.t 86), []⟩],
  .s ⟨(some 88), .pick (.t 82) (.c (.bool true)) (.t 87), []⟩])
 (.cond (.t 88) (.seq (.reg [.s ⟨(some 6), .mv (.c (.bool false)), []⟩])
 .ret)
 .skip)))
 (.seq (.reg [.s ⟨(some 89), .mv (.t 8), []⟩,
  .s ⟨(some 90), .lenL (.t 89), []⟩,
  .s ⟨(some 91), .bin .neq (.t 90) (.c (.int .i64 0)), []⟩])
 (.cond (.t 91) (.seq (.reg [.s ⟨(some 6), .mv (.c (.bool false)), []⟩])
 .ret)
 .skip))))
 (.seq (.reg [.s ⟨(some 93), .mv (.t 2), []⟩,
  .s ⟨(some 94), .call 18 [(.t 93), (.c (.int .i64 0))], []⟩,
  .s ⟨(some 92), .mv (.t 94), []⟩,
  .s ⟨(some 95), .ext 0 (.t 92), []⟩,
  .s ⟨(some 96), .ext 1 (.t 92), []⟩,
  .s ⟨(some 97), .ext 2 (.t 92), []⟩,
  .s ⟨(some 98), .ext 3 (.t 92), []⟩,
  .s ⟨(some 14), .mv (.t 95), []⟩,
  .s ⟨(some 15), .mv (.t 96), []⟩,
  .s ⟨(some 16), .mv (.t 97), []⟩,
  .s ⟨(some 17), .mv (.t 98), []⟩])
 (.seq (.seq (.reg [.s ⟨(some 99), .mv (.t 17), []⟩,
  .s ⟨(some 100), .bin .neq (.t 99) (.c (.int .i64 0)), []⟩])
 (.cond (.t 100) (.seq (.reg [.s ⟨(some 101), .mv (.t 14), []⟩,
  .s ⟨(some 102), .lenL (.t 101), []⟩,
  .s ⟨(some 103), .bin .eql (.t 102) (.c (.int .i64 0)), []⟩,
  .s ⟨(some 104), .mv (.t 103), []⟩,
  .g 104 true [⟨(some 105), .mv (.t 15), []⟩,
   ⟨(some 106), .lenL (.t 105), []⟩,
   ⟨(some 107), .bin .eql (.t 106) (.c (.int .i64 0)), []⟩],
  .s ⟨(some 108), .pick (.t 104) (.t 107) (.c (.bool false)), []⟩,
  .s ⟨(some 109), .mv (.t 108), []⟩,
  .g 109 true [⟨(some 110), .mv (.t 16), []⟩,
   ⟨(some 111), .bin .eql (.t 110) (.c (.int .i64 0)), []⟩],
  .s ⟨(some 112), .pick (.t 109) (.t 111) (.c (.bool false)), []⟩,
  .s ⟨(some 113), .mv (.t 112), []⟩,
  .g 113 true [⟨(some 114), .call 7 [], []⟩],
  .s ⟨(some 115), .pick (.t 113) (.t 114) (.c (.bool false)), []⟩,
  .s ⟨(some 6), .mv (.t 115), []⟩])
 .ret)
 .skip))
 (.seq (.reg [.s ⟨(some 117), .mv (.t 14), []⟩,
  .s ⟨(some 118), .mv (.t 15), []⟩,
  .s ⟨(some 119), .call 16 [(.c (.slice none 0 0)), (.t 117), (.t 118)], []⟩,
  .s ⟨(some 116), .mv (.t 119), []⟩,
  .s ⟨(some 120), .ext 0 (.t 116), []⟩,
  .s ⟨(some 121), .ext 1 (.t 116), []⟩,
  .s ⟨(some 18), .mv (.t 120), []⟩,
  .s ⟨(some 19), .mv (.t 121), []⟩])
 (.seq (.reg [.s ⟨(some 122), .mv (.t 14), []⟩,
  .s ⟨(some 123), .mv (.t 15), []⟩,
  .s ⟨(some 124), .call 17 [(.t 122), (.t 123)], []⟩,
  .s ⟨(some 125), .mv (.t 124), []⟩,
  .g 125 true [⟨(some 126), .mv (.t 19), []⟩,
   ⟨(some 127), .bin .eql (.t 126) (.c (.int .i64 0)), []⟩],
  .s ⟨(some 128), .pick (.t 125) (.t 127) (.c (.bool false)), []⟩,
  .s ⟨(some 129), .mv (.t 128), []⟩,
  .g 129 true [⟨(some 130), .mv (.t 16), []⟩,
   ⟨(some 131), .bin .geq (.t 130) (.c (.int .i64 2)), []⟩],
  .s ⟨(some 132), .pick (.t 129) (.t 131) (.c (.bool false)), []⟩,
  .s ⟨(some 133), .mv (.t 132), []⟩,
  .g 133 true [⟨(some 134), .mv (.t 16), []⟩,
   ⟨(some 135), .mv (.t 2), []⟩,
   ⟨(some 136), .lenL (.t 135), []⟩,
   ⟨(some 137), .bin .leq (.t 134) (.t 136), []⟩],
  .s ⟨(some 138), .pick (.t 133) (.t 137) (.c (.bool false)), []⟩,
  .s ⟨(some 139), .mv (.t 138), []⟩,
  .g 139 true [⟨(some 140), .mv (.t 18), []⟩,
   ⟨(some 141), .mv (.t 2), []⟩,
   ⟨(some 142), .mv (.t 16), []⟩,
   ⟨(some 143), .slc 1 (.t 141) none (some (.t 142)) none, []⟩,
   ⟨(some 144), .call 20 [(.t 140), (.t 143)], []⟩],
  .s ⟨(some 145), .pick (.t 139) (.t 144) (.c (.bool false)), []⟩,
  .s ⟨(some 146), .mv (.t 145), []⟩,
  .g 146 true [⟨(some 147), .call 7 [], []⟩],
  .s ⟨(some 148), .pick (.t 146) (.t 147) (.c (.bool false)), []⟩,
  .s ⟨(some 6), .mv (.t 148), []⟩])
 .ret))))))))))⟩
theorem s4 : slimF Try.prog Try.f4 = some a4.fn := by kernel_rfl
def a5 : XFun := ⟨210, [.t 4],
 (.seq (.reg [.s ⟨(some 2), .box 25 (.t 0), []⟩,
  .s ⟨(some 4), .mv (.c (.bool false)), []⟩])
 (.seq (.seq (.reg [.s ⟨(some 13), .load true 2 (.t 2), []⟩,
  .s ⟨(some 14), .call 6 [(.t 13)], []⟩,
  .s ⟨(some 15), .mv (.t 14), []⟩,
  .g 15 false [⟨(some 16), .faddr 0 (.t 2), []⟩,
   ⟨(some 17), .load false 1 (.t 16), []⟩,
   ⟨(some 18), .faddr 1 (.t 2), []⟩,
   ⟨(some 19), .load false 1 (.t 18), []⟩,
   ⟨(some 20), .call 17 [(.t 17), (.t 19)], []⟩,
   ⟨(some 21), .un .not (.t 20), []⟩],
  .s ⟨(some 22), .pick (.t 15) (.c (.bool true)) (.t 21), []⟩])
 (.cond (.t 22) (.seq (.reg [.s ⟨(some 23), .call 7 [], []⟩,
  .s ⟨(some 4), .mv (.t 23), []⟩])
 .ret)
 .skip))
 (.seq (.seq (.reg [.s ⟨(some 5), .mv (.c (.int .i64 0)), []⟩])
 (.block 0 (.loop (.seq (.seq (.reg [.s ⟨(some 24), .mv (.t 5), []⟩,
  .s ⟨(some 25), .bin .lss (.t 24) (.c (.int .i64 7)), []⟩])
 (.cond (.t 25) .skip
 (.exit 0)))
 (.seq (.block 1 (.seq (.reg [.s ⟨(some 28), .faddr 0 (.t 2), []⟩,
  .s ⟨(some 29), .load false 1 (.t 28), []⟩,
  .s ⟨(some 30), .call 8 [(.t 29)], []⟩,
  .s ⟨(some 6), .mv (.t 30), []⟩])
 (.seq (.reg [.s ⟨(some 31), .faddr 1 (.t 2), []⟩,
  .s ⟨(some 32), .load false 1 (.t 31), []⟩,
  .s ⟨(some 33), .call 9 [(.t 32)], []⟩,
  .s ⟨(some 7), .mv (.t 33), []⟩])
 (.seq (.seq (.reg [.s ⟨(some 34), .mv (.t 6), []⟩,
  .s ⟨(some 35), .lenL (.t 34), []⟩,
  .s ⟨(some 36), .bin .eql (.t 35) (.c (.int .i64 0)), []⟩,
  .s ⟨(some 37), .mv (.t 36), []⟩,
  .g 37 false [⟨(some 38), .mv (.t 7), []⟩,
   ⟨(some 39), .lenL (.t 38), []⟩,
   ⟨(some 40), .bin .eql (.t 39) (.c (.int .i64 0)), []⟩],
  .s ⟨(some 41), .pick (.t 37) (.c (.bool true)) (.t 40), []⟩])
 (.cond (.t 41) (.seq (.reg [.s ⟨(some 42), .call 7 [], []⟩,
  .s ⟨(some 4), .mv (.t 42), []⟩])
 .ret)
 .skip))
 (.seq (.reg [.s ⟨(some 43), .mv (.t 1), []⟩,
  .s ⟨(some 44), .cint .i64 (.t 43), []⟩,
  .s ⟨(some 45), .mv (.t 6), []⟩,
  .s ⟨(some 46), .lenL (.t 45), []⟩,
  .s ⟨(some 47), .bin .rem (.t 44) (.t 46), []⟩,
  .s ⟨(some 8), .mv (.t 47), []⟩])
 (.seq (.reg [.s ⟨(some 48), .mv (.t 1), []⟩,
  .s ⟨(some 49), .cint .i64 (.t 48), []⟩,
  .s ⟨(some 50), .mv (.t 7), []⟩,
  .s ⟨(some 51), .lenL (.t 50), []⟩,
  .s ⟨(some 52), .bin .rem (.t 49) (.t 51), []⟩,
  .s ⟨(some 9), .mv (.t 52), []⟩])
 (.seq (.reg [.s ⟨(some 53), .mv (.t 6), []⟩,
  .s ⟨(some 54), .mv (.t 8), []⟩,
  .s ⟨(some 55), .idx 5 (.t 53) (.t 54), []⟩,
  .s ⟨(some 56), .faddr 3 (.t 55), []⟩,
  .s ⟨(some 57), .load false 1 (.t 56), []⟩,
  .s ⟨(some 58), .lenL (.t 57), []⟩,
  .s ⟨(some 10), .mv (.t 58), []⟩])
 (.seq (.seq (.reg [.s ⟨(some 59), .mv (.t 5), []⟩])
 (.block 2 (.seq (.reg [.s ⟨(some 61), .bin .eql (.t 59) (.c (.int .i64 0)), []⟩,
  .s ⟨(some 60), .mv (.t 61), []⟩])
 (.cond (.t 60) (.seq (.seq (.reg [.s ⟨(some 62), .mv (.t 10), []⟩,
  .s ⟨(some 63), .bin .eql (.t 62) (.c (.int .i64 0)), []⟩])
 (.cond (.t 63) (.exit 1)
 .skip))
 (.par [.s ⟨(some 64), .mv (.t 6), []⟩,
  .s ⟨(some 65), .mv (.t 8), []⟩,
  .s ⟨(some 66), .idx 5 (.t 64) (.t 65), []⟩,
  .s ⟨(some 67), .faddr 4 (.t 66), []⟩,
  .s ⟨(some 68), .load false 1 (.t 67), []⟩,
  .s ⟨(some 69), .mv (.t 6), []⟩,
  .s ⟨(some 70), .mv (.t 8), []⟩,
  .s ⟨(some 71), .idx 5 (.t 69) (.t 70), []⟩,
  .s ⟨(some 72), .faddr 2 (.t 71), []⟩,
  .s ⟨(some 73), .load false 1 (.t 72), []⟩,
  .s ⟨(some 74), .bin .sub (.t 73) (.c (.int .i64 1)), []⟩,
  .s ⟨(some 75), .mv (.t 6), []⟩,
  .s ⟨(some 76), .mv (.t 8), []⟩,
  .s ⟨(some 77), .idx 5 (.t 75) (.t 76), []⟩,
  .s ⟨(some 78), .faddr 2 (.t 77), []⟩,
  .s ⟨(some 79), .load false 1 (.t 78), []⟩,
  .s ⟨(some 80), .bin .add (.t 79) (.c (.int .i64 1)), []⟩,
  .s ⟨(some 81), .build [(.int .u8 0), (.int .i64 0)] [(0, 1, (.c (.int .u8 1)))], []⟩,
  .s ⟨(some 82), .bslice 52 1 [(.int .u8 0), (.int .i64 0)] [(0, 2, (.t 81))], [⟨none, (some 79), .load false 1 (.t 78)⟩, ⟨none, (some 73), .load false 1 (.t 72)⟩, ⟨none, (some 68), .load false 1 (.t 67)⟩]⟩,
  .s ⟨(some 83), .build [(.int .i64 0), (.int .i64 0), (.slice none 0 0)] [(0, 1, (.t 74)), (1, 1, (.t 80)), (2, 1, (.t 82))], []⟩,
  .s ⟨(some 84), .bslice 55 1 [(.int .i64 0), (.int .i64 0), (.slice none 0 0)] [(0, 3, (.t 83))], [⟨none, (some 68), .load false 1 (.t 67)⟩]⟩,
  .s ⟨(some 85), .idx 1 (.t 68) (.c (.int .i64 0)), []⟩,
  .s ⟨none, .store 1 (.t 85) (.t 84), []⟩]))
 (.seq (.reg [.s ⟨(some 87), .bin .eql (.t 59) (.c (.int .i64 1)), []⟩,
  .s ⟨(some 86), .mv (.t 87), []⟩])
 (.cond (.t 86) (.par [.s ⟨(some 88), .mv (.t 7), []⟩,
  .s ⟨(some 89), .mv (.t 9), []⟩,
  .s ⟨(some 90), .mv (.t 7), []⟩,
  .s ⟨(some 91), .mv (.t 9), []⟩,
  .s ⟨(some 92), .idx 3 (.t 90) (.t 91), []⟩,
  .s ⟨(some 93), .faddr 2 (.t 92), []⟩,
  .s ⟨(some 94), .load false 1 (.t 93), []⟩,
  .s ⟨(some 95), .mv (.t 6), []⟩,
  .s ⟨(some 96), .mv (.t 7), []⟩,
  .s ⟨(some 97), .mv (.t 9), []⟩,
  .s ⟨(some 98), .idx 3 (.t 96) (.t 97), []⟩,
  .s ⟨(some 99), .faddr 0 (.t 98), []⟩,
  .s ⟨(some 100), .load false 1 (.t 99), []⟩,
  .s ⟨(some 101), .idx 5 (.t 95) (.t 100), []⟩,
  .s ⟨(some 102), .faddr 3 (.t 101), []⟩,
  .s ⟨(some 103), .load false 1 (.t 102), []⟩,
  .s ⟨(some 104), .lenL (.t 103), []⟩,
  .s ⟨(some 105), .bslice 3 1 [(.int .i64 0)] [(0, 1, (.t 104))], [⟨none, (some 94), .load false 1 (.t 93)⟩]⟩,
  .s ⟨(some 106), .app 3 1 8 (.t 94) (.t 105), []⟩,
  .s ⟨(some 107), .idx 3 (.t 88) (.t 89), []⟩,
  .s ⟨(some 108), .faddr 2 (.t 107), []⟩,
  .s ⟨none, .store 1 (.t 108) (.t 106), []⟩])
 (.seq (.reg [.s ⟨(some 110), .bin .eql (.t 59) (.c (.int .i64 2)), []⟩,
  .s ⟨(some 109), .mv (.t 110), []⟩])
 (.cond (.t 109) (.seq (.seq (.reg [.s ⟨(some 111), .mv (.t 7), []⟩,
  .s ⟨(some 112), .mv (.t 9), []⟩,
  .s ⟨(some 113), .idx 3 (.t 111) (.t 112), []⟩,
  .s ⟨(some 114), .faddr 2 (.t 113), []⟩,
  .s ⟨(some 115), .load false 1 (.t 114), []⟩,
  .s ⟨(some 116), .lenL (.t 115), []⟩,
  .s ⟨(some 117), .bin .eql (.t 116) (.c (.int .i64 0)), []⟩])
 (.cond (.t 117) (.exit 1)
 .skip))
 (.par [.s ⟨(some 118), .mv (.t 7), []⟩,
  .s ⟨(some 119), .mv (.t 9), []⟩,
  .s ⟨(some 120), .mv (.t 7), []⟩,
  .s ⟨(some 121), .mv (.t 9), []⟩,
  .s ⟨(some 122), .idx 3 (.t 120) (.t 121), []⟩,
  .s ⟨(some 123), .faddr 2 (.t 122), []⟩,
  .s ⟨(some 124), .load false 1 (.t 123), []⟩,
  .s ⟨(some 125), .mv (.t 7), []⟩,
  .s ⟨(some 126), .mv (.t 9), []⟩,
  .s ⟨(some 127), .idx 3 (.t 125) (.t 126), []⟩,
  .s ⟨(some 128), .faddr 2 (.t 127), []⟩,
  .s ⟨(some 129), .load false 1 (.t 128), []⟩,
  .s ⟨(some 130), .mv (.t 7), []⟩,
  .s ⟨(some 131), .mv (.t 9), []⟩,
  .s ⟨(some 132), .idx 3 (.t 130) (.t 131), []⟩,
  .s ⟨(some 133), .faddr 2 (.t 132), []⟩,
  .s ⟨(some 134), .load false 1 (.t 133), []⟩,
  .s ⟨(some 135), .lenL (.t 134), []⟩,
  .s ⟨(some 136), .bin .sub (.t 135) (.c (.int .i64 1)), []⟩,
  .s ⟨(some 137), .idx 1 (.t 129) (.t 136), []⟩,
  .s ⟨(some 138), .load false 1 (.t 137), []⟩,
  .s ⟨(some 139), .bslice 3 1 [(.int .i64 0)] [(0, 1, (.t 138))], [⟨none, (some 124), .load false 1 (.t 123)⟩]⟩,
  .s ⟨(some 140), .app 3 1 8 (.t 124) (.t 139), []⟩,
  .s ⟨(some 141), .idx 3 (.t 118) (.t 119), []⟩,
  .s ⟨(some 142), .faddr 2 (.t 141), []⟩,
  .s ⟨none, .store 1 (.t 142) (.t 140), []⟩]))
 (.seq (.reg [.s ⟨(some 144), .bin .eql (.t 59) (.c (.int .i64 3)), []⟩,
  .s ⟨(some 143), .mv (.t 144), []⟩])
 (.cond (.t 143) (.reg [.s ⟨(some 145), .mv (.t 7), []⟩,
  .s ⟨(some 146), .mv (.t 9), []⟩,
  .s ⟨(some 147), .mv (.t 6), []⟩,
  .s ⟨(some 148), .lenL (.t 147), []⟩,
  .s ⟨(some 149), .idx 3 (.t 145) (.t 146), []⟩,
  .s ⟨(some 150), .faddr 0 (.t 149), []⟩,
  .s ⟨none, .store 1 (.t 150) (.t 148), []⟩])
 (.seq (.reg [.s ⟨(some 152), .bin .eql (.t 59) (.c (.int .i64 4)), []⟩,
  .s ⟨(some 151), .mv (.t 152), []⟩])
 (.cond (.t 151) (.reg [.s ⟨(some 153), .mv (.t 6), []⟩,
  .s ⟨(some 154), .mv (.t 8), []⟩,
  .s ⟨(some 155), .mv (.t 6), []⟩,
  .s ⟨(some 156), .mv (.t 8), []⟩,
  .s ⟨(some 157), .idx 5 (.t 155) (.t 156), []⟩,
  .s ⟨(some 158), .faddr 0 (.t 157), []⟩,
  .s ⟨(some 159), .load false 1 (.t 158), []⟩,
  .s ⟨(some 160), .bin .add (.t 159) (.c (.string ⟨#[45]⟩)), []⟩,
  .s ⟨(some 161), .idx 5 (.t 153) (.t 154), []⟩,
  .s ⟨(some 162), .faddr 0 (.t 161), []⟩,
  .s ⟨none, .store 1 (.t 162) (.t 160), []⟩])
 (.seq (.reg [.s ⟨(some 164), .bin .eql (.t 59) (.c (.int .i64 5)), []⟩,
  .s ⟨(some 163), .mv (.t 164), []⟩])
 (.cond (.t 163) (.seq (.seq (.reg [.s ⟨(some 165), .mv (.t 10), []⟩,
  .s ⟨(some 166), .bin .eql (.t 165) (.c (.int .i64 0)), []⟩])
 (.cond (.t 166) (.exit 1)
 .skip))
 (.reg [.s ⟨(some 167), .mv (.t 6), []⟩,
  .s ⟨(some 168), .mv (.t 8), []⟩,
  .s ⟨(some 169), .idx 5 (.t 167) (.t 168), []⟩,
  .s ⟨(some 170), .faddr 3 (.t 169), []⟩,
  .s ⟨(some 171), .load false 1 (.t 170), []⟩,
  .s ⟨(some 172), .idx 6 (.t 171) (.c (.int .i64 0)), []⟩,
  .s ⟨(some 173), .faddr 4 (.t 172), []⟩,
  .s ⟨(some 174), .load false 1 (.t 173), []⟩,
  .s ⟨(some 175), .bin .add (.t 174) (.c (.int .i64 1)), []⟩,
  .s ⟨(some 176), .idx 6 (.t 171) (.c (.int .i64 0)), []⟩,
  .s ⟨(some 177), .faddr 4 (.t 176), []⟩,
  .s ⟨none, .store 1 (.t 177) (.t 175), []⟩]))
 (.seq (.reg [.s ⟨(some 179), .bin .eql (.t 59) (.c (.int .i64 6)), []⟩,
  .s ⟨(some 178), .mv (.t 179), []⟩])
 (.cond (.t 178) (.reg [.s ⟨(some 180), .mv (.t 6), []⟩,
  .s ⟨(some 181), .mv (.t 8), []⟩,
  .s ⟨(some 182), .mv (.t 6), []⟩,
  .s ⟨(some 183), .mv (.t 8), []⟩,
  .s ⟨(some 184), .idx 5 (.t 182) (.t 183), []⟩,
  .s ⟨(some 185), .faddr 4 (.t 184), []⟩,
  .s ⟨(some 186), .load false 1 (.t 185), []⟩,
  .s ⟨(some 187), .bslice 56 1 [(.slice none 0 0)] [(0, 1, (.c (.slice none 0 0)))], []⟩,
  .s ⟨(some 188), .app 56 1 24 (.t 186) (.t 187), []⟩,
  .s ⟨(some 189), .idx 5 (.t 180) (.t 181), []⟩,
  .s ⟨(some 190), .faddr 4 (.t 189), []⟩,
  .s ⟨none, .store 1 (.t 190) (.t 188), []⟩])
 .skip))))))))))))))))
 (.seq (.reg [.s ⟨(some 192), .mv (.t 6), []⟩,
  .s ⟨(some 193), .mv (.t 7), []⟩,
  .s ⟨(some 194), .call 16 [(.c (.slice none 0 0)), (.t 192), (.t 193)], []⟩,
  .s ⟨(some 191), .mv (.t 194), []⟩,
  .s ⟨(some 195), .ext 0 (.t 191), []⟩,
  .s ⟨(some 196), .ext 1 (.t 191), []⟩,
  .s ⟨(some 11), .mv (.t 195), []⟩,
  .s ⟨(some 12), .mv (.t 196), []⟩])
 (.seq (.reg [.s ⟨(some 197), .mv (.t 6), []⟩,
  .s ⟨(some 198), .mv (.t 7), []⟩,
  .s ⟨(some 199), .call 17 [(.t 197), (.t 198)], []⟩,
  .s ⟨(some 200), .mv (.t 199), []⟩,
  .g 200 false [⟨(some 201), .mv (.t 12), []⟩,
   ⟨(some 202), .bin .neq (.t 201) (.c (.int .i64 1)), []⟩],
  .s ⟨(some 203), .pick (.t 200) (.c (.bool true)) (.t 202), []⟩,
  .s ⟨(some 204), .mv (.t 203), []⟩,
  .g 204 false [⟨(some 205), .mv (.t 11), []⟩,
   ⟨(some 206), .lenL (.t 205), []⟩,
   ⟨(some 207), .bin .neq (.t 206) (.c (.int .i64 0)), []⟩],
  .s ⟨(some 208), .pick (.t 204) (.c (.bool true)) (.t 207), []⟩])
 (.cond (.t 208) (.seq (.reg [.s ⟨(some 4), .mv (.c (.bool false)), []⟩])
 .ret)
 .skip)))))))))))
 (.reg [.s ⟨(some 26), .mv (.t 5), []⟩,
  .s ⟨(some 27), .bin .add (.t 26) (.c (.int .i64 1)), []⟩,
  .s ⟨(some 5), .mv (.t 27), []⟩]))))))
 (.seq (.reg [.s ⟨(some 209), .call 7 [], []⟩,
  .s ⟨(some 4), .mv (.t 209), []⟩])
 .ret))))⟩
def a6 : XFun := ⟨155, [.t 2],
 (.seq (.reg [.s ⟨(some 1), .box 25 (.t 0), []⟩,
  .s ⟨(some 2), .mv (.c (.bool false)), []⟩])
 (.seq (.seq (.reg [.s ⟨(some 10), .faddr 0 (.t 1), []⟩,
  .s ⟨(some 11), .load false 1 (.t 10), []⟩,
  .s ⟨(some 12), .lenL (.t 11), []⟩,
  .s ⟨(some 13), .bin .gtr (.t 12) (.c (.int .i64 100)), []⟩,
  .s ⟨(some 14), .mv (.t 13), []⟩,
  .g 14 false [⟨(some 15), .faddr 1 (.t 1), []⟩,
   ⟨(some 16), .load false 1 (.t 15), []⟩,
   ⟨(some 17), .lenL (.t 16), []⟩,
   ⟨(some 18), .bin .gtr (.t 17) (.c (.int .i64 1100)), []⟩],
  .s ⟨(some 19), .pick (.t 14) (.c (.bool true)) (.t 18), []⟩])
 (.cond (.t 19) (.seq (.reg [.s ⟨(some 2), .mv (.c (.bool true)), []⟩])
 .ret)
 .skip))
 (.seq (.reg [.s ⟨(some 3), .mv (.c (.int .i64 0)), []⟩])
 (.seq (.seq (.reg [.s ⟨(some 4), .mv (.c (.int .i64 0)), []⟩])
 (.block 0 (.loop (.seq (.seq (.reg [.s ⟨(some 20), .mv (.t 4), []⟩,
  .s ⟨(some 21), .faddr 0 (.t 1), []⟩,
  .s ⟨(some 22), .load false 1 (.t 21), []⟩,
  .s ⟨(some 23), .lenL (.t 22), []⟩,
  .s ⟨(some 24), .bin .lss (.t 20) (.t 23), []⟩])
 (.cond (.t 24) .skip
 (.exit 0)))
 (.seq (.block 1 (.seq (.reg [.s ⟨(some 27), .faddr 0 (.t 1), []⟩,
  .s ⟨(some 28), .load false 1 (.t 27), []⟩,
  .s ⟨(some 29), .mv (.t 4), []⟩,
  .s ⟨(some 30), .idx 5 (.t 28) (.t 29), []⟩,
  .s ⟨(some 31), .load true 5 (.t 30), []⟩,
  .s ⟨(some 5), .alloc 50 [(.string ⟨#[]⟩), (.int .i64 0), (.int .i64 0), (.slice none 0 0), (.slice none 0 0)], []⟩,
  .s ⟨none, .store 5 (.t 5) (.t 31), []⟩])
 (.seq (.seq (.reg [.s ⟨(some 32), .faddr 0 (.t 5), []⟩,
  .s ⟨(some 33), .load false 1 (.t 32), []⟩,
  .s ⟨(some 34), .lenS (.t 33), []⟩,
  .s ⟨(some 35), .bin .gtr (.t 34) (.c (.int .i64 1000)), []⟩,
  .s ⟨(some 36), .mv (.t 35), []⟩,
  .g 36 false [⟨(some 37), .faddr 3 (.t 5), []⟩,
   ⟨(some 38), .load false 1 (.t 37), []⟩,
   ⟨(some 39), .lenL (.t 38), []⟩,
   ⟨(some 40), .bin .gtr (.t 39) (.c (.int .i64 100)), []⟩],
  .s ⟨(some 41), .pick (.t 36) (.c (.bool true)) (.t 40), []⟩,
  .s ⟨(some 42), .mv (.t 41), []⟩,
  .g 42 false [⟨(some 43), .faddr 4 (.t 5), []⟩,
   ⟨(some 44), .load false 1 (.t 43), []⟩,
   ⟨(some 45), .lenL (.t 44), []⟩,
   ⟨(some 46), .bin .gtr (.t 45) (.c (.int .i64 100)), []⟩],
  .s ⟨(some 47), .pick (.t 42) (.c (.bool true)) (.t 46), []⟩])
 (.cond (.t 47) (.seq (.reg [.s ⟨(some 2), .mv (.c (.bool true)), []⟩])
 .ret)
 .skip))
 (.seq (.seq (.reg [.s ⟨(some 6), .mv (.c (.int .i64 0)), []⟩])
 (.block 2 (.loop (.seq (.seq (.reg [.s ⟨(some 48), .mv (.t 6), []⟩,
  .s ⟨(some 49), .faddr 3 (.t 5), []⟩,
  .s ⟨(some 50), .load false 1 (.t 49), []⟩,
  .s ⟨(some 51), .lenL (.t 50), []⟩,
  .s ⟨(some 52), .bin .lss (.t 48) (.t 51), []⟩])
 (.cond (.t 52) .skip
 (.exit 2)))
 (.seq (.block 3 (.seq (.reg [.s ⟨(some 55), .mv (.t 3), []⟩,
  .s ⟨(some 56), .faddr 3 (.t 5), []⟩,
  .s ⟨(some 57), .load false 1 (.t 56), []⟩,
  .s ⟨(some 58), .mv (.t 6), []⟩,
  .s ⟨(some 59), .idx 6 (.t 57) (.t 58), []⟩,
  .s ⟨(some 60), .faddr 5 (.t 59), []⟩,
  .s ⟨(some 61), .load false 1 (.t 60), []⟩,
  .s ⟨(some 62), .lenL (.t 61), []⟩,
  .s ⟨(some 63), .minmax false (.t 62) [(.c (.int .i64 32768))], []⟩,
  .s ⟨(some 64), .bin .add (.t 55) (.t 63), []⟩,
  .s ⟨(some 3), .mv (.t 64), []⟩])
 (.seq (.seq (.reg [.s ⟨(some 65), .faddr 3 (.t 5), []⟩,
  .s ⟨(some 66), .load false 1 (.t 65), []⟩,
  .s ⟨(some 67), .mv (.t 6), []⟩,
  .s ⟨(some 68), .idx 6 (.t 66) (.t 67), []⟩,
  .s ⟨(some 69), .faddr 0 (.t 68), []⟩,
  .s ⟨(some 70), .load false 1 (.t 69), []⟩,
  .s ⟨(some 71), .lenS (.t 70), []⟩,
  .s ⟨(some 72), .bin .gtr (.t 71) (.c (.int .i64 1000)), []⟩,
  .s ⟨(some 73), .mv (.t 72), []⟩,
  .g 73 false [⟨(some 74), .faddr 3 (.t 5), []⟩,
   ⟨(some 75), .load false 1 (.t 74), []⟩,
   ⟨(some 76), .mv (.t 6), []⟩,
   ⟨(some 77), .idx 6 (.t 75) (.t 76), []⟩,
   ⟨(some 78), .faddr 1 (.t 77), []⟩,
   ⟨(some 79), .faddr 2 (.t 78), []⟩,
   ⟨(some 80), .load false 1 (.t 79), []⟩,
   ⟨(some 81), .lenS (.t 80), []⟩,
   ⟨(some 82), .bin .gtr (.t 81) (.c (.int .i64 1000)), []⟩],
  .s ⟨(some 83), .pick (.t 73) (.c (.bool true)) (.t 82), []⟩,
  .s ⟨(some 84), .mv (.t 83), []⟩,
  .g 84 false [⟨(some 85), .mv (.t 3), []⟩,
   ⟨(some 86), .bin .gtr (.t 85) (.c (.int .i64 2000)), []⟩],
  .s ⟨(some 87), .pick (.t 84) (.c (.bool true)) (.t 86), []⟩])
 (.cond (.t 87) (.seq (.reg [.s ⟨(some 2), .mv (.c (.bool true)), []⟩])
 .ret)
 .skip))
 (.seq (.reg [.s ⟨(some 7), .mv (.c (.int .i64 0)), []⟩])
 (.block 4 (.loop (.seq (.seq (.reg [.s ⟨(some 88), .mv (.t 7), []⟩,
  .s ⟨(some 89), .faddr 3 (.t 5), []⟩,
  .s ⟨(some 90), .load false 1 (.t 89), []⟩,
  .s ⟨(some 91), .mv (.t 6), []⟩,
  .s ⟨(some 92), .idx 6 (.t 90) (.t 91), []⟩,
  .s ⟨(some 93), .faddr 5 (.t 92), []⟩,
  .s ⟨(some 94), .load false 1 (.t 93), []⟩,
  .s ⟨(some 95), .lenL (.t 94), []⟩,
  .s ⟨(some 96), .bin .lss (.t 88) (.t 95), []⟩])
 (.cond (.t 96) .skip
 (.exit 4)))
 (.seq (.block 5 (.seq (.reg [.s ⟨(some 99), .faddr 3 (.t 5), []⟩,
  .s ⟨(some 100), .load false 1 (.t 99), []⟩,
  .s ⟨(some 101), .mv (.t 6), []⟩,
  .s ⟨(some 102), .idx 6 (.t 100) (.t 101), []⟩,
  .s ⟨(some 103), .faddr 5 (.t 102), []⟩,
  .s ⟨(some 104), .load false 1 (.t 103), []⟩,
  .s ⟨(some 105), .mv (.t 7), []⟩,
  .s ⟨(some 106), .idx 1 (.t 104) (.t 105), []⟩,
  .s ⟨(some 107), .load false 1 (.t 106), []⟩,
  .s ⟨(some 108), .lenS (.t 107), []⟩,
  .s ⟨(some 109), .bin .gtr (.t 108) (.c (.int .i64 1000)), []⟩])
 (.cond (.t 109) (.seq (.reg [.s ⟨(some 2), .mv (.c (.bool true)), []⟩])
 .ret)
 .skip)))
 (.reg [.s ⟨(some 97), .mv (.t 7), []⟩,
  .s ⟨(some 98), .bin .add (.t 97) (.c (.int .i64 1)), []⟩,
  .s ⟨(some 7), .mv (.t 98), []⟩])))))))))
 (.reg [.s ⟨(some 53), .mv (.t 6), []⟩,
  .s ⟨(some 54), .bin .add (.t 53) (.c (.int .i64 1)), []⟩,
  .s ⟨(some 6), .mv (.t 54), []⟩]))))))
 (.seq (.reg [.s ⟨(some 8), .mv (.c (.int .i64 0)), []⟩])
 (.block 6 (.loop (.seq (.seq (.reg [.s ⟨(some 110), .mv (.t 8), []⟩,
  .s ⟨(some 111), .faddr 4 (.t 5), []⟩,
  .s ⟨(some 112), .load false 1 (.t 111), []⟩,
  .s ⟨(some 113), .lenL (.t 112), []⟩,
  .s ⟨(some 114), .bin .lss (.t 110) (.t 113), []⟩])
 (.cond (.t 114) .skip
 (.exit 6)))
 (.seq (.block 7 (.seq (.reg [.s ⟨(some 117), .mv (.t 3), []⟩,
  .s ⟨(some 118), .faddr 4 (.t 5), []⟩,
  .s ⟨(some 119), .load false 1 (.t 118), []⟩,
  .s ⟨(some 120), .mv (.t 8), []⟩,
  .s ⟨(some 121), .idx 1 (.t 119) (.t 120), []⟩,
  .s ⟨(some 122), .load false 1 (.t 121), []⟩,
  .s ⟨(some 123), .lenL (.t 122), []⟩,
  .s ⟨(some 124), .minmax false (.t 123) [(.c (.int .i64 32768))], []⟩,
  .s ⟨(some 125), .bin .add (.t 117) (.t 124), []⟩,
  .s ⟨(some 3), .mv (.t 125), []⟩])
 (.seq (.reg [.s ⟨(some 126), .mv (.t 3), []⟩,
  .s ⟨(some 127), .bin .gtr (.t 126) (.c (.int .i64 2000)), []⟩,
  .s ⟨(some 128), .mv (.t 127), []⟩,
  .g 128 false [⟨(some 129), .faddr 4 (.t 5), []⟩,
   ⟨(some 130), .load false 1 (.t 129), []⟩,
   ⟨(some 131), .mv (.t 8), []⟩,
   ⟨(some 132), .idx 1 (.t 130) (.t 131), []⟩,
   ⟨(some 133), .load false 1 (.t 132), []⟩,
   ⟨(some 134), .call 21 [(.t 133)], []⟩],
  .s ⟨(some 135), .pick (.t 128) (.c (.bool true)) (.t 134), []⟩])
 (.cond (.t 135) (.seq (.reg [.s ⟨(some 2), .mv (.c (.bool true)), []⟩])
 .ret)
 .skip))))
 (.reg [.s ⟨(some 115), .mv (.t 8), []⟩,
  .s ⟨(some 116), .bin .add (.t 115) (.c (.int .i64 1)), []⟩,
  .s ⟨(some 8), .mv (.t 116), []⟩]))))))))))
 (.reg [.s ⟨(some 25), .mv (.t 4), []⟩,
  .s ⟨(some 26), .bin .add (.t 25) (.c (.int .i64 1)), []⟩,
  .s ⟨(some 4), .mv (.t 26), []⟩]))))))
 (.seq (.seq (.reg [.s ⟨(some 9), .mv (.c (.int .i64 0)), []⟩])
 (.block 8 (.loop (.seq (.seq (.reg [.s ⟨(some 136), .mv (.t 9), []⟩,
  .s ⟨(some 137), .faddr 1 (.t 1), []⟩,
  .s ⟨(some 138), .load false 1 (.t 137), []⟩,
  .s ⟨(some 139), .lenL (.t 138), []⟩,
  .s ⟨(some 140), .bin .lss (.t 136) (.t 139), []⟩])
 (.cond (.t 140) .skip
 (.exit 8)))
 (.seq (.block 9 (.reg [.s ⟨(some 143), .mv (.t 3), []⟩,
  .s ⟨(some 144), .faddr 1 (.t 1), []⟩,
  .s ⟨(some 145), .load false 1 (.t 144), []⟩,
  .s ⟨(some 146), .mv (.t 9), []⟩,
  .s ⟨(some 147), .idx 3 (.t 145) (.t 146), []⟩,
  .s ⟨(some 148), .faddr 2 (.t 147), []⟩,
  .s ⟨(some 149), .load false 1 (.t 148), []⟩,
  .s ⟨(some 150), .lenL (.t 149), []⟩,
  .s ⟨(some 151), .minmax false (.t 150) [(.c (.int .i64 32768))], []⟩,
  .s ⟨(some 152), .bin .add (.t 143) (.t 151), []⟩,
  .s ⟨(some 3), .mv (.t 152), []⟩]))
 (.reg [.s ⟨(some 141), .mv (.t 9), []⟩,
  .s ⟨(some 142), .bin .add (.t 141) (.c (.int .i64 1)), []⟩,
  .s ⟨(some 9), .mv (.t 142), []⟩]))))))
 (.seq (.reg [.s ⟨(some 153), .mv (.t 3), []⟩,
  .s ⟨(some 154), .bin .gtr (.t 153) (.c (.int .i64 20000)), []⟩,
  .s ⟨(some 2), .mv (.t 154), []⟩])
 .ret))))))⟩
theorem s6 : slimF Try.prog Try.f6 = some a6.fn := by kernel_rfl
def a7 : XFun := ⟨80, [.t 0],
 (.seq (.reg [.s ⟨(some 0), .mv (.c (.bool false)), []⟩])
 (.seq (.reg [.s ⟨(some 12), .call 22 [], []⟩,
  .s ⟨(some 1), .alloc 25 [(.slice none 0 0), (.slice none 0 0)], []⟩,
  .s ⟨none, .store 2 (.t 1) (.t 12), []⟩])
 (.seq (.reg [.s ⟨(some 14), .faddr 0 (.t 1), []⟩,
  .s ⟨(some 15), .load false 1 (.t 14), []⟩,
  .s ⟨(some 16), .faddr 1 (.t 1), []⟩,
  .s ⟨(some 17), .load false 1 (.t 16), []⟩,
  .s ⟨(some 18), .call 16 [(.c (.slice none 0 0)), (.t 15), (.t 17)], []⟩,
  .s ⟨(some 13), .mv (.t 18), []⟩,
  .s ⟨(some 19), .ext 0 (.t 13), []⟩,
  .s ⟨(some 20), .ext 1 (.t 13), []⟩,
  .s ⟨(some 2), .mv (.t 19), []⟩,
  .s ⟨(some 3), .mv (.t 20), []⟩])
 (.seq (.reg [.s ⟨(some 22), .mv (.t 2), []⟩,
  .s ⟨(some 23), .call 18 [(.t 22), (.c (.int .i64 0))], []⟩,
  .s ⟨(some 21), .mv (.t 23), []⟩,
  .s ⟨(some 24), .ext 0 (.t 21), []⟩,
  .s ⟨(some 25), .ext 1 (.t 21), []⟩,
  .s ⟨(some 26), .ext 2 (.t 21), []⟩,
  .s ⟨(some 27), .ext 3 (.t 21), []⟩,
  .s ⟨(some 4), .mv (.t 24), []⟩,
  .s ⟨(some 5), .mv (.t 25), []⟩,
  .s ⟨(some 6), .mv (.t 26), []⟩,
  .s ⟨(some 7), .mv (.t 27), []⟩])
 (.seq (.reg [.s ⟨(some 29), .mv (.t 4), []⟩,
  .s ⟨(some 30), .call 10 [(.t 29), (.c (.int .i64 8))], []⟩,
  .s ⟨(some 28), .mv (.t 30), []⟩,
  .s ⟨(some 31), .ext 0 (.t 28), []⟩,
  .s ⟨(some 32), .ext 1 (.t 28), []⟩,
  .s ⟨(some 8), .mv (.t 31), []⟩,
  .s ⟨(some 9), .mv (.t 32), []⟩])
 (.seq (.reg [.s ⟨(some 34), .mv (.t 4), []⟩,
  .s ⟨(some 35), .mv (.t 5), []⟩,
  .s ⟨(some 36), .call 12 [(.t 34), (.t 35), (.c (.int .i64 0)), (.c (.string ⟨#[120]⟩))], []⟩,
  .s ⟨(some 33), .mv (.t 36), []⟩,
  .s ⟨(some 37), .ext 0 (.t 33), []⟩,
  .s ⟨(some 38), .ext 1 (.t 33), []⟩,
  .s ⟨(some 10), .mv (.t 37), []⟩,
  .s ⟨(some 11), .mv (.t 38), []⟩])
 (.seq (.reg [.s ⟨(some 39), .mv (.t 3), []⟩,
  .s ⟨(some 40), .bin .eql (.t 39) (.c (.int .i64 0)), []⟩,
  .s ⟨(some 41), .mv (.t 40), []⟩,
  .g 41 true [⟨(some 42), .mv (.t 2), []⟩,
   ⟨(some 43), .lenL (.t 42), []⟩,
   ⟨(some 44), .bin .eql (.t 43) (.c (.int .i64 20)), []⟩],
  .s ⟨(some 45), .pick (.t 41) (.t 44) (.c (.bool false)), []⟩,
  .s ⟨(some 46), .mv (.t 45), []⟩,
  .g 46 true [⟨(some 47), .mv (.t 7), []⟩,
   ⟨(some 48), .bin .eql (.t 47) (.c (.int .i64 0)), []⟩],
  .s ⟨(some 49), .pick (.t 46) (.t 48) (.c (.bool false)), []⟩,
  .s ⟨(some 50), .mv (.t 49), []⟩,
  .g 50 true [⟨(some 51), .mv (.t 6), []⟩,
   ⟨(some 52), .bin .eql (.t 51) (.c (.int .i64 20)), []⟩],
  .s ⟨(some 53), .pick (.t 50) (.t 52) (.c (.bool false)), []⟩,
  .s ⟨(some 54), .mv (.t 53), []⟩,
  .g 54 true [⟨(some 55), .mv (.t 4), []⟩,
   ⟨(some 56), .faddr 0 (.t 1), []⟩,
   ⟨(some 57), .load false 1 (.t 56), []⟩,
   ⟨(some 58), .call 14 [(.t 55), (.t 57)], []⟩],
  .s ⟨(some 59), .pick (.t 54) (.t 58) (.c (.bool false)), []⟩,
  .s ⟨(some 60), .mv (.t 59), []⟩,
  .g 60 true [⟨(some 61), .mv (.t 5), []⟩,
   ⟨(some 62), .faddr 1 (.t 1), []⟩,
   ⟨(some 63), .load false 1 (.t 62), []⟩,
   ⟨(some 64), .call 15 [(.t 61), (.t 63)], []⟩],
  .s ⟨(some 65), .pick (.t 60) (.t 64) (.c (.bool false)), []⟩,
  .s ⟨(some 66), .mv (.t 65), []⟩,
  .g 66 true [⟨(some 67), .mv (.t 8), []⟩,
   ⟨(some 68), .bin .eql (.t 67) (.c (.int .i64 0)), []⟩],
  .s ⟨(some 69), .pick (.t 66) (.t 68) (.c (.bool false)), []⟩,
  .s ⟨(some 70), .mv (.t 69), []⟩,
  .g 70 true [⟨(some 71), .mv (.t 9), []⟩],
  .s ⟨(some 72), .pick (.t 70) (.t 71) (.c (.bool false)), []⟩,
  .s ⟨(some 73), .mv (.t 72), []⟩,
  .g 73 true [⟨(some 74), .mv (.t 10), []⟩,
   ⟨(some 75), .bin .eql (.t 74) (.c (.int .i64 0)), []⟩],
  .s ⟨(some 76), .pick (.t 73) (.t 75) (.c (.bool false)), []⟩,
  .s ⟨(some 77), .mv (.t 76), []⟩,
  .g 77 true [⟨(some 78), .mv (.t 11), []⟩],
  .s ⟨(some 79), .pick (.t 77) (.t 78) (.c (.bool false)), []⟩,
  .s ⟨(some 0), .mv (.t 79), []⟩])
 .ret)))))))⟩
theorem s7 : slimF Try.prog Try.f7 = some a7.fn := by kernel_rfl
def a8 : XFun := ⟨89, [.t 2],
 (.seq (.reg [.s ⟨(some 2), .mv (.c (.slice none 0 0)), []⟩])
 (.seq (.reg [.s ⟨(some 3), .mv (.c (.slice none 0 0)), []⟩])
 (.seq (.seq (.reg [.s ⟨(some 4), .mv (.c (.int .i64 0)), []⟩])
 (.block 0 (.loop (.seq (.seq (.reg [.s ⟨(some 9), .mv (.t 4), []⟩,
  .s ⟨(some 10), .mv (.t 0), []⟩,
  .s ⟨(some 11), .lenL (.t 10), []⟩,
  .s ⟨(some 12), .bin .lss (.t 9) (.t 11), []⟩])
 (.cond (.t 12) .skip
 (.exit 0)))
 (.seq (.block 1 (.seq (.par [.s ⟨(some 15), .mv (.t 0), []⟩,
  .s ⟨(some 16), .mv (.t 4), []⟩,
  .s ⟨(some 17), .idx 5 (.t 15) (.t 16), []⟩,
  .s ⟨(some 18), .faddr 0 (.t 17), []⟩,
  .s ⟨(some 19), .load false 1 (.t 18), []⟩,
  .s ⟨(some 20), .mv (.t 0), []⟩,
  .s ⟨(some 21), .mv (.t 4), []⟩,
  .s ⟨(some 22), .idx 5 (.t 20) (.t 21), []⟩,
  .s ⟨(some 23), .faddr 1 (.t 22), []⟩,
  .s ⟨(some 24), .load false 1 (.t 23), []⟩,
  .s ⟨(some 25), .mv (.t 0), []⟩,
  .s ⟨(some 26), .mv (.t 4), []⟩,
  .s ⟨(some 27), .idx 5 (.t 25) (.t 26), []⟩,
  .s ⟨(some 28), .faddr 2 (.t 27), []⟩,
  .s ⟨(some 29), .load false 1 (.t 28), []⟩,
  .s ⟨(some 30), .build [(.string ⟨#[]⟩), (.int .i64 0), (.int .i64 0), (.slice none 0 0), (.slice none 0 0)] [(0, 1, (.t 19)), (1, 1, (.t 24)), (2, 1, (.t 29))], []⟩,
  .s ⟨(some 5), .alloc 50 [(.string ⟨#[]⟩), (.int .i64 0), (.int .i64 0), (.slice none 0 0), (.slice none 0 0)], [⟨none, (some 29), .load false 1 (.t 28)⟩, ⟨none, (some 24), .load false 1 (.t 23)⟩, ⟨none, (some 19), .load false 1 (.t 18)⟩]⟩,
  .s ⟨none, .store 5 (.t 5) (.t 30), []⟩])
 (.seq (.seq (.reg [.s ⟨(some 6), .mv (.c (.int .i64 0)), []⟩])
 (.block 2 (.loop (.seq (.seq (.reg [.s ⟨(some 31), .mv (.t 6), []⟩,
  .s ⟨(some 32), .mv (.t 0), []⟩,
  .s ⟨(some 33), .mv (.t 4), []⟩,
  .s ⟨(some 34), .idx 5 (.t 32) (.t 33), []⟩,
  .s ⟨(some 35), .faddr 3 (.t 34), []⟩,
  .s ⟨(some 36), .load false 1 (.t 35), []⟩,
  .s ⟨(some 37), .lenL (.t 36), []⟩,
  .s ⟨(some 38), .bin .lss (.t 31) (.t 37), []⟩])
 (.cond (.t 38) .skip
 (.exit 2)))
 (.seq (.block 3 (.seq (.reg [.s ⟨(some 41), .mv (.t 0), []⟩,
  .s ⟨(some 42), .mv (.t 4), []⟩,
  .s ⟨(some 43), .idx 5 (.t 41) (.t 42), []⟩,
  .s ⟨(some 44), .faddr 3 (.t 43), []⟩,
  .s ⟨(some 45), .load false 1 (.t 44), []⟩,
  .s ⟨(some 46), .mv (.t 6), []⟩,
  .s ⟨(some 47), .idx 6 (.t 45) (.t 46), []⟩,
  .s ⟨(some 48), .load true 6 (.t 47), []⟩,
  .s ⟨(some 7), .alloc 64 [(.string ⟨#[]⟩), (.int .u8 0), (.int .i64 0), (.string ⟨#[]⟩), (.int .i64 0), (.slice none 0 0)], []⟩,
  .s ⟨none, .store 6 (.t 7) (.t 48), []⟩])
 (.seq (.reg [.s ⟨(some 49), .bslice 9 0 [] [], []⟩,
  .s ⟨(some 50), .faddr 5 (.t 7), []⟩,
  .s ⟨(some 51), .load false 1 (.t 50), []⟩,
  .s ⟨(some 52), .app 9 1 16 (.t 49) (.t 51), []⟩,
  .s ⟨(some 53), .faddr 5 (.t 7), []⟩,
  .s ⟨none, .store 1 (.t 53) (.t 52), []⟩])
 (.reg [.s ⟨(some 54), .faddr 3 (.t 5), []⟩,
  .s ⟨(some 55), .load false 1 (.t 54), []⟩,
  .s ⟨(some 56), .load true 6 (.t 7), []⟩,
  .s ⟨(some 57), .bslice 64 1 [(.string ⟨#[]⟩), (.int .u8 0), (.int .i64 0), (.string ⟨#[]⟩), (.int .i64 0), (.slice none 0 0)] [(0, 6, (.t 56))], []⟩,
  .s ⟨(some 58), .app 64 6 80 (.t 55) (.t 57), []⟩,
  .s ⟨(some 59), .faddr 3 (.t 5), []⟩,
  .s ⟨none, .store 1 (.t 59) (.t 58), []⟩]))))
 (.reg [.s ⟨(some 39), .mv (.t 6), []⟩,
  .s ⟨(some 40), .bin .add (.t 39) (.c (.int .i64 1)), []⟩,
  .s ⟨(some 6), .mv (.t 40), []⟩]))))))
 (.seq (.seq (.reg [.s ⟨(some 8), .mv (.c (.int .i64 0)), []⟩])
 (.block 4 (.loop (.seq (.seq (.reg [.s ⟨(some 60), .mv (.t 8), []⟩,
  .s ⟨(some 61), .mv (.t 0), []⟩,
  .s ⟨(some 62), .mv (.t 4), []⟩,
  .s ⟨(some 63), .idx 5 (.t 61) (.t 62), []⟩,
  .s ⟨(some 64), .faddr 4 (.t 63), []⟩,
  .s ⟨(some 65), .load false 1 (.t 64), []⟩,
  .s ⟨(some 66), .lenL (.t 65), []⟩,
  .s ⟨(some 67), .bin .lss (.t 60) (.t 66), []⟩])
 (.cond (.t 67) .skip
 (.exit 4)))
 (.seq (.block 5 (.par [.s ⟨(some 70), .faddr 4 (.t 5), []⟩,
  .s ⟨(some 71), .load false 1 (.t 70), []⟩,
  .s ⟨(some 72), .mv (.t 0), []⟩,
  .s ⟨(some 73), .mv (.t 4), []⟩,
  .s ⟨(some 74), .idx 5 (.t 72) (.t 73), []⟩,
  .s ⟨(some 75), .faddr 4 (.t 74), []⟩,
  .s ⟨(some 76), .load false 1 (.t 75), []⟩,
  .s ⟨(some 77), .mv (.t 8), []⟩,
  .s ⟨(some 78), .idx 1 (.t 76) (.t 77), []⟩,
  .s ⟨(some 79), .load false 1 (.t 78), []⟩,
  .s ⟨(some 80), .call 23 [(.t 79)], [⟨none, (some 71), .load false 1 (.t 70)⟩]⟩,
  .s ⟨(some 81), .bslice 56 1 [(.slice none 0 0)] [(0, 1, (.t 80))], [⟨none, (some 71), .load false 1 (.t 70)⟩]⟩,
  .s ⟨(some 82), .app 56 1 24 (.t 71) (.t 81), []⟩,
  .s ⟨(some 83), .faddr 4 (.t 5), []⟩,
  .s ⟨none, .store 1 (.t 83) (.t 82), []⟩]))
 (.reg [.s ⟨(some 68), .mv (.t 8), []⟩,
  .s ⟨(some 69), .bin .add (.t 68) (.c (.int .i64 1)), []⟩,
  .s ⟨(some 8), .mv (.t 69), []⟩]))))))
 (.reg [.s ⟨(some 84), .mv (.t 3), []⟩,
  .s ⟨(some 85), .load true 5 (.t 5), []⟩,
  .s ⟨(some 86), .bslice 50 1 [(.string ⟨#[]⟩), (.int .i64 0), (.int .i64 0), (.slice none 0 0), (.slice none 0 0)] [(0, 5, (.t 85))], []⟩,
  .s ⟨(some 87), .app 50 5 80 (.t 84) (.t 86), []⟩,
  .s ⟨(some 3), .mv (.t 87), []⟩])))))
 (.reg [.s ⟨(some 13), .mv (.t 4), []⟩,
  .s ⟨(some 14), .bin .add (.t 13) (.c (.int .i64 1)), []⟩,
  .s ⟨(some 4), .mv (.t 14), []⟩]))))))
 (.seq (.reg [.s ⟨(some 88), .mv (.t 3), []⟩,
  .s ⟨(some 2), .mv (.t 88), []⟩])
 .ret))))⟩
theorem s8 : slimF Try.prog Try.f8 = some a8.fn := by kernel_rfl
def a9 : XFun := ⟨33, [.t 2],
 (.seq (.reg [.s ⟨(some 2), .mv (.c (.slice none 0 0)), []⟩])
 (.seq (.reg [.s ⟨(some 3), .mv (.c (.slice none 0 0)), []⟩])
 (.seq (.seq (.reg [.s ⟨(some 4), .mv (.c (.int .i64 0)), []⟩])
 (.block 0 (.loop (.seq (.seq (.reg [.s ⟨(some 5), .mv (.t 4), []⟩,
  .s ⟨(some 6), .mv (.t 0), []⟩,
  .s ⟨(some 7), .lenL (.t 6), []⟩,
  .s ⟨(some 8), .bin .lss (.t 5) (.t 7), []⟩])
 (.cond (.t 8) .skip
 (.exit 0)))
 (.seq (.block 1 (.par [.s ⟨(some 11), .mv (.t 3), []⟩,
  .s ⟨(some 12), .mv (.t 0), []⟩,
  .s ⟨(some 13), .mv (.t 4), []⟩,
  .s ⟨(some 14), .idx 3 (.t 12) (.t 13), []⟩,
  .s ⟨(some 15), .faddr 0 (.t 14), []⟩,
  .s ⟨(some 16), .load false 1 (.t 15), []⟩,
  .s ⟨(some 17), .mv (.t 0), []⟩,
  .s ⟨(some 18), .mv (.t 4), []⟩,
  .s ⟨(some 19), .idx 3 (.t 17) (.t 18), []⟩,
  .s ⟨(some 20), .faddr 1 (.t 19), []⟩,
  .s ⟨(some 21), .load false 1 (.t 20), []⟩,
  .s ⟨(some 23), .mv (.t 0), []⟩,
  .s ⟨(some 24), .mv (.t 4), []⟩,
  .s ⟨(some 25), .idx 3 (.t 23) (.t 24), []⟩,
  .s ⟨(some 26), .faddr 2 (.t 25), []⟩,
  .s ⟨(some 27), .load false 1 (.t 26), []⟩,
  .s ⟨(some 22), .bslice 3 0 [] [], [⟨none, (some 27), .load false 1 (.t 26)⟩, ⟨none, (some 21), .load false 1 (.t 20)⟩, ⟨none, (some 16), .load false 1 (.t 15)⟩]⟩,
  .s ⟨(some 28), .app 3 1 8 (.t 22) (.t 27), [⟨none, (some 21), .load false 1 (.t 20)⟩, ⟨none, (some 16), .load false 1 (.t 15)⟩]⟩,
  .s ⟨(some 29), .build [(.int .i64 0), (.int .i64 0), (.slice none 0 0)] [(0, 1, (.t 16)), (1, 1, (.t 21)), (2, 1, (.t 28))], []⟩,
  .s ⟨(some 30), .bslice 59 1 [(.int .i64 0), (.int .i64 0), (.slice none 0 0)] [(0, 3, (.t 29))], []⟩,
  .s ⟨(some 31), .app 59 3 40 (.t 11) (.t 30), []⟩,
  .s ⟨(some 3), .mv (.t 31), []⟩]))
 (.reg [.s ⟨(some 9), .mv (.t 4), []⟩,
  .s ⟨(some 10), .bin .add (.t 9) (.c (.int .i64 1)), []⟩,
  .s ⟨(some 4), .mv (.t 10), []⟩]))))))
 (.seq (.reg [.s ⟨(some 32), .mv (.t 3), []⟩,
  .s ⟨(some 2), .mv (.t 32), []⟩])
 .ret))))⟩
theorem s9 : slimF Try.prog Try.f9 = some a9.fn := by kernel_rfl
def a10 : XFun := ⟨27, [.t 4, .t 5],
 (.seq (.reg [.s ⟨(some 4), .mv (.c (.int .i64 0)), []⟩,
  .s ⟨(some 5), .mv (.c (.bool false)), []⟩])
 (.seq (.seq (.reg [.s ⟨(some 8), .mv (.t 0), []⟩,
  .s ⟨(some 9), .lenL (.t 8), []⟩,
  .s ⟨(some 10), .mv (.c (.int .i64 0)), []⟩])
 (.block 0 (.loop (.seq (.reg [.s ⟨(some 11), .bin .lss (.t 10) (.t 9), []⟩])
 (.seq (.cond (.t 11) .skip
 (.exit 0))
 (.seq (.block 1 (.seq (.reg [.s ⟨(some 12), .mv (.t 10), []⟩,
  .s ⟨(some 13), .idx 5 (.t 8) (.t 10), []⟩,
  .s ⟨(some 14), .load true 5 (.t 13), []⟩,
  .s ⟨(some 7), .alloc 50 [(.string ⟨#[]⟩), (.int .i64 0), (.int .i64 0), (.slice none 0 0), (.slice none 0 0)], []⟩,
  .s ⟨(some 6), .mv (.t 12), []⟩,
  .s ⟨none, .store 5 (.t 7) (.t 14), []⟩])
 (.seq (.reg [.s ⟨(some 15), .faddr 1 (.t 7), []⟩,
  .s ⟨(some 16), .load false 1 (.t 15), []⟩,
  .s ⟨(some 17), .mv (.t 1), []⟩,
  .s ⟨(some 18), .bin .leq (.t 16) (.t 17), []⟩,
  .s ⟨(some 19), .mv (.t 18), []⟩,
  .g 19 true [⟨(some 20), .mv (.t 1), []⟩,
   ⟨(some 21), .faddr 2 (.t 7), []⟩,
   ⟨(some 22), .load false 1 (.t 21), []⟩,
   ⟨(some 23), .bin .lss (.t 20) (.t 22), []⟩],
  .s ⟨(some 24), .pick (.t 19) (.t 23) (.c (.bool false)), []⟩])
 (.cond (.t 24) (.seq (.reg [.s ⟨(some 25), .mv (.t 6), []⟩,
  .s ⟨(some 4), .mv (.t 25), []⟩,
  .s ⟨(some 5), .mv (.c (.bool true)), []⟩])
 .ret)
 .skip))))
 (.reg [.s ⟨(some 26), .bin .add (.t 10) (.c (.int .i64 1)), []⟩,
  .s ⟨(some 10), .mv (.t 26), []⟩])))))))
 (.seq (.reg [.s ⟨(some 4), .mv (.c (.int .i64 0)), []⟩,
  .s ⟨(some 5), .mv (.c (.bool false)), []⟩])
 .ret)))⟩
theorem s10 : slimF Try.prog Try.f10 = some a10.fn := by kernel_rfl
def a12 : XFun := ⟨70, [.t 8, .t 9],
 (.seq (.reg [.s ⟨(some 8), .mv (.c (.int .i64 0)), []⟩,
  .s ⟨(some 9), .mv (.c (.bool false)), []⟩])
 (.seq (.seq (.reg [.s ⟨(some 14), .mv (.t 2), []⟩,
  .s ⟨(some 15), .bin .lss (.t 14) (.c (.int .i64 0)), []⟩,
  .s ⟨(some 16), .mv (.t 15), []⟩,
  .g 16 false [⟨(some 17), .mv (.t 2), []⟩,
   ⟨(some 18), .mv (.t 1), []⟩,
   ⟨(some 19), .lenL (.t 18), []⟩,
   ⟨(some 20), .bin .geq (.t 17) (.t 19), []⟩],
  .s ⟨(some 21), .pick (.t 16) (.c (.bool true)) (.t 20), []⟩])
 (.cond (.t 21) (.seq (.reg [.s ⟨(some 8), .mv (.c (.int .i64 0)), []⟩,
  .s ⟨(some 9), .mv (.c (.bool false)), []⟩])
 .ret)
 .skip))
 (.seq (.reg [.s ⟨(some 22), .mv (.t 1), []⟩,
  .s ⟨(some 23), .mv (.t 2), []⟩,
  .s ⟨(some 24), .idx 3 (.t 22) (.t 23), []⟩,
  .s ⟨(some 25), .load true 3 (.t 24), []⟩,
  .s ⟨(some 10), .alloc 59 [(.int .i64 0), (.int .i64 0), (.slice none 0 0)], []⟩,
  .s ⟨none, .store 3 (.t 10) (.t 25), []⟩])
 (.seq (.seq (.reg [.s ⟨(some 26), .faddr 0 (.t 10), []⟩,
  .s ⟨(some 27), .load false 1 (.t 26), []⟩,
  .s ⟨(some 28), .bin .lss (.t 27) (.c (.int .i64 0)), []⟩,
  .s ⟨(some 29), .mv (.t 28), []⟩,
  .g 29 false [⟨(some 30), .faddr 0 (.t 10), []⟩,
   ⟨(some 31), .load false 1 (.t 30), []⟩,
   ⟨(some 32), .mv (.t 0), []⟩,
   ⟨(some 33), .lenL (.t 32), []⟩,
   ⟨(some 34), .bin .geq (.t 31) (.t 33), []⟩],
  .s ⟨(some 35), .pick (.t 29) (.c (.bool true)) (.t 34), []⟩])
 (.cond (.t 35) (.seq (.reg [.s ⟨(some 8), .mv (.c (.int .i64 0)), []⟩,
  .s ⟨(some 9), .mv (.c (.bool false)), []⟩])
 .ret)
 .skip))
 (.seq (.seq (.reg [.s ⟨(some 36), .faddr 2 (.t 10), []⟩,
  .s ⟨(some 37), .load false 1 (.t 36), []⟩,
  .s ⟨(some 38), .lenL (.t 37), []⟩,
  .s ⟨(some 39), .mv (.c (.int .i64 0)), []⟩])
 (.block 0 (.loop (.seq (.reg [.s ⟨(some 40), .bin .lss (.t 39) (.t 38), []⟩])
 (.seq (.cond (.t 40) .skip
 (.exit 0))
 (.seq (.block 1 (.seq (.reg [.s ⟨(some 41), .idx 1 (.t 37) (.t 39), []⟩,
  .s ⟨(some 42), .load false 1 (.t 41), []⟩,
  .s ⟨(some 12), .mv (.t 42), []⟩])
 (.seq (.reg [.s ⟨(some 43), .mv (.t 0), []⟩,
  .s ⟨(some 44), .faddr 0 (.t 10), []⟩,
  .s ⟨(some 45), .load false 1 (.t 44), []⟩,
  .s ⟨(some 46), .idx 5 (.t 43) (.t 45), []⟩,
  .s ⟨(some 47), .faddr 3 (.t 46), []⟩,
  .s ⟨(some 48), .load false 1 (.t 47), []⟩,
  .s ⟨(some 13), .mv (.t 48), []⟩])
 (.seq (.reg [.s ⟨(some 49), .mv (.t 12), []⟩,
  .s ⟨(some 50), .bin .geq (.t 49) (.c (.int .i64 0)), []⟩,
  .s ⟨(some 51), .mv (.t 50), []⟩,
  .g 51 true [⟨(some 52), .mv (.t 12), []⟩,
   ⟨(some 53), .mv (.t 13), []⟩,
   ⟨(some 54), .lenL (.t 53), []⟩,
   ⟨(some 55), .bin .lss (.t 52) (.t 54), []⟩],
  .s ⟨(some 56), .pick (.t 51) (.t 55) (.c (.bool false)), []⟩,
  .s ⟨(some 57), .mv (.t 56), []⟩,
  .g 57 true [⟨(some 58), .mv (.t 13), []⟩,
   ⟨(some 59), .mv (.t 12), []⟩,
   ⟨(some 60), .idx 6 (.t 58) (.t 59), []⟩,
   ⟨(some 61), .faddr 0 (.t 60), []⟩,
   ⟨(some 62), .load false 1 (.t 61), []⟩,
   ⟨(some 63), .mv (.t 3), []⟩,
   ⟨(some 64), .bin .eql (.t 62) (.t 63), []⟩],
  .s ⟨(some 65), .pick (.t 57) (.t 64) (.c (.bool false)), []⟩])
 (.cond (.t 65) (.reg [.s ⟨(some 66), .mv (.t 12), []⟩,
  .s ⟨(some 8), .mv (.t 66), []⟩,
  .s ⟨(some 9), .mv (.c (.bool true)), []⟩])
 .skip)))))
 (.reg [.s ⟨(some 67), .bin .add (.t 39) (.c (.int .i64 1)), []⟩,
  .s ⟨(some 39), .mv (.t 67), []⟩])))))))
 (.seq (.reg [.s ⟨(some 68), .mv (.t 8), []⟩,
  .s ⟨(some 69), .mv (.t 9), []⟩,
  .s ⟨(some 8), .mv (.t 68), []⟩,
  .s ⟨(some 9), .mv (.t 69), []⟩])
 .ret))))))⟩
theorem s12 : slimF Try.prog Try.f12 = some a12.fn := by kernel_rfl
def a14 : XFun := ⟨142, [.t 4],
 (.seq (.reg [.s ⟨(some 4), .mv (.c (.bool false)), []⟩])
 (.seq (.seq (.reg [.s ⟨(some 8), .mv (.t 0), []⟩,
  .s ⟨(some 9), .lenL (.t 8), []⟩,
  .s ⟨(some 10), .mv (.t 1), []⟩,
  .s ⟨(some 11), .lenL (.t 10), []⟩,
  .s ⟨(some 12), .bin .neq (.t 9) (.t 11), []⟩])
 (.cond (.t 12) (.seq (.reg [.s ⟨(some 4), .mv (.c (.bool false)), []⟩])
 .ret)
 .skip))
 (.seq (.seq (.reg [.s ⟨(some 5), .mv (.c (.int .i64 0)), []⟩])
 (.block 0 (.loop (.seq (.seq (.reg [.s ⟨(some 13), .mv (.t 5), []⟩,
  .s ⟨(some 14), .mv (.t 0), []⟩,
  .s ⟨(some 15), .lenL (.t 14), []⟩,
  .s ⟨(some 16), .bin .lss (.t 13) (.t 15), []⟩])
 (.cond (.t 16) .skip
 (.exit 0)))
 (.seq (.block 1 (.seq (.seq (.par [.s ⟨(some 19), .mv (.t 0), []⟩,
  .s ⟨(some 20), .mv (.t 5), []⟩,
  .s ⟨(some 21), .idx 5 (.t 19) (.t 20), []⟩,
  .s ⟨(some 22), .faddr 0 (.t 21), []⟩,
  .s ⟨(some 23), .load false 1 (.t 22), []⟩,
  .s ⟨(some 24), .mv (.t 1), []⟩,
  .s ⟨(some 25), .mv (.t 5), []⟩,
  .s ⟨(some 26), .idx 5 (.t 24) (.t 25), []⟩,
  .s ⟨(some 27), .faddr 0 (.t 26), []⟩,
  .s ⟨(some 28), .load false 1 (.t 27), []⟩,
  .s ⟨(some 29), .bin .neq (.t 23) (.t 28), []⟩,
  .s ⟨(some 30), .mv (.t 29), []⟩,
  .g 30 false [⟨(some 31), .mv (.t 0), []⟩,
   ⟨(some 32), .mv (.t 5), []⟩,
   ⟨(some 33), .idx 5 (.t 31) (.t 32), []⟩,
   ⟨(some 34), .faddr 1 (.t 33), []⟩,
   ⟨(some 35), .load false 1 (.t 34), []⟩,
   ⟨(some 36), .mv (.t 1), []⟩,
   ⟨(some 37), .mv (.t 5), []⟩,
   ⟨(some 38), .idx 5 (.t 36) (.t 37), []⟩,
   ⟨(some 39), .faddr 1 (.t 38), []⟩,
   ⟨(some 40), .load false 1 (.t 39), []⟩,
   ⟨(some 41), .bin .neq (.t 35) (.t 40), []⟩],
  .s ⟨(some 42), .pick (.t 30) (.c (.bool true)) (.t 41), []⟩,
  .s ⟨(some 43), .mv (.t 42), []⟩,
  .g 43 false [⟨(some 44), .mv (.t 0), []⟩,
   ⟨(some 45), .mv (.t 5), []⟩,
   ⟨(some 46), .idx 5 (.t 44) (.t 45), []⟩,
   ⟨(some 47), .faddr 2 (.t 46), []⟩,
   ⟨(some 48), .load false 1 (.t 47), []⟩,
   ⟨(some 49), .mv (.t 1), []⟩,
   ⟨(some 50), .mv (.t 5), []⟩,
   ⟨(some 51), .idx 5 (.t 49) (.t 50), []⟩,
   ⟨(some 52), .faddr 2 (.t 51), []⟩,
   ⟨(some 53), .load false 1 (.t 52), []⟩,
   ⟨(some 54), .bin .neq (.t 48) (.t 53), []⟩],
  .s ⟨(some 55), .pick (.t 43) (.c (.bool true)) (.t 54), []⟩,
  .s ⟨(some 56), .mv (.t 55), []⟩,
  .g 56 false [⟨(some 57), .mv (.t 0), []⟩,
   ⟨(some 58), .mv (.t 5), []⟩,
   ⟨(some 59), .idx 5 (.t 57) (.t 58), []⟩,
   ⟨(some 60), .faddr 3 (.t 59), []⟩,
   ⟨(some 61), .load false 1 (.t 60), []⟩,
   ⟨(some 62), .lenL (.t 61), []⟩,
   ⟨(some 63), .mv (.t 1), []⟩,
   ⟨(some 64), .mv (.t 5), []⟩,
   ⟨(some 65), .idx 5 (.t 63) (.t 64), []⟩,
   ⟨(some 66), .faddr 3 (.t 65), []⟩,
   ⟨(some 67), .load false 1 (.t 66), []⟩,
   ⟨(some 68), .lenL (.t 67), []⟩,
   ⟨(some 69), .bin .neq (.t 62) (.t 68), []⟩],
  .s ⟨(some 70), .pick (.t 56) (.c (.bool true)) (.t 69), []⟩,
  .s ⟨(some 71), .mv (.t 70), []⟩,
  .g 71 false [⟨(some 72), .mv (.t 0), []⟩,
   ⟨(some 73), .mv (.t 5), []⟩,
   ⟨(some 74), .idx 5 (.t 72) (.t 73), []⟩,
   ⟨(some 75), .faddr 4 (.t 74), []⟩,
   ⟨(some 76), .load false 1 (.t 75), []⟩,
   ⟨(some 77), .lenL (.t 76), []⟩,
   ⟨(some 78), .mv (.t 1), []⟩,
   ⟨(some 79), .mv (.t 5), []⟩,
   ⟨(some 80), .idx 5 (.t 78) (.t 79), []⟩,
   ⟨(some 81), .faddr 4 (.t 80), []⟩,
   ⟨(some 82), .load false 1 (.t 81), []⟩,
   ⟨(some 83), .lenL (.t 82), []⟩,
   ⟨(some 84), .bin .neq (.t 77) (.t 83), []⟩],
  .s ⟨(some 85), .pick (.t 71) (.c (.bool true)) (.t 84), []⟩])
 (.cond (.t 85) (.seq (.reg [.s ⟨(some 4), .mv (.c (.bool false)), []⟩])
 .ret)
 .skip))
 (.seq (.seq (.reg [.s ⟨(some 6), .mv (.c (.int .i64 0)), []⟩])
 (.block 2 (.loop (.seq (.seq (.reg [.s ⟨(some 86), .mv (.t 6), []⟩,
  .s ⟨(some 87), .mv (.t 0), []⟩,
  .s ⟨(some 88), .mv (.t 5), []⟩,
  .s ⟨(some 89), .idx 5 (.t 87) (.t 88), []⟩,
  .s ⟨(some 90), .faddr 3 (.t 89), []⟩,
  .s ⟨(some 91), .load false 1 (.t 90), []⟩,
  .s ⟨(some 92), .lenL (.t 91), []⟩,
  .s ⟨(some 93), .bin .lss (.t 86) (.t 92), []⟩])
 (.cond (.t 93) .skip
 (.exit 2)))
 (.seq (.block 3 (.seq (.par [.s ⟨(some 96), .mv (.t 0), []⟩,
  .s ⟨(some 97), .mv (.t 5), []⟩,
  .s ⟨(some 98), .idx 5 (.t 96) (.t 97), []⟩,
  .s ⟨(some 99), .faddr 3 (.t 98), []⟩,
  .s ⟨(some 100), .load false 1 (.t 99), []⟩,
  .s ⟨(some 101), .mv (.t 6), []⟩,
  .s ⟨(some 102), .idx 6 (.t 100) (.t 101), []⟩,
  .s ⟨(some 103), .load true 6 (.t 102), []⟩,
  .s ⟨(some 104), .mv (.t 1), []⟩,
  .s ⟨(some 105), .mv (.t 5), []⟩,
  .s ⟨(some 106), .idx 5 (.t 104) (.t 105), []⟩,
  .s ⟨(some 107), .faddr 3 (.t 106), []⟩,
  .s ⟨(some 108), .load false 1 (.t 107), []⟩,
  .s ⟨(some 109), .mv (.t 6), []⟩,
  .s ⟨(some 110), .idx 6 (.t 108) (.t 109), []⟩,
  .s ⟨(some 111), .load true 6 (.t 110), []⟩,
  .s ⟨(some 112), .call 24 [(.t 103), (.t 111)], []⟩,
  .s ⟨(some 113), .un .not (.t 112), []⟩])
 (.cond (.t 113) (.seq (.reg [.s ⟨(some 4), .mv (.c (.bool false)), []⟩])
 .ret)
 .skip)))
 (.reg [.s ⟨(some 94), .mv (.t 6), []⟩,
  .s ⟨(some 95), .bin .add (.t 94) (.c (.int .i64 1)), []⟩,
  .s ⟨(some 6), .mv (.t 95), []⟩]))))))
 (.seq (.reg [.s ⟨(some 7), .mv (.c (.int .i64 0)), []⟩])
 (.block 4 (.loop (.seq (.seq (.reg [.s ⟨(some 114), .mv (.t 7), []⟩,
  .s ⟨(some 115), .mv (.t 0), []⟩,
  .s ⟨(some 116), .mv (.t 5), []⟩,
  .s ⟨(some 117), .idx 5 (.t 115) (.t 116), []⟩,
  .s ⟨(some 118), .faddr 4 (.t 117), []⟩,
  .s ⟨(some 119), .load false 1 (.t 118), []⟩,
  .s ⟨(some 120), .lenL (.t 119), []⟩,
  .s ⟨(some 121), .bin .lss (.t 114) (.t 120), []⟩])
 (.cond (.t 121) .skip
 (.exit 4)))
 (.seq (.block 5 (.seq (.par [.s ⟨(some 124), .mv (.t 0), []⟩,
  .s ⟨(some 125), .mv (.t 5), []⟩,
  .s ⟨(some 126), .idx 5 (.t 124) (.t 125), []⟩,
  .s ⟨(some 127), .faddr 4 (.t 126), []⟩,
  .s ⟨(some 128), .load false 1 (.t 127), []⟩,
  .s ⟨(some 129), .mv (.t 7), []⟩,
  .s ⟨(some 130), .idx 1 (.t 128) (.t 129), []⟩,
  .s ⟨(some 131), .load false 1 (.t 130), []⟩,
  .s ⟨(some 132), .mv (.t 1), []⟩,
  .s ⟨(some 133), .mv (.t 5), []⟩,
  .s ⟨(some 134), .idx 5 (.t 132) (.t 133), []⟩,
  .s ⟨(some 135), .faddr 4 (.t 134), []⟩,
  .s ⟨(some 136), .load false 1 (.t 135), []⟩,
  .s ⟨(some 137), .mv (.t 7), []⟩,
  .s ⟨(some 138), .idx 1 (.t 136) (.t 137), []⟩,
  .s ⟨(some 139), .load false 1 (.t 138), []⟩,
  .s ⟨(some 140), .call 25 [(.t 131), (.t 139)], []⟩,
  .s ⟨(some 141), .un .not (.t 140), []⟩])
 (.cond (.t 141) (.seq (.reg [.s ⟨(some 4), .mv (.c (.bool false)), []⟩])
 .ret)
 .skip)))
 (.reg [.s ⟨(some 122), .mv (.t 7), []⟩,
  .s ⟨(some 123), .bin .add (.t 122) (.c (.int .i64 1)), []⟩,
  .s ⟨(some 7), .mv (.t 123), []⟩])))))))))
 (.reg [.s ⟨(some 17), .mv (.t 5), []⟩,
  .s ⟨(some 18), .bin .add (.t 17) (.c (.int .i64 1)), []⟩,
  .s ⟨(some 5), .mv (.t 18), []⟩]))))))
 (.seq (.reg [.s ⟨(some 4), .mv (.c (.bool true)), []⟩])
 .ret))))⟩
theorem s14 : slimF Try.prog Try.f14 = some a14.fn := by kernel_rfl
def a15 : XFun := ⟨84, [.t 4],
 (.seq (.reg [.s ⟨(some 4), .mv (.c (.bool false)), []⟩])
 (.seq (.seq (.reg [.s ⟨(some 7), .mv (.t 0), []⟩,
  .s ⟨(some 8), .lenL (.t 7), []⟩,
  .s ⟨(some 9), .mv (.t 1), []⟩,
  .s ⟨(some 10), .lenL (.t 9), []⟩,
  .s ⟨(some 11), .bin .neq (.t 8) (.t 10), []⟩])
 (.cond (.t 11) (.seq (.reg [.s ⟨(some 4), .mv (.c (.bool false)), []⟩])
 .ret)
 .skip))
 (.seq (.seq (.reg [.s ⟨(some 5), .mv (.c (.int .i64 0)), []⟩])
 (.block 0 (.loop (.seq (.seq (.reg [.s ⟨(some 12), .mv (.t 5), []⟩,
  .s ⟨(some 13), .mv (.t 0), []⟩,
  .s ⟨(some 14), .lenL (.t 13), []⟩,
  .s ⟨(some 15), .bin .lss (.t 12) (.t 14), []⟩])
 (.cond (.t 15) .skip
 (.exit 0)))
 (.seq (.block 1 (.seq (.seq (.par [.s ⟨(some 18), .mv (.t 0), []⟩,
  .s ⟨(some 19), .mv (.t 5), []⟩,
  .s ⟨(some 20), .idx 3 (.t 18) (.t 19), []⟩,
  .s ⟨(some 21), .faddr 0 (.t 20), []⟩,
  .s ⟨(some 22), .load false 1 (.t 21), []⟩,
  .s ⟨(some 23), .mv (.t 1), []⟩,
  .s ⟨(some 24), .mv (.t 5), []⟩,
  .s ⟨(some 25), .idx 3 (.t 23) (.t 24), []⟩,
  .s ⟨(some 26), .faddr 0 (.t 25), []⟩,
  .s ⟨(some 27), .load false 1 (.t 26), []⟩,
  .s ⟨(some 28), .bin .neq (.t 22) (.t 27), []⟩,
  .s ⟨(some 29), .mv (.t 28), []⟩,
  .g 29 false [⟨(some 30), .mv (.t 0), []⟩,
   ⟨(some 31), .mv (.t 5), []⟩,
   ⟨(some 32), .idx 3 (.t 30) (.t 31), []⟩,
   ⟨(some 33), .faddr 1 (.t 32), []⟩,
   ⟨(some 34), .load false 1 (.t 33), []⟩,
   ⟨(some 35), .mv (.t 1), []⟩,
   ⟨(some 36), .mv (.t 5), []⟩,
   ⟨(some 37), .idx 3 (.t 35) (.t 36), []⟩,
   ⟨(some 38), .faddr 1 (.t 37), []⟩,
   ⟨(some 39), .load false 1 (.t 38), []⟩,
   ⟨(some 40), .bin .neq (.t 34) (.t 39), []⟩],
  .s ⟨(some 41), .pick (.t 29) (.c (.bool true)) (.t 40), []⟩,
  .s ⟨(some 42), .mv (.t 41), []⟩,
  .g 42 false [⟨(some 43), .mv (.t 0), []⟩,
   ⟨(some 44), .mv (.t 5), []⟩,
   ⟨(some 45), .idx 3 (.t 43) (.t 44), []⟩,
   ⟨(some 46), .faddr 2 (.t 45), []⟩,
   ⟨(some 47), .load false 1 (.t 46), []⟩,
   ⟨(some 48), .lenL (.t 47), []⟩,
   ⟨(some 49), .mv (.t 1), []⟩,
   ⟨(some 50), .mv (.t 5), []⟩,
   ⟨(some 51), .idx 3 (.t 49) (.t 50), []⟩,
   ⟨(some 52), .faddr 2 (.t 51), []⟩,
   ⟨(some 53), .load false 1 (.t 52), []⟩,
   ⟨(some 54), .lenL (.t 53), []⟩,
   ⟨(some 55), .bin .neq (.t 48) (.t 54), []⟩],
  .s ⟨(some 56), .pick (.t 42) (.c (.bool true)) (.t 55), []⟩])
 (.cond (.t 56) (.seq (.reg [.s ⟨(some 4), .mv (.c (.bool false)), []⟩])
 .ret)
 .skip))
 (.seq (.reg [.s ⟨(some 6), .mv (.c (.int .i64 0)), []⟩])
 (.block 2 (.loop (.seq (.seq (.reg [.s ⟨(some 57), .mv (.t 6), []⟩,
  .s ⟨(some 58), .mv (.t 0), []⟩,
  .s ⟨(some 59), .mv (.t 5), []⟩,
  .s ⟨(some 60), .idx 3 (.t 58) (.t 59), []⟩,
  .s ⟨(some 61), .faddr 2 (.t 60), []⟩,
  .s ⟨(some 62), .load false 1 (.t 61), []⟩,
  .s ⟨(some 63), .lenL (.t 62), []⟩,
  .s ⟨(some 64), .bin .lss (.t 57) (.t 63), []⟩])
 (.cond (.t 64) .skip
 (.exit 2)))
 (.seq (.block 3 (.seq (.par [.s ⟨(some 67), .mv (.t 0), []⟩,
  .s ⟨(some 68), .mv (.t 5), []⟩,
  .s ⟨(some 69), .idx 3 (.t 67) (.t 68), []⟩,
  .s ⟨(some 70), .faddr 2 (.t 69), []⟩,
  .s ⟨(some 71), .load false 1 (.t 70), []⟩,
  .s ⟨(some 72), .mv (.t 6), []⟩,
  .s ⟨(some 73), .idx 1 (.t 71) (.t 72), []⟩,
  .s ⟨(some 74), .load false 1 (.t 73), []⟩,
  .s ⟨(some 75), .mv (.t 1), []⟩,
  .s ⟨(some 76), .mv (.t 5), []⟩,
  .s ⟨(some 77), .idx 3 (.t 75) (.t 76), []⟩,
  .s ⟨(some 78), .faddr 2 (.t 77), []⟩,
  .s ⟨(some 79), .load false 1 (.t 78), []⟩,
  .s ⟨(some 80), .mv (.t 6), []⟩,
  .s ⟨(some 81), .idx 1 (.t 79) (.t 80), []⟩,
  .s ⟨(some 82), .load false 1 (.t 81), []⟩,
  .s ⟨(some 83), .bin .neq (.t 74) (.t 82), []⟩])
 (.cond (.t 83) (.seq (.reg [.s ⟨(some 4), .mv (.c (.bool false)), []⟩])
 .ret)
 .skip)))
 (.reg [.s ⟨(some 65), .mv (.t 6), []⟩,
  .s ⟨(some 66), .bin .add (.t 65) (.c (.int .i64 1)), []⟩,
  .s ⟨(some 6), .mv (.t 66), []⟩]))))))))
 (.reg [.s ⟨(some 16), .mv (.t 5), []⟩,
  .s ⟨(some 17), .bin .add (.t 16) (.c (.int .i64 1)), []⟩,
  .s ⟨(some 5), .mv (.t 17), []⟩]))))))
 (.seq (.reg [.s ⟨(some 4), .mv (.c (.bool true)), []⟩])
 .ret))))⟩
theorem s15 : slimF Try.prog Try.f15 = some a15.fn := by kernel_rfl
def a16 : XFun := ⟨79, [.t 6, .t 7],
 (.seq (.reg [.s ⟨(some 6), .mv (.c (.slice none 0 0)), []⟩,
  .s ⟨(some 7), .mv (.c (.int .i64 0)), []⟩])
 (.seq (.seq (.reg [.s ⟨(some 16), .mv (.t 1), []⟩,
  .s ⟨(some 17), .mv (.t 2), []⟩,
  .s ⟨(some 18), .call 17 [(.t 16), (.t 17)], []⟩,
  .s ⟨(some 19), .un .not (.t 18), []⟩])
 (.cond (.t 19) (.seq (.reg [.s ⟨(some 6), .mv (.c (.slice none 0 0)), []⟩,
  .s ⟨(some 7), .mv (.c (.int .i64 1)), []⟩])
 .ret)
 .skip))
 (.seq (.reg [.s ⟨(some 20), .mv (.t 0), []⟩,
  .s ⟨(some 21), .mv (.t 1), []⟩,
  .s ⟨(some 22), .lenL (.t 21), []⟩,
  .s ⟨(some 23), .cint .u64 (.t 22), []⟩,
  .s ⟨(some 24), .call 26 [(.t 20), (.t 23)], []⟩,
  .s ⟨(some 25), .build [(.slice none 0 0)] [(0, 1, (.t 24))], []⟩,
  .s ⟨(some 26), .box 75 (.t 25), []⟩,
  .s ⟨(some 8), .mv (.t 26), []⟩])
 (.seq (.reg [.s ⟨(some 9), .mv (.c (.int .i64 0)), []⟩])
 (.seq (.seq (.reg [.s ⟨(some 27), .mv (.t 1), []⟩,
  .s ⟨(some 28), .lenL (.t 27), []⟩,
  .s ⟨(some 29), .mv (.c (.int .i64 0)), []⟩])
 (.block 0 (.loop (.seq (.reg [.s ⟨(some 30), .bin .lss (.t 29) (.t 28), []⟩])
 (.seq (.cond (.t 30) .skip
 (.exit 0))
 (.seq (.block 1 (.seq (.reg [.s ⟨(some 31), .idx 5 (.t 27) (.t 29), []⟩,
  .s ⟨(some 32), .load true 5 (.t 31), []⟩,
  .s ⟨(some 11), .alloc 50 [(.string ⟨#[]⟩), (.int .i64 0), (.int .i64 0), (.slice none 0 0), (.slice none 0 0)], []⟩,
  .s ⟨none, .store 5 (.t 11) (.t 32), []⟩])
 (.seq (.reg [.s ⟨(some 33), .mv (.t 8), []⟩,
  .s ⟨(some 34), .load true 5 (.t 11), []⟩,
  .s ⟨(some 35), .mv (.t 9), []⟩,
  .s ⟨(some 36), .call 27 [(.t 33), (.t 34), (.t 35)], []⟩])
 (.reg [.s ⟨(some 37), .faddr 2 (.t 11), []⟩,
  .s ⟨(some 38), .load false 1 (.t 37), []⟩,
  .s ⟨(some 9), .mv (.t 38), []⟩]))))
 (.reg [.s ⟨(some 39), .bin .add (.t 29) (.c (.int .i64 1)), []⟩,
  .s ⟨(some 29), .mv (.t 39), []⟩])))))))
 (.seq (.reg [.s ⟨(some 40), .mv (.t 8), []⟩,
  .s ⟨(some 41), .mv (.t 2), []⟩,
  .s ⟨(some 42), .lenL (.t 41), []⟩,
  .s ⟨(some 43), .call 28 [(.t 40), (.t 42)], []⟩])
 (.seq (.seq (.reg [.s ⟨(some 44), .mv (.t 2), []⟩,
  .s ⟨(some 45), .lenL (.t 44), []⟩,
  .s ⟨(some 46), .mv (.c (.int .i64 0)), []⟩])
 (.block 2 (.loop (.seq (.reg [.s ⟨(some 47), .bin .lss (.t 46) (.t 45), []⟩])
 (.seq (.cond (.t 47) .skip
 (.exit 2))
 (.seq (.block 3 (.seq (.reg [.s ⟨(some 48), .idx 3 (.t 44) (.t 46), []⟩,
  .s ⟨(some 49), .load true 3 (.t 48), []⟩,
  .s ⟨(some 13), .alloc 59 [(.int .i64 0), (.int .i64 0), (.slice none 0 0)], []⟩,
  .s ⟨none, .store 3 (.t 13) (.t 49), []⟩])
 (.seq (.reg [.s ⟨(some 50), .mv (.t 8), []⟩,
  .s ⟨(some 51), .faddr 0 (.t 13), []⟩,
  .s ⟨(some 52), .load false 1 (.t 51), []⟩,
  .s ⟨(some 53), .call 28 [(.t 50), (.t 52)], []⟩])
 (.seq (.reg [.s ⟨(some 54), .mv (.t 8), []⟩,
  .s ⟨(some 55), .faddr 1 (.t 13), []⟩,
  .s ⟨(some 56), .load false 1 (.t 55), []⟩,
  .s ⟨(some 57), .call 28 [(.t 54), (.t 56)], []⟩])
 (.seq (.reg [.s ⟨(some 58), .mv (.t 8), []⟩,
  .s ⟨(some 59), .faddr 2 (.t 13), []⟩,
  .s ⟨(some 60), .load false 1 (.t 59), []⟩,
  .s ⟨(some 61), .lenL (.t 60), []⟩,
  .s ⟨(some 62), .call 28 [(.t 58), (.t 61)], []⟩])
 (.seq (.reg [.s ⟨(some 63), .faddr 2 (.t 13), []⟩,
  .s ⟨(some 64), .load false 1 (.t 63), []⟩,
  .s ⟨(some 65), .lenL (.t 64), []⟩,
  .s ⟨(some 66), .mv (.c (.int .i64 0)), []⟩])
 (.block 4 (.loop (.seq (.reg [.s ⟨(some 67), .bin .lss (.t 66) (.t 65), []⟩])
 (.seq (.cond (.t 67) .skip
 (.exit 4))
 (.seq (.block 5 (.seq (.reg [.s ⟨(some 68), .idx 1 (.t 64) (.t 66), []⟩,
  .s ⟨(some 69), .load false 1 (.t 68), []⟩,
  .s ⟨(some 15), .mv (.t 69), []⟩])
 (.reg [.s ⟨(some 70), .mv (.t 8), []⟩,
  .s ⟨(some 71), .mv (.t 15), []⟩,
  .s ⟨(some 72), .call 28 [(.t 70), (.t 71)], []⟩])))
 (.reg [.s ⟨(some 73), .bin .add (.t 66) (.c (.int .i64 1)), []⟩,
  .s ⟨(some 66), .mv (.t 73), []⟩]))))))))))))
 (.reg [.s ⟨(some 74), .bin .add (.t 46) (.c (.int .i64 1)), []⟩,
  .s ⟨(some 46), .mv (.t 74), []⟩])))))))
 (.seq (.reg [.s ⟨(some 75), .mv (.t 8), []⟩,
  .s ⟨(some 76), .nilchk (.t 75), []⟩,
  .s ⟨(some 77), .faddr 0 (.t 76), []⟩,
  .s ⟨(some 78), .load false 1 (.t 77), []⟩,
  .s ⟨(some 6), .mv (.t 78), []⟩,
  .s ⟨(some 7), .mv (.c (.int .i64 0)), []⟩])
 .ret))))))))⟩
theorem s16 : slimF Try.prog Try.f16 = some a16.fn := by kernel_rfl
def a17 : XFun := ⟨42, [.t 4],
 (.seq (.reg [.s ⟨(some 4), .mv (.c (.bool false)), []⟩])
 (.seq (.reg [.s ⟨(some 5), .mv (.c (.int .i64 0)), []⟩])
 (.seq (.seq (.reg [.s ⟨(some 10), .mv (.t 0), []⟩,
  .s ⟨(some 11), .lenL (.t 10), []⟩,
  .s ⟨(some 12), .mv (.c (.int .i64 0)), []⟩])
 (.block 0 (.loop (.seq (.reg [.s ⟨(some 13), .bin .lss (.t 12) (.t 11), []⟩])
 (.seq (.cond (.t 13) .skip
 (.exit 0))
 (.seq (.block 1 (.seq (.reg [.s ⟨(some 14), .idx 5 (.t 10) (.t 12), []⟩,
  .s ⟨(some 15), .load true 5 (.t 14), []⟩,
  .s ⟨(some 7), .alloc 50 [(.string ⟨#[]⟩), (.int .i64 0), (.int .i64 0), (.slice none 0 0), (.slice none 0 0)], []⟩,
  .s ⟨none, .store 5 (.t 7) (.t 15), []⟩])
 (.seq (.seq (.reg [.s ⟨(some 16), .load true 5 (.t 7), []⟩,
  .s ⟨(some 17), .mv (.t 5), []⟩,
  .s ⟨(some 18), .call 29 [(.t 16), (.t 17)], []⟩,
  .s ⟨(some 19), .un .not (.t 18), []⟩])
 (.cond (.t 19) (.seq (.reg [.s ⟨(some 4), .mv (.c (.bool false)), []⟩])
 .ret)
 .skip))
 (.reg [.s ⟨(some 20), .faddr 2 (.t 7), []⟩,
  .s ⟨(some 21), .load false 1 (.t 20), []⟩,
  .s ⟨(some 5), .mv (.t 21), []⟩]))))
 (.reg [.s ⟨(some 22), .bin .add (.t 12) (.c (.int .i64 1)), []⟩,
  .s ⟨(some 12), .mv (.t 22), []⟩])))))))
 (.seq (.seq (.reg [.s ⟨(some 23), .mv (.t 1), []⟩,
  .s ⟨(some 24), .lenL (.t 23), []⟩,
  .s ⟨(some 25), .mv (.c (.int .i64 0)), []⟩])
 (.block 2 (.loop (.seq (.reg [.s ⟨(some 26), .bin .lss (.t 25) (.t 24), []⟩])
 (.seq (.cond (.t 26) .skip
 (.exit 2))
 (.seq (.block 3 (.seq (.reg [.s ⟨(some 27), .idx 3 (.t 23) (.t 25), []⟩,
  .s ⟨(some 28), .load true 3 (.t 27), []⟩,
  .s ⟨(some 9), .alloc 59 [(.int .i64 0), (.int .i64 0), (.slice none 0 0)], []⟩,
  .s ⟨none, .store 3 (.t 9) (.t 28), []⟩])
 (.seq (.reg [.s ⟨(some 29), .load true 3 (.t 9), []⟩,
  .s ⟨(some 30), .mv (.t 0), []⟩,
  .s ⟨(some 31), .call 30 [(.t 29), (.t 30)], []⟩,
  .s ⟨(some 32), .un .not (.t 31), []⟩])
 (.cond (.t 32) (.seq (.reg [.s ⟨(some 4), .mv (.c (.bool false)), []⟩])
 .ret)
 .skip))))
 (.reg [.s ⟨(some 33), .bin .add (.t 25) (.c (.int .i64 1)), []⟩,
  .s ⟨(some 25), .mv (.t 33), []⟩])))))))
 (.seq (.reg [.s ⟨(some 34), .mv (.t 0), []⟩,
  .s ⟨(some 35), .lenL (.t 34), []⟩,
  .s ⟨(some 36), .bin .leq (.t 35) (.c (.int .i64 64)), []⟩,
  .s ⟨(some 37), .mv (.t 36), []⟩,
  .g 37 true [⟨(some 38), .mv (.t 1), []⟩,
   ⟨(some 39), .lenL (.t 38), []⟩,
   ⟨(some 40), .bin .leq (.t 39) (.c (.int .i64 1000)), []⟩],
  .s ⟨(some 41), .pick (.t 37) (.t 40) (.c (.bool false)), []⟩,
  .s ⟨(some 4), .mv (.t 41), []⟩])
 .ret)))))⟩
theorem s17 : slimF Try.prog Try.f17 = some a17.fn := by kernel_rfl
def a18 : XFun := ⟨44, [.t 4, .t 5, .t 6, .t 7],
 (.seq (.reg [.s ⟨(some 4), .mv (.c (.slice none 0 0)), []⟩,
  .s ⟨(some 5), .mv (.c (.slice none 0 0)), []⟩,
  .s ⟨(some 6), .mv (.c (.int .i64 0)), []⟩,
  .s ⟨(some 7), .mv (.c (.int .i64 0)), []⟩])
 (.seq (.seq (.reg [.s ⟨(some 10), .mv (.t 1), []⟩,
  .s ⟨(some 11), .bin .lss (.t 10) (.c (.int .i64 0)), []⟩,
  .s ⟨(some 12), .mv (.t 11), []⟩,
  .g 12 false [⟨(some 13), .mv (.t 1), []⟩,
   ⟨(some 14), .mv (.t 0), []⟩,
   ⟨(some 15), .lenL (.t 14), []⟩,
   ⟨(some 16), .bin .gtr (.t 13) (.t 15), []⟩],
  .s ⟨(some 17), .pick (.t 12) (.c (.bool true)) (.t 16), []⟩])
 (.cond (.t 17) (.seq (.reg [.s ⟨(some 4), .mv (.c (.slice none 0 0)), []⟩,
  .s ⟨(some 5), .mv (.c (.slice none 0 0)), []⟩,
  .s ⟨(some 6), .mv (.c (.int .i64 0)), []⟩,
  .s ⟨(some 7), .mv (.c (.int .i64 1)), []⟩])
 .ret)
 .skip))
 (.seq (.reg [.s ⟨(some 18), .mv (.t 0), []⟩,
  .s ⟨(some 19), .mv (.t 1), []⟩,
  .s ⟨(some 20), .build [(.slice none 0 0), (.int .i64 0), (.bool false)] [(0, 1, (.t 18)), (1, 1, (.t 19))], []⟩,
  .s ⟨(some 21), .box 82 (.t 20), []⟩,
  .s ⟨(some 8), .alloc 80 [(.pointer none)], []⟩,
  .s ⟨none, .store 1 (.t 8) (.t 21), []⟩])
 (.seq (.reg [.s ⟨(some 9), .alloc 3 [(.int .i64 0)], []⟩,
  .s ⟨none, .store 1 (.t 9) (.c (.int .i64 0)), []⟩])
 (.seq (.reg [.s ⟨(some 22), .load false 1 (.t 8), []⟩,
  .s ⟨(some 23), .mkfn (.func 32) [] [(.t 8), (.t 9)], []⟩,
  .s ⟨(some 24), .call 31 [(.t 22), (.c (.int .i64 64)), (.t 23)], []⟩,
  .s ⟨(some 4), .mv (.t 24), []⟩])
 (.seq (.reg [.s ⟨(some 25), .load false 1 (.t 8), []⟩,
  .s ⟨(some 26), .mkfn (.func 40) [] [(.t 8)], []⟩,
  .s ⟨(some 27), .call 39 [(.t 25), (.c (.int .i64 1000)), (.t 26)], []⟩,
  .s ⟨(some 5), .mv (.t 27), []⟩])
 (.seq (.seq (.reg [.s ⟨(some 28), .load false 1 (.t 8), []⟩,
  .s ⟨(some 29), .nilchk (.t 28), []⟩,
  .s ⟨(some 30), .faddr 2 (.t 29), []⟩,
  .s ⟨(some 31), .load false 1 (.t 30), []⟩,
  .s ⟨(some 32), .mv (.t 31), []⟩,
  .g 32 false [⟨(some 33), .mv (.t 4), []⟩,
   ⟨(some 34), .mv (.t 5), []⟩,
   ⟨(some 35), .call 17 [(.t 33), (.t 34)], []⟩,
   ⟨(some 36), .un .not (.t 35), []⟩],
  .s ⟨(some 37), .pick (.t 32) (.c (.bool true)) (.t 36), []⟩])
 (.cond (.t 37) (.seq (.reg [.s ⟨(some 4), .mv (.c (.slice none 0 0)), []⟩,
  .s ⟨(some 5), .mv (.c (.slice none 0 0)), []⟩,
  .s ⟨(some 6), .mv (.c (.int .i64 0)), []⟩,
  .s ⟨(some 7), .mv (.c (.int .i64 5)), []⟩])
 .ret)
 .skip))
 (.seq (.par [.s ⟨(some 38), .mv (.t 4), []⟩,
  .s ⟨(some 39), .mv (.t 5), []⟩,
  .s ⟨(some 40), .load false 1 (.t 8), []⟩,
  .s ⟨(some 41), .nilchk (.t 40), []⟩,
  .s ⟨(some 42), .faddr 1 (.t 41), []⟩,
  .s ⟨(some 43), .load false 1 (.t 42), []⟩,
  .s ⟨(some 4), .mv (.t 38), [⟨none, (some 43), .load false 1 (.t 42)⟩, ⟨none, (some 40), .load false 1 (.t 8)⟩]⟩,
  .s ⟨(some 5), .mv (.t 39), [⟨none, (some 43), .load false 1 (.t 42)⟩, ⟨none, (some 40), .load false 1 (.t 8)⟩]⟩,
  .s ⟨(some 6), .mv (.t 43), []⟩,
  .s ⟨(some 7), .mv (.c (.int .i64 0)), []⟩])
 .ret))))))))⟩
theorem s18 : slimF Try.prog Try.f18 = some a18.fn := by kernel_rfl
def a19 : XFun := ⟨18, [.t 2],
 (.seq (.reg [.s ⟨(some 2), .mv (.c (.slice none 0 0)), []⟩])
 (.seq (.reg [.s ⟨(some 3), .mv (.c (.slice none 0 0)), []⟩])
 (.seq (.seq (.reg [.s ⟨(some 6), .mv (.t 0), []⟩,
  .s ⟨(some 7), .lenL (.t 6), []⟩,
  .s ⟨(some 8), .mv (.c (.int .i64 0)), []⟩])
 (.block 0 (.loop (.seq (.reg [.s ⟨(some 9), .bin .lss (.t 8) (.t 7), []⟩])
 (.seq (.cond (.t 9) .skip
 (.exit 0))
 (.seq (.block 1 (.seq (.reg [.s ⟨(some 10), .idx 1 (.t 6) (.t 8), []⟩,
  .s ⟨(some 11), .load false 1 (.t 10), []⟩,
  .s ⟨(some 5), .mv (.t 11), []⟩])
 (.reg [.s ⟨(some 12), .mv (.t 3), []⟩,
  .s ⟨(some 13), .mv (.t 5), []⟩,
  .s ⟨(some 14), .bslice 5 1 [(.int .u8 0)] [(0, 1, (.t 13))], []⟩,
  .s ⟨(some 15), .app 5 1 1 (.t 12) (.t 14), []⟩,
  .s ⟨(some 3), .mv (.t 15), []⟩])))
 (.reg [.s ⟨(some 16), .bin .add (.t 8) (.c (.int .i64 1)), []⟩,
  .s ⟨(some 8), .mv (.t 16), []⟩])))))))
 (.seq (.reg [.s ⟨(some 17), .mv (.t 3), []⟩,
  .s ⟨(some 2), .mv (.t 17), []⟩])
 .ret))))⟩
theorem s19 : slimF Try.prog Try.f19 = some a19.fn := by kernel_rfl
def a20 : XFun := ⟨35, [.t 4],
 (.seq (.reg [.s ⟨(some 4), .mv (.c (.bool false)), []⟩])
 (.seq (.seq (.reg [.s ⟨(some 7), .mv (.t 0), []⟩,
  .s ⟨(some 8), .lenL (.t 7), []⟩,
  .s ⟨(some 9), .mv (.t 1), []⟩,
  .s ⟨(some 10), .lenL (.t 9), []⟩,
  .s ⟨(some 11), .bin .gtr (.t 8) (.t 10), []⟩])
 (.cond (.t 11) (.seq (.reg [.s ⟨(some 12), .mv (.t 1), []⟩,
  .s ⟨(some 13), .mv (.t 0), []⟩,
  .s ⟨(some 14), .call 20 [(.t 12), (.t 13)], []⟩,
  .s ⟨(some 4), .mv (.t 14), []⟩])
 .ret)
 .skip))
 (.seq (.seq (.reg [.s ⟨(some 15), .mv (.t 1), []⟩,
  .s ⟨(some 16), .lenL (.t 15), []⟩,
  .s ⟨(some 17), .mv (.c (.int .i64 0)), []⟩])
 (.block 0 (.loop (.seq (.reg [.s ⟨(some 18), .bin .lss (.t 17) (.t 16), []⟩])
 (.seq (.cond (.t 18) .skip
 (.exit 0))
 (.seq (.block 1 (.seq (.reg [.s ⟨(some 19), .mv (.t 17), []⟩,
  .s ⟨(some 20), .idx 1 (.t 15) (.t 17), []⟩,
  .s ⟨(some 21), .load false 1 (.t 20), []⟩,
  .s ⟨(some 5), .mv (.t 19), []⟩,
  .s ⟨(some 6), .mv (.t 21), []⟩])
 (.seq (.reg [.s ⟨(some 22), .mv (.t 5), []⟩,
  .s ⟨(some 23), .mv (.t 0), []⟩,
  .s ⟨(some 24), .lenL (.t 23), []⟩,
  .s ⟨(some 25), .bin .geq (.t 22) (.t 24), []⟩,
  .s ⟨(some 26), .mv (.t 25), []⟩,
  .g 26 false [⟨(some 27), .mv (.t 0), []⟩,
   ⟨(some 28), .mv (.t 5), []⟩,
   ⟨(some 29), .idx 1 (.t 27) (.t 28), []⟩,
   ⟨(some 30), .load false 1 (.t 29), []⟩,
   ⟨(some 31), .mv (.t 6), []⟩,
   ⟨(some 32), .bin .neq (.t 30) (.t 31), []⟩],
  .s ⟨(some 33), .pick (.t 26) (.c (.bool true)) (.t 32), []⟩])
 (.cond (.t 33) (.seq (.reg [.s ⟨(some 4), .mv (.c (.bool false)), []⟩])
 .ret)
 .skip))))
 (.reg [.s ⟨(some 34), .bin .add (.t 17) (.c (.int .i64 1)), []⟩,
  .s ⟨(some 17), .mv (.t 34), []⟩])))))))
 (.seq (.reg [.s ⟨(some 4), .mv (.c (.bool true)), []⟩])
 .ret))))⟩
theorem s20 : slimF Try.prog Try.f20 = some a20.fn := by kernel_rfl
def a21 : XFun := ⟨38, [.t 2],
 (.seq (.reg [.s ⟨(some 2), .mv (.c (.bool false)), []⟩])
 (.seq (.reg [.s ⟨(some 3), .mv (.c (.int .i64 0)), []⟩])
 (.seq (.seq (.reg [.s ⟨(some 4), .mv (.c (.int .i64 0)), []⟩])
 (.block 0 (.loop (.seq (.seq (.reg [.s ⟨(some 5), .mv (.t 4), []⟩,
  .s ⟨(some 6), .mv (.t 0), []⟩,
  .s ⟨(some 7), .lenL (.t 6), []⟩,
  .s ⟨(some 8), .bin .lss (.t 5) (.t 7), []⟩,
  .s ⟨(some 9), .mv (.t 8), []⟩,
  .g 9 true [⟨(some 10), .mv (.t 4), []⟩,
   ⟨(some 11), .bin .leq (.t 10) (.c (.int .i64 5000)), []⟩],
  .s ⟨(some 12), .pick (.t 9) (.t 11) (.c (.bool false)), []⟩])
 (.cond (.t 12) .skip
 (.exit 0)))
 (.seq (.block 1 (.seq (.reg [.s ⟨(some 15), .mv (.t 3), []⟩,
  .s ⟨(some 16), .mv (.t 0), []⟩,
  .s ⟨(some 17), .mv (.t 4), []⟩,
  .s ⟨(some 18), .idx 3 (.t 16) (.t 17), []⟩,
  .s ⟨(some 19), .faddr 2 (.t 18), []⟩,
  .s ⟨(some 20), .load false 1 (.t 19), []⟩,
  .s ⟨(some 21), .lenL (.t 20), []⟩,
  .s ⟨(some 22), .minmax false (.t 21) [(.c (.int .i64 1000))], []⟩,
  .s ⟨(some 23), .bin .add (.t 15) (.t 22), []⟩,
  .s ⟨(some 3), .mv (.t 23), []⟩])
 (.seq (.reg [.s ⟨(some 24), .mv (.t 0), []⟩,
  .s ⟨(some 25), .mv (.t 4), []⟩,
  .s ⟨(some 26), .idx 3 (.t 24) (.t 25), []⟩,
  .s ⟨(some 27), .faddr 2 (.t 26), []⟩,
  .s ⟨(some 28), .load false 1 (.t 27), []⟩,
  .s ⟨(some 29), .lenL (.t 28), []⟩,
  .s ⟨(some 30), .bin .gtr (.t 29) (.c (.int .i64 1000)), []⟩])
 (.cond (.t 30) (.seq (.reg [.s ⟨(some 2), .mv (.c (.bool true)), []⟩])
 .ret)
 .skip))))
 (.reg [.s ⟨(some 13), .mv (.t 4), []⟩,
  .s ⟨(some 14), .bin .add (.t 13) (.c (.int .i64 1)), []⟩,
  .s ⟨(some 4), .mv (.t 14), []⟩]))))))
 (.seq (.reg [.s ⟨(some 31), .mv (.t 0), []⟩,
  .s ⟨(some 32), .lenL (.t 31), []⟩,
  .s ⟨(some 33), .bin .gtr (.t 32) (.c (.int .i64 5000)), []⟩,
  .s ⟨(some 34), .mv (.t 33), []⟩,
  .g 34 false [⟨(some 35), .mv (.t 3), []⟩,
   ⟨(some 36), .bin .gtr (.t 35) (.c (.int .i64 20000)), []⟩],
  .s ⟨(some 37), .pick (.t 34) (.c (.bool true)) (.t 36), []⟩,
  .s ⟨(some 2), .mv (.t 37), []⟩])
 .ret))))⟩
theorem s21 : slimF Try.prog Try.f21 = some a21.fn := by kernel_rfl
def a22 : XFun := ⟨19, [.c 0 true 2],
 (.seq (.reg [.s ⟨(some 0), .alloc 25 [(.slice none 0 0), (.slice none 0 0)], []⟩])
 (.seq (.reg [.s ⟨(some 3), .build [(.int .u8 0), (.int .i64 0), (.string ⟨#[]⟩)] [(0, 1, (.c (.int .u8 1)))], []⟩,
  .s ⟨(some 4), .build [(.string ⟨#[]⟩), (.int .u8 0), (.int .i64 0), (.string ⟨#[]⟩), (.int .i64 0), (.slice none 0 0)] [(0, 1, (.c (.string ⟨#[120]⟩))), (1, 3, (.t 3)), (4, 1, (.c (.int .i64 1)))], []⟩,
  .s ⟨(some 1), .alloc 64 [(.string ⟨#[]⟩), (.int .u8 0), (.int .i64 0), (.string ⟨#[]⟩), (.int .i64 0), (.slice none 0 0)], []⟩,
  .s ⟨none, .store 6 (.t 1) (.t 4), []⟩])
 (.seq (.reg [.s ⟨(some 5), .build [(.int .u8 0), (.int .i64 0)] [(0, 1, (.c (.int .u8 2))), (1, 1, (.c (.int .i64 1)))], []⟩,
  .s ⟨(some 6), .bslice 52 1 [(.int .u8 0), (.int .i64 0)] [(0, 2, (.t 5))], []⟩,
  .s ⟨(some 7), .build [(.int .i64 0), (.int .i64 0), (.slice none 0 0)] [(0, 1, (.c (.int .i64 2))), (1, 1, (.c (.int .i64 5))), (2, 1, (.t 6))], []⟩,
  .s ⟨(some 8), .bslice 55 1 [(.int .i64 0), (.int .i64 0), (.slice none 0 0)] [(0, 3, (.t 7))], []⟩,
  .s ⟨(some 2), .mv (.t 8), []⟩])
 (.seq (.reg [.s ⟨(some 9), .load true 6 (.t 1), []⟩,
  .s ⟨(some 10), .bslice 64 1 [(.string ⟨#[]⟩), (.int .u8 0), (.int .i64 0), (.string ⟨#[]⟩), (.int .i64 0), (.slice none 0 0)] [(0, 6, (.t 9))], []⟩,
  .s ⟨(some 11), .mv (.t 2), []⟩,
  .s ⟨(some 12), .bslice 56 1 [(.slice none 0 0)] [(0, 1, (.t 11))], []⟩,
  .s ⟨(some 13), .build [(.string ⟨#[]⟩), (.int .i64 0), (.int .i64 0), (.slice none 0 0), (.slice none 0 0)] [(0, 1, (.c (.string ⟨#[102]⟩))), (1, 1, (.c (.int .i64 0))), (2, 1, (.c (.int .i64 9))), (3, 1, (.t 10)), (4, 1, (.t 12))], []⟩,
  .s ⟨(some 14), .bslice 50 1 [(.string ⟨#[]⟩), (.int .i64 0), (.int .i64 0), (.slice none 0 0), (.slice none 0 0)] [(0, 5, (.t 13))], []⟩,
  .s ⟨(some 15), .bslice 3 1 [(.int .i64 0)] [(0, 1, (.c (.int .i64 0)))], []⟩,
  .s ⟨(some 16), .build [(.int .i64 0), (.int .i64 0), (.slice none 0 0)] [(0, 1, (.c (.int .i64 0))), (1, 1, (.c (.int .i64 3))), (2, 1, (.t 15))], []⟩,
  .s ⟨(some 17), .bslice 59 1 [(.int .i64 0), (.int .i64 0), (.slice none 0 0)] [(0, 3, (.t 16))], []⟩,
  .s ⟨(some 18), .build [(.slice none 0 0), (.slice none 0 0)] [(0, 1, (.t 14)), (1, 1, (.t 17))], []⟩,
  .s ⟨none, .store 2 (.t 0) (.t 18), []⟩])
 .ret))))⟩
theorem s22 : slimF Try.prog Try.f22 = some a22.fn := by kernel_rfl
def a23 : XFun := ⟨32, [.t 2],
 (.seq (.reg [.s ⟨(some 2), .mv (.c (.slice none 0 0)), []⟩])
 (.seq (.reg [.s ⟨(some 3), .mv (.c (.slice none 0 0)), []⟩])
 (.seq (.seq (.reg [.s ⟨(some 4), .mv (.c (.int .i64 0)), []⟩])
 (.block 0 (.loop (.seq (.seq (.reg [.s ⟨(some 5), .mv (.t 4), []⟩,
  .s ⟨(some 6), .mv (.t 0), []⟩,
  .s ⟨(some 7), .lenL (.t 6), []⟩,
  .s ⟨(some 8), .bin .lss (.t 5) (.t 7), []⟩])
 (.cond (.t 8) .skip
 (.exit 0)))
 (.seq (.block 1 (.par [.s ⟨(some 11), .mv (.t 3), []⟩,
  .s ⟨(some 12), .mv (.t 0), []⟩,
  .s ⟨(some 13), .mv (.t 4), []⟩,
  .s ⟨(some 14), .idx 3 (.t 12) (.t 13), []⟩,
  .s ⟨(some 15), .faddr 0 (.t 14), []⟩,
  .s ⟨(some 16), .load false 1 (.t 15), []⟩,
  .s ⟨(some 17), .mv (.t 0), []⟩,
  .s ⟨(some 18), .mv (.t 4), []⟩,
  .s ⟨(some 19), .idx 3 (.t 17) (.t 18), []⟩,
  .s ⟨(some 20), .faddr 1 (.t 19), []⟩,
  .s ⟨(some 21), .load false 1 (.t 20), []⟩,
  .s ⟨(some 22), .mv (.t 0), []⟩,
  .s ⟨(some 23), .mv (.t 4), []⟩,
  .s ⟨(some 24), .idx 3 (.t 22) (.t 23), []⟩,
  .s ⟨(some 25), .faddr 2 (.t 24), []⟩,
  .s ⟨(some 26), .load false 1 (.t 25), []⟩,
  .s ⟨(some 27), .call 43 [(.t 26)], [⟨none, (some 21), .load false 1 (.t 20)⟩, ⟨none, (some 16), .load false 1 (.t 15)⟩]⟩,
  .s ⟨(some 28), .build [(.int .i64 0), (.int .i64 0), (.slice none 0 0)] [(0, 1, (.t 16)), (1, 1, (.t 21)), (2, 1, (.t 27))], []⟩,
  .s ⟨(some 29), .bslice 55 1 [(.int .i64 0), (.int .i64 0), (.slice none 0 0)] [(0, 3, (.t 28))], []⟩,
  .s ⟨(some 30), .app 55 3 40 (.t 11) (.t 29), []⟩,
  .s ⟨(some 3), .mv (.t 30), []⟩]))
 (.reg [.s ⟨(some 9), .mv (.t 4), []⟩,
  .s ⟨(some 10), .bin .add (.t 9) (.c (.int .i64 1)), []⟩,
  .s ⟨(some 4), .mv (.t 10), []⟩]))))))
 (.seq (.reg [.s ⟨(some 31), .mv (.t 3), []⟩,
  .s ⟨(some 2), .mv (.t 31), []⟩])
 .ret))))⟩
theorem s23 : slimF Try.prog Try.f23 = some a23.fn := by kernel_rfl
def a24 : XFun := ⟨52, [.t 4],
 (.seq (.reg [.s ⟨(some 2), .box 64 (.t 0), []⟩,
  .s ⟨(some 3), .box 64 (.t 1), []⟩,
  .s ⟨(some 4), .mv (.c (.bool false)), []⟩])
 (.seq (.seq (.reg [.s ⟨(some 6), .faddr 0 (.t 2), []⟩,
  .s ⟨(some 7), .load false 1 (.t 6), []⟩,
  .s ⟨(some 8), .faddr 0 (.t 3), []⟩,
  .s ⟨(some 9), .load false 1 (.t 8), []⟩,
  .s ⟨(some 10), .bin .neq (.t 7) (.t 9), []⟩,
  .s ⟨(some 11), .mv (.t 10), []⟩,
  .g 11 false [⟨(some 12), .faddr 1 (.t 2), []⟩,
   ⟨(some 13), .load true 3 (.t 12), []⟩,
   ⟨(some 14), .faddr 1 (.t 3), []⟩,
   ⟨(some 15), .load true 3 (.t 14), []⟩,
   ⟨(some 16), .aeq true [0, 0, 2] (.t 13) (.t 15), []⟩],
  .s ⟨(some 17), .pick (.t 11) (.c (.bool true)) (.t 16), []⟩,
  .s ⟨(some 18), .mv (.t 17), []⟩,
  .g 18 false [⟨(some 19), .faddr 4 (.t 2), []⟩,
   ⟨(some 20), .load false 1 (.t 19), []⟩,
   ⟨(some 21), .faddr 4 (.t 3), []⟩,
   ⟨(some 22), .load false 1 (.t 21), []⟩,
   ⟨(some 23), .bin .neq (.t 20) (.t 22), []⟩],
  .s ⟨(some 24), .pick (.t 18) (.c (.bool true)) (.t 23), []⟩,
  .s ⟨(some 25), .mv (.t 24), []⟩,
  .g 25 false [⟨(some 26), .faddr 5 (.t 2), []⟩,
   ⟨(some 27), .load false 1 (.t 26), []⟩,
   ⟨(some 28), .lenL (.t 27), []⟩,
   ⟨(some 29), .faddr 5 (.t 3), []⟩,
   ⟨(some 30), .load false 1 (.t 29), []⟩,
   ⟨(some 31), .lenL (.t 30), []⟩,
   ⟨(some 32), .bin .neq (.t 28) (.t 31), []⟩],
  .s ⟨(some 33), .pick (.t 25) (.c (.bool true)) (.t 32), []⟩])
 (.cond (.t 33) (.seq (.reg [.s ⟨(some 4), .mv (.c (.bool false)), []⟩])
 .ret)
 .skip))
 (.seq (.seq (.reg [.s ⟨(some 5), .mv (.c (.int .i64 0)), []⟩])
 (.block 0 (.loop (.seq (.seq (.reg [.s ⟨(some 34), .mv (.t 5), []⟩,
  .s ⟨(some 35), .faddr 5 (.t 2), []⟩,
  .s ⟨(some 36), .load false 1 (.t 35), []⟩,
  .s ⟨(some 37), .lenL (.t 36), []⟩,
  .s ⟨(some 38), .bin .lss (.t 34) (.t 37), []⟩])
 (.cond (.t 38) .skip
 (.exit 0)))
 (.seq (.block 1 (.seq (.par [.s ⟨(some 41), .faddr 5 (.t 2), []⟩,
  .s ⟨(some 42), .load false 1 (.t 41), []⟩,
  .s ⟨(some 43), .mv (.t 5), []⟩,
  .s ⟨(some 44), .idx 1 (.t 42) (.t 43), []⟩,
  .s ⟨(some 45), .load false 1 (.t 44), []⟩,
  .s ⟨(some 46), .faddr 5 (.t 3), []⟩,
  .s ⟨(some 47), .load false 1 (.t 46), []⟩,
  .s ⟨(some 48), .mv (.t 5), []⟩,
  .s ⟨(some 49), .idx 1 (.t 47) (.t 48), []⟩,
  .s ⟨(some 50), .load false 1 (.t 49), []⟩,
  .s ⟨(some 51), .bin .neq (.t 45) (.t 50), []⟩])
 (.cond (.t 51) (.seq (.reg [.s ⟨(some 4), .mv (.c (.bool false)), []⟩])
 .ret)
 .skip)))
 (.reg [.s ⟨(some 39), .mv (.t 5), []⟩,
  .s ⟨(some 40), .bin .add (.t 39) (.c (.int .i64 1)), []⟩,
  .s ⟨(some 5), .mv (.t 40), []⟩]))))))
 (.seq (.reg [.s ⟨(some 4), .mv (.c (.bool true)), []⟩])
 .ret))))⟩
theorem s24 : slimF Try.prog Try.f24 = some a24.fn := by kernel_rfl
def a25 : XFun := ⟨55, [.t 4],
 (.seq (.reg [.s ⟨(some 4), .mv (.c (.bool false)), []⟩])
 (.seq (.seq (.reg [.s ⟨(some 6), .mv (.t 0), []⟩,
  .s ⟨(some 7), .lenL (.t 6), []⟩,
  .s ⟨(some 8), .mv (.t 1), []⟩,
  .s ⟨(some 9), .lenL (.t 8), []⟩,
  .s ⟨(some 10), .bin .neq (.t 7) (.t 9), []⟩])
 (.cond (.t 10) (.seq (.reg [.s ⟨(some 4), .mv (.c (.bool false)), []⟩])
 .ret)
 .skip))
 (.seq (.seq (.reg [.s ⟨(some 5), .mv (.c (.int .i64 0)), []⟩])
 (.block 0 (.loop (.seq (.seq (.reg [.s ⟨(some 11), .mv (.t 5), []⟩,
  .s ⟨(some 12), .mv (.t 0), []⟩,
  .s ⟨(some 13), .lenL (.t 12), []⟩,
  .s ⟨(some 14), .bin .lss (.t 11) (.t 13), []⟩])
 (.cond (.t 14) .skip
 (.exit 0)))
 (.seq (.block 1 (.seq (.par [.s ⟨(some 17), .mv (.t 0), []⟩,
  .s ⟨(some 18), .mv (.t 5), []⟩,
  .s ⟨(some 19), .idx 3 (.t 17) (.t 18), []⟩,
  .s ⟨(some 20), .faddr 0 (.t 19), []⟩,
  .s ⟨(some 21), .load false 1 (.t 20), []⟩,
  .s ⟨(some 22), .mv (.t 1), []⟩,
  .s ⟨(some 23), .mv (.t 5), []⟩,
  .s ⟨(some 24), .idx 3 (.t 22) (.t 23), []⟩,
  .s ⟨(some 25), .faddr 0 (.t 24), []⟩,
  .s ⟨(some 26), .load false 1 (.t 25), []⟩,
  .s ⟨(some 27), .bin .neq (.t 21) (.t 26), []⟩,
  .s ⟨(some 28), .mv (.t 27), []⟩,
  .g 28 false [⟨(some 29), .mv (.t 0), []⟩,
   ⟨(some 30), .mv (.t 5), []⟩,
   ⟨(some 31), .idx 3 (.t 29) (.t 30), []⟩,
   ⟨(some 32), .faddr 1 (.t 31), []⟩,
   ⟨(some 33), .load false 1 (.t 32), []⟩,
   ⟨(some 34), .mv (.t 1), []⟩,
   ⟨(some 35), .mv (.t 5), []⟩,
   ⟨(some 36), .idx 3 (.t 34) (.t 35), []⟩,
   ⟨(some 37), .faddr 1 (.t 36), []⟩,
   ⟨(some 38), .load false 1 (.t 37), []⟩,
   ⟨(some 39), .bin .neq (.t 33) (.t 38), []⟩],
  .s ⟨(some 40), .pick (.t 28) (.c (.bool true)) (.t 39), []⟩,
  .s ⟨(some 41), .mv (.t 40), []⟩,
  .g 41 false [⟨(some 42), .mv (.t 0), []⟩,
   ⟨(some 43), .mv (.t 5), []⟩,
   ⟨(some 44), .idx 3 (.t 42) (.t 43), []⟩,
   ⟨(some 45), .faddr 2 (.t 44), []⟩,
   ⟨(some 46), .load false 1 (.t 45), []⟩,
   ⟨(some 47), .mv (.t 1), []⟩,
   ⟨(some 48), .mv (.t 5), []⟩,
   ⟨(some 49), .idx 3 (.t 47) (.t 48), []⟩,
   ⟨(some 50), .faddr 2 (.t 49), []⟩,
   ⟨(some 51), .load false 1 (.t 50), []⟩,
   ⟨(some 52), .call 44 [(.t 46), (.t 51)], []⟩,
   ⟨(some 53), .un .not (.t 52), []⟩],
  .s ⟨(some 54), .pick (.t 41) (.c (.bool true)) (.t 53), []⟩])
 (.cond (.t 54) (.seq (.reg [.s ⟨(some 4), .mv (.c (.bool false)), []⟩])
 .ret)
 .skip)))
 (.reg [.s ⟨(some 15), .mv (.t 5), []⟩,
  .s ⟨(some 16), .bin .add (.t 15) (.c (.int .i64 1)), []⟩,
  .s ⟨(some 5), .mv (.t 16), []⟩]))))))
 (.seq (.reg [.s ⟨(some 4), .mv (.c (.bool true)), []⟩])
 .ret))))⟩
theorem s25 : slimF Try.prog Try.f25 = some a25.fn := by kernel_rfl
def a26 : XFun := ⟨23, [.t 4],
 (.seq (.reg [.s ⟨(some 4), .mv (.c (.slice none 0 0)), []⟩])
 (.seq (.reg [.s ⟨(some 6), .mv (.t 0), []⟩,
  .s ⟨(some 7), .call 45 [(.t 6)], []⟩,
  .s ⟨(some 5), .mv (.t 7), []⟩])
 (.seq (.block 0 (.loop (.seq (.seq (.reg [.s ⟨(some 8), .mv (.t 1), []⟩,
  .s ⟨(some 9), .bin .gtr (.t 8) (.c (.int .u64 127)), []⟩])
 (.cond (.t 9) .skip
 (.exit 0)))
 (.block 1 (.seq (.reg [.s ⟨(some 10), .mv (.t 5), []⟩,
  .s ⟨(some 11), .mv (.t 1), []⟩,
  .s ⟨(some 12), .cint .u8 (.t 11), []⟩,
  .s ⟨(some 13), .bin .or (.t 12) (.c (.int .u8 128)), []⟩,
  .s ⟨(some 14), .bslice 5 1 [(.int .u8 0)] [(0, 1, (.t 13))], []⟩,
  .s ⟨(some 15), .app 5 1 1 (.t 10) (.t 14), []⟩,
  .s ⟨(some 5), .mv (.t 15), []⟩])
 (.reg [.s ⟨(some 16), .mv (.t 1), []⟩,
  .s ⟨(some 17), .bin .shr (.t 16) (.c (.int .u64 7)), []⟩,
  .s ⟨(some 1), .mv (.t 17), []⟩]))))))
 (.seq (.reg [.s ⟨(some 18), .mv (.t 5), []⟩,
  .s ⟨(some 19), .mv (.t 1), []⟩,
  .s ⟨(some 20), .cint .u8 (.t 19), []⟩,
  .s ⟨(some 21), .bslice 5 1 [(.int .u8 0)] [(0, 1, (.t 20))], []⟩,
  .s ⟨(some 22), .app 5 1 1 (.t 18) (.t 21), []⟩,
  .s ⟨(some 4), .mv (.t 22), []⟩])
 .ret))))⟩
theorem s26 : slimF Try.prog Try.f26 = some a26.fn := by kernel_rfl
def a27 : XFun := ⟨47, [],
 (.seq (.reg [.s ⟨(some 4), .box 50 (.t 1), []⟩])
 (.seq (.reg [.s ⟨(some 8), .mv (.t 0), []⟩,
  .s ⟨(some 9), .faddr 0 (.t 4), []⟩,
  .s ⟨(some 10), .load false 1 (.t 9), []⟩,
  .s ⟨(some 11), .call 46 [(.t 8), (.t 10)], []⟩])
 (.seq (.reg [.s ⟨(some 12), .mv (.t 0), []⟩,
  .s ⟨(some 13), .faddr 1 (.t 4), []⟩,
  .s ⟨(some 14), .load false 1 (.t 13), []⟩,
  .s ⟨(some 15), .mv (.t 2), []⟩,
  .s ⟨(some 16), .bin .sub (.t 14) (.t 15), []⟩,
  .s ⟨(some 17), .call 28 [(.t 12), (.t 16)], []⟩])
 (.seq (.reg [.s ⟨(some 18), .mv (.t 0), []⟩,
  .s ⟨(some 19), .faddr 2 (.t 4), []⟩,
  .s ⟨(some 20), .load false 1 (.t 19), []⟩,
  .s ⟨(some 21), .faddr 1 (.t 4), []⟩,
  .s ⟨(some 22), .load false 1 (.t 21), []⟩,
  .s ⟨(some 23), .bin .sub (.t 20) (.t 22), []⟩,
  .s ⟨(some 24), .call 28 [(.t 18), (.t 23)], []⟩])
 (.seq (.reg [.s ⟨(some 25), .mv (.t 0), []⟩,
  .s ⟨(some 26), .faddr 3 (.t 4), []⟩,
  .s ⟨(some 27), .load false 1 (.t 26), []⟩,
  .s ⟨(some 28), .lenL (.t 27), []⟩,
  .s ⟨(some 29), .call 28 [(.t 25), (.t 28)], []⟩])
 (.seq (.reg [.s ⟨(some 30), .faddr 3 (.t 4), []⟩,
  .s ⟨(some 31), .load false 1 (.t 30), []⟩,
  .s ⟨(some 32), .lenL (.t 31), []⟩,
  .s ⟨(some 33), .mv (.c (.int .i64 0)), []⟩])
 (.block 0 (.loop (.seq (.reg [.s ⟨(some 34), .bin .lss (.t 33) (.t 32), []⟩])
 (.seq (.cond (.t 34) .skip
 (.exit 0))
 (.seq (.block 1 (.seq (.reg [.s ⟨(some 35), .mv (.t 33), []⟩,
  .s ⟨(some 36), .idx 6 (.t 31) (.t 33), []⟩,
  .s ⟨(some 37), .load true 6 (.t 36), []⟩,
  .s ⟨(some 7), .alloc 64 [(.string ⟨#[]⟩), (.int .u8 0), (.int .i64 0), (.string ⟨#[]⟩), (.int .i64 0), (.slice none 0 0)], []⟩,
  .s ⟨(some 6), .mv (.t 35), []⟩,
  .s ⟨none, .store 6 (.t 7) (.t 37), []⟩])
 (.par [.s ⟨(some 38), .mv (.t 0), []⟩,
  .s ⟨(some 39), .load true 6 (.t 7), []⟩,
  .s ⟨(some 40), .faddr 4 (.t 4), []⟩,
  .s ⟨(some 41), .load false 1 (.t 40), []⟩,
  .s ⟨(some 42), .mv (.t 6), []⟩,
  .s ⟨(some 43), .idx 1 (.t 41) (.t 42), []⟩,
  .s ⟨(some 44), .load false 1 (.t 43), []⟩,
  .s ⟨(some 45), .call 47 [(.t 38), (.t 39), (.t 44)], []⟩])))
 (.reg [.s ⟨(some 46), .bin .add (.t 33) (.c (.int .i64 1)), []⟩,
  .s ⟨(some 33), .mv (.t 46), []⟩]))))))))))))⟩
theorem s27 : slimF Try.prog Try.f27 = some a27.fn := by kernel_rfl
def a28 : XFun := ⟨14, [],
 (.reg [.s ⟨(some 4), .mv (.t 0), []⟩,
  .s ⟨(some 5), .mv (.t 0), []⟩,
  .s ⟨(some 6), .nilchk (.t 5), []⟩,
  .s ⟨(some 7), .faddr 0 (.t 6), []⟩,
  .s ⟨(some 8), .load false 1 (.t 7), []⟩,
  .s ⟨(some 9), .mv (.t 1), []⟩,
  .s ⟨(some 10), .cint .u64 (.t 9), []⟩,
  .s ⟨(some 11), .call 26 [(.t 8), (.t 10)], []⟩,
  .s ⟨(some 12), .nilchk (.t 4), []⟩,
  .s ⟨(some 13), .faddr 0 (.t 12), []⟩,
  .s ⟨none, .store 1 (.t 13) (.t 11), []⟩])⟩
theorem s28 : slimF Try.prog Try.f28 = some a28.fn := by kernel_rfl
def a29 : XFun := ⟨92, [.t 4],
 (.seq (.reg [.s ⟨(some 2), .box 50 (.t 0), []⟩,
  .s ⟨(some 4), .mv (.c (.bool false)), []⟩])
 (.seq (.seq (.reg [.s ⟨(some 9), .faddr 0 (.t 2), []⟩,
  .s ⟨(some 10), .load false 1 (.t 9), []⟩,
  .s ⟨(some 11), .call 48 [(.t 10)], []⟩,
  .s ⟨(some 12), .un .not (.t 11), []⟩,
  .s ⟨(some 13), .mv (.t 12), []⟩,
  .g 13 false [⟨(some 14), .faddr 1 (.t 2), []⟩,
   ⟨(some 15), .load false 1 (.t 14), []⟩,
   ⟨(some 16), .mv (.t 1), []⟩,
   ⟨(some 17), .bin .lss (.t 15) (.t 16), []⟩],
  .s ⟨(some 18), .pick (.t 13) (.c (.bool true)) (.t 17), []⟩,
  .s ⟨(some 19), .mv (.t 18), []⟩,
  .g 19 false [⟨(some 20), .faddr 2 (.t 2), []⟩,
   ⟨(some 21), .load false 1 (.t 20), []⟩,
   ⟨(some 22), .faddr 1 (.t 2), []⟩,
   ⟨(some 23), .load false 1 (.t 22), []⟩,
   ⟨(some 24), .bin .leq (.t 21) (.t 23), []⟩],
  .s ⟨(some 25), .pick (.t 19) (.c (.bool true)) (.t 24), []⟩,
  .s ⟨(some 26), .mv (.t 25), []⟩,
  .g 26 false [⟨(some 27), .faddr 2 (.t 2), []⟩,
   ⟨(some 28), .load false 1 (.t 27), []⟩,
   ⟨(some 29), .bin .gtr (.t 28) (.c (.int .i64 16777216)), []⟩],
  .s ⟨(some 30), .pick (.t 26) (.c (.bool true)) (.t 29), []⟩,
  .s ⟨(some 31), .mv (.t 30), []⟩,
  .g 31 false [⟨(some 32), .faddr 3 (.t 2), []⟩,
   ⟨(some 33), .load false 1 (.t 32), []⟩,
   ⟨(some 34), .lenL (.t 33), []⟩,
   ⟨(some 35), .bin .gtr (.t 34) (.c (.int .i64 64)), []⟩],
  .s ⟨(some 36), .pick (.t 31) (.c (.bool true)) (.t 35), []⟩,
  .s ⟨(some 37), .mv (.t 36), []⟩,
  .g 37 false [⟨(some 38), .faddr 4 (.t 2), []⟩,
   ⟨(some 39), .load false 1 (.t 38), []⟩,
   ⟨(some 40), .lenL (.t 39), []⟩,
   ⟨(some 41), .faddr 3 (.t 2), []⟩,
   ⟨(some 42), .load false 1 (.t 41), []⟩,
   ⟨(some 43), .lenL (.t 42), []⟩,
   ⟨(some 44), .bin .neq (.t 40) (.t 43), []⟩],
  .s ⟨(some 45), .pick (.t 37) (.c (.bool true)) (.t 44), []⟩])
 (.cond (.t 45) (.seq (.reg [.s ⟨(some 4), .mv (.c (.bool false)), []⟩])
 .ret)
 .skip))
 (.seq (.seq (.reg [.s ⟨(some 46), .faddr 3 (.t 2), []⟩,
  .s ⟨(some 47), .load false 1 (.t 46), []⟩,
  .s ⟨(some 48), .lenL (.t 47), []⟩,
  .s ⟨(some 49), .mv (.c (.int .i64 0)), []⟩])
 (.block 0 (.loop (.seq (.reg [.s ⟨(some 50), .bin .lss (.t 49) (.t 48), []⟩])
 (.seq (.cond (.t 50) .skip
 (.exit 0))
 (.seq (.block 1 (.seq (.reg [.s ⟨(some 51), .mv (.t 49), []⟩,
  .s ⟨(some 52), .idx 6 (.t 47) (.t 49), []⟩,
  .s ⟨(some 53), .load true 6 (.t 52), []⟩,
  .s ⟨(some 6), .alloc 64 [(.string ⟨#[]⟩), (.int .u8 0), (.int .i64 0), (.string ⟨#[]⟩), (.int .i64 0), (.slice none 0 0)], []⟩,
  .s ⟨(some 5), .mv (.t 51), []⟩,
  .s ⟨none, .store 6 (.t 6) (.t 53), []⟩])
 (.seq (.reg [.s ⟨(some 54), .faddr 4 (.t 2), []⟩,
  .s ⟨(some 55), .load false 1 (.t 54), []⟩,
  .s ⟨(some 56), .mv (.t 5), []⟩,
  .s ⟨(some 57), .idx 1 (.t 55) (.t 56), []⟩,
  .s ⟨(some 58), .load false 1 (.t 57), []⟩,
  .s ⟨(some 7), .mv (.t 58), []⟩])
 (.seq (.seq (.reg [.s ⟨(some 59), .load true 6 (.t 6), []⟩,
  .s ⟨(some 60), .call 49 [(.t 59)], []⟩,
  .s ⟨(some 61), .un .not (.t 60), []⟩,
  .s ⟨(some 62), .mv (.t 61), []⟩,
  .g 62 false [⟨(some 63), .mv (.t 7), []⟩,
   ⟨(some 64), .call 50 [(.t 63)], []⟩,
   ⟨(some 65), .un .not (.t 64), []⟩],
  .s ⟨(some 66), .pick (.t 62) (.c (.bool true)) (.t 65), []⟩])
 (.cond (.t 66) (.seq (.reg [.s ⟨(some 4), .mv (.c (.bool false)), []⟩])
 .ret)
 .skip))
 (.seq (.reg [.s ⟨(some 67), .mv (.t 7), []⟩,
  .s ⟨(some 68), .lenL (.t 67), []⟩,
  .s ⟨(some 8), .mv (.t 68), []⟩])
 (.seq (.par [.s ⟨(some 69), .mv (.t 8), []⟩,
  .s ⟨(some 70), .bin .gtr (.t 69) (.c (.int .i64 0)), []⟩,
  .s ⟨(some 71), .mv (.t 70), []⟩,
  .g 71 true [⟨(some 72), .mv (.t 7), []⟩,
   ⟨(some 73), .idx 3 (.t 72) (.c (.int .i64 0)), []⟩,
   ⟨(some 74), .faddr 0 (.t 73), []⟩,
   ⟨(some 75), .load false 1 (.t 74), []⟩,
   ⟨(some 76), .faddr 1 (.t 2), []⟩,
   ⟨(some 77), .load false 1 (.t 76), []⟩,
   ⟨(some 78), .bin .lss (.t 75) (.t 77), []⟩,
   ⟨(some 79), .mv (.t 78), []⟩],
  .g 79 false [⟨(some 80), .mv (.t 7), []⟩,
   ⟨(some 81), .mv (.t 8), []⟩,
   ⟨(some 82), .bin .sub (.t 81) (.c (.int .i64 1)), []⟩,
   ⟨(some 83), .idx 3 (.t 80) (.t 82), []⟩,
   ⟨(some 84), .faddr 1 (.t 83), []⟩,
   ⟨(some 85), .load false 1 (.t 84), []⟩,
   ⟨(some 86), .faddr 2 (.t 2), []⟩,
   ⟨(some 87), .load false 1 (.t 86), []⟩,
   ⟨(some 88), .bin .gtr (.t 85) (.t 87), []⟩],
  .g 71 true [⟨(some 89), .pick (.t 79) (.c (.bool true)) (.t 88), []⟩],
  .s ⟨(some 90), .pick (.t 71) (.t 89) (.c (.bool false)), []⟩])
 (.cond (.t 90) (.seq (.reg [.s ⟨(some 4), .mv (.c (.bool false)), []⟩])
 .ret)
 .skip)))))))
 (.reg [.s ⟨(some 91), .bin .add (.t 49) (.c (.int .i64 1)), []⟩,
  .s ⟨(some 49), .mv (.t 91), []⟩])))))))
 (.seq (.reg [.s ⟨(some 4), .mv (.c (.bool true)), []⟩])
 .ret))))⟩
theorem s29 : slimF Try.prog Try.f29 = some a29.fn := by kernel_rfl
def a30 : XFun := ⟨51, [.t 4],
 (.seq (.reg [.s ⟨(some 2), .box 59 (.t 0), []⟩,
  .s ⟨(some 4), .mv (.c (.bool false)), []⟩])
 (.seq (.seq (.reg [.s ⟨(some 8), .faddr 0 (.t 2), []⟩,
  .s ⟨(some 9), .load false 1 (.t 8), []⟩,
  .s ⟨(some 10), .bin .lss (.t 9) (.c (.int .i64 0)), []⟩,
  .s ⟨(some 11), .mv (.t 10), []⟩,
  .g 11 false [⟨(some 12), .faddr 0 (.t 2), []⟩,
   ⟨(some 13), .load false 1 (.t 12), []⟩,
   ⟨(some 14), .mv (.t 1), []⟩,
   ⟨(some 15), .lenL (.t 14), []⟩,
   ⟨(some 16), .bin .geq (.t 13) (.t 15), []⟩],
  .s ⟨(some 17), .pick (.t 11) (.c (.bool true)) (.t 16), []⟩,
  .s ⟨(some 18), .mv (.t 17), []⟩,
  .g 18 false [⟨(some 19), .faddr 1 (.t 2), []⟩,
   ⟨(some 20), .load false 1 (.t 19), []⟩,
   ⟨(some 21), .bin .lss (.t 20) (.c (.int .i64 1)), []⟩],
  .s ⟨(some 22), .pick (.t 18) (.c (.bool true)) (.t 21), []⟩,
  .s ⟨(some 23), .mv (.t 22), []⟩,
  .g 23 false [⟨(some 24), .faddr 1 (.t 2), []⟩,
   ⟨(some 25), .load false 1 (.t 24), []⟩,
   ⟨(some 26), .bin .gtr (.t 25) (.c (.int .i64 1048576)), []⟩],
  .s ⟨(some 27), .pick (.t 23) (.c (.bool true)) (.t 26), []⟩])
 (.cond (.t 27) (.seq (.reg [.s ⟨(some 4), .mv (.c (.bool false)), []⟩])
 .ret)
 .skip))
 (.seq (.reg [.s ⟨(some 5), .mv (.c (.int .i64 (-1))), []⟩])
 (.seq (.seq (.reg [.s ⟨(some 28), .faddr 2 (.t 2), []⟩,
  .s ⟨(some 29), .load false 1 (.t 28), []⟩,
  .s ⟨(some 30), .lenL (.t 29), []⟩,
  .s ⟨(some 31), .mv (.c (.int .i64 0)), []⟩])
 (.block 0 (.loop (.seq (.reg [.s ⟨(some 32), .bin .lss (.t 31) (.t 30), []⟩])
 (.seq (.cond (.t 32) .skip
 (.exit 0))
 (.seq (.block 1 (.seq (.reg [.s ⟨(some 33), .idx 1 (.t 29) (.t 31), []⟩,
  .s ⟨(some 34), .load false 1 (.t 33), []⟩,
  .s ⟨(some 7), .mv (.t 34), []⟩])
 (.seq (.seq (.reg [.s ⟨(some 35), .mv (.t 7), []⟩,
  .s ⟨(some 36), .mv (.t 5), []⟩,
  .s ⟨(some 37), .bin .leq (.t 35) (.t 36), []⟩,
  .s ⟨(some 38), .mv (.t 37), []⟩,
  .g 38 false [⟨(some 39), .mv (.t 7), []⟩,
   ⟨(some 40), .mv (.t 1), []⟩,
   ⟨(some 41), .faddr 0 (.t 2), []⟩,
   ⟨(some 42), .load false 1 (.t 41), []⟩,
   ⟨(some 43), .idx 5 (.t 40) (.t 42), []⟩,
   ⟨(some 44), .faddr 3 (.t 43), []⟩,
   ⟨(some 45), .load false 1 (.t 44), []⟩,
   ⟨(some 46), .lenL (.t 45), []⟩,
   ⟨(some 47), .bin .geq (.t 39) (.t 46), []⟩],
  .s ⟨(some 48), .pick (.t 38) (.c (.bool true)) (.t 47), []⟩])
 (.cond (.t 48) (.seq (.reg [.s ⟨(some 4), .mv (.c (.bool false)), []⟩])
 .ret)
 .skip))
 (.reg [.s ⟨(some 49), .mv (.t 7), []⟩,
  .s ⟨(some 5), .mv (.t 49), []⟩]))))
 (.reg [.s ⟨(some 50), .bin .add (.t 31) (.c (.int .i64 1)), []⟩,
  .s ⟨(some 31), .mv (.t 50), []⟩])))))))
 (.seq (.reg [.s ⟨(some 4), .mv (.c (.bool true)), []⟩])
 .ret)))))⟩
theorem s30 : slimF Try.prog Try.f30 = some a30.fn := by kernel_rfl
def a31 : XFun := ⟨29, [.t 6],
 (.seq (.reg [.s ⟨(some 6), .mv (.c (.slice none 0 0)), []⟩])
 (.seq (.reg [.s ⟨(some 7), .mv (.c (.slice none 0 0)), []⟩])
 (.seq (.seq (.reg [.s ⟨(some 9), .mv (.t 0), []⟩,
  .s ⟨(some 10), .mv (.t 1), []⟩,
  .s ⟨(some 11), .call 34 [(.t 9), (.t 10)], []⟩,
  .s ⟨(some 8), .mv (.t 11), []⟩])
 (.block 0 (.loop (.seq (.seq (.reg [.s ⟨(some 12), .mv (.t 8), []⟩,
  .s ⟨(some 13), .bin .gtr (.t 12) (.c (.int .i64 0)), []⟩,
  .s ⟨(some 14), .mv (.t 13), []⟩,
  .g 14 true [⟨(some 15), .mv (.t 0), []⟩,
   ⟨(some 16), .nilchk (.t 15), []⟩,
   ⟨(some 17), .faddr 2 (.t 16), []⟩,
   ⟨(some 18), .load false 1 (.t 17), []⟩,
   ⟨(some 19), .un .not (.t 18), []⟩],
  .s ⟨(some 20), .pick (.t 14) (.t 19) (.c (.bool false)), []⟩])
 (.cond (.t 20) .skip
 (.exit 0)))
 (.seq (.block 1 (.reg [.s ⟨(some 23), .mv (.t 7), []⟩,
  .s ⟨(some 24), .mv (.t 2), []⟩,
  .s ⟨(some 25), .callv (.t 24) [], []⟩,
  .s ⟨(some 26), .bslice 50 1 [(.string ⟨#[]⟩), (.int .i64 0), (.int .i64 0), (.slice none 0 0), (.slice none 0 0)] [(0, 5, (.t 25))], []⟩,
  .s ⟨(some 27), .app 50 5 80 (.t 23) (.t 26), []⟩,
  .s ⟨(some 7), .mv (.t 27), []⟩]))
 (.reg [.s ⟨(some 21), .mv (.t 8), []⟩,
  .s ⟨(some 22), .bin .sub (.t 21) (.c (.int .i64 1)), []⟩,
  .s ⟨(some 8), .mv (.t 22), []⟩]))))))
 (.seq (.reg [.s ⟨(some 28), .mv (.t 7), []⟩,
  .s ⟨(some 6), .mv (.t 28), []⟩])
 .ret))))⟩
theorem s31 : slimF Try.prog Try.f31 = some a31.fn := by kernel_rfl
def a32 : XFun := ⟨35, [.c 2 true 5],
 (.seq (.reg [.s ⟨(some 2), .alloc 50 [(.string ⟨#[]⟩), (.int .i64 0), (.int .i64 0), (.slice none 0 0), (.slice none 0 0)], []⟩])
 (.seq (.parT (.quiet ⟨none, (some 4), .load false 1 (.t 0)⟩
  (.quiet ⟨none, (some 6), .load false 1 (.t 1)⟩
  (.quiet ⟨none, (some 7), .load false 1 (.t 0)⟩
  (.both (.eff ⟨none, (some 5), .call 33 [(.t 4)]⟩ [⟨none, (some 7), .load false 1 (.t 0)⟩, ⟨none, (some 6), .load false 1 (.t 1)⟩]
  (.both (.eff ⟨none, (some 8), .call 34 [(.t 7), (.c (.int .i64 16777216))]⟩ [⟨none, (some 6), .load false 1 (.t 1)⟩]
  (.quiet ⟨none, (some 9), .bin .add (.t 6) (.t 8)⟩
  (.quiet ⟨none, (some 10), .build [(.string ⟨#[]⟩), (.int .i64 0), (.int .i64 0), (.slice none 0 0), (.slice none 0 0)] [(0, 1, (.t 5)), (1, 1, (.t 9))]⟩
  (.eff ⟨none, (some 3), .alloc 50 [(.string ⟨#[]⟩), (.int .i64 0), (.int .i64 0), (.slice none 0 0), (.slice none 0 0)]⟩ [⟨none, (some 7), .load false 1 (.t 0)⟩, ⟨none, (some 6), .load false 1 (.t 1)⟩, ⟨none, (some 4), .load false 1 (.t 0)⟩]
  (.eff ⟨none, none, .store 5 (.t 3) (.t 10)⟩ []
  .done)))))
  (.eff ⟨none, (some 3), .alloc 50 [(.string ⟨#[]⟩), (.int .i64 0), (.int .i64 0), (.slice none 0 0), (.slice none 0 0)]⟩ [⟨none, (some 7), .load false 1 (.t 0)⟩, ⟨none, (some 6), .load false 1 (.t 1)⟩, ⟨none, (some 4), .load false 1 (.t 0)⟩]
  (.eff ⟨none, (some 8), .call 34 [(.t 7), (.c (.int .i64 16777216))]⟩ [⟨none, (some 6), .load false 1 (.t 1)⟩]
  (.quiet ⟨none, (some 9), .bin .add (.t 6) (.t 8)⟩
  (.quiet ⟨none, (some 10), .build [(.string ⟨#[]⟩), (.int .i64 0), (.int .i64 0), (.slice none 0 0), (.slice none 0 0)] [(0, 1, (.t 5)), (1, 1, (.t 9))]⟩
  (.eff ⟨none, none, .store 5 (.t 3) (.t 10)⟩ []
  .done)))))))
  (.eff ⟨none, (some 3), .alloc 50 [(.string ⟨#[]⟩), (.int .i64 0), (.int .i64 0), (.slice none 0 0), (.slice none 0 0)]⟩ [⟨none, (some 7), .load false 1 (.t 0)⟩, ⟨none, (some 6), .load false 1 (.t 1)⟩, ⟨none, (some 4), .load false 1 (.t 0)⟩]
  (.eff ⟨none, (some 5), .call 33 [(.t 4)]⟩ [⟨none, (some 7), .load false 1 (.t 0)⟩, ⟨none, (some 6), .load false 1 (.t 1)⟩]
  (.eff ⟨none, (some 8), .call 34 [(.t 7), (.c (.int .i64 16777216))]⟩ [⟨none, (some 6), .load false 1 (.t 1)⟩]
  (.quiet ⟨none, (some 9), .bin .add (.t 6) (.t 8)⟩
  (.quiet ⟨none, (some 10), .build [(.string ⟨#[]⟩), (.int .i64 0), (.int .i64 0), (.slice none 0 0), (.slice none 0 0)] [(0, 1, (.t 5)), (1, 1, (.t 9))]⟩
  (.eff ⟨none, none, .store 5 (.t 3) (.t 10)⟩ []
  .done)))))))))))
 (.seq (.par [.s ⟨(some 11), .faddr 1 (.t 3), []⟩,
  .s ⟨(some 12), .load false 1 (.t 11), []⟩,
  .s ⟨(some 13), .load false 1 (.t 0), []⟩,
  .s ⟨(some 14), .call 34 [(.t 13), (.c (.int .i64 16777216))], [⟨none, (some 12), .load false 1 (.t 11)⟩]⟩,
  .s ⟨(some 15), .bin .add (.t 12) (.t 14), []⟩,
  .s ⟨(some 16), .faddr 2 (.t 3), []⟩,
  .s ⟨none, .store 1 (.t 16) (.t 15), []⟩])
 (.seq (.reg [.s ⟨(some 17), .faddr 2 (.t 3), []⟩,
  .s ⟨(some 18), .load false 1 (.t 17), []⟩,
  .s ⟨none, .store 1 (.t 1) (.t 18), []⟩])
 (.seq (.par [.s ⟨(some 19), .load false 1 (.t 0), []⟩,
  .s ⟨(some 20), .load false 1 (.t 0), []⟩,
  .s ⟨(some 21), .nilchk (.t 20), []⟩,
  .s ⟨(some 22), .faddr 2 (.t 21), []⟩,
  .s ⟨(some 23), .load false 1 (.t 22), []⟩,
  .s ⟨(some 24), .mv (.t 23), []⟩,
  .g 24 false [⟨(some 25), .load false 1 (.t 1), []⟩,
   ⟨(some 26), .bin .gtr (.t 25) (.c (.int .i64 16777216)), []⟩],
  .s ⟨(some 27), .pick (.t 24) (.c (.bool true)) (.t 26), []⟩,
  .s ⟨(some 28), .nilchk (.t 19), []⟩,
  .s ⟨(some 29), .faddr 2 (.t 28), []⟩,
  .s ⟨none, .store 1 (.t 29) (.t 27), []⟩])
 (.seq (.reg [.s ⟨(some 30), .load false 1 (.t 0), []⟩,
  .s ⟨(some 31), .mkfn (.func 36) [] [(.t 0), (.t 3)], []⟩,
  .s ⟨(some 32), .call 35 [(.t 30), (.c (.int .i64 64)), (.t 31)], []⟩,
  .s ⟨(some 33), .faddr 3 (.t 3), []⟩,
  .s ⟨none, .store 1 (.t 33) (.t 32), []⟩])
 (.seq (.reg [.s ⟨(some 34), .load true 5 (.t 3), []⟩,
  .s ⟨none, .store 5 (.t 2) (.t 34), []⟩])
 .ret)))))))⟩
theorem s32 : slimF Try.prog Try.f32 = some a32.fn := by kernel_rfl
def a33 : XFun := ⟨35, [.t 2],
 (.seq (.reg [.s ⟨(some 2), .mv (.c (.string ⟨#[]⟩)), []⟩])
 (.seq (.par [.s ⟨(some 7), .mv (.t 0), []⟩,
  .s ⟨(some 8), .nilchk (.t 7), []⟩,
  .s ⟨(some 9), .faddr 0 (.t 8), []⟩,
  .s ⟨(some 10), .load false 1 (.t 9), []⟩,
  .s ⟨(some 11), .mv (.t 0), []⟩,
  .s ⟨(some 12), .nilchk (.t 11), []⟩,
  .s ⟨(some 13), .faddr 1 (.t 12), []⟩,
  .s ⟨(some 14), .load false 1 (.t 13), []⟩,
  .s ⟨(some 15), .call 51 [(.t 10), (.t 14)], []⟩,
  .s ⟨(some 6), .mv (.t 15), []⟩,
  .s ⟨(some 16), .ext 0 (.t 6), []⟩,
  .s ⟨(some 17), .ext 1 (.t 6), []⟩,
  .s ⟨(some 18), .ext 2 (.t 6), []⟩,
  .s ⟨(some 3), .mv (.t 16), []⟩,
  .s ⟨(some 4), .mv (.t 17), []⟩,
  .s ⟨(some 5), .mv (.t 18), []⟩])
 (.seq (.seq (.reg [.s ⟨(some 19), .mv (.t 0), []⟩,
  .s ⟨(some 20), .nilchk (.t 19), []⟩,
  .s ⟨(some 21), .faddr 2 (.t 20), []⟩,
  .s ⟨(some 22), .load false 1 (.t 21), []⟩,
  .s ⟨(some 23), .mv (.t 22), []⟩,
  .g 23 false [⟨(some 24), .mv (.t 5), []⟩,
   ⟨(some 25), .bin .neq (.t 24) (.c (.int .i64 0)), []⟩],
  .s ⟨(some 26), .pick (.t 23) (.c (.bool true)) (.t 25), []⟩])
 (.cond (.t 26) (.seq (.reg [.s ⟨(some 27), .mv (.t 0), []⟩,
  .s ⟨(some 28), .nilchk (.t 27), []⟩,
  .s ⟨(some 29), .faddr 2 (.t 28), []⟩,
  .s ⟨none, .store 1 (.t 29) (.c (.bool true)), []⟩])
 (.seq (.reg [.s ⟨(some 2), .mv (.c (.string ⟨#[]⟩)), []⟩])
 .ret))
 .skip))
 (.seq (.reg [.s ⟨(some 30), .mv (.t 0), []⟩,
  .s ⟨(some 31), .mv (.t 4), []⟩,
  .s ⟨(some 32), .nilchk (.t 30), []⟩,
  .s ⟨(some 33), .faddr 1 (.t 32), []⟩,
  .s ⟨none, .store 1 (.t 33) (.t 31), []⟩])
 (.seq (.reg [.s ⟨(some 34), .mv (.t 3), []⟩,
  .s ⟨(some 2), .mv (.t 34), []⟩])
 .ret)))))⟩
theorem s33 : slimF Try.prog Try.f33 = some a33.fn := by kernel_rfl
def a34 : XFun := ⟨44, [.t 4],
 (.seq (.reg [.s ⟨(some 4), .mv (.c (.int .i64 0)), []⟩])
 (.seq (.par [.s ⟨(some 9), .mv (.t 0), []⟩,
  .s ⟨(some 10), .nilchk (.t 9), []⟩,
  .s ⟨(some 11), .faddr 0 (.t 10), []⟩,
  .s ⟨(some 12), .load false 1 (.t 11), []⟩,
  .s ⟨(some 13), .mv (.t 0), []⟩,
  .s ⟨(some 14), .nilchk (.t 13), []⟩,
  .s ⟨(some 15), .faddr 1 (.t 14), []⟩,
  .s ⟨(some 16), .load false 1 (.t 15), []⟩,
  .s ⟨(some 17), .call 52 [(.t 12), (.t 16)], []⟩,
  .s ⟨(some 8), .mv (.t 17), []⟩,
  .s ⟨(some 18), .ext 0 (.t 8), []⟩,
  .s ⟨(some 19), .ext 1 (.t 8), []⟩,
  .s ⟨(some 20), .ext 2 (.t 8), []⟩,
  .s ⟨(some 5), .mv (.t 18), []⟩,
  .s ⟨(some 6), .mv (.t 19), []⟩,
  .s ⟨(some 7), .mv (.t 20), []⟩])
 (.seq (.seq (.reg [.s ⟨(some 21), .mv (.t 0), []⟩,
  .s ⟨(some 22), .nilchk (.t 21), []⟩,
  .s ⟨(some 23), .faddr 2 (.t 22), []⟩,
  .s ⟨(some 24), .load false 1 (.t 23), []⟩,
  .s ⟨(some 25), .mv (.t 24), []⟩,
  .g 25 false [⟨(some 26), .mv (.t 7), []⟩,
   ⟨(some 27), .bin .neq (.t 26) (.c (.int .i64 0)), []⟩],
  .s ⟨(some 28), .pick (.t 25) (.c (.bool true)) (.t 27), []⟩,
  .s ⟨(some 29), .mv (.t 28), []⟩,
  .g 29 false [⟨(some 30), .mv (.t 5), []⟩,
   ⟨(some 31), .mv (.t 1), []⟩,
   ⟨(some 32), .cint .u64 (.t 31), []⟩,
   ⟨(some 33), .bin .gtr (.t 30) (.t 32), []⟩],
  .s ⟨(some 34), .pick (.t 29) (.c (.bool true)) (.t 33), []⟩])
 (.cond (.t 34) (.seq (.reg [.s ⟨(some 35), .mv (.t 0), []⟩,
  .s ⟨(some 36), .nilchk (.t 35), []⟩,
  .s ⟨(some 37), .faddr 2 (.t 36), []⟩,
  .s ⟨none, .store 1 (.t 37) (.c (.bool true)), []⟩])
 (.seq (.reg [.s ⟨(some 4), .mv (.c (.int .i64 0)), []⟩])
 .ret))
 .skip))
 (.seq (.reg [.s ⟨(some 38), .mv (.t 0), []⟩,
  .s ⟨(some 39), .mv (.t 6), []⟩,
  .s ⟨(some 40), .nilchk (.t 38), []⟩,
  .s ⟨(some 41), .faddr 1 (.t 40), []⟩,
  .s ⟨none, .store 1 (.t 41) (.t 39), []⟩])
 (.seq (.reg [.s ⟨(some 42), .mv (.t 5), []⟩,
  .s ⟨(some 43), .cint .i64 (.t 42), []⟩,
  .s ⟨(some 4), .mv (.t 43), []⟩])
 .ret)))))⟩
theorem s34 : slimF Try.prog Try.f34 = some a34.fn := by kernel_rfl
def a35 : XFun := ⟨29, [.t 6],
 (.seq (.reg [.s ⟨(some 6), .mv (.c (.slice none 0 0)), []⟩])
 (.seq (.reg [.s ⟨(some 7), .mv (.c (.slice none 0 0)), []⟩])
 (.seq (.seq (.reg [.s ⟨(some 9), .mv (.t 0), []⟩,
  .s ⟨(some 10), .mv (.t 1), []⟩,
  .s ⟨(some 11), .call 34 [(.t 9), (.t 10)], []⟩,
  .s ⟨(some 8), .mv (.t 11), []⟩])
 (.block 0 (.loop (.seq (.seq (.reg [.s ⟨(some 12), .mv (.t 8), []⟩,
  .s ⟨(some 13), .bin .gtr (.t 12) (.c (.int .i64 0)), []⟩,
  .s ⟨(some 14), .mv (.t 13), []⟩,
  .g 14 true [⟨(some 15), .mv (.t 0), []⟩,
   ⟨(some 16), .nilchk (.t 15), []⟩,
   ⟨(some 17), .faddr 2 (.t 16), []⟩,
   ⟨(some 18), .load false 1 (.t 17), []⟩,
   ⟨(some 19), .un .not (.t 18), []⟩],
  .s ⟨(some 20), .pick (.t 14) (.t 19) (.c (.bool false)), []⟩])
 (.cond (.t 20) .skip
 (.exit 0)))
 (.seq (.block 1 (.reg [.s ⟨(some 23), .mv (.t 7), []⟩,
  .s ⟨(some 24), .mv (.t 2), []⟩,
  .s ⟨(some 25), .callv (.t 24) [], []⟩,
  .s ⟨(some 26), .bslice 64 1 [(.string ⟨#[]⟩), (.int .u8 0), (.int .i64 0), (.string ⟨#[]⟩), (.int .i64 0), (.slice none 0 0)] [(0, 6, (.t 25))], []⟩,
  .s ⟨(some 27), .app 64 6 80 (.t 23) (.t 26), []⟩,
  .s ⟨(some 7), .mv (.t 27), []⟩]))
 (.reg [.s ⟨(some 21), .mv (.t 8), []⟩,
  .s ⟨(some 22), .bin .sub (.t 21) (.c (.int .i64 1)), []⟩,
  .s ⟨(some 8), .mv (.t 22), []⟩]))))))
 (.seq (.reg [.s ⟨(some 28), .mv (.t 7), []⟩,
  .s ⟨(some 6), .mv (.t 28), []⟩])
 .ret))))⟩
theorem s35 : slimF Try.prog Try.f35 = some a35.fn := by kernel_rfl
def a36 : XFun := ⟨14, [.c 2 true 6],
 (.seq (.reg [.s ⟨(some 2), .alloc 64 [(.string ⟨#[]⟩), (.int .u8 0), (.int .i64 0), (.string ⟨#[]⟩), (.int .i64 0), (.slice none 0 0)], []⟩])
 (.seq (.reg [.s ⟨(some 4), .load false 1 (.t 0), []⟩,
  .s ⟨(some 5), .call 37 [(.t 4)], []⟩,
  .s ⟨(some 3), .alloc 64 [(.string ⟨#[]⟩), (.int .u8 0), (.int .i64 0), (.string ⟨#[]⟩), (.int .i64 0), (.slice none 0 0)], []⟩,
  .s ⟨none, .store 6 (.t 3) (.t 5), []⟩])
 (.seq (.par [.s ⟨(some 6), .faddr 4 (.t 1), []⟩,
  .s ⟨(some 7), .load false 1 (.t 6), []⟩,
  .s ⟨(some 8), .load false 1 (.t 0), []⟩,
  .s ⟨(some 9), .call 38 [(.t 8)], [⟨none, (some 7), .load false 1 (.t 6)⟩]⟩,
  .s ⟨(some 10), .bslice 56 1 [(.slice none 0 0)] [(0, 1, (.t 9))], [⟨none, (some 7), .load false 1 (.t 6)⟩]⟩,
  .s ⟨(some 11), .app 56 1 24 (.t 7) (.t 10), []⟩,
  .s ⟨(some 12), .faddr 4 (.t 1), []⟩,
  .s ⟨none, .store 1 (.t 12) (.t 11), []⟩])
 (.seq (.reg [.s ⟨(some 13), .load true 6 (.t 3), []⟩,
  .s ⟨none, .store 6 (.t 2) (.t 13), []⟩])
 .ret))))⟩
theorem s36 : slimF Try.prog Try.f36 = some a36.fn := by kernel_rfl
def a37 : XFun := ⟨40, [.c 2 true 6],
 (.seq (.reg [.s ⟨(some 2), .alloc 64 [(.string ⟨#[]⟩), (.int .u8 0), (.int .i64 0), (.string ⟨#[]⟩), (.int .i64 0), (.slice none 0 0)], []⟩])
 (.seq (.reg [.s ⟨(some 4), .mv (.t 0), []⟩,
  .s ⟨(some 5), .call 33 [(.t 4)], []⟩,
  .s ⟨(some 6), .build [(.string ⟨#[]⟩), (.int .u8 0), (.int .i64 0), (.string ⟨#[]⟩), (.int .i64 0), (.slice none 0 0)] [(0, 1, (.t 5)), (4, 1, (.c (.int .i64 1)))], []⟩,
  .s ⟨(some 3), .alloc 64 [(.string ⟨#[]⟩), (.int .u8 0), (.int .i64 0), (.string ⟨#[]⟩), (.int .i64 0), (.slice none 0 0)], []⟩,
  .s ⟨none, .store 6 (.t 3) (.t 6), []⟩])
 (.seq (.reg [.s ⟨(some 7), .mv (.t 0), []⟩,
  .s ⟨(some 8), .call 53 [(.t 7)], []⟩,
  .s ⟨(some 9), .faddr 1 (.t 3), []⟩,
  .s ⟨(some 10), .faddr 0 (.t 9), []⟩,
  .s ⟨none, .store 1 (.t 10) (.t 8), []⟩])
 (.seq (.seq (.reg [.s ⟨(some 11), .faddr 1 (.t 3), []⟩,
  .s ⟨(some 12), .faddr 0 (.t 11), []⟩,
  .s ⟨(some 13), .load false 1 (.t 12), []⟩])
 (.block 0 (.seq (.reg [.s ⟨(some 15), .bin .eql (.t 13) (.c (.int .u8 3)), []⟩,
  .s ⟨(some 14), .mv (.t 15), []⟩])
 (.cond (.t 14) (.seq (.reg [.s ⟨(some 16), .mv (.t 0), []⟩,
  .s ⟨(some 17), .call 34 [(.t 16), (.c (.int .i64 16))], []⟩,
  .s ⟨(some 18), .faddr 1 (.t 3), []⟩,
  .s ⟨(some 19), .faddr 1 (.t 18), []⟩,
  .s ⟨none, .store 1 (.t 19) (.t 17), []⟩])
 (.reg [.s ⟨(some 20), .faddr 1 (.t 3), []⟩,
  .s ⟨(some 21), .faddr 1 (.t 20), []⟩,
  .s ⟨(some 22), .load false 1 (.t 21), []⟩,
  .s ⟨(some 23), .faddr 4 (.t 3), []⟩,
  .s ⟨none, .store 1 (.t 23) (.t 22), []⟩]))
 (.seq (.reg [.s ⟨(some 25), .bin .eql (.t 13) (.c (.int .u8 4)), []⟩,
  .s ⟨(some 24), .mv (.t 25), []⟩])
 (.cond (.t 24) (.seq (.reg [.s ⟨(some 26), .mv (.t 0), []⟩,
  .s ⟨(some 27), .call 33 [(.t 26)], []⟩,
  .s ⟨(some 28), .faddr 1 (.t 3), []⟩,
  .s ⟨(some 29), .faddr 2 (.t 28), []⟩,
  .s ⟨none, .store 1 (.t 29) (.t 27), []⟩])
 (.seq (.reg [.s ⟨(some 30), .mv (.t 0), []⟩,
  .s ⟨(some 31), .mv (.t 0), []⟩,
  .s ⟨(some 32), .mkfn (.func 33) [(.t 31)] [], []⟩,
  .s ⟨(some 33), .call 54 [(.t 30), (.c (.int .i64 8)), (.t 32)], []⟩,
  .s ⟨(some 34), .faddr 5 (.t 3), []⟩,
  .s ⟨none, .store 1 (.t 34) (.t 33), []⟩])
 (.reg [.s ⟨(some 35), .faddr 5 (.t 3), []⟩,
  .s ⟨(some 36), .load false 1 (.t 35), []⟩,
  .s ⟨(some 37), .lenL (.t 36), []⟩,
  .s ⟨(some 38), .faddr 4 (.t 3), []⟩,
  .s ⟨none, .store 1 (.t 38) (.t 37), []⟩])))
 .skip))))))
 (.seq (.reg [.s ⟨(some 39), .load true 6 (.t 3), []⟩,
  .s ⟨none, .store 6 (.t 2) (.t 39), []⟩])
 .ret)))))⟩
theorem s37 : slimF Try.prog Try.f37 = some a37.fn := by kernel_rfl
def a38 : XFun := ⟨35, [.t 2],
 (.seq (.reg [.s ⟨(some 2), .mv (.c (.slice none 0 0)), []⟩])
 (.seq (.par [.s ⟨(some 7), .mv (.t 0), []⟩,
  .s ⟨(some 8), .nilchk (.t 7), []⟩,
  .s ⟨(some 9), .faddr 0 (.t 8), []⟩,
  .s ⟨(some 10), .load false 1 (.t 9), []⟩,
  .s ⟨(some 11), .mv (.t 0), []⟩,
  .s ⟨(some 12), .nilchk (.t 11), []⟩,
  .s ⟨(some 13), .faddr 1 (.t 12), []⟩,
  .s ⟨(some 14), .load false 1 (.t 13), []⟩,
  .s ⟨(some 15), .call 55 [(.t 10), (.t 14)], []⟩,
  .s ⟨(some 6), .mv (.t 15), []⟩,
  .s ⟨(some 16), .ext 0 (.t 6), []⟩,
  .s ⟨(some 17), .ext 1 (.t 6), []⟩,
  .s ⟨(some 18), .ext 2 (.t 6), []⟩,
  .s ⟨(some 3), .mv (.t 16), []⟩,
  .s ⟨(some 4), .mv (.t 17), []⟩,
  .s ⟨(some 5), .mv (.t 18), []⟩])
 (.seq (.seq (.reg [.s ⟨(some 19), .mv (.t 0), []⟩,
  .s ⟨(some 20), .nilchk (.t 19), []⟩,
  .s ⟨(some 21), .faddr 2 (.t 20), []⟩,
  .s ⟨(some 22), .load false 1 (.t 21), []⟩,
  .s ⟨(some 23), .mv (.t 22), []⟩,
  .g 23 false [⟨(some 24), .mv (.t 5), []⟩,
   ⟨(some 25), .bin .neq (.t 24) (.c (.int .i64 0)), []⟩],
  .s ⟨(some 26), .pick (.t 23) (.c (.bool true)) (.t 25), []⟩])
 (.cond (.t 26) (.seq (.reg [.s ⟨(some 27), .mv (.t 0), []⟩,
  .s ⟨(some 28), .nilchk (.t 27), []⟩,
  .s ⟨(some 29), .faddr 2 (.t 28), []⟩,
  .s ⟨none, .store 1 (.t 29) (.c (.bool true)), []⟩])
 (.seq (.reg [.s ⟨(some 2), .mv (.c (.slice none 0 0)), []⟩])
 .ret))
 .skip))
 (.seq (.reg [.s ⟨(some 30), .mv (.t 0), []⟩,
  .s ⟨(some 31), .mv (.t 4), []⟩,
  .s ⟨(some 32), .nilchk (.t 30), []⟩,
  .s ⟨(some 33), .faddr 1 (.t 32), []⟩,
  .s ⟨none, .store 1 (.t 33) (.t 31), []⟩])
 (.seq (.reg [.s ⟨(some 34), .mv (.t 3), []⟩,
  .s ⟨(some 2), .mv (.t 34), []⟩])
 .ret)))))⟩
theorem s38 : slimF Try.prog Try.f38 = some a38.fn := by kernel_rfl
def a39 : XFun := ⟨29, [.t 6],
 (.seq (.reg [.s ⟨(some 6), .mv (.c (.slice none 0 0)), []⟩])
 (.seq (.reg [.s ⟨(some 7), .mv (.c (.slice none 0 0)), []⟩])
 (.seq (.seq (.reg [.s ⟨(some 9), .mv (.t 0), []⟩,
  .s ⟨(some 10), .mv (.t 1), []⟩,
  .s ⟨(some 11), .call 34 [(.t 9), (.t 10)], []⟩,
  .s ⟨(some 8), .mv (.t 11), []⟩])
 (.block 0 (.loop (.seq (.seq (.reg [.s ⟨(some 12), .mv (.t 8), []⟩,
  .s ⟨(some 13), .bin .gtr (.t 12) (.c (.int .i64 0)), []⟩,
  .s ⟨(some 14), .mv (.t 13), []⟩,
  .g 14 true [⟨(some 15), .mv (.t 0), []⟩,
   ⟨(some 16), .nilchk (.t 15), []⟩,
   ⟨(some 17), .faddr 2 (.t 16), []⟩,
   ⟨(some 18), .load false 1 (.t 17), []⟩,
   ⟨(some 19), .un .not (.t 18), []⟩],
  .s ⟨(some 20), .pick (.t 14) (.t 19) (.c (.bool false)), []⟩])
 (.cond (.t 20) .skip
 (.exit 0)))
 (.seq (.block 1 (.reg [.s ⟨(some 23), .mv (.t 7), []⟩,
  .s ⟨(some 24), .mv (.t 2), []⟩,
  .s ⟨(some 25), .callv (.t 24) [], []⟩,
  .s ⟨(some 26), .bslice 59 1 [(.int .i64 0), (.int .i64 0), (.slice none 0 0)] [(0, 3, (.t 25))], []⟩,
  .s ⟨(some 27), .app 59 3 40 (.t 23) (.t 26), []⟩,
  .s ⟨(some 7), .mv (.t 27), []⟩]))
 (.reg [.s ⟨(some 21), .mv (.t 8), []⟩,
  .s ⟨(some 22), .bin .sub (.t 21) (.c (.int .i64 1)), []⟩,
  .s ⟨(some 8), .mv (.t 22), []⟩]))))))
 (.seq (.reg [.s ⟨(some 28), .mv (.t 7), []⟩,
  .s ⟨(some 6), .mv (.t 28), []⟩])
 .ret))))⟩
theorem s39 : slimF Try.prog Try.f39 = some a39.fn := by kernel_rfl
def a40 : XFun := ⟨13, [.c 1 true 3],
 (.seq (.reg [.s ⟨(some 1), .alloc 59 [(.int .i64 0), (.int .i64 0), (.slice none 0 0)], []⟩])
 (.seq (.parT (.quiet ⟨none, (some 3), .load false 1 (.t 0)⟩
  (.quiet ⟨none, (some 5), .load false 1 (.t 0)⟩
  (.both (.eff ⟨none, (some 4), .call 34 [(.t 3), (.c (.int .i64 64))]⟩ [⟨none, (some 5), .load false 1 (.t 0)⟩]
  (.both (.eff ⟨none, (some 6), .call 34 [(.t 5), (.c (.int .i64 1048576))]⟩ []
  (.quiet ⟨none, (some 7), .build [(.int .i64 0), (.int .i64 0), (.slice none 0 0)] [(0, 1, (.t 4)), (1, 1, (.t 6))]⟩
  (.eff ⟨none, (some 2), .alloc 59 [(.int .i64 0), (.int .i64 0), (.slice none 0 0)]⟩ [⟨none, (some 5), .load false 1 (.t 0)⟩, ⟨none, (some 3), .load false 1 (.t 0)⟩]
  (.eff ⟨none, none, .store 3 (.t 2) (.t 7)⟩ []
  .done))))
  (.eff ⟨none, (some 2), .alloc 59 [(.int .i64 0), (.int .i64 0), (.slice none 0 0)]⟩ [⟨none, (some 5), .load false 1 (.t 0)⟩, ⟨none, (some 3), .load false 1 (.t 0)⟩]
  (.eff ⟨none, (some 6), .call 34 [(.t 5), (.c (.int .i64 1048576))]⟩ []
  (.quiet ⟨none, (some 7), .build [(.int .i64 0), (.int .i64 0), (.slice none 0 0)] [(0, 1, (.t 4)), (1, 1, (.t 6))]⟩
  (.eff ⟨none, none, .store 3 (.t 2) (.t 7)⟩ []
  .done))))))
  (.eff ⟨none, (some 2), .alloc 59 [(.int .i64 0), (.int .i64 0), (.slice none 0 0)]⟩ [⟨none, (some 5), .load false 1 (.t 0)⟩, ⟨none, (some 3), .load false 1 (.t 0)⟩]
  (.eff ⟨none, (some 4), .call 34 [(.t 3), (.c (.int .i64 64))]⟩ [⟨none, (some 5), .load false 1 (.t 0)⟩]
  (.eff ⟨none, (some 6), .call 34 [(.t 5), (.c (.int .i64 1048576))]⟩ []
  (.quiet ⟨none, (some 7), .build [(.int .i64 0), (.int .i64 0), (.slice none 0 0)] [(0, 1, (.t 4)), (1, 1, (.t 6))]⟩
  (.eff ⟨none, none, .store 3 (.t 2) (.t 7)⟩ []
  .done)))))))))
 (.seq (.reg [.s ⟨(some 8), .load false 1 (.t 0), []⟩,
  .s ⟨(some 9), .mkfn (.func 42) [] [(.t 0)], []⟩,
  .s ⟨(some 10), .call 41 [(.t 8), (.c (.int .i64 64)), (.t 9)], []⟩,
  .s ⟨(some 11), .faddr 2 (.t 2), []⟩,
  .s ⟨none, .store 1 (.t 11) (.t 10), []⟩])
 (.seq (.reg [.s ⟨(some 12), .load true 3 (.t 2), []⟩,
  .s ⟨none, .store 3 (.t 1) (.t 12), []⟩])
 .ret))))⟩
theorem s40 : slimF Try.prog Try.f40 = some a40.fn := by kernel_rfl
def a41 : XFun := ⟨29, [.t 6],
 (.seq (.reg [.s ⟨(some 6), .mv (.c (.slice none 0 0)), []⟩])
 (.seq (.reg [.s ⟨(some 7), .mv (.c (.slice none 0 0)), []⟩])
 (.seq (.seq (.reg [.s ⟨(some 9), .mv (.t 0), []⟩,
  .s ⟨(some 10), .mv (.t 1), []⟩,
  .s ⟨(some 11), .call 34 [(.t 9), (.t 10)], []⟩,
  .s ⟨(some 8), .mv (.t 11), []⟩])
 (.block 0 (.loop (.seq (.seq (.reg [.s ⟨(some 12), .mv (.t 8), []⟩,
  .s ⟨(some 13), .bin .gtr (.t 12) (.c (.int .i64 0)), []⟩,
  .s ⟨(some 14), .mv (.t 13), []⟩,
  .g 14 true [⟨(some 15), .mv (.t 0), []⟩,
   ⟨(some 16), .nilchk (.t 15), []⟩,
   ⟨(some 17), .faddr 2 (.t 16), []⟩,
   ⟨(some 18), .load false 1 (.t 17), []⟩,
   ⟨(some 19), .un .not (.t 18), []⟩],
  .s ⟨(some 20), .pick (.t 14) (.t 19) (.c (.bool false)), []⟩])
 (.cond (.t 20) .skip
 (.exit 0)))
 (.seq (.block 1 (.reg [.s ⟨(some 23), .mv (.t 7), []⟩,
  .s ⟨(some 24), .mv (.t 2), []⟩,
  .s ⟨(some 25), .callv (.t 24) [], []⟩,
  .s ⟨(some 26), .bslice 3 1 [(.int .i64 0)] [(0, 1, (.t 25))], []⟩,
  .s ⟨(some 27), .app 3 1 8 (.t 23) (.t 26), []⟩,
  .s ⟨(some 7), .mv (.t 27), []⟩]))
 (.reg [.s ⟨(some 21), .mv (.t 8), []⟩,
  .s ⟨(some 22), .bin .sub (.t 21) (.c (.int .i64 1)), []⟩,
  .s ⟨(some 8), .mv (.t 22), []⟩]))))))
 (.seq (.reg [.s ⟨(some 28), .mv (.t 7), []⟩,
  .s ⟨(some 6), .mv (.t 28), []⟩])
 .ret))))⟩
theorem s41 : slimF Try.prog Try.f41 = some a41.fn := by kernel_rfl
def a42 : XFun := ⟨4, [.t 1],
 (.seq (.reg [.s ⟨(some 1), .mv (.c (.int .i64 0)), []⟩])
 (.seq (.reg [.s ⟨(some 2), .load false 1 (.t 0), []⟩,
  .s ⟨(some 3), .call 34 [(.t 2), (.c (.int .i64 64))], []⟩,
  .s ⟨(some 1), .mv (.t 3), []⟩])
 .ret))⟩
theorem s42 : slimF Try.prog Try.f42 = some a42.fn := by kernel_rfl
def a43 : XFun := ⟨6, [.t 2],
 (.seq (.reg [.s ⟨(some 2), .mv (.c (.slice none 0 0)), []⟩])
 (.seq (.reg [.s ⟨(some 3), .bslice 52 0 [] [], []⟩,
  .s ⟨(some 4), .mv (.t 0), []⟩,
  .s ⟨(some 5), .app 52 2 16 (.t 3) (.t 4), []⟩,
  .s ⟨(some 2), .mv (.t 5), []⟩])
 .ret))⟩
theorem s43 : slimF Try.prog Try.f43 = some a43.fn := by kernel_rfl
def a44 : XFun := ⟨26, [.t 4],
 (.seq (.reg [.s ⟨(some 4), .mv (.c (.bool false)), []⟩])
 (.seq (.seq (.reg [.s ⟨(some 6), .mv (.t 0), []⟩,
  .s ⟨(some 7), .lenL (.t 6), []⟩,
  .s ⟨(some 8), .mv (.t 1), []⟩,
  .s ⟨(some 9), .lenL (.t 8), []⟩,
  .s ⟨(some 10), .bin .neq (.t 7) (.t 9), []⟩])
 (.cond (.t 10) (.seq (.reg [.s ⟨(some 4), .mv (.c (.bool false)), []⟩])
 .ret)
 .skip))
 (.seq (.seq (.reg [.s ⟨(some 5), .mv (.c (.int .i64 0)), []⟩])
 (.block 0 (.loop (.seq (.seq (.reg [.s ⟨(some 11), .mv (.t 5), []⟩,
  .s ⟨(some 12), .mv (.t 0), []⟩,
  .s ⟨(some 13), .lenL (.t 12), []⟩,
  .s ⟨(some 14), .bin .lss (.t 11) (.t 13), []⟩])
 (.cond (.t 14) .skip
 (.exit 0)))
 (.seq (.block 1 (.seq (.par [.s ⟨(some 17), .mv (.t 0), []⟩,
  .s ⟨(some 18), .mv (.t 5), []⟩,
  .s ⟨(some 19), .idx 2 (.t 17) (.t 18), []⟩,
  .s ⟨(some 20), .load true 2 (.t 19), []⟩,
  .s ⟨(some 21), .mv (.t 1), []⟩,
  .s ⟨(some 22), .mv (.t 5), []⟩,
  .s ⟨(some 23), .idx 2 (.t 21) (.t 22), []⟩,
  .s ⟨(some 24), .load true 2 (.t 23), []⟩,
  .s ⟨(some 25), .aeq true [0, 0] (.t 20) (.t 24), []⟩])
 (.cond (.t 25) (.seq (.reg [.s ⟨(some 4), .mv (.c (.bool false)), []⟩])
 .ret)
 .skip)))
 (.reg [.s ⟨(some 15), .mv (.t 5), []⟩,
  .s ⟨(some 16), .bin .add (.t 15) (.c (.int .i64 1)), []⟩,
  .s ⟨(some 5), .mv (.t 16), []⟩]))))))
 (.seq (.reg [.s ⟨(some 4), .mv (.c (.bool true)), []⟩])
 .ret))))⟩
theorem s44 : slimF Try.prog Try.f44 = some a44.fn := by kernel_rfl
def a45 : XFun := ⟨8, [.t 2],
 (.seq (.reg [.s ⟨(some 2), .mv (.c (.slice none 0 0)), []⟩])
 (.seq (.seq (.reg [.s ⟨(some 3), .mv (.t 0), []⟩,
  .s ⟨(some 4), .snil false (.t 3), []⟩])
 (.cond (.t 4) (.seq (.reg [.s ⟨(some 2), .mv (.c (.slice none 0 0)), []⟩])
 .ret)
 .skip))
 (.seq (.reg [.s ⟨(some 5), .bslice 5 0 [] [], []⟩,
  .s ⟨(some 6), .mv (.t 0), []⟩,
  .s ⟨(some 7), .app 5 1 1 (.t 5) (.t 6), []⟩,
  .s ⟨(some 2), .mv (.t 7), []⟩])
 .ret)))⟩
theorem s45 : slimF Try.prog Try.f45 = some a45.fn := by kernel_rfl
def a46 : XFun := ⟨16, [],
 (.reg [.s ⟨(some 5), .mv (.t 0), []⟩,
  .s ⟨(some 6), .mv (.t 0), []⟩,
  .s ⟨(some 7), .nilchk (.t 6), []⟩,
  .s ⟨(some 8), .faddr 0 (.t 7), []⟩,
  .s ⟨(some 9), .load false 1 (.t 8), []⟩,
  .s ⟨(some 10), .mv (.t 1), []⟩,
  .s ⟨(some 11), .call 56 [(.t 9), (.t 10)], []⟩,
  .s ⟨(some 4), .mv (.t 11), []⟩,
  .s ⟨(some 12), .ext 0 (.t 4), []⟩,
  .s ⟨(some 13), .ext 1 (.t 4), []⟩,
  .s ⟨(some 14), .nilchk (.t 5), []⟩,
  .s ⟨(some 15), .faddr 0 (.t 14), []⟩,
  .s ⟨none, .store 1 (.t 15) (.t 12), []⟩])⟩
theorem s46 : slimF Try.prog Try.f46 = some a46.fn := by kernel_rfl
def a47 : XFun := ⟨69, [],
 (.seq (.reg [.s ⟨(some 4), .box 64 (.t 1), []⟩])
 (.seq (.reg [.s ⟨(some 8), .mv (.t 0), []⟩,
  .s ⟨(some 9), .faddr 0 (.t 4), []⟩,
  .s ⟨(some 10), .load false 1 (.t 9), []⟩,
  .s ⟨(some 11), .call 46 [(.t 8), (.t 10)], []⟩])
 (.seq (.par [.s ⟨(some 12), .mv (.t 0), []⟩,
  .s ⟨(some 13), .mv (.t 0), []⟩,
  .s ⟨(some 14), .nilchk (.t 13), []⟩,
  .s ⟨(some 15), .faddr 0 (.t 14), []⟩,
  .s ⟨(some 16), .load false 1 (.t 15), []⟩,
  .s ⟨(some 17), .faddr 1 (.t 4), []⟩,
  .s ⟨(some 18), .faddr 0 (.t 17), []⟩,
  .s ⟨(some 19), .load false 1 (.t 18), []⟩,
  .s ⟨(some 20), .bslice 5 1 [(.int .u8 0)] [(0, 1, (.t 19))], [⟨none, (some 16), .load false 1 (.t 15)⟩]⟩,
  .s ⟨(some 21), .app 5 1 1 (.t 16) (.t 20), []⟩,
  .s ⟨(some 22), .nilchk (.t 12), []⟩,
  .s ⟨(some 23), .faddr 0 (.t 22), []⟩,
  .s ⟨none, .store 1 (.t 23) (.t 21), []⟩])
 (.seq (.seq (.reg [.s ⟨(some 24), .faddr 1 (.t 4), []⟩,
  .s ⟨(some 25), .faddr 0 (.t 24), []⟩,
  .s ⟨(some 26), .load false 1 (.t 25), []⟩])
 (.block 0 (.seq (.reg [.s ⟨(some 28), .bin .eql (.t 26) (.c (.int .u8 3)), []⟩,
  .s ⟨(some 27), .mv (.t 28), []⟩])
 (.cond (.t 27) (.reg [.s ⟨(some 29), .mv (.t 0), []⟩,
  .s ⟨(some 30), .faddr 1 (.t 4), []⟩,
  .s ⟨(some 31), .faddr 1 (.t 30), []⟩,
  .s ⟨(some 32), .load false 1 (.t 31), []⟩,
  .s ⟨(some 33), .call 28 [(.t 29), (.t 32)], []⟩])
 (.seq (.reg [.s ⟨(some 35), .bin .eql (.t 26) (.c (.int .u8 4)), []⟩,
  .s ⟨(some 34), .mv (.t 35), []⟩])
 (.cond (.t 34) (.seq (.reg [.s ⟨(some 36), .mv (.t 0), []⟩,
  .s ⟨(some 37), .faddr 1 (.t 4), []⟩,
  .s ⟨(some 38), .faddr 2 (.t 37), []⟩,
  .s ⟨(some 39), .load false 1 (.t 38), []⟩,
  .s ⟨(some 40), .call 46 [(.t 36), (.t 39)], []⟩])
 (.seq (.reg [.s ⟨(some 41), .mv (.t 0), []⟩,
  .s ⟨(some 42), .faddr 5 (.t 4), []⟩,
  .s ⟨(some 43), .load false 1 (.t 42), []⟩,
  .s ⟨(some 44), .lenL (.t 43), []⟩,
  .s ⟨(some 45), .call 28 [(.t 41), (.t 44)], []⟩])
 (.seq (.reg [.s ⟨(some 46), .faddr 5 (.t 4), []⟩,
  .s ⟨(some 47), .load false 1 (.t 46), []⟩,
  .s ⟨(some 48), .lenL (.t 47), []⟩,
  .s ⟨(some 49), .mv (.c (.int .i64 0)), []⟩])
 (.block 1 (.loop (.seq (.reg [.s ⟨(some 50), .bin .lss (.t 49) (.t 48), []⟩])
 (.seq (.cond (.t 50) .skip
 (.exit 1))
 (.seq (.block 2 (.seq (.reg [.s ⟨(some 51), .idx 1 (.t 47) (.t 49), []⟩,
  .s ⟨(some 52), .load false 1 (.t 51), []⟩,
  .s ⟨(some 7), .mv (.t 52), []⟩])
 (.reg [.s ⟨(some 53), .mv (.t 0), []⟩,
  .s ⟨(some 54), .mv (.t 7), []⟩,
  .s ⟨(some 55), .call 46 [(.t 53), (.t 54)], []⟩])))
 (.reg [.s ⟨(some 56), .bin .add (.t 49) (.c (.int .i64 1)), []⟩,
  .s ⟨(some 49), .mv (.t 56), []⟩])))))))))
 .skip))))))
 (.reg [.s ⟨(some 58), .mv (.t 0), []⟩,
  .s ⟨(some 59), .mv (.t 0), []⟩,
  .s ⟨(some 60), .nilchk (.t 59), []⟩,
  .s ⟨(some 61), .faddr 0 (.t 60), []⟩,
  .s ⟨(some 62), .load false 1 (.t 61), []⟩,
  .s ⟨(some 63), .mv (.t 2), []⟩,
  .s ⟨(some 64), .call 57 [(.t 62), (.t 63)], []⟩,
  .s ⟨(some 57), .mv (.t 64), []⟩,
  .s ⟨(some 65), .ext 0 (.t 57), []⟩,
  .s ⟨(some 66), .ext 1 (.t 57), []⟩,
  .s ⟨(some 67), .nilchk (.t 58), []⟩,
  .s ⟨(some 68), .faddr 0 (.t 67), []⟩,
  .s ⟨none, .store 1 (.t 68) (.t 65), []⟩])))))⟩
theorem s47 : slimF Try.prog Try.f47 = some a47.fn := by kernel_rfl
def a48 : XFun := ⟨42, [.t 2],
 (.seq (.reg [.s ⟨(some 2), .mv (.c (.bool false)), []⟩])
 (.seq (.seq (.reg [.s ⟨(some 5), .mv (.t 0), []⟩,
  .s ⟨(some 6), .tobytes 5 (.t 5), []⟩,
  .s ⟨(some 7), .lenL (.t 6), []⟩,
  .s ⟨(some 8), .mv (.c (.int .i64 0)), []⟩])
 (.block 0 (.loop (.seq (.reg [.s ⟨(some 9), .bin .lss (.t 8) (.t 7), []⟩])
 (.seq (.cond (.t 9) .skip
 (.exit 0))
 (.seq (.block 1 (.seq (.reg [.s ⟨(some 10), .idx 1 (.t 6) (.t 8), []⟩,
  .s ⟨(some 11), .load false 1 (.t 10), []⟩,
  .s ⟨(some 4), .mv (.t 11), []⟩])
 (.block 2 (.seq (.seq (.reg [.s ⟨(some 13), .mv (.t 4), []⟩,
  .s ⟨(some 14), .bin .geq (.t 13) (.c (.int .u8 97)), []⟩,
  .s ⟨(some 15), .mv (.t 14), []⟩,
  .g 15 true [⟨(some 16), .mv (.t 4), []⟩,
   ⟨(some 17), .bin .leq (.t 16) (.c (.int .u8 122)), []⟩],
  .s ⟨(some 18), .pick (.t 15) (.t 17) (.c (.bool false)), []⟩,
  .s ⟨(some 12), .mv (.t 18), []⟩])
 (.cond (.t 12) .skip
 (.seq (.reg [.s ⟨(some 19), .mv (.t 4), []⟩,
  .s ⟨(some 20), .bin .geq (.t 19) (.c (.int .u8 65)), []⟩,
  .s ⟨(some 21), .mv (.t 20), []⟩,
  .g 21 true [⟨(some 22), .mv (.t 4), []⟩,
   ⟨(some 23), .bin .leq (.t 22) (.c (.int .u8 90)), []⟩],
  .s ⟨(some 24), .pick (.t 21) (.t 23) (.c (.bool false)), []⟩,
  .s ⟨(some 12), .mv (.t 24), []⟩])
 (.cond (.t 12) .skip
 (.seq (.reg [.s ⟨(some 25), .mv (.t 4), []⟩,
  .s ⟨(some 26), .bin .geq (.t 25) (.c (.int .u8 48)), []⟩,
  .s ⟨(some 27), .mv (.t 26), []⟩,
  .g 27 true [⟨(some 28), .mv (.t 4), []⟩,
   ⟨(some 29), .bin .leq (.t 28) (.c (.int .u8 57)), []⟩],
  .s ⟨(some 30), .pick (.t 27) (.t 29) (.c (.bool false)), []⟩,
  .s ⟨(some 12), .mv (.t 30), []⟩])
 (.cond (.t 12) .skip
 (.reg [.s ⟨(some 31), .mv (.t 4), []⟩,
  .s ⟨(some 32), .bin .eql (.t 31) (.c (.int .u8 95)), []⟩,
  .s ⟨(some 12), .mv (.t 32), []⟩])))))))
 (.cond (.t 12) .skip
 (.seq (.reg [.s ⟨(some 2), .mv (.c (.bool false)), []⟩])
 .ret))))))
 (.reg [.s ⟨(some 33), .bin .add (.t 8) (.c (.int .i64 1)), []⟩,
  .s ⟨(some 8), .mv (.t 33), []⟩])))))))
 (.seq (.reg [.s ⟨(some 34), .mv (.t 0), []⟩,
  .s ⟨(some 35), .lenS (.t 34), []⟩,
  .s ⟨(some 36), .bin .geq (.t 35) (.c (.int .i64 1)), []⟩,
  .s ⟨(some 37), .mv (.t 36), []⟩,
  .g 37 true [⟨(some 38), .mv (.t 0), []⟩,
   ⟨(some 39), .lenS (.t 38), []⟩,
   ⟨(some 40), .bin .leq (.t 39) (.c (.int .i64 24)), []⟩],
  .s ⟨(some 41), .pick (.t 37) (.t 40) (.c (.bool false)), []⟩,
  .s ⟨(some 2), .mv (.t 41), []⟩])
 .ret)))⟩
theorem s48 : slimF Try.prog Try.f48 = some a48.fn := by kernel_rfl
def a49 : XFun := ⟨106, [.t 2],
 (.seq (.reg [.s ⟨(some 1), .box 64 (.t 0), []⟩,
  .s ⟨(some 2), .mv (.c (.bool false)), []⟩])
 (.seq (.seq (.reg [.s ⟨(some 7), .faddr 0 (.t 1), []⟩,
  .s ⟨(some 8), .load false 1 (.t 7), []⟩,
  .s ⟨(some 9), .call 48 [(.t 8)], []⟩,
  .s ⟨(some 10), .un .not (.t 9), []⟩])
 (.cond (.t 10) (.seq (.reg [.s ⟨(some 2), .mv (.c (.bool false)), []⟩])
 .ret)
 .skip))
 (.seq (.reg [.s ⟨(some 11), .faddr 1 (.t 1), []⟩,
  .s ⟨(some 12), .faddr 2 (.t 11), []⟩,
  .s ⟨(some 13), .load false 1 (.t 12), []⟩,
  .s ⟨(some 14), .bin .eql (.t 13) (.c (.string ⟨#[]⟩)), []⟩,
  .s ⟨(some 15), .mv (.t 14), []⟩,
  .g 15 true [⟨(some 16), .faddr 5 (.t 1), []⟩,
   ⟨(some 17), .load false 1 (.t 16), []⟩,
   ⟨(some 18), .lenL (.t 17), []⟩,
   ⟨(some 19), .bin .eql (.t 18) (.c (.int .i64 0)), []⟩],
  .s ⟨(some 20), .pick (.t 15) (.t 19) (.c (.bool false)), []⟩,
  .s ⟨(some 3), .mv (.t 20), []⟩])
 (.seq (.seq (.reg [.s ⟨(some 21), .faddr 1 (.t 1), []⟩,
  .s ⟨(some 22), .faddr 0 (.t 21), []⟩,
  .s ⟨(some 23), .load false 1 (.t 22), []⟩])
 (.block 0 (.seq (.seq (.reg [.s ⟨(some 25), .bin .eql (.t 23) (.c (.int .u8 1)), []⟩,
  .s ⟨(some 24), .mv (.t 25), []⟩])
 (.cond (.t 24) .skip
 (.reg [.s ⟨(some 26), .bin .eql (.t 23) (.c (.int .u8 2)), []⟩,
  .s ⟨(some 24), .mv (.t 26), []⟩])))
 (.cond (.t 24) (.seq (.reg [.s ⟨(some 27), .mv (.t 3), []⟩,
  .s ⟨(some 28), .mv (.t 27), []⟩,
  .g 28 true [⟨(some 29), .faddr 1 (.t 1), []⟩,
   ⟨(some 30), .faddr 1 (.t 29), []⟩,
   ⟨(some 31), .load false 1 (.t 30), []⟩,
   ⟨(some 32), .bin .eql (.t 31) (.c (.int .i64 0)), []⟩],
  .s ⟨(some 33), .pick (.t 28) (.t 32) (.c (.bool false)), []⟩,
  .s ⟨(some 34), .mv (.t 33), []⟩,
  .g 34 true [⟨(some 35), .faddr 4 (.t 1), []⟩,
   ⟨(some 36), .load false 1 (.t 35), []⟩,
   ⟨(some 37), .bin .eql (.t 36) (.c (.int .i64 1)), []⟩],
  .s ⟨(some 38), .pick (.t 34) (.t 37) (.c (.bool false)), []⟩,
  .s ⟨(some 2), .mv (.t 38), []⟩])
 .ret)
 (.seq (.reg [.s ⟨(some 40), .bin .eql (.t 23) (.c (.int .u8 3)), []⟩,
  .s ⟨(some 39), .mv (.t 40), []⟩])
 (.cond (.t 39) (.seq (.reg [.s ⟨(some 41), .mv (.t 3), []⟩,
  .s ⟨(some 42), .mv (.t 41), []⟩,
  .g 42 true [⟨(some 43), .faddr 1 (.t 1), []⟩,
   ⟨(some 44), .faddr 1 (.t 43), []⟩,
   ⟨(some 45), .load false 1 (.t 44), []⟩,
   ⟨(some 46), .bin .geq (.t 45) (.c (.int .i64 1)), []⟩],
  .s ⟨(some 47), .pick (.t 42) (.t 46) (.c (.bool false)), []⟩,
  .s ⟨(some 48), .mv (.t 47), []⟩,
  .g 48 true [⟨(some 49), .faddr 1 (.t 1), []⟩,
   ⟨(some 50), .faddr 1 (.t 49), []⟩,
   ⟨(some 51), .load false 1 (.t 50), []⟩,
   ⟨(some 52), .bin .leq (.t 51) (.c (.int .i64 16)), []⟩],
  .s ⟨(some 53), .pick (.t 48) (.t 52) (.c (.bool false)), []⟩,
  .s ⟨(some 54), .mv (.t 53), []⟩,
  .g 54 true [⟨(some 55), .faddr 4 (.t 1), []⟩,
   ⟨(some 56), .load false 1 (.t 55), []⟩,
   ⟨(some 57), .faddr 1 (.t 1), []⟩,
   ⟨(some 58), .faddr 1 (.t 57), []⟩,
   ⟨(some 59), .load false 1 (.t 58), []⟩,
   ⟨(some 60), .bin .eql (.t 56) (.t 59), []⟩],
  .s ⟨(some 61), .pick (.t 54) (.t 60) (.c (.bool false)), []⟩,
  .s ⟨(some 2), .mv (.t 61), []⟩])
 .ret)
 (.seq (.reg [.s ⟨(some 63), .bin .eql (.t 23) (.c (.int .u8 4)), []⟩,
  .s ⟨(some 62), .mv (.t 63), []⟩])
 (.cond (.t 62) (.seq (.reg [.s ⟨(some 64), .faddr 1 (.t 1), []⟩,
  .s ⟨(some 65), .faddr 2 (.t 64), []⟩,
  .s ⟨(some 66), .load false 1 (.t 65), []⟩,
  .s ⟨(some 67), .call 48 [(.t 66)], []⟩,
  .s ⟨(some 68), .mv (.t 67), []⟩,
  .g 68 true [⟨(some 69), .faddr 1 (.t 1), []⟩,
   ⟨(some 70), .faddr 1 (.t 69), []⟩,
   ⟨(some 71), .load false 1 (.t 70), []⟩,
   ⟨(some 72), .bin .eql (.t 71) (.c (.int .i64 0)), []⟩],
  .s ⟨(some 73), .pick (.t 68) (.t 72) (.c (.bool false)), []⟩,
  .s ⟨(some 74), .mv (.t 73), []⟩,
  .g 74 true [⟨(some 75), .faddr 4 (.t 1), []⟩,
   ⟨(some 76), .load false 1 (.t 75), []⟩,
   ⟨(some 77), .faddr 5 (.t 1), []⟩,
   ⟨(some 78), .load false 1 (.t 77), []⟩,
   ⟨(some 79), .lenL (.t 78), []⟩,
   ⟨(some 80), .bin .eql (.t 76) (.t 79), []⟩],
  .s ⟨(some 81), .pick (.t 74) (.t 80) (.c (.bool false)), []⟩,
  .s ⟨(some 82), .mv (.t 81), []⟩,
  .g 82 true [⟨(some 83), .faddr 4 (.t 1), []⟩,
   ⟨(some 84), .load false 1 (.t 83), []⟩,
   ⟨(some 85), .bin .geq (.t 84) (.c (.int .i64 1)), []⟩],
  .s ⟨(some 86), .pick (.t 82) (.t 85) (.c (.bool false)), []⟩,
  .s ⟨(some 87), .mv (.t 86), []⟩,
  .g 87 true [⟨(some 88), .faddr 4 (.t 1), []⟩,
   ⟨(some 89), .load false 1 (.t 88), []⟩,
   ⟨(some 90), .bin .leq (.t 89) (.c (.int .i64 8)), []⟩],
  .s ⟨(some 91), .pick (.t 87) (.t 90) (.c (.bool false)), []⟩,
  .s ⟨(some 4), .mv (.t 91), []⟩])
 (.seq (.seq (.reg [.s ⟨(some 92), .faddr 5 (.t 1), []⟩,
  .s ⟨(some 93), .load false 1 (.t 92), []⟩,
  .s ⟨(some 94), .lenL (.t 93), []⟩,
  .s ⟨(some 95), .mv (.c (.int .i64 0)), []⟩])
 (.block 1 (.loop (.seq (.reg [.s ⟨(some 96), .bin .lss (.t 95) (.t 94), []⟩])
 (.seq (.cond (.t 96) .skip
 (.exit 1))
 (.seq (.block 2 (.seq (.reg [.s ⟨(some 97), .idx 1 (.t 93) (.t 95), []⟩,
  .s ⟨(some 98), .load false 1 (.t 97), []⟩,
  .s ⟨(some 6), .mv (.t 98), []⟩])
 (.reg [.s ⟨(some 99), .mv (.t 4), []⟩,
  .s ⟨(some 100), .mv (.t 99), []⟩,
  .g 100 true [⟨(some 101), .mv (.t 6), []⟩,
   ⟨(some 102), .call 48 [(.t 101)], []⟩],
  .s ⟨(some 103), .pick (.t 100) (.t 102) (.c (.bool false)), []⟩,
  .s ⟨(some 4), .mv (.t 103), []⟩])))
 (.reg [.s ⟨(some 104), .bin .add (.t 95) (.c (.int .i64 1)), []⟩,
  .s ⟨(some 95), .mv (.t 104), []⟩])))))))
 (.seq (.reg [.s ⟨(some 105), .mv (.t 4), []⟩,
  .s ⟨(some 2), .mv (.t 105), []⟩])
 .ret)))
 .skip))))))))
 (.seq (.reg [.s ⟨(some 2), .mv (.c (.bool false)), []⟩])
 .ret)))))⟩
theorem s49 : slimF Try.prog Try.f49 = some a49.fn := by kernel_rfl
def a50 : XFun := ⟨46, [.t 2],
 (.seq (.reg [.s ⟨(some 2), .mv (.c (.bool false)), []⟩])
 (.seq (.reg [.s ⟨(some 3), .mv (.c (.int .i64 0)), []⟩])
 (.seq (.seq (.reg [.s ⟨(some 6), .mv (.t 0), []⟩,
  .s ⟨(some 7), .lenL (.t 6), []⟩,
  .s ⟨(some 8), .mv (.c (.int .i64 0)), []⟩])
 (.block 0 (.loop (.seq (.reg [.s ⟨(some 9), .bin .lss (.t 8) (.t 7), []⟩])
 (.seq (.cond (.t 9) .skip
 (.exit 0))
 (.seq (.block 1 (.seq (.reg [.s ⟨(some 10), .idx 3 (.t 6) (.t 8), []⟩,
  .s ⟨(some 11), .load true 3 (.t 10), []⟩,
  .s ⟨(some 5), .alloc 55 [(.int .i64 0), (.int .i64 0), (.slice none 0 0)], []⟩,
  .s ⟨none, .store 3 (.t 5) (.t 11), []⟩])
 (.seq (.seq (.reg [.s ⟨(some 12), .faddr 0 (.t 5), []⟩,
  .s ⟨(some 13), .load false 1 (.t 12), []⟩,
  .s ⟨(some 14), .mv (.t 3), []⟩,
  .s ⟨(some 15), .bin .lss (.t 13) (.t 14), []⟩,
  .s ⟨(some 16), .mv (.t 15), []⟩,
  .g 16 false [⟨(some 17), .faddr 1 (.t 5), []⟩,
   ⟨(some 18), .load false 1 (.t 17), []⟩,
   ⟨(some 19), .faddr 0 (.t 5), []⟩,
   ⟨(some 20), .load false 1 (.t 19), []⟩,
   ⟨(some 21), .bin .leq (.t 18) (.t 20), []⟩],
  .s ⟨(some 22), .pick (.t 16) (.c (.bool true)) (.t 21), []⟩,
  .s ⟨(some 23), .mv (.t 22), []⟩,
  .g 23 false [⟨(some 24), .faddr 1 (.t 5), []⟩,
   ⟨(some 25), .load false 1 (.t 24), []⟩,
   ⟨(some 26), .bin .gtr (.t 25) (.c (.int .i64 16777216)), []⟩],
  .s ⟨(some 27), .pick (.t 23) (.c (.bool true)) (.t 26), []⟩,
  .s ⟨(some 28), .mv (.t 27), []⟩,
  .g 28 false [⟨(some 29), .faddr 2 (.t 5), []⟩,
   ⟨(some 30), .load false 1 (.t 29), []⟩,
   ⟨(some 31), .lenL (.t 30), []⟩,
   ⟨(some 32), .bin .eql (.t 31) (.c (.int .i64 0)), []⟩],
  .s ⟨(some 33), .pick (.t 28) (.c (.bool true)) (.t 32), []⟩,
  .s ⟨(some 34), .mv (.t 33), []⟩,
  .g 34 false [⟨(some 35), .faddr 2 (.t 5), []⟩,
   ⟨(some 36), .load false 1 (.t 35), []⟩,
   ⟨(some 37), .call 58 [(.t 36)], []⟩,
   ⟨(some 38), .un .not (.t 37), []⟩],
  .s ⟨(some 39), .pick (.t 34) (.c (.bool true)) (.t 38), []⟩])
 (.cond (.t 39) (.seq (.reg [.s ⟨(some 2), .mv (.c (.bool false)), []⟩])
 .ret)
 .skip))
 (.reg [.s ⟨(some 40), .faddr 1 (.t 5), []⟩,
  .s ⟨(some 41), .load false 1 (.t 40), []⟩,
  .s ⟨(some 3), .mv (.t 41), []⟩]))))
 (.reg [.s ⟨(some 42), .bin .add (.t 8) (.c (.int .i64 1)), []⟩,
  .s ⟨(some 8), .mv (.t 42), []⟩])))))))
 (.seq (.reg [.s ⟨(some 43), .mv (.t 0), []⟩,
  .s ⟨(some 44), .lenL (.t 43), []⟩,
  .s ⟨(some 45), .bin .leq (.t 44) (.c (.int .i64 4000)), []⟩,
  .s ⟨(some 2), .mv (.t 45), []⟩])
 .ret))))⟩
theorem s50 : slimF Try.prog Try.f50 = some a50.fn := by kernel_rfl
def a51 : XFun := ⟨32, [.t 4, .t 5, .t 6],
 (.seq (.reg [.s ⟨(some 4), .mv (.c (.string ⟨#[]⟩)), []⟩,
  .s ⟨(some 5), .mv (.c (.int .i64 0)), []⟩,
  .s ⟨(some 6), .mv (.c (.int .i64 0)), []⟩])
 (.seq (.reg [.s ⟨(some 10), .mv (.t 0), []⟩,
  .s ⟨(some 11), .mv (.t 1), []⟩,
  .s ⟨(some 12), .call 59 [(.t 10), (.t 11)], []⟩,
  .s ⟨(some 9), .mv (.t 12), []⟩,
  .s ⟨(some 13), .ext 0 (.t 9), []⟩,
  .s ⟨(some 14), .ext 1 (.t 9), []⟩,
  .s ⟨(some 15), .ext 2 (.t 9), []⟩,
  .s ⟨(some 7), .mv (.t 13), []⟩,
  .s ⟨(some 5), .mv (.t 14), []⟩,
  .s ⟨(some 6), .mv (.t 15), []⟩])
 (.seq (.seq (.reg [.s ⟨(some 16), .mv (.t 6), []⟩,
  .s ⟨(some 17), .bin .neq (.t 16) (.c (.int .i64 0)), []⟩])
 (.cond (.t 17) (.seq (.reg [.s ⟨(some 18), .mv (.t 6), []⟩,
  .s ⟨(some 4), .mv (.c (.string ⟨#[]⟩)), []⟩,
  .s ⟨(some 5), .mv (.c (.int .i64 0)), []⟩,
  .s ⟨(some 6), .mv (.t 18), []⟩])
 .ret)
 .skip))
 (.seq (.reg [.s ⟨(some 20), .mv (.t 0), []⟩,
  .s ⟨(some 21), .mv (.t 5), []⟩,
  .s ⟨(some 22), .mv (.t 7), []⟩,
  .s ⟨(some 23), .cint .i64 (.t 22), []⟩,
  .s ⟨(some 24), .call 60 [(.t 20), (.t 21), (.t 23)], []⟩,
  .s ⟨(some 19), .mv (.t 24), []⟩,
  .s ⟨(some 25), .ext 0 (.t 19), []⟩,
  .s ⟨(some 26), .ext 1 (.t 19), []⟩,
  .s ⟨(some 27), .ext 2 (.t 19), []⟩,
  .s ⟨(some 8), .mv (.t 25), []⟩,
  .s ⟨(some 5), .mv (.t 26), []⟩,
  .s ⟨(some 6), .mv (.t 27), []⟩])
 (.seq (.reg [.s ⟨(some 28), .mv (.t 8), []⟩,
  .s ⟨(some 29), .tostr (.t 28), []⟩,
  .s ⟨(some 30), .mv (.t 5), []⟩,
  .s ⟨(some 31), .mv (.t 6), []⟩,
  .s ⟨(some 4), .mv (.t 29), []⟩,
  .s ⟨(some 5), .mv (.t 30), []⟩,
  .s ⟨(some 6), .mv (.t 31), []⟩])
 .ret)))))⟩
theorem s51 : slimF Try.prog Try.f51 = some a51.fn := by kernel_rfl
def a52 : XFun := ⟨13, [.t 4, .t 5, .t 6],
 (.seq (.reg [.s ⟨(some 4), .mv (.c (.int .u64 0)), []⟩,
  .s ⟨(some 5), .mv (.c (.int .i64 0)), []⟩,
  .s ⟨(some 6), .mv (.c (.int .i64 0)), []⟩])
 (.seq (.reg [.s ⟨(some 7), .mv (.t 0), []⟩,
  .s ⟨(some 8), .mv (.t 1), []⟩,
  .s ⟨(some 9), .call 61 [(.t 7), (.t 8), (.fn 62), (.fn 26)], []⟩,
  .s ⟨(some 10), .ext 0 (.t 9), []⟩,
  .s ⟨(some 11), .ext 1 (.t 9), []⟩,
  .s ⟨(some 12), .ext 2 (.t 9), []⟩,
  .s ⟨(some 4), .mv (.t 10), []⟩,
  .s ⟨(some 5), .mv (.t 11), []⟩,
  .s ⟨(some 6), .mv (.t 12), []⟩])
 .ret))⟩
theorem s52 : slimF Try.prog Try.f52 = some a52.fn := by kernel_rfl
def a53 : XFun := ⟨35, [.t 2],
 (.seq (.reg [.s ⟨(some 2), .mv (.c (.int .u8 0)), []⟩])
 (.seq (.par [.s ⟨(some 7), .mv (.t 0), []⟩,
  .s ⟨(some 8), .nilchk (.t 7), []⟩,
  .s ⟨(some 9), .faddr 0 (.t 8), []⟩,
  .s ⟨(some 10), .load false 1 (.t 9), []⟩,
  .s ⟨(some 11), .mv (.t 0), []⟩,
  .s ⟨(some 12), .nilchk (.t 11), []⟩,
  .s ⟨(some 13), .faddr 1 (.t 12), []⟩,
  .s ⟨(some 14), .load false 1 (.t 13), []⟩,
  .s ⟨(some 15), .call 59 [(.t 10), (.t 14)], []⟩,
  .s ⟨(some 6), .mv (.t 15), []⟩,
  .s ⟨(some 16), .ext 0 (.t 6), []⟩,
  .s ⟨(some 17), .ext 1 (.t 6), []⟩,
  .s ⟨(some 18), .ext 2 (.t 6), []⟩,
  .s ⟨(some 3), .mv (.t 16), []⟩,
  .s ⟨(some 4), .mv (.t 17), []⟩,
  .s ⟨(some 5), .mv (.t 18), []⟩])
 (.seq (.seq (.reg [.s ⟨(some 19), .mv (.t 0), []⟩,
  .s ⟨(some 20), .nilchk (.t 19), []⟩,
  .s ⟨(some 21), .faddr 2 (.t 20), []⟩,
  .s ⟨(some 22), .load false 1 (.t 21), []⟩,
  .s ⟨(some 23), .mv (.t 22), []⟩,
  .g 23 false [⟨(some 24), .mv (.t 5), []⟩,
   ⟨(some 25), .bin .neq (.t 24) (.c (.int .i64 0)), []⟩],
  .s ⟨(some 26), .pick (.t 23) (.c (.bool true)) (.t 25), []⟩])
 (.cond (.t 26) (.seq (.reg [.s ⟨(some 27), .mv (.t 0), []⟩,
  .s ⟨(some 28), .nilchk (.t 27), []⟩,
  .s ⟨(some 29), .faddr 2 (.t 28), []⟩,
  .s ⟨none, .store 1 (.t 29) (.c (.bool true)), []⟩])
 (.seq (.reg [.s ⟨(some 2), .mv (.c (.int .u8 0)), []⟩])
 .ret))
 .skip))
 (.seq (.reg [.s ⟨(some 30), .mv (.t 0), []⟩,
  .s ⟨(some 31), .mv (.t 4), []⟩,
  .s ⟨(some 32), .nilchk (.t 30), []⟩,
  .s ⟨(some 33), .faddr 1 (.t 32), []⟩,
  .s ⟨none, .store 1 (.t 33) (.t 31), []⟩])
 (.seq (.reg [.s ⟨(some 34), .mv (.t 3), []⟩,
  .s ⟨(some 2), .mv (.t 34), []⟩])
 .ret)))))⟩
theorem s53 : slimF Try.prog Try.f53 = some a53.fn := by kernel_rfl
def a54 : XFun := ⟨29, [.t 6],
 (.seq (.reg [.s ⟨(some 6), .mv (.c (.slice none 0 0)), []⟩])
 (.seq (.reg [.s ⟨(some 7), .mv (.c (.slice none 0 0)), []⟩])
 (.seq (.seq (.reg [.s ⟨(some 9), .mv (.t 0), []⟩,
  .s ⟨(some 10), .mv (.t 1), []⟩,
  .s ⟨(some 11), .call 34 [(.t 9), (.t 10)], []⟩,
  .s ⟨(some 8), .mv (.t 11), []⟩])
 (.block 0 (.loop (.seq (.seq (.reg [.s ⟨(some 12), .mv (.t 8), []⟩,
  .s ⟨(some 13), .bin .gtr (.t 12) (.c (.int .i64 0)), []⟩,
  .s ⟨(some 14), .mv (.t 13), []⟩,
  .g 14 true [⟨(some 15), .mv (.t 0), []⟩,
   ⟨(some 16), .nilchk (.t 15), []⟩,
   ⟨(some 17), .faddr 2 (.t 16), []⟩,
   ⟨(some 18), .load false 1 (.t 17), []⟩,
   ⟨(some 19), .un .not (.t 18), []⟩],
  .s ⟨(some 20), .pick (.t 14) (.t 19) (.c (.bool false)), []⟩])
 (.cond (.t 20) .skip
 (.exit 0)))
 (.seq (.block 1 (.reg [.s ⟨(some 23), .mv (.t 7), []⟩,
  .s ⟨(some 24), .mv (.t 2), []⟩,
  .s ⟨(some 25), .callv (.t 24) [], []⟩,
  .s ⟨(some 26), .bslice 9 1 [(.string ⟨#[]⟩)] [(0, 1, (.t 25))], []⟩,
  .s ⟨(some 27), .app 9 1 16 (.t 23) (.t 26), []⟩,
  .s ⟨(some 7), .mv (.t 27), []⟩]))
 (.reg [.s ⟨(some 21), .mv (.t 8), []⟩,
  .s ⟨(some 22), .bin .sub (.t 21) (.c (.int .i64 1)), []⟩,
  .s ⟨(some 8), .mv (.t 22), []⟩]))))))
 (.seq (.reg [.s ⟨(some 28), .mv (.t 7), []⟩,
  .s ⟨(some 6), .mv (.t 28), []⟩])
 .ret))))⟩
theorem s54 : slimF Try.prog Try.f54 = some a54.fn := by kernel_rfl
def a55 : XFun := ⟨59, [.t 4, .t 5, .t 6],
 (.seq (.reg [.s ⟨(some 4), .mv (.c (.slice none 0 0)), []⟩,
  .s ⟨(some 5), .mv (.c (.int .i64 0)), []⟩,
  .s ⟨(some 6), .mv (.c (.int .i64 0)), []⟩])
 (.seq (.seq (.reg [.s ⟨(some 12), .mv (.t 1), []⟩,
  .s ⟨(some 13), .bin .lss (.t 12) (.c (.int .i64 0)), []⟩,
  .s ⟨(some 14), .mv (.t 13), []⟩,
  .g 14 false [⟨(some 15), .mv (.t 1), []⟩,
   ⟨(some 16), .mv (.t 0), []⟩,
   ⟨(some 17), .lenL (.t 16), []⟩,
   ⟨(some 18), .bin .gtr (.t 15) (.t 17), []⟩],
  .s ⟨(some 19), .pick (.t 14) (.c (.bool true)) (.t 18), []⟩])
 (.cond (.t 19) (.seq (.reg [.s ⟨(some 4), .mv (.c (.slice none 0 0)), []⟩,
  .s ⟨(some 5), .mv (.c (.int .i64 0)), []⟩,
  .s ⟨(some 6), .mv (.c (.int .i64 1)), []⟩])
 .ret)
 .skip))
 (.seq (.reg [.s ⟨(some 21), .mv (.t 0), []⟩,
  .s ⟨(some 22), .mv (.t 1), []⟩,
  .s ⟨(some 23), .call 52 [(.t 21), (.t 22)], []⟩,
  .s ⟨(some 20), .mv (.t 23), []⟩,
  .s ⟨(some 24), .ext 0 (.t 20), []⟩,
  .s ⟨(some 25), .ext 1 (.t 20), []⟩,
  .s ⟨(some 26), .ext 2 (.t 20), []⟩,
  .s ⟨(some 7), .mv (.t 24), []⟩,
  .s ⟨(some 5), .mv (.t 25), []⟩,
  .s ⟨(some 6), .mv (.t 26), []⟩])
 (.seq (.seq (.reg [.s ⟨(some 27), .mv (.t 6), []⟩,
  .s ⟨(some 28), .bin .neq (.t 27) (.c (.int .i64 0)), []⟩,
  .s ⟨(some 29), .mv (.t 28), []⟩,
  .g 29 false [⟨(some 30), .mv (.t 7), []⟩,
   ⟨(some 31), .bin .gtr (.t 30) (.c (.int .u64 4000)), []⟩],
  .s ⟨(some 32), .pick (.t 29) (.c (.bool true)) (.t 31), []⟩])
 (.cond (.t 32) (.seq (.reg [.s ⟨(some 4), .mv (.c (.slice none 0 0)), []⟩,
  .s ⟨(some 5), .mv (.c (.int .i64 0)), []⟩,
  .s ⟨(some 6), .mv (.c (.int .i64 5)), []⟩])
 .ret)
 .skip))
 (.seq (.reg [.s ⟨(some 8), .mv (.c (.int .i64 0)), []⟩])
 (.seq (.seq (.reg [.s ⟨(some 33), .mv (.t 7), []⟩,
  .s ⟨(some 34), .mv (.c (.int .u64 0)), []⟩])
 (.block 0 (.loop (.seq (.reg [.s ⟨(some 35), .bin .lss (.t 34) (.t 33), []⟩])
 (.seq (.cond (.t 35) .skip
 (.exit 0))
 (.seq (.block 1 (.seq (.reg [.s ⟨(some 37), .mv (.t 0), []⟩,
  .s ⟨(some 38), .mv (.t 5), []⟩,
  .s ⟨(some 39), .mv (.t 8), []⟩,
  .s ⟨(some 40), .call 63 [(.t 37), (.t 38), (.t 39)], []⟩,
  .s ⟨(some 36), .mv (.t 40), []⟩,
  .s ⟨(some 41), .ext 0 (.t 36), []⟩,
  .s ⟨(some 42), .ext 1 (.t 36), []⟩,
  .s ⟨(some 43), .ext 2 (.t 36), []⟩,
  .s ⟨(some 9), .alloc 55 [(.int .i64 0), (.int .i64 0), (.slice none 0 0)], []⟩,
  .s ⟨none, .store 3 (.t 9) (.t 41), []⟩,
  .s ⟨(some 10), .mv (.t 42), []⟩,
  .s ⟨(some 11), .mv (.t 43), []⟩])
 (.seq (.seq (.reg [.s ⟨(some 44), .mv (.t 11), []⟩,
  .s ⟨(some 45), .un .not (.t 44), []⟩])
 (.cond (.t 45) (.seq (.reg [.s ⟨(some 4), .mv (.c (.slice none 0 0)), []⟩,
  .s ⟨(some 5), .mv (.c (.int .i64 0)), []⟩,
  .s ⟨(some 6), .mv (.c (.int .i64 5)), []⟩])
 .ret)
 .skip))
 (.par [.s ⟨(some 46), .mv (.t 4), []⟩,
  .s ⟨(some 47), .load true 3 (.t 9), []⟩,
  .s ⟨(some 50), .faddr 1 (.t 9), []⟩,
  .s ⟨(some 51), .load false 1 (.t 50), []⟩,
  .s ⟨(some 52), .mv (.t 10), []⟩,
  .s ⟨(some 48), .bslice 55 1 [(.int .i64 0), (.int .i64 0), (.slice none 0 0)] [(0, 3, (.t 47))], [⟨none, (some 51), .load false 1 (.t 50)⟩]⟩,
  .s ⟨(some 49), .app 55 3 40 (.t 46) (.t 48), [⟨none, (some 51), .load false 1 (.t 50)⟩]⟩,
  .s ⟨(some 4), .mv (.t 49), [⟨none, (some 51), .load false 1 (.t 50)⟩]⟩,
  .s ⟨(some 8), .mv (.t 51), []⟩,
  .s ⟨(some 5), .mv (.t 52), []⟩]))))
 (.reg [.s ⟨(some 53), .bin .add (.t 34) (.c (.int .u64 1)), []⟩,
  .s ⟨(some 34), .mv (.t 53), []⟩])))))))
 (.seq (.seq (.reg [.s ⟨(some 54), .mv (.t 4), []⟩,
  .s ⟨(some 55), .call 50 [(.t 54)], []⟩,
  .s ⟨(some 56), .un .not (.t 55), []⟩])
 (.cond (.t 56) (.seq (.reg [.s ⟨(some 4), .mv (.c (.slice none 0 0)), []⟩,
  .s ⟨(some 5), .mv (.c (.int .i64 0)), []⟩,
  .s ⟨(some 6), .mv (.c (.int .i64 5)), []⟩])
 .ret)
 .skip))
 (.seq (.reg [.s ⟨(some 57), .mv (.t 4), []⟩,
  .s ⟨(some 58), .mv (.t 5), []⟩,
  .s ⟨(some 4), .mv (.t 57), []⟩,
  .s ⟨(some 5), .mv (.t 58), []⟩,
  .s ⟨(some 6), .mv (.c (.int .i64 0)), []⟩])
 .ret))))))))⟩
theorem s55 : slimF Try.prog Try.f55 = some a55.fn := by kernel_rfl
def a56 : XFun := ⟨18, [.t 4, .t 5],
 (.seq (.reg [.s ⟨(some 4), .mv (.c (.slice none 0 0)), []⟩,
  .s ⟨(some 5), .mv (.c (.int .i64 0)), []⟩])
 (.seq (.seq (.reg [.s ⟨(some 6), .mv (.t 1), []⟩,
  .s ⟨(some 7), .lenS (.t 6), []⟩,
  .s ⟨(some 8), .bin .gtr (.t 7) (.c (.int .i64 255)), []⟩])
 (.cond (.t 8) (.seq (.reg [.s ⟨(some 4), .mv (.c (.slice none 0 0)), []⟩,
  .s ⟨(some 5), .mv (.c (.int .i64 1)), []⟩])
 .ret)
 .skip))
 (.seq (.reg [.s ⟨(some 9), .mv (.t 0), []⟩,
  .s ⟨(some 10), .mv (.t 1), []⟩,
  .s ⟨(some 11), .lenS (.t 10), []⟩,
  .s ⟨(some 12), .cint .u8 (.t 11), []⟩,
  .s ⟨(some 13), .bslice 5 1 [(.int .u8 0)] [(0, 1, (.t 12))], []⟩,
  .s ⟨(some 14), .mv (.t 1), []⟩,
  .s ⟨(some 15), .tobytes 5 (.t 14), []⟩,
  .s ⟨(some 16), .bslice 36 3 [(.slice none 0 0), (.slice none 0 0), (.slice none 0 0)] [(0, 1, (.t 9)), (1, 1, (.t 13)), (2, 1, (.t 15))], []⟩,
  .s ⟨(some 17), .call 64 [(.t 16)], []⟩,
  .s ⟨(some 4), .mv (.t 17), []⟩,
  .s ⟨(some 5), .mv (.c (.int .i64 0)), []⟩])
 .ret)))⟩
theorem s56 : slimF Try.prog Try.f56 = some a56.fn := by kernel_rfl
def a57 : XFun := ⟨49, [.t 4, .t 5],
 (.seq (.reg [.s ⟨(some 4), .mv (.c (.slice none 0 0)), []⟩,
  .s ⟨(some 5), .mv (.c (.int .i64 0)), []⟩])
 (.seq (.seq (.reg [.s ⟨(some 10), .mv (.t 1), []⟩,
  .s ⟨(some 11), .call 50 [(.t 10)], []⟩,
  .s ⟨(some 12), .un .not (.t 11), []⟩])
 (.cond (.t 12) (.seq (.reg [.s ⟨(some 4), .mv (.c (.slice none 0 0)), []⟩,
  .s ⟨(some 5), .mv (.c (.int .i64 1)), []⟩])
 .ret)
 .skip))
 (.seq (.reg [.s ⟨(some 13), .mv (.t 0), []⟩,
  .s ⟨(some 14), .mv (.t 1), []⟩,
  .s ⟨(some 15), .lenL (.t 14), []⟩,
  .s ⟨(some 16), .cint .u64 (.t 15), []⟩,
  .s ⟨(some 17), .call 26 [(.t 13), (.t 16)], []⟩,
  .s ⟨(some 6), .mv (.t 17), []⟩])
 (.seq (.reg [.s ⟨(some 7), .mv (.c (.int .i64 0)), []⟩])
 (.seq (.seq (.reg [.s ⟨(some 18), .mv (.t 1), []⟩,
  .s ⟨(some 19), .lenL (.t 18), []⟩,
  .s ⟨(some 20), .mv (.c (.int .i64 0)), []⟩])
 (.block 0 (.loop (.seq (.reg [.s ⟨(some 21), .bin .lss (.t 20) (.t 19), []⟩])
 (.seq (.cond (.t 21) .skip
 (.exit 0))
 (.seq (.block 1 (.seq (.reg [.s ⟨(some 22), .idx 3 (.t 18) (.t 20), []⟩,
  .s ⟨(some 23), .load true 3 (.t 22), []⟩,
  .s ⟨(some 9), .alloc 55 [(.int .i64 0), (.int .i64 0), (.slice none 0 0)], []⟩,
  .s ⟨none, .store 3 (.t 9) (.t 23), []⟩])
 (.seq (.par [.s ⟨(some 24), .mv (.t 6), []⟩,
  .s ⟨(some 25), .faddr 0 (.t 9), []⟩,
  .s ⟨(some 26), .load false 1 (.t 25), []⟩,
  .s ⟨(some 27), .mv (.t 7), []⟩,
  .s ⟨(some 28), .bin .sub (.t 26) (.t 27), []⟩,
  .s ⟨(some 29), .cint .u64 (.t 28), []⟩,
  .s ⟨(some 31), .faddr 1 (.t 9), []⟩,
  .s ⟨(some 32), .load false 1 (.t 31), []⟩,
  .s ⟨(some 33), .faddr 0 (.t 9), []⟩,
  .s ⟨(some 34), .load false 1 (.t 33), []⟩,
  .s ⟨(some 35), .bin .sub (.t 32) (.t 34), []⟩,
  .s ⟨(some 36), .cint .u64 (.t 35), []⟩,
  .s ⟨(some 30), .call 26 [(.t 24), (.t 29)], [⟨none, (some 34), .load false 1 (.t 33)⟩, ⟨none, (some 32), .load false 1 (.t 31)⟩]⟩,
  .s ⟨(some 37), .call 26 [(.t 30), (.t 36)], []⟩,
  .s ⟨(some 6), .mv (.t 37), []⟩])
 (.seq (.reg [.s ⟨(some 39), .mv (.t 6), []⟩,
  .s ⟨(some 40), .faddr 2 (.t 9), []⟩,
  .s ⟨(some 41), .load false 1 (.t 40), []⟩,
  .s ⟨(some 42), .call 65 [(.t 39), (.t 41)], []⟩,
  .s ⟨(some 38), .mv (.t 42), []⟩,
  .s ⟨(some 43), .ext 0 (.t 38), []⟩,
  .s ⟨(some 44), .ext 1 (.t 38), []⟩,
  .s ⟨(some 6), .mv (.t 43), []⟩])
 (.reg [.s ⟨(some 45), .faddr 1 (.t 9), []⟩,
  .s ⟨(some 46), .load false 1 (.t 45), []⟩,
  .s ⟨(some 7), .mv (.t 46), []⟩])))))
 (.reg [.s ⟨(some 47), .bin .add (.t 20) (.c (.int .i64 1)), []⟩,
  .s ⟨(some 20), .mv (.t 47), []⟩])))))))
 (.seq (.reg [.s ⟨(some 48), .mv (.t 6), []⟩,
  .s ⟨(some 4), .mv (.t 48), []⟩,
  .s ⟨(some 5), .mv (.c (.int .i64 0)), []⟩])
 .ret))))))⟩
theorem s57 : slimF Try.prog Try.f57 = some a57.fn := by kernel_rfl
def a58 : XFun := ⟨11, [.t 2],
 (.seq (.reg [.s ⟨(some 2), .mv (.c (.bool false)), []⟩])
 (.seq (.reg [.s ⟨(some 6), .mv (.t 0), []⟩,
  .s ⟨(some 7), .call 66 [(.t 6)], []⟩,
  .s ⟨(some 5), .mv (.t 7), []⟩,
  .s ⟨(some 8), .ext 0 (.t 5), []⟩,
  .s ⟨(some 9), .ext 1 (.t 5), []⟩,
  .s ⟨(some 3), .mv (.t 8), []⟩,
  .s ⟨(some 4), .mv (.t 9), []⟩])
 (.seq (.reg [.s ⟨(some 10), .mv (.t 4), []⟩,
  .s ⟨(some 2), .mv (.t 10), []⟩])
 .ret)))⟩
theorem s58 : slimF Try.prog Try.f58 = some a58.fn := by kernel_rfl
def a59 : XFun := ⟨22, [.t 4, .t 5, .t 6],
 (.seq (.reg [.s ⟨(some 4), .mv (.c (.int .u8 0)), []⟩,
  .s ⟨(some 5), .mv (.c (.int .i64 0)), []⟩,
  .s ⟨(some 6), .mv (.c (.int .i64 0)), []⟩])
 (.seq (.reg [.s ⟨(some 9), .mv (.t 0), []⟩,
  .s ⟨(some 10), .mv (.t 1), []⟩,
  .s ⟨(some 11), .call 60 [(.t 9), (.t 10), (.c (.int .i64 1))], []⟩,
  .s ⟨(some 8), .mv (.t 11), []⟩,
  .s ⟨(some 12), .ext 0 (.t 8), []⟩,
  .s ⟨(some 13), .ext 1 (.t 8), []⟩,
  .s ⟨(some 14), .ext 2 (.t 8), []⟩,
  .s ⟨(some 7), .mv (.t 12), []⟩,
  .s ⟨(some 5), .mv (.t 13), []⟩,
  .s ⟨(some 6), .mv (.t 14), []⟩])
 (.seq (.seq (.reg [.s ⟨(some 15), .mv (.t 6), []⟩,
  .s ⟨(some 16), .bin .neq (.t 15) (.c (.int .i64 0)), []⟩])
 (.cond (.t 16) (.seq (.reg [.s ⟨(some 17), .mv (.t 6), []⟩,
  .s ⟨(some 4), .mv (.c (.int .u8 0)), []⟩,
  .s ⟨(some 5), .mv (.c (.int .i64 0)), []⟩,
  .s ⟨(some 6), .mv (.t 17), []⟩])
 .ret)
 .skip))
 (.seq (.reg [.s ⟨(some 18), .mv (.t 7), []⟩,
  .s ⟨(some 19), .idx 1 (.t 18) (.c (.int .i64 0)), []⟩,
  .s ⟨(some 20), .load false 1 (.t 19), []⟩,
  .s ⟨(some 21), .mv (.t 5), []⟩,
  .s ⟨(some 4), .mv (.t 20), []⟩,
  .s ⟨(some 5), .mv (.t 21), []⟩,
  .s ⟨(some 6), .mv (.c (.int .i64 0)), []⟩])
 .ret))))⟩
theorem s59 : slimF Try.prog Try.f59 = some a59.fn := by kernel_rfl
def a60 : XFun := ⟨31, [.t 6, .t 7, .t 8],
 (.seq (.reg [.s ⟨(some 6), .mv (.c (.slice none 0 0)), []⟩,
  .s ⟨(some 7), .mv (.c (.int .i64 0)), []⟩,
  .s ⟨(some 8), .mv (.c (.int .i64 0)), []⟩])
 (.seq (.seq (.reg [.s ⟨(some 10), .mv (.t 1), []⟩,
  .s ⟨(some 11), .bin .lss (.t 10) (.c (.int .i64 0)), []⟩,
  .s ⟨(some 12), .mv (.t 11), []⟩,
  .g 12 false [⟨(some 13), .mv (.t 1), []⟩,
   ⟨(some 14), .mv (.t 0), []⟩,
   ⟨(some 15), .lenL (.t 14), []⟩,
   ⟨(some 16), .bin .gtr (.t 13) (.t 15), []⟩],
  .s ⟨(some 17), .pick (.t 12) (.c (.bool true)) (.t 16), []⟩])
 (.cond (.t 17) (.seq (.reg [.s ⟨(some 6), .mv (.c (.slice none 0 0)), []⟩,
  .s ⟨(some 7), .mv (.c (.int .i64 0)), []⟩,
  .s ⟨(some 8), .mv (.c (.int .i64 1)), []⟩])
 .ret)
 .skip))
 (.seq (.seq (.reg [.s ⟨(some 18), .mv (.t 0), []⟩,
  .s ⟨(some 19), .mv (.t 1), []⟩,
  .s ⟨(some 20), .slc 1 (.t 18) (some (.t 19)) none none, []⟩,
  .s ⟨(some 9), .mv (.t 20), []⟩])
 (.seq (.reg [.s ⟨(some 21), .mv (.t 9), []⟩,
  .s ⟨(some 22), .lenL (.t 21), []⟩,
  .s ⟨(some 23), .mv (.t 2), []⟩,
  .s ⟨(some 24), .bin .geq (.t 22) (.t 23), []⟩])
 (.cond (.t 24) (.seq (.reg [.s ⟨(some 25), .mv (.t 9), []⟩,
  .s ⟨(some 26), .mv (.t 2), []⟩,
  .s ⟨(some 27), .slc 1 (.t 25) none (some (.t 26)) none, []⟩,
  .s ⟨(some 28), .mv (.t 1), []⟩,
  .s ⟨(some 29), .mv (.t 2), []⟩,
  .s ⟨(some 30), .bin .add (.t 28) (.t 29), []⟩,
  .s ⟨(some 6), .mv (.t 27), []⟩,
  .s ⟨(some 7), .mv (.t 30), []⟩,
  .s ⟨(some 8), .mv (.c (.int .i64 0)), []⟩])
 .ret)
 .skip)))
 (.seq (.reg [.s ⟨(some 6), .mv (.c (.slice none 0 0)), []⟩,
  .s ⟨(some 7), .mv (.c (.int .i64 0)), []⟩,
  .s ⟨(some 8), .mv (.c (.int .i64 5)), []⟩])
 .ret))))⟩
theorem s60 : slimF Try.prog Try.f60 = some a60.fn := by kernel_rfl
def a61 : XFun := ⟨52, [.t 8, .t 9, .t 10],
 (.seq (.reg [.s ⟨(some 8), .mv (.c (.int .u64 0)), []⟩,
  .s ⟨(some 9), .mv (.c (.int .i64 0)), []⟩,
  .s ⟨(some 10), .mv (.c (.int .i64 0)), []⟩])
 (.seq (.seq (.reg [.s ⟨(some 14), .mv (.t 1), []⟩,
  .s ⟨(some 15), .bin .lss (.t 14) (.c (.int .i64 0)), []⟩,
  .s ⟨(some 16), .mv (.t 15), []⟩,
  .g 16 false [⟨(some 17), .mv (.t 1), []⟩,
   ⟨(some 18), .mv (.t 0), []⟩,
   ⟨(some 19), .lenL (.t 18), []⟩,
   ⟨(some 20), .bin .gtr (.t 17) (.t 19), []⟩],
  .s ⟨(some 21), .pick (.t 16) (.c (.bool true)) (.t 20), []⟩])
 (.cond (.t 21) (.seq (.reg [.s ⟨(some 8), .mv (.c (.int .u64 0)), []⟩,
  .s ⟨(some 9), .mv (.c (.int .i64 0)), []⟩,
  .s ⟨(some 10), .mv (.c (.int .i64 1)), []⟩])
 .ret)
 .skip))
 (.seq (.reg [.s ⟨(some 23), .mv (.t 0), []⟩,
  .s ⟨(some 24), .mv (.t 1), []⟩,
  .s ⟨(some 25), .slc 1 (.t 23) (some (.t 24)) none none, []⟩,
  .s ⟨(some 26), .call 67 [(.t 25)], []⟩,
  .s ⟨(some 22), .mv (.t 26), []⟩,
  .s ⟨(some 27), .ext 0 (.t 22), []⟩,
  .s ⟨(some 28), .ext 1 (.t 22), []⟩,
  .s ⟨(some 11), .mv (.t 27), []⟩,
  .s ⟨(some 12), .mv (.t 28), []⟩])
 (.seq (.reg [.s ⟨(some 29), .mv (.t 2), []⟩,
  .s ⟨(some 30), .mv (.t 11), []⟩,
  .s ⟨(some 31), .mv (.t 12), []⟩,
  .s ⟨(some 32), .callv (.t 29) [(.t 30), (.t 31)], []⟩,
  .s ⟨(some 13), .mv (.t 32), []⟩])
 (.seq (.seq (.par [.s ⟨(some 33), .mv (.t 12), []⟩,
  .s ⟨(some 34), .bin .eql (.t 33) (.c (.int .i64 0)), []⟩,
  .s ⟨(some 35), .mv (.t 34), []⟩,
  .g 35 false [⟨(some 36), .mv (.t 3), []⟩,
   ⟨(some 37), .mv (.t 13), []⟩,
   ⟨(some 39), .mv (.t 0), []⟩,
   ⟨(some 40), .mv (.t 1), []⟩,
   ⟨(some 41), .mv (.t 1), []⟩,
   ⟨(some 42), .mv (.t 12), []⟩,
   ⟨(some 43), .bin .add (.t 41) (.t 42), []⟩,
   ⟨(some 44), .slc 1 (.t 39) (some (.t 40)) (some (.t 43)) none, []⟩,
   ⟨(some 38), .callv (.t 36) [(.c (.slice none 0 0)), (.t 37)], []⟩,
   ⟨(some 45), .call 68 [(.t 38), (.t 44)], []⟩,
   ⟨(some 46), .un .not (.t 45), []⟩],
  .s ⟨(some 47), .pick (.t 35) (.c (.bool true)) (.t 46), []⟩])
 (.cond (.t 47) (.seq (.reg [.s ⟨(some 8), .mv (.c (.int .u64 0)), []⟩,
  .s ⟨(some 9), .mv (.c (.int .i64 0)), []⟩,
  .s ⟨(some 10), .mv (.c (.int .i64 5)), []⟩])
 .ret)
 .skip))
 (.seq (.reg [.s ⟨(some 48), .mv (.t 13), []⟩,
  .s ⟨(some 49), .mv (.t 1), []⟩,
  .s ⟨(some 50), .mv (.t 12), []⟩,
  .s ⟨(some 51), .bin .add (.t 49) (.t 50), []⟩,
  .s ⟨(some 8), .mv (.t 48), []⟩,
  .s ⟨(some 9), .mv (.t 51), []⟩,
  .s ⟨(some 10), .mv (.c (.int .i64 0)), []⟩])
 .ret))))))⟩
theorem s61 : slimF Try.prog Try.f61 = some a61.fn := by kernel_rfl
def a62 : XFun := ⟨6, [.t 4],
 (.seq (.reg [.s ⟨(some 4), .mv (.c (.int .u64 0)), []⟩])
 (.seq (.reg [.s ⟨(some 5), .mv (.t 0), []⟩,
  .s ⟨(some 4), .mv (.t 5), []⟩])
 .ret))⟩
theorem s62 : slimF Try.prog Try.f62 = some a62.fn := by kernel_rfl
def a63 : XFun := ⟨68, [.c 6 true 3, .t 7, .t 8],
 (.seq (.reg [.s ⟨(some 6), .alloc 55 [(.int .i64 0), (.int .i64 0), (.slice none 0 0)], []⟩,
  .s ⟨(some 7), .mv (.c (.int .i64 0)), []⟩,
  .s ⟨(some 8), .mv (.c (.bool false)), []⟩])
 (.seq (.reg [.s ⟨(some 13), .mv (.t 0), []⟩,
  .s ⟨(some 14), .mv (.t 1), []⟩,
  .s ⟨(some 15), .call 52 [(.t 13), (.t 14)], []⟩,
  .s ⟨(some 12), .mv (.t 15), []⟩,
  .s ⟨(some 16), .ext 0 (.t 12), []⟩,
  .s ⟨(some 17), .ext 1 (.t 12), []⟩,
  .s ⟨(some 18), .ext 2 (.t 12), []⟩,
  .s ⟨(some 9), .mv (.t 16), []⟩,
  .s ⟨(some 7), .mv (.t 17), []⟩,
  .s ⟨(some 10), .mv (.t 18), []⟩])
 (.seq (.seq (.reg [.s ⟨(some 19), .mv (.t 10), []⟩,
  .s ⟨(some 20), .bin .neq (.t 19) (.c (.int .i64 0)), []⟩,
  .s ⟨(some 21), .mv (.t 20), []⟩,
  .g 21 false [⟨(some 22), .mv (.t 9), []⟩,
   ⟨(some 23), .bin .gtr (.t 22) (.c (.int .u64 16777216)), []⟩],
  .s ⟨(some 24), .pick (.t 21) (.c (.bool true)) (.t 23), []⟩])
 (.cond (.t 24) (.seq (.reg [.s ⟨(some 25), .load true 3 (.t 6), []⟩,
  .s ⟨none, .store 3 (.t 6) (.t 25), []⟩,
  .s ⟨(some 7), .mv (.c (.int .i64 0)), []⟩,
  .s ⟨(some 8), .mv (.c (.bool false)), []⟩])
 .ret)
 .skip))
 (.seq (.reg [.s ⟨(some 27), .mv (.t 0), []⟩,
  .s ⟨(some 28), .mv (.t 7), []⟩,
  .s ⟨(some 29), .call 52 [(.t 27), (.t 28)], []⟩,
  .s ⟨(some 26), .mv (.t 29), []⟩,
  .s ⟨(some 30), .ext 0 (.t 26), []⟩,
  .s ⟨(some 31), .ext 1 (.t 26), []⟩,
  .s ⟨(some 32), .ext 2 (.t 26), []⟩,
  .s ⟨(some 11), .mv (.t 30), []⟩,
  .s ⟨(some 7), .mv (.t 31), []⟩,
  .s ⟨(some 10), .mv (.t 32), []⟩])
 (.seq (.seq (.reg [.s ⟨(some 33), .mv (.t 10), []⟩,
  .s ⟨(some 34), .bin .neq (.t 33) (.c (.int .i64 0)), []⟩,
  .s ⟨(some 35), .mv (.t 34), []⟩,
  .g 35 false [⟨(some 36), .mv (.t 11), []⟩,
   ⟨(some 37), .bin .gtr (.t 36) (.c (.int .u64 16777216)), []⟩],
  .s ⟨(some 38), .pick (.t 35) (.c (.bool true)) (.t 37), []⟩])
 (.cond (.t 38) (.seq (.reg [.s ⟨(some 39), .load true 3 (.t 6), []⟩,
  .s ⟨none, .store 3 (.t 6) (.t 39), []⟩,
  .s ⟨(some 7), .mv (.c (.int .i64 0)), []⟩,
  .s ⟨(some 8), .mv (.c (.bool false)), []⟩])
 .ret)
 .skip))
 (.seq (.reg [.s ⟨(some 40), .mv (.t 2), []⟩,
  .s ⟨(some 41), .mv (.t 9), []⟩,
  .s ⟨(some 42), .cint .i64 (.t 41), []⟩,
  .s ⟨(some 43), .bin .add (.t 40) (.t 42), []⟩,
  .s ⟨(some 44), .faddr 0 (.t 6), []⟩,
  .s ⟨none, .store 1 (.t 44) (.t 43), []⟩])
 (.seq (.reg [.s ⟨(some 45), .faddr 0 (.t 6), []⟩,
  .s ⟨(some 46), .load false 1 (.t 45), []⟩,
  .s ⟨(some 47), .mv (.t 11), []⟩,
  .s ⟨(some 48), .cint .i64 (.t 47), []⟩,
  .s ⟨(some 49), .bin .add (.t 46) (.t 48), []⟩,
  .s ⟨(some 50), .faddr 1 (.t 6), []⟩,
  .s ⟨none, .store 1 (.t 50) (.t 49), []⟩])
 (.seq (.reg [.s ⟨(some 52), .mv (.t 0), []⟩,
  .s ⟨(some 53), .mv (.t 7), []⟩,
  .s ⟨(some 54), .call 69 [(.t 52), (.t 53)], []⟩,
  .s ⟨(some 51), .mv (.t 54), []⟩,
  .s ⟨(some 55), .ext 0 (.t 51), []⟩,
  .s ⟨(some 56), .ext 1 (.t 51), []⟩,
  .s ⟨(some 57), .ext 2 (.t 51), []⟩,
  .s ⟨(some 58), .faddr 2 (.t 6), []⟩,
  .s ⟨none, .store 1 (.t 58) (.t 55), []⟩,
  .s ⟨(some 7), .mv (.t 56), []⟩,
  .s ⟨(some 10), .mv (.t 57), []⟩])
 (.seq (.reg [.s ⟨(some 59), .load true 3 (.t 6), []⟩,
  .s ⟨(some 60), .mv (.t 7), []⟩,
  .s ⟨(some 61), .mv (.t 10), []⟩,
  .s ⟨(some 62), .bin .eql (.t 61) (.c (.int .i64 0)), []⟩,
  .s ⟨(some 63), .mv (.t 62), []⟩,
  .g 63 true [⟨(some 64), .faddr 1 (.t 6), []⟩,
   ⟨(some 65), .load false 1 (.t 64), []⟩,
   ⟨(some 66), .bin .leq (.t 65) (.c (.int .i64 16777216)), []⟩],
  .s ⟨(some 67), .pick (.t 63) (.t 66) (.c (.bool false)), []⟩,
  .s ⟨none, .store 3 (.t 6) (.t 59), []⟩,
  .s ⟨(some 7), .mv (.t 60), []⟩,
  .s ⟨(some 8), .mv (.t 67), []⟩])
 .ret)))))))))⟩
theorem s63 : slimF Try.prog Try.f63 = some a63.fn := by kernel_rfl
def a64 : XFun := ⟨36, [.t 2],
 (.seq (.reg [.s ⟨(some 2), .mv (.c (.slice none 0 0)), []⟩])
 (.seq (.reg [.s ⟨(some 3), .mv (.c (.int .i64 0)), []⟩])
 (.seq (.seq (.reg [.s ⟨(some 9), .mv (.t 0), []⟩,
  .s ⟨(some 10), .lenL (.t 9), []⟩,
  .s ⟨(some 11), .mv (.c (.int .i64 0)), []⟩])
 (.block 0 (.loop (.seq (.reg [.s ⟨(some 12), .bin .lss (.t 11) (.t 10), []⟩])
 (.seq (.cond (.t 12) .skip
 (.exit 0))
 (.seq (.block 1 (.seq (.reg [.s ⟨(some 13), .idx 1 (.t 9) (.t 11), []⟩,
  .s ⟨(some 14), .load false 1 (.t 13), []⟩,
  .s ⟨(some 5), .mv (.t 14), []⟩])
 (.seq (.reg [.s ⟨(some 15), .mv (.t 3), []⟩,
  .s ⟨(some 16), .mv (.t 5), []⟩,
  .s ⟨(some 17), .lenL (.t 16), []⟩,
  .s ⟨(some 18), .bin .add (.t 15) (.t 17), []⟩,
  .s ⟨(some 3), .mv (.t 18), []⟩])
 (.seq (.reg [.s ⟨(some 19), .mv (.t 3), []⟩,
  .s ⟨(some 20), .bin .lss (.t 19) (.c (.int .i64 0)), []⟩])
 (.cond (.t 20) (.reg [.s ⟨(some 21), .mkif 9 (.c (.string ⟨#[108, 101, 110, 32, 111, 117, 116, 32, 111, 102, 32, 114, 97, 110, 103, 101]⟩)), []⟩,
  .s ⟨none, .pan (.t 21), []⟩])
 .skip)))))
 (.reg [.s ⟨(some 22), .bin .add (.t 11) (.c (.int .i64 1)), []⟩,
  .s ⟨(some 11), .mv (.t 22), []⟩])))))))
 (.seq (.reg [.s ⟨(some 23), .mv (.t 3), []⟩,
  .s ⟨(some 24), .call 70 [(.c (.slice none 0 0)), (.t 23)], []⟩,
  .s ⟨(some 6), .mv (.t 24), []⟩])
 (.seq (.seq (.reg [.s ⟨(some 25), .mv (.t 0), []⟩,
  .s ⟨(some 26), .lenL (.t 25), []⟩,
  .s ⟨(some 27), .mv (.c (.int .i64 0)), []⟩])
 (.block 2 (.loop (.seq (.reg [.s ⟨(some 28), .bin .lss (.t 27) (.t 26), []⟩])
 (.seq (.cond (.t 28) .skip
 (.exit 2))
 (.seq (.block 3 (.seq (.reg [.s ⟨(some 29), .idx 1 (.t 25) (.t 27), []⟩,
  .s ⟨(some 30), .load false 1 (.t 29), []⟩,
  .s ⟨(some 8), .mv (.t 30), []⟩])
 (.reg [.s ⟨(some 31), .mv (.t 6), []⟩,
  .s ⟨(some 32), .mv (.t 8), []⟩,
  .s ⟨(some 33), .app 5 1 1 (.t 31) (.t 32), []⟩,
  .s ⟨(some 6), .mv (.t 33), []⟩])))
 (.reg [.s ⟨(some 34), .bin .add (.t 27) (.c (.int .i64 1)), []⟩,
  .s ⟨(some 27), .mv (.t 34), []⟩])))))))
 (.seq (.reg [.s ⟨(some 35), .mv (.t 6), []⟩,
  .s ⟨(some 2), .mv (.t 35), []⟩])
 .ret))))))⟩
theorem s64 : slimF Try.prog Try.f64 = some a64.fn := by kernel_rfl
def a65 : XFun := ⟨37, [.t 4, .t 5],
 (.seq (.reg [.s ⟨(some 4), .mv (.c (.slice none 0 0)), []⟩,
  .s ⟨(some 5), .mv (.c (.int .i64 0)), []⟩])
 (.seq (.seq (.reg [.s ⟨(some 9), .mv (.t 1), []⟩,
  .s ⟨(some 10), .call 58 [(.t 9)], []⟩,
  .s ⟨(some 11), .un .not (.t 10), []⟩])
 (.cond (.t 11) (.seq (.reg [.s ⟨(some 4), .mv (.c (.slice none 0 0)), []⟩,
  .s ⟨(some 5), .mv (.c (.int .i64 1)), []⟩])
 .ret)
 .skip))
 (.seq (.reg [.s ⟨(some 12), .mv (.t 0), []⟩,
  .s ⟨(some 13), .mv (.t 1), []⟩,
  .s ⟨(some 14), .lenL (.t 13), []⟩,
  .s ⟨(some 15), .cint .u64 (.t 14), []⟩,
  .s ⟨(some 16), .call 26 [(.t 12), (.t 15)], []⟩,
  .s ⟨(some 6), .mv (.t 16), []⟩])
 (.seq (.seq (.reg [.s ⟨(some 17), .mv (.t 1), []⟩,
  .s ⟨(some 18), .lenL (.t 17), []⟩,
  .s ⟨(some 19), .mv (.c (.int .i64 0)), []⟩])
 (.block 0 (.loop (.seq (.reg [.s ⟨(some 20), .bin .lss (.t 19) (.t 18), []⟩])
 (.seq (.cond (.t 20) .skip
 (.exit 0))
 (.seq (.block 1 (.seq (.reg [.s ⟨(some 21), .idx 2 (.t 17) (.t 19), []⟩,
  .s ⟨(some 22), .load true 2 (.t 21), []⟩,
  .s ⟨(some 8), .alloc 52 [(.int .u8 0), (.int .i64 0)], []⟩,
  .s ⟨none, .store 2 (.t 8) (.t 22), []⟩])
 (.seq (.reg [.s ⟨(some 23), .mv (.t 6), []⟩,
  .s ⟨(some 24), .faddr 0 (.t 8), []⟩,
  .s ⟨(some 25), .load false 1 (.t 24), []⟩,
  .s ⟨(some 26), .bslice 5 1 [(.int .u8 0)] [(0, 1, (.t 25))], []⟩,
  .s ⟨(some 27), .app 5 1 1 (.t 23) (.t 26), []⟩,
  .s ⟨(some 6), .mv (.t 27), []⟩])
 (.seq (.reg [.s ⟨(some 28), .faddr 0 (.t 8), []⟩,
  .s ⟨(some 29), .load false 1 (.t 28), []⟩,
  .s ⟨(some 30), .call 71 [(.t 29)], []⟩])
 (.cond (.t 30) (.reg [.s ⟨(some 31), .mv (.t 6), []⟩,
  .s ⟨(some 32), .faddr 1 (.t 8), []⟩,
  .s ⟨(some 33), .load false 1 (.t 32), []⟩,
  .s ⟨(some 34), .call 72 [(.t 31), (.t 33)], []⟩,
  .s ⟨(some 6), .mv (.t 34), []⟩])
 .skip)))))
 (.reg [.s ⟨(some 35), .bin .add (.t 19) (.c (.int .i64 1)), []⟩,
  .s ⟨(some 19), .mv (.t 35), []⟩])))))))
 (.seq (.reg [.s ⟨(some 36), .mv (.t 6), []⟩,
  .s ⟨(some 4), .mv (.t 36), []⟩,
  .s ⟨(some 5), .mv (.c (.int .i64 0)), []⟩])
 .ret)))))⟩
theorem s65 : slimF Try.prog Try.f65 = some a65.fn := by kernel_rfl
def a66 : XFun := ⟨54, [.t 2, .t 3],
 (.seq (.reg [.s ⟨(some 2), .mv (.c (.slice none 0 0)), []⟩,
  .s ⟨(some 3), .mv (.c (.bool false)), []⟩])
 (.seq (.reg [.s ⟨(some 4), .mv (.c (.slice none 0 0)), []⟩])
 (.seq (.reg [.s ⟨(some 5), .mv (.c (.int .i64 0)), []⟩])
 (.seq (.seq (.reg [.s ⟨(some 10), .mv (.t 0), []⟩,
  .s ⟨(some 11), .lenL (.t 10), []⟩,
  .s ⟨(some 12), .mv (.c (.int .i64 0)), []⟩])
 (.block 0 (.loop (.seq (.reg [.s ⟨(some 13), .bin .lss (.t 12) (.t 11), []⟩])
 (.seq (.cond (.t 13) .skip
 (.exit 0))
 (.seq (.block 1 (.seq (.reg [.s ⟨(some 14), .idx 2 (.t 10) (.t 12), []⟩,
  .s ⟨(some 15), .load true 2 (.t 14), []⟩,
  .s ⟨(some 7), .alloc 52 [(.int .u8 0), (.int .i64 0)], []⟩,
  .s ⟨none, .store 2 (.t 7) (.t 15), []⟩])
 (.seq (.reg [.s ⟨(some 17), .load true 2 (.t 7), []⟩,
  .s ⟨(some 18), .call 73 [(.t 17)], []⟩,
  .s ⟨(some 16), .mv (.t 18), []⟩,
  .s ⟨(some 19), .ext 0 (.t 16), []⟩,
  .s ⟨(some 20), .ext 1 (.t 16), []⟩,
  .s ⟨(some 8), .mv (.t 19), []⟩,
  .s ⟨(some 9), .mv (.t 20), []⟩])
 (.seq (.seq (.reg [.s ⟨(some 21), .mv (.t 9), []⟩,
  .s ⟨(some 22), .un .not (.t 21), []⟩,
  .s ⟨(some 23), .mv (.t 22), []⟩,
  .g 23 false [⟨(some 24), .mv (.t 8), []⟩,
   ⟨(some 25), .inv (.t 24) "theodolite/expr.takes" [], []⟩,
   ⟨(some 26), .mv (.t 5), []⟩,
   ⟨(some 27), .bin .gtr (.t 25) (.t 26), []⟩],
  .s ⟨(some 28), .pick (.t 23) (.c (.bool true)) (.t 27), []⟩])
 (.cond (.t 28) (.seq (.reg [.s ⟨(some 2), .mv (.c (.slice none 0 0)), []⟩,
  .s ⟨(some 3), .mv (.c (.bool false)), []⟩])
 .ret)
 .skip))
 (.seq (.reg [.s ⟨(some 29), .mv (.t 5), []⟩,
  .s ⟨(some 30), .mv (.t 8), []⟩,
  .s ⟨(some 31), .inv (.t 30) "theodolite/expr.takes" [], []⟩,
  .s ⟨(some 32), .bin .sub (.c (.int .i64 1)) (.t 31), []⟩,
  .s ⟨(some 33), .bin .add (.t 29) (.t 32), []⟩,
  .s ⟨(some 5), .mv (.t 33), []⟩])
 (.seq (.seq (.reg [.s ⟨(some 34), .mv (.t 5), []⟩,
  .s ⟨(some 35), .bin .gtr (.t 34) (.c (.int .i64 8)), []⟩])
 (.cond (.t 35) (.seq (.reg [.s ⟨(some 2), .mv (.c (.slice none 0 0)), []⟩,
  .s ⟨(some 3), .mv (.c (.bool false)), []⟩])
 .ret)
 .skip))
 (.reg [.s ⟨(some 36), .mv (.t 4), []⟩,
  .s ⟨(some 37), .mv (.t 8), []⟩,
  .s ⟨(some 38), .bslice 134 1 [.nilIface] [(0, 1, (.t 37))], []⟩,
  .s ⟨(some 39), .app 134 1 16 (.t 36) (.t 38), []⟩,
  .s ⟨(some 4), .mv (.t 39), []⟩])))))))
 (.reg [.s ⟨(some 40), .bin .add (.t 12) (.c (.int .i64 1)), []⟩,
  .s ⟨(some 12), .mv (.t 40), []⟩])))))))
 (.seq (.reg [.s ⟨(some 41), .mv (.t 4), []⟩,
  .s ⟨(some 42), .mv (.t 0), []⟩,
  .s ⟨(some 43), .lenL (.t 42), []⟩,
  .s ⟨(some 44), .bin .leq (.t 43) (.c (.int .i64 16)), []⟩,
  .s ⟨(some 45), .mv (.t 44), []⟩,
  .g 45 true [⟨(some 46), .mv (.t 0), []⟩,
   ⟨(some 47), .lenL (.t 46), []⟩,
   ⟨(some 48), .bin .eql (.t 47) (.c (.int .i64 0)), []⟩,
   ⟨(some 49), .mv (.t 48), []⟩],
  .g 49 false [⟨(some 50), .mv (.t 5), []⟩,
   ⟨(some 51), .bin .eql (.t 50) (.c (.int .i64 1)), []⟩],
  .g 45 true [⟨(some 52), .pick (.t 49) (.c (.bool true)) (.t 51), []⟩],
  .s ⟨(some 53), .pick (.t 45) (.t 52) (.c (.bool false)), []⟩,
  .s ⟨(some 2), .mv (.t 41), []⟩,
  .s ⟨(some 3), .mv (.t 53), []⟩])
 .ret)))))⟩
theorem s66 : slimF Try.prog Try.f66 = some a66.fn := by kernel_rfl
def a67 : XFun := ⟨31, [.t 2, .t 3],
 (.seq (.reg [.s ⟨(some 2), .mv (.c (.int .u64 0)), []⟩,
  .s ⟨(some 3), .mv (.c (.int .i64 0)), []⟩])
 (.seq (.seq (.reg [.s ⟨(some 5), .mv (.t 0), []⟩,
  .s ⟨(some 6), .lenL (.t 5), []⟩,
  .s ⟨(some 7), .minmax false (.t 6) [(.c (.int .i64 10))], []⟩,
  .s ⟨(some 8), .mv (.c (.int .i64 0)), []⟩])
 (.block 0 (.loop (.seq (.reg [.s ⟨(some 9), .bin .lss (.t 8) (.t 7), []⟩])
 (.seq (.cond (.t 9) .skip
 (.exit 0))
 (.seq (.block 1 (.seq (.reg [.s ⟨(some 10), .mv (.t 8), []⟩,
  .s ⟨(some 4), .mv (.t 10), []⟩])
 (.seq (.reg [.s ⟨(some 11), .mv (.t 2), []⟩,
  .s ⟨(some 12), .mv (.t 0), []⟩,
  .s ⟨(some 13), .mv (.t 4), []⟩,
  .s ⟨(some 14), .idx 1 (.t 12) (.t 13), []⟩,
  .s ⟨(some 15), .load false 1 (.t 14), []⟩,
  .s ⟨(some 16), .bin .and (.t 15) (.c (.int .u8 127)), []⟩,
  .s ⟨(some 17), .cint .u64 (.t 16), []⟩,
  .s ⟨(some 18), .mv (.t 4), []⟩,
  .s ⟨(some 19), .bin .mul (.c (.int .i64 7)) (.t 18), []⟩,
  .s ⟨(some 20), .bin .shl (.t 17) (.t 19), []⟩,
  .s ⟨(some 21), .bin .or (.t 11) (.t 20), []⟩,
  .s ⟨(some 2), .mv (.t 21), []⟩])
 (.seq (.reg [.s ⟨(some 22), .mv (.t 0), []⟩,
  .s ⟨(some 23), .mv (.t 4), []⟩,
  .s ⟨(some 24), .idx 1 (.t 22) (.t 23), []⟩,
  .s ⟨(some 25), .load false 1 (.t 24), []⟩,
  .s ⟨(some 26), .bin .lss (.t 25) (.c (.int .u8 128)), []⟩])
 (.cond (.t 26) (.seq (.reg [.s ⟨(some 27), .mv (.t 2), []⟩,
  .s ⟨(some 28), .mv (.t 4), []⟩,
  .s ⟨(some 29), .bin .add (.t 28) (.c (.int .i64 1)), []⟩,
  .s ⟨(some 2), .mv (.t 27), []⟩,
  .s ⟨(some 3), .mv (.t 29), []⟩])
 .ret)
 .skip)))))
 (.reg [.s ⟨(some 30), .bin .add (.t 8) (.c (.int .i64 1)), []⟩,
  .s ⟨(some 8), .mv (.t 30), []⟩])))))))
 (.seq (.reg [.s ⟨(some 2), .mv (.c (.int .u64 0)), []⟩,
  .s ⟨(some 3), .mv (.c (.int .i64 0)), []⟩])
 .ret)))⟩
theorem s67 : slimF Try.prog Try.f67 = some a67.fn := by kernel_rfl
def a68 : XFun := ⟨26, [.t 4],
 (.seq (.reg [.s ⟨(some 4), .mv (.c (.bool false)), []⟩])
 (.seq (.seq (.reg [.s ⟨(some 6), .mv (.t 0), []⟩,
  .s ⟨(some 7), .lenL (.t 6), []⟩,
  .s ⟨(some 8), .mv (.t 1), []⟩,
  .s ⟨(some 9), .lenL (.t 8), []⟩,
  .s ⟨(some 10), .bin .neq (.t 7) (.t 9), []⟩])
 (.cond (.t 10) (.seq (.reg [.s ⟨(some 4), .mv (.c (.bool false)), []⟩])
 .ret)
 .skip))
 (.seq (.seq (.reg [.s ⟨(some 11), .mv (.t 0), []⟩,
  .s ⟨(some 12), .lenL (.t 11), []⟩,
  .s ⟨(some 13), .mv (.c (.int .i64 0)), []⟩])
 (.block 0 (.loop (.seq (.reg [.s ⟨(some 14), .bin .lss (.t 13) (.t 12), []⟩])
 (.seq (.cond (.t 14) .skip
 (.exit 0))
 (.seq (.block 1 (.seq (.reg [.s ⟨(some 15), .mv (.t 13), []⟩,
  .s ⟨(some 5), .mv (.t 15), []⟩])
 (.seq (.par [.s ⟨(some 16), .mv (.t 0), []⟩,
  .s ⟨(some 17), .mv (.t 5), []⟩,
  .s ⟨(some 18), .idx 1 (.t 16) (.t 17), []⟩,
  .s ⟨(some 19), .load false 1 (.t 18), []⟩,
  .s ⟨(some 20), .mv (.t 1), []⟩,
  .s ⟨(some 21), .mv (.t 5), []⟩,
  .s ⟨(some 22), .idx 1 (.t 20) (.t 21), []⟩,
  .s ⟨(some 23), .load false 1 (.t 22), []⟩,
  .s ⟨(some 24), .bin .neq (.t 19) (.t 23), []⟩])
 (.cond (.t 24) (.seq (.reg [.s ⟨(some 4), .mv (.c (.bool false)), []⟩])
 .ret)
 .skip))))
 (.reg [.s ⟨(some 25), .bin .add (.t 13) (.c (.int .i64 1)), []⟩,
  .s ⟨(some 13), .mv (.t 25), []⟩])))))))
 (.seq (.reg [.s ⟨(some 4), .mv (.c (.bool true)), []⟩])
 .ret))))⟩
theorem s68 : slimF Try.prog Try.f68 = some a68.fn := by kernel_rfl
def a69 : XFun := ⟨67, [.t 4, .t 5, .t 6],
 (.seq (.reg [.s ⟨(some 4), .mv (.c (.slice none 0 0)), []⟩,
  .s ⟨(some 5), .mv (.c (.int .i64 0)), []⟩,
  .s ⟨(some 6), .mv (.c (.int .i64 0)), []⟩])
 (.seq (.seq (.reg [.s ⟨(some 9), .mv (.t 1), []⟩,
  .s ⟨(some 10), .bin .lss (.t 9) (.c (.int .i64 0)), []⟩,
  .s ⟨(some 11), .mv (.t 10), []⟩,
  .g 11 false [⟨(some 12), .mv (.t 1), []⟩,
   ⟨(some 13), .mv (.t 0), []⟩,
   ⟨(some 14), .lenL (.t 13), []⟩,
   ⟨(some 15), .bin .gtr (.t 12) (.t 14), []⟩],
  .s ⟨(some 16), .pick (.t 11) (.c (.bool true)) (.t 15), []⟩])
 (.cond (.t 16) (.seq (.reg [.s ⟨(some 4), .mv (.c (.slice none 0 0)), []⟩,
  .s ⟨(some 5), .mv (.c (.int .i64 0)), []⟩,
  .s ⟨(some 6), .mv (.c (.int .i64 1)), []⟩])
 .ret)
 .skip))
 (.seq (.reg [.s ⟨(some 18), .mv (.t 0), []⟩,
  .s ⟨(some 19), .mv (.t 1), []⟩,
  .s ⟨(some 20), .call 52 [(.t 18), (.t 19)], []⟩,
  .s ⟨(some 17), .mv (.t 20), []⟩,
  .s ⟨(some 21), .ext 0 (.t 17), []⟩,
  .s ⟨(some 22), .ext 1 (.t 17), []⟩,
  .s ⟨(some 23), .ext 2 (.t 17), []⟩,
  .s ⟨(some 7), .mv (.t 21), []⟩,
  .s ⟨(some 5), .mv (.t 22), []⟩,
  .s ⟨(some 6), .mv (.t 23), []⟩])
 (.seq (.seq (.reg [.s ⟨(some 24), .mv (.t 6), []⟩,
  .s ⟨(some 25), .bin .neq (.t 24) (.c (.int .i64 0)), []⟩,
  .s ⟨(some 26), .mv (.t 25), []⟩,
  .g 26 false [⟨(some 27), .mv (.t 7), []⟩,
   ⟨(some 28), .bin .gtr (.t 27) (.c (.int .u64 16)), []⟩],
  .s ⟨(some 29), .pick (.t 26) (.c (.bool true)) (.t 28), []⟩])
 (.cond (.t 29) (.seq (.reg [.s ⟨(some 4), .mv (.c (.slice none 0 0)), []⟩,
  .s ⟨(some 5), .mv (.c (.int .i64 0)), []⟩,
  .s ⟨(some 6), .mv (.c (.int .i64 5)), []⟩])
 .ret)
 .skip))
 (.seq (.seq (.reg [.s ⟨(some 30), .mv (.t 7), []⟩,
  .s ⟨(some 31), .mv (.c (.int .u64 0)), []⟩])
 (.block 0 (.loop (.seq (.reg [.s ⟨(some 32), .bin .lss (.t 31) (.t 30), []⟩])
 (.seq (.cond (.t 32) .skip
 (.exit 0))
 (.seq (.block 1 (.seq (.seq (.reg [.s ⟨(some 33), .mv (.t 5), []⟩,
  .s ⟨(some 34), .mv (.t 0), []⟩,
  .s ⟨(some 35), .lenL (.t 34), []⟩,
  .s ⟨(some 36), .bin .geq (.t 33) (.t 35), []⟩])
 (.cond (.t 36) (.seq (.reg [.s ⟨(some 4), .mv (.c (.slice none 0 0)), []⟩,
  .s ⟨(some 5), .mv (.c (.int .i64 0)), []⟩,
  .s ⟨(some 6), .mv (.c (.int .i64 5)), []⟩])
 .ret)
 .skip))
 (.seq (.reg [.s ⟨(some 37), .mv (.t 0), []⟩,
  .s ⟨(some 38), .mv (.t 5), []⟩,
  .s ⟨(some 39), .idx 1 (.t 37) (.t 38), []⟩,
  .s ⟨(some 40), .load false 1 (.t 39), []⟩,
  .s ⟨(some 41), .build [(.int .u8 0), (.int .i64 0)] [(0, 1, (.t 40))], []⟩,
  .s ⟨(some 8), .alloc 52 [(.int .u8 0), (.int .i64 0)], []⟩,
  .s ⟨none, .store 2 (.t 8) (.t 41), []⟩])
 (.seq (.reg [.s ⟨(some 42), .mv (.t 5), []⟩,
  .s ⟨(some 43), .bin .add (.t 42) (.c (.int .i64 1)), []⟩,
  .s ⟨(some 5), .mv (.t 43), []⟩])
 (.seq (.seq (.reg [.s ⟨(some 44), .faddr 0 (.t 8), []⟩,
  .s ⟨(some 45), .load false 1 (.t 44), []⟩,
  .s ⟨(some 46), .call 71 [(.t 45)], []⟩])
 (.cond (.t 46) (.seq (.reg [.s ⟨(some 48), .mv (.t 0), []⟩,
  .s ⟨(some 49), .mv (.t 5), []⟩,
  .s ⟨(some 50), .call 74 [(.t 48), (.t 49)], []⟩,
  .s ⟨(some 47), .mv (.t 50), []⟩,
  .s ⟨(some 51), .ext 0 (.t 47), []⟩,
  .s ⟨(some 52), .ext 1 (.t 47), []⟩,
  .s ⟨(some 53), .ext 2 (.t 47), []⟩,
  .s ⟨(some 54), .faddr 1 (.t 8), []⟩,
  .s ⟨none, .store 1 (.t 54) (.t 51), []⟩,
  .s ⟨(some 5), .mv (.t 52), []⟩,
  .s ⟨(some 6), .mv (.t 53), []⟩])
 (.seq (.reg [.s ⟨(some 55), .mv (.t 6), []⟩,
  .s ⟨(some 56), .bin .neq (.t 55) (.c (.int .i64 0)), []⟩])
 (.cond (.t 56) (.seq (.reg [.s ⟨(some 4), .mv (.c (.slice none 0 0)), []⟩,
  .s ⟨(some 5), .mv (.c (.int .i64 0)), []⟩,
  .s ⟨(some 6), .mv (.c (.int .i64 5)), []⟩])
 .ret)
 .skip)))
 .skip))
 (.reg [.s ⟨(some 57), .mv (.t 4), []⟩,
  .s ⟨(some 58), .load true 2 (.t 8), []⟩,
  .s ⟨(some 59), .bslice 52 1 [(.int .u8 0), (.int .i64 0)] [(0, 2, (.t 58))], []⟩,
  .s ⟨(some 60), .app 52 2 16 (.t 57) (.t 59), []⟩,
  .s ⟨(some 4), .mv (.t 60), []⟩]))))))
 (.reg [.s ⟨(some 61), .bin .add (.t 31) (.c (.int .u64 1)), []⟩,
  .s ⟨(some 31), .mv (.t 61), []⟩])))))))
 (.seq (.seq (.reg [.s ⟨(some 62), .mv (.t 4), []⟩,
  .s ⟨(some 63), .call 58 [(.t 62)], []⟩,
  .s ⟨(some 64), .un .not (.t 63), []⟩])
 (.cond (.t 64) (.seq (.reg [.s ⟨(some 4), .mv (.c (.slice none 0 0)), []⟩,
  .s ⟨(some 5), .mv (.c (.int .i64 0)), []⟩,
  .s ⟨(some 6), .mv (.c (.int .i64 5)), []⟩])
 .ret)
 .skip))
 (.seq (.reg [.s ⟨(some 65), .mv (.t 4), []⟩,
  .s ⟨(some 66), .mv (.t 5), []⟩,
  .s ⟨(some 4), .mv (.t 65), []⟩,
  .s ⟨(some 5), .mv (.t 66), []⟩,
  .s ⟨(some 6), .mv (.c (.int .i64 0)), []⟩])
 .ret)))))))⟩
theorem s69 : slimF Try.prog Try.f69 = some a69.fn := by kernel_rfl
def a70 : XFun := ⟨27, [.t 4],
 (.seq (.reg [.s ⟨(some 4), .mv (.c (.slice none 0 0)), []⟩])
 (.seq (.seq (.reg [.s ⟨(some 5), .mv (.t 1), []⟩,
  .s ⟨(some 6), .bin .lss (.t 5) (.c (.int .i64 0)), []⟩])
 (.cond (.t 6) (.reg [.s ⟨(some 7), .mkif 9 (.c (.string ⟨#[99, 97, 110, 110, 111, 116, 32, 98, 101, 32, 110, 101, 103, 97, 116, 105, 118, 101]⟩)), []⟩,
  .s ⟨none, .pan (.t 7), []⟩])
 .skip))
 (.seq (.seq (.reg [.s ⟨(some 8), .mv (.t 1), []⟩,
  .s ⟨(some 9), .mv (.t 0), []⟩,
  .s ⟨(some 10), .capL (.t 9), []⟩,
  .s ⟨(some 11), .mv (.t 0), []⟩,
  .s ⟨(some 12), .lenL (.t 11), []⟩,
  .s ⟨(some 13), .bin .sub (.t 10) (.t 12), []⟩,
  .s ⟨(some 14), .bin .sub (.t 8) (.t 13), []⟩,
  .s ⟨(some 1), .mv (.t 14), []⟩])
 (.seq (.reg [.s ⟨(some 15), .mv (.t 1), []⟩,
  .s ⟨(some 16), .bin .gtr (.t 15) (.c (.int .i64 0)), []⟩])
 (.cond (.t 16) (.reg [.s ⟨(some 17), .mv (.t 0), []⟩,
  .s ⟨(some 18), .mv (.t 0), []⟩,
  .s ⟨(some 19), .capL (.t 18), []⟩,
  .s ⟨(some 20), .slc 1 (.t 17) none (some (.t 19)) none, []⟩,
  .s ⟨(some 21), .mv (.t 1), []⟩,
  .s ⟨(some 22), .appz 5 1 1 [(.int .u8 0)] (.t 20) (.t 21), []⟩,
  .s ⟨(some 23), .mv (.t 0), []⟩,
  .s ⟨(some 24), .lenL (.t 23), []⟩,
  .s ⟨(some 25), .slc 1 (.t 22) none (some (.t 24)) none, []⟩,
  .s ⟨(some 0), .mv (.t 25), []⟩])
 .skip)))
 (.seq (.reg [.s ⟨(some 26), .mv (.t 0), []⟩,
  .s ⟨(some 4), .mv (.t 26), []⟩])
 .ret))))⟩
theorem s70 : slimF Try.prog Try.f70 = some a70.fn := by kernel_rfl
def a71 : XFun := ⟨9, [.t 2],
 (.seq (.reg [.s ⟨(some 2), .mv (.c (.bool false)), []⟩])
 (.seq (.reg [.s ⟨(some 3), .mv (.t 0), []⟩,
  .s ⟨(some 4), .bin .geq (.t 3) (.c (.int .u8 1)), []⟩,
  .s ⟨(some 5), .mv (.t 4), []⟩,
  .g 5 true [⟨(some 6), .mv (.t 0), []⟩,
   ⟨(some 7), .bin .leq (.t 6) (.c (.int .u8 3)), []⟩],
  .s ⟨(some 8), .pick (.t 5) (.t 7) (.c (.bool false)), []⟩,
  .s ⟨(some 2), .mv (.t 8), []⟩])
 .ret))⟩
theorem s71 : slimF Try.prog Try.f71 = some a71.fn := by kernel_rfl
def a72 : XFun := ⟨28, [.t 4],
 (.seq (.reg [.s ⟨(some 4), .mv (.c (.slice none 0 0)), []⟩])
 (.seq (.reg [.s ⟨(some 6), .mv (.t 0), []⟩,
  .s ⟨(some 7), .call 45 [(.t 6)], []⟩,
  .s ⟨(some 5), .mv (.t 7), []⟩])
 (.seq (.block 0 (.loop (.seq (.seq (.reg [.s ⟨(some 8), .mv (.t 1), []⟩,
  .s ⟨(some 9), .bin .gtr (.t 8) (.c (.int .i64 63)), []⟩,
  .s ⟨(some 10), .mv (.t 9), []⟩,
  .g 10 false [⟨(some 11), .mv (.t 1), []⟩,
   ⟨(some 12), .bin .lss (.t 11) (.c (.int .i64 (-64))), []⟩],
  .s ⟨(some 13), .pick (.t 10) (.c (.bool true)) (.t 12), []⟩])
 (.cond (.t 13) .skip
 (.exit 0)))
 (.block 1 (.seq (.reg [.s ⟨(some 14), .mv (.t 5), []⟩,
  .s ⟨(some 15), .mv (.t 1), []⟩,
  .s ⟨(some 16), .cint .u8 (.t 15), []⟩,
  .s ⟨(some 17), .bin .or (.t 16) (.c (.int .u8 128)), []⟩,
  .s ⟨(some 18), .bslice 5 1 [(.int .u8 0)] [(0, 1, (.t 17))], []⟩,
  .s ⟨(some 19), .app 5 1 1 (.t 14) (.t 18), []⟩,
  .s ⟨(some 5), .mv (.t 19), []⟩])
 (.reg [.s ⟨(some 20), .mv (.t 1), []⟩,
  .s ⟨(some 21), .bin .shr (.t 20) (.c (.int .u64 7)), []⟩,
  .s ⟨(some 1), .mv (.t 21), []⟩]))))))
 (.seq (.reg [.s ⟨(some 22), .mv (.t 5), []⟩,
  .s ⟨(some 23), .mv (.t 1), []⟩,
  .s ⟨(some 24), .cint .u8 (.t 23), []⟩,
  .s ⟨(some 25), .bin .and (.t 24) (.c (.int .u8 127)), []⟩,
  .s ⟨(some 26), .bslice 5 1 [(.int .u8 0)] [(0, 1, (.t 25))], []⟩,
  .s ⟨(some 27), .app 5 1 1 (.t 22) (.t 26), []⟩,
  .s ⟨(some 4), .mv (.t 27), []⟩])
 .ret))))⟩
theorem s72 : slimF Try.prog Try.f72 = some a72.fn := by kernel_rfl
def a73 : XFun := ⟨50, [.t 2, .t 3],
 (.seq (.reg [.s ⟨(some 1), .box 52 (.t 0), []⟩,
  .s ⟨(some 2), .mv (.c .nilIface), []⟩,
  .s ⟨(some 3), .mv (.c (.bool false)), []⟩])
 (.seq (.seq (.reg [.s ⟨(some 4), .faddr 0 (.t 1), []⟩,
  .s ⟨(some 5), .load false 1 (.t 4), []⟩])
 (.block 0 (.seq (.reg [.s ⟨(some 7), .bin .eql (.t 5) (.c (.int .u8 1)), []⟩,
  .s ⟨(some 6), .mv (.t 7), []⟩])
 (.cond (.t 6) (.seq (.reg [.s ⟨(some 8), .faddr 1 (.t 1), []⟩,
  .s ⟨(some 9), .load false 1 (.t 8), []⟩,
  .s ⟨(some 10), .mkif 139 (.t 9), []⟩,
  .s ⟨(some 2), .mv (.t 10), []⟩,
  .s ⟨(some 3), .mv (.c (.bool true)), []⟩])
 .ret)
 (.seq (.reg [.s ⟨(some 12), .bin .eql (.t 5) (.c (.int .u8 2)), []⟩,
  .s ⟨(some 11), .mv (.t 12), []⟩])
 (.cond (.t 11) (.seq (.par [.s ⟨(some 13), .faddr 1 (.t 1), []⟩,
  .s ⟨(some 14), .load false 1 (.t 13), []⟩,
  .s ⟨(some 15), .mkif 140 (.t 14), []⟩,
  .s ⟨(some 16), .faddr 1 (.t 1), []⟩,
  .s ⟨(some 17), .load false 1 (.t 16), []⟩,
  .s ⟨(some 18), .bin .geq (.t 17) (.c (.int .i64 0)), []⟩,
  .s ⟨(some 19), .mv (.t 18), []⟩,
  .g 19 true [⟨(some 20), .faddr 1 (.t 1), []⟩,
   ⟨(some 21), .load false 1 (.t 20), []⟩,
   ⟨(some 22), .bin .lss (.t 21) (.c (.int .i64 16)), []⟩],
  .s ⟨(some 23), .pick (.t 19) (.t 22) (.c (.bool false)), []⟩,
  .s ⟨(some 2), .mv (.t 15), []⟩,
  .s ⟨(some 3), .mv (.t 23), []⟩])
 .ret)
 (.seq (.reg [.s ⟨(some 25), .bin .eql (.t 5) (.c (.int .u8 3)), []⟩,
  .s ⟨(some 24), .mv (.t 25), []⟩])
 (.cond (.t 24) (.seq (.reg [.s ⟨(some 26), .faddr 1 (.t 1), []⟩,
  .s ⟨(some 27), .load false 1 (.t 26), []⟩,
  .s ⟨(some 28), .mkif 141 (.t 27), []⟩,
  .s ⟨(some 2), .mv (.t 28), []⟩,
  .s ⟨(some 3), .mv (.c (.bool true)), []⟩])
 .ret)
 (.seq (.reg [.s ⟨(some 30), .bin .eql (.t 5) (.c (.int .u8 4)), []⟩,
  .s ⟨(some 29), .mv (.t 30), []⟩])
 (.cond (.t 29) (.seq (.par [.s ⟨(some 31), .build [] [], []⟩,
  .s ⟨(some 32), .mkif 143 (.t 31), []⟩,
  .s ⟨(some 33), .faddr 1 (.t 1), []⟩,
  .s ⟨(some 34), .load false 1 (.t 33), []⟩,
  .s ⟨(some 35), .bin .eql (.t 34) (.c (.int .i64 0)), []⟩,
  .s ⟨(some 2), .mv (.t 32), []⟩,
  .s ⟨(some 3), .mv (.t 35), []⟩])
 .ret)
 (.seq (.reg [.s ⟨(some 37), .bin .eql (.t 5) (.c (.int .u8 5)), []⟩,
  .s ⟨(some 36), .mv (.t 37), []⟩])
 (.cond (.t 36) (.seq (.par [.s ⟨(some 38), .build [] [], []⟩,
  .s ⟨(some 39), .mkif 144 (.t 38), []⟩,
  .s ⟨(some 40), .faddr 1 (.t 1), []⟩,
  .s ⟨(some 41), .load false 1 (.t 40), []⟩,
  .s ⟨(some 42), .bin .eql (.t 41) (.c (.int .i64 0)), []⟩,
  .s ⟨(some 2), .mv (.t 39), []⟩,
  .s ⟨(some 3), .mv (.t 42), []⟩])
 .ret)
 (.seq (.reg [.s ⟨(some 44), .bin .eql (.t 5) (.c (.int .u8 6)), []⟩,
  .s ⟨(some 43), .mv (.t 44), []⟩])
 (.cond (.t 43) (.seq (.par [.s ⟨(some 45), .build [] [], []⟩,
  .s ⟨(some 46), .mkif 145 (.t 45), []⟩,
  .s ⟨(some 47), .faddr 1 (.t 1), []⟩,
  .s ⟨(some 48), .load false 1 (.t 47), []⟩,
  .s ⟨(some 49), .bin .eql (.t 48) (.c (.int .i64 0)), []⟩,
  .s ⟨(some 2), .mv (.t 46), []⟩,
  .s ⟨(some 3), .mv (.t 49), []⟩])
 .ret)
 .skip))))))))))))))
 (.seq (.reg [.s ⟨(some 2), .mv (.c .nilIface), []⟩,
  .s ⟨(some 3), .mv (.c (.bool false)), []⟩])
 .ret)))⟩
theorem s73 : slimF Try.prog Try.f73 = some a73.fn := by kernel_rfl
def a74 : XFun := ⟨13, [.t 4, .t 5, .t 6],
 (.seq (.reg [.s ⟨(some 4), .mv (.c (.int .i64 0)), []⟩,
  .s ⟨(some 5), .mv (.c (.int .i64 0)), []⟩,
  .s ⟨(some 6), .mv (.c (.int .i64 0)), []⟩])
 (.seq (.reg [.s ⟨(some 7), .mv (.t 0), []⟩,
  .s ⟨(some 8), .mv (.t 1), []⟩,
  .s ⟨(some 9), .call 75 [(.t 7), (.t 8), (.fn 76), (.fn 72)], []⟩,
  .s ⟨(some 10), .ext 0 (.t 9), []⟩,
  .s ⟨(some 11), .ext 1 (.t 9), []⟩,
  .s ⟨(some 12), .ext 2 (.t 9), []⟩,
  .s ⟨(some 4), .mv (.t 10), []⟩,
  .s ⟨(some 5), .mv (.t 11), []⟩,
  .s ⟨(some 6), .mv (.t 12), []⟩])
 .ret))⟩
theorem s74 : slimF Try.prog Try.f74 = some a74.fn := by kernel_rfl
def a75 : XFun := ⟨52, [.t 8, .t 9, .t 10],
 (.seq (.reg [.s ⟨(some 8), .mv (.c (.int .i64 0)), []⟩,
  .s ⟨(some 9), .mv (.c (.int .i64 0)), []⟩,
  .s ⟨(some 10), .mv (.c (.int .i64 0)), []⟩])
 (.seq (.seq (.reg [.s ⟨(some 14), .mv (.t 1), []⟩,
  .s ⟨(some 15), .bin .lss (.t 14) (.c (.int .i64 0)), []⟩,
  .s ⟨(some 16), .mv (.t 15), []⟩,
  .g 16 false [⟨(some 17), .mv (.t 1), []⟩,
   ⟨(some 18), .mv (.t 0), []⟩,
   ⟨(some 19), .lenL (.t 18), []⟩,
   ⟨(some 20), .bin .gtr (.t 17) (.t 19), []⟩],
  .s ⟨(some 21), .pick (.t 16) (.c (.bool true)) (.t 20), []⟩])
 (.cond (.t 21) (.seq (.reg [.s ⟨(some 8), .mv (.c (.int .i64 0)), []⟩,
  .s ⟨(some 9), .mv (.c (.int .i64 0)), []⟩,
  .s ⟨(some 10), .mv (.c (.int .i64 1)), []⟩])
 .ret)
 .skip))
 (.seq (.reg [.s ⟨(some 23), .mv (.t 0), []⟩,
  .s ⟨(some 24), .mv (.t 1), []⟩,
  .s ⟨(some 25), .slc 1 (.t 23) (some (.t 24)) none none, []⟩,
  .s ⟨(some 26), .call 67 [(.t 25)], []⟩,
  .s ⟨(some 22), .mv (.t 26), []⟩,
  .s ⟨(some 27), .ext 0 (.t 22), []⟩,
  .s ⟨(some 28), .ext 1 (.t 22), []⟩,
  .s ⟨(some 11), .mv (.t 27), []⟩,
  .s ⟨(some 12), .mv (.t 28), []⟩])
 (.seq (.reg [.s ⟨(some 29), .mv (.t 2), []⟩,
  .s ⟨(some 30), .mv (.t 11), []⟩,
  .s ⟨(some 31), .mv (.t 12), []⟩,
  .s ⟨(some 32), .callv (.t 29) [(.t 30), (.t 31)], []⟩,
  .s ⟨(some 13), .mv (.t 32), []⟩])
 (.seq (.seq (.par [.s ⟨(some 33), .mv (.t 12), []⟩,
  .s ⟨(some 34), .bin .eql (.t 33) (.c (.int .i64 0)), []⟩,
  .s ⟨(some 35), .mv (.t 34), []⟩,
  .g 35 false [⟨(some 36), .mv (.t 3), []⟩,
   ⟨(some 37), .mv (.t 13), []⟩,
   ⟨(some 39), .mv (.t 0), []⟩,
   ⟨(some 40), .mv (.t 1), []⟩,
   ⟨(some 41), .mv (.t 1), []⟩,
   ⟨(some 42), .mv (.t 12), []⟩,
   ⟨(some 43), .bin .add (.t 41) (.t 42), []⟩,
   ⟨(some 44), .slc 1 (.t 39) (some (.t 40)) (some (.t 43)) none, []⟩,
   ⟨(some 38), .callv (.t 36) [(.c (.slice none 0 0)), (.t 37)], []⟩,
   ⟨(some 45), .call 68 [(.t 38), (.t 44)], []⟩,
   ⟨(some 46), .un .not (.t 45), []⟩],
  .s ⟨(some 47), .pick (.t 35) (.c (.bool true)) (.t 46), []⟩])
 (.cond (.t 47) (.seq (.reg [.s ⟨(some 8), .mv (.c (.int .i64 0)), []⟩,
  .s ⟨(some 9), .mv (.c (.int .i64 0)), []⟩,
  .s ⟨(some 10), .mv (.c (.int .i64 5)), []⟩])
 .ret)
 .skip))
 (.seq (.reg [.s ⟨(some 48), .mv (.t 13), []⟩,
  .s ⟨(some 49), .mv (.t 1), []⟩,
  .s ⟨(some 50), .mv (.t 12), []⟩,
  .s ⟨(some 51), .bin .add (.t 49) (.t 50), []⟩,
  .s ⟨(some 8), .mv (.t 48), []⟩,
  .s ⟨(some 9), .mv (.t 51), []⟩,
  .s ⟨(some 10), .mv (.c (.int .i64 0)), []⟩])
 .ret))))))⟩
theorem s75 : slimF Try.prog Try.f75 = some a75.fn := by kernel_rfl
def a76 : XFun := ⟨16, [.t 4],
 (.seq (.reg [.s ⟨(some 4), .mv (.c (.int .i64 0)), []⟩])
 (.seq (.reg [.s ⟨(some 6), .mv (.t 1), []⟩,
  .s ⟨(some 7), .bin .mul (.c (.int .i64 7)) (.t 6), []⟩,
  .s ⟨(some 8), .bin .sub (.c (.int .i64 64)) (.t 7), []⟩,
  .s ⟨(some 9), .minmax true (.c (.int .i64 0)) [(.t 8)], []⟩,
  .s ⟨(some 5), .mv (.t 9), []⟩])
 (.seq (.reg [.s ⟨(some 10), .mv (.t 0), []⟩,
  .s ⟨(some 11), .mv (.t 5), []⟩,
  .s ⟨(some 12), .bin .shl (.t 10) (.t 11), []⟩,
  .s ⟨(some 13), .cint .i64 (.t 12), []⟩,
  .s ⟨(some 14), .mv (.t 5), []⟩,
  .s ⟨(some 15), .bin .shr (.t 13) (.t 14), []⟩,
  .s ⟨(some 4), .mv (.t 15), []⟩])
 .ret)))⟩
theorem s76 : slimF Try.prog Try.f76 = some a76.fn := by kernel_rfl
def a94 : XFun := ⟨3, [.t 2],
 (.seq (.reg [.s ⟨(some 2), .mv (.c (.int .i64 0)), []⟩])
 (.seq (.reg [.s ⟨(some 2), .mv (.c (.int .i64 0)), []⟩])
 .ret))⟩
theorem s94 : slimF Try.prog Try.f94 = some a94.fn := by kernel_rfl
def a96 : XFun := ⟨3, [.t 2],
 (.seq (.reg [.s ⟨(some 2), .mv (.c (.int .i64 0)), []⟩])
 (.seq (.reg [.s ⟨(some 2), .mv (.c (.int .i64 0)), []⟩])
 .ret))⟩
theorem s96 : slimF Try.prog Try.f96 = some a96.fn := by kernel_rfl
def a98 : XFun := ⟨3, [.t 2],
 (.seq (.reg [.s ⟨(some 2), .mv (.c (.int .i64 0)), []⟩])
 (.seq (.reg [.s ⟨(some 2), .mv (.c (.int .i64 0)), []⟩])
 .ret))⟩
theorem s98 : slimF Try.prog Try.f98 = some a98.fn := by kernel_rfl
def a100 : XFun := ⟨3, [.t 2],
 (.seq (.reg [.s ⟨(some 1), .box 143 (.t 0), []⟩,
  .s ⟨(some 2), .mv (.c (.int .i64 0)), []⟩])
 (.seq (.reg [.s ⟨(some 2), .mv (.c (.int .i64 1)), []⟩])
 .ret))⟩
theorem s100 : slimF Try.prog Try.f100 = some a100.fn := by kernel_rfl
def a102 : XFun := ⟨3, [.t 2],
 (.seq (.reg [.s ⟨(some 1), .box 144 (.t 0), []⟩,
  .s ⟨(some 2), .mv (.c (.int .i64 0)), []⟩])
 (.seq (.reg [.s ⟨(some 2), .mv (.c (.int .i64 2)), []⟩])
 .ret))⟩
theorem s102 : slimF Try.prog Try.f102 = some a102.fn := by kernel_rfl
def a104 : XFun := ⟨3, [.t 2],
 (.seq (.reg [.s ⟨(some 1), .box 145 (.t 0), []⟩,
  .s ⟨(some 2), .mv (.c (.int .i64 0)), []⟩])
 (.seq (.reg [.s ⟨(some 2), .mv (.c (.int .i64 1)), []⟩])
 .ret))⟩
theorem s104 : slimF Try.prog Try.f104 = some a104.fn := by kernel_rfl
end Go.Proofs.Ytckcngkkofemjaa
