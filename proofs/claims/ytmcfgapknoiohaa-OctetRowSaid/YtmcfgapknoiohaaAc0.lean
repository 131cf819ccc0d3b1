import Derived.Test.YtmcfgapknoiohaaAd
import Derived.Test.YtmcfgapknoiohaaProg
import Derived.KernelRfl
namespace Go.Proofs.Ytmcfgapknoiohaa
open Go.Ab
set_option linter.unusedVariables false
set_option linter.unusedSimpArgs false
theorem hm : Try.prog.follows .mixedOrders = true := by kernel_rfl
def a3 : XFun := ⟨50, [.t 4],
 (.seq (.reg [.s ⟨(some 4), .mv (.c (.bool false)), []⟩])
 (.seq (.seq (.reg [.s ⟨(some 8), .mv (.t 0), []⟩,
  .s ⟨(some 9), .lenL (.t 8), []⟩,
  .s ⟨(some 10), .bin .gtr (.t 9) (.c (.int .i64 65536)), []⟩])
 (.cond (.t 10) (.seq (.reg [.s ⟨(some 11), .call 13 [], []⟩,
  .s ⟨(some 4), .mv (.t 11), []⟩])
 .ret)
 .skip))
 (.seq (.reg [.s ⟨(some 12), .mv (.t 0), []⟩,
  .s ⟨(some 13), .call 14 [(.t 12)], []⟩,
  .s ⟨(some 5), .mv (.t 13), []⟩])
 (.seq (.reg [.s ⟨(some 14), .mv (.t 5), []⟩,
  .s ⟨(some 15), .mv (.t 1), []⟩,
  .s ⟨(some 16), .call 15 [(.t 14), (.t 15)], []⟩,
  .s ⟨(some 6), .mv (.t 16), []⟩])
 (.seq (.reg [.s ⟨(some 17), .mv (.t 5), []⟩,
  .s ⟨(some 18), .mv (.t 1), []⟩,
  .s ⟨(some 19), .cint .i64 (.t 18), []⟩,
  .s ⟨(some 20), .call 16 [(.t 17), (.t 19)], []⟩,
  .s ⟨(some 7), .mv (.t 20), []⟩])
 (.seq (.seq (.reg [.s ⟨(some 21), .mv (.t 6), []⟩,
  .s ⟨(some 22), .mv (.t 0), []⟩,
  .s ⟨(some 23), .mv (.t 1), []⟩,
  .s ⟨(some 24), .call 18 [(.t 22), (.t 23)], []⟩,
  .s ⟨(some 25), .call 17 [(.t 21), (.t 24)], []⟩,
  .s ⟨(some 26), .un .not (.t 25), []⟩,
  .s ⟨(some 27), .mv (.t 26), []⟩,
  .g 27 false [⟨(some 28), .mv (.t 7), []⟩,
   ⟨(some 29), .mv (.t 0), []⟩,
   ⟨(some 30), .mv (.t 1), []⟩,
   ⟨(some 31), .cint .i64 (.t 30), []⟩,
   ⟨(some 32), .call 19 [(.t 29), (.t 31)], []⟩,
   ⟨(some 33), .call 17 [(.t 28), (.t 32)], []⟩,
   ⟨(some 34), .un .not (.t 33), []⟩],
  .s ⟨(some 35), .pick (.t 27) (.c (.bool true)) (.t 34), []⟩,
  .s ⟨(some 36), .mv (.t 35), []⟩,
  .g 36 false [⟨(some 37), .mv (.t 5), []⟩,
   ⟨(some 38), .mv (.t 0), []⟩,
   ⟨(some 39), .call 20 [(.t 37), (.t 38)], []⟩,
   ⟨(some 40), .un .not (.t 39), []⟩],
  .s ⟨(some 41), .pick (.t 36) (.c (.bool true)) (.t 40), []⟩])
 (.cond (.t 41) (.seq (.reg [.s ⟨(some 4), .mv (.c (.bool false)), []⟩])
 .ret)
 .skip))
 (.seq (.reg [.s ⟨(some 42), .mv (.t 6), []⟩,
  .s ⟨(some 43), .mv (.t 7), []⟩,
  .s ⟨(some 44), .mv (.t 5), []⟩,
  .s ⟨(some 45), .bslice 22 3 [(.slice none 0 0), (.slice none 0 0), (.slice none 0 0)] [(0, 1, (.t 42)), (1, 1, (.t 43)), (2, 1, (.t 44))], []⟩,
  .s ⟨(some 46), .call 21 [(.t 45)], []⟩,
  .s ⟨(some 47), .mv (.t 46), []⟩,
  .g 47 true [⟨(some 48), .call 13 [], []⟩],
  .s ⟨(some 49), .pick (.t 47) (.t 48) (.c (.bool false)), []⟩,
  .s ⟨(some 4), .mv (.t 49), []⟩])
 .ret)))))))⟩
def a4 : XFun := ⟨88, [.t 4],
 (.seq (.reg [.s ⟨(some 4), .mv (.c (.bool false)), []⟩])
 (.seq (.seq (.reg [.s ⟨(some 18), .mv (.t 0), []⟩,
  .s ⟨(some 19), .lenL (.t 18), []⟩,
  .s ⟨(some 20), .bin .gtr (.t 19) (.c (.int .i64 65536)), []⟩])
 (.cond (.t 20) (.seq (.reg [.s ⟨(some 21), .call 13 [], []⟩,
  .s ⟨(some 4), .mv (.t 21), []⟩])
 .ret)
 .skip))
 (.seq (.reg [.s ⟨(some 22), .mv (.t 0), []⟩,
  .s ⟨(some 23), .call 14 [(.t 22)], []⟩,
  .s ⟨(some 5), .mv (.t 23), []⟩])
 (.seq (.reg [.s ⟨(some 25), .mv (.t 5), []⟩,
  .s ⟨(some 26), .mv (.t 1), []⟩,
  .s ⟨(some 27), .call 22 [(.t 25), (.t 26)], []⟩,
  .s ⟨(some 24), .mv (.t 27), []⟩,
  .s ⟨(some 28), .ext 0 (.t 24), []⟩,
  .s ⟨(some 29), .ext 1 (.t 24), []⟩,
  .s ⟨(some 30), .ext 2 (.t 24), []⟩,
  .s ⟨(some 6), .mv (.t 28), []⟩,
  .s ⟨(some 7), .mv (.t 29), []⟩,
  .s ⟨(some 8), .mv (.t 30), []⟩])
 (.seq (.reg [.s ⟨(some 32), .mv (.t 0), []⟩,
  .s ⟨(some 33), .mv (.t 1), []⟩,
  .s ⟨(some 34), .call 23 [(.t 32), (.t 33)], []⟩,
  .s ⟨(some 31), .mv (.t 34), []⟩,
  .s ⟨(some 35), .ext 0 (.t 31), []⟩,
  .s ⟨(some 36), .ext 1 (.t 31), []⟩,
  .s ⟨(some 37), .ext 2 (.t 31), []⟩,
  .s ⟨(some 9), .mv (.t 35), []⟩,
  .s ⟨(some 10), .mv (.t 36), []⟩,
  .s ⟨(some 11), .mv (.t 37), []⟩])
 (.seq (.reg [.s ⟨(some 39), .mv (.t 5), []⟩,
  .s ⟨(some 40), .mv (.t 1), []⟩,
  .s ⟨(some 41), .call 24 [(.t 39), (.t 40)], []⟩,
  .s ⟨(some 38), .mv (.t 41), []⟩,
  .s ⟨(some 42), .ext 0 (.t 38), []⟩,
  .s ⟨(some 43), .ext 1 (.t 38), []⟩,
  .s ⟨(some 44), .ext 2 (.t 38), []⟩,
  .s ⟨(some 12), .mv (.t 42), []⟩,
  .s ⟨(some 13), .mv (.t 43), []⟩,
  .s ⟨(some 14), .mv (.t 44), []⟩])
 (.seq (.reg [.s ⟨(some 46), .mv (.t 0), []⟩,
  .s ⟨(some 47), .mv (.t 1), []⟩,
  .s ⟨(some 48), .call 25 [(.t 46), (.t 47)], []⟩,
  .s ⟨(some 45), .mv (.t 48), []⟩,
  .s ⟨(some 49), .ext 0 (.t 45), []⟩,
  .s ⟨(some 50), .ext 1 (.t 45), []⟩,
  .s ⟨(some 51), .ext 2 (.t 45), []⟩,
  .s ⟨(some 15), .mv (.t 49), []⟩,
  .s ⟨(some 16), .mv (.t 50), []⟩,
  .s ⟨(some 17), .mv (.t 51), []⟩])
 (.seq (.reg [.s ⟨(some 52), .mv (.t 6), []⟩,
  .s ⟨(some 53), .mv (.t 9), []⟩,
  .s ⟨(some 54), .bin .eql (.t 52) (.t 53), []⟩,
  .s ⟨(some 55), .mv (.t 54), []⟩,
  .g 55 true [⟨(some 56), .mv (.t 7), []⟩,
   ⟨(some 57), .mv (.t 10), []⟩,
   ⟨(some 58), .bin .eql (.t 56) (.t 57), []⟩],
  .s ⟨(some 59), .pick (.t 55) (.t 58) (.c (.bool false)), []⟩,
  .s ⟨(some 60), .mv (.t 59), []⟩,
  .g 60 true [⟨(some 61), .mv (.t 8), []⟩,
   ⟨(some 62), .mv (.t 11), []⟩,
   ⟨(some 63), .bin .eql (.t 61) (.t 62), []⟩],
  .s ⟨(some 64), .pick (.t 60) (.t 63) (.c (.bool false)), []⟩,
  .s ⟨(some 65), .mv (.t 64), []⟩,
  .g 65 true [⟨(some 66), .mv (.t 12), []⟩,
   ⟨(some 67), .mv (.t 15), []⟩,
   ⟨(some 68), .bin .eql (.t 66) (.t 67), []⟩],
  .s ⟨(some 69), .pick (.t 65) (.t 68) (.c (.bool false)), []⟩,
  .s ⟨(some 70), .mv (.t 69), []⟩,
  .g 70 true [⟨(some 71), .mv (.t 13), []⟩,
   ⟨(some 72), .mv (.t 16), []⟩,
   ⟨(some 73), .bin .eql (.t 71) (.t 72), []⟩],
  .s ⟨(some 74), .pick (.t 70) (.t 73) (.c (.bool false)), []⟩,
  .s ⟨(some 75), .mv (.t 74), []⟩,
  .g 75 true [⟨(some 76), .mv (.t 14), []⟩,
   ⟨(some 77), .mv (.t 17), []⟩,
   ⟨(some 78), .bin .eql (.t 76) (.t 77), []⟩],
  .s ⟨(some 79), .pick (.t 75) (.t 78) (.c (.bool false)), []⟩,
  .s ⟨(some 80), .mv (.t 79), []⟩,
  .g 80 true [⟨(some 81), .mv (.t 5), []⟩,
   ⟨(some 82), .mv (.t 0), []⟩,
   ⟨(some 83), .call 20 [(.t 81), (.t 82)], []⟩],
  .s ⟨(some 84), .pick (.t 80) (.t 83) (.c (.bool false)), []⟩,
  .s ⟨(some 85), .mv (.t 84), []⟩,
  .g 85 true [⟨(some 86), .call 13 [], []⟩],
  .s ⟨(some 87), .pick (.t 85) (.t 86) (.c (.bool false)), []⟩,
  .s ⟨(some 4), .mv (.t 87), []⟩])
 .ret))))))))⟩
def a5 : XFun := ⟨138, [.t 6],
 (.seq (.reg [.s ⟨(some 6), .mv (.c (.bool false)), []⟩])
 (.seq (.seq (.reg [.s ⟨(some 24), .mv (.t 0), []⟩,
  .s ⟨(some 25), .lenL (.t 24), []⟩,
  .s ⟨(some 26), .bin .gtr (.t 25) (.c (.int .i64 1024)), []⟩,
  .s ⟨(some 27), .mv (.t 26), []⟩,
  .g 27 false [⟨(some 28), .mv (.t 2), []⟩,
   ⟨(some 29), .lenL (.t 28), []⟩,
   ⟨(some 30), .bin .gtr (.t 29) (.c (.int .i64 1024)), []⟩],
  .s ⟨(some 31), .pick (.t 27) (.c (.bool true)) (.t 30), []⟩])
 (.cond (.t 31) (.seq (.reg [.s ⟨(some 32), .call 13 [], []⟩,
  .s ⟨(some 6), .mv (.t 32), []⟩])
 .ret)
 .skip))
 (.seq (.reg [.s ⟨(some 33), .mv (.t 0), []⟩,
  .s ⟨(some 34), .lenL (.t 33), []⟩,
  .s ⟨(some 7), .mv (.t 34), []⟩])
 (.seq (.reg [.s ⟨(some 35), .mv (.t 0), []⟩,
  .s ⟨(some 36), .mv (.t 1), []⟩,
  .s ⟨(some 37), .call 15 [(.t 35), (.t 36)], []⟩,
  .s ⟨(some 8), .mv (.t 37), []⟩])
 (.seq (.reg [.s ⟨(some 38), .mv (.t 0), []⟩,
  .s ⟨(some 39), .mv (.t 1), []⟩,
  .s ⟨(some 40), .cint .i64 (.t 39), []⟩,
  .s ⟨(some 41), .call 16 [(.t 38), (.t 40)], []⟩,
  .s ⟨(some 9), .mv (.t 41), []⟩])
 (.seq (.seq (.reg [.s ⟨(some 42), .mv (.t 8), []⟩,
  .s ⟨(some 43), .lenL (.t 42), []⟩,
  .s ⟨(some 44), .mv (.t 7), []⟩,
  .s ⟨(some 45), .bin .leq (.t 43) (.t 44), []⟩,
  .s ⟨(some 46), .mv (.t 45), []⟩,
  .g 46 false [⟨(some 47), .mv (.t 9), []⟩,
   ⟨(some 48), .lenL (.t 47), []⟩,
   ⟨(some 49), .mv (.t 7), []⟩,
   ⟨(some 50), .bin .leq (.t 48) (.t 49), []⟩],
  .s ⟨(some 51), .pick (.t 46) (.c (.bool true)) (.t 50), []⟩])
 (.cond (.t 51) (.seq (.reg [.s ⟨(some 6), .mv (.c (.bool false)), []⟩])
 .ret)
 .skip))
 (.seq (.reg [.s ⟨(some 53), .mv (.t 8), []⟩,
  .s ⟨(some 54), .call 26 [(.t 53)], []⟩,
  .s ⟨(some 55), .mv (.t 2), []⟩,
  .s ⟨(some 56), .app 5 1 1 (.t 54) (.t 55), []⟩,
  .s ⟨(some 57), .mv (.t 7), []⟩,
  .s ⟨(some 58), .call 22 [(.t 56), (.t 57)], []⟩,
  .s ⟨(some 52), .mv (.t 58), []⟩,
  .s ⟨(some 59), .ext 0 (.t 52), []⟩,
  .s ⟨(some 60), .ext 1 (.t 52), []⟩,
  .s ⟨(some 61), .ext 2 (.t 52), []⟩,
  .s ⟨(some 10), .mv (.t 59), []⟩,
  .s ⟨(some 11), .mv (.t 60), []⟩,
  .s ⟨(some 12), .mv (.t 61), []⟩])
 (.seq (.reg [.s ⟨(some 63), .mv (.t 9), []⟩,
  .s ⟨(some 64), .call 26 [(.t 63)], []⟩,
  .s ⟨(some 65), .mv (.t 2), []⟩,
  .s ⟨(some 66), .app 5 1 1 (.t 64) (.t 65), []⟩,
  .s ⟨(some 67), .mv (.t 7), []⟩,
  .s ⟨(some 68), .call 24 [(.t 66), (.t 67)], []⟩,
  .s ⟨(some 62), .mv (.t 68), []⟩,
  .s ⟨(some 69), .ext 0 (.t 62), []⟩,
  .s ⟨(some 70), .ext 1 (.t 62), []⟩,
  .s ⟨(some 71), .ext 2 (.t 62), []⟩,
  .s ⟨(some 13), .mv (.t 69), []⟩,
  .s ⟨(some 14), .mv (.t 70), []⟩,
  .s ⟨(some 15), .mv (.t 71), []⟩])
 (.seq (.seq (.reg [.s ⟨(some 72), .mv (.t 10), []⟩,
  .s ⟨(some 73), .mv (.t 1), []⟩,
  .s ⟨(some 74), .bin .neq (.t 72) (.t 73), []⟩,
  .s ⟨(some 75), .mv (.t 74), []⟩,
  .g 75 false [⟨(some 76), .mv (.t 11), []⟩,
   ⟨(some 77), .mv (.t 8), []⟩,
   ⟨(some 78), .lenL (.t 77), []⟩,
   ⟨(some 79), .bin .neq (.t 76) (.t 78), []⟩],
  .s ⟨(some 80), .pick (.t 75) (.c (.bool true)) (.t 79), []⟩,
  .s ⟨(some 81), .mv (.t 80), []⟩,
  .g 81 false [⟨(some 82), .mv (.t 12), []⟩,
   ⟨(some 83), .bin .neq (.t 82) (.c (.int .i64 0)), []⟩],
  .s ⟨(some 84), .pick (.t 81) (.c (.bool true)) (.t 83), []⟩,
  .s ⟨(some 85), .mv (.t 84), []⟩,
  .g 85 false [⟨(some 86), .mv (.t 13), []⟩,
   ⟨(some 87), .mv (.t 1), []⟩,
   ⟨(some 88), .cint .i64 (.t 87), []⟩,
   ⟨(some 89), .bin .neq (.t 86) (.t 88), []⟩],
  .s ⟨(some 90), .pick (.t 85) (.c (.bool true)) (.t 89), []⟩,
  .s ⟨(some 91), .mv (.t 90), []⟩,
  .g 91 false [⟨(some 92), .mv (.t 14), []⟩,
   ⟨(some 93), .mv (.t 9), []⟩,
   ⟨(some 94), .lenL (.t 93), []⟩,
   ⟨(some 95), .bin .neq (.t 92) (.t 94), []⟩],
  .s ⟨(some 96), .pick (.t 91) (.c (.bool true)) (.t 95), []⟩,
  .s ⟨(some 97), .mv (.t 96), []⟩,
  .g 97 false [⟨(some 98), .mv (.t 15), []⟩,
   ⟨(some 99), .bin .neq (.t 98) (.c (.int .i64 0)), []⟩],
  .s ⟨(some 100), .pick (.t 97) (.c (.bool true)) (.t 99), []⟩])
 (.cond (.t 100) (.seq (.reg [.s ⟨(some 6), .mv (.c (.bool false)), []⟩])
 .ret)
 .skip))
 (.seq (.seq (.reg [.s ⟨(some 101), .mv (.t 7), []⟩,
  .s ⟨(some 16), .mv (.t 101), []⟩])
 (.block 0 (.loop (.seq (.seq (.reg [.s ⟨(some 102), .mv (.t 16), []⟩,
  .s ⟨(some 103), .mv (.t 8), []⟩,
  .s ⟨(some 104), .lenL (.t 103), []⟩,
  .s ⟨(some 105), .bin .lss (.t 102) (.t 104), []⟩])
 (.cond (.t 105) .skip
 (.exit 0)))
 (.seq (.block 1 (.seq (.reg [.s ⟨(some 109), .mv (.t 8), []⟩,
  .s ⟨(some 110), .mv (.t 16), []⟩,
  .s ⟨(some 111), .slc 1 (.t 109) none (some (.t 110)) none, []⟩,
  .s ⟨(some 112), .mv (.t 7), []⟩,
  .s ⟨(some 113), .call 22 [(.t 111), (.t 112)], []⟩,
  .s ⟨(some 108), .mv (.t 113), []⟩,
  .s ⟨(some 114), .ext 0 (.t 108), []⟩,
  .s ⟨(some 115), .ext 1 (.t 108), []⟩,
  .s ⟨(some 116), .ext 2 (.t 108), []⟩,
  .s ⟨(some 17), .mv (.t 114), []⟩,
  .s ⟨(some 18), .mv (.t 115), []⟩,
  .s ⟨(some 19), .mv (.t 116), []⟩])
 (.seq (.reg [.s ⟨(some 117), .mv (.t 19), []⟩,
  .s ⟨(some 118), .bin .eql (.t 117) (.c (.int .i64 0)), []⟩])
 (.cond (.t 118) (.seq (.reg [.s ⟨(some 6), .mv (.c (.bool false)), []⟩])
 .ret)
 .skip))))
 (.reg [.s ⟨(some 106), .mv (.t 16), []⟩,
  .s ⟨(some 107), .bin .add (.t 106) (.c (.int .i64 1)), []⟩,
  .s ⟨(some 16), .mv (.t 107), []⟩]))))))
 (.seq (.seq (.reg [.s ⟨(some 119), .mv (.t 7), []⟩,
  .s ⟨(some 20), .mv (.t 119), []⟩])
 (.block 2 (.loop (.seq (.seq (.reg [.s ⟨(some 120), .mv (.t 20), []⟩,
  .s ⟨(some 121), .mv (.t 9), []⟩,
  .s ⟨(some 122), .lenL (.t 121), []⟩,
  .s ⟨(some 123), .bin .lss (.t 120) (.t 122), []⟩])
 (.cond (.t 123) .skip
 (.exit 2)))
 (.seq (.block 3 (.seq (.reg [.s ⟨(some 127), .mv (.t 9), []⟩,
  .s ⟨(some 128), .mv (.t 20), []⟩,
  .s ⟨(some 129), .slc 1 (.t 127) none (some (.t 128)) none, []⟩,
  .s ⟨(some 130), .mv (.t 7), []⟩,
  .s ⟨(some 131), .call 24 [(.t 129), (.t 130)], []⟩,
  .s ⟨(some 126), .mv (.t 131), []⟩,
  .s ⟨(some 132), .ext 0 (.t 126), []⟩,
  .s ⟨(some 133), .ext 1 (.t 126), []⟩,
  .s ⟨(some 134), .ext 2 (.t 126), []⟩,
  .s ⟨(some 21), .mv (.t 132), []⟩,
  .s ⟨(some 22), .mv (.t 133), []⟩,
  .s ⟨(some 23), .mv (.t 134), []⟩])
 (.seq (.reg [.s ⟨(some 135), .mv (.t 23), []⟩,
  .s ⟨(some 136), .bin .eql (.t 135) (.c (.int .i64 0)), []⟩])
 (.cond (.t 136) (.seq (.reg [.s ⟨(some 6), .mv (.c (.bool false)), []⟩])
 .ret)
 .skip))))
 (.reg [.s ⟨(some 124), .mv (.t 20), []⟩,
  .s ⟨(some 125), .bin .add (.t 124) (.c (.int .i64 1)), []⟩,
  .s ⟨(some 20), .mv (.t 125), []⟩]))))))
 (.seq (.reg [.s ⟨(some 137), .call 13 [], []⟩,
  .s ⟨(some 6), .mv (.t 137), []⟩])
 .ret))))))))))))⟩
def a6 : XFun := ⟨112, [.t 4],
 (.seq (.reg [.s ⟨(some 4), .mv (.c (.bool false)), []⟩])
 (.seq (.seq (.reg [.s ⟨(some 11), .mv (.t 0), []⟩,
  .s ⟨(some 12), .lenL (.t 11), []⟩,
  .s ⟨(some 13), .bin .gtr (.t 12) (.c (.int .i64 1024)), []⟩])
 (.cond (.t 13) (.seq (.reg [.s ⟨(some 14), .call 13 [], []⟩,
  .s ⟨(some 4), .mv (.t 14), []⟩])
 .ret)
 .skip))
 (.seq (.reg [.s ⟨(some 16), .mv (.t 0), []⟩,
  .s ⟨(some 17), .mv (.t 1), []⟩,
  .s ⟨(some 18), .call 22 [(.t 16), (.t 17)], []⟩,
  .s ⟨(some 15), .mv (.t 18), []⟩,
  .s ⟨(some 19), .ext 0 (.t 15), []⟩,
  .s ⟨(some 20), .ext 1 (.t 15), []⟩,
  .s ⟨(some 21), .ext 2 (.t 15), []⟩,
  .s ⟨(some 5), .mv (.t 19), []⟩,
  .s ⟨(some 6), .mv (.t 20), []⟩,
  .s ⟨(some 7), .mv (.t 21), []⟩])
 (.seq (.reg [.s ⟨(some 23), .mv (.t 0), []⟩,
  .s ⟨(some 24), .mv (.t 1), []⟩,
  .s ⟨(some 25), .call 24 [(.t 23), (.t 24)], []⟩,
  .s ⟨(some 22), .mv (.t 25), []⟩,
  .s ⟨(some 26), .ext 0 (.t 22), []⟩,
  .s ⟨(some 27), .ext 1 (.t 22), []⟩,
  .s ⟨(some 28), .ext 2 (.t 22), []⟩,
  .s ⟨(some 8), .mv (.t 26), []⟩,
  .s ⟨(some 9), .mv (.t 27), []⟩,
  .s ⟨(some 10), .mv (.t 28), []⟩])
 (.seq (.seq (.par [.s ⟨(some 29), .mv (.t 7), []⟩,
  .s ⟨(some 30), .bin .eql (.t 29) (.c (.int .i64 0)), []⟩,
  .s ⟨(some 31), .mv (.t 30), []⟩,
  .g 31 true [⟨(some 32), .mv (.t 6), []⟩,
   ⟨(some 33), .mv (.t 1), []⟩,
   ⟨(some 34), .bin .leq (.t 32) (.t 33), []⟩,
   ⟨(some 35), .mv (.t 34), []⟩],
  .g 35 false [⟨(some 36), .mv (.t 6), []⟩,
   ⟨(some 37), .mv (.t 0), []⟩,
   ⟨(some 38), .lenL (.t 37), []⟩,
   ⟨(some 39), .bin .gtr (.t 36) (.t 38), []⟩],
  .g 31 true [⟨(some 40), .pick (.t 35) (.c (.bool true)) (.t 39), []⟩,
   ⟨(some 41), .mv (.t 40), []⟩],
  .g 41 false [⟨(some 42), .mv (.t 6), []⟩,
   ⟨(some 43), .mv (.t 1), []⟩,
   ⟨(some 44), .bin .sub (.t 42) (.t 43), []⟩,
   ⟨(some 45), .bin .gtr (.t 44) (.c (.int .i64 10)), []⟩],
  .g 31 true [⟨(some 46), .pick (.t 41) (.c (.bool true)) (.t 45), []⟩,
   ⟨(some 47), .mv (.t 46), []⟩],
  .g 47 false [⟨(some 48), .mv (.t 5), []⟩,
   ⟨(some 50), .mv (.t 0), []⟩,
   ⟨(some 51), .mv (.t 1), []⟩,
   ⟨(some 52), .mv (.t 6), []⟩,
   ⟨(some 53), .slc 1 (.t 50) (some (.t 51)) (some (.t 52)) none, []⟩,
   ⟨(some 49), .call 15 [(.c (.slice none 0 0)), (.t 48)], []⟩,
   ⟨(some 54), .call 17 [(.t 49), (.t 53)], []⟩,
   ⟨(some 55), .un .not (.t 54), []⟩],
  .g 31 true [⟨(some 56), .pick (.t 47) (.c (.bool true)) (.t 55), []⟩],
  .s ⟨(some 57), .pick (.t 31) (.t 56) (.c (.bool false)), []⟩])
 (.cond (.t 57) (.seq (.reg [.s ⟨(some 4), .mv (.c (.bool false)), []⟩])
 .ret)
 .skip))
 (.seq (.seq (.par [.s ⟨(some 58), .mv (.t 10), []⟩,
  .s ⟨(some 59), .bin .eql (.t 58) (.c (.int .i64 0)), []⟩,
  .s ⟨(some 60), .mv (.t 59), []⟩,
  .g 60 true [⟨(some 61), .mv (.t 9), []⟩,
   ⟨(some 62), .mv (.t 1), []⟩,
   ⟨(some 63), .bin .leq (.t 61) (.t 62), []⟩,
   ⟨(some 64), .mv (.t 63), []⟩],
  .g 64 false [⟨(some 65), .mv (.t 9), []⟩,
   ⟨(some 66), .mv (.t 0), []⟩,
   ⟨(some 67), .lenL (.t 66), []⟩,
   ⟨(some 68), .bin .gtr (.t 65) (.t 67), []⟩],
  .g 60 true [⟨(some 69), .pick (.t 64) (.c (.bool true)) (.t 68), []⟩,
   ⟨(some 70), .mv (.t 69), []⟩],
  .g 70 false [⟨(some 71), .mv (.t 9), []⟩,
   ⟨(some 72), .mv (.t 1), []⟩,
   ⟨(some 73), .bin .sub (.t 71) (.t 72), []⟩,
   ⟨(some 74), .bin .gtr (.t 73) (.c (.int .i64 10)), []⟩],
  .g 60 true [⟨(some 75), .pick (.t 70) (.c (.bool true)) (.t 74), []⟩,
   ⟨(some 76), .mv (.t 75), []⟩],
  .g 76 false [⟨(some 77), .mv (.t 8), []⟩,
   ⟨(some 79), .mv (.t 0), []⟩,
   ⟨(some 80), .mv (.t 1), []⟩,
   ⟨(some 81), .mv (.t 9), []⟩,
   ⟨(some 82), .slc 1 (.t 79) (some (.t 80)) (some (.t 81)) none, []⟩,
   ⟨(some 78), .call 16 [(.c (.slice none 0 0)), (.t 77)], []⟩,
   ⟨(some 83), .call 17 [(.t 78), (.t 82)], []⟩,
   ⟨(some 84), .un .not (.t 83), []⟩],
  .g 60 true [⟨(some 85), .pick (.t 76) (.c (.bool true)) (.t 84), []⟩],
  .s ⟨(some 86), .pick (.t 60) (.t 85) (.c (.bool false)), []⟩])
 (.cond (.t 86) (.seq (.reg [.s ⟨(some 4), .mv (.c (.bool false)), []⟩])
 .ret)
 .skip))
 (.seq (.reg [.s ⟨(some 87), .mv (.t 7), []⟩,
  .s ⟨(some 88), .bin .eql (.t 87) (.c (.int .i64 0)), []⟩,
  .s ⟨(some 89), .mv (.t 88), []⟩,
  .g 89 false [⟨(some 90), .mv (.t 5), []⟩,
   ⟨(some 91), .bin .eql (.t 90) (.c (.int .u64 0)), []⟩,
   ⟨(some 92), .mv (.t 91), []⟩],
  .g 92 true [⟨(some 93), .mv (.t 6), []⟩,
   ⟨(some 94), .bin .eql (.t 93) (.c (.int .i64 0)), []⟩],
  .g 89 false [⟨(some 95), .pick (.t 92) (.t 94) (.c (.bool false)), []⟩],
  .s ⟨(some 96), .pick (.t 89) (.c (.bool true)) (.t 95), []⟩,
  .s ⟨(some 97), .mv (.t 96), []⟩,
  .g 97 true [⟨(some 98), .mv (.t 10), []⟩,
   ⟨(some 99), .bin .eql (.t 98) (.c (.int .i64 0)), []⟩,
   ⟨(some 100), .mv (.t 99), []⟩],
  .g 100 false [⟨(some 101), .mv (.t 8), []⟩,
   ⟨(some 102), .bin .eql (.t 101) (.c (.int .i64 0)), []⟩,
   ⟨(some 103), .mv (.t 102), []⟩],
  .g 103 true [⟨(some 104), .mv (.t 9), []⟩,
   ⟨(some 105), .bin .eql (.t 104) (.c (.int .i64 0)), []⟩],
  .g 100 false [⟨(some 106), .pick (.t 103) (.t 105) (.c (.bool false)), []⟩],
  .g 97 true [⟨(some 107), .pick (.t 100) (.c (.bool true)) (.t 106), []⟩],
  .s ⟨(some 108), .pick (.t 97) (.t 107) (.c (.bool false)), []⟩,
  .s ⟨(some 109), .mv (.t 108), []⟩,
  .g 109 true [⟨(some 110), .call 13 [], []⟩],
  .s ⟨(some 111), .pick (.t 109) (.t 110) (.c (.bool false)), []⟩,
  .s ⟨(some 4), .mv (.t 111), []⟩])
 .ret)))))))⟩
def a7 : XFun := ⟨99, [.t 4],
 (.seq (.reg [.s ⟨(some 4), .mv (.c (.bool false)), []⟩])
 (.seq (.reg [.s ⟨(some 9), .mv (.t 0), []⟩,
  .s ⟨(some 10), .call 15 [(.c (.slice none 0 0)), (.t 9)], []⟩,
  .s ⟨(some 11), .lenL (.t 10), []⟩,
  .s ⟨(some 5), .mv (.t 11), []⟩])
 (.seq (.reg [.s ⟨(some 12), .mv (.t 1), []⟩,
  .s ⟨(some 13), .call 15 [(.c (.slice none 0 0)), (.t 12)], []⟩,
  .s ⟨(some 14), .lenL (.t 13), []⟩,
  .s ⟨(some 6), .mv (.t 14), []⟩])
 (.seq (.seq (.reg [.s ⟨(some 15), .mv (.t 0), []⟩,
  .s ⟨(some 16), .mv (.t 1), []⟩,
  .s ⟨(some 17), .bin .leq (.t 15) (.t 16), []⟩,
  .s ⟨(some 18), .mv (.t 17), []⟩,
  .g 18 true [⟨(some 19), .mv (.t 5), []⟩,
   ⟨(some 20), .mv (.t 6), []⟩,
   ⟨(some 21), .bin .gtr (.t 19) (.t 20), []⟩],
  .s ⟨(some 22), .pick (.t 18) (.t 21) (.c (.bool false)), []⟩,
  .s ⟨(some 23), .mv (.t 22), []⟩,
  .g 23 false [⟨(some 24), .mv (.t 0), []⟩,
   ⟨(some 25), .mv (.t 1), []⟩,
   ⟨(some 26), .bin .geq (.t 24) (.t 25), []⟩,
   ⟨(some 27), .mv (.t 26), []⟩],
  .g 27 true [⟨(some 28), .mv (.t 5), []⟩,
   ⟨(some 29), .mv (.t 6), []⟩,
   ⟨(some 30), .bin .lss (.t 28) (.t 29), []⟩],
  .g 23 false [⟨(some 31), .pick (.t 27) (.t 30) (.c (.bool false)), []⟩],
  .s ⟨(some 32), .pick (.t 23) (.c (.bool true)) (.t 31), []⟩,
  .s ⟨(some 33), .mv (.t 32), []⟩,
  .g 33 false [⟨(some 34), .mv (.t 5), []⟩,
   ⟨(some 35), .bin .lss (.t 34) (.c (.int .i64 1)), []⟩],
  .s ⟨(some 36), .pick (.t 33) (.c (.bool true)) (.t 35), []⟩,
  .s ⟨(some 37), .mv (.t 36), []⟩,
  .g 37 false [⟨(some 38), .mv (.t 5), []⟩,
   ⟨(some 39), .bin .gtr (.t 38) (.c (.int .i64 10)), []⟩],
  .s ⟨(some 40), .pick (.t 37) (.c (.bool true)) (.t 39), []⟩])
 (.cond (.t 40) (.seq (.reg [.s ⟨(some 4), .mv (.c (.bool false)), []⟩])
 .ret)
 .skip))
 (.seq (.seq (.reg [.s ⟨(some 41), .mv (.t 5), []⟩,
  .s ⟨(some 42), .bin .lss (.t 41) (.c (.int .i64 10)), []⟩,
  .s ⟨(some 43), .mv (.t 42), []⟩,
  .g 43 true [⟨(some 44), .mv (.t 0), []⟩,
   ⟨(some 45), .mv (.t 5), []⟩,
   ⟨(some 46), .bin .mul (.c (.int .i64 7)) (.t 45), []⟩,
   ⟨(some 47), .cint .u64 (.t 46), []⟩,
   ⟨(some 48), .bin .shr (.t 44) (.t 47), []⟩,
   ⟨(some 49), .bin .neq (.t 48) (.c (.int .u64 0)), []⟩],
  .s ⟨(some 50), .pick (.t 43) (.t 49) (.c (.bool false)), []⟩,
  .s ⟨(some 51), .mv (.t 50), []⟩,
  .g 51 false [⟨(some 52), .mv (.t 5), []⟩,
   ⟨(some 53), .bin .gtr (.t 52) (.c (.int .i64 1)), []⟩,
   ⟨(some 54), .mv (.t 53), []⟩],
  .g 54 true [⟨(some 55), .mv (.t 0), []⟩,
   ⟨(some 56), .mv (.t 5), []⟩,
   ⟨(some 57), .bin .mul (.c (.int .i64 7)) (.t 56), []⟩,
   ⟨(some 58), .bin .sub (.t 57) (.c (.int .i64 7)), []⟩,
   ⟨(some 59), .cint .u64 (.t 58), []⟩,
   ⟨(some 60), .bin .shr (.t 55) (.t 59), []⟩,
   ⟨(some 61), .bin .eql (.t 60) (.c (.int .u64 0)), []⟩],
  .g 51 false [⟨(some 62), .pick (.t 54) (.t 61) (.c (.bool false)), []⟩],
  .s ⟨(some 63), .pick (.t 51) (.c (.bool true)) (.t 62), []⟩])
 (.cond (.t 63) (.seq (.reg [.s ⟨(some 4), .mv (.c (.bool false)), []⟩])
 .ret)
 .skip))
 (.seq (.reg [.s ⟨(some 64), .mv (.t 0), []⟩,
  .s ⟨(some 65), .bin .shr (.t 64) (.c (.int .u64 1)), []⟩,
  .s ⟨(some 66), .cint .i64 (.t 65), []⟩,
  .s ⟨(some 67), .call 16 [(.c (.slice none 0 0)), (.t 66)], []⟩,
  .s ⟨(some 68), .lenL (.t 67), []⟩,
  .s ⟨(some 7), .mv (.t 68), []⟩])
 (.seq (.reg [.s ⟨(some 69), .mv (.t 0), []⟩,
  .s ⟨(some 70), .bin .shr (.t 69) (.c (.int .u64 1)), []⟩,
  .s ⟨(some 71), .cint .i64 (.t 70), []⟩,
  .s ⟨(some 72), .un .neg (.t 71), []⟩,
  .s ⟨(some 73), .bin .sub (.t 72) (.c (.int .i64 1)), []⟩,
  .s ⟨(some 74), .call 16 [(.c (.slice none 0 0)), (.t 73)], []⟩,
  .s ⟨(some 75), .lenL (.t 74), []⟩,
  .s ⟨(some 8), .mv (.t 75), []⟩])
 (.seq (.reg [.s ⟨(some 76), .mv (.t 7), []⟩,
  .s ⟨(some 77), .mv (.t 8), []⟩,
  .s ⟨(some 78), .bin .eql (.t 76) (.t 77), []⟩,
  .s ⟨(some 79), .mv (.t 78), []⟩,
  .g 79 true [⟨(some 80), .mv (.t 7), []⟩,
   ⟨(some 81), .mv (.t 0), []⟩,
   ⟨(some 82), .bin .shr (.t 81) (.c (.int .u64 1)), []⟩,
   ⟨(some 83), .call 15 [(.c (.slice none 0 0)), (.t 82)], []⟩,
   ⟨(some 84), .lenL (.t 83), []⟩,
   ⟨(some 85), .bin .geq (.t 80) (.t 84), []⟩],
  .s ⟨(some 86), .pick (.t 79) (.t 85) (.c (.bool false)), []⟩,
  .s ⟨(some 87), .mv (.t 86), []⟩,
  .g 87 true [⟨(some 88), .mv (.t 7), []⟩,
   ⟨(some 89), .mv (.t 0), []⟩,
   ⟨(some 90), .bin .shr (.t 89) (.c (.int .u64 1)), []⟩,
   ⟨(some 91), .call 15 [(.c (.slice none 0 0)), (.t 90)], []⟩,
   ⟨(some 92), .lenL (.t 91), []⟩,
   ⟨(some 93), .bin .add (.t 92) (.c (.int .i64 1)), []⟩,
   ⟨(some 94), .bin .leq (.t 88) (.t 93), []⟩],
  .s ⟨(some 95), .pick (.t 87) (.t 94) (.c (.bool false)), []⟩,
  .s ⟨(some 96), .mv (.t 95), []⟩,
  .g 96 true [⟨(some 97), .call 13 [], []⟩],
  .s ⟨(some 98), .pick (.t 96) (.t 97) (.c (.bool false)), []⟩,
  .s ⟨(some 4), .mv (.t 98), []⟩])
 .ret))))))))⟩
def a8 : XFun := ⟨71, [.t 6],
 (.seq (.reg [.s ⟨(some 6), .mv (.c (.bool false)), []⟩])
 (.seq (.reg [.s ⟨(some 16), .mv (.t 0), []⟩,
  .s ⟨(some 17), .mv (.t 1), []⟩,
  .s ⟨(some 18), .call 27 [(.t 16), (.t 17)], []⟩,
  .s ⟨(some 15), .mv (.t 18), []⟩,
  .s ⟨(some 19), .ext 0 (.t 15), []⟩,
  .s ⟨(some 20), .ext 1 (.t 15), []⟩,
  .s ⟨(some 7), .mv (.t 19), []⟩,
  .s ⟨(some 8), .mv (.t 20), []⟩])
 (.seq (.reg [.s ⟨(some 22), .mv (.t 0), []⟩,
  .s ⟨(some 23), .mv (.t 1), []⟩,
  .s ⟨(some 24), .call 28 [(.t 22), (.t 23)], []⟩,
  .s ⟨(some 21), .mv (.t 24), []⟩,
  .s ⟨(some 25), .ext 0 (.t 21), []⟩,
  .s ⟨(some 26), .ext 1 (.t 21), []⟩,
  .s ⟨(some 9), .mv (.t 25), []⟩,
  .s ⟨(some 10), .mv (.t 26), []⟩])
 (.seq (.reg [.s ⟨(some 28), .mv (.t 2), []⟩,
  .s ⟨(some 29), .call 29 [(.t 28)], []⟩,
  .s ⟨(some 27), .mv (.t 29), []⟩,
  .s ⟨(some 30), .ext 0 (.t 27), []⟩,
  .s ⟨(some 31), .ext 1 (.t 27), []⟩,
  .s ⟨(some 11), .mv (.t 30), []⟩,
  .s ⟨(some 12), .mv (.t 31), []⟩])
 (.seq (.reg [.s ⟨(some 33), .mv (.t 11), []⟩,
  .s ⟨(some 34), .mv (.t 12), []⟩,
  .s ⟨(some 35), .call 27 [(.t 33), (.t 34)], []⟩,
  .s ⟨(some 32), .mv (.t 35), []⟩,
  .s ⟨(some 36), .ext 0 (.t 32), []⟩,
  .s ⟨(some 37), .ext 1 (.t 32), []⟩,
  .s ⟨(some 13), .mv (.t 36), []⟩,
  .s ⟨(some 14), .mv (.t 37), []⟩])
 (.seq (.reg [.s ⟨(some 38), .mv (.t 7), []⟩,
  .s ⟨(some 39), .mv (.t 9), []⟩,
  .s ⟨(some 40), .bin .eql (.t 38) (.t 39), []⟩,
  .s ⟨(some 41), .mv (.t 40), []⟩,
  .g 41 true [⟨(some 42), .mv (.t 8), []⟩,
   ⟨(some 43), .mv (.t 10), []⟩,
   ⟨(some 44), .beq false (.t 42) (.t 43), []⟩],
  .s ⟨(some 45), .pick (.t 41) (.t 44) (.c (.bool false)), []⟩,
  .s ⟨(some 46), .mv (.t 45), []⟩,
  .g 46 true [⟨(some 47), .mv (.t 11), []⟩,
   ⟨(some 48), .mv (.t 2), []⟩,
   ⟨(some 49), .cint .i64 (.t 48), []⟩,
   ⟨(some 50), .bin .quo (.t 49) (.c (.int .i64 16)), []⟩,
   ⟨(some 51), .bin .eql (.t 47) (.t 50), []⟩],
  .s ⟨(some 52), .pick (.t 46) (.t 51) (.c (.bool false)), []⟩,
  .s ⟨(some 53), .mv (.t 52), []⟩,
  .g 53 true [⟨(some 54), .mv (.t 12), []⟩,
   ⟨(some 55), .mv (.t 2), []⟩,
   ⟨(some 56), .cint .i64 (.t 55), []⟩,
   ⟨(some 57), .bin .rem (.t 56) (.c (.int .i64 16)), []⟩,
   ⟨(some 58), .bin .eql (.t 54) (.t 57), []⟩],
  .s ⟨(some 59), .pick (.t 53) (.t 58) (.c (.bool false)), []⟩,
  .s ⟨(some 60), .mv (.t 59), []⟩,
  .g 60 true [⟨(some 61), .mv (.t 13), []⟩,
   ⟨(some 62), .mv (.t 2), []⟩,
   ⟨(some 63), .bin .eql (.t 61) (.t 62), []⟩],
  .s ⟨(some 64), .pick (.t 60) (.t 63) (.c (.bool false)), []⟩,
  .s ⟨(some 65), .mv (.t 64), []⟩,
  .g 65 true [⟨(some 66), .mv (.t 14), []⟩],
  .s ⟨(some 67), .pick (.t 65) (.t 66) (.c (.bool false)), []⟩,
  .s ⟨(some 68), .mv (.t 67), []⟩,
  .g 68 true [⟨(some 69), .call 30 [], []⟩],
  .s ⟨(some 70), .pick (.t 68) (.t 69) (.c (.bool false)), []⟩,
  .s ⟨(some 6), .mv (.t 70), []⟩])
 .ret))))))⟩
def a9 : XFun := ⟨111, [.t 4],
 (.seq (.reg [.s ⟨(some 4), .mv (.c (.bool false)), []⟩])
 (.seq (.seq (.reg [.s ⟨(some 16), .mv (.t 0), []⟩,
  .s ⟨(some 17), .lenL (.t 16), []⟩,
  .s ⟨(some 18), .bin .gtr (.t 17) (.c (.int .i64 65536)), []⟩])
 (.cond (.t 18) (.seq (.reg [.s ⟨(some 19), .call 30 [], []⟩,
  .s ⟨(some 4), .mv (.t 19), []⟩])
 .ret)
 .skip))
 (.seq (.reg [.s ⟨(some 20), .mv (.t 0), []⟩,
  .s ⟨(some 21), .call 31 [(.t 20)], []⟩,
  .s ⟨(some 5), .mv (.t 21), []⟩])
 (.seq (.reg [.s ⟨(some 23), .mv (.t 5), []⟩,
  .s ⟨(some 24), .mv (.t 1), []⟩,
  .s ⟨(some 25), .call 32 [(.t 23), (.t 24)], []⟩,
  .s ⟨(some 22), .mv (.t 25), []⟩,
  .s ⟨(some 26), .ext 0 (.t 22), []⟩,
  .s ⟨(some 27), .ext 1 (.t 22), []⟩,
  .s ⟨(some 28), .ext 2 (.t 22), []⟩,
  .s ⟨(some 6), .mv (.t 26), []⟩,
  .s ⟨(some 7), .mv (.t 27), []⟩,
  .s ⟨(some 8), .mv (.t 28), []⟩])
 (.seq (.reg [.s ⟨(some 30), .mv (.t 0), []⟩,
  .s ⟨(some 31), .mv (.t 1), []⟩,
  .s ⟨(some 32), .call 33 [(.t 30), (.t 31)], []⟩,
  .s ⟨(some 29), .mv (.t 32), []⟩,
  .s ⟨(some 33), .ext 0 (.t 29), []⟩,
  .s ⟨(some 34), .ext 1 (.t 29), []⟩,
  .s ⟨(some 35), .ext 2 (.t 29), []⟩,
  .s ⟨(some 9), .mv (.t 33), []⟩,
  .s ⟨(some 10), .mv (.t 34), []⟩,
  .s ⟨(some 11), .mv (.t 35), []⟩])
 (.seq (.seq (.reg [.s ⟨(some 36), .mv (.t 6), []⟩,
  .s ⟨(some 37), .mv (.t 9), []⟩,
  .s ⟨(some 38), .bin .neq (.t 36) (.t 37), []⟩,
  .s ⟨(some 39), .mv (.t 38), []⟩,
  .g 39 false [⟨(some 40), .mv (.t 7), []⟩,
   ⟨(some 41), .mv (.t 10), []⟩,
   ⟨(some 42), .bin .neq (.t 40) (.t 41), []⟩],
  .s ⟨(some 43), .pick (.t 39) (.c (.bool true)) (.t 42), []⟩,
  .s ⟨(some 44), .mv (.t 43), []⟩,
  .g 44 false [⟨(some 45), .mv (.t 8), []⟩,
   ⟨(some 46), .mv (.t 11), []⟩,
   ⟨(some 47), .bin .neq (.t 45) (.t 46), []⟩],
  .s ⟨(some 48), .pick (.t 44) (.c (.bool true)) (.t 47), []⟩])
 (.cond (.t 48) (.seq (.reg [.s ⟨(some 4), .mv (.c (.bool false)), []⟩])
 .ret)
 .skip))
 (.seq (.reg [.s ⟨(some 50), .mv (.t 5), []⟩,
  .s ⟨(some 51), .mv (.t 1), []⟩,
  .s ⟨(some 52), .call 34 [(.t 50), (.t 51)], []⟩,
  .s ⟨(some 49), .mv (.t 52), []⟩,
  .s ⟨(some 53), .ext 0 (.t 49), []⟩,
  .s ⟨(some 54), .ext 1 (.t 49), []⟩,
  .s ⟨(some 55), .ext 2 (.t 49), []⟩,
  .s ⟨(some 12), .mv (.t 53), []⟩,
  .s ⟨(some 7), .mv (.t 54), []⟩,
  .s ⟨(some 8), .mv (.t 55), []⟩])
 (.seq (.reg [.s ⟨(some 57), .mv (.t 0), []⟩,
  .s ⟨(some 58), .mv (.t 1), []⟩,
  .s ⟨(some 59), .call 35 [(.t 57), (.t 58)], []⟩,
  .s ⟨(some 56), .mv (.t 59), []⟩,
  .s ⟨(some 60), .ext 0 (.t 56), []⟩,
  .s ⟨(some 61), .ext 1 (.t 56), []⟩,
  .s ⟨(some 62), .ext 2 (.t 56), []⟩,
  .s ⟨(some 13), .mv (.t 60), []⟩,
  .s ⟨(some 10), .mv (.t 61), []⟩,
  .s ⟨(some 11), .mv (.t 62), []⟩])
 (.seq (.seq (.reg [.s ⟨(some 63), .mv (.t 12), []⟩,
  .s ⟨(some 64), .mv (.t 13), []⟩,
  .s ⟨(some 65), .bin .neq (.t 63) (.t 64), []⟩,
  .s ⟨(some 66), .mv (.t 65), []⟩,
  .g 66 false [⟨(some 67), .mv (.t 7), []⟩,
   ⟨(some 68), .mv (.t 10), []⟩,
   ⟨(some 69), .bin .neq (.t 67) (.t 68), []⟩],
  .s ⟨(some 70), .pick (.t 66) (.c (.bool true)) (.t 69), []⟩,
  .s ⟨(some 71), .mv (.t 70), []⟩,
  .g 71 false [⟨(some 72), .mv (.t 8), []⟩,
   ⟨(some 73), .mv (.t 11), []⟩,
   ⟨(some 74), .bin .neq (.t 72) (.t 73), []⟩],
  .s ⟨(some 75), .pick (.t 71) (.c (.bool true)) (.t 74), []⟩])
 (.cond (.t 75) (.seq (.reg [.s ⟨(some 4), .mv (.c (.bool false)), []⟩])
 .ret)
 .skip))
 (.seq (.reg [.s ⟨(some 77), .mv (.t 5), []⟩,
  .s ⟨(some 78), .mv (.t 1), []⟩,
  .s ⟨(some 79), .call 36 [(.t 77), (.t 78)], []⟩,
  .s ⟨(some 76), .mv (.t 79), []⟩,
  .s ⟨(some 80), .ext 0 (.t 76), []⟩,
  .s ⟨(some 81), .ext 1 (.t 76), []⟩,
  .s ⟨(some 82), .ext 2 (.t 76), []⟩,
  .s ⟨(some 14), .mv (.t 80), []⟩,
  .s ⟨(some 7), .mv (.t 81), []⟩,
  .s ⟨(some 8), .mv (.t 82), []⟩])
 (.seq (.reg [.s ⟨(some 84), .mv (.t 0), []⟩,
  .s ⟨(some 85), .mv (.t 1), []⟩,
  .s ⟨(some 86), .call 37 [(.t 84), (.t 85)], []⟩,
  .s ⟨(some 83), .mv (.t 86), []⟩,
  .s ⟨(some 87), .ext 0 (.t 83), []⟩,
  .s ⟨(some 88), .ext 1 (.t 83), []⟩,
  .s ⟨(some 89), .ext 2 (.t 83), []⟩,
  .s ⟨(some 15), .mv (.t 87), []⟩,
  .s ⟨(some 10), .mv (.t 88), []⟩,
  .s ⟨(some 11), .mv (.t 89), []⟩])
 (.seq (.reg [.s ⟨(some 90), .mv (.t 14), []⟩,
  .s ⟨(some 91), .mv (.t 15), []⟩,
  .s ⟨(some 92), .bin .eql (.t 90) (.t 91), []⟩,
  .s ⟨(some 93), .mv (.t 92), []⟩,
  .g 93 true [⟨(some 94), .mv (.t 7), []⟩,
   ⟨(some 95), .mv (.t 10), []⟩,
   ⟨(some 96), .bin .eql (.t 94) (.t 95), []⟩],
  .s ⟨(some 97), .pick (.t 93) (.t 96) (.c (.bool false)), []⟩,
  .s ⟨(some 98), .mv (.t 97), []⟩,
  .g 98 true [⟨(some 99), .mv (.t 8), []⟩,
   ⟨(some 100), .mv (.t 11), []⟩,
   ⟨(some 101), .bin .eql (.t 99) (.t 100), []⟩],
  .s ⟨(some 102), .pick (.t 98) (.t 101) (.c (.bool false)), []⟩,
  .s ⟨(some 103), .mv (.t 102), []⟩,
  .g 103 true [⟨(some 104), .mv (.t 5), []⟩,
   ⟨(some 105), .mv (.t 0), []⟩,
   ⟨(some 106), .call 38 [(.t 104), (.t 105)], []⟩],
  .s ⟨(some 107), .pick (.t 103) (.t 106) (.c (.bool false)), []⟩,
  .s ⟨(some 108), .mv (.t 107), []⟩,
  .g 108 true [⟨(some 109), .call 30 [], []⟩],
  .s ⟨(some 110), .pick (.t 108) (.t 109) (.c (.bool false)), []⟩,
  .s ⟨(some 4), .mv (.t 110), []⟩])
 .ret))))))))))))⟩
def a10 : XFun := ⟨105, [.t 6],
 (.seq (.reg [.s ⟨(some 6), .mv (.c (.bool false)), []⟩])
 (.seq (.seq (.reg [.s ⟨(some 17), .mv (.t 0), []⟩,
  .s ⟨(some 18), .lenL (.t 17), []⟩,
  .s ⟨(some 19), .bin .gtr (.t 18) (.c (.int .i64 65536)), []⟩,
  .s ⟨(some 20), .mv (.t 19), []⟩,
  .g 20 false [⟨(some 21), .mv (.t 2), []⟩,
   ⟨(some 22), .lenS (.t 21), []⟩,
   ⟨(some 23), .bin .gtr (.t 22) (.c (.int .i64 65536)), []⟩],
  .s ⟨(some 24), .pick (.t 20) (.c (.bool true)) (.t 23), []⟩])
 (.cond (.t 24) (.seq (.reg [.s ⟨(some 25), .call 30 [], []⟩,
  .s ⟨(some 6), .mv (.t 25), []⟩])
 .ret)
 .skip))
 (.seq (.reg [.s ⟨(some 26), .mv (.t 0), []⟩,
  .s ⟨(some 27), .call 31 [(.t 26)], []⟩,
  .s ⟨(some 7), .mv (.t 27), []⟩])
 (.seq (.reg [.s ⟨(some 29), .mv (.t 7), []⟩,
  .s ⟨(some 30), .mv (.t 1), []⟩,
  .s ⟨(some 31), .call 39 [(.t 29), (.t 30)], []⟩,
  .s ⟨(some 28), .mv (.t 31), []⟩,
  .s ⟨(some 32), .ext 0 (.t 28), []⟩,
  .s ⟨(some 33), .ext 1 (.t 28), []⟩,
  .s ⟨(some 8), .mv (.t 32), []⟩,
  .s ⟨(some 9), .mv (.t 33), []⟩])
 (.seq (.reg [.s ⟨(some 35), .mv (.t 0), []⟩,
  .s ⟨(some 36), .mv (.t 1), []⟩,
  .s ⟨(some 37), .call 40 [(.t 35), (.t 36)], []⟩,
  .s ⟨(some 34), .mv (.t 37), []⟩,
  .s ⟨(some 38), .ext 0 (.t 34), []⟩,
  .s ⟨(some 39), .ext 1 (.t 34), []⟩,
  .s ⟨(some 10), .mv (.t 38), []⟩,
  .s ⟨(some 11), .mv (.t 39), []⟩])
 (.seq (.reg [.s ⟨(some 41), .mv (.t 7), []⟩,
  .s ⟨(some 42), .mv (.t 2), []⟩,
  .s ⟨(some 43), .call 41 [(.t 41), (.t 42)], []⟩,
  .s ⟨(some 40), .mv (.t 43), []⟩,
  .s ⟨(some 44), .ext 0 (.t 40), []⟩,
  .s ⟨(some 45), .ext 1 (.t 40), []⟩,
  .s ⟨(some 12), .mv (.t 44), []⟩,
  .s ⟨(some 13), .mv (.t 45), []⟩])
 (.seq (.reg [.s ⟨(some 47), .mv (.t 0), []⟩,
  .s ⟨(some 48), .mv (.t 2), []⟩,
  .s ⟨(some 49), .call 42 [(.t 47), (.t 48)], []⟩,
  .s ⟨(some 46), .mv (.t 49), []⟩,
  .s ⟨(some 50), .ext 0 (.t 46), []⟩,
  .s ⟨(some 51), .ext 1 (.t 46), []⟩,
  .s ⟨(some 14), .mv (.t 50), []⟩,
  .s ⟨(some 15), .mv (.t 51), []⟩])
 (.seq (.seq (.reg [.s ⟨(some 52), .mv (.t 9), []⟩,
  .s ⟨(some 53), .mv (.t 11), []⟩,
  .s ⟨(some 54), .bin .neq (.t 52) (.t 53), []⟩,
  .s ⟨(some 55), .mv (.t 54), []⟩,
  .g 55 false [⟨(some 56), .mv (.t 8), []⟩,
   ⟨(some 57), .tostr (.t 56), []⟩,
   ⟨(some 58), .mv (.t 10), []⟩,
   ⟨(some 59), .tostr (.t 58), []⟩,
   ⟨(some 60), .bin .neq (.t 57) (.t 59), []⟩],
  .s ⟨(some 61), .pick (.t 55) (.c (.bool true)) (.t 60), []⟩,
  .s ⟨(some 62), .mv (.t 61), []⟩,
  .g 62 false [⟨(some 63), .mv (.t 13), []⟩,
   ⟨(some 64), .mv (.t 15), []⟩,
   ⟨(some 65), .bin .neq (.t 63) (.t 64), []⟩],
  .s ⟨(some 66), .pick (.t 62) (.c (.bool true)) (.t 65), []⟩,
  .s ⟨(some 67), .mv (.t 66), []⟩,
  .g 67 false [⟨(some 68), .mv (.t 12), []⟩,
   ⟨(some 69), .tostr (.t 68), []⟩,
   ⟨(some 70), .mv (.t 14), []⟩,
   ⟨(some 71), .tostr (.t 70), []⟩,
   ⟨(some 72), .bin .neq (.t 69) (.t 71), []⟩],
  .s ⟨(some 73), .pick (.t 67) (.c (.bool true)) (.t 72), []⟩,
  .s ⟨(some 74), .mv (.t 73), []⟩,
  .g 74 false [⟨(some 75), .mv (.t 7), []⟩,
   ⟨(some 76), .mv (.t 0), []⟩,
   ⟨(some 77), .call 38 [(.t 75), (.t 76)], []⟩,
   ⟨(some 78), .un .not (.t 77), []⟩],
  .s ⟨(some 79), .pick (.t 74) (.c (.bool true)) (.t 78), []⟩])
 (.cond (.t 79) (.seq (.reg [.s ⟨(some 6), .mv (.c (.bool false)), []⟩])
 .ret)
 .skip))
 (.seq (.seq (.reg [.s ⟨(some 16), .mv (.c (.int .i64 0)), []⟩])
 (.block 0 (.loop (.seq (.seq (.reg [.s ⟨(some 80), .mv (.t 16), []⟩,
  .s ⟨(some 81), .mv (.t 8), []⟩,
  .s ⟨(some 82), .lenL (.t 81), []⟩,
  .s ⟨(some 83), .bin .lss (.t 80) (.t 82), []⟩])
 (.cond (.t 83) .skip
 (.exit 0)))
 (.seq (.block 1 (.reg [.s ⟨(some 86), .mv (.t 8), []⟩,
  .s ⟨(some 87), .mv (.t 16), []⟩,
  .s ⟨(some 88), .idx 1 (.t 86) (.t 87), []⟩,
  .s ⟨(some 89), .load false 1 (.t 88), []⟩,
  .s ⟨(some 90), .bin .add (.t 89) (.c (.int .u8 1)), []⟩,
  .s ⟨(some 91), .idx 1 (.t 86) (.t 87), []⟩,
  .s ⟨none, .store 1 (.t 91) (.t 90), []⟩]))
 (.reg [.s ⟨(some 84), .mv (.t 16), []⟩,
  .s ⟨(some 85), .bin .add (.t 84) (.c (.int .i64 1)), []⟩,
  .s ⟨(some 16), .mv (.t 85), []⟩]))))))
 (.seq (.reg [.s ⟨(some 92), .mv (.t 12), []⟩,
  .s ⟨(some 93), .tostr (.t 92), []⟩,
  .s ⟨(some 94), .mv (.t 14), []⟩,
  .s ⟨(some 95), .tostr (.t 94), []⟩,
  .s ⟨(some 96), .bin .eql (.t 93) (.t 95), []⟩,
  .s ⟨(some 97), .mv (.t 96), []⟩,
  .g 97 true [⟨(some 98), .mv (.t 7), []⟩,
   ⟨(some 99), .mv (.t 0), []⟩,
   ⟨(some 100), .call 38 [(.t 98), (.t 99)], []⟩],
  .s ⟨(some 101), .pick (.t 97) (.t 100) (.c (.bool false)), []⟩,
  .s ⟨(some 102), .mv (.t 101), []⟩,
  .g 102 true [⟨(some 103), .call 30 [], []⟩],
  .s ⟨(some 104), .pick (.t 102) (.t 103) (.c (.bool false)), []⟩,
  .s ⟨(some 6), .mv (.t 104), []⟩])
 .ret))))))))))⟩
def a11 : XFun := ⟨103, [.t 2],
 (.seq (.reg [.s ⟨(some 2), .mv (.c (.bool false)), []⟩])
 (.seq (.seq (.reg [.s ⟨(some 15), .mv (.t 0), []⟩,
  .s ⟨(some 16), .lenL (.t 15), []⟩,
  .s ⟨(some 17), .bin .gtr (.t 16) (.c (.int .i64 60)), []⟩])
 (.cond (.t 17) (.seq (.reg [.s ⟨(some 18), .call 30 [], []⟩,
  .s ⟨(some 2), .mv (.t 18), []⟩])
 .ret)
 .skip))
 (.seq (.reg [.s ⟨(some 3), .mv (.c (.slice none 0 0)), []⟩])
 (.seq (.reg [.s ⟨(some 4), .mv (.c (.slice none 0 0)), []⟩])
 (.seq (.reg [.s ⟨(some 5), .mv (.c (.int .i64 0)), []⟩])
 (.seq (.seq (.reg [.s ⟨(some 6), .mv (.c (.int .i64 0)), []⟩])
 (.block 0 (.loop (.seq (.seq (.reg [.s ⟨(some 19), .mv (.t 6), []⟩,
  .s ⟨(some 20), .mv (.t 0), []⟩,
  .s ⟨(some 21), .lenL (.t 20), []⟩,
  .s ⟨(some 22), .bin .lss (.t 19) (.t 21), []⟩])
 (.cond (.t 22) .skip
 (.exit 0)))
 (.seq (.block 1 (.seq (.seq (.reg [.s ⟨(some 25), .mv (.t 0), []⟩,
  .s ⟨(some 26), .mv (.t 6), []⟩,
  .s ⟨(some 27), .idx 5 (.t 25) (.t 26), []⟩,
  .s ⟨(some 28), .faddr 4 (.t 27), []⟩,
  .s ⟨(some 29), .load false 1 (.t 28), []⟩,
  .s ⟨(some 30), .lenS (.t 29), []⟩,
  .s ⟨(some 31), .bin .gtr (.t 30) (.c (.int .i64 1000)), []⟩])
 (.cond (.t 31) (.seq (.reg [.s ⟨(some 32), .call 30 [], []⟩,
  .s ⟨(some 2), .mv (.t 32), []⟩])
 .ret)
 .skip))
 (.seq (.par [.s ⟨(some 34), .mv (.t 3), []⟩,
  .s ⟨(some 36), .mv (.t 0), []⟩,
  .s ⟨(some 37), .mv (.t 6), []⟩,
  .s ⟨(some 38), .idx 5 (.t 36) (.t 37), []⟩,
  .s ⟨(some 39), .load true 5 (.t 38), []⟩,
  .s ⟨(some 35), .call 31 [(.t 34)], [⟨none, (some 39), .load true 5 (.t 38)⟩]⟩,
  .s ⟨(some 40), .call 43 [(.t 35), (.t 39)], []⟩,
  .s ⟨(some 33), .mv (.t 40), []⟩,
  .s ⟨(some 41), .ext 0 (.t 33), []⟩,
  .s ⟨(some 42), .ext 1 (.t 33), []⟩,
  .s ⟨(some 7), .mv (.t 41), []⟩,
  .s ⟨(some 8), .mv (.t 42), []⟩])
 (.seq (.reg [.s ⟨(some 43), .mv (.t 8), []⟩])
 (.cond (.t 43) (.seq (.reg [.s ⟨(some 44), .mv (.t 3), []⟩,
  .s ⟨(some 45), .lenL (.t 44), []⟩,
  .s ⟨(some 5), .mv (.t 45), []⟩])
 (.seq (.reg [.s ⟨(some 46), .mv (.t 7), []⟩,
  .s ⟨(some 3), .mv (.t 46), []⟩])
 (.reg [.s ⟨(some 47), .mv (.t 4), []⟩,
  .s ⟨(some 48), .mv (.t 0), []⟩,
  .s ⟨(some 49), .mv (.t 6), []⟩,
  .s ⟨(some 50), .idx 5 (.t 48) (.t 49), []⟩,
  .s ⟨(some 51), .load true 5 (.t 50), []⟩,
  .s ⟨(some 52), .bslice 58 1 [(.int .u8 0), (.int .i64 0), (.int .i64 0), (.int .i64 0), (.string ⟨#[]⟩)] [(0, 5, (.t 51))], []⟩,
  .s ⟨(some 53), .app 58 5 48 (.t 47) (.t 52), []⟩,
  .s ⟨(some 4), .mv (.t 53), []⟩])))
 .skip)))))
 (.reg [.s ⟨(some 23), .mv (.t 6), []⟩,
  .s ⟨(some 24), .bin .add (.t 23) (.c (.int .i64 1)), []⟩,
  .s ⟨(some 6), .mv (.t 24), []⟩]))))))
 (.seq (.reg [.s ⟨(some 9), .mv (.c (.int .i64 0)), []⟩])
 (.seq (.seq (.reg [.s ⟨(some 10), .mv (.c (.int .i64 0)), []⟩])
 (.block 2 (.loop (.seq (.seq (.reg [.s ⟨(some 54), .mv (.t 10), []⟩,
  .s ⟨(some 55), .mv (.t 4), []⟩,
  .s ⟨(some 56), .lenL (.t 55), []⟩,
  .s ⟨(some 57), .bin .lss (.t 54) (.t 56), []⟩])
 (.cond (.t 57) .skip
 (.exit 2)))
 (.seq (.block 3 (.seq (.reg [.s ⟨(some 61), .mv (.t 3), []⟩,
  .s ⟨(some 62), .mv (.t 9), []⟩,
  .s ⟨(some 63), .mv (.t 4), []⟩,
  .s ⟨(some 64), .mv (.t 10), []⟩,
  .s ⟨(some 65), .idx 5 (.t 63) (.t 64), []⟩,
  .s ⟨(some 66), .load true 5 (.t 65), []⟩,
  .s ⟨(some 67), .call 44 [(.t 61), (.t 62), (.t 66)], []⟩,
  .s ⟨(some 60), .mv (.t 67), []⟩,
  .s ⟨(some 68), .ext 0 (.t 60), []⟩,
  .s ⟨(some 69), .ext 1 (.t 60), []⟩,
  .s ⟨(some 11), .mv (.t 68), []⟩,
  .s ⟨(some 12), .mv (.t 69), []⟩])
 (.seq (.seq (.reg [.s ⟨(some 70), .mv (.t 12), []⟩,
  .s ⟨(some 71), .un .not (.t 70), []⟩,
  .s ⟨(some 72), .mv (.t 71), []⟩,
  .g 72 false [⟨(some 73), .mv (.t 11), []⟩,
   ⟨(some 74), .mv (.t 9), []⟩,
   ⟨(some 75), .bin .leq (.t 73) (.t 74), []⟩],
  .s ⟨(some 76), .pick (.t 72) (.c (.bool true)) (.t 75), []⟩])
 (.cond (.t 76) (.seq (.reg [.s ⟨(some 2), .mv (.c (.bool false)), []⟩])
 .ret)
 .skip))
 (.reg [.s ⟨(some 77), .mv (.t 11), []⟩,
  .s ⟨(some 9), .mv (.t 77), []⟩]))))
 (.reg [.s ⟨(some 58), .mv (.t 10), []⟩,
  .s ⟨(some 59), .bin .add (.t 58) (.c (.int .i64 1)), []⟩,
  .s ⟨(some 10), .mv (.t 59), []⟩]))))))
 (.seq (.seq (.reg [.s ⟨(some 78), .mv (.t 9), []⟩,
  .s ⟨(some 79), .mv (.t 3), []⟩,
  .s ⟨(some 80), .lenL (.t 79), []⟩,
  .s ⟨(some 81), .bin .neq (.t 78) (.t 80), []⟩])
 (.cond (.t 81) (.seq (.reg [.s ⟨(some 2), .mv (.c (.bool false)), []⟩])
 .ret)
 .skip))
 (.seq (.seq (.reg [.s ⟨(some 82), .mv (.t 4), []⟩,
  .s ⟨(some 83), .lenL (.t 82), []⟩,
  .s ⟨(some 84), .bin .gtr (.t 83) (.c (.int .i64 0)), []⟩])
 (.cond (.t 84) (.seq (.par [.s ⟨(some 86), .mv (.t 3), []⟩,
  .s ⟨(some 87), .mv (.t 3), []⟩,
  .s ⟨(some 88), .lenL (.t 87), []⟩,
  .s ⟨(some 89), .bin .sub (.t 88) (.c (.int .i64 1)), []⟩,
  .s ⟨(some 90), .slc 1 (.t 86) none (some (.t 89)) none, []⟩,
  .s ⟨(some 91), .mv (.t 5), []⟩,
  .s ⟨(some 92), .mv (.t 4), []⟩,
  .s ⟨(some 93), .mv (.t 4), []⟩,
  .s ⟨(some 94), .lenL (.t 93), []⟩,
  .s ⟨(some 95), .bin .sub (.t 94) (.c (.int .i64 1)), []⟩,
  .s ⟨(some 96), .idx 5 (.t 92) (.t 95), []⟩,
  .s ⟨(some 97), .load true 5 (.t 96), []⟩,
  .s ⟨(some 98), .call 44 [(.t 90), (.t 91), (.t 97)], []⟩,
  .s ⟨(some 85), .mv (.t 98), []⟩,
  .s ⟨(some 99), .ext 0 (.t 85), []⟩,
  .s ⟨(some 100), .ext 1 (.t 85), []⟩,
  .s ⟨(some 13), .mv (.t 99), []⟩,
  .s ⟨(some 14), .mv (.t 100), []⟩])
 (.seq (.reg [.s ⟨(some 101), .mv (.t 14), []⟩])
 (.cond (.t 101) (.seq (.reg [.s ⟨(some 2), .mv (.c (.bool false)), []⟩])
 .ret)
 .skip)))
 .skip))
 (.seq (.reg [.s ⟨(some 102), .call 30 [], []⟩,
  .s ⟨(some 2), .mv (.t 102), []⟩])
 .ret)))))))))))⟩
theorem s11 : slimF Try.prog Try.f11 = some a11.fn := by kernel_rfl
def a14 : XFun := ⟨26, [.t 2],
 (.seq (.reg [.s ⟨(some 2), .mv (.c (.slice none 0 0)), []⟩])
 (.seq (.reg [.s ⟨(some 5), .mv (.t 0), []⟩,
  .s ⟨(some 6), .lenL (.t 5), []⟩,
  .s ⟨(some 7), .mv (.t 0), []⟩,
  .s ⟨(some 8), .lenL (.t 7), []⟩,
  .s ⟨(some 9), .bin .add (.t 8) (.c (.int .i64 8)), []⟩,
  .s ⟨(some 10), .mkslice 5 1 1 [(.int .u8 0)] (.t 6) (.t 9), []⟩,
  .s ⟨(some 3), .mv (.t 10), []⟩])
 (.seq (.reg [.s ⟨(some 11), .mv (.t 3), []⟩,
  .s ⟨(some 12), .mv (.t 0), []⟩,
  .s ⟨(some 13), .copy 1 (.t 11) (.t 12), []⟩])
 (.seq (.seq (.reg [.s ⟨(some 4), .mv (.c (.int .u8 8)), []⟩])
 (.block 0 (.loop (.seq (.seq (.reg [.s ⟨(some 14), .mv (.t 4), []⟩,
  .s ⟨(some 15), .bin .gtr (.t 14) (.c (.int .u8 0)), []⟩])
 (.cond (.t 15) .skip
 (.exit 0)))
 (.seq (.block 1 (.reg [.s ⟨(some 18), .mv (.t 3), []⟩,
  .s ⟨(some 19), .mv (.t 4), []⟩,
  .s ⟨(some 20), .bslice 5 1 [(.int .u8 0)] [(0, 1, (.t 19))], []⟩,
  .s ⟨(some 21), .app 5 1 1 (.t 18) (.t 20), []⟩,
  .s ⟨(some 3), .mv (.t 21), []⟩]))
 (.reg [.s ⟨(some 16), .mv (.t 4), []⟩,
  .s ⟨(some 17), .bin .sub (.t 16) (.c (.int .u8 1)), []⟩,
  .s ⟨(some 4), .mv (.t 17), []⟩]))))))
 (.seq (.reg [.s ⟨(some 22), .mv (.t 3), []⟩,
  .s ⟨(some 23), .mv (.t 0), []⟩,
  .s ⟨(some 24), .lenL (.t 23), []⟩,
  .s ⟨(some 25), .slc 1 (.t 22) none (some (.t 24)) none, []⟩,
  .s ⟨(some 2), .mv (.t 25), []⟩])
 .ret)))))⟩
def a27 : XFun := ⟨25, [.t 4, .t 5],
 (.seq (.reg [.s ⟨(some 4), .mv (.c (.int .u8 0)), []⟩,
  .s ⟨(some 5), .mv (.c (.bool false)), []⟩])
 (.seq (.seq (.reg [.s ⟨(some 6), .mv (.t 0), []⟩,
  .s ⟨(some 7), .bin .lss (.t 6) (.c (.int .i64 0)), []⟩,
  .s ⟨(some 8), .mv (.t 7), []⟩,
  .g 8 false [⟨(some 9), .mv (.t 0), []⟩,
   ⟨(some 10), .bin .geq (.t 9) (.c (.int .i64 16)), []⟩],
  .s ⟨(some 11), .pick (.t 8) (.c (.bool true)) (.t 10), []⟩,
  .s ⟨(some 12), .mv (.t 11), []⟩,
  .g 12 false [⟨(some 13), .mv (.t 1), []⟩,
   ⟨(some 14), .bin .lss (.t 13) (.c (.int .i64 0)), []⟩],
  .s ⟨(some 15), .pick (.t 12) (.c (.bool true)) (.t 14), []⟩,
  .s ⟨(some 16), .mv (.t 15), []⟩,
  .g 16 false [⟨(some 17), .mv (.t 1), []⟩,
   ⟨(some 18), .bin .geq (.t 17) (.c (.int .i64 16)), []⟩],
  .s ⟨(some 19), .pick (.t 16) (.c (.bool true)) (.t 18), []⟩])
 (.cond (.t 19) (.seq (.reg [.s ⟨(some 4), .mv (.c (.int .u8 0)), []⟩,
  .s ⟨(some 5), .mv (.c (.bool false)), []⟩])
 .ret)
 .skip))
 (.seq (.reg [.s ⟨(some 20), .mv (.t 0), []⟩,
  .s ⟨(some 21), .bin .shl (.t 20) (.c (.int .u64 4)), []⟩,
  .s ⟨(some 22), .mv (.t 1), []⟩,
  .s ⟨(some 23), .bin .or (.t 21) (.t 22), []⟩,
  .s ⟨(some 24), .cint .u8 (.t 23), []⟩,
  .s ⟨(some 4), .mv (.t 24), []⟩,
  .s ⟨(some 5), .mv (.c (.bool true)), []⟩])
 .ret)))⟩
theorem s27 : slimF Try.prog Try.f27 = some a27.fn := by kernel_rfl
def a29 : XFun := ⟨10, [.t 2, .t 3],
 (.seq (.reg [.s ⟨(some 2), .mv (.c (.int .i64 0)), []⟩,
  .s ⟨(some 3), .mv (.c (.int .i64 0)), []⟩])
 (.seq (.reg [.s ⟨(some 4), .mv (.t 0), []⟩,
  .s ⟨(some 5), .bin .shr (.t 4) (.c (.int .u64 4)), []⟩,
  .s ⟨(some 6), .cint .i64 (.t 5), []⟩,
  .s ⟨(some 7), .mv (.t 0), []⟩,
  .s ⟨(some 8), .bin .and (.t 7) (.c (.int .u8 15)), []⟩,
  .s ⟨(some 9), .cint .i64 (.t 8), []⟩,
  .s ⟨(some 2), .mv (.t 6), []⟩,
  .s ⟨(some 3), .mv (.t 9), []⟩])
 .ret))⟩
theorem s29 : slimF Try.prog Try.f29 = some a29.fn := by kernel_rfl
def a30 : XFun := ⟨105, [.t 0],
 (.seq (.reg [.s ⟨(some 0), .mv (.c (.bool false)), []⟩])
 (.seq (.reg [.s ⟨(some 19), .call 27 [(.c (.int .i64 1)), (.c (.int .i64 2))], []⟩,
  .s ⟨(some 18), .mv (.t 19), []⟩,
  .s ⟨(some 20), .ext 0 (.t 18), []⟩,
  .s ⟨(some 21), .ext 1 (.t 18), []⟩,
  .s ⟨(some 1), .mv (.t 20), []⟩,
  .s ⟨(some 2), .mv (.t 21), []⟩])
 (.seq (.reg [.s ⟨(some 23), .mv (.t 1), []⟩,
  .s ⟨(some 24), .bslice 5 1 [(.int .u8 0)] [(0, 1, (.t 23))], []⟩,
  .s ⟨(some 25), .call 39 [(.t 24), (.c (.int .i64 258))], []⟩,
  .s ⟨(some 22), .mv (.t 25), []⟩,
  .s ⟨(some 26), .ext 0 (.t 22), []⟩,
  .s ⟨(some 27), .ext 1 (.t 22), []⟩,
  .s ⟨(some 3), .mv (.t 26), []⟩,
  .s ⟨(some 4), .mv (.t 27), []⟩])
 (.seq (.reg [.s ⟨(some 29), .mv (.t 3), []⟩,
  .s ⟨(some 30), .call 41 [(.t 29), (.c (.string ⟨#[97, 98]⟩))], []⟩,
  .s ⟨(some 28), .mv (.t 30), []⟩,
  .s ⟨(some 31), .ext 0 (.t 28), []⟩,
  .s ⟨(some 32), .ext 1 (.t 28), []⟩,
  .s ⟨(some 3), .mv (.t 31), []⟩,
  .s ⟨(some 5), .mv (.t 32), []⟩])
 (.seq (.reg [.s ⟨(some 34), .mv (.t 3), []⟩,
  .s ⟨(some 35), .call 32 [(.t 34), (.c (.int .i64 0))], []⟩,
  .s ⟨(some 33), .mv (.t 35), []⟩,
  .s ⟨(some 36), .ext 0 (.t 33), []⟩,
  .s ⟨(some 37), .ext 1 (.t 33), []⟩,
  .s ⟨(some 38), .ext 2 (.t 33), []⟩,
  .s ⟨(some 6), .mv (.t 36), []⟩,
  .s ⟨(some 7), .mv (.t 37), []⟩,
  .s ⟨(some 8), .mv (.t 38), []⟩])
 (.seq (.reg [.s ⟨(some 40), .mv (.t 3), []⟩,
  .s ⟨(some 41), .mv (.t 7), []⟩,
  .s ⟨(some 42), .call 34 [(.t 40), (.t 41)], []⟩,
  .s ⟨(some 39), .mv (.t 42), []⟩,
  .s ⟨(some 43), .ext 0 (.t 39), []⟩,
  .s ⟨(some 44), .ext 1 (.t 39), []⟩,
  .s ⟨(some 45), .ext 2 (.t 39), []⟩,
  .s ⟨(some 9), .mv (.t 43), []⟩,
  .s ⟨(some 10), .mv (.t 44), []⟩,
  .s ⟨(some 11), .mv (.t 45), []⟩])
 (.seq (.reg [.s ⟨(some 47), .mv (.t 3), []⟩,
  .s ⟨(some 48), .mv (.t 10), []⟩,
  .s ⟨(some 49), .call 36 [(.t 47), (.t 48)], []⟩,
  .s ⟨(some 46), .mv (.t 49), []⟩,
  .s ⟨(some 50), .ext 0 (.t 46), []⟩,
  .s ⟨(some 51), .ext 1 (.t 46), []⟩,
  .s ⟨(some 52), .ext 2 (.t 46), []⟩,
  .s ⟨(some 12), .mv (.t 50), []⟩,
  .s ⟨(some 13), .mv (.t 51), []⟩,
  .s ⟨(some 14), .mv (.t 52), []⟩])
 (.seq (.reg [.s ⟨(some 54), .mv (.t 6), []⟩,
  .s ⟨(some 55), .call 29 [(.t 54)], []⟩,
  .s ⟨(some 53), .mv (.t 55), []⟩,
  .s ⟨(some 56), .ext 0 (.t 53), []⟩,
  .s ⟨(some 57), .ext 1 (.t 53), []⟩,
  .s ⟨(some 15), .mv (.t 56), []⟩,
  .s ⟨(some 16), .mv (.t 57), []⟩])
 (.seq (.reg [.s ⟨(some 58), .mv (.t 4), []⟩,
  .s ⟨(some 59), .bin .eql (.t 58) (.c (.int .i64 0)), []⟩,
  .s ⟨(some 60), .mv (.t 59), []⟩,
  .g 60 true [⟨(some 61), .mv (.t 5), []⟩,
   ⟨(some 62), .bin .eql (.t 61) (.c (.int .i64 0)), []⟩],
  .s ⟨(some 63), .pick (.t 60) (.t 62) (.c (.bool false)), []⟩,
  .s ⟨(some 64), .mv (.t 63), []⟩,
  .g 64 true [⟨(some 65), .mv (.t 8), []⟩,
   ⟨(some 66), .bin .eql (.t 65) (.c (.int .i64 0)), []⟩],
  .s ⟨(some 67), .pick (.t 64) (.t 66) (.c (.bool false)), []⟩,
  .s ⟨(some 68), .mv (.t 67), []⟩,
  .g 68 true [⟨(some 69), .mv (.t 11), []⟩,
   ⟨(some 70), .bin .eql (.t 69) (.c (.int .i64 0)), []⟩],
  .s ⟨(some 71), .pick (.t 68) (.t 70) (.c (.bool false)), []⟩,
  .s ⟨(some 72), .mv (.t 71), []⟩,
  .g 72 true [⟨(some 73), .mv (.t 14), []⟩,
   ⟨(some 74), .bin .eql (.t 73) (.c (.int .i64 0)), []⟩],
  .s ⟨(some 75), .pick (.t 72) (.t 74) (.c (.bool false)), []⟩,
  .s ⟨(some 17), .mv (.t 75), []⟩])
 (.seq (.reg [.s ⟨(some 76), .mv (.t 2), []⟩,
  .s ⟨(some 77), .mv (.t 76), []⟩,
  .g 77 true [⟨(some 78), .mv (.t 17), []⟩],
  .s ⟨(some 79), .pick (.t 77) (.t 78) (.c (.bool false)), []⟩,
  .s ⟨(some 80), .mv (.t 79), []⟩,
  .g 80 true [⟨(some 81), .mv (.t 15), []⟩,
   ⟨(some 82), .bin .eql (.t 81) (.c (.int .i64 1)), []⟩],
  .s ⟨(some 83), .pick (.t 80) (.t 82) (.c (.bool false)), []⟩,
  .s ⟨(some 84), .mv (.t 83), []⟩,
  .g 84 true [⟨(some 85), .mv (.t 16), []⟩,
   ⟨(some 86), .bin .eql (.t 85) (.c (.int .i64 2)), []⟩],
  .s ⟨(some 87), .pick (.t 84) (.t 86) (.c (.bool false)), []⟩,
  .s ⟨(some 88), .mv (.t 87), []⟩,
  .g 88 true [⟨(some 89), .mv (.t 9), []⟩,
   ⟨(some 90), .bin .eql (.t 89) (.c (.int .i64 258)), []⟩],
  .s ⟨(some 91), .pick (.t 88) (.t 90) (.c (.bool false)), []⟩,
  .s ⟨(some 92), .mv (.t 91), []⟩,
  .g 92 true [⟨(some 93), .mv (.t 12), []⟩,
   ⟨(some 94), .bin .eql (.t 93) (.c (.string ⟨#[97, 98]⟩)), []⟩],
  .s ⟨(some 95), .pick (.t 92) (.t 94) (.c (.bool false)), []⟩,
  .s ⟨(some 96), .mv (.t 95), []⟩,
  .g 96 true [⟨(some 97), .mv (.t 3), []⟩,
   ⟨(some 98), .lenL (.t 97), []⟩,
   ⟨(some 99), .bin .eql (.t 98) (.c (.int .i64 7)), []⟩],
  .s ⟨(some 100), .pick (.t 96) (.t 99) (.c (.bool false)), []⟩,
  .s ⟨(some 101), .mv (.t 100), []⟩,
  .g 101 true [⟨(some 102), .mv (.t 13), []⟩,
   ⟨(some 103), .bin .eql (.t 102) (.c (.int .i64 7)), []⟩],
  .s ⟨(some 104), .pick (.t 101) (.t 103) (.c (.bool false)), []⟩,
  .s ⟨(some 0), .mv (.t 104), []⟩])
 .ret))))))))))⟩
theorem s30 : slimF Try.prog Try.f30 = some a30.fn := by kernel_rfl
def a31 : XFun := ⟨25, [.t 2],
 (.seq (.reg [.s ⟨(some 2), .mv (.c (.slice none 0 0)), []⟩])
 (.seq (.reg [.s ⟨(some 5), .mv (.t 0), []⟩,
  .s ⟨(some 6), .lenL (.t 5), []⟩,
  .s ⟨(some 7), .mv (.t 0), []⟩,
  .s ⟨(some 8), .lenL (.t 7), []⟩,
  .s ⟨(some 9), .bin .add (.t 8) (.c (.int .i64 40)), []⟩,
  .s ⟨(some 10), .mkslice 5 1 1 [(.int .u8 0)] (.t 6) (.t 9), []⟩,
  .s ⟨(some 3), .mv (.t 10), []⟩])
 (.seq (.seq (.reg [.s ⟨(some 4), .mv (.c (.int .i64 0)), []⟩])
 (.block 0 (.loop (.seq (.seq (.reg [.s ⟨(some 11), .mv (.t 4), []⟩,
  .s ⟨(some 12), .mv (.t 0), []⟩,
  .s ⟨(some 13), .lenL (.t 12), []⟩,
  .s ⟨(some 14), .bin .lss (.t 11) (.t 13), []⟩])
 (.cond (.t 14) .skip
 (.exit 0)))
 (.seq (.block 1 (.reg [.s ⟨(some 17), .mv (.t 3), []⟩,
  .s ⟨(some 18), .mv (.t 4), []⟩,
  .s ⟨(some 19), .mv (.t 0), []⟩,
  .s ⟨(some 20), .mv (.t 4), []⟩,
  .s ⟨(some 21), .idx 1 (.t 19) (.t 20), []⟩,
  .s ⟨(some 22), .load false 1 (.t 21), []⟩,
  .s ⟨(some 23), .idx 1 (.t 17) (.t 18), []⟩,
  .s ⟨none, .store 1 (.t 23) (.t 22), []⟩]))
 (.reg [.s ⟨(some 15), .mv (.t 4), []⟩,
  .s ⟨(some 16), .bin .add (.t 15) (.c (.int .i64 1)), []⟩,
  .s ⟨(some 4), .mv (.t 16), []⟩]))))))
 (.seq (.reg [.s ⟨(some 24), .mv (.t 3), []⟩,
  .s ⟨(some 2), .mv (.t 24), []⟩])
 .ret))))⟩
theorem s31 : slimF Try.prog Try.f31 = some a31.fn := by kernel_rfl
def a32 : XFun := ⟨22, [.t 4, .t 5, .t 6],
 (.seq (.reg [.s ⟨(some 4), .mv (.c (.int .u8 0)), []⟩,
  .s ⟨(some 5), .mv (.c (.int .i64 0)), []⟩,
  .s ⟨(some 6), .mv (.c (.int .i64 0)), []⟩])
 (.seq (.reg [.s ⟨(some 9), .mv (.t 0), []⟩,
  .s ⟨(some 10), .mv (.t 1), []⟩,
  .s ⟨(some 11), .call 57 [(.t 9), (.t 10), (.c (.int .i64 1))], []⟩,
  .s ⟨(some 8), .mv (.t 11), []⟩,
  .s ⟨(some 12), .ext 0 (.t 8), []⟩,
  .s ⟨(some 13), .ext 1 (.t 8), []⟩,
  .s ⟨(some 14), .ext 2 (.t 8), []⟩,
  .s ⟨(some 7), .mv (.t 12), []⟩,
  .s ⟨(some 5), .mv (.t 13), []⟩,
  .s ⟨(some 6), .mv (.t 14), []⟩])
 (.seq (.seq (.reg [.s ⟨(some 15), .mv (.t 6), []⟩,
  .s ⟨(some 16), .bin .neq (.t 15) (.c (.int .i64 0)), []⟩])
 (.cond (.t 16) (.seq (.reg [.s ⟨(some 17), .mv (.t 6), []⟩,
  .s ⟨(some 4), .mv (.c (.int .u8 0)), []⟩,
  .s ⟨(some 5), .mv (.c (.int .i64 0)), []⟩,
  .s ⟨(some 6), .mv (.t 17), []⟩])
 .ret)
 .skip))
 (.seq (.reg [.s ⟨(some 18), .mv (.t 7), []⟩,
  .s ⟨(some 19), .idx 1 (.t 18) (.c (.int .i64 0)), []⟩,
  .s ⟨(some 20), .load false 1 (.t 19), []⟩,
  .s ⟨(some 21), .mv (.t 5), []⟩,
  .s ⟨(some 4), .mv (.t 20), []⟩,
  .s ⟨(some 5), .mv (.t 21), []⟩,
  .s ⟨(some 6), .mv (.c (.int .i64 0)), []⟩])
 .ret))))⟩
theorem s32 : slimF Try.prog Try.f32 = some a32.fn := by kernel_rfl
def a34 : XFun := ⟨32, [.t 4, .t 5, .t 6],
 (.seq (.reg [.s ⟨(some 4), .mv (.c (.int .i64 0)), []⟩,
  .s ⟨(some 5), .mv (.c (.int .i64 0)), []⟩,
  .s ⟨(some 6), .mv (.c (.int .i64 0)), []⟩])
 (.seq (.reg [.s ⟨(some 11), .mv (.t 0), []⟩,
  .s ⟨(some 12), .mv (.t 1), []⟩,
  .s ⟨(some 13), .call 57 [(.t 11), (.t 12), (.c (.int .i64 3))], []⟩,
  .s ⟨(some 10), .mv (.t 13), []⟩,
  .s ⟨(some 14), .ext 0 (.t 10), []⟩,
  .s ⟨(some 15), .ext 1 (.t 10), []⟩,
  .s ⟨(some 16), .ext 2 (.t 10), []⟩,
  .s ⟨(some 7), .mv (.t 14), []⟩,
  .s ⟨(some 5), .mv (.t 15), []⟩,
  .s ⟨(some 6), .mv (.t 16), []⟩])
 (.seq (.seq (.reg [.s ⟨(some 17), .mv (.t 7), []⟩,
  .s ⟨(some 18), .lenL (.t 17), []⟩,
  .s ⟨(some 19), .mv (.c (.int .i64 0)), []⟩])
 (.block 0 (.loop (.seq (.reg [.s ⟨(some 20), .bin .lss (.t 19) (.t 18), []⟩])
 (.seq (.cond (.t 20) .skip
 (.exit 0))
 (.seq (.block 1 (.seq (.reg [.s ⟨(some 21), .idx 1 (.t 17) (.t 19), []⟩,
  .s ⟨(some 22), .load false 1 (.t 21), []⟩,
  .s ⟨(some 9), .mv (.t 22), []⟩])
 (.reg [.s ⟨(some 23), .mv (.t 4), []⟩,
  .s ⟨(some 24), .bin .shl (.t 23) (.c (.int .u64 8)), []⟩,
  .s ⟨(some 25), .mv (.t 9), []⟩,
  .s ⟨(some 26), .cint .i64 (.t 25), []⟩,
  .s ⟨(some 27), .bin .or (.t 24) (.t 26), []⟩,
  .s ⟨(some 4), .mv (.t 27), []⟩])))
 (.reg [.s ⟨(some 28), .bin .add (.t 19) (.c (.int .i64 1)), []⟩,
  .s ⟨(some 19), .mv (.t 28), []⟩])))))))
 (.seq (.reg [.s ⟨(some 29), .mv (.t 4), []⟩,
  .s ⟨(some 30), .mv (.t 5), []⟩,
  .s ⟨(some 31), .mv (.t 6), []⟩,
  .s ⟨(some 4), .mv (.t 29), []⟩,
  .s ⟨(some 5), .mv (.t 30), []⟩,
  .s ⟨(some 6), .mv (.t 31), []⟩])
 .ret))))⟩
theorem s34 : slimF Try.prog Try.f34 = some a34.fn := by kernel_rfl
def a36 : XFun := ⟨32, [.t 4, .t 5, .t 6],
 (.seq (.reg [.s ⟨(some 4), .mv (.c (.string ⟨#[]⟩)), []⟩,
  .s ⟨(some 5), .mv (.c (.int .i64 0)), []⟩,
  .s ⟨(some 6), .mv (.c (.int .i64 0)), []⟩])
 (.seq (.reg [.s ⟨(some 10), .mv (.t 0), []⟩,
  .s ⟨(some 11), .mv (.t 1), []⟩,
  .s ⟨(some 12), .call 32 [(.t 10), (.t 11)], []⟩,
  .s ⟨(some 9), .mv (.t 12), []⟩,
  .s ⟨(some 13), .ext 0 (.t 9), []⟩,
  .s ⟨(some 14), .ext 1 (.t 9), []⟩,
  .s ⟨(some 15), .ext 2 (.t 9), []⟩,
  .s ⟨(some 7), .mv (.t 13), []⟩,
  .s ⟨(some 5), .mv (.t 14), []⟩,
  .s ⟨(some 6), .mv (.t 15), []⟩])
 (.seq (.seq (.reg [.s ⟨(some 16), .mv (.t 6), []⟩,
  .s ⟨(some 17), .bin .neq (.t 16) (.c (.int .i64 0)), []⟩])
 (.cond (.t 17) (.seq (.reg [.s ⟨(some 18), .mv (.t 6), []⟩,
  .s ⟨(some 4), .mv (.c (.string ⟨#[]⟩)), []⟩,
  .s ⟨(some 5), .mv (.c (.int .i64 0)), []⟩,
  .s ⟨(some 6), .mv (.t 18), []⟩])
 .ret)
 .skip))
 (.seq (.reg [.s ⟨(some 20), .mv (.t 0), []⟩,
  .s ⟨(some 21), .mv (.t 5), []⟩,
  .s ⟨(some 22), .mv (.t 7), []⟩,
  .s ⟨(some 23), .cint .i64 (.t 22), []⟩,
  .s ⟨(some 24), .call 57 [(.t 20), (.t 21), (.t 23)], []⟩,
  .s ⟨(some 19), .mv (.t 24), []⟩,
  .s ⟨(some 25), .ext 0 (.t 19), []⟩,
  .s ⟨(some 26), .ext 1 (.t 19), []⟩,
  .s ⟨(some 27), .ext 2 (.t 19), []⟩,
  .s ⟨(some 8), .mv (.t 25), []⟩,
  .s ⟨(some 5), .mv (.t 26), []⟩,
  .s ⟨(some 6), .mv (.t 27), []⟩])
 (.seq (.reg [.s ⟨(some 28), .mv (.t 8), []⟩,
  .s ⟨(some 29), .tostr (.t 28), []⟩,
  .s ⟨(some 30), .mv (.t 5), []⟩,
  .s ⟨(some 31), .mv (.t 6), []⟩,
  .s ⟨(some 4), .mv (.t 29), []⟩,
  .s ⟨(some 5), .mv (.t 30), []⟩,
  .s ⟨(some 6), .mv (.t 31), []⟩])
 .ret)))))⟩
theorem s36 : slimF Try.prog Try.f36 = some a36.fn := by kernel_rfl
def a39 : XFun := ⟨30, [.t 4, .t 5],
 (.seq (.reg [.s ⟨(some 4), .mv (.c (.slice none 0 0)), []⟩,
  .s ⟨(some 5), .mv (.c (.int .i64 0)), []⟩])
 (.seq (.seq (.reg [.s ⟨(some 8), .mv (.t 1), []⟩,
  .s ⟨(some 9), .bin .lss (.t 8) (.c (.int .i64 0)), []⟩,
  .s ⟨(some 10), .mv (.t 9), []⟩,
  .g 10 false [⟨(some 11), .mv (.t 1), []⟩,
   ⟨(some 12), .bin .geq (.t 11) (.c (.int .i64 16777216)), []⟩],
  .s ⟨(some 13), .pick (.t 10) (.c (.bool true)) (.t 12), []⟩])
 (.cond (.t 13) (.seq (.reg [.s ⟨(some 4), .mv (.c (.slice none 0 0)), []⟩,
  .s ⟨(some 5), .mv (.c (.int .i64 1)), []⟩])
 .ret)
 .skip))
 (.seq (.reg [.s ⟨(some 6), .alloc 79 [(.int .u8 0), (.int .u8 0), (.int .u8 0)], []⟩])
 (.seq (.seq (.reg [.s ⟨(some 14), .mv (.c (.int .i64 0)), []⟩])
 (.block 0 (.loop (.seq (.reg [.s ⟨(some 15), .bin .lss (.t 14) (.c (.int .i64 3)), []⟩])
 (.seq (.cond (.t 15) .skip
 (.exit 0))
 (.seq (.block 1 (.seq (.reg [.s ⟨(some 16), .mv (.t 14), []⟩,
  .s ⟨(some 7), .mv (.t 16), []⟩])
 (.reg [.s ⟨(some 17), .mv (.t 7), []⟩,
  .s ⟨(some 18), .bin .sub (.c (.int .i64 2)) (.t 17), []⟩,
  .s ⟨(some 19), .mv (.t 1), []⟩,
  .s ⟨(some 20), .mv (.t 7), []⟩,
  .s ⟨(some 21), .bin .mul (.c (.int .i64 8)) (.t 20), []⟩,
  .s ⟨(some 22), .bin .shr (.t 19) (.t 21), []⟩,
  .s ⟨(some 23), .cint .u8 (.t 22), []⟩,
  .s ⟨(some 24), .aaddr 3 1 (.t 6) (.t 18), []⟩,
  .s ⟨none, .store 1 (.t 24) (.t 23), []⟩])))
 (.reg [.s ⟨(some 25), .bin .add (.t 14) (.c (.int .i64 1)), []⟩,
  .s ⟨(some 14), .mv (.t 25), []⟩])))))))
 (.seq (.reg [.s ⟨(some 26), .mv (.t 0), []⟩,
  .s ⟨(some 27), .slcA 3 1 (.t 6) none none none, []⟩,
  .s ⟨(some 28), .bslice 22 2 [(.slice none 0 0), (.slice none 0 0)] [(0, 1, (.t 26)), (1, 1, (.t 27))], []⟩,
  .s ⟨(some 29), .call 59 [(.t 28)], []⟩,
  .s ⟨(some 4), .mv (.t 29), []⟩,
  .s ⟨(some 5), .mv (.c (.int .i64 0)), []⟩])
 .ret)))))⟩
theorem s39 : slimF Try.prog Try.f39 = some a39.fn := by kernel_rfl
def a41 : XFun := ⟨18, [.t 4, .t 5],
 (.seq (.reg [.s ⟨(some 4), .mv (.c (.slice none 0 0)), []⟩,
  .s ⟨(some 5), .mv (.c (.int .i64 0)), []⟩])
 (.seq (.seq (.reg [.s ⟨(some 6), .mv (.t 1), []⟩,
  .s ⟨(some 7), .lenS (.t 6), []⟩,
  .s ⟨(some 8), .bin .gtr (.t 7) (.c (.int .i64 255)), []⟩])
 (.cond (.t 8) (.seq (.reg [.s ⟨(some 4), .mv (.c (.slice none 0 0)), []⟩,
  .s ⟨(some 5), .mv (.c (.int .i64 1)), []⟩])
 .ret)
 .skip))
 (.seq (.reg [.s ⟨(some 9), .mv (.t 0), []⟩,
  .s ⟨(some 10), .mv (.t 1), []⟩,
  .s ⟨(some 11), .lenS (.t 10), []⟩,
  .s ⟨(some 12), .cint .u8 (.t 11), []⟩,
  .s ⟨(some 13), .bslice 5 1 [(.int .u8 0)] [(0, 1, (.t 12))], []⟩,
  .s ⟨(some 14), .mv (.t 1), []⟩,
  .s ⟨(some 15), .tobytes 5 (.t 14), []⟩,
  .s ⟨(some 16), .bslice 22 3 [(.slice none 0 0), (.slice none 0 0), (.slice none 0 0)] [(0, 1, (.t 9)), (1, 1, (.t 13)), (2, 1, (.t 15))], []⟩,
  .s ⟨(some 17), .call 59 [(.t 16)], []⟩,
  .s ⟨(some 4), .mv (.t 17), []⟩,
  .s ⟨(some 5), .mv (.c (.int .i64 0)), []⟩])
 .ret)))⟩
theorem s41 : slimF Try.prog Try.f41 = some a41.fn := by kernel_rfl
def a43 : XFun := ⟨52, [.t 4, .t 5],
 (.seq (.reg [.s ⟨(some 3), .box 58 (.t 1), []⟩,
  .s ⟨(some 4), .mv (.c (.slice none 0 0)), []⟩,
  .s ⟨(some 5), .mv (.c (.bool false)), []⟩])
 (.seq (.seq (.reg [.s ⟨(some 12), .faddr 0 (.t 3), []⟩,
  .s ⟨(some 13), .load false 1 (.t 12), []⟩,
  .s ⟨(some 14), .bin .rem (.t 13) (.c (.int .u8 3)), []⟩])
 (.block 0 (.seq (.reg [.s ⟨(some 16), .bin .eql (.t 14) (.c (.int .u8 0)), []⟩,
  .s ⟨(some 15), .mv (.t 16), []⟩])
 (.cond (.t 15) (.seq (.reg [.s ⟨(some 18), .faddr 1 (.t 3), []⟩,
  .s ⟨(some 19), .load false 1 (.t 18), []⟩,
  .s ⟨(some 20), .faddr 2 (.t 3), []⟩,
  .s ⟨(some 21), .load false 1 (.t 20), []⟩,
  .s ⟨(some 22), .call 27 [(.t 19), (.t 21)], []⟩,
  .s ⟨(some 17), .mv (.t 22), []⟩,
  .s ⟨(some 23), .ext 0 (.t 17), []⟩,
  .s ⟨(some 24), .ext 1 (.t 17), []⟩,
  .s ⟨(some 6), .mv (.t 23), []⟩,
  .s ⟨(some 7), .mv (.t 24), []⟩])
 (.seq (.reg [.s ⟨(some 25), .mv (.t 0), []⟩,
  .s ⟨(some 26), .mv (.t 6), []⟩,
  .s ⟨(some 27), .bslice 5 1 [(.int .u8 0)] [(0, 1, (.t 26))], []⟩,
  .s ⟨(some 28), .app 5 1 1 (.t 25) (.t 27), []⟩,
  .s ⟨(some 29), .mv (.t 7), []⟩,
  .s ⟨(some 4), .mv (.t 28), []⟩,
  .s ⟨(some 5), .mv (.t 29), []⟩])
 .ret))
 (.seq (.reg [.s ⟨(some 31), .bin .eql (.t 14) (.c (.int .u8 1)), []⟩,
  .s ⟨(some 30), .mv (.t 31), []⟩])
 (.cond (.t 30) (.seq (.reg [.s ⟨(some 33), .mv (.t 0), []⟩,
  .s ⟨(some 34), .faddr 3 (.t 3), []⟩,
  .s ⟨(some 35), .load false 1 (.t 34), []⟩,
  .s ⟨(some 36), .call 39 [(.t 33), (.t 35)], []⟩,
  .s ⟨(some 32), .mv (.t 36), []⟩,
  .s ⟨(some 37), .ext 0 (.t 32), []⟩,
  .s ⟨(some 38), .ext 1 (.t 32), []⟩,
  .s ⟨(some 8), .mv (.t 37), []⟩,
  .s ⟨(some 9), .mv (.t 38), []⟩])
 (.seq (.reg [.s ⟨(some 39), .mv (.t 8), []⟩,
  .s ⟨(some 40), .mv (.t 9), []⟩,
  .s ⟨(some 41), .bin .eql (.t 40) (.c (.int .i64 0)), []⟩,
  .s ⟨(some 4), .mv (.t 39), []⟩,
  .s ⟨(some 5), .mv (.t 41), []⟩])
 .ret))
 .skip))))))
 (.seq (.reg [.s ⟨(some 43), .mv (.t 0), []⟩,
  .s ⟨(some 44), .faddr 4 (.t 3), []⟩,
  .s ⟨(some 45), .load false 1 (.t 44), []⟩,
  .s ⟨(some 46), .call 41 [(.t 43), (.t 45)], []⟩,
  .s ⟨(some 42), .mv (.t 46), []⟩,
  .s ⟨(some 47), .ext 0 (.t 42), []⟩,
  .s ⟨(some 48), .ext 1 (.t 42), []⟩,
  .s ⟨(some 10), .mv (.t 47), []⟩,
  .s ⟨(some 11), .mv (.t 48), []⟩])
 (.seq (.reg [.s ⟨(some 49), .mv (.t 10), []⟩,
  .s ⟨(some 50), .mv (.t 11), []⟩,
  .s ⟨(some 51), .bin .eql (.t 50) (.c (.int .i64 0)), []⟩,
  .s ⟨(some 4), .mv (.t 49), []⟩,
  .s ⟨(some 5), .mv (.t 51), []⟩])
 .ret))))⟩
theorem s43 : slimF Try.prog Try.f43 = some a43.fn := by kernel_rfl
def a44 : XFun := ⟨85, [.t 6, .t 7],
 (.seq (.reg [.s ⟨(some 5), .box 58 (.t 2), []⟩,
  .s ⟨(some 6), .mv (.c (.int .i64 0)), []⟩,
  .s ⟨(some 7), .mv (.c (.bool false)), []⟩])
 (.seq (.seq (.reg [.s ⟨(some 19), .faddr 0 (.t 5), []⟩,
  .s ⟨(some 20), .load false 1 (.t 19), []⟩,
  .s ⟨(some 21), .bin .rem (.t 20) (.c (.int .u8 3)), []⟩])
 (.block 0 (.seq (.reg [.s ⟨(some 23), .bin .eql (.t 21) (.c (.int .u8 0)), []⟩,
  .s ⟨(some 22), .mv (.t 23), []⟩])
 (.cond (.t 22) (.seq (.reg [.s ⟨(some 25), .mv (.t 0), []⟩,
  .s ⟨(some 26), .mv (.t 1), []⟩,
  .s ⟨(some 27), .call 32 [(.t 25), (.t 26)], []⟩,
  .s ⟨(some 24), .mv (.t 27), []⟩,
  .s ⟨(some 28), .ext 0 (.t 24), []⟩,
  .s ⟨(some 29), .ext 1 (.t 24), []⟩,
  .s ⟨(some 30), .ext 2 (.t 24), []⟩,
  .s ⟨(some 8), .mv (.t 28), []⟩,
  .s ⟨(some 9), .mv (.t 29), []⟩,
  .s ⟨(some 10), .mv (.t 30), []⟩])
 (.seq (.reg [.s ⟨(some 32), .mv (.t 8), []⟩,
  .s ⟨(some 33), .call 29 [(.t 32)], []⟩,
  .s ⟨(some 31), .mv (.t 33), []⟩,
  .s ⟨(some 34), .ext 0 (.t 31), []⟩,
  .s ⟨(some 35), .ext 1 (.t 31), []⟩,
  .s ⟨(some 11), .mv (.t 34), []⟩,
  .s ⟨(some 12), .mv (.t 35), []⟩])
 (.seq (.par [.s ⟨(some 36), .mv (.t 9), []⟩,
  .s ⟨(some 37), .mv (.t 10), []⟩,
  .s ⟨(some 38), .bin .eql (.t 37) (.c (.int .i64 0)), []⟩,
  .s ⟨(some 39), .mv (.t 38), []⟩,
  .g 39 true [⟨(some 40), .mv (.t 11), []⟩,
   ⟨(some 41), .faddr 1 (.t 5), []⟩,
   ⟨(some 42), .load false 1 (.t 41), []⟩,
   ⟨(some 43), .bin .eql (.t 40) (.t 42), []⟩],
  .s ⟨(some 44), .pick (.t 39) (.t 43) (.c (.bool false)), []⟩,
  .s ⟨(some 45), .mv (.t 44), []⟩,
  .g 45 true [⟨(some 46), .mv (.t 12), []⟩,
   ⟨(some 47), .faddr 2 (.t 5), []⟩,
   ⟨(some 48), .load false 1 (.t 47), []⟩,
   ⟨(some 49), .bin .eql (.t 46) (.t 48), []⟩],
  .s ⟨(some 50), .pick (.t 45) (.t 49) (.c (.bool false)), []⟩,
  .s ⟨(some 6), .mv (.t 36), []⟩,
  .s ⟨(some 7), .mv (.t 50), []⟩])
 .ret)))
 (.seq (.reg [.s ⟨(some 52), .bin .eql (.t 21) (.c (.int .u8 1)), []⟩,
  .s ⟨(some 51), .mv (.t 52), []⟩])
 (.cond (.t 51) (.seq (.reg [.s ⟨(some 54), .mv (.t 0), []⟩,
  .s ⟨(some 55), .mv (.t 1), []⟩,
  .s ⟨(some 56), .call 34 [(.t 54), (.t 55)], []⟩,
  .s ⟨(some 53), .mv (.t 56), []⟩,
  .s ⟨(some 57), .ext 0 (.t 53), []⟩,
  .s ⟨(some 58), .ext 1 (.t 53), []⟩,
  .s ⟨(some 59), .ext 2 (.t 53), []⟩,
  .s ⟨(some 13), .mv (.t 57), []⟩,
  .s ⟨(some 14), .mv (.t 58), []⟩,
  .s ⟨(some 15), .mv (.t 59), []⟩])
 (.seq (.par [.s ⟨(some 60), .mv (.t 14), []⟩,
  .s ⟨(some 61), .mv (.t 15), []⟩,
  .s ⟨(some 62), .bin .eql (.t 61) (.c (.int .i64 0)), []⟩,
  .s ⟨(some 63), .mv (.t 62), []⟩,
  .g 63 true [⟨(some 64), .mv (.t 13), []⟩,
   ⟨(some 65), .faddr 3 (.t 5), []⟩,
   ⟨(some 66), .load false 1 (.t 65), []⟩,
   ⟨(some 67), .bin .eql (.t 64) (.t 66), []⟩],
  .s ⟨(some 68), .pick (.t 63) (.t 67) (.c (.bool false)), []⟩,
  .s ⟨(some 6), .mv (.t 60), []⟩,
  .s ⟨(some 7), .mv (.t 68), []⟩])
 .ret))
 .skip))))))
 (.seq (.reg [.s ⟨(some 70), .mv (.t 0), []⟩,
  .s ⟨(some 71), .mv (.t 1), []⟩,
  .s ⟨(some 72), .call 36 [(.t 70), (.t 71)], []⟩,
  .s ⟨(some 69), .mv (.t 72), []⟩,
  .s ⟨(some 73), .ext 0 (.t 69), []⟩,
  .s ⟨(some 74), .ext 1 (.t 69), []⟩,
  .s ⟨(some 75), .ext 2 (.t 69), []⟩,
  .s ⟨(some 16), .mv (.t 73), []⟩,
  .s ⟨(some 17), .mv (.t 74), []⟩,
  .s ⟨(some 18), .mv (.t 75), []⟩])
 (.seq (.par [.s ⟨(some 76), .mv (.t 17), []⟩,
  .s ⟨(some 77), .mv (.t 18), []⟩,
  .s ⟨(some 78), .bin .eql (.t 77) (.c (.int .i64 0)), []⟩,
  .s ⟨(some 79), .mv (.t 78), []⟩,
  .g 79 true [⟨(some 80), .mv (.t 16), []⟩,
   ⟨(some 81), .faddr 4 (.t 5), []⟩,
   ⟨(some 82), .load false 1 (.t 81), []⟩,
   ⟨(some 83), .bin .eql (.t 80) (.t 82), []⟩],
  .s ⟨(some 84), .pick (.t 79) (.t 83) (.c (.bool false)), []⟩,
  .s ⟨(some 6), .mv (.t 76), []⟩,
  .s ⟨(some 7), .mv (.t 84), []⟩])
 .ret))))⟩
theorem s44 : slimF Try.prog Try.f44 = some a44.fn := by kernel_rfl
def a57 : XFun := ⟨31, [.t 6, .t 7, .t 8],
 (.seq (.reg [.s ⟨(some 6), .mv (.c (.slice none 0 0)), []⟩,
  .s ⟨(some 7), .mv (.c (.int .i64 0)), []⟩,
  .s ⟨(some 8), .mv (.c (.int .i64 0)), []⟩])
 (.seq (.seq (.reg [.s ⟨(some 10), .mv (.t 1), []⟩,
  .s ⟨(some 11), .bin .lss (.t 10) (.c (.int .i64 0)), []⟩,
  .s ⟨(some 12), .mv (.t 11), []⟩,
  .g 12 false [⟨(some 13), .mv (.t 1), []⟩,
   ⟨(some 14), .mv (.t 0), []⟩,
   ⟨(some 15), .lenL (.t 14), []⟩,
   ⟨(some 16), .bin .gtr (.t 13) (.t 15), []⟩],
  .s ⟨(some 17), .pick (.t 12) (.c (.bool true)) (.t 16), []⟩])
 (.cond (.t 17) (.seq (.reg [.s ⟨(some 6), .mv (.c (.slice none 0 0)), []⟩,
  .s ⟨(some 7), .mv (.c (.int .i64 0)), []⟩,
  .s ⟨(some 8), .mv (.c (.int .i64 1)), []⟩])
 .ret)
 .skip))
 (.seq (.seq (.reg [.s ⟨(some 18), .mv (.t 0), []⟩,
  .s ⟨(some 19), .mv (.t 1), []⟩,
  .s ⟨(some 20), .slc 1 (.t 18) (some (.t 19)) none none, []⟩,
  .s ⟨(some 9), .mv (.t 20), []⟩])
 (.seq (.reg [.s ⟨(some 21), .mv (.t 9), []⟩,
  .s ⟨(some 22), .lenL (.t 21), []⟩,
  .s ⟨(some 23), .mv (.t 2), []⟩,
  .s ⟨(some 24), .bin .geq (.t 22) (.t 23), []⟩])
 (.cond (.t 24) (.seq (.reg [.s ⟨(some 25), .mv (.t 9), []⟩,
  .s ⟨(some 26), .mv (.t 2), []⟩,
  .s ⟨(some 27), .slc 1 (.t 25) none (some (.t 26)) none, []⟩,
  .s ⟨(some 28), .mv (.t 1), []⟩,
  .s ⟨(some 29), .mv (.t 2), []⟩,
  .s ⟨(some 30), .bin .add (.t 28) (.t 29), []⟩,
  .s ⟨(some 6), .mv (.t 27), []⟩,
  .s ⟨(some 7), .mv (.t 30), []⟩,
  .s ⟨(some 8), .mv (.c (.int .i64 0)), []⟩])
 .ret)
 .skip)))
 (.seq (.reg [.s ⟨(some 6), .mv (.c (.slice none 0 0)), []⟩,
  .s ⟨(some 7), .mv (.c (.int .i64 0)), []⟩,
  .s ⟨(some 8), .mv (.c (.int .i64 5)), []⟩])
 .ret))))⟩
theorem s57 : slimF Try.prog Try.f57 = some a57.fn := by kernel_rfl
def a58 : XFun := ⟨21, [.t 6],
 (.seq (.reg [.s ⟨(some 6), .mv (.c (.int .i64 0)), []⟩])
 (.seq (.seq (.reg [.s ⟨(some 7), .mv (.t 1), []⟩,
  .s ⟨(some 8), .bin .lss (.t 7) (.c (.int .i64 0)), []⟩,
  .s ⟨(some 9), .mv (.t 8), []⟩,
  .g 9 false [⟨(some 10), .mv (.t 1), []⟩,
   ⟨(some 11), .mv (.t 0), []⟩,
   ⟨(some 12), .lenL (.t 11), []⟩,
   ⟨(some 13), .bin .gtr (.t 10) (.t 12), []⟩],
  .s ⟨(some 14), .pick (.t 9) (.c (.bool true)) (.t 13), []⟩])
 (.cond (.t 14) (.seq (.reg [.s ⟨(some 6), .mv (.c (.int .i64 1)), []⟩])
 .ret)
 .skip))
 (.seq (.seq (.reg [.s ⟨(some 15), .mv (.t 0), []⟩,
  .s ⟨(some 16), .lenL (.t 15), []⟩,
  .s ⟨(some 17), .mv (.t 1), []⟩,
  .s ⟨(some 18), .bin .sub (.t 16) (.t 17), []⟩,
  .s ⟨(some 19), .mv (.t 2), []⟩,
  .s ⟨(some 20), .bin .lss (.t 18) (.t 19), []⟩])
 (.cond (.t 20) (.seq (.reg [.s ⟨(some 6), .mv (.c (.int .i64 5)), []⟩])
 .ret)
 .skip))
 (.seq (.reg [.s ⟨(some 6), .mv (.c (.int .i64 0)), []⟩])
 .ret))))⟩
def a59 : XFun := ⟨36, [.t 2],
 (.seq (.reg [.s ⟨(some 2), .mv (.c (.slice none 0 0)), []⟩])
 (.seq (.reg [.s ⟨(some 3), .mv (.c (.int .i64 0)), []⟩])
 (.seq (.seq (.reg [.s ⟨(some 9), .mv (.t 0), []⟩,
  .s ⟨(some 10), .lenL (.t 9), []⟩,
  .s ⟨(some 11), .mv (.c (.int .i64 0)), []⟩])
 (.block 0 (.loop (.seq (.reg [.s ⟨(some 12), .bin .lss (.t 11) (.t 10), []⟩])
 (.seq (.cond (.t 12) .skip
 (.exit 0))
 (.seq (.block 1 (.seq (.reg [.s ⟨(some 13), .idx 1 (.t 9) (.t 11), []⟩,
  .s ⟨(some 14), .load false 1 (.t 13), []⟩,
  .s ⟨(some 5), .mv (.t 14), []⟩])
 (.seq (.reg [.s ⟨(some 15), .mv (.t 3), []⟩,
  .s ⟨(some 16), .mv (.t 5), []⟩,
  .s ⟨(some 17), .lenL (.t 16), []⟩,
  .s ⟨(some 18), .bin .add (.t 15) (.t 17), []⟩,
  .s ⟨(some 3), .mv (.t 18), []⟩])
 (.seq (.reg [.s ⟨(some 19), .mv (.t 3), []⟩,
  .s ⟨(some 20), .bin .lss (.t 19) (.c (.int .i64 0)), []⟩])
 (.cond (.t 20) (.reg [.s ⟨(some 21), .mkif 9 (.c (.string ⟨#[108, 101, 110, 32, 111, 117, 116, 32, 111, 102, 32, 114, 97, 110, 103, 101]⟩)), []⟩,
  .s ⟨none, .pan (.t 21), []⟩])
 .skip)))))
 (.reg [.s ⟨(some 22), .bin .add (.t 11) (.c (.int .i64 1)), []⟩,
  .s ⟨(some 11), .mv (.t 22), []⟩])))))))
 (.seq (.reg [.s ⟨(some 23), .mv (.t 3), []⟩,
  .s ⟨(some 24), .call 62 [(.c (.slice none 0 0)), (.t 23)], []⟩,
  .s ⟨(some 6), .mv (.t 24), []⟩])
 (.seq (.seq (.reg [.s ⟨(some 25), .mv (.t 0), []⟩,
  .s ⟨(some 26), .lenL (.t 25), []⟩,
  .s ⟨(some 27), .mv (.c (.int .i64 0)), []⟩])
 (.block 2 (.loop (.seq (.reg [.s ⟨(some 28), .bin .lss (.t 27) (.t 26), []⟩])
 (.seq (.cond (.t 28) .skip
 (.exit 2))
 (.seq (.block 3 (.seq (.reg [.s ⟨(some 29), .idx 1 (.t 25) (.t 27), []⟩,
  .s ⟨(some 30), .load false 1 (.t 29), []⟩,
  .s ⟨(some 8), .mv (.t 30), []⟩])
 (.reg [.s ⟨(some 31), .mv (.t 6), []⟩,
  .s ⟨(some 32), .mv (.t 8), []⟩,
  .s ⟨(some 33), .app 5 1 1 (.t 31) (.t 32), []⟩,
  .s ⟨(some 6), .mv (.t 33), []⟩])))
 (.reg [.s ⟨(some 34), .bin .add (.t 27) (.c (.int .i64 1)), []⟩,
  .s ⟨(some 27), .mv (.t 34), []⟩])))))))
 (.seq (.reg [.s ⟨(some 35), .mv (.t 6), []⟩,
  .s ⟨(some 2), .mv (.t 35), []⟩])
 .ret))))))⟩
theorem s59 : slimF Try.prog Try.f59 = some a59.fn := by kernel_rfl
def a62 : XFun := ⟨27, [.t 4],
 (.seq (.reg [.s ⟨(some 4), .mv (.c (.slice none 0 0)), []⟩])
 (.seq (.seq (.reg [.s ⟨(some 5), .mv (.t 1), []⟩,
  .s ⟨(some 6), .bin .lss (.t 5) (.c (.int .i64 0)), []⟩])
 (.cond (.t 6) (.reg [.s ⟨(some 7), .mkif 9 (.c (.string ⟨#[99, 97, 110, 110, 111, 116, 32, 98, 101, 32, 110, 101, 103, 97, 116, 105, 118, 101]⟩)), []⟩,
  .s ⟨none, .pan (.t 7), []⟩])
 .skip))
 (.seq (.seq (.reg [.s ⟨(some 8), .mv (.t 1), []⟩,
  .s ⟨(some 9), .mv (.t 0), []⟩,
  .s ⟨(some 10), .capL (.t 9), []⟩,
  .s ⟨(some 11), .mv (.t 0), []⟩,
  .s ⟨(some 12), .lenL (.t 11), []⟩,
  .s ⟨(some 13), .bin .sub (.t 10) (.t 12), []⟩,
  .s ⟨(some 14), .bin .sub (.t 8) (.t 13), []⟩,
  .s ⟨(some 1), .mv (.t 14), []⟩])
 (.seq (.reg [.s ⟨(some 15), .mv (.t 1), []⟩,
  .s ⟨(some 16), .bin .gtr (.t 15) (.c (.int .i64 0)), []⟩])
 (.cond (.t 16) (.reg [.s ⟨(some 17), .mv (.t 0), []⟩,
  .s ⟨(some 18), .mv (.t 0), []⟩,
  .s ⟨(some 19), .capL (.t 18), []⟩,
  .s ⟨(some 20), .slc 1 (.t 17) none (some (.t 19)) none, []⟩,
  .s ⟨(some 21), .mv (.t 1), []⟩,
  .s ⟨(some 22), .appz 5 1 1 [(.int .u8 0)] (.t 20) (.t 21), []⟩,
  .s ⟨(some 23), .mv (.t 0), []⟩,
  .s ⟨(some 24), .lenL (.t 23), []⟩,
  .s ⟨(some 25), .slc 1 (.t 22) none (some (.t 24)) none, []⟩,
  .s ⟨(some 0), .mv (.t 25), []⟩])
 .skip)))
 (.seq (.reg [.s ⟨(some 26), .mv (.t 0), []⟩,
  .s ⟨(some 4), .mv (.t 26), []⟩])
 .ret))))⟩
theorem s62 : slimF Try.prog Try.f62 = some a62.fn := by kernel_rfl
end Go.Proofs.Ytmcfgapknoiohaa
