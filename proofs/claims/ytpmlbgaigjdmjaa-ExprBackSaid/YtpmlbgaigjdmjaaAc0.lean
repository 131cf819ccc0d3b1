import Derived.Test.YtpmlbgaigjdmjaaAd
import Derived.Test.YtpmlbgaigjdmjaaProg
import Derived.KernelRfl
namespace Go.Proofs.Ytpmlbgaigjdmjaa
open Go.Ab
set_option linter.unusedVariables false
set_option linter.unusedSimpArgs false
theorem hm : Try.prog.follows .mixedOrders = true := by kernel_rfl
def a3 : XFun := ⟨89, [.t 4],
 (.seq (.reg [.s ⟨(some 4), .mv (.c (.bool false)), []⟩])
 (.seq (.seq (.reg [.s ⟨(some 13), .mv (.t 0), []⟩,
  .s ⟨(some 14), .lenL (.t 13), []⟩,
  .s ⟨(some 15), .bin .gtr (.t 14) (.c (.int .i64 4096)), []⟩,
  .s ⟨(some 16), .mv (.t 15), []⟩,
  .g 16 false [⟨(some 17), .mv (.t 1), []⟩,
   ⟨(some 18), .lenL (.t 17), []⟩,
   ⟨(some 19), .bin .gtr (.t 18) (.c (.int .i64 1000)), []⟩],
  .s ⟨(some 20), .pick (.t 16) (.c (.bool true)) (.t 19), []⟩])
 (.cond (.t 20) (.seq (.reg [.s ⟨(some 21), .call 7 [], []⟩,
  .s ⟨(some 4), .mv (.t 21), []⟩])
 .ret)
 .skip))
 (.seq (.reg [.s ⟨(some 22), .mv (.t 0), []⟩,
  .s ⟨(some 23), .call 8 [(.t 22)], []⟩,
  .s ⟨(some 5), .mv (.t 23), []⟩])
 (.seq (.reg [.s ⟨(some 24), .mv (.t 1), []⟩,
  .s ⟨(some 25), .call 9 [(.t 24)], []⟩,
  .s ⟨(some 6), .mv (.t 25), []⟩])
 (.seq (.reg [.s ⟨(some 27), .mv (.t 5), []⟩,
  .s ⟨(some 28), .mv (.t 6), []⟩,
  .s ⟨(some 29), .call 10 [(.t 27), (.t 28)], []⟩,
  .s ⟨(some 26), .mv (.t 29), []⟩,
  .s ⟨(some 30), .ext 0 (.t 26), []⟩,
  .s ⟨(some 31), .ext 1 (.t 26), []⟩,
  .s ⟨(some 7), .mv (.t 30), []⟩,
  .s ⟨(some 8), .mv (.t 31), []⟩])
 (.seq (.reg [.s ⟨(some 33), .mv (.t 5), []⟩,
  .s ⟨(some 34), .mv (.t 6), []⟩,
  .s ⟨(some 35), .call 10 [(.t 33), (.t 34)], []⟩,
  .s ⟨(some 32), .mv (.t 35), []⟩,
  .s ⟨(some 36), .ext 0 (.t 32), []⟩,
  .s ⟨(some 37), .ext 1 (.t 32), []⟩,
  .s ⟨(some 9), .mv (.t 36), []⟩,
  .s ⟨(some 10), .mv (.t 37), []⟩])
 (.seq (.reg [.s ⟨(some 39), .mv (.t 0), []⟩,
  .s ⟨(some 40), .mv (.t 1), []⟩,
  .s ⟨(some 41), .call 11 [(.t 39), (.t 40)], []⟩,
  .s ⟨(some 38), .mv (.t 41), []⟩,
  .s ⟨(some 42), .ext 0 (.t 38), []⟩,
  .s ⟨(some 43), .ext 1 (.t 38), []⟩,
  .s ⟨(some 11), .mv (.t 42), []⟩,
  .s ⟨(some 12), .mv (.t 43), []⟩])
 (.seq (.seq (.reg [.s ⟨(some 44), .mv (.t 8), []⟩,
  .s ⟨(some 45), .mv (.t 12), []⟩,
  .s ⟨(some 46), .bin .neq (.t 44) (.t 45), []⟩,
  .s ⟨(some 47), .mv (.t 46), []⟩,
  .g 47 false [⟨(some 48), .mv (.t 10), []⟩,
   ⟨(some 49), .mv (.t 12), []⟩,
   ⟨(some 50), .bin .neq (.t 48) (.t 49), []⟩],
  .s ⟨(some 51), .pick (.t 47) (.c (.bool true)) (.t 50), []⟩,
  .s ⟨(some 52), .mv (.t 51), []⟩,
  .g 52 false [⟨(some 53), .mv (.t 7), []⟩,
   ⟨(some 54), .mv (.t 11), []⟩,
   ⟨(some 55), .call 12 [(.t 53), (.t 54)], []⟩,
   ⟨(some 56), .un .not (.t 55), []⟩],
  .s ⟨(some 57), .pick (.t 52) (.c (.bool true)) (.t 56), []⟩,
  .s ⟨(some 58), .mv (.t 57), []⟩,
  .g 58 false [⟨(some 59), .mv (.t 5), []⟩,
   ⟨(some 60), .mv (.t 0), []⟩,
   ⟨(some 61), .call 13 [(.t 59), (.t 60)], []⟩,
   ⟨(some 62), .un .not (.t 61), []⟩],
  .s ⟨(some 63), .pick (.t 58) (.c (.bool true)) (.t 62), []⟩,
  .s ⟨(some 64), .mv (.t 63), []⟩,
  .g 64 false [⟨(some 65), .mv (.t 6), []⟩,
   ⟨(some 66), .mv (.t 1), []⟩,
   ⟨(some 67), .call 14 [(.t 65), (.t 66)], []⟩,
   ⟨(some 68), .un .not (.t 67), []⟩],
  .s ⟨(some 69), .pick (.t 64) (.c (.bool true)) (.t 68), []⟩,
  .s ⟨(some 70), .mv (.t 69), []⟩,
  .g 70 false [⟨(some 71), .mv (.t 6), []⟩,
   ⟨(some 72), .call 15 [(.t 71)], []⟩,
   ⟨(some 73), .mv (.t 1), []⟩,
   ⟨(some 74), .call 16 [(.t 73)], []⟩,
   ⟨(some 75), .beq true (.t 72) (.t 74), []⟩],
  .s ⟨(some 76), .pick (.t 70) (.c (.bool true)) (.t 75), []⟩])
 (.cond (.t 76) (.seq (.reg [.s ⟨(some 4), .mv (.c (.bool false)), []⟩])
 .ret)
 .skip))
 (.seq (.reg [.s ⟨(some 77), .mv (.t 8), []⟩,
  .s ⟨(some 78), .bin .neq (.t 77) (.c (.int .i64 0)), []⟩,
  .s ⟨(some 79), .mv (.t 78), []⟩,
  .g 79 false [⟨(some 80), .mv (.t 7), []⟩,
   ⟨(some 81), .mv (.t 9), []⟩,
   ⟨(some 82), .mv (.t 5), []⟩,
   ⟨(some 83), .bslice 22 3 [(.slice none 0 0), (.slice none 0 0), (.slice none 0 0)] [(0, 1, (.t 80)), (1, 1, (.t 81)), (2, 1, (.t 82))], []⟩,
   ⟨(some 84), .call 17 [(.t 83)], []⟩],
  .s ⟨(some 85), .pick (.t 79) (.c (.bool true)) (.t 84), []⟩,
  .s ⟨(some 86), .mv (.t 85), []⟩,
  .g 86 true [⟨(some 87), .call 7 [], []⟩],
  .s ⟨(some 88), .pick (.t 86) (.t 87) (.c (.bool false)), []⟩,
  .s ⟨(some 4), .mv (.t 88), []⟩])
 .ret)))))))))⟩
def a4 : XFun := ⟨53, [.t 4],
 (.seq (.reg [.s ⟨(some 4), .mv (.c (.bool false)), []⟩])
 (.seq (.seq (.reg [.s ⟨(some 12), .mv (.t 0), []⟩,
  .s ⟨(some 13), .lenL (.t 12), []⟩,
  .s ⟨(some 14), .bin .gtr (.t 13) (.c (.int .i64 4096)), []⟩])
 (.cond (.t 14) (.seq (.reg [.s ⟨(some 15), .call 7 [], []⟩,
  .s ⟨(some 4), .mv (.t 15), []⟩])
 .ret)
 .skip))
 (.seq (.reg [.s ⟨(some 16), .mv (.t 0), []⟩,
  .s ⟨(some 17), .call 8 [(.t 16)], []⟩,
  .s ⟨(some 5), .mv (.t 17), []⟩])
 (.seq (.reg [.s ⟨(some 19), .mv (.t 5), []⟩,
  .s ⟨(some 20), .mv (.t 1), []⟩,
  .s ⟨(some 21), .call 18 [(.t 19), (.t 20)], []⟩,
  .s ⟨(some 18), .mv (.t 21), []⟩,
  .s ⟨(some 22), .ext 0 (.t 18), []⟩,
  .s ⟨(some 23), .ext 1 (.t 18), []⟩,
  .s ⟨(some 24), .ext 2 (.t 18), []⟩,
  .s ⟨(some 6), .mv (.t 22), []⟩,
  .s ⟨(some 7), .mv (.t 23), []⟩,
  .s ⟨(some 8), .mv (.t 24), []⟩])
 (.seq (.reg [.s ⟨(some 26), .mv (.t 0), []⟩,
  .s ⟨(some 27), .mv (.t 1), []⟩,
  .s ⟨(some 28), .call 19 [(.t 26), (.t 27)], []⟩,
  .s ⟨(some 25), .mv (.t 28), []⟩,
  .s ⟨(some 29), .ext 0 (.t 25), []⟩,
  .s ⟨(some 30), .ext 1 (.t 25), []⟩,
  .s ⟨(some 31), .ext 2 (.t 25), []⟩,
  .s ⟨(some 9), .mv (.t 29), []⟩,
  .s ⟨(some 10), .mv (.t 30), []⟩,
  .s ⟨(some 11), .mv (.t 31), []⟩])
 (.seq (.reg [.s ⟨(some 32), .mv (.t 6), []⟩,
  .s ⟨(some 33), .mv (.t 9), []⟩,
  .s ⟨(some 34), .call 14 [(.t 32), (.t 33)], []⟩,
  .s ⟨(some 35), .mv (.t 34), []⟩,
  .g 35 true [⟨(some 36), .mv (.t 7), []⟩,
   ⟨(some 37), .mv (.t 10), []⟩,
   ⟨(some 38), .bin .eql (.t 36) (.t 37), []⟩],
  .s ⟨(some 39), .pick (.t 35) (.t 38) (.c (.bool false)), []⟩,
  .s ⟨(some 40), .mv (.t 39), []⟩,
  .g 40 true [⟨(some 41), .mv (.t 8), []⟩,
   ⟨(some 42), .mv (.t 11), []⟩,
   ⟨(some 43), .bin .eql (.t 41) (.t 42), []⟩],
  .s ⟨(some 44), .pick (.t 40) (.t 43) (.c (.bool false)), []⟩,
  .s ⟨(some 45), .mv (.t 44), []⟩,
  .g 45 true [⟨(some 46), .mv (.t 5), []⟩,
   ⟨(some 47), .mv (.t 0), []⟩,
   ⟨(some 48), .call 13 [(.t 46), (.t 47)], []⟩],
  .s ⟨(some 49), .pick (.t 45) (.t 48) (.c (.bool false)), []⟩,
  .s ⟨(some 50), .mv (.t 49), []⟩,
  .g 50 true [⟨(some 51), .call 7 [], []⟩],
  .s ⟨(some 52), .pick (.t 50) (.t 51) (.c (.bool false)), []⟩,
  .s ⟨(some 4), .mv (.t 52), []⟩])
 .ret))))))⟩
def a5 : XFun := ⟨152, [.t 8],
 (.seq (.reg [.s ⟨(some 7), .box 42 (.t 3), []⟩,
  .s ⟨(some 8), .mv (.c (.bool false)), []⟩])
 (.seq (.seq (.reg [.s ⟨(some 24), .mv (.t 0), []⟩,
  .s ⟨(some 25), .lenL (.t 24), []⟩,
  .s ⟨(some 26), .bin .gtr (.t 25) (.c (.int .i64 1024)), []⟩,
  .s ⟨(some 27), .mv (.t 26), []⟩,
  .g 27 false [⟨(some 28), .mv (.t 2), []⟩,
   ⟨(some 29), .lenL (.t 28), []⟩,
   ⟨(some 30), .bin .gtr (.t 29) (.c (.int .i64 1024)), []⟩],
  .s ⟨(some 31), .pick (.t 27) (.c (.bool true)) (.t 30), []⟩,
  .s ⟨(some 32), .mv (.t 31), []⟩,
  .g 32 false [⟨(some 33), .mv (.t 1), []⟩,
   ⟨(some 34), .load true 4 (.t 7), []⟩,
   ⟨(some 35), .call 20 [(.t 33), (.t 34)], []⟩],
  .s ⟨(some 36), .pick (.t 32) (.c (.bool true)) (.t 35), []⟩])
 (.cond (.t 36) (.seq (.reg [.s ⟨(some 37), .call 7 [], []⟩,
  .s ⟨(some 8), .mv (.t 37), []⟩])
 .ret)
 .skip))
 (.seq (.reg [.s ⟨(some 38), .mv (.t 0), []⟩,
  .s ⟨(some 39), .lenL (.t 38), []⟩,
  .s ⟨(some 9), .mv (.t 39), []⟩])
 (.seq (.reg [.s ⟨(some 41), .mv (.t 0), []⟩,
  .s ⟨(some 42), .mv (.t 1), []⟩,
  .s ⟨(some 43), .call 9 [(.t 42)], []⟩,
  .s ⟨(some 44), .call 10 [(.t 41), (.t 43)], []⟩,
  .s ⟨(some 40), .mv (.t 44), []⟩,
  .s ⟨(some 45), .ext 0 (.t 40), []⟩,
  .s ⟨(some 46), .ext 1 (.t 40), []⟩,
  .s ⟨(some 10), .mv (.t 45), []⟩,
  .s ⟨(some 11), .mv (.t 46), []⟩])
 (.seq (.seq (.reg [.s ⟨(some 47), .mv (.t 11), []⟩,
  .s ⟨(some 48), .bin .eql (.t 47) (.c (.int .i64 0)), []⟩,
  .s ⟨(some 49), .mv (.t 1), []⟩,
  .s ⟨(some 50), .call 15 [(.t 49)], []⟩,
  .s ⟨(some 51), .beq true (.t 48) (.t 50), []⟩])
 (.cond (.t 51) (.seq (.reg [.s ⟨(some 8), .mv (.c (.bool false)), []⟩])
 .ret)
 .skip))
 (.seq (.seq (.reg [.s ⟨(some 52), .mv (.t 11), []⟩,
  .s ⟨(some 53), .bin .eql (.t 52) (.c (.int .i64 0)), []⟩])
 (.cond (.t 53) (.seq (.reg [.s ⟨(some 55), .mv (.t 10), []⟩,
  .s ⟨(some 56), .call 21 [(.t 55)], []⟩,
  .s ⟨(some 57), .mv (.t 2), []⟩,
  .s ⟨(some 58), .app 5 1 1 (.t 56) (.t 57), []⟩,
  .s ⟨(some 59), .mv (.t 9), []⟩,
  .s ⟨(some 60), .call 18 [(.t 58), (.t 59)], []⟩,
  .s ⟨(some 54), .mv (.t 60), []⟩,
  .s ⟨(some 61), .ext 0 (.t 54), []⟩,
  .s ⟨(some 62), .ext 1 (.t 54), []⟩,
  .s ⟨(some 63), .ext 2 (.t 54), []⟩,
  .s ⟨(some 12), .mv (.t 61), []⟩,
  .s ⟨(some 13), .mv (.t 62), []⟩,
  .s ⟨(some 14), .mv (.t 63), []⟩])
 (.seq (.reg [.s ⟨(some 65), .mv (.t 1), []⟩,
  .s ⟨(some 66), .load true 4 (.t 7), []⟩,
  .s ⟨(some 67), .call 22 [(.t 65), (.t 66)], []⟩,
  .s ⟨(some 64), .mv (.t 67), []⟩,
  .s ⟨(some 68), .ext 0 (.t 64), []⟩,
  .s ⟨(some 69), .ext 1 (.t 64), []⟩,
  .s ⟨(some 15), .mv (.t 68), []⟩,
  .s ⟨(some 16), .mv (.t 69), []⟩])
 (.seq (.reg [.s ⟨(some 71), .mv (.t 12), []⟩,
  .s ⟨(some 72), .load true 4 (.t 7), []⟩,
  .s ⟨(some 73), .call 22 [(.t 71), (.t 72)], []⟩,
  .s ⟨(some 70), .mv (.t 73), []⟩,
  .s ⟨(some 74), .ext 0 (.t 70), []⟩,
  .s ⟨(some 75), .ext 1 (.t 70), []⟩,
  .s ⟨(some 17), .mv (.t 74), []⟩,
  .s ⟨(some 18), .mv (.t 75), []⟩])
 (.seq (.reg [.s ⟨(some 76), .mv (.t 14), []⟩,
  .s ⟨(some 77), .bin .neq (.t 76) (.c (.int .i64 0)), []⟩,
  .s ⟨(some 78), .mv (.t 77), []⟩,
  .g 78 false [⟨(some 79), .mv (.t 13), []⟩,
   ⟨(some 80), .mv (.t 10), []⟩,
   ⟨(some 81), .lenL (.t 80), []⟩,
   ⟨(some 82), .bin .neq (.t 79) (.t 81), []⟩],
  .s ⟨(some 83), .pick (.t 78) (.c (.bool true)) (.t 82), []⟩,
  .s ⟨(some 84), .mv (.t 83), []⟩,
  .g 84 false [⟨(some 85), .mv (.t 12), []⟩,
   ⟨(some 86), .mv (.t 1), []⟩,
   ⟨(some 87), .call 14 [(.t 85), (.t 86)], []⟩,
   ⟨(some 88), .un .not (.t 87), []⟩],
  .s ⟨(some 89), .pick (.t 84) (.c (.bool true)) (.t 88), []⟩,
  .s ⟨(some 90), .mv (.t 89), []⟩,
  .g 90 false [⟨(some 91), .mv (.t 15), []⟩,
   ⟨(some 92), .mv (.t 17), []⟩,
   ⟨(some 93), .bin .neq (.t 91) (.t 92), []⟩],
  .s ⟨(some 94), .pick (.t 90) (.c (.bool true)) (.t 93), []⟩,
  .s ⟨(some 95), .mv (.t 94), []⟩,
  .g 95 false [⟨(some 96), .mv (.t 16), []⟩,
   ⟨(some 97), .mv (.t 18), []⟩,
   ⟨(some 98), .bin .neq (.t 96) (.t 97), []⟩],
  .s ⟨(some 99), .pick (.t 95) (.c (.bool true)) (.t 98), []⟩])
 (.cond (.t 99) (.seq (.reg [.s ⟨(some 8), .mv (.c (.bool false)), []⟩])
 .ret)
 .skip)))))
 (.seq (.reg [.s ⟨(some 100), .mv (.t 10), []⟩,
  .s ⟨(some 101), .lenL (.t 100), []⟩,
  .s ⟨(some 102), .bin .neq (.t 101) (.c (.int .i64 0)), []⟩])
 (.cond (.t 102) (.seq (.reg [.s ⟨(some 8), .mv (.c (.bool false)), []⟩])
 .ret)
 .skip))))
 (.seq (.reg [.s ⟨(some 104), .mv (.t 2), []⟩,
  .s ⟨(some 105), .call 18 [(.t 104), (.c (.int .i64 0))], []⟩,
  .s ⟨(some 103), .mv (.t 105), []⟩,
  .s ⟨(some 106), .ext 0 (.t 103), []⟩,
  .s ⟨(some 107), .ext 1 (.t 103), []⟩,
  .s ⟨(some 108), .ext 2 (.t 103), []⟩,
  .s ⟨(some 19), .mv (.t 106), []⟩,
  .s ⟨(some 20), .mv (.t 107), []⟩,
  .s ⟨(some 21), .mv (.t 108), []⟩])
 (.seq (.seq (.reg [.s ⟨(some 109), .mv (.t 21), []⟩,
  .s ⟨(some 110), .bin .neq (.t 109) (.c (.int .i64 0)), []⟩])
 (.cond (.t 110) (.seq (.reg [.s ⟨(some 111), .mv (.t 19), []⟩,
  .s ⟨(some 112), .lenL (.t 111), []⟩,
  .s ⟨(some 113), .bin .eql (.t 112) (.c (.int .i64 0)), []⟩,
  .s ⟨(some 114), .mv (.t 113), []⟩,
  .g 114 true [⟨(some 115), .mv (.t 20), []⟩,
   ⟨(some 116), .bin .eql (.t 115) (.c (.int .i64 0)), []⟩],
  .s ⟨(some 117), .pick (.t 114) (.t 116) (.c (.bool false)), []⟩,
  .s ⟨(some 118), .mv (.t 117), []⟩,
  .g 118 true [⟨(some 119), .call 7 [], []⟩],
  .s ⟨(some 120), .pick (.t 118) (.t 119) (.c (.bool false)), []⟩,
  .s ⟨(some 8), .mv (.t 120), []⟩])
 .ret)
 .skip))
 (.seq (.reg [.s ⟨(some 122), .mv (.t 19), []⟩,
  .s ⟨(some 123), .call 10 [(.c (.slice none 0 0)), (.t 122)], []⟩,
  .s ⟨(some 121), .mv (.t 123), []⟩,
  .s ⟨(some 124), .ext 0 (.t 121), []⟩,
  .s ⟨(some 125), .ext 1 (.t 121), []⟩,
  .s ⟨(some 22), .mv (.t 124), []⟩,
  .s ⟨(some 23), .mv (.t 125), []⟩])
 (.seq (.reg [.s ⟨(some 126), .mv (.t 19), []⟩,
  .s ⟨(some 127), .call 15 [(.t 126)], []⟩,
  .s ⟨(some 128), .mv (.t 127), []⟩,
  .g 128 true [⟨(some 129), .mv (.t 23), []⟩,
   ⟨(some 130), .bin .eql (.t 129) (.c (.int .i64 0)), []⟩],
  .s ⟨(some 131), .pick (.t 128) (.t 130) (.c (.bool false)), []⟩,
  .s ⟨(some 132), .mv (.t 131), []⟩,
  .g 132 true [⟨(some 133), .mv (.t 20), []⟩,
   ⟨(some 134), .bin .geq (.t 133) (.c (.int .i64 1)), []⟩],
  .s ⟨(some 135), .pick (.t 132) (.t 134) (.c (.bool false)), []⟩,
  .s ⟨(some 136), .mv (.t 135), []⟩,
  .g 136 true [⟨(some 137), .mv (.t 20), []⟩,
   ⟨(some 138), .mv (.t 2), []⟩,
   ⟨(some 139), .lenL (.t 138), []⟩,
   ⟨(some 140), .bin .leq (.t 137) (.t 139), []⟩],
  .s ⟨(some 141), .pick (.t 136) (.t 140) (.c (.bool false)), []⟩,
  .s ⟨(some 142), .mv (.t 141), []⟩,
  .g 142 true [⟨(some 143), .mv (.t 22), []⟩,
   ⟨(some 144), .mv (.t 2), []⟩,
   ⟨(some 145), .mv (.t 20), []⟩,
   ⟨(some 146), .slc 1 (.t 144) none (some (.t 145)) none, []⟩,
   ⟨(some 147), .call 12 [(.t 143), (.t 146)], []⟩],
  .s ⟨(some 148), .pick (.t 142) (.t 147) (.c (.bool false)), []⟩,
  .s ⟨(some 149), .mv (.t 148), []⟩,
  .g 149 true [⟨(some 150), .call 7 [], []⟩],
  .s ⟨(some 151), .pick (.t 149) (.t 150) (.c (.bool false)), []⟩,
  .s ⟨(some 8), .mv (.t 151), []⟩])
 .ret))))))))))⟩
theorem s5 : slimF Try.prog Try.f5 = some a5.fn := by kernel_rfl
def a6 : XFun := ⟨181, [.t 6],
 (.seq (.reg [.s ⟨(some 5), .box 42 (.t 2), []⟩,
  .s ⟨(some 6), .mv (.c (.bool false)), []⟩])
 (.seq (.seq (.reg [.s ⟨(some 19), .mv (.t 0), []⟩,
  .s ⟨(some 20), .load true 4 (.t 5), []⟩,
  .s ⟨(some 21), .call 20 [(.t 19), (.t 20)], []⟩,
  .s ⟨(some 22), .mv (.t 21), []⟩,
  .g 22 false [⟨(some 23), .mv (.t 1), []⟩,
   ⟨(some 24), .load true 4 (.t 5), []⟩,
   ⟨(some 25), .call 20 [(.t 23), (.t 24)], []⟩],
  .s ⟨(some 26), .pick (.t 22) (.c (.bool true)) (.t 25), []⟩,
  .s ⟨(some 27), .mv (.t 26), []⟩,
  .g 27 false [⟨(some 28), .mv (.t 0), []⟩,
   ⟨(some 29), .lenL (.t 28), []⟩,
   ⟨(some 30), .mv (.t 1), []⟩,
   ⟨(some 31), .lenL (.t 30), []⟩,
   ⟨(some 32), .bin .add (.t 29) (.t 31), []⟩,
   ⟨(some 33), .bin .gtr (.t 32) (.c (.int .i64 15)), []⟩],
  .s ⟨(some 34), .pick (.t 27) (.c (.bool true)) (.t 33), []⟩,
  .s ⟨(some 35), .mv (.t 34), []⟩,
  .g 35 false [⟨(some 36), .mv (.t 0), []⟩,
   ⟨(some 37), .lenL (.t 36), []⟩,
   ⟨(some 38), .bin .eql (.t 37) (.c (.int .i64 0)), []⟩],
  .s ⟨(some 39), .pick (.t 35) (.c (.bool true)) (.t 38), []⟩,
  .s ⟨(some 40), .mv (.t 39), []⟩,
  .g 40 false [⟨(some 41), .mv (.t 1), []⟩,
   ⟨(some 42), .lenL (.t 41), []⟩,
   ⟨(some 43), .bin .eql (.t 42) (.c (.int .i64 0)), []⟩],
  .s ⟨(some 44), .pick (.t 40) (.c (.bool true)) (.t 43), []⟩])
 (.cond (.t 44) (.seq (.reg [.s ⟨(some 45), .call 7 [], []⟩,
  .s ⟨(some 6), .mv (.t 45), []⟩])
 .ret)
 .skip))
 (.seq (.reg [.s ⟨(some 47), .mv (.t 0), []⟩,
  .s ⟨(some 48), .load true 4 (.t 5), []⟩,
  .s ⟨(some 49), .call 22 [(.t 47), (.t 48)], []⟩,
  .s ⟨(some 46), .mv (.t 49), []⟩,
  .s ⟨(some 50), .ext 0 (.t 46), []⟩,
  .s ⟨(some 51), .ext 1 (.t 46), []⟩,
  .s ⟨(some 7), .mv (.t 50), []⟩,
  .s ⟨(some 8), .mv (.t 51), []⟩])
 (.seq (.reg [.s ⟨(some 53), .mv (.t 1), []⟩,
  .s ⟨(some 54), .load true 4 (.t 5), []⟩,
  .s ⟨(some 55), .call 22 [(.t 53), (.t 54)], []⟩,
  .s ⟨(some 52), .mv (.t 55), []⟩,
  .s ⟨(some 56), .ext 0 (.t 52), []⟩,
  .s ⟨(some 57), .ext 1 (.t 52), []⟩,
  .s ⟨(some 9), .mv (.t 56), []⟩,
  .s ⟨(some 10), .mv (.t 57), []⟩])
 (.seq (.reg [.s ⟨(some 58), .mv (.t 0), []⟩,
  .s ⟨(some 59), .call 9 [(.t 58)], []⟩,
  .s ⟨(some 60), .mv (.t 1), []⟩,
  .s ⟨(some 61), .app 48 2 16 (.t 59) (.t 60), []⟩,
  .s ⟨(some 62), .build [(.int .u8 0), (.int .i64 0)] [(0, 1, (.c (.int .u8 5)))], []⟩,
  .s ⟨(some 63), .bslice 48 1 [(.int .u8 0), (.int .i64 0)] [(0, 2, (.t 62))], []⟩,
  .s ⟨(some 64), .app 48 2 16 (.t 61) (.t 63), []⟩,
  .s ⟨(some 11), .mv (.t 64), []⟩])
 (.seq (.reg [.s ⟨(some 66), .mv (.t 11), []⟩,
  .s ⟨(some 67), .load true 4 (.t 5), []⟩,
  .s ⟨(some 68), .call 22 [(.t 66), (.t 67)], []⟩,
  .s ⟨(some 65), .mv (.t 68), []⟩,
  .s ⟨(some 69), .ext 0 (.t 65), []⟩,
  .s ⟨(some 70), .ext 1 (.t 65), []⟩,
  .s ⟨(some 12), .mv (.t 69), []⟩,
  .s ⟨(some 13), .mv (.t 70), []⟩])
 (.seq (.seq (.reg [.s ⟨(some 71), .mv (.t 8), []⟩,
  .s ⟨(some 72), .bin .eql (.t 71) (.c (.int .i64 0)), []⟩,
  .s ⟨(some 73), .mv (.t 72), []⟩,
  .g 73 true [⟨(some 74), .mv (.t 10), []⟩,
   ⟨(some 75), .bin .eql (.t 74) (.c (.int .i64 0)), []⟩],
  .s ⟨(some 76), .pick (.t 73) (.t 75) (.c (.bool false)), []⟩,
  .s ⟨(some 77), .mv (.t 76), []⟩,
  .g 77 true [⟨(some 78), .mv (.t 11), []⟩,
   ⟨(some 79), .call 15 [(.t 78)], []⟩],
  .s ⟨(some 80), .pick (.t 77) (.t 79) (.c (.bool false)), []⟩,
  .s ⟨(some 81), .mv (.t 80), []⟩,
  .g 81 true [⟨(some 82), .mv (.t 13), []⟩,
   ⟨(some 83), .bin .neq (.t 82) (.c (.int .i64 0)), []⟩,
   ⟨(some 84), .mv (.t 83), []⟩],
  .g 84 false [⟨(some 85), .mv (.t 12), []⟩,
   ⟨(some 86), .mv (.t 7), []⟩,
   ⟨(some 87), .mv (.t 9), []⟩,
   ⟨(some 88), .bin .add (.t 86) (.t 87), []⟩,
   ⟨(some 89), .bin .neq (.t 85) (.t 88), []⟩],
  .g 81 true [⟨(some 90), .pick (.t 84) (.c (.bool true)) (.t 89), []⟩],
  .s ⟨(some 91), .pick (.t 81) (.t 90) (.c (.bool false)), []⟩])
 (.cond (.t 91) (.seq (.reg [.s ⟨(some 6), .mv (.c (.bool false)), []⟩])
 .ret)
 .skip))
 (.seq (.seq (.reg [.s ⟨(some 92), .mv (.t 8), []⟩,
  .s ⟨(some 93), .bin .eql (.t 92) (.c (.int .i64 0)), []⟩,
  .s ⟨(some 94), .mv (.t 93), []⟩,
  .g 94 true [⟨(some 95), .mv (.t 10), []⟩,
   ⟨(some 96), .bin .eql (.t 95) (.c (.int .i64 0)), []⟩],
  .s ⟨(some 97), .pick (.t 94) (.t 96) (.c (.bool false)), []⟩,
  .s ⟨(some 98), .mv (.t 97), []⟩,
  .g 98 true [⟨(some 99), .mv (.t 1), []⟩,
   ⟨(some 100), .lenL (.t 99), []⟩,
   ⟨(some 101), .bin .eql (.t 100) (.c (.int .i64 1)), []⟩],
  .s ⟨(some 102), .pick (.t 98) (.t 101) (.c (.bool false)), []⟩,
  .s ⟨(some 103), .mv (.t 102), []⟩,
  .g 103 true [⟨(some 104), .mv (.t 0), []⟩,
   ⟨(some 105), .lenL (.t 104), []⟩,
   ⟨(some 106), .bin .leq (.t 105) (.c (.int .i64 7)), []⟩],
  .s ⟨(some 107), .pick (.t 103) (.t 106) (.c (.bool false)), []⟩,
  .s ⟨(some 108), .mv (.t 107), []⟩,
  .g 108 true [⟨(some 109), .mv (.t 11), []⟩,
   ⟨(some 110), .call 15 [(.t 109)], []⟩,
   ⟨(some 111), .un .not (.t 110), []⟩],
  .s ⟨(some 112), .pick (.t 108) (.t 111) (.c (.bool false)), []⟩])
 (.cond (.t 112) (.seq (.reg [.s ⟨(some 6), .mv (.c (.bool false)), []⟩])
 .ret)
 .skip))
 (.seq (.parT (.quiet ⟨none, (some 114), .mv (.t 0)⟩
  (.quiet ⟨none, (some 116), .build [(.int .u8 0), (.int .i64 0)] [(0, 1, (.c (.int .u8 6)))]⟩
  (.quiet ⟨none, (some 119), .load true 4 (.t 5)⟩
  (.both (.eff ⟨none, (some 115), .call 9 [(.t 114)]⟩ [⟨none, (some 119), .load true 4 (.t 5)⟩]
  (.eff ⟨none, (some 117), .bslice 48 1 [(.int .u8 0), (.int .i64 0)] [(0, 2, (.t 116))]⟩ [⟨none, (some 119), .load true 4 (.t 5)⟩]
  (.eff ⟨none, (some 118), .app 48 2 16 (.t 115) (.t 117)⟩ [⟨none, (some 119), .load true 4 (.t 5)⟩]
  (.eff ⟨none, (some 120), .call 22 [(.t 118), (.t 119)]⟩ []
  (.quiet ⟨none, (some 113), .mv (.t 120)⟩
  (.quiet ⟨none, (some 121), .ext 0 (.t 113)⟩
  (.quiet ⟨none, (some 122), .ext 1 (.t 113)⟩
  (.quiet ⟨none, (some 14), .mv (.t 121)⟩
  (.quiet ⟨none, (some 15), .mv (.t 122)⟩
  .done)))))))))
  (.eff ⟨none, (some 117), .bslice 48 1 [(.int .u8 0), (.int .i64 0)] [(0, 2, (.t 116))]⟩ [⟨none, (some 119), .load true 4 (.t 5)⟩]
  (.eff ⟨none, (some 115), .call 9 [(.t 114)]⟩ [⟨none, (some 119), .load true 4 (.t 5)⟩]
  (.eff ⟨none, (some 118), .app 48 2 16 (.t 115) (.t 117)⟩ [⟨none, (some 119), .load true 4 (.t 5)⟩]
  (.eff ⟨none, (some 120), .call 22 [(.t 118), (.t 119)]⟩ []
  (.quiet ⟨none, (some 113), .mv (.t 120)⟩
  (.quiet ⟨none, (some 121), .ext 0 (.t 113)⟩
  (.quiet ⟨none, (some 122), .ext 1 (.t 113)⟩
  (.quiet ⟨none, (some 14), .mv (.t 121)⟩
  (.quiet ⟨none, (some 15), .mv (.t 122)⟩
  .done))))))))))))))
 (.seq (.seq (.reg [.s ⟨(some 123), .mv (.t 15), []⟩,
  .s ⟨(some 124), .bin .eql (.t 123) (.c (.int .i64 0)), []⟩,
  .s ⟨(some 125), .mv (.t 8), []⟩,
  .s ⟨(some 126), .bin .eql (.t 125) (.c (.int .i64 0)), []⟩,
  .s ⟨(some 127), .beq true (.t 124) (.t 126), []⟩,
  .s ⟨(some 128), .mv (.t 127), []⟩,
  .g 128 false [⟨(some 129), .mv (.t 8), []⟩,
   ⟨(some 130), .bin .eql (.t 129) (.c (.int .i64 0)), []⟩,
   ⟨(some 131), .mv (.t 130), []⟩],
  .g 131 true [⟨(some 132), .mv (.t 14), []⟩,
   ⟨(some 133), .mv (.t 7), []⟩,
   ⟨(some 134), .un .neg (.t 133), []⟩,
   ⟨(some 135), .bin .neq (.t 132) (.t 134), []⟩],
  .g 128 false [⟨(some 136), .pick (.t 131) (.t 135) (.c (.bool false)), []⟩],
  .s ⟨(some 137), .pick (.t 128) (.c (.bool true)) (.t 136), []⟩])
 (.cond (.t 137) (.seq (.reg [.s ⟨(some 6), .mv (.c (.bool false)), []⟩])
 .ret)
 .skip))
 (.seq (.parT (.quiet ⟨none, (some 139), .mv (.t 0)⟩
  (.quiet ⟨none, (some 141), .build [(.int .u8 0), (.int .i64 0)] [(0, 1, (.c (.int .u8 4)))]⟩
  (.quiet ⟨none, (some 144), .load true 4 (.t 5)⟩
  (.both (.eff ⟨none, (some 140), .call 9 [(.t 139)]⟩ [⟨none, (some 144), .load true 4 (.t 5)⟩]
  (.eff ⟨none, (some 142), .bslice 48 1 [(.int .u8 0), (.int .i64 0)] [(0, 2, (.t 141))]⟩ [⟨none, (some 144), .load true 4 (.t 5)⟩]
  (.eff ⟨none, (some 143), .app 48 2 16 (.t 140) (.t 142)⟩ [⟨none, (some 144), .load true 4 (.t 5)⟩]
  (.eff ⟨none, (some 145), .call 22 [(.t 143), (.t 144)]⟩ []
  (.quiet ⟨none, (some 138), .mv (.t 145)⟩
  (.quiet ⟨none, (some 146), .ext 0 (.t 138)⟩
  (.quiet ⟨none, (some 147), .ext 1 (.t 138)⟩
  (.quiet ⟨none, (some 16), .mv (.t 146)⟩
  (.quiet ⟨none, (some 17), .mv (.t 147)⟩
  .done)))))))))
  (.eff ⟨none, (some 142), .bslice 48 1 [(.int .u8 0), (.int .i64 0)] [(0, 2, (.t 141))]⟩ [⟨none, (some 144), .load true 4 (.t 5)⟩]
  (.eff ⟨none, (some 140), .call 9 [(.t 139)]⟩ [⟨none, (some 144), .load true 4 (.t 5)⟩]
  (.eff ⟨none, (some 143), .app 48 2 16 (.t 140) (.t 142)⟩ [⟨none, (some 144), .load true 4 (.t 5)⟩]
  (.eff ⟨none, (some 145), .call 22 [(.t 143), (.t 144)]⟩ []
  (.quiet ⟨none, (some 138), .mv (.t 145)⟩
  (.quiet ⟨none, (some 146), .ext 0 (.t 138)⟩
  (.quiet ⟨none, (some 147), .ext 1 (.t 138)⟩
  (.quiet ⟨none, (some 16), .mv (.t 146)⟩
  (.quiet ⟨none, (some 17), .mv (.t 147)⟩
  .done))))))))))))))
 (.seq (.reg [.s ⟨(some 148), .mv (.t 8), []⟩,
  .s ⟨(some 149), .bin .eql (.t 148) (.c (.int .i64 0)), []⟩,
  .s ⟨(some 150), .mv (.t 149), []⟩,
  .g 150 true [⟨(some 151), .mv (.t 7), []⟩,
   ⟨(some 152), .bin .geq (.t 151) (.c (.int .i64 0)), []⟩],
  .s ⟨(some 153), .pick (.t 150) (.t 152) (.c (.bool false)), []⟩,
  .s ⟨(some 154), .mv (.t 153), []⟩,
  .g 154 true [⟨(some 155), .mv (.t 7), []⟩,
   ⟨(some 156), .faddr 3 (.t 5), []⟩,
   ⟨(some 157), .load false 1 (.t 156), []⟩,
   ⟨(some 158), .lenL (.t 157), []⟩,
   ⟨(some 159), .bin .lss (.t 155) (.t 158), []⟩],
  .s ⟨(some 160), .pick (.t 154) (.t 159) (.c (.bool false)), []⟩,
  .s ⟨(some 18), .mv (.t 160), []⟩])
 (.seq (.reg [.s ⟨(some 161), .mv (.t 17), []⟩,
  .s ⟨(some 162), .bin .eql (.t 161) (.c (.int .i64 0)), []⟩,
  .s ⟨(some 163), .mv (.t 18), []⟩,
  .s ⟨(some 164), .beq false (.t 162) (.t 163), []⟩,
  .s ⟨(some 165), .mv (.t 164), []⟩,
  .g 165 true [⟨(some 166), .mv (.t 18), []⟩,
   ⟨(some 167), .un .not (.t 166), []⟩,
   ⟨(some 168), .mv (.t 167), []⟩],
  .g 168 false [⟨(some 169), .mv (.t 16), []⟩,
   ⟨(some 170), .faddr 3 (.t 5), []⟩,
   ⟨(some 171), .load false 1 (.t 170), []⟩,
   ⟨(some 172), .mv (.t 7), []⟩,
   ⟨(some 173), .idx 1 (.t 171) (.t 172), []⟩,
   ⟨(some 174), .load false 1 (.t 173), []⟩,
   ⟨(some 175), .bin .eql (.t 169) (.t 174), []⟩],
  .g 165 true [⟨(some 176), .pick (.t 168) (.c (.bool true)) (.t 175), []⟩],
  .s ⟨(some 177), .pick (.t 165) (.t 176) (.c (.bool false)), []⟩,
  .s ⟨(some 178), .mv (.t 177), []⟩,
  .g 178 true [⟨(some 179), .call 7 [], []⟩],
  .s ⟨(some 180), .pick (.t 178) (.t 179) (.c (.bool false)), []⟩,
  .s ⟨(some 6), .mv (.t 180), []⟩])
 .ret)))))))))))))⟩
def a7 : XFun := ⟨67, [.t 0],
 (.seq (.reg [.s ⟨(some 0), .mv (.c (.bool false)), []⟩])
 (.seq (.reg [.s ⟨(some 9), .build [(.int .u8 0), (.int .i64 0)] [(0, 1, (.c (.int .u8 3))), (1, 1, (.c (.int .i64 (-3))))], []⟩,
  .s ⟨(some 10), .build [(.int .u8 0), (.int .i64 0)] [(0, 1, (.c (.int .u8 4)))], []⟩,
  .s ⟨(some 11), .bslice 48 2 [(.int .u8 0), (.int .i64 0), (.int .u8 0), (.int .i64 0)] [(0, 2, (.t 9)), (2, 2, (.t 10))], []⟩,
  .s ⟨(some 1), .mv (.t 11), []⟩])
 (.seq (.reg [.s ⟨(some 13), .mv (.t 1), []⟩,
  .s ⟨(some 14), .call 10 [(.c (.slice none 0 0)), (.t 13)], []⟩,
  .s ⟨(some 12), .mv (.t 14), []⟩,
  .s ⟨(some 15), .ext 0 (.t 12), []⟩,
  .s ⟨(some 16), .ext 1 (.t 12), []⟩,
  .s ⟨(some 2), .mv (.t 15), []⟩,
  .s ⟨(some 3), .mv (.t 16), []⟩])
 (.seq (.reg [.s ⟨(some 18), .mv (.t 2), []⟩,
  .s ⟨(some 19), .call 18 [(.t 18), (.c (.int .i64 0))], []⟩,
  .s ⟨(some 17), .mv (.t 19), []⟩,
  .s ⟨(some 20), .ext 0 (.t 17), []⟩,
  .s ⟨(some 21), .ext 1 (.t 17), []⟩,
  .s ⟨(some 22), .ext 2 (.t 17), []⟩,
  .s ⟨(some 4), .mv (.t 20), []⟩,
  .s ⟨(some 5), .mv (.t 21), []⟩,
  .s ⟨(some 6), .mv (.t 22), []⟩])
 (.seq (.reg [.s ⟨(some 24), .mv (.t 4), []⟩,
  .s ⟨(some 25), .bslice 2 2 [(.int .i64 0), (.int .i64 0)] [(0, 1, (.c (.int .i64 10))), (1, 1, (.c (.int .i64 11)))], []⟩,
  .s ⟨(some 26), .build [(.slice none 0 0), (.slice none 0 0), (.int .i64 0), (.slice none 0 0)] [(2, 1, (.c (.int .i64 4))), (3, 1, (.t 25))], []⟩,
  .s ⟨(some 27), .call 22 [(.t 24), (.t 26)], []⟩,
  .s ⟨(some 23), .mv (.t 27), []⟩,
  .s ⟨(some 28), .ext 0 (.t 23), []⟩,
  .s ⟨(some 29), .ext 1 (.t 23), []⟩,
  .s ⟨(some 7), .mv (.t 28), []⟩,
  .s ⟨(some 8), .mv (.t 29), []⟩])
 (.seq (.reg [.s ⟨(some 30), .mv (.t 3), []⟩,
  .s ⟨(some 31), .bin .eql (.t 30) (.c (.int .i64 0)), []⟩,
  .s ⟨(some 32), .mv (.t 31), []⟩,
  .g 32 true [⟨(some 33), .mv (.t 2), []⟩,
   ⟨(some 34), .lenL (.t 33), []⟩,
   ⟨(some 35), .bin .eql (.t 34) (.c (.int .i64 4)), []⟩],
  .s ⟨(some 36), .pick (.t 32) (.t 35) (.c (.bool false)), []⟩,
  .s ⟨(some 37), .mv (.t 36), []⟩,
  .g 37 true [⟨(some 38), .mv (.t 6), []⟩,
   ⟨(some 39), .bin .eql (.t 38) (.c (.int .i64 0)), []⟩],
  .s ⟨(some 40), .pick (.t 37) (.t 39) (.c (.bool false)), []⟩,
  .s ⟨(some 41), .mv (.t 40), []⟩,
  .g 41 true [⟨(some 42), .mv (.t 5), []⟩,
   ⟨(some 43), .bin .eql (.t 42) (.c (.int .i64 4)), []⟩],
  .s ⟨(some 44), .pick (.t 41) (.t 43) (.c (.bool false)), []⟩,
  .s ⟨(some 45), .mv (.t 44), []⟩,
  .g 45 true [⟨(some 46), .mv (.t 1), []⟩,
   ⟨(some 47), .mv (.t 4), []⟩,
   ⟨(some 48), .call 14 [(.t 46), (.t 47)], []⟩],
  .s ⟨(some 49), .pick (.t 45) (.t 48) (.c (.bool false)), []⟩,
  .s ⟨(some 50), .mv (.t 49), []⟩,
  .g 50 true [⟨(some 51), .mv (.t 8), []⟩,
   ⟨(some 52), .bin .eql (.t 51) (.c (.int .i64 0)), []⟩],
  .s ⟨(some 53), .pick (.t 50) (.t 52) (.c (.bool false)), []⟩,
  .s ⟨(some 54), .mv (.t 53), []⟩,
  .g 54 true [⟨(some 55), .mv (.t 7), []⟩,
   ⟨(some 56), .bin .eql (.t 55) (.c (.int .i64 11)), []⟩],
  .s ⟨(some 57), .pick (.t 54) (.t 56) (.c (.bool false)), []⟩,
  .s ⟨(some 58), .mv (.t 57), []⟩,
  .g 58 true [⟨(some 59), .call 15 [(.c (.slice none 0 0))], []⟩],
  .s ⟨(some 60), .pick (.t 58) (.t 59) (.c (.bool false)), []⟩,
  .s ⟨(some 61), .mv (.t 60), []⟩,
  .g 61 true [⟨(some 62), .build [(.int .u8 0), (.int .i64 0)] [(0, 1, (.c (.int .u8 4)))], []⟩,
   ⟨(some 63), .bslice 48 1 [(.int .u8 0), (.int .i64 0)] [(0, 2, (.t 62))], []⟩,
   ⟨(some 64), .call 15 [(.t 63)], []⟩,
   ⟨(some 65), .un .not (.t 64), []⟩],
  .s ⟨(some 66), .pick (.t 61) (.t 65) (.c (.bool false)), []⟩,
  .s ⟨(some 0), .mv (.t 66), []⟩])
 .ret))))))⟩
theorem s7 : slimF Try.prog Try.f7 = some a7.fn := by kernel_rfl
def a8 : XFun := ⟨26, [.t 2],
 (.seq (.reg [.s ⟨(some 2), .mv (.c (.slice none 0 0)), []⟩])
 (.seq (.reg [.s ⟨(some 5), .mv (.t 0), []⟩,
  .s ⟨(some 6), .lenL (.t 5), []⟩,
  .s ⟨(some 7), .mv (.t 0), []⟩,
  .s ⟨(some 8), .lenL (.t 7), []⟩,
  .s ⟨(some 9), .bin .add (.t 8) (.c (.int .i64 8)), []⟩,
  .s ⟨(some 10), .mkslice 5 1 1 [(.int .u8 0)] (.t 6) (.t 9), []⟩,
  .s ⟨(some 3), .mv (.t 10), []⟩])
 (.seq (.reg [.s ⟨(some 11), .mv (.t 3), []⟩,
  .s ⟨(some 12), .mv (.t 0), []⟩,
  .s ⟨(some 13), .copy 1 (.t 11) (.t 12), []⟩])
 (.seq (.seq (.reg [.s ⟨(some 4), .mv (.c (.int .u8 8)), []⟩])
 (.block 0 (.loop (.seq (.seq (.reg [.s ⟨(some 14), .mv (.t 4), []⟩,
  .s ⟨(some 15), .bin .gtr (.t 14) (.c (.int .u8 0)), []⟩])
 (.cond (.t 15) .skip
 (.exit 0)))
 (.seq (.block 1 (.reg [.s ⟨(some 18), .mv (.t 3), []⟩,
  .s ⟨(some 19), .mv (.t 4), []⟩,
  .s ⟨(some 20), .bslice 5 1 [(.int .u8 0)] [(0, 1, (.t 19))], []⟩,
  .s ⟨(some 21), .app 5 1 1 (.t 18) (.t 20), []⟩,
  .s ⟨(some 3), .mv (.t 21), []⟩]))
 (.reg [.s ⟨(some 16), .mv (.t 4), []⟩,
  .s ⟨(some 17), .bin .sub (.t 16) (.c (.int .u8 1)), []⟩,
  .s ⟨(some 4), .mv (.t 17), []⟩]))))))
 (.seq (.reg [.s ⟨(some 22), .mv (.t 3), []⟩,
  .s ⟨(some 23), .mv (.t 0), []⟩,
  .s ⟨(some 24), .lenL (.t 23), []⟩,
  .s ⟨(some 25), .slc 1 (.t 22) none (some (.t 24)) none, []⟩,
  .s ⟨(some 2), .mv (.t 25), []⟩])
 .ret)))))⟩
def a9 : XFun := ⟨6, [.t 2],
 (.seq (.reg [.s ⟨(some 2), .mv (.c (.slice none 0 0)), []⟩])
 (.seq (.reg [.s ⟨(some 3), .bslice 48 0 [] [], []⟩,
  .s ⟨(some 4), .mv (.t 0), []⟩,
  .s ⟨(some 5), .app 48 2 16 (.t 3) (.t 4), []⟩,
  .s ⟨(some 2), .mv (.t 5), []⟩])
 .ret))⟩
theorem s9 : slimF Try.prog Try.f9 = some a9.fn := by kernel_rfl
def a10 : XFun := ⟨37, [.t 4, .t 5],
 (.seq (.reg [.s ⟨(some 4), .mv (.c (.slice none 0 0)), []⟩,
  .s ⟨(some 5), .mv (.c (.int .i64 0)), []⟩])
 (.seq (.seq (.reg [.s ⟨(some 9), .mv (.t 1), []⟩,
  .s ⟨(some 10), .call 15 [(.t 9)], []⟩,
  .s ⟨(some 11), .un .not (.t 10), []⟩])
 (.cond (.t 11) (.seq (.reg [.s ⟨(some 4), .mv (.c (.slice none 0 0)), []⟩,
  .s ⟨(some 5), .mv (.c (.int .i64 1)), []⟩])
 .ret)
 .skip))
 (.seq (.reg [.s ⟨(some 12), .mv (.t 0), []⟩,
  .s ⟨(some 13), .mv (.t 1), []⟩,
  .s ⟨(some 14), .lenL (.t 13), []⟩,
  .s ⟨(some 15), .cint .u64 (.t 14), []⟩,
  .s ⟨(some 16), .call 23 [(.t 12), (.t 15)], []⟩,
  .s ⟨(some 6), .mv (.t 16), []⟩])
 (.seq (.seq (.reg [.s ⟨(some 17), .mv (.t 1), []⟩,
  .s ⟨(some 18), .lenL (.t 17), []⟩,
  .s ⟨(some 19), .mv (.c (.int .i64 0)), []⟩])
 (.block 0 (.loop (.seq (.reg [.s ⟨(some 20), .bin .lss (.t 19) (.t 18), []⟩])
 (.seq (.cond (.t 20) .skip
 (.exit 0))
 (.seq (.block 1 (.seq (.reg [.s ⟨(some 21), .idx 2 (.t 17) (.t 19), []⟩,
  .s ⟨(some 22), .load true 2 (.t 21), []⟩,
  .s ⟨(some 8), .alloc 48 [(.int .u8 0), (.int .i64 0)], []⟩,
  .s ⟨none, .store 2 (.t 8) (.t 22), []⟩])
 (.seq (.reg [.s ⟨(some 23), .mv (.t 6), []⟩,
  .s ⟨(some 24), .faddr 0 (.t 8), []⟩,
  .s ⟨(some 25), .load false 1 (.t 24), []⟩,
  .s ⟨(some 26), .bslice 5 1 [(.int .u8 0)] [(0, 1, (.t 25))], []⟩,
  .s ⟨(some 27), .app 5 1 1 (.t 23) (.t 26), []⟩,
  .s ⟨(some 6), .mv (.t 27), []⟩])
 (.seq (.reg [.s ⟨(some 28), .faddr 0 (.t 8), []⟩,
  .s ⟨(some 29), .load false 1 (.t 28), []⟩,
  .s ⟨(some 30), .call 24 [(.t 29)], []⟩])
 (.cond (.t 30) (.reg [.s ⟨(some 31), .mv (.t 6), []⟩,
  .s ⟨(some 32), .faddr 1 (.t 8), []⟩,
  .s ⟨(some 33), .load false 1 (.t 32), []⟩,
  .s ⟨(some 34), .call 25 [(.t 31), (.t 33)], []⟩,
  .s ⟨(some 6), .mv (.t 34), []⟩])
 .skip)))))
 (.reg [.s ⟨(some 35), .bin .add (.t 19) (.c (.int .i64 1)), []⟩,
  .s ⟨(some 19), .mv (.t 35), []⟩])))))))
 (.seq (.reg [.s ⟨(some 36), .mv (.t 6), []⟩,
  .s ⟨(some 4), .mv (.t 36), []⟩,
  .s ⟨(some 5), .mv (.c (.int .i64 0)), []⟩])
 .ret)))))⟩
theorem s10 : slimF Try.prog Try.f10 = some a10.fn := by kernel_rfl
def a12 : XFun := ⟨35, [.t 4],
 (.seq (.reg [.s ⟨(some 4), .mv (.c (.bool false)), []⟩])
 (.seq (.seq (.reg [.s ⟨(some 7), .mv (.t 0), []⟩,
  .s ⟨(some 8), .lenL (.t 7), []⟩,
  .s ⟨(some 9), .mv (.t 1), []⟩,
  .s ⟨(some 10), .lenL (.t 9), []⟩,
  .s ⟨(some 11), .bin .gtr (.t 8) (.t 10), []⟩])
 (.cond (.t 11) (.seq (.reg [.s ⟨(some 12), .mv (.t 1), []⟩,
  .s ⟨(some 13), .mv (.t 0), []⟩,
  .s ⟨(some 14), .call 12 [(.t 12), (.t 13)], []⟩,
  .s ⟨(some 4), .mv (.t 14), []⟩])
 .ret)
 .skip))
 (.seq (.seq (.reg [.s ⟨(some 15), .mv (.t 1), []⟩,
  .s ⟨(some 16), .lenL (.t 15), []⟩,
  .s ⟨(some 17), .mv (.c (.int .i64 0)), []⟩])
 (.block 0 (.loop (.seq (.reg [.s ⟨(some 18), .bin .lss (.t 17) (.t 16), []⟩])
 (.seq (.cond (.t 18) .skip
 (.exit 0))
 (.seq (.block 1 (.seq (.reg [.s ⟨(some 19), .mv (.t 17), []⟩,
  .s ⟨(some 20), .idx 1 (.t 15) (.t 17), []⟩,
  .s ⟨(some 21), .load false 1 (.t 20), []⟩,
  .s ⟨(some 5), .mv (.t 19), []⟩,
  .s ⟨(some 6), .mv (.t 21), []⟩])
 (.seq (.reg [.s ⟨(some 22), .mv (.t 5), []⟩,
  .s ⟨(some 23), .mv (.t 0), []⟩,
  .s ⟨(some 24), .lenL (.t 23), []⟩,
  .s ⟨(some 25), .bin .geq (.t 22) (.t 24), []⟩,
  .s ⟨(some 26), .mv (.t 25), []⟩,
  .g 26 false [⟨(some 27), .mv (.t 0), []⟩,
   ⟨(some 28), .mv (.t 5), []⟩,
   ⟨(some 29), .idx 1 (.t 27) (.t 28), []⟩,
   ⟨(some 30), .load false 1 (.t 29), []⟩,
   ⟨(some 31), .mv (.t 6), []⟩,
   ⟨(some 32), .bin .neq (.t 30) (.t 31), []⟩],
  .s ⟨(some 33), .pick (.t 26) (.c (.bool true)) (.t 32), []⟩])
 (.cond (.t 33) (.seq (.reg [.s ⟨(some 4), .mv (.c (.bool false)), []⟩])
 .ret)
 .skip))))
 (.reg [.s ⟨(some 34), .bin .add (.t 17) (.c (.int .i64 1)), []⟩,
  .s ⟨(some 17), .mv (.t 34), []⟩])))))))
 (.seq (.reg [.s ⟨(some 4), .mv (.c (.bool true)), []⟩])
 .ret))))⟩
theorem s12 : slimF Try.prog Try.f12 = some a12.fn := by kernel_rfl
def a14 : XFun := ⟨26, [.t 4],
 (.seq (.reg [.s ⟨(some 4), .mv (.c (.bool false)), []⟩])
 (.seq (.seq (.reg [.s ⟨(some 6), .mv (.t 0), []⟩,
  .s ⟨(some 7), .lenL (.t 6), []⟩,
  .s ⟨(some 8), .mv (.t 1), []⟩,
  .s ⟨(some 9), .lenL (.t 8), []⟩,
  .s ⟨(some 10), .bin .neq (.t 7) (.t 9), []⟩])
 (.cond (.t 10) (.seq (.reg [.s ⟨(some 4), .mv (.c (.bool false)), []⟩])
 .ret)
 .skip))
 (.seq (.seq (.reg [.s ⟨(some 5), .mv (.c (.int .i64 0)), []⟩])
 (.block 0 (.loop (.seq (.seq (.reg [.s ⟨(some 11), .mv (.t 5), []⟩,
  .s ⟨(some 12), .mv (.t 0), []⟩,
  .s ⟨(some 13), .lenL (.t 12), []⟩,
  .s ⟨(some 14), .bin .lss (.t 11) (.t 13), []⟩])
 (.cond (.t 14) .skip
 (.exit 0)))
 (.seq (.block 1 (.seq (.par [.s ⟨(some 17), .mv (.t 0), []⟩,
  .s ⟨(some 18), .mv (.t 5), []⟩,
  .s ⟨(some 19), .idx 2 (.t 17) (.t 18), []⟩,
  .s ⟨(some 20), .load true 2 (.t 19), []⟩,
  .s ⟨(some 21), .mv (.t 1), []⟩,
  .s ⟨(some 22), .mv (.t 5), []⟩,
  .s ⟨(some 23), .idx 2 (.t 21) (.t 22), []⟩,
  .s ⟨(some 24), .load true 2 (.t 23), []⟩,
  .s ⟨(some 25), .aeq true [0, 0] (.t 20) (.t 24), []⟩])
 (.cond (.t 25) (.seq (.reg [.s ⟨(some 4), .mv (.c (.bool false)), []⟩])
 .ret)
 .skip)))
 (.reg [.s ⟨(some 15), .mv (.t 5), []⟩,
  .s ⟨(some 16), .bin .add (.t 15) (.c (.int .i64 1)), []⟩,
  .s ⟨(some 5), .mv (.t 16), []⟩]))))))
 (.seq (.reg [.s ⟨(some 4), .mv (.c (.bool true)), []⟩])
 .ret))))⟩
theorem s14 : slimF Try.prog Try.f14 = some a14.fn := by kernel_rfl
def a15 : XFun := ⟨11, [.t 2],
 (.seq (.reg [.s ⟨(some 2), .mv (.c (.bool false)), []⟩])
 (.seq (.reg [.s ⟨(some 6), .mv (.t 0), []⟩,
  .s ⟨(some 7), .call 28 [(.t 6)], []⟩,
  .s ⟨(some 5), .mv (.t 7), []⟩,
  .s ⟨(some 8), .ext 0 (.t 5), []⟩,
  .s ⟨(some 9), .ext 1 (.t 5), []⟩,
  .s ⟨(some 3), .mv (.t 8), []⟩,
  .s ⟨(some 4), .mv (.t 9), []⟩])
 (.seq (.reg [.s ⟨(some 10), .mv (.t 4), []⟩,
  .s ⟨(some 2), .mv (.t 10), []⟩])
 .ret)))⟩
theorem s15 : slimF Try.prog Try.f15 = some a15.fn := by kernel_rfl
def a18 : XFun := ⟨67, [.t 4, .t 5, .t 6],
 (.seq (.reg [.s ⟨(some 4), .mv (.c (.slice none 0 0)), []⟩,
  .s ⟨(some 5), .mv (.c (.int .i64 0)), []⟩,
  .s ⟨(some 6), .mv (.c (.int .i64 0)), []⟩])
 (.seq (.seq (.reg [.s ⟨(some 9), .mv (.t 1), []⟩,
  .s ⟨(some 10), .bin .lss (.t 9) (.c (.int .i64 0)), []⟩,
  .s ⟨(some 11), .mv (.t 10), []⟩,
  .g 11 false [⟨(some 12), .mv (.t 1), []⟩,
   ⟨(some 13), .mv (.t 0), []⟩,
   ⟨(some 14), .lenL (.t 13), []⟩,
   ⟨(some 15), .bin .gtr (.t 12) (.t 14), []⟩],
  .s ⟨(some 16), .pick (.t 11) (.c (.bool true)) (.t 15), []⟩])
 (.cond (.t 16) (.seq (.reg [.s ⟨(some 4), .mv (.c (.slice none 0 0)), []⟩,
  .s ⟨(some 5), .mv (.c (.int .i64 0)), []⟩,
  .s ⟨(some 6), .mv (.c (.int .i64 1)), []⟩])
 .ret)
 .skip))
 (.seq (.reg [.s ⟨(some 18), .mv (.t 0), []⟩,
  .s ⟨(some 19), .mv (.t 1), []⟩,
  .s ⟨(some 20), .call 30 [(.t 18), (.t 19)], []⟩,
  .s ⟨(some 17), .mv (.t 20), []⟩,
  .s ⟨(some 21), .ext 0 (.t 17), []⟩,
  .s ⟨(some 22), .ext 1 (.t 17), []⟩,
  .s ⟨(some 23), .ext 2 (.t 17), []⟩,
  .s ⟨(some 7), .mv (.t 21), []⟩,
  .s ⟨(some 5), .mv (.t 22), []⟩,
  .s ⟨(some 6), .mv (.t 23), []⟩])
 (.seq (.seq (.reg [.s ⟨(some 24), .mv (.t 6), []⟩,
  .s ⟨(some 25), .bin .neq (.t 24) (.c (.int .i64 0)), []⟩,
  .s ⟨(some 26), .mv (.t 25), []⟩,
  .g 26 false [⟨(some 27), .mv (.t 7), []⟩,
   ⟨(some 28), .bin .gtr (.t 27) (.c (.int .u64 16)), []⟩],
  .s ⟨(some 29), .pick (.t 26) (.c (.bool true)) (.t 28), []⟩])
 (.cond (.t 29) (.seq (.reg [.s ⟨(some 4), .mv (.c (.slice none 0 0)), []⟩,
  .s ⟨(some 5), .mv (.c (.int .i64 0)), []⟩,
  .s ⟨(some 6), .mv (.c (.int .i64 5)), []⟩])
 .ret)
 .skip))
 (.seq (.seq (.reg [.s ⟨(some 30), .mv (.t 7), []⟩,
  .s ⟨(some 31), .mv (.c (.int .u64 0)), []⟩])
 (.block 0 (.loop (.seq (.reg [.s ⟨(some 32), .bin .lss (.t 31) (.t 30), []⟩])
 (.seq (.cond (.t 32) .skip
 (.exit 0))
 (.seq (.block 1 (.seq (.seq (.reg [.s ⟨(some 33), .mv (.t 5), []⟩,
  .s ⟨(some 34), .mv (.t 0), []⟩,
  .s ⟨(some 35), .lenL (.t 34), []⟩,
  .s ⟨(some 36), .bin .geq (.t 33) (.t 35), []⟩])
 (.cond (.t 36) (.seq (.reg [.s ⟨(some 4), .mv (.c (.slice none 0 0)), []⟩,
  .s ⟨(some 5), .mv (.c (.int .i64 0)), []⟩,
  .s ⟨(some 6), .mv (.c (.int .i64 5)), []⟩])
 .ret)
 .skip))
 (.seq (.reg [.s ⟨(some 37), .mv (.t 0), []⟩,
  .s ⟨(some 38), .mv (.t 5), []⟩,
  .s ⟨(some 39), .idx 1 (.t 37) (.t 38), []⟩,
  .s ⟨(some 40), .load false 1 (.t 39), []⟩,
  .s ⟨(some 41), .build [(.int .u8 0), (.int .i64 0)] [(0, 1, (.t 40))], []⟩,
  .s ⟨(some 8), .alloc 48 [(.int .u8 0), (.int .i64 0)], []⟩,
  .s ⟨none, .store 2 (.t 8) (.t 41), []⟩])
 (.seq (.reg [.s ⟨(some 42), .mv (.t 5), []⟩,
  .s ⟨(some 43), .bin .add (.t 42) (.c (.int .i64 1)), []⟩,
  .s ⟨(some 5), .mv (.t 43), []⟩])
 (.seq (.seq (.reg [.s ⟨(some 44), .faddr 0 (.t 8), []⟩,
  .s ⟨(some 45), .load false 1 (.t 44), []⟩,
  .s ⟨(some 46), .call 24 [(.t 45)], []⟩])
 (.cond (.t 46) (.seq (.reg [.s ⟨(some 48), .mv (.t 0), []⟩,
  .s ⟨(some 49), .mv (.t 5), []⟩,
  .s ⟨(some 50), .call 31 [(.t 48), (.t 49)], []⟩,
  .s ⟨(some 47), .mv (.t 50), []⟩,
  .s ⟨(some 51), .ext 0 (.t 47), []⟩,
  .s ⟨(some 52), .ext 1 (.t 47), []⟩,
  .s ⟨(some 53), .ext 2 (.t 47), []⟩,
  .s ⟨(some 54), .faddr 1 (.t 8), []⟩,
  .s ⟨none, .store 1 (.t 54) (.t 51), []⟩,
  .s ⟨(some 5), .mv (.t 52), []⟩,
  .s ⟨(some 6), .mv (.t 53), []⟩])
 (.seq (.reg [.s ⟨(some 55), .mv (.t 6), []⟩,
  .s ⟨(some 56), .bin .neq (.t 55) (.c (.int .i64 0)), []⟩])
 (.cond (.t 56) (.seq (.reg [.s ⟨(some 4), .mv (.c (.slice none 0 0)), []⟩,
  .s ⟨(some 5), .mv (.c (.int .i64 0)), []⟩,
  .s ⟨(some 6), .mv (.c (.int .i64 5)), []⟩])
 .ret)
 .skip)))
 .skip))
 (.reg [.s ⟨(some 57), .mv (.t 4), []⟩,
  .s ⟨(some 58), .load true 2 (.t 8), []⟩,
  .s ⟨(some 59), .bslice 48 1 [(.int .u8 0), (.int .i64 0)] [(0, 2, (.t 58))], []⟩,
  .s ⟨(some 60), .app 48 2 16 (.t 57) (.t 59), []⟩,
  .s ⟨(some 4), .mv (.t 60), []⟩]))))))
 (.reg [.s ⟨(some 61), .bin .add (.t 31) (.c (.int .u64 1)), []⟩,
  .s ⟨(some 31), .mv (.t 61), []⟩])))))))
 (.seq (.seq (.reg [.s ⟨(some 62), .mv (.t 4), []⟩,
  .s ⟨(some 63), .call 15 [(.t 62)], []⟩,
  .s ⟨(some 64), .un .not (.t 63), []⟩])
 (.cond (.t 64) (.seq (.reg [.s ⟨(some 4), .mv (.c (.slice none 0 0)), []⟩,
  .s ⟨(some 5), .mv (.c (.int .i64 0)), []⟩,
  .s ⟨(some 6), .mv (.c (.int .i64 5)), []⟩])
 .ret)
 .skip))
 (.seq (.reg [.s ⟨(some 65), .mv (.t 4), []⟩,
  .s ⟨(some 66), .mv (.t 5), []⟩,
  .s ⟨(some 4), .mv (.t 65), []⟩,
  .s ⟨(some 5), .mv (.t 66), []⟩,
  .s ⟨(some 6), .mv (.c (.int .i64 0)), []⟩])
 .ret)))))))⟩
theorem s18 : slimF Try.prog Try.f18 = some a18.fn := by kernel_rfl
def a20 : XFun := ⟨26, [.t 4],
 (.seq (.reg [.s ⟨(some 3), .box 42 (.t 1), []⟩,
  .s ⟨(some 4), .mv (.c (.bool false)), []⟩])
 (.seq (.reg [.s ⟨(some 5), .mv (.t 0), []⟩,
  .s ⟨(some 6), .lenL (.t 5), []⟩,
  .s ⟨(some 7), .bin .gtr (.t 6) (.c (.int .i64 1000)), []⟩,
  .s ⟨(some 8), .mv (.t 7), []⟩,
  .g 8 false [⟨(some 9), .faddr 0 (.t 3), []⟩,
   ⟨(some 10), .load false 1 (.t 9), []⟩,
   ⟨(some 11), .lenL (.t 10), []⟩,
   ⟨(some 12), .bin .gtr (.t 11) (.c (.int .i64 1000)), []⟩],
  .s ⟨(some 13), .pick (.t 8) (.c (.bool true)) (.t 12), []⟩,
  .s ⟨(some 14), .mv (.t 13), []⟩,
  .g 14 false [⟨(some 15), .faddr 1 (.t 3), []⟩,
   ⟨(some 16), .load false 1 (.t 15), []⟩,
   ⟨(some 17), .lenL (.t 16), []⟩,
   ⟨(some 18), .bin .gtr (.t 17) (.c (.int .i64 1000)), []⟩],
  .s ⟨(some 19), .pick (.t 14) (.c (.bool true)) (.t 18), []⟩,
  .s ⟨(some 20), .mv (.t 19), []⟩,
  .g 20 false [⟨(some 21), .faddr 3 (.t 3), []⟩,
   ⟨(some 22), .load false 1 (.t 21), []⟩,
   ⟨(some 23), .lenL (.t 22), []⟩,
   ⟨(some 24), .bin .gtr (.t 23) (.c (.int .i64 65536)), []⟩],
  .s ⟨(some 25), .pick (.t 20) (.c (.bool true)) (.t 24), []⟩,
  .s ⟨(some 4), .mv (.t 25), []⟩])
 .ret))⟩
theorem s20 : slimF Try.prog Try.f20 = some a20.fn := by kernel_rfl
def a21 : XFun := ⟨18, [.t 2],
 (.seq (.reg [.s ⟨(some 2), .mv (.c (.slice none 0 0)), []⟩])
 (.seq (.reg [.s ⟨(some 3), .mv (.c (.slice none 0 0)), []⟩])
 (.seq (.seq (.reg [.s ⟨(some 6), .mv (.t 0), []⟩,
  .s ⟨(some 7), .lenL (.t 6), []⟩,
  .s ⟨(some 8), .mv (.c (.int .i64 0)), []⟩])
 (.block 0 (.loop (.seq (.reg [.s ⟨(some 9), .bin .lss (.t 8) (.t 7), []⟩])
 (.seq (.cond (.t 9) .skip
 (.exit 0))
 (.seq (.block 1 (.seq (.reg [.s ⟨(some 10), .idx 1 (.t 6) (.t 8), []⟩,
  .s ⟨(some 11), .load false 1 (.t 10), []⟩,
  .s ⟨(some 5), .mv (.t 11), []⟩])
 (.reg [.s ⟨(some 12), .mv (.t 3), []⟩,
  .s ⟨(some 13), .mv (.t 5), []⟩,
  .s ⟨(some 14), .bslice 5 1 [(.int .u8 0)] [(0, 1, (.t 13))], []⟩,
  .s ⟨(some 15), .app 5 1 1 (.t 12) (.t 14), []⟩,
  .s ⟨(some 3), .mv (.t 15), []⟩])))
 (.reg [.s ⟨(some 16), .bin .add (.t 8) (.c (.int .i64 1)), []⟩,
  .s ⟨(some 8), .mv (.t 16), []⟩])))))))
 (.seq (.reg [.s ⟨(some 17), .mv (.t 3), []⟩,
  .s ⟨(some 2), .mv (.t 17), []⟩])
 .ret))))⟩
theorem s21 : slimF Try.prog Try.f21 = some a21.fn := by kernel_rfl
def a22 : XFun := ⟨56, [.t 4, .t 5],
 (.seq (.reg [.s ⟨(some 3), .box 42 (.t 1), []⟩,
  .s ⟨(some 4), .mv (.c (.int .i64 0)), []⟩,
  .s ⟨(some 5), .mv (.c (.int .i64 0)), []⟩])
 (.seq (.reg [.s ⟨(some 14), .mv (.t 0), []⟩,
  .s ⟨(some 15), .call 28 [(.t 14)], []⟩,
  .s ⟨(some 13), .mv (.t 15), []⟩,
  .s ⟨(some 16), .ext 0 (.t 13), []⟩,
  .s ⟨(some 17), .ext 1 (.t 13), []⟩,
  .s ⟨(some 6), .mv (.t 16), []⟩,
  .s ⟨(some 7), .mv (.t 17), []⟩])
 (.seq (.seq (.reg [.s ⟨(some 18), .mv (.t 7), []⟩,
  .s ⟨(some 19), .un .not (.t 18), []⟩])
 (.cond (.t 19) (.seq (.reg [.s ⟨(some 4), .mv (.c (.int .i64 0)), []⟩,
  .s ⟨(some 5), .mv (.c (.int .i64 1)), []⟩])
 .ret)
 .skip))
 (.seq (.reg [.s ⟨(some 20), .load true 4 (.t 3), []⟩,
  .s ⟨(some 21), .build [(.slice none 0 0), (.slice none 0 0), (.int .i64 0), (.slice none 0 0), (.slice none 0 0)] [(0, 4, (.t 20))], []⟩,
  .s ⟨(some 22), .box 65 (.t 21), []⟩,
  .s ⟨(some 8), .mv (.t 22), []⟩])
 (.seq (.seq (.reg [.s ⟨(some 23), .mv (.t 6), []⟩,
  .s ⟨(some 24), .lenL (.t 23), []⟩,
  .s ⟨(some 25), .mv (.c (.int .i64 0)), []⟩])
 (.block 0 (.loop (.seq (.reg [.s ⟨(some 26), .bin .lss (.t 25) (.t 24), []⟩])
 (.seq (.cond (.t 26) .skip
 (.exit 0))
 (.seq (.block 1 (.seq (.reg [.s ⟨(some 27), .idx 1 (.t 23) (.t 25), []⟩,
  .s ⟨(some 28), .load false 1 (.t 27), []⟩,
  .s ⟨(some 10), .mv (.t 28), []⟩])
 (.seq (.reg [.s ⟨(some 30), .mv (.t 10), []⟩,
  .s ⟨(some 31), .mv (.t 8), []⟩,
  .s ⟨(some 32), .inv (.t 30) "theodolite/expr.lays" [(.t 31)], []⟩,
  .s ⟨(some 29), .mv (.t 32), []⟩,
  .s ⟨(some 33), .ext 0 (.t 29), []⟩,
  .s ⟨(some 34), .ext 1 (.t 29), []⟩,
  .s ⟨(some 11), .mv (.t 33), []⟩,
  .s ⟨(some 12), .mv (.t 34), []⟩])
 (.seq (.seq (.reg [.s ⟨(some 35), .mv (.t 12), []⟩,
  .s ⟨(some 36), .un .not (.t 35), []⟩])
 (.cond (.t 36) (.seq (.reg [.s ⟨(some 4), .mv (.c (.int .i64 0)), []⟩,
  .s ⟨(some 5), .mv (.c (.int .i64 4)), []⟩])
 .ret)
 .skip))
 (.reg [.s ⟨(some 37), .mv (.t 8), []⟩,
  .s ⟨(some 38), .mv (.t 8), []⟩,
  .s ⟨(some 39), .nilchk (.t 38), []⟩,
  .s ⟨(some 40), .faddr 4 (.t 39), []⟩,
  .s ⟨(some 41), .load false 1 (.t 40), []⟩,
  .s ⟨(some 42), .mv (.t 11), []⟩,
  .s ⟨(some 43), .bslice 2 1 [(.int .i64 0)] [(0, 1, (.t 42))], []⟩,
  .s ⟨(some 44), .app 2 1 8 (.t 41) (.t 43), []⟩,
  .s ⟨(some 45), .nilchk (.t 37), []⟩,
  .s ⟨(some 46), .faddr 4 (.t 45), []⟩,
  .s ⟨none, .store 1 (.t 46) (.t 44), []⟩])))))
 (.reg [.s ⟨(some 47), .bin .add (.t 25) (.c (.int .i64 1)), []⟩,
  .s ⟨(some 25), .mv (.t 47), []⟩])))))))
 (.seq (.seq (.reg [.s ⟨(some 48), .mv (.t 8), []⟩,
  .s ⟨(some 49), .nilchk (.t 48), []⟩,
  .s ⟨(some 50), .faddr 4 (.t 49), []⟩,
  .s ⟨(some 51), .load false 1 (.t 50), []⟩,
  .s ⟨(some 52), .lenL (.t 51), []⟩,
  .s ⟨(some 53), .bin .eql (.t 52) (.c (.int .i64 0)), []⟩])
 (.cond (.t 53) (.seq (.reg [.s ⟨(some 4), .mv (.c (.int .i64 0)), []⟩,
  .s ⟨(some 5), .mv (.c (.int .i64 4)), []⟩])
 .ret)
 .skip))
 (.seq (.reg [.s ⟨(some 54), .mv (.t 8), []⟩,
  .s ⟨(some 55), .call 34 [(.t 54)], []⟩,
  .s ⟨(some 4), .mv (.t 55), []⟩,
  .s ⟨(some 5), .mv (.c (.int .i64 0)), []⟩])
 .ret)))))))⟩
theorem s22 : slimF Try.prog Try.f22 = some a22.fn := by kernel_rfl
def a23 : XFun := ⟨23, [.t 4],
 (.seq (.reg [.s ⟨(some 4), .mv (.c (.slice none 0 0)), []⟩])
 (.seq (.reg [.s ⟨(some 6), .mv (.t 0), []⟩,
  .s ⟨(some 7), .call 35 [(.t 6)], []⟩,
  .s ⟨(some 5), .mv (.t 7), []⟩])
 (.seq (.block 0 (.loop (.seq (.seq (.reg [.s ⟨(some 8), .mv (.t 1), []⟩,
  .s ⟨(some 9), .bin .gtr (.t 8) (.c (.int .u64 127)), []⟩])
 (.cond (.t 9) .skip
 (.exit 0)))
 (.block 1 (.seq (.reg [.s ⟨(some 10), .mv (.t 5), []⟩,
  .s ⟨(some 11), .mv (.t 1), []⟩,
  .s ⟨(some 12), .cint .u8 (.t 11), []⟩,
  .s ⟨(some 13), .bin .or (.t 12) (.c (.int .u8 128)), []⟩,
  .s ⟨(some 14), .bslice 5 1 [(.int .u8 0)] [(0, 1, (.t 13))], []⟩,
  .s ⟨(some 15), .app 5 1 1 (.t 10) (.t 14), []⟩,
  .s ⟨(some 5), .mv (.t 15), []⟩])
 (.reg [.s ⟨(some 16), .mv (.t 1), []⟩,
  .s ⟨(some 17), .bin .shr (.t 16) (.c (.int .u64 7)), []⟩,
  .s ⟨(some 1), .mv (.t 17), []⟩]))))))
 (.seq (.reg [.s ⟨(some 18), .mv (.t 5), []⟩,
  .s ⟨(some 19), .mv (.t 1), []⟩,
  .s ⟨(some 20), .cint .u8 (.t 19), []⟩,
  .s ⟨(some 21), .bslice 5 1 [(.int .u8 0)] [(0, 1, (.t 20))], []⟩,
  .s ⟨(some 22), .app 5 1 1 (.t 18) (.t 21), []⟩,
  .s ⟨(some 4), .mv (.t 22), []⟩])
 .ret))))⟩
theorem s23 : slimF Try.prog Try.f23 = some a23.fn := by kernel_rfl
def a24 : XFun := ⟨9, [.t 2],
 (.seq (.reg [.s ⟨(some 2), .mv (.c (.bool false)), []⟩])
 (.seq (.reg [.s ⟨(some 3), .mv (.t 0), []⟩,
  .s ⟨(some 4), .bin .geq (.t 3) (.c (.int .u8 1)), []⟩,
  .s ⟨(some 5), .mv (.t 4), []⟩,
  .g 5 true [⟨(some 6), .mv (.t 0), []⟩,
   ⟨(some 7), .bin .leq (.t 6) (.c (.int .u8 3)), []⟩],
  .s ⟨(some 8), .pick (.t 5) (.t 7) (.c (.bool false)), []⟩,
  .s ⟨(some 2), .mv (.t 8), []⟩])
 .ret))⟩
theorem s24 : slimF Try.prog Try.f24 = some a24.fn := by kernel_rfl
def a25 : XFun := ⟨28, [.t 4],
 (.seq (.reg [.s ⟨(some 4), .mv (.c (.slice none 0 0)), []⟩])
 (.seq (.reg [.s ⟨(some 6), .mv (.t 0), []⟩,
  .s ⟨(some 7), .call 35 [(.t 6)], []⟩,
  .s ⟨(some 5), .mv (.t 7), []⟩])
 (.seq (.block 0 (.loop (.seq (.seq (.reg [.s ⟨(some 8), .mv (.t 1), []⟩,
  .s ⟨(some 9), .bin .gtr (.t 8) (.c (.int .i64 63)), []⟩,
  .s ⟨(some 10), .mv (.t 9), []⟩,
  .g 10 false [⟨(some 11), .mv (.t 1), []⟩,
   ⟨(some 12), .bin .lss (.t 11) (.c (.int .i64 (-64))), []⟩],
  .s ⟨(some 13), .pick (.t 10) (.c (.bool true)) (.t 12), []⟩])
 (.cond (.t 13) .skip
 (.exit 0)))
 (.block 1 (.seq (.reg [.s ⟨(some 14), .mv (.t 5), []⟩,
  .s ⟨(some 15), .mv (.t 1), []⟩,
  .s ⟨(some 16), .cint .u8 (.t 15), []⟩,
  .s ⟨(some 17), .bin .or (.t 16) (.c (.int .u8 128)), []⟩,
  .s ⟨(some 18), .bslice 5 1 [(.int .u8 0)] [(0, 1, (.t 17))], []⟩,
  .s ⟨(some 19), .app 5 1 1 (.t 14) (.t 18), []⟩,
  .s ⟨(some 5), .mv (.t 19), []⟩])
 (.reg [.s ⟨(some 20), .mv (.t 1), []⟩,
  .s ⟨(some 21), .bin .shr (.t 20) (.c (.int .u64 7)), []⟩,
  .s ⟨(some 1), .mv (.t 21), []⟩]))))))
 (.seq (.reg [.s ⟨(some 22), .mv (.t 5), []⟩,
  .s ⟨(some 23), .mv (.t 1), []⟩,
  .s ⟨(some 24), .cint .u8 (.t 23), []⟩,
  .s ⟨(some 25), .bin .and (.t 24) (.c (.int .u8 127)), []⟩,
  .s ⟨(some 26), .bslice 5 1 [(.int .u8 0)] [(0, 1, (.t 25))], []⟩,
  .s ⟨(some 27), .app 5 1 1 (.t 22) (.t 26), []⟩,
  .s ⟨(some 4), .mv (.t 27), []⟩])
 .ret))))⟩
theorem s25 : slimF Try.prog Try.f25 = some a25.fn := by kernel_rfl
def a28 : XFun := ⟨54, [.t 2, .t 3],
 (.seq (.reg [.s ⟨(some 2), .mv (.c (.slice none 0 0)), []⟩,
  .s ⟨(some 3), .mv (.c (.bool false)), []⟩])
 (.seq (.reg [.s ⟨(some 4), .mv (.c (.slice none 0 0)), []⟩])
 (.seq (.reg [.s ⟨(some 5), .mv (.c (.int .i64 0)), []⟩])
 (.seq (.seq (.reg [.s ⟨(some 10), .mv (.t 0), []⟩,
  .s ⟨(some 11), .lenL (.t 10), []⟩,
  .s ⟨(some 12), .mv (.c (.int .i64 0)), []⟩])
 (.block 0 (.loop (.seq (.reg [.s ⟨(some 13), .bin .lss (.t 12) (.t 11), []⟩])
 (.seq (.cond (.t 13) .skip
 (.exit 0))
 (.seq (.block 1 (.seq (.reg [.s ⟨(some 14), .idx 2 (.t 10) (.t 12), []⟩,
  .s ⟨(some 15), .load true 2 (.t 14), []⟩,
  .s ⟨(some 7), .alloc 48 [(.int .u8 0), (.int .i64 0)], []⟩,
  .s ⟨none, .store 2 (.t 7) (.t 15), []⟩])
 (.seq (.reg [.s ⟨(some 17), .load true 2 (.t 7), []⟩,
  .s ⟨(some 18), .call 39 [(.t 17)], []⟩,
  .s ⟨(some 16), .mv (.t 18), []⟩,
  .s ⟨(some 19), .ext 0 (.t 16), []⟩,
  .s ⟨(some 20), .ext 1 (.t 16), []⟩,
  .s ⟨(some 8), .mv (.t 19), []⟩,
  .s ⟨(some 9), .mv (.t 20), []⟩])
 (.seq (.seq (.reg [.s ⟨(some 21), .mv (.t 9), []⟩,
  .s ⟨(some 22), .un .not (.t 21), []⟩,
  .s ⟨(some 23), .mv (.t 22), []⟩,
  .g 23 false [⟨(some 24), .mv (.t 8), []⟩,
   ⟨(some 25), .inv (.t 24) "theodolite/expr.takes" [], []⟩,
   ⟨(some 26), .mv (.t 5), []⟩,
   ⟨(some 27), .bin .gtr (.t 25) (.t 26), []⟩],
  .s ⟨(some 28), .pick (.t 23) (.c (.bool true)) (.t 27), []⟩])
 (.cond (.t 28) (.seq (.reg [.s ⟨(some 2), .mv (.c (.slice none 0 0)), []⟩,
  .s ⟨(some 3), .mv (.c (.bool false)), []⟩])
 .ret)
 .skip))
 (.seq (.reg [.s ⟨(some 29), .mv (.t 5), []⟩,
  .s ⟨(some 30), .mv (.t 8), []⟩,
  .s ⟨(some 31), .inv (.t 30) "theodolite/expr.takes" [], []⟩,
  .s ⟨(some 32), .bin .sub (.c (.int .i64 1)) (.t 31), []⟩,
  .s ⟨(some 33), .bin .add (.t 29) (.t 32), []⟩,
  .s ⟨(some 5), .mv (.t 33), []⟩])
 (.seq (.seq (.reg [.s ⟨(some 34), .mv (.t 5), []⟩,
  .s ⟨(some 35), .bin .gtr (.t 34) (.c (.int .i64 8)), []⟩])
 (.cond (.t 35) (.seq (.reg [.s ⟨(some 2), .mv (.c (.slice none 0 0)), []⟩,
  .s ⟨(some 3), .mv (.c (.bool false)), []⟩])
 .ret)
 .skip))
 (.reg [.s ⟨(some 36), .mv (.t 4), []⟩,
  .s ⟨(some 37), .mv (.t 8), []⟩,
  .s ⟨(some 38), .bslice 67 1 [.nilIface] [(0, 1, (.t 37))], []⟩,
  .s ⟨(some 39), .app 67 1 16 (.t 36) (.t 38), []⟩,
  .s ⟨(some 4), .mv (.t 39), []⟩])))))))
 (.reg [.s ⟨(some 40), .bin .add (.t 12) (.c (.int .i64 1)), []⟩,
  .s ⟨(some 12), .mv (.t 40), []⟩])))))))
 (.seq (.reg [.s ⟨(some 41), .mv (.t 4), []⟩,
  .s ⟨(some 42), .mv (.t 0), []⟩,
  .s ⟨(some 43), .lenL (.t 42), []⟩,
  .s ⟨(some 44), .bin .leq (.t 43) (.c (.int .i64 16)), []⟩,
  .s ⟨(some 45), .mv (.t 44), []⟩,
  .g 45 true [⟨(some 46), .mv (.t 0), []⟩,
   ⟨(some 47), .lenL (.t 46), []⟩,
   ⟨(some 48), .bin .eql (.t 47) (.c (.int .i64 0)), []⟩,
   ⟨(some 49), .mv (.t 48), []⟩],
  .g 49 false [⟨(some 50), .mv (.t 5), []⟩,
   ⟨(some 51), .bin .eql (.t 50) (.c (.int .i64 1)), []⟩],
  .g 45 true [⟨(some 52), .pick (.t 49) (.c (.bool true)) (.t 51), []⟩],
  .s ⟨(some 53), .pick (.t 45) (.t 52) (.c (.bool false)), []⟩,
  .s ⟨(some 2), .mv (.t 41), []⟩,
  .s ⟨(some 3), .mv (.t 53), []⟩])
 .ret)))))⟩
theorem s28 : slimF Try.prog Try.f28 = some a28.fn := by kernel_rfl
def a30 : XFun := ⟨13, [.t 4, .t 5, .t 6],
 (.seq (.reg [.s ⟨(some 4), .mv (.c (.int .u64 0)), []⟩,
  .s ⟨(some 5), .mv (.c (.int .i64 0)), []⟩,
  .s ⟨(some 6), .mv (.c (.int .i64 0)), []⟩])
 (.seq (.reg [.s ⟨(some 7), .mv (.t 0), []⟩,
  .s ⟨(some 8), .mv (.t 1), []⟩,
  .s ⟨(some 9), .call 40 [(.t 7), (.t 8), (.fn 41), (.fn 23)], []⟩,
  .s ⟨(some 10), .ext 0 (.t 9), []⟩,
  .s ⟨(some 11), .ext 1 (.t 9), []⟩,
  .s ⟨(some 12), .ext 2 (.t 9), []⟩,
  .s ⟨(some 4), .mv (.t 10), []⟩,
  .s ⟨(some 5), .mv (.t 11), []⟩,
  .s ⟨(some 6), .mv (.t 12), []⟩])
 .ret))⟩
theorem s30 : slimF Try.prog Try.f30 = some a30.fn := by kernel_rfl
def a31 : XFun := ⟨13, [.t 4, .t 5, .t 6],
 (.seq (.reg [.s ⟨(some 4), .mv (.c (.int .i64 0)), []⟩,
  .s ⟨(some 5), .mv (.c (.int .i64 0)), []⟩,
  .s ⟨(some 6), .mv (.c (.int .i64 0)), []⟩])
 (.seq (.reg [.s ⟨(some 7), .mv (.t 0), []⟩,
  .s ⟨(some 8), .mv (.t 1), []⟩,
  .s ⟨(some 9), .call 42 [(.t 7), (.t 8), (.fn 43), (.fn 25)], []⟩,
  .s ⟨(some 10), .ext 0 (.t 9), []⟩,
  .s ⟨(some 11), .ext 1 (.t 9), []⟩,
  .s ⟨(some 12), .ext 2 (.t 9), []⟩,
  .s ⟨(some 4), .mv (.t 10), []⟩,
  .s ⟨(some 5), .mv (.t 11), []⟩,
  .s ⟨(some 6), .mv (.t 12), []⟩])
 .ret))⟩
theorem s31 : slimF Try.prog Try.f31 = some a31.fn := by kernel_rfl
def a34 : XFun := ⟨28, [.t 2],
 (.seq (.reg [.s ⟨(some 2), .mv (.c (.int .i64 0)), []⟩])
 (.seq (.reg [.s ⟨(some 5), .mv (.t 0), []⟩,
  .s ⟨(some 6), .nilchk (.t 5), []⟩,
  .s ⟨(some 7), .faddr 4 (.t 6), []⟩,
  .s ⟨(some 8), .load false 1 (.t 7), []⟩,
  .s ⟨(some 9), .lenL (.t 8), []⟩,
  .s ⟨(some 10), .bin .sub (.t 9) (.c (.int .i64 1)), []⟩,
  .s ⟨(some 3), .mv (.t 10), []⟩])
 (.seq (.reg [.s ⟨(some 11), .mv (.t 0), []⟩,
  .s ⟨(some 12), .nilchk (.t 11), []⟩,
  .s ⟨(some 13), .faddr 4 (.t 12), []⟩,
  .s ⟨(some 14), .load false 1 (.t 13), []⟩,
  .s ⟨(some 15), .mv (.t 3), []⟩,
  .s ⟨(some 16), .idx 1 (.t 14) (.t 15), []⟩,
  .s ⟨(some 17), .load false 1 (.t 16), []⟩,
  .s ⟨(some 4), .mv (.t 17), []⟩])
 (.seq (.reg [.s ⟨(some 18), .mv (.t 0), []⟩,
  .s ⟨(some 19), .mv (.t 0), []⟩,
  .s ⟨(some 20), .nilchk (.t 19), []⟩,
  .s ⟨(some 21), .faddr 4 (.t 20), []⟩,
  .s ⟨(some 22), .load false 1 (.t 21), []⟩,
  .s ⟨(some 23), .mv (.t 3), []⟩,
  .s ⟨(some 24), .slc 1 (.t 22) none (some (.t 23)) none, []⟩,
  .s ⟨(some 25), .nilchk (.t 18), []⟩,
  .s ⟨(some 26), .faddr 4 (.t 25), []⟩,
  .s ⟨none, .store 1 (.t 26) (.t 24), []⟩])
 (.seq (.reg [.s ⟨(some 27), .mv (.t 4), []⟩,
  .s ⟨(some 2), .mv (.t 27), []⟩])
 .ret)))))⟩
theorem s34 : slimF Try.prog Try.f34 = some a34.fn := by kernel_rfl
def a35 : XFun := ⟨8, [.t 2],
 (.seq (.reg [.s ⟨(some 2), .mv (.c (.slice none 0 0)), []⟩])
 (.seq (.seq (.reg [.s ⟨(some 3), .mv (.t 0), []⟩,
  .s ⟨(some 4), .snil false (.t 3), []⟩])
 (.cond (.t 4) (.seq (.reg [.s ⟨(some 2), .mv (.c (.slice none 0 0)), []⟩])
 .ret)
 .skip))
 (.seq (.reg [.s ⟨(some 5), .bslice 5 0 [] [], []⟩,
  .s ⟨(some 6), .mv (.t 0), []⟩,
  .s ⟨(some 7), .app 5 1 1 (.t 5) (.t 6), []⟩,
  .s ⟨(some 2), .mv (.t 7), []⟩])
 .ret)))⟩
theorem s35 : slimF Try.prog Try.f35 = some a35.fn := by kernel_rfl
def a37 : XFun := ⟨38, [.t 8],
 (.seq (.reg [.s ⟨(some 8), .mv (.c (.slice none 0 0)), []⟩])
 (.seq (.reg [.s ⟨(some 12), .mv (.t 0), []⟩,
  .s ⟨(some 13), .call 21 [(.t 12)], []⟩,
  .s ⟨(some 9), .mv (.t 13), []⟩])
 (.seq (.seq (.reg [.s ⟨(some 10), .mv (.c (.int .i64 0)), []⟩])
 (.block 0 (.loop (.seq (.seq (.reg [.s ⟨(some 14), .mv (.t 10), []⟩,
  .s ⟨(some 15), .mv (.t 3), []⟩,
  .s ⟨(some 16), .bin .lss (.t 14) (.t 15), []⟩])
 (.cond (.t 16) .skip
 (.exit 0)))
 (.seq (.block 1 (.seq (.reg [.s ⟨(some 19), .mv (.t 1), []⟩,
  .s ⟨(some 20), .bin .rem (.t 19) (.c (.int .u64 128)), []⟩,
  .s ⟨(some 11), .mv (.t 20), []⟩])
 (.seq (.reg [.s ⟨(some 21), .mv (.t 1), []⟩,
  .s ⟨(some 22), .bin .quo (.t 21) (.c (.int .u64 128)), []⟩,
  .s ⟨(some 1), .mv (.t 22), []⟩])
 (.seq (.seq (.reg [.s ⟨(some 23), .mv (.t 2), []⟩])
 (.cond (.t 23) (.reg [.s ⟨(some 24), .mv (.t 1), []⟩,
  .s ⟨(some 25), .bin .or (.t 24) (.c (.int .u64 18302628885633695744)), []⟩,
  .s ⟨(some 1), .mv (.t 25), []⟩])
 .skip))
 (.seq (.seq (.reg [.s ⟨(some 26), .mv (.t 10), []⟩,
  .s ⟨(some 27), .mv (.t 3), []⟩,
  .s ⟨(some 28), .bin .sub (.t 27) (.c (.int .i64 1)), []⟩,
  .s ⟨(some 29), .bin .lss (.t 26) (.t 28), []⟩])
 (.cond (.t 29) (.reg [.s ⟨(some 30), .mv (.t 11), []⟩,
  .s ⟨(some 31), .bin .add (.t 30) (.c (.int .u64 128)), []⟩,
  .s ⟨(some 11), .mv (.t 31), []⟩])
 .skip))
 (.reg [.s ⟨(some 32), .mv (.t 9), []⟩,
  .s ⟨(some 33), .mv (.t 11), []⟩,
  .s ⟨(some 34), .cint .u8 (.t 33), []⟩,
  .s ⟨(some 35), .bslice 5 1 [(.int .u8 0)] [(0, 1, (.t 34))], []⟩,
  .s ⟨(some 36), .app 5 1 1 (.t 32) (.t 35), []⟩,
  .s ⟨(some 9), .mv (.t 36), []⟩]))))))
 (.reg [.s ⟨(some 17), .mv (.t 10), []⟩,
  .s ⟨(some 18), .bin .add (.t 17) (.c (.int .i64 1)), []⟩,
  .s ⟨(some 10), .mv (.t 18), []⟩]))))))
 (.seq (.reg [.s ⟨(some 37), .mv (.t 9), []⟩,
  .s ⟨(some 8), .mv (.t 37), []⟩])
 .ret))))⟩
def a39 : XFun := ⟨50, [.t 2, .t 3],
 (.seq (.reg [.s ⟨(some 1), .box 48 (.t 0), []⟩,
  .s ⟨(some 2), .mv (.c .nilIface), []⟩,
  .s ⟨(some 3), .mv (.c (.bool false)), []⟩])
 (.seq (.seq (.reg [.s ⟨(some 4), .faddr 0 (.t 1), []⟩,
  .s ⟨(some 5), .load false 1 (.t 4), []⟩])
 (.block 0 (.seq (.reg [.s ⟨(some 7), .bin .eql (.t 5) (.c (.int .u8 1)), []⟩,
  .s ⟨(some 6), .mv (.t 7), []⟩])
 (.cond (.t 6) (.seq (.reg [.s ⟨(some 8), .faddr 1 (.t 1), []⟩,
  .s ⟨(some 9), .load false 1 (.t 8), []⟩,
  .s ⟨(some 10), .mkif 86 (.t 9), []⟩,
  .s ⟨(some 2), .mv (.t 10), []⟩,
  .s ⟨(some 3), .mv (.c (.bool true)), []⟩])
 .ret)
 (.seq (.reg [.s ⟨(some 12), .bin .eql (.t 5) (.c (.int .u8 2)), []⟩,
  .s ⟨(some 11), .mv (.t 12), []⟩])
 (.cond (.t 11) (.seq (.par [.s ⟨(some 13), .faddr 1 (.t 1), []⟩,
  .s ⟨(some 14), .load false 1 (.t 13), []⟩,
  .s ⟨(some 15), .mkif 87 (.t 14), []⟩,
  .s ⟨(some 16), .faddr 1 (.t 1), []⟩,
  .s ⟨(some 17), .load false 1 (.t 16), []⟩,
  .s ⟨(some 18), .bin .geq (.t 17) (.c (.int .i64 0)), []⟩,
  .s ⟨(some 19), .mv (.t 18), []⟩,
  .g 19 true [⟨(some 20), .faddr 1 (.t 1), []⟩,
   ⟨(some 21), .load false 1 (.t 20), []⟩,
   ⟨(some 22), .bin .lss (.t 21) (.c (.int .i64 16)), []⟩],
  .s ⟨(some 23), .pick (.t 19) (.t 22) (.c (.bool false)), []⟩,
  .s ⟨(some 2), .mv (.t 15), []⟩,
  .s ⟨(some 3), .mv (.t 23), []⟩])
 .ret)
 (.seq (.reg [.s ⟨(some 25), .bin .eql (.t 5) (.c (.int .u8 3)), []⟩,
  .s ⟨(some 24), .mv (.t 25), []⟩])
 (.cond (.t 24) (.seq (.reg [.s ⟨(some 26), .faddr 1 (.t 1), []⟩,
  .s ⟨(some 27), .load false 1 (.t 26), []⟩,
  .s ⟨(some 28), .mkif 88 (.t 27), []⟩,
  .s ⟨(some 2), .mv (.t 28), []⟩,
  .s ⟨(some 3), .mv (.c (.bool true)), []⟩])
 .ret)
 (.seq (.reg [.s ⟨(some 30), .bin .eql (.t 5) (.c (.int .u8 4)), []⟩,
  .s ⟨(some 29), .mv (.t 30), []⟩])
 (.cond (.t 29) (.seq (.par [.s ⟨(some 31), .build [] [], []⟩,
  .s ⟨(some 32), .mkif 90 (.t 31), []⟩,
  .s ⟨(some 33), .faddr 1 (.t 1), []⟩,
  .s ⟨(some 34), .load false 1 (.t 33), []⟩,
  .s ⟨(some 35), .bin .eql (.t 34) (.c (.int .i64 0)), []⟩,
  .s ⟨(some 2), .mv (.t 32), []⟩,
  .s ⟨(some 3), .mv (.t 35), []⟩])
 .ret)
 (.seq (.reg [.s ⟨(some 37), .bin .eql (.t 5) (.c (.int .u8 5)), []⟩,
  .s ⟨(some 36), .mv (.t 37), []⟩])
 (.cond (.t 36) (.seq (.par [.s ⟨(some 38), .build [] [], []⟩,
  .s ⟨(some 39), .mkif 91 (.t 38), []⟩,
  .s ⟨(some 40), .faddr 1 (.t 1), []⟩,
  .s ⟨(some 41), .load false 1 (.t 40), []⟩,
  .s ⟨(some 42), .bin .eql (.t 41) (.c (.int .i64 0)), []⟩,
  .s ⟨(some 2), .mv (.t 39), []⟩,
  .s ⟨(some 3), .mv (.t 42), []⟩])
 .ret)
 (.seq (.reg [.s ⟨(some 44), .bin .eql (.t 5) (.c (.int .u8 6)), []⟩,
  .s ⟨(some 43), .mv (.t 44), []⟩])
 (.cond (.t 43) (.seq (.par [.s ⟨(some 45), .build [] [], []⟩,
  .s ⟨(some 46), .mkif 92 (.t 45), []⟩,
  .s ⟨(some 47), .faddr 1 (.t 1), []⟩,
  .s ⟨(some 48), .load false 1 (.t 47), []⟩,
  .s ⟨(some 49), .bin .eql (.t 48) (.c (.int .i64 0)), []⟩,
  .s ⟨(some 2), .mv (.t 46), []⟩,
  .s ⟨(some 3), .mv (.t 49), []⟩])
 .ret)
 .skip))))))))))))))
 (.seq (.reg [.s ⟨(some 2), .mv (.c .nilIface), []⟩,
  .s ⟨(some 3), .mv (.c (.bool false)), []⟩])
 .ret)))⟩
theorem s39 : slimF Try.prog Try.f39 = some a39.fn := by kernel_rfl
def a40 : XFun := ⟨52, [.t 8, .t 9, .t 10],
 (.seq (.reg [.s ⟨(some 8), .mv (.c (.int .u64 0)), []⟩,
  .s ⟨(some 9), .mv (.c (.int .i64 0)), []⟩,
  .s ⟨(some 10), .mv (.c (.int .i64 0)), []⟩])
 (.seq (.seq (.reg [.s ⟨(some 14), .mv (.t 1), []⟩,
  .s ⟨(some 15), .bin .lss (.t 14) (.c (.int .i64 0)), []⟩,
  .s ⟨(some 16), .mv (.t 15), []⟩,
  .g 16 false [⟨(some 17), .mv (.t 1), []⟩,
   ⟨(some 18), .mv (.t 0), []⟩,
   ⟨(some 19), .lenL (.t 18), []⟩,
   ⟨(some 20), .bin .gtr (.t 17) (.t 19), []⟩],
  .s ⟨(some 21), .pick (.t 16) (.c (.bool true)) (.t 20), []⟩])
 (.cond (.t 21) (.seq (.reg [.s ⟨(some 8), .mv (.c (.int .u64 0)), []⟩,
  .s ⟨(some 9), .mv (.c (.int .i64 0)), []⟩,
  .s ⟨(some 10), .mv (.c (.int .i64 1)), []⟩])
 .ret)
 .skip))
 (.seq (.reg [.s ⟨(some 23), .mv (.t 0), []⟩,
  .s ⟨(some 24), .mv (.t 1), []⟩,
  .s ⟨(some 25), .slc 1 (.t 23) (some (.t 24)) none none, []⟩,
  .s ⟨(some 26), .call 47 [(.t 25)], []⟩,
  .s ⟨(some 22), .mv (.t 26), []⟩,
  .s ⟨(some 27), .ext 0 (.t 22), []⟩,
  .s ⟨(some 28), .ext 1 (.t 22), []⟩,
  .s ⟨(some 11), .mv (.t 27), []⟩,
  .s ⟨(some 12), .mv (.t 28), []⟩])
 (.seq (.reg [.s ⟨(some 29), .mv (.t 2), []⟩,
  .s ⟨(some 30), .mv (.t 11), []⟩,
  .s ⟨(some 31), .mv (.t 12), []⟩,
  .s ⟨(some 32), .callv (.t 29) [(.t 30), (.t 31)], []⟩,
  .s ⟨(some 13), .mv (.t 32), []⟩])
 (.seq (.seq (.par [.s ⟨(some 33), .mv (.t 12), []⟩,
  .s ⟨(some 34), .bin .eql (.t 33) (.c (.int .i64 0)), []⟩,
  .s ⟨(some 35), .mv (.t 34), []⟩,
  .g 35 false [⟨(some 36), .mv (.t 3), []⟩,
   ⟨(some 37), .mv (.t 13), []⟩,
   ⟨(some 39), .mv (.t 0), []⟩,
   ⟨(some 40), .mv (.t 1), []⟩,
   ⟨(some 41), .mv (.t 1), []⟩,
   ⟨(some 42), .mv (.t 12), []⟩,
   ⟨(some 43), .bin .add (.t 41) (.t 42), []⟩,
   ⟨(some 44), .slc 1 (.t 39) (some (.t 40)) (some (.t 43)) none, []⟩,
   ⟨(some 38), .callv (.t 36) [(.c (.slice none 0 0)), (.t 37)], []⟩,
   ⟨(some 45), .call 48 [(.t 38), (.t 44)], []⟩,
   ⟨(some 46), .un .not (.t 45), []⟩],
  .s ⟨(some 47), .pick (.t 35) (.c (.bool true)) (.t 46), []⟩])
 (.cond (.t 47) (.seq (.reg [.s ⟨(some 8), .mv (.c (.int .u64 0)), []⟩,
  .s ⟨(some 9), .mv (.c (.int .i64 0)), []⟩,
  .s ⟨(some 10), .mv (.c (.int .i64 5)), []⟩])
 .ret)
 .skip))
 (.seq (.reg [.s ⟨(some 48), .mv (.t 13), []⟩,
  .s ⟨(some 49), .mv (.t 1), []⟩,
  .s ⟨(some 50), .mv (.t 12), []⟩,
  .s ⟨(some 51), .bin .add (.t 49) (.t 50), []⟩,
  .s ⟨(some 8), .mv (.t 48), []⟩,
  .s ⟨(some 9), .mv (.t 51), []⟩,
  .s ⟨(some 10), .mv (.c (.int .i64 0)), []⟩])
 .ret))))))⟩
theorem s40 : slimF Try.prog Try.f40 = some a40.fn := by kernel_rfl
def a41 : XFun := ⟨6, [.t 4],
 (.seq (.reg [.s ⟨(some 4), .mv (.c (.int .u64 0)), []⟩])
 (.seq (.reg [.s ⟨(some 5), .mv (.t 0), []⟩,
  .s ⟨(some 4), .mv (.t 5), []⟩])
 .ret))⟩
theorem s41 : slimF Try.prog Try.f41 = some a41.fn := by kernel_rfl
def a42 : XFun := ⟨52, [.t 8, .t 9, .t 10],
 (.seq (.reg [.s ⟨(some 8), .mv (.c (.int .i64 0)), []⟩,
  .s ⟨(some 9), .mv (.c (.int .i64 0)), []⟩,
  .s ⟨(some 10), .mv (.c (.int .i64 0)), []⟩])
 (.seq (.seq (.reg [.s ⟨(some 14), .mv (.t 1), []⟩,
  .s ⟨(some 15), .bin .lss (.t 14) (.c (.int .i64 0)), []⟩,
  .s ⟨(some 16), .mv (.t 15), []⟩,
  .g 16 false [⟨(some 17), .mv (.t 1), []⟩,
   ⟨(some 18), .mv (.t 0), []⟩,
   ⟨(some 19), .lenL (.t 18), []⟩,
   ⟨(some 20), .bin .gtr (.t 17) (.t 19), []⟩],
  .s ⟨(some 21), .pick (.t 16) (.c (.bool true)) (.t 20), []⟩])
 (.cond (.t 21) (.seq (.reg [.s ⟨(some 8), .mv (.c (.int .i64 0)), []⟩,
  .s ⟨(some 9), .mv (.c (.int .i64 0)), []⟩,
  .s ⟨(some 10), .mv (.c (.int .i64 1)), []⟩])
 .ret)
 .skip))
 (.seq (.reg [.s ⟨(some 23), .mv (.t 0), []⟩,
  .s ⟨(some 24), .mv (.t 1), []⟩,
  .s ⟨(some 25), .slc 1 (.t 23) (some (.t 24)) none none, []⟩,
  .s ⟨(some 26), .call 47 [(.t 25)], []⟩,
  .s ⟨(some 22), .mv (.t 26), []⟩,
  .s ⟨(some 27), .ext 0 (.t 22), []⟩,
  .s ⟨(some 28), .ext 1 (.t 22), []⟩,
  .s ⟨(some 11), .mv (.t 27), []⟩,
  .s ⟨(some 12), .mv (.t 28), []⟩])
 (.seq (.reg [.s ⟨(some 29), .mv (.t 2), []⟩,
  .s ⟨(some 30), .mv (.t 11), []⟩,
  .s ⟨(some 31), .mv (.t 12), []⟩,
  .s ⟨(some 32), .callv (.t 29) [(.t 30), (.t 31)], []⟩,
  .s ⟨(some 13), .mv (.t 32), []⟩])
 (.seq (.seq (.par [.s ⟨(some 33), .mv (.t 12), []⟩,
  .s ⟨(some 34), .bin .eql (.t 33) (.c (.int .i64 0)), []⟩,
  .s ⟨(some 35), .mv (.t 34), []⟩,
  .g 35 false [⟨(some 36), .mv (.t 3), []⟩,
   ⟨(some 37), .mv (.t 13), []⟩,
   ⟨(some 39), .mv (.t 0), []⟩,
   ⟨(some 40), .mv (.t 1), []⟩,
   ⟨(some 41), .mv (.t 1), []⟩,
   ⟨(some 42), .mv (.t 12), []⟩,
   ⟨(some 43), .bin .add (.t 41) (.t 42), []⟩,
   ⟨(some 44), .slc 1 (.t 39) (some (.t 40)) (some (.t 43)) none, []⟩,
   ⟨(some 38), .callv (.t 36) [(.c (.slice none 0 0)), (.t 37)], []⟩,
   ⟨(some 45), .call 48 [(.t 38), (.t 44)], []⟩,
   ⟨(some 46), .un .not (.t 45), []⟩],
  .s ⟨(some 47), .pick (.t 35) (.c (.bool true)) (.t 46), []⟩])
 (.cond (.t 47) (.seq (.reg [.s ⟨(some 8), .mv (.c (.int .i64 0)), []⟩,
  .s ⟨(some 9), .mv (.c (.int .i64 0)), []⟩,
  .s ⟨(some 10), .mv (.c (.int .i64 5)), []⟩])
 .ret)
 .skip))
 (.seq (.reg [.s ⟨(some 48), .mv (.t 13), []⟩,
  .s ⟨(some 49), .mv (.t 1), []⟩,
  .s ⟨(some 50), .mv (.t 12), []⟩,
  .s ⟨(some 51), .bin .add (.t 49) (.t 50), []⟩,
  .s ⟨(some 8), .mv (.t 48), []⟩,
  .s ⟨(some 9), .mv (.t 51), []⟩,
  .s ⟨(some 10), .mv (.c (.int .i64 0)), []⟩])
 .ret))))))⟩
theorem s42 : slimF Try.prog Try.f42 = some a42.fn := by kernel_rfl
def a43 : XFun := ⟨16, [.t 4],
 (.seq (.reg [.s ⟨(some 4), .mv (.c (.int .i64 0)), []⟩])
 (.seq (.reg [.s ⟨(some 6), .mv (.t 1), []⟩,
  .s ⟨(some 7), .bin .mul (.c (.int .i64 7)) (.t 6), []⟩,
  .s ⟨(some 8), .bin .sub (.c (.int .i64 64)) (.t 7), []⟩,
  .s ⟨(some 9), .minmax true (.c (.int .i64 0)) [(.t 8)], []⟩,
  .s ⟨(some 5), .mv (.t 9), []⟩])
 (.seq (.reg [.s ⟨(some 10), .mv (.t 0), []⟩,
  .s ⟨(some 11), .mv (.t 5), []⟩,
  .s ⟨(some 12), .bin .shl (.t 10) (.t 11), []⟩,
  .s ⟨(some 13), .cint .i64 (.t 12), []⟩,
  .s ⟨(some 14), .mv (.t 5), []⟩,
  .s ⟨(some 15), .bin .shr (.t 13) (.t 14), []⟩,
  .s ⟨(some 4), .mv (.t 15), []⟩])
 .ret)))⟩
theorem s43 : slimF Try.prog Try.f43 = some a43.fn := by kernel_rfl
def a47 : XFun := ⟨31, [.t 2, .t 3],
 (.seq (.reg [.s ⟨(some 2), .mv (.c (.int .u64 0)), []⟩,
  .s ⟨(some 3), .mv (.c (.int .i64 0)), []⟩])
 (.seq (.seq (.reg [.s ⟨(some 5), .mv (.t 0), []⟩,
  .s ⟨(some 6), .lenL (.t 5), []⟩,
  .s ⟨(some 7), .minmax false (.t 6) [(.c (.int .i64 10))], []⟩,
  .s ⟨(some 8), .mv (.c (.int .i64 0)), []⟩])
 (.block 0 (.loop (.seq (.reg [.s ⟨(some 9), .bin .lss (.t 8) (.t 7), []⟩])
 (.seq (.cond (.t 9) .skip
 (.exit 0))
 (.seq (.block 1 (.seq (.reg [.s ⟨(some 10), .mv (.t 8), []⟩,
  .s ⟨(some 4), .mv (.t 10), []⟩])
 (.seq (.reg [.s ⟨(some 11), .mv (.t 2), []⟩,
  .s ⟨(some 12), .mv (.t 0), []⟩,
  .s ⟨(some 13), .mv (.t 4), []⟩,
  .s ⟨(some 14), .idx 1 (.t 12) (.t 13), []⟩,
  .s ⟨(some 15), .load false 1 (.t 14), []⟩,
  .s ⟨(some 16), .bin .and (.t 15) (.c (.int .u8 127)), []⟩,
  .s ⟨(some 17), .cint .u64 (.t 16), []⟩,
  .s ⟨(some 18), .mv (.t 4), []⟩,
  .s ⟨(some 19), .bin .mul (.c (.int .i64 7)) (.t 18), []⟩,
  .s ⟨(some 20), .bin .shl (.t 17) (.t 19), []⟩,
  .s ⟨(some 21), .bin .or (.t 11) (.t 20), []⟩,
  .s ⟨(some 2), .mv (.t 21), []⟩])
 (.seq (.reg [.s ⟨(some 22), .mv (.t 0), []⟩,
  .s ⟨(some 23), .mv (.t 4), []⟩,
  .s ⟨(some 24), .idx 1 (.t 22) (.t 23), []⟩,
  .s ⟨(some 25), .load false 1 (.t 24), []⟩,
  .s ⟨(some 26), .bin .lss (.t 25) (.c (.int .u8 128)), []⟩])
 (.cond (.t 26) (.seq (.reg [.s ⟨(some 27), .mv (.t 2), []⟩,
  .s ⟨(some 28), .mv (.t 4), []⟩,
  .s ⟨(some 29), .bin .add (.t 28) (.c (.int .i64 1)), []⟩,
  .s ⟨(some 2), .mv (.t 27), []⟩,
  .s ⟨(some 3), .mv (.t 29), []⟩])
 .ret)
 .skip)))))
 (.reg [.s ⟨(some 30), .bin .add (.t 8) (.c (.int .i64 1)), []⟩,
  .s ⟨(some 8), .mv (.t 30), []⟩])))))))
 (.seq (.reg [.s ⟨(some 2), .mv (.c (.int .u64 0)), []⟩,
  .s ⟨(some 3), .mv (.c (.int .i64 0)), []⟩])
 .ret)))⟩
theorem s47 : slimF Try.prog Try.f47 = some a47.fn := by kernel_rfl
def a48 : XFun := ⟨26, [.t 4],
 (.seq (.reg [.s ⟨(some 4), .mv (.c (.bool false)), []⟩])
 (.seq (.seq (.reg [.s ⟨(some 6), .mv (.t 0), []⟩,
  .s ⟨(some 7), .lenL (.t 6), []⟩,
  .s ⟨(some 8), .mv (.t 1), []⟩,
  .s ⟨(some 9), .lenL (.t 8), []⟩,
  .s ⟨(some 10), .bin .neq (.t 7) (.t 9), []⟩])
 (.cond (.t 10) (.seq (.reg [.s ⟨(some 4), .mv (.c (.bool false)), []⟩])
 .ret)
 .skip))
 (.seq (.seq (.reg [.s ⟨(some 11), .mv (.t 0), []⟩,
  .s ⟨(some 12), .lenL (.t 11), []⟩,
  .s ⟨(some 13), .mv (.c (.int .i64 0)), []⟩])
 (.block 0 (.loop (.seq (.reg [.s ⟨(some 14), .bin .lss (.t 13) (.t 12), []⟩])
 (.seq (.cond (.t 14) .skip
 (.exit 0))
 (.seq (.block 1 (.seq (.reg [.s ⟨(some 15), .mv (.t 13), []⟩,
  .s ⟨(some 5), .mv (.t 15), []⟩])
 (.seq (.par [.s ⟨(some 16), .mv (.t 0), []⟩,
  .s ⟨(some 17), .mv (.t 5), []⟩,
  .s ⟨(some 18), .idx 1 (.t 16) (.t 17), []⟩,
  .s ⟨(some 19), .load false 1 (.t 18), []⟩,
  .s ⟨(some 20), .mv (.t 1), []⟩,
  .s ⟨(some 21), .mv (.t 5), []⟩,
  .s ⟨(some 22), .idx 1 (.t 20) (.t 21), []⟩,
  .s ⟨(some 23), .load false 1 (.t 22), []⟩,
  .s ⟨(some 24), .bin .neq (.t 19) (.t 23), []⟩])
 (.cond (.t 24) (.seq (.reg [.s ⟨(some 4), .mv (.c (.bool false)), []⟩])
 .ret)
 .skip))))
 (.reg [.s ⟨(some 25), .bin .add (.t 13) (.c (.int .i64 1)), []⟩,
  .s ⟨(some 13), .mv (.t 25), []⟩])))))))
 (.seq (.reg [.s ⟨(some 4), .mv (.c (.bool true)), []⟩])
 .ret))))⟩
theorem s48 : slimF Try.prog Try.f48 = some a48.fn := by kernel_rfl
def a65 : XFun := ⟨7, [.t 4, .t 5],
 (.seq (.reg [.s ⟨(some 4), .mv (.c (.int .i64 0)), []⟩,
  .s ⟨(some 5), .mv (.c (.bool false)), []⟩])
 (.seq (.reg [.s ⟨(some 6), .mv (.t 0), []⟩,
  .s ⟨(some 4), .mv (.t 6), []⟩,
  .s ⟨(some 5), .mv (.c (.bool true)), []⟩])
 .ret))⟩
theorem s65 : slimF Try.prog Try.f65 = some a65.fn := by kernel_rfl
def a66 : XFun := ⟨3, [.t 2],
 (.seq (.reg [.s ⟨(some 2), .mv (.c (.int .i64 0)), []⟩])
 (.seq (.reg [.s ⟨(some 2), .mv (.c (.int .i64 0)), []⟩])
 .ret))⟩
theorem s66 : slimF Try.prog Try.f66 = some a66.fn := by kernel_rfl
def a67 : XFun := ⟨45, [.t 4, .t 5],
 (.seq (.reg [.s ⟨(some 4), .mv (.c (.int .i64 0)), []⟩,
  .s ⟨(some 5), .mv (.c (.bool false)), []⟩])
 (.seq (.reg [.s ⟨(some 7), .mv (.t 0), []⟩,
  .s ⟨(some 6), .mv (.t 7), []⟩])
 (.block 0 (.seq (.reg [.s ⟨(some 17), .mv (.t 6), []⟩,
  .s ⟨(some 18), .mv (.t 1), []⟩,
  .s ⟨(some 19), .nilchk (.t 18), []⟩,
  .s ⟨(some 20), .faddr 0 (.t 19), []⟩,
  .s ⟨(some 21), .faddr 0 (.t 20), []⟩,
  .s ⟨(some 22), .load false 1 (.t 21), []⟩,
  .s ⟨(some 23), .lenL (.t 22), []⟩,
  .s ⟨(some 24), .bin .geq (.t 17) (.t 23), []⟩,
  .s ⟨(some 25), .mv (.t 24), []⟩,
  .g 25 false [⟨(some 26), .mv (.t 1), []⟩,
   ⟨(some 27), .nilchk (.t 26), []⟩,
   ⟨(some 28), .faddr 0 (.t 27), []⟩,
   ⟨(some 29), .faddr 0 (.t 28), []⟩,
   ⟨(some 30), .load false 1 (.t 29), []⟩,
   ⟨(some 31), .mv (.t 6), []⟩,
   ⟨(some 32), .idx 1 (.t 30) (.t 31), []⟩,
   ⟨(some 33), .load false 1 (.t 32), []⟩,
   ⟨(some 34), .un .not (.t 33), []⟩],
  .s ⟨(some 35), .pick (.t 25) (.c (.bool true)) (.t 34), []⟩,
  .s ⟨(some 16), .mv (.t 35), []⟩])
 (.cond (.t 16) (.seq (.reg [.s ⟨(some 4), .mv (.c (.int .i64 0)), []⟩,
  .s ⟨(some 5), .mv (.c (.bool false)), []⟩])
 .ret)
 (.seq (.reg [.s ⟨(some 37), .mv (.t 6), []⟩,
  .s ⟨(some 38), .mv (.t 1), []⟩,
  .s ⟨(some 39), .nilchk (.t 38), []⟩,
  .s ⟨(some 40), .faddr 0 (.t 39), []⟩,
  .s ⟨(some 41), .faddr 1 (.t 40), []⟩,
  .s ⟨(some 42), .load false 1 (.t 41), []⟩,
  .s ⟨(some 43), .lenL (.t 42), []⟩,
  .s ⟨(some 44), .bin .geq (.t 37) (.t 43), []⟩,
  .s ⟨(some 36), .mv (.t 44), []⟩])
 (.cond (.t 36) (.seq (.reg [.s ⟨(some 4), .mv (.c (.int .i64 0)), []⟩,
  .s ⟨(some 5), .mv (.c (.bool true)), []⟩])
 .ret)
 (.seq (.reg [.s ⟨(some 8), .mv (.t 1), []⟩,
  .s ⟨(some 9), .nilchk (.t 8), []⟩,
  .s ⟨(some 10), .faddr 0 (.t 9), []⟩,
  .s ⟨(some 11), .faddr 1 (.t 10), []⟩,
  .s ⟨(some 12), .load false 1 (.t 11), []⟩,
  .s ⟨(some 13), .mv (.t 6), []⟩,
  .s ⟨(some 14), .idx 1 (.t 12) (.t 13), []⟩,
  .s ⟨(some 15), .load false 1 (.t 14), []⟩,
  .s ⟨(some 4), .mv (.t 15), []⟩,
  .s ⟨(some 5), .mv (.c (.bool true)), []⟩])
 .ret))))))))⟩
theorem s67 : slimF Try.prog Try.f67 = some a67.fn := by kernel_rfl
def a68 : XFun := ⟨3, [.t 2],
 (.seq (.reg [.s ⟨(some 2), .mv (.c (.int .i64 0)), []⟩])
 (.seq (.reg [.s ⟨(some 2), .mv (.c (.int .i64 0)), []⟩])
 .ret))⟩
theorem s68 : slimF Try.prog Try.f68 = some a68.fn := by kernel_rfl
def a69 : XFun := ⟨13, [.t 4, .t 5],
 (.seq (.reg [.s ⟨(some 4), .mv (.c (.int .i64 0)), []⟩,
  .s ⟨(some 5), .mv (.c (.bool false)), []⟩])
 (.seq (.reg [.s ⟨(some 6), .mv (.t 1), []⟩,
  .s ⟨(some 7), .nilchk (.t 6), []⟩,
  .s ⟨(some 8), .faddr 0 (.t 7), []⟩,
  .s ⟨(some 9), .faddr 2 (.t 8), []⟩,
  .s ⟨(some 10), .load false 1 (.t 9), []⟩,
  .s ⟨(some 11), .mv (.t 0), []⟩,
  .s ⟨(some 12), .bin .add (.t 10) (.t 11), []⟩,
  .s ⟨(some 4), .mv (.t 12), []⟩,
  .s ⟨(some 5), .mv (.c (.bool true)), []⟩])
 .ret))⟩
theorem s69 : slimF Try.prog Try.f69 = some a69.fn := by kernel_rfl
def a70 : XFun := ⟨3, [.t 2],
 (.seq (.reg [.s ⟨(some 2), .mv (.c (.int .i64 0)), []⟩])
 (.seq (.reg [.s ⟨(some 2), .mv (.c (.int .i64 0)), []⟩])
 .ret))⟩
theorem s70 : slimF Try.prog Try.f70 = some a70.fn := by kernel_rfl
def a71 : XFun := ⟨29, [.t 4, .t 5],
 (.seq (.reg [.s ⟨(some 2), .box 90 (.t 0), []⟩,
  .s ⟨(some 4), .mv (.c (.int .i64 0)), []⟩,
  .s ⟨(some 5), .mv (.c (.bool false)), []⟩])
 (.seq (.reg [.s ⟨(some 7), .mv (.t 1), []⟩,
  .s ⟨(some 8), .call 34 [(.t 7)], []⟩,
  .s ⟨(some 6), .mv (.t 8), []⟩])
 (.seq (.seq (.reg [.s ⟨(some 9), .mv (.t 6), []⟩,
  .s ⟨(some 10), .bin .lss (.t 9) (.c (.int .i64 0)), []⟩,
  .s ⟨(some 11), .mv (.t 10), []⟩,
  .g 11 false [⟨(some 12), .mv (.t 6), []⟩,
   ⟨(some 13), .mv (.t 1), []⟩,
   ⟨(some 14), .nilchk (.t 13), []⟩,
   ⟨(some 15), .faddr 0 (.t 14), []⟩,
   ⟨(some 16), .faddr 3 (.t 15), []⟩,
   ⟨(some 17), .load false 1 (.t 16), []⟩,
   ⟨(some 18), .lenL (.t 17), []⟩,
   ⟨(some 19), .bin .geq (.t 12) (.t 18), []⟩],
  .s ⟨(some 20), .pick (.t 11) (.c (.bool true)) (.t 19), []⟩])
 (.cond (.t 20) (.seq (.reg [.s ⟨(some 4), .mv (.c (.int .i64 0)), []⟩,
  .s ⟨(some 5), .mv (.c (.bool false)), []⟩])
 .ret)
 .skip))
 (.seq (.reg [.s ⟨(some 21), .mv (.t 1), []⟩,
  .s ⟨(some 22), .nilchk (.t 21), []⟩,
  .s ⟨(some 23), .faddr 0 (.t 22), []⟩,
  .s ⟨(some 24), .faddr 3 (.t 23), []⟩,
  .s ⟨(some 25), .load false 1 (.t 24), []⟩,
  .s ⟨(some 26), .mv (.t 6), []⟩,
  .s ⟨(some 27), .idx 1 (.t 25) (.t 26), []⟩,
  .s ⟨(some 28), .load false 1 (.t 27), []⟩,
  .s ⟨(some 4), .mv (.t 28), []⟩,
  .s ⟨(some 5), .mv (.c (.bool true)), []⟩])
 .ret))))⟩
theorem s71 : slimF Try.prog Try.f71 = some a71.fn := by kernel_rfl
def a72 : XFun := ⟨3, [.t 2],
 (.seq (.reg [.s ⟨(some 1), .box 90 (.t 0), []⟩,
  .s ⟨(some 2), .mv (.c (.int .i64 0)), []⟩])
 (.seq (.reg [.s ⟨(some 2), .mv (.c (.int .i64 1)), []⟩])
 .ret))⟩
theorem s72 : slimF Try.prog Try.f72 = some a72.fn := by kernel_rfl
def a73 : XFun := ⟨11, [.t 4, .t 5],
 (.seq (.reg [.s ⟨(some 2), .box 91 (.t 0), []⟩,
  .s ⟨(some 4), .mv (.c (.int .i64 0)), []⟩,
  .s ⟨(some 5), .mv (.c (.bool false)), []⟩])
 (.seq (.reg [.s ⟨(some 6), .mv (.t 1), []⟩,
  .s ⟨(some 7), .call 34 [(.t 6)], []⟩,
  .s ⟨(some 8), .mv (.t 1), []⟩,
  .s ⟨(some 9), .call 34 [(.t 8)], []⟩,
  .s ⟨(some 10), .bin .add (.t 7) (.t 9), []⟩,
  .s ⟨(some 4), .mv (.t 10), []⟩,
  .s ⟨(some 5), .mv (.c (.bool true)), []⟩])
 .ret))⟩
theorem s73 : slimF Try.prog Try.f73 = some a73.fn := by kernel_rfl
def a74 : XFun := ⟨3, [.t 2],
 (.seq (.reg [.s ⟨(some 1), .box 91 (.t 0), []⟩,
  .s ⟨(some 2), .mv (.c (.int .i64 0)), []⟩])
 (.seq (.reg [.s ⟨(some 2), .mv (.c (.int .i64 2)), []⟩])
 .ret))⟩
theorem s74 : slimF Try.prog Try.f74 = some a74.fn := by kernel_rfl
def a75 : XFun := ⟨9, [.t 4, .t 5],
 (.seq (.reg [.s ⟨(some 2), .box 92 (.t 0), []⟩,
  .s ⟨(some 4), .mv (.c (.int .i64 0)), []⟩,
  .s ⟨(some 5), .mv (.c (.bool false)), []⟩])
 (.seq (.reg [.s ⟨(some 6), .mv (.t 1), []⟩,
  .s ⟨(some 7), .call 34 [(.t 6)], []⟩,
  .s ⟨(some 8), .un .neg (.t 7), []⟩,
  .s ⟨(some 4), .mv (.t 8), []⟩,
  .s ⟨(some 5), .mv (.c (.bool true)), []⟩])
 .ret))⟩
theorem s75 : slimF Try.prog Try.f75 = some a75.fn := by kernel_rfl
def a76 : XFun := ⟨3, [.t 2],
 (.seq (.reg [.s ⟨(some 1), .box 92 (.t 0), []⟩,
  .s ⟨(some 2), .mv (.c (.int .i64 0)), []⟩])
 (.seq (.reg [.s ⟨(some 2), .mv (.c (.int .i64 1)), []⟩])
 .ret))⟩
theorem s76 : slimF Try.prog Try.f76 = some a76.fn := by kernel_rfl
end Go.Proofs.Ytpmlbgaigjdmjaa
