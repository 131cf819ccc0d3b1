import Derived.Test.YtjcehfjmmbbblaaAd
import Derived.Test.YtjcehfjmmbbblaaProg
import Derived.KernelRfl
namespace Go.Proofs.Ytjcehfjmmbbblaa
open Go.Ab
set_option linter.unusedVariables false
set_option linter.unusedSimpArgs false
theorem hm : Try.prog.follows .mixedOrders = true := by kernel_rfl
def a3 : XFun := ⟨88, [.t 4],
 (.seq (.reg [.s ⟨(some 4), .mv (.c (.bool false)), []⟩])
 (.seq (.seq (.reg [.s ⟨(some 13), .mv (.t 0), []⟩,
  .s ⟨(some 14), .lenL (.t 13), []⟩,
  .s ⟨(some 15), .bin .gtr (.t 14) (.c (.int .i64 4096)), []⟩,
  .s ⟨(some 16), .mv (.t 15), []⟩,
  .g 16 false [⟨(some 17), .mv (.t 1), []⟩,
   ⟨(some 18), .call 8 [(.t 17)], []⟩],
  .s ⟨(some 19), .pick (.t 16) (.c (.bool true)) (.t 18), []⟩])
 (.cond (.t 19) (.seq (.reg [.s ⟨(some 20), .call 9 [], []⟩,
  .s ⟨(some 4), .mv (.t 20), []⟩])
 .ret)
 .skip))
 (.seq (.reg [.s ⟨(some 21), .mv (.t 0), []⟩,
  .s ⟨(some 22), .call 10 [(.t 21)], []⟩,
  .s ⟨(some 5), .mv (.t 22), []⟩])
 (.seq (.reg [.s ⟨(some 23), .mv (.t 1), []⟩,
  .s ⟨(some 24), .call 11 [(.t 23)], []⟩,
  .s ⟨(some 6), .mv (.t 24), []⟩])
 (.seq (.reg [.s ⟨(some 26), .mv (.t 5), []⟩,
  .s ⟨(some 27), .mv (.t 6), []⟩,
  .s ⟨(some 28), .call 12 [(.t 26), (.t 27)], []⟩,
  .s ⟨(some 25), .mv (.t 28), []⟩,
  .s ⟨(some 29), .ext 0 (.t 25), []⟩,
  .s ⟨(some 30), .ext 1 (.t 25), []⟩,
  .s ⟨(some 7), .mv (.t 29), []⟩,
  .s ⟨(some 8), .mv (.t 30), []⟩])
 (.seq (.reg [.s ⟨(some 32), .mv (.t 5), []⟩,
  .s ⟨(some 33), .mv (.t 6), []⟩,
  .s ⟨(some 34), .call 12 [(.t 32), (.t 33)], []⟩,
  .s ⟨(some 31), .mv (.t 34), []⟩,
  .s ⟨(some 35), .ext 0 (.t 31), []⟩,
  .s ⟨(some 36), .ext 1 (.t 31), []⟩,
  .s ⟨(some 9), .mv (.t 35), []⟩,
  .s ⟨(some 10), .mv (.t 36), []⟩])
 (.seq (.reg [.s ⟨(some 38), .mv (.t 0), []⟩,
  .s ⟨(some 39), .mv (.t 1), []⟩,
  .s ⟨(some 40), .call 13 [(.t 38), (.t 39)], []⟩,
  .s ⟨(some 37), .mv (.t 40), []⟩,
  .s ⟨(some 41), .ext 0 (.t 37), []⟩,
  .s ⟨(some 42), .ext 1 (.t 37), []⟩,
  .s ⟨(some 11), .mv (.t 41), []⟩,
  .s ⟨(some 12), .mv (.t 42), []⟩])
 (.seq (.seq (.reg [.s ⟨(some 43), .mv (.t 8), []⟩,
  .s ⟨(some 44), .mv (.t 12), []⟩,
  .s ⟨(some 45), .bin .neq (.t 43) (.t 44), []⟩,
  .s ⟨(some 46), .mv (.t 45), []⟩,
  .g 46 false [⟨(some 47), .mv (.t 10), []⟩,
   ⟨(some 48), .mv (.t 12), []⟩,
   ⟨(some 49), .bin .neq (.t 47) (.t 48), []⟩],
  .s ⟨(some 50), .pick (.t 46) (.c (.bool true)) (.t 49), []⟩,
  .s ⟨(some 51), .mv (.t 50), []⟩,
  .g 51 false [⟨(some 52), .mv (.t 7), []⟩,
   ⟨(some 53), .mv (.t 11), []⟩,
   ⟨(some 54), .call 14 [(.t 52), (.t 53)], []⟩,
   ⟨(some 55), .un .not (.t 54), []⟩],
  .s ⟨(some 56), .pick (.t 51) (.c (.bool true)) (.t 55), []⟩,
  .s ⟨(some 57), .mv (.t 56), []⟩,
  .g 57 false [⟨(some 58), .mv (.t 5), []⟩,
   ⟨(some 59), .mv (.t 0), []⟩,
   ⟨(some 60), .call 15 [(.t 58), (.t 59)], []⟩,
   ⟨(some 61), .un .not (.t 60), []⟩],
  .s ⟨(some 62), .pick (.t 57) (.c (.bool true)) (.t 61), []⟩,
  .s ⟨(some 63), .mv (.t 62), []⟩,
  .g 63 false [⟨(some 64), .mv (.t 6), []⟩,
   ⟨(some 65), .mv (.t 1), []⟩,
   ⟨(some 66), .call 16 [(.t 64), (.t 65)], []⟩,
   ⟨(some 67), .un .not (.t 66), []⟩],
  .s ⟨(some 68), .pick (.t 63) (.c (.bool true)) (.t 67), []⟩,
  .s ⟨(some 69), .mv (.t 68), []⟩,
  .g 69 false [⟨(some 70), .mv (.t 6), []⟩,
   ⟨(some 71), .call 17 [(.t 70)], []⟩,
   ⟨(some 72), .mv (.t 1), []⟩,
   ⟨(some 73), .call 18 [(.t 72)], []⟩,
   ⟨(some 74), .beq true (.t 71) (.t 73), []⟩],
  .s ⟨(some 75), .pick (.t 69) (.c (.bool true)) (.t 74), []⟩])
 (.cond (.t 75) (.seq (.reg [.s ⟨(some 4), .mv (.c (.bool false)), []⟩])
 .ret)
 .skip))
 (.seq (.reg [.s ⟨(some 76), .mv (.t 8), []⟩,
  .s ⟨(some 77), .bin .neq (.t 76) (.c (.int .i64 0)), []⟩,
  .s ⟨(some 78), .mv (.t 77), []⟩,
  .g 78 false [⟨(some 79), .mv (.t 7), []⟩,
   ⟨(some 80), .mv (.t 9), []⟩,
   ⟨(some 81), .mv (.t 5), []⟩,
   ⟨(some 82), .bslice 22 3 [(.slice none 0 0), (.slice none 0 0), (.slice none 0 0)] [(0, 1, (.t 79)), (1, 1, (.t 80)), (2, 1, (.t 81))], []⟩,
   ⟨(some 83), .call 19 [(.t 82)], []⟩],
  .s ⟨(some 84), .pick (.t 78) (.c (.bool true)) (.t 83), []⟩,
  .s ⟨(some 85), .mv (.t 84), []⟩,
  .g 85 true [⟨(some 86), .call 9 [], []⟩],
  .s ⟨(some 87), .pick (.t 85) (.t 86) (.c (.bool false)), []⟩,
  .s ⟨(some 4), .mv (.t 87), []⟩])
 .ret)))))))))⟩
def a4 : XFun := ⟨53, [.t 4],
 (.seq (.reg [.s ⟨(some 4), .mv (.c (.bool false)), []⟩])
 (.seq (.seq (.reg [.s ⟨(some 12), .mv (.t 0), []⟩,
  .s ⟨(some 13), .lenL (.t 12), []⟩,
  .s ⟨(some 14), .bin .gtr (.t 13) (.c (.int .i64 8192)), []⟩])
 (.cond (.t 14) (.seq (.reg [.s ⟨(some 15), .call 9 [], []⟩,
  .s ⟨(some 4), .mv (.t 15), []⟩])
 .ret)
 .skip))
 (.seq (.reg [.s ⟨(some 16), .mv (.t 0), []⟩,
  .s ⟨(some 17), .call 10 [(.t 16)], []⟩,
  .s ⟨(some 5), .mv (.t 17), []⟩])
 (.seq (.reg [.s ⟨(some 19), .mv (.t 5), []⟩,
  .s ⟨(some 20), .mv (.t 1), []⟩,
  .s ⟨(some 21), .call 20 [(.t 19), (.t 20)], []⟩,
  .s ⟨(some 18), .mv (.t 21), []⟩,
  .s ⟨(some 22), .ext 0 (.t 18), []⟩,
  .s ⟨(some 23), .ext 1 (.t 18), []⟩,
  .s ⟨(some 24), .ext 2 (.t 18), []⟩,
  .s ⟨(some 6), .mv (.t 22), []⟩,
  .s ⟨(some 7), .mv (.t 23), []⟩,
  .s ⟨(some 8), .mv (.t 24), []⟩])
 (.seq (.reg [.s ⟨(some 26), .mv (.t 0), []⟩,
  .s ⟨(some 27), .mv (.t 1), []⟩,
  .s ⟨(some 28), .call 21 [(.t 26), (.t 27)], []⟩,
  .s ⟨(some 25), .mv (.t 28), []⟩,
  .s ⟨(some 29), .ext 0 (.t 25), []⟩,
  .s ⟨(some 30), .ext 1 (.t 25), []⟩,
  .s ⟨(some 31), .ext 2 (.t 25), []⟩,
  .s ⟨(some 9), .mv (.t 29), []⟩,
  .s ⟨(some 10), .mv (.t 30), []⟩,
  .s ⟨(some 11), .mv (.t 31), []⟩])
 (.seq (.reg [.s ⟨(some 32), .mv (.t 6), []⟩,
  .s ⟨(some 33), .mv (.t 9), []⟩,
  .s ⟨(some 34), .call 16 [(.t 32), (.t 33)], []⟩,
  .s ⟨(some 35), .mv (.t 34), []⟩,
  .g 35 true [⟨(some 36), .mv (.t 7), []⟩,
   ⟨(some 37), .mv (.t 10), []⟩,
   ⟨(some 38), .bin .eql (.t 36) (.t 37), []⟩],
  .s ⟨(some 39), .pick (.t 35) (.t 38) (.c (.bool false)), []⟩,
  .s ⟨(some 40), .mv (.t 39), []⟩,
  .g 40 true [⟨(some 41), .mv (.t 8), []⟩,
   ⟨(some 42), .mv (.t 11), []⟩,
   ⟨(some 43), .bin .eql (.t 41) (.t 42), []⟩],
  .s ⟨(some 44), .pick (.t 40) (.t 43) (.c (.bool false)), []⟩,
  .s ⟨(some 45), .mv (.t 44), []⟩,
  .g 45 true [⟨(some 46), .mv (.t 5), []⟩,
   ⟨(some 47), .mv (.t 0), []⟩,
   ⟨(some 48), .call 15 [(.t 46), (.t 47)], []⟩],
  .s ⟨(some 49), .pick (.t 45) (.t 48) (.c (.bool false)), []⟩,
  .s ⟨(some 50), .mv (.t 49), []⟩,
  .g 50 true [⟨(some 51), .call 9 [], []⟩],
  .s ⟨(some 52), .pick (.t 50) (.t 51) (.c (.bool false)), []⟩,
  .s ⟨(some 4), .mv (.t 52), []⟩])
 .ret))))))⟩
def a5 : XFun := ⟨146, [.t 8],
 (.seq (.reg [.s ⟨(some 8), .mv (.c (.bool false)), []⟩])
 (.seq (.seq (.reg [.s ⟨(some 18), .mv (.t 0), []⟩,
  .s ⟨(some 19), .call 8 [(.t 18)], []⟩])
 (.cond (.t 19) (.seq (.reg [.s ⟨(some 20), .call 9 [], []⟩,
  .s ⟨(some 8), .mv (.t 20), []⟩])
 .ret)
 .skip))
 (.seq (.reg [.s ⟨(some 21), .mv (.t 0), []⟩,
  .s ⟨(some 22), .call 11 [(.t 21)], []⟩,
  .s ⟨(some 9), .mv (.t 22), []⟩])
 (.seq (.reg [.s ⟨(some 23), .mv (.t 9), []⟩,
  .s ⟨(some 24), .mv (.t 1), []⟩,
  .s ⟨(some 25), .call 22 [(.t 23), (.t 24)], []⟩,
  .s ⟨(some 10), .mv (.t 25), []⟩])
 (.seq (.reg [.s ⟨(some 26), .mv (.t 9), []⟩,
  .s ⟨(some 27), .mv (.t 2), []⟩,
  .s ⟨(some 28), .mv (.t 3), []⟩,
  .s ⟨(some 29), .call 23 [(.t 26), (.t 27), (.t 28)], []⟩,
  .s ⟨(some 11), .mv (.t 29), []⟩])
 (.seq (.reg [.s ⟨(some 30), .mv (.t 9), []⟩,
  .s ⟨(some 31), .call 24 [(.t 30)], []⟩,
  .s ⟨(some 12), .mv (.t 31), []⟩])
 (.seq (.seq (.reg [.s ⟨(some 32), .mv (.t 10), []⟩,
  .s ⟨(some 33), .mv (.t 0), []⟩,
  .s ⟨(some 34), .mv (.t 1), []⟩,
  .s ⟨(some 35), .call 26 [(.t 33), (.t 34)], []⟩,
  .s ⟨(some 36), .call 25 [(.t 32), (.t 35)], []⟩,
  .s ⟨(some 37), .un .not (.t 36), []⟩,
  .s ⟨(some 38), .mv (.t 37), []⟩,
  .g 38 false [⟨(some 39), .mv (.t 11), []⟩,
   ⟨(some 40), .mv (.t 0), []⟩,
   ⟨(some 41), .mv (.t 2), []⟩,
   ⟨(some 42), .mv (.t 3), []⟩,
   ⟨(some 43), .call 27 [(.t 40), (.t 41), (.t 42)], []⟩,
   ⟨(some 44), .call 16 [(.t 39), (.t 43)], []⟩,
   ⟨(some 45), .un .not (.t 44), []⟩],
  .s ⟨(some 46), .pick (.t 38) (.c (.bool true)) (.t 45), []⟩,
  .s ⟨(some 47), .mv (.t 46), []⟩,
  .g 47 false [⟨(some 48), .mv (.t 12), []⟩,
   ⟨(some 49), .mv (.t 0), []⟩,
   ⟨(some 50), .call 28 [(.t 49)], []⟩,
   ⟨(some 51), .call 16 [(.t 48), (.t 50)], []⟩,
   ⟨(some 52), .un .not (.t 51), []⟩],
  .s ⟨(some 53), .pick (.t 47) (.c (.bool true)) (.t 52), []⟩])
 (.cond (.t 53) (.seq (.reg [.s ⟨(some 8), .mv (.c (.bool false)), []⟩])
 .ret)
 .skip))
 (.seq (.seq (.reg [.s ⟨(some 13), .mv (.c (.int .i64 0)), []⟩])
 (.block 0 (.loop (.seq (.seq (.reg [.s ⟨(some 54), .mv (.t 13), []⟩,
  .s ⟨(some 55), .mv (.t 10), []⟩,
  .s ⟨(some 56), .lenL (.t 55), []⟩,
  .s ⟨(some 57), .bin .lss (.t 54) (.t 56), []⟩])
 (.cond (.t 57) .skip
 (.exit 0)))
 (.seq (.block 1 (.reg [.s ⟨(some 60), .mv (.t 10), []⟩,
  .s ⟨(some 61), .mv (.t 13), []⟩,
  .s ⟨(some 62), .idx 2 (.t 60) (.t 61), []⟩,
  .s ⟨(some 63), .faddr 1 (.t 62), []⟩,
  .s ⟨(some 64), .load false 1 (.t 63), []⟩,
  .s ⟨(some 65), .bin .add (.t 64) (.c (.int .i64 1)), []⟩,
  .s ⟨(some 66), .idx 2 (.t 60) (.t 61), []⟩,
  .s ⟨(some 67), .faddr 1 (.t 66), []⟩,
  .s ⟨none, .store 1 (.t 67) (.t 65), []⟩]))
 (.reg [.s ⟨(some 58), .mv (.t 13), []⟩,
  .s ⟨(some 59), .bin .add (.t 58) (.c (.int .i64 1)), []⟩,
  .s ⟨(some 13), .mv (.t 59), []⟩]))))))
 (.seq (.seq (.reg [.s ⟨(some 14), .mv (.c (.int .i64 0)), []⟩])
 (.block 2 (.loop (.seq (.seq (.reg [.s ⟨(some 68), .mv (.t 14), []⟩,
  .s ⟨(some 69), .mv (.t 11), []⟩,
  .s ⟨(some 70), .lenL (.t 69), []⟩,
  .s ⟨(some 71), .bin .lss (.t 68) (.t 70), []⟩])
 (.cond (.t 71) .skip
 (.exit 2)))
 (.seq (.block 3 (.seq (.reg [.s ⟨(some 74), .mv (.t 11), []⟩,
  .s ⟨(some 75), .mv (.t 14), []⟩,
  .s ⟨(some 76), .idx 3 (.t 74) (.t 75), []⟩,
  .s ⟨(some 77), .faddr 0 (.t 76), []⟩,
  .s ⟨(some 78), .load false 1 (.t 77), []⟩,
  .s ⟨(some 79), .bin .add (.t 78) (.c (.int .i64 1)), []⟩,
  .s ⟨(some 80), .idx 3 (.t 74) (.t 75), []⟩,
  .s ⟨(some 81), .faddr 0 (.t 80), []⟩,
  .s ⟨none, .store 1 (.t 81) (.t 79), []⟩])
 (.seq (.reg [.s ⟨(some 15), .mv (.c (.int .i64 0)), []⟩])
 (.block 4 (.loop (.seq (.seq (.reg [.s ⟨(some 82), .mv (.t 15), []⟩,
  .s ⟨(some 83), .mv (.t 11), []⟩,
  .s ⟨(some 84), .mv (.t 14), []⟩,
  .s ⟨(some 85), .idx 3 (.t 83) (.t 84), []⟩,
  .s ⟨(some 86), .faddr 2 (.t 85), []⟩,
  .s ⟨(some 87), .load false 1 (.t 86), []⟩,
  .s ⟨(some 88), .lenL (.t 87), []⟩,
  .s ⟨(some 89), .bin .lss (.t 82) (.t 88), []⟩])
 (.cond (.t 89) .skip
 (.exit 4)))
 (.seq (.block 5 (.reg [.s ⟨(some 92), .mv (.t 11), []⟩,
  .s ⟨(some 93), .mv (.t 14), []⟩,
  .s ⟨(some 94), .idx 3 (.t 92) (.t 93), []⟩,
  .s ⟨(some 95), .faddr 2 (.t 94), []⟩,
  .s ⟨(some 96), .load false 1 (.t 95), []⟩,
  .s ⟨(some 97), .mv (.t 15), []⟩,
  .s ⟨(some 98), .idx 2 (.t 96) (.t 97), []⟩,
  .s ⟨(some 99), .faddr 1 (.t 98), []⟩,
  .s ⟨(some 100), .load false 1 (.t 99), []⟩,
  .s ⟨(some 101), .bin .add (.t 100) (.c (.int .i64 1)), []⟩,
  .s ⟨(some 102), .idx 2 (.t 96) (.t 97), []⟩,
  .s ⟨(some 103), .faddr 1 (.t 102), []⟩,
  .s ⟨none, .store 1 (.t 103) (.t 101), []⟩]))
 (.reg [.s ⟨(some 90), .mv (.t 15), []⟩,
  .s ⟨(some 91), .bin .add (.t 90) (.c (.int .i64 1)), []⟩,
  .s ⟨(some 15), .mv (.t 91), []⟩]))))))))
 (.reg [.s ⟨(some 72), .mv (.t 14), []⟩,
  .s ⟨(some 73), .bin .add (.t 72) (.c (.int .i64 1)), []⟩,
  .s ⟨(some 14), .mv (.t 73), []⟩]))))))
 (.seq (.seq (.reg [.s ⟨(some 16), .mv (.c (.int .i64 0)), []⟩])
 (.block 6 (.loop (.seq (.seq (.reg [.s ⟨(some 104), .mv (.t 16), []⟩,
  .s ⟨(some 105), .mv (.t 12), []⟩,
  .s ⟨(some 106), .lenL (.t 105), []⟩,
  .s ⟨(some 107), .bin .lss (.t 104) (.t 106), []⟩])
 (.cond (.t 107) .skip
 (.exit 6)))
 (.seq (.block 7 (.seq (.reg [.s ⟨(some 110), .mv (.t 12), []⟩,
  .s ⟨(some 111), .mv (.t 16), []⟩,
  .s ⟨(some 112), .idx 3 (.t 110) (.t 111), []⟩,
  .s ⟨(some 113), .faddr 0 (.t 112), []⟩,
  .s ⟨(some 114), .load false 1 (.t 113), []⟩,
  .s ⟨(some 115), .bin .add (.t 114) (.c (.int .i64 1)), []⟩,
  .s ⟨(some 116), .idx 3 (.t 110) (.t 111), []⟩,
  .s ⟨(some 117), .faddr 0 (.t 116), []⟩,
  .s ⟨none, .store 1 (.t 117) (.t 115), []⟩])
 (.seq (.reg [.s ⟨(some 17), .mv (.c (.int .i64 0)), []⟩])
 (.block 8 (.loop (.seq (.seq (.reg [.s ⟨(some 118), .mv (.t 17), []⟩,
  .s ⟨(some 119), .mv (.t 12), []⟩,
  .s ⟨(some 120), .mv (.t 16), []⟩,
  .s ⟨(some 121), .idx 3 (.t 119) (.t 120), []⟩,
  .s ⟨(some 122), .faddr 2 (.t 121), []⟩,
  .s ⟨(some 123), .load false 1 (.t 122), []⟩,
  .s ⟨(some 124), .lenL (.t 123), []⟩,
  .s ⟨(some 125), .bin .lss (.t 118) (.t 124), []⟩])
 (.cond (.t 125) .skip
 (.exit 8)))
 (.seq (.block 9 (.reg [.s ⟨(some 128), .mv (.t 12), []⟩,
  .s ⟨(some 129), .mv (.t 16), []⟩,
  .s ⟨(some 130), .idx 3 (.t 128) (.t 129), []⟩,
  .s ⟨(some 131), .faddr 2 (.t 130), []⟩,
  .s ⟨(some 132), .load false 1 (.t 131), []⟩,
  .s ⟨(some 133), .mv (.t 17), []⟩,
  .s ⟨(some 134), .idx 2 (.t 132) (.t 133), []⟩,
  .s ⟨(some 135), .faddr 1 (.t 134), []⟩,
  .s ⟨(some 136), .load false 1 (.t 135), []⟩,
  .s ⟨(some 137), .bin .add (.t 136) (.c (.int .i64 1)), []⟩,
  .s ⟨(some 138), .idx 2 (.t 132) (.t 133), []⟩,
  .s ⟨(some 139), .faddr 1 (.t 138), []⟩,
  .s ⟨none, .store 1 (.t 139) (.t 137), []⟩]))
 (.reg [.s ⟨(some 126), .mv (.t 17), []⟩,
  .s ⟨(some 127), .bin .add (.t 126) (.c (.int .i64 1)), []⟩,
  .s ⟨(some 17), .mv (.t 127), []⟩]))))))))
 (.reg [.s ⟨(some 108), .mv (.t 16), []⟩,
  .s ⟨(some 109), .bin .add (.t 108) (.c (.int .i64 1)), []⟩,
  .s ⟨(some 16), .mv (.t 109), []⟩]))))))
 (.seq (.reg [.s ⟨(some 140), .mv (.t 9), []⟩,
  .s ⟨(some 141), .mv (.t 0), []⟩,
  .s ⟨(some 142), .call 16 [(.t 140), (.t 141)], []⟩,
  .s ⟨(some 143), .mv (.t 142), []⟩,
  .g 143 true [⟨(some 144), .call 9 [], []⟩],
  .s ⟨(some 145), .pick (.t 143) (.t 144) (.c (.bool false)), []⟩,
  .s ⟨(some 8), .mv (.t 145), []⟩])
 .ret)))))))))))⟩
def a6 : XFun := ⟨123, [.t 6],
 (.seq (.reg [.s ⟨(some 6), .mv (.c (.bool false)), []⟩])
 (.seq (.seq (.reg [.s ⟨(some 18), .mv (.t 0), []⟩,
  .s ⟨(some 19), .lenL (.t 18), []⟩,
  .s ⟨(some 20), .bin .gtr (.t 19) (.c (.int .i64 1024)), []⟩,
  .s ⟨(some 21), .mv (.t 20), []⟩,
  .g 21 false [⟨(some 22), .mv (.t 2), []⟩,
   ⟨(some 23), .lenL (.t 22), []⟩,
   ⟨(some 24), .bin .gtr (.t 23) (.c (.int .i64 4096)), []⟩],
  .s ⟨(some 25), .pick (.t 21) (.c (.bool true)) (.t 24), []⟩,
  .s ⟨(some 26), .mv (.t 25), []⟩,
  .g 26 false [⟨(some 27), .mv (.t 1), []⟩,
   ⟨(some 28), .call 8 [(.t 27)], []⟩],
  .s ⟨(some 29), .pick (.t 26) (.c (.bool true)) (.t 28), []⟩])
 (.cond (.t 29) (.seq (.reg [.s ⟨(some 30), .call 9 [], []⟩,
  .s ⟨(some 6), .mv (.t 30), []⟩])
 .ret)
 .skip))
 (.seq (.reg [.s ⟨(some 31), .mv (.t 0), []⟩,
  .s ⟨(some 32), .lenL (.t 31), []⟩,
  .s ⟨(some 7), .mv (.t 32), []⟩])
 (.seq (.reg [.s ⟨(some 34), .mv (.t 0), []⟩,
  .s ⟨(some 35), .mv (.t 1), []⟩,
  .s ⟨(some 36), .call 11 [(.t 35)], []⟩,
  .s ⟨(some 37), .call 12 [(.t 34), (.t 36)], []⟩,
  .s ⟨(some 33), .mv (.t 37), []⟩,
  .s ⟨(some 38), .ext 0 (.t 33), []⟩,
  .s ⟨(some 39), .ext 1 (.t 33), []⟩,
  .s ⟨(some 8), .mv (.t 38), []⟩,
  .s ⟨(some 9), .mv (.t 39), []⟩])
 (.seq (.seq (.reg [.s ⟨(some 40), .mv (.t 9), []⟩,
  .s ⟨(some 41), .bin .eql (.t 40) (.c (.int .i64 0)), []⟩,
  .s ⟨(some 42), .mv (.t 1), []⟩,
  .s ⟨(some 43), .call 17 [(.t 42)], []⟩,
  .s ⟨(some 44), .beq true (.t 41) (.t 43), []⟩])
 (.cond (.t 44) (.seq (.reg [.s ⟨(some 6), .mv (.c (.bool false)), []⟩])
 .ret)
 .skip))
 (.seq (.seq (.reg [.s ⟨(some 45), .mv (.t 9), []⟩,
  .s ⟨(some 46), .bin .eql (.t 45) (.c (.int .i64 0)), []⟩])
 (.cond (.t 46) (.seq (.reg [.s ⟨(some 48), .mv (.t 8), []⟩,
  .s ⟨(some 49), .call 29 [(.t 48)], []⟩,
  .s ⟨(some 50), .mv (.t 2), []⟩,
  .s ⟨(some 51), .app 5 1 1 (.t 49) (.t 50), []⟩,
  .s ⟨(some 52), .mv (.t 7), []⟩,
  .s ⟨(some 53), .call 20 [(.t 51), (.t 52)], []⟩,
  .s ⟨(some 47), .mv (.t 53), []⟩,
  .s ⟨(some 54), .ext 0 (.t 47), []⟩,
  .s ⟨(some 55), .ext 1 (.t 47), []⟩,
  .s ⟨(some 56), .ext 2 (.t 47), []⟩,
  .s ⟨(some 10), .mv (.t 54), []⟩,
  .s ⟨(some 11), .mv (.t 55), []⟩,
  .s ⟨(some 12), .mv (.t 56), []⟩])
 (.seq (.reg [.s ⟨(some 57), .mv (.t 12), []⟩,
  .s ⟨(some 58), .bin .neq (.t 57) (.c (.int .i64 0)), []⟩,
  .s ⟨(some 59), .mv (.t 58), []⟩,
  .g 59 false [⟨(some 60), .mv (.t 11), []⟩,
   ⟨(some 61), .mv (.t 8), []⟩,
   ⟨(some 62), .lenL (.t 61), []⟩,
   ⟨(some 63), .bin .neq (.t 60) (.t 62), []⟩],
  .s ⟨(some 64), .pick (.t 59) (.c (.bool true)) (.t 63), []⟩,
  .s ⟨(some 65), .mv (.t 64), []⟩,
  .g 65 false [⟨(some 66), .mv (.t 10), []⟩,
   ⟨(some 67), .mv (.t 1), []⟩,
   ⟨(some 68), .call 16 [(.t 66), (.t 67)], []⟩,
   ⟨(some 69), .un .not (.t 68), []⟩],
  .s ⟨(some 70), .pick (.t 65) (.c (.bool true)) (.t 69), []⟩])
 (.cond (.t 70) (.seq (.reg [.s ⟨(some 6), .mv (.c (.bool false)), []⟩])
 .ret)
 .skip)))
 (.seq (.reg [.s ⟨(some 71), .mv (.t 8), []⟩,
  .s ⟨(some 72), .lenL (.t 71), []⟩,
  .s ⟨(some 73), .bin .neq (.t 72) (.c (.int .i64 0)), []⟩])
 (.cond (.t 73) (.seq (.reg [.s ⟨(some 6), .mv (.c (.bool false)), []⟩])
 .ret)
 .skip))))
 (.seq (.reg [.s ⟨(some 75), .mv (.t 2), []⟩,
  .s ⟨(some 76), .call 20 [(.t 75), (.c (.int .i64 0))], []⟩,
  .s ⟨(some 74), .mv (.t 76), []⟩,
  .s ⟨(some 77), .ext 0 (.t 74), []⟩,
  .s ⟨(some 78), .ext 1 (.t 74), []⟩,
  .s ⟨(some 79), .ext 2 (.t 74), []⟩,
  .s ⟨(some 13), .mv (.t 77), []⟩,
  .s ⟨(some 14), .mv (.t 78), []⟩,
  .s ⟨(some 15), .mv (.t 79), []⟩])
 (.seq (.seq (.reg [.s ⟨(some 80), .mv (.t 15), []⟩,
  .s ⟨(some 81), .bin .neq (.t 80) (.c (.int .i64 0)), []⟩])
 (.cond (.t 81) (.seq (.reg [.s ⟨(some 82), .mv (.t 13), []⟩,
  .s ⟨(some 83), .lenL (.t 82), []⟩,
  .s ⟨(some 84), .bin .eql (.t 83) (.c (.int .i64 0)), []⟩,
  .s ⟨(some 85), .mv (.t 84), []⟩,
  .g 85 true [⟨(some 86), .mv (.t 14), []⟩,
   ⟨(some 87), .bin .eql (.t 86) (.c (.int .i64 0)), []⟩],
  .s ⟨(some 88), .pick (.t 85) (.t 87) (.c (.bool false)), []⟩,
  .s ⟨(some 89), .mv (.t 88), []⟩,
  .g 89 true [⟨(some 90), .call 9 [], []⟩],
  .s ⟨(some 91), .pick (.t 89) (.t 90) (.c (.bool false)), []⟩,
  .s ⟨(some 6), .mv (.t 91), []⟩])
 .ret)
 .skip))
 (.seq (.reg [.s ⟨(some 93), .mv (.t 13), []⟩,
  .s ⟨(some 94), .call 12 [(.c (.slice none 0 0)), (.t 93)], []⟩,
  .s ⟨(some 92), .mv (.t 94), []⟩,
  .s ⟨(some 95), .ext 0 (.t 92), []⟩,
  .s ⟨(some 96), .ext 1 (.t 92), []⟩,
  .s ⟨(some 16), .mv (.t 95), []⟩,
  .s ⟨(some 17), .mv (.t 96), []⟩])
 (.seq (.reg [.s ⟨(some 97), .mv (.t 13), []⟩,
  .s ⟨(some 98), .call 17 [(.t 97)], []⟩,
  .s ⟨(some 99), .mv (.t 98), []⟩,
  .g 99 true [⟨(some 100), .mv (.t 17), []⟩,
   ⟨(some 101), .bin .eql (.t 100) (.c (.int .i64 0)), []⟩],
  .s ⟨(some 102), .pick (.t 99) (.t 101) (.c (.bool false)), []⟩,
  .s ⟨(some 103), .mv (.t 102), []⟩,
  .g 103 true [⟨(some 104), .mv (.t 14), []⟩,
   ⟨(some 105), .bin .geq (.t 104) (.c (.int .i64 1)), []⟩],
  .s ⟨(some 106), .pick (.t 103) (.t 105) (.c (.bool false)), []⟩,
  .s ⟨(some 107), .mv (.t 106), []⟩,
  .g 107 true [⟨(some 108), .mv (.t 14), []⟩,
   ⟨(some 109), .mv (.t 2), []⟩,
   ⟨(some 110), .lenL (.t 109), []⟩,
   ⟨(some 111), .bin .leq (.t 108) (.t 110), []⟩],
  .s ⟨(some 112), .pick (.t 107) (.t 111) (.c (.bool false)), []⟩,
  .s ⟨(some 113), .mv (.t 112), []⟩,
  .g 113 true [⟨(some 114), .mv (.t 16), []⟩,
   ⟨(some 115), .mv (.t 2), []⟩,
   ⟨(some 116), .mv (.t 14), []⟩,
   ⟨(some 117), .slc 1 (.t 115) none (some (.t 116)) none, []⟩,
   ⟨(some 118), .call 14 [(.t 114), (.t 117)], []⟩],
  .s ⟨(some 119), .pick (.t 113) (.t 118) (.c (.bool false)), []⟩,
  .s ⟨(some 120), .mv (.t 119), []⟩,
  .g 120 true [⟨(some 121), .call 9 [], []⟩],
  .s ⟨(some 122), .pick (.t 120) (.t 121) (.c (.bool false)), []⟩,
  .s ⟨(some 6), .mv (.t 122), []⟩])
 .ret))))))))))⟩
def a7 : XFun := ⟨157, [.t 8],
 (.seq (.reg [.s ⟨(some 8), .mv (.c (.bool false)), []⟩])
 (.seq (.seq (.reg [.s ⟨(some 15), .mv (.t 0), []⟩,
  .s ⟨(some 16), .call 8 [(.t 15)], []⟩,
  .s ⟨(some 17), .mv (.t 16), []⟩,
  .g 17 false [⟨(some 18), .mv (.t 3), []⟩,
   ⟨(some 19), .lenL (.t 18), []⟩,
   ⟨(some 20), .bin .gtr (.t 19) (.c (.int .i64 100)), []⟩],
  .s ⟨(some 21), .pick (.t 17) (.c (.bool true)) (.t 20), []⟩,
  .s ⟨(some 22), .mv (.t 21), []⟩,
  .g 22 false [⟨(some 23), .mv (.t 0), []⟩,
   ⟨(some 24), .lenL (.t 23), []⟩,
   ⟨(some 25), .bin .gtr (.t 24) (.c (.int .i64 500)), []⟩],
  .s ⟨(some 26), .pick (.t 22) (.c (.bool true)) (.t 25), []⟩,
  .s ⟨(some 27), .mv (.t 26), []⟩,
  .g 27 false [⟨(some 28), .mv (.t 0), []⟩,
   ⟨(some 29), .call 17 [(.t 28)], []⟩,
   ⟨(some 30), .un .not (.t 29), []⟩],
  .s ⟨(some 31), .pick (.t 27) (.c (.bool true)) (.t 30), []⟩])
 (.cond (.t 31) (.seq (.reg [.s ⟨(some 32), .call 9 [], []⟩,
  .s ⟨(some 8), .mv (.t 32), []⟩])
 .ret)
 .skip))
 (.seq (.reg [.s ⟨(some 33), .mv (.t 0), []⟩,
  .s ⟨(some 34), .call 11 [(.t 33)], []⟩,
  .s ⟨(some 35), .mv (.t 1), []⟩,
  .s ⟨(some 36), .mv (.t 2), []⟩,
  .s ⟨(some 37), .call 23 [(.t 34), (.t 35), (.t 36)], []⟩,
  .s ⟨(some 9), .mv (.t 37), []⟩])
 (.seq (.reg [.s ⟨(some 38), .mv (.t 0), []⟩,
  .s ⟨(some 39), .call 11 [(.t 38)], []⟩,
  .s ⟨(some 40), .call 24 [(.t 39)], []⟩,
  .s ⟨(some 10), .mv (.t 40), []⟩])
 (.seq (.seq (.reg [.s ⟨(some 41), .mv (.t 9), []⟩,
  .s ⟨(some 42), .call 17 [(.t 41)], []⟩,
  .s ⟨(some 43), .un .not (.t 42), []⟩,
  .s ⟨(some 44), .mv (.t 43), []⟩,
  .g 44 false [⟨(some 45), .mv (.t 10), []⟩,
   ⟨(some 46), .call 17 [(.t 45)], []⟩,
   ⟨(some 47), .un .not (.t 46), []⟩],
  .s ⟨(some 48), .pick (.t 44) (.c (.bool true)) (.t 47), []⟩,
  .s ⟨(some 49), .mv (.t 48), []⟩,
  .g 49 false [⟨(some 50), .mv (.t 9), []⟩,
   ⟨(some 51), .lenL (.t 50), []⟩,
   ⟨(some 52), .mv (.t 0), []⟩,
   ⟨(some 53), .lenL (.t 52), []⟩,
   ⟨(some 54), .bin .add (.t 53) (.c (.int .i64 1)), []⟩,
   ⟨(some 55), .bin .gtr (.t 51) (.t 54), []⟩],
  .s ⟨(some 56), .pick (.t 49) (.c (.bool true)) (.t 55), []⟩,
  .s ⟨(some 57), .mv (.t 56), []⟩,
  .g 57 false [⟨(some 58), .mv (.t 10), []⟩,
   ⟨(some 59), .lenL (.t 58), []⟩,
   ⟨(some 60), .mv (.t 0), []⟩,
   ⟨(some 61), .lenL (.t 60), []⟩,
   ⟨(some 62), .bin .gtr (.t 59) (.t 61), []⟩],
  .s ⟨(some 63), .pick (.t 57) (.c (.bool true)) (.t 62), []⟩])
 (.cond (.t 63) (.seq (.reg [.s ⟨(some 8), .mv (.c (.bool false)), []⟩])
 .ret)
 .skip))
 (.seq (.seq (.reg [.s ⟨(some 11), .mv (.c (.int .i64 0)), []⟩])
 (.block 0 (.loop (.seq (.seq (.reg [.s ⟨(some 64), .mv (.t 11), []⟩,
  .s ⟨(some 65), .mv (.t 0), []⟩,
  .s ⟨(some 66), .lenL (.t 65), []⟩,
  .s ⟨(some 67), .bin .lss (.t 64) (.t 66), []⟩])
 (.cond (.t 67) .skip
 (.exit 0)))
 (.seq (.block 1 (.parT (.quiet ⟨none, (some 71), .mv (.t 3)⟩
  (.quiet ⟨none, (some 73), .mv (.t 0)⟩
  (.quiet ⟨none, (some 74), .mv (.t 11)⟩
  (.quiet ⟨none, (some 75), .idx 3 (.t 73) (.t 74)⟩
  (.quiet ⟨none, (some 76), .faddr 0 (.t 75)⟩
  (.quiet ⟨none, (some 77), .load false 1 (.t 76)⟩
  (.quiet ⟨none, (some 78), .mv (.t 0)⟩
  (.quiet ⟨none, (some 79), .mv (.t 11)⟩
  (.quiet ⟨none, (some 80), .idx 3 (.t 78) (.t 79)⟩
  (.quiet ⟨none, (some 81), .faddr 1 (.t 80)⟩
  (.quiet ⟨none, (some 82), .load false 1 (.t 81)⟩
  (.quiet ⟨none, (some 83), .mv (.t 0)⟩
  (.quiet ⟨none, (some 84), .mv (.t 11)⟩
  (.quiet ⟨none, (some 85), .idx 3 (.t 83) (.t 84)⟩
  (.quiet ⟨none, (some 86), .faddr 1 (.t 85)⟩
  (.quiet ⟨none, (some 87), .load false 1 (.t 86)⟩
  (.quiet ⟨none, (some 88), .bin .sub (.t 87) (.c (.int .i64 1))⟩
  (.quiet ⟨none, (some 89), .mv (.t 0)⟩
  (.quiet ⟨none, (some 90), .mv (.t 11)⟩
  (.quiet ⟨none, (some 91), .idx 3 (.t 89) (.t 90)⟩
  (.quiet ⟨none, (some 92), .faddr 0 (.t 91)⟩
  (.quiet ⟨none, (some 93), .load false 1 (.t 92)⟩
  (.quiet ⟨none, (some 94), .bin .sub (.t 93) (.c (.int .i64 1))⟩
  (.both (.eff ⟨none, (some 70), .bslice 3 0 [] []⟩ [⟨none, (some 93), .load false 1 (.t 92)⟩, ⟨none, (some 87), .load false 1 (.t 86)⟩, ⟨none, (some 82), .load false 1 (.t 81)⟩, ⟨none, (some 77), .load false 1 (.t 76)⟩]
  (.both (.eff ⟨none, (some 72), .app 3 1 8 (.t 70) (.t 71)⟩ [⟨none, (some 93), .load false 1 (.t 92)⟩, ⟨none, (some 87), .load false 1 (.t 86)⟩, ⟨none, (some 82), .load false 1 (.t 81)⟩, ⟨none, (some 77), .load false 1 (.t 76)⟩]
  (.eff ⟨none, (some 95), .bslice 3 4 [(.int .i64 0), (.int .i64 0), (.int .i64 0), (.int .i64 0)] [(0, 1, (.t 77)), (1, 1, (.t 82)), (2, 1, (.t 88)), (3, 1, (.t 94))]⟩ []
  (.eff ⟨none, (some 96), .app 3 1 8 (.t 72) (.t 95)⟩ []
  (.quiet ⟨none, (some 3), .mv (.t 96)⟩
  .done))))
  (.eff ⟨none, (some 95), .bslice 3 4 [(.int .i64 0), (.int .i64 0), (.int .i64 0), (.int .i64 0)] [(0, 1, (.t 77)), (1, 1, (.t 82)), (2, 1, (.t 88)), (3, 1, (.t 94))]⟩ []
  (.eff ⟨none, (some 72), .app 3 1 8 (.t 70) (.t 71)⟩ [⟨none, (some 93), .load false 1 (.t 92)⟩, ⟨none, (some 87), .load false 1 (.t 86)⟩, ⟨none, (some 82), .load false 1 (.t 81)⟩, ⟨none, (some 77), .load false 1 (.t 76)⟩]
  (.eff ⟨none, (some 96), .app 3 1 8 (.t 72) (.t 95)⟩ []
  (.quiet ⟨none, (some 3), .mv (.t 96)⟩
  .done))))))
  (.eff ⟨none, (some 95), .bslice 3 4 [(.int .i64 0), (.int .i64 0), (.int .i64 0), (.int .i64 0)] [(0, 1, (.t 77)), (1, 1, (.t 82)), (2, 1, (.t 88)), (3, 1, (.t 94))]⟩ []
  (.eff ⟨none, (some 70), .bslice 3 0 [] []⟩ [⟨none, (some 93), .load false 1 (.t 92)⟩, ⟨none, (some 87), .load false 1 (.t 86)⟩, ⟨none, (some 82), .load false 1 (.t 81)⟩, ⟨none, (some 77), .load false 1 (.t 76)⟩]
  (.eff ⟨none, (some 72), .app 3 1 8 (.t 70) (.t 71)⟩ [⟨none, (some 93), .load false 1 (.t 92)⟩, ⟨none, (some 87), .load false 1 (.t 86)⟩, ⟨none, (some 82), .load false 1 (.t 81)⟩, ⟨none, (some 77), .load false 1 (.t 76)⟩]
  (.eff ⟨none, (some 96), .app 3 1 8 (.t 72) (.t 95)⟩ []
  (.quiet ⟨none, (some 3), .mv (.t 96)⟩
  .done)))))))))))))))))))))))))))))))
 (.reg [.s ⟨(some 68), .mv (.t 11), []⟩,
  .s ⟨(some 69), .bin .add (.t 68) (.c (.int .i64 1)), []⟩,
  .s ⟨(some 11), .mv (.t 69), []⟩]))))))
 (.seq (.reg [.s ⟨(some 97), .bslice 3 0 [] [], []⟩,
  .s ⟨(some 98), .mv (.t 3), []⟩,
  .s ⟨(some 99), .app 3 1 8 (.t 97) (.t 98), []⟩,
  .s ⟨(some 100), .mv (.t 1), []⟩,
  .s ⟨(some 101), .mv (.t 1), []⟩,
  .s ⟨(some 102), .bin .sub (.t 101) (.c (.int .i64 1)), []⟩,
  .s ⟨(some 103), .mv (.t 2), []⟩,
  .s ⟨(some 104), .mv (.t 2), []⟩,
  .s ⟨(some 105), .bin .sub (.t 104) (.c (.int .i64 1)), []⟩,
  .s ⟨(some 106), .bslice 3 4 [(.int .i64 0), (.int .i64 0), (.int .i64 0), (.int .i64 0)] [(0, 1, (.t 100)), (1, 1, (.t 102)), (2, 1, (.t 103)), (3, 1, (.t 105))], []⟩,
  .s ⟨(some 107), .app 3 1 8 (.t 99) (.t 106), []⟩,
  .s ⟨(some 3), .mv (.t 107), []⟩])
 (.seq (.seq (.reg [.s ⟨(some 12), .mv (.c (.int .i64 0)), []⟩])
 (.block 2 (.loop (.seq (.seq (.reg [.s ⟨(some 108), .mv (.t 12), []⟩,
  .s ⟨(some 109), .mv (.t 3), []⟩,
  .s ⟨(some 110), .lenL (.t 109), []⟩,
  .s ⟨(some 111), .bin .lss (.t 108) (.t 110), []⟩])
 (.cond (.t 111) .skip
 (.exit 2)))
 (.seq (.block 3 (.seq (.reg [.s ⟨(some 114), .mv (.t 0), []⟩,
  .s ⟨(some 115), .mv (.t 3), []⟩,
  .s ⟨(some 116), .mv (.t 12), []⟩,
  .s ⟨(some 117), .idx 1 (.t 115) (.t 116), []⟩,
  .s ⟨(some 118), .load false 1 (.t 117), []⟩,
  .s ⟨(some 119), .call 22 [(.t 114), (.t 118)], []⟩,
  .s ⟨(some 13), .mv (.t 119), []⟩])
 (.seq (.reg [.s ⟨(some 120), .mv (.t 9), []⟩,
  .s ⟨(some 121), .mv (.t 3), []⟩,
  .s ⟨(some 122), .mv (.t 12), []⟩,
  .s ⟨(some 123), .idx 1 (.t 121) (.t 122), []⟩,
  .s ⟨(some 124), .load false 1 (.t 123), []⟩,
  .s ⟨(some 125), .call 22 [(.t 120), (.t 124)], []⟩,
  .s ⟨(some 14), .mv (.t 125), []⟩])
 (.seq (.seq (.reg [.s ⟨(some 126), .mv (.t 1), []⟩,
  .s ⟨(some 127), .mv (.t 3), []⟩,
  .s ⟨(some 128), .mv (.t 12), []⟩,
  .s ⟨(some 129), .idx 1 (.t 127) (.t 128), []⟩,
  .s ⟨(some 130), .load false 1 (.t 129), []⟩,
  .s ⟨(some 131), .bin .leq (.t 126) (.t 130), []⟩,
  .s ⟨(some 132), .mv (.t 131), []⟩,
  .g 132 true [⟨(some 133), .mv (.t 3), []⟩,
   ⟨(some 134), .mv (.t 12), []⟩,
   ⟨(some 135), .idx 1 (.t 133) (.t 134), []⟩,
   ⟨(some 136), .load false 1 (.t 135), []⟩,
   ⟨(some 137), .mv (.t 2), []⟩,
   ⟨(some 138), .bin .lss (.t 136) (.t 137), []⟩],
  .s ⟨(some 139), .pick (.t 132) (.t 138) (.c (.bool false)), []⟩])
 (.cond (.t 139) (.seq (.reg [.s ⟨(some 140), .mv (.t 14), []⟩,
  .s ⟨(some 141), .lenL (.t 140), []⟩,
  .s ⟨(some 142), .bin .neq (.t 141) (.c (.int .i64 0)), []⟩])
 (.cond (.t 142) (.seq (.reg [.s ⟨(some 8), .mv (.c (.bool false)), []⟩])
 .ret)
 .skip))
 (.seq (.reg [.s ⟨(some 143), .mv (.t 13), []⟩,
  .s ⟨(some 144), .mv (.t 14), []⟩,
  .s ⟨(some 145), .call 25 [(.t 143), (.t 144)], []⟩,
  .s ⟨(some 146), .un .not (.t 145), []⟩])
 (.cond (.t 146) (.seq (.reg [.s ⟨(some 8), .mv (.c (.bool false)), []⟩])
 .ret)
 .skip))))
 (.seq (.reg [.s ⟨(some 147), .mv (.t 13), []⟩,
  .s ⟨(some 148), .mv (.t 10), []⟩,
  .s ⟨(some 149), .mv (.t 3), []⟩,
  .s ⟨(some 150), .mv (.t 12), []⟩,
  .s ⟨(some 151), .idx 1 (.t 149) (.t 150), []⟩,
  .s ⟨(some 152), .load false 1 (.t 151), []⟩,
  .s ⟨(some 153), .call 22 [(.t 148), (.t 152)], []⟩,
  .s ⟨(some 154), .call 25 [(.t 147), (.t 153)], []⟩,
  .s ⟨(some 155), .un .not (.t 154), []⟩])
 (.cond (.t 155) (.seq (.reg [.s ⟨(some 8), .mv (.c (.bool false)), []⟩])
 .ret)
 .skip))))))
 (.reg [.s ⟨(some 112), .mv (.t 12), []⟩,
  .s ⟨(some 113), .bin .add (.t 112) (.c (.int .i64 1)), []⟩,
  .s ⟨(some 12), .mv (.t 113), []⟩]))))))
 (.seq (.reg [.s ⟨(some 156), .call 9 [], []⟩,
  .s ⟨(some 8), .mv (.t 156), []⟩])
 .ret)))))))))⟩
theorem s7 : slimF Try.prog Try.f7 = some a7.fn := by kernel_rfl
def a8 : XFun := ⟨38, [.t 2],
 (.seq (.reg [.s ⟨(some 2), .mv (.c (.bool false)), []⟩])
 (.seq (.reg [.s ⟨(some 3), .mv (.c (.int .i64 0)), []⟩])
 (.seq (.seq (.reg [.s ⟨(some 4), .mv (.c (.int .i64 0)), []⟩])
 (.block 0 (.loop (.seq (.seq (.reg [.s ⟨(some 5), .mv (.t 4), []⟩,
  .s ⟨(some 6), .mv (.t 0), []⟩,
  .s ⟨(some 7), .lenL (.t 6), []⟩,
  .s ⟨(some 8), .bin .lss (.t 5) (.t 7), []⟩,
  .s ⟨(some 9), .mv (.t 8), []⟩,
  .g 9 true [⟨(some 10), .mv (.t 4), []⟩,
   ⟨(some 11), .bin .leq (.t 10) (.c (.int .i64 5000)), []⟩],
  .s ⟨(some 12), .pick (.t 9) (.t 11) (.c (.bool false)), []⟩])
 (.cond (.t 12) .skip
 (.exit 0)))
 (.seq (.block 1 (.seq (.reg [.s ⟨(some 15), .mv (.t 3), []⟩,
  .s ⟨(some 16), .mv (.t 0), []⟩,
  .s ⟨(some 17), .mv (.t 4), []⟩,
  .s ⟨(some 18), .idx 3 (.t 16) (.t 17), []⟩,
  .s ⟨(some 19), .faddr 2 (.t 18), []⟩,
  .s ⟨(some 20), .load false 1 (.t 19), []⟩,
  .s ⟨(some 21), .lenL (.t 20), []⟩,
  .s ⟨(some 22), .minmax false (.t 21) [(.c (.int .i64 1000))], []⟩,
  .s ⟨(some 23), .bin .add (.t 15) (.t 22), []⟩,
  .s ⟨(some 3), .mv (.t 23), []⟩])
 (.seq (.reg [.s ⟨(some 24), .mv (.t 0), []⟩,
  .s ⟨(some 25), .mv (.t 4), []⟩,
  .s ⟨(some 26), .idx 3 (.t 24) (.t 25), []⟩,
  .s ⟨(some 27), .faddr 2 (.t 26), []⟩,
  .s ⟨(some 28), .load false 1 (.t 27), []⟩,
  .s ⟨(some 29), .lenL (.t 28), []⟩,
  .s ⟨(some 30), .bin .gtr (.t 29) (.c (.int .i64 1000)), []⟩])
 (.cond (.t 30) (.seq (.reg [.s ⟨(some 2), .mv (.c (.bool true)), []⟩])
 .ret)
 .skip))))
 (.reg [.s ⟨(some 13), .mv (.t 4), []⟩,
  .s ⟨(some 14), .bin .add (.t 13) (.c (.int .i64 1)), []⟩,
  .s ⟨(some 4), .mv (.t 14), []⟩]))))))
 (.seq (.reg [.s ⟨(some 31), .mv (.t 0), []⟩,
  .s ⟨(some 32), .lenL (.t 31), []⟩,
  .s ⟨(some 33), .bin .gtr (.t 32) (.c (.int .i64 5000)), []⟩,
  .s ⟨(some 34), .mv (.t 33), []⟩,
  .g 34 false [⟨(some 35), .mv (.t 3), []⟩,
   ⟨(some 36), .bin .gtr (.t 35) (.c (.int .i64 20000)), []⟩],
  .s ⟨(some 37), .pick (.t 34) (.c (.bool true)) (.t 36), []⟩,
  .s ⟨(some 2), .mv (.t 37), []⟩])
 .ret))))⟩
theorem s8 : slimF Try.prog Try.f8 = some a8.fn := by kernel_rfl
def a9 : XFun := ⟨91, [.t 0],
 (.seq (.reg [.s ⟨(some 0), .mv (.c (.bool false)), []⟩])
 (.seq (.reg [.s ⟨(some 9), .build [(.int .u8 0), (.int .i64 0)] [(0, 1, (.c (.int .u8 2))), (1, 1, (.c (.int .i64 2)))], []⟩,
  .s ⟨(some 10), .bslice 44 1 [(.int .u8 0), (.int .i64 0)] [(0, 2, (.t 9))], []⟩,
  .s ⟨(some 11), .build [(.int .i64 0), (.int .i64 0), (.slice none 0 0)] [(0, 1, (.c (.int .i64 3))), (1, 1, (.c (.int .i64 5))), (2, 1, (.t 10))], []⟩,
  .s ⟨(some 12), .build [(.int .u8 0), (.int .i64 0)] [(0, 1, (.c (.int .u8 1))), (1, 1, (.c (.int .i64 7)))], []⟩,
  .s ⟨(some 13), .bslice 44 1 [(.int .u8 0), (.int .i64 0)] [(0, 2, (.t 12))], []⟩,
  .s ⟨(some 14), .build [(.int .i64 0), (.int .i64 0), (.slice none 0 0)] [(0, 1, (.c (.int .i64 5))), (1, 1, (.c (.int .i64 9))), (2, 1, (.t 13))], []⟩,
  .s ⟨(some 15), .bslice 46 2 [(.int .i64 0), (.int .i64 0), (.slice none 0 0), (.int .i64 0), (.int .i64 0), (.slice none 0 0)] [(0, 3, (.t 11)), (3, 3, (.t 14))], []⟩,
  .s ⟨(some 1), .mv (.t 15), []⟩])
 (.seq (.reg [.s ⟨(some 17), .mv (.t 1), []⟩,
  .s ⟨(some 18), .call 12 [(.c (.slice none 0 0)), (.t 17)], []⟩,
  .s ⟨(some 16), .mv (.t 18), []⟩,
  .s ⟨(some 19), .ext 0 (.t 16), []⟩,
  .s ⟨(some 20), .ext 1 (.t 16), []⟩,
  .s ⟨(some 2), .mv (.t 19), []⟩,
  .s ⟨(some 3), .mv (.t 20), []⟩])
 (.seq (.reg [.s ⟨(some 22), .mv (.t 2), []⟩,
  .s ⟨(some 23), .call 20 [(.t 22), (.c (.int .i64 0))], []⟩,
  .s ⟨(some 21), .mv (.t 23), []⟩,
  .s ⟨(some 24), .ext 0 (.t 21), []⟩,
  .s ⟨(some 25), .ext 1 (.t 21), []⟩,
  .s ⟨(some 26), .ext 2 (.t 21), []⟩,
  .s ⟨(some 4), .mv (.t 24), []⟩,
  .s ⟨(some 5), .mv (.t 25), []⟩,
  .s ⟨(some 6), .mv (.t 26), []⟩])
 (.seq (.reg [.s ⟨(some 27), .mv (.t 1), []⟩,
  .s ⟨(some 28), .call 22 [(.t 27), (.c (.int .i64 4))], []⟩,
  .s ⟨(some 7), .mv (.t 28), []⟩])
 (.seq (.reg [.s ⟨(some 29), .mv (.t 1), []⟩,
  .s ⟨(some 30), .call 23 [(.t 29), (.c (.int .i64 4)), (.c (.int .i64 6))], []⟩,
  .s ⟨(some 8), .mv (.t 30), []⟩])
 (.seq (.reg [.s ⟨(some 31), .mv (.t 3), []⟩,
  .s ⟨(some 32), .bin .eql (.t 31) (.c (.int .i64 0)), []⟩,
  .s ⟨(some 33), .mv (.t 32), []⟩,
  .g 33 true [⟨(some 34), .mv (.t 2), []⟩,
   ⟨(some 35), .lenL (.t 34), []⟩,
   ⟨(some 36), .bin .eql (.t 35) (.c (.int .i64 11)), []⟩],
  .s ⟨(some 37), .pick (.t 33) (.t 36) (.c (.bool false)), []⟩,
  .s ⟨(some 38), .mv (.t 37), []⟩,
  .g 38 true [⟨(some 39), .mv (.t 6), []⟩,
   ⟨(some 40), .bin .eql (.t 39) (.c (.int .i64 0)), []⟩],
  .s ⟨(some 41), .pick (.t 38) (.t 40) (.c (.bool false)), []⟩,
  .s ⟨(some 42), .mv (.t 41), []⟩,
  .g 42 true [⟨(some 43), .mv (.t 5), []⟩,
   ⟨(some 44), .bin .eql (.t 43) (.c (.int .i64 11)), []⟩],
  .s ⟨(some 45), .pick (.t 42) (.t 44) (.c (.bool false)), []⟩,
  .s ⟨(some 46), .mv (.t 45), []⟩,
  .g 46 true [⟨(some 47), .mv (.t 1), []⟩,
   ⟨(some 48), .mv (.t 4), []⟩,
   ⟨(some 49), .call 16 [(.t 47), (.t 48)], []⟩],
  .s ⟨(some 50), .pick (.t 46) (.t 49) (.c (.bool false)), []⟩,
  .s ⟨(some 51), .mv (.t 50), []⟩,
  .g 51 true [⟨(some 52), .mv (.t 7), []⟩,
   ⟨(some 53), .lenL (.t 52), []⟩,
   ⟨(some 54), .bin .eql (.t 53) (.c (.int .i64 1)), []⟩],
  .s ⟨(some 55), .pick (.t 51) (.t 54) (.c (.bool false)), []⟩,
  .s ⟨(some 56), .mv (.t 55), []⟩,
  .g 56 true [⟨(some 57), .mv (.t 7), []⟩,
   ⟨(some 58), .idx 2 (.t 57) (.c (.int .i64 0)), []⟩,
   ⟨(some 59), .faddr 1 (.t 58), []⟩,
   ⟨(some 60), .load false 1 (.t 59), []⟩,
   ⟨(some 61), .bin .eql (.t 60) (.c (.int .i64 2)), []⟩],
  .s ⟨(some 62), .pick (.t 56) (.t 61) (.c (.bool false)), []⟩,
  .s ⟨(some 63), .mv (.t 62), []⟩,
  .g 63 true [⟨(some 64), .mv (.t 8), []⟩,
   ⟨(some 65), .lenL (.t 64), []⟩,
   ⟨(some 66), .bin .eql (.t 65) (.c (.int .i64 2)), []⟩],
  .s ⟨(some 67), .pick (.t 63) (.t 66) (.c (.bool false)), []⟩,
  .s ⟨(some 68), .mv (.t 67), []⟩,
  .g 68 true [⟨(some 69), .mv (.t 8), []⟩,
   ⟨(some 70), .idx 3 (.t 69) (.c (.int .i64 0)), []⟩,
   ⟨(some 71), .faddr 1 (.t 70), []⟩,
   ⟨(some 72), .load false 1 (.t 71), []⟩,
   ⟨(some 73), .bin .eql (.t 72) (.c (.int .i64 4)), []⟩],
  .s ⟨(some 74), .pick (.t 68) (.t 73) (.c (.bool false)), []⟩,
  .s ⟨(some 75), .mv (.t 74), []⟩,
  .g 75 true [⟨(some 76), .mv (.t 8), []⟩,
   ⟨(some 77), .idx 3 (.t 76) (.c (.int .i64 1)), []⟩,
   ⟨(some 78), .faddr 0 (.t 77), []⟩,
   ⟨(some 79), .load false 1 (.t 78), []⟩,
   ⟨(some 80), .bin .eql (.t 79) (.c (.int .i64 6)), []⟩],
  .s ⟨(some 81), .pick (.t 75) (.t 80) (.c (.bool false)), []⟩,
  .s ⟨(some 82), .mv (.t 81), []⟩,
  .g 82 true [⟨(some 83), .call 17 [(.c (.slice none 0 0))], []⟩],
  .s ⟨(some 84), .pick (.t 82) (.t 83) (.c (.bool false)), []⟩,
  .s ⟨(some 85), .mv (.t 84), []⟩,
  .g 85 true [⟨(some 86), .mv (.t 1), []⟩,
   ⟨(some 87), .call 24 [(.t 86)], []⟩,
   ⟨(some 88), .lenL (.t 87), []⟩,
   ⟨(some 89), .bin .eql (.t 88) (.c (.int .i64 2)), []⟩],
  .s ⟨(some 90), .pick (.t 85) (.t 89) (.c (.bool false)), []⟩,
  .s ⟨(some 0), .mv (.t 90), []⟩])
 .ret)))))))⟩
theorem s9 : slimF Try.prog Try.f9 = some a9.fn := by kernel_rfl
def a10 : XFun := ⟨26, [.t 2],
 (.seq (.reg [.s ⟨(some 2), .mv (.c (.slice none 0 0)), []⟩])
 (.seq (.reg [.s ⟨(some 5), .mv (.t 0), []⟩,
  .s ⟨(some 6), .lenL (.t 5), []⟩,
  .s ⟨(some 7), .mv (.t 0), []⟩,
  .s ⟨(some 8), .lenL (.t 7), []⟩,
  .s ⟨(some 9), .bin .add (.t 8) (.c (.int .i64 8)), []⟩,
  .s ⟨(some 10), .mkslice 5 1 1 [(.int .u8 0)] (.t 6) (.t 9), []⟩,
  .s ⟨(some 3), .mv (.t 10), []⟩])
 (.seq (.reg [.s ⟨(some 11), .mv (.t 3), []⟩,
  .s ⟨(some 12), .mv (.t 0), []⟩,
  .s ⟨(some 13), .copy 1 (.t 11) (.t 12), []⟩])
 (.seq (.seq (.reg [.s ⟨(some 4), .mv (.c (.int .u8 8)), []⟩])
 (.block 0 (.loop (.seq (.seq (.reg [.s ⟨(some 14), .mv (.t 4), []⟩,
  .s ⟨(some 15), .bin .gtr (.t 14) (.c (.int .u8 0)), []⟩])
 (.cond (.t 15) .skip
 (.exit 0)))
 (.seq (.block 1 (.reg [.s ⟨(some 18), .mv (.t 3), []⟩,
  .s ⟨(some 19), .mv (.t 4), []⟩,
  .s ⟨(some 20), .bslice 5 1 [(.int .u8 0)] [(0, 1, (.t 19))], []⟩,
  .s ⟨(some 21), .app 5 1 1 (.t 18) (.t 20), []⟩,
  .s ⟨(some 3), .mv (.t 21), []⟩]))
 (.reg [.s ⟨(some 16), .mv (.t 4), []⟩,
  .s ⟨(some 17), .bin .sub (.t 16) (.c (.int .u8 1)), []⟩,
  .s ⟨(some 4), .mv (.t 17), []⟩]))))))
 (.seq (.reg [.s ⟨(some 22), .mv (.t 3), []⟩,
  .s ⟨(some 23), .mv (.t 0), []⟩,
  .s ⟨(some 24), .lenL (.t 23), []⟩,
  .s ⟨(some 25), .slc 1 (.t 22) none (some (.t 24)) none, []⟩,
  .s ⟨(some 2), .mv (.t 25), []⟩])
 .ret)))))⟩
def a11 : XFun := ⟨32, [.t 2],
 (.seq (.reg [.s ⟨(some 2), .mv (.c (.slice none 0 0)), []⟩])
 (.seq (.reg [.s ⟨(some 3), .mv (.c (.slice none 0 0)), []⟩])
 (.seq (.seq (.reg [.s ⟨(some 4), .mv (.c (.int .i64 0)), []⟩])
 (.block 0 (.loop (.seq (.seq (.reg [.s ⟨(some 5), .mv (.t 4), []⟩,
  .s ⟨(some 6), .mv (.t 0), []⟩,
  .s ⟨(some 7), .lenL (.t 6), []⟩,
  .s ⟨(some 8), .bin .lss (.t 5) (.t 7), []⟩])
 (.cond (.t 8) .skip
 (.exit 0)))
 (.seq (.block 1 (.par [.s ⟨(some 11), .mv (.t 3), []⟩,
  .s ⟨(some 12), .mv (.t 0), []⟩,
  .s ⟨(some 13), .mv (.t 4), []⟩,
  .s ⟨(some 14), .idx 3 (.t 12) (.t 13), []⟩,
  .s ⟨(some 15), .faddr 0 (.t 14), []⟩,
  .s ⟨(some 16), .load false 1 (.t 15), []⟩,
  .s ⟨(some 17), .mv (.t 0), []⟩,
  .s ⟨(some 18), .mv (.t 4), []⟩,
  .s ⟨(some 19), .idx 3 (.t 17) (.t 18), []⟩,
  .s ⟨(some 20), .faddr 1 (.t 19), []⟩,
  .s ⟨(some 21), .load false 1 (.t 20), []⟩,
  .s ⟨(some 22), .mv (.t 0), []⟩,
  .s ⟨(some 23), .mv (.t 4), []⟩,
  .s ⟨(some 24), .idx 3 (.t 22) (.t 23), []⟩,
  .s ⟨(some 25), .faddr 2 (.t 24), []⟩,
  .s ⟨(some 26), .load false 1 (.t 25), []⟩,
  .s ⟨(some 27), .call 30 [(.t 26)], [⟨none, (some 21), .load false 1 (.t 20)⟩, ⟨none, (some 16), .load false 1 (.t 15)⟩]⟩,
  .s ⟨(some 28), .build [(.int .i64 0), (.int .i64 0), (.slice none 0 0)] [(0, 1, (.t 16)), (1, 1, (.t 21)), (2, 1, (.t 27))], []⟩,
  .s ⟨(some 29), .bslice 46 1 [(.int .i64 0), (.int .i64 0), (.slice none 0 0)] [(0, 3, (.t 28))], []⟩,
  .s ⟨(some 30), .app 46 3 40 (.t 11) (.t 29), []⟩,
  .s ⟨(some 3), .mv (.t 30), []⟩]))
 (.reg [.s ⟨(some 9), .mv (.t 4), []⟩,
  .s ⟨(some 10), .bin .add (.t 9) (.c (.int .i64 1)), []⟩,
  .s ⟨(some 4), .mv (.t 10), []⟩]))))))
 (.seq (.reg [.s ⟨(some 31), .mv (.t 3), []⟩,
  .s ⟨(some 2), .mv (.t 31), []⟩])
 .ret))))⟩
theorem s11 : slimF Try.prog Try.f11 = some a11.fn := by kernel_rfl
def a12 : XFun := ⟨49, [.t 4, .t 5],
 (.seq (.reg [.s ⟨(some 4), .mv (.c (.slice none 0 0)), []⟩,
  .s ⟨(some 5), .mv (.c (.int .i64 0)), []⟩])
 (.seq (.seq (.reg [.s ⟨(some 10), .mv (.t 1), []⟩,
  .s ⟨(some 11), .call 17 [(.t 10)], []⟩,
  .s ⟨(some 12), .un .not (.t 11), []⟩])
 (.cond (.t 12) (.seq (.reg [.s ⟨(some 4), .mv (.c (.slice none 0 0)), []⟩,
  .s ⟨(some 5), .mv (.c (.int .i64 1)), []⟩])
 .ret)
 .skip))
 (.seq (.reg [.s ⟨(some 13), .mv (.t 0), []⟩,
  .s ⟨(some 14), .mv (.t 1), []⟩,
  .s ⟨(some 15), .lenL (.t 14), []⟩,
  .s ⟨(some 16), .cint .u64 (.t 15), []⟩,
  .s ⟨(some 17), .call 31 [(.t 13), (.t 16)], []⟩,
  .s ⟨(some 6), .mv (.t 17), []⟩])
 (.seq (.reg [.s ⟨(some 7), .mv (.c (.int .i64 0)), []⟩])
 (.seq (.seq (.reg [.s ⟨(some 18), .mv (.t 1), []⟩,
  .s ⟨(some 19), .lenL (.t 18), []⟩,
  .s ⟨(some 20), .mv (.c (.int .i64 0)), []⟩])
 (.block 0 (.loop (.seq (.reg [.s ⟨(some 21), .bin .lss (.t 20) (.t 19), []⟩])
 (.seq (.cond (.t 21) .skip
 (.exit 0))
 (.seq (.block 1 (.seq (.reg [.s ⟨(some 22), .idx 3 (.t 18) (.t 20), []⟩,
  .s ⟨(some 23), .load true 3 (.t 22), []⟩,
  .s ⟨(some 9), .alloc 46 [(.int .i64 0), (.int .i64 0), (.slice none 0 0)], []⟩,
  .s ⟨none, .store 3 (.t 9) (.t 23), []⟩])
 (.seq (.par [.s ⟨(some 24), .mv (.t 6), []⟩,
  .s ⟨(some 25), .faddr 0 (.t 9), []⟩,
  .s ⟨(some 26), .load false 1 (.t 25), []⟩,
  .s ⟨(some 27), .mv (.t 7), []⟩,
  .s ⟨(some 28), .bin .sub (.t 26) (.t 27), []⟩,
  .s ⟨(some 29), .cint .u64 (.t 28), []⟩,
  .s ⟨(some 31), .faddr 1 (.t 9), []⟩,
  .s ⟨(some 32), .load false 1 (.t 31), []⟩,
  .s ⟨(some 33), .faddr 0 (.t 9), []⟩,
  .s ⟨(some 34), .load false 1 (.t 33), []⟩,
  .s ⟨(some 35), .bin .sub (.t 32) (.t 34), []⟩,
  .s ⟨(some 36), .cint .u64 (.t 35), []⟩,
  .s ⟨(some 30), .call 31 [(.t 24), (.t 29)], [⟨none, (some 34), .load false 1 (.t 33)⟩, ⟨none, (some 32), .load false 1 (.t 31)⟩]⟩,
  .s ⟨(some 37), .call 31 [(.t 30), (.t 36)], []⟩,
  .s ⟨(some 6), .mv (.t 37), []⟩])
 (.seq (.reg [.s ⟨(some 39), .mv (.t 6), []⟩,
  .s ⟨(some 40), .faddr 2 (.t 9), []⟩,
  .s ⟨(some 41), .load false 1 (.t 40), []⟩,
  .s ⟨(some 42), .call 32 [(.t 39), (.t 41)], []⟩,
  .s ⟨(some 38), .mv (.t 42), []⟩,
  .s ⟨(some 43), .ext 0 (.t 38), []⟩,
  .s ⟨(some 44), .ext 1 (.t 38), []⟩,
  .s ⟨(some 6), .mv (.t 43), []⟩])
 (.reg [.s ⟨(some 45), .faddr 1 (.t 9), []⟩,
  .s ⟨(some 46), .load false 1 (.t 45), []⟩,
  .s ⟨(some 7), .mv (.t 46), []⟩])))))
 (.reg [.s ⟨(some 47), .bin .add (.t 20) (.c (.int .i64 1)), []⟩,
  .s ⟨(some 20), .mv (.t 47), []⟩])))))))
 (.seq (.reg [.s ⟨(some 48), .mv (.t 6), []⟩,
  .s ⟨(some 4), .mv (.t 48), []⟩,
  .s ⟨(some 5), .mv (.c (.int .i64 0)), []⟩])
 .ret))))))⟩
theorem s12 : slimF Try.prog Try.f12 = some a12.fn := by kernel_rfl
def a16 : XFun := ⟨55, [.t 4],
 (.seq (.reg [.s ⟨(some 4), .mv (.c (.bool false)), []⟩])
 (.seq (.seq (.reg [.s ⟨(some 6), .mv (.t 0), []⟩,
  .s ⟨(some 7), .lenL (.t 6), []⟩,
  .s ⟨(some 8), .mv (.t 1), []⟩,
  .s ⟨(some 9), .lenL (.t 8), []⟩,
  .s ⟨(some 10), .bin .neq (.t 7) (.t 9), []⟩])
 (.cond (.t 10) (.seq (.reg [.s ⟨(some 4), .mv (.c (.bool false)), []⟩])
 .ret)
 .skip))
 (.seq (.seq (.reg [.s ⟨(some 5), .mv (.c (.int .i64 0)), []⟩])
 (.block 0 (.loop (.seq (.seq (.reg [.s ⟨(some 11), .mv (.t 5), []⟩,
  .s ⟨(some 12), .mv (.t 0), []⟩,
  .s ⟨(some 13), .lenL (.t 12), []⟩,
  .s ⟨(some 14), .bin .lss (.t 11) (.t 13), []⟩])
 (.cond (.t 14) .skip
 (.exit 0)))
 (.seq (.block 1 (.seq (.par [.s ⟨(some 17), .mv (.t 0), []⟩,
  .s ⟨(some 18), .mv (.t 5), []⟩,
  .s ⟨(some 19), .idx 3 (.t 17) (.t 18), []⟩,
  .s ⟨(some 20), .faddr 0 (.t 19), []⟩,
  .s ⟨(some 21), .load false 1 (.t 20), []⟩,
  .s ⟨(some 22), .mv (.t 1), []⟩,
  .s ⟨(some 23), .mv (.t 5), []⟩,
  .s ⟨(some 24), .idx 3 (.t 22) (.t 23), []⟩,
  .s ⟨(some 25), .faddr 0 (.t 24), []⟩,
  .s ⟨(some 26), .load false 1 (.t 25), []⟩,
  .s ⟨(some 27), .bin .neq (.t 21) (.t 26), []⟩,
  .s ⟨(some 28), .mv (.t 27), []⟩,
  .g 28 false [⟨(some 29), .mv (.t 0), []⟩,
   ⟨(some 30), .mv (.t 5), []⟩,
   ⟨(some 31), .idx 3 (.t 29) (.t 30), []⟩,
   ⟨(some 32), .faddr 1 (.t 31), []⟩,
   ⟨(some 33), .load false 1 (.t 32), []⟩,
   ⟨(some 34), .mv (.t 1), []⟩,
   ⟨(some 35), .mv (.t 5), []⟩,
   ⟨(some 36), .idx 3 (.t 34) (.t 35), []⟩,
   ⟨(some 37), .faddr 1 (.t 36), []⟩,
   ⟨(some 38), .load false 1 (.t 37), []⟩,
   ⟨(some 39), .bin .neq (.t 33) (.t 38), []⟩],
  .s ⟨(some 40), .pick (.t 28) (.c (.bool true)) (.t 39), []⟩,
  .s ⟨(some 41), .mv (.t 40), []⟩,
  .g 41 false [⟨(some 42), .mv (.t 0), []⟩,
   ⟨(some 43), .mv (.t 5), []⟩,
   ⟨(some 44), .idx 3 (.t 42) (.t 43), []⟩,
   ⟨(some 45), .faddr 2 (.t 44), []⟩,
   ⟨(some 46), .load false 1 (.t 45), []⟩,
   ⟨(some 47), .mv (.t 1), []⟩,
   ⟨(some 48), .mv (.t 5), []⟩,
   ⟨(some 49), .idx 3 (.t 47) (.t 48), []⟩,
   ⟨(some 50), .faddr 2 (.t 49), []⟩,
   ⟨(some 51), .load false 1 (.t 50), []⟩,
   ⟨(some 52), .call 25 [(.t 46), (.t 51)], []⟩,
   ⟨(some 53), .un .not (.t 52), []⟩],
  .s ⟨(some 54), .pick (.t 41) (.c (.bool true)) (.t 53), []⟩])
 (.cond (.t 54) (.seq (.reg [.s ⟨(some 4), .mv (.c (.bool false)), []⟩])
 .ret)
 .skip)))
 (.reg [.s ⟨(some 15), .mv (.t 5), []⟩,
  .s ⟨(some 16), .bin .add (.t 15) (.c (.int .i64 1)), []⟩,
  .s ⟨(some 5), .mv (.t 16), []⟩]))))))
 (.seq (.reg [.s ⟨(some 4), .mv (.c (.bool true)), []⟩])
 .ret))))⟩
theorem s16 : slimF Try.prog Try.f16 = some a16.fn := by kernel_rfl
def a17 : XFun := ⟨46, [.t 2],
 (.seq (.reg [.s ⟨(some 2), .mv (.c (.bool false)), []⟩])
 (.seq (.reg [.s ⟨(some 3), .mv (.c (.int .i64 0)), []⟩])
 (.seq (.seq (.reg [.s ⟨(some 6), .mv (.t 0), []⟩,
  .s ⟨(some 7), .lenL (.t 6), []⟩,
  .s ⟨(some 8), .mv (.c (.int .i64 0)), []⟩])
 (.block 0 (.loop (.seq (.reg [.s ⟨(some 9), .bin .lss (.t 8) (.t 7), []⟩])
 (.seq (.cond (.t 9) .skip
 (.exit 0))
 (.seq (.block 1 (.seq (.reg [.s ⟨(some 10), .idx 3 (.t 6) (.t 8), []⟩,
  .s ⟨(some 11), .load true 3 (.t 10), []⟩,
  .s ⟨(some 5), .alloc 46 [(.int .i64 0), (.int .i64 0), (.slice none 0 0)], []⟩,
  .s ⟨none, .store 3 (.t 5) (.t 11), []⟩])
 (.seq (.seq (.reg [.s ⟨(some 12), .faddr 0 (.t 5), []⟩,
  .s ⟨(some 13), .load false 1 (.t 12), []⟩,
  .s ⟨(some 14), .mv (.t 3), []⟩,
  .s ⟨(some 15), .bin .lss (.t 13) (.t 14), []⟩,
  .s ⟨(some 16), .mv (.t 15), []⟩,
  .g 16 false [⟨(some 17), .faddr 1 (.t 5), []⟩,
   ⟨(some 18), .load false 1 (.t 17), []⟩,
   ⟨(some 19), .faddr 0 (.t 5), []⟩,
   ⟨(some 20), .load false 1 (.t 19), []⟩,
   ⟨(some 21), .bin .leq (.t 18) (.t 20), []⟩],
  .s ⟨(some 22), .pick (.t 16) (.c (.bool true)) (.t 21), []⟩,
  .s ⟨(some 23), .mv (.t 22), []⟩,
  .g 23 false [⟨(some 24), .faddr 1 (.t 5), []⟩,
   ⟨(some 25), .load false 1 (.t 24), []⟩,
   ⟨(some 26), .bin .gtr (.t 25) (.c (.int .i64 16777216)), []⟩],
  .s ⟨(some 27), .pick (.t 23) (.c (.bool true)) (.t 26), []⟩,
  .s ⟨(some 28), .mv (.t 27), []⟩,
  .g 28 false [⟨(some 29), .faddr 2 (.t 5), []⟩,
   ⟨(some 30), .load false 1 (.t 29), []⟩,
   ⟨(some 31), .lenL (.t 30), []⟩,
   ⟨(some 32), .bin .eql (.t 31) (.c (.int .i64 0)), []⟩],
  .s ⟨(some 33), .pick (.t 28) (.c (.bool true)) (.t 32), []⟩,
  .s ⟨(some 34), .mv (.t 33), []⟩,
  .g 34 false [⟨(some 35), .faddr 2 (.t 5), []⟩,
   ⟨(some 36), .load false 1 (.t 35), []⟩,
   ⟨(some 37), .call 35 [(.t 36)], []⟩,
   ⟨(some 38), .un .not (.t 37), []⟩],
  .s ⟨(some 39), .pick (.t 34) (.c (.bool true)) (.t 38), []⟩])
 (.cond (.t 39) (.seq (.reg [.s ⟨(some 2), .mv (.c (.bool false)), []⟩])
 .ret)
 .skip))
 (.reg [.s ⟨(some 40), .faddr 1 (.t 5), []⟩,
  .s ⟨(some 41), .load false 1 (.t 40), []⟩,
  .s ⟨(some 3), .mv (.t 41), []⟩]))))
 (.reg [.s ⟨(some 42), .bin .add (.t 8) (.c (.int .i64 1)), []⟩,
  .s ⟨(some 8), .mv (.t 42), []⟩])))))))
 (.seq (.reg [.s ⟨(some 43), .mv (.t 0), []⟩,
  .s ⟨(some 44), .lenL (.t 43), []⟩,
  .s ⟨(some 45), .bin .leq (.t 44) (.c (.int .i64 4000)), []⟩,
  .s ⟨(some 2), .mv (.t 45), []⟩])
 .ret))))⟩
theorem s17 : slimF Try.prog Try.f17 = some a17.fn := by kernel_rfl
def a20 : XFun := ⟨59, [.t 4, .t 5, .t 6],
 (.seq (.reg [.s ⟨(some 4), .mv (.c (.slice none 0 0)), []⟩,
  .s ⟨(some 5), .mv (.c (.int .i64 0)), []⟩,
  .s ⟨(some 6), .mv (.c (.int .i64 0)), []⟩])
 (.seq (.seq (.reg [.s ⟨(some 12), .mv (.t 1), []⟩,
  .s ⟨(some 13), .bin .lss (.t 12) (.c (.int .i64 0)), []⟩,
  .s ⟨(some 14), .mv (.t 13), []⟩,
  .g 14 false [⟨(some 15), .mv (.t 1), []⟩,
   ⟨(some 16), .mv (.t 0), []⟩,
   ⟨(some 17), .lenL (.t 16), []⟩,
   ⟨(some 18), .bin .gtr (.t 15) (.t 17), []⟩],
  .s ⟨(some 19), .pick (.t 14) (.c (.bool true)) (.t 18), []⟩])
 (.cond (.t 19) (.seq (.reg [.s ⟨(some 4), .mv (.c (.slice none 0 0)), []⟩,
  .s ⟨(some 5), .mv (.c (.int .i64 0)), []⟩,
  .s ⟨(some 6), .mv (.c (.int .i64 1)), []⟩])
 .ret)
 .skip))
 (.seq (.reg [.s ⟨(some 21), .mv (.t 0), []⟩,
  .s ⟨(some 22), .mv (.t 1), []⟩,
  .s ⟨(some 23), .call 38 [(.t 21), (.t 22)], []⟩,
  .s ⟨(some 20), .mv (.t 23), []⟩,
  .s ⟨(some 24), .ext 0 (.t 20), []⟩,
  .s ⟨(some 25), .ext 1 (.t 20), []⟩,
  .s ⟨(some 26), .ext 2 (.t 20), []⟩,
  .s ⟨(some 7), .mv (.t 24), []⟩,
  .s ⟨(some 5), .mv (.t 25), []⟩,
  .s ⟨(some 6), .mv (.t 26), []⟩])
 (.seq (.seq (.reg [.s ⟨(some 27), .mv (.t 6), []⟩,
  .s ⟨(some 28), .bin .neq (.t 27) (.c (.int .i64 0)), []⟩,
  .s ⟨(some 29), .mv (.t 28), []⟩,
  .g 29 false [⟨(some 30), .mv (.t 7), []⟩,
   ⟨(some 31), .bin .gtr (.t 30) (.c (.int .u64 4000)), []⟩],
  .s ⟨(some 32), .pick (.t 29) (.c (.bool true)) (.t 31), []⟩])
 (.cond (.t 32) (.seq (.reg [.s ⟨(some 4), .mv (.c (.slice none 0 0)), []⟩,
  .s ⟨(some 5), .mv (.c (.int .i64 0)), []⟩,
  .s ⟨(some 6), .mv (.c (.int .i64 5)), []⟩])
 .ret)
 .skip))
 (.seq (.reg [.s ⟨(some 8), .mv (.c (.int .i64 0)), []⟩])
 (.seq (.seq (.reg [.s ⟨(some 33), .mv (.t 7), []⟩,
  .s ⟨(some 34), .mv (.c (.int .u64 0)), []⟩])
 (.block 0 (.loop (.seq (.reg [.s ⟨(some 35), .bin .lss (.t 34) (.t 33), []⟩])
 (.seq (.cond (.t 35) .skip
 (.exit 0))
 (.seq (.block 1 (.seq (.reg [.s ⟨(some 37), .mv (.t 0), []⟩,
  .s ⟨(some 38), .mv (.t 5), []⟩,
  .s ⟨(some 39), .mv (.t 8), []⟩,
  .s ⟨(some 40), .call 39 [(.t 37), (.t 38), (.t 39)], []⟩,
  .s ⟨(some 36), .mv (.t 40), []⟩,
  .s ⟨(some 41), .ext 0 (.t 36), []⟩,
  .s ⟨(some 42), .ext 1 (.t 36), []⟩,
  .s ⟨(some 43), .ext 2 (.t 36), []⟩,
  .s ⟨(some 9), .alloc 46 [(.int .i64 0), (.int .i64 0), (.slice none 0 0)], []⟩,
  .s ⟨none, .store 3 (.t 9) (.t 41), []⟩,
  .s ⟨(some 10), .mv (.t 42), []⟩,
  .s ⟨(some 11), .mv (.t 43), []⟩])
 (.seq (.seq (.reg [.s ⟨(some 44), .mv (.t 11), []⟩,
  .s ⟨(some 45), .un .not (.t 44), []⟩])
 (.cond (.t 45) (.seq (.reg [.s ⟨(some 4), .mv (.c (.slice none 0 0)), []⟩,
  .s ⟨(some 5), .mv (.c (.int .i64 0)), []⟩,
  .s ⟨(some 6), .mv (.c (.int .i64 5)), []⟩])
 .ret)
 .skip))
 (.par [.s ⟨(some 46), .mv (.t 4), []⟩,
  .s ⟨(some 47), .load true 3 (.t 9), []⟩,
  .s ⟨(some 50), .faddr 1 (.t 9), []⟩,
  .s ⟨(some 51), .load false 1 (.t 50), []⟩,
  .s ⟨(some 52), .mv (.t 10), []⟩,
  .s ⟨(some 48), .bslice 46 1 [(.int .i64 0), (.int .i64 0), (.slice none 0 0)] [(0, 3, (.t 47))], [⟨none, (some 51), .load false 1 (.t 50)⟩]⟩,
  .s ⟨(some 49), .app 46 3 40 (.t 46) (.t 48), [⟨none, (some 51), .load false 1 (.t 50)⟩]⟩,
  .s ⟨(some 4), .mv (.t 49), [⟨none, (some 51), .load false 1 (.t 50)⟩]⟩,
  .s ⟨(some 8), .mv (.t 51), []⟩,
  .s ⟨(some 5), .mv (.t 52), []⟩]))))
 (.reg [.s ⟨(some 53), .bin .add (.t 34) (.c (.int .u64 1)), []⟩,
  .s ⟨(some 34), .mv (.t 53), []⟩])))))))
 (.seq (.seq (.reg [.s ⟨(some 54), .mv (.t 4), []⟩,
  .s ⟨(some 55), .call 17 [(.t 54)], []⟩,
  .s ⟨(some 56), .un .not (.t 55), []⟩])
 (.cond (.t 56) (.seq (.reg [.s ⟨(some 4), .mv (.c (.slice none 0 0)), []⟩,
  .s ⟨(some 5), .mv (.c (.int .i64 0)), []⟩,
  .s ⟨(some 6), .mv (.c (.int .i64 5)), []⟩])
 .ret)
 .skip))
 (.seq (.reg [.s ⟨(some 57), .mv (.t 4), []⟩,
  .s ⟨(some 58), .mv (.t 5), []⟩,
  .s ⟨(some 4), .mv (.t 57), []⟩,
  .s ⟨(some 5), .mv (.t 58), []⟩,
  .s ⟨(some 6), .mv (.c (.int .i64 0)), []⟩])
 .ret))))))))⟩
theorem s20 : slimF Try.prog Try.f20 = some a20.fn := by kernel_rfl
def a22 : XFun := ⟨27, [.t 4],
 (.seq (.reg [.s ⟨(some 4), .mv (.c (.slice none 0 0)), []⟩])
 (.seq (.seq (.reg [.s ⟨(some 7), .mv (.t 0), []⟩,
  .s ⟨(some 8), .lenL (.t 7), []⟩,
  .s ⟨(some 9), .mv (.c (.int .i64 0)), []⟩])
 (.block 0 (.loop (.seq (.reg [.s ⟨(some 10), .bin .lss (.t 9) (.t 8), []⟩])
 (.seq (.cond (.t 10) .skip
 (.exit 0))
 (.seq (.block 1 (.seq (.reg [.s ⟨(some 11), .idx 3 (.t 7) (.t 9), []⟩,
  .s ⟨(some 12), .load true 3 (.t 11), []⟩,
  .s ⟨(some 6), .alloc 46 [(.int .i64 0), (.int .i64 0), (.slice none 0 0)], []⟩,
  .s ⟨none, .store 3 (.t 6) (.t 12), []⟩])
 (.seq (.reg [.s ⟨(some 13), .faddr 0 (.t 6), []⟩,
  .s ⟨(some 14), .load false 1 (.t 13), []⟩,
  .s ⟨(some 15), .mv (.t 1), []⟩,
  .s ⟨(some 16), .bin .leq (.t 14) (.t 15), []⟩,
  .s ⟨(some 17), .mv (.t 16), []⟩,
  .g 17 true [⟨(some 18), .mv (.t 1), []⟩,
   ⟨(some 19), .faddr 1 (.t 6), []⟩,
   ⟨(some 20), .load false 1 (.t 19), []⟩,
   ⟨(some 21), .bin .lss (.t 18) (.t 20), []⟩],
  .s ⟨(some 22), .pick (.t 17) (.t 21) (.c (.bool false)), []⟩])
 (.cond (.t 22) (.seq (.reg [.s ⟨(some 23), .faddr 2 (.t 6), []⟩,
  .s ⟨(some 24), .load false 1 (.t 23), []⟩,
  .s ⟨(some 25), .call 42 [(.t 24)], []⟩,
  .s ⟨(some 4), .mv (.t 25), []⟩])
 .ret)
 .skip))))
 (.reg [.s ⟨(some 26), .bin .add (.t 9) (.c (.int .i64 1)), []⟩,
  .s ⟨(some 9), .mv (.t 26), []⟩])))))))
 (.seq (.reg [.s ⟨(some 4), .mv (.c (.slice none 0 0)), []⟩])
 .ret)))⟩
theorem s22 : slimF Try.prog Try.f22 = some a22.fn := by kernel_rfl
def a24 : XFun := ⟨51, [.t 2],
 (.seq (.reg [.s ⟨(some 2), .mv (.c (.slice none 0 0)), []⟩])
 (.seq (.reg [.s ⟨(some 3), .mv (.c (.slice none 0 0)), []⟩])
 (.seq (.seq (.reg [.s ⟨(some 7), .mv (.t 0), []⟩,
  .s ⟨(some 8), .lenL (.t 7), []⟩,
  .s ⟨(some 9), .mv (.c (.int .i64 0)), []⟩])
 (.block 0 (.loop (.seq (.reg [.s ⟨(some 10), .bin .lss (.t 9) (.t 8), []⟩])
 (.seq (.cond (.t 10) .skip
 (.exit 0))
 (.seq (.block 1 (.seq (.reg [.s ⟨(some 11), .idx 3 (.t 7) (.t 9), []⟩,
  .s ⟨(some 12), .load true 3 (.t 11), []⟩,
  .s ⟨(some 5), .alloc 46 [(.int .i64 0), (.int .i64 0), (.slice none 0 0)], []⟩,
  .s ⟨none, .store 3 (.t 5) (.t 12), []⟩])
 (.seq (.seq (.reg [.s ⟨(some 13), .mv (.t 3), []⟩,
  .s ⟨(some 14), .lenL (.t 13), []⟩,
  .s ⟨(some 15), .bin .sub (.t 14) (.c (.int .i64 1)), []⟩,
  .s ⟨(some 6), .mv (.t 15), []⟩])
 (.seq (.par [.s ⟨(some 16), .mv (.t 6), []⟩,
  .s ⟨(some 17), .bin .geq (.t 16) (.c (.int .i64 0)), []⟩,
  .s ⟨(some 18), .mv (.t 17), []⟩,
  .g 18 true [⟨(some 19), .mv (.t 3), []⟩,
   ⟨(some 20), .mv (.t 6), []⟩,
   ⟨(some 21), .idx 3 (.t 19) (.t 20), []⟩,
   ⟨(some 22), .faddr 1 (.t 21), []⟩,
   ⟨(some 23), .load false 1 (.t 22), []⟩,
   ⟨(some 24), .faddr 0 (.t 5), []⟩,
   ⟨(some 25), .load false 1 (.t 24), []⟩,
   ⟨(some 26), .bin .eql (.t 23) (.t 25), []⟩],
  .s ⟨(some 27), .pick (.t 18) (.t 26) (.c (.bool false)), []⟩,
  .s ⟨(some 28), .mv (.t 27), []⟩,
  .g 28 true [⟨(some 29), .mv (.t 3), []⟩,
   ⟨(some 30), .mv (.t 6), []⟩,
   ⟨(some 31), .idx 3 (.t 29) (.t 30), []⟩,
   ⟨(some 32), .faddr 2 (.t 31), []⟩,
   ⟨(some 33), .load false 1 (.t 32), []⟩,
   ⟨(some 34), .faddr 2 (.t 5), []⟩,
   ⟨(some 35), .load false 1 (.t 34), []⟩,
   ⟨(some 36), .call 45 [(.t 33), (.t 35)], []⟩],
  .s ⟨(some 37), .pick (.t 28) (.t 36) (.c (.bool false)), []⟩])
 (.cond (.t 37) (.seq (.reg [.s ⟨(some 38), .mv (.t 3), []⟩,
  .s ⟨(some 39), .mv (.t 6), []⟩,
  .s ⟨(some 40), .faddr 1 (.t 5), []⟩,
  .s ⟨(some 41), .load false 1 (.t 40), []⟩,
  .s ⟨(some 42), .idx 3 (.t 38) (.t 39), []⟩,
  .s ⟨(some 43), .faddr 1 (.t 42), []⟩,
  .s ⟨none, .store 1 (.t 43) (.t 41), []⟩])
 (.exit 1))
 .skip)))
 (.reg [.s ⟨(some 44), .mv (.t 3), []⟩,
  .s ⟨(some 45), .load true 3 (.t 5), []⟩,
  .s ⟨(some 46), .call 43 [(.t 45)], []⟩,
  .s ⟨(some 47), .bslice 46 1 [(.int .i64 0), (.int .i64 0), (.slice none 0 0)] [(0, 3, (.t 46))], []⟩,
  .s ⟨(some 48), .app 46 3 40 (.t 44) (.t 47), []⟩,
  .s ⟨(some 3), .mv (.t 48), []⟩]))))
 (.reg [.s ⟨(some 49), .bin .add (.t 9) (.c (.int .i64 1)), []⟩,
  .s ⟨(some 9), .mv (.t 49), []⟩])))))))
 (.seq (.reg [.s ⟨(some 50), .mv (.t 3), []⟩,
  .s ⟨(some 2), .mv (.t 50), []⟩])
 .ret))))⟩
theorem s24 : slimF Try.prog Try.f24 = some a24.fn := by kernel_rfl
def a25 : XFun := ⟨26, [.t 4],
 (.seq (.reg [.s ⟨(some 4), .mv (.c (.bool false)), []⟩])
 (.seq (.seq (.reg [.s ⟨(some 6), .mv (.t 0), []⟩,
  .s ⟨(some 7), .lenL (.t 6), []⟩,
  .s ⟨(some 8), .mv (.t 1), []⟩,
  .s ⟨(some 9), .lenL (.t 8), []⟩,
  .s ⟨(some 10), .bin .neq (.t 7) (.t 9), []⟩])
 (.cond (.t 10) (.seq (.reg [.s ⟨(some 4), .mv (.c (.bool false)), []⟩])
 .ret)
 .skip))
 (.seq (.seq (.reg [.s ⟨(some 5), .mv (.c (.int .i64 0)), []⟩])
 (.block 0 (.loop (.seq (.seq (.reg [.s ⟨(some 11), .mv (.t 5), []⟩,
  .s ⟨(some 12), .mv (.t 0), []⟩,
  .s ⟨(some 13), .lenL (.t 12), []⟩,
  .s ⟨(some 14), .bin .lss (.t 11) (.t 13), []⟩])
 (.cond (.t 14) .skip
 (.exit 0)))
 (.seq (.block 1 (.seq (.par [.s ⟨(some 17), .mv (.t 0), []⟩,
  .s ⟨(some 18), .mv (.t 5), []⟩,
  .s ⟨(some 19), .idx 2 (.t 17) (.t 18), []⟩,
  .s ⟨(some 20), .load true 2 (.t 19), []⟩,
  .s ⟨(some 21), .mv (.t 1), []⟩,
  .s ⟨(some 22), .mv (.t 5), []⟩,
  .s ⟨(some 23), .idx 2 (.t 21) (.t 22), []⟩,
  .s ⟨(some 24), .load true 2 (.t 23), []⟩,
  .s ⟨(some 25), .aeq true [0, 0] (.t 20) (.t 24), []⟩])
 (.cond (.t 25) (.seq (.reg [.s ⟨(some 4), .mv (.c (.bool false)), []⟩])
 .ret)
 .skip)))
 (.reg [.s ⟨(some 15), .mv (.t 5), []⟩,
  .s ⟨(some 16), .bin .add (.t 15) (.c (.int .i64 1)), []⟩,
  .s ⟨(some 5), .mv (.t 16), []⟩]))))))
 (.seq (.reg [.s ⟨(some 4), .mv (.c (.bool true)), []⟩])
 .ret))))⟩
theorem s25 : slimF Try.prog Try.f25 = some a25.fn := by kernel_rfl
def a30 : XFun := ⟨6, [.t 2],
 (.seq (.reg [.s ⟨(some 2), .mv (.c (.slice none 0 0)), []⟩])
 (.seq (.reg [.s ⟨(some 3), .bslice 44 0 [] [], []⟩,
  .s ⟨(some 4), .mv (.t 0), []⟩,
  .s ⟨(some 5), .app 44 2 16 (.t 3) (.t 4), []⟩,
  .s ⟨(some 2), .mv (.t 5), []⟩])
 .ret))⟩
theorem s30 : slimF Try.prog Try.f30 = some a30.fn := by kernel_rfl
def a31 : XFun := ⟨23, [.t 4],
 (.seq (.reg [.s ⟨(some 4), .mv (.c (.slice none 0 0)), []⟩])
 (.seq (.reg [.s ⟨(some 6), .mv (.t 0), []⟩,
  .s ⟨(some 7), .call 46 [(.t 6)], []⟩,
  .s ⟨(some 5), .mv (.t 7), []⟩])
 (.seq (.block 0 (.loop (.seq (.seq (.reg [.s ⟨(some 8), .mv (.t 1), []⟩,
  .s ⟨(some 9), .bin .gtr (.t 8) (.c (.int .u64 127)), []⟩])
 (.cond (.t 9) .skip
 (.exit 0)))
 (.block 1 (.seq (.reg [.s ⟨(some 10), .mv (.t 5), []⟩,
  .s ⟨(some 11), .mv (.t 1), []⟩,
  .s ⟨(some 12), .cint .u8 (.t 11), []⟩,
  .s ⟨(some 13), .bin .or (.t 12) (.c (.int .u8 128)), []⟩,
  .s ⟨(some 14), .bslice 5 1 [(.int .u8 0)] [(0, 1, (.t 13))], []⟩,
  .s ⟨(some 15), .app 5 1 1 (.t 10) (.t 14), []⟩,
  .s ⟨(some 5), .mv (.t 15), []⟩])
 (.reg [.s ⟨(some 16), .mv (.t 1), []⟩,
  .s ⟨(some 17), .bin .shr (.t 16) (.c (.int .u64 7)), []⟩,
  .s ⟨(some 1), .mv (.t 17), []⟩]))))))
 (.seq (.reg [.s ⟨(some 18), .mv (.t 5), []⟩,
  .s ⟨(some 19), .mv (.t 1), []⟩,
  .s ⟨(some 20), .cint .u8 (.t 19), []⟩,
  .s ⟨(some 21), .bslice 5 1 [(.int .u8 0)] [(0, 1, (.t 20))], []⟩,
  .s ⟨(some 22), .app 5 1 1 (.t 18) (.t 21), []⟩,
  .s ⟨(some 4), .mv (.t 22), []⟩])
 .ret))))⟩
theorem s31 : slimF Try.prog Try.f31 = some a31.fn := by kernel_rfl
def a32 : XFun := ⟨37, [.t 4, .t 5],
 (.seq (.reg [.s ⟨(some 4), .mv (.c (.slice none 0 0)), []⟩,
  .s ⟨(some 5), .mv (.c (.int .i64 0)), []⟩])
 (.seq (.seq (.reg [.s ⟨(some 9), .mv (.t 1), []⟩,
  .s ⟨(some 10), .call 35 [(.t 9)], []⟩,
  .s ⟨(some 11), .un .not (.t 10), []⟩])
 (.cond (.t 11) (.seq (.reg [.s ⟨(some 4), .mv (.c (.slice none 0 0)), []⟩,
  .s ⟨(some 5), .mv (.c (.int .i64 1)), []⟩])
 .ret)
 .skip))
 (.seq (.reg [.s ⟨(some 12), .mv (.t 0), []⟩,
  .s ⟨(some 13), .mv (.t 1), []⟩,
  .s ⟨(some 14), .lenL (.t 13), []⟩,
  .s ⟨(some 15), .cint .u64 (.t 14), []⟩,
  .s ⟨(some 16), .call 31 [(.t 12), (.t 15)], []⟩,
  .s ⟨(some 6), .mv (.t 16), []⟩])
 (.seq (.seq (.reg [.s ⟨(some 17), .mv (.t 1), []⟩,
  .s ⟨(some 18), .lenL (.t 17), []⟩,
  .s ⟨(some 19), .mv (.c (.int .i64 0)), []⟩])
 (.block 0 (.loop (.seq (.reg [.s ⟨(some 20), .bin .lss (.t 19) (.t 18), []⟩])
 (.seq (.cond (.t 20) .skip
 (.exit 0))
 (.seq (.block 1 (.seq (.reg [.s ⟨(some 21), .idx 2 (.t 17) (.t 19), []⟩,
  .s ⟨(some 22), .load true 2 (.t 21), []⟩,
  .s ⟨(some 8), .alloc 44 [(.int .u8 0), (.int .i64 0)], []⟩,
  .s ⟨none, .store 2 (.t 8) (.t 22), []⟩])
 (.seq (.reg [.s ⟨(some 23), .mv (.t 6), []⟩,
  .s ⟨(some 24), .faddr 0 (.t 8), []⟩,
  .s ⟨(some 25), .load false 1 (.t 24), []⟩,
  .s ⟨(some 26), .bslice 5 1 [(.int .u8 0)] [(0, 1, (.t 25))], []⟩,
  .s ⟨(some 27), .app 5 1 1 (.t 23) (.t 26), []⟩,
  .s ⟨(some 6), .mv (.t 27), []⟩])
 (.seq (.reg [.s ⟨(some 28), .faddr 0 (.t 8), []⟩,
  .s ⟨(some 29), .load false 1 (.t 28), []⟩,
  .s ⟨(some 30), .call 47 [(.t 29)], []⟩])
 (.cond (.t 30) (.reg [.s ⟨(some 31), .mv (.t 6), []⟩,
  .s ⟨(some 32), .faddr 1 (.t 8), []⟩,
  .s ⟨(some 33), .load false 1 (.t 32), []⟩,
  .s ⟨(some 34), .call 48 [(.t 31), (.t 33)], []⟩,
  .s ⟨(some 6), .mv (.t 34), []⟩])
 .skip)))))
 (.reg [.s ⟨(some 35), .bin .add (.t 19) (.c (.int .i64 1)), []⟩,
  .s ⟨(some 19), .mv (.t 35), []⟩])))))))
 (.seq (.reg [.s ⟨(some 36), .mv (.t 6), []⟩,
  .s ⟨(some 4), .mv (.t 36), []⟩,
  .s ⟨(some 5), .mv (.c (.int .i64 0)), []⟩])
 .ret)))))⟩
theorem s32 : slimF Try.prog Try.f32 = some a32.fn := by kernel_rfl
def a35 : XFun := ⟨11, [.t 2],
 (.seq (.reg [.s ⟨(some 2), .mv (.c (.bool false)), []⟩])
 (.seq (.reg [.s ⟨(some 6), .mv (.t 0), []⟩,
  .s ⟨(some 7), .call 52 [(.t 6)], []⟩,
  .s ⟨(some 5), .mv (.t 7), []⟩,
  .s ⟨(some 8), .ext 0 (.t 5), []⟩,
  .s ⟨(some 9), .ext 1 (.t 5), []⟩,
  .s ⟨(some 3), .mv (.t 8), []⟩,
  .s ⟨(some 4), .mv (.t 9), []⟩])
 (.seq (.reg [.s ⟨(some 10), .mv (.t 4), []⟩,
  .s ⟨(some 2), .mv (.t 10), []⟩])
 .ret)))⟩
theorem s35 : slimF Try.prog Try.f35 = some a35.fn := by kernel_rfl
def a37 : XFun := ⟨37, [.t 2, .t 3],
 (.seq (.reg [.s ⟨(some 2), .mv (.c (.int .u8 0)), []⟩,
  .s ⟨(some 3), .mv (.c (.bool false)), []⟩])
 (.seq (.reg [.s ⟨(some 4), .alloc 77 [(.bool false), (.bool false), (.bool false), (.bool false), (.bool false), (.bool false), (.bool false), (.bool false), (.bool false), (.bool false), (.bool false), (.bool false), (.bool false), (.bool false), (.bool false), (.bool false), (.bool false), (.bool false), (.bool false), (.bool false), (.bool false), (.bool false), (.bool false), (.bool false), (.bool false), (.bool false), (.bool false), (.bool false), (.bool false), (.bool false), (.bool false), (.bool false), (.bool false), (.bool false), (.bool false), (.bool false), (.bool false), (.bool false), (.bool false), (.bool false), (.bool false), (.bool false), (.bool false), (.bool false), (.bool false), (.bool false), (.bool false), (.bool false), (.bool false), (.bool false), (.bool false), (.bool false), (.bool false), (.bool false), (.bool false), (.bool false), (.bool false), (.bool false), (.bool false), (.bool false), (.bool false), (.bool false), (.bool false), (.bool false), (.bool false), (.bool false), (.bool false), (.bool false), (.bool false), (.bool false), (.bool false), (.bool false), (.bool false), (.bool false), (.bool false), (.bool false), (.bool false), (.bool false), (.bool false), (.bool false), (.bool false), (.bool false), (.bool false), (.bool false), (.bool false), (.bool false), (.bool false), (.bool false), (.bool false), (.bool false), (.bool false), (.bool false), (.bool false), (.bool false), (.bool false), (.bool false), (.bool false), (.bool false), (.bool false), (.bool false), (.bool false), (.bool false), (.bool false), (.bool false), (.bool false), (.bool false), (.bool false), (.bool false), (.bool false), (.bool false), (.bool false), (.bool false), (.bool false), (.bool false), (.bool false), (.bool false), (.bool false), (.bool false), (.bool false), (.bool false), (.bool false), (.bool false), (.bool false), (.bool false), (.bool false), (.bool false), (.bool false), (.bool false), (.bool false), (.bool false), (.bool false), (.bool false), (.bool false), (.bool false), (.bool false), (.bool false), (.bool false), (.bool false), (.bool false), (.bool false), (.bool false), (.bool false), (.bool false), (.bool false), (.bool false), (.bool false), (.bool false), (.bool false), (.bool false), (.bool false), (.bool false), (.bool false), (.bool false), (.bool false), (.bool false), (.bool false), (.bool false), (.bool false), (.bool false), (.bool false), (.bool false), (.bool false), (.bool false), (.bool false), (.bool false), (.bool false), (.bool false), (.bool false), (.bool false), (.bool false), (.bool false), (.bool false), (.bool false), (.bool false), (.bool false), (.bool false), (.bool false), (.bool false), (.bool false), (.bool false), (.bool false), (.bool false), (.bool false), (.bool false), (.bool false), (.bool false), (.bool false), (.bool false), (.bool false), (.bool false), (.bool false), (.bool false), (.bool false), (.bool false), (.bool false), (.bool false), (.bool false), (.bool false), (.bool false), (.bool false), (.bool false), (.bool false), (.bool false), (.bool false), (.bool false), (.bool false), (.bool false), (.bool false), (.bool false), (.bool false), (.bool false), (.bool false), (.bool false), (.bool false), (.bool false), (.bool false), (.bool false), (.bool false), (.bool false), (.bool false), (.bool false), (.bool false), (.bool false), (.bool false), (.bool false), (.bool false), (.bool false), (.bool false), (.bool false), (.bool false), (.bool false), (.bool false), (.bool false), (.bool false), (.bool false), (.bool false), (.bool false), (.bool false), (.bool false), (.bool false), (.bool false), (.bool false), (.bool false), (.bool false), (.bool false), (.bool false), (.bool false), (.bool false), (.bool false), (.bool false), (.bool false), (.bool false), (.bool false), (.bool false), (.bool false), (.bool false)], []⟩])
 (.seq (.seq (.reg [.s ⟨(some 11), .mv (.t 0), []⟩,
  .s ⟨(some 12), .lenL (.t 11), []⟩,
  .s ⟨(some 13), .mv (.c (.int .i64 0)), []⟩])
 (.block 0 (.loop (.seq (.reg [.s ⟨(some 14), .bin .lss (.t 13) (.t 12), []⟩])
 (.seq (.cond (.t 14) .skip
 (.exit 0))
 (.seq (.block 1 (.seq (.reg [.s ⟨(some 15), .idx 1 (.t 11) (.t 13), []⟩,
  .s ⟨(some 16), .load false 1 (.t 15), []⟩,
  .s ⟨(some 6), .mv (.t 16), []⟩])
 (.seq (.reg [.s ⟨(some 17), .mv (.t 6), []⟩,
  .s ⟨(some 18), .lenL (.t 17), []⟩,
  .s ⟨(some 19), .mv (.c (.int .i64 0)), []⟩])
 (.block 2 (.loop (.seq (.reg [.s ⟨(some 20), .bin .lss (.t 19) (.t 18), []⟩])
 (.seq (.cond (.t 20) .skip
 (.exit 2))
 (.seq (.block 3 (.seq (.reg [.s ⟨(some 21), .idx 1 (.t 17) (.t 19), []⟩,
  .s ⟨(some 22), .load false 1 (.t 21), []⟩,
  .s ⟨(some 8), .mv (.t 22), []⟩])
 (.reg [.s ⟨(some 23), .mv (.t 8), []⟩,
  .s ⟨(some 24), .aaddr 256 1 (.t 4) (.t 23), []⟩,
  .s ⟨none, .store 1 (.t 24) (.c (.bool true)), []⟩])))
 (.reg [.s ⟨(some 25), .bin .add (.t 19) (.c (.int .i64 1)), []⟩,
  .s ⟨(some 19), .mv (.t 25), []⟩])))))))))
 (.reg [.s ⟨(some 26), .bin .add (.t 13) (.c (.int .i64 1)), []⟩,
  .s ⟨(some 13), .mv (.t 26), []⟩])))))))
 (.seq (.seq (.reg [.s ⟨(some 27), .load true 256 (.t 4), []⟩,
  .s ⟨(some 28), .mv (.c (.int .i64 0)), []⟩])
 (.block 4 (.loop (.seq (.reg [.s ⟨(some 29), .bin .lss (.t 28) (.c (.int .i64 256)), []⟩])
 (.seq (.cond (.t 29) .skip
 (.exit 4))
 (.seq (.block 5 (.seq (.reg [.s ⟨(some 30), .mv (.t 28), []⟩,
  .s ⟨(some 31), .aidx false 256 1 (.t 27) (.t 28), []⟩,
  .s ⟨(some 9), .mv (.t 30), []⟩,
  .s ⟨(some 10), .mv (.t 31), []⟩])
 (.seq (.reg [.s ⟨(some 32), .mv (.t 10), []⟩,
  .s ⟨(some 33), .un .not (.t 32), []⟩])
 (.cond (.t 33) (.seq (.reg [.s ⟨(some 34), .mv (.t 9), []⟩,
  .s ⟨(some 35), .cint .u8 (.t 34), []⟩,
  .s ⟨(some 2), .mv (.t 35), []⟩,
  .s ⟨(some 3), .mv (.c (.bool true)), []⟩])
 .ret)
 .skip))))
 (.reg [.s ⟨(some 36), .bin .add (.t 28) (.c (.int .i64 1)), []⟩,
  .s ⟨(some 28), .mv (.t 36), []⟩])))))))
 (.seq (.reg [.s ⟨(some 2), .mv (.c (.int .u8 0)), []⟩,
  .s ⟨(some 3), .mv (.c (.bool false)), []⟩])
 .ret)))))⟩
def a38 : XFun := ⟨13, [.t 4, .t 5, .t 6],
 (.seq (.reg [.s ⟨(some 4), .mv (.c (.int .u64 0)), []⟩,
  .s ⟨(some 5), .mv (.c (.int .i64 0)), []⟩,
  .s ⟨(some 6), .mv (.c (.int .i64 0)), []⟩])
 (.seq (.reg [.s ⟨(some 7), .mv (.t 0), []⟩,
  .s ⟨(some 8), .mv (.t 1), []⟩,
  .s ⟨(some 9), .call 53 [(.t 7), (.t 8), (.fn 54), (.fn 31)], []⟩,
  .s ⟨(some 10), .ext 0 (.t 9), []⟩,
  .s ⟨(some 11), .ext 1 (.t 9), []⟩,
  .s ⟨(some 12), .ext 2 (.t 9), []⟩,
  .s ⟨(some 4), .mv (.t 10), []⟩,
  .s ⟨(some 5), .mv (.t 11), []⟩,
  .s ⟨(some 6), .mv (.t 12), []⟩])
 .ret))⟩
theorem s38 : slimF Try.prog Try.f38 = some a38.fn := by kernel_rfl
def a39 : XFun := ⟨68, [.c 6 true 3, .t 7, .t 8],
 (.seq (.reg [.s ⟨(some 6), .alloc 46 [(.int .i64 0), (.int .i64 0), (.slice none 0 0)], []⟩,
  .s ⟨(some 7), .mv (.c (.int .i64 0)), []⟩,
  .s ⟨(some 8), .mv (.c (.bool false)), []⟩])
 (.seq (.reg [.s ⟨(some 13), .mv (.t 0), []⟩,
  .s ⟨(some 14), .mv (.t 1), []⟩,
  .s ⟨(some 15), .call 38 [(.t 13), (.t 14)], []⟩,
  .s ⟨(some 12), .mv (.t 15), []⟩,
  .s ⟨(some 16), .ext 0 (.t 12), []⟩,
  .s ⟨(some 17), .ext 1 (.t 12), []⟩,
  .s ⟨(some 18), .ext 2 (.t 12), []⟩,
  .s ⟨(some 9), .mv (.t 16), []⟩,
  .s ⟨(some 7), .mv (.t 17), []⟩,
  .s ⟨(some 10), .mv (.t 18), []⟩])
 (.seq (.seq (.reg [.s ⟨(some 19), .mv (.t 10), []⟩,
  .s ⟨(some 20), .bin .neq (.t 19) (.c (.int .i64 0)), []⟩,
  .s ⟨(some 21), .mv (.t 20), []⟩,
  .g 21 false [⟨(some 22), .mv (.t 9), []⟩,
   ⟨(some 23), .bin .gtr (.t 22) (.c (.int .u64 16777216)), []⟩],
  .s ⟨(some 24), .pick (.t 21) (.c (.bool true)) (.t 23), []⟩])
 (.cond (.t 24) (.seq (.reg [.s ⟨(some 25), .load true 3 (.t 6), []⟩,
  .s ⟨none, .store 3 (.t 6) (.t 25), []⟩,
  .s ⟨(some 7), .mv (.c (.int .i64 0)), []⟩,
  .s ⟨(some 8), .mv (.c (.bool false)), []⟩])
 .ret)
 .skip))
 (.seq (.reg [.s ⟨(some 27), .mv (.t 0), []⟩,
  .s ⟨(some 28), .mv (.t 7), []⟩,
  .s ⟨(some 29), .call 38 [(.t 27), (.t 28)], []⟩,
  .s ⟨(some 26), .mv (.t 29), []⟩,
  .s ⟨(some 30), .ext 0 (.t 26), []⟩,
  .s ⟨(some 31), .ext 1 (.t 26), []⟩,
  .s ⟨(some 32), .ext 2 (.t 26), []⟩,
  .s ⟨(some 11), .mv (.t 30), []⟩,
  .s ⟨(some 7), .mv (.t 31), []⟩,
  .s ⟨(some 10), .mv (.t 32), []⟩])
 (.seq (.seq (.reg [.s ⟨(some 33), .mv (.t 10), []⟩,
  .s ⟨(some 34), .bin .neq (.t 33) (.c (.int .i64 0)), []⟩,
  .s ⟨(some 35), .mv (.t 34), []⟩,
  .g 35 false [⟨(some 36), .mv (.t 11), []⟩,
   ⟨(some 37), .bin .gtr (.t 36) (.c (.int .u64 16777216)), []⟩],
  .s ⟨(some 38), .pick (.t 35) (.c (.bool true)) (.t 37), []⟩])
 (.cond (.t 38) (.seq (.reg [.s ⟨(some 39), .load true 3 (.t 6), []⟩,
  .s ⟨none, .store 3 (.t 6) (.t 39), []⟩,
  .s ⟨(some 7), .mv (.c (.int .i64 0)), []⟩,
  .s ⟨(some 8), .mv (.c (.bool false)), []⟩])
 .ret)
 .skip))
 (.seq (.reg [.s ⟨(some 40), .mv (.t 2), []⟩,
  .s ⟨(some 41), .mv (.t 9), []⟩,
  .s ⟨(some 42), .cint .i64 (.t 41), []⟩,
  .s ⟨(some 43), .bin .add (.t 40) (.t 42), []⟩,
  .s ⟨(some 44), .faddr 0 (.t 6), []⟩,
  .s ⟨none, .store 1 (.t 44) (.t 43), []⟩])
 (.seq (.reg [.s ⟨(some 45), .faddr 0 (.t 6), []⟩,
  .s ⟨(some 46), .load false 1 (.t 45), []⟩,
  .s ⟨(some 47), .mv (.t 11), []⟩,
  .s ⟨(some 48), .cint .i64 (.t 47), []⟩,
  .s ⟨(some 49), .bin .add (.t 46) (.t 48), []⟩,
  .s ⟨(some 50), .faddr 1 (.t 6), []⟩,
  .s ⟨none, .store 1 (.t 50) (.t 49), []⟩])
 (.seq (.reg [.s ⟨(some 52), .mv (.t 0), []⟩,
  .s ⟨(some 53), .mv (.t 7), []⟩,
  .s ⟨(some 54), .call 55 [(.t 52), (.t 53)], []⟩,
  .s ⟨(some 51), .mv (.t 54), []⟩,
  .s ⟨(some 55), .ext 0 (.t 51), []⟩,
  .s ⟨(some 56), .ext 1 (.t 51), []⟩,
  .s ⟨(some 57), .ext 2 (.t 51), []⟩,
  .s ⟨(some 58), .faddr 2 (.t 6), []⟩,
  .s ⟨none, .store 1 (.t 58) (.t 55), []⟩,
  .s ⟨(some 7), .mv (.t 56), []⟩,
  .s ⟨(some 10), .mv (.t 57), []⟩])
 (.seq (.reg [.s ⟨(some 59), .load true 3 (.t 6), []⟩,
  .s ⟨(some 60), .mv (.t 7), []⟩,
  .s ⟨(some 61), .mv (.t 10), []⟩,
  .s ⟨(some 62), .bin .eql (.t 61) (.c (.int .i64 0)), []⟩,
  .s ⟨(some 63), .mv (.t 62), []⟩,
  .g 63 true [⟨(some 64), .faddr 1 (.t 6), []⟩,
   ⟨(some 65), .load false 1 (.t 64), []⟩,
   ⟨(some 66), .bin .leq (.t 65) (.c (.int .i64 16777216)), []⟩],
  .s ⟨(some 67), .pick (.t 63) (.t 66) (.c (.bool false)), []⟩,
  .s ⟨none, .store 3 (.t 6) (.t 59), []⟩,
  .s ⟨(some 7), .mv (.t 60), []⟩,
  .s ⟨(some 8), .mv (.t 67), []⟩])
 .ret)))))))))⟩
theorem s39 : slimF Try.prog Try.f39 = some a39.fn := by kernel_rfl
def a42 : XFun := ⟨8, [.t 2],
 (.seq (.reg [.s ⟨(some 2), .mv (.c (.slice none 0 0)), []⟩])
 (.seq (.seq (.reg [.s ⟨(some 3), .mv (.t 0), []⟩,
  .s ⟨(some 4), .snil false (.t 3), []⟩])
 (.cond (.t 4) (.seq (.reg [.s ⟨(some 2), .mv (.c (.slice none 0 0)), []⟩])
 .ret)
 .skip))
 (.seq (.reg [.s ⟨(some 5), .bslice 44 0 [] [], []⟩,
  .s ⟨(some 6), .mv (.t 0), []⟩,
  .s ⟨(some 7), .app 44 2 16 (.t 5) (.t 6), []⟩,
  .s ⟨(some 2), .mv (.t 7), []⟩])
 .ret)))⟩
theorem s42 : slimF Try.prog Try.f42 = some a42.fn := by kernel_rfl
def a43 : XFun := ⟨8, [.c 2 true 3],
 (.seq (.reg [.s ⟨(some 1), .box 46 (.t 0), []⟩,
  .s ⟨(some 2), .alloc 46 [(.int .i64 0), (.int .i64 0), (.slice none 0 0)], []⟩])
 (.seq (.reg [.s ⟨(some 3), .faddr 2 (.t 1), []⟩,
  .s ⟨(some 4), .load false 1 (.t 3), []⟩,
  .s ⟨(some 5), .call 42 [(.t 4)], []⟩,
  .s ⟨(some 6), .faddr 2 (.t 1), []⟩,
  .s ⟨none, .store 1 (.t 6) (.t 5), []⟩])
 (.seq (.reg [.s ⟨(some 7), .load true 3 (.t 1), []⟩,
  .s ⟨none, .store 3 (.t 2) (.t 7), []⟩])
 .ret)))⟩
theorem s43 : slimF Try.prog Try.f43 = some a43.fn := by kernel_rfl
def a44 : XFun := ⟨8, [.t 6],
 (.seq (.reg [.s ⟨(some 3), .box 23 (.t 0), []⟩,
  .s ⟨(some 4), .box 3 (.t 1), []⟩,
  .s ⟨(some 5), .box 3 (.t 2), []⟩,
  .s ⟨(some 6), .mv (.c .nilFunc), []⟩])
 (.seq (.reg [.s ⟨(some 7), .mkfn (.func 58) [] [(.t 3), (.t 4), (.t 5)], []⟩,
  .s ⟨(some 6), .mv (.t 7), []⟩])
 .ret))⟩
theorem s44 : slimF Try.prog Try.f44 = some a44.fn := by kernel_rfl
def a45 : XFun := ⟨26, [.t 4],
 (.seq (.reg [.s ⟨(some 4), .mv (.c (.bool false)), []⟩])
 (.seq (.seq (.reg [.s ⟨(some 6), .mv (.t 0), []⟩,
  .s ⟨(some 7), .lenL (.t 6), []⟩,
  .s ⟨(some 8), .mv (.t 1), []⟩,
  .s ⟨(some 9), .lenL (.t 8), []⟩,
  .s ⟨(some 10), .bin .neq (.t 7) (.t 9), []⟩])
 (.cond (.t 10) (.seq (.reg [.s ⟨(some 4), .mv (.c (.bool false)), []⟩])
 .ret)
 .skip))
 (.seq (.seq (.reg [.s ⟨(some 11), .mv (.t 0), []⟩,
  .s ⟨(some 12), .lenL (.t 11), []⟩,
  .s ⟨(some 13), .mv (.c (.int .i64 0)), []⟩])
 (.block 0 (.loop (.seq (.reg [.s ⟨(some 14), .bin .lss (.t 13) (.t 12), []⟩])
 (.seq (.cond (.t 14) .skip
 (.exit 0))
 (.seq (.block 1 (.seq (.reg [.s ⟨(some 15), .mv (.t 13), []⟩,
  .s ⟨(some 5), .mv (.t 15), []⟩])
 (.seq (.par [.s ⟨(some 16), .mv (.t 0), []⟩,
  .s ⟨(some 17), .mv (.t 5), []⟩,
  .s ⟨(some 18), .idx 2 (.t 16) (.t 17), []⟩,
  .s ⟨(some 19), .load true 2 (.t 18), []⟩,
  .s ⟨(some 20), .mv (.t 1), []⟩,
  .s ⟨(some 21), .mv (.t 5), []⟩,
  .s ⟨(some 22), .idx 2 (.t 20) (.t 21), []⟩,
  .s ⟨(some 23), .load true 2 (.t 22), []⟩,
  .s ⟨(some 24), .aeq true [0, 0] (.t 19) (.t 23), []⟩])
 (.cond (.t 24) (.seq (.reg [.s ⟨(some 4), .mv (.c (.bool false)), []⟩])
 .ret)
 .skip))))
 (.reg [.s ⟨(some 25), .bin .add (.t 13) (.c (.int .i64 1)), []⟩,
  .s ⟨(some 13), .mv (.t 25), []⟩])))))))
 (.seq (.reg [.s ⟨(some 4), .mv (.c (.bool true)), []⟩])
 .ret))))⟩
theorem s45 : slimF Try.prog Try.f45 = some a45.fn := by kernel_rfl
def a46 : XFun := ⟨8, [.t 2],
 (.seq (.reg [.s ⟨(some 2), .mv (.c (.slice none 0 0)), []⟩])
 (.seq (.seq (.reg [.s ⟨(some 3), .mv (.t 0), []⟩,
  .s ⟨(some 4), .snil false (.t 3), []⟩])
 (.cond (.t 4) (.seq (.reg [.s ⟨(some 2), .mv (.c (.slice none 0 0)), []⟩])
 .ret)
 .skip))
 (.seq (.reg [.s ⟨(some 5), .bslice 5 0 [] [], []⟩,
  .s ⟨(some 6), .mv (.t 0), []⟩,
  .s ⟨(some 7), .app 5 1 1 (.t 5) (.t 6), []⟩,
  .s ⟨(some 2), .mv (.t 7), []⟩])
 .ret)))⟩
theorem s46 : slimF Try.prog Try.f46 = some a46.fn := by kernel_rfl
def a47 : XFun := ⟨9, [.t 2],
 (.seq (.reg [.s ⟨(some 2), .mv (.c (.bool false)), []⟩])
 (.seq (.reg [.s ⟨(some 3), .mv (.t 0), []⟩,
  .s ⟨(some 4), .bin .geq (.t 3) (.c (.int .u8 1)), []⟩,
  .s ⟨(some 5), .mv (.t 4), []⟩,
  .g 5 true [⟨(some 6), .mv (.t 0), []⟩,
   ⟨(some 7), .bin .leq (.t 6) (.c (.int .u8 3)), []⟩],
  .s ⟨(some 8), .pick (.t 5) (.t 7) (.c (.bool false)), []⟩,
  .s ⟨(some 2), .mv (.t 8), []⟩])
 .ret))⟩
theorem s47 : slimF Try.prog Try.f47 = some a47.fn := by kernel_rfl
def a48 : XFun := ⟨28, [.t 4],
 (.seq (.reg [.s ⟨(some 4), .mv (.c (.slice none 0 0)), []⟩])
 (.seq (.reg [.s ⟨(some 6), .mv (.t 0), []⟩,
  .s ⟨(some 7), .call 46 [(.t 6)], []⟩,
  .s ⟨(some 5), .mv (.t 7), []⟩])
 (.seq (.block 0 (.loop (.seq (.seq (.reg [.s ⟨(some 8), .mv (.t 1), []⟩,
  .s ⟨(some 9), .bin .gtr (.t 8) (.c (.int .i64 63)), []⟩,
  .s ⟨(some 10), .mv (.t 9), []⟩,
  .g 10 false [⟨(some 11), .mv (.t 1), []⟩,
   ⟨(some 12), .bin .lss (.t 11) (.c (.int .i64 (-64))), []⟩],
  .s ⟨(some 13), .pick (.t 10) (.c (.bool true)) (.t 12), []⟩])
 (.cond (.t 13) .skip
 (.exit 0)))
 (.block 1 (.seq (.reg [.s ⟨(some 14), .mv (.t 5), []⟩,
  .s ⟨(some 15), .mv (.t 1), []⟩,
  .s ⟨(some 16), .cint .u8 (.t 15), []⟩,
  .s ⟨(some 17), .bin .or (.t 16) (.c (.int .u8 128)), []⟩,
  .s ⟨(some 18), .bslice 5 1 [(.int .u8 0)] [(0, 1, (.t 17))], []⟩,
  .s ⟨(some 19), .app 5 1 1 (.t 14) (.t 18), []⟩,
  .s ⟨(some 5), .mv (.t 19), []⟩])
 (.reg [.s ⟨(some 20), .mv (.t 1), []⟩,
  .s ⟨(some 21), .bin .shr (.t 20) (.c (.int .u64 7)), []⟩,
  .s ⟨(some 1), .mv (.t 21), []⟩]))))))
 (.seq (.reg [.s ⟨(some 22), .mv (.t 5), []⟩,
  .s ⟨(some 23), .mv (.t 1), []⟩,
  .s ⟨(some 24), .cint .u8 (.t 23), []⟩,
  .s ⟨(some 25), .bin .and (.t 24) (.c (.int .u8 127)), []⟩,
  .s ⟨(some 26), .bslice 5 1 [(.int .u8 0)] [(0, 1, (.t 25))], []⟩,
  .s ⟨(some 27), .app 5 1 1 (.t 22) (.t 26), []⟩,
  .s ⟨(some 4), .mv (.t 27), []⟩])
 .ret))))⟩
theorem s48 : slimF Try.prog Try.f48 = some a48.fn := by kernel_rfl
def a50 : XFun := ⟨38, [.t 8],
 (.seq (.reg [.s ⟨(some 8), .mv (.c (.slice none 0 0)), []⟩])
 (.seq (.reg [.s ⟨(some 12), .mv (.t 0), []⟩,
  .s ⟨(some 13), .call 29 [(.t 12)], []⟩,
  .s ⟨(some 9), .mv (.t 13), []⟩])
 (.seq (.seq (.reg [.s ⟨(some 10), .mv (.c (.int .i64 0)), []⟩])
 (.block 0 (.loop (.seq (.seq (.reg [.s ⟨(some 14), .mv (.t 10), []⟩,
  .s ⟨(some 15), .mv (.t 3), []⟩,
  .s ⟨(some 16), .bin .lss (.t 14) (.t 15), []⟩])
 (.cond (.t 16) .skip
 (.exit 0)))
 (.seq (.block 1 (.seq (.reg [.s ⟨(some 19), .mv (.t 1), []⟩,
  .s ⟨(some 20), .bin .rem (.t 19) (.c (.int .u64 128)), []⟩,
  .s ⟨(some 11), .mv (.t 20), []⟩])
 (.seq (.reg [.s ⟨(some 21), .mv (.t 1), []⟩,
  .s ⟨(some 22), .bin .quo (.t 21) (.c (.int .u64 128)), []⟩,
  .s ⟨(some 1), .mv (.t 22), []⟩])
 (.seq (.seq (.reg [.s ⟨(some 23), .mv (.t 2), []⟩])
 (.cond (.t 23) (.reg [.s ⟨(some 24), .mv (.t 1), []⟩,
  .s ⟨(some 25), .bin .or (.t 24) (.c (.int .u64 18302628885633695744)), []⟩,
  .s ⟨(some 1), .mv (.t 25), []⟩])
 .skip))
 (.seq (.seq (.reg [.s ⟨(some 26), .mv (.t 10), []⟩,
  .s ⟨(some 27), .mv (.t 3), []⟩,
  .s ⟨(some 28), .bin .sub (.t 27) (.c (.int .i64 1)), []⟩,
  .s ⟨(some 29), .bin .lss (.t 26) (.t 28), []⟩])
 (.cond (.t 29) (.reg [.s ⟨(some 30), .mv (.t 11), []⟩,
  .s ⟨(some 31), .bin .add (.t 30) (.c (.int .u64 128)), []⟩,
  .s ⟨(some 11), .mv (.t 31), []⟩])
 .skip))
 (.reg [.s ⟨(some 32), .mv (.t 9), []⟩,
  .s ⟨(some 33), .mv (.t 11), []⟩,
  .s ⟨(some 34), .cint .u8 (.t 33), []⟩,
  .s ⟨(some 35), .bslice 5 1 [(.int .u8 0)] [(0, 1, (.t 34))], []⟩,
  .s ⟨(some 36), .app 5 1 1 (.t 32) (.t 35), []⟩,
  .s ⟨(some 9), .mv (.t 36), []⟩]))))))
 (.reg [.s ⟨(some 17), .mv (.t 10), []⟩,
  .s ⟨(some 18), .bin .add (.t 17) (.c (.int .i64 1)), []⟩,
  .s ⟨(some 10), .mv (.t 18), []⟩]))))))
 (.seq (.reg [.s ⟨(some 37), .mv (.t 9), []⟩,
  .s ⟨(some 8), .mv (.t 37), []⟩])
 .ret))))⟩
def a52 : XFun := ⟨54, [.t 2, .t 3],
 (.seq (.reg [.s ⟨(some 2), .mv (.c (.slice none 0 0)), []⟩,
  .s ⟨(some 3), .mv (.c (.bool false)), []⟩])
 (.seq (.reg [.s ⟨(some 4), .mv (.c (.slice none 0 0)), []⟩])
 (.seq (.reg [.s ⟨(some 5), .mv (.c (.int .i64 0)), []⟩])
 (.seq (.seq (.reg [.s ⟨(some 10), .mv (.t 0), []⟩,
  .s ⟨(some 11), .lenL (.t 10), []⟩,
  .s ⟨(some 12), .mv (.c (.int .i64 0)), []⟩])
 (.block 0 (.loop (.seq (.reg [.s ⟨(some 13), .bin .lss (.t 12) (.t 11), []⟩])
 (.seq (.cond (.t 13) .skip
 (.exit 0))
 (.seq (.block 1 (.seq (.reg [.s ⟨(some 14), .idx 2 (.t 10) (.t 12), []⟩,
  .s ⟨(some 15), .load true 2 (.t 14), []⟩,
  .s ⟨(some 7), .alloc 44 [(.int .u8 0), (.int .i64 0)], []⟩,
  .s ⟨none, .store 2 (.t 7) (.t 15), []⟩])
 (.seq (.reg [.s ⟨(some 17), .load true 2 (.t 7), []⟩,
  .s ⟨(some 18), .call 60 [(.t 17)], []⟩,
  .s ⟨(some 16), .mv (.t 18), []⟩,
  .s ⟨(some 19), .ext 0 (.t 16), []⟩,
  .s ⟨(some 20), .ext 1 (.t 16), []⟩,
  .s ⟨(some 8), .mv (.t 19), []⟩,
  .s ⟨(some 9), .mv (.t 20), []⟩])
 (.seq (.seq (.reg [.s ⟨(some 21), .mv (.t 9), []⟩,
  .s ⟨(some 22), .un .not (.t 21), []⟩,
  .s ⟨(some 23), .mv (.t 22), []⟩,
  .g 23 false [⟨(some 24), .mv (.t 8), []⟩,
   ⟨(some 25), .inv (.t 24) "theodolite/expr.takes" [], []⟩,
   ⟨(some 26), .mv (.t 5), []⟩,
   ⟨(some 27), .bin .gtr (.t 25) (.t 26), []⟩],
  .s ⟨(some 28), .pick (.t 23) (.c (.bool true)) (.t 27), []⟩])
 (.cond (.t 28) (.seq (.reg [.s ⟨(some 2), .mv (.c (.slice none 0 0)), []⟩,
  .s ⟨(some 3), .mv (.c (.bool false)), []⟩])
 .ret)
 .skip))
 (.seq (.reg [.s ⟨(some 29), .mv (.t 5), []⟩,
  .s ⟨(some 30), .mv (.t 8), []⟩,
  .s ⟨(some 31), .inv (.t 30) "theodolite/expr.takes" [], []⟩,
  .s ⟨(some 32), .bin .sub (.c (.int .i64 1)) (.t 31), []⟩,
  .s ⟨(some 33), .bin .add (.t 29) (.t 32), []⟩,
  .s ⟨(some 5), .mv (.t 33), []⟩])
 (.seq (.seq (.reg [.s ⟨(some 34), .mv (.t 5), []⟩,
  .s ⟨(some 35), .bin .gtr (.t 34) (.c (.int .i64 8)), []⟩])
 (.cond (.t 35) (.seq (.reg [.s ⟨(some 2), .mv (.c (.slice none 0 0)), []⟩,
  .s ⟨(some 3), .mv (.c (.bool false)), []⟩])
 .ret)
 .skip))
 (.reg [.s ⟨(some 36), .mv (.t 4), []⟩,
  .s ⟨(some 37), .mv (.t 8), []⟩,
  .s ⟨(some 38), .bslice 85 1 [.nilIface] [(0, 1, (.t 37))], []⟩,
  .s ⟨(some 39), .app 85 1 16 (.t 36) (.t 38), []⟩,
  .s ⟨(some 4), .mv (.t 39), []⟩])))))))
 (.reg [.s ⟨(some 40), .bin .add (.t 12) (.c (.int .i64 1)), []⟩,
  .s ⟨(some 12), .mv (.t 40), []⟩])))))))
 (.seq (.reg [.s ⟨(some 41), .mv (.t 4), []⟩,
  .s ⟨(some 42), .mv (.t 0), []⟩,
  .s ⟨(some 43), .lenL (.t 42), []⟩,
  .s ⟨(some 44), .bin .leq (.t 43) (.c (.int .i64 16)), []⟩,
  .s ⟨(some 45), .mv (.t 44), []⟩,
  .g 45 true [⟨(some 46), .mv (.t 0), []⟩,
   ⟨(some 47), .lenL (.t 46), []⟩,
   ⟨(some 48), .bin .eql (.t 47) (.c (.int .i64 0)), []⟩,
   ⟨(some 49), .mv (.t 48), []⟩],
  .g 49 false [⟨(some 50), .mv (.t 5), []⟩,
   ⟨(some 51), .bin .eql (.t 50) (.c (.int .i64 1)), []⟩],
  .g 45 true [⟨(some 52), .pick (.t 49) (.c (.bool true)) (.t 51), []⟩],
  .s ⟨(some 53), .pick (.t 45) (.t 52) (.c (.bool false)), []⟩,
  .s ⟨(some 2), .mv (.t 41), []⟩,
  .s ⟨(some 3), .mv (.t 53), []⟩])
 .ret)))))⟩
theorem s52 : slimF Try.prog Try.f52 = some a52.fn := by kernel_rfl
def a53 : XFun := ⟨52, [.t 8, .t 9, .t 10],
 (.seq (.reg [.s ⟨(some 8), .mv (.c (.int .u64 0)), []⟩,
  .s ⟨(some 9), .mv (.c (.int .i64 0)), []⟩,
  .s ⟨(some 10), .mv (.c (.int .i64 0)), []⟩])
 (.seq (.seq (.reg [.s ⟨(some 14), .mv (.t 1), []⟩,
  .s ⟨(some 15), .bin .lss (.t 14) (.c (.int .i64 0)), []⟩,
  .s ⟨(some 16), .mv (.t 15), []⟩,
  .g 16 false [⟨(some 17), .mv (.t 1), []⟩,
   ⟨(some 18), .mv (.t 0), []⟩,
   ⟨(some 19), .lenL (.t 18), []⟩,
   ⟨(some 20), .bin .gtr (.t 17) (.t 19), []⟩],
  .s ⟨(some 21), .pick (.t 16) (.c (.bool true)) (.t 20), []⟩])
 (.cond (.t 21) (.seq (.reg [.s ⟨(some 8), .mv (.c (.int .u64 0)), []⟩,
  .s ⟨(some 9), .mv (.c (.int .i64 0)), []⟩,
  .s ⟨(some 10), .mv (.c (.int .i64 1)), []⟩])
 .ret)
 .skip))
 (.seq (.reg [.s ⟨(some 23), .mv (.t 0), []⟩,
  .s ⟨(some 24), .mv (.t 1), []⟩,
  .s ⟨(some 25), .slc 1 (.t 23) (some (.t 24)) none none, []⟩,
  .s ⟨(some 26), .call 61 [(.t 25)], []⟩,
  .s ⟨(some 22), .mv (.t 26), []⟩,
  .s ⟨(some 27), .ext 0 (.t 22), []⟩,
  .s ⟨(some 28), .ext 1 (.t 22), []⟩,
  .s ⟨(some 11), .mv (.t 27), []⟩,
  .s ⟨(some 12), .mv (.t 28), []⟩])
 (.seq (.reg [.s ⟨(some 29), .mv (.t 2), []⟩,
  .s ⟨(some 30), .mv (.t 11), []⟩,
  .s ⟨(some 31), .mv (.t 12), []⟩,
  .s ⟨(some 32), .callv (.t 29) [(.t 30), (.t 31)], []⟩,
  .s ⟨(some 13), .mv (.t 32), []⟩])
 (.seq (.seq (.par [.s ⟨(some 33), .mv (.t 12), []⟩,
  .s ⟨(some 34), .bin .eql (.t 33) (.c (.int .i64 0)), []⟩,
  .s ⟨(some 35), .mv (.t 34), []⟩,
  .g 35 false [⟨(some 36), .mv (.t 3), []⟩,
   ⟨(some 37), .mv (.t 13), []⟩,
   ⟨(some 39), .mv (.t 0), []⟩,
   ⟨(some 40), .mv (.t 1), []⟩,
   ⟨(some 41), .mv (.t 1), []⟩,
   ⟨(some 42), .mv (.t 12), []⟩,
   ⟨(some 43), .bin .add (.t 41) (.t 42), []⟩,
   ⟨(some 44), .slc 1 (.t 39) (some (.t 40)) (some (.t 43)) none, []⟩,
   ⟨(some 38), .callv (.t 36) [(.c (.slice none 0 0)), (.t 37)], []⟩,
   ⟨(some 45), .call 62 [(.t 38), (.t 44)], []⟩,
   ⟨(some 46), .un .not (.t 45), []⟩],
  .s ⟨(some 47), .pick (.t 35) (.c (.bool true)) (.t 46), []⟩])
 (.cond (.t 47) (.seq (.reg [.s ⟨(some 8), .mv (.c (.int .u64 0)), []⟩,
  .s ⟨(some 9), .mv (.c (.int .i64 0)), []⟩,
  .s ⟨(some 10), .mv (.c (.int .i64 5)), []⟩])
 .ret)
 .skip))
 (.seq (.reg [.s ⟨(some 48), .mv (.t 13), []⟩,
  .s ⟨(some 49), .mv (.t 1), []⟩,
  .s ⟨(some 50), .mv (.t 12), []⟩,
  .s ⟨(some 51), .bin .add (.t 49) (.t 50), []⟩,
  .s ⟨(some 8), .mv (.t 48), []⟩,
  .s ⟨(some 9), .mv (.t 51), []⟩,
  .s ⟨(some 10), .mv (.c (.int .i64 0)), []⟩])
 .ret))))))⟩
theorem s53 : slimF Try.prog Try.f53 = some a53.fn := by kernel_rfl
def a54 : XFun := ⟨6, [.t 4],
 (.seq (.reg [.s ⟨(some 4), .mv (.c (.int .u64 0)), []⟩])
 (.seq (.reg [.s ⟨(some 5), .mv (.t 0), []⟩,
  .s ⟨(some 4), .mv (.t 5), []⟩])
 .ret))⟩
theorem s54 : slimF Try.prog Try.f54 = some a54.fn := by kernel_rfl
def a55 : XFun := ⟨67, [.t 4, .t 5, .t 6],
 (.seq (.reg [.s ⟨(some 4), .mv (.c (.slice none 0 0)), []⟩,
  .s ⟨(some 5), .mv (.c (.int .i64 0)), []⟩,
  .s ⟨(some 6), .mv (.c (.int .i64 0)), []⟩])
 (.seq (.seq (.reg [.s ⟨(some 9), .mv (.t 1), []⟩,
  .s ⟨(some 10), .bin .lss (.t 9) (.c (.int .i64 0)), []⟩,
  .s ⟨(some 11), .mv (.t 10), []⟩,
  .g 11 false [⟨(some 12), .mv (.t 1), []⟩,
   ⟨(some 13), .mv (.t 0), []⟩,
   ⟨(some 14), .lenL (.t 13), []⟩,
   ⟨(some 15), .bin .gtr (.t 12) (.t 14), []⟩],
  .s ⟨(some 16), .pick (.t 11) (.c (.bool true)) (.t 15), []⟩])
 (.cond (.t 16) (.seq (.reg [.s ⟨(some 4), .mv (.c (.slice none 0 0)), []⟩,
  .s ⟨(some 5), .mv (.c (.int .i64 0)), []⟩,
  .s ⟨(some 6), .mv (.c (.int .i64 1)), []⟩])
 .ret)
 .skip))
 (.seq (.reg [.s ⟨(some 18), .mv (.t 0), []⟩,
  .s ⟨(some 19), .mv (.t 1), []⟩,
  .s ⟨(some 20), .call 38 [(.t 18), (.t 19)], []⟩,
  .s ⟨(some 17), .mv (.t 20), []⟩,
  .s ⟨(some 21), .ext 0 (.t 17), []⟩,
  .s ⟨(some 22), .ext 1 (.t 17), []⟩,
  .s ⟨(some 23), .ext 2 (.t 17), []⟩,
  .s ⟨(some 7), .mv (.t 21), []⟩,
  .s ⟨(some 5), .mv (.t 22), []⟩,
  .s ⟨(some 6), .mv (.t 23), []⟩])
 (.seq (.seq (.reg [.s ⟨(some 24), .mv (.t 6), []⟩,
  .s ⟨(some 25), .bin .neq (.t 24) (.c (.int .i64 0)), []⟩,
  .s ⟨(some 26), .mv (.t 25), []⟩,
  .g 26 false [⟨(some 27), .mv (.t 7), []⟩,
   ⟨(some 28), .bin .gtr (.t 27) (.c (.int .u64 16)), []⟩],
  .s ⟨(some 29), .pick (.t 26) (.c (.bool true)) (.t 28), []⟩])
 (.cond (.t 29) (.seq (.reg [.s ⟨(some 4), .mv (.c (.slice none 0 0)), []⟩,
  .s ⟨(some 5), .mv (.c (.int .i64 0)), []⟩,
  .s ⟨(some 6), .mv (.c (.int .i64 5)), []⟩])
 .ret)
 .skip))
 (.seq (.seq (.reg [.s ⟨(some 30), .mv (.t 7), []⟩,
  .s ⟨(some 31), .mv (.c (.int .u64 0)), []⟩])
 (.block 0 (.loop (.seq (.reg [.s ⟨(some 32), .bin .lss (.t 31) (.t 30), []⟩])
 (.seq (.cond (.t 32) .skip
 (.exit 0))
 (.seq (.block 1 (.seq (.seq (.reg [.s ⟨(some 33), .mv (.t 5), []⟩,
  .s ⟨(some 34), .mv (.t 0), []⟩,
  .s ⟨(some 35), .lenL (.t 34), []⟩,
  .s ⟨(some 36), .bin .geq (.t 33) (.t 35), []⟩])
 (.cond (.t 36) (.seq (.reg [.s ⟨(some 4), .mv (.c (.slice none 0 0)), []⟩,
  .s ⟨(some 5), .mv (.c (.int .i64 0)), []⟩,
  .s ⟨(some 6), .mv (.c (.int .i64 5)), []⟩])
 .ret)
 .skip))
 (.seq (.reg [.s ⟨(some 37), .mv (.t 0), []⟩,
  .s ⟨(some 38), .mv (.t 5), []⟩,
  .s ⟨(some 39), .idx 1 (.t 37) (.t 38), []⟩,
  .s ⟨(some 40), .load false 1 (.t 39), []⟩,
  .s ⟨(some 41), .build [(.int .u8 0), (.int .i64 0)] [(0, 1, (.t 40))], []⟩,
  .s ⟨(some 8), .alloc 44 [(.int .u8 0), (.int .i64 0)], []⟩,
  .s ⟨none, .store 2 (.t 8) (.t 41), []⟩])
 (.seq (.reg [.s ⟨(some 42), .mv (.t 5), []⟩,
  .s ⟨(some 43), .bin .add (.t 42) (.c (.int .i64 1)), []⟩,
  .s ⟨(some 5), .mv (.t 43), []⟩])
 (.seq (.seq (.reg [.s ⟨(some 44), .faddr 0 (.t 8), []⟩,
  .s ⟨(some 45), .load false 1 (.t 44), []⟩,
  .s ⟨(some 46), .call 47 [(.t 45)], []⟩])
 (.cond (.t 46) (.seq (.reg [.s ⟨(some 48), .mv (.t 0), []⟩,
  .s ⟨(some 49), .mv (.t 5), []⟩,
  .s ⟨(some 50), .call 63 [(.t 48), (.t 49)], []⟩,
  .s ⟨(some 47), .mv (.t 50), []⟩,
  .s ⟨(some 51), .ext 0 (.t 47), []⟩,
  .s ⟨(some 52), .ext 1 (.t 47), []⟩,
  .s ⟨(some 53), .ext 2 (.t 47), []⟩,
  .s ⟨(some 54), .faddr 1 (.t 8), []⟩,
  .s ⟨none, .store 1 (.t 54) (.t 51), []⟩,
  .s ⟨(some 5), .mv (.t 52), []⟩,
  .s ⟨(some 6), .mv (.t 53), []⟩])
 (.seq (.reg [.s ⟨(some 55), .mv (.t 6), []⟩,
  .s ⟨(some 56), .bin .neq (.t 55) (.c (.int .i64 0)), []⟩])
 (.cond (.t 56) (.seq (.reg [.s ⟨(some 4), .mv (.c (.slice none 0 0)), []⟩,
  .s ⟨(some 5), .mv (.c (.int .i64 0)), []⟩,
  .s ⟨(some 6), .mv (.c (.int .i64 5)), []⟩])
 .ret)
 .skip)))
 .skip))
 (.reg [.s ⟨(some 57), .mv (.t 4), []⟩,
  .s ⟨(some 58), .load true 2 (.t 8), []⟩,
  .s ⟨(some 59), .bslice 44 1 [(.int .u8 0), (.int .i64 0)] [(0, 2, (.t 58))], []⟩,
  .s ⟨(some 60), .app 44 2 16 (.t 57) (.t 59), []⟩,
  .s ⟨(some 4), .mv (.t 60), []⟩]))))))
 (.reg [.s ⟨(some 61), .bin .add (.t 31) (.c (.int .u64 1)), []⟩,
  .s ⟨(some 31), .mv (.t 61), []⟩])))))))
 (.seq (.seq (.reg [.s ⟨(some 62), .mv (.t 4), []⟩,
  .s ⟨(some 63), .call 35 [(.t 62)], []⟩,
  .s ⟨(some 64), .un .not (.t 63), []⟩])
 (.cond (.t 64) (.seq (.reg [.s ⟨(some 4), .mv (.c (.slice none 0 0)), []⟩,
  .s ⟨(some 5), .mv (.c (.int .i64 0)), []⟩,
  .s ⟨(some 6), .mv (.c (.int .i64 5)), []⟩])
 .ret)
 .skip))
 (.seq (.reg [.s ⟨(some 65), .mv (.t 4), []⟩,
  .s ⟨(some 66), .mv (.t 5), []⟩,
  .s ⟨(some 4), .mv (.t 65), []⟩,
  .s ⟨(some 5), .mv (.t 66), []⟩,
  .s ⟨(some 6), .mv (.c (.int .i64 0)), []⟩])
 .ret)))))))⟩
theorem s55 : slimF Try.prog Try.f55 = some a55.fn := by kernel_rfl
def a58 : XFun := ⟨57, [],
 (.seq (.reg [.s ⟨(some 9), .load false 1 (.t 1), []⟩,
  .s ⟨(some 10), .lenL (.t 9), []⟩,
  .s ⟨(some 11), .mv (.c (.int .i64 0)), []⟩])
 (.block 0 (.loop (.seq (.reg [.s ⟨(some 12), .bin .lss (.t 11) (.t 10), []⟩])
 (.seq (.cond (.t 12) .skip
 (.exit 0))
 (.seq (.block 1 (.seq (.reg [.s ⟨(some 13), .idx 3 (.t 9) (.t 11), []⟩,
  .s ⟨(some 14), .load true 3 (.t 13), []⟩,
  .s ⟨(some 6), .alloc 46 [(.int .i64 0), (.int .i64 0), (.slice none 0 0)], []⟩,
  .s ⟨none, .store 3 (.t 6) (.t 14), []⟩])
 (.seq (.seq (.reg [.s ⟨(some 15), .faddr 0 (.t 6), []⟩,
  .s ⟨(some 16), .load false 1 (.t 15), []⟩,
  .s ⟨(some 17), .faddr 1 (.t 6), []⟩,
  .s ⟨(some 18), .load false 1 (.t 17), []⟩,
  .s ⟨(some 19), .bin .geq (.t 16) (.t 18), []⟩])
 (.cond (.t 19) (.exit 1)
 .skip))
 (.seq (.parT (.quiet ⟨none, (some 20), .load true 3 (.t 6)⟩
  (.quiet ⟨none, (some 21), .load true 3 (.t 6)⟩
  (.both (.eff ⟨none, (some 7), .alloc 46 [(.int .i64 0), (.int .i64 0), (.slice none 0 0)]⟩ [⟨none, (some 21), .load true 3 (.t 6)⟩, ⟨none, (some 20), .load true 3 (.t 6)⟩]
  (.eff ⟨none, (some 8), .alloc 46 [(.int .i64 0), (.int .i64 0), (.slice none 0 0)]⟩ [⟨none, (some 21), .load true 3 (.t 6)⟩, ⟨none, (some 20), .load true 3 (.t 6)⟩]
  (.eff ⟨none, none, .store 3 (.t 7) (.t 20)⟩ [⟨none, (some 21), .load true 3 (.t 6)⟩]
  (.eff ⟨none, none, .store 3 (.t 8) (.t 21)⟩ []
  .done))))
  (.eff ⟨none, (some 8), .alloc 46 [(.int .i64 0), (.int .i64 0), (.slice none 0 0)]⟩ [⟨none, (some 21), .load true 3 (.t 6)⟩, ⟨none, (some 20), .load true 3 (.t 6)⟩]
  (.eff ⟨none, (some 7), .alloc 46 [(.int .i64 0), (.int .i64 0), (.slice none 0 0)]⟩ [⟨none, (some 21), .load true 3 (.t 6)⟩, ⟨none, (some 20), .load true 3 (.t 6)⟩]
  (.eff ⟨none, none, .store 3 (.t 7) (.t 20)⟩ [⟨none, (some 21), .load true 3 (.t 6)⟩]
  (.eff ⟨none, none, .store 3 (.t 8) (.t 21)⟩ []
  .done))))))))
 (.seq (.par [.s ⟨(some 22), .faddr 1 (.t 6), []⟩,
  .s ⟨(some 23), .load false 1 (.t 22), []⟩,
  .s ⟨(some 24), .load false 1 (.t 2), []⟩,
  .s ⟨(some 25), .minmax false (.t 23) [(.t 24)], []⟩,
  .s ⟨(some 26), .faddr 0 (.t 6), []⟩,
  .s ⟨(some 27), .load false 1 (.t 26), []⟩,
  .s ⟨(some 28), .load false 1 (.t 3), []⟩,
  .s ⟨(some 29), .minmax true (.t 27) [(.t 28)], []⟩,
  .s ⟨(some 30), .faddr 1 (.t 7), []⟩,
  .s ⟨none, .store 1 (.t 30) (.t 25), [⟨none, (some 28), .load false 1 (.t 3)⟩, ⟨none, (some 27), .load false 1 (.t 26)⟩]⟩,
  .s ⟨(some 31), .faddr 0 (.t 8), []⟩,
  .s ⟨none, .store 1 (.t 31) (.t 29), []⟩])
 (.seq (.reg [.s ⟨(some 32), .faddr 0 (.t 7), []⟩,
  .s ⟨(some 33), .load false 1 (.t 32), []⟩,
  .s ⟨(some 34), .faddr 1 (.t 7), []⟩,
  .s ⟨(some 35), .load false 1 (.t 34), []⟩,
  .s ⟨(some 36), .bin .lss (.t 33) (.t 35), []⟩,
  .s ⟨(some 37), .mv (.t 36), []⟩,
  .g 37 true [⟨(some 38), .mv (.t 0), []⟩,
   ⟨(some 39), .load true 3 (.t 7), []⟩,
   ⟨(some 40), .callv (.t 38) [(.t 39)], []⟩,
   ⟨(some 41), .un .not (.t 40), []⟩],
  .s ⟨(some 42), .pick (.t 37) (.t 41) (.c (.bool false)), []⟩,
  .s ⟨(some 43), .mv (.t 42), []⟩,
  .g 43 false [⟨(some 44), .faddr 0 (.t 8), []⟩,
   ⟨(some 45), .load false 1 (.t 44), []⟩,
   ⟨(some 46), .faddr 1 (.t 8), []⟩,
   ⟨(some 47), .load false 1 (.t 46), []⟩,
   ⟨(some 48), .bin .lss (.t 45) (.t 47), []⟩,
   ⟨(some 49), .mv (.t 48), []⟩],
  .g 49 true [⟨(some 50), .mv (.t 0), []⟩,
   ⟨(some 51), .load true 3 (.t 8), []⟩,
   ⟨(some 52), .callv (.t 50) [(.t 51)], []⟩,
   ⟨(some 53), .un .not (.t 52), []⟩],
  .g 43 false [⟨(some 54), .pick (.t 49) (.t 53) (.c (.bool false)), []⟩],
  .s ⟨(some 55), .pick (.t 43) (.c (.bool true)) (.t 54), []⟩])
 (.cond (.t 55) .ret
 .skip)))))))
 (.reg [.s ⟨(some 56), .bin .add (.t 11) (.c (.int .i64 1)), []⟩,
  .s ⟨(some 11), .mv (.t 56), []⟩])))))))⟩
theorem s58 : slimF Try.prog Try.f58 = some a58.fn := by kernel_rfl
def a59 : XFun := ⟨26, [.t 4],
 (.seq (.reg [.s ⟨(some 4), .mv (.c (.bool false)), []⟩])
 (.seq (.seq (.reg [.s ⟨(some 5), .mv (.t 1), []⟩,
  .s ⟨(some 6), .bin .mul (.c (.int .i64 7)) (.t 5), []⟩,
  .s ⟨(some 7), .bin .sub (.t 6) (.c (.int .i64 1)), []⟩,
  .s ⟨(some 8), .bin .geq (.t 7) (.c (.int .i64 63)), []⟩])
 (.cond (.t 8) (.seq (.reg [.s ⟨(some 4), .mv (.c (.bool true)), []⟩])
 .ret)
 .skip))
 (.seq (.reg [.s ⟨(some 9), .mv (.t 0), []⟩,
  .s ⟨(some 10), .mv (.t 1), []⟩,
  .s ⟨(some 11), .bin .mul (.c (.int .i64 7)) (.t 10), []⟩,
  .s ⟨(some 12), .bin .sub (.t 11) (.c (.int .i64 1)), []⟩,
  .s ⟨(some 13), .cint .u64 (.t 12), []⟩,
  .s ⟨(some 14), .bin .shl (.c (.int .i64 1)) (.t 13), []⟩,
  .s ⟨(some 15), .un .neg (.t 14), []⟩,
  .s ⟨(some 16), .bin .geq (.t 9) (.t 15), []⟩,
  .s ⟨(some 17), .mv (.t 16), []⟩,
  .g 17 true [⟨(some 18), .mv (.t 0), []⟩,
   ⟨(some 19), .mv (.t 1), []⟩,
   ⟨(some 20), .bin .mul (.c (.int .i64 7)) (.t 19), []⟩,
   ⟨(some 21), .bin .sub (.t 20) (.c (.int .i64 1)), []⟩,
   ⟨(some 22), .cint .u64 (.t 21), []⟩,
   ⟨(some 23), .bin .shl (.c (.int .i64 1)) (.t 22), []⟩,
   ⟨(some 24), .bin .lss (.t 18) (.t 23), []⟩],
  .s ⟨(some 25), .pick (.t 17) (.t 24) (.c (.bool false)), []⟩,
  .s ⟨(some 4), .mv (.t 25), []⟩])
 .ret)))⟩
def a60 : XFun := ⟨50, [.t 2, .t 3],
 (.seq (.reg [.s ⟨(some 1), .box 44 (.t 0), []⟩,
  .s ⟨(some 2), .mv (.c .nilIface), []⟩,
  .s ⟨(some 3), .mv (.c (.bool false)), []⟩])
 (.seq (.seq (.reg [.s ⟨(some 4), .faddr 0 (.t 1), []⟩,
  .s ⟨(some 5), .load false 1 (.t 4), []⟩])
 (.block 0 (.seq (.reg [.s ⟨(some 7), .bin .eql (.t 5) (.c (.int .u8 1)), []⟩,
  .s ⟨(some 6), .mv (.t 7), []⟩])
 (.cond (.t 6) (.seq (.reg [.s ⟨(some 8), .faddr 1 (.t 1), []⟩,
  .s ⟨(some 9), .load false 1 (.t 8), []⟩,
  .s ⟨(some 10), .mkif 94 (.t 9), []⟩,
  .s ⟨(some 2), .mv (.t 10), []⟩,
  .s ⟨(some 3), .mv (.c (.bool true)), []⟩])
 .ret)
 (.seq (.reg [.s ⟨(some 12), .bin .eql (.t 5) (.c (.int .u8 2)), []⟩,
  .s ⟨(some 11), .mv (.t 12), []⟩])
 (.cond (.t 11) (.seq (.par [.s ⟨(some 13), .faddr 1 (.t 1), []⟩,
  .s ⟨(some 14), .load false 1 (.t 13), []⟩,
  .s ⟨(some 15), .mkif 95 (.t 14), []⟩,
  .s ⟨(some 16), .faddr 1 (.t 1), []⟩,
  .s ⟨(some 17), .load false 1 (.t 16), []⟩,
  .s ⟨(some 18), .bin .geq (.t 17) (.c (.int .i64 0)), []⟩,
  .s ⟨(some 19), .mv (.t 18), []⟩,
  .g 19 true [⟨(some 20), .faddr 1 (.t 1), []⟩,
   ⟨(some 21), .load false 1 (.t 20), []⟩,
   ⟨(some 22), .bin .lss (.t 21) (.c (.int .i64 16)), []⟩],
  .s ⟨(some 23), .pick (.t 19) (.t 22) (.c (.bool false)), []⟩,
  .s ⟨(some 2), .mv (.t 15), []⟩,
  .s ⟨(some 3), .mv (.t 23), []⟩])
 .ret)
 (.seq (.reg [.s ⟨(some 25), .bin .eql (.t 5) (.c (.int .u8 3)), []⟩,
  .s ⟨(some 24), .mv (.t 25), []⟩])
 (.cond (.t 24) (.seq (.reg [.s ⟨(some 26), .faddr 1 (.t 1), []⟩,
  .s ⟨(some 27), .load false 1 (.t 26), []⟩,
  .s ⟨(some 28), .mkif 96 (.t 27), []⟩,
  .s ⟨(some 2), .mv (.t 28), []⟩,
  .s ⟨(some 3), .mv (.c (.bool true)), []⟩])
 .ret)
 (.seq (.reg [.s ⟨(some 30), .bin .eql (.t 5) (.c (.int .u8 4)), []⟩,
  .s ⟨(some 29), .mv (.t 30), []⟩])
 (.cond (.t 29) (.seq (.par [.s ⟨(some 31), .build [] [], []⟩,
  .s ⟨(some 32), .mkif 98 (.t 31), []⟩,
  .s ⟨(some 33), .faddr 1 (.t 1), []⟩,
  .s ⟨(some 34), .load false 1 (.t 33), []⟩,
  .s ⟨(some 35), .bin .eql (.t 34) (.c (.int .i64 0)), []⟩,
  .s ⟨(some 2), .mv (.t 32), []⟩,
  .s ⟨(some 3), .mv (.t 35), []⟩])
 .ret)
 (.seq (.reg [.s ⟨(some 37), .bin .eql (.t 5) (.c (.int .u8 5)), []⟩,
  .s ⟨(some 36), .mv (.t 37), []⟩])
 (.cond (.t 36) (.seq (.par [.s ⟨(some 38), .build [] [], []⟩,
  .s ⟨(some 39), .mkif 99 (.t 38), []⟩,
  .s ⟨(some 40), .faddr 1 (.t 1), []⟩,
  .s ⟨(some 41), .load false 1 (.t 40), []⟩,
  .s ⟨(some 42), .bin .eql (.t 41) (.c (.int .i64 0)), []⟩,
  .s ⟨(some 2), .mv (.t 39), []⟩,
  .s ⟨(some 3), .mv (.t 42), []⟩])
 .ret)
 (.seq (.reg [.s ⟨(some 44), .bin .eql (.t 5) (.c (.int .u8 6)), []⟩,
  .s ⟨(some 43), .mv (.t 44), []⟩])
 (.cond (.t 43) (.seq (.par [.s ⟨(some 45), .build [] [], []⟩,
  .s ⟨(some 46), .mkif 100 (.t 45), []⟩,
  .s ⟨(some 47), .faddr 1 (.t 1), []⟩,
  .s ⟨(some 48), .load false 1 (.t 47), []⟩,
  .s ⟨(some 49), .bin .eql (.t 48) (.c (.int .i64 0)), []⟩,
  .s ⟨(some 2), .mv (.t 46), []⟩,
  .s ⟨(some 3), .mv (.t 49), []⟩])
 .ret)
 .skip))))))))))))))
 (.seq (.reg [.s ⟨(some 2), .mv (.c .nilIface), []⟩,
  .s ⟨(some 3), .mv (.c (.bool false)), []⟩])
 .ret)))⟩
theorem s60 : slimF Try.prog Try.f60 = some a60.fn := by kernel_rfl
def a61 : XFun := ⟨31, [.t 2, .t 3],
 (.seq (.reg [.s ⟨(some 2), .mv (.c (.int .u64 0)), []⟩,
  .s ⟨(some 3), .mv (.c (.int .i64 0)), []⟩])
 (.seq (.seq (.reg [.s ⟨(some 5), .mv (.t 0), []⟩,
  .s ⟨(some 6), .lenL (.t 5), []⟩,
  .s ⟨(some 7), .minmax false (.t 6) [(.c (.int .i64 10))], []⟩,
  .s ⟨(some 8), .mv (.c (.int .i64 0)), []⟩])
 (.block 0 (.loop (.seq (.reg [.s ⟨(some 9), .bin .lss (.t 8) (.t 7), []⟩])
 (.seq (.cond (.t 9) .skip
 (.exit 0))
 (.seq (.block 1 (.seq (.reg [.s ⟨(some 10), .mv (.t 8), []⟩,
  .s ⟨(some 4), .mv (.t 10), []⟩])
 (.seq (.reg [.s ⟨(some 11), .mv (.t 2), []⟩,
  .s ⟨(some 12), .mv (.t 0), []⟩,
  .s ⟨(some 13), .mv (.t 4), []⟩,
  .s ⟨(some 14), .idx 1 (.t 12) (.t 13), []⟩,
  .s ⟨(some 15), .load false 1 (.t 14), []⟩,
  .s ⟨(some 16), .bin .and (.t 15) (.c (.int .u8 127)), []⟩,
  .s ⟨(some 17), .cint .u64 (.t 16), []⟩,
  .s ⟨(some 18), .mv (.t 4), []⟩,
  .s ⟨(some 19), .bin .mul (.c (.int .i64 7)) (.t 18), []⟩,
  .s ⟨(some 20), .bin .shl (.t 17) (.t 19), []⟩,
  .s ⟨(some 21), .bin .or (.t 11) (.t 20), []⟩,
  .s ⟨(some 2), .mv (.t 21), []⟩])
 (.seq (.reg [.s ⟨(some 22), .mv (.t 0), []⟩,
  .s ⟨(some 23), .mv (.t 4), []⟩,
  .s ⟨(some 24), .idx 1 (.t 22) (.t 23), []⟩,
  .s ⟨(some 25), .load false 1 (.t 24), []⟩,
  .s ⟨(some 26), .bin .lss (.t 25) (.c (.int .u8 128)), []⟩])
 (.cond (.t 26) (.seq (.reg [.s ⟨(some 27), .mv (.t 2), []⟩,
  .s ⟨(some 28), .mv (.t 4), []⟩,
  .s ⟨(some 29), .bin .add (.t 28) (.c (.int .i64 1)), []⟩,
  .s ⟨(some 2), .mv (.t 27), []⟩,
  .s ⟨(some 3), .mv (.t 29), []⟩])
 .ret)
 .skip)))))
 (.reg [.s ⟨(some 30), .bin .add (.t 8) (.c (.int .i64 1)), []⟩,
  .s ⟨(some 8), .mv (.t 30), []⟩])))))))
 (.seq (.reg [.s ⟨(some 2), .mv (.c (.int .u64 0)), []⟩,
  .s ⟨(some 3), .mv (.c (.int .i64 0)), []⟩])
 .ret)))⟩
theorem s61 : slimF Try.prog Try.f61 = some a61.fn := by kernel_rfl
def a62 : XFun := ⟨26, [.t 4],
 (.seq (.reg [.s ⟨(some 4), .mv (.c (.bool false)), []⟩])
 (.seq (.seq (.reg [.s ⟨(some 6), .mv (.t 0), []⟩,
  .s ⟨(some 7), .lenL (.t 6), []⟩,
  .s ⟨(some 8), .mv (.t 1), []⟩,
  .s ⟨(some 9), .lenL (.t 8), []⟩,
  .s ⟨(some 10), .bin .neq (.t 7) (.t 9), []⟩])
 (.cond (.t 10) (.seq (.reg [.s ⟨(some 4), .mv (.c (.bool false)), []⟩])
 .ret)
 .skip))
 (.seq (.seq (.reg [.s ⟨(some 11), .mv (.t 0), []⟩,
  .s ⟨(some 12), .lenL (.t 11), []⟩,
  .s ⟨(some 13), .mv (.c (.int .i64 0)), []⟩])
 (.block 0 (.loop (.seq (.reg [.s ⟨(some 14), .bin .lss (.t 13) (.t 12), []⟩])
 (.seq (.cond (.t 14) .skip
 (.exit 0))
 (.seq (.block 1 (.seq (.reg [.s ⟨(some 15), .mv (.t 13), []⟩,
  .s ⟨(some 5), .mv (.t 15), []⟩])
 (.seq (.par [.s ⟨(some 16), .mv (.t 0), []⟩,
  .s ⟨(some 17), .mv (.t 5), []⟩,
  .s ⟨(some 18), .idx 1 (.t 16) (.t 17), []⟩,
  .s ⟨(some 19), .load false 1 (.t 18), []⟩,
  .s ⟨(some 20), .mv (.t 1), []⟩,
  .s ⟨(some 21), .mv (.t 5), []⟩,
  .s ⟨(some 22), .idx 1 (.t 20) (.t 21), []⟩,
  .s ⟨(some 23), .load false 1 (.t 22), []⟩,
  .s ⟨(some 24), .bin .neq (.t 19) (.t 23), []⟩])
 (.cond (.t 24) (.seq (.reg [.s ⟨(some 4), .mv (.c (.bool false)), []⟩])
 .ret)
 .skip))))
 (.reg [.s ⟨(some 25), .bin .add (.t 13) (.c (.int .i64 1)), []⟩,
  .s ⟨(some 13), .mv (.t 25), []⟩])))))))
 (.seq (.reg [.s ⟨(some 4), .mv (.c (.bool true)), []⟩])
 .ret))))⟩
theorem s62 : slimF Try.prog Try.f62 = some a62.fn := by kernel_rfl
def a63 : XFun := ⟨13, [.t 4, .t 5, .t 6],
 (.seq (.reg [.s ⟨(some 4), .mv (.c (.int .i64 0)), []⟩,
  .s ⟨(some 5), .mv (.c (.int .i64 0)), []⟩,
  .s ⟨(some 6), .mv (.c (.int .i64 0)), []⟩])
 (.seq (.reg [.s ⟨(some 7), .mv (.t 0), []⟩,
  .s ⟨(some 8), .mv (.t 1), []⟩,
  .s ⟨(some 9), .call 67 [(.t 7), (.t 8), (.fn 68), (.fn 48)], []⟩,
  .s ⟨(some 10), .ext 0 (.t 9), []⟩,
  .s ⟨(some 11), .ext 1 (.t 9), []⟩,
  .s ⟨(some 12), .ext 2 (.t 9), []⟩,
  .s ⟨(some 4), .mv (.t 10), []⟩,
  .s ⟨(some 5), .mv (.t 11), []⟩,
  .s ⟨(some 6), .mv (.t 12), []⟩])
 .ret))⟩
theorem s63 : slimF Try.prog Try.f63 = some a63.fn := by kernel_rfl
def a67 : XFun := ⟨52, [.t 8, .t 9, .t 10],
 (.seq (.reg [.s ⟨(some 8), .mv (.c (.int .i64 0)), []⟩,
  .s ⟨(some 9), .mv (.c (.int .i64 0)), []⟩,
  .s ⟨(some 10), .mv (.c (.int .i64 0)), []⟩])
 (.seq (.seq (.reg [.s ⟨(some 14), .mv (.t 1), []⟩,
  .s ⟨(some 15), .bin .lss (.t 14) (.c (.int .i64 0)), []⟩,
  .s ⟨(some 16), .mv (.t 15), []⟩,
  .g 16 false [⟨(some 17), .mv (.t 1), []⟩,
   ⟨(some 18), .mv (.t 0), []⟩,
   ⟨(some 19), .lenL (.t 18), []⟩,
   ⟨(some 20), .bin .gtr (.t 17) (.t 19), []⟩],
  .s ⟨(some 21), .pick (.t 16) (.c (.bool true)) (.t 20), []⟩])
 (.cond (.t 21) (.seq (.reg [.s ⟨(some 8), .mv (.c (.int .i64 0)), []⟩,
  .s ⟨(some 9), .mv (.c (.int .i64 0)), []⟩,
  .s ⟨(some 10), .mv (.c (.int .i64 1)), []⟩])
 .ret)
 .skip))
 (.seq (.reg [.s ⟨(some 23), .mv (.t 0), []⟩,
  .s ⟨(some 24), .mv (.t 1), []⟩,
  .s ⟨(some 25), .slc 1 (.t 23) (some (.t 24)) none none, []⟩,
  .s ⟨(some 26), .call 61 [(.t 25)], []⟩,
  .s ⟨(some 22), .mv (.t 26), []⟩,
  .s ⟨(some 27), .ext 0 (.t 22), []⟩,
  .s ⟨(some 28), .ext 1 (.t 22), []⟩,
  .s ⟨(some 11), .mv (.t 27), []⟩,
  .s ⟨(some 12), .mv (.t 28), []⟩])
 (.seq (.reg [.s ⟨(some 29), .mv (.t 2), []⟩,
  .s ⟨(some 30), .mv (.t 11), []⟩,
  .s ⟨(some 31), .mv (.t 12), []⟩,
  .s ⟨(some 32), .callv (.t 29) [(.t 30), (.t 31)], []⟩,
  .s ⟨(some 13), .mv (.t 32), []⟩])
 (.seq (.seq (.par [.s ⟨(some 33), .mv (.t 12), []⟩,
  .s ⟨(some 34), .bin .eql (.t 33) (.c (.int .i64 0)), []⟩,
  .s ⟨(some 35), .mv (.t 34), []⟩,
  .g 35 false [⟨(some 36), .mv (.t 3), []⟩,
   ⟨(some 37), .mv (.t 13), []⟩,
   ⟨(some 39), .mv (.t 0), []⟩,
   ⟨(some 40), .mv (.t 1), []⟩,
   ⟨(some 41), .mv (.t 1), []⟩,
   ⟨(some 42), .mv (.t 12), []⟩,
   ⟨(some 43), .bin .add (.t 41) (.t 42), []⟩,
   ⟨(some 44), .slc 1 (.t 39) (some (.t 40)) (some (.t 43)) none, []⟩,
   ⟨(some 38), .callv (.t 36) [(.c (.slice none 0 0)), (.t 37)], []⟩,
   ⟨(some 45), .call 62 [(.t 38), (.t 44)], []⟩,
   ⟨(some 46), .un .not (.t 45), []⟩],
  .s ⟨(some 47), .pick (.t 35) (.c (.bool true)) (.t 46), []⟩])
 (.cond (.t 47) (.seq (.reg [.s ⟨(some 8), .mv (.c (.int .i64 0)), []⟩,
  .s ⟨(some 9), .mv (.c (.int .i64 0)), []⟩,
  .s ⟨(some 10), .mv (.c (.int .i64 5)), []⟩])
 .ret)
 .skip))
 (.seq (.reg [.s ⟨(some 48), .mv (.t 13), []⟩,
  .s ⟨(some 49), .mv (.t 1), []⟩,
  .s ⟨(some 50), .mv (.t 12), []⟩,
  .s ⟨(some 51), .bin .add (.t 49) (.t 50), []⟩,
  .s ⟨(some 8), .mv (.t 48), []⟩,
  .s ⟨(some 9), .mv (.t 51), []⟩,
  .s ⟨(some 10), .mv (.c (.int .i64 0)), []⟩])
 .ret))))))⟩
theorem s67 : slimF Try.prog Try.f67 = some a67.fn := by kernel_rfl
def a68 : XFun := ⟨16, [.t 4],
 (.seq (.reg [.s ⟨(some 4), .mv (.c (.int .i64 0)), []⟩])
 (.seq (.reg [.s ⟨(some 6), .mv (.t 1), []⟩,
  .s ⟨(some 7), .bin .mul (.c (.int .i64 7)) (.t 6), []⟩,
  .s ⟨(some 8), .bin .sub (.c (.int .i64 64)) (.t 7), []⟩,
  .s ⟨(some 9), .minmax true (.c (.int .i64 0)) [(.t 8)], []⟩,
  .s ⟨(some 5), .mv (.t 9), []⟩])
 (.seq (.reg [.s ⟨(some 10), .mv (.t 0), []⟩,
  .s ⟨(some 11), .mv (.t 5), []⟩,
  .s ⟨(some 12), .bin .shl (.t 10) (.t 11), []⟩,
  .s ⟨(some 13), .cint .i64 (.t 12), []⟩,
  .s ⟨(some 14), .mv (.t 5), []⟩,
  .s ⟨(some 15), .bin .shr (.t 13) (.t 14), []⟩,
  .s ⟨(some 4), .mv (.t 15), []⟩])
 .ret)))⟩
theorem s68 : slimF Try.prog Try.f68 = some a68.fn := by kernel_rfl
def a86 : XFun := ⟨3, [.t 2],
 (.seq (.reg [.s ⟨(some 2), .mv (.c (.int .i64 0)), []⟩])
 (.seq (.reg [.s ⟨(some 2), .mv (.c (.int .i64 0)), []⟩])
 .ret))⟩
theorem s86 : slimF Try.prog Try.f86 = some a86.fn := by kernel_rfl
def a88 : XFun := ⟨3, [.t 2],
 (.seq (.reg [.s ⟨(some 2), .mv (.c (.int .i64 0)), []⟩])
 (.seq (.reg [.s ⟨(some 2), .mv (.c (.int .i64 0)), []⟩])
 .ret))⟩
theorem s88 : slimF Try.prog Try.f88 = some a88.fn := by kernel_rfl
def a90 : XFun := ⟨3, [.t 2],
 (.seq (.reg [.s ⟨(some 2), .mv (.c (.int .i64 0)), []⟩])
 (.seq (.reg [.s ⟨(some 2), .mv (.c (.int .i64 0)), []⟩])
 .ret))⟩
theorem s90 : slimF Try.prog Try.f90 = some a90.fn := by kernel_rfl
def a92 : XFun := ⟨3, [.t 2],
 (.seq (.reg [.s ⟨(some 1), .box 98 (.t 0), []⟩,
  .s ⟨(some 2), .mv (.c (.int .i64 0)), []⟩])
 (.seq (.reg [.s ⟨(some 2), .mv (.c (.int .i64 1)), []⟩])
 .ret))⟩
theorem s92 : slimF Try.prog Try.f92 = some a92.fn := by kernel_rfl
def a94 : XFun := ⟨3, [.t 2],
 (.seq (.reg [.s ⟨(some 1), .box 99 (.t 0), []⟩,
  .s ⟨(some 2), .mv (.c (.int .i64 0)), []⟩])
 (.seq (.reg [.s ⟨(some 2), .mv (.c (.int .i64 2)), []⟩])
 .ret))⟩
theorem s94 : slimF Try.prog Try.f94 = some a94.fn := by kernel_rfl
def a96 : XFun := ⟨3, [.t 2],
 (.seq (.reg [.s ⟨(some 1), .box 100 (.t 0), []⟩,
  .s ⟨(some 2), .mv (.c (.int .i64 0)), []⟩])
 (.seq (.reg [.s ⟨(some 2), .mv (.c (.int .i64 1)), []⟩])
 .ret))⟩
theorem s96 : slimF Try.prog Try.f96 = some a96.fn := by kernel_rfl
end Go.Proofs.Ytjcehfjmmbbblaa
