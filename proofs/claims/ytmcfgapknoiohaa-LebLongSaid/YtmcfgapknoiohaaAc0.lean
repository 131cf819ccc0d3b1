import Derived.Test.YtmcfgapknoiohaaAb
import Derived.Test.YtmcfgapknoiohaaProg
import Derived.KernelRfl
namespace Go.Proofs.Ytmcfgapknoiohaa
open Go.Ab
set_option linter.unusedVariables false
set_option linter.unusedSimpArgs false

theorem hm : Try.prog.follows .mixedOrders = true := by kernel_rfl
/-! theodolite/theodolitelaw02.LebLong -/
def a7 : XFun := ⟨99, [.t 4],
 (.seq (.reg [.s ⟨(some 4), .mv (.c (.bool false)), []⟩])
 (.seq (.reg [.s ⟨(some 9), .mv (.t 0), []⟩,
  .s ⟨(some 10), .call 15 [(.c (.slice none 0 0)), (.t 9)], []⟩,
  .s ⟨(some 11), .lenL (.t 10), []⟩,
  .s ⟨(some 5), .mv (.t 11), []⟩])
 (.seq (.reg [.s ⟨(some 12), .mv (.t 1), []⟩,
  .s ⟨(some 13), .call 15 [(.c (.slice none 0 0)), (.t 12)], []⟩,
  .s ⟨(some 14), .lenL (.t 13), []⟩,
  .s ⟨(some 6), .mv (.t 14), []⟩])
 (.seq (.seq (.reg [.s ⟨(some 15), .mv (.t 0), []⟩,
  .s ⟨(some 16), .mv (.t 1), []⟩,
  .s ⟨(some 17), .bin .leq (.t 15) (.t 16), []⟩,
  .s ⟨(some 18), .mv (.t 17), []⟩,
  .g 18 true [⟨(some 19), .mv (.t 5), []⟩,
   ⟨(some 20), .mv (.t 6), []⟩,
   ⟨(some 21), .bin .gtr (.t 19) (.t 20), []⟩],
  .s ⟨(some 22), .pick (.t 18) (.t 21) (.c (.bool false)), []⟩,
  .s ⟨(some 23), .mv (.t 22), []⟩,
  .g 23 false [⟨(some 24), .mv (.t 0), []⟩,
   ⟨(some 25), .mv (.t 1), []⟩,
   ⟨(some 26), .bin .geq (.t 24) (.t 25), []⟩,
   ⟨(some 27), .mv (.t 26), []⟩],
  .g 27 true [⟨(some 28), .mv (.t 5), []⟩,
   ⟨(some 29), .mv (.t 6), []⟩,
   ⟨(some 30), .bin .lss (.t 28) (.t 29), []⟩],
  .g 23 false [⟨(some 31), .pick (.t 27) (.t 30) (.c (.bool false)), []⟩],
  .s ⟨(some 32), .pick (.t 23) (.c (.bool true)) (.t 31), []⟩,
  .s ⟨(some 33), .mv (.t 32), []⟩,
  .g 33 false [⟨(some 34), .mv (.t 5), []⟩,
   ⟨(some 35), .bin .lss (.t 34) (.c (.int .i64 1)), []⟩],
  .s ⟨(some 36), .pick (.t 33) (.c (.bool true)) (.t 35), []⟩,
  .s ⟨(some 37), .mv (.t 36), []⟩,
  .g 37 false [⟨(some 38), .mv (.t 5), []⟩,
   ⟨(some 39), .bin .gtr (.t 38) (.c (.int .i64 10)), []⟩],
  .s ⟨(some 40), .pick (.t 37) (.c (.bool true)) (.t 39), []⟩])
 (.cond (.t 40) (.seq (.reg [.s ⟨(some 4), .mv (.c (.bool false)), []⟩])
 .ret)
 .skip))
 (.seq (.seq (.reg [.s ⟨(some 41), .mv (.t 5), []⟩,
  .s ⟨(some 42), .bin .lss (.t 41) (.c (.int .i64 10)), []⟩,
  .s ⟨(some 43), .mv (.t 42), []⟩,
  .g 43 true [⟨(some 44), .mv (.t 0), []⟩,
   ⟨(some 45), .mv (.t 5), []⟩,
   ⟨(some 46), .bin .mul (.c (.int .i64 7)) (.t 45), []⟩,
   ⟨(some 47), .cint .u64 (.t 46), []⟩,
   ⟨(some 48), .bin .shr (.t 44) (.t 47), []⟩,
   ⟨(some 49), .bin .neq (.t 48) (.c (.int .u64 0)), []⟩],
  .s ⟨(some 50), .pick (.t 43) (.t 49) (.c (.bool false)), []⟩,
  .s ⟨(some 51), .mv (.t 50), []⟩,
  .g 51 false [⟨(some 52), .mv (.t 5), []⟩,
   ⟨(some 53), .bin .gtr (.t 52) (.c (.int .i64 1)), []⟩,
   ⟨(some 54), .mv (.t 53), []⟩],
  .g 54 true [⟨(some 55), .mv (.t 0), []⟩,
   ⟨(some 56), .mv (.t 5), []⟩,
   ⟨(some 57), .bin .mul (.c (.int .i64 7)) (.t 56), []⟩,
   ⟨(some 58), .bin .sub (.t 57) (.c (.int .i64 7)), []⟩,
   ⟨(some 59), .cint .u64 (.t 58), []⟩,
   ⟨(some 60), .bin .shr (.t 55) (.t 59), []⟩,
   ⟨(some 61), .bin .eql (.t 60) (.c (.int .u64 0)), []⟩],
  .g 51 false [⟨(some 62), .pick (.t 54) (.t 61) (.c (.bool false)), []⟩],
  .s ⟨(some 63), .pick (.t 51) (.c (.bool true)) (.t 62), []⟩])
 (.cond (.t 63) (.seq (.reg [.s ⟨(some 4), .mv (.c (.bool false)), []⟩])
 .ret)
 .skip))
 (.seq (.reg [.s ⟨(some 64), .mv (.t 0), []⟩,
  .s ⟨(some 65), .bin .shr (.t 64) (.c (.int .u64 1)), []⟩,
  .s ⟨(some 66), .cint .i64 (.t 65), []⟩,
  .s ⟨(some 67), .call 16 [(.c (.slice none 0 0)), (.t 66)], []⟩,
  .s ⟨(some 68), .lenL (.t 67), []⟩,
  .s ⟨(some 7), .mv (.t 68), []⟩])
 (.seq (.reg [.s ⟨(some 69), .mv (.t 0), []⟩,
  .s ⟨(some 70), .bin .shr (.t 69) (.c (.int .u64 1)), []⟩,
  .s ⟨(some 71), .cint .i64 (.t 70), []⟩,
  .s ⟨(some 72), .un .neg (.t 71), []⟩,
  .s ⟨(some 73), .bin .sub (.t 72) (.c (.int .i64 1)), []⟩,
  .s ⟨(some 74), .call 16 [(.c (.slice none 0 0)), (.t 73)], []⟩,
  .s ⟨(some 75), .lenL (.t 74), []⟩,
  .s ⟨(some 8), .mv (.t 75), []⟩])
 (.seq (.reg [.s ⟨(some 76), .mv (.t 7), []⟩,
  .s ⟨(some 77), .mv (.t 8), []⟩,
  .s ⟨(some 78), .bin .eql (.t 76) (.t 77), []⟩,
  .s ⟨(some 79), .mv (.t 78), []⟩,
  .g 79 true [⟨(some 80), .mv (.t 7), []⟩,
   ⟨(some 81), .mv (.t 0), []⟩,
   ⟨(some 82), .bin .shr (.t 81) (.c (.int .u64 1)), []⟩,
   ⟨(some 83), .call 15 [(.c (.slice none 0 0)), (.t 82)], []⟩,
   ⟨(some 84), .lenL (.t 83), []⟩,
   ⟨(some 85), .bin .geq (.t 80) (.t 84), []⟩],
  .s ⟨(some 86), .pick (.t 79) (.t 85) (.c (.bool false)), []⟩,
  .s ⟨(some 87), .mv (.t 86), []⟩,
  .g 87 true [⟨(some 88), .mv (.t 7), []⟩,
   ⟨(some 89), .mv (.t 0), []⟩,
   ⟨(some 90), .bin .shr (.t 89) (.c (.int .u64 1)), []⟩,
   ⟨(some 91), .call 15 [(.c (.slice none 0 0)), (.t 90)], []⟩,
   ⟨(some 92), .lenL (.t 91), []⟩,
   ⟨(some 93), .bin .add (.t 92) (.c (.int .i64 1)), []⟩,
   ⟨(some 94), .bin .leq (.t 88) (.t 93), []⟩],
  .s ⟨(some 95), .pick (.t 87) (.t 94) (.c (.bool false)), []⟩,
  .s ⟨(some 96), .mv (.t 95), []⟩,
  .g 96 true [⟨(some 97), .call 13 [], []⟩],
  .s ⟨(some 98), .pick (.t 96) (.t 97) (.c (.bool false)), []⟩,
  .s ⟨(some 4), .mv (.t 98), []⟩])
 .ret))))))))⟩
theorem s7 : slimF Try.prog Try.f7 = some a7.fn := by kernel_rfl
/-! theodolite/theodolitelaw02.works -/
def a13 : XFun := ⟨49, [.t 0],
 (.seq (.reg [.s ⟨(some 0), .mv (.c (.bool false)), []⟩])
 (.seq (.reg [.s ⟨(some 8), .call 15 [(.c (.slice none 0 0)), (.c (.int .u64 300))], []⟩,
  .s ⟨(some 9), .call 16 [(.t 8), (.c (.int .i64 (-65)))], []⟩,
  .s ⟨(some 1), .mv (.t 9), []⟩])
 (.seq (.reg [.s ⟨(some 11), .mv (.t 1), []⟩,
  .s ⟨(some 12), .call 22 [(.t 11), (.c (.int .i64 0))], []⟩,
  .s ⟨(some 10), .mv (.t 12), []⟩,
  .s ⟨(some 13), .ext 0 (.t 10), []⟩,
  .s ⟨(some 14), .ext 1 (.t 10), []⟩,
  .s ⟨(some 15), .ext 2 (.t 10), []⟩,
  .s ⟨(some 2), .mv (.t 13), []⟩,
  .s ⟨(some 3), .mv (.t 14), []⟩,
  .s ⟨(some 4), .mv (.t 15), []⟩])
 (.seq (.reg [.s ⟨(some 17), .mv (.t 1), []⟩,
  .s ⟨(some 18), .call 24 [(.t 17), (.c (.int .i64 2))], []⟩,
  .s ⟨(some 16), .mv (.t 18), []⟩,
  .s ⟨(some 19), .ext 0 (.t 16), []⟩,
  .s ⟨(some 20), .ext 1 (.t 16), []⟩,
  .s ⟨(some 21), .ext 2 (.t 16), []⟩,
  .s ⟨(some 5), .mv (.t 19), []⟩,
  .s ⟨(some 6), .mv (.t 20), []⟩,
  .s ⟨(some 7), .mv (.t 21), []⟩])
 (.seq (.reg [.s ⟨(some 22), .mv (.t 1), []⟩,
  .s ⟨(some 23), .lenL (.t 22), []⟩,
  .s ⟨(some 24), .bin .eql (.t 23) (.c (.int .i64 4)), []⟩,
  .s ⟨(some 25), .mv (.t 24), []⟩,
  .g 25 true [⟨(some 26), .mv (.t 2), []⟩,
   ⟨(some 27), .bin .eql (.t 26) (.c (.int .u64 300)), []⟩],
  .s ⟨(some 28), .pick (.t 25) (.t 27) (.c (.bool false)), []⟩,
  .s ⟨(some 29), .mv (.t 28), []⟩,
  .g 29 true [⟨(some 30), .mv (.t 3), []⟩,
   ⟨(some 31), .bin .eql (.t 30) (.c (.int .i64 2)), []⟩],
  .s ⟨(some 32), .pick (.t 29) (.t 31) (.c (.bool false)), []⟩,
  .s ⟨(some 33), .mv (.t 32), []⟩,
  .g 33 true [⟨(some 34), .mv (.t 4), []⟩,
   ⟨(some 35), .bin .eql (.t 34) (.c (.int .i64 0)), []⟩],
  .s ⟨(some 36), .pick (.t 33) (.t 35) (.c (.bool false)), []⟩,
  .s ⟨(some 37), .mv (.t 36), []⟩,
  .g 37 true [⟨(some 38), .mv (.t 5), []⟩,
   ⟨(some 39), .bin .eql (.t 38) (.c (.int .i64 (-65))), []⟩],
  .s ⟨(some 40), .pick (.t 37) (.t 39) (.c (.bool false)), []⟩,
  .s ⟨(some 41), .mv (.t 40), []⟩,
  .g 41 true [⟨(some 42), .mv (.t 6), []⟩,
   ⟨(some 43), .bin .eql (.t 42) (.c (.int .i64 4)), []⟩],
  .s ⟨(some 44), .pick (.t 41) (.t 43) (.c (.bool false)), []⟩,
  .s ⟨(some 45), .mv (.t 44), []⟩,
  .g 45 true [⟨(some 46), .mv (.t 7), []⟩,
   ⟨(some 47), .bin .eql (.t 46) (.c (.int .i64 0)), []⟩],
  .s ⟨(some 48), .pick (.t 45) (.t 47) (.c (.bool false)), []⟩,
  .s ⟨(some 0), .mv (.t 48), []⟩])
 .ret)))))⟩
theorem s13 : slimF Try.prog Try.f13 = some a13.fn := by kernel_rfl
/-! theodolite/leb.PutU -/
def a15 : XFun := ⟨23, [.t 4],
 (.seq (.reg [.s ⟨(some 4), .mv (.c (.slice none 0 0)), []⟩])
 (.seq (.reg [.s ⟨(some 6), .mv (.t 0), []⟩,
  .s ⟨(some 7), .call 45 [(.t 6)], []⟩,
  .s ⟨(some 5), .mv (.t 7), []⟩])
 (.seq (.block 0 (.loop (.seq (.seq (.reg [.s ⟨(some 8), .mv (.t 1), []⟩,
  .s ⟨(some 9), .bin .gtr (.t 8) (.c (.int .u64 127)), []⟩])
 (.cond (.t 9) .skip
 (.exit 0)))
 (.block 1 (.seq (.reg [.s ⟨(some 10), .mv (.t 5), []⟩,
  .s ⟨(some 11), .mv (.t 1), []⟩,
  .s ⟨(some 12), .cint .u8 (.t 11), []⟩,
  .s ⟨(some 13), .bin .or (.t 12) (.c (.int .u8 128)), []⟩,
  .s ⟨(some 14), .bslice 5 1 [(.int .u8 0)] [(0, 1, (.t 13))], []⟩,
  .s ⟨(some 15), .app 5 1 1 (.t 10) (.t 14), []⟩,
  .s ⟨(some 5), .mv (.t 15), []⟩])
 (.reg [.s ⟨(some 16), .mv (.t 1), []⟩,
  .s ⟨(some 17), .bin .shr (.t 16) (.c (.int .u64 7)), []⟩,
  .s ⟨(some 1), .mv (.t 17), []⟩]))))))
 (.seq (.reg [.s ⟨(some 18), .mv (.t 5), []⟩,
  .s ⟨(some 19), .mv (.t 1), []⟩,
  .s ⟨(some 20), .cint .u8 (.t 19), []⟩,
  .s ⟨(some 21), .bslice 5 1 [(.int .u8 0)] [(0, 1, (.t 20))], []⟩,
  .s ⟨(some 22), .app 5 1 1 (.t 18) (.t 21), []⟩,
  .s ⟨(some 4), .mv (.t 22), []⟩])
 .ret))))⟩
theorem s15 : slimF Try.prog Try.f15 = some a15.fn := by kernel_rfl
/-! theodolite/leb.PutS -/
def a16 : XFun := ⟨28, [.t 4],
 (.seq (.reg [.s ⟨(some 4), .mv (.c (.slice none 0 0)), []⟩])
 (.seq (.reg [.s ⟨(some 6), .mv (.t 0), []⟩,
  .s ⟨(some 7), .call 45 [(.t 6)], []⟩,
  .s ⟨(some 5), .mv (.t 7), []⟩])
 (.seq (.block 0 (.loop (.seq (.seq (.reg [.s ⟨(some 8), .mv (.t 1), []⟩,
  .s ⟨(some 9), .bin .gtr (.t 8) (.c (.int .i64 63)), []⟩,
  .s ⟨(some 10), .mv (.t 9), []⟩,
  .g 10 false [⟨(some 11), .mv (.t 1), []⟩,
   ⟨(some 12), .bin .lss (.t 11) (.c (.int .i64 (-64))), []⟩],
  .s ⟨(some 13), .pick (.t 10) (.c (.bool true)) (.t 12), []⟩])
 (.cond (.t 13) .skip
 (.exit 0)))
 (.block 1 (.seq (.reg [.s ⟨(some 14), .mv (.t 5), []⟩,
  .s ⟨(some 15), .mv (.t 1), []⟩,
  .s ⟨(some 16), .cint .u8 (.t 15), []⟩,
  .s ⟨(some 17), .bin .or (.t 16) (.c (.int .u8 128)), []⟩,
  .s ⟨(some 18), .bslice 5 1 [(.int .u8 0)] [(0, 1, (.t 17))], []⟩,
  .s ⟨(some 19), .app 5 1 1 (.t 14) (.t 18), []⟩,
  .s ⟨(some 5), .mv (.t 19), []⟩])
 (.reg [.s ⟨(some 20), .mv (.t 1), []⟩,
  .s ⟨(some 21), .bin .shr (.t 20) (.c (.int .u64 7)), []⟩,
  .s ⟨(some 1), .mv (.t 21), []⟩]))))))
 (.seq (.reg [.s ⟨(some 22), .mv (.t 5), []⟩,
  .s ⟨(some 23), .mv (.t 1), []⟩,
  .s ⟨(some 24), .cint .u8 (.t 23), []⟩,
  .s ⟨(some 25), .bin .and (.t 24) (.c (.int .u8 127)), []⟩,
  .s ⟨(some 26), .bslice 5 1 [(.int .u8 0)] [(0, 1, (.t 25))], []⟩,
  .s ⟨(some 27), .app 5 1 1 (.t 22) (.t 26), []⟩,
  .s ⟨(some 4), .mv (.t 27), []⟩])
 .ret))))⟩
theorem s16 : slimF Try.prog Try.f16 = some a16.fn := by kernel_rfl
/-! theodolite/leb.U -/
def a22 : XFun := ⟨13, [.t 4, .t 5, .t 6],
 (.seq (.reg [.s ⟨(some 4), .mv (.c (.int .u64 0)), []⟩,
  .s ⟨(some 5), .mv (.c (.int .i64 0)), []⟩,
  .s ⟨(some 6), .mv (.c (.int .i64 0)), []⟩])
 (.seq (.reg [.s ⟨(some 7), .mv (.t 0), []⟩,
  .s ⟨(some 8), .mv (.t 1), []⟩,
  .s ⟨(some 9), .call 50 [(.t 7), (.t 8), (.fn 51), (.fn 15)], []⟩,
  .s ⟨(some 10), .ext 0 (.t 9), []⟩,
  .s ⟨(some 11), .ext 1 (.t 9), []⟩,
  .s ⟨(some 12), .ext 2 (.t 9), []⟩,
  .s ⟨(some 4), .mv (.t 10), []⟩,
  .s ⟨(some 5), .mv (.t 11), []⟩,
  .s ⟨(some 6), .mv (.t 12), []⟩])
 .ret))⟩
theorem s22 : slimF Try.prog Try.f22 = some a22.fn := by kernel_rfl
/-! theodolite/leb.S -/
def a24 : XFun := ⟨13, [.t 4, .t 5, .t 6],
 (.seq (.reg [.s ⟨(some 4), .mv (.c (.int .i64 0)), []⟩,
  .s ⟨(some 5), .mv (.c (.int .i64 0)), []⟩,
  .s ⟨(some 6), .mv (.c (.int .i64 0)), []⟩])
 (.seq (.reg [.s ⟨(some 7), .mv (.t 0), []⟩,
  .s ⟨(some 8), .mv (.t 1), []⟩,
  .s ⟨(some 9), .call 55 [(.t 7), (.t 8), (.fn 56), (.fn 16)], []⟩,
  .s ⟨(some 10), .ext 0 (.t 9), []⟩,
  .s ⟨(some 11), .ext 1 (.t 9), []⟩,
  .s ⟨(some 12), .ext 2 (.t 9), []⟩,
  .s ⟨(some 4), .mv (.t 10), []⟩,
  .s ⟨(some 5), .mv (.t 11), []⟩,
  .s ⟨(some 6), .mv (.t 12), []⟩])
 .ret))⟩
theorem s24 : slimF Try.prog Try.f24 = some a24.fn := by kernel_rfl
/-! slices.Clone[[]byte,byte] -/
def a45 : XFun := ⟨8, [.t 2],
 (.seq (.reg [.s ⟨(some 2), .mv (.c (.slice none 0 0)), []⟩])
 (.seq (.seq (.reg [.s ⟨(some 3), .mv (.t 0), []⟩,
  .s ⟨(some 4), .snil false (.t 3), []⟩])
 (.cond (.t 4) (.seq (.reg [.s ⟨(some 2), .mv (.c (.slice none 0 0)), []⟩])
 .ret)
 .skip))
 (.seq (.reg [.s ⟨(some 5), .bslice 5 0 [] [], []⟩,
  .s ⟨(some 6), .mv (.t 0), []⟩,
  .s ⟨(some 7), .app 5 1 1 (.t 5) (.t 6), []⟩,
  .s ⟨(some 2), .mv (.t 7), []⟩])
 .ret)))⟩
theorem s45 : slimF Try.prog Try.f45 = some a45.fn := by kernel_rfl
/-! theodolite/leb.read[uint64] -/
def a50 : XFun := ⟨52, [.t 8, .t 9, .t 10],
 (.seq (.reg [.s ⟨(some 8), .mv (.c (.int .u64 0)), []⟩,
  .s ⟨(some 9), .mv (.c (.int .i64 0)), []⟩,
  .s ⟨(some 10), .mv (.c (.int .i64 0)), []⟩])
 (.seq (.seq (.reg [.s ⟨(some 14), .mv (.t 1), []⟩,
  .s ⟨(some 15), .bin .lss (.t 14) (.c (.int .i64 0)), []⟩,
  .s ⟨(some 16), .mv (.t 15), []⟩,
  .g 16 false [⟨(some 17), .mv (.t 1), []⟩,
   ⟨(some 18), .mv (.t 0), []⟩,
   ⟨(some 19), .lenL (.t 18), []⟩,
   ⟨(some 20), .bin .gtr (.t 17) (.t 19), []⟩],
  .s ⟨(some 21), .pick (.t 16) (.c (.bool true)) (.t 20), []⟩])
 (.cond (.t 21) (.seq (.reg [.s ⟨(some 8), .mv (.c (.int .u64 0)), []⟩,
  .s ⟨(some 9), .mv (.c (.int .i64 0)), []⟩,
  .s ⟨(some 10), .mv (.c (.int .i64 1)), []⟩])
 .ret)
 .skip))
 (.seq (.reg [.s ⟨(some 23), .mv (.t 0), []⟩,
  .s ⟨(some 24), .mv (.t 1), []⟩,
  .s ⟨(some 25), .slc 1 (.t 23) (some (.t 24)) none none, []⟩,
  .s ⟨(some 26), .call 60 [(.t 25)], []⟩,
  .s ⟨(some 22), .mv (.t 26), []⟩,
  .s ⟨(some 27), .ext 0 (.t 22), []⟩,
  .s ⟨(some 28), .ext 1 (.t 22), []⟩,
  .s ⟨(some 11), .mv (.t 27), []⟩,
  .s ⟨(some 12), .mv (.t 28), []⟩])
 (.seq (.reg [.s ⟨(some 29), .mv (.t 2), []⟩,
  .s ⟨(some 30), .mv (.t 11), []⟩,
  .s ⟨(some 31), .mv (.t 12), []⟩,
  .s ⟨(some 32), .callv (.t 29) [(.t 30), (.t 31)], []⟩,
  .s ⟨(some 13), .mv (.t 32), []⟩])
 (.seq (.seq (.par [.s ⟨(some 33), .mv (.t 12), []⟩,
  .s ⟨(some 34), .bin .eql (.t 33) (.c (.int .i64 0)), []⟩,
  .s ⟨(some 35), .mv (.t 34), []⟩,
  .g 35 false [⟨(some 36), .mv (.t 3), []⟩,
   ⟨(some 37), .mv (.t 13), []⟩,
   ⟨(some 39), .mv (.t 0), []⟩,
   ⟨(some 40), .mv (.t 1), []⟩,
   ⟨(some 41), .mv (.t 1), []⟩,
   ⟨(some 42), .mv (.t 12), []⟩,
   ⟨(some 43), .bin .add (.t 41) (.t 42), []⟩,
   ⟨(some 44), .slc 1 (.t 39) (some (.t 40)) (some (.t 43)) none, []⟩,
   ⟨(some 38), .callv (.t 36) [(.c (.slice none 0 0)), (.t 37)], []⟩,
   ⟨(some 45), .call 61 [(.t 38), (.t 44)], []⟩,
   ⟨(some 46), .un .not (.t 45), []⟩],
  .s ⟨(some 47), .pick (.t 35) (.c (.bool true)) (.t 46), []⟩])
 (.cond (.t 47) (.seq (.reg [.s ⟨(some 8), .mv (.c (.int .u64 0)), []⟩,
  .s ⟨(some 9), .mv (.c (.int .i64 0)), []⟩,
  .s ⟨(some 10), .mv (.c (.int .i64 5)), []⟩])
 .ret)
 .skip))
 (.seq (.reg [.s ⟨(some 48), .mv (.t 13), []⟩,
  .s ⟨(some 49), .mv (.t 1), []⟩,
  .s ⟨(some 50), .mv (.t 12), []⟩,
  .s ⟨(some 51), .bin .add (.t 49) (.t 50), []⟩,
  .s ⟨(some 8), .mv (.t 48), []⟩,
  .s ⟨(some 9), .mv (.t 51), []⟩,
  .s ⟨(some 10), .mv (.c (.int .i64 0)), []⟩])
 .ret))))))⟩
theorem s50 : slimF Try.prog Try.f50 = some a50.fn := by kernel_rfl
/-! theodolite/leb.U$1 -/
def a51 : XFun := ⟨6, [.t 4],
 (.seq (.reg [.s ⟨(some 4), .mv (.c (.int .u64 0)), []⟩])
 (.seq (.reg [.s ⟨(some 5), .mv (.t 0), []⟩,
  .s ⟨(some 4), .mv (.t 5), []⟩])
 .ret))⟩
theorem s51 : slimF Try.prog Try.f51 = some a51.fn := by kernel_rfl
/-! theodolite/leb.read[int64] -/
def a55 : XFun := ⟨52, [.t 8, .t 9, .t 10],
 (.seq (.reg [.s ⟨(some 8), .mv (.c (.int .i64 0)), []⟩,
  .s ⟨(some 9), .mv (.c (.int .i64 0)), []⟩,
  .s ⟨(some 10), .mv (.c (.int .i64 0)), []⟩])
 (.seq (.seq (.reg [.s ⟨(some 14), .mv (.t 1), []⟩,
  .s ⟨(some 15), .bin .lss (.t 14) (.c (.int .i64 0)), []⟩,
  .s ⟨(some 16), .mv (.t 15), []⟩,
  .g 16 false [⟨(some 17), .mv (.t 1), []⟩,
   ⟨(some 18), .mv (.t 0), []⟩,
   ⟨(some 19), .lenL (.t 18), []⟩,
   ⟨(some 20), .bin .gtr (.t 17) (.t 19), []⟩],
  .s ⟨(some 21), .pick (.t 16) (.c (.bool true)) (.t 20), []⟩])
 (.cond (.t 21) (.seq (.reg [.s ⟨(some 8), .mv (.c (.int .i64 0)), []⟩,
  .s ⟨(some 9), .mv (.c (.int .i64 0)), []⟩,
  .s ⟨(some 10), .mv (.c (.int .i64 1)), []⟩])
 .ret)
 .skip))
 (.seq (.reg [.s ⟨(some 23), .mv (.t 0), []⟩,
  .s ⟨(some 24), .mv (.t 1), []⟩,
  .s ⟨(some 25), .slc 1 (.t 23) (some (.t 24)) none none, []⟩,
  .s ⟨(some 26), .call 60 [(.t 25)], []⟩,
  .s ⟨(some 22), .mv (.t 26), []⟩,
  .s ⟨(some 27), .ext 0 (.t 22), []⟩,
  .s ⟨(some 28), .ext 1 (.t 22), []⟩,
  .s ⟨(some 11), .mv (.t 27), []⟩,
  .s ⟨(some 12), .mv (.t 28), []⟩])
 (.seq (.reg [.s ⟨(some 29), .mv (.t 2), []⟩,
  .s ⟨(some 30), .mv (.t 11), []⟩,
  .s ⟨(some 31), .mv (.t 12), []⟩,
  .s ⟨(some 32), .callv (.t 29) [(.t 30), (.t 31)], []⟩,
  .s ⟨(some 13), .mv (.t 32), []⟩])
 (.seq (.seq (.par [.s ⟨(some 33), .mv (.t 12), []⟩,
  .s ⟨(some 34), .bin .eql (.t 33) (.c (.int .i64 0)), []⟩,
  .s ⟨(some 35), .mv (.t 34), []⟩,
  .g 35 false [⟨(some 36), .mv (.t 3), []⟩,
   ⟨(some 37), .mv (.t 13), []⟩,
   ⟨(some 39), .mv (.t 0), []⟩,
   ⟨(some 40), .mv (.t 1), []⟩,
   ⟨(some 41), .mv (.t 1), []⟩,
   ⟨(some 42), .mv (.t 12), []⟩,
   ⟨(some 43), .bin .add (.t 41) (.t 42), []⟩,
   ⟨(some 44), .slc 1 (.t 39) (some (.t 40)) (some (.t 43)) none, []⟩,
   ⟨(some 38), .callv (.t 36) [(.c (.slice none 0 0)), (.t 37)], []⟩,
   ⟨(some 45), .call 61 [(.t 38), (.t 44)], []⟩,
   ⟨(some 46), .un .not (.t 45), []⟩],
  .s ⟨(some 47), .pick (.t 35) (.c (.bool true)) (.t 46), []⟩])
 (.cond (.t 47) (.seq (.reg [.s ⟨(some 8), .mv (.c (.int .i64 0)), []⟩,
  .s ⟨(some 9), .mv (.c (.int .i64 0)), []⟩,
  .s ⟨(some 10), .mv (.c (.int .i64 5)), []⟩])
 .ret)
 .skip))
 (.seq (.reg [.s ⟨(some 48), .mv (.t 13), []⟩,
  .s ⟨(some 49), .mv (.t 1), []⟩,
  .s ⟨(some 50), .mv (.t 12), []⟩,
  .s ⟨(some 51), .bin .add (.t 49) (.t 50), []⟩,
  .s ⟨(some 8), .mv (.t 48), []⟩,
  .s ⟨(some 9), .mv (.t 51), []⟩,
  .s ⟨(some 10), .mv (.c (.int .i64 0)), []⟩])
 .ret))))))⟩
theorem s55 : slimF Try.prog Try.f55 = some a55.fn := by kernel_rfl
/-! theodolite/leb.S$1 -/
def a56 : XFun := ⟨16, [.t 4],
 (.seq (.reg [.s ⟨(some 4), .mv (.c (.int .i64 0)), []⟩])
 (.seq (.reg [.s ⟨(some 6), .mv (.t 1), []⟩,
  .s ⟨(some 7), .bin .mul (.c (.int .i64 7)) (.t 6), []⟩,
  .s ⟨(some 8), .bin .sub (.c (.int .i64 64)) (.t 7), []⟩,
  .s ⟨(some 9), .minmax true (.c (.int .i64 0)) [(.t 8)], []⟩,
  .s ⟨(some 5), .mv (.t 9), []⟩])
 (.seq (.reg [.s ⟨(some 10), .mv (.t 0), []⟩,
  .s ⟨(some 11), .mv (.t 5), []⟩,
  .s ⟨(some 12), .bin .shl (.t 10) (.t 11), []⟩,
  .s ⟨(some 13), .cint .i64 (.t 12), []⟩,
  .s ⟨(some 14), .mv (.t 5), []⟩,
  .s ⟨(some 15), .bin .shr (.t 13) (.t 14), []⟩,
  .s ⟨(some 4), .mv (.t 15), []⟩])
 .ret)))⟩
theorem s56 : slimF Try.prog Try.f56 = some a56.fn := by kernel_rfl
/-! theodolite/leb.digits -/
def a60 : XFun := ⟨31, [.t 2, .t 3],
 (.seq (.reg [.s ⟨(some 2), .mv (.c (.int .u64 0)), []⟩,
  .s ⟨(some 3), .mv (.c (.int .i64 0)), []⟩])
 (.seq (.seq (.reg [.s ⟨(some 5), .mv (.t 0), []⟩,
  .s ⟨(some 6), .lenL (.t 5), []⟩,
  .s ⟨(some 7), .minmax false (.t 6) [(.c (.int .i64 10))], []⟩,
  .s ⟨(some 8), .mv (.c (.int .i64 0)), []⟩])
 (.block 0 (.loop (.seq (.reg [.s ⟨(some 9), .bin .lss (.t 8) (.t 7), []⟩])
 (.seq (.cond (.t 9) .skip
 (.exit 0))
 (.seq (.block 1 (.seq (.reg [.s ⟨(some 10), .mv (.t 8), []⟩,
  .s ⟨(some 4), .mv (.t 10), []⟩])
 (.seq (.reg [.s ⟨(some 11), .mv (.t 2), []⟩,
  .s ⟨(some 12), .mv (.t 0), []⟩,
  .s ⟨(some 13), .mv (.t 4), []⟩,
  .s ⟨(some 14), .idx 1 (.t 12) (.t 13), []⟩,
  .s ⟨(some 15), .load false 1 (.t 14), []⟩,
  .s ⟨(some 16), .bin .and (.t 15) (.c (.int .u8 127)), []⟩,
  .s ⟨(some 17), .cint .u64 (.t 16), []⟩,
  .s ⟨(some 18), .mv (.t 4), []⟩,
  .s ⟨(some 19), .bin .mul (.c (.int .i64 7)) (.t 18), []⟩,
  .s ⟨(some 20), .bin .shl (.t 17) (.t 19), []⟩,
  .s ⟨(some 21), .bin .or (.t 11) (.t 20), []⟩,
  .s ⟨(some 2), .mv (.t 21), []⟩])
 (.seq (.reg [.s ⟨(some 22), .mv (.t 0), []⟩,
  .s ⟨(some 23), .mv (.t 4), []⟩,
  .s ⟨(some 24), .idx 1 (.t 22) (.t 23), []⟩,
  .s ⟨(some 25), .load false 1 (.t 24), []⟩,
  .s ⟨(some 26), .bin .lss (.t 25) (.c (.int .u8 128)), []⟩])
 (.cond (.t 26) (.seq (.reg [.s ⟨(some 27), .mv (.t 2), []⟩,
  .s ⟨(some 28), .mv (.t 4), []⟩,
  .s ⟨(some 29), .bin .add (.t 28) (.c (.int .i64 1)), []⟩,
  .s ⟨(some 2), .mv (.t 27), []⟩,
  .s ⟨(some 3), .mv (.t 29), []⟩])
 .ret)
 .skip)))))
 (.reg [.s ⟨(some 30), .bin .add (.t 8) (.c (.int .i64 1)), []⟩,
  .s ⟨(some 8), .mv (.t 30), []⟩])))))))
 (.seq (.reg [.s ⟨(some 2), .mv (.c (.int .u64 0)), []⟩,
  .s ⟨(some 3), .mv (.c (.int .i64 0)), []⟩])
 .ret)))⟩
theorem s60 : slimF Try.prog Try.f60 = some a60.fn := by kernel_rfl
/-! slices.Equal[[]byte,byte] -/
def a61 : XFun := ⟨26, [.t 4],
 (.seq (.reg [.s ⟨(some 4), .mv (.c (.bool false)), []⟩])
 (.seq (.seq (.reg [.s ⟨(some 6), .mv (.t 0), []⟩,
  .s ⟨(some 7), .lenL (.t 6), []⟩,
  .s ⟨(some 8), .mv (.t 1), []⟩,
  .s ⟨(some 9), .lenL (.t 8), []⟩,
  .s ⟨(some 10), .bin .neq (.t 7) (.t 9), []⟩])
 (.cond (.t 10) (.seq (.reg [.s ⟨(some 4), .mv (.c (.bool false)), []⟩])
 .ret)
 .skip))
 (.seq (.seq (.reg [.s ⟨(some 11), .mv (.t 0), []⟩,
  .s ⟨(some 12), .lenL (.t 11), []⟩,
  .s ⟨(some 13), .mv (.c (.int .i64 0)), []⟩])
 (.block 0 (.loop (.seq (.reg [.s ⟨(some 14), .bin .lss (.t 13) (.t 12), []⟩])
 (.seq (.cond (.t 14) .skip
 (.exit 0))
 (.seq (.block 1 (.seq (.reg [.s ⟨(some 15), .mv (.t 13), []⟩,
  .s ⟨(some 5), .mv (.t 15), []⟩])
 (.seq (.par [.s ⟨(some 16), .mv (.t 0), []⟩,
  .s ⟨(some 17), .mv (.t 5), []⟩,
  .s ⟨(some 18), .idx 1 (.t 16) (.t 17), []⟩,
  .s ⟨(some 19), .load false 1 (.t 18), []⟩,
  .s ⟨(some 20), .mv (.t 1), []⟩,
  .s ⟨(some 21), .mv (.t 5), []⟩,
  .s ⟨(some 22), .idx 1 (.t 20) (.t 21), []⟩,
  .s ⟨(some 23), .load false 1 (.t 22), []⟩,
  .s ⟨(some 24), .bin .neq (.t 19) (.t 23), []⟩])
 (.cond (.t 24) (.seq (.reg [.s ⟨(some 4), .mv (.c (.bool false)), []⟩])
 .ret)
 .skip))))
 (.reg [.s ⟨(some 25), .bin .add (.t 13) (.c (.int .i64 1)), []⟩,
  .s ⟨(some 13), .mv (.t 25), []⟩])))))))
 (.seq (.reg [.s ⟨(some 4), .mv (.c (.bool true)), []⟩])
 .ret))))⟩
theorem s61 : slimF Try.prog Try.f61 = some a61.fn := by kernel_rfl
end Go.Proofs.Ytmcfgapknoiohaa
