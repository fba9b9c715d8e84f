/-
  The sizes of the program's types, for the plain machine (printed by a program).
-/
import Derived.Test.YtlhbdhdaecchoaaPm9
import Derived.Test.YtlhbdhdaecchoaaChecked
set_option linter.unusedSimpArgs false
namespace Go.Proofs.Ytlhbdhdaecchoaa
open Go.RowKit
theorem kt2 : kindT Try.prog 2 = some .one := by kernel_rfl
theorem zt2 : sizeT Try.prog 2 = some 1 := by kernel_rfl
theorem ot2 : zeroT Try.prog 2 = some [.lit (.int .i64 0)] := by kernel_rfl
theorem kt3 : kindT Try.prog 3 = some .one := by kernel_rfl
theorem zt3 : sizeT Try.prog 3 = some 1 := by kernel_rfl
theorem ot3 : zeroT Try.prog 3 = some [.lit (.int .i64 0)] := by kernel_rfl
theorem kt4 : kindT Try.prog 4 = some .one := by kernel_rfl
theorem zt4 : sizeT Try.prog 4 = some 1 := by kernel_rfl
theorem ot4 : zeroT Try.prog 4 = some [.lit (.bool false)] := by kernel_rfl
theorem ut4 : Try.prog.underlying 4 = some .bool := by kernel_rfl
theorem kt5 : kindT Try.prog 5 = some .one := by kernel_rfl
theorem zt5 : sizeT Try.prog 5 = some 1 := by kernel_rfl
theorem ot5 : zeroT Try.prog 5 = some [.lit (.int .u8 0)] := by kernel_rfl
theorem kt9 : kindT Try.prog 9 = some .one := by kernel_rfl
theorem zt9 : sizeT Try.prog 9 = some 1 := by kernel_rfl
theorem ot9 : zeroT Try.prog 9 = some [.lit (.string ByteArray.empty)] := by kernel_rfl
theorem lt9 : lenT Try.prog #[9] = some false := by kernel_rfl
theorem ut9 : Try.prog.underlying 9 = some .string := by kernel_rfl
theorem kt22 : kindT Try.prog 22 = some .one := by kernel_rfl
theorem zt22 : sizeT Try.prog 22 = some 1 := by kernel_rfl
theorem ot22 : zeroT Try.prog 22 = some [.sl []] := by kernel_rfl
theorem et22 : elemT Try.prog 22 = some 1 := by kernel_rfl
theorem lt22 : lenT Try.prog #[22] = some true := by kernel_rfl
theorem kt23 : kindT Try.prog 23 = some .one := by kernel_rfl
theorem zt23 : sizeT Try.prog 23 = some 1 := by kernel_rfl
theorem ot23 : zeroT Try.prog 23 = some [.sl []] := by kernel_rfl
theorem et23 : elemT Try.prog 23 = some 2 := by kernel_rfl
theorem lt23 : lenT Try.prog #[23] = some true := by kernel_rfl
theorem kt25 : kindT Try.prog 25 = some (.agg 2) := by kernel_rfl
theorem zt25 : sizeT Try.prog 25 = some 2 := by kernel_rfl
theorem ot25 : zeroT Try.prog 25 = some [.sl [], .sl []] := by kernel_rfl
theorem ft25_0 : offT Try.prog 25 0 = some (0, 22) := by kernel_rfl
theorem ft25_1 : offT Try.prog 25 1 = some (1, 23) := by kernel_rfl
theorem kt26 : kindT Try.prog 26 = some .one := by kernel_rfl
theorem zt26 : sizeT Try.prog 26 = some 1 := by kernel_rfl
theorem ot26 : zeroT Try.prog 26 = some [.sl []] := by kernel_rfl
theorem et26 : elemT Try.prog 26 = some 5 := by kernel_rfl
theorem lt26 : lenT Try.prog #[26] = some true := by kernel_rfl
theorem kt28 : kindT Try.prog 28 = some (.agg 3) := by kernel_rfl
theorem zt28 : sizeT Try.prog 28 = some 3 := by kernel_rfl
theorem ot28 : zeroT Try.prog 28 = some [.sl [], .sl [], .sl []] := by kernel_rfl
theorem ft28_0 : offT Try.prog 28 0 = some (0, 25) := by kernel_rfl
theorem ft28_1 : offT Try.prog 28 1 = some (2, 26) := by kernel_rfl
theorem kt29 : kindT Try.prog 29 = some .one := by kernel_rfl
theorem zt29 : sizeT Try.prog 29 = some 1 := by kernel_rfl
theorem ot29 : zeroT Try.prog 29 = some [.sl []] := by kernel_rfl
theorem et29 : elemT Try.prog 29 = some 1 := by kernel_rfl
theorem lt29 : lenT Try.prog #[29] = some true := by kernel_rfl
theorem kt31 : kindT Try.prog 31 = some (.agg 2) := by kernel_rfl
theorem zt31 : sizeT Try.prog 31 = some 2 := by kernel_rfl
theorem ot31 : zeroT Try.prog 31 = some [.lit (.int .i64 0), .sl []] := by kernel_rfl
theorem ft31_0 : offT Try.prog 31 0 = some (0, 3) := by kernel_rfl
theorem ft31_1 : offT Try.prog 31 1 = some (1, 29) := by kernel_rfl
theorem kt35 : kindT Try.prog 35 = some .one := by kernel_rfl
theorem zt35 : sizeT Try.prog 35 = some 1 := by kernel_rfl
theorem ot35 : zeroT Try.prog 35 = some [.sl []] := by kernel_rfl
theorem et35 : elemT Try.prog 35 = some 2 := by kernel_rfl
theorem lt35 : lenT Try.prog #[35] = some true := by kernel_rfl
theorem kt37 : kindT Try.prog 37 = some (.agg 2) := by kernel_rfl
theorem zt37 : sizeT Try.prog 37 = some 2 := by kernel_rfl
theorem ot37 : zeroT Try.prog 37 = some [.sl [], .sl []] := by kernel_rfl
theorem ft37_0 : offT Try.prog 37 0 = some (0, 22) := by kernel_rfl
theorem ft37_1 : offT Try.prog 37 1 = some (1, 35) := by kernel_rfl
theorem kt38 : kindT Try.prog 38 = some .one := by kernel_rfl
theorem zt38 : sizeT Try.prog 38 = some 1 := by kernel_rfl
theorem ot38 : zeroT Try.prog 38 = some [.sl []] := by kernel_rfl
theorem et38 : elemT Try.prog 38 = some 5 := by kernel_rfl
theorem lt38 : lenT Try.prog #[38] = some true := by kernel_rfl
theorem kt40 : kindT Try.prog 40 = some (.agg 3) := by kernel_rfl
theorem zt40 : sizeT Try.prog 40 = some 3 := by kernel_rfl
theorem ot40 : zeroT Try.prog 40 = some [.sl [], .sl [], .sl []] := by kernel_rfl
theorem ft40_0 : offT Try.prog 40 0 = some (0, 37) := by kernel_rfl
theorem ft40_1 : offT Try.prog 40 1 = some (2, 38) := by kernel_rfl
theorem kt42 : kindT Try.prog 42 = some (.agg 2) := by kernel_rfl
theorem zt42 : sizeT Try.prog 42 = some 2 := by kernel_rfl
theorem ot42 : zeroT Try.prog 42 = some [.lit (.int .i64 0), .sl []] := by kernel_rfl
theorem ft42_0 : offT Try.prog 42 0 = some (0, 3) := by kernel_rfl
theorem ft42_1 : offT Try.prog 42 1 = some (1, 29) := by kernel_rfl
theorem kt47 : kindT Try.prog 47 = some .one := by kernel_rfl
theorem zt47 : sizeT Try.prog 47 = some 1 := by kernel_rfl
theorem ot47 : zeroT Try.prog 47 = some [.sl []] := by kernel_rfl
theorem et47 : elemT Try.prog 47 = some 2 := by kernel_rfl
theorem lt47 : lenT Try.prog #[47] = some true := by kernel_rfl
theorem kt50 : kindT Try.prog 50 = some .one := by kernel_rfl
theorem zt50 : sizeT Try.prog 50 = some 1 := by kernel_rfl
theorem ot50 : zeroT Try.prog 50 = some [.sl []] := by kernel_rfl
theorem et50 : elemT Try.prog 50 = some 2 := by kernel_rfl
theorem lt50 : lenT Try.prog #[50] = some true := by kernel_rfl
theorem kt59 : kindT Try.prog 59 = some .one := by kernel_rfl
theorem zt59 : sizeT Try.prog 59 = some 1 := by kernel_rfl
theorem ot59 : zeroT Try.prog 59 = some [.sl []] := by kernel_rfl
theorem et59 : elemT Try.prog 59 = some 1 := by kernel_rfl
theorem lt59 : lenT Try.prog #[59] = some true := by kernel_rfl
theorem kt62 : kindT Try.prog 62 = some .one := by kernel_rfl
theorem zt62 : sizeT Try.prog 62 = some 1 := by kernel_rfl
theorem ot62 : zeroT Try.prog 62 = some [.sl []] := by kernel_rfl
theorem et62 : elemT Try.prog 62 = some 2 := by kernel_rfl
theorem lt62 : lenT Try.prog #[62] = some true := by kernel_rfl
theorem kt64 : kindT Try.prog 64 = some (.agg 5) := by kernel_rfl
theorem zt64 : sizeT Try.prog 64 = some 5 := by kernel_rfl
theorem ot64 : zeroT Try.prog 64 = some [.lit (.string ByteArray.empty), .sl [], .lit (.bool false), .lit (.bool false), .lit (.int .i64 0)] := by kernel_rfl
theorem ft64_0 : offT Try.prog 64 0 = some (0, 9) := by kernel_rfl
theorem ft64_1 : offT Try.prog 64 1 = some (1, 62) := by kernel_rfl
theorem ft64_2 : offT Try.prog 64 2 = some (2, 4) := by kernel_rfl
theorem ft64_3 : offT Try.prog 64 3 = some (3, 4) := by kernel_rfl
theorem ft64_4 : offT Try.prog 64 4 = some (4, 3) := by kernel_rfl
theorem kt69 : kindT Try.prog 69 = some (.agg 2) := by kernel_rfl
theorem zt69 : sizeT Try.prog 69 = some 2 := by kernel_rfl
theorem ot69 : zeroT Try.prog 69 = some [.sl [], .lit (.int .i64 0)] := by kernel_rfl
theorem ft69_0 : offT Try.prog 69 0 = some (0, 59) := by kernel_rfl
theorem ft69_1 : offT Try.prog 69 1 = some (1, 3) := by kernel_rfl
theorem kt75 : kindT Try.prog 75 = some (.agg 2) := by kernel_rfl
theorem zt75 : sizeT Try.prog 75 = some 2 := by kernel_rfl
theorem ot75 : zeroT Try.prog 75 = some [.lit (.int .i64 0), .sl []] := by kernel_rfl
theorem ft75_0 : offT Try.prog 75 0 = some (0, 3) := by kernel_rfl
theorem ft75_1 : offT Try.prog 75 1 = some (1, 59) := by kernel_rfl
theorem kt76 : kindT Try.prog 76 = some (.agg 2) := by kernel_rfl
theorem zt76 : sizeT Try.prog 76 = some 2 := by kernel_rfl
theorem ot76 : zeroT Try.prog 76 = some [.lit (.int .i64 0), .sl []] := by kernel_rfl
theorem ft76_0 : offT Try.prog 76 0 = some (0, 3) := by kernel_rfl
theorem ft76_1 : offT Try.prog 76 1 = some (1, 59) := by kernel_rfl
theorem kt83 : kindT Try.prog 83 = some .one := by kernel_rfl
theorem zt83 : sizeT Try.prog 83 = some 1 := by kernel_rfl
theorem ot83 : zeroT Try.prog 83 = some [.sl []] := by kernel_rfl
theorem et83 : elemT Try.prog 83 = some 2 := by kernel_rfl
theorem lt83 : lenT Try.prog #[83] = some true := by kernel_rfl
theorem kt85 : kindT Try.prog 85 = some (.agg 5) := by kernel_rfl
theorem zt85 : sizeT Try.prog 85 = some 5 := by kernel_rfl
theorem ot85 : zeroT Try.prog 85 = some [.lit (.string ByteArray.empty), .sl [], .lit (.bool false), .lit (.bool false), .lit (.int .i64 0)] := by kernel_rfl
theorem ft85_0 : offT Try.prog 85 0 = some (0, 9) := by kernel_rfl
theorem ft85_1 : offT Try.prog 85 1 = some (1, 83) := by kernel_rfl
theorem ft85_2 : offT Try.prog 85 2 = some (2, 4) := by kernel_rfl
theorem ft85_3 : offT Try.prog 85 3 = some (3, 4) := by kernel_rfl
theorem ft85_4 : offT Try.prog 85 4 = some (4, 3) := by kernel_rfl
theorem kt96 : kindT Try.prog 96 = some (.agg 3) := by kernel_rfl
theorem zt96 : sizeT Try.prog 96 = some 3 := by kernel_rfl
theorem ot96 : zeroT Try.prog 96 = some [.sl [], .sl [], .sl []] := by kernel_rfl
theorem ft96_0 : offT Try.prog 96 0 = some (0, 59) := by kernel_rfl
theorem ft96_1 : offT Try.prog 96 1 = some (1, 59) := by kernel_rfl
theorem ft96_2 : offT Try.prog 96 2 = some (2, 59) := by kernel_rfl
theorem kt99 : kindT Try.prog 99 = some .one := by kernel_rfl
theorem zt99 : sizeT Try.prog 99 = some 1 := by kernel_rfl
theorem kt110 : kindT Try.prog 110 = some (.agg 2) := by kernel_rfl
theorem zt110 : sizeT Try.prog 110 = some 2 := by kernel_rfl
theorem ot110 : zeroT Try.prog 110 = some [.lit (.int .i64 0), .lit (.int .i64 0)] := by kernel_rfl
theorem ft110_0 : offT Try.prog 110 0 = some (0, 3) := by kernel_rfl
theorem ft110_1 : offT Try.prog 110 1 = some (1, 3) := by kernel_rfl
theorem kt114 : kindT Try.prog 114 = some (.agg 2) := by kernel_rfl
theorem zt114 : sizeT Try.prog 114 = some 2 := by kernel_rfl
theorem ot114 : zeroT Try.prog 114 = some [.lit (.int .i64 0), .lit (.int .i64 0)] := by kernel_rfl
theorem ft114_0 : offT Try.prog 114 0 = some (0, 3) := by kernel_rfl
theorem ft114_1 : offT Try.prog 114 1 = some (1, 3) := by kernel_rfl
theorem kt122 : kindT Try.prog 122 = some (.agg 2) := by kernel_rfl
theorem zt122 : sizeT Try.prog 122 = some 2 := by kernel_rfl
theorem ot122 : zeroT Try.prog 122 = some [.sl [], .lit (.int .i64 0)] := by kernel_rfl
theorem ft122_0 : offT Try.prog 122 0 = some (0, 59) := by kernel_rfl
theorem ft122_1 : offT Try.prog 122 1 = some (1, 3) := by kernel_rfl
theorem kt124 : kindT Try.prog 124 = some .one := by kernel_rfl
theorem zt124 : sizeT Try.prog 124 = some 1 := by kernel_rfl
theorem ot124 : zeroT Try.prog 124 = some [.lit (.int .u64 0)] := by kernel_rfl
end Go.Proofs.Ytlhbdhdaecchoaa
