/-
  Part of a proof: Tt, Qme, Qf, Qe, Qh, Qg, LTerm, Tm, Te0, Cmp, Cmp2, Cmp3, Cmp4, Te, Tf, Tg, Decls2, Axioms2, Sgn2, Th, Tk.
-/
import Derived.Test.YtpbikjkjfojjiaaGreatBBase0
import Derived.Test.YtpbikjkjfojjiaaGreatBBase1
import Derived.Test.YtpbikjkjfojjiaaGreatBBase2
import Derived.Test.YtpbikjkjfojjiaaGreatChecked
import Derived.Test.YtpbikjkjfojjiaaGreatRows
import Derived.Deep.RegionHeld3
import Derived.Lib.Bytealg
import Derived.Deep.QuietTactic
import Derived.BigQuiet
set_option linter.unusedSimpArgs false
set_option linter.unusedVariables false
set_option maxRecDepth 10000
namespace Go.Proofs.YtpbikjkjfojjiaaGreat
open Go.RowKit
theorem kt2 : kindT Tryz.prog 2 = some .one := by kernel_rfl
theorem zt2 : sizeT Tryz.prog 2 = some 1 := by kernel_rfl
theorem ot2 : zeroT Tryz.prog 2 = some [.lit (.int .i64 0)] := by kernel_rfl
theorem kt3 : kindT Tryz.prog 3 = some .one := by kernel_rfl
theorem zt3 : sizeT Tryz.prog 3 = some 1 := by kernel_rfl
theorem ot3 : zeroT Tryz.prog 3 = some [.lit (.int .i64 0)] := by kernel_rfl
theorem kt4 : kindT Tryz.prog 4 = some .one := by kernel_rfl
theorem zt4 : sizeT Tryz.prog 4 = some 1 := by kernel_rfl
theorem ot4 : zeroT Tryz.prog 4 = some [.lit (.bool false)] := by kernel_rfl
theorem ut4 : Tryz.prog.underlying 4 = some .bool := by kernel_rfl
theorem kt5 : kindT Tryz.prog 5 = some .one := by kernel_rfl
theorem zt5 : sizeT Tryz.prog 5 = some 1 := by kernel_rfl
theorem ot5 : zeroT Tryz.prog 5 = some [.lit (.int .u8 0)] := by kernel_rfl
theorem kt9 : kindT Tryz.prog 9 = some .one := by kernel_rfl
theorem zt9 : sizeT Tryz.prog 9 = some 1 := by kernel_rfl
theorem ot9 : zeroT Tryz.prog 9 = some [.lit (.string ByteArray.empty)] := by kernel_rfl
theorem lt9 : lenT Tryz.prog #[9] = some false := by kernel_rfl
theorem ut9 : Tryz.prog.underlying 9 = some .string := by kernel_rfl
theorem kt22 : kindT Tryz.prog 22 = some .one := by kernel_rfl
theorem zt22 : sizeT Tryz.prog 22 = some 1 := by kernel_rfl
theorem ot22 : zeroT Tryz.prog 22 = some [.sl []] := by kernel_rfl
theorem et22 : elemT Tryz.prog 22 = some 1 := by kernel_rfl
theorem lt22 : lenT Tryz.prog #[22] = some true := by kernel_rfl
theorem bt22 : bytesT Tryz.prog 22 = some (9, 1, 16) := by kernel_rfl
theorem kt23 : kindT Tryz.prog 23 = some .one := by kernel_rfl
theorem zt23 : sizeT Tryz.prog 23 = some 1 := by kernel_rfl
theorem ot23 : zeroT Tryz.prog 23 = some [.sl []] := by kernel_rfl
theorem et23 : elemT Tryz.prog 23 = some 2 := by kernel_rfl
theorem lt23 : lenT Tryz.prog #[23] = some true := by kernel_rfl
theorem bt23 : bytesT Tryz.prog 23 = some (198, 2, 16) := by kernel_rfl
theorem kt25 : kindT Tryz.prog 25 = some (.agg 2) := by kernel_rfl
theorem zt25 : sizeT Tryz.prog 25 = some 2 := by kernel_rfl
theorem ot25 : zeroT Tryz.prog 25 = some [.sl [], .sl []] := by kernel_rfl
theorem st25 : isStructT Tryz.prog 25 = true := by kernel_rfl
theorem ft25_0 : offT Tryz.prog 25 0 = some (0, 22) := by kernel_rfl
theorem ft25_1 : offT Tryz.prog 25 1 = some (1, 23) := by kernel_rfl
theorem kt26 : kindT Tryz.prog 26 = some .one := by kernel_rfl
theorem zt26 : sizeT Tryz.prog 26 = some 1 := by kernel_rfl
theorem ot26 : zeroT Tryz.prog 26 = some [.sl []] := by kernel_rfl
theorem et26 : elemT Tryz.prog 26 = some 5 := by kernel_rfl
theorem lt26 : lenT Tryz.prog #[26] = some true := by kernel_rfl
theorem bt26 : bytesT Tryz.prog 26 = some (145, 5, 56) := by kernel_rfl
theorem kt28 : kindT Tryz.prog 28 = some (.agg 3) := by kernel_rfl
theorem zt28 : sizeT Tryz.prog 28 = some 3 := by kernel_rfl
theorem ot28 : zeroT Tryz.prog 28 = some [.sl [], .sl [], .sl []] := by kernel_rfl
theorem st28 : isStructT Tryz.prog 28 = true := by kernel_rfl
theorem ft28_0 : offT Tryz.prog 28 0 = some (0, 25) := by kernel_rfl
theorem ft28_1 : offT Tryz.prog 28 1 = some (2, 26) := by kernel_rfl
theorem kt29 : kindT Tryz.prog 29 = some .one := by kernel_rfl
theorem zt29 : sizeT Tryz.prog 29 = some 1 := by kernel_rfl
theorem ot29 : zeroT Tryz.prog 29 = some [.sl []] := by kernel_rfl
theorem et29 : elemT Tryz.prog 29 = some 4 := by kernel_rfl
theorem lt29 : lenT Tryz.prog #[29] = some true := by kernel_rfl
theorem bt29 : bytesT Tryz.prog 29 = some (31, 4, 56) := by kernel_rfl
theorem kt31 : kindT Tryz.prog 31 = some (.agg 4) := by kernel_rfl
theorem zt31 : sizeT Tryz.prog 31 = some 4 := by kernel_rfl
theorem ot31 : zeroT Tryz.prog 31 = some [.lit (.int .i64 0), .lit (.string ByteArray.empty), .lit (.int .i64 0), .sl []] := by kernel_rfl
theorem st31 : isStructT Tryz.prog 31 = true := by kernel_rfl
theorem ft31_0 : offT Tryz.prog 31 0 = some (0, 3) := by kernel_rfl
theorem ft31_1 : offT Tryz.prog 31 1 = some (1, 9) := by kernel_rfl
theorem ft31_2 : offT Tryz.prog 31 2 = some (2, 3) := by kernel_rfl
theorem ft31_3 : offT Tryz.prog 31 3 = some (3, 29) := by kernel_rfl
theorem kt32 : kindT Tryz.prog 32 = some .one := by kernel_rfl
theorem zt32 : sizeT Tryz.prog 32 = some 1 := by kernel_rfl
theorem ot32 : zeroT Tryz.prog 32 = some [.sl []] := by kernel_rfl
theorem et32 : elemT Tryz.prog 32 = some 8 := by kernel_rfl
theorem lt32 : lenT Tryz.prog #[32] = some true := by kernel_rfl
theorem bt32 : bytesT Tryz.prog 32 = some (148, 8, 112) := by kernel_rfl
theorem kt34 : kindT Tryz.prog 34 = some (.agg 9) := by kernel_rfl
theorem zt34 : sizeT Tryz.prog 34 = some 9 := by kernel_rfl
theorem ot34 : zeroT Tryz.prog 34 = some [.lit (.int .i64 0), .lit (.string ByteArray.empty), .lit (.int .i64 0), .sl [], .lit (.int .i64 0), .lit (.string ByteArray.empty), .lit (.int .i64 0), .sl [], .sl []] := by kernel_rfl
theorem st34 : isStructT Tryz.prog 34 = true := by kernel_rfl
theorem ft34_0 : offT Tryz.prog 34 0 = some (0, 31) := by kernel_rfl
theorem ft34_1 : offT Tryz.prog 34 1 = some (4, 31) := by kernel_rfl
theorem ft34_2 : offT Tryz.prog 34 2 = some (8, 32) := by kernel_rfl
theorem kt38 : kindT Tryz.prog 38 = some .one := by kernel_rfl
theorem zt38 : sizeT Tryz.prog 38 = some 1 := by kernel_rfl
theorem ot38 : zeroT Tryz.prog 38 = some [.sl []] := by kernel_rfl
theorem et38 : elemT Tryz.prog 38 = some 2 := by kernel_rfl
theorem lt38 : lenT Tryz.prog #[38] = some true := by kernel_rfl
theorem bt38 : bytesT Tryz.prog 38 = some (192, 2, 16) := by kernel_rfl
theorem kt40 : kindT Tryz.prog 40 = some (.agg 2) := by kernel_rfl
theorem zt40 : sizeT Tryz.prog 40 = some 2 := by kernel_rfl
theorem ot40 : zeroT Tryz.prog 40 = some [.sl [], .sl []] := by kernel_rfl
theorem st40 : isStructT Tryz.prog 40 = true := by kernel_rfl
theorem xt40 : zeroX Tryz.prog 40 = some [.lit (.slice none 0 0), .lit (.slice none 0 0)] := by kernel_rfl
theorem ft40_0 : offT Tryz.prog 40 0 = some (0, 22) := by kernel_rfl
theorem ft40_1 : offT Tryz.prog 40 1 = some (1, 38) := by kernel_rfl
theorem kt41 : kindT Tryz.prog 41 = some .one := by kernel_rfl
theorem zt41 : sizeT Tryz.prog 41 = some 1 := by kernel_rfl
theorem ot41 : zeroT Tryz.prog 41 = some [.sl []] := by kernel_rfl
theorem et41 : elemT Tryz.prog 41 = some 5 := by kernel_rfl
theorem lt41 : lenT Tryz.prog #[41] = some true := by kernel_rfl
theorem bt41 : bytesT Tryz.prog 41 = some (153, 5, 56) := by kernel_rfl
theorem kt43 : kindT Tryz.prog 43 = some (.agg 3) := by kernel_rfl
theorem zt43 : sizeT Tryz.prog 43 = some 3 := by kernel_rfl
theorem ot43 : zeroT Tryz.prog 43 = some [.sl [], .sl [], .sl []] := by kernel_rfl
theorem st43 : isStructT Tryz.prog 43 = true := by kernel_rfl
theorem xt43 : zeroX Tryz.prog 43 = some [.lit (.slice none 0 0), .lit (.slice none 0 0), .lit (.slice none 0 0)] := by kernel_rfl
theorem ft43_0 : offT Tryz.prog 43 0 = some (0, 40) := by kernel_rfl
theorem ft43_1 : offT Tryz.prog 43 1 = some (2, 41) := by kernel_rfl
theorem kt45 : kindT Tryz.prog 45 = some .one := by kernel_rfl
theorem zt45 : sizeT Tryz.prog 45 = some 1 := by kernel_rfl
theorem ot45 : zeroT Tryz.prog 45 = some [.sl []] := by kernel_rfl
theorem et45 : elemT Tryz.prog 45 = some 4 := by kernel_rfl
theorem lt45 : lenT Tryz.prog #[45] = some true := by kernel_rfl
theorem bt45 : bytesT Tryz.prog 45 = some (47, 4, 56) := by kernel_rfl
theorem kt47 : kindT Tryz.prog 47 = some (.agg 4) := by kernel_rfl
theorem zt47 : sizeT Tryz.prog 47 = some 4 := by kernel_rfl
theorem ot47 : zeroT Tryz.prog 47 = some [.lit (.int .i64 0), .lit (.string ByteArray.empty), .lit (.int .i64 0), .sl []] := by kernel_rfl
theorem st47 : isStructT Tryz.prog 47 = true := by kernel_rfl
theorem xt47 : zeroX Tryz.prog 47 = some [.lit (.int .i64 0), .lit (.string ByteArray.empty), .lit (.int .i64 0), .lit (.slice none 0 0)] := by kernel_rfl
theorem ft47_0 : offT Tryz.prog 47 0 = some (0, 3) := by kernel_rfl
theorem ft47_1 : offT Tryz.prog 47 1 = some (1, 9) := by kernel_rfl
theorem ft47_2 : offT Tryz.prog 47 2 = some (2, 3) := by kernel_rfl
theorem ft47_3 : offT Tryz.prog 47 3 = some (3, 45) := by kernel_rfl
theorem kt48 : kindT Tryz.prog 48 = some .one := by kernel_rfl
theorem zt48 : sizeT Tryz.prog 48 = some 1 := by kernel_rfl
theorem ot48 : zeroT Tryz.prog 48 = some [.sl []] := by kernel_rfl
theorem et48 : elemT Tryz.prog 48 = some 8 := by kernel_rfl
theorem lt48 : lenT Tryz.prog #[48] = some true := by kernel_rfl
theorem bt48 : bytesT Tryz.prog 48 = some (100, 8, 112) := by kernel_rfl
theorem kt50 : kindT Tryz.prog 50 = some (.agg 9) := by kernel_rfl
theorem zt50 : sizeT Tryz.prog 50 = some 9 := by kernel_rfl
theorem ot50 : zeroT Tryz.prog 50 = some [.lit (.int .i64 0), .lit (.string ByteArray.empty), .lit (.int .i64 0), .sl [], .lit (.int .i64 0), .lit (.string ByteArray.empty), .lit (.int .i64 0), .sl [], .sl []] := by kernel_rfl
theorem st50 : isStructT Tryz.prog 50 = true := by kernel_rfl
theorem xt50 : zeroX Tryz.prog 50 = some [.lit (.int .i64 0), .lit (.string ByteArray.empty), .lit (.int .i64 0), .lit (.slice none 0 0), .lit (.int .i64 0), .lit (.string ByteArray.empty), .lit (.int .i64 0), .lit (.slice none 0 0), .lit (.slice none 0 0)] := by kernel_rfl
theorem ft50_0 : offT Tryz.prog 50 0 = some (0, 47) := by kernel_rfl
theorem ft50_1 : offT Tryz.prog 50 1 = some (4, 47) := by kernel_rfl
theorem ft50_2 : offT Tryz.prog 50 2 = some (8, 48) := by kernel_rfl
theorem kt55 : kindT Tryz.prog 55 = some .one := by kernel_rfl
theorem zt55 : sizeT Tryz.prog 55 = some 1 := by kernel_rfl
theorem ot55 : zeroT Tryz.prog 55 = some [.sl []] := by kernel_rfl
theorem et55 : elemT Tryz.prog 55 = some 9 := by kernel_rfl
theorem lt55 : lenT Tryz.prog #[55] = some true := by kernel_rfl
theorem bt55 : bytesT Tryz.prog 55 = some (34, 9, 136) := by kernel_rfl
theorem kt57 : kindT Tryz.prog 57 = some (.agg 5) := by kernel_rfl
theorem zt57 : sizeT Tryz.prog 57 = some 5 := by kernel_rfl
theorem ot57 : zeroT Tryz.prog 57 = some [.sl [], .sl [], .sl [], .sl [], .sl []] := by kernel_rfl
theorem st57 : isStructT Tryz.prog 57 = true := by kernel_rfl
theorem ft57_0 : offT Tryz.prog 57 0 = some (0, 28) := by kernel_rfl
theorem ft57_1 : offT Tryz.prog 57 1 = some (3, 55) := by kernel_rfl
theorem ft57_2 : offT Tryz.prog 57 2 = some (4, 55) := by kernel_rfl
theorem kt60 : kindT Tryz.prog 60 = some .one := by kernel_rfl
theorem zt60 : sizeT Tryz.prog 60 = some 1 := by kernel_rfl
theorem ot60 : zeroT Tryz.prog 60 = some [.sl []] := by kernel_rfl
theorem et60 : elemT Tryz.prog 60 = some 9 := by kernel_rfl
theorem lt60 : lenT Tryz.prog #[60] = some true := by kernel_rfl
theorem bt60 : bytesT Tryz.prog 60 = some (50, 9, 136) := by kernel_rfl
theorem kt62 : kindT Tryz.prog 62 = some (.agg 5) := by kernel_rfl
theorem zt62 : sizeT Tryz.prog 62 = some 5 := by kernel_rfl
theorem ot62 : zeroT Tryz.prog 62 = some [.sl [], .sl [], .sl [], .sl [], .sl []] := by kernel_rfl
theorem st62 : isStructT Tryz.prog 62 = true := by kernel_rfl
theorem xt62 : zeroX Tryz.prog 62 = some [.lit (.slice none 0 0), .lit (.slice none 0 0), .lit (.slice none 0 0), .lit (.slice none 0 0), .lit (.slice none 0 0)] := by kernel_rfl
theorem ft62_0 : offT Tryz.prog 62 0 = some (0, 43) := by kernel_rfl
theorem ft62_1 : offT Tryz.prog 62 1 = some (3, 60) := by kernel_rfl
theorem ft62_2 : offT Tryz.prog 62 2 = some (4, 60) := by kernel_rfl
theorem kt66 : kindT Tryz.prog 66 = some .one := by kernel_rfl
theorem zt66 : sizeT Tryz.prog 66 = some 1 := by kernel_rfl
theorem ot66 : zeroT Tryz.prog 66 = some [.sl []] := by kernel_rfl
theorem et66 : elemT Tryz.prog 66 = some 1 := by kernel_rfl
theorem lt66 : lenT Tryz.prog #[66] = some true := by kernel_rfl
theorem bt66 : bytesT Tryz.prog 66 = some (69, 1, 24) := by kernel_rfl
theorem kt68 : kindT Tryz.prog 68 = some (.agg 2) := by kernel_rfl
theorem zt68 : sizeT Tryz.prog 68 = some 2 := by kernel_rfl
theorem ot68 : zeroT Tryz.prog 68 = some [.lit (.int .i64 0), .sl []] := by kernel_rfl
theorem st68 : isStructT Tryz.prog 68 = true := by kernel_rfl
theorem ft68_0 : offT Tryz.prog 68 0 = some (0, 3) := by kernel_rfl
theorem ft68_1 : offT Tryz.prog 68 1 = some (1, 66) := by kernel_rfl
theorem kt69 : kindT Tryz.prog 69 = some .one := by kernel_rfl
theorem zt69 : sizeT Tryz.prog 69 = some 1 := by kernel_rfl
theorem ot69 : zeroT Tryz.prog 69 = some [.sl []] := by kernel_rfl
theorem et69 : elemT Tryz.prog 69 = some 1 := by kernel_rfl
theorem lt69 : lenT Tryz.prog #[69] = some true := by kernel_rfl
theorem bt69 : bytesT Tryz.prog 69 = some (3, 1, 8) := by kernel_rfl
theorem kt73 : kindT Tryz.prog 73 = some (.agg 2) := by kernel_rfl
theorem zt73 : sizeT Tryz.prog 73 = some 2 := by kernel_rfl
theorem ot73 : zeroT Tryz.prog 73 = some [.lit (.int .i64 0), .sl []] := by kernel_rfl
theorem st73 : isStructT Tryz.prog 73 = true := by kernel_rfl
theorem xt73 : zeroX Tryz.prog 73 = some [.lit (.int .i64 0), .lit (.slice none 0 0)] := by kernel_rfl
theorem ft73_0 : offT Tryz.prog 73 0 = some (0, 3) := by kernel_rfl
theorem ft73_1 : offT Tryz.prog 73 1 = some (1, 66) := by kernel_rfl
theorem kt85 : kindT Tryz.prog 85 = some .one := by kernel_rfl
theorem zt85 : sizeT Tryz.prog 85 = some 1 := by kernel_rfl
theorem ot85 : zeroT Tryz.prog 85 = some [.sl []] := by kernel_rfl
theorem et85 : elemT Tryz.prog 85 = some 2 := by kernel_rfl
theorem lt85 : lenT Tryz.prog #[85] = some true := by kernel_rfl
theorem bt85 : bytesT Tryz.prog 85 = some (131, 2, 32) := by kernel_rfl
theorem kt88 : kindT Tryz.prog 88 = some .one := by kernel_rfl
theorem zt88 : sizeT Tryz.prog 88 = some 1 := by kernel_rfl
theorem ot88 : zeroT Tryz.prog 88 = some [.sl []] := by kernel_rfl
theorem et88 : elemT Tryz.prog 88 = some 2 := by kernel_rfl
theorem lt88 : lenT Tryz.prog #[88] = some true := by kernel_rfl
theorem bt88 : bytesT Tryz.prog 88 = some (134, 2, 32) := by kernel_rfl
theorem kt100 : kindT Tryz.prog 100 = some (.agg 8) := by kernel_rfl
theorem zt100 : sizeT Tryz.prog 100 = some 8 := by kernel_rfl
theorem ot100 : zeroT Tryz.prog 100 = some [.lit (.int .i64 0), .lit (.string ByteArray.empty), .lit (.int .i64 0), .sl [], .lit (.int .i64 0), .lit (.string ByteArray.empty), .lit (.int .i64 0), .sl []] := by kernel_rfl
theorem st100 : isStructT Tryz.prog 100 = true := by kernel_rfl
theorem xt100 : zeroX Tryz.prog 100 = some [.lit (.int .i64 0), .lit (.string ByteArray.empty), .lit (.int .i64 0), .lit (.slice none 0 0), .lit (.int .i64 0), .lit (.string ByteArray.empty), .lit (.int .i64 0), .lit (.slice none 0 0)] := by kernel_rfl
theorem ft100_0 : offT Tryz.prog 100 0 = some (0, 47) := by kernel_rfl
theorem ft100_1 : offT Tryz.prog 100 1 = some (4, 47) := by kernel_rfl
theorem kt104 : kindT Tryz.prog 104 = some .one := by kernel_rfl
theorem zt104 : sizeT Tryz.prog 104 = some 1 := by kernel_rfl
theorem kt131 : kindT Tryz.prog 131 = some (.agg 2) := by kernel_rfl
theorem zt131 : sizeT Tryz.prog 131 = some 2 := by kernel_rfl
theorem ot131 : zeroT Tryz.prog 131 = some [.lit (.int .i64 0), .sl []] := by kernel_rfl
theorem st131 : isStructT Tryz.prog 131 = true := by kernel_rfl
theorem ft131_0 : offT Tryz.prog 131 0 = some (0, 3) := by kernel_rfl
theorem ft131_1 : offT Tryz.prog 131 1 = some (1, 69) := by kernel_rfl
theorem kt134 : kindT Tryz.prog 134 = some (.agg 2) := by kernel_rfl
theorem zt134 : sizeT Tryz.prog 134 = some 2 := by kernel_rfl
theorem ot134 : zeroT Tryz.prog 134 = some [.lit (.int .i64 0), .sl []] := by kernel_rfl
theorem st134 : isStructT Tryz.prog 134 = true := by kernel_rfl
theorem xt134 : zeroX Tryz.prog 134 = some [.lit (.int .i64 0), .lit (.slice none 0 0)] := by kernel_rfl
theorem ft134_0 : offT Tryz.prog 134 0 = some (0, 3) := by kernel_rfl
theorem ft134_1 : offT Tryz.prog 134 1 = some (1, 69) := by kernel_rfl
theorem kt143 : kindT Tryz.prog 143 = some .one := by kernel_rfl
theorem zt143 : sizeT Tryz.prog 143 = some 1 := by kernel_rfl
theorem ot143 : zeroT Tryz.prog 143 = some [.sl []] := by kernel_rfl
theorem et143 : elemT Tryz.prog 143 = some 2 := by kernel_rfl
theorem lt143 : lenT Tryz.prog #[143] = some true := by kernel_rfl
theorem bt143 : bytesT Tryz.prog 143 = some (215, 2, 32) := by kernel_rfl
theorem kt145 : kindT Tryz.prog 145 = some (.agg 5) := by kernel_rfl
theorem zt145 : sizeT Tryz.prog 145 = some 5 := by kernel_rfl
theorem ot145 : zeroT Tryz.prog 145 = some [.lit (.string ByteArray.empty), .sl [], .lit (.bool false), .lit (.bool false), .lit (.int .i64 0)] := by kernel_rfl
theorem st145 : isStructT Tryz.prog 145 = true := by kernel_rfl
theorem ft145_0 : offT Tryz.prog 145 0 = some (0, 9) := by kernel_rfl
theorem ft145_1 : offT Tryz.prog 145 1 = some (1, 143) := by kernel_rfl
theorem ft145_2 : offT Tryz.prog 145 2 = some (2, 4) := by kernel_rfl
theorem ft145_3 : offT Tryz.prog 145 3 = some (3, 4) := by kernel_rfl
theorem ft145_4 : offT Tryz.prog 145 4 = some (4, 3) := by kernel_rfl
theorem kt148 : kindT Tryz.prog 148 = some (.agg 8) := by kernel_rfl
theorem zt148 : sizeT Tryz.prog 148 = some 8 := by kernel_rfl
theorem ot148 : zeroT Tryz.prog 148 = some [.lit (.int .i64 0), .lit (.string ByteArray.empty), .lit (.int .i64 0), .sl [], .lit (.int .i64 0), .lit (.string ByteArray.empty), .lit (.int .i64 0), .sl []] := by kernel_rfl
theorem st148 : isStructT Tryz.prog 148 = true := by kernel_rfl
theorem ft148_0 : offT Tryz.prog 148 0 = some (0, 31) := by kernel_rfl
theorem ft148_1 : offT Tryz.prog 148 1 = some (4, 31) := by kernel_rfl
theorem kt151 : kindT Tryz.prog 151 = some .one := by kernel_rfl
theorem zt151 : sizeT Tryz.prog 151 = some 1 := by kernel_rfl
theorem ot151 : zeroT Tryz.prog 151 = some [.sl []] := by kernel_rfl
theorem et151 : elemT Tryz.prog 151 = some 2 := by kernel_rfl
theorem lt151 : lenT Tryz.prog #[151] = some true := by kernel_rfl
theorem bt151 : bytesT Tryz.prog 151 = some (181, 2, 32) := by kernel_rfl
theorem kt153 : kindT Tryz.prog 153 = some (.agg 5) := by kernel_rfl
theorem zt153 : sizeT Tryz.prog 153 = some 5 := by kernel_rfl
theorem ot153 : zeroT Tryz.prog 153 = some [.lit (.string ByteArray.empty), .sl [], .lit (.bool false), .lit (.bool false), .lit (.int .i64 0)] := by kernel_rfl
theorem st153 : isStructT Tryz.prog 153 = true := by kernel_rfl
theorem xt153 : zeroX Tryz.prog 153 = some [.lit (.string ByteArray.empty), .lit (.slice none 0 0), .lit (.bool false), .lit (.bool false), .lit (.int .i64 0)] := by kernel_rfl
theorem ft153_0 : offT Tryz.prog 153 0 = some (0, 9) := by kernel_rfl
theorem ft153_1 : offT Tryz.prog 153 1 = some (1, 151) := by kernel_rfl
theorem ft153_2 : offT Tryz.prog 153 2 = some (2, 4) := by kernel_rfl
theorem ft153_3 : offT Tryz.prog 153 3 = some (3, 4) := by kernel_rfl
theorem ft153_4 : offT Tryz.prog 153 4 = some (4, 3) := by kernel_rfl
theorem kt164 : kindT Tryz.prog 164 = some (.agg 3) := by kernel_rfl
theorem zt164 : sizeT Tryz.prog 164 = some 3 := by kernel_rfl
theorem ot164 : zeroT Tryz.prog 164 = some [.sl [], .sl [], .sl []] := by kernel_rfl
theorem st164 : isStructT Tryz.prog 164 = true := by kernel_rfl
theorem xt164 : zeroX Tryz.prog 164 = some [.lit (.slice none 0 0), .lit (.slice none 0 0), .lit (.slice none 0 0)] := by kernel_rfl
theorem ft164_0 : offT Tryz.prog 164 0 = some (0, 69) := by kernel_rfl
theorem ft164_1 : offT Tryz.prog 164 1 = some (1, 69) := by kernel_rfl
theorem ft164_2 : offT Tryz.prog 164 2 = some (2, 69) := by kernel_rfl
theorem kt167 : kindT Tryz.prog 167 = some .one := by kernel_rfl
theorem zt167 : sizeT Tryz.prog 167 = some 1 := by kernel_rfl
theorem kt169 : kindT Tryz.prog 169 = some (.agg 7) := by kernel_rfl
theorem zt169 : sizeT Tryz.prog 169 = some 7 := by kernel_rfl
theorem ot169 : zeroT Tryz.prog 169 = some [.sl [], .sl [], .sl [], .sl [], .sl [], .sl [], .lit (.map none)] := by kernel_rfl
theorem st169 : isStructT Tryz.prog 169 = true := by kernel_rfl
theorem xt169 : zeroX Tryz.prog 169 = some [.lit (.slice none 0 0), .lit (.slice none 0 0), .lit (.slice none 0 0), .lit (.slice none 0 0), .lit (.slice none 0 0), .lit (.slice none 0 0), .lit (.map none)] := by kernel_rfl
theorem ft169_0 : offT Tryz.prog 169 0 = some (0, 164) := by kernel_rfl
theorem ft169_1 : offT Tryz.prog 169 1 = some (3, 43) := by kernel_rfl
theorem ft169_2 : offT Tryz.prog 169 2 = some (6, 167) := by kernel_rfl
theorem kt181 : kindT Tryz.prog 181 = some (.agg 2) := by kernel_rfl
theorem zt181 : sizeT Tryz.prog 181 = some 2 := by kernel_rfl
theorem ot181 : zeroT Tryz.prog 181 = some [.sl [], .lit (.int .i64 0)] := by kernel_rfl
theorem st181 : isStructT Tryz.prog 181 = true := by kernel_rfl
theorem xt181 : zeroX Tryz.prog 181 = some [.lit (.slice none 0 0), .lit (.int .i64 0)] := by kernel_rfl
theorem ft181_0 : offT Tryz.prog 181 0 = some (0, 69) := by kernel_rfl
theorem ft181_1 : offT Tryz.prog 181 1 = some (1, 3) := by kernel_rfl
theorem kt192 : kindT Tryz.prog 192 = some (.agg 2) := by kernel_rfl
theorem zt192 : sizeT Tryz.prog 192 = some 2 := by kernel_rfl
theorem ot192 : zeroT Tryz.prog 192 = some [.lit (.int .i64 0), .lit (.int .i64 0)] := by kernel_rfl
theorem st192 : isStructT Tryz.prog 192 = true := by kernel_rfl
theorem ft192_0 : offT Tryz.prog 192 0 = some (0, 3) := by kernel_rfl
theorem ft192_1 : offT Tryz.prog 192 1 = some (1, 3) := by kernel_rfl
theorem kt198 : kindT Tryz.prog 198 = some (.agg 2) := by kernel_rfl
theorem zt198 : sizeT Tryz.prog 198 = some 2 := by kernel_rfl
theorem ot198 : zeroT Tryz.prog 198 = some [.lit (.int .i64 0), .lit (.int .i64 0)] := by kernel_rfl
theorem st198 : isStructT Tryz.prog 198 = true := by kernel_rfl
theorem ft198_0 : offT Tryz.prog 198 0 = some (0, 3) := by kernel_rfl
theorem ft198_1 : offT Tryz.prog 198 1 = some (1, 3) := by kernel_rfl
theorem kt200 : kindT Tryz.prog 200 = some .one := by kernel_rfl
theorem zt200 : sizeT Tryz.prog 200 = some 1 := by kernel_rfl
theorem kt206 : kindT Tryz.prog 206 = some .one := by kernel_rfl
theorem zt206 : sizeT Tryz.prog 206 = some 1 := by kernel_rfl
theorem ot206 : zeroT Tryz.prog 206 = some [.sl []] := by kernel_rfl
theorem et206 : elemT Tryz.prog 206 = some 1 := by kernel_rfl
theorem lt206 : lenT Tryz.prog #[206] = some true := by kernel_rfl
theorem bt206 : bytesT Tryz.prog 206 = some (60, 1, 24) := by kernel_rfl
theorem kt210 : kindT Tryz.prog 210 = some .one := by kernel_rfl
theorem zt210 : sizeT Tryz.prog 210 = some 1 := by kernel_rfl
theorem ot210 : zeroT Tryz.prog 210 = some [.lit (.int .u64 0)] := by kernel_rfl
theorem kt215 : kindT Tryz.prog 215 = some (.agg 2) := by kernel_rfl
theorem zt215 : sizeT Tryz.prog 215 = some 2 := by kernel_rfl
theorem ot215 : zeroT Tryz.prog 215 = some [.sl [], .lit (.int .i64 0)] := by kernel_rfl
theorem st215 : isStructT Tryz.prog 215 = true := by kernel_rfl
theorem ft215_0 : offT Tryz.prog 215 0 = some (0, 69) := by kernel_rfl
theorem ft215_1 : offT Tryz.prog 215 1 = some (1, 3) := by kernel_rfl
theorem tt_0 : type_of% (And.intro kt2 (And.intro zt2 (And.intro ot2 (And.intro kt3 (And.intro zt3 (And.intro ot3 (And.intro kt4 (And.intro zt4 (And.intro ot4 (And.intro ut4 (And.intro kt5 (And.intro zt5 (And.intro ot5 (And.intro kt9 (And.intro zt9 (And.intro ot9 (And.intro lt9 (And.intro ut9 (And.intro kt22 (And.intro zt22 (And.intro ot22 (And.intro et22 (And.intro lt22 (And.intro bt22 (And.intro kt23 (And.intro zt23 (And.intro ot23 (And.intro et23 (And.intro lt23 (And.intro bt23 (And.intro kt25 (And.intro zt25 (And.intro ot25 (And.intro st25 (And.intro ft25_0 (And.intro ft25_1 (And.intro kt26 (And.intro zt26 (And.intro ot26 (et26)))))))))))))))))))))))))))))))))))))))) := And.intro kt2 (And.intro zt2 (And.intro ot2 (And.intro kt3 (And.intro zt3 (And.intro ot3 (And.intro kt4 (And.intro zt4 (And.intro ot4 (And.intro ut4 (And.intro kt5 (And.intro zt5 (And.intro ot5 (And.intro kt9 (And.intro zt9 (And.intro ot9 (And.intro lt9 (And.intro ut9 (And.intro kt22 (And.intro zt22 (And.intro ot22 (And.intro et22 (And.intro lt22 (And.intro bt22 (And.intro kt23 (And.intro zt23 (And.intro ot23 (And.intro et23 (And.intro lt23 (And.intro bt23 (And.intro kt25 (And.intro zt25 (And.intro ot25 (And.intro st25 (And.intro ft25_0 (And.intro ft25_1 (And.intro kt26 (And.intro zt26 (And.intro ot26 (et26)))))))))))))))))))))))))))))))))))))))
theorem tt_1 : type_of% (And.intro lt26 (And.intro bt26 (And.intro kt28 (And.intro zt28 (And.intro ot28 (And.intro st28 (And.intro ft28_0 (And.intro ft28_1 (And.intro kt29 (And.intro zt29 (And.intro ot29 (And.intro et29 (And.intro lt29 (And.intro bt29 (And.intro kt31 (And.intro zt31 (And.intro ot31 (And.intro st31 (And.intro ft31_0 (And.intro ft31_1 (And.intro ft31_2 (And.intro ft31_3 (And.intro kt32 (And.intro zt32 (And.intro ot32 (And.intro et32 (And.intro lt32 (And.intro bt32 (And.intro kt34 (And.intro zt34 (And.intro ot34 (And.intro st34 (And.intro ft34_0 (And.intro ft34_1 (And.intro ft34_2 (And.intro kt38 (And.intro zt38 (And.intro ot38 (And.intro et38 (lt38)))))))))))))))))))))))))))))))))))))))) := And.intro lt26 (And.intro bt26 (And.intro kt28 (And.intro zt28 (And.intro ot28 (And.intro st28 (And.intro ft28_0 (And.intro ft28_1 (And.intro kt29 (And.intro zt29 (And.intro ot29 (And.intro et29 (And.intro lt29 (And.intro bt29 (And.intro kt31 (And.intro zt31 (And.intro ot31 (And.intro st31 (And.intro ft31_0 (And.intro ft31_1 (And.intro ft31_2 (And.intro ft31_3 (And.intro kt32 (And.intro zt32 (And.intro ot32 (And.intro et32 (And.intro lt32 (And.intro bt32 (And.intro kt34 (And.intro zt34 (And.intro ot34 (And.intro st34 (And.intro ft34_0 (And.intro ft34_1 (And.intro ft34_2 (And.intro kt38 (And.intro zt38 (And.intro ot38 (And.intro et38 (lt38)))))))))))))))))))))))))))))))))))))))
theorem tt_2 : type_of% (And.intro bt38 (And.intro kt40 (And.intro zt40 (And.intro ot40 (And.intro st40 (And.intro xt40 (And.intro ft40_0 (And.intro ft40_1 (And.intro kt41 (And.intro zt41 (And.intro ot41 (And.intro et41 (And.intro lt41 (And.intro bt41 (And.intro kt43 (And.intro zt43 (And.intro ot43 (And.intro st43 (And.intro xt43 (And.intro ft43_0 (And.intro ft43_1 (And.intro kt45 (And.intro zt45 (And.intro ot45 (And.intro et45 (And.intro lt45 (And.intro bt45 (And.intro kt47 (And.intro zt47 (And.intro ot47 (And.intro st47 (And.intro xt47 (And.intro ft47_0 (And.intro ft47_1 (And.intro ft47_2 (And.intro ft47_3 (And.intro kt48 (And.intro zt48 (And.intro ot48 (et48)))))))))))))))))))))))))))))))))))))))) := And.intro bt38 (And.intro kt40 (And.intro zt40 (And.intro ot40 (And.intro st40 (And.intro xt40 (And.intro ft40_0 (And.intro ft40_1 (And.intro kt41 (And.intro zt41 (And.intro ot41 (And.intro et41 (And.intro lt41 (And.intro bt41 (And.intro kt43 (And.intro zt43 (And.intro ot43 (And.intro st43 (And.intro xt43 (And.intro ft43_0 (And.intro ft43_1 (And.intro kt45 (And.intro zt45 (And.intro ot45 (And.intro et45 (And.intro lt45 (And.intro bt45 (And.intro kt47 (And.intro zt47 (And.intro ot47 (And.intro st47 (And.intro xt47 (And.intro ft47_0 (And.intro ft47_1 (And.intro ft47_2 (And.intro ft47_3 (And.intro kt48 (And.intro zt48 (And.intro ot48 (et48)))))))))))))))))))))))))))))))))))))))
theorem tt_3 : type_of% (And.intro lt48 (And.intro bt48 (And.intro kt50 (And.intro zt50 (And.intro ot50 (And.intro st50 (And.intro xt50 (And.intro ft50_0 (And.intro ft50_1 (And.intro ft50_2 (And.intro kt55 (And.intro zt55 (And.intro ot55 (And.intro et55 (And.intro lt55 (And.intro bt55 (And.intro kt57 (And.intro zt57 (And.intro ot57 (And.intro st57 (And.intro ft57_0 (And.intro ft57_1 (And.intro ft57_2 (And.intro kt60 (And.intro zt60 (And.intro ot60 (And.intro et60 (And.intro lt60 (And.intro bt60 (And.intro kt62 (And.intro zt62 (And.intro ot62 (And.intro st62 (And.intro xt62 (And.intro ft62_0 (And.intro ft62_1 (And.intro ft62_2 (And.intro kt66 (And.intro zt66 (ot66)))))))))))))))))))))))))))))))))))))))) := And.intro lt48 (And.intro bt48 (And.intro kt50 (And.intro zt50 (And.intro ot50 (And.intro st50 (And.intro xt50 (And.intro ft50_0 (And.intro ft50_1 (And.intro ft50_2 (And.intro kt55 (And.intro zt55 (And.intro ot55 (And.intro et55 (And.intro lt55 (And.intro bt55 (And.intro kt57 (And.intro zt57 (And.intro ot57 (And.intro st57 (And.intro ft57_0 (And.intro ft57_1 (And.intro ft57_2 (And.intro kt60 (And.intro zt60 (And.intro ot60 (And.intro et60 (And.intro lt60 (And.intro bt60 (And.intro kt62 (And.intro zt62 (And.intro ot62 (And.intro st62 (And.intro xt62 (And.intro ft62_0 (And.intro ft62_1 (And.intro ft62_2 (And.intro kt66 (And.intro zt66 (ot66)))))))))))))))))))))))))))))))))))))))
theorem tt_4 : type_of% (And.intro et66 (And.intro lt66 (And.intro bt66 (And.intro kt68 (And.intro zt68 (And.intro ot68 (And.intro st68 (And.intro ft68_0 (And.intro ft68_1 (And.intro kt69 (And.intro zt69 (And.intro ot69 (And.intro et69 (And.intro lt69 (And.intro bt69 (And.intro kt73 (And.intro zt73 (And.intro ot73 (And.intro st73 (And.intro xt73 (And.intro ft73_0 (And.intro ft73_1 (And.intro kt85 (And.intro zt85 (And.intro ot85 (And.intro et85 (And.intro lt85 (And.intro bt85 (And.intro kt88 (And.intro zt88 (And.intro ot88 (And.intro et88 (And.intro lt88 (And.intro bt88 (And.intro kt100 (And.intro zt100 (And.intro ot100 (And.intro st100 (And.intro xt100 (ft100_0)))))))))))))))))))))))))))))))))))))))) := And.intro et66 (And.intro lt66 (And.intro bt66 (And.intro kt68 (And.intro zt68 (And.intro ot68 (And.intro st68 (And.intro ft68_0 (And.intro ft68_1 (And.intro kt69 (And.intro zt69 (And.intro ot69 (And.intro et69 (And.intro lt69 (And.intro bt69 (And.intro kt73 (And.intro zt73 (And.intro ot73 (And.intro st73 (And.intro xt73 (And.intro ft73_0 (And.intro ft73_1 (And.intro kt85 (And.intro zt85 (And.intro ot85 (And.intro et85 (And.intro lt85 (And.intro bt85 (And.intro kt88 (And.intro zt88 (And.intro ot88 (And.intro et88 (And.intro lt88 (And.intro bt88 (And.intro kt100 (And.intro zt100 (And.intro ot100 (And.intro st100 (And.intro xt100 (ft100_0)))))))))))))))))))))))))))))))))))))))
theorem tt_5 : type_of% (And.intro ft100_1 (And.intro kt104 (And.intro zt104 (And.intro kt131 (And.intro zt131 (And.intro ot131 (And.intro st131 (And.intro ft131_0 (And.intro ft131_1 (And.intro kt134 (And.intro zt134 (And.intro ot134 (And.intro st134 (And.intro xt134 (And.intro ft134_0 (And.intro ft134_1 (And.intro kt143 (And.intro zt143 (And.intro ot143 (And.intro et143 (And.intro lt143 (And.intro bt143 (And.intro kt145 (And.intro zt145 (And.intro ot145 (And.intro st145 (And.intro ft145_0 (And.intro ft145_1 (And.intro ft145_2 (And.intro ft145_3 (And.intro ft145_4 (And.intro kt148 (And.intro zt148 (And.intro ot148 (And.intro st148 (And.intro ft148_0 (And.intro ft148_1 (And.intro kt151 (And.intro zt151 (ot151)))))))))))))))))))))))))))))))))))))))) := And.intro ft100_1 (And.intro kt104 (And.intro zt104 (And.intro kt131 (And.intro zt131 (And.intro ot131 (And.intro st131 (And.intro ft131_0 (And.intro ft131_1 (And.intro kt134 (And.intro zt134 (And.intro ot134 (And.intro st134 (And.intro xt134 (And.intro ft134_0 (And.intro ft134_1 (And.intro kt143 (And.intro zt143 (And.intro ot143 (And.intro et143 (And.intro lt143 (And.intro bt143 (And.intro kt145 (And.intro zt145 (And.intro ot145 (And.intro st145 (And.intro ft145_0 (And.intro ft145_1 (And.intro ft145_2 (And.intro ft145_3 (And.intro ft145_4 (And.intro kt148 (And.intro zt148 (And.intro ot148 (And.intro st148 (And.intro ft148_0 (And.intro ft148_1 (And.intro kt151 (And.intro zt151 (ot151)))))))))))))))))))))))))))))))))))))))
theorem tt_6 : type_of% (And.intro et151 (And.intro lt151 (And.intro bt151 (And.intro kt153 (And.intro zt153 (And.intro ot153 (And.intro st153 (And.intro xt153 (And.intro ft153_0 (And.intro ft153_1 (And.intro ft153_2 (And.intro ft153_3 (And.intro ft153_4 (And.intro kt164 (And.intro zt164 (And.intro ot164 (And.intro st164 (And.intro xt164 (And.intro ft164_0 (And.intro ft164_1 (And.intro ft164_2 (And.intro kt167 (And.intro zt167 (And.intro kt169 (And.intro zt169 (And.intro ot169 (And.intro st169 (And.intro xt169 (And.intro ft169_0 (And.intro ft169_1 (And.intro ft169_2 (And.intro kt181 (And.intro zt181 (And.intro ot181 (And.intro st181 (And.intro xt181 (And.intro ft181_0 (And.intro ft181_1 (And.intro kt192 (zt192)))))))))))))))))))))))))))))))))))))))) := And.intro et151 (And.intro lt151 (And.intro bt151 (And.intro kt153 (And.intro zt153 (And.intro ot153 (And.intro st153 (And.intro xt153 (And.intro ft153_0 (And.intro ft153_1 (And.intro ft153_2 (And.intro ft153_3 (And.intro ft153_4 (And.intro kt164 (And.intro zt164 (And.intro ot164 (And.intro st164 (And.intro xt164 (And.intro ft164_0 (And.intro ft164_1 (And.intro ft164_2 (And.intro kt167 (And.intro zt167 (And.intro kt169 (And.intro zt169 (And.intro ot169 (And.intro st169 (And.intro xt169 (And.intro ft169_0 (And.intro ft169_1 (And.intro ft169_2 (And.intro kt181 (And.intro zt181 (And.intro ot181 (And.intro st181 (And.intro xt181 (And.intro ft181_0 (And.intro ft181_1 (And.intro kt192 (zt192)))))))))))))))))))))))))))))))))))))))
theorem tt_7 : type_of% (And.intro ot192 (And.intro st192 (And.intro ft192_0 (And.intro ft192_1 (And.intro kt198 (And.intro zt198 (And.intro ot198 (And.intro st198 (And.intro ft198_0 (And.intro ft198_1 (And.intro kt200 (And.intro zt200 (And.intro kt206 (And.intro zt206 (And.intro ot206 (And.intro et206 (And.intro lt206 (And.intro bt206 (And.intro kt210 (And.intro zt210 (And.intro ot210 (And.intro kt215 (And.intro zt215 (And.intro ot215 (And.intro st215 (And.intro ft215_0 (ft215_1))))))))))))))))))))))))))) := And.intro ot192 (And.intro st192 (And.intro ft192_0 (And.intro ft192_1 (And.intro kt198 (And.intro zt198 (And.intro ot198 (And.intro st198 (And.intro ft198_0 (And.intro ft198_1 (And.intro kt200 (And.intro zt200 (And.intro kt206 (And.intro zt206 (And.intro ot206 (And.intro et206 (And.intro lt206 (And.intro bt206 (And.intro kt210 (And.intro zt210 (And.intro ot210 (And.intro kt215 (And.intro zt215 (And.intro ot215 (And.intro st215 (And.intro ft215_0 (ft215_1))))))))))))))))))))))))))
end Go.Proofs.YtpbikjkjfojjiaaGreat
namespace Go.Proofs.YtpbikjkjfojjiaaGreat
open Go.RowKit
theorem pm_0 : type_of% (And.intro @contA_some (And.intro @ro_nil (And.intro @ro_n (And.intro @ro_g (And.intro @g_some (And.intro @pk_t (And.intro @pk_f (And.intro @sk_r (And.intro @g_no (And.intro @qB_0 (And.intro @qB_s (And.intro @R_move (And.intro @R_pick (And.intro @R_load (And.intro @R_fieldAddr (And.intro @R_field (And.intro @R_indexAddr (And.intro @R_index (And.intro @R_bin (And.intro @R_un (And.intro @R_extract (And.intro @R_nil (And.intro @R_conv (And.intro @R_slice (And.intro @R_len (And.intro @R_max (And.intro @R_min (And.intro @R_call (And.intro @cF_some (@R_build)))))))))))))))))))))))))))))) := And.intro @contA_some (And.intro @ro_nil (And.intro @ro_n (And.intro @ro_g (And.intro @g_some (And.intro @pk_t (And.intro @pk_f (And.intro @sk_r (And.intro @g_no (And.intro @qB_0 (And.intro @qB_s (And.intro @R_move (And.intro @R_pick (And.intro @R_load (And.intro @R_fieldAddr (And.intro @R_field (And.intro @R_indexAddr (And.intro @R_index (And.intro @R_bin (And.intro @R_un (And.intro @R_extract (And.intro @R_nil (And.intro @R_conv (And.intro @R_slice (And.intro @R_len (And.intro @R_max (And.intro @R_min (And.intro @R_call (And.intro @cF_some (@R_build)))))))))))))))))))))))))))))
theorem pm_1 : type_of% (And.intro @R_buildSlice (And.intro @R_makeFunc (And.intro @fq_nil (And.intro @fq_cons (And.intro @fz_nil (And.intro @fz_cons (And.intro @fB_some (And.intro @fB_none (And.intro @fS_nil (And.intro @fS_cons (And.intro @fA_undef (And.intro @fA_no (And.intro @fA_d (And.intro @fA_tup (And.intro @fA_vr (And.intro @fA_br (And.intro @fA_vb (And.intro @fA_bb (And.intro @fA_row (And.intro @ky_d (And.intro @ky_ref (And.intro @ky_buf (And.intro @ky_row (And.intro @kys_nil (And.intro @kys_cons (And.intro @R_alloc (And.intro @R_box (And.intro @R_store (And.intro @R_assign (@R_makeSlice)))))))))))))))))))))))))))))) := And.intro @R_buildSlice (And.intro @R_makeFunc (And.intro @fq_nil (And.intro @fq_cons (And.intro @fz_nil (And.intro @fz_cons (And.intro @fB_some (And.intro @fB_none (And.intro @fS_nil (And.intro @fS_cons (And.intro @fA_undef (And.intro @fA_no (And.intro @fA_d (And.intro @fA_tup (And.intro @fA_vr (And.intro @fA_br (And.intro @fA_vb (And.intro @fA_bb (And.intro @fA_row (And.intro @ky_d (And.intro @ky_ref (And.intro @ky_buf (And.intro @ky_row (And.intro @kys_nil (And.intro @kys_cons (And.intro @R_alloc (And.intro @R_box (And.intro @R_store (And.intro @R_assign (@R_makeSlice)))))))))))))))))))))))))))))
theorem pm_2 : type_of% (And.intro @R_append (And.intro @k_some (And.intro @n_some (And.intro @tb_some (And.intro @ts_some (And.intro @s_ref (And.intro @s_row (And.intro @s_var (And.intro @s_buf (And.intro @s_bf (And.intro @va_some (And.intro @ra_some (And.intro @a_one (And.intro @a_agg (And.intro @a_clip (And.intro @a_nil (And.intro @a_tup (And.intro @a_ref (And.intro @a_buf (And.intro @ab_some (And.intro @nb_some (And.intro @nb_none (And.intro @ow_eq (And.intro @kl_nil (And.intro @kl_ref (And.intro @kl_buf (And.intro @kl_row (And.intro @kl_d (And.intro @kl_tup (@kl_undef)))))))))))))))))))))))))))))) := And.intro @R_append (And.intro @k_some (And.intro @n_some (And.intro @tb_some (And.intro @ts_some (And.intro @s_ref (And.intro @s_row (And.intro @s_var (And.intro @s_buf (And.intro @s_bf (And.intro @va_some (And.intro @ra_some (And.intro @a_one (And.intro @a_agg (And.intro @a_clip (And.intro @a_nil (And.intro @a_tup (And.intro @a_ref (And.intro @a_buf (And.intro @ab_some (And.intro @nb_some (And.intro @nb_none (And.intro @ow_eq (And.intro @kl_nil (And.intro @kl_ref (And.intro @kl_buf (And.intro @kl_row (And.intro @kl_d (And.intro @kl_tup (@kl_undef)))))))))))))))))))))))))))))
theorem pm_3 : type_of% (And.intro @kl_no (And.intro @rm_nil (And.intro @rm_cons (And.intro @ap_eq (And.intro @aA_some (And.intro @aX_buf (And.intro @aX_clip (And.intro @aB_some (And.intro @ib_d (And.intro @ib_buf (And.intro @mk_eq (And.intro @mY_some (And.intro @mX_some (And.intro @iA_int (And.intro @e_tmp (And.intro @e_const (And.intro @e_func (And.intro @t_int (And.intro @t_bool (And.intro @t_str (And.intro @t_sl (And.intro @t_ptr (And.intro @sa_some (And.intro @sa_none (And.intro @p_ptr (And.intro @p_ref (And.intro @p_row (And.intro @l_some (And.intro @v_one (@v_agg)))))))))))))))))))))))))))))) := And.intro @kl_no (And.intro @rm_nil (And.intro @rm_cons (And.intro @ap_eq (And.intro @aA_some (And.intro @aX_buf (And.intro @aX_clip (And.intro @aB_some (And.intro @ib_d (And.intro @ib_buf (And.intro @mk_eq (And.intro @mY_some (And.intro @mX_some (And.intro @iA_int (And.intro @e_tmp (And.intro @e_const (And.intro @e_func (And.intro @t_int (And.intro @t_bool (And.intro @t_str (And.intro @t_sl (And.intro @t_ptr (And.intro @sa_some (And.intro @sa_none (And.intro @p_ptr (And.intro @p_ref (And.intro @p_row (And.intro @l_some (And.intro @v_one (@v_agg)))))))))))))))))))))))))))))
theorem pm_4 : type_of% (And.intro @pa_bool (And.intro @fa_ptr (And.intro @fa_ref (And.intro @fa_row (And.intro @f_agg (And.intro @ia_sl (And.intro @ia_clip (And.intro @ia_buf (And.intro @ro_buf (And.intro @el_some (And.intro @i_str (And.intro @by_some (And.intro @li_some (And.intro @b_lit (And.intro @u_lit (And.intro @un_not (And.intro @un_neg (And.intro @da_some (And.intro @x_tup (And.intro @nl_ptr (And.intro @nl_fn (And.intro @nl_ref (And.intro @ln_sl (And.intro @ln_cl (And.intro @ln_bf (And.intro @ln_lt (And.intro @ln_str (And.intro @ls_some (And.intro @sl_sl (@sl_clip)))))))))))))))))))))))))))))) := And.intro @pa_bool (And.intro @fa_ptr (And.intro @fa_ref (And.intro @fa_row (And.intro @f_agg (And.intro @ia_sl (And.intro @ia_clip (And.intro @ia_buf (And.intro @ro_buf (And.intro @el_some (And.intro @i_str (And.intro @by_some (And.intro @li_some (And.intro @b_lit (And.intro @u_lit (And.intro @un_not (And.intro @un_neg (And.intro @da_some (And.intro @x_tup (And.intro @nl_ptr (And.intro @nl_fn (And.intro @nl_ref (And.intro @ln_sl (And.intro @ln_cl (And.intro @ln_bf (And.intro @ln_lt (And.intro @ln_str (And.intro @ls_some (And.intro @sl_sl (@sl_clip)))))))))))))))))))))))))))))
theorem pm_5 : type_of% (And.intro @sl_buf (And.intro @bA_some (And.intro @mx_eq (And.intro @mn_eq (And.intro @bs_eq (And.intro @cl_some (And.intro @pt_nil (And.intro @pt_cons (And.intro @px_some (And.intro @bu_eq (And.intro @bx_some (And.intro @ag_some (And.intro @fl_nil (And.intro @fl_cons (And.intro @fx_some (And.intro @cv_int (And.intro @cx_some (And.intro @ik_some (And.intro @fn_some (And.intro @cs_nil (And.intro @cs_cons (And.intro @so_eq (And.intro @sy_some (And.intro @sx_some (And.intro @dsl_sl (And.intro @dsl_clip (And.intro @lo_none (And.intro @lo_some (And.intro @hi_none (@hi_some)))))))))))))))))))))))))))))) := And.intro @sl_buf (And.intro @bA_some (And.intro @mx_eq (And.intro @mn_eq (And.intro @bs_eq (And.intro @cl_some (And.intro @pt_nil (And.intro @pt_cons (And.intro @px_some (And.intro @bu_eq (And.intro @bx_some (And.intro @ag_some (And.intro @fl_nil (And.intro @fl_cons (And.intro @fx_some (And.intro @cv_int (And.intro @cx_some (And.intro @ik_some (And.intro @fn_some (And.intro @cs_nil (And.intro @cs_cons (And.intro @so_eq (And.intro @sy_some (And.intro @sx_some (And.intro @dsl_sl (And.intro @dsl_clip (And.intro @lo_none (And.intro @lo_some (And.intro @hi_none (@hi_some)))))))))))))))))))))))))))))
theorem pm_6 : type_of% (And.intro @sl_2 (And.intro @sl_3 (And.intro @ce_one (And.intro @ce_agg (And.intro @ce_clip (And.intro @ok_int (And.intro @ok_bool (And.intro @ok_str (And.intro @ok_map (And.intro @ok_np (And.intro @ok_lsl (And.intro @ok_sl (And.intro @ok_ptr (And.intro @ok_fn (And.intro @ds_nil (And.intro @ds_cons (And.intro @cp_eq (And.intro @cp_s (And.intro @cp_x (And.intro @co_eq (And.intro @co_z (And.intro @co_y (And.intro @ca_fn (And.intro @ra_slot (And.intro @ra_cell (And.intro @r_one (And.intro @r_two (And.intro @r_no (And.intro @bv_add (@bv_sub)))))))))))))))))))))))))))))) := And.intro @sl_2 (And.intro @sl_3 (And.intro @ce_one (And.intro @ce_agg (And.intro @ce_clip (And.intro @ok_int (And.intro @ok_bool (And.intro @ok_str (And.intro @ok_map (And.intro @ok_np (And.intro @ok_lsl (And.intro @ok_sl (And.intro @ok_ptr (And.intro @ok_fn (And.intro @ds_nil (And.intro @ds_cons (And.intro @cp_eq (And.intro @cp_s (And.intro @cp_x (And.intro @co_eq (And.intro @co_z (And.intro @co_y (And.intro @ca_fn (And.intro @ra_slot (And.intro @ra_cell (And.intro @r_one (And.intro @r_two (And.intro @r_no (And.intro @bv_add (@bv_sub)))))))))))))))))))))))))))))
theorem pm_7 : type_of% (And.intro @bv_mul (And.intro @bv_lss (And.intro @bv_leq (And.intro @bv_gtr (And.intro @bv_geq (And.intro @bv_eql (And.intro @bv_neq (And.intro @bw_lss (And.intro @bw_leq (And.intro @bw_gtr (And.intro @bw_geq (And.intro @bw_eql (And.intro @bw_neq (And.intro @bs_eql (And.intro @bs_neq (And.intro @bs_lss (And.intro @bb_eql (And.intro @bb_neq (And.intro @bb_t (And.intro @bv_and (And.intro @bv_or (And.intro @bv_xor (And.intro @bv_andNot (And.intro @bv_shl (And.intro @bv_shr (And.intro @bv_quo (And.intro @bv_rem (And.intro @bs_add (And.intro @fa_lit (@nl_lit)))))))))))))))))))))))))))))) := And.intro @bv_mul (And.intro @bv_lss (And.intro @bv_leq (And.intro @bv_gtr (And.intro @bv_geq (And.intro @bv_eql (And.intro @bv_neq (And.intro @bw_lss (And.intro @bw_leq (And.intro @bw_gtr (And.intro @bw_geq (And.intro @bw_eql (And.intro @bw_neq (And.intro @bs_eql (And.intro @bs_neq (And.intro @bs_lss (And.intro @bb_eql (And.intro @bb_neq (And.intro @bb_t (And.intro @bv_and (And.intro @bv_or (And.intro @bv_xor (And.intro @bv_andNot (And.intro @bv_shl (And.intro @bv_shr (And.intro @bv_quo (And.intro @bv_rem (And.intro @bs_add (And.intro @fa_lit (@nl_lit)))))))))))))))))))))))))))))
theorem pm_8 : type_of% (And.intro @nr_ptr (And.intro @nr_sl (And.intro @nr_p (And.intro @nr_s (And.intro @nr_c (And.intro @nr_i (And.intro @nr_str (And.intro @nr_ref (And.intro @nr_buf (And.intro @nr_row (And.intro @vk_nil (And.intro @vk_pin (And.intro @vk_var (And.intro @vk_buf (And.intro @vk_set (And.intro @bk_nil (And.intro @bk_pin (And.intro @bk_buf (And.intro @bk_var (And.intro @bk_set (And.intro @nv_some (And.intro @nv_none (And.intro @nv_pin (And.intro @nb_key (And.intro @nb_no (And.intro @nb_pin (And.intro @rn_0 (And.intro @rn_n (And.intro @rn_g (@st_o)))))))))))))))))))))))))))))) := And.intro @nr_ptr (And.intro @nr_sl (And.intro @nr_p (And.intro @nr_s (And.intro @nr_c (And.intro @nr_i (And.intro @nr_str (And.intro @nr_ref (And.intro @nr_buf (And.intro @nr_row (And.intro @vk_nil (And.intro @vk_pin (And.intro @vk_var (And.intro @vk_buf (And.intro @vk_set (And.intro @bk_nil (And.intro @bk_pin (And.intro @bk_buf (And.intro @bk_var (And.intro @bk_set (And.intro @nv_some (And.intro @nv_none (And.intro @nv_pin (And.intro @nb_key (And.intro @nb_no (And.intro @nb_pin (And.intro @rn_0 (And.intro @rn_n (And.intro @rn_g (@st_o)))))))))))))))))))))))))))))
theorem pm_9 : type_of% (And.intro @ms_nil (And.intro @ms_cons (And.intro @lv_ref (And.intro @lv_d (And.intro @lv_buf (And.intro @lv_row (And.intro @lv_tup (And.intro @lv_no (And.intro @lv_un (And.intro @lb_buf (And.intro @lb_d (And.intro @lb_ref (And.intro @lb_row (And.intro @lb_tup (And.intro @lb_no (And.intro @lb_un (And.intro @kk_nil (And.intro @kk_cons (And.intro @rr_nil (And.intro @rr_cons (And.intro @zm_cons (And.intro @zm_nil (And.intro @zm_nl (And.intro @gt_nil (And.intro @gt_cons (And.intro @gt_c (And.intro @pn_var (And.intro @pn_buf (And.intro @pn_set (@dc_sl)))))))))))))))))))))))))))))) := And.intro @ms_nil (And.intro @ms_cons (And.intro @lv_ref (And.intro @lv_d (And.intro @lv_buf (And.intro @lv_row (And.intro @lv_tup (And.intro @lv_no (And.intro @lv_un (And.intro @lb_buf (And.intro @lb_d (And.intro @lb_ref (And.intro @lb_row (And.intro @lb_tup (And.intro @lb_no (And.intro @lb_un (And.intro @kk_nil (And.intro @kk_cons (And.intro @rr_nil (And.intro @rr_cons (And.intro @zm_cons (And.intro @zm_nil (And.intro @zm_nl (And.intro @gt_nil (And.intro @gt_cons (And.intro @gt_c (And.intro @pn_var (And.intro @pn_buf (And.intro @pn_set (@dc_sl)))))))))))))))))))))))))))))
theorem pm_10 : type_of% (And.intro @dc_int (And.intro @dc_str (And.intro @dc_bool (And.intro @dc_ptr (And.intro @dc_map (And.intro @dc_s (And.intro @dc_p (And.intro @dc_f (And.intro @da_one (And.intro @da_agg (And.intro @da_ref (And.intro @dx_nil (And.intro @dx_cons (And.intro @dm_nil (And.intro @dm_cons (And.intro @dv_var (And.intro @rd_nil (And.intro @rd_cons (And.intro @co_some (@ud_d)))))))))))))))))))) := And.intro @dc_int (And.intro @dc_str (And.intro @dc_bool (And.intro @dc_ptr (And.intro @dc_map (And.intro @dc_s (And.intro @dc_p (And.intro @dc_f (And.intro @da_one (And.intro @da_agg (And.intro @da_ref (And.intro @dx_nil (And.intro @dx_cons (And.intro @dm_nil (And.intro @dm_cons (And.intro @dv_var (And.intro @rd_nil (And.intro @rd_cons (And.intro @co_some (@ud_d)))))))))))))))))))
theorem pm_11 : type_of% (And.intro @t_agg (And.intro @toC_int (And.intro @toC_str (And.intro @toC_bool (And.intro @toC_sl @toC_ptr))))) := (And.intro @t_agg (And.intro @toC_int (And.intro @toC_str (And.intro @toC_bool (And.intro @toC_sl @toC_ptr)))))
end Go.Proofs.YtpbikjkjfojjiaaGreat
namespace Go.Proofs.YtpbikjkjfojjiaaGreat
open Go.RowKit
def headS : List Nat → List (Nat × A) → List (Nat × A)
  | _, [] => []
  | ds, (k, a) :: r => if ds.elem k then headS ds r else (k, a) :: headS (k :: ds) r
def headM : List Nat → List (Nat × Bk) → List (Nat × Bk)
  | _, [] => []
  | ds, (k, a) :: r => if ds.elem k then headM ds r else (k, a) :: headM (k :: ds) r
theorem weakS_of {s t : List (Nat × A)} (h : ∀ p ∈ t, gs s p.1 = p.2) : weakS s t := by
  induction t with
  | nil => exact trivial
  | cons p r ih => exact ⟨h p List.mem_cons_self, ih fun q hq => h q (List.mem_cons_of_mem _ hq)⟩
theorem weakM_of {s t : List (Nat × Bk)} (h : ∀ p ∈ t, gm s p.1 = some p.2) : weakM s t := by
  induction t with
  | nil => exact trivial
  | cons p r ih => exact ⟨h p List.mem_cons_self, ih fun q hq => h q (List.mem_cons_of_mem _ hq)⟩
theorem headS_mem : ∀ {s : List (Nat × A)} {ds : List Nat} {p : Nat × A}, p ∈ headS ds s → ds.elem p.1 = false ∧ gs s p.1 = p.2 := by
  intro s
  induction s with
  | nil => intro ds p h; cases h
  | cons q r ih =>
    intro ds p h
    obtain ⟨k, a⟩ := q
    simp only [headS] at h
    by_cases hk : ds.elem k = true
    · rw [if_pos hk] at h
      have := ih h
      refine ⟨this.1, ?_⟩
      rw [gs, if_neg ?_]
      · exact this.2
      · intro e; rw [e] at this; rw [hk] at this; cases this.1
    · rw [if_neg hk] at h
      rcases List.mem_cons.1 h with rfl | h
      · exact ⟨by simpa using hk, by simp [gs]⟩
      · have := ih h
        have h1 := this.1
        rw [List.elem_cons] at h1
        have hne : ¬ p.1 = k := by intro e; simp [e] at h1
        refine ⟨?_, ?_⟩
        · cases hb : (p.1 == k) with
          | true => rw [hb] at h1; cases h1
          | false => rw [hb] at h1; exact h1
        · rw [gs, if_neg hne]; exact this.2
theorem headM_mem : ∀ {s : List (Nat × Bk)} {ds : List Nat} {p : Nat × Bk}, p ∈ headM ds s → ds.elem p.1 = false ∧ gm s p.1 = some p.2 := by
  intro s
  induction s with
  | nil => intro ds p h; cases h
  | cons q r ih =>
    intro ds p h
    obtain ⟨k, a⟩ := q
    simp only [headM] at h
    by_cases hk : ds.elem k = true
    · rw [if_pos hk] at h
      have := ih h
      refine ⟨this.1, ?_⟩
      rw [gm, if_neg ?_]
      · exact this.2
      · intro e; rw [e] at this; rw [hk] at this; cases this.1
    · rw [if_neg hk] at h
      rcases List.mem_cons.1 h with rfl | h
      · exact ⟨by simpa using hk, by simp [gm]⟩
      · have := ih h
        have h1 := this.1
        rw [List.elem_cons] at h1
        have hne : ¬ p.1 = k := by intro e; simp [e] at h1
        refine ⟨?_, ?_⟩
        · cases hb : (p.1 == k) with
          | true => rw [hb] at h1; cases h1
          | false => rw [hb] at h1; exact h1
        · rw [gm, if_neg hne]; exact this.2
theorem weakS_append {s a b : List (Nat × A)} : weakS s (a ++ b) ↔ weakS s a ∧ weakS s b := by
  induction a with
  | nil => simp [weakS]
  | cons p r ih => simp [weakS, ih, and_assoc]
theorem weakM_append {s a b : List (Nat × Bk)} : weakM s (a ++ b) ↔ weakM s a ∧ weakM s b := by
  induction a with
  | nil => simp [weakM]
  | cons p r ih => simp [weakM, ih, and_assoc]
/-- A loop: at its head the slots are as ahead of it, but for those of ds, which are as us says. -/
theorem pwp_loopU {e : Env} {mask : Nat} {Q : PX → St → Prop} {c : Code} {s : List (Nat × A)} {m : List (Nat × Bk)} {ι : Type} (ds dm : List Nat) (us : ι → List (Nat × A)) (ms : ι → List (Nat × Bk)) (ok : ι → Prop) (μ : ι → Nat) (x0 : ι)
    {s0 : List (Nat × A)} {m0 : List (Nat × Bk)} (hs0 : headS ds s = s0) (hm0 : headM dm m = m0) {ss : ι → List (Nat × A)} {mm : ι → List (Nat × Bk)} (hss : ∀ x, us x ++ s0 = ss x) (hmm : ∀ x, ms x ++ m0 = mm x) (hs : weakS s (us x0)) (hm : weakM m (ms x0)) (h0 : ok x0)
    (hr : ∀ x, ok x → pwp e mask c ⟨ss x, mm x⟩ (fun p σ'' => match p with
      | .normal => ∃ y, ok y ∧ weakS σ''.s (ss y) ∧ weakM σ''.m (mm y) ∧ μ y < μ x
      | p => Q p σ'')) : pwp e mask (.loop c) ⟨s, m⟩ Q := by
  refine pwp_loop (fun x => ⟨ss x, mm x⟩) ok μ x0 h0 ?_ ?_ hr
  · show weakS s (ss x0)
    rw [← hss, weakS_append, ← hs0]
    exact ⟨hs, weakS_of fun p hp => (headS_mem hp).2⟩
  · show weakM m (mm x0)
    rw [← hmm, weakM_append, ← hm0]
    exact ⟨hm, weakM_of fun p hp => (headM_mem hp).2⟩
theorem region_0k {e : Env} {mask : Nat} {Q : PX → St → Prop} {σ : St} {id : Nat} {l : List Oper} (h : ∀ ds, l.map (·.dst) = ds → Runs e ds 0 l σ (TrimK mask Q)) : pwp e mask (.region id l.toArray false) σ Q := region_0 rfl (h _ rfl)
theorem region_Dk {e : Env} {mask : Nat} {Q : PX → St → Prop} {σ : St} {id : Nat} {l : List Oper} (n : Nat) (hr : regX l.toArray n = true) (h : ∀ ds, l.map (·.dst) = ds → Runs e ds n l σ (TrimK mask Q)) : pwp e mask (.region id l.toArray true) σ Q := region_D n hr rfl (h _ rfl)
theorem trimS_n {mask : Nat} : trimS mask [] = [] := rfl
theorem trimS_c {mask k : Nat} {a : A} {r : List (Nat × A)} : trimS mask ((k, a) :: r) = if mask.testBit k = true then (k, a) :: trimS mask r else trimS mask r := rfl
theorem tb_eq {m n : Nat} : m.testBit n = ((1 &&& (m >>> n)) != 0) := rfl
/-- The end of a region, the slots that are not asked any more left out. -/
def endR (mask : Nat) : Res → Option (List (Nat × A) × List (Nat × Bk))
  | .done σ => some (trimS mask σ.s, σ.m)
  | _ => none
theorem endR_d {mask : Nat} {s : List (Nat × A)} {m : List (Nat × Bk)} : endR mask (.done ⟨s, m⟩) = some (trimS mask s, m) := rfl
theorem reT {e : Env} {mask : Nat} {Q : PX → St → Prop} {ds : List (Option Nat)} {n : Nat} {os : List Oper} {σ : St} {s2 : List (Nat × A)} {m2 : List (Nat × Bk)} (h : endR mask (runOps e.P ds n os σ) = some (s2, m2)) (hQ : Q .normal ⟨s2, m2⟩) : Runs e ds n os σ (TrimK mask Q) := by
  cases hr : runOps e.P ds n os σ with
  | bad => rw [hr] at h; cases h
  | call q c args d n' os' σ' => rw [hr] at h; cases h
  | map q d n' os' σ' => rw [hr] at h; cases h
  | stop n' os' σ' => rw [hr] at h; cases h
  | done σ' =>
    rw [hr] at h
    simp only [endR, Option.some.injEq, Prod.mk.injEq] at h
    obtain ⟨h1, h2⟩ := h
    refine runs_done hr ?_
    unfold TrimK
    rw [h1, h2]
    exact hQ
/-- A call, with what it is given. -/
def callOf : Res → Option (FuncId × List D × Option Nat × Nat × List Oper × St)
  | .call q c args d n os σ => (callP q c args σ).map (fun x => (x.1, x.2.1, d, n, os, x.2.2))
  | _ => none
theorem callOf_c {q : Bool} {c : Operand} {args : List Operand} {d : Option Nat} {n : Nat} {os : List Oper} {σ : St} : callOf (.call q c args d n os σ) = (callP q c args σ).map (fun x => (x.1, x.2.1, d, n, os, x.2.2)) := rfl
theorem rcT {e : Env} {K : St → Prop} {ds : List (Option Nat)} {n n' : Nat} {os os' : List Oper} {σ : St} {f : FuncId} {xs : List D} {d : Option Nat} {r : List D} {s2 s3 : List (Nat × A)} {m2 : List (Nat × Bk)} (h : callOf (runOps e.P ds n os σ) = some (f, xs, d, n', os', ⟨s2, m2⟩)) (hc : Con e f xs r) (h2 : setA s2 d (retA r) = s3) (hK : Runs e ds n' os' ⟨s3, m2⟩ K) : Runs e ds n os σ K := by
  cases hr : runOps e.P ds n os σ with
  | bad => rw [hr] at h; cases h
  | done σ' => rw [hr] at h; cases h
  | map q d n' os' σ' => rw [hr] at h; cases h
  | stop n' os' σ' => rw [hr] at h; cases h
  | call q c args d1 n1 os1 σ1 =>
    rw [hr] at h
    simp only [callOf, Option.map_eq_some_iff, Prod.mk.injEq] at h
    obtain ⟨⟨f', xs', σ2⟩, h1, rfl, rfl, rfl, rfl, rfl, h3⟩ := h
    simp only at h3
    subst h3
    exact runs_go hr h1 hc h2 hK
theorem wkI {e : Env} {mask : Nat} {Q : PX → St → Prop} {σ : St} {c : Code} (h : pwp e mask c σ Q) : ∃ σ1, Wk σ σ1 ∧ pwp e mask c σ1 Q := ⟨σ, Wk.refl σ, h⟩
theorem ret_E {σ : St} {P : Program} {ts : List RS} {R : List D → Prop} (ks : List Nat) (r : List D) {σ1 : St} (hr : R r) (hf : frzs ks σ = σ1) (h : resOk P σ1 ts r) : retQE P ts R .ret σ := ⟨ks, r, hr, by rw [hf]; exact h⟩
theorem Wk.trans {a b c : St} (h : Wk a b) (k : Wk b c) : Wk a c := by
  refine ⟨fun t => ?_, fun t x hx => h.2 t x (k.2 t x hx)⟩
  rcases k.1 t with q | q
  · rcases h.1 t with r | r
    · exact .inl (q.trans r)
    · exact .inr (q.trans r)
  · exact .inr q
/-- The ways through a code meet in states that differ from the one ahead in a few slots. -/
theorem pwp_meetU {e : Env} {mask : Nat} {Q : PX → St → Prop} {a : Code} {s : List (Nat × A)} {m : List (Nat × Bk)} {ι : Type} (hQ : ∀ σ σ1, Wk σ σ1 → Q .normal σ1 → Q .normal σ) (ds dm : List Nat) (us : ι → List (Nat × A)) (ms : ι → List (Nat × Bk)) (R : ι → Prop)
    {s0 : List (Nat × A)} {m0 : List (Nat × Bk)} (hs0 : headS ds s = s0) (hm0 : headM dm m = m0) {ss : ι → List (Nat × A)} {mm : ι → List (Nat × Bk)} (hss : ∀ x, us x ++ s0 = ss x) (hmm : ∀ x, ms x ++ m0 = mm x)
    (h : pwp e mask a ⟨s, m⟩ (fun x σ' => match x with
      | .normal => ∃ y, R y ∧ weakS σ'.s (ss y) ∧ weakM σ'.m (mm y)
      | x => Q x σ')) (hb : ∀ x, R x → Q .normal ⟨ss x, mm x⟩) : pwp e mask a ⟨s, m⟩ Q := by
  refine pwp_mono (fun p σ' hq => ?_) a _ h
  cases p with
  | normal =>
    obtain ⟨y, h1, h2, h3⟩ := hq
    exact hQ _ _ ⟨fun t => gs_weakS h2, fun t x => gm_weakM h3⟩ (hb y h1)
  | exit id => exact hq
  | ret => exact hq
end Go.Proofs.YtpbikjkjfojjiaaGreat
namespace Go.Proofs.YtpbikjkjfojjiaaGreat
open Go.RowKit
noncomputable def e0 : Env := ⟨Tryz.prog, fun _ => False, fun _ => True, False⟩
/-- The same, where it is told that no draw is undone. -/
noncomputable def e1 : Env := ⟨Tryz.prog, fun _ => False, fun _ => True, True⟩
theorem e1P : e1.P = Tryz.prog := rfl
theorem e1_ok : e1.Ok := ⟨fun _ _ _ _ _ => trivial, by kernel_rfl⟩
theorem con_1 {f : FuncId} {args r : List D} (h : Con e1 f args r) : Con e0 f args r :=
  ⟨h.1, fun w S vs hS hE hG hvs => (h.2 w S vs hS hE hG hvs).mono fun en w' ⟨v, h1, h2, h3, h4⟩ => ⟨v, h1, ⟨h2.os, h2.tape, h2.output, fun d => d.elim, h2.size, h2.block⟩, h3, h4⟩⟩
theorem e0P : e0.P = Tryz.prog := rfl
theorem e0_ok : e0.Ok := ⟨fun _ _ _ _ _ => trivial, by kernel_rfl⟩
/-- A contract in terms of worlds, as a contract of the plain machine. -/
theorem con_below {e : Env} (he : e.Ok) {f : FuncId} {args r : List D} (hb : hasBody e.P f = true)
    (h : ∀ (w : World) (S : Nat → Prop) (vs : List Value), DsRel w S args vs → Calls e.P f vs.toArray w fun en w' => ∃ v, en = .returned v ∧ Below w.heap.size w w' ∧ ARel w' (fun b => S b ∨ (w.heap.size ≤ b ∧ b < w'.heap.size)) ⟨fun _ => 0, fun _ => Go.undef⟩ (retA r) v) (hD : ¬ e.D := by exact id) : Con e f args r := by
  refine ⟨hb, fun w S vs hS hE hG hvs => (h w S vs hvs).mono fun en w' ⟨v, h1, h2, h3⟩ => ⟨v, h1, Kept.of_below h2 (fun d => (hD d).elim), he.keep _ _ h2.size (fun b hb => h2.block b (hE b hb)) hG, ?_⟩⟩
  exact h3
theorem rowsB_map {α : Type} {e : α → List C} {n : Nat} (h : ∀ a, ((e a).length == n && (e a).all okCell) = true) (l : List α) : rowsB n (l.map e) = true := by
  unfold rowsB
  rw [List.all_map]
  exact List.all_eq_true.2 fun a _ => h a
theorem rowsB_nil {n : Nat} : rowsB n [] = true := rfl
theorem rowsB_cons {n : Nat} {r : List C} {rs : List (List C)} : rowsB n (r :: rs) = (r.length == n && r.all okCell && rowsB n rs) := rfl
theorem rb_int (l : List Int) : rowsB 1 (l.map encInt) = true := rowsB_map (e := encInt) (n := 1) (fun _ => rfl) l
theorem rb_str (l : List ByteArray) : rowsB 1 (l.map encStr) = true := rowsB_map (e := encStr) (n := 1) (fun _ => rfl) l
theorem rb_sub (l : List (Int × Int)) : rowsB 2 (l.map encSub) = true := rowsB_map (e := encSub) (n := 2) (fun _ => rfl) l
theorem rb_dcl (l : List Dcl) : rowsB 2 (l.map encDcl) = true := rowsB_map (e := encDcl) (n := 2) (fun _ => rfl) l
theorem rb_opr (l : List Opr) : rowsB 5 (l.map encOpr) = true := rowsB_map (e := encOpr) (n := 5) (fun _ => rfl) l
theorem rb_ints (l : List (List Int)) : rowsB 1 (l.map encInts) = true := rowsB_map (e := encInts) (n := 1) (fun _ => rfl) l
theorem wrapN {a b : Int} (h : a = b) (h1 : -9223372036854775808 ≤ b) (h2 : b ≤ 9223372036854775807) : IntKind.i64.wrap a = b := by rw [h]; exact IntWalk.i64_in _ ⟨h1, h2⟩
theorem wrap1 {k : Nat} (h : k < 9223372036854775807) : IntKind.i64.wrap ((k : Int) + 1) = ((k + 1 : Nat) : Int) := wrapN (by omega) (by omega) (by omega)
theorem bqtt : (true == true) = true := rfl
theorem bqtf : (true == false) = false := rfl
theorem bqft : (false == true) = false := rfl
theorem bqff : (false == false) = true := rfl
theorem natInt (n : Nat) : (n : Int).toNat = n := Int.toNat_natCast n
theorem gs_n {t : Nat} : gs [] t = .undef := rfl
theorem gs_c {k t : Nat} {a : A} {r : List (Nat × A)} : gs ((k, a) :: r) t = if t = k then a else gs r t := rfl
theorem gm_n {t : Nat} : gm [] t = none := rfl
theorem gm_c {k t : Nat} {a : Bk} {r : List (Nat × Bk)} : gm ((k, a) :: r) t = if t = k then some a else gm r t := rfl
theorem initS_n {k : Nat} : initS k [] = [] := rfl
theorem initS_c {k : Nat} {d : D} {r : List D} : initS k (d :: r) = (k, .d d) :: initS (k + 1) r := rfl
theorem pz : type_of% (And.intro @tt_0 (And.intro @tt_1 (And.intro @tt_2 (And.intro @tt_3 (And.intro @tt_4 (And.intro @tt_5 (And.intro @tt_6 (And.intro @tt_7 (And.intro @pm_0 (And.intro @pm_1 (And.intro @pm_2 (And.intro @pm_3 (And.intro @pm_4 (And.intro @pm_5 (And.intro @pm_6 (And.intro @pm_7 (And.intro @pm_8 (And.intro @pm_9 (And.intro @pm_10 (And.intro @pm_11 (And.intro @e0P (And.intro @e1P (And.intro @gs_n (And.intro @gs_c (And.intro @gm_n (And.intro @gm_c (And.intro @initS_n (And.intro @initS_c (And.intro @rb_int (And.intro @rb_str (And.intro @rb_sub (And.intro @rb_dcl (And.intro @rb_opr (And.intro @rb_ints (And.intro @rowsB_nil (And.intro @rowsB_cons (And.intro @bqtt (And.intro @bqtf (And.intro @bqft (And.intro @bqff (And.intro @Bool.and_self (And.intro @Bool.or_true (And.intro @Bool.true_or (And.intro @Bool.or_false (And.intro @Bool.false_or (And.intro @Nat.zero_add (And.intro @Nat.add_zero (And.intro @and_self (And.intro @true_and (And.intro @and_true (And.intro @Bool.not_true (And.intro @Bool.not_false (And.intro @natInt (And.intro @trimS_n (And.intro @trimS_c (And.intro @tb_eq (And.intro @endR_d (And.intro @callOf_c (And.intro @Int.natCast_nonneg (And.intro @Int.toNat_zero (And.intro @Int.toNat_one (And.intro @Nat.le_refl (And.intro @List.map_nil.{0, 0} (And.intro @List.getElem?_cons_zero.{0} (And.intro @List.getElem?_cons_succ.{0} (And.intro @List.drop_succ_cons.{0} (And.intro @List.drop_zero.{0} (And.intro @List.drop_nil.{0} (And.intro @List.take_succ_cons.{0} (And.intro @List.take_zero.{0} (And.intro @List.length_cons.{0} (And.intro @List.length_nil.{0} (And.intro @List.length_append.{0} (And.intro @List.all_cons.{0} (And.intro @List.all_nil.{0} (And.intro @List.isEmpty_cons.{0} (And.intro @List.isEmpty_nil.{0} (And.intro @List.cons_append.{0} (And.intro @List.nil_append.{0} (And.intro @List.append_nil.{0} (And.intro @Option.map_some.{0, 0} (And.intro @Option.map_none.{0, 0} (And.intro @Option.join_some.{0} (And.intro @Option.getD_some.{0} (And.intro @Option.isNone_none.{0} (And.intro @Option.isNone_some.{0} (And.intro @Option.isSome_none.{0} (And.intro @Option.isSome_some.{0} (And.intro @List.map_cons.{0, 0} (And.intro @List.length_map.{0, 0} (@List.getElem?_map.{0, 0}))))))))))))))))))))))))))))))))))))))))))))))))))))))))))))))))))))))))))))))))))))))))))) := And.intro @tt_0 (And.intro @tt_1 (And.intro @tt_2 (And.intro @tt_3 (And.intro @tt_4 (And.intro @tt_5 (And.intro @tt_6 (And.intro @tt_7 (And.intro @pm_0 (And.intro @pm_1 (And.intro @pm_2 (And.intro @pm_3 (And.intro @pm_4 (And.intro @pm_5 (And.intro @pm_6 (And.intro @pm_7 (And.intro @pm_8 (And.intro @pm_9 (And.intro @pm_10 (And.intro @pm_11 (And.intro @e0P (And.intro @e1P (And.intro @gs_n (And.intro @gs_c (And.intro @gm_n (And.intro @gm_c (And.intro @initS_n (And.intro @initS_c (And.intro @rb_int (And.intro @rb_str (And.intro @rb_sub (And.intro @rb_dcl (And.intro @rb_opr (And.intro @rb_ints (And.intro @rowsB_nil (And.intro @rowsB_cons (And.intro @bqtt (And.intro @bqtf (And.intro @bqft (And.intro @bqff (And.intro @Bool.and_self (And.intro @Bool.or_true (And.intro @Bool.true_or (And.intro @Bool.or_false (And.intro @Bool.false_or (And.intro @Nat.zero_add (And.intro @Nat.add_zero (And.intro @and_self (And.intro @true_and (And.intro @and_true (And.intro @Bool.not_true (And.intro @Bool.not_false (And.intro @natInt (And.intro @trimS_n (And.intro @trimS_c (And.intro @tb_eq (And.intro @endR_d (And.intro @callOf_c (And.intro @Int.natCast_nonneg (And.intro @Int.toNat_zero (And.intro @Int.toNat_one (And.intro @Nat.le_refl (And.intro @List.map_nil.{0, 0} (And.intro @List.getElem?_cons_zero.{0} (And.intro @List.getElem?_cons_succ.{0} (And.intro @List.drop_succ_cons.{0} (And.intro @List.drop_zero.{0} (And.intro @List.drop_nil.{0} (And.intro @List.take_succ_cons.{0} (And.intro @List.take_zero.{0} (And.intro @List.length_cons.{0} (And.intro @List.length_nil.{0} (And.intro @List.length_append.{0} (And.intro @List.all_cons.{0} (And.intro @List.all_nil.{0} (And.intro @List.isEmpty_cons.{0} (And.intro @List.isEmpty_nil.{0} (And.intro @List.cons_append.{0} (And.intro @List.nil_append.{0} (And.intro @List.append_nil.{0} (And.intro @Option.map_some.{0, 0} (And.intro @Option.map_none.{0, 0} (And.intro @Option.join_some.{0} (And.intro @Option.getD_some.{0} (And.intro @Option.isNone_none.{0} (And.intro @Option.isNone_some.{0} (And.intro @Option.isSome_none.{0} (And.intro @Option.isSome_some.{0} (And.intro @List.map_cons.{0, 0} (And.intro @List.length_map.{0, 0} (@List.getElem?_map.{0, 0}))))))))))))))))))))))))))))))))))))))))))))))))))))))))))))))))))))))))))))))))))))))))))
end Go.Proofs.YtpbikjkjfojjiaaGreat
namespace Go.Proofs.YtpbikjkjfojjiaaGreat
open Go.RowKit
theorem encInt_u : ∀ n, encInt n = [.lit (.int .i64 n)] := fun _ => rfl
theorem encDcl_u : ∀ d, encDcl d = [.sl (d.args.map encInt), .lit (.int .i64 d.res)] := fun _ => rfl
theorem encOpr_u : ∀ o, encOpr o = [.lit (.string o.name), .sl (o.decls.map encDcl), .lit (.bool o.assoc), .lit (.bool o.comm), .lit (.int .i64 o.unit)] := fun _ => rfl
theorem encSgn_u : ∀ s, encSgn s = [.sl (s.sorts.names.map encStr), .sl (s.sorts.subs.map encSub), .sl (s.ops.map encOpr)] := fun _ => rfl
theorem encInts_u : ∀ l, encInts l = [.sl (l.map encInt)] := fun _ => rfl
theorem encAlg_u : ∀ a, encAlg a = [.lit (.int .i64 a.size), .sl (a.tables.map encInts)] := fun _ => rfl
theorem retA_u : ∀ x, retA [x] = .d x := fun _ => rfl
/-- Into the region at hand. -/
theorem gB {X Y : Prop} (b : Y) (h : Y → X := by
  intro b
  first
    | with_reducible refine region_0k ?_
    | (first
      | refine region_Dk 1 (by decide +kernel) ?_
      | refine region_Dk 2 (by decide +kernel) ?_
      | refine region_Dk 3 (by decide +kernel) ?_
      | refine region_Dk 4 (by decide +kernel) ?_
      | refine region_Dk 5 (by decide +kernel) ?_
      | refine region_Dk 6 (by decide +kernel) ?_
      | refine region_Dk 7 (by decide +kernel) ?_
      | refine region_Dk 8 (by decide +kernel) ?_
      | refine region_Dk 9 (by decide +kernel) ?_
      | refine region_Dk 10 (by decide +kernel) ?_
      | refine region_Dk 11 (by decide +kernel) ?_
      | refine region_Dk 12 (by decide +kernel) ?_
      | refine region_Dk 13 (by decide +kernel) ?_
      | refine region_Dk 14 (by decide +kernel) ?_
      | refine region_Dk 15 (by decide +kernel) ?_
      | refine region_Dk 16 (by decide +kernel) ?_
      | refine region_Dk 17 (by decide +kernel) ?_
      | refine region_Dk 18 (by decide +kernel) ?_
      | refine region_Dk 19 (by decide +kernel) ?_
      | refine region_Dk 20 (by decide +kernel) ?_
      | refine region_Dk 21 (by decide +kernel) ?_
      | refine region_Dk 22 (by decide +kernel) ?_
      | refine region_Dk 23 (by decide +kernel) ?_
      | refine region_Dk 24 (by decide +kernel) ?_
      | refine region_Dk 25 (by decide +kernel) ?_
      | refine region_Dk 26 (by decide +kernel) ?_
      | refine region_Dk 27 (by decide +kernel) ?_
      | refine region_Dk 28 (by decide +kernel) ?_
      | refine region_Dk 29 (by decide +kernel) ?_
      | refine region_Dk 30 (by decide +kernel) ?_
      | refine region_Dk 31 (by decide +kernel) ?_
      | refine region_Dk 32 (by decide +kernel) ?_
      | refine region_Dk 33 (by decide +kernel) ?_
      | refine region_Dk 34 (by decide +kernel) ?_
      | refine region_Dk 35 (by decide +kernel) ?_
      | refine region_Dk 36 (by decide +kernel) ?_
      | refine region_Dk 37 (by decide +kernel) ?_
      | refine region_Dk 38 (by decide +kernel) ?_
      | refine region_Dk 39 (by decide +kernel) ?_
      | refine region_Dk 40 (by decide +kernel) ?_
      | refine region_Dk 41 (by decide +kernel) ?_
      | refine region_Dk 42 (by decide +kernel) ?_
      | refine region_Dk 43 (by decide +kernel) ?_
      | refine region_Dk 44 (by decide +kernel) ?_
      | refine region_Dk 45 (by decide +kernel) ?_
      | refine region_Dk 46 (by decide +kernel) ?_
      | refine region_Dk 47 (by decide +kernel) ?_
      | refine region_Dk 48 (by decide +kernel) ?_
      | refine region_Dk 49 (by decide +kernel) ?_
      | refine region_Dk 50 (by decide +kernel) ?_
      | refine region_Dk 51 (by decide +kernel) ?_
      | refine region_Dk 52 (by decide +kernel) ?_
      | refine region_Dk 53 (by decide +kernel) ?_
      | refine region_Dk 54 (by decide +kernel) ?_
      | refine region_Dk 55 (by decide +kernel) ?_
      | refine region_Dk 56 (by decide +kernel) ?_
      | refine region_Dk 57 (by decide +kernel) ?_
      | refine region_Dk 58 (by decide +kernel) ?_
      | refine region_Dk 59 (by decide +kernel) ?_
      | refine region_Dk 60 (by decide +kernel) ?_
      | refine region_Dk 61 (by decide +kernel) ?_
      | refine region_Dk 62 (by decide +kernel) ?_
      | refine region_Dk 63 (by decide +kernel) ?_
      | refine region_Dk 64 (by decide +kernel) ?_)
  intro ds hds
  simp only [List.map] at hds
  subst hds
  exact b) : X := h b
/-- A call in the region at hand. -/
theorem gC {X Y Z : Prop} (c : Z) (b : Y) (h : Z → Y → X := by
  intro c b
  refine rcT (by simp only [pz, ↓reduceIte, Nat.reduceEqDiff, Nat.reduceAdd, Nat.reduceSub, Nat.reduceMul, Nat.reduceLeDiff, Nat.reduceBEq, Bool.false_eq_true, decide_true, decide_false, Int.reduceLE, Int.reduceToNat, Int.reduceLT, Int.reduceEq, eq_self, Nat.reduceShiftRight, Nat.reduceAnd, Nat.reduceBneDiff, F]; exact rfl) c (by simp only [setA, retA]; exact rfl) ?_
  exact b) : X := h c b
/-- A call that gives one of several data. -/
theorem gCE {X Y Z : Prop} (c : Z) (b : Y) (h : Z → Y → X := by
  intro c b
  refine runs_goE (by simp only [pz, ↓reduceIte, Nat.reduceEqDiff, Nat.reduceAdd, Nat.reduceSub, Nat.reduceMul, Nat.reduceLeDiff, Nat.reduceBEq, Bool.false_eq_true, decide_true, decide_false, Int.reduceLE, Int.reduceToNat, Int.reduceLT, Int.reduceEq, eq_self, Nat.reduceShiftRight, Nat.reduceAnd, Nat.reduceBneDiff, F]; exact rfl) (by simp only [pz, ↓reduceIte, Nat.reduceEqDiff, Nat.reduceAdd, Nat.reduceSub, Nat.reduceMul, Nat.reduceLeDiff, Nat.reduceBEq, Bool.false_eq_true, decide_true, decide_false, Int.reduceLE, Int.reduceToNat, Int.reduceLT, Int.reduceEq, eq_self, Nat.reduceShiftRight, Nat.reduceAnd, Nat.reduceBneDiff, F]; exact rfl) c ?_
  exact b) : X := h c b
/-- The region's end. -/
theorem gR {X Y : Prop} (b : Y) (h : Y → X := by
  intro b
  refine reT (by simp only [pz, ↓reduceIte, Nat.reduceEqDiff, Nat.reduceAdd, Nat.reduceSub, Nat.reduceMul, Nat.reduceLeDiff, Nat.reduceBEq, Bool.false_eq_true, decide_true, decide_false, Int.reduceLE, Int.reduceToNat, Int.reduceLT, Int.reduceEq, eq_self, Nat.reduceShiftRight, Nat.reduceAnd, Nat.reduceBneDiff, F]; exact rfl) ?_
  first | (change pwp _ _ _ _ _) | refine wkI ?_ | skip
  exact b) : X := h b
/-- On, till something is asked. -/
theorem gG {X Y : Prop} (b : Y) (h : Y → X := by
  intro b
  repeat (first
    | with_reducible refine pwp_seqW ?_
    | with_reducible refine pwp_block ?_
    | ((first | with_reducible refine pwp_skip ?_ | with_reducible refine pwp_exit ?_); try refine wkI ?_)
    | (with_reducible refine pwp_ct ?_ ?_; · simp only [pz, ↓reduceIte, Nat.reduceEqDiff, F])
    | (with_reducible refine pwp_cf ?_ ?_; · simp only [pz, ↓reduceIte, Nat.reduceEqDiff, F])
    | (refine gB ?_; refine reT (by simp only [pz, ↓reduceIte, Nat.reduceEqDiff, Nat.reduceAdd, Nat.reduceSub, Nat.reduceMul, Nat.reduceLeDiff, Nat.reduceBEq, Bool.false_eq_true, decide_true, decide_false, Int.reduceLE, Int.reduceToNat, Int.reduceLT, Int.reduceEq, eq_self, Nat.reduceShiftRight, Nat.reduceAnd, Nat.reduceBneDiff, F]; exact rfl) ?_; try refine wkI ?_))
  exact b) : X := h b
/-- A walk that is to stop ahead of the region n. -/
def StopAt (_ : Nat) : Prop := True
theorem ne_reg {n : Nat} (_ : StopAt n) {e : Env} {mask id : Nat} {ops : Array Oper} {fl : Bool} {σ : St} {Q : PX → St → Prop} (h : pwp e mask (.region id ops fl) σ Q) (_ : (id == n) = false := by decide) : pwp e mask (.region id ops fl) σ Q := h
/-- On, till something is asked, or the region that the local hypothesis NN names. -/
theorem gGn {X Y : Prop} (b : Y) (h : Y → X := by
  intro b
  repeat (first
    | with_reducible refine pwp_seqW ?_
    | with_reducible refine pwp_block ?_
    | ((first | with_reducible refine pwp_skip ?_ | with_reducible refine pwp_exit ?_); try refine wkI ?_)
    | (with_reducible refine pwp_ct ?_ ?_; · simp only [pz, ↓reduceIte, Nat.reduceEqDiff, F])
    | (with_reducible refine pwp_cf ?_ ?_; · simp only [pz, ↓reduceIte, Nat.reduceEqDiff, F])
    | (refine ne_reg NN ?_; refine gB ?_; refine reT (by simp only [pz, ↓reduceIte, Nat.reduceEqDiff, Nat.reduceAdd, Nat.reduceSub, Nat.reduceMul, Nat.reduceLeDiff, Nat.reduceBEq, Bool.false_eq_true, decide_true, decide_false, Int.reduceLE, Int.reduceToNat, Int.reduceLT, Int.reduceEq, eq_self, Nat.reduceShiftRight, Nat.reduceAnd, Nat.reduceBneDiff, F]; exact rfl) ?_; try refine wkI ?_))
  exact b) : X := h b
/-- The return. -/
theorem gT {X : Prop} (h : X := by
  refine pwp_ret (ret_ok ?_)
  simp [resOk, resA, resSlots, gs, F]) : X := h
theorem gTz {X : Prop} {P : Program} {ts : List RS} {r : List D} {σ σ1 : St} (ks : List Nat) (hx : retQ P ts r .ret σ → X := by exact fun h => pwp_ret h) (hf : frzs ks σ = σ1 := by simp only [pz, ↓reduceIte, Nat.reduceEqDiff, Nat.reduceAdd, Nat.reduceSub, Nat.reduceMul, Nat.reduceLeDiff, Nat.reduceBEq, Bool.false_eq_true, decide_true, decide_false, Int.reduceLE, Int.reduceToNat, Int.reduceLT, Int.reduceEq, eq_self, Nat.reduceShiftRight, Nat.reduceAnd, Nat.reduceBneDiff, F]; exact rfl) (h : resOk P σ1 ts r := by simp [resOk, resA, resSlots, gs, F]) : X := hx (ret_fz ks hf h)
/-- The return of a result that lies in a variable. -/
theorem gTd {X : Prop} {P : Program} {ts : List RS} {r : List D} {σ : St} (hx : retQ P ts r .ret σ → X := by exact fun h => pwp_ret h) (hr : resD P σ ts = some r := by first | (simp only [pz, ↓reduceIte, Nat.reduceEqDiff, Nat.reduceAdd, Nat.reduceSub, Nat.reduceMul, Nat.reduceLeDiff, Nat.reduceBEq, Bool.false_eq_true, decide_true, decide_false, Int.reduceLE, Int.reduceToNat, Int.reduceLT, Int.reduceEq, eq_self, Nat.reduceShiftRight, Nat.reduceAnd, Nat.reduceBneDiff, F]; done) | (simp only [pz, ↓reduceIte, Nat.reduceEqDiff, Nat.reduceAdd, Nat.reduceSub, Nat.reduceMul, Nat.reduceLeDiff, Nat.reduceBEq, Bool.false_eq_true, decide_true, decide_false, Int.reduceLE, Int.reduceToNat, Int.reduceLT, Int.reduceEq, eq_self, Nat.reduceShiftRight, Nat.reduceAnd, Nat.reduceBneDiff, F]; exact rfl)) : X := hx (ret_ok (resOk_of hr))
theorem gw {X : Prop} (h : X := by simp [weakS, weakM, gs, gm, F]) : X := h
theorem gL {e : Env} {mask : Nat} {Q : PX → St → Prop} {c : Code} {s : List (Nat × A)} {m : List (Nat × Bk)} {ι : Type} (ds dm : List Nat) (us : ι → List (Nat × A)) (ms : ι → List (Nat × Bk)) (ok : ι → Prop) (μ : ι → Nat) (x0 : ι) (h0 : ok x0)
    {s0 : List (Nat × A)} {m0 : List (Nat × Bk)} {ss : ι → List (Nat × A)} {mm : ι → List (Nat × Bk)}
    (hr : ∀ x, ok x → pwp e mask c ⟨ss x, mm x⟩ (fun p σ'' => match p with
      | .normal => ∃ y, ok y ∧ weakS σ''.s (ss y) ∧ weakM σ''.m (mm y) ∧ μ y < μ x
      | p => Q p σ''))
    (hs0 : headS ds s = s0 := by simp only [headS, headM, List.elem_cons, List.elem_nil, Nat.reduceBEq, Bool.or_false, Bool.false_or, Bool.or_true, Bool.true_or, Bool.or_self, ↓reduceIte, Bool.false_eq_true]; exact rfl) (hm0 : headM dm m = m0 := by simp only [headS, headM, List.elem_cons, List.elem_nil, Nat.reduceBEq, Bool.or_false, Bool.false_or, Bool.or_true, Bool.true_or, Bool.or_self, ↓reduceIte, Bool.false_eq_true]; exact rfl) (hss : ∀ x, us x ++ s0 = ss x := by intro x; simp only [List.cons_append, List.nil_append]; exact rfl) (hmm : ∀ x, ms x ++ m0 = mm x := by intro x; simp only [List.cons_append, List.nil_append]; exact rfl)
    (hs : weakS s (us x0) := by simp [weakS, gs, F]) (hm : weakM m (ms x0) := by simp [weakM, gm, F]) : pwp e mask (.loop c) ⟨s, m⟩ Q := pwp_loopU ds dm us ms ok μ x0 hs0 hm0 hss hmm hs hm h0 hr
theorem gM {e : Env} {mask : Nat} {Q : PX → St → Prop} {a : Code} {s : List (Nat × A)} {m : List (Nat × Bk)} {ι : Type} (ds dm : List Nat) (us : ι → List (Nat × A)) (ms : ι → List (Nat × Bk)) (R : ι → Prop)
    {s0 : List (Nat × A)} {m0 : List (Nat × Bk)} {ss : ι → List (Nat × A)} {mm : ι → List (Nat × Bk)}
    (h : pwp e mask a ⟨s, m⟩ (fun x σ' => match x with
      | .normal => ∃ y, R y ∧ weakS σ'.s (ss y) ∧ weakM σ'.m (mm y)
      | x => Q x σ')) (hb : ∀ x, R x → Q .normal ⟨ss x, mm x⟩) 
    (hs0 : headS ds s = s0 := by simp only [headS, headM, List.elem_cons, List.elem_nil, Nat.reduceBEq, Bool.or_false, Bool.false_or, Bool.or_true, Bool.true_or, Bool.or_self, ↓reduceIte, Bool.false_eq_true]; exact rfl) (hm0 : headM dm m = m0 := by simp only [headS, headM, List.elem_cons, List.elem_nil, Nat.reduceBEq, Bool.or_false, Bool.false_or, Bool.or_true, Bool.true_or, Bool.or_self, ↓reduceIte, Bool.false_eq_true]; exact rfl) (hss : ∀ x, us x ++ s0 = ss x := by intro x; simp only [List.cons_append, List.nil_append]; exact rfl) (hmm : ∀ x, ms x ++ m0 = mm x := by intro x; simp only [List.cons_append, List.nil_append]; exact rfl)
    (hQ : ∀ σ σ1, Wk σ σ1 → Q .normal σ1 → Q .normal σ := by exact fun _ _ h p => Exists.elim p fun σ2 q => ⟨σ2, h.trans q.1, q.2⟩) : pwp e mask a ⟨s, m⟩ Q := pwp_meetU hQ ds dm us ms R hs0 hm0 hss hmm h hb
/-- Into a function. -/
theorem gI {e : Env} {f : FuncId} {fn : Func} {c : Code} {args r : List D} {ts : List RS} (mask : Nat) (hf : e.P.funcs[f]? = some fn) (h : pwp e mask c ⟨initS 0 args, []⟩ (retQ e.P ts r)) (hb : fn.body = some c := by exact rfl) (hnm : (fn.name == "runtime.NumGoroutine") = false := by kernel_rfl)
    (hok : okCode fn.ntmps c = true := by kernel_rfl) (hal : Nat.ble args.length fn.ntmps = true := by exact rfl) (hres : resSlots fn.results.toList = ts := by exact rfl) (he : e.Ok := by first | exact e0_ok | exact e1_ok | assumption) : Con e f args r := con_of_pwp he mask hf hb hnm hok hal hres h
theorem gIE {e : Env} {f : FuncId} {fn : Func} {c : Code} {args : List D} {R : List D → Prop} {ts : List RS} (mask : Nat) (hf : e.P.funcs[f]? = some fn) (h : pwp e mask c ⟨initS 0 args, []⟩ (retQE e.P ts R)) (hb : fn.body = some c := by exact rfl) (hnm : (fn.name == "runtime.NumGoroutine") = false := by kernel_rfl)
    (hok : okCode fn.ntmps c = true := by kernel_rfl) (hal : Nat.ble args.length fn.ntmps = true := by exact rfl) (hres : resSlots fn.results.toList = ts := by exact rfl) (he : e.Ok := by first | exact e0_ok | exact e1_ok | assumption) : ConE e f args R := conE_of_pwp he mask hf hb hnm hok hal hres h
/-- A call to which the own things of the keys ks are lent; what it gives has the keys ks'. -/
theorem gCP {e : Env} {K : St → Prop} {ds : List (Option Nat)} {n n' : Nat} {os os' : List Oper} {σ : St} {c : Operand} {args : List Operand} {f : FuncId} {xs : List D} {d : Option Nat} {s1 s2 s3 : List (Nat × A)} {m1 m2 m3 : List (Nat × Bk)} {pm : List Bk} {R : List D → List Bk → Prop} (ks ks' : List Nat) (hc : ConP e f xs pm R)
    (hK : ∀ r pm', R r pm' → Runs e ds n' os' ⟨setA s3 d (retA r), zipM ks' pm' ++ m3⟩ K) (h : runOps e.P ds n os σ = .call false c args d n' os' ⟨s1, m1⟩ := by simp only [pz, ↓reduceIte, Nat.reduceEqDiff, Nat.reduceAdd, Nat.reduceSub, Nat.reduceMul, Nat.reduceLeDiff, Nat.reduceBEq, Bool.false_eq_true, decide_true, decide_false, Int.reduceLE, Int.reduceToNat, Int.reduceLT, Int.reduceEq, eq_self, Nat.reduceShiftRight, Nat.reduceAnd, Nat.reduceBneDiff, F]; exact rfl) (h1 : callP false c args ⟨s1, m1⟩ = some (f, xs, ⟨s2, m2⟩) := by simp only [pz, ↓reduceIte, Nat.reduceEqDiff, Nat.reduceAdd, Nat.reduceSub, Nat.reduceMul, Nat.reduceLeDiff, Nat.reduceBEq, Bool.false_eq_true, decide_true, decide_false, Int.reduceLE, Int.reduceToNat, Int.reduceLT, Int.reduceEq, eq_self, Nat.reduceShiftRight, Nat.reduceAnd, Nat.reduceBneDiff, F]; exact rfl)
    (hpm : getM m2 ks = some pm := by first | (simp only [pz, ↓reduceIte, Nat.reduceEqDiff, Nat.reduceAdd, Nat.reduceSub, Nat.reduceMul, Nat.reduceLeDiff, Nat.reduceBEq, Bool.false_eq_true, decide_true, decide_false, Int.reduceLE, Int.reduceToNat, Int.reduceLT, Int.reduceEq, eq_self, Nat.reduceShiftRight, Nat.reduceAnd, Nat.reduceBneDiff]; exact rfl) | simp only [pz, ↓reduceIte, Nat.reduceEqDiff, Nat.reduceAdd, Nat.reduceSub, Nat.reduceMul, Nat.reduceLeDiff, Nat.reduceBEq, Bool.false_eq_true, decide_true, decide_false, Int.reduceLE, Int.reduceToNat, Int.reduceLT, Int.reduceEq, eq_self, Nat.reduceShiftRight, Nat.reduceAnd, Nat.reduceBneDiff]) (hpn : pm.all pinned = true := by simp only [pz, ↓reduceIte, Nat.reduceEqDiff, Nat.reduceAdd, Nat.reduceSub, Nat.reduceMul, Nat.reduceLeDiff, Nat.reduceBEq, Bool.false_eq_true, decide_true, decide_false, Int.reduceLE, Int.reduceToNat, Int.reduceLT, Int.reduceEq, eq_self, Nat.reduceShiftRight, Nat.reduceAnd, Nat.reduceBneDiff]) (hn : ks.Nodup := by decide) (hk : killKs (ks ++ ks') s2 = s3 := by simp only [pz, ↓reduceIte, Nat.reduceEqDiff, Nat.reduceAdd, Nat.reduceSub, Nat.reduceMul, Nat.reduceLeDiff, Nat.reduceBEq, Bool.false_eq_true, decide_true, decide_false, Int.reduceLE, Int.reduceToNat, Int.reduceLT, Int.reduceEq, eq_self, Nat.reduceShiftRight, Nat.reduceAnd, Nat.reduceBneDiff]; exact rfl) (hr : remMs (ks ++ ks') m2 = m3 := by simp only [pz, ↓reduceIte, Nat.reduceEqDiff, Nat.reduceAdd, Nat.reduceSub, Nat.reduceMul, Nat.reduceLeDiff, Nat.reduceBEq, Bool.false_eq_true, decide_true, decide_false, Int.reduceLE, Int.reduceToNat, Int.reduceLT, Int.reduceEq, eq_self, Nat.reduceShiftRight, Nat.reduceAnd, Nat.reduceBneDiff]; exact rfl) : Runs e ds n os σ K := runs_goP ks ks' h h1 hc hpm hpn hn hk hr hK
/-- A call that turns an own slice in place. -/
theorem gCI {e : Env} {K : St → Prop} {ds : List (Option Nat)} {n n' : Nat} {os os' : List Oper} {σ : St} {c x0 : Operand} {rest : List Operand} {f : FuncId} {xs : List D} {d : Option Nat} {s1 s3 : List (Nat × A)} {m1 m3 : List (Nat × Bk)} {k ty sz : Nat} {rows rows' : List (List C)} {r : List D} {oa : Option (Option Addr × Nat)} (hc : ConI e f ty sz rows xs rows' r) (hl : rows'.length = rows.length)
    (hK : Runs e ds n' os' ⟨s3, (k, .buf oa ty sz rows') :: m3⟩ K) (h : runOps e.P ds n os σ = .call false c (x0 :: rest) d n' os' ⟨s1, m1⟩ := by simp only [pz, ↓reduceIte, Nat.reduceEqDiff, Nat.reduceAdd, Nat.reduceSub, Nat.reduceMul, Nat.reduceLeDiff, Nat.reduceBEq, Bool.false_eq_true, decide_true, decide_false, Int.reduceLE, Int.reduceToNat, Int.reduceLT, Int.reduceEq, eq_self, Nat.reduceShiftRight, Nat.reduceAnd, Nat.reduceBneDiff, F]; exact rfl) (h1 : callO c x0 rest ⟨s1, m1⟩ = some (f, k, ty, sz, rows, xs) := by simp only [pz, ↓reduceIte, Nat.reduceEqDiff, Nat.reduceAdd, Nat.reduceSub, Nat.reduceMul, Nat.reduceLeDiff, Nat.reduceBEq, Bool.false_eq_true, decide_true, decide_false, Int.reduceLE, Int.reduceToNat, Int.reduceLT, Int.reduceEq, eq_self, Nat.reduceShiftRight, Nat.reduceAnd, Nat.reduceBneDiff, F]; exact rfl)
    (hm : gm m1 k = some (.buf oa ty sz rows) := by simp only [pz, ↓reduceIte, Nat.reduceEqDiff, Nat.reduceAdd, Nat.reduceSub, Nat.reduceMul, Nat.reduceLeDiff, Nat.reduceBEq, Bool.false_eq_true, decide_true, decide_false, Int.reduceLE, Int.reduceToNat, Int.reduceLT, Int.reduceEq, eq_self, Nat.reduceShiftRight, Nat.reduceAnd, Nat.reduceBneDiff]; exact rfl) (h2 : setA s1 d (retA r) = s3 := by simp only [setA, retA]; exact rfl) (h3 : remM k m1 = m3 := by simp only [pz, ↓reduceIte, Nat.reduceEqDiff, Nat.reduceAdd, Nat.reduceSub, Nat.reduceMul, Nat.reduceLeDiff, Nat.reduceBEq, Bool.false_eq_true, decide_true, decide_false, Int.reduceLE, Int.reduceToNat, Int.reduceLT, Int.reduceEq, eq_self, Nat.reduceShiftRight, Nat.reduceAnd, Nat.reduceBneDiff]; exact rfl) : Runs e ds n os σ K := runs_goI h h1 hm hc hl h2 h3 hK
/-- A call that gives a new own slice. -/
theorem gCR {e : Env} {K : St → Prop} {ds : List (Option Nat)} {n n' : Nat} {os os' : List Oper} {σ : St} {c : Operand} {args : List Operand} {f : FuncId} {xs : List D} {d ty sz : Nat} {s1 s2 s3 : List (Nat × A)} {m1 m2 m3 : List (Nat × Bk)} {rows : List (List C)} (hc : ConR e f xs ty sz rows) (hK : Runs e ds n' os' ⟨(d, .buf d) :: s3, (d, .buf none ty sz rows) :: m3⟩ K)
    (h : runOps e.P ds n os σ = .call false c args (some d) n' os' ⟨s1, m1⟩ := by simp only [pz, ↓reduceIte, Nat.reduceEqDiff, Nat.reduceAdd, Nat.reduceSub, Nat.reduceMul, Nat.reduceLeDiff, Nat.reduceBEq, Bool.false_eq_true, decide_true, decide_false, Int.reduceLE, Int.reduceToNat, Int.reduceLT, Int.reduceEq, eq_self, Nat.reduceShiftRight, Nat.reduceAnd, Nat.reduceBneDiff, F]; exact rfl) (h1 : callP false c args ⟨s1, m1⟩ = some (f, xs, ⟨s2, m2⟩) := by simp only [pz, ↓reduceIte, Nat.reduceEqDiff, Nat.reduceAdd, Nat.reduceSub, Nat.reduceMul, Nat.reduceLeDiff, Nat.reduceBEq, Bool.false_eq_true, decide_true, decide_false, Int.reduceLE, Int.reduceToNat, Int.reduceLT, Int.reduceEq, eq_self, Nat.reduceShiftRight, Nat.reduceAnd, Nat.reduceBneDiff, F]; exact rfl) (h2 : killK d s2 = s3 := by simp only [pz, ↓reduceIte, Nat.reduceEqDiff, Nat.reduceAdd, Nat.reduceSub, Nat.reduceMul, Nat.reduceLeDiff, Nat.reduceBEq, Bool.false_eq_true, decide_true, decide_false, Int.reduceLE, Int.reduceToNat, Int.reduceLT, Int.reduceEq, eq_self, Nat.reduceShiftRight, Nat.reduceAnd, Nat.reduceBneDiff]; exact rfl) (h3 : remM d m2 = m3 := by simp only [pz, ↓reduceIte, Nat.reduceEqDiff, Nat.reduceAdd, Nat.reduceSub, Nat.reduceMul, Nat.reduceLeDiff, Nat.reduceBEq, Bool.false_eq_true, decide_true, decide_false, Int.reduceLE, Int.reduceToNat, Int.reduceLT, Int.reduceEq, eq_self, Nat.reduceShiftRight, Nat.reduceAnd, Nat.reduceBneDiff]; exact rfl) : Runs e ds n os σ K := runs_goR h h1 hc h2 h3 hK
/-- The first j operations of what is left of the region. -/
theorem gP {e : Env} {K : St → Prop} {ds : List (Option Nat)} {n n' : Nat} {os os' : List Oper} {σ : St} {s1 : List (Nat × A)} {m1 : List (Nat × Bk)} (j : Nat) (hK : Runs e ds n' os' ⟨s1, m1⟩ K) (h : stopOf (runN e.P ds j n os σ) = some (n', os', s1, m1) := by simp only [pz, ↓reduceIte, Nat.reduceEqDiff, Nat.reduceAdd, Nat.reduceSub, Nat.reduceMul, Nat.reduceLeDiff, Nat.reduceBEq, Bool.false_eq_true, decide_true, decide_false, Int.reduceLE, Int.reduceToNat, Int.reduceLT, Int.reduceEq, eq_self, Nat.reduceShiftRight, Nat.reduceAnd, Nat.reduceBneDiff, F]; exact rfl) : Runs e ds n os σ K := runs_part j h hK
/-- The place of the own slice k becomes known. -/
theorem gS {e : Env} {K : St → Prop} {ds : List (Option Nat)} {os : List Oper} {s : List (Nat × A)} {m m2 : List (Nat × Bk)} {ety sz : Nat} {rows : List (List C)} {s2 : Option Addr → Nat → List (Nat × A)} (k : Nat) (hK : ∀ a cap, Runs e ds 0 os ⟨s2 a cap, (k, .buf (some (a, cap)) ety sz rows) :: m2⟩ K)
    (hm : gm m k = some (.buf none ety sz rows) := by simp only [pz, ↓reduceIte, Nat.reduceEqDiff, Nat.reduceAdd, Nat.reduceSub, Nat.reduceMul, Nat.reduceLeDiff, Nat.reduceBEq, Bool.false_eq_true, decide_true, decide_false, Int.reduceLE, Int.reduceToNat, Int.reduceLT, Int.reduceEq, eq_self, Nat.reduceShiftRight, Nat.reduceAnd, Nat.reduceBneDiff]; exact rfl) (hs : ∀ a cap, mapS (litB k a rows.length cap) s = s2 a cap := by intro a cap; simp only [pz, ↓reduceIte, Nat.reduceEqDiff, Nat.reduceAdd, Nat.reduceSub, Nat.reduceMul, Nat.reduceLeDiff, Nat.reduceBEq, Bool.false_eq_true, decide_true, decide_false, Int.reduceLE, Int.reduceToNat, Int.reduceLT, Int.reduceEq, eq_self, Nat.reduceShiftRight, Nat.reduceAnd, Nat.reduceBneDiff]; exact rfl) (hr : remM k m = m2 := by simp only [pz, ↓reduceIte, Nat.reduceEqDiff, Nat.reduceAdd, Nat.reduceSub, Nat.reduceMul, Nat.reduceLeDiff, Nat.reduceBEq, Bool.false_eq_true, decide_true, decide_false, Int.reduceLE, Int.reduceToNat, Int.reduceLT, Int.reduceEq, eq_self, Nat.reduceShiftRight, Nat.reduceAnd, Nat.reduceBneDiff]; exact rfl) : Runs e ds 0 os ⟨s, m⟩ K :=
  runs_turn (turn_pinB k hm) fun σ' ⟨a, cap, hσ⟩ => by subst hσ; simp only [hs, hr]; exact hK a cap
/-- An empty slice without room in the slot t becomes an own one. -/
theorem gO {e : Env} {K : St → Prop} {ds : List (Option Nat)} {os : List Oper} {s s2 : List (Nat × A)} {m m2 : List (Nat × Bk)} (t ety sz : Nat) (hK : Runs e ds 0 os ⟨(t, .buf t) :: s2, (t, .buf none ety sz []) :: m2⟩ K) (h0 : 0 < sz := by decide) (hm : gs s t = .d (.clip []) := by simp only [pz, ↓reduceIte, Nat.reduceEqDiff, Nat.reduceAdd, Nat.reduceSub, Nat.reduceMul, Nat.reduceLeDiff, Nat.reduceBEq, Bool.false_eq_true, decide_true, decide_false, Int.reduceLE, Int.reduceToNat, Int.reduceLT, Int.reduceEq, eq_self, Nat.reduceShiftRight, Nat.reduceAnd, Nat.reduceBneDiff])
    (hs : killK t s = s2 := by simp only [pz, ↓reduceIte, Nat.reduceEqDiff, Nat.reduceAdd, Nat.reduceSub, Nat.reduceMul, Nat.reduceLeDiff, Nat.reduceBEq, Bool.false_eq_true, decide_true, decide_false, Int.reduceLE, Int.reduceToNat, Int.reduceLT, Int.reduceEq, eq_self, Nat.reduceShiftRight, Nat.reduceAnd, Nat.reduceBneDiff]; exact rfl) (hr : remM t m = m2 := by simp only [pz, ↓reduceIte, Nat.reduceEqDiff, Nat.reduceAdd, Nat.reduceSub, Nat.reduceMul, Nat.reduceLeDiff, Nat.reduceBEq, Bool.false_eq_true, decide_true, decide_false, Int.reduceLE, Int.reduceToNat, Int.reduceLT, Int.reduceEq, eq_self, Nat.reduceShiftRight, Nat.reduceAnd, Nat.reduceBneDiff]; exact rfl) : Runs e ds 0 os ⟨s, m⟩ K :=
  runs_turn (turn_own t ety sz h0 hm) fun σ' hσ => by subst hσ; simp only [hs, hr]; exact hK
/-- The slice of the key k is left to all. -/
theorem gD {e : Env} {K : St → Prop} {ds : List (Option Nat)} {os : List Oper} {s s2 : List (Nat × A)} {m m2 : List (Nat × Bk)} {a : Option Addr} {cap ety sz : Nat} {rows : List (List C)} (k : Nat) (ts ks : List Nat) (hK : Runs e ds 0 os ⟨s2, m2⟩ K) (hm : gm m k = some (.buf (some (a, cap)) ety sz rows) := by simp only [pz, ↓reduceIte, Nat.reduceEqDiff, Nat.reduceAdd, Nat.reduceSub, Nat.reduceMul, Nat.reduceLeDiff, Nat.reduceBEq, Bool.false_eq_true, decide_true, decide_false, Int.reduceLE, Int.reduceToNat, Int.reduceLT, Int.reduceEq, eq_self, Nat.reduceShiftRight, Nat.reduceAnd, Nat.reduceBneDiff]; exact rfl)
    (hs : datS a rows.length cap rows ts (frzS k (.buf (some (a, cap)) ety sz rows) s) = s2 := by simp only [pz, ↓reduceIte, Nat.reduceEqDiff, Nat.reduceAdd, Nat.reduceSub, Nat.reduceMul, Nat.reduceLeDiff, Nat.reduceBEq, Bool.false_eq_true, decide_true, decide_false, Int.reduceLE, Int.reduceToNat, Int.reduceLT, Int.reduceEq, eq_self, Nat.reduceShiftRight, Nat.reduceAnd, Nat.reduceBneDiff]; exact rfl) (hr : datM a rows.length cap rows ks (remM k m) = m2 := by simp only [pz, ↓reduceIte, Nat.reduceEqDiff, Nat.reduceAdd, Nat.reduceSub, Nat.reduceMul, Nat.reduceLeDiff, Nat.reduceBEq, Bool.false_eq_true, decide_true, decide_false, Int.reduceLE, Int.reduceToNat, Int.reduceLT, Int.reduceEq, eq_self, Nat.reduceShiftRight, Nat.reduceAnd, Nat.reduceBneDiff]; exact rfl) : Runs e ds 0 os ⟨s, m⟩ K :=
  runs_turn (turn_dat k ts ks hm) fun σ' hσ => by subst hσ; simp only [hs, hr]; exact hK
theorem pD {e : Env} {mask : Nat} {Q : PX → St → Prop} {c : Code} {s s2 : List (Nat × A)} {m m2 : List (Nat × Bk)} {a : Option Addr} {cap ety sz : Nat} {rows : List (List C)} (k : Nat) (ts ks : List Nat) (hK : pwp e mask c ⟨s2, m2⟩ Q) (hm : gm m k = some (.buf (some (a, cap)) ety sz rows) := by simp only [pz, ↓reduceIte, Nat.reduceEqDiff, Nat.reduceAdd, Nat.reduceSub, Nat.reduceMul, Nat.reduceLeDiff, Nat.reduceBEq, Bool.false_eq_true, decide_true, decide_false, Int.reduceLE, Int.reduceToNat, Int.reduceLT, Int.reduceEq, eq_self, Nat.reduceShiftRight, Nat.reduceAnd, Nat.reduceBneDiff]; exact rfl)
    (hs : datS a rows.length cap rows ts (frzS k (.buf (some (a, cap)) ety sz rows) s) = s2 := by simp only [pz, ↓reduceIte, Nat.reduceEqDiff, Nat.reduceAdd, Nat.reduceSub, Nat.reduceMul, Nat.reduceLeDiff, Nat.reduceBEq, Bool.false_eq_true, decide_true, decide_false, Int.reduceLE, Int.reduceToNat, Int.reduceLT, Int.reduceEq, eq_self, Nat.reduceShiftRight, Nat.reduceAnd, Nat.reduceBneDiff]; exact rfl) (hr : datM a rows.length cap rows ks (remM k m) = m2 := by simp only [pz, ↓reduceIte, Nat.reduceEqDiff, Nat.reduceAdd, Nat.reduceSub, Nat.reduceMul, Nat.reduceLeDiff, Nat.reduceBEq, Bool.false_eq_true, decide_true, decide_false, Int.reduceLE, Int.reduceToNat, Int.reduceLT, Int.reduceEq, eq_self, Nat.reduceShiftRight, Nat.reduceAnd, Nat.reduceBneDiff]; exact rfl) : pwp e mask c ⟨s, m⟩ Q :=
  pwp_turn (turn_dat k ts ks hm) fun σ' hσ => by subst hσ; simp only [hs, hr]; exact hK
/-- The same ahead of a code. -/
theorem pV {e : Env} {mask : Nat} {Q : PX → St → Prop} {c : Code} {s : List (Nat × A)} {m m2 : List (Nat × Bk)} {cs : List C} {s2 : Nat → List (Nat × A)} (k : Nat) (hK : ∀ b, (∀ k' b' cs', k' ≠ k → gm m k' = some (.var (some b') cs') → b ≠ b') → pwp e mask c ⟨s2 b, (k, .var (some b) cs) :: m2⟩ Q)
    (hm : gm m k = some (.var none cs) := by simp only [pz, ↓reduceIte, Nat.reduceEqDiff, Nat.reduceAdd, Nat.reduceSub, Nat.reduceMul, Nat.reduceLeDiff, Nat.reduceBEq, Bool.false_eq_true, decide_true, decide_false, Int.reduceLE, Int.reduceToNat, Int.reduceLT, Int.reduceEq, eq_self, Nat.reduceShiftRight, Nat.reduceAnd, Nat.reduceBneDiff]; exact rfl) (hs : ∀ b, mapS (litV k b) s = s2 b := by intro b; simp only [pz, ↓reduceIte, Nat.reduceEqDiff, Nat.reduceAdd, Nat.reduceSub, Nat.reduceMul, Nat.reduceLeDiff, Nat.reduceBEq, Bool.false_eq_true, decide_true, decide_false, Int.reduceLE, Int.reduceToNat, Int.reduceLT, Int.reduceEq, eq_self, Nat.reduceShiftRight, Nat.reduceAnd, Nat.reduceBneDiff]; exact rfl) (hr : remM k m = m2 := by simp only [pz, ↓reduceIte, Nat.reduceEqDiff, Nat.reduceAdd, Nat.reduceSub, Nat.reduceMul, Nat.reduceLeDiff, Nat.reduceBEq, Bool.false_eq_true, decide_true, decide_false, Int.reduceLE, Int.reduceToNat, Int.reduceLT, Int.reduceEq, eq_self, Nat.reduceShiftRight, Nat.reduceAnd, Nat.reduceBneDiff]; exact rfl) : pwp e mask c ⟨s, m⟩ Q :=
  pwp_turn (turn_pinV k hm) fun σ' ⟨b, hb, hσ⟩ => by subst hσ; simp only [hs, hr]; exact hK b hb
theorem pS {e : Env} {mask : Nat} {Q : PX → St → Prop} {c : Code} {s : List (Nat × A)} {m m2 : List (Nat × Bk)} {ety sz : Nat} {rows : List (List C)} {s2 : Option Addr → Nat → List (Nat × A)} (k : Nat) (hK : ∀ a cap, pwp e mask c ⟨s2 a cap, (k, .buf (some (a, cap)) ety sz rows) :: m2⟩ Q)
    (hm : gm m k = some (.buf none ety sz rows) := by simp only [pz, ↓reduceIte, Nat.reduceEqDiff, Nat.reduceAdd, Nat.reduceSub, Nat.reduceMul, Nat.reduceLeDiff, Nat.reduceBEq, Bool.false_eq_true, decide_true, decide_false, Int.reduceLE, Int.reduceToNat, Int.reduceLT, Int.reduceEq, eq_self, Nat.reduceShiftRight, Nat.reduceAnd, Nat.reduceBneDiff]; exact rfl) (hs : ∀ a cap, mapS (litB k a rows.length cap) s = s2 a cap := by intro a cap; simp only [pz, ↓reduceIte, Nat.reduceEqDiff, Nat.reduceAdd, Nat.reduceSub, Nat.reduceMul, Nat.reduceLeDiff, Nat.reduceBEq, Bool.false_eq_true, decide_true, decide_false, Int.reduceLE, Int.reduceToNat, Int.reduceLT, Int.reduceEq, eq_self, Nat.reduceShiftRight, Nat.reduceAnd, Nat.reduceBneDiff]; exact rfl) (hr : remM k m = m2 := by simp only [pz, ↓reduceIte, Nat.reduceEqDiff, Nat.reduceAdd, Nat.reduceSub, Nat.reduceMul, Nat.reduceLeDiff, Nat.reduceBEq, Bool.false_eq_true, decide_true, decide_false, Int.reduceLE, Int.reduceToNat, Int.reduceLT, Int.reduceEq, eq_self, Nat.reduceShiftRight, Nat.reduceAnd, Nat.reduceBneDiff]; exact rfl) : pwp e mask c ⟨s, m⟩ Q :=
  pwp_turn (turn_pinB k hm) fun σ' ⟨a, cap, hσ⟩ => by subst hσ; simp only [hs, hr]; exact hK a cap
/-- Own things at known places (of the keys ks) told as others (of the keys ks'). -/
def Retold (pm pm' : List Bk) : Prop := ∀ (w : World) (S : Nat → Prop), (∀ x ∈ pm, PinRel w S x) → Apart pm → (∀ x ∈ pm', PinRel w S x) ∧ Apart pm' ∧ ∀ g, pblks pm' g → pblks pm g
theorem pE {e : Env} {mask : Nat} {Q : PX → St → Prop} {c : Code} {s s2 : List (Nat × A)} {m m2 m3 : List (Nat × Bk)} {pm pm' : List Bk} (ks ks' : List Nat) (hre : Retold pm pm') (hK : pwp e mask c ⟨s2, m3⟩ Q) (hpm : getM m ks = some pm := by first | (simp only [pz, ↓reduceIte, Nat.reduceEqDiff, Nat.reduceAdd, Nat.reduceSub, Nat.reduceMul, Nat.reduceLeDiff, Nat.reduceBEq, Bool.false_eq_true, decide_true, decide_false, Int.reduceLE, Int.reduceToNat, Int.reduceLT, Int.reduceEq, eq_self, Nat.reduceShiftRight, Nat.reduceAnd, Nat.reduceBneDiff]; exact rfl) | simp only [pz, ↓reduceIte, Nat.reduceEqDiff, Nat.reduceAdd, Nat.reduceSub, Nat.reduceMul, Nat.reduceLeDiff, Nat.reduceBEq, Bool.false_eq_true, decide_true, decide_false, Int.reduceLE, Int.reduceToNat, Int.reduceLT, Int.reduceEq, eq_self, Nat.reduceShiftRight, Nat.reduceAnd, Nat.reduceBneDiff]) (hn : ks.Nodup := by decide) (hp : pm.all pinned = true := by simp only [pz, ↓reduceIte, Nat.reduceEqDiff, Nat.reduceAdd, Nat.reduceSub, Nat.reduceMul, Nat.reduceLeDiff, Nat.reduceBEq, Bool.false_eq_true, decide_true, decide_false, Int.reduceLE, Int.reduceToNat, Int.reduceLT, Int.reduceEq, eq_self, Nat.reduceShiftRight, Nat.reduceAnd, Nat.reduceBneDiff])
    (hs : killKs (ks ++ ks') s = s2 := by simp only [pz, ↓reduceIte, Nat.reduceEqDiff, Nat.reduceAdd, Nat.reduceSub, Nat.reduceMul, Nat.reduceLeDiff, Nat.reduceBEq, Bool.false_eq_true, decide_true, decide_false, Int.reduceLE, Int.reduceToNat, Int.reduceLT, Int.reduceEq, eq_self, Nat.reduceShiftRight, Nat.reduceAnd, Nat.reduceBneDiff]; exact rfl) (hr : remMs (ks ++ ks') m = m2 := by simp only [pz, ↓reduceIte, Nat.reduceEqDiff, Nat.reduceAdd, Nat.reduceSub, Nat.reduceMul, Nat.reduceLeDiff, Nat.reduceBEq, Bool.false_eq_true, decide_true, decide_false, Int.reduceLE, Int.reduceToNat, Int.reduceLT, Int.reduceEq, eq_self, Nat.reduceShiftRight, Nat.reduceAnd, Nat.reduceBneDiff]; exact rfl) (h3 : zipM ks' pm' ++ m2 = m3 := by simp only [pz, ↓reduceIte, Nat.reduceEqDiff, Nat.reduceAdd, Nat.reduceSub, Nat.reduceMul, Nat.reduceLeDiff, Nat.reduceBEq, Bool.false_eq_true, decide_true, decide_false, Int.reduceLE, Int.reduceToNat, Int.reduceLT, Int.reduceEq, eq_self, Nat.reduceShiftRight, Nat.reduceAnd, Nat.reduceBneDiff]; exact rfl) : pwp e mask c ⟨s, m⟩ Q :=
  pwp_turn (turn_re (Φ := fun x => x = pm') ks ks' hn hpm hp (fun w S h1 h2 => ⟨pm', rfl, hre w S h1 h2⟩)) fun σ' ⟨q, hq, hσ⟩ => by subst hq hσ; simp only [hs, hr, h3]; exact hK
/-- Into a function to which own things are lent (under the keys given). -/
theorem gIP {e : Env} {f : FuncId} {fn : Func} {c : Code} {args : List D} {pm : List Bk} {m0 : List (Nat × Bk)} {R : List D → List Bk → Prop} {ts : List RS} (keys : List Nat) (mask : Nat) (hf : e.P.funcs[f]? = some fn) (h : pwp e mask c ⟨initS 0 args, m0⟩ (retQP e.P ts R)) (hm : zipM keys pm = m0 := by simp only [pz, ↓reduceIte, Nat.reduceEqDiff, Nat.reduceAdd, Nat.reduceSub, Nat.reduceMul, Nat.reduceLeDiff, Nat.reduceBEq, Bool.false_eq_true, decide_true, decide_false, Int.reduceLE, Int.reduceToNat, Int.reduceLT, Int.reduceEq, eq_self, Nat.reduceShiftRight, Nat.reduceAnd, Nat.reduceBneDiff]; exact rfl) (hb : fn.body = some c := by exact rfl) (hnm : (fn.name == "runtime.NumGoroutine") = false := by kernel_rfl)
    (hok : okCode fn.ntmps c = true := by kernel_rfl) (hal : Nat.ble args.length fn.ntmps = true := by exact rfl) (hres : resSlots fn.results.toList = ts := by exact rfl) (he : e.Ok := by first | exact e0_ok | exact e1_ok | assumption) : ConP e f args pm R := conP_of_pwp he keys mask hf hb hnm hok hal hres (by rw [hm]; exact h)
/-- The return of such a function: the own things that it gives have the keys ks. -/
theorem gTP {X : Prop} {P : Program} {ts : List RS} {R : List D → List Bk → Prop} {σ : St} {r : List D} {pm : List Bk} (ks : List Nat) (hR : R r pm) (hx : retQP P ts R .ret σ → X := by exact fun h => pwp_ret h) (hr : resD P σ ts = some r := by first | (simp only [pz, ↓reduceIte, Nat.reduceEqDiff, Nat.reduceAdd, Nat.reduceSub, Nat.reduceMul, Nat.reduceLeDiff, Nat.reduceBEq, Bool.false_eq_true, decide_true, decide_false, Int.reduceLE, Int.reduceToNat, Int.reduceLT, Int.reduceEq, eq_self, Nat.reduceShiftRight, Nat.reduceAnd, Nat.reduceBneDiff, F]; exact rfl) | simp only [pz, ↓reduceIte, Nat.reduceEqDiff, Nat.reduceAdd, Nat.reduceSub, Nat.reduceMul, Nat.reduceLeDiff, Nat.reduceBEq, Bool.false_eq_true, decide_true, decide_false, Int.reduceLE, Int.reduceToNat, Int.reduceLT, Int.reduceEq, eq_self, Nat.reduceShiftRight, Nat.reduceAnd, Nat.reduceBneDiff, F]) (hg : getM σ.m ks = some pm := by first | (simp only [pz, ↓reduceIte, Nat.reduceEqDiff, Nat.reduceAdd, Nat.reduceSub, Nat.reduceMul, Nat.reduceLeDiff, Nat.reduceBEq, Bool.false_eq_true, decide_true, decide_false, Int.reduceLE, Int.reduceToNat, Int.reduceLT, Int.reduceEq, eq_self, Nat.reduceShiftRight, Nat.reduceAnd, Nat.reduceBneDiff]; exact rfl) | simp only [pz, ↓reduceIte, Nat.reduceEqDiff, Nat.reduceAdd, Nat.reduceSub, Nat.reduceMul, Nat.reduceLeDiff, Nat.reduceBEq, Bool.false_eq_true, decide_true, decide_false, Int.reduceLE, Int.reduceToNat, Int.reduceLT, Int.reduceEq, eq_self, Nat.reduceShiftRight, Nat.reduceAnd, Nat.reduceBneDiff]) (hn : ks.Nodup := by decide) (hp : pm.all pinned = true := by simp only [pz, ↓reduceIte, Nat.reduceEqDiff, Nat.reduceAdd, Nat.reduceSub, Nat.reduceMul, Nat.reduceLeDiff, Nat.reduceBEq, Bool.false_eq_true, decide_true, decide_false, Int.reduceLE, Int.reduceToNat, Int.reduceLT, Int.reduceEq, eq_self, Nat.reduceShiftRight, Nat.reduceAnd, Nat.reduceBneDiff]) : X :=
  hx ⟨r, ks, pm, hg, hn, hp, hR, resOk_of hr⟩
end Go.Proofs.YtpbikjkjfojjiaaGreat
namespace Go.Proofs.YtpbikjkjfojjiaaGreat
open Go.RowKit
theorem okC.cell : ∀ {f : F} {c : C}, okC f c → okCell c = true
  | .int, .lit v, h => by obtain ⟨n, rfl, _⟩ := h; rfl
  | .str, .lit v, h => by obtain ⟨n, rfl, _⟩ := h; rfl
  | .bool, .lit v, h => by obtain ⟨n, rfl⟩ := h; rfl
  | .sl t, .sl rows, h => rfl
  | .int, .sl _, h => False.elim h
  | .str, .sl _, h => False.elim h
  | .bool, .sl _, h => False.elim h
  | .sl _, .lit _, h => False.elim h
  | f, .ptr _, h => by cases f <;> exact False.elim h
  | f, .fn _ _, h => by cases f <;> exact False.elim h
theorem okRow.cells : ∀ {fs : List F} {cs : List C}, okRow fs cs → cs.all okCell = true
  | [], [], _ => rfl
  | f :: fs, c :: cs, h => by
    simp only [okRow] at h
    rw [List.all_cons, h.1.cell, okRow.cells h.2]
    rfl
  | [], _ :: _, h => by simp [okRow] at h
  | _ :: _, [], h => by simp [okRow] at h
theorem okRow.take {fs : List F} {cs : List C} (h : okRow fs cs) {n : Nat} (hn : fs.length = n) : cs.length = n ∧ cs.take n = cs ∧ cs.drop n = [] := by
  have := h.len
  refine ⟨by omega, ?_, ?_⟩
  · rw [List.take_of_length_le (by omega)]
  · rw [List.drop_eq_nil_of_le (by omega)]
theorem RepVals.inside' {w : World} {S : Nat → Prop} : ∀ {cs : List C} {us : List Value}, RepVals w S cs us → RepVals w (fun b => b < w.heap.size) cs us
  | [], [], _ => by simp [RepVals]
  | c :: cs, u :: us, h => by
    simp only [RepVals] at h ⊢
    exact ⟨(Rep.inside c u h.1).mono (fun b hb => hb.2), RepVals.inside' h.2⟩
  | [], _ :: _, h => by simp [RepVals] at h
  | _ :: _, [], h => by simp [RepVals] at h
theorem drop0 {α : Type} (l : List α) : l.drop 0 = l := rfl
end Go.Proofs.YtpbikjkjfojjiaaGreat
namespace Go.Proofs.YtpbikjkjfojjiaaGreat
open Go.RowKit
theorem okRow_Term {r : List C} (h : okRow (fieldsOf .term) r) : ∃ (i0 : Int) (t1 : ByteArray) (i2 : Int) (r3 : List (List C)), r = [.lit (.int .i64 i0), .lit (.string t1), .lit (.int .i64 i2), .sl r3] ∧ I64 i0 ∧ t1.size ≤ maxLen ∧ I64 i2 ∧ okRows (fieldsOf .term) r3 := by
  obtain ⟨c0, c1, c2, c3, rfl⟩ := len4 h.len
  simp only [fieldsOf, termF, occF, sortsF, sigF, moduleF, algF, List.cons_append, List.nil_append, okRow, and_true] at h
  obtain ⟨h0, h1, h2, h3⟩ := h
  obtain ⟨i0, rfl, g0⟩ := okC_int h0
  obtain ⟨t1, rfl, g1⟩ := okC_str h1
  obtain ⟨i2, rfl, g2⟩ := okC_int h2
  obtain ⟨r3, rfl, g3⟩ := okC_sl h3
  exact ⟨i0, t1, i2, r3, rfl, g0, g1, g2, g3⟩
theorem mkRow_Term {i0 : Int} {t1 : ByteArray} {i2 : Int} {r3 : List (List C)} (g0 : I64 i0) (g1 : t1.size ≤ maxLen) (g2 : I64 i2) (g3 : okRows (fieldsOf .term) r3) : okRow (fieldsOf .term) [.lit (.int .i64 i0), .lit (.string t1), .lit (.int .i64 i2), .sl r3] := by
  simp only [fieldsOf, termF, occF, sortsF, sigF, moduleF, algF, List.cons_append, List.nil_append, okRow, and_true]
  exact ⟨mk_int g0, mk_str g1, mk_int g2, mk_sl g3⟩
theorem repVals_Term {w : World} {S : Nat → Prop} {i0 : Int} {t1 : ByteArray} {i2 : Int} {r3 : List (List C)} {us : List Value} (h : RepVals w S [.lit (.int .i64 i0), .lit (.string t1), .lit (.int .i64 i2), .sl r3] us) : ∃ v3, us = [.int .i64 i0, .string t1, .int .i64 i2, v3] ∧ Rep w S (.sl r3) v3 := by
  obtain ⟨u0, u1, u2, u3, rfl⟩ := len4 h.len
  simp only [RepVals, Rep.lit_iff, and_true] at h
  obtain ⟨rfl, rfl, rfl, e3⟩ := h
  exact ⟨u3, rfl, e3⟩
theorem mkVals_Term {w : World} {S : Nat → Prop} {i0 : Int} {t1 : ByteArray} {i2 : Int} {r3 : List (List C)} {v3 : Value} (e3 : Rep w S (.sl r3) v3) : RepVals w S [.lit (.int .i64 i0), .lit (.string t1), .lit (.int .i64 i2), .sl r3] [.int .i64 i0, .string t1, .int .i64 i2, v3] := by
  simp only [RepVals, Rep.lit_iff, and_true, true_and]
  exact e3
def szTermC (row : List C) : Prop := ∀ (S : Nat → Prop) (us : List Value) (left : Int) (w : World), okRow (fieldsOf .term) row → RepVals w S row us → 0 ≤ left → left ≤ 1048576 →
  Calls Tryz.prog 23 #[.agg us.toArray, .int .i64 left] w fun e w' => e = .returned (.int .i64 (sub left (bulkRow row))) ∧ Below w.heap.size w w'
def eqTermC (row : List C) : Prop := ∀ (S S' : Nat → Prop) (us us' : List Value) (w : World), okRow (fieldsOf .term) row → RepVals w S row us → RepVals w S' row us' →
  Calls Tryz.prog 30 #[.agg us.toArray, .agg us'.toArray] w fun e w' => e = .returned (.bool true) ∧ Below w.heap.size w w'
def toTermC (row : List C) : Prop := ∀ (S : Nat → Prop) (us : List Value) (w : World), okRow (fieldsOf .term) row → RepVals w S row us → bulkRow row ≤ 1048576 →
  Calls Tryz.prog 26 #[.agg us.toArray] w fun e w' => ∃ us' : List Value, e = .returned (.agg us'.toArray) ∧ OwnVals w' row (fun x => w.heap.size ≤ x ∧ x < w'.heap.size) us' ∧ Below w.heap.size w w'
def szTermSC (rows : List (List C)) : Prop := ∀ (S : Nat → Prop) (v : Value) (left : Int) (w : World), okRows (fieldsOf .term) rows → Rep w S (.sl rows) v → 0 ≤ left → left ≤ 1048576 →
  Calls Tryz.prog 61 #[v, .int .i64 left] w fun e w' => e = .returned (.int .i64 (sub left (rows.length + bulkRows rows))) ∧ Below w.heap.size w w'
def eqTermSC (rows : List (List C)) : Prop := ∀ (S S' : Nat → Prop) (v v' : Value) (w : World), okRows (fieldsOf .term) rows → Rep w S (.sl rows) v → Rep w S' (.sl rows) v' →
  Calls Tryz.prog 73 #[v, v'] w fun e w' => e = .returned (.bool true) ∧ Below w.heap.size w w'
def toTermSC (rows : List (List C)) : Prop := ∀ (S : Nat → Prop) (v : Value) (w : World), okRows (fieldsOf .term) rows → Rep w S (.sl rows) v → rows.length + bulkRows rows ≤ 1048576 →
  Calls Tryz.prog 67 #[v] w fun e w' => ∃ v', e = .returned v' ∧ Own w' (.sl rows) (fun x => w.heap.size ≤ x ∧ x < w'.heap.size) v' ∧ Below w.heap.size w w'
set_option maxHeartbeats 1000000 in
theorem szTerm_of (row : List C) (h : ∀ (rows : List (List C)), nodesRows rows < nodesRow row → szTermSC rows) : szTermC row := by
  intro S us left w hok hv h0 h1
  obtain ⟨i0, t1, i2, r3, rfl, g0, g1, g2, g3⟩ := okRow_Term hok
  obtain ⟨v3, rfl, e3⟩ := repVals_Term hv
  have HC3 := Lib.hid (h r3 (by simp [nodesRow, nodesC]; omega))
  clear h
  have HB := Lib.hid (show bulkRow [.lit (.int .i64 i0), .lit (.string t1), .lit (.int .i64 i2), .sl r3] = t1.size + (r3.length + bulkRows r3) from by simp only [bulkRow, bulkC]; omega)
  have hs1 := g1
  unfold maxLen at hs1
  have G0 := Lib.hid g0
  have G1 := Lib.hid g1
  have G2 := Lib.hid g2
  have G3 := Lib.hid g3
  clear g0 g1 g2 g3 hok
  have E3 := Lib.hid e3
  clear hv e3
  generalize hrow : bulkRow [.lit (.int .i64 i0), .lit (.string t1), .lit (.int .i64 i2), .sl r3] = total at HB ⊢
  clear hrow
  have hbw := (Below.refl w.heap.size w).alloc (Nat.le_refl _) (.cells #[.int .i64 i0, .string t1, .int .i64 i2, v3] 31)
  by_cases q1 : left - (t1.size : Int) < 0
  · go_enter Tryz.func23, Tryz.ntmps23
    go_wp2
    go_ret
    exact ⟨ret_int (a := -1) (sub_neg (by have := HB.out; omega)).symm, hbw⟩
  go_enter Tryz.func23, Tryz.ntmps23
  go_wp2_with fail
  by_cases q3 : (left - (t1.size : Int)) < ((r3.length + bulkRows r3) : Nat)
  · refine (HC3.out S _ _ _ G3.out (E3.out.below hbw) (by omega) (by omega)).mono ?_
    rw [sub_neg (by omega)]
    rintro e w1 ⟨rfl, hb1⟩
    go_wp2
    go_ret
    exact ⟨ret_int (a := -1) (sub_neg (by have := HB.out; omega)).symm, hbw.trans (hb1.mono hbw.size)⟩
  refine (HC3.out S _ _ _ G3.out (E3.out.below hbw) (by omega) (by omega)).mono ?_
  rw [sub_pos (by omega)]
  rintro e w1 ⟨rfl, hb1⟩
  obtain ⟨hc1, hf1⟩ := bcell hb1
  have hz1 : w.heap.size < w1.heap.size := (by have := hb1.size; (try simp at this); omega)
  replace hbw := hbw.trans (hb1.mono hbw.size)
  go_wp2
  go_ret
  exact ⟨ret_int (by have := HB.out; rw [sub_pos (by omega)]; omega), hbw⟩
set_option maxHeartbeats 1000000 in
theorem eqTerm_of (row : List C) (h : ∀ (rows : List (List C)), nodesRows rows < nodesRow row → eqTermSC rows) : eqTermC row := by
  intro S S' us us' w hok hv hv'
  obtain ⟨i0, t1, i2, r3, rfl, g0, g1, g2, g3⟩ := okRow_Term hok
  obtain ⟨v3, rfl, e3⟩ := repVals_Term hv
  obtain ⟨x3, rfl, d3⟩ := repVals_Term hv'
  have HC3 := Lib.hid (h r3 (by simp [nodesRow, nodesC]; omega))
  clear h
  have G0 := Lib.hid g0
  have G1 := Lib.hid g1
  have G2 := Lib.hid g2
  have G3 := Lib.hid g3
  clear g0 g1 g2 g3 hok
  have E3 := Lib.hid e3
  have D3 := Lib.hid d3
  clear hv hv' e3 d3
  have hbw := ((Below.refl w.heap.size w).alloc (Nat.le_refl _) (.cells #[.int .i64 i0, .string t1, .int .i64 i2, v3] 47)).alloc (by simp) (.cells #[.int .i64 i0, .string t1, .int .i64 i2, x3] 47)
  go_enter Tryz.func30, Tryz.ntmps30
  go_wp2_with fail
  refine (HC3.out S S' _ _ _ G3.out (E3.out.below hbw) (D3.out.below hbw)).mono ?_
  rintro e w1 ⟨rfl, hb1⟩
  obtain ⟨hc1, hf1⟩ := bcell hb1
  have hz1 : w.heap.size + 1 < w1.heap.size := (by have := hb1.size; (try simp at this); omega)
  have ha1 : w.heap.size < w1.heap.size := by omega
  replace hbw := hbw.trans (hb1.mono hbw.size)
  go_wp2
  go_ret
  exact ⟨rfl, hbw⟩
set_option maxHeartbeats 2000000 in
theorem toTerm_of (row : List C) (h : ∀ (rows : List (List C)), nodesRows rows < nodesRow row → toTermSC rows) : toTermC row := by
  intro S us w hok hv hlen
  obtain ⟨i0, t1, i2, r3, rfl, g0, g1, g2, g3⟩ := okRow_Term hok
  obtain ⟨v3, rfl, e3⟩ := repVals_Term hv
  have HC3 := Lib.hid (h r3 (by simp [nodesRow, nodesC]; omega))
  clear h
  have G0 := Lib.hid g0
  have G1 := Lib.hid g1
  have G2 := Lib.hid g2
  have G3 := Lib.hid g3
  clear g0 g1 g2 g3 hok
  have E3 := Lib.hid e3
  clear hv e3
  have hl3 : (r3.length + bulkRows r3) ≤ 1048576 := by
    have e : (r3.length + bulkRows r3) ≤ bulkRow [.lit (.int .i64 i0), .lit (.string t1), .lit (.int .i64 i2), .sl r3] := by simp only [bulkRow, bulkC]; omega
    exact Nat.le_trans e hlen
  clear hlen
  go_enter Tryz.func26, Tryz.ntmps26
  go_wp2_with fail
  refine (HC3.out S _ _ G3.out (by exact E3.out.below (by repeat (first | refine Below.alloc ?_ (by simp; try omega) _ | exact Below.refl _ _))) hl3).mono ?_
  rintro e w1 ⟨y3, rfl, hown3, hb1⟩
  obtain ⟨A3, n3, cap3, rfl, _, _, _⟩ := (Own.rep _ _ _ hown3).form
  have hz1 := hb1.size
  simp at hz1 hown3
  have HOWN3 := Lib.hid hown3
  clear hown3
  have hbw1 : Below w.heap.size w w1 := Below.trans (by repeat (first | refine Below.alloc ?_ (by simp; try omega) _ | exact Below.refl _ _)) (hb1.mono (by simp; try omega))
  obtain ⟨hc1, hf1⟩ := bcell hb1
  have ha1 : w.heap.size < w1.heap.size := by omega
  have hbb1 : w.heap.size + 1 < w1.heap.size := by omega
  have hcc1 : w.heap.size + 1 + 1 < w1.heap.size := by omega
  go_wp2
  refine bodyPost_ret (v := .agg #[.int .i64 i0, .string t1, .int .i64 i2, .slice A3 n3 cap3]) (by simp [results, Tryz.results26, go_sem, hc1, ha1, hbb1, hcc1]) rfl ⟨[.int .i64 i0, .string t1, .int .i64 i2, .slice A3 n3 cap3], rfl, ?_, (by repeat (first | refine Below.setCell ?_ (by simp; try omega) _ | exact hbw1))⟩
  simp
  exact (OwnVals.lit (OwnVals.lit (OwnVals.lit (OwnVals.cons (fun x => w.heap.size + 1 + 1 + 1 ≤ x ∧ x < w1.heap.size) (fun x => w1.heap.size ≤ x ∧ x < w1.heap.size) (HOWN3.out.same (by repeat (first | refine Same.trans ?_ (Same.setCell _ _ _ _ (by simp; try omega)) | exact Same.refl _ _))) OwnVals.nil (fun x hx => ⟨by omega, by omega⟩) (fun x hx => ⟨by omega, by omega⟩) (fun x hx hy => by omega)))))
set_option maxHeartbeats 1000000 in
theorem szTermS_of (rows : List (List C)) (h : ∀ (i : Nat) r, rows[i]? = some r → szTermC r) : szTermSC rows := by
  intro S v left w hok hv h0 h1
  obtain ⟨A, m, cap, rfl, hm, hmc, hcm⟩ := hv.form
  have H := Lib.hid h
  have HV := Lib.hid hv
  have HM := Lib.hid hm
  have HOK := Lib.hid hok
  clear h hv hm hok
  unfold maxLen at hcm
  by_cases hlt : left - m < 0
  · rw [sub_neg (by have := HM.out; omega)]
    go_enter Tryz.func61, Tryz.ntmps61
    go_wp2
    go_ret
    exact ⟨rfl, Below.refl _ _⟩
  · go_enter Tryz.func61, Tryz.ntmps61
    go_wp2
    go_loopw [1, 5] (fun l i wr => ∃ k : Nat, k ≤ m ∧ i = .int .i64 k ∧ l = .int .i64 (left - m - (bulkRows (rows.take k) : Int)) ∧ 0 ≤ left - m - (bulkRows (rows.take k) : Int) ∧ Below w.heap.size w wr) (fun _ i _ => m - (intOf i).toNat)
    case atStart => exact ⟨0, Nat.zero_le _, rfl, by simp [bulkRows], by simp [bulkRows]; omega, Below.refl _ _⟩
    case round =>
      obtain ⟨k, hk, rfl, rfl, hl0, hb⟩ := hrel
      by_cases hkm : k < m
      · obtain ⟨b, off, r, rfl, hS, hbz, hget, hokr, hrow⟩ := (HV.out.below hb).get HOK.out hkm
        obtain ⟨u0, u1, u2, u3, c0, c1, c2, c3, hvals⟩ := hrow.vals4 hokr.len
        have HT := H.out k r hget
        have HVALS := Lib.hid hvals
        have HOKR := Lib.hid hokr
        have HBT := Lib.hid (bulk_take hget)
        have hle := bulk_take_le rows (k+1)
        clear hvals hokr hrow hget
        simp only [fieldsOf, termF, occF, sortsF, sigF, moduleF, algF, List.cons_append, List.nil_append, List.length_cons, List.length_nil, Nat.reduceAdd, Nat.mul_one] at c0 c1 c2 c3
        by_cases h2 : left - m - (bulkRows (rows.take k) : Int) < bulkRow r
        · go_wp2_with fail
          refine (HT S _ _ _ HOKR.out HVALS.out (by omega) (by omega)).mono ?_
          rw [sub_neg h2]
          rintro e w' ⟨rfl, hb2⟩
          go_wp2
          go_ret
          exact ⟨ret_int (a := -1) (sub_neg (by have := HBT.out; have := HM.out; omega)).symm, hb.trans (hb2.mono hb.size)⟩
        · go_wp2_with fail
          refine (HT S _ _ _ HOKR.out HVALS.out (by omega) (by omega)).mono ?_
          rw [sub_pos (by omega)]
          rintro e w' ⟨rfl, hb2⟩
          go_wp2
          go_roundw
          case rel => exact ⟨k + 1, by omega, by go_num, by have := HBT.out; congr 1; omega, by have := HBT.out; omega, hb.trans (hb2.mono hb.size)⟩
          case measure => simp [intOf]; omega
      · go_wp2
        go_ret
        have e : k = m := by omega
        subst e
        have : rows.take k = rows := List.take_of_length_le (by have := HM.out; omega)
        rw [this] at hl0 ⊢
        exact ⟨ret_int (by have := HM.out; rw [sub_pos (by omega)]; omega), hb⟩
set_option maxHeartbeats 1000000 in
theorem eqTermS_of (rows : List (List C)) (h : ∀ (i : Nat) r, rows[i]? = some r → eqTermC r) : eqTermSC rows := by
  intro S S' v v' w hok hv hv'
  obtain ⟨A, m, cap, rfl, hm, hmc, hcm⟩ := hv.form
  obtain ⟨A', m', cap', rfl, hm', hmc', hcm'⟩ := hv'.form
  obtain rfl : m = m' := by omega
  have H := Lib.hid h
  have HV := Lib.hid hv
  have HV' := Lib.hid hv'
  have HM := Lib.hid hm
  have HOK := Lib.hid hok
  clear h hv hm hok hm' hv'
  unfold maxLen at hcm hcm'
  go_enter Tryz.func73, Tryz.ntmps73
  go_wp2
  go_loopw [5] (fun i wr => ∃ k : Nat, k ≤ m ∧ i = .int .i64 k ∧ Below w.heap.size w wr) (fun i _ => m - (intOf i).toNat)
  case atStart => exact ⟨0, Nat.zero_le _, rfl, Below.refl _ _⟩
  case round =>
    obtain ⟨k, hk, rfl, hb⟩ := hrel
    by_cases hkm : k < m
    · obtain ⟨b, off, r, rfl, hS, hbz, hget, hokr, hrow⟩ := (HV.out.below hb).get HOK.out hkm
      obtain ⟨b', off', r', rfl, hS', hbz', hget', hokr', hrow'⟩ := (HV'.out.below hb).get HOK.out hkm
      obtain rfl : r = r' := by rw [hget] at hget'; exact Option.some.inj hget'
      obtain ⟨u0, u1, u2, u3, c0, c1, c2, c3, hvals⟩ := hrow.vals4 hokr.len
      obtain ⟨x0, x1, x2, x3, d0, d1, d2, d3, hvals'⟩ := hrow'.vals4 hokr.len
      have HT := H.out k r hget
      have HVALS := Lib.hid hvals
      have HVALS' := Lib.hid hvals'
      have HOKR := Lib.hid hokr
      clear hvals hvals' hokr hokr' hrow hrow' hget hget'
      simp only [fieldsOf, termF, occF, sortsF, sigF, moduleF, algF, List.cons_append, List.nil_append, List.length_cons, List.length_nil, Nat.reduceAdd, Nat.mul_one] at c0 c1 c2 c3 d0 d1 d2 d3
      have k0 : (0 : Int) ≤ (k : Int) := by omega
      have k1 : (k : Int) < (m : Int) := by omega
      go_wp2_with fail
      go_region_held3 (fun w' => ∀ b o, b < wr.heap.size → w'.cell? ⟨b, o, none⟩ = wr.cell? ⟨b, o, none⟩) (first | go_keep | exact fun b o h => hb2.cell (p := ⟨b, o, none⟩) h) (first | (go_at_call 30; refine (HT S S' _ _ _ HOKR.out (HVALS.out.below (Below.refl _ _).drew) (HVALS'.out.below (Below.refl _ _).drew)).mono ?_; rintro e w' ⟨rfl, hb2⟩))
      go_wp2
      go_roundw
      case rel => exact ⟨k + 1, by omega, by go_num, hb.trans ((Below.refl _ _).drew.trans (hb2.mono hb.size))⟩
      case measure => simp [intOf]; omega
    · go_wp2
      go_ret
      exact ⟨rfl, hb⟩
theorem info_Term : (Tryz.prog.info? 47).map (fun i => (i.zero, i.size, i.bytes)) = some (some (.agg #[.int .i64 0, .string .empty, .int .i64 0, .slice none 0 0]), 4, 56) := by kernel_rfl
set_option maxHeartbeats 1000000 in
theorem toTermS_of (rows : List (List C)) (h : ∀ (i : Nat) r, rows[i]? = some r → toTermC r) : toTermSC rows := by
  intro S v w hok hv hlen
  obtain ⟨A, m, cap, rfl, hm, hmc, hcm⟩ := hv.form
  obtain ⟨i0, hi, hz0, hz1, hz2⟩ := info_parts info_Term
  have H := Lib.hid h
  have HV := Lib.hid hv
  have HM := Lib.hid hm
  have HOK := Lib.hid hok
  have hml : m ≤ 1048576 := by omega
  clear h hv hm hok
  unfold maxLen at hcm
  have hmk := run_make (P := Tryz.prog) w 45 47 i0 _ Tryz.underlying45 hi hz0 .i64 .i64 (m : Int) (m : Int) (by omega) (by omega) (by rw [hz2]; omega) (by omega)
  go_enter Tryz.func67, Tryz.ntmps67
  go_wp2
  clear hmk
  go_loopw [4] (fun i wr => ∃ k : Nat, k ≤ m ∧ i = .int .i64 k ∧ Filling w w.heap.size 47 m 4 rows k wr) (fun i _ => m - (intOf i).toNat)
  case atStart => exact ⟨0, Nat.zero_le _, rfl, Filling.start (size_madeCells _ _)⟩
  case round =>
    obtain ⟨k, hk, rfl, hfill⟩ := hrel
    have hb := hfill.1
    by_cases hkm : k < m
    · obtain ⟨b, off, r, rfl, hS, hbz, hget, hokr, hrow⟩ := (HV.out.below hb).get HOK.out hkm
      obtain ⟨u0, u1, u2, u3, c0, c1, c2, c3, hvals⟩ := hrow.vals4 hokr.len
      have HT := H.out k r hget
      have HVALS := Lib.hid hvals
      have HOKR := Lib.hid hokr
      have HGET := Lib.hid hget
      have HF := Lib.hid hfill
      have hbg := bulk_get hget
      clear hvals hokr hrow hget hfill
      simp only [fieldsOf, termF, occF, sortsF, sigF, moduleF, algF, List.cons_append, List.nil_append, List.length_cons, List.length_nil, Nat.reduceAdd, Nat.mul_one] at c0 c1 c2 c3
      go_wp2_with fail
      refine (HT S _ _ HOKR.out HVALS.out (by omega)).mono ?_
      rintro e w2 ⟨us, rfl, hown, hb2⟩
      have hone := HOKR.out.one (OwnVals.rep _ _ (fun _ => True) _ (fun _ _ => trivial) hown)
      obtain ⟨y0, y1, y2, y3, rfl⟩ := len4 (hown.len.trans HOKR.out.len)
      have HOWN := Lib.hid hown
      have HONE := Lib.hid hone
      obtain ⟨cur, hcur, hcs⟩ := HF.out.row hb2
      have HCUR := Lib.hid hcur
      have HCS := Lib.hid hcs
      clear hown hone hcur hcs
      go_wp2_with (refine wpList_store_put rfl 47 _ _ rfl w.heap.size (k * 4) rfl [y0, y1, y2, y3] rfl i0 hi hz1 47 cur HCUR.out (by have := HCS.out; simp only [List.length_cons, List.length_nil]; omega) HONE.out ?_; intro w3 hput)
      go_roundw
      case rel => exact ⟨k + 1, by omega, by go_num, HF.out.step (fs := fieldsOf .term) HOK.out HGET.out hb2 HOWN.out hput⟩
      case measure => simp [intOf]; omega
    · go_wp2
      go_ret
      have e : k = m := by omega
      subst e
      exact ⟨_, rfl, hfill.done HM.out (by unfold maxLen; omega) (by decide) HOK.out.lens⟩
theorem szTermS_all (n : Nat) : ∀ rows, nodesRows rows < n → szTermSC rows := by
  induction n with
  | zero => intro rows h; omega
  | succ n ih => exact fun rows h => szTermS_of rows (fun i r hr => szTerm_of r (fun rows' h' => ih rows' (by have := nodes_get hr; omega)))
theorem szTermS_any (rows : List (List C)) : szTermSC rows := szTermS_all _ rows (Nat.lt_succ_self _)
theorem szTerm_any (row : List C) : szTermC row := szTerm_of row (fun rows _ => szTermS_any rows)
theorem eqTermS_all (n : Nat) : ∀ rows, nodesRows rows < n → eqTermSC rows := by
  induction n with
  | zero => intro rows h; omega
  | succ n ih => exact fun rows h => eqTermS_of rows (fun i r hr => eqTerm_of r (fun rows' h' => ih rows' (by have := nodes_get hr; omega)))
theorem eqTermS_any (rows : List (List C)) : eqTermSC rows := eqTermS_all _ rows (Nat.lt_succ_self _)
theorem eqTerm_any (row : List C) : eqTermC row := eqTerm_of row (fun rows _ => eqTermS_any rows)
theorem toTermS_all (n : Nat) : ∀ rows, nodesRows rows < n → toTermSC rows := by
  induction n with
  | zero => intro rows h; omega
  | succ n ih => exact fun rows h => toTermS_of rows (fun i r hr => toTerm_of r (fun rows' h' => ih rows' (by have := nodes_get hr; omega)))
theorem toTermS_any (rows : List (List C)) : toTermSC rows := toTermS_all _ rows (Nat.lt_succ_self _)
theorem toTerm_any (row : List C) : toTermC row := toTerm_of row (fun rows _ => toTermS_any rows)
end Go.Proofs.YtpbikjkjfojjiaaGreat
namespace Go.Proofs.YtpbikjkjfojjiaaGreat
open Go.RowKit
inductive Tm where
  | mk (op : Int) (name : ByteArray) (sort : Int) (args : List Tm)
def Tm.args : Tm → List Tm | .mk _ _ _ a => a
def Tm.op : Tm → Int | .mk a _ _ _ => a
def Tm.name : Tm → ByteArray | .mk _ a _ _ => a
def Tm.sort : Tm → Int | .mk _ _ a _ => a
mutual
def encTm : Tm → List C
  | .mk op nm so args => [.lit (.int .i64 op), .lit (.string nm), .lit (.int .i64 so), .sl (encTms args)]
def encTms : List Tm → List (List C)
  | [] => []
  | t :: ts => encTm t :: encTms ts
end
mutual
def okTm : Tm → Prop
  | .mk op nm so args => I64 op ∧ nm.size ≤ maxLen ∧ I64 so ∧ okTms args
def okTms : List Tm → Prop
  | [] => True
  | t :: ts => okTm t ∧ okTms ts
end
theorem encTms_eq (ts : List Tm) : encTms ts = ts.map encTm := by
  induction ts with
  | nil => simp [encTms]
  | cons t ts ih => simp [encTms, ih]
theorem encTms_len (ts : List Tm) : (encTms ts).length = ts.length := by simp [encTms_eq]
theorem encTms_get (ts : List Tm) (i : Nat) : (encTms ts)[i]? = ts[i]?.map encTm := by simp [encTms_eq]
mutual
theorem okRow_enc : ∀ (t : Tm), okTm t → okRow (fieldsOf .term) (encTm t)
  | .mk op nm so args, h => by
    simp only [okTm] at h
    simp only [encTm]
    exact mkRow_Term h.1 h.2.1 h.2.2.1 (okRows_enc args h.2.2.2)
theorem okRows_enc : ∀ (ts : List Tm), okTms ts → okRows (fieldsOf .term) (encTms ts)
  | [], _ => by simp [encTms, okRows]
  | t :: ts, h => by
    simp only [okTms] at h
    simp only [encTms, okRows]
    exact ⟨okRow_enc t h.1, okRows_enc ts h.2⟩
end
theorem dec_both (n : Nat) : (∀ row, nodesRow row < n → okRow (fieldsOf .term) row → ∃ t, row = encTm t ∧ okTm t) ∧ (∀ rows, nodesRows rows < n → okRows (fieldsOf .term) rows → ∃ ts, rows = encTms ts ∧ okTms ts) := by
  induction n with
  | zero => exact ⟨fun _ h => by omega, fun _ h => by omega⟩
  | succ n ih =>
    have h1 : ∀ row, nodesRow row < n + 1 → okRow (fieldsOf .term) row → ∃ t, row = encTm t ∧ okTm t := by
      intro row hn hok
      obtain ⟨i0, t1, i2, r3, rfl, g0, g1, g2, g3⟩ := okRow_Term hok
      obtain ⟨ts, rfl, hts⟩ := ih.2 r3 (by simp only [nodesRow, nodesC] at hn; omega) g3
      exact ⟨.mk i0 t1 i2 ts, by simp [encTm], by simp only [okTm]; exact ⟨g0, g1, g2, hts⟩⟩
    refine ⟨h1, fun rows => ?_⟩
    induction rows with
    | nil => exact fun _ _ => ⟨[], by simp [encTms], by simp [okTms]⟩
    | cons r rs ihr =>
      intro hn hok
      simp only [nodesRows] at hn
      simp only [okRows] at hok
      obtain ⟨t, rfl, ht⟩ := h1 r (by omega) hok.1
      obtain ⟨ts, rfl, hts⟩ := ihr (by omega) hok.2
      exact ⟨t :: ts, by simp [encTms], by simp only [okTms]; exact ⟨ht, hts⟩⟩
theorem decTm {row : List C} (h : okRow (fieldsOf .term) row) : ∃ t, row = encTm t ∧ okTm t := (dec_both _).1 row (Nat.lt_succ_self _) h
theorem decTms {rows : List (List C)} (h : okRows (fieldsOf .term) rows) : ∃ ts, rows = encTms ts ∧ okTms ts := (dec_both _).2 rows (Nat.lt_succ_self _) h
theorem okTms.mem : ∀ {ts : List Tm} {t : Tm}, okTms ts → t ∈ ts → okTm t
  | [], _, _, h => by simp at h
  | x :: xs, t, h, ht => by
    simp only [okTms] at h
    rcases List.mem_cons.1 ht with rfl | ht
    · exact h.1
    · exact okTms.mem h.2 ht
/-! The order of terms. -/
def cmpInt (a b : Int) : Int := if a < b then -1 else if b < a then 1 else 0
def cmpStr (a b : ByteArray) : Int := Lib.compareBytes a.data.toList b.data.toList
def firstNZ : List Int → Int
  | [] => 0
  | x :: xs => if x = 0 then firstNZ xs else x
mutual
def cmpTm : Tm → Tm → Int
  | .mk o n s a, .mk o' n' s' a' => firstNZ [cmpInt o o', cmpStr n n', cmpInt s s', cmpTms a a']
def cmpTms : List Tm → List Tm → Int
  | [], [] => 0
  | [], _ :: _ => -1
  | _ :: _, [] => 1
  | x :: xs, y :: ys => firstNZ [cmpTm x y, cmpTms xs ys]
end
theorem compareBytes_self : ∀ (l : List UInt8), Lib.compareBytes l l = 0
  | [] => rfl
  | x :: xs => by simp [Lib.compareBytes, compareBytes_self xs]
theorem compareBytes_zero : ∀ {l m : List UInt8}, Lib.compareBytes l m = 0 → l = m
  | [], [], _ => rfl
  | [], _ :: _, h => by simp [Lib.compareBytes] at h
  | _ :: _, [], h => by simp [Lib.compareBytes] at h
  | x :: xs, y :: ys, h => by
    simp only [Lib.compareBytes] at h
    split at h
    · simp at h
    · split at h
      · simp at h
      · rename_i h1 h2
        have e : x = y := UInt8.le_antisymm (UInt8.not_lt.1 h2) (UInt8.not_lt.1 h1)
        rw [e, compareBytes_zero h]
theorem compareBytes_less : ∀ (l m : List UInt8), Op.bytesLess l m = decide (Lib.compareBytes l m = -1)
  | [], [] => by simp [Op.bytesLess, Lib.compareBytes]
  | [], _ :: _ => by simp [Op.bytesLess, Lib.compareBytes]
  | _ :: _, [] => by simp [Op.bytesLess, Lib.compareBytes]
  | x :: xs, y :: ys => by
    have ih := compareBytes_less xs ys
    simp only [Op.bytesLess, Lib.compareBytes, ih]
    by_cases h1 : x < y
    · simp [h1]
    · by_cases h2 : y < x
      · have : ¬ x = y := fun e => by subst e; exact h1 h2
        simp [h1, h2, this]
      · have e : x = y := UInt8.le_antisymm (UInt8.not_lt.1 h2) (UInt8.not_lt.1 h1)
        subst e
        simp [h1]
theorem compareBytes_range : ∀ (l m : List UInt8), Lib.compareBytes l m = -1 ∨ Lib.compareBytes l m = 0 ∨ Lib.compareBytes l m = 1
  | [], [] => by simp [Lib.compareBytes]
  | [], _ :: _ => by simp [Lib.compareBytes]
  | _ :: _, [] => by simp [Lib.compareBytes]
  | x :: xs, y :: ys => by
    have ih := compareBytes_range xs ys
    simp only [Lib.compareBytes]
    split
    · simp
    · split
      · simp
      · exact ih
theorem cmpInt_zero {a b : Int} : cmpInt a b = 0 ↔ a = b := by unfold cmpInt; split <;> (try split) <;> simp <;> omega
theorem cmpStr_zero {a b : ByteArray} : cmpStr a b = 0 ↔ a = b := by
  constructor
  · intro h
    have := compareBytes_zero h
    obtain ⟨⟨la⟩⟩ := a
    obtain ⟨⟨lb⟩⟩ := b
    simp at this
    rw [this]
  · rintro rfl
    exact compareBytes_self _
theorem cmpStr_range (a b : ByteArray) : cmpStr a b = -1 ∨ cmpStr a b = 0 ∨ cmpStr a b = 1 := compareBytes_range _ _
/-- The two lists agree in their first k elements. -/
theorem cmpTms_step : ∀ {ps qs : List Tm} {k : Nat} {x y : Tm}, ps[k]? = some x → qs[k]? = some y → cmpTms (ps.drop k) (qs.drop k) = firstNZ [cmpTm x y, cmpTms (ps.drop (k + 1)) (qs.drop (k + 1))] := by
  intro ps qs k x y h1 h2
  have e1 : ps.drop k = x :: ps.drop (k + 1) := by
    obtain ⟨hl, hx⟩ := List.getElem?_eq_some_iff.1 h1
    rw [← hx]; exact List.drop_eq_getElem_cons hl
  have e2 : qs.drop k = y :: qs.drop (k + 1) := by
    obtain ⟨hl, hx⟩ := List.getElem?_eq_some_iff.1 h2
    rw [← hx]; exact List.drop_eq_getElem_cons hl
  rw [e1, e2, cmpTms]
end Go.Proofs.YtpbikjkjfojjiaaGreat
namespace Go.Proofs.YtpbikjkjfojjiaaGreat
open Go.RowKit
theorem tm_len (t : Tm) : (encTm t).length = 4 := by cases t; rfl
theorem tm_take (t : Tm) : (encTm t).take 4 = encTm t := by cases t; rfl
theorem tm_drop (t : Tm) : (encTm t).drop 4 = [] := by cases t; rfl
theorem tm_ok (t : Tm) : (encTm t).all okCell = true := by cases t; rfl
theorem rb_tm (ts : List Tm) : rowsB 4 (encTms ts) = true := by
  rw [encTms_eq]
  exact rowsB_map (e := encTm) (n := 4) (fun t => by rw [tm_len, tm_ok]; rfl) ts
theorem tm_v0 (t : Tm) : valT .one (encTm t) = some (.d (.one (.lit (.int .i64 t.op)))) := by cases t; rfl
theorem tm_d1 (t : Tm) : (encTm t).drop 1 = [.lit (.string t.name), .lit (.int .i64 t.sort), .sl (encTms t.args)] := by cases t; rfl
theorem tm_d2 (t : Tm) : (encTm t).drop 2 = [.lit (.int .i64 t.sort), .sl (encTms t.args)] := by cases t; rfl
theorem tm_d3 (t : Tm) : (encTm t).drop 3 = [.sl (encTms t.args)] := by cases t; rfl
theorem tmz : type_of% (And.intro tm_v0 (And.intro tm_d1 (And.intro tm_d2 (And.intro tm_d3 (And.intro tm_len (And.intro tm_take (And.intro tm_drop (And.intro tm_ok (And.intro rb_tm (And.intro encTms_get (And.intro encTms_len @drop0))))))))))) := (And.intro tm_v0 (And.intro tm_d1 (And.intro tm_d2 (And.intro tm_d3 (And.intro tm_len (And.intro tm_take (And.intro tm_drop (And.intro tm_ok (And.intro rb_tm (And.intro encTms_get (And.intro encTms_len @drop0)))))))))))
end Go.Proofs.YtpbikjkjfojjiaaGreat
namespace Go.Proofs.YtpbikjkjfojjiaaGreat
open Go.RowKit
theorem cmpCompare (a b : Int) (w : World) : Calls Tryz.prog 158 #[.int .i64 a, .int .i64 b] w fun e w' => e = .returned (.int .i64 (cmpInt a b)) ∧ w = w' := by
  unfold cmpInt
  by_cases h1 : a < b
  · rw [if_pos h1]
    go_enter Tryz.func158, Tryz.ntmps158
    go_wp2
    go_ret
    exact ⟨rfl, rfl⟩
  · by_cases h2 : b < a
    · rw [if_neg h1, if_pos h2]
      go_enter Tryz.func158, Tryz.ntmps158
      go_wp2
      go_ret
      exact ⟨rfl, rfl⟩
    · rw [if_neg h1, if_neg h2]
      go_enter Tryz.func158, Tryz.ntmps158
      go_wp2
      go_ret
      exact ⟨rfl, rfl⟩
set_option maxRecDepth 100000 in
theorem bytealgCompare (a b : ByteArray) (w : World) : Calls Tryz.prog 185 #[.string a, .string b] w fun e w' => e = .returned (.int .i64 (cmpStr a b)) ∧ w = w' := by
  go_enter Tryz.func185, Tryz.ntmps185
  go_wp2
  rw [run_callFunc_extern Tryz.func191 (by kernel_rfl) (by kernel_rfl) (by kernel_rfl) (e := Extern.BytealgCompare.compare) (by kernel_rfl), Lib.run_compareString]
  simp only [Result.andThen]
  rw [Oper.upon_value]
  go_wp2
  go_ret
  exact ⟨rfl, rfl⟩
theorem stringsCompare (a b : ByteArray) (w : World) : Calls Tryz.prog 159 #[.string a, .string b] w fun e w' => e = .returned (.int .i64 (cmpStr a b)) ∧ w = w' := by
  go_enter Tryz.func159, Tryz.ntmps159
  go_wp2_with fail
  refine (bytealgCompare _ _ _).mono ?_
  rintro e w' ⟨rfl, rfl⟩
  go_wp2
  go_ret
  exact ⟨rfl, rfl⟩
theorem firstNZ_drop {l : List Int} {k : Nat} {x : Int} (h : l[k]? = some x) : firstNZ (l.drop k) = if x = 0 then firstNZ (l.drop (k + 1)) else x := by
  obtain ⟨hl, hx⟩ := List.getElem?_eq_some_iff.1 h
  rw [List.drop_eq_getElem_cons hl, hx, firstNZ]
set_option maxHeartbeats 1000000 in
theorem cmpOr (l : List Int) (g n cap : Nat) (w : World) (hn : l.length = n) (hm : n ≤ 9223372036854775807) (hc : ∀ (i : Nat) x, l[i]? = some x → w.cell? ⟨g, i, none⟩ = some (.int .i64 x)) :
    Calls Tryz.prog 157 #[.slice (some ⟨g, 0, none⟩) n cap] w fun e w' => e = .returned (.int .i64 (firstNZ l)) ∧ w = w' := by
  have HC := Lib.hid hc
  have HN := Lib.hid hn
  clear hc hn
  go_enter Tryz.func157, Tryz.ntmps157
  go_wp2
  go_loop [8] (fun i => ∃ k : Nat, k ≤ n ∧ i = .int .i64 k ∧ firstNZ l = firstNZ (l.drop k)) (fun i => n - (intOf i).toNat)
  case atStart => exact ⟨0, Nat.zero_le _, rfl, rfl⟩
  case round =>
    obtain ⟨k, hk, rfl, hz⟩ := hrel
    have HZ := Lib.hid hz
    clear hz
    by_cases hkn : k < n
    · have hget : l[k]? = some (l[k]'(by have := HN.out; omega)) := List.getElem?_eq_getElem _
      generalize (l[k]'(by have := HN.out; omega)) = x at hget
      have hcell := HC.out k x hget
      have hd := Lib.hid (firstNZ_drop hget)
      clear hget
      by_cases hx : x = 0
      · subst hx
        go_wp2
        go_round
        case rel => exact ⟨k + 1, by omega, by go_num, by rw [HZ.out, hd.out, if_pos rfl]⟩
        case measure => simp [intOf]; omega
      · have hx1 : (x == 0) = false := by simpa using hx
        have hx2 : (x != 0) = true := by simpa using hx
        go_wp2
        go_ret
        exact ⟨ret_int (by rw [HZ.out, hd.out, if_neg hx]), rfl⟩
    · go_wp2
      go_ret
      refine ⟨ret_int ?_, rfl⟩
      rw [HZ.out, List.drop_eq_nil_of_le (by have := HN.out; omega)]
      rfl
end Go.Proofs.YtpbikjkjfojjiaaGreat
namespace Go.Proofs.YtpbikjkjfojjiaaGreat
open Go.RowKit
def cmpTmC (f : FuncId) (a b : Tm) : Prop := ∀ (S S' : Nat → Prop) (us us' : List Value) (w : World), okTm a → okTm b → RepVals w S (encTm a) us → RepVals w S' (encTm b) us' →
  Calls Tryz.prog f #[.agg us.toArray, .agg us'.toArray] w fun e w' => e = .returned (.int .i64 (cmpTm a b)) ∧ Below w.heap.size w w'
def cmpTmsC (f : FuncId) (x y : List Tm) : Prop := ∀ (S S' : Nat → Prop) (v v' : Value) (w : World), okTms x → okTms y → Rep w S (.sl (encTms x)) v → Rep w S' (.sl (encTms y)) v' →
  Calls Tryz.prog f #[v, v', .func (.func 123) #[] #[]] w fun e w' => e = .returned (.int .i64 (cmpTms x y)) ∧ Below w.heap.size w w'
theorem firstNZ2_zero {a b : Int} (h : a = 0) : firstNZ [a, b] = b := by
  simp only [firstNZ, h, if_true]
  split <;> simp_all
theorem firstNZ2_nz {a b : Int} (h : a ≠ 0) : firstNZ [a, b] = a := by simp [firstNZ, h]
set_option maxHeartbeats 2000000 in
set_option maxRecDepth 100000 in
theorem implCompareFunc_of (x y : List Tm) (h : ∀ (i : Nat) a b, x[i]? = some a → y[i]? = some b → cmpTmC 123 a b) : cmpTmsC 160 x y := by
  intro S S' v v' w hx hy hv hv'
  obtain ⟨A, m, cap, rfl, hm, hmc, hcm⟩ := hv.form
  obtain ⟨A', m', cap', rfl, hm', hmc', hcm'⟩ := hv'.form
  rw [encTms_len] at hm hm'
  obtain ⟨ic, hci, _, hcs, _⟩ := info_parts info_Term
  have H := Lib.hid h
  have HV := Lib.hid hv
  have HV' := Lib.hid hv'
  have HM := Lib.hid hm
  have HM' := Lib.hid hm'
  have HX := Lib.hid hx
  have HY := Lib.hid hy
  clear h hv hv' hm hm' hx hy
  unfold maxLen at hcm hcm'
  go_enter Tryz.func160, Tryz.ntmps160
  go_wp2
  go_loopw [13] (fun i wr => ∃ k : Nat, k ≤ m ∧ k ≤ m' ∧ i = .int .i64 k ∧ cmpTms x y = cmpTms (x.drop k) (y.drop k) ∧ Below w.heap.size w wr) (fun i _ => m - (intOf i).toNat)
  case atStart => exact ⟨0, Nat.zero_le _, Nat.zero_le _, rfl, rfl, Below.refl _ _⟩
  case round =>
    obtain ⟨k, hk, hk', rfl, hz, hb⟩ := hrel
    have HZ := Lib.hid hz
    clear hz
    by_cases hkm : k < m
    · obtain ⟨b, off, r, rfl, hS, hbz, hget, hokr, hrow⟩ := (HV.out.below hb).get (okRows_enc x HX.out) hkm
      obtain ⟨u0, u1, u2, u3, c0, c1, c2, c3, hvals⟩ := hrow.vals4 hokr.len
      have hone := okRow.one hokr hvals
      rw [encTms_get] at hget
      obtain ⟨t, ht, rfl⟩ := Option.map_eq_some_iff.1 hget
      have HVALS := Lib.hid hvals
      have HONE := Lib.hid hone
      have HT := Lib.hid ht
      clear hvals hokr hrow hget hone ht
      simp only [fieldsOf, termF, List.length_cons, List.length_nil, Nat.reduceAdd] at c0 c1 c2 c3
      by_cases hkm' : k < m'
      · obtain ⟨b', off', r', rfl, hS', hbz', hget', hokr', hrow'⟩ := (HV'.out.below hb).get (okRows_enc y HY.out) hkm'
        obtain ⟨x0, x1, x2, x3, d0, d1, d2, d3, hvals'⟩ := hrow'.vals4 hokr'.len
        have hone' := okRow.one hokr' hvals'
        rw [encTms_get] at hget'
        obtain ⟨t', ht', rfl⟩ := Option.map_eq_some_iff.1 hget'
        have HVALS' := Lib.hid hvals'
        have HONE' := Lib.hid hone'
        have HT' := Lib.hid ht'
        clear hvals' hokr' hrow' hget' hone' ht'
        simp only [fieldsOf, termF, List.length_cons, List.length_nil, Nat.reduceAdd] at d0 d1 d2 d3
        have hbb : ∀ o1 o2, Below w.heap.size w ((wr.alloc o1).alloc o2) := fun o1 o2 => (hb.alloc hb.size o1).alloc (by have := hb.size; simp; omega) o2
        have hbr : ∀ o1 o2, Below wr.heap.size wr ((wr.alloc o1).alloc o2) := fun o1 o2 => ((Below.refl _ _).alloc (Nat.le_refl _) o1).alloc (by simp) o2
        have hbne : b' ≠ wr.heap.size := by omega
        have HC := Lib.hid (H.out k t t' HT.out HT'.out)
        go_wp2_with (first
          | refine wpList_store_new rfl 47 _ _ rfl _ _ _ rfl _ rfl (by simp) [u0, u1, u2, u3] rfl ic hci hcs rfl HONE.out ?_
          | refine wpList_store_new rfl 47 _ _ rfl _ _ _ rfl _ rfl (by simp) [x0, x1, x2, x3] rfl ic hci hcs rfl HONE'.out ?_)
        refine (HC.out S S' _ _ _ (HX.out.mem (List.mem_of_getElem? HT.out)) (HY.out.mem (List.mem_of_getElem? HT'.out)) (HVALS.out.below (hbr _ _)) (HVALS'.out.below (hbr _ _))).mono ?_
        rintro e w2 ⟨rfl, hb2⟩
        have HST := Lib.hid (cmpTms_step HT.out HT'.out)
        generalize hc : cmpTm t t' = c at HST ⊢
        clear hc
        by_cases hc0 : c = 0
        · subst hc0
          go_wp2
          go_roundw
          case rel => exact ⟨k + 1, by omega, by omega, by go_num, by rw [HZ.out, HST.out, firstNZ2_zero rfl], (hbb _ _).trans (hb2.mono (by have := hb.size; simp; omega))⟩
          case measure => simp [intOf]; omega
        · have hc1 : (c == 0) = false := by simpa using hc0
          have hc2 : (c != 0) = true := by simpa using hc0
          go_wp2
          go_ret
          exact ⟨ret_int (by rw [HZ.out, HST.out, firstNZ2_nz hc0]), (hbb _ _).trans (hb2.mono (by have := hb.size; simp; omega))⟩
      · go_wp2_with (refine wpList_store_new rfl 47 _ _ rfl _ _ _ rfl _ rfl (by simp) [u0, u1, u2, u3] rfl ic hci hcs rfl HONE.out ?_)
        go_ret
        refine ⟨ret_int (a := 1) ?_, hb.alloc hb.size _⟩
        rw [HZ.out]
        have e2 : y.drop k = [] := List.drop_eq_nil_of_le (by have := HM'.out; omega)
        have e1 : x.drop k = t :: x.drop (k + 1) := by
          obtain ⟨hl, hx⟩ := List.getElem?_eq_some_iff.1 HT.out
          rw [← hx]; exact List.drop_eq_getElem_cons hl
        rw [e1, e2, cmpTms]
    · have e1 : x.drop k = [] := List.drop_eq_nil_of_le (by have := HM.out; omega)
      by_cases hlt : m < m'
      · go_wp2
        go_ret
        refine ⟨ret_int (a := -1) ?_, hb⟩
        have hl : k < y.length := by have := HM'.out; omega
        rw [HZ.out, e1, List.drop_eq_getElem_cons hl, cmpTms]
      · go_wp2
        go_ret
        refine ⟨ret_int (a := 0) ?_, hb⟩
        rw [HZ.out, e1, List.drop_eq_nil_of_le (by have := HM'.out; omega), cmpTms]
end Go.Proofs.YtpbikjkjfojjiaaGreat
namespace Go.Proofs.YtpbikjkjfojjiaaGreat
open Go.RowKit
theorem cell_alloc_drew (W : World) (o : Obj) (p : Addr) (h : p.block < W.heap.size) : (W.alloc o).drew.cell? p = W.cell? p := (show (W.alloc o).drew.cell? p = (W.alloc o).cell? p from rfl).trans (World.cell?_alloc_lt W o p h)
theorem cells_of_list {W : World} {l : List Int} {t : TypeId} : ∀ (i : Nat) x, l[i]? = some x → (W.alloc (.cells (l.map (Value.int .i64)).toArray t)).drew.cell? ⟨W.heap.size, i, none⟩ = some (.int .i64 x) := by
  intro i x h
  show (W.alloc (.cells (l.map (Value.int .i64)).toArray t)).cell? ⟨W.heap.size, i, none⟩ = _
  rw [cell_of_row _ _ _ _ _ _ (heap_alloc_new W _)]
  simp [h]
set_option maxHeartbeats 2000000 in
set_option maxRecDepth 100000 in
theorem implCompareTerms_of (a b : Tm) (h : cmpTmsC 160 a.args b.args) : cmpTmC 123 a b := by
  intro S S' us us' w ha hb hv hv'
  obtain ⟨o, n, s, x⟩ := a
  obtain ⟨o', n', s', y⟩ := b
  simp only [encTm] at hv hv'
  obtain ⟨v3, rfl, e3⟩ := repVals_Term hv
  obtain ⟨v3', rfl, e3'⟩ := repVals_Term hv'
  simp only [okTm] at ha hb
  have HX := Lib.hid ha.2.2.2
  have HY := Lib.hid hb.2.2.2
  have H := Lib.hid h
  have E := Lib.hid e3
  have E' := Lib.hid e3'
  have HF : Hid (cmpTm (.mk o n s x) (.mk o' n' s' y) = firstNZ [firstNZ [cmpInt o o', cmpStr n n', cmpInt s s'], cmpTms x y]) := by
    show _ = _
    simp only [cmpTm, firstNZ]
    repeat' split
    all_goals first | rfl | simp_all
  clear ha hb h e3 e3' hv hv'
  go_enter Tryz.func123, Tryz.ntmps123
  go_wp2_with fail
  generalize hW : (w.alloc _).alloc _ = W
  have hbW : Below w.heap.size w W := by rw [← hW]; exact ((Below.refl _ _).alloc (Nat.le_refl _) _).alloc (by simp) _
  have p0 : W.cell? ⟨w.heap.size, 0, none⟩ = some (.int .i64 o) := by rw [← hW]; simp
  have p1 : W.cell? ⟨w.heap.size, 1, none⟩ = some (.string n) := by rw [← hW]; simp
  have p2 : W.cell? ⟨w.heap.size, 2, none⟩ = some (.int .i64 s) := by rw [← hW]; simp
  have p3 : W.cell? ⟨w.heap.size, 3, none⟩ = some v3 := by rw [← hW]; simp
  have q0 : W.cell? ⟨w.heap.size + 1, 0, none⟩ = some (.int .i64 o') := by rw [← hW]; simp
  have q1 : W.cell? ⟨w.heap.size + 1, 1, none⟩ = some (.string n') := by rw [← hW]; simp
  have q2 : W.cell? ⟨w.heap.size + 1, 2, none⟩ = some (.int .i64 s') := by rw [← hW]; simp
  have q3 : W.cell? ⟨w.heap.size + 1, 3, none⟩ = some v3' := by rw [← hW]; simp
  have z0 : w.heap.size < W.heap.size := by rw [← hW]; simp; omega
  have z1 : w.heap.size + 1 < W.heap.size := by rw [← hW]; simp
  have HOR := Lib.hid (fun w => cmpOr [cmpInt o o', cmpStr n n', cmpInt s s'] W.heap.size 3 3 w rfl (by omega))
  clear hW
  go_region_held3 (fun w' => ∀ b o, b < W.heap.size → w'.cell? ⟨b, o, none⟩ = W.cell? ⟨b, o, none⟩) (first | exact fun b o h => cell_alloc_drew _ _ _ h | go_keep)
    (first
      | (go_at_call 158; refine (cmpCompare _ _ _).mono ?_; rintro e w' ⟨rfl, rfl⟩)
      | (go_at_call 159; refine (stringsCompare _ _ _).mono ?_; rintro e w' ⟨rfl, rfl⟩)
      | (go_at_call 157; refine (HOR.out _ (cells_of_list (W := W))).mono ?_; rintro e w' ⟨rfl, rfl⟩))
  have hbD : ∀ o1, Below w.heap.size w (W.alloc o1).drew := fun o1 => (hbW.alloc hbW.size o1).drew
  have hcd : ∀ o1 b o, b < W.heap.size → (W.alloc o1).drew.cell? ⟨b, o, none⟩ = W.cell? ⟨b, o, none⟩ := fun o1 b o h => cell_alloc_drew W o1 ⟨b, o, none⟩ h
  generalize hc : firstNZ [cmpInt o o', cmpStr n n', cmpInt s s'] = c at HF ⊢
  clear hc
  by_cases hc0 : c = 0
  · subst hc0
    go_wp2_with fail
    refine (H.out S S' _ _ _ HX.out HY.out (E.out.below (hbD _)) (E'.out.below (hbD _))).mono ?_
    rintro e w2 ⟨rfl, hb2⟩
    go_wp2
    go_ret
    exact ⟨ret_int (by rw [HF.out, firstNZ2_zero rfl]; rfl), (hbD _).trans (hb2.mono (hbD _).size)⟩
  · have hc1 : (c == 0) = false := by simpa using hc0
    have hc2 : (c != 0) = true := by simpa using hc0
    go_wp2
    go_ret
    exact ⟨ret_int (by rw [HF.out, firstNZ2_nz hc0]), hbD _⟩
mutual
def sizeTm : Tm → Nat
  | .mk _ _ _ a => 1 + sizeTms a
def sizeTms : List Tm → Nat
  | [] => 0
  | t :: ts => sizeTm t + sizeTms ts
end
theorem sizeTms_get : ∀ {ts : List Tm} {i : Nat} {t : Tm}, ts[i]? = some t → sizeTms t.args < sizeTms ts
  | [], _, _, h => by simp at h
  | x :: xs, 0, t, h => by
    simp at h
    subst h
    cases x
    simp only [sizeTms, sizeTm, Tm.args]
    omega
  | x :: xs, i + 1, t, h => by
    have := sizeTms_get (ts := xs) (i := i) (by simpa using h)
    simp only [sizeTms]
    omega
theorem implCompareFunc_all (n : Nat) : ∀ x y, sizeTms x < n → cmpTmsC 160 x y := by
  induction n with
  | zero => intro x y h; omega
  | succ n ih => exact fun x y h => implCompareFunc_of x y (fun i a b ha hb => implCompareTerms_of a b (ih _ _ (by have := sizeTms_get ha; omega)))
theorem implCompareFunc (x y : List Tm) : cmpTmsC 160 x y := implCompareFunc_all _ x y (Nat.lt_succ_self _)
theorem implCompareTerms (a b : Tm) : cmpTmC 123 a b := implCompareTerms_of a b (implCompareFunc _ _)
end Go.Proofs.YtpbikjkjfojjiaaGreat
namespace Go.Proofs.YtpbikjkjfojjiaaGreat
open Go.RowKit
set_option maxHeartbeats 4000000 in
set_option maxRecDepth 100000 in
theorem specCompareTerms_of (a b : Tm) (h : ∀ (i : Nat) p q, a.args[i]? = some p → b.args[i]? = some q → cmpTmC 121 p q) : cmpTmC 121 a b := by
  intro S S' us us' w ha hb hv hv'
  obtain ⟨o, n, s, x⟩ := a
  obtain ⟨o', n', s', y⟩ := b
  simp only [encTm] at hv hv'
  obtain ⟨v3, rfl, e3⟩ := repVals_Term hv
  obtain ⟨v3', rfl, e3'⟩ := repVals_Term hv'
  simp only [okTm] at ha hb
  have HX := Lib.hid ha.2.2.2
  have HY := Lib.hid hb.2.2.2
  have H := Lib.hid h
  have hbW := ((Below.refl w.heap.size w).alloc (Nat.le_refl _) (.cells #[.int .i64 o, .string n, .int .i64 s, v3] 47)).alloc (by simp) (.cells #[.int .i64 o', .string n', .int .i64 s', v3'] 47)
  by_cases ho : o = o'
  case neg =>
    have ho1 : (o == o') = false := by simpa using ho
    have ho2 : (o != o') = true := by simpa using ho
    have hz : cmpInt o o' ≠ 0 := fun e => ho (cmpInt_zero.1 e)
    have HF : Hid (cmpTm (.mk o n s x) (.mk o' n' s' y) = cmpInt o o') := by show _ = _; simp only [cmpTm, firstNZ, if_neg hz]
    clear hz h H ha hb hv hv' e3 e3' ho
    by_cases hlt : o < o'
    · go_enter Tryz.func121, Tryz.ntmps121
      go_wp2
      go_ret
      exact ⟨ret_int (a := -1) (by rw [HF.out]; unfold cmpInt; rw [if_pos hlt]), hbW⟩
    · have HL := Lib.hid hlt
      go_enter Tryz.func121, Tryz.ntmps121
      go_wp2
      go_ret
      exact ⟨ret_int (a := 1) (by have h1 : o ≠ o' := by simpa using ho1
                                  have := HL.out
                                  rw [HF.out]; unfold cmpInt; rw [if_neg (by omega), if_pos (by omega)]), hbW⟩
  subst ho
  have hz0 : cmpInt o o = 0 := cmpInt_zero.2 rfl
  by_cases hn : n = n'
  case neg =>
    have hz : cmpStr n n' ≠ 0 := fun e => hn (cmpStr_zero.1 e)
    have HF : Hid (cmpTm (.mk o n s x) (.mk o n' s' y) = cmpStr n n') := by show _ = _; simp only [cmpTm, firstNZ, if_pos hz0, if_neg hz]
    clear h H ha hb hv hv' e3 e3' hz0
    have hn1 : (n.toList == n'.toList) = false := by
      simp only [beq_eq_false_iff_ne, ne_eq, ByteArray.toList_eq]
      intro e
      apply hn
      obtain ⟨⟨la⟩⟩ := n
      obtain ⟨⟨lb⟩⟩ := n'
      simp at e
      rw [e]
    have hlq : Op.bytesLess n.toList n'.toList = decide (cmpStr n n' = -1) := by rw [ByteArray.toList_eq, ByteArray.toList_eq]; exact compareBytes_less _ _
    have HZ := Lib.hid hz
    have HR := Lib.hid (cmpStr_range n n')
    clear hn hz
    by_cases hlt : cmpStr n n' = -1
    · have hl1 : Op.bytesLess n.toList n'.toList = true := by rw [hlq]; simpa using hlt
      have HLT := Lib.hid hlt
      clear hlq hlt
      go_enter Tryz.func121, Tryz.ntmps121
      go_wp2
      go_ret
      exact ⟨ret_int (a := -1) (by rw [HF.out, HLT.out]), hbW⟩
    · have hl1 : Op.bytesLess n.toList n'.toList = false := by rw [hlq]; simpa using hlt
      have HLT := Lib.hid hlt
      clear hlq hlt
      go_enter Tryz.func121, Tryz.ntmps121
      go_wp2
      go_ret
      exact ⟨ret_int (a := 1) (by rw [HF.out]; rcases HR.out with e | e | e
                                  · exact absurd e HLT.out
                                  · exact absurd e HZ.out
                                  · exact e.symm), hbW⟩
  subst hn
  have hz1 : cmpStr n n = 0 := cmpStr_zero.2 rfl
  by_cases hs : s = s'
  case neg =>
    have hs1 : (s == s') = false := by simpa using hs
    have hs2 : (s != s') = true := by simpa using hs
    have hz : cmpInt s s' ≠ 0 := fun e => hs (cmpInt_zero.1 e)
    have HF : Hid (cmpTm (.mk o n s x) (.mk o n s' y) = cmpInt s s') := by show _ = _; simp only [cmpTm, firstNZ, if_pos hz0, if_pos hz1, if_neg hz]
    clear hz h H ha hb hv hv' e3 e3' hs hz0 hz1
    by_cases hlt : s < s'
    · go_enter Tryz.func121, Tryz.ntmps121
      go_wp2
      go_ret
      exact ⟨ret_int (a := -1) (by rw [HF.out]; unfold cmpInt; rw [if_pos hlt]), hbW⟩
    · have HL := Lib.hid hlt
      go_enter Tryz.func121, Tryz.ntmps121
      go_wp2
      go_ret
      exact ⟨ret_int (a := 1) (by have h1 : s ≠ s' := by simpa using hs1
                                  have := HL.out
                                  rw [HF.out]; unfold cmpInt; rw [if_neg (by omega), if_pos (by omega)]), hbW⟩
  subst hs
  have HF : Hid (cmpTm (.mk o n s x) (.mk o n s y) = cmpTms x y) := by
    show _ = _
    simp only [cmpTm, firstNZ, if_pos hz0, if_pos hz1, if_pos (cmpInt_zero.2 (rfl : s = s))]
    split <;> simp_all
  obtain ⟨A, m, cap, rfl, hm, hmc, hcm⟩ := e3.form
  obtain ⟨A', m', cap', rfl, hm', hmc', hcm'⟩ := e3'.form
  rw [encTms_len] at hm hm'
  have HM := Lib.hid hm
  have HM' := Lib.hid hm'
  have HV := Lib.hid e3
  have HV' := Lib.hid e3'
  clear hz0 hz1 h ha hb hv hv' e3 e3' hm hm'
  unfold maxLen at hcm hcm'
  go_enter Tryz.func121, Tryz.ntmps121
  go_wp2
  generalize hW : (w.alloc _).alloc _ = W at hbW ⊢
  have p3 : W.cell? ⟨w.heap.size, 3, none⟩ = some (.slice A m cap) := by rw [← hW]; simp
  have q3 : W.cell? ⟨w.heap.size + 1, 3, none⟩ = some (.slice A' m' cap') := by rw [← hW]; simp
  have z0 : w.heap.size < W.heap.size := by rw [← hW]; simp; omega
  have z1 : w.heap.size + 1 < W.heap.size := by rw [← hW]; simp
  have HVW := Lib.hid (HV.out.below hbW)
  have HVW' := Lib.hid (HV'.out.below hbW)
  clear hW HV HV'
  go_loopw [5] (fun i wr => ∃ k : Nat, k ≤ m ∧ k ≤ m' ∧ i = .int .i64 k ∧ cmpTms x y = cmpTms (x.drop k) (y.drop k) ∧ Below W.heap.size W wr) (fun i _ => m - (intOf i).toNat)
  case atStart => exact ⟨0, Nat.zero_le _, Nat.zero_le _, rfl, rfl, Below.refl _ _⟩
  case round =>
    obtain ⟨k, hk, hk', rfl, hz, hb⟩ := hrel
    have HZ := Lib.hid hz
    clear hz
    obtain ⟨hcw, _⟩ := bcell hb
    have hbw' : Below w.heap.size w wr := hbW.trans (hb.mono hbW.size)
    by_cases hkm : k < m
    · obtain ⟨b, off, r, rfl, hS, hbz, hget, hokr, hrow⟩ := HVW.out.get (okRows_enc x HX.out) hkm
      obtain ⟨u0, u1, u2, u3, c0, c1, c2, c3, hvals⟩ := hrow.vals4 hokr.len
      rw [encTms_get] at hget
      obtain ⟨t, ht, rfl⟩ := Option.map_eq_some_iff.1 hget
      have HVALS := Lib.hid hvals
      have HT := Lib.hid ht
      clear hvals hokr hrow hget ht
      simp only [fieldsOf, termF, List.length_cons, List.length_nil, Nat.reduceAdd] at c0 c1 c2 c3
      have k0 : (0 : Int) ≤ (k : Int) := by omega
      have k1 : (k : Int) < (m : Int) := by omega
      have hd1 : decide (k < m) = true := by simpa using hkm
      by_cases hkm' : k < m'
      · obtain ⟨b', off', r', rfl, hS', hbz', hget', hokr', hrow'⟩ := HVW'.out.get (okRows_enc y HY.out) hkm'
        obtain ⟨x0, x1, x2, x3, d0, d1, d2, d3, hvals'⟩ := hrow'.vals4 hokr'.len
        rw [encTms_get] at hget'
        obtain ⟨t', ht', rfl⟩ := Option.map_eq_some_iff.1 hget'
        have HVALS' := Lib.hid hvals'
        have HT' := Lib.hid ht'
        clear hvals' hokr' hrow' hget' ht'
        simp only [fieldsOf, termF, List.length_cons, List.length_nil, Nat.reduceAdd] at d0 d1 d2 d3
        have k2 : (k : Int) < (m' : Int) := by omega
        have hd2 : decide (k < m') = true := by simpa using hkm'
        have HC := Lib.hid (H.out k t t' HT.out HT'.out)
        go_wp2_with fail
        go_region_held3 (fun w' => ∀ b o, b < W.heap.size → w'.cell? ⟨b, o, none⟩ = W.cell? ⟨b, o, none⟩) (first | exact fun b o h => (hb2.cell (p := ⟨b, o, none⟩) (Nat.lt_of_lt_of_le h hb.size)).trans (hcw b o h) | exact fun b o h => hcw b o h | go_keep)
          (first | (go_at_call 121; refine (HC.out S S' _ _ _ (HX.out.mem (List.mem_of_getElem? HT.out)) (HY.out.mem (List.mem_of_getElem? HT'.out)) (HVALS.out.below hb.drew) (HVALS'.out.below hb.drew)).mono ?_; rintro e w2 ⟨rfl, hb2⟩))
        have hbq : Below W.heap.size W w2 := hb.drew.trans (hb2.mono (show W.heap.size ≤ wr.heap.size from hb.size))
        have HST := Lib.hid (cmpTms_step HT.out HT'.out)
        generalize hc : cmpTm t t' = c at HST ⊢
        clear hc
        by_cases hc0 : c = 0
        · subst hc0
          go_wp2
          go_roundw
          case rel => exact ⟨k + 1, by omega, by omega, by go_num, by rw [HZ.out, HST.out, firstNZ2_zero rfl], hbq⟩
          case measure => simp [intOf]; omega
        · have hc1 : (c == 0) = false := by simpa using hc0
          have hc2 : (c != 0) = true := by simpa using hc0
          go_wp2
          go_ret
          exact ⟨ret_int (by rw [HF.out, HZ.out, HST.out, firstNZ2_nz hc0]), hbW.trans (hbq.mono hbW.size)⟩
      · have hd2 : decide (k < m') = false := by simpa using hkm'
        have hmm : ¬ m < m' := by omega
        have hmm2 : m' < m := by omega
        go_wp2
        go_ret
        refine ⟨ret_int (a := 1) ?_, hbw'⟩
        rw [HF.out, HZ.out]
        have e2 : y.drop k = [] := List.drop_eq_nil_of_le (by have := HM'.out; omega)
        have e1 : x.drop k = t :: x.drop (k + 1) := by
          obtain ⟨hl, hx⟩ := List.getElem?_eq_some_iff.1 HT.out
          rw [← hx]; exact List.drop_eq_getElem_cons hl
        rw [e1, e2, cmpTms]
    · have e1 : Hid (x.drop k = []) := Lib.hid (List.drop_eq_nil_of_le (by have := HM.out; omega))
      have hd1 : decide (k < m) = false := by simpa using hkm
      by_cases hlt : m < m'
      · go_wp2
        go_ret
        refine ⟨ret_int (a := -1) ?_, hbw'⟩
        have hl : k < y.length := by have := HM'.out; omega
        rw [HF.out, HZ.out, e1.out, List.drop_eq_getElem_cons hl, cmpTms]
      · have hlt2 : ¬ m' < m := by omega
        go_wp2
        go_ret
        refine ⟨ret_int (a := 0) ?_, hbw'⟩
        rw [HF.out, HZ.out, e1.out, List.drop_eq_nil_of_le (by have := HM'.out; omega), cmpTms]
theorem specCompareTerms_all (n : Nat) : ∀ a b, sizeTm a < n → cmpTmC 121 a b := by
  induction n with
  | zero => intro a b h; omega
  | succ n ih =>
    intro a b h
    refine specCompareTerms_of a b (fun i p q hp hq => ih p q ?_)
    have h1 := sizeTms_get hp
    cases a
    cases p
    simp only [sizeTm, Tm.args] at h h1 ⊢
    omega
theorem specCompareTerms (a b : Tm) : cmpTmC 121 a b := specCompareTerms_all _ a b (Nat.lt_succ_self _)
end Go.Proofs.YtpbikjkjfojjiaaGreat
namespace Go.Proofs.YtpbikjkjfojjiaaGreat
open Go.RowKit
theorem con_cmpOf {f : FuncId} (hb : hasBody e0.P f = true) {a b : Tm} (h : cmpTmC f a b) (ha : okTm a) (hk : okTm b) : Con e0 f [.agg (encTm a), .agg (encTm b)] [.one (.lit (.int .i64 (cmpTm a b)))] := by
  refine con_below e0_ok hb fun w S vs hv => ?_
  match vs, hv with
  | [v, u], hv =>
    obtain ⟨⟨us, rfl, hu⟩, ⟨us', rfl, hu'⟩, _⟩ := hv
    exact (h S S us us' w ha hk hu hu').mono fun e w' ⟨h1, h2⟩ => ⟨_, h1, h2, by simp [retA, ARel, DRel, Rep]⟩
theorem con_implCmp {a b : Tm} (ha : okTm a) (hk : okTm b) : Con e0 123 [.agg (encTm a), .agg (encTm b)] [.one (.lit (.int .i64 (cmpTm a b)))] := con_cmpOf (by kernel_rfl) (implCompareTerms a b) ha hk
theorem con_specCmp {a b : Tm} (ha : okTm a) (hk : okTm b) : Con e0 121 [.agg (encTm a), .agg (encTm b)] [.one (.lit (.int .i64 (cmpTm a b)))] := con_cmpOf (by kernel_rfl) (specCompareTerms a b) ha hk
theorem con_nameOf {f : FuncId} (hb : hasBody e0.P f = true) {s : ByteArray} (h : ∀ w, Calls Tryz.prog f #[.string s] w fun e w' => e = .returned (.bool (isName s)) ∧ w = w') : Con e0 f [.one (.lit (.string s))] [.one (.lit (.bool (isName s)))] := by
  refine con_below e0_ok hb fun w S vs hv => ?_
  match vs, hv with
  | [v], hv =>
    obtain ⟨hv, _⟩ := hv
    have hv : v = .string s := by simpa [DRel, Rep] using hv
    subst hv
    exact (h w).mono fun e w' ⟨h1, h2⟩ => ⟨_, h1, by subst h2; exact Below.refl _ _, by simp [retA, ARel, DRel, Rep]⟩
theorem con_implName {s : ByteArray} (hs : s.size ≤ maxLen) : Con e0 143 [.one (.lit (.string s))] [.one (.lit (.bool (isName s)))] := con_nameOf (by kernel_rfl) (implIsName s hs)
theorem con_specName {s : ByteArray} (hs : s.size ≤ maxLen) : Con e0 93 [.one (.lit (.string s))] [.one (.lit (.bool (isName s)))] := con_nameOf (by kernel_rfl) (specIsName s hs)
theorem Ints.repIn {w : World} {base : Nat} {v : Value} {l : List Int} (h : Ints w base v l) (S : Nat → Prop) : Rep w (fun b => S b ∨ (base ≤ b ∧ b < w.heap.size)) (.sl (l.map encInt)) v :=
  (Rep.inside _ _ h.rep).mono fun b hb => .inr hb
theorem con_l3Kinds {s : Srt} (hok : okSrt s) (hs : SortsOk s) : Con e0 135 [.agg (encSrt s)] [.one (.sl ((casts (kinds s)).map encInt))] := by
  refine con_below e0_ok (by kernel_rfl) fun w S vs hv => ?_
  match vs, hv with
  | [v], hv =>
    obtain ⟨⟨us, rfl, hu⟩, _⟩ := hv
    exact (specKinds s S us w hok hu hs.n1 hs.n8 hs.subs).mono fun e w' ⟨v, h1, h2, h3⟩ => ⟨_, h1, h3, h2.repIn S⟩
/-! Sizes and depths. -/
theorem sizeTms_app (a b : List Tm) : sizeTms (a ++ b) = sizeTms a + sizeTms b := by
  induction a with
  | nil => simp [sizeTms]
  | cons x xs ih => simp only [List.cons_append, sizeTms, ih]; omega
theorem sizeTms_mem {ts : List Tm} {t : Tm} (h : t ∈ ts) : sizeTm t ≤ sizeTms ts := by
  induction ts with
  | nil => cases h
  | cons x xs ih =>
    simp only [sizeTms]
    rcases List.mem_cons.1 h with rfl | h
    · omega
    · have := ih h; omega
theorem sizeTms_snoc {ts : List Tm} {i : Nat} {t : Tm} (h : ts[i]? = some t) : sizeTms (ts.take (i + 1)) = sizeTms (ts.take i) + sizeTm t := by
  rw [take_snoc h, sizeTms_app]; simp [sizeTms]
theorem sizeTms_take (ts : List Tm) (i : Nat) : sizeTms (ts.take i) ≤ sizeTms ts := by
  have := sizeTms_app (ts.take i) (ts.drop i)
  rw [List.take_append_drop] at this
  omega
theorem sizeTms_len (ts : List Tm) : ts.length ≤ sizeTms ts := by
  induction ts with
  | nil => simp [sizeTms]
  | cons x xs ih => cases x; simp only [List.length_cons, sizeTms, sizeTm]; omega
mutual
def depthTm : Tm → Nat
  | .mk _ _ _ a => 1 + depthTms a
def depthTms : List Tm → Nat
  | [] => 0
  | t :: ts => max (depthTm t) (depthTms ts)
end
mutual
theorem depth_size : ∀ t : Tm, depthTm t ≤ sizeTm t
  | .mk _ _ _ a => by
    have := depths_size a
    simp only [depthTm, sizeTm]; omega
theorem depths_size : ∀ ts : List Tm, depthTms ts ≤ sizeTms ts
  | [] => by simp [depthTms]
  | t :: ts => by
    have := depth_size t
    have := depths_size ts
    simp only [depthTms, sizeTms]; omega
end
theorem depthTms_app (a b : List Tm) : depthTms (a ++ b) = max (depthTms a) (depthTms b) := by
  induction a with
  | nil => simp [depthTms]
  | cons x xs ih => simp only [List.cons_append, depthTms, ih]; omega
theorem depthTms_snoc {ts : List Tm} {i : Nat} {t : Tm} (h : ts[i]? = some t) : depthTms (ts.take (i + 1)) = max (depthTms (ts.take i)) (depthTm t) := by
  rw [take_snoc h, depthTms_app]; simp [depthTms]
theorem encTm_u : ∀ op nm so args, encTm (.mk op nm so args) = [.lit (.int .i64 op), .lit (.string nm), .lit (.int .i64 so), .sl (encTms args)] := fun _ _ _ _ => by rw [encTm]
theorem sizeTm_u : ∀ op nm so args, sizeTm (.mk op nm so args) = 1 + sizeTms args := fun _ _ _ _ => by rw [sizeTm]
theorem depthTm_u : ∀ op nm so args, depthTm (.mk op nm so args) = 1 + depthTms args := fun _ _ _ _ => by rw [depthTm]
theorem sizeTms_u : sizeTms [] = 0 := by rw [sizeTms]
theorem depthTms_u : depthTms [] = 0 := by rw [depthTms]
def big : Nat := 4611686018427387904
set_option maxHeartbeats 4000000 in
set_option maxRecDepth 100000 in
theorem con_implSize_all : ∀ (n : Nat) (t : Tm), sizeTm t < n → sizeTm t ≤ big → Con e0 149 [.agg (encTm t)] [.one (.lit (.int .i64 (sizeTm t)))] := by
  intro n
  induction n with
  | zero => intro t h; omega
  | succ n ih =>
    intro t hn hb
    obtain ⟨op, nm, so, args⟩ := t
    simp only [sizeTm, big] at hn hb
    have hal := sizeTms_len args
    refine gI 1967 Tryz.func149 ?_
    (have F := And.intro @encTm_u @tmz; refine gG ?_; clear F)
    (have F := @sizeTms_u; refine gL (ι := Nat) [3, 5, 9, 10] [] (fun i => [(9, A.d (.one (.lit (.int .i64 i)))), (3, A.d (.one (.lit (.int .i64 ((1 + sizeTms (args.take i) : Nat) : Int)))))]) (fun i => []) (fun i => i ≤ args.length) (fun i => args.length - i) (0) (by omega) (fun i hi => ?_); clear F)
    by_cases hl : i < args.length
    rotate_left
    · have hl' : ¬ ((i : Int) < (args.length : Int)) := by omega
      have e : args.take i = args := List.take_of_length_le (by omega)
      (have F := And.intro @hl' (And.intro @e @sizeTm_u); refine gG ?_; exact gT)
    have hl' : (i : Int) < (args.length : Int) := by omega
    obtain ⟨a, ha⟩ : ∃ a, args[i]? = some a := ⟨_, List.getElem?_eq_getElem hl⟩
    have hs := sizeTms_snoc ha
    have ht := sizeTms_take args (i + 1)
    have hm := sizeTms_mem (List.mem_of_getElem? ha)
    have hw : IntKind.i64.wrap (((1 + sizeTms (args.take i) : Nat) : Int) + (sizeTm a : Int)) = ((1 + sizeTms (args.take (i + 1)) : Nat) : Int) := wrapN (by omega) (by omega) (by omega)
    have hw1 := wrap1 (k := i) (by omega)
    (have F := And.intro @hl' (And.intro @tmz @ha); refine gG ?_; clear F)
    refine gB ?_
    (have F := @tmz; refine gC (ih a (by omega) (by unfold big; omega)) ?_; clear F)
    (have F := @hw; refine gR ?_; clear F)
    (have F := And.intro @hw1 (And.intro @hw @tmz); refine gG ?_; exact ⟨i + 1, by omega, gw, gw, by omega⟩)
theorem con_implSize {t : Tm} (h : sizeTm t ≤ big) : Con e0 149 [.agg (encTm t)] [.one (.lit (.int .i64 (sizeTm t)))] := con_implSize_all _ t (Nat.lt_succ_self _) h
set_option maxHeartbeats 4000000 in
set_option maxRecDepth 100000 in
theorem con_implDepth_all : ∀ (n : Nat) (t : Tm), sizeTm t < n → sizeTm t ≤ big → Con e0 150 [.agg (encTm t)] [.one (.lit (.int .i64 (depthTm t)))] := by
  intro n
  induction n with
  | zero => intro t h; omega
  | succ n ih =>
    intro t hn hb
    obtain ⟨op, nm, so, args⟩ := t
    simp only [sizeTm, big] at hn hb
    have hal := sizeTms_len args
    have hds := depths_size args
    refine gI 1967 Tryz.func150 ?_
    (have F := And.intro @encTm_u @tmz; refine gG ?_; clear F)
    (have F := @depthTms_u; refine gL (ι := Nat) [3, 5, 9, 10] [] (fun i => [(9, A.d (.one (.lit (.int .i64 i)))), (3, A.d (.one (.lit (.int .i64 ((depthTms (args.take i) : Nat) : Int)))))]) (fun i => []) (fun i => i ≤ args.length) (fun i => args.length - i) (0) (by omega) (fun i hi => ?_); clear F)
    by_cases hl : i < args.length
    rotate_left
    · have hl' : ¬ ((i : Int) < (args.length : Int)) := by omega
      have e : args.take i = args := List.take_of_length_le (by omega)
      have hw : IntKind.i64.wrap ((depthTms args : Int) + 1) = ((1 + depthTms args : Nat) : Int) := wrapN (by omega) (by omega) (by omega)
      (have F := And.intro @hl' (And.intro @e (And.intro @hw @depthTm_u)); refine gG ?_; exact gT)
    have hl' : (i : Int) < (args.length : Int) := by omega
    obtain ⟨a, ha⟩ : ∃ a, args[i]? = some a := ⟨_, List.getElem?_eq_getElem hl⟩
    have hs := depthTms_snoc ha
    have hm := sizeTms_mem (List.mem_of_getElem? ha)
    have hw : (if (depthTm a : Int) > (depthTms (args.take i) : Int) then (depthTm a : Int) else (depthTms (args.take i) : Int)) = ((depthTms (args.take (i + 1)) : Nat) : Int) := by
      split <;> omega
    have hw1 := wrap1 (k := i) (by omega)
    (have F := And.intro @hl' (And.intro @tmz @ha); refine gG ?_; clear F)
    refine gB ?_
    (have F := @tmz; refine gC (ih a (by omega) (by unfold big; omega)) ?_; clear F)
    (have F := @hw; refine gR ?_; clear F)
    (have F := And.intro @hw1 (And.intro @hw @tmz); refine gG ?_; exact ⟨i + 1, by omega, gw, gw, by omega⟩)
theorem con_implDepth {t : Tm} (h : sizeTm t ≤ big) : Con e0 150 [.agg (encTm t)] [.one (.lit (.int .i64 (depthTm t)))] := con_implDepth_all _ t (Nat.lt_succ_self _) h
set_option maxHeartbeats 4000000 in
set_option maxRecDepth 100000 in
theorem con_l1Max (a b : Int) : Con e0 164 [.one (.lit (.int .i64 a)), .one (.lit (.int .i64 b))] [.one (.lit (.int .i64 (max a b)))] := by
  refine gI 147 Tryz.func164 ?_
  by_cases h : b < a
  · have e : max a b = a := by omega
    (have F := And.intro @h @e; refine gG ?_; exact gT)
  · have e : max a b = b := by omega
    (have F := And.intro @h @e; refine gG ?_; exact gT)
set_option maxHeartbeats 4000000 in
set_option maxRecDepth 100000 in
theorem con_specDepth_all : ∀ (n : Nat) (t : Tm), sizeTm t < n → sizeTm t ≤ big → Con e0 137 [.agg (encTm t)] [.one (.lit (.int .i64 (depthTm t)))] := by
  intro n
  induction n with
  | zero => intro t h; omega
  | succ n ih =>
    intro t hn hb
    obtain ⟨op, nm, so, args⟩ := t
    simp only [sizeTm, big] at hn hb
    have hal := sizeTms_len args
    have hds := depths_size args
    refine gI 543 Tryz.func137 ?_
    (have F := And.intro @encTm_u @tmz; refine gG ?_; clear F)
    (have F := @depthTms_u; refine gL (ι := Nat) [3, 4, 9] [] (fun i => [(4, A.d (.one (.lit (.int .i64 i)))), (3, A.d (.one (.lit (.int .i64 ((depthTms (args.take i) : Nat) : Int)))))]) (fun i => []) (fun i => i ≤ args.length) (fun i => args.length - i) (0) (by omega) (fun i hi => ?_); clear F)
    by_cases hl : i < args.length
    rotate_left
    · have hl' : ¬ ((i : Int) < (args.length : Int)) := by omega
      have e : args.take i = args := List.take_of_length_le (by omega)
      have hw : IntKind.i64.wrap ((depthTms args : Int) + 1) = ((1 + depthTms args : Nat) : Int) := wrapN (by omega) (by omega) (by omega)
      (have F := And.intro @hl' (And.intro @e (And.intro @hw (And.intro @depthTm_u @tmz))); refine gG ?_; exact gT)
    have hl' : (i : Int) < (args.length : Int) := by omega
    obtain ⟨a, ha⟩ : ∃ a, args[i]? = some a := ⟨_, List.getElem?_eq_getElem hl⟩
    have hs := depthTms_snoc ha
    have hm := sizeTms_mem (List.mem_of_getElem? ha)
    have hw : max (depthTms (args.take i) : Int) (depthTm a : Int) = ((depthTms (args.take (i + 1)) : Nat) : Int) := by omega
    have hw1 := wrap1 (k := i) (by omega)
    (have F := And.intro @hl' (And.intro @tmz @ha); refine gG ?_; clear F)
    refine gB ?_
    (have F := And.intro @tmz @ha; refine gC (ih a (by omega) (by unfold big; omega)) ?_; clear F)
    (have F := @tmz; refine gC (con_l1Max _ _) ?_; clear F)
    (have F := @hw; refine gR ?_; clear F)
    (have F := And.intro @hw1 (And.intro @hw @tmz); refine gG ?_; exact ⟨i + 1, by omega, gw, gw, by omega⟩)
theorem con_specDepth {t : Tm} (h : sizeTm t ≤ big) : Con e0 137 [.agg (encTm t)] [.one (.lit (.int .i64 (depthTm t)))] := con_specDepth_all _ t (Nat.lt_succ_self _) h
end Go.Proofs.YtpbikjkjfojjiaaGreat
namespace Go.Proofs.YtpbikjkjfojjiaaGreat
open Go.RowKit
theorem str_emp (s : ByteArray) : (s.toList == ByteArray.toList { data := #[] }) = decide (s = ByteArray.empty) := by
  rw [Bool.eq_iff_iff, beq_iff_eq, decide_eq_true_iff, ByteArray.toList_eq, ByteArray.toList_eq]
  constructor
  · intro h
    cases s with
    | mk d =>
      have : d = #[] := by apply Array.toList_inj.1; exact h
      rw [this]; rfl
  · rintro rfl; rfl
/-- The cells of an algebra. -/
def encX (g : Sgn) (mc : C) : List C := [.sl ((casts (up g.sorts)).map encInt), .sl ((casts (down g.sorts)).map encInt), .sl ((casts (kinds g.sorts)).map encInt), .sl (g.sorts.names.map encStr), .sl (g.sorts.subs.map encSub), .sl (g.ops.map encOpr), mc]
theorem encX_u : ∀ (g : Sgn) (mc : C), encX g mc = [.sl ((casts (up g.sorts)).map encInt), .sl ((casts (down g.sorts)).map encInt), .sl ((casts (kinds g.sorts)).map encInt), .sl (g.sorts.names.map encStr), .sl (g.sorts.subs.map encSub), .sl (g.ops.map encOpr), mc] := fun _ _ => rfl
theorem up_len {s : Srt} (h : SortsOk s) : (up s).length = s.names.length := (up_ok (SortsOk.subsIn h.subs)).1
theorem kd_get {s : Srt} (h : SortsOk s) {k : Int} (h0 : 0 ≤ k) (h1 : k < s.names.length) : (casts (kinds s))[k.toNat]? = some ((kd s k : Nat) : Int) := by
  have hk := kinds_ok (SortsOk.subsIn h.subs)
  have hl : k.toNat < (kinds s).length := by rw [hk.1]; omega
  unfold casts kd
  rw [List.getElem?_map, List.getElem?_eq_getElem hl]
  simp [List.getD, List.getElem?_eq_getElem hl]
def VarOk (g : Sgn) (t : Tm) : Prop := t.op = -1 ∧ isName t.name = true ∧ 0 ≤ t.sort ∧ t.sort < g.sorts.names.length ∧ t.args = []
open Classical in
noncomputable def isVar (g : Sgn) (t : Tm) : Bool := decide (VarOk g t)
structure AppOk (g : Sgn) (t : Tm) (o : Opr) (d : Dcl) : Prop where
  lo : 0 ≤ t.op
  at' : g.ops[t.op.toNat]? = some o
  fst : o.decls[0]? = some d
  nm : t.name = ByteArray.empty
  so : t.sort = 0
  asc : o.assoc = true → 2 ≤ t.args.length ∧ t.args.length ≤ 7
  nas : o.assoc = false → t.args.length = d.args.length
def NodeOk (g : Sgn) (t : Tm) : Prop := VarOk g t ∨ ∃ o d, AppOk g t o d
def resOf (g : Sgn) (op : Int) : Int := ((g.ops[op.toNat]?.bind (·.decls[0]?)).map (·.res)).getD 0
def kindTm (g : Sgn) (t : Tm) : Int := if t.op = -1 then kd g.sorts t.sort else kd g.sorts (resOf g t.op)
def argAt (o : Opr) (i : Nat) : Nat := if o.assoc = true then 0 else i
theorem argAt_u : ∀ (o : Opr) (i : Nat), argAt o i = if o.assoc = true then 0 else i := fun _ _ => rfl
structure ArgOk (g : Sgn) (op : Int) (o : Opr) (d : Dcl) (args : List Tm) (i : Nat) (a : Tm) : Prop where
  kind : ∀ k, d.args[argAt o i]? = some k → kindTm g a = kd g.sorts k
  nest : o.assoc = true → a.op ≠ op
  unit : o.unit ≠ 0 → a.op ≠ o.unit - 1
  ord : o.comm = true → ∀ (j : Nat) p, i = j + 1 → args[j]? = some p → cmpTm p a ≤ 0
def RightOk (g : Sgn) (op : Int) (args : List Tm) : Prop := ∀ o d, g.ops[op.toNat]? = some o → o.decls[0]? = some d → ∀ (i : Nat) a, args[i]? = some a → ArgOk g op o d args i a
mutual
def FormOk (g : Sgn) : Tm → Prop
  | .mk op nm so args => NodeOk g (.mk op nm so args) ∧ FormOks g args ∧ (op = -1 ∨ RightOk g op args)
def FormOks (g : Sgn) : List Tm → Prop
  | [] => True
  | t :: ts => FormOk g t ∧ FormOks g ts
end
theorem FormOks_iff {g : Sgn} {ts : List Tm} : FormOks g ts ↔ ∀ a ∈ ts, FormOk g a := by
  induction ts with
  | nil => simp [FormOks]
  | cons t ts ih => simp [FormOks, ih]
theorem FormOk_iff {g : Sgn} {t : Tm} : FormOk g t ↔ NodeOk g t ∧ (∀ a ∈ t.args, FormOk g a) ∧ (t.op = -1 ∨ RightOk g t.op t.args) := by
  cases t
  simp only [FormOk, FormOks_iff, Tm.args, Tm.op]
theorem FormOk.node {g : Sgn} {t : Tm} (h : FormOk g t) : NodeOk g t := (FormOk_iff.1 h).1
open Classical in
noncomputable def isForm (g : Sgn) (t : Tm) : Bool := decide (FormOk g t)
theorem isForm_true {g : Sgn} {t : Tm} (h : FormOk g t) : isForm g t = true := by simp [isForm, h]
theorem isForm_false {g : Sgn} {t : Tm} (h : ¬ FormOk g t) : isForm g t = false := by simp [isForm, h]
theorem isForm_iff {g : Sgn} {t : Tm} : isForm g t = true ↔ FormOk g t := by simp [isForm]
/-- What a valid signature has for an operator. -/
theorem SgnOk.first {g : Sgn} (h : SgnOk g) {i : Nat} {o : Opr} (ho : g.ops[i]? = some o) : ∃ d, o.decls[0]? = some d ∧ (0 : Int) ≤ d.res ∧ d.res < (g.sorts.names.length : Int) ∧ ∀ k : Int, k ∈ d.args → 0 ≤ k ∧ k < (g.sorts.names.length : Int) := by
  have hm := List.mem_of_getElem? ho
  obtain ⟨d, hd, hD⟩ := (h.decls o hm).first
  exact ⟨d, hd, hD.res.1, hD.res.2, hD.args⟩
theorem resOf_eq {g : Sgn} {op : Int} {o : Opr} {d : Dcl} (ho : g.ops[op.toNat]? = some o) (hd : o.decls[0]? = some d) : resOf g op = d.res := by simp [resOf, ho, hd]
theorem AppOk.op {g : Sgn} {t : Tm} {o : Opr} {d : Dcl} (h : AppOk g t o d) : t.op ≠ -1 := by have := h.lo; omega
section
variable {g : Sgn} {mc : C}
set_option maxHeartbeats 4000000 in
set_option maxRecDepth 100000 in
theorem con_has (hg : SgnOk g) (k : Int) : Con e0 168 [.agg [.sl ((casts (up g.sorts)).map encInt), .sl ((casts (down g.sorts)).map encInt), .sl ((casts (kinds g.sorts)).map encInt)], .one (.lit (.int .i64 k))] [.one (.lit (.bool (decide (0 ≤ k ∧ k < g.sorts.names.length))))] := by
  have hl := up_len hg.sorts
  refine gI 23 Tryz.func168 ?_
  by_cases h0 : 0 ≤ k
  · have e : decide (0 ≤ k ∧ k < (g.sorts.names.length : Int)) = decide (k < (g.sorts.names.length : Int)) := by simp [h0]
    rw [e]
    (have F := And.intro @h0 (And.intro @casts_len @hl); refine gG ?_; exact gT)
  · have e : decide (0 ≤ k ∧ k < (g.sorts.names.length : Int)) = false := by simp [h0]
    rw [e]
    (have F := @h0; refine gG ?_; exact gT)
set_option maxHeartbeats 4000000 in
set_option maxRecDepth 100000 in
theorem con_kindOf (hg : SgnOk g) {t : Tm} (ht : NodeOk g t) : Con e0 108 [.one (.ptr (encX g mc)), .agg (encTm t)] [.one (.lit (.int .i64 (kindTm g t)))] := by
  refine gI 155 Tryz.func108 ?_
  rcases ht with ⟨h1, h2, h3, h4, h5⟩ | ⟨o, d, h⟩
  · have hn : (-1 : Int) < 0 := by omega
    have hk := kd_get hg.sorts h3 h4
    have e : kindTm g t = kd g.sorts t.sort := by simp [kindTm, h1]
    (have F := And.intro @tmz (And.intro @h1 (And.intro @hn (And.intro @encX_u (And.intro @h3 (And.intro @hk (And.intro @encInt_u @e)))))); refine gG ?_; exact gT)
  · have hn : ¬ (t.op < 0) := by have := h.lo; omega
    obtain ⟨d', hd', hr0, hr1, _⟩ := hg.first h.at'
    rw [h.fst] at hd'
    injection hd' with hd'
    subst hd'
    have hk := kd_get hg.sorts hr0 hr1
    have e : kindTm g t = kd g.sorts d.res := by simp [kindTm, h.op, resOf_eq h.at' h.fst]
    have hlo := h.lo
    have hat := h.at'
    have hfst := h.fst
    (have F := And.intro @tmz (And.intro @hn (And.intro @encX_u (And.intro @hlo (And.intro @hat (And.intro @encOpr_u (And.intro @hfst (And.intro @encDcl_u (And.intro @hr0 (And.intro @hk (And.intro @encInt_u @e)))))))))); refine gG ?_; exact gT)
set_option maxHeartbeats 4000000 in
set_option maxRecDepth 100000 in
theorem con_argKind (hg : SgnOk g) {op : Int} {i : Nat} {o : Opr} {d : Dcl} {k : Int} (h0 : 0 ≤ op) (ho : g.ops[op.toNat]? = some o) (hd : o.decls[0]? = some d) (hk : d.args[argAt o i]? = some k) : Con e0 171 [.one (.ptr (encX g mc)), .one (.lit (.int .i64 op)), .one (.lit (.int .i64 i))] [.one (.lit (.int .i64 (kd g.sorts k)))] := by
  obtain ⟨d', hd', _, _, hk0⟩ := hg.first ho
  rw [hd] at hd'
  injection hd' with hd'
  subst hd'
  obtain ⟨k0, k1⟩ := hk0 k (List.mem_of_getElem? hk)
  have hkd := kd_get hg.sorts k0 k1
  refine gI 131271 Tryz.func171 ?_
  unfold argAt at hk
  cases ha : o.assoc with
  | true =>
    rw [ha] at hk
    simp only [↓reduceIte] at hk
    (have F := And.intro @encX_u (And.intro @h0 (And.intro @ho (And.intro @encOpr_u (And.intro @ha (And.intro @hd (And.intro @encDcl_u (And.intro @hk (And.intro @k0 (And.intro @hkd @encInt_u))))))))); refine gG ?_; exact gT)
  | false =>
    rw [ha] at hk
    simp only [Bool.false_eq_true, ↓reduceIte] at hk
    (have F := And.intro @encX_u (And.intro @h0 (And.intro @ho (And.intro @encOpr_u (And.intro @ha (And.intro @hd (And.intro @encDcl_u (And.intro @hk (And.intro @k0 (And.intro @hkd @encInt_u))))))))); refine gG ?_; exact gT)
set_option maxHeartbeats 4000000 in
set_option maxRecDepth 100000 in
theorem con_isUnit (hg : SgnOk g) {op : Int} {o : Opr} (h0 : 0 ≤ op) (ho : g.ops[op.toNat]? = some o) (t : Tm) : Con e0 172 [.one (.ptr (encX g mc)), .one (.lit (.int .i64 op)), .agg (encTm t)] [.one (.lit (.bool (decide (o.unit ≠ 0 ∧ t.op = o.unit - 1))))] := by
  have hax := hg.axs o (List.mem_of_getElem? ho)
  have hlo := hax.lo
  have hhi := hax.hi
  have hln := hg.len
  have hw : IntKind.i64.wrap (o.unit - 1) = o.unit - 1 := wrapN rfl (by omega) (by omega)
  refine gI 103 Tryz.func172 ?_
  by_cases hu : o.unit = 0
  · have e : decide (o.unit ≠ 0 ∧ t.op = o.unit - 1) = false := by simp [hu]
    rw [e]
    (have F := And.intro @encX_u (And.intro @tmz (And.intro @h0 (And.intro @ho (And.intro @encOpr_u @hu)))); refine gG ?_; exact gT)
  · have e : decide (o.unit ≠ 0 ∧ t.op = o.unit - 1) = decide (t.op = o.unit - 1) := by simp [hu]
    rw [e]
    (have F := And.intro @encX_u (And.intro @tmz (And.intro @h0 (And.intro @ho (And.intro @encOpr_u (And.intro @hu @hw))))); refine gG ?_; exact gT)
set_option maxHeartbeats 4000000 in
set_option maxRecDepth 100000 in
theorem con_isVariable (hg : SgnOk g) {t : Tm} (hs : t.name.size ≤ maxLen) : Con e0 170 [.one (.ptr (encX g mc)), .agg (encTm t)] [.one (.lit (.bool (isVar g t)))] := by
  have hno : ¬ VarOk g t → isVar g t = false := fun h => by simp [isVar, h]
  refine gI 27 Tryz.func170 ?_
  (have F := @tmz; refine gG ?_; clear F)
  by_cases h1 : t.op = -1
  rotate_left
  · have hf := hno fun h => h1 h.1
    (have F := And.intro @tmz (And.intro @h1 @hf); refine gG ?_; exact gT)
  refine gB ?_
  (have F := And.intro @tmz @h1; refine gC (con_implName hs) ?_; clear F)
  by_cases h2 : isName t.name = true
  rotate_left
  · have hf := hno fun h => h2 h.2.1
    have h2' : isName t.name = false := by simpa using h2
    (have F := And.intro @tmz @h2'; refine gR ?_; clear F)
    (have F := And.intro @tmz @hf; refine gG ?_; exact gT)
  (have F := And.intro @tmz (And.intro @h2 @encX_u); refine gC (con_has hg t.sort) ?_; clear F)
  by_cases h3 : 0 ≤ t.sort ∧ t.sort < g.sorts.names.length
  rotate_left
  · have hf := hno fun h => h3 ⟨h.2.2.1, h.2.2.2.1⟩
    have h3' : decide (0 ≤ t.sort ∧ t.sort < (g.sorts.names.length : Int)) = false := by simp only [decide_eq_false_iff_not]; exact h3
    (have F := And.intro @tmz @h3'; refine gR ?_; clear F)
    (have F := And.intro @tmz @hf; refine gG ?_; exact gT)
  have h3' : decide (0 ≤ t.sort ∧ t.sort < (g.sorts.names.length : Int)) = true := by simp only [decide_eq_true_eq]; exact h3
  by_cases h4 : t.args = []
  · have hT : isVar g t = true := by simp only [isVar, decide_eq_true_eq]; exact ⟨h1, h2, h3.1, h3.2, h4⟩
    (have F := And.intro @tmz (And.intro @h3' @h4); refine gR ?_; clear F)
    (have F := And.intro @tmz @hT; refine gG ?_; exact gT)
  · have hf := hno fun h => h4 h.2.2.2.2
    have h4' : ¬ ((t.args.length : Int) = 0) := by
      intro h; apply h4; apply List.eq_nil_of_length_eq_zero; omega
    (have F := And.intro @tmz (And.intro @h3' @h4'); refine gR ?_; clear F)
    (have F := And.intro @tmz @hf; refine gG ?_; exact gT)
end
end Go.Proofs.YtpbikjkjfojjiaaGreat
namespace Go.Proofs.YtpbikjkjfojjiaaGreat
open Go.RowKit
theorem okTm_iff {t : Tm} : okTm t ↔ I64 t.op ∧ t.name.size ≤ maxLen ∧ I64 t.sort ∧ okTms t.args := by cases t; simp only [okTm, Tm.op, Tm.name, Tm.sort, Tm.args]
theorem sizeTm_eq (t : Tm) : sizeTm t = 1 + sizeTms t.args := by cases t; simp only [sizeTm, Tm.args]
theorem isForm_var {g : Sgn} {t : Tm} (h : t.op = -1) : isForm g t = isVar g t := by
  unfold isForm isVar
  congr 1
  rw [FormOk_iff]
  apply propext
  constructor
  · rintro ⟨h1 | ⟨o, d, h1⟩, _⟩
    · exact h1
    · have := h1.lo; omega
  · intro h1
    exact ⟨.inl h1, fun a ha => (by rw [h1.2.2.2.2] at ha; cases ha), .inl h⟩
theorem NodeOk.app {g : Sgn} {t : Tm} (h : NodeOk g t) (hop : t.op ≠ -1) : ∃ o d, AppOk g t o d := by
  rcases h with h | h
  · exact absurd h.1 hop
  · exact h
theorem argAt_get {g : Sgn} (hg : SgnOk g) {i : Nat} {o : Opr} {d : Dcl} {n j : Nat} (ho : g.ops[i]? = some o) (hd : o.decls[0]? = some d) (nas : o.assoc = false → n = d.args.length) (hj : j < n) : ∃ k, d.args[argAt o j]? = some k := by
  unfold argAt
  cases ha : o.assoc with
  | true =>
    have h2 := ((hg.axs o (List.mem_of_getElem? ho)).two (.inl ha) d hd).1
    exact ⟨_, List.getElem?_eq_getElem (by simp only [↓reduceIte]; omega)⟩
  | false => exact ⟨_, List.getElem?_eq_getElem (by simp only [Bool.false_eq_true, ↓reduceIte]; have := nas ha; omega)⟩
section
variable {g : Sgn} {mc : C}
set_option maxHeartbeats 40000000 in
set_option maxRecDepth 100000 in
theorem con_wellMade_all (hg : SgnOk g) : ∀ (n : Nat) (t : Tm), sizeTm t < n → okTm t → sizeTm t ≤ big → Con e0 151 [.one (.ptr (encX g mc)), .agg (encTm t)] [.one (.lit (.bool (isForm g t)))] := by
  intro n
  induction n with
  | zero => intro t h; omega
  | succ n ih =>
    intro t hn hok hb
    have hno : ¬ FormOk g t → isForm g t = false := isForm_false
    obtain ⟨k1, k2, k3, k4⟩ := okTm_iff.1 hok
    have hsz := sizeTm_eq t
    have hal := sizeTms_len t.args
    unfold big at hb
    refine gI 43556142965880125627826793391928073259515 Tryz.func151 ?_
    by_cases h1 : t.op = -1
    · have e := isForm_var (g := g) h1
      rw [e]
      (have F := And.intro @tmz @h1; refine gG ?_; clear F)
      refine gB ?_
      (have F := And.intro @tmz @h1; refine gC (con_isVariable hg k2) ?_; clear F)
      (have F := @tmz; refine gR ?_; clear F)
      (have F := @tmz; refine gG ?_; exact gT)
    by_cases h2 : t.op < 0
    · have hf := hno fun h => by
        obtain ⟨o, d, h⟩ := h.node.app h1
        have := h.lo; omega
      (have F := And.intro @tmz (And.intro @h1 (And.intro @h2 @hf)); refine gG ?_; exact gT)
    by_cases h3 : (g.ops.length : Int) ≤ t.op
    · have hf := hno fun h => by
        obtain ⟨o, d, h⟩ := h.node.app h1
        have := (List.getElem?_eq_some_iff.1 h.at').1; omega
      (have F := And.intro @tmz (And.intro @h1 (And.intro @h2 (And.intro @h3 (And.intro @encX_u @hf)))); refine gG ?_; exact gT)
    by_cases h4 : t.name = ByteArray.empty
    rotate_left
    · have hf := hno fun h => by
        obtain ⟨o, d, h⟩ := h.node.app h1
        exact h4 h.nm
      (have F := And.intro @tmz (And.intro @h1 (And.intro @h2 (And.intro @h3 (And.intro @encX_u (And.intro @str_emp (And.intro @h4 @hf)))))); refine gG ?_; exact gT)
    by_cases h5 : t.sort = 0
    rotate_left
    · have hf := hno fun h => by
        obtain ⟨o, d, h⟩ := h.node.app h1
        exact h5 h.so
      (have F := And.intro @tmz (And.intro @h1 (And.intro @h2 (And.intro @h3 (And.intro @encX_u (And.intro @str_emp (And.intro @h4 (And.intro @h5 @hf))))))); refine gG ?_; exact gT)
    have h0 : 0 ≤ t.op := by omega
    obtain ⟨o, ho⟩ : ∃ o, g.ops[t.op.toNat]? = some o := ⟨_, List.getElem?_eq_getElem (by omega)⟩
    obtain ⟨d, hd, hr0, hr1, hargs⟩ := hg.first ho
    have hgt : FormOk g t → AppOk g t o d := fun h => by
      obtain ⟨o', d', h⟩ := h.node.app h1
      have e1 := h.at'
      rw [ho] at e1
      injection e1 with e1
      subst e1
      have e2 := h.fst
      rw [hd] at e2
      injection e2 with e2
      subst e2
      exact h
    by_cases hW : (o.assoc = true → 2 ≤ t.args.length ∧ t.args.length ≤ 7) ∧ (o.assoc = false → t.args.length = d.args.length)
    rotate_left
    · have hf := hno fun h => hW ⟨(hgt h).asc, (hgt h).nas⟩
      cases ha : o.assoc with
      | true =>
        by_cases c1 : t.args.length < 2
        · have c1' : (t.args.length : Int) < 2 := by omega
          (have F := And.intro @tmz (And.intro @h1 (And.intro @h2 (And.intro @h3 (And.intro @encX_u (And.intro @str_emp (And.intro @h4 (And.intro @h5 (And.intro @h0 (And.intro @ho (And.intro @encOpr_u (And.intro @ha (And.intro @c1' @hf)))))))))))); refine gG ?_; exact gT)
        · have c1' : ¬ ((t.args.length : Int) < 2) := by omega
          have c2 : (7 : Int) < (t.args.length : Int) := by
            by_cases c2 : t.args.length ≤ 7
            · exact absurd ⟨fun _ => ⟨by omega, c2⟩, fun h => by rw [ha] at h; cases h⟩ hW
            · omega
          (have F := And.intro @tmz (And.intro @h1 (And.intro @h2 (And.intro @h3 (And.intro @encX_u (And.intro @str_emp (And.intro @h4 (And.intro @h5 (And.intro @h0 (And.intro @ho (And.intro @encOpr_u (And.intro @ha (And.intro @c1' (And.intro @c2 @hf))))))))))))); refine gG ?_; exact gT)
      | false =>
        have c3 : ¬ ((t.args.length : Int) = (d.args.length : Int)) := fun c => hW ⟨fun h => (by rw [ha] at h; cases h), fun _ => by omega⟩
        (have F := And.intro @tmz (And.intro @h1 (And.intro @h2 (And.intro @h3 (And.intro @encX_u (And.intro @str_emp (And.intro @h4 (And.intro @h5 (And.intro @h0 (And.intro @ho (And.intro @encOpr_u (And.intro @ha (And.intro @hd (And.intro @encDcl_u (And.intro @c3 @hf)))))))))))))); refine gG ?_; exact gT)
    have hA : AppOk g t o d := ⟨h0, ho, hd, h4, h5, hW.1, hW.2⟩
    (have F := And.intro @tmz (And.intro @h1 (And.intro @h2 (And.intro @h3 (And.intro @encX_u (And.intro @str_emp (And.intro @h4 (And.intro @h5 (And.intro @h0 (And.intro @ho @encOpr_u))))))))); refine gG ?_; clear F)
    refine gM (ι := Unit) [75] [] (fun u => [(75, A.d (.one (.lit (.bool false))))]) (fun u => []) (fun u => True) ?_ (fun u hu => Exists.intro _ (And.intro (Wk.refl _) ?_))
    · cases ha : o.assoc with
      | true =>
        have c := hW.1 ha
        have c1' : ¬ ((t.args.length : Int) < 2) := by omega
        have c2 : ¬ ((7 : Int) < (t.args.length : Int)) := by omega
        (have F := And.intro @tmz (And.intro @encOpr_u (And.intro @ha (And.intro @c1' @c2))); refine gG ?_; exact ⟨(), trivial, gw, gw⟩)
      | false =>
        have c3 : ((t.args.length : Int) = (d.args.length : Int)) := by have := hW.2 ha; omega
        (have F := And.intro @tmz (And.intro @encOpr_u (And.intro @ha (And.intro @hd (And.intro @encDcl_u @c3)))); refine gG ?_; exact ⟨(), trivial, gw, gw⟩)
    (have F := @tmz; refine gG ?_; clear F)
    (have F := @e0P; refine gL (ι := Nat) [4, 7, 8, 79, 80, 135] [] (fun i => [(79, A.d (.one (.lit (.int .i64 i))))]) (fun i => []) (fun i => i ≤ t.args.length ∧ ∀ (j : Nat) a, j < i → t.args[j]? = some a → FormOk g a ∧ ArgOk g t.op o d t.args j a) (fun i => t.args.length - i) (0) (⟨by omega, fun j a h => absurd h (by omega)⟩) (fun i hi => ?_); clear F)
    obtain ⟨hil, hall⟩ := hi
    by_cases hl : i < t.args.length
    rotate_left
    · have hl' : ¬ ((i : Int) < (t.args.length : Int)) := by omega
      have hT := isForm_true (FormOk_iff.2 ⟨.inr ⟨o, d, hA⟩, fun a ha => by
          obtain ⟨j, hj⟩ := List.getElem?_of_mem ha
          exact (hall j a (by have := (List.getElem?_eq_some_iff.1 hj).1; omega) hj).1, .inr fun o' d' ho' hd' j a hj => by
          rw [ho] at ho'
          injection ho' with ho'
          subst ho'
          rw [hd] at hd'
          injection hd' with hd'
          subst hd'
          exact (hall j a (by have := (List.getElem?_eq_some_iff.1 hj).1; omega) hj).2⟩)
      (have F := And.intro @hl' @hT; refine gG ?_; exact gT)
    have hl' : (i : Int) < (t.args.length : Int) := by omega
    obtain ⟨a, ha⟩ : ∃ a, t.args[i]? = some a := ⟨_, List.getElem?_eq_getElem hl⟩
    have hm := List.mem_of_getElem? ha
    have hsa := sizeTms_mem hm
    have hw1 := wrap1 (k := i) (by omega)
    have hnoA : ¬ ArgOk g t.op o d t.args i a → isForm g t = false := fun h => hno fun hF => by
      obtain ⟨_, _, h3⟩ := FormOk_iff.1 hF
      rcases h3 with h3 | h3
      · exact h1 h3
      · exact h (h3 o d ho hd i a ha)
    obtain ⟨k, hk⟩ := argAt_get hg ho hd hA.nas hl
    (have F := And.intro @hl' (And.intro @tmz @ha); refine gG ?_; clear F)
    refine gB ?_
    (have F := @tmz; refine gC (ih a (by omega) (k4.mem hm) (by unfold big; omega)) ?_; clear F)
    by_cases hfa : isForm g a = true
    rotate_left
    · have hf := hno fun h => hfa (isForm_true ((FormOk_iff.1 h).2.1 a hm))
      have hfa' : isForm g a = false := by simpa using hfa
      (have F := And.intro @tmz @hfa'; refine gR ?_; clear F)
      (have F := @hf; refine gG ?_; exact gT)
    have hFa := isForm_iff.1 hfa
    (have F := And.intro @tmz @hfa; refine gC (con_kindOf hg hFa.node) ?_; clear F)
    (have F := @tmz; refine gC (con_argKind hg h0 ho hd hk) ?_; clear F)
    by_cases hkd : kindTm g a = ((kd g.sorts k : Nat) : Int)
    rotate_left
    · have hf := hnoA fun h => hkd (h.kind k hk)
      (have F := And.intro @tmz @hkd; refine gR ?_; clear F)
      (have F := @hf; refine gG ?_; exact gT)
    by_cases hN : o.assoc = true ∧ a.op = t.op
    · have hf := hnoA fun h => h.nest hN.1 hN.2
      obtain ⟨hN1, hN2⟩ := hN
      (have F := And.intro @tmz (And.intro @hkd (And.intro @encOpr_u (And.intro @hN1 @hN2))); refine gR ?_; clear F)
      (have F := @hf; refine gG ?_; exact gT)
    have hne : o.assoc = true → ¬ a.op = t.op := fun h1 h2 => hN ⟨h1, h2⟩
    have cU := con_isUnit (mc := mc) hg h0 ho a
    generalize hU : decide (o.unit ≠ 0 ∧ a.op = o.unit - 1) = U at cU
    have hnext : (U = false) → (o.comm = true → ∀ (j : Nat) p, i = j + 1 → t.args[j]? = some p → cmpTm p a ≤ 0) → i + 1 ≤ t.args.length ∧ ∀ (j : Nat) a, j < i + 1 → t.args[j]? = some a → FormOk g a ∧ ArgOk g t.op o d t.args j a := fun hU' hc => ⟨by omega, fun j a' hj ha' => by
      by_cases e : j = i
      · subst e
        rw [ha] at ha'
        injection ha' with ha'
        subst ha'
        refine ⟨hFa, fun k' hk' => ?_, fun h1 h2 => hN ⟨h1, h2⟩, fun h1 h2 => ?_, hc⟩
        · rw [hk] at hk'
          injection hk' with hk'
          subst hk'
          exact hkd
        · rw [hU'] at hU
          simp only [decide_eq_false_iff_not] at hU
          exact hU ⟨h1, h2⟩
      · exact hall j a' (by omega) ha'⟩
    rcases Bool.eq_false_or_eq_true o.assoc with hac | hac
    all_goals (
      (have F := And.intro @tmz (And.intro @hkd (And.intro @encOpr_u (And.intro @hac @hne))); refine gC (cU) ?_; clear F)
      rcases Bool.eq_false_or_eq_true U with hu | hu
      · have hf := hnoA fun h => by
          rw [hu] at hU
          simp only [decide_eq_true_eq] at hU
          exact h.unit hU.1 hU.2
        (have F := And.intro @tmz @hu; refine gR ?_; clear F)
        (have F := @hf; refine gG ?_; exact gT)
      rcases Bool.eq_false_or_eq_true o.comm with hcm | hcm
      rotate_left
      · have hq := hnext hu (fun h => by rw [hcm] at h; cases h)
        (have F := And.intro @tmz (And.intro @hu (And.intro @encOpr_u @hcm)); refine gR ?_; clear F)
        (have F := And.intro @hw1 (And.intro @tmz (And.intro @encOpr_u (And.intro @hcm @hac))); refine gG ?_; exact ⟨i + 1, hq, gw, gw, by omega⟩)
      rcases Nat.eq_zero_or_pos i with hi0 | hi0
      · have hq := hnext hu (fun _ j p h => by omega)
        have hi0' : ¬ ((0 : Int) < (i : Int)) := by omega
        (have F := And.intro @tmz (And.intro @hu (And.intro @encOpr_u (And.intro @hcm @hi0'))); refine gR ?_; clear F)
        (have F := And.intro @hw1 (And.intro @tmz (And.intro @encOpr_u (And.intro @hcm @hac))); refine gG ?_; exact ⟨i + 1, hq, gw, gw, by omega⟩)
      obtain ⟨j, rfl⟩ : ∃ j, i = j + 1 := ⟨i - 1, by omega⟩
      obtain ⟨p, hp⟩ : ∃ p, t.args[j]? = some p := ⟨_, List.getElem?_eq_getElem (by omega)⟩
      have cC := con_implCmp (k4.mem (List.mem_of_getElem? hp)) (k4.mem hm)
      have hgt0 : (0 : Int) < ((j + 1 : Nat) : Int) := by omega
      have hsub : IntKind.i64.wrap (((j + 1 : Nat) : Int) - 1) = (j : Int) := wrapN (by omega) (by omega) (by omega)
      (have F := And.intro @tmz (And.intro @hu (And.intro @encOpr_u (And.intro @hcm (And.intro @hgt0 (And.intro @hsub @hp))))); refine gC (cC) ?_; clear F)
      by_cases hc : 0 < cmpTm p a
      · have hf := hnoA fun h => by have := h.ord hcm j p rfl hp; omega
        (have F := And.intro @tmz @hc; refine gR ?_; clear F)
        (have F := @hf; refine gG ?_; exact gT)
      · have hq := hnext hu (fun _ j' p' h hp' => by
          have : j' = j := by omega
          subst this
          rw [hp] at hp'
          injection hp' with hp'
          subst hp'
          omega)
        (have F := And.intro @tmz @hc; refine gR ?_; clear F)
        (have F := And.intro @hw1 (And.intro @tmz (And.intro @encOpr_u (And.intro @hcm @hac))); refine gG ?_; exact ⟨j + 1 + 1, hq, gw, gw, by omega⟩))
theorem con_wellMade (hg : SgnOk g) {t : Tm} (hok : okTm t) (hb : sizeTm t ≤ big) : Con e0 151 [.one (.ptr (encX g mc)), .agg (encTm t)] [.one (.lit (.bool (isForm g t)))] := con_wellMade_all hg _ t (Nat.lt_succ_self _) hok hb
/-- A term over a signature. -/
structure TermOk (g : Sgn) (t : Tm) : Prop where
  size : sizeTm t ≤ 60
  depth : depthTm t ≤ 20
  form : FormOk g t
open Classical in
noncomputable def isTerm (g : Sgn) (t : Tm) : Bool := decide (TermOk g t)
theorem isTerm_false {g : Sgn} {t : Tm} (h : ¬ TermOk g t) : isTerm g t = false := by simp [isTerm, h]
theorem isTerm_iff {g : Sgn} {t : Tm} : isTerm g t = true ↔ TermOk g t := by simp [isTerm]
theorem isTerm_form {g : Sgn} {t : Tm} (h1 : sizeTm t ≤ 60) (h2 : depthTm t ≤ 20) : isForm g t = isTerm g t := by
  unfold isForm isTerm
  congr 1
  exact propext ⟨fun h => ⟨h1, h2, h⟩, fun h => h.form⟩
set_option maxHeartbeats 4000000 in
set_option maxRecDepth 100000 in
theorem con_implIsT (hg : SgnOk g) {t : Tm} (hok : okTm t) (hb : sizeTm t ≤ big) : Con e0 107 [.one (.ptr (encX g mc)), .agg (encTm t)] [.one (.lit (.bool (isTerm g t)))] := by
  have hno : ¬ TermOk g t → isTerm g t = false := isTerm_false
  refine gI 27 Tryz.func107 ?_
  (have F := @tmz; refine gG ?_; clear F)
  refine gB ?_
  (have F := @tmz; refine gC (con_implSize hb) ?_; clear F)
  by_cases h1 : sizeTm t ≤ 60
  rotate_left
  · have h1' : ¬ ((sizeTm t : Int) ≤ 60) := by omega
    have hf := hno fun h => h1 h.size
    (have F := And.intro @tmz @h1'; refine gR ?_; clear F)
    (have F := @hf; refine gG ?_; exact gT)
  have h1' : ((sizeTm t : Int) ≤ 60) := by omega
  (have F := And.intro @tmz @h1'; refine gC (con_implDepth hb) ?_; clear F)
  by_cases h2 : depthTm t ≤ 20
  rotate_left
  · have h2' : ¬ ((depthTm t : Int) ≤ 20) := by omega
    have hf := hno fun h => h2 h.depth
    (have F := And.intro @tmz @h2'; refine gR ?_; clear F)
    (have F := @hf; refine gG ?_; exact gT)
  have h2' : ((depthTm t : Int) ≤ 20) := by omega
  (have F := And.intro @tmz @h2'; refine gC (con_wellMade hg hok hb) ?_; clear F)
  have e := isTerm_form (g := g) h1 h2
  (have F := @tmz; refine gR ?_; clear F)
  (have F := @e; refine gG ?_; exact gT)
end
end Go.Proofs.YtpbikjkjfojjiaaGreat
namespace Go.Proofs.YtpbikjkjfojjiaaGreat
open Go.RowKit Go.Sort
theorem specInR (n : Nat) (x : Int) (w : World) : Calls Tryz.prog 64 #[.int .i64 x, .int .i64 0, .int .i64 ((n : Int) - 1)] w fun e w' => e = .returned (.bool (inR n x)) ∧ w = w' :=
  (specIn x 0 ((n : Int) - 1) w).mono fun e w' ⟨h1, h2⟩ => ⟨by rw [h1]; refine ret_bool ?_; unfold inR; rw [Bool.eq_iff_iff]; simp; omega, h2⟩
set_option maxHeartbeats 4000000 in
set_option maxRecDepth 100000 in
theorem specDecls (g : Sgn) (o : Opr) (S : Nat → Prop) (vs us : List Value) (w : World) (hs : SortsOk g.sorts) (hokg : okSgn g) (hok : okOpr o) (hvg : RepVals w S (encSgn g) vs) (hv : RepVals w S (encOpr o) us) :
    Calls Tryz.prog 94 #[.agg vs.toArray, .agg us.toArray] w fun e w' => e = .returned (.bool (declsOk g.sorts o)) ∧ Below w.heap.size w w' := by
  obtain ⟨s, ops⟩ := g
  simp only at hs
  obtain ⟨n, hN⟩ : ∃ n, s.names.length = n := ⟨_, rfl⟩
  have hK := kinds_ok (SortsOk.subsIn hs.subs)
  have hn1 := hs.n1
  have h8 := hs.n8
  rw [hN] at hK hn1 h8
  obtain ⟨g0, g1, g2, rfl, f0, f1, f2⟩ := repVals_Signature hvg
  obtain ⟨Ag0, cg0, rfl, _, _⟩ := f0.shape
  obtain ⟨Ag1, cg1, rfl, _, _⟩ := f1.shape
  obtain ⟨Ag2, cg2, rfl, _, _⟩ := f2.shape
  have HSR : Hid (RepVals w S (encSrt s) [.slice Ag0 s.names.length cg0, .slice Ag1 s.subs.length cg1]) := by show RepVals _ _ _ _; simp only [encSrt, RepVals, and_true]; exact ⟨f0, f1⟩
  have HKI := Lib.hid (fun W h => specKinds s S [.slice Ag0 s.names.length cg0, .slice Ag1 s.subs.length cg1] W hokg.1 h hs.n1 hs.n8 hs.subs)
  obtain ⟨name, decls, ac, cm, un⟩ := o
  simp only [encOpr] at hv
  obtain ⟨v1, rfl, e1⟩ := repVals_Op hv
  obtain ⟨A1, cap1, rfl, hc1, hm1⟩ := e1.shape
  obtain ⟨ic, hci, _, hcs, _⟩ := info_parts info_Decl'
  have HOK := Lib.hid hok
  have E1 := Lib.hid e1
  have HK := Lib.hid hK
  have HN := Lib.hid hN
  rw [hN] at HSR HKI
  rw [hN]
  generalize s.subs.length = ms at *
  generalize ops.length = mo at *
  clear hv e1 hok hK hN hs hvg f0 f1 f2 hokg
  generalize hM : decls.length = m at *
  have HM := Lib.hid hM
  clear hM
  have HH := Lib.hid (fun (k : Int) (w : World) => specInR n k w)
  unfold maxLen at hm1
  by_cases hm0 : m = 0
  · subst hm0
    have HF : Hid (declsOk s ⟨name, decls, ac, cm, un⟩ = false) := declsOk_false fun h => by have := h.len1; have := HM.out; simp only at *; omega
    go_enter Tryz.func94, Tryz.ntmps94
    go_wp2
    go_ret
    exact ⟨ret_bool HF.out.symm, (belowA _ _).trans ((belowA _ _).mono (belowA _ _).size)⟩
  by_cases hm4 : 4 < m
  · have HF : Hid (declsOk s ⟨name, decls, ac, cm, un⟩ = false) := declsOk_false fun h => by have := h.len4; have := HM.out; simp only at *; omega
    go_enter Tryz.func94, Tryz.ntmps94
    go_wp2
    go_ret
    exact ⟨ret_bool HF.out.symm, (belowA _ _).trans ((belowA _ _).mono (belowA _ _).size)⟩
  obtain ⟨f, hf⟩ : ∃ f, decls[0]? = some f := ⟨_, List.getElem?_eq_getElem (by have := HM.out; omega)⟩
  obtain ⟨b1, o1, rfl, _, hz1, hrow⟩ := Rep.at okDclR HOK.out.2.1 E1.out hf
  have HFOK := Lib.hid (HOK.out.2.1 f (List.mem_of_getElem? hf))
  have HF0 := Lib.hid hf
  obtain ⟨fargs, fres⟩ := f
  simp only [encDcl, RepRow, and_true, fieldsOf, List.length_cons, List.length_nil, Nat.reduceAdd, Nat.zero_mul, Nat.add_zero, Rep.lit_iff] at hrow
  obtain ⟨⟨u0, c0, r0⟩, ⟨_, c1, rfl⟩⟩ := hrow
  obtain ⟨Af, capf, rfl, hcf, hmf⟩ := r0.shape
  have RF := Lib.hid r0
  clear hf r0
  unfold maxLen at hmf
  generalize hLF : fargs.length = lf at *
  have HLF := Lib.hid hLF
  clear hLF
  by_cases hl3 : 3 < lf
  · have HF : Hid (declsOk s ⟨name, decls, ac, cm, un⟩ = false) := declsOk_false fun h => by have := h.ar _ HF0.out; have := HLF.out; simp only at *; omega
    go_enter Tryz.func94, Tryz.ntmps94
    go_wp2
    go_ret
    exact ⟨ret_bool HF.out.symm, (belowA _ _).trans ((belowA _ _).mono (belowA _ _).size)⟩
  go_enter Tryz.func94, Tryz.ntmps94
  go_wp2_with fail
  generalize hW : (w.alloc _).alloc _ = W0
  have hb0 : Below w.heap.size w W0 := by rw [← hW]; exact ((Below.refl _ _).alloc (Nat.le_refl _) _).alloc (by simp) _
  have p3 : W0.cell? ⟨w.heap.size + 1, 1, none⟩ = some (.slice (some ⟨b1, o1, none⟩) m cap1) := (by rw [← hW]; repeat' (first | (simp; done) | exact keepNew (by simp) rfl | refine keepA _ ?_))
  have z1 : w.heap.size + 1 < W0.heap.size := by rw [← hW]; simp
  have c2 := keepB hb0 c0
  have c3 := keepB hb0 c1
  clear hW c0 c1
  generalize hg2 : w.heap.size + 1 = g3 at *
  clear hg2
  refine (HKI.out _ (HSR.out.below hb0)).mono ?_
  rintro e W1 ⟨vk, rfl, hI, hbk⟩
  obtain ⟨Ak, ck, rfl, hck, hmk, hA⟩ := hI.form
  have hkl : (casts (kinds s)).length = n := by rw [casts_len]; exact HK.out.1
  have hI' := hI.rep
  rw [hkl] at hI' hck
  rw [hkl]
  clear hkl hA
  unfold maxLen at hmk
  have VK1 := Lib.hid hI'
  clear hI hI'
  have p3' := keepB hbk p3
  have c0 := keepB hbk c2
  have c1 := keepB hbk c3
  go_wp2_with ((with_reducible refine atStore 181 (.tmp 6) (.tmp 35) rfl ?_); refine wpList_store_new rfl 181 _ _ rfl _ _ _ rfl _ rfl (by simp) [.slice Af lf capf, .int .i64 fres] rfl ic hci hcs rfl (by simp [Value.oneCell']) ?_)
  generalize hW : W1.alloc _ = W
  have hb1 : Below W1.heap.size W1 W := by rw [← hW]; exact belowA _ _
  have p4 : W.cell? ⟨W1.heap.size, 0, none⟩ = some (.slice Af lf capf) := (by rw [← hW]; repeat' (first | (simp; done) | exact keepNew (by simp) rfl | refine keepA _ ?_))
  have p5 : W.cell? ⟨W1.heap.size, 1, none⟩ = some (.int .i64 fres) := (by rw [← hW]; repeat' (first | (simp; done) | exact keepNew (by simp) rfl | refine keepA _ ?_))
  have p6 := keepB hb1 p3'
  have hbW : Below w.heap.size w W := (hb0.trans (hbk.mono hb0.size)).trans (hb1.mono (hb0.trans (hbk.mono hb0.size)).size)
  have V5 := Lib.hid (RF.out.below hbW)
  have VK := Lib.hid (VK1.out.below hb1)
  have V1 := Lib.hid (E1.out.below hbW)
  clear hW c0 c1 c2 c3 p3 p3' E1 RF VK1 hb1
  generalize W1.heap.size = g5 at *
  clear hb0 hbk z1 HKI HSR
  go_loopw [7] (fun i wr => ∃ k : Nat, k ≤ m ∧ i = .int .i64 k ∧ (∀ j d, j < k → decls[j]? = some d → DeclOk s ⟨fargs, fres⟩ d) ∧ Below W.heap.size W wr) (fun i _ => m - (intOf i).toNat)
  case atStart => exact ⟨0, Nat.zero_le _, rfl, fun j x h => by omega, Below.refl _ _⟩
  case round =>
    obtain ⟨k, hk, rfl, hall, hb⟩ := hrel
    have HALL := Lib.hid hall
    clear hall
    have q3 := keepB hb p6
    by_cases hkm' : k < m
    · obtain ⟨d, hd⟩ : ∃ d, decls[k]? = some d := ⟨_, List.getElem?_eq_getElem (by have := HM.out; omega)⟩
      obtain ⟨_, _, hA, _, hbz, hrow⟩ := Rep.at okDclR HOK.out.2.1 (V1.out.below hb) hd
      injection hA with hA
      injection hA with hA hA'
      subst hA hA'
      have HDOK := Lib.hid (HOK.out.2.1 d (List.mem_of_getElem? hd))
      have HD := Lib.hid hd
      clear hd
      obtain ⟨dargs, dres⟩ := d
      simp only [encDcl, RepRow, and_true, fieldsOf, List.length_cons, List.length_nil, Nat.reduceAdd, Rep.lit_iff] at hrow
      obtain ⟨⟨u0, c0, r0⟩, ⟨_, c1, rfl⟩⟩ := hrow
      obtain ⟨Ad, capd, rfl, hcd, hmd⟩ := r0.shape
      have RD := Lib.hid r0
      clear r0
      unfold maxLen at hmd
      generalize hLD : dargs.length = ld at *
      have HLD := Lib.hid hLD
      clear hLD
      have hone : ∀ u ∈ [Value.slice Ad ld capd, Value.int .i64 dres], u.oneCell' = true := by simp [Value.oneCell']
      have HONE := Lib.hid hone
      clear hone
      -- what is known of the first declaration
      have HFA : Hid (0 < k → DeclOk s ⟨fargs, fres⟩ ⟨fargs, fres⟩) := fun h => HALL.out 0 _ h HF0.out
      have HSM : Hid (k = 0 → fargs = dargs ∧ fres = dres) := fun h => by
        have h1 := HD.out
        rw [h, HF0.out] at h1
        injection h1 with h1
        injection h1 with h1 h2
        exact ⟨h1, h2⟩
      have q4 := keepB hb p4
      have q5 := keepB hb p5
      have z5 : g5 < wr.heap.size := World.block_lt_of_cell? _ _ q4
      have z3 : g3 < wr.heap.size := World.block_lt_of_cell? _ _ q3
      by_cases hc1 : ld = lf
      rotate_left
      · have HF : Hid (declsOk s ⟨name, decls, ac, cm, un⟩ = false) := declsOk_false fun h => hc1 (by have := (h.all _ HF0.out _ (List.mem_of_getElem? HD.out)).len; have := HLD.out; have := HLF.out; simp only at *; omega)
        have n1 : (ld == lf) = false := by simp [hc1]
        have n2 : ((ld : Int) == (lf : Int)) = false := by simp; omega
        have n3 : ((ld : Int) != (lf : Int)) = true := by simp; omega
        go_wp2_with ((with_reducible refine atStore 181 (.tmp 8) (.tmp 47) rfl ?_); refine wpList_store_new rfl 181 _ _ rfl _ _ _ rfl _ rfl (by simp) [.slice Ad ld capd, .int .i64 dres] rfl ic hci hcs rfl HONE.out ?_)
        go_ret
        exact ⟨ret_bool HF.out.symm, hbW.trans ((hb.trans ((belowA wr _).mono hb.size)).mono hbW.size)⟩
      obtain rfl : lf = ld := hc1.symm
      have n1 : (lf == lf) = true := by simp
      by_cases hc2 : 0 ≤ dres ∧ dres < n
      rotate_left
      · have HF : Hid (declsOk s ⟨name, decls, ac, cm, un⟩ = false) := declsOk_false fun h => hc2 (by have := (h.all _ HF0.out _ (List.mem_of_getElem? HD.out)).res; rw [HN.out] at this; exact this)
        have HCd := Lib.hid (fun w => HH.out dres w)
        rw [inR_false hc2] at HCd
        clear hc2
        go_wp2_with (first | (go_at_call 64; refine (HCd.out _).mono ?_; rintro e w3 ⟨rfl, rfl⟩) | ((with_reducible refine atStore 181 (.tmp 8) (.tmp 47) rfl ?_); refine wpList_store_new rfl 181 _ _ rfl _ _ _ rfl _ rfl (by simp) [.slice Ad lf capd, .int .i64 dres] rfl ic hci hcs rfl HONE.out ?_))
        go_ret
        exact ⟨ret_bool HF.out.symm, hbW.trans ((hb.trans ((belowA wr _).mono hb.size)).mono hbW.size)⟩
      have HCd := Lib.hid (fun w => HH.out dres w)
      rw [inR_true hc2] at HCd
      go_wp2_with (first | (go_at_call 64; refine (HCd.out _).mono ?_; rintro e w3 ⟨rfl, rfl⟩) | ((with_reducible refine atStore 181 (.tmp 8) (.tmp 47) rfl ?_); refine wpList_store_new rfl 181 _ _ rfl _ _ _ rfl _ rfl (by simp) [.slice Ad lf capd, .int .i64 dres] rfl ic hci hcs rfl HONE.out ?_))
      generalize hW9 : wr.alloc _ = W9
      have hb9 : Below wr.heap.size wr W9 := by rw [← hW9]; exact belowA _ _
      have y0 : W9.cell? ⟨wr.heap.size, 0, none⟩ = some (.slice Ad lf capd) := (by rw [← hW9]; repeat' (first | (simp; done) | exact keepNew (by simp) rfl | refine keepA _ ?_))
      have y1 : W9.cell? ⟨wr.heap.size, 1, none⟩ = some (.int .i64 dres) := (by rw [← hW9]; repeat' (first | (simp; done) | exact keepNew (by simp) rfl | refine keepA _ ?_))
      have hb5 : Below W.heap.size W W9 := hb.trans (hb9.mono hb.size)
      have RD2 := Lib.hid (RD.out.below hb9)
      clear hW9 c0 c1 RD q3 q4 q5 z5 z3 HCd
      generalize wr.heap.size = g9 at *
      clear hb9 hb
      obtain ⟨wo2, rfl⟩ : ∃ x : World, x = wr := ⟨_, rfl⟩
      go_loopw [9] (fun i wr => ∃ j : Nat, j ≤ lf ∧ i = .int .i64 j ∧ (∀ (i : Nat) (a b : Int), i < j → dargs[i]? = some a → fargs[i]? = some b → (0 ≤ a ∧ a < n) ∧ kd s a = kd s b) ∧ Below W9.heap.size W9 wr) (fun i _ => lf - (intOf i).toNat)
      case atStart => exact ⟨0, Nat.zero_le _, rfl, fun i a b h => by omega, Below.refl _ _⟩
      case round =>
        obtain ⟨j, hj, rfl, hall, hbr⟩ := hrel
        have HA2 := Lib.hid hall
        clear hall
        have hb6 : Below W.heap.size W wr := hb5.trans (hbr.mono hb5.size)
        have s0 := keepB hbr y0
        have s1 := keepB hbr y1
        have s4 := keepB hb6 p4
        have s5 := keepB hb6 p5
        by_cases hjn : j < lf
        · obtain ⟨x, hx⟩ : ∃ x, dargs[j]? = some x := ⟨_, List.getElem?_eq_getElem (by have := HLD.out; omega)⟩
          obtain ⟨y, hy⟩ : ∃ y, fargs[j]? = some y := ⟨_, List.getElem?_eq_getElem (by have := HLF.out; omega)⟩
          obtain ⟨bd, od, rfl, hbd, cx⟩ := Rep.int HDOK.out.1 (RD2.out.below hbr) hx
          obtain ⟨bf, of, rfl, hbf, cy⟩ := Rep.int HFOK.out.1 (V5.out.below hb6) hy
          have hyr : (0 ≤ x ∧ x < (n : Int)) → 0 ≤ y ∧ y < (n : Int) := fun h => by
            by_cases hk0 : k = 0
            · have h1 := (HSM.out hk0).1
              rw [h1, hx] at hy
              injection hy with hy
              rw [← hy]
              exact h
            · have := (HFA.out (by omega)).args y (List.mem_of_getElem? hy)
              rw [HN.out] at this
              exact this
          have HX := Lib.hid hx
          have HY := Lib.hid hy
          clear hx hy
          by_cases hxr : 0 ≤ x ∧ x < n
          rotate_left
          · have HF : Hid (declsOk s ⟨name, decls, ac, cm, un⟩ = false) := declsOk_false fun h => hxr (by have := (h.all _ HF0.out _ (List.mem_of_getElem? HD.out)).args x (List.mem_of_getElem? HX.out); rw [HN.out] at this; exact this)
            have HCd := Lib.hid (fun w => HH.out x w)
            rw [inR_false hxr] at HCd
            clear hxr hyr
            go_wp2_with fail
            have hwr : IntKind.i64.wrap ((n : Int) - 1) = (n : Int) - 1 := IntWalk.i64_in _ (by omega)
            go_quiet (first | (go_at_call 64; exact quietC (fun n => HCd.out _) _))
            go_wp2
            go_ret
            exact ⟨ret_bool HF.out.symm, hbW.trans (below_drewN (hb6.mono hbW.size) _)⟩
          have hyr2 := hyr hxr
          clear hyr
          have HCd := Lib.hid (fun w => HH.out x w)
          rw [inR_true hxr] at HCd
          obtain ⟨xn, rfl⟩ := Int.eq_ofNat_of_zero_le hxr.1
          obtain ⟨yn, rfl⟩ := Int.eq_ofNat_of_zero_le hyr2.1
          obtain ⟨bk, ok, rfl, _, kc1⟩ := kd_cell (by rw [HN.out]; exact HK.out) (by rw [HN.out]; exact h8) (VK.out.below hb6) (k := xn) (by rw [HN.out]; omega)
          obtain ⟨_, _, hA, _, kc2⟩ := kd_cell (by rw [HN.out]; exact HK.out) (by rw [HN.out]; exact h8) (VK.out.below hb6) (k := yn) (by rw [HN.out]; omega)
          injection hA with hA
          injection hA with hA hA'
          subst hA hA'
          by_cases hc3 : kd s xn = kd s yn
          rotate_left
          · have HF : Hid (declsOk s ⟨name, decls, ac, cm, un⟩ = false) := declsOk_false fun h => hc3 ((h.all _ HF0.out _ (List.mem_of_getElem? HD.out)).kargs j _ _ HX.out HY.out)
            generalize kd s xn = kx at *
            generalize kd s yn = kz at *
            have n1 : (kx == kz) = false := by simp [hc3]
            have n2 : ((kx : Int) == (kz : Int)) = false := by simp; omega
            have n3 : ((kx : Int) != (kz : Int)) = true := by simp; omega
            go_wp2_with fail
            have hwr : IntKind.i64.wrap ((n : Int) - 1) = (n : Int) - 1 := IntWalk.i64_in _ (by omega)
            go_quiet (first | (go_at_call 64; exact quietC (fun n => HCd.out _) _))
            go_wp2
            go_ret
            exact ⟨ret_bool HF.out.symm, hbW.trans (below_drewN (hb6.mono hbW.size) _)⟩
          have HC4 := Lib.hid hc3
          rw [hc3] at kc1
          generalize kd s yn = kz at kc1 kc2
          clear hc3
          go_wp2_with fail
          have hwr : IntKind.i64.wrap ((n : Int) - 1) = (n : Int) - 1 := IntWalk.i64_in _ (by omega)
          go_quiet (first | (go_at_call 64; exact quietC (fun n => HCd.out _) _))
          clear hwr
          go_wp2
          go_roundw
          case rel =>
            refine ⟨j + 1, by omega, by go_num, fun i a b hi ha hb' => ?_, below_drewN hbr _⟩
            by_cases hij : i = j
            · subst hij
              rw [HX.out] at ha
              rw [HY.out] at hb'
              injection ha with ha
              injection hb' with hb'
              rw [← ha, ← hb']
              exact ⟨hxr, HC4.out⟩
            · exact HA2.out i a b (by omega) ha hb'
          case measure => simp [intOf]; omega
        · obtain rfl : lf = j := by omega
          have hfr : 0 ≤ fres ∧ fres < (n : Int) := by
            by_cases hk0 : k = 0
            · rw [(HSM.out hk0).2]
              exact hc2
            · have := (HFA.out (by omega)).res
              rw [HN.out] at this
              exact this
          obtain ⟨dn, rfl⟩ := Int.eq_ofNat_of_zero_le hc2.1
          obtain ⟨fn, rfl⟩ := Int.eq_ofNat_of_zero_le hfr.1
          obtain ⟨bk, ok, rfl, _, kc1⟩ := kd_cell (by rw [HN.out]; exact HK.out) (by rw [HN.out]; exact h8) (VK.out.below hb6) (k := dn) (by rw [HN.out]; omega)
          obtain ⟨_, _, hA, _, kc2⟩ := kd_cell (by rw [HN.out]; exact HK.out) (by rw [HN.out]; exact h8) (VK.out.below hb6) (k := fn) (by rw [HN.out]; omega)
          injection hA with hA
          injection hA with hA hA'
          subst hA hA'
          by_cases hc3 : kd s dn = kd s fn
          rotate_left
          · have HF : Hid (declsOk s ⟨name, decls, ac, cm, un⟩ = false) := declsOk_false fun h => hc3 (h.all _ HF0.out _ (List.mem_of_getElem? HD.out)).kres
            generalize kd s dn = kx at *
            generalize kd s fn = kz at *
            have n1 : (kx == kz) = false := by simp [hc3]
            have n2 : ((kx : Int) == (kz : Int)) = false := by simp; omega
            have n3 : ((kx : Int) != (kz : Int)) = true := by simp; omega
            go_wp2_with fail
            go_quiet (fail)
            go_wp2
            go_ret
            exact ⟨ret_bool HF.out.symm, hbW.trans (below_drewN (hb6.mono hbW.size) _)⟩
          have HC3 := Lib.hid hc3
          rw [hc3] at kc1
          generalize kd s fn = ky at kc1 kc2
          clear hc3
          have HDO : Hid (DeclOk s ⟨fargs, fn⟩ ⟨dargs, dn⟩) := by
            refine ⟨by have := HLD.out; have := HLF.out; simp only; omega, by rw [HN.out]; exact hc2, fun x hx => ?_, HC3.out, fun i a b ha hb' => ?_⟩
            · rw [HN.out]
              obtain ⟨i, hi⟩ := List.mem_iff_getElem?.1 hx
              have hil : i < dargs.length := (List.getElem?_eq_some_iff.1 hi).1
              have hil2 := HLD.out
              have hil3 := HLF.out
              exact (HA2.out i x fargs[i] (by omega) hi (List.getElem?_eq_getElem (by omega))).1
            · have hil : i < fargs.length := (List.getElem?_eq_some_iff.1 hb').1
              have hil3 := HLF.out
              exact (HA2.out i a b (by omega) ha hb').2
          go_wp2_with fail
          go_quiet (fail)
          go_wp2
          go_roundw
          case rel =>
            refine ⟨k + 1, by omega, by go_num, fun i d hi hd => ?_, below_drewN hb6 _⟩
            by_cases hik : i = k
            · subst hik
              rw [HD.out] at hd
              injection hd with hd
              rw [← hd]
              exact HDO.out
            · exact HALL.out i d (by omega) hd
          case measure => simp [intOf]; omega
    · obtain rfl : m = k := by omega
      have HF : Hid (declsOk s ⟨name, decls, ac, cm, un⟩ = true) := declsOk_true (by
        have hm' := HM.out
        have hl' := HLF.out
        refine ⟨by simp only; omega, by simp only; omega, fun f hf => ?_, fun f hf d hd => ?_⟩
        · rw [HF0.out] at hf
          injection hf with hf
          subst hf
          simp only
          omega
        · rw [HF0.out] at hf
          injection hf with hf
          subst hf
          obtain ⟨i, hi⟩ := List.mem_iff_getElem?.1 hd
          exact HALL.out i d (by have hil : i < decls.length := (List.getElem?_eq_some_iff.1 hi).1; omega) hi)
      go_wp2
      go_ret
      exact ⟨ret_bool HF.out.symm, hbW.trans (hb.mono hbW.size)⟩
end Go.Proofs.YtpbikjkjfojjiaaGreat
namespace Go.Proofs.YtpbikjkjfojjiaaGreat
open Go.RowKit Go.Sort
set_option maxRecDepth 100000 in
theorem specArity (o : Opr) (d : Dcl) (S : Nat → Prop) (us : List Value) (w : World) (hok : okOpr o) (hv : RepVals w S (encOpr o) us) (hd : o.decls[0]? = some d) :
    Calls Tryz.prog 115 #[.agg us.toArray] w fun e w' => e = .returned (.int .i64 d.args.length) ∧ Below w.heap.size w w' := by
  obtain ⟨name, decls, ac, cm, un⟩ := o
  simp only [encOpr] at hv
  simp only at hd
  obtain ⟨v1, rfl, e1⟩ := repVals_Op hv
  obtain ⟨A1, cap1, rfl, hc1, hm1⟩ := e1.shape
  obtain ⟨b1, o1, rfl, _, hz1, hrow⟩ := Rep.at okDclR hok.2.1 e1 hd
  obtain ⟨dargs, dres⟩ := d
  simp only [encDcl, RepRow, and_true, fieldsOf, List.length_cons, List.length_nil, Nat.reduceAdd, Nat.zero_mul, Nat.add_zero, Rep.lit_iff] at hrow
  obtain ⟨⟨u0, c0, r0⟩, ⟨_, c1, rfl⟩⟩ := hrow
  obtain ⟨Ad, capd, rfl, hcd, hmd⟩ := r0.shape
  have hl : 0 < decls.length := (List.getElem?_eq_some_iff.1 hd).1
  clear hv e1 r0 hd hok
  unfold maxLen at hm1 hmd
  simp only
  generalize decls.length = m at *
  generalize dargs.length = ld at *
  go_enter Tryz.func115, Tryz.ntmps115
  go_wp2
  go_ret
  exact ⟨rfl, belowA _ _⟩
theorem info_OpR : (Tryz.prog.info? 153).map (fun i => (i.zero, i.size, i.bytes)) = some (some (.agg #[.string ⟨#[]⟩, .slice none 0 0, .bool false, .bool false, .int .i64 0]), 5, 56) := by kernel_rfl
set_option maxHeartbeats 20000000 in
set_option maxRecDepth 100000 in
theorem specAxioms (g : Sgn) (o : Opr) (k : Nat) (S : Nat → Prop) (vs : List Value) (w : World) (hs : SortsOk g.sorts) (hokg : okSgn g) (hvg : RepVals w S (encSgn g) vs) (ho : g.ops[k]? = some o) (hall : ∀ p ∈ g.ops, DeclsOk g.sorts p) :
    Calls Tryz.prog 95 #[.agg vs.toArray, .int .i64 k] w fun e w' => e = .returned (.bool (axOk g o)) ∧ Below w.heap.size w w' := by
  obtain ⟨s, ops⟩ := g
  simp only at ho hall hs
  obtain ⟨n, hN⟩ : ∃ n, s.names.length = n := ⟨_, rfl⟩
  have hK := kinds_ok (SortsOk.subsIn hs.subs)
  have h8 := hs.n8
  rw [hN] at hK h8
  obtain ⟨g0, g1, g2, rfl, f0, f1, f2⟩ := repVals_Signature hvg
  obtain ⟨Ag0, cg0, rfl, _, _⟩ := f0.shape
  obtain ⟨Ag1, cg1, rfl, _, _⟩ := f1.shape
  obtain ⟨Ag2, cg2, rfl, hcg2, hmg2⟩ := f2.shape
  have HSR : Hid (RepVals w S (encSrt s) [.slice Ag0 s.names.length cg0, .slice Ag1 s.subs.length cg1]) := by show RepVals _ _ _ _; simp only [encSrt, RepVals, and_true]; exact ⟨f0, f1⟩
  have HKI := Lib.hid (fun W h => specKinds s S [.slice Ag0 s.names.length cg0, .slice Ag1 s.subs.length cg1] W hokg.1 h hs.n1 hs.n8 hs.subs)
  obtain ⟨ic, hci, _, hcs, _⟩ := info_parts info_Decl'
  obtain ⟨ip, hpi, _, hps, _⟩ := info_parts info_OpR
  have hko : k < ops.length := (List.getElem?_eq_some_iff.1 ho).1
  obtain ⟨bo, oo, rfl, _, hzo, hrow⟩ := Rep.at okOprR hokg.2 f2 ho
  have hok := hokg.2 o (List.mem_of_getElem? ho)
  obtain ⟨d, hd, hdd⟩ := (hall o (List.mem_of_getElem? ho)).first
  have HO := Lib.hid ho
  obtain ⟨name, decls, ac, cm, un⟩ := o
  simp only [encOpr, RepRow, and_true, fieldsOf, List.length_cons, List.length_nil, Nat.reduceAdd, Rep.lit_iff] at hrow
  obtain ⟨⟨_, d0, rfl⟩, ⟨vd, d1, rd⟩, ⟨_, d2, rfl⟩, ⟨_, d3, rfl⟩, ⟨_, d4, rfl⟩⟩ := hrow
  obtain ⟨A1, cap1, rfl, hc1, hm1⟩ := rd.shape
  simp only at hd hdd
  have hrv : RepVals w S (encOpr ⟨name, decls, ac, cm, un⟩) [.string name, .slice A1 decls.length cap1, .bool ac, .bool cm, .int .i64 un] := by simp only [encOpr, RepVals, Rep.lit_iff, and_true, true_and]; exact rd
  have HAR := Lib.hid (fun W h => specArity ⟨name, decls, ac, cm, un⟩ d S [.string name, .slice A1 decls.length cap1, .bool ac, .bool cm, .int .i64 un] W hok h hd)
  obtain ⟨b1, o1, rfl, _, hz1, hrow⟩ := Rep.at okDclR hok.2.1 rd hd
  have HDOK := Lib.hid (hok.2.1 d (List.mem_of_getElem? hd))
  obtain ⟨dargs, dres⟩ := d
  simp only [encDcl, RepRow, and_true, fieldsOf, List.length_cons, List.length_nil, Nat.reduceAdd, Nat.zero_mul, Nat.add_zero, Rep.lit_iff] at hrow
  obtain ⟨⟨u0, c0, r0⟩, ⟨_, c1, rfl⟩⟩ := hrow
  obtain ⟨Ad, capd, rfl, hcd, hmd⟩ := r0.shape
  have hun : I64 un := hok.2.2
  have HD0 := Lib.hid hd
  have HDD := Lib.hid hdd
  have HALL := Lib.hid hall
  have HN := Lib.hid hN
  have HK := Lib.hid hK
  have RD := Lib.hid r0
  have F2 := Lib.hid f2
  have HOKG := Lib.hid hokg
  have HRV := Lib.hid hrv
  have hml : 0 < decls.length := (List.getElem?_eq_some_iff.1 hd).1
  clear hvg rd hok hd hdd hall hK r0 f0 f1 f2 hokg hs ho hrv
  unfold maxLen at hm1 hmd hmg2
  unfold I64 at hun
  rw [hN] at HSR HKI
  simp only
  rw [hN]
  clear hN
  generalize s.subs.length = ls at *
  simp only at hcg2 hmg2 HAR HRV F2
  generalize hM : ops.length = m at *
  have HM := Lib.hid hM
  generalize decls.length = md at *
  generalize hLD : dargs.length = ld at *
  have HLD := Lib.hid hLD
  clear hM hLD
  go_enter Tryz.func95, Tryz.ntmps95
  go_upto_region 2 with ((with_reducible refine atStore 153 (.tmp 5) (.tmp 16) rfl ?_); refine wpList_store_new rfl 153 _ _ rfl _ _ _ rfl _ rfl (by simp) [.string name, .slice (some ⟨b1, o1, none⟩) md cap1, .bool ac, .bool cm, .int .i64 un] rfl ip hpi hps rfl (by simp [Value.oneCell']) ?_)
  generalize hW : (w.alloc _).alloc _ = W1
  have hb1 : Below w.heap.size w W1 := by rw [← hW]; exact (by repeat' (first | exact Below.refl _ _ | refine below_drewN ?_ _ | refine Below.alloc ?_ (by first | exact Nat.le_refl _ | (simp; done) | (simp; omega)) _))
  have p0 : W1.cell? ⟨w.heap.size, 0, none⟩ = some (.slice Ag0 n cg0) := (by rw [← hW]; repeat' (first | (simp; done) | exact keepNew (by simp) rfl | refine keepA _ ?_))
  have p1 : W1.cell? ⟨w.heap.size, 1, none⟩ = some (.slice Ag1 ls cg1) := (by rw [← hW]; repeat' (first | (simp; done) | exact keepNew (by simp) rfl | refine keepA _ ?_))
  have p2 : W1.cell? ⟨w.heap.size, 2, none⟩ = some (.slice (some ⟨bo, oo, none⟩) m cg2) := (by rw [← hW]; repeat' (first | (simp; done) | exact keepNew (by simp) rfl | refine keepA _ ?_))
  have s0 : W1.cell? ⟨w.heap.size + 1, 0, none⟩ = some (.string name) := (by rw [← hW]; repeat' (first | (simp; done) | exact keepNew (by simp) rfl | refine keepA _ ?_))
  have s1 : W1.cell? ⟨w.heap.size + 1, 1, none⟩ = some (.slice (some ⟨b1, o1, none⟩) md cap1) := (by rw [← hW]; repeat' (first | (simp; done) | exact keepNew (by simp) rfl | refine keepA _ ?_))
  have s2 : W1.cell? ⟨w.heap.size + 1, 2, none⟩ = some (.bool ac) := (by rw [← hW]; repeat' (first | (simp; done) | exact keepNew (by simp) rfl | refine keepA _ ?_))
  have s3 : W1.cell? ⟨w.heap.size + 1, 3, none⟩ = some (.bool cm) := (by rw [← hW]; repeat' (first | (simp; done) | exact keepNew (by simp) rfl | refine keepA _ ?_))
  have s4 : W1.cell? ⟨w.heap.size + 1, 4, none⟩ = some (.int .i64 un) := (by rw [← hW]; repeat' (first | (simp; done) | exact keepNew (by simp) rfl | refine keepA _ ?_))
  clear hW d0 d1 d2 d3 d4
  generalize w.heap.size + 1 = g5 at *
  by_cases u2 : ac = false ∧ cm = false ∧ un = 0
  · obtain ⟨rfl, rfl, rfl⟩ := u2
    have HF : Hid (axOk ⟨s, ops⟩ ⟨name, decls, false, false, 0⟩ = true) := axOk_true ⟨by simp, by simp, fun h => by simp at h⟩
    go_wp2
    go_ret
    exact ⟨ret_bool HF.out.symm, hb1⟩
  have HU2 : Hid (ac = true ∨ cm = true ∨ un ≠ 0) := by
    show _ ∨ _
    cases ac <;> cases cm <;> simp at u2 ⊢ <;> omega
  simp only [Act.put]
  go_cut [29] (fun v wx => v = .bool false ∧ W1 = wx)
  case first =>
    cases ac
    · cases cm
      · have n1 : (un == 0) = false := by simpa using u2
        clear u2
        go_wp2
        all_goals (go_meet; exact ⟨rfl, rfl⟩)
      · clear u2
        go_wp2
        all_goals (go_meet; exact ⟨rfl, rfl⟩)
    · clear u2
      go_wp2
      all_goals (go_meet; exact ⟨rfl, rfl⟩)
  case rest =>
    obtain ⟨rfl, rfl⟩ := hcut
    clear u2
    have HAR1 := Lib.hid (HAR.out _ (HRV.out.below hb1))
    have HIN := Lib.hid (fun w => specIn un 0 m w)
    by_cases u3 : ld = 2
    rotate_left
    · have HF : Hid (axOk ⟨s, ops⟩ ⟨name, decls, ac, cm, un⟩ = false) := axOk_false fun h => u3 (by have := (h.two HU2.out _ HD0.out).1; have := HLD.out; simp only at *; omega)
      have n1 : (ld == 2) = false := by simp [u3]
      have n2 : ((ld : Int) == 2) = false := by simp; omega
      have n3 : ((ld : Int) != 2) = true := by simp; omega
      go_wp2_with (go_at_call 115; refine HAR1.out.mono ?_; rintro e w3 ⟨rfl, hb3⟩)
      go_ret
      exact ⟨ret_bool HF.out.symm, hb1.trans (hb3.mono hb1.size)⟩
    subst u3
    by_cases u4 : 0 ≤ un ∧ un ≤ m
    rotate_left
    · have HF : Hid (axOk ⟨s, ops⟩ ⟨name, decls, ac, cm, un⟩ = false) := axOk_false fun h => u4 (by have h1 := h.lo; have h2 := h.hi; have := HM.out; simp only at *; omega)
      rw [decide_eq_false u4] at HIN
      clear u4
      go_wp2_with fail
      refine HAR1.out.mono ?_
      rintro e w3 ⟨rfl, hb3⟩
      have t2 := keepB hb3 p2
      have t4 := keepB hb3 s4
      go_wp2_with (go_at_call 64; refine (HIN.out _).mono ?_; rintro e w4 ⟨rfl, rfl⟩)
      go_ret
      exact ⟨ret_bool HF.out.symm, hb1.trans (hb3.mono hb1.size)⟩
    rw [decide_eq_true u4] at HIN
    go_wp2_with fail
    refine HAR1.out.mono ?_
    rintro e w3 ⟨rfl, hb3⟩
    have t0 := keepB hb3 p0
    have t1 := keepB hb3 p1
    have t2 := keepB hb3 p2
    have t4 := keepB hb3 s4
    go_wp2_with (go_at_call 64; refine (HIN.out _).mono ?_; rintro e w4 ⟨rfl, rfl⟩)
    have hb13 := hb1.trans (hb3.mono hb1.size)
    refine (HKI.out _ (HSR.out.below hb13)).mono ?_
    rintro e W2 ⟨vk, rfl, hI, hbk⟩
    obtain ⟨Ak, ck, rfl, hck, hmk, hA⟩ := hI.form
    have hkl : (casts (kinds s)).length = n := by rw [casts_len]; exact HK.out.1
    have hI' := hI.rep
    rw [hkl] at hI' hck
    rw [hkl]
    clear hkl hA
    unfold maxLen at hmk
    have VK1 := Lib.hid hI'
    clear hI hI' t0 t1 t2 t4
    have hb2 : Below W1.heap.size W1 W2 := hb3.trans (hbk.mono hb3.size)
    have hbw := hb1.trans (hb2.mono hb1.size)
    have t1 := keepB hb2 s1
    have e0 := keepB hbw c0
    have e1 := keepB hbw c1
    go_wp2_with ((with_reducible refine atStore 181 (.tmp 7) (.tmp 48) rfl ?_); refine wpList_store_new rfl 181 _ _ rfl _ _ _ rfl _ rfl (by simp) [.slice Ad 2 capd, .int .i64 dres] rfl ic hci hcs rfl (by simp [Value.oneCell']) ?_)
    generalize hW : W2.alloc _ = W
    have hb4 : Below W2.heap.size W2 W := by rw [← hW]; exact belowA _ _
    have x0 : W.cell? ⟨W2.heap.size, 0, none⟩ = some (.slice Ad 2 capd) := (by rw [← hW]; repeat' (first | (simp; done) | exact keepNew (by simp) rfl | refine keepA _ ?_))
    have x1 : W.cell? ⟨W2.heap.size, 1, none⟩ = some (.int .i64 dres) := (by rw [← hW]; repeat' (first | (simp; done) | exact keepNew (by simp) rfl | refine keepA _ ?_))
    have hb1W : Below W1.heap.size W1 W := hb2.trans (hb4.mono hb2.size)
    have hbW : Below w.heap.size w W := hb1.trans (hb1W.mono hb1.size)
    have VK := Lib.hid (VK1.out.below hb4)
    clear hW t1 e0 e1 VK1
    generalize W2.heap.size = g7 at *
    have t1 := keepB hb1W s1
    have t2 := keepB hb1W s2
    have t4 := keepB hb1W s4
    have t5 := keepB hb1W p2
    clear hb2 hb4 hbk hbw hb13 hb3
    obtain ⟨a, b, rfl⟩ := two_of HLD.out
    obtain ⟨ba, oa, rfl, hza, ca0⟩ := Rep.int HDOK.out.1 (RD.out.below hbW) (k := 0) (x := a) rfl
    obtain ⟨_, _, hA, _, ca1⟩ := Rep.int HDOK.out.1 (RD.out.below hbW) (k := 1) (x := b) rfl
    injection hA with hA
    injection hA with hA hA'
    subst hA hA'
    simp only [Nat.add_zero] at ca0
    have ha := HDD.out.args a (by simp)
    have hb := HDD.out.args b (by simp)
    have hr := HDD.out.res
    simp only at hr
    rw [HN.out] at ha hb hr
    obtain ⟨a, rfl⟩ := Int.eq_ofNat_of_zero_le ha.1
    obtain ⟨b, rfl⟩ := Int.eq_ofNat_of_zero_le hb.1
    obtain ⟨r, rfl⟩ := Int.eq_ofNat_of_zero_le hr.1
    obtain ⟨bk, ok, rfl, hzk, ka⟩ := kd_cell (by rw [HN.out]; exact HK.out) (by rw [HN.out]; exact h8) VK.out (k := a) (by rw [HN.out]; omega)
    obtain ⟨_, _, hA, _, kb⟩ := kd_cell (by rw [HN.out]; exact HK.out) (by rw [HN.out]; exact h8) VK.out (k := b) (by rw [HN.out]; omega)
    injection hA with hA
    injection hA with hA hA'
    subst hA hA'
    obtain ⟨_, _, hA, _, kr⟩ := kd_cell (by rw [HN.out]; exact HK.out) (by rw [HN.out]; exact h8) VK.out (k := r) (by rw [HN.out]; omega)
    injection hA with hA
    injection hA with hA hA'
    subst hA hA'
    clear HDD
    generalize hka : kd s a = ka' at *
    generalize hkb : kd s b = kb' at *
    generalize hkr : kd s r = kr' at *
    have HKA := Lib.hid hka
    have HKB := Lib.hid hkb
    have HKC := Lib.hid hkr
    clear hka hkb hkr
    go_quiet (fail)
    have VKq := Lib.hid (VK.out.below (belowN W nq))
    have hb1q := below_drewN hb1W nq
    have hbWq := below_drewN hbW nq
    have HF2 := Lib.hid (F2.out.below hbWq)
    replace x0 := keepN (n := nq) x0
    replace x1 := keepN (n := nq) x1
    replace t1 := keepN (n := nq) t1
    replace t2 := keepN (n := nq) t2
    replace t4 := keepN (n := nq) t4
    replace t5 := keepN (n := nq) t5
    clear ka kb kr ca0 ca1 VK hb1W hbW hza hzk
    generalize W.drewN nq = Wq at *
    by_cases u5 : ka' = kb'
    rotate_left
    · have HF : Hid (axOk ⟨s, ops⟩ ⟨name, decls, ac, cm, un⟩ = false) := axOk_false fun h => u5 (by have := ((h.two HU2.out _ HD0.out).2 _ _ rfl rfl).1; simp only [HKA.out, HKB.out] at this; exact this)
      have n1 : (ka' == kb') = false := by simp [u5]
      have n2 : ((ka' : Int) == (kb' : Int)) = false := by simp; omega
      have n3 : ((ka' : Int) != (kb' : Int)) = true := by simp; omega
      go_wp2
      go_ret
      exact ⟨ret_bool HF.out.symm, hbWq⟩
    subst u5
    by_cases u6 : (ac = true ∨ un ≠ 0) ∧ ka' ≠ kr'
    · have HF : Hid (axOk ⟨s, ops⟩ ⟨name, decls, ac, cm, un⟩ = false) := axOk_false fun h => u6.2 (by have := ((h.two HU2.out _ HD0.out).2 _ _ rfl rfl).2.1 u6.1; simp only [HKA.out, HKC.out] at this; exact this)
      obtain ⟨u7, u8⟩ := u6
      have n1 : (ka' == kr') = false := by simp [u8]
      have n2 : ((ka' : Int) == (kr' : Int)) = false := by simp; omega
      have n3 : ((ka' : Int) != (kr' : Int)) = true := by simp; omega
      cases ac
      · have u9 : 0 < un := by simp at u7; omega
        clear u7
        go_wp2
        go_ret
        exact ⟨ret_bool HF.out.symm, hbWq⟩
      · clear u7
        go_wp2
        go_ret
        exact ⟨ret_bool HF.out.symm, hbWq⟩
    have HU5 : Hid ((ac = true ∨ un ≠ 0) → ka' = kr') := fun h => Decidable.byContradiction fun h' => u6 ⟨h, h'⟩
    clear u6
    by_cases u7 : un = 0
    · subst u7
      have HF : Hid (axOk ⟨s, ops⟩ ⟨name, decls, ac, cm, 0⟩ = true) := axOk_true ⟨by simp, by simp, fun _ d hd => by
        have hd' : decls[0]? = some d := hd
        rw [HD0.out] at hd'
        injection hd' with hd'
        subst hd'
        refine ⟨rfl, fun x y hx hy => ?_⟩
        have hx : (a : Int) = x := by simpa using hx
        have hy : (b : Int) = y := by simpa using hy
        subst hx hy
        exact ⟨by rw [HKA.out, HKB.out], fun h => by show kd s a = kd s r; rw [HKA.out, HKC.out]; exact HU5.out h, fun h => absurd rfl h⟩⟩
      cases ac
      · go_wp2
        go_ret
        exact ⟨ret_bool HF.out.symm, hbWq⟩
      · have u8 := HU5.out (Or.inl rfl)
        subst u8
        go_wp2
        go_ret
        exact ⟨ret_bool HF.out.symm, hbWq⟩
    have u8 : ka' = kr' := HU5.out (.inr u7)
    subst u8
    obtain ⟨q, hq⟩ : ∃ q : Nat, un = (q : Int) + 1 := ⟨(un - 1).toNat, by omega⟩
    subst hq
    obtain ⟨p, hp⟩ : ∃ p, ops[q]? = some p := ⟨_, List.getElem?_eq_getElem (by have := HM.out; omega)⟩
    obtain ⟨_, _, hA, _, hzo2, hrow⟩ := Rep.at okOprR HOKG.out.2 HF2.out hp
    injection hA with hA
    injection hA with hA hA'
    subst hA hA'
    obtain ⟨u, hu, huu⟩ := (HALL.out p (List.mem_of_getElem? hp)).first
    have HPOK := Lib.hid (HOKG.out.2 p (List.mem_of_getElem? hp))
    have HP := Lib.hid hp
    have HUU := Lib.hid hu
    obtain ⟨pname, pdecls, pac, pcm, pun⟩ := p
    simp only [encOpr, RepRow, and_true, fieldsOf, List.length_cons, List.length_nil, Nat.reduceAdd, Rep.lit_iff] at hrow
    obtain ⟨⟨_, d0, rfl⟩, ⟨vd, d1, rd⟩, ⟨_, d2, rfl⟩, ⟨_, d3, rfl⟩, ⟨_, d4, rfl⟩⟩ := hrow
    obtain ⟨Au, capu, rfl, hcu, hmu⟩ := rd.shape
    simp only at hu huu
    have hrvp : RepVals Wq S (encOpr ⟨pname, pdecls, pac, pcm, pun⟩) [.string pname, .slice Au pdecls.length capu, .bool pac, .bool pcm, .int .i64 pun] := by simp only [encOpr, RepVals, Rep.lit_iff, and_true, true_and]; exact rd
    have HRP := Lib.hid hrvp
    have HARP := Lib.hid (fun W h => specArity ⟨pname, pdecls, pac, pcm, pun⟩ u S [.string pname, .slice Au pdecls.length capu, .bool pac, .bool pcm, .int .i64 pun] W HPOK.out h hu)
    obtain ⟨bu, ou, rfl, _, hzu, hrow⟩ := Rep.at okDclR HPOK.out.2.1 rd hu
    obtain ⟨uargs, ures⟩ := u
    simp only [encDcl, RepRow, and_true, fieldsOf, List.length_cons, List.length_nil, Nat.reduceAdd, Nat.zero_mul, Nat.add_zero, Rep.lit_iff] at hrow
    obtain ⟨⟨x5, x6, x7⟩, ⟨_, x8, rfl⟩⟩ := hrow
    obtain ⟨Av, capv, rfl, hcv, hmv⟩ := x7.shape
    have hur := huu.res
    simp only at hur
    rw [HN.out] at hur
    obtain ⟨ur, rfl⟩ := Int.eq_ofNat_of_zero_le hur.1
    have hpl : 0 < pdecls.length := (List.getElem?_eq_some_iff.1 hu).1
    unfold maxLen at hmu hmv
    clear hp hu huu x7 rd hrvp
    simp only at HARP
    generalize hku : kd s ur = ku' at *
    have HKU := Lib.hid hku
    generalize hLU : uargs.length = lu at *
    have HLU := Lib.hid hLU
    generalize pdecls.length = pl at *
    clear hku hLU
    have HIF : Hid (axOk ⟨s, ops⟩ ⟨name, decls, ac, cm, (q : Int) + 1⟩ = (lu == 0 && ku' == ka')) := by
      show _ = _
      by_cases hh : lu = 0 ∧ ku' = ka'
      · rw [axOk_true]
        · simp [hh.1, hh.2]
        · refine ⟨by simp; omega, by simp; have := HM.out; omega, fun _ d hd => ?_⟩
          have hd' : decls[0]? = some d := hd
          rw [HD0.out] at hd'
          injection hd' with hd'
          subst hd'
          refine ⟨rfl, fun x y hx hy => ?_⟩
          have hx : (a : Int) = x := by simpa using hx
          have hy : (b : Int) = y := by simpa using hy
          subst hx hy
          refine ⟨by rw [HKA.out, HKB.out], fun h => by show kd s a = kd s r; rw [HKA.out, HKC.out], fun _ p u hp hu => ?_⟩
          have hp' : ops[q]? = some p := by
            have : ops[((q : Int) + 1).toNat - 1]? = some p := hp
            rwa [show ((q : Int) + 1).toNat - 1 = q by omega] at this
          rw [HP.out] at hp'
          injection hp' with hp'
          subst hp'
          rw [HUU.out] at hu
          injection hu with hu
          subst hu
          exact ⟨by show uargs.length = 0; rw [HLU.out]; exact hh.1, by show kd s ur = kd s r; rw [HKU.out, HKC.out]; exact hh.2⟩
      · rw [axOk_false]
        · symm
          rw [Bool.eq_false_iff]
          intro h
          simp only [Bool.and_eq_true, beq_iff_eq] at h
          exact hh h
        · intro h
          have := ((h.two HU2.out _ HD0.out).2 _ _ rfl rfl).2.2 (by simp; omega) _ _ (by rw [show ((q : Int) + 1).toNat - 1 = q by omega]; exact HP.out) HUU.out
          simp only [HKU.out, HKC.out, HLU.out] at this
          exact hh this
    have hq0 : ((q : Int) + 1 == 0) = false := by simp; omega
    have hq1 : (0 : Int) < (q : Int) + 1 := by omega
    clear u7
    go_upto_region 14 with ((with_reducible refine atStore 153 (.tmp 11) (.tmp 94) rfl ?_); refine wpList_store_new rfl 153 _ _ rfl _ _ _ rfl _ rfl (by simp) [.string pname, .slice (some ⟨bu, ou, none⟩) pl capu, .bool pac, .bool pcm, .int .i64 pun] rfl ip hpi hps rfl (by simp [Value.oneCell']) ?_)
    all_goals
      simp only [Act.put]
      generalize hW : Wq.alloc _ = W11
      have hb11 : Below Wq.heap.size Wq W11 := by rw [← hW]; exact belowA _ _
      have y0 : W11.cell? ⟨Wq.heap.size, 0, none⟩ = some (.string pname) := (by rw [← hW]; repeat' (first | (simp; done) | exact keepNew (by simp) rfl | refine keepA _ ?_))
      have y1 : W11.cell? ⟨Wq.heap.size, 1, none⟩ = some (.slice (some ⟨bu, ou, none⟩) pl capu) := (by rw [← hW]; repeat' (first | (simp; done) | exact keepNew (by simp) rfl | refine keepA _ ?_))
      have y2 : W11.cell? ⟨Wq.heap.size, 2, none⟩ = some (.bool pac) := (by rw [← hW]; repeat' (first | (simp; done) | exact keepNew (by simp) rfl | refine keepA _ ?_))
      have y3 : W11.cell? ⟨Wq.heap.size, 3, none⟩ = some (.bool pcm) := (by rw [← hW]; repeat' (first | (simp; done) | exact keepNew (by simp) rfl | refine keepA _ ?_))
      have y4 : W11.cell? ⟨Wq.heap.size, 4, none⟩ = some (.int .i64 pun) := (by rw [← hW]; repeat' (first | (simp; done) | exact keepNew (by simp) rfl | refine keepA _ ?_))
      clear hW
      go_wp2_with fail
      refine (HARP.out _ (HRP.out.below hb11)).mono ?_
      rintro e W12 ⟨rfl, hb12⟩
      have hb112 := hb11.trans (hb12.mono hb11.size)
      have z1 := keepB hb12 y1
      have z6 := keepB hb112 x6
      have z8 := keepB hb112 x8
      obtain ⟨_, _, hA, _, ku⟩ := kd_cell (by rw [HN.out]; exact HK.out) (by rw [HN.out]; exact h8) (VKq.out.below hb112) (k := ur) (by rw [HN.out]; omega)
      injection hA with hA
      injection hA with hA hA'
      subst hA hA'
      rw [HKU.out] at ku
      have hbend := hbWq.trans (hb112.mono hbWq.size)
      by_cases v1 : lu = 0
      · subst v1
        by_cases v2 : ku' = ka'
        · subst v2
          rw [beq_self_eq_true, beq_self_eq_true, Bool.and_true] at HIF
          go_wp2
          go_ret
          exact ⟨ret_bool HIF.out.symm, hbend⟩
        · have n1 : (ku' == ka') = false := by simp [v2]
          have n2 : ((ku' : Int) == (ka' : Int)) = false := by simp; omega
          have n3 : ((ku' : Int) != (ka' : Int)) = true := by simp; omega
          rw [n1, Bool.and_false] at HIF
          go_wp2
          go_ret
          exact ⟨ret_bool HIF.out.symm, hbend⟩
      · have n1 : (lu == 0) = false := by simp [v1]
        have n2 : ((lu : Int) == 0) = false := by simp; omega
        have n3 : ((lu : Int) != 0) = true := by simp; omega
        rw [n1, Bool.false_and] at HIF
        go_wp2
        go_ret
        exact ⟨ret_bool HIF.out.symm, hbend⟩
end Go.Proofs.YtpbikjkjfojjiaaGreat
namespace Go.Proofs.YtpbikjkjfojjiaaGreat
open Go.RowKit Go.Sort
theorem hasStr_snoc (l : List ByteArray) (t s : ByteArray) : hasStr (l ++ [t]) s = (hasStr l s || (s.toList == t.toList)) := by simp [hasStr, List.any_append]
set_option maxHeartbeats 20000000 in
set_option maxRecDepth 100000 in
theorem specIsSignature : sgnC 44 := by
  intro g S us w hok hv
  obtain ⟨s, ops⟩ := g
  have hv0 := hv
  obtain ⟨g0, g1, g2, rfl, f0, f1, f2⟩ := repVals_Signature hv
  obtain ⟨Ag0, cg0, rfl, _, _⟩ := f0.shape
  obtain ⟨Ag1, cg1, rfl, _, _⟩ := f1.shape
  obtain ⟨Ag2, cg2, rfl, hcg2, hmg2⟩ := f2.shape
  have HSR : Hid (RepVals w S (encSrt s) [.slice Ag0 s.names.length cg0, .slice Ag1 s.subs.length cg1]) := by show RepVals _ _ _ _; simp only [encSrt, RepVals, and_true]; exact ⟨f0, f1⟩
  have HOK := Lib.hid hok
  have HV := Lib.hid hv0
  have F2 := Lib.hid f2
  clear hv hv0 f0 f1 f2 hok
  simp only at HSR HV F2 hcg2 hmg2
  simp only
  generalize hln : s.names.length = n at *
  generalize s.subs.length = ls at *
  have HLN := Lib.hid hln
  clear hln
  generalize hM : ops.length = m at *
  have HM := Lib.hid hM
  clear hM
  unfold maxLen at hmg2
  have HIS := Lib.hid (fun W h => specIsSorts s S [.slice Ag0 n cg0, .slice Ag1 ls cg1] W HOK.out.1 h)
  by_cases hs : SortsOk s
  rotate_left
  · have HF : Hid (isSgn ⟨s, ops⟩ = false) := isSgn_false fun h => hs h.sorts
    rw [isSorts_false hs] at HIS
    clear hs
    go_enter Tryz.func44, Tryz.ntmps44
    go_wp2_with fail
    refine (HIS.out _ (HSR.out.below (belowA _ _))).mono ?_
    rintro e w2 ⟨rfl, hb2⟩
    go_wp2
    go_ret
    exact ⟨ret_bool HF.out.symm, (belowA _ _).trans (hb2.mono (belowA _ _).size)⟩
  rw [isSorts_true hs] at HIS
  have HSO := Lib.hid hs
  clear hs
  go_enter Tryz.func44, Tryz.ntmps44
  go_wp2_with fail
  generalize hW : w.alloc _ = W0
  have hb0 : Below w.heap.size w W0 := by rw [← hW]; exact belowA _ _
  have p0 : W0.cell? ⟨w.heap.size, 0, none⟩ = some (.slice Ag0 n cg0) := (by rw [← hW]; repeat' (first | (simp; done) | exact keepNew (by simp) rfl | refine keepA _ ?_))
  have p1 : W0.cell? ⟨w.heap.size, 1, none⟩ = some (.slice Ag1 ls cg1) := (by rw [← hW]; repeat' (first | (simp; done) | exact keepNew (by simp) rfl | refine keepA _ ?_))
  have p2 : W0.cell? ⟨w.heap.size, 2, none⟩ = some (.slice Ag2 m cg2) := (by rw [← hW]; repeat' (first | (simp; done) | exact keepNew (by simp) rfl | refine keepA _ ?_))
  clear hW
  refine (HIS.out _ (HSR.out.below hb0)).mono ?_
  rintro e W ⟨rfl, hb2⟩
  have hbW : Below w.heap.size w W := hb0.trans (hb2.mono hb0.size)
  have r0 := keepB hb2 p0
  have r1 := keepB hb2 p1
  have r2 := keepB hb2 p2
  have F2W := Lib.hid (F2.out.below hbW)
  have HVW := Lib.hid (HV.out.below hbW)
  clear p0 p1 p2 F2 HV HSR HIS hb0 hb2
  by_cases h14 : 14 < m
  · have HF : Hid (isSgn ⟨s, ops⟩ = false) := isSgn_false fun h => by have := h.len; have := HM.out; simp only at *; omega
    go_wp2
    go_ret
    exact ⟨ret_bool HF.out.symm, hbW⟩
  go_wp2
  go_loopw [3] (fun i wr => ∃ k : Nat, k ≤ m ∧ i = .int .i64 k ∧ (∀ (j : Nat) (o : Opr), j < k → ops[j]? = some o → (isName o.name = true ∧ hasStr (opNames (ops.take j)) o.name = false) ∧ DeclsOk s o) ∧ Below W.heap.size W wr) (fun i _ => m - (intOf i).toNat)
  case atStart => exact ⟨0, Nat.zero_le _, rfl, fun j o h => by omega, Below.refl _ _⟩
  case round =>
    obtain ⟨k, hk, rfl, hall, hb⟩ := hrel
    have HALL := Lib.hid hall
    clear hall
    have q0 := keepB hb r0
    have q1 := keepB hb r1
    have q2 := keepB hb r2
    by_cases hkn : k < m
    · obtain ⟨o, ho⟩ : ∃ o, ops[k]? = some o := ⟨_, List.getElem?_eq_getElem (by have := HM.out; omega)⟩
      have HOO := Lib.hid (HOK.out.2 o (List.mem_of_getElem? ho))
      obtain ⟨b, off, vd, rfl, hbz, c0, c1, c2, c3, c4, rd⟩ := Rep.opAt HOK.out.2 (F2W.out.below hb) ho
      have HO := Lib.hid ho
      obtain ⟨name, decls, ac, cm, un⟩ := o
      simp only at c0 c2 c3 c4 rd
      have hrv : RepVals wr S (encOpr ⟨name, decls, ac, cm, un⟩) [.string name, vd, .bool ac, .bool cm, .int .i64 un] := by simp only [encOpr, RepVals, Rep.lit_iff, and_true, true_and]; exact rd
      obtain ⟨Ad, capd, rfl, _, _⟩ := rd.shape
      have HRV := Lib.hid hrv
      clear ho rd hrv
      generalize decls.length = ld at *
      have k0 := cell_regrown q0
      have k1 := cell_regrown q1
      have k2 := cell_regrown q2
      have y0 := cell_regrown c0
      have y1 := cell_regrown c1
      have y2 := cell_regrown c2
      have y3 := cell_regrown c3
      have y4 := cell_regrown c4
      have HNM := Lib.hid (fun w => specIsName name HOO.out.1 w)
      cases hin : isName name
      · have HF : Hid (isSgn ⟨s, ops⟩ = false) := isSgn_false fun h => by have := (h.names k _ HO.out).1; rw [hin] at this; cases this
        rw [hin] at HNM
        clear hin
        have HCn : Hid (∀ d os, Calls Tryz.prog 93 #[.string name] (grow (redrawn wr d) os) fun e w'' => e = .returned (.bool false) ∧ ∃ p : Regrown, w'' = grow (redrawn wr p.d) p.os) := fun d os => Calls.regrown_of ((HNM.out _).mono fun e w' h => ⟨h.1, by rw [← h.2]; exact Below.refl _ _⟩)
        go_wp2_with fail
        (refine wp_region_quiet_below (by kernel_rfl) (by kernel_rfl) ?_
         repeat (first | go_big_quiet_step (first | (go_at_call 93; exact HCn.out _ _)) | quiet_step (first | (go_at_call 93; exact HCn.out _ _)))
         refine wpQuiet_nil ?_
         intro _ hw'
         obtain ⟨⟨dq, osq⟩, hw''⟩ := hw'
         subst hw'')
        go_wp2
        go_ret
        exact ⟨ret_bool HF.out.symm, hbW.trans ((hb.trans ((below_regrown wr dq osq).mono hb.size)).mono hbW.size)⟩
      rw [hin] at HNM
      have HIN := Lib.hid hin
      clear hin
      have HCn : Hid (∀ d os, Calls Tryz.prog 93 #[.string name] (grow (redrawn wr d) os) fun e w'' => e = .returned (.bool true) ∧ ∃ p : Regrown, w'' = grow (redrawn wr p.d) p.os) := fun d os => Calls.regrown_of ((HNM.out _).mono fun e w' h => ⟨h.1, by rw [← h.2]; exact Below.refl _ _⟩)
      have HCd : Hid (∀ d os, Calls Tryz.prog 94 #[.agg #[.slice Ag0 n cg0, .slice Ag1 ls cg1, .slice (some ⟨b, off, none⟩) m cg2], .agg #[.string name, .slice Ad ld capd, .bool ac, .bool cm, .int .i64 un]] (grow (redrawn wr d) os) fun e w'' => e = .returned (.bool (declsOk s ⟨name, decls, ac, cm, un⟩)) ∧ ∃ p : Regrown, w'' = grow (redrawn wr p.d) p.os) := fun d os =>
        Calls.regrown_of (specDecls ⟨s, ops⟩ ⟨name, decls, ac, cm, un⟩ S [.slice Ag0 n cg0, .slice Ag1 ls cg1, .slice (some ⟨b, off, none⟩) m cg2] [.string name, .slice Ad ld capd, .bool ac, .bool cm, .int .i64 un] _ HSO.out HOK.out HOO.out ((HVW.out.below hb).below (below_regrown wr d os)) (HRV.out.below (below_regrown wr d os)))
      cases hde : declsOk s ⟨name, decls, ac, cm, un⟩
      · have HF : Hid (isSgn ⟨s, ops⟩ = false) := isSgn_false fun h => by have := declsOk_true (h.decls _ (List.mem_of_getElem? HO.out)); simp only at this; rw [hde] at this; cases this
        rw [hde] at HCd
        clear hde
        go_wp2_with fail
        (refine wp_region_quiet_below (by kernel_rfl) (by kernel_rfl) ?_
         repeat (first | go_big_quiet_step (first | (go_at_call 93; exact HCn.out _ _) | (go_at_call 94; exact HCd.out _ _)) | quiet_step (first | (go_at_call 93; exact HCn.out _ _) | (go_at_call 94; exact HCd.out _ _)))
         refine wpQuiet_nil ?_
         intro _ hw'
         obtain ⟨⟨dq, osq⟩, hw''⟩ := hw'
         subst hw'')
        go_wp2
        go_ret
        exact ⟨ret_bool HF.out.symm, hbW.trans ((hb.trans ((below_regrown wr dq osq).mono hb.size)).mono hbW.size)⟩
      rw [hde] at HCd
      have HDE := Lib.hid (declsOk_iff.1 hde)
      clear hde
      go_wp2_with fail
      (refine wp_region_quiet_below (by kernel_rfl) (by kernel_rfl) ?_
       repeat (first | go_big_quiet_step (first | (go_at_call 93; exact HCn.out _ _) | (go_at_call 94; exact HCd.out _ _)) | quiet_step (first | (go_at_call 93; exact HCn.out _ _) | (go_at_call 94; exact HCd.out _ _)))
       refine wpQuiet_nil ?_
       intro _ hw'
       obtain ⟨⟨dq, osq⟩, hw''⟩ := hw'
       subst hw'')
      have hb5 : Below W.heap.size W (grow (redrawn wr dq) osq) := hb.trans ((below_regrown wr dq osq).mono hb.size)
      clear k0 k1 k2 y0 y1 y2 y3 y4 q0 q1 q2 c0 c1 c2 c3 c4 HCn HCd HRV hb hbz
      generalize grow (redrawn wr dq) osq = W5 at *
      go_wp2
      obtain ⟨wo, rfl⟩ : ∃ x : World, x = wr := ⟨_, rfl⟩
      go_loopw [4] (fun i wr => ∃ j : Nat, j ≤ k ∧ i = .int .i64 j ∧ hasStr (opNames (ops.take j)) name = false ∧ Below W5.heap.size W5 wr) (fun i _ => k - (intOf i).toNat)
      case atStart => exact ⟨0, Nat.zero_le _, rfl, by simp [opNames, hasStr], Below.refl _ _⟩
      case round =>
        obtain ⟨j, hj, rfl, hno, hbr⟩ := hrel
        have HNO := Lib.hid hno
        clear hno
        have hb6 : Below W.heap.size W wr := hb5.trans (hbr.mono hb5.size)
        by_cases hjk : j < k
        · obtain ⟨p, hp⟩ : ∃ p, ops[j]? = some p := ⟨_, List.getElem?_eq_getElem (by have := HM.out; omega)⟩
          obtain ⟨_, _, _, hA, hbz, d0, _⟩ := Rep.opAt HOK.out.2 (F2W.out.below hb6) hp
          injection hA with hA
          injection hA with hA hA'
          subst hA hA'
          obtain ⟨_, _, _, hA, hbz, c0, _⟩ := Rep.opAt HOK.out.2 (F2W.out.below hb6) HO.out
          injection hA with hA
          injection hA with hA hA'
          subst hA hA'
          simp only at c0
          have q2 := keepB hb6 r2
          have HP := Lib.hid (opNames_snoc hp)
          clear hp
          generalize p.name = pn at *
          cases he : (name.toList == pn.toList)
          · have e1 : (pn.toList == name.toList) = false := by rw [← he]; exact BEq.comm
            have HE := Lib.hid he
            clear he
            go_wp2_with fail
            go_quiet (fail)
            go_wp2
            go_roundw
            case rel => exact ⟨j + 1, by omega, by go_num, by rw [HP.out, hasStr_snoc, HNO.out, HE.out]; rfl, below_drewN hbr _⟩
            case measure => simp [intOf]; omega
          · have e1 : (pn.toList == name.toList) = true := by rw [← he]; exact BEq.comm
            have HF : Hid (isSgn ⟨s, ops⟩ = false) := isSgn_false fun h => by
              have h1 := (h.names k _ HO.out).2
              have h2 : hasStr (opNames (ops.take (j + 1))) name = true := by rw [HP.out, hasStr_snoc, he]; simp
              have h3 : hasStr (opNames (ops.take k)) name = true := by
                unfold hasStr at h2 ⊢
                obtain ⟨t, ht, hte⟩ := List.any_eq_true.1 h2
                refine List.any_eq_true.2 ⟨t, ?_, hte⟩
                obtain ⟨q, hq, rfl⟩ := List.mem_map.1 ht
                refine List.mem_map.2 ⟨q, ?_, rfl⟩
                have : ops.take (j + 1) = (ops.take k).take (j + 1) := by rw [List.take_take]; congr 1; omega
                rw [this] at hq
                exact List.mem_of_mem_take hq
              simp only at h1
              rw [h1] at h3
              cases h3
            clear he
            go_wp2_with fail
            go_quiet (fail)
            go_wp2
            go_ret
            exact ⟨ret_bool HF.out.symm, hbW.trans (below_drewN (hb6.mono hbW.size) _)⟩
        · obtain rfl : k = j := by omega
          go_wp2
          go_roundw
          case rel =>
            refine ⟨k + 1, by omega, by go_num, fun j o hj ho => ?_, hb6⟩
            by_cases hjk' : j = k
            · subst hjk'
              rw [HO.out] at ho
              injection ho with ho
              rw [← ho]
              exact ⟨⟨HIN.out, HNO.out⟩, HDE.out⟩
            · exact HALL.out j o (by omega) ho
          case measure => simp [intOf]; omega
    · obtain rfl : m = k := by omega
      have HDA : Hid (∀ o ∈ ops, DeclsOk s o) := fun o ho => by
        obtain ⟨i, hi⟩ := List.mem_iff_getElem?.1 ho
        exact (HALL.out i o (by have hil : i < ops.length := (List.getElem?_eq_some_iff.1 hi).1; have := HM.out; omega) hi).2
      go_wp2
      clear q0 q1 q2
      have hb4 := hb
      clear hb
      obtain ⟨wo, rfl⟩ : ∃ x : World, x = wr := ⟨_, rfl⟩
      go_loopw [5] (fun i wr => ∃ k : Nat, k ≤ m ∧ i = .int .i64 k ∧ (∀ (j : Nat) (o : Opr), j < k → ops[j]? = some o → AxOk ⟨s, ops⟩ o) ∧ Below W.heap.size W wr) (fun i _ => m - (intOf i).toNat)
      case atStart => exact ⟨0, Nat.zero_le _, rfl, fun j o h => by omega, hb4⟩
      case round =>
        obtain ⟨k, hk, rfl, hall, hb⟩ := hrel
        have HAX := Lib.hid hall
        clear hall
        have q0 := keepB hb r0
        have q1 := keepB hb r1
        have q2 := keepB hb r2
        by_cases hkn' : k < m
        · obtain ⟨o, ho⟩ : ∃ o, ops[k]? = some o := ⟨_, List.getElem?_eq_getElem (by have := HM.out; omega)⟩
          have HO := Lib.hid ho
          have HCA := Lib.hid (fun W h => specAxioms ⟨s, ops⟩ o k S [.slice Ag0 n cg0, .slice Ag1 ls cg1, .slice Ag2 m cg2] W HSO.out HOK.out h ho HDA.out)
          clear ho
          cases hax : axOk ⟨s, ops⟩ o
          · have HF : Hid (isSgn ⟨s, ops⟩ = false) := isSgn_false fun h => by have := axOk_true (h.axs o (List.mem_of_getElem? HO.out)); rw [hax] at this; cases this
            rw [hax] at HCA
            clear hax
            go_wp2_with (go_at_call 95; refine (HCA.out _ ?_).mono ?_; exact HVW.out.below hb; rintro e w3 ⟨rfl, hb3⟩)
            go_ret
            exact ⟨ret_bool HF.out.symm, hbW.trans ((hb.trans (hb3.mono hb.size)).mono hbW.size)⟩
          · have HAO := Lib.hid (axOk_iff.1 hax)
            rw [hax] at HCA
            clear hax
            go_wp2_with (go_at_call 95; refine (HCA.out _ ?_).mono ?_; exact HVW.out.below hb; rintro e w3 ⟨rfl, hb3⟩)
            go_roundw
            case rel =>
              refine ⟨k + 1, by omega, by go_num, fun j p hj hp => ?_, hb.trans (hb3.mono hb.size)⟩
              by_cases hjk : j = k
              · subst hjk
                rw [HO.out] at hp
                injection hp with hp
                rw [← hp]
                exact HAO.out
              · exact HAX.out j p (by omega) hp
            case measure => simp [intOf]; omega
        · obtain rfl : m = k := by omega
          have HF : Hid (isSgn ⟨s, ops⟩ = true) := isSgn_true ⟨HSO.out, by have := HM.out; simp only; omega, fun i o hi => (HALL.out i o (by have hil : i < ops.length := (List.getElem?_eq_some_iff.1 hi).1; have := HM.out; omega) hi).1, HDA.out, fun o ho => by
            obtain ⟨i, hi⟩ := List.mem_iff_getElem?.1 ho
            exact HAX.out i o (by have hil : i < ops.length := (List.getElem?_eq_some_iff.1 hi).1; have := HM.out; omega) hi⟩
          go_wp2
          go_ret
          exact ⟨ret_bool HF.out.symm, hbW.trans (hb.mono hbW.size)⟩
end Go.Proofs.YtpbikjkjfojjiaaGreat
namespace Go.Proofs.YtpbikjkjfojjiaaGreat
open Go.RowKit
mutual
theorem cmpTm_zero : ∀ {a b : Tm}, cmpTm a b = 0 → a = b
  | .mk o n s x, .mk o' n' s' x', h => by
    simp only [cmpTm, firstNZ] at h
    split at h
    · rename_i h1
      split at h
      · rename_i h2
        split at h
        · rename_i h3
          split at h
          · rename_i h4
            rw [cmpInt_zero.1 h1, cmpStr_zero.1 h2, cmpInt_zero.1 h3, cmpTms_zero h4]
          · contradiction
        · contradiction
      · contradiction
    · contradiction
theorem cmpTms_zero : ∀ {a b : List Tm}, cmpTms a b = 0 → a = b
  | [], [], _ => rfl
  | [], _ :: _, h => by simp [cmpTms] at h
  | _ :: _, [], h => by simp [cmpTms] at h
  | x :: xs, y :: ys, h => by
    simp only [cmpTms, firstNZ] at h
    split at h
    · rename_i h1
      split at h
      · rename_i h2
        rw [cmpTm_zero h1, cmpTms_zero h2]
      · contradiction
    · contradiction
end
mutual
theorem cmpTm_self : ∀ (a : Tm), cmpTm a a = 0
  | .mk o n s x => by simp only [cmpTm, firstNZ, cmpInt_zero.2 (rfl : o = o), cmpInt_zero.2 (rfl : s = s), cmpStr_zero.2 (rfl : n = n), cmpTms_self x, if_true]
theorem cmpTms_self : ∀ (a : List Tm), cmpTms a a = 0
  | [] => rfl
  | x :: xs => by simp only [cmpTms, firstNZ, cmpTm_self x, cmpTms_self xs, if_true]
end
theorem cmpTm_iff {a b : Tm} : cmpTm a b = 0 ↔ a = b := ⟨cmpTm_zero, fun h => h ▸ cmpTm_self a⟩
theorem con_sgnOf {f : FuncId} (hb : hasBody e0.P f = true) (h : sgnC f) {g : Sgn} (hg : okSgn g) : Con e0 f [.agg (encSgn g)] [.one (.lit (.bool (isSgn g)))] := by
  refine con_below e0_ok hb fun w S vs hv => ?_
  match vs, hv with
  | [v], hv =>
    obtain ⟨⟨us, rfl, hu⟩, _⟩ := hv
    exact (h g S us w hg hu).mono fun e w' ⟨h1, h2⟩ => ⟨_, h1, h2, by simp [retA, ARel, DRel, Rep]⟩
theorem con_implSgn {g : Sgn} (hg : okSgn g) : Con e0 105 [.agg (encSgn g)] [.one (.lit (.bool (isSgn g)))] := con_sgnOf (by kernel_rfl) implIsSignature hg
theorem con_specSgn {g : Sgn} (hg : okSgn g) : Con e0 44 [.agg (encSgn g)] [.one (.lit (.bool (isSgn g)))] := con_sgnOf (by kernel_rfl) specIsSignature hg
theorem con_newOrder {s : Srt} (hok : okSrt s) (hs : SortsOk s) : Con e0 106 [.agg (encSrt s)] [.agg [.sl ((casts (up s)).map encInt), .sl ((casts (down s)).map encInt), .sl ((casts (kinds s)).map encInt)], .one (.lit (.bool true))] := by
  refine con_below e0_ok (by kernel_rfl) fun w S vs hv => ?_
  match vs, hv with
  | [v], hv =>
    obtain ⟨⟨us, rfl, hu⟩, _⟩ := hv
    refine (implNewOrder_ok s S us w hok hu hs).mono fun e w' ⟨va, vb, vk, h1, h2, h3, h4, h5⟩ => ⟨_, h1, h5, ?_⟩
    refine ⟨[.agg #[va, vb, vk], .bool true], rfl, ⟨[va, vb, vk], rfl, ?_⟩, by simp [DRel, Rep], trivial⟩
    simp only [RepVals, and_true]
    exact ⟨h2.repIn S, h3.repIn S, h4.repIn S⟩
section
variable {g : Sgn}
set_option maxHeartbeats 4000000 in
set_option maxRecDepth 100000 in
theorem con_newAlg_not (hok : okSgn g) (hg : ¬ SgnOk g) : Con e0 51 [.agg (encSgn g)] [.one (.lit (.pointer none)), .one (.lit (.bool false))] := by
  have hs : isSgn g = false := isSgn_false hg
  have c := con_implSgn hok
  rw [hs, encSgn] at c
  refine gI 287 Tryz.func51 ?_
  (have F := @encSgn_u; refine gG ?_; clear F)
  refine gB ?_
  (have F := @encSgn_u; refine gC (c) ?_; clear F)
  (have F := @encSgn_u; refine gR ?_; clear F)
  (have F := @encSgn_u; refine gG ?_; exact gT)
def algR (g : Sgn) (r : List D) : Prop := ∃ b : Nat, r = [.one (.ptr (encX g (.lit (.map (some b))))), .one (.lit (.bool true))]
set_option maxHeartbeats 4000000 in
set_option maxRecDepth 100000 in
theorem conE_newAlg (hok : okSgn g) (hg : SgnOk g) : ConE e0 51 [.agg (encSgn g)] (algR g) := by
  have hs : isSgn g = true := isSgn_true hg
  have c := con_implSgn hok
  rw [hs, encSgn] at c
  have c2 := con_newOrder hok.1 hg.sorts
  rw [encSrt] at c2
  refine gIE 287 Tryz.func51 ?_
  (have F := @encSgn_u; refine gG ?_; clear F)
  refine gB ?_
  (have F := @encSgn_u; refine gC (c) ?_; clear F)
  (have F := @encSgn_u; refine gR ?_; clear F)
  (have F := @encSgn_u; refine gG ?_; clear F)
  refine gB ?_
  (have F := @encSgn_u; refine gC (c2) ?_; clear F)
  (have F := @encSgn_u; refine gR ?_; clear F)
  (have F := @encSgn_u; refine gG ?_; clear F)
  refine gB ?_
  refine runs_map (by simp only [pz, ↓reduceIte, Nat.reduceEqDiff, Nat.reduceAdd, Nat.reduceSub, Nat.reduceMul, Nat.reduceLeDiff, Nat.reduceBEq, Bool.false_eq_true, decide_true, decide_false, Int.reduceLE, Int.reduceToNat, Int.reduceLT, Int.reduceEq, eq_self, Nat.reduceShiftRight, Nat.reduceAnd, Nat.reduceBneDiff, R_makeMap]; exact rfl) fun b => ?_
  (have F := @sa_some; refine gR ?_; clear F)
  refine pwp_ret (ret_E [19] _ ⟨b, rfl⟩ (by simp only [pz, ↓reduceIte, Nat.reduceEqDiff, Nat.reduceAdd, Nat.reduceSub, Nat.reduceMul, Nat.reduceLeDiff, Nat.reduceBEq, Bool.false_eq_true, decide_true, decide_false, Int.reduceLE, Int.reduceToNat, Int.reduceLT, Int.reduceEq, eq_self, Nat.reduceShiftRight, Nat.reduceAnd, Nat.reduceBneDiff]; exact rfl) ?_)
  simp [resOk, resA, resSlots, gs, encX]
set_option maxHeartbeats 4000000 in
set_option maxRecDepth 100000 in
theorem con_l1In (x lo hi : Int) : Con e0 64 [.one (.lit (.int .i64 x)), .one (.lit (.int .i64 lo)), .one (.lit (.int .i64 hi))] [.one (.lit (.bool (decide (lo ≤ x ∧ x ≤ hi))))] := by
  refine gI 71 Tryz.func64 ?_
  by_cases h1 : lo ≤ x
  · by_cases h2 : x ≤ hi
    · (have F := And.intro @h1 @h2; refine gG ?_; exact gT)
    · (have F := And.intro @h1 @h2; refine gG ?_; exact gT)
  · (have F := @h1; refine gG ?_; exact gT)
set_option maxHeartbeats 4000000 in
set_option maxRecDepth 100000 in
theorem con_l4Arity {o : Opr} {d : Dcl} (hd : o.decls[0]? = some d) : Con e0 115 [.agg (encOpr o)] [.one (.lit (.int .i64 d.args.length))] := by
  refine gI 7 Tryz.func115 ?_
  (have F := And.intro @encOpr_u (And.intro @hd @encDcl_u); refine gG ?_; exact gT)
set_option maxHeartbeats 4000000 in
set_option maxRecDepth 100000 in
theorem con_l5Same {a b : Tm} (ha : okTm a) (hb : okTm b) : Con e0 100 [.agg (encTm a), .agg (encTm b)] [.one (.lit (.bool (decide (cmpTm a b = 0))))] := by
  refine gI 31 Tryz.func100 ?_
  (have F := @tmz; refine gG ?_; clear F)
  refine gB ?_
  (have F := @tmz; refine gC (con_specCmp ha hb) ?_; clear F)
  (have F := @tmz; refine gR ?_; clear F)
  (have F := @tmz; refine gG ?_; exact gT)
set_option maxHeartbeats 4000000 in
set_option maxRecDepth 100000 in
theorem con_l6Kind (hok : okSgn g) (hg : SgnOk g) {t : Tm} (ht : NodeOk g t) : Con e0 98 [.agg (encSgn g), .agg (encTm t)] [.one (.lit (.int .i64 (kindTm g t)))] := by
  have c2 := con_l3Kinds hok.1 hg.sorts
  rw [encSrt] at c2
  refine gI 2111 Tryz.func98 ?_
  (have F := And.intro @tmz @encSgn_u; refine gG ?_; clear F)
  refine gB ?_
  (have F := @encSgn_u; refine gC (c2) ?_; clear F)
  (have F := @encSgn_u; refine gR ?_; clear F)
  rcases ht with ⟨h1, h2, h3, h4, h5⟩ | ⟨o, d, h⟩
  · have hk := kd_get hg.sorts h3 h4
    have e : kindTm g t = kd g.sorts t.sort := by simp [kindTm, h1]
    (have F := And.intro @tmz (And.intro @h1 (And.intro @h3 (And.intro @hk (And.intro @encInt_u @e)))); refine gG ?_; exact gT)
  · have hn := h.op
    obtain ⟨d', hd', hr0, hr1, _⟩ := hg.first h.at'
    rw [h.fst] at hd'
    injection hd' with hd'
    subst hd'
    have hk := kd_get hg.sorts hr0 hr1
    have e : kindTm g t = kd g.sorts d.res := by simp [kindTm, h.op, resOf_eq h.at' h.fst]
    have hlo := h.lo
    have hat := h.at'
    have hfst := h.fst
    (have F := And.intro @tmz (And.intro @hn (And.intro @hlo (And.intro @hat (And.intro @encOpr_u (And.intro @hfst (And.intro @encDcl_u (And.intro @hr0 (And.intro @hk (And.intro @encInt_u @e))))))))); refine gG ?_; exact gT)
def unitTm (o : Opr) : Tm := .mk (if o.unit = 0 then 0 else o.unit - 1) .empty 0 []
set_option maxHeartbeats 4000000 in
set_option maxRecDepth 100000 in
theorem con_l6Unit (hg : SgnOk g) {op : Int} {o : Opr} (h0 : 0 ≤ op) (ho : g.ops[op.toNat]? = some o) : Con e0 165 [.agg (encSgn g), .one (.lit (.int .i64 op))] [.agg (encTm (unitTm o)), .one (.lit (.bool (!decide (o.unit = 0))))] := by
  have hax := hg.axs o (List.mem_of_getElem? ho)
  have hlo := hax.lo
  have hhi := hax.hi
  have hln := hg.len
  have hw : IntKind.i64.wrap (o.unit - 1) = o.unit - 1 := wrapN rfl (by omega) (by omega)
  refine gI 4151 Tryz.func165 ?_
  by_cases hu : o.unit = 0
  · (have F := And.intro @encSgn_u (And.intro @h0 (And.intro @ho (And.intro @encOpr_u @hu))); refine gG ?_; clear F)
    refine pwp_ret (ret_ok ?_)
    simp [resOk, resA, resSlots, gs, hu, unitTm, encTm, encTms, gm, ptrA, varA, e0P, pz, tt_0, tt_1]
  · (have F := And.intro @encSgn_u (And.intro @h0 (And.intro @ho (And.intro @encOpr_u (And.intro @hu @hw)))); refine gG ?_; clear F)
    refine pwp_ret (ret_ok ?_)
    simp [resOk, resA, resSlots, gs, hu, unitTm, encTm, encTms, gm, ptrA, varA, e0P, pz]
end
end Go.Proofs.YtpbikjkjfojjiaaGreat
namespace Go.Proofs.YtpbikjkjfojjiaaGreat
open Go.RowKit
/-- How x, y, z stand to one another, by what comparing x with y, y with z, x with z gives. -/
def Tri (a b c : Int) : Prop := ((a ≤ 0 → b ≤ 0 → c ≤ 0) ∧ (a < 0 → b ≤ 0 → c < 0) ∧ (a ≤ 0 → b < 0 → c < 0)) ∧ ((0 ≤ a → 0 ≤ b → 0 ≤ c) ∧ (0 < a → 0 ≤ b → 0 < c) ∧ (0 ≤ a → 0 < b → 0 < c))
theorem first2 (p q : Int) : firstNZ [p, q] = if p = 0 then q else p := by
  simp only [firstNZ]
  split
  · split <;> simp_all
  · rfl
theorem first4 (p q r s : Int) : firstNZ [p, q, r, s] = firstNZ [p, firstNZ [q, firstNZ [r, s]]] := by
  simp only [first2, firstNZ]
  by_cases h1 : p = 0 <;> by_cases h2 : q = 0 <;> by_cases h3 : r = 0 <;> by_cases h4 : s = 0 <;> simp [h1, h2, h3, h4]
theorem Tri.lex {a b c a' b' c' : Int} (h : Tri a b c) (h' : Tri a' b' c') : Tri (firstNZ [a, a']) (firstNZ [b, b']) (firstNZ [c, c']) := by
  simp only [first2]
  unfold Tri at *
  by_cases h1 : a = 0
  · by_cases h2 : b = 0
    · by_cases h3 : c = 0
      · simp only [h1, h2, h3, if_true]; exact h'
      · omega
    · by_cases h3 : c = 0
      · omega
      · simp only [h1, h2, h3, if_true, if_false]; omega
  · by_cases h2 : b = 0
    · by_cases h3 : c = 0
      · omega
      · simp only [h1, h2, h3, if_true, if_false]; omega
    · by_cases h3 : c = 0
      · simp only [h1, h2, h3, if_true, if_false]; omega
      · simp only [h1, h2, h3, if_false]; omega
theorem firstNZ_neg (p q : Int) : firstNZ [-p, -q] = -firstNZ [p, q] := by
  simp only [first2]
  by_cases h : p = 0
  · simp [h]
  · have : ¬ -p = 0 := by omega
    simp [h, this]
theorem cmpInt_tri (a b c : Int) : Tri (cmpInt a b) (cmpInt b c) (cmpInt a c) := by
  unfold Tri cmpInt
  by_cases h1 : a < b <;> by_cases h2 : b < c <;> by_cases h3 : a < c <;> by_cases h4 : b < a <;> by_cases h5 : c < b <;> by_cases h6 : c < a <;> simp only [h1, h2, h3, h4, h5, h6, if_true, if_false] <;> omega
theorem cmpInt_neg (a b : Int) : cmpInt b a = -cmpInt a b := by
  unfold cmpInt
  by_cases h1 : a < b <;> by_cases h2 : b < a <;> simp only [h1, h2, if_true, if_false] <;> omega
theorem bytes_first (x y : UInt8) (xs ys : List UInt8) : Lib.compareBytes (x :: xs) (y :: ys) = firstNZ [cmpInt x.toNat y.toNat, Lib.compareBytes xs ys] := by
  rw [first2]
  simp only [Lib.compareBytes, cmpInt, UInt8.lt_iff_toNat_lt]
  by_cases h1 : x.toNat < y.toNat
  · have : ((x.toNat : Int) < y.toNat) := by omega
    simp [h1, this]
  · have h1' : ¬ ((x.toNat : Int) < y.toNat) := by omega
    by_cases h2 : y.toNat < x.toNat
    · have : ((y.toNat : Int) < x.toNat) := by omega
      simp [h1, h2, h1', this]
    · have : ¬ ((y.toNat : Int) < x.toNat) := by omega
      simp [h1, h2, h1', this]
theorem bytes_tri : ∀ (a b c : List UInt8), Tri (Lib.compareBytes a b) (Lib.compareBytes b c) (Lib.compareBytes a c)
  | [], [], [] => by simp [Lib.compareBytes, Tri]
  | [], [], _ :: _ => by simp [Lib.compareBytes, Tri]
  | [], _ :: _, [] => by simp [Lib.compareBytes, Tri]
  | [], y :: ys, z :: zs => by
    have : Lib.compareBytes [] (y :: ys) = -1 := rfl
    have h2 : Lib.compareBytes [] (z :: zs) = -1 := rfl
    rw [this, h2]; unfold Tri; omega
  | _ :: _, [], [] => by simp [Lib.compareBytes, Tri]
  | x :: xs, [], z :: zs => by
    have : Lib.compareBytes (x :: xs) [] = 1 := rfl
    have h2 : Lib.compareBytes [] (z :: zs) = -1 := rfl
    rw [this, h2]; unfold Tri; omega
  | x :: xs, y :: ys, [] => by
    have : Lib.compareBytes (x :: xs) [] = 1 := rfl
    have h2 : Lib.compareBytes (y :: ys) [] = 1 := rfl
    rw [this, h2]; unfold Tri; omega
  | x :: xs, y :: ys, z :: zs => by
    simp only [bytes_first]
    exact (cmpInt_tri _ _ _).lex (bytes_tri xs ys zs)
theorem bytes_neg : ∀ (a b : List UInt8), Lib.compareBytes b a = -Lib.compareBytes a b
  | [], [] => rfl
  | [], _ :: _ => rfl
  | _ :: _, [] => rfl
  | x :: xs, y :: ys => by rw [bytes_first, bytes_first, cmpInt_neg, bytes_neg xs ys, firstNZ_neg]
mutual
theorem cmpTm_neg : ∀ (a b : Tm), cmpTm b a = -cmpTm a b
  | .mk o n s a, .mk o' n' s' a' => by
    simp only [cmpTm, first4]
    rw [cmpInt_neg o o', cmpInt_neg s s', cmpTms_neg a a', show cmpStr n' n = -cmpStr n n' from bytes_neg _ _, firstNZ_neg, firstNZ_neg, firstNZ_neg]
theorem cmpTms_neg : ∀ (a b : List Tm), cmpTms b a = -cmpTms a b
  | [], [] => by simp [cmpTms]
  | [], _ :: _ => by simp [cmpTms]
  | _ :: _, [] => by simp [cmpTms]
  | x :: xs, y :: ys => by
    simp only [cmpTms]
    rw [cmpTm_neg x y, cmpTms_neg xs ys, firstNZ_neg]
end
mutual
theorem cmpTm_tri : ∀ (a b c : Tm), Tri (cmpTm a b) (cmpTm b c) (cmpTm a c)
  | .mk o n s a, .mk o' n' s' a', .mk o'' n'' s'' a'' => by
    simp only [cmpTm, first4]
    exact (cmpInt_tri _ _ _).lex ((bytes_tri _ _ _).lex ((cmpInt_tri _ _ _).lex (cmpTms_tri a a' a'')))
theorem cmpTms_tri : ∀ (a b c : List Tm), Tri (cmpTms a b) (cmpTms b c) (cmpTms a c)
  | [], [], [] => by simp [cmpTms, Tri]
  | [], [], _ :: _ => by simp [cmpTms, Tri]
  | [], _ :: _, [] => by simp [cmpTms, Tri]
  | [], _ :: _, _ :: _ => by simp only [cmpTms]; unfold Tri; omega
  | _ :: _, [], [] => by simp [cmpTms, Tri]
  | _ :: _, [], _ :: _ => by simp only [cmpTms]; unfold Tri; omega
  | _ :: _, _ :: _, [] => by simp only [cmpTms]; unfold Tri; omega
  | x :: xs, y :: ys, z :: zs => by
    simp only [cmpTms]
    exact (cmpTm_tri x y z).lex (cmpTms_tri xs ys zs)
end
theorem cmpTm_lt_trans {a b c : Tm} (h1 : cmpTm a b < 0) (h2 : cmpTm b c < 0) : cmpTm a c < 0 := (cmpTm_tri a b c).1.2.1 h1 (by omega)
theorem cmpTm_le_trans {a b c : Tm} (h1 : cmpTm a b ≤ 0) (h2 : cmpTm b c ≤ 0) : cmpTm a c ≤ 0 := (cmpTm_tri a b c).1.1 h1 h2
/-- Different terms in ascending order. -/
def Asc (l : List Tm) : Prop := l.Pairwise fun a b => cmpTm a b < 0
theorem Asc.ext {l l' : List Tm} (h : Asc l) (h' : Asc l') (hm : ∀ t, t ∈ l ↔ t ∈ l') : l = l' := by
  induction l generalizing l' with
  | nil =>
    cases l' with
    | nil => rfl
    | cons y ys => exact absurd ((hm y).2 (by simp)) (by simp)
  | cons x xs ih =>
    cases l' with
    | nil => exact absurd ((hm x).1 (by simp)) (by simp)
    | cons y ys =>
      have h1 := List.pairwise_cons.1 h
      have h2 := List.pairwise_cons.1 h'
      have e : x = y := by
        rcases List.mem_cons.1 ((hm x).1 (by simp)) with e | hx
        · exact e
        · rcases List.mem_cons.1 ((hm y).2 (by simp)) with e | hy
          · exact e.symm
          · have a1 := h1.1 y hy
            have a2 := h2.1 x hx
            rw [cmpTm_neg x y] at a2
            omega
      subst e
      refine congrArg (x :: ·) (ih h1.2 h2.2 fun t => ⟨fun ht => ?_, fun ht => ?_⟩)
      · rcases List.mem_cons.1 ((hm t).1 (List.mem_cons_of_mem _ ht)) with e | h3
        · subst e; have := h1.1 t ht; rw [cmpTm_self] at this; omega
        · exact h3
      · rcases List.mem_cons.1 ((hm t).2 (List.mem_cons_of_mem _ ht)) with e | h3
        · subst e; have := h2.1 t ht; rw [cmpTm_self] at this; omega
        · exact h3
/-- A term put into an ascending list. -/
def insTm (t : Tm) : List Tm → List Tm
  | [] => [t]
  | x :: xs => if cmpTm x t < 0 then x :: insTm t xs else if cmpTm x t = 0 then x :: xs else t :: x :: xs
theorem mem_insTm {t u : Tm} : ∀ {l : List Tm}, u ∈ insTm t l ↔ u = t ∨ u ∈ l
  | [] => by simp [insTm]
  | x :: xs => by
    simp only [insTm]
    split
    · simp only [List.mem_cons, mem_insTm (l := xs)]
      constructor
      · rintro (h | h | h) <;> simp [h]
      · rintro (h | h | h) <;> simp [h]
    · split
      · rename_i h0
        have e := cmpTm_zero h0
        simp only [List.mem_cons]
        constructor
        · exact fun h => .inr h
        · rintro (h | h)
          · exact .inl (by rw [h, e])
          · exact h
      · simp only [List.mem_cons]
theorem Asc.ins {t : Tm} : ∀ {l : List Tm}, Asc l → Asc (insTm t l)
  | [], _ => by simp [insTm, Asc]
  | x :: xs, h => by
    have h1 := List.pairwise_cons.1 h
    simp only [insTm]
    split
    · rename_i hx
      refine List.pairwise_cons.2 ⟨fun u hu => ?_, Asc.ins h1.2⟩
      rcases mem_insTm.1 hu with e | hu
      · rw [e]; exact hx
      · exact h1.1 u hu
    · split
      · exact h
      · rename_i h2 h3
        have h4 : cmpTm t x < 0 := by rw [cmpTm_neg x t]; omega
        refine List.pairwise_cons.2 ⟨fun u hu => ?_, h⟩
        rcases List.mem_cons.1 hu with e | hu
        · rw [e]; exact h4
        · exact cmpTm_lt_trans h4 (h1.1 u hu)
/-- The different terms of a list, ascending. -/
def distTm (l : List Tm) : List Tm := l.foldl (fun r t => insTm t r) []
theorem foldl_ins {l r : List Tm} (h : Asc r) : Asc (l.foldl (fun r t => insTm t r) r) ∧ ∀ u, u ∈ l.foldl (fun r t => insTm t r) r ↔ u ∈ l ∨ u ∈ r := by
  induction l generalizing r with
  | nil => exact ⟨h, fun u => by simp⟩
  | cons x xs ih =>
    have := ih (r := insTm x r) h.ins
    refine ⟨this.1, fun u => ?_⟩
    rw [List.foldl_cons, this.2, mem_insTm, List.mem_cons]
    constructor
    · rintro (h | h | h)
      · exact .inl (.inr h)
      · exact .inl (.inl h)
      · exact .inr h
    · rintro ((h | h) | h)
      · exact .inr (.inl h)
      · exact .inl h
      · exact .inr (.inr h)
theorem distTm_asc (l : List Tm) : Asc (distTm l) := (foldl_ins List.Pairwise.nil).1
theorem mem_distTm {l : List Tm} {u : Tm} : u ∈ distTm l ↔ u ∈ l := by
  have := (foldl_ins (l := l) (r := []) List.Pairwise.nil).2 u
  simpa [distTm] using this
theorem distTm_eq {l l' : List Tm} (h : Asc l') (hm : ∀ t, t ∈ l' ↔ t ∈ l) : distTm l = l' := (distTm_asc l).ext h fun t => mem_distTm.trans (hm t).symm
/-! The variables of a term, from left to right. -/
mutual
def varsTm : Tm → List Tm
  | .mk op nm so args => if op = -1 then [.mk (-1) nm so []] else varsTms args
def varsTms : List Tm → List Tm
  | [] => []
  | t :: ts => varsTm t ++ varsTms ts
end
def varsOf (t : Tm) : List Tm := distTm (varsTm t)
end Go.Proofs.YtpbikjkjfojjiaaGreat
