/- The table of types and of entered functions that the engine looks into; each row is a closed fact of the program. By gen_env.py. -/
import Derived.Test.YtkbfcofifhngfaaGreatRows
import Derived.Test.YtkbfcofifhngfaaGreatB
namespace Go.Proofs.YtkbfcofifhngfaaGreat
open Go Tx
set_option maxRecDepth 100000
def ti1 : TI := ⟨1, [.nilFunc], 8, .plain⟩
theorem tok1 : TOK Tryz.prog 1 ti1 := ⟨by kernel_rfl, by kernel_rfl⟩
def ti2 : TI := ⟨1, [.int .i64 0], 8, .int .i64⟩
theorem tok2 : TOK Tryz.prog 2 ti2 := ⟨by kernel_rfl, by kernel_rfl⟩
def ti3 : TI := ⟨1, [.int .i64 0], 8, .int .i64⟩
theorem tok3 : TOK Tryz.prog 3 ti3 := ⟨by kernel_rfl, by kernel_rfl⟩
def ti4 : TI := ⟨1, [.bool false], 1, .plain⟩
theorem tok4 : TOK Tryz.prog 4 ti4 := ⟨by kernel_rfl, by kernel_rfl⟩
def ti5 : TI := ⟨1, [.int .u8 0], 1, .int .u8⟩
theorem tok5 : TOK Tryz.prog 5 ti5 := ⟨by kernel_rfl, by kernel_rfl⟩
def ti6 : TI := ⟨1, [.int .u8 0], 1, .int .u8⟩
theorem tok6 : TOK Tryz.prog 6 ti6 := ⟨by kernel_rfl, by kernel_rfl⟩
def ti7 : TI := ⟨4, [.int .i64 0, .int .i64 0, .bool false, .int .u8 0], 24, .struct [(0, 2), (1, 3), (2, 4), (3, 6)]⟩
theorem tok7 : TOK Tryz.prog 7 ti7 := ⟨by kernel_rfl, by kernel_rfl⟩
def ti8 : TI := ⟨4, [.int .i64 0, .int .i64 0, .bool false, .int .u8 0], 24, .struct [(0, 2), (1, 3), (2, 4), (3, 6)]⟩
theorem tok8 : TOK Tryz.prog 8 ti8 := ⟨by kernel_rfl, by kernel_rfl⟩
def ti9 : TI := ⟨1, [.string ByteArray.empty], 16, .plain⟩
theorem tok9 : TOK Tryz.prog 9 ti9 := ⟨by kernel_rfl, by kernel_rfl⟩
def ti10 : TI := ⟨1, [.string ByteArray.empty], 16, .plain⟩
theorem tok10 : TOK Tryz.prog 10 ti10 := ⟨by kernel_rfl, by kernel_rfl⟩
def ti11 : TI := ⟨1, [.string ByteArray.empty], 16, .plain⟩
theorem tok11 : TOK Tryz.prog 11 ti11 := ⟨by kernel_rfl, by kernel_rfl⟩
def ti12 : TI := ⟨1, [.int .u64 0], 8, .int .u64⟩
theorem tok12 : TOK Tryz.prog 12 ti12 := ⟨by kernel_rfl, by kernel_rfl⟩
def ti13 : TI := ⟨2, [.string ByteArray.empty, .int .u64 0], 24, .struct [(0, 9), (1, 12)]⟩
theorem tok13 : TOK Tryz.prog 13 ti13 := ⟨by kernel_rfl, by kernel_rfl⟩
def ti14 : TI := ⟨2, [.string ByteArray.empty, .int .u64 0], 24, .struct [(0, 9), (1, 12)]⟩
theorem tok14 : TOK Tryz.prog 14 ti14 := ⟨by kernel_rfl, by kernel_rfl⟩
def ti15 : TI := ⟨1, [.pointer none], 8, .plain⟩
theorem tok15 : TOK Tryz.prog 15 ti15 := ⟨by kernel_rfl, by kernel_rfl⟩
def ti16 : TI := ⟨1, [.pointer none], 8, .plain⟩
theorem tok16 : TOK Tryz.prog 16 ti16 := ⟨by kernel_rfl, by kernel_rfl⟩
def ti17 : TI := ⟨1, [.pointer none], 8, .plain⟩
theorem tok17 : TOK Tryz.prog 17 ti17 := ⟨by kernel_rfl, by kernel_rfl⟩
def ti18 : TI := ⟨1, [.pointer none], 8, .struct [(0, 17)]⟩
theorem tok18 : TOK Tryz.prog 18 ti18 := ⟨by kernel_rfl, by kernel_rfl⟩
def ti19 : TI := ⟨1, [.pointer none], 8, .struct [(0, 17)]⟩
theorem tok19 : TOK Tryz.prog 19 ti19 := ⟨by kernel_rfl, by kernel_rfl⟩
def ti21 : TI := ⟨1, [.int .i32 0], 4, .int .i32⟩
theorem tok21 : TOK Tryz.prog 21 ti21 := ⟨by kernel_rfl, by kernel_rfl⟩
def ti22 : TI := ⟨1, [.slice none 0 0], 24, .slice 36⟩
theorem tok22 : TOK Tryz.prog 22 ti22 := ⟨by kernel_rfl, by kernel_rfl⟩
def ti23 : TI := ⟨1, [.slice none 0 0], 24, .slice 74⟩
theorem tok23 : TOK Tryz.prog 23 ti23 := ⟨by kernel_rfl, by kernel_rfl⟩
def ti24 : TI := ⟨5, [.int .i64 0, .int .i64 0, .int .i64 0, .slice none 0 0, .slice none 0 0], 72, .struct [(0, 3), (1, 3), (2, 3), (3, 22), (4, 23)]⟩
theorem tok24 : TOK Tryz.prog 24 ti24 := ⟨by kernel_rfl, by kernel_rfl⟩
def ti25 : TI := ⟨5, [.int .i64 0, .int .i64 0, .int .i64 0, .slice none 0 0, .slice none 0 0], 72, .struct [(0, 3), (1, 3), (2, 3), (3, 22), (4, 23)]⟩
theorem tok25 : TOK Tryz.prog 25 ti25 := ⟨by kernel_rfl, by kernel_rfl⟩
def ti26 : TI := ⟨1, [.nilFunc], 8, .plain⟩
theorem tok26 : TOK Tryz.prog 26 ti26 := ⟨by kernel_rfl, by kernel_rfl⟩
def ti27 : TI := ⟨1, [.nilFunc], 8, .plain⟩
theorem tok27 : TOK Tryz.prog 27 ti27 := ⟨by kernel_rfl, by kernel_rfl⟩
def ti28 : TI := ⟨1, [.slice none 0 0], 24, .slice 44⟩
theorem tok28 : TOK Tryz.prog 28 ti28 := ⟨by kernel_rfl, by kernel_rfl⟩
def ti29 : TI := ⟨1, [.int .i64 0], 8, .int .i64⟩
theorem tok29 : TOK Tryz.prog 29 ti29 := ⟨by kernel_rfl, by kernel_rfl⟩
def ti31 : TI := ⟨1, [.nilFunc], 8, .plain⟩
theorem tok31 : TOK Tryz.prog 31 ti31 := ⟨by kernel_rfl, by kernel_rfl⟩
def ti32 : TI := ⟨1, [.slice none 0 0], 24, .slice 52⟩
theorem tok32 : TOK Tryz.prog 32 ti32 := ⟨by kernel_rfl, by kernel_rfl⟩
def ti33 : TI := ⟨5, [.int .i64 0, .int .i64 0, .int .i64 0, .slice none 0 0, .slice none 0 0], 72, .struct [(0, 3), (1, 3), (2, 3), (3, 22), (4, 32)]⟩
theorem tok33 : TOK Tryz.prog 33 ti33 := ⟨by kernel_rfl, by kernel_rfl⟩
def ti34 : TI := ⟨5, [.int .i64 0, .int .i64 0, .int .i64 0, .slice none 0 0, .slice none 0 0], 72, .struct [(0, 3), (1, 3), (2, 3), (3, 22), (4, 32)]⟩
theorem tok34 : TOK Tryz.prog 34 ti34 := ⟨by kernel_rfl, by kernel_rfl⟩
def ti35 : TI := ⟨1, [.nilFunc], 8, .plain⟩
theorem tok35 : TOK Tryz.prog 35 ti35 := ⟨by kernel_rfl, by kernel_rfl⟩
def ti36 : TI := ⟨1, [.slice none 0 0], 24, .slice 3⟩
theorem tok36 : TOK Tryz.prog 36 ti36 := ⟨by kernel_rfl, by kernel_rfl⟩
def ti37 : TI := ⟨5, [.int .u8 0, .int .i64 0, .slice none 0 0, .int .i64 0, .int .i64 0], 56, .struct [(0, 5), (1, 3), (2, 36), (3, 3), (4, 3)]⟩
theorem tok37 : TOK Tryz.prog 37 ti37 := ⟨by kernel_rfl, by kernel_rfl⟩
def ti38 : TI := ⟨5, [.int .u8 0, .int .i64 0, .slice none 0 0, .int .i64 0, .int .i64 0], 56, .struct [(0, 5), (1, 3), (2, 36), (3, 3), (4, 3)]⟩
theorem tok38 : TOK Tryz.prog 38 ti38 := ⟨by kernel_rfl, by kernel_rfl⟩
def ti40 : TI := ⟨1, [.nilFunc], 8, .plain⟩
theorem tok40 : TOK Tryz.prog 40 ti40 := ⟨by kernel_rfl, by kernel_rfl⟩
def ti41 : TI := ⟨1, [.nilFunc], 8, .plain⟩
theorem tok41 : TOK Tryz.prog 41 ti41 := ⟨by kernel_rfl, by kernel_rfl⟩
def ti42 : TI := ⟨1, [.slice none 0 0], 24, .slice 64⟩
theorem tok42 : TOK Tryz.prog 42 ti42 := ⟨by kernel_rfl, by kernel_rfl⟩
def ti43 : TI := ⟨1, [.nilFunc], 8, .plain⟩
theorem tok43 : TOK Tryz.prog 43 ti43 := ⟨by kernel_rfl, by kernel_rfl⟩
def ti44 : TI := ⟨1, [.slice none 0 0], 24, .slice 46⟩
theorem tok44 : TOK Tryz.prog 44 ti44 := ⟨by kernel_rfl, by kernel_rfl⟩
def ti45 : TI := ⟨3, [.int .i64 0, .int .i64 0, .int .i64 0], 24, .struct [(0, 3), (1, 3), (2, 3)]⟩
theorem tok45 : TOK Tryz.prog 45 ti45 := ⟨by kernel_rfl, by kernel_rfl⟩
def ti46 : TI := ⟨3, [.int .i64 0, .int .i64 0, .int .i64 0], 24, .struct [(0, 3), (1, 3), (2, 3)]⟩
theorem tok46 : TOK Tryz.prog 46 ti46 := ⟨by kernel_rfl, by kernel_rfl⟩
def ti48 : TI := ⟨1, [.nilFunc], 8, .plain⟩
theorem tok48 : TOK Tryz.prog 48 ti48 := ⟨by kernel_rfl, by kernel_rfl⟩
def ti49 : TI := ⟨1, [.nilFunc], 8, .plain⟩
theorem tok49 : TOK Tryz.prog 49 ti49 := ⟨by kernel_rfl, by kernel_rfl⟩
def ti50 : TI := ⟨1, [.nilFunc], 8, .plain⟩
theorem tok50 : TOK Tryz.prog 50 ti50 := ⟨by kernel_rfl, by kernel_rfl⟩
def ti51 : TI := ⟨2, [.slice none 0 0, .int .i64 0], 32, .struct [(0, 36), (1, 3)]⟩
theorem tok51 : TOK Tryz.prog 51 ti51 := ⟨by kernel_rfl, by kernel_rfl⟩
def ti52 : TI := ⟨2, [.slice none 0 0, .int .i64 0], 32, .struct [(0, 36), (1, 3)]⟩
theorem tok52 : TOK Tryz.prog 52 ti52 := ⟨by kernel_rfl, by kernel_rfl⟩
def ti53 : TI := ⟨1, [.nilFunc], 8, .plain⟩
theorem tok53 : TOK Tryz.prog 53 ti53 := ⟨by kernel_rfl, by kernel_rfl⟩
def ti54 : TI := ⟨1, [.nilFunc], 8, .plain⟩
theorem tok54 : TOK Tryz.prog 54 ti54 := ⟨by kernel_rfl, by kernel_rfl⟩
def ti55 : TI := ⟨1, [.int .i8 0], 1, .int .i8⟩
theorem tok55 : TOK Tryz.prog 55 ti55 := ⟨by kernel_rfl, by kernel_rfl⟩
def ti56 : TI := ⟨5, [.int .u8 0, .int .i64 0, .slice none 0 0, .int .i64 0, .int .i64 0], 56, .struct [(0, 5), (1, 3), (2, 36), (3, 3), (4, 3)]⟩
theorem tok56 : TOK Tryz.prog 56 ti56 := ⟨by kernel_rfl, by kernel_rfl⟩
def ti58 : TI := ⟨1, [.nilFunc], 8, .plain⟩
theorem tok58 : TOK Tryz.prog 58 ti58 := ⟨by kernel_rfl, by kernel_rfl⟩
def ti59 : TI := ⟨1, [.nilFunc], 8, .plain⟩
theorem tok59 : TOK Tryz.prog 59 ti59 := ⟨by kernel_rfl, by kernel_rfl⟩
def ti60 : TI := ⟨1, [.nilFunc], 8, .plain⟩
theorem tok60 : TOK Tryz.prog 60 ti60 := ⟨by kernel_rfl, by kernel_rfl⟩
def ti61 : TI := ⟨1, [.nilFunc], 8, .plain⟩
theorem tok61 : TOK Tryz.prog 61 ti61 := ⟨by kernel_rfl, by kernel_rfl⟩
def ti62 : TI := ⟨1, [.nilFunc], 8, .plain⟩
theorem tok62 : TOK Tryz.prog 62 ti62 := ⟨by kernel_rfl, by kernel_rfl⟩
def ti63 : TI := ⟨1, [.nilFunc], 8, .plain⟩
theorem tok63 : TOK Tryz.prog 63 ti63 := ⟨by kernel_rfl, by kernel_rfl⟩
def ti64 : TI := ⟨1, [.slice none 0 0], 24, .slice 109⟩
theorem tok64 : TOK Tryz.prog 64 ti64 := ⟨by kernel_rfl, by kernel_rfl⟩
def ti65 : TI := ⟨1, [.nilFunc], 8, .plain⟩
theorem tok65 : TOK Tryz.prog 65 ti65 := ⟨by kernel_rfl, by kernel_rfl⟩
def ti66 : TI := ⟨1, [.nilFunc], 8, .plain⟩
theorem tok66 : TOK Tryz.prog 66 ti66 := ⟨by kernel_rfl, by kernel_rfl⟩
def ti67 : TI := ⟨1, [.nilFunc], 8, .plain⟩
theorem tok67 : TOK Tryz.prog 67 ti67 := ⟨by kernel_rfl, by kernel_rfl⟩
def ti68 : TI := ⟨1, [.nilFunc], 8, .plain⟩
theorem tok68 : TOK Tryz.prog 68 ti68 := ⟨by kernel_rfl, by kernel_rfl⟩
def ti70 : TI := ⟨1, [.nilFunc], 8, .plain⟩
theorem tok70 : TOK Tryz.prog 70 ti70 := ⟨by kernel_rfl, by kernel_rfl⟩
def ti71 : TI := ⟨2, [.int .i64 0, .int .i64 0], 16, .struct [(0, 3), (1, 3)]⟩
theorem tok71 : TOK Tryz.prog 71 ti71 := ⟨by kernel_rfl, by kernel_rfl⟩
def ti72 : TI := ⟨2, [.int .i64 0, .int .i64 0], 16, .struct [(0, 3), (1, 3)]⟩
theorem tok72 : TOK Tryz.prog 72 ti72 := ⟨by kernel_rfl, by kernel_rfl⟩
def ti73 : TI := ⟨1, [.nilFunc], 8, .plain⟩
theorem tok73 : TOK Tryz.prog 73 ti73 := ⟨by kernel_rfl, by kernel_rfl⟩
def ti74 : TI := ⟨2, [.slice none 0 0, .int .i64 0], 32, .struct [(0, 36), (1, 3)]⟩
theorem tok74 : TOK Tryz.prog 74 ti74 := ⟨by kernel_rfl, by kernel_rfl⟩
def ti75 : TI := ⟨1, [.nilFunc], 8, .plain⟩
theorem tok75 : TOK Tryz.prog 75 ti75 := ⟨by kernel_rfl, by kernel_rfl⟩
def ti76 : TI := ⟨3, [.slice none 0 0, .int .i64 0, .slice none 0 0], 56, .struct [(0, 36), (1, 3), (2, 22)]⟩
theorem tok76 : TOK Tryz.prog 76 ti76 := ⟨by kernel_rfl, by kernel_rfl⟩
def ti77 : TI := ⟨3, [.slice none 0 0, .int .i64 0, .slice none 0 0], 56, .struct [(0, 36), (1, 3), (2, 22)]⟩
theorem tok77 : TOK Tryz.prog 77 ti77 := ⟨by kernel_rfl, by kernel_rfl⟩
def ti78 : TI := ⟨1, [.slice none 0 0], 24, .slice 132⟩
theorem tok78 : TOK Tryz.prog 78 ti78 := ⟨by kernel_rfl, by kernel_rfl⟩
def ti80 : TI := ⟨1, [.nilFunc], 8, .plain⟩
theorem tok80 : TOK Tryz.prog 80 ti80 := ⟨by kernel_rfl, by kernel_rfl⟩
def ti82 : TI := ⟨1, [.nilFunc], 8, .plain⟩
theorem tok82 : TOK Tryz.prog 82 ti82 := ⟨by kernel_rfl, by kernel_rfl⟩
def ti84 : TI := ⟨1, [.nilFunc], 8, .plain⟩
theorem tok84 : TOK Tryz.prog 84 ti84 := ⟨by kernel_rfl, by kernel_rfl⟩
def ti85 : TI := ⟨1, [.nilFunc], 8, .plain⟩
theorem tok85 : TOK Tryz.prog 85 ti85 := ⟨by kernel_rfl, by kernel_rfl⟩
def ti87 : TI := ⟨1, [.nilFunc], 8, .plain⟩
theorem tok87 : TOK Tryz.prog 87 ti87 := ⟨by kernel_rfl, by kernel_rfl⟩
def ti88 : TI := ⟨1, [.pointer none], 8, .plain⟩
theorem tok88 : TOK Tryz.prog 88 ti88 := ⟨by kernel_rfl, by kernel_rfl⟩
def ti89 : TI := ⟨1, [.nilFunc], 8, .plain⟩
theorem tok89 : TOK Tryz.prog 89 ti89 := ⟨by kernel_rfl, by kernel_rfl⟩
def ti90 : TI := ⟨40, [.int .i64 0, .int .i64 0, .int .i64 0, .int .i64 0, .int .i64 0, .int .i64 0, .int .i64 0, .int .i64 0, .int .i64 0, .int .i64 0, .int .i64 0, .int .i64 0, .int .i64 0, .int .i64 0, .int .i64 0, .int .i64 0, .int .i64 0, .int .i64 0, .int .i64 0, .int .i64 0, .int .i64 0, .int .i64 0, .int .i64 0, .int .i64 0, .int .i64 0, .int .i64 0, .int .i64 0, .int .i64 0, .int .i64 0, .int .i64 0, .int .i64 0, .int .i64 0, .int .i64 0, .int .i64 0, .int .i64 0, .int .i64 0, .int .i64 0, .int .i64 0, .int .i64 0, .int .i64 0], 320, .arr 40 3⟩
theorem tok90 : TOK Tryz.prog 90 ti90 := ⟨by kernel_rfl, by kernel_rfl⟩
def ti91 : TI := ⟨320, (List.replicate 320 (.int .i64 0)), 2560, .arr 8 90⟩
theorem tok91 : TOK Tryz.prog 91 ti91 := ⟨by kernel_rfl, by kernel_rfl⟩
def ti92 : TI := ⟨647, (List.replicate 3 (.int .i64 0) ++ List.replicate 4 (.slice none 0 0) ++ List.replicate 640 (.int .i64 0)), 5240, .struct [(0, 34), (5, 44), (6, 36), (7, 91), (327, 91)]⟩
theorem tok92 : TOK Tryz.prog 92 ti92 := ⟨by kernel_rfl, by kernel_rfl⟩
def ti93 : TI := ⟨647, (List.replicate 3 (.int .i64 0) ++ List.replicate 4 (.slice none 0 0) ++ List.replicate 640 (.int .i64 0)), 5240, .struct [(0, 34), (5, 44), (6, 36), (7, 91), (327, 91)]⟩
theorem tok93 : TOK Tryz.prog 93 ti93 := ⟨by kernel_rfl, by kernel_rfl⟩
def ti94 : TI := ⟨1, [.nilFunc], 8, .plain⟩
theorem tok94 : TOK Tryz.prog 94 ti94 := ⟨by kernel_rfl, by kernel_rfl⟩
def ti95 : TI := ⟨1, [.nilFunc], 8, .plain⟩
theorem tok95 : TOK Tryz.prog 95 ti95 := ⟨by kernel_rfl, by kernel_rfl⟩
def ti96 : TI := ⟨1, [.nilFunc], 8, .plain⟩
theorem tok96 : TOK Tryz.prog 96 ti96 := ⟨by kernel_rfl, by kernel_rfl⟩
def ti97 : TI := ⟨1, [.nilFunc], 8, .plain⟩
theorem tok97 : TOK Tryz.prog 97 ti97 := ⟨by kernel_rfl, by kernel_rfl⟩
def ti98 : TI := ⟨1, [.nilFunc], 8, .plain⟩
theorem tok98 : TOK Tryz.prog 98 ti98 := ⟨by kernel_rfl, by kernel_rfl⟩
def ti99 : TI := ⟨1, [.nilFunc], 8, .plain⟩
theorem tok99 : TOK Tryz.prog 99 ti99 := ⟨by kernel_rfl, by kernel_rfl⟩
def ti100 : TI := ⟨1, [.nilFunc], 8, .plain⟩
theorem tok100 : TOK Tryz.prog 100 ti100 := ⟨by kernel_rfl, by kernel_rfl⟩
def ti101 : TI := ⟨1, [.nilFunc], 8, .plain⟩
theorem tok101 : TOK Tryz.prog 101 ti101 := ⟨by kernel_rfl, by kernel_rfl⟩
def ti102 : TI := ⟨1, [.nilFunc], 8, .plain⟩
theorem tok102 : TOK Tryz.prog 102 ti102 := ⟨by kernel_rfl, by kernel_rfl⟩
def ti103 : TI := ⟨1, [.nilFunc], 8, .plain⟩
theorem tok103 : TOK Tryz.prog 103 ti103 := ⟨by kernel_rfl, by kernel_rfl⟩
def ti104 : TI := ⟨1, [.nilFunc], 8, .plain⟩
theorem tok104 : TOK Tryz.prog 104 ti104 := ⟨by kernel_rfl, by kernel_rfl⟩
def ti105 : TI := ⟨1, [.nilFunc], 8, .plain⟩
theorem tok105 : TOK Tryz.prog 105 ti105 := ⟨by kernel_rfl, by kernel_rfl⟩
def ti106 : TI := ⟨1, [.int .u64 0], 8, .int .u64⟩
theorem tok106 : TOK Tryz.prog 106 ti106 := ⟨by kernel_rfl, by kernel_rfl⟩
def ti107 : TI := ⟨1, [.nilFunc], 8, .plain⟩
theorem tok107 : TOK Tryz.prog 107 ti107 := ⟨by kernel_rfl, by kernel_rfl⟩
def ti108 : TI := ⟨1, [.nilFunc], 8, .plain⟩
theorem tok108 : TOK Tryz.prog 108 ti108 := ⟨by kernel_rfl, by kernel_rfl⟩
def ti109 : TI := ⟨3, [.int .i64 0, .int .i64 0, .int .i64 0], 24, .struct [(0, 3), (1, 3), (2, 3)]⟩
theorem tok109 : TOK Tryz.prog 109 ti109 := ⟨by kernel_rfl, by kernel_rfl⟩
def ti110 : TI := ⟨1, [.nilFunc], 8, .plain⟩
theorem tok110 : TOK Tryz.prog 110 ti110 := ⟨by kernel_rfl, by kernel_rfl⟩
def ti111 : TI := ⟨1, [.nilFunc], 8, .plain⟩
theorem tok111 : TOK Tryz.prog 111 ti111 := ⟨by kernel_rfl, by kernel_rfl⟩
def ti112 : TI := ⟨1, [.nilFunc], 8, .plain⟩
theorem tok112 : TOK Tryz.prog 112 ti112 := ⟨by kernel_rfl, by kernel_rfl⟩
def ti113 : TI := ⟨1, [.nilFunc], 8, .plain⟩
theorem tok113 : TOK Tryz.prog 113 ti113 := ⟨by kernel_rfl, by kernel_rfl⟩
def ti114 : TI := ⟨1, [.nilFunc], 8, .plain⟩
theorem tok114 : TOK Tryz.prog 114 ti114 := ⟨by kernel_rfl, by kernel_rfl⟩
def ti115 : TI := ⟨1, [.nilFunc], 8, .plain⟩
theorem tok115 : TOK Tryz.prog 115 ti115 := ⟨by kernel_rfl, by kernel_rfl⟩
def ti116 : TI := ⟨6, [.int .i64 0, .int .i64 0, .int .i64 0, .int .i64 0, .int .i64 0, .int .i64 0], 48, .arr 6 3⟩
theorem tok116 : TOK Tryz.prog 116 ti116 := ⟨by kernel_rfl, by kernel_rfl⟩
def ti117 : TI := ⟨48, [.int .i64 0, .int .i64 0, .int .i64 0, .int .i64 0, .int .i64 0, .int .i64 0, .int .i64 0, .int .i64 0, .int .i64 0, .int .i64 0, .int .i64 0, .int .i64 0, .int .i64 0, .int .i64 0, .int .i64 0, .int .i64 0, .int .i64 0, .int .i64 0, .int .i64 0, .int .i64 0, .int .i64 0, .int .i64 0, .int .i64 0, .int .i64 0, .int .i64 0, .int .i64 0, .int .i64 0, .int .i64 0, .int .i64 0, .int .i64 0, .int .i64 0, .int .i64 0, .int .i64 0, .int .i64 0, .int .i64 0, .int .i64 0, .int .i64 0, .int .i64 0, .int .i64 0, .int .i64 0, .int .i64 0, .int .i64 0, .int .i64 0, .int .i64 0, .int .i64 0, .int .i64 0, .int .i64 0, .int .i64 0], 384, .arr 8 116⟩
theorem tok117 : TOK Tryz.prog 117 ti117 := ⟨by kernel_rfl, by kernel_rfl⟩
def ti118 : TI := ⟨1, [.nilFunc], 8, .plain⟩
theorem tok118 : TOK Tryz.prog 118 ti118 := ⟨by kernel_rfl, by kernel_rfl⟩
def ti120 : TI := ⟨1, [.nilFunc], 8, .plain⟩
theorem tok120 : TOK Tryz.prog 120 ti120 := ⟨by kernel_rfl, by kernel_rfl⟩
def ti121 : TI := ⟨4, [.int .i64 0, .int .i64 0, .int .i64 0, .bool false], 32, .struct [(0, 3), (1, 3), (2, 3), (3, 4)]⟩
theorem tok121 : TOK Tryz.prog 121 ti121 := ⟨by kernel_rfl, by kernel_rfl⟩
def ti122 : TI := ⟨4, [.int .i64 0, .int .i64 0, .int .i64 0, .bool false], 32, .struct [(0, 3), (1, 3), (2, 3), (3, 4)]⟩
theorem tok122 : TOK Tryz.prog 122 ti122 := ⟨by kernel_rfl, by kernel_rfl⟩
def ti123 : TI := ⟨1, [.slice none 0 0], 24, .slice 122⟩
theorem tok123 : TOK Tryz.prog 123 ti123 := ⟨by kernel_rfl, by kernel_rfl⟩
def ti124 : TI := ⟨2, [.slice none 0 0, .int .i64 0], 32, .struct [(0, 123), (1, 3)]⟩
theorem tok124 : TOK Tryz.prog 124 ti124 := ⟨by kernel_rfl, by kernel_rfl⟩
def ti125 : TI := ⟨2, [.slice none 0 0, .int .i64 0], 32, .struct [(0, 123), (1, 3)]⟩
theorem tok125 : TOK Tryz.prog 125 ti125 := ⟨by kernel_rfl, by kernel_rfl⟩
def ti126 : TI := ⟨1, [.nilFunc], 8, .plain⟩
theorem tok126 : TOK Tryz.prog 126 ti126 := ⟨by kernel_rfl, by kernel_rfl⟩
def ti127 : TI := ⟨1, [.nilFunc], 8, .plain⟩
theorem tok127 : TOK Tryz.prog 127 ti127 := ⟨by kernel_rfl, by kernel_rfl⟩
def ti128 : TI := ⟨3, [.int .i64 0, .int .i64 0, .slice none 0 0], 40, .struct [(0, 72), (2, 36)]⟩
theorem tok128 : TOK Tryz.prog 128 ti128 := ⟨by kernel_rfl, by kernel_rfl⟩
def ti129 : TI := ⟨3, [.int .i64 0, .int .i64 0, .slice none 0 0], 40, .struct [(0, 72), (2, 36)]⟩
theorem tok129 : TOK Tryz.prog 129 ti129 := ⟨by kernel_rfl, by kernel_rfl⟩
def ti130 : TI := ⟨1, [.nilFunc], 8, .plain⟩
theorem tok130 : TOK Tryz.prog 130 ti130 := ⟨by kernel_rfl, by kernel_rfl⟩
def ti131 : TI := ⟨2, [.int .i64 0, .slice none 0 0], 32, .struct [(0, 3), (1, 36)]⟩
theorem tok131 : TOK Tryz.prog 131 ti131 := ⟨by kernel_rfl, by kernel_rfl⟩
def ti132 : TI := ⟨2, [.int .i64 0, .slice none 0 0], 32, .struct [(0, 3), (1, 36)]⟩
theorem tok132 : TOK Tryz.prog 132 ti132 := ⟨by kernel_rfl, by kernel_rfl⟩
def ti133 : TI := ⟨1, [.nilFunc], 8, .plain⟩
theorem tok133 : TOK Tryz.prog 133 ti133 := ⟨by kernel_rfl, by kernel_rfl⟩
def ti134 : TI := ⟨4, [.slice none 0 0, .int .i64 0, .slice none 0 0, .slice none 0 0], 80, .struct [(0, 77), (3, 78)]⟩
theorem tok134 : TOK Tryz.prog 134 ti134 := ⟨by kernel_rfl, by kernel_rfl⟩
def ti135 : TI := ⟨4, [.slice none 0 0, .int .i64 0, .slice none 0 0, .slice none 0 0], 80, .struct [(0, 77), (3, 78)]⟩
theorem tok135 : TOK Tryz.prog 135 ti135 := ⟨by kernel_rfl, by kernel_rfl⟩
def ti136 : TI := ⟨1, [.nilFunc], 8, .plain⟩
theorem tok136 : TOK Tryz.prog 136 ti136 := ⟨by kernel_rfl, by kernel_rfl⟩
def ti137 : TI := ⟨1, [.nilFunc], 8, .plain⟩
theorem tok137 : TOK Tryz.prog 137 ti137 := ⟨by kernel_rfl, by kernel_rfl⟩
def ti138 : TI := ⟨1, [.nilFunc], 8, .plain⟩
theorem tok138 : TOK Tryz.prog 138 ti138 := ⟨by kernel_rfl, by kernel_rfl⟩
def ti139 : TI := ⟨1, [.nilFunc], 8, .plain⟩
theorem tok139 : TOK Tryz.prog 139 ti139 := ⟨by kernel_rfl, by kernel_rfl⟩
def ti140 : TI := ⟨1, [.nilFunc], 8, .plain⟩
theorem tok140 : TOK Tryz.prog 140 ti140 := ⟨by kernel_rfl, by kernel_rfl⟩
def ti141 : TI := ⟨1, [.slice none 0 0], 24, .slice 145⟩
theorem tok141 : TOK Tryz.prog 141 ti141 := ⟨by kernel_rfl, by kernel_rfl⟩
def ti142 : TI := ⟨1, [.nilFunc], 8, .plain⟩
theorem tok142 : TOK Tryz.prog 142 ti142 := ⟨by kernel_rfl, by kernel_rfl⟩
def ti143 : TI := ⟨1, [.nilFunc], 8, .plain⟩
theorem tok143 : TOK Tryz.prog 143 ti143 := ⟨by kernel_rfl, by kernel_rfl⟩
def ti144 : TI := ⟨2, [.int .u8 0, .nilFunc], 16, .struct [(0, 5), (1, 143)]⟩
theorem tok144 : TOK Tryz.prog 144 ti144 := ⟨by kernel_rfl, by kernel_rfl⟩
def ti145 : TI := ⟨2, [.int .u8 0, .nilFunc], 16, .struct [(0, 5), (1, 143)]⟩
theorem tok145 : TOK Tryz.prog 145 ti145 := ⟨by kernel_rfl, by kernel_rfl⟩
def ti146 : TI := ⟨1, [.nilFunc], 8, .plain⟩
theorem tok146 : TOK Tryz.prog 146 ti146 := ⟨by kernel_rfl, by kernel_rfl⟩
def ti147 : TI := ⟨1, [.nilFunc], 8, .plain⟩
theorem tok147 : TOK Tryz.prog 147 ti147 := ⟨by kernel_rfl, by kernel_rfl⟩
def ti148 : TI := ⟨1, [.nilFunc], 8, .plain⟩
theorem tok148 : TOK Tryz.prog 148 ti148 := ⟨by kernel_rfl, by kernel_rfl⟩
def ti149 : TI := ⟨1, [.nilFunc], 8, .plain⟩
theorem tok149 : TOK Tryz.prog 149 ti149 := ⟨by kernel_rfl, by kernel_rfl⟩
def ti150 : TI := ⟨1, [.nilFunc], 8, .plain⟩
theorem tok150 : TOK Tryz.prog 150 ti150 := ⟨by kernel_rfl, by kernel_rfl⟩
def ti151 : TI := ⟨2, [.bool false, .bool false], 2, .arr 2 4⟩
theorem tok151 : TOK Tryz.prog 151 ti151 := ⟨by kernel_rfl, by kernel_rfl⟩
def ti152 : TI := ⟨1, [.nilFunc], 8, .plain⟩
theorem tok152 : TOK Tryz.prog 152 ti152 := ⟨by kernel_rfl, by kernel_rfl⟩
def ti153 : TI := ⟨1, [.nilFunc], 8, .plain⟩
theorem tok153 : TOK Tryz.prog 153 ti153 := ⟨by kernel_rfl, by kernel_rfl⟩
def ti154 : TI := ⟨1, [.nilFunc], 8, .plain⟩
theorem tok154 : TOK Tryz.prog 154 ti154 := ⟨by kernel_rfl, by kernel_rfl⟩
def ti155 : TI := ⟨1, [.nilFunc], 8, .plain⟩
theorem tok155 : TOK Tryz.prog 155 ti155 := ⟨by kernel_rfl, by kernel_rfl⟩
def ti156 : TI := ⟨1, [.nilFunc], 8, .plain⟩
theorem tok156 : TOK Tryz.prog 156 ti156 := ⟨by kernel_rfl, by kernel_rfl⟩
def ti157 : TI := ⟨1, [.nilFunc], 8, .plain⟩
theorem tok157 : TOK Tryz.prog 157 ti157 := ⟨by kernel_rfl, by kernel_rfl⟩
def ti158 : TI := ⟨4, [.slice none 0 0, .int .i64 0, .slice none 0 0, .slice none 0 0], 80, .struct [(0, 125), (2, 36), (3, 36)]⟩
theorem tok158 : TOK Tryz.prog 158 ti158 := ⟨by kernel_rfl, by kernel_rfl⟩
def ti159 : TI := ⟨4, [.slice none 0 0, .int .i64 0, .slice none 0 0, .slice none 0 0], 80, .struct [(0, 125), (2, 36), (3, 36)]⟩
theorem tok159 : TOK Tryz.prog 159 ti159 := ⟨by kernel_rfl, by kernel_rfl⟩
def ti160 : TI := ⟨1, [.nilFunc], 8, .plain⟩
theorem tok160 : TOK Tryz.prog 160 ti160 := ⟨by kernel_rfl, by kernel_rfl⟩
def ti161 : TI := ⟨3, [.nilFunc, .nilFunc, .nilFunc], 24, .arr 3 27⟩
theorem tok161 : TOK Tryz.prog 161 ti161 := ⟨by kernel_rfl, by kernel_rfl⟩
def ti162 : TI := ⟨1, [.nilFunc], 8, .plain⟩
theorem tok162 : TOK Tryz.prog 162 ti162 := ⟨by kernel_rfl, by kernel_rfl⟩
def ti163 : TI := ⟨1, [.nilFunc], 8, .plain⟩
theorem tok163 : TOK Tryz.prog 163 ti163 := ⟨by kernel_rfl, by kernel_rfl⟩
def ti164 : TI := ⟨1, [.nilFunc], 8, .plain⟩
theorem tok164 : TOK Tryz.prog 164 ti164 := ⟨by kernel_rfl, by kernel_rfl⟩
def ti165 : TI := ⟨1, [.nilFunc], 8, .plain⟩
theorem tok165 : TOK Tryz.prog 165 ti165 := ⟨by kernel_rfl, by kernel_rfl⟩
def ti166 : TI := ⟨1, [.nilFunc], 8, .plain⟩
theorem tok166 : TOK Tryz.prog 166 ti166 := ⟨by kernel_rfl, by kernel_rfl⟩
def ti167 : TI := ⟨1, [.slice none 0 0], 24, .slice 4⟩
theorem tok167 : TOK Tryz.prog 167 ti167 := ⟨by kernel_rfl, by kernel_rfl⟩
def ti168 : TI := ⟨1, [.nilFunc], 8, .plain⟩
theorem tok168 : TOK Tryz.prog 168 ti168 := ⟨by kernel_rfl, by kernel_rfl⟩
def ti169 : TI := ⟨1, [.nilFunc], 8, .plain⟩
theorem tok169 : TOK Tryz.prog 169 ti169 := ⟨by kernel_rfl, by kernel_rfl⟩
def ti170 : TI := ⟨1, [.nilFunc], 8, .plain⟩
theorem tok170 : TOK Tryz.prog 170 ti170 := ⟨by kernel_rfl, by kernel_rfl⟩
def ti171 : TI := ⟨1, [.nilFunc], 8, .plain⟩
theorem tok171 : TOK Tryz.prog 171 ti171 := ⟨by kernel_rfl, by kernel_rfl⟩
def ti172 : TI := ⟨1, [.nilFunc], 8, .plain⟩
theorem tok172 : TOK Tryz.prog 172 ti172 := ⟨by kernel_rfl, by kernel_rfl⟩
def ti173 : TI := ⟨1, [.nilFunc], 8, .plain⟩
theorem tok173 : TOK Tryz.prog 173 ti173 := ⟨by kernel_rfl, by kernel_rfl⟩
def ti174 : TI := ⟨1, [.nilFunc], 8, .plain⟩
theorem tok174 : TOK Tryz.prog 174 ti174 := ⟨by kernel_rfl, by kernel_rfl⟩
def ti175 : TI := ⟨1, [.nilFunc], 8, .plain⟩
theorem tok175 : TOK Tryz.prog 175 ti175 := ⟨by kernel_rfl, by kernel_rfl⟩
def ti176 : TI := ⟨1, [.nilFunc], 8, .plain⟩
theorem tok176 : TOK Tryz.prog 176 ti176 := ⟨by kernel_rfl, by kernel_rfl⟩
def ti177 : TI := ⟨1, [.nilFunc], 8, .plain⟩
theorem tok177 : TOK Tryz.prog 177 ti177 := ⟨by kernel_rfl, by kernel_rfl⟩
def ti178 : TI := ⟨1, [.nilFunc], 8, .plain⟩
theorem tok178 : TOK Tryz.prog 178 ti178 := ⟨by kernel_rfl, by kernel_rfl⟩
def ti179 : TI := ⟨1, [.nilFunc], 8, .plain⟩
theorem tok179 : TOK Tryz.prog 179 ti179 := ⟨by kernel_rfl, by kernel_rfl⟩
def ti180 : TI := ⟨1, [.nilFunc], 8, .plain⟩
theorem tok180 : TOK Tryz.prog 180 ti180 := ⟨by kernel_rfl, by kernel_rfl⟩
def ti181 : TI := ⟨1, [.nilFunc], 8, .plain⟩
theorem tok181 : TOK Tryz.prog 181 ti181 := ⟨by kernel_rfl, by kernel_rfl⟩
def ti182 : TI := ⟨1, [.nilFunc], 8, .plain⟩
theorem tok182 : TOK Tryz.prog 182 ti182 := ⟨by kernel_rfl, by kernel_rfl⟩
def ti183 : TI := ⟨1, [.int .i64 0], 8, .int .i64⟩
theorem tok183 : TOK Tryz.prog 183 ti183 := ⟨by kernel_rfl, by kernel_rfl⟩
def ti185 : TI := ⟨1, [.nilFunc], 8, .plain⟩
theorem tok185 : TOK Tryz.prog 185 ti185 := ⟨by kernel_rfl, by kernel_rfl⟩
def ti186 : TI := ⟨1, [.nilFunc], 8, .plain⟩
theorem tok186 : TOK Tryz.prog 186 ti186 := ⟨by kernel_rfl, by kernel_rfl⟩
def ti187 : TI := ⟨1, [.nilFunc], 8, .plain⟩
theorem tok187 : TOK Tryz.prog 187 ti187 := ⟨by kernel_rfl, by kernel_rfl⟩
def ti189 : TI := ⟨1, [.nilFunc], 8, .plain⟩
theorem tok189 : TOK Tryz.prog 189 ti189 := ⟨by kernel_rfl, by kernel_rfl⟩
def ti190 : TI := ⟨1, [.nilFunc], 8, .plain⟩
theorem tok190 : TOK Tryz.prog 190 ti190 := ⟨by kernel_rfl, by kernel_rfl⟩
def ti191 : TI := ⟨1, [.int .u32 0], 4, .int .u32⟩
theorem tok191 : TOK Tryz.prog 191 ti191 := ⟨by kernel_rfl, by kernel_rfl⟩
def ti192 : TI := ⟨1, [.nilFunc], 8, .plain⟩
theorem tok192 : TOK Tryz.prog 192 ti192 := ⟨by kernel_rfl, by kernel_rfl⟩
def ti193 : TI := ⟨1, [.int .u64 0], 8, .int .u64⟩
theorem tok193 : TOK Tryz.prog 193 ti193 := ⟨by kernel_rfl, by kernel_rfl⟩
def ti194 : TI := ⟨1, [.int .u64 0], 8, .int .u64⟩
theorem tok194 : TOK Tryz.prog 194 ti194 := ⟨by kernel_rfl, by kernel_rfl⟩
def ti195 : TI := ⟨1, [.nilFunc], 8, .plain⟩
theorem tok195 : TOK Tryz.prog 195 ti195 := ⟨by kernel_rfl, by kernel_rfl⟩
def ti196 : TI := ⟨1, [.nilFunc], 8, .plain⟩
theorem tok196 : TOK Tryz.prog 196 ti196 := ⟨by kernel_rfl, by kernel_rfl⟩
def ti197 : TI := ⟨1, [.nilFunc], 8, .plain⟩
theorem tok197 : TOK Tryz.prog 197 ti197 := ⟨by kernel_rfl, by kernel_rfl⟩
def ti198 : TI := ⟨1, [.pointer none], 8, .plain⟩
theorem tok198 : TOK Tryz.prog 198 ti198 := ⟨by kernel_rfl, by kernel_rfl⟩
def ti199 : TI := ⟨1, [.nilFunc], 8, .plain⟩
theorem tok199 : TOK Tryz.prog 199 ti199 := ⟨by kernel_rfl, by kernel_rfl⟩
def ti200 : TI := ⟨1, [.nilFunc], 8, .plain⟩
theorem tok200 : TOK Tryz.prog 200 ti200 := ⟨by kernel_rfl, by kernel_rfl⟩
def ti201 : TI := ⟨1, [.nilFunc], 8, .plain⟩
theorem tok201 : TOK Tryz.prog 201 ti201 := ⟨by kernel_rfl, by kernel_rfl⟩
def ti202 : TI := ⟨1, [.pointer none], 8, .plain⟩
theorem tok202 : TOK Tryz.prog 202 ti202 := ⟨by kernel_rfl, by kernel_rfl⟩
def ti204 : TI := ⟨1, [.nilFunc], 8, .plain⟩
theorem tok204 : TOK Tryz.prog 204 ti204 := ⟨by kernel_rfl, by kernel_rfl⟩
def ti205 : TI := ⟨1, [.nilFunc], 8, .plain⟩
theorem tok205 : TOK Tryz.prog 205 ti205 := ⟨by kernel_rfl, by kernel_rfl⟩
def ti206 : TI := ⟨4, [.pointer none, .pointer none, .pointer none, .string ByteArray.empty], 40, .struct [(0, 17), (1, 17), (2, 17), (3, 9)]⟩
theorem tok206 : TOK Tryz.prog 206 ti206 := ⟨by kernel_rfl, by kernel_rfl⟩
def ti207 : TI := ⟨4, [.pointer none, .pointer none, .pointer none, .string ByteArray.empty], 40, .struct [(0, 17), (1, 17), (2, 17), (3, 9)]⟩
theorem tok207 : TOK Tryz.prog 207 ti207 := ⟨by kernel_rfl, by kernel_rfl⟩
def ti208 : TI := ⟨0, [], 0, .arr 0 16⟩
theorem tok208 : TOK Tryz.prog 208 ti208 := ⟨by kernel_rfl, by kernel_rfl⟩
def ti209 : TI := ⟨0, [], 0, .struct [(0, 208)]⟩
theorem tok209 : TOK Tryz.prog 209 ti209 := ⟨by kernel_rfl, by kernel_rfl⟩
def ti210 : TI := ⟨0, [], 0, .struct [(0, 208)]⟩
theorem tok210 : TOK Tryz.prog 210 ti210 := ⟨by kernel_rfl, by kernel_rfl⟩
def ti211 : TI := ⟨1, [.nilFunc], 8, .plain⟩
theorem tok211 : TOK Tryz.prog 211 ti211 := ⟨by kernel_rfl, by kernel_rfl⟩
def ti212 : TI := ⟨1, [.int .u8 0], 1, .int .u8⟩
theorem tok212 : TOK Tryz.prog 212 ti212 := ⟨by kernel_rfl, by kernel_rfl⟩
def ti213 : TI := ⟨1, [.int .u8 0], 1, .int .u8⟩
theorem tok213 : TOK Tryz.prog 213 ti213 := ⟨by kernel_rfl, by kernel_rfl⟩
def ti214 : TI := ⟨1, [.nilFunc], 8, .plain⟩
theorem tok214 : TOK Tryz.prog 214 ti214 := ⟨by kernel_rfl, by kernel_rfl⟩
def ti215 : TI := ⟨1, [.pointer none], 8, .plain⟩
theorem tok215 : TOK Tryz.prog 215 ti215 := ⟨by kernel_rfl, by kernel_rfl⟩
def ti216 : TI := ⟨1, [.int .i32 0], 4, .int .i32⟩
theorem tok216 : TOK Tryz.prog 216 ti216 := ⟨by kernel_rfl, by kernel_rfl⟩
def ti217 : TI := ⟨1, [.int .i32 0], 4, .int .i32⟩
theorem tok217 : TOK Tryz.prog 217 ti217 := ⟨by kernel_rfl, by kernel_rfl⟩
def ti218 : TI := ⟨11, [.int .u64 0, .int .u64 0, .int .u32 0, .int .u8 0, .int .u8 0, .int .u8 0, .int .u8 0, .nilFunc, .pointer none, .int .i32 0, .int .i32 0], 48, .struct [(0, 12), (1, 12), (2, 191), (3, 212), (4, 5), (5, 5), (6, 213), (7, 214), (8, 215), (9, 216), (10, 217)]⟩
theorem tok218 : TOK Tryz.prog 218 ti218 := ⟨by kernel_rfl, by kernel_rfl⟩
def ti219 : TI := ⟨11, [.int .u64 0, .int .u64 0, .int .u32 0, .int .u8 0, .int .u8 0, .int .u8 0, .int .u8 0, .nilFunc, .pointer none, .int .i32 0, .int .i32 0], 48, .struct [(0, 12), (1, 12), (2, 191), (3, 212), (4, 5), (5, 5), (6, 213), (7, 214), (8, 215), (9, 216), (10, 217)]⟩
theorem tok219 : TOK Tryz.prog 219 ti219 := ⟨by kernel_rfl, by kernel_rfl⟩
def ti220 : TI := ⟨1, [.pointer none], 8, .plain⟩
theorem tok220 : TOK Tryz.prog 220 ti220 := ⟨by kernel_rfl, by kernel_rfl⟩
def tys : List (Nat × TI) := [(1, ti1), (2, ti2), (3, ti3), (4, ti4), (5, ti5), (6, ti6), (7, ti7), (8, ti8), (9, ti9), (10, ti10), (11, ti11), (12, ti12), (13, ti13), (14, ti14), (15, ti15), (16, ti16), (17, ti17), (18, ti18), (19, ti19), (21, ti21), (22, ti22), (23, ti23), (24, ti24), (25, ti25), (26, ti26), (27, ti27), (28, ti28), (29, ti29), (31, ti31), (32, ti32), (33, ti33), (34, ti34), (35, ti35), (36, ti36), (37, ti37), (38, ti38), (40, ti40), (41, ti41), (42, ti42), (43, ti43), (44, ti44), (45, ti45), (46, ti46), (48, ti48), (49, ti49), (50, ti50), (51, ti51), (52, ti52), (53, ti53), (54, ti54), (55, ti55), (56, ti56), (58, ti58), (59, ti59), (60, ti60), (61, ti61), (62, ti62), (63, ti63), (64, ti64), (65, ti65), (66, ti66), (67, ti67), (68, ti68), (70, ti70), (71, ti71), (72, ti72), (73, ti73), (74, ti74), (75, ti75), (76, ti76), (77, ti77), (78, ti78), (80, ti80), (82, ti82), (84, ti84), (85, ti85), (87, ti87), (88, ti88), (89, ti89), (90, ti90), (91, ti91), (92, ti92), (93, ti93), (94, ti94), (95, ti95), (96, ti96), (97, ti97), (98, ti98), (99, ti99), (100, ti100), (101, ti101), (102, ti102), (103, ti103), (104, ti104), (105, ti105), (106, ti106), (107, ti107), (108, ti108), (109, ti109), (110, ti110), (111, ti111), (112, ti112), (113, ti113), (114, ti114), (115, ti115), (116, ti116), (117, ti117), (118, ti118), (120, ti120), (121, ti121), (122, ti122), (123, ti123), (124, ti124), (125, ti125), (126, ti126), (127, ti127), (128, ti128), (129, ti129), (130, ti130), (131, ti131), (132, ti132), (133, ti133), (134, ti134), (135, ti135), (136, ti136), (137, ti137), (138, ti138), (139, ti139), (140, ti140), (141, ti141), (142, ti142), (143, ti143), (144, ti144), (145, ti145), (146, ti146), (147, ti147), (148, ti148), (149, ti149), (150, ti150), (151, ti151), (152, ti152), (153, ti153), (154, ti154), (155, ti155), (156, ti156), (157, ti157), (158, ti158), (159, ti159), (160, ti160), (161, ti161), (162, ti162), (163, ti163), (164, ti164), (165, ti165), (166, ti166), (167, ti167), (168, ti168), (169, ti169), (170, ti170), (171, ti171), (172, ti172), (173, ti173), (174, ti174), (175, ti175), (176, ti176), (177, ti177), (178, ti178), (179, ti179), (180, ti180), (181, ti181), (182, ti182), (183, ti183), (185, ti185), (186, ti186), (187, ti187), (189, ti189), (190, ti190), (191, ti191), (192, ti192), (193, ti193), (194, ti194), (195, ti195), (196, ti196), (197, ti197), (198, ti198), (199, ti199), (200, ti200), (201, ti201), (202, ti202), (204, ti204), (205, ti205), (206, ti206), (207, ti207), (208, ti208), (209, ti209), (210, ti210), (211, ti211), (212, ti212), (213, ti213), (214, ti214), (215, ti215), (216, ti216), (217, ti217), (218, ti218), (219, ti219), (220, ti220)]
theorem tys_ok : AllT Tryz.prog tys := ⟨tok1, tok2, tok3, tok4, tok5, tok6, tok7, tok8, tok9, tok10, tok11, tok12, tok13, tok14, tok15, tok16, tok17, tok18, tok19, tok21, tok22, tok23, tok24, tok25, tok26, tok27, tok28, tok29, tok31, tok32, tok33, tok34, tok35, tok36, tok37, tok38, tok40, tok41, tok42, tok43, tok44, tok45, tok46, tok48, tok49, tok50, tok51, tok52, tok53, tok54, tok55, tok56, tok58, tok59, tok60, tok61, tok62, tok63, tok64, tok65, tok66, tok67, tok68, tok70, tok71, tok72, tok73, tok74, tok75, tok76, tok77, tok78, tok80, tok82, tok84, tok85, tok87, tok88, tok89, tok90, tok91, tok92, tok93, tok94, tok95, tok96, tok97, tok98, tok99, tok100, tok101, tok102, tok103, tok104, tok105, tok106, tok107, tok108, tok109, tok110, tok111, tok112, tok113, tok114, tok115, tok116, tok117, tok118, tok120, tok121, tok122, tok123, tok124, tok125, tok126, tok127, tok128, tok129, tok130, tok131, tok132, tok133, tok134, tok135, tok136, tok137, tok138, tok139, tok140, tok141, tok142, tok143, tok144, tok145, tok146, tok147, tok148, tok149, tok150, tok151, tok152, tok153, tok154, tok155, tok156, tok157, tok158, tok159, tok160, tok161, tok162, tok163, tok164, tok165, tok166, tok167, tok168, tok169, tok170, tok171, tok172, tok173, tok174, tok175, tok176, tok177, tok178, tok179, tok180, tok181, tok182, tok183, tok185, tok186, tok187, tok189, tok190, tok191, tok192, tok193, tok194, tok195, tok196, tok197, tok198, tok199, tok200, tok201, tok202, tok204, tok205, tok206, tok207, tok208, tok209, tok210, tok211, tok212, tok213, tok214, tok215, tok216, tok217, tok218, tok219, tok220, trivial⟩
theorem fok3 (args : Array Value) (w : World) : (callFunc 3 args).run Tryz.prog w = .ok (.enter 3 args) w := callFunc_in Tryz.func3 (by kernel_rfl) (by kernel_rfl) args w
theorem fok4 (args : Array Value) (w : World) : (callFunc 4 args).run Tryz.prog w = .ok (.enter 4 args) w := callFunc_in Tryz.func4 (by kernel_rfl) (by kernel_rfl) args w
theorem fok5 (args : Array Value) (w : World) : (callFunc 5 args).run Tryz.prog w = .ok (.enter 5 args) w := callFunc_in Tryz.func5 (by kernel_rfl) (by kernel_rfl) args w
theorem fok6 (args : Array Value) (w : World) : (callFunc 6 args).run Tryz.prog w = .ok (.enter 6 args) w := callFunc_in Tryz.func6 (by kernel_rfl) (by kernel_rfl) args w
theorem fok7 (args : Array Value) (w : World) : (callFunc 7 args).run Tryz.prog w = .ok (.enter 7 args) w := callFunc_in Tryz.func7 (by kernel_rfl) (by kernel_rfl) args w
theorem fok8 (args : Array Value) (w : World) : (callFunc 8 args).run Tryz.prog w = .ok (.enter 8 args) w := callFunc_in Tryz.func8 (by kernel_rfl) (by kernel_rfl) args w
theorem fok9 (args : Array Value) (w : World) : (callFunc 9 args).run Tryz.prog w = .ok (.enter 9 args) w := callFunc_in Tryz.func9 (by kernel_rfl) (by kernel_rfl) args w
theorem fok10 (args : Array Value) (w : World) : (callFunc 10 args).run Tryz.prog w = .ok (.enter 10 args) w := callFunc_in Tryz.func10 (by kernel_rfl) (by kernel_rfl) args w
theorem fok11 (args : Array Value) (w : World) : (callFunc 11 args).run Tryz.prog w = .ok (.enter 11 args) w := callFunc_in Tryz.func11 (by kernel_rfl) (by kernel_rfl) args w
theorem fok12 (args : Array Value) (w : World) : (callFunc 12 args).run Tryz.prog w = .ok (.enter 12 args) w := callFunc_in Tryz.func12 (by kernel_rfl) (by kernel_rfl) args w
theorem fok13 (args : Array Value) (w : World) : (callFunc 13 args).run Tryz.prog w = .ok (.enter 13 args) w := callFunc_in Tryz.func13 (by kernel_rfl) (by kernel_rfl) args w
theorem fok14 (args : Array Value) (w : World) : (callFunc 14 args).run Tryz.prog w = .ok (.enter 14 args) w := callFunc_in Tryz.func14 (by kernel_rfl) (by kernel_rfl) args w
theorem fok15 (args : Array Value) (w : World) : (callFunc 15 args).run Tryz.prog w = .ok (.enter 15 args) w := callFunc_in Tryz.func15 (by kernel_rfl) (by kernel_rfl) args w
theorem fok16 (args : Array Value) (w : World) : (callFunc 16 args).run Tryz.prog w = .ok (.enter 16 args) w := callFunc_in Tryz.func16 (by kernel_rfl) (by kernel_rfl) args w
theorem fok17 (args : Array Value) (w : World) : (callFunc 17 args).run Tryz.prog w = .ok (.enter 17 args) w := callFunc_in Tryz.func17 (by kernel_rfl) (by kernel_rfl) args w
theorem fok18 (args : Array Value) (w : World) : (callFunc 18 args).run Tryz.prog w = .ok (.enter 18 args) w := callFunc_in Tryz.func18 (by kernel_rfl) (by kernel_rfl) args w
theorem fok19 (args : Array Value) (w : World) : (callFunc 19 args).run Tryz.prog w = .ok (.enter 19 args) w := callFunc_in Tryz.func19 (by kernel_rfl) (by kernel_rfl) args w
theorem fok20 (args : Array Value) (w : World) : (callFunc 20 args).run Tryz.prog w = .ok (.enter 20 args) w := callFunc_in Tryz.func20 (by kernel_rfl) (by kernel_rfl) args w
theorem fok21 (args : Array Value) (w : World) : (callFunc 21 args).run Tryz.prog w = .ok (.enter 21 args) w := callFunc_in Tryz.func21 (by kernel_rfl) (by kernel_rfl) args w
theorem fok22 (args : Array Value) (w : World) : (callFunc 22 args).run Tryz.prog w = .ok (.enter 22 args) w := callFunc_in Tryz.func22 (by kernel_rfl) (by kernel_rfl) args w
theorem fok23 (args : Array Value) (w : World) : (callFunc 23 args).run Tryz.prog w = .ok (.enter 23 args) w := callFunc_in Tryz.func23 (by kernel_rfl) (by kernel_rfl) args w
theorem fok24 (args : Array Value) (w : World) : (callFunc 24 args).run Tryz.prog w = .ok (.enter 24 args) w := callFunc_in Tryz.func24 (by kernel_rfl) (by kernel_rfl) args w
theorem fok25 (args : Array Value) (w : World) : (callFunc 25 args).run Tryz.prog w = .ok (.enter 25 args) w := callFunc_in Tryz.func25 (by kernel_rfl) (by kernel_rfl) args w
theorem fok26 (args : Array Value) (w : World) : (callFunc 26 args).run Tryz.prog w = .ok (.enter 26 args) w := callFunc_in Tryz.func26 (by kernel_rfl) (by kernel_rfl) args w
theorem fok27 (args : Array Value) (w : World) : (callFunc 27 args).run Tryz.prog w = .ok (.enter 27 args) w := callFunc_in Tryz.func27 (by kernel_rfl) (by kernel_rfl) args w
theorem fok28 (args : Array Value) (w : World) : (callFunc 28 args).run Tryz.prog w = .ok (.enter 28 args) w := callFunc_in Tryz.func28 (by kernel_rfl) (by kernel_rfl) args w
theorem fok29 (args : Array Value) (w : World) : (callFunc 29 args).run Tryz.prog w = .ok (.enter 29 args) w := callFunc_in Tryz.func29 (by kernel_rfl) (by kernel_rfl) args w
theorem fok30 (args : Array Value) (w : World) : (callFunc 30 args).run Tryz.prog w = .ok (.enter 30 args) w := callFunc_in Tryz.func30 (by kernel_rfl) (by kernel_rfl) args w
theorem fok31 (args : Array Value) (w : World) : (callFunc 31 args).run Tryz.prog w = .ok (.enter 31 args) w := callFunc_in Tryz.func31 (by kernel_rfl) (by kernel_rfl) args w
theorem fok32 (args : Array Value) (w : World) : (callFunc 32 args).run Tryz.prog w = .ok (.enter 32 args) w := callFunc_in Tryz.func32 (by kernel_rfl) (by kernel_rfl) args w
theorem fok33 (args : Array Value) (w : World) : (callFunc 33 args).run Tryz.prog w = .ok (.enter 33 args) w := callFunc_in Tryz.func33 (by kernel_rfl) (by kernel_rfl) args w
theorem fok34 (args : Array Value) (w : World) : (callFunc 34 args).run Tryz.prog w = .ok (.enter 34 args) w := callFunc_in Tryz.func34 (by kernel_rfl) (by kernel_rfl) args w
theorem fok35 (args : Array Value) (w : World) : (callFunc 35 args).run Tryz.prog w = .ok (.enter 35 args) w := callFunc_in Tryz.func35 (by kernel_rfl) (by kernel_rfl) args w
theorem fok36 (args : Array Value) (w : World) : (callFunc 36 args).run Tryz.prog w = .ok (.enter 36 args) w := callFunc_in Tryz.func36 (by kernel_rfl) (by kernel_rfl) args w
theorem fok37 (args : Array Value) (w : World) : (callFunc 37 args).run Tryz.prog w = .ok (.enter 37 args) w := callFunc_in Tryz.func37 (by kernel_rfl) (by kernel_rfl) args w
theorem fok38 (args : Array Value) (w : World) : (callFunc 38 args).run Tryz.prog w = .ok (.enter 38 args) w := callFunc_in Tryz.func38 (by kernel_rfl) (by kernel_rfl) args w
theorem fok39 (args : Array Value) (w : World) : (callFunc 39 args).run Tryz.prog w = .ok (.enter 39 args) w := callFunc_in Tryz.func39 (by kernel_rfl) (by kernel_rfl) args w
theorem fok40 (args : Array Value) (w : World) : (callFunc 40 args).run Tryz.prog w = .ok (.enter 40 args) w := callFunc_in Tryz.func40 (by kernel_rfl) (by kernel_rfl) args w
theorem fok41 (args : Array Value) (w : World) : (callFunc 41 args).run Tryz.prog w = .ok (.enter 41 args) w := callFunc_in Tryz.func41 (by kernel_rfl) (by kernel_rfl) args w
theorem fok42 (args : Array Value) (w : World) : (callFunc 42 args).run Tryz.prog w = .ok (.enter 42 args) w := callFunc_in Tryz.func42 (by kernel_rfl) (by kernel_rfl) args w
theorem fok43 (args : Array Value) (w : World) : (callFunc 43 args).run Tryz.prog w = .ok (.enter 43 args) w := callFunc_in Tryz.func43 (by kernel_rfl) (by kernel_rfl) args w
theorem fok44 (args : Array Value) (w : World) : (callFunc 44 args).run Tryz.prog w = .ok (.enter 44 args) w := callFunc_in Tryz.func44 (by kernel_rfl) (by kernel_rfl) args w
theorem fok45 (args : Array Value) (w : World) : (callFunc 45 args).run Tryz.prog w = .ok (.enter 45 args) w := callFunc_in Tryz.func45 (by kernel_rfl) (by kernel_rfl) args w
theorem fok46 (args : Array Value) (w : World) : (callFunc 46 args).run Tryz.prog w = .ok (.enter 46 args) w := callFunc_in Tryz.func46 (by kernel_rfl) (by kernel_rfl) args w
theorem fok47 (args : Array Value) (w : World) : (callFunc 47 args).run Tryz.prog w = .ok (.enter 47 args) w := callFunc_in Tryz.func47 (by kernel_rfl) (by kernel_rfl) args w
theorem fok48 (args : Array Value) (w : World) : (callFunc 48 args).run Tryz.prog w = .ok (.enter 48 args) w := callFunc_in Tryz.func48 (by kernel_rfl) (by kernel_rfl) args w
theorem fok49 (args : Array Value) (w : World) : (callFunc 49 args).run Tryz.prog w = .ok (.enter 49 args) w := callFunc_in Tryz.func49 (by kernel_rfl) (by kernel_rfl) args w
theorem fok50 (args : Array Value) (w : World) : (callFunc 50 args).run Tryz.prog w = .ok (.enter 50 args) w := callFunc_in Tryz.func50 (by kernel_rfl) (by kernel_rfl) args w
theorem fok51 (args : Array Value) (w : World) : (callFunc 51 args).run Tryz.prog w = .ok (.enter 51 args) w := callFunc_in Tryz.func51 (by kernel_rfl) (by kernel_rfl) args w
theorem fok52 (args : Array Value) (w : World) : (callFunc 52 args).run Tryz.prog w = .ok (.enter 52 args) w := callFunc_in Tryz.func52 (by kernel_rfl) (by kernel_rfl) args w
theorem fok53 (args : Array Value) (w : World) : (callFunc 53 args).run Tryz.prog w = .ok (.enter 53 args) w := callFunc_in Tryz.func53 (by kernel_rfl) (by kernel_rfl) args w
theorem fok54 (args : Array Value) (w : World) : (callFunc 54 args).run Tryz.prog w = .ok (.enter 54 args) w := callFunc_in Tryz.func54 (by kernel_rfl) (by kernel_rfl) args w
theorem fok55 (args : Array Value) (w : World) : (callFunc 55 args).run Tryz.prog w = .ok (.enter 55 args) w := callFunc_in Tryz.func55 (by kernel_rfl) (by kernel_rfl) args w
theorem fok56 (args : Array Value) (w : World) : (callFunc 56 args).run Tryz.prog w = .ok (.enter 56 args) w := callFunc_in Tryz.func56 (by kernel_rfl) (by kernel_rfl) args w
theorem fok57 (args : Array Value) (w : World) : (callFunc 57 args).run Tryz.prog w = .ok (.enter 57 args) w := callFunc_in Tryz.func57 (by kernel_rfl) (by kernel_rfl) args w
theorem fok58 (args : Array Value) (w : World) : (callFunc 58 args).run Tryz.prog w = .ok (.enter 58 args) w := callFunc_in Tryz.func58 (by kernel_rfl) (by kernel_rfl) args w
theorem fok59 (args : Array Value) (w : World) : (callFunc 59 args).run Tryz.prog w = .ok (.enter 59 args) w := callFunc_in Tryz.func59 (by kernel_rfl) (by kernel_rfl) args w
theorem fok60 (args : Array Value) (w : World) : (callFunc 60 args).run Tryz.prog w = .ok (.enter 60 args) w := callFunc_in Tryz.func60 (by kernel_rfl) (by kernel_rfl) args w
theorem fok61 (args : Array Value) (w : World) : (callFunc 61 args).run Tryz.prog w = .ok (.enter 61 args) w := callFunc_in Tryz.func61 (by kernel_rfl) (by kernel_rfl) args w
theorem fok62 (args : Array Value) (w : World) : (callFunc 62 args).run Tryz.prog w = .ok (.enter 62 args) w := callFunc_in Tryz.func62 (by kernel_rfl) (by kernel_rfl) args w
theorem fok63 (args : Array Value) (w : World) : (callFunc 63 args).run Tryz.prog w = .ok (.enter 63 args) w := callFunc_in Tryz.func63 (by kernel_rfl) (by kernel_rfl) args w
theorem fok64 (args : Array Value) (w : World) : (callFunc 64 args).run Tryz.prog w = .ok (.enter 64 args) w := callFunc_in Tryz.func64 (by kernel_rfl) (by kernel_rfl) args w
theorem fok65 (args : Array Value) (w : World) : (callFunc 65 args).run Tryz.prog w = .ok (.enter 65 args) w := callFunc_in Tryz.func65 (by kernel_rfl) (by kernel_rfl) args w
theorem fok66 (args : Array Value) (w : World) : (callFunc 66 args).run Tryz.prog w = .ok (.enter 66 args) w := callFunc_in Tryz.func66 (by kernel_rfl) (by kernel_rfl) args w
theorem fok67 (args : Array Value) (w : World) : (callFunc 67 args).run Tryz.prog w = .ok (.enter 67 args) w := callFunc_in Tryz.func67 (by kernel_rfl) (by kernel_rfl) args w
theorem fok68 (args : Array Value) (w : World) : (callFunc 68 args).run Tryz.prog w = .ok (.enter 68 args) w := callFunc_in Tryz.func68 (by kernel_rfl) (by kernel_rfl) args w
theorem fok69 (args : Array Value) (w : World) : (callFunc 69 args).run Tryz.prog w = .ok (.enter 69 args) w := callFunc_in Tryz.func69 (by kernel_rfl) (by kernel_rfl) args w
theorem fok70 (args : Array Value) (w : World) : (callFunc 70 args).run Tryz.prog w = .ok (.enter 70 args) w := callFunc_in Tryz.func70 (by kernel_rfl) (by kernel_rfl) args w
theorem fok71 (args : Array Value) (w : World) : (callFunc 71 args).run Tryz.prog w = .ok (.enter 71 args) w := callFunc_in Tryz.func71 (by kernel_rfl) (by kernel_rfl) args w
theorem fok72 (args : Array Value) (w : World) : (callFunc 72 args).run Tryz.prog w = .ok (.enter 72 args) w := callFunc_in Tryz.func72 (by kernel_rfl) (by kernel_rfl) args w
theorem fok73 (args : Array Value) (w : World) : (callFunc 73 args).run Tryz.prog w = .ok (.enter 73 args) w := callFunc_in Tryz.func73 (by kernel_rfl) (by kernel_rfl) args w
theorem fok74 (args : Array Value) (w : World) : (callFunc 74 args).run Tryz.prog w = .ok (.enter 74 args) w := callFunc_in Tryz.func74 (by kernel_rfl) (by kernel_rfl) args w
theorem fok75 (args : Array Value) (w : World) : (callFunc 75 args).run Tryz.prog w = .ok (.enter 75 args) w := callFunc_in Tryz.func75 (by kernel_rfl) (by kernel_rfl) args w
theorem fok76 (args : Array Value) (w : World) : (callFunc 76 args).run Tryz.prog w = .ok (.enter 76 args) w := callFunc_in Tryz.func76 (by kernel_rfl) (by kernel_rfl) args w
theorem fok77 (args : Array Value) (w : World) : (callFunc 77 args).run Tryz.prog w = .ok (.enter 77 args) w := callFunc_in Tryz.func77 (by kernel_rfl) (by kernel_rfl) args w
theorem fok78 (args : Array Value) (w : World) : (callFunc 78 args).run Tryz.prog w = .ok (.enter 78 args) w := callFunc_in Tryz.func78 (by kernel_rfl) (by kernel_rfl) args w
theorem fok79 (args : Array Value) (w : World) : (callFunc 79 args).run Tryz.prog w = .ok (.enter 79 args) w := callFunc_in Tryz.func79 (by kernel_rfl) (by kernel_rfl) args w
theorem fok80 (args : Array Value) (w : World) : (callFunc 80 args).run Tryz.prog w = .ok (.enter 80 args) w := callFunc_in Tryz.func80 (by kernel_rfl) (by kernel_rfl) args w
theorem fok81 (args : Array Value) (w : World) : (callFunc 81 args).run Tryz.prog w = .ok (.enter 81 args) w := callFunc_in Tryz.func81 (by kernel_rfl) (by kernel_rfl) args w
theorem fok82 (args : Array Value) (w : World) : (callFunc 82 args).run Tryz.prog w = .ok (.enter 82 args) w := callFunc_in Tryz.func82 (by kernel_rfl) (by kernel_rfl) args w
theorem fok83 (args : Array Value) (w : World) : (callFunc 83 args).run Tryz.prog w = .ok (.enter 83 args) w := callFunc_in Tryz.func83 (by kernel_rfl) (by kernel_rfl) args w
theorem fok84 (args : Array Value) (w : World) : (callFunc 84 args).run Tryz.prog w = .ok (.enter 84 args) w := callFunc_in Tryz.func84 (by kernel_rfl) (by kernel_rfl) args w
theorem fok85 (args : Array Value) (w : World) : (callFunc 85 args).run Tryz.prog w = .ok (.enter 85 args) w := callFunc_in Tryz.func85 (by kernel_rfl) (by kernel_rfl) args w
theorem fok86 (args : Array Value) (w : World) : (callFunc 86 args).run Tryz.prog w = .ok (.enter 86 args) w := callFunc_in Tryz.func86 (by kernel_rfl) (by kernel_rfl) args w
theorem fok87 (args : Array Value) (w : World) : (callFunc 87 args).run Tryz.prog w = .ok (.enter 87 args) w := callFunc_in Tryz.func87 (by kernel_rfl) (by kernel_rfl) args w
theorem fok88 (args : Array Value) (w : World) : (callFunc 88 args).run Tryz.prog w = .ok (.enter 88 args) w := callFunc_in Tryz.func88 (by kernel_rfl) (by kernel_rfl) args w
theorem fok89 (args : Array Value) (w : World) : (callFunc 89 args).run Tryz.prog w = .ok (.enter 89 args) w := callFunc_in Tryz.func89 (by kernel_rfl) (by kernel_rfl) args w
theorem fok90 (args : Array Value) (w : World) : (callFunc 90 args).run Tryz.prog w = .ok (.enter 90 args) w := callFunc_in Tryz.func90 (by kernel_rfl) (by kernel_rfl) args w
theorem fok91 (args : Array Value) (w : World) : (callFunc 91 args).run Tryz.prog w = .ok (.enter 91 args) w := callFunc_in Tryz.func91 (by kernel_rfl) (by kernel_rfl) args w
theorem fok92 (args : Array Value) (w : World) : (callFunc 92 args).run Tryz.prog w = .ok (.enter 92 args) w := callFunc_in Tryz.func92 (by kernel_rfl) (by kernel_rfl) args w
theorem fok93 (args : Array Value) (w : World) : (callFunc 93 args).run Tryz.prog w = .ok (.enter 93 args) w := callFunc_in Tryz.func93 (by kernel_rfl) (by kernel_rfl) args w
theorem fok94 (args : Array Value) (w : World) : (callFunc 94 args).run Tryz.prog w = .ok (.enter 94 args) w := callFunc_in Tryz.func94 (by kernel_rfl) (by kernel_rfl) args w
theorem fok95 (args : Array Value) (w : World) : (callFunc 95 args).run Tryz.prog w = .ok (.enter 95 args) w := callFunc_in Tryz.func95 (by kernel_rfl) (by kernel_rfl) args w
theorem fok96 (args : Array Value) (w : World) : (callFunc 96 args).run Tryz.prog w = .ok (.enter 96 args) w := callFunc_in Tryz.func96 (by kernel_rfl) (by kernel_rfl) args w
theorem fok97 (args : Array Value) (w : World) : (callFunc 97 args).run Tryz.prog w = .ok (.enter 97 args) w := callFunc_in Tryz.func97 (by kernel_rfl) (by kernel_rfl) args w
theorem fok98 (args : Array Value) (w : World) : (callFunc 98 args).run Tryz.prog w = .ok (.enter 98 args) w := callFunc_in Tryz.func98 (by kernel_rfl) (by kernel_rfl) args w
theorem fok99 (args : Array Value) (w : World) : (callFunc 99 args).run Tryz.prog w = .ok (.enter 99 args) w := callFunc_in Tryz.func99 (by kernel_rfl) (by kernel_rfl) args w
theorem fok100 (args : Array Value) (w : World) : (callFunc 100 args).run Tryz.prog w = .ok (.enter 100 args) w := callFunc_in Tryz.func100 (by kernel_rfl) (by kernel_rfl) args w
theorem fok101 (args : Array Value) (w : World) : (callFunc 101 args).run Tryz.prog w = .ok (.enter 101 args) w := callFunc_in Tryz.func101 (by kernel_rfl) (by kernel_rfl) args w
theorem fok102 (args : Array Value) (w : World) : (callFunc 102 args).run Tryz.prog w = .ok (.enter 102 args) w := callFunc_in Tryz.func102 (by kernel_rfl) (by kernel_rfl) args w
theorem fok103 (args : Array Value) (w : World) : (callFunc 103 args).run Tryz.prog w = .ok (.enter 103 args) w := callFunc_in Tryz.func103 (by kernel_rfl) (by kernel_rfl) args w
theorem fok104 (args : Array Value) (w : World) : (callFunc 104 args).run Tryz.prog w = .ok (.enter 104 args) w := callFunc_in Tryz.func104 (by kernel_rfl) (by kernel_rfl) args w
theorem fok105 (args : Array Value) (w : World) : (callFunc 105 args).run Tryz.prog w = .ok (.enter 105 args) w := callFunc_in Tryz.func105 (by kernel_rfl) (by kernel_rfl) args w
theorem fok106 (args : Array Value) (w : World) : (callFunc 106 args).run Tryz.prog w = .ok (.enter 106 args) w := callFunc_in Tryz.func106 (by kernel_rfl) (by kernel_rfl) args w
theorem fok107 (args : Array Value) (w : World) : (callFunc 107 args).run Tryz.prog w = .ok (.enter 107 args) w := callFunc_in Tryz.func107 (by kernel_rfl) (by kernel_rfl) args w
theorem fok108 (args : Array Value) (w : World) : (callFunc 108 args).run Tryz.prog w = .ok (.enter 108 args) w := callFunc_in Tryz.func108 (by kernel_rfl) (by kernel_rfl) args w
theorem fok109 (args : Array Value) (w : World) : (callFunc 109 args).run Tryz.prog w = .ok (.enter 109 args) w := callFunc_in Tryz.func109 (by kernel_rfl) (by kernel_rfl) args w
theorem fok110 (args : Array Value) (w : World) : (callFunc 110 args).run Tryz.prog w = .ok (.enter 110 args) w := callFunc_in Tryz.func110 (by kernel_rfl) (by kernel_rfl) args w
theorem fok111 (args : Array Value) (w : World) : (callFunc 111 args).run Tryz.prog w = .ok (.enter 111 args) w := callFunc_in Tryz.func111 (by kernel_rfl) (by kernel_rfl) args w
theorem fok112 (args : Array Value) (w : World) : (callFunc 112 args).run Tryz.prog w = .ok (.enter 112 args) w := callFunc_in Tryz.func112 (by kernel_rfl) (by kernel_rfl) args w
theorem fok113 (args : Array Value) (w : World) : (callFunc 113 args).run Tryz.prog w = .ok (.enter 113 args) w := callFunc_in Tryz.func113 (by kernel_rfl) (by kernel_rfl) args w
theorem fok114 (args : Array Value) (w : World) : (callFunc 114 args).run Tryz.prog w = .ok (.enter 114 args) w := callFunc_in Tryz.func114 (by kernel_rfl) (by kernel_rfl) args w
theorem fok115 (args : Array Value) (w : World) : (callFunc 115 args).run Tryz.prog w = .ok (.enter 115 args) w := callFunc_in Tryz.func115 (by kernel_rfl) (by kernel_rfl) args w
theorem fok116 (args : Array Value) (w : World) : (callFunc 116 args).run Tryz.prog w = .ok (.enter 116 args) w := callFunc_in Tryz.func116 (by kernel_rfl) (by kernel_rfl) args w
theorem fok117 (args : Array Value) (w : World) : (callFunc 117 args).run Tryz.prog w = .ok (.enter 117 args) w := callFunc_in Tryz.func117 (by kernel_rfl) (by kernel_rfl) args w
theorem fok118 (args : Array Value) (w : World) : (callFunc 118 args).run Tryz.prog w = .ok (.enter 118 args) w := callFunc_in Tryz.func118 (by kernel_rfl) (by kernel_rfl) args w
theorem fok119 (args : Array Value) (w : World) : (callFunc 119 args).run Tryz.prog w = .ok (.enter 119 args) w := callFunc_in Tryz.func119 (by kernel_rfl) (by kernel_rfl) args w
theorem fok120 (args : Array Value) (w : World) : (callFunc 120 args).run Tryz.prog w = .ok (.enter 120 args) w := callFunc_in Tryz.func120 (by kernel_rfl) (by kernel_rfl) args w
theorem fok121 (args : Array Value) (w : World) : (callFunc 121 args).run Tryz.prog w = .ok (.enter 121 args) w := callFunc_in Tryz.func121 (by kernel_rfl) (by kernel_rfl) args w
theorem fok122 (args : Array Value) (w : World) : (callFunc 122 args).run Tryz.prog w = .ok (.enter 122 args) w := callFunc_in Tryz.func122 (by kernel_rfl) (by kernel_rfl) args w
theorem fok123 (args : Array Value) (w : World) : (callFunc 123 args).run Tryz.prog w = .ok (.enter 123 args) w := callFunc_in Tryz.func123 (by kernel_rfl) (by kernel_rfl) args w
theorem fok124 (args : Array Value) (w : World) : (callFunc 124 args).run Tryz.prog w = .ok (.enter 124 args) w := callFunc_in Tryz.func124 (by kernel_rfl) (by kernel_rfl) args w
theorem fok125 (args : Array Value) (w : World) : (callFunc 125 args).run Tryz.prog w = .ok (.enter 125 args) w := callFunc_in Tryz.func125 (by kernel_rfl) (by kernel_rfl) args w
theorem fok126 (args : Array Value) (w : World) : (callFunc 126 args).run Tryz.prog w = .ok (.enter 126 args) w := callFunc_in Tryz.func126 (by kernel_rfl) (by kernel_rfl) args w
theorem fok127 (args : Array Value) (w : World) : (callFunc 127 args).run Tryz.prog w = .ok (.enter 127 args) w := callFunc_in Tryz.func127 (by kernel_rfl) (by kernel_rfl) args w
theorem fok128 (args : Array Value) (w : World) : (callFunc 128 args).run Tryz.prog w = .ok (.enter 128 args) w := callFunc_in Tryz.func128 (by kernel_rfl) (by kernel_rfl) args w
theorem fok129 (args : Array Value) (w : World) : (callFunc 129 args).run Tryz.prog w = .ok (.enter 129 args) w := callFunc_in Tryz.func129 (by kernel_rfl) (by kernel_rfl) args w
theorem fok130 (args : Array Value) (w : World) : (callFunc 130 args).run Tryz.prog w = .ok (.enter 130 args) w := callFunc_in Tryz.func130 (by kernel_rfl) (by kernel_rfl) args w
theorem fok131 (args : Array Value) (w : World) : (callFunc 131 args).run Tryz.prog w = .ok (.enter 131 args) w := callFunc_in Tryz.func131 (by kernel_rfl) (by kernel_rfl) args w
theorem fok132 (args : Array Value) (w : World) : (callFunc 132 args).run Tryz.prog w = .ok (.enter 132 args) w := callFunc_in Tryz.func132 (by kernel_rfl) (by kernel_rfl) args w
theorem fok133 (args : Array Value) (w : World) : (callFunc 133 args).run Tryz.prog w = .ok (.enter 133 args) w := callFunc_in Tryz.func133 (by kernel_rfl) (by kernel_rfl) args w
theorem fok134 (args : Array Value) (w : World) : (callFunc 134 args).run Tryz.prog w = .ok (.enter 134 args) w := callFunc_in Tryz.func134 (by kernel_rfl) (by kernel_rfl) args w
theorem fok135 (args : Array Value) (w : World) : (callFunc 135 args).run Tryz.prog w = .ok (.enter 135 args) w := callFunc_in Tryz.func135 (by kernel_rfl) (by kernel_rfl) args w
theorem fok136 (args : Array Value) (w : World) : (callFunc 136 args).run Tryz.prog w = .ok (.enter 136 args) w := callFunc_in Tryz.func136 (by kernel_rfl) (by kernel_rfl) args w
theorem fok137 (args : Array Value) (w : World) : (callFunc 137 args).run Tryz.prog w = .ok (.enter 137 args) w := callFunc_in Tryz.func137 (by kernel_rfl) (by kernel_rfl) args w
theorem fok138 (args : Array Value) (w : World) : (callFunc 138 args).run Tryz.prog w = .ok (.enter 138 args) w := callFunc_in Tryz.func138 (by kernel_rfl) (by kernel_rfl) args w
theorem fok139 (args : Array Value) (w : World) : (callFunc 139 args).run Tryz.prog w = .ok (.enter 139 args) w := callFunc_in Tryz.func139 (by kernel_rfl) (by kernel_rfl) args w
theorem fok140 (args : Array Value) (w : World) : (callFunc 140 args).run Tryz.prog w = .ok (.enter 140 args) w := callFunc_in Tryz.func140 (by kernel_rfl) (by kernel_rfl) args w
theorem fok141 (args : Array Value) (w : World) : (callFunc 141 args).run Tryz.prog w = .ok (.enter 141 args) w := callFunc_in Tryz.func141 (by kernel_rfl) (by kernel_rfl) args w
theorem fok142 (args : Array Value) (w : World) : (callFunc 142 args).run Tryz.prog w = .ok (.enter 142 args) w := callFunc_in Tryz.func142 (by kernel_rfl) (by kernel_rfl) args w
theorem fok143 (args : Array Value) (w : World) : (callFunc 143 args).run Tryz.prog w = .ok (.enter 143 args) w := callFunc_in Tryz.func143 (by kernel_rfl) (by kernel_rfl) args w
theorem fok144 (args : Array Value) (w : World) : (callFunc 144 args).run Tryz.prog w = .ok (.enter 144 args) w := callFunc_in Tryz.func144 (by kernel_rfl) (by kernel_rfl) args w
theorem fok145 (args : Array Value) (w : World) : (callFunc 145 args).run Tryz.prog w = .ok (.enter 145 args) w := callFunc_in Tryz.func145 (by kernel_rfl) (by kernel_rfl) args w
theorem fok146 (args : Array Value) (w : World) : (callFunc 146 args).run Tryz.prog w = .ok (.enter 146 args) w := callFunc_in Tryz.func146 (by kernel_rfl) (by kernel_rfl) args w
theorem fok147 (args : Array Value) (w : World) : (callFunc 147 args).run Tryz.prog w = .ok (.enter 147 args) w := callFunc_in Tryz.func147 (by kernel_rfl) (by kernel_rfl) args w
theorem fok148 (args : Array Value) (w : World) : (callFunc 148 args).run Tryz.prog w = .ok (.enter 148 args) w := callFunc_in Tryz.func148 (by kernel_rfl) (by kernel_rfl) args w
theorem fok149 (args : Array Value) (w : World) : (callFunc 149 args).run Tryz.prog w = .ok (.enter 149 args) w := callFunc_in Tryz.func149 (by kernel_rfl) (by kernel_rfl) args w
theorem fok150 (args : Array Value) (w : World) : (callFunc 150 args).run Tryz.prog w = .ok (.enter 150 args) w := callFunc_in Tryz.func150 (by kernel_rfl) (by kernel_rfl) args w
theorem fok151 (args : Array Value) (w : World) : (callFunc 151 args).run Tryz.prog w = .ok (.enter 151 args) w := callFunc_in Tryz.func151 (by kernel_rfl) (by kernel_rfl) args w
theorem fok152 (args : Array Value) (w : World) : (callFunc 152 args).run Tryz.prog w = .ok (.enter 152 args) w := callFunc_in Tryz.func152 (by kernel_rfl) (by kernel_rfl) args w
theorem fok153 (args : Array Value) (w : World) : (callFunc 153 args).run Tryz.prog w = .ok (.enter 153 args) w := callFunc_in Tryz.func153 (by kernel_rfl) (by kernel_rfl) args w
theorem fok154 (args : Array Value) (w : World) : (callFunc 154 args).run Tryz.prog w = .ok (.enter 154 args) w := callFunc_in Tryz.func154 (by kernel_rfl) (by kernel_rfl) args w
theorem fok155 (args : Array Value) (w : World) : (callFunc 155 args).run Tryz.prog w = .ok (.enter 155 args) w := callFunc_in Tryz.func155 (by kernel_rfl) (by kernel_rfl) args w
theorem fok156 (args : Array Value) (w : World) : (callFunc 156 args).run Tryz.prog w = .ok (.enter 156 args) w := callFunc_in Tryz.func156 (by kernel_rfl) (by kernel_rfl) args w
theorem fok157 (args : Array Value) (w : World) : (callFunc 157 args).run Tryz.prog w = .ok (.enter 157 args) w := callFunc_in Tryz.func157 (by kernel_rfl) (by kernel_rfl) args w
theorem fok158 (args : Array Value) (w : World) : (callFunc 158 args).run Tryz.prog w = .ok (.enter 158 args) w := callFunc_in Tryz.func158 (by kernel_rfl) (by kernel_rfl) args w
theorem fok159 (args : Array Value) (w : World) : (callFunc 159 args).run Tryz.prog w = .ok (.enter 159 args) w := callFunc_in Tryz.func159 (by kernel_rfl) (by kernel_rfl) args w
theorem fok160 (args : Array Value) (w : World) : (callFunc 160 args).run Tryz.prog w = .ok (.enter 160 args) w := callFunc_in Tryz.func160 (by kernel_rfl) (by kernel_rfl) args w
theorem fok161 (args : Array Value) (w : World) : (callFunc 161 args).run Tryz.prog w = .ok (.enter 161 args) w := callFunc_in Tryz.func161 (by kernel_rfl) (by kernel_rfl) args w
theorem fok162 (args : Array Value) (w : World) : (callFunc 162 args).run Tryz.prog w = .ok (.enter 162 args) w := callFunc_in Tryz.func162 (by kernel_rfl) (by kernel_rfl) args w
theorem fok163 (args : Array Value) (w : World) : (callFunc 163 args).run Tryz.prog w = .ok (.enter 163 args) w := callFunc_in Tryz.func163 (by kernel_rfl) (by kernel_rfl) args w
theorem fok164 (args : Array Value) (w : World) : (callFunc 164 args).run Tryz.prog w = .ok (.enter 164 args) w := callFunc_in Tryz.func164 (by kernel_rfl) (by kernel_rfl) args w
theorem fok165 (args : Array Value) (w : World) : (callFunc 165 args).run Tryz.prog w = .ok (.enter 165 args) w := callFunc_in Tryz.func165 (by kernel_rfl) (by kernel_rfl) args w
theorem fok166 (args : Array Value) (w : World) : (callFunc 166 args).run Tryz.prog w = .ok (.enter 166 args) w := callFunc_in Tryz.func166 (by kernel_rfl) (by kernel_rfl) args w
theorem fok167 (args : Array Value) (w : World) : (callFunc 167 args).run Tryz.prog w = .ok (.enter 167 args) w := callFunc_in Tryz.func167 (by kernel_rfl) (by kernel_rfl) args w
theorem fok168 (args : Array Value) (w : World) : (callFunc 168 args).run Tryz.prog w = .ok (.enter 168 args) w := callFunc_in Tryz.func168 (by kernel_rfl) (by kernel_rfl) args w
theorem fok169 (args : Array Value) (w : World) : (callFunc 169 args).run Tryz.prog w = .ok (.enter 169 args) w := callFunc_in Tryz.func169 (by kernel_rfl) (by kernel_rfl) args w
theorem fok170 (args : Array Value) (w : World) : (callFunc 170 args).run Tryz.prog w = .ok (.enter 170 args) w := callFunc_in Tryz.func170 (by kernel_rfl) (by kernel_rfl) args w
theorem fok171 (args : Array Value) (w : World) : (callFunc 171 args).run Tryz.prog w = .ok (.enter 171 args) w := callFunc_in Tryz.func171 (by kernel_rfl) (by kernel_rfl) args w
theorem fok172 (args : Array Value) (w : World) : (callFunc 172 args).run Tryz.prog w = .ok (.enter 172 args) w := callFunc_in Tryz.func172 (by kernel_rfl) (by kernel_rfl) args w
theorem fok173 (args : Array Value) (w : World) : (callFunc 173 args).run Tryz.prog w = .ok (.enter 173 args) w := callFunc_in Tryz.func173 (by kernel_rfl) (by kernel_rfl) args w
def fns : List Nat := [3, 4, 5, 6, 7, 8, 9, 10, 11, 12, 13, 14, 15, 16, 17, 18, 19, 20, 21, 22, 23, 24, 25, 26, 27, 28, 29, 30, 31, 32, 33, 34, 35, 36, 37, 38, 39, 40, 41, 42, 43, 44, 45, 46, 47, 48, 49, 50, 51, 52, 53, 54, 55, 56, 57, 58, 59, 60, 61, 62, 63, 64, 65, 66, 67, 68, 69, 70, 71, 72, 73, 74, 75, 76, 77, 78, 79, 80, 81, 82, 83, 84, 85, 86, 87, 88, 89, 90, 91, 92, 93, 94, 95, 96, 97, 98, 99, 100, 101, 102, 103, 104, 105, 106, 107, 108, 109, 110, 111, 112, 113, 114, 115, 116, 117, 118, 119, 120, 121, 122, 123, 124, 125, 126, 127, 128, 129, 130, 131, 132, 133, 134, 135, 136, 137, 138, 139, 140, 141, 142, 143, 144, 145, 146, 147, 148, 149, 150, 151, 152, 153, 154, 155, 156, 157, 158, 159, 160, 161, 162, 163, 164, 165, 166, 167, 168, 169, 170, 171, 172, 173]
theorem fns_ok : AllF Tryz.prog fns := ⟨fok3, fok4, fok5, fok6, fok7, fok8, fok9, fok10, fok11, fok12, fok13, fok14, fok15, fok16, fok17, fok18, fok19, fok20, fok21, fok22, fok23, fok24, fok25, fok26, fok27, fok28, fok29, fok30, fok31, fok32, fok33, fok34, fok35, fok36, fok37, fok38, fok39, fok40, fok41, fok42, fok43, fok44, fok45, fok46, fok47, fok48, fok49, fok50, fok51, fok52, fok53, fok54, fok55, fok56, fok57, fok58, fok59, fok60, fok61, fok62, fok63, fok64, fok65, fok66, fok67, fok68, fok69, fok70, fok71, fok72, fok73, fok74, fok75, fok76, fok77, fok78, fok79, fok80, fok81, fok82, fok83, fok84, fok85, fok86, fok87, fok88, fok89, fok90, fok91, fok92, fok93, fok94, fok95, fok96, fok97, fok98, fok99, fok100, fok101, fok102, fok103, fok104, fok105, fok106, fok107, fok108, fok109, fok110, fok111, fok112, fok113, fok114, fok115, fok116, fok117, fok118, fok119, fok120, fok121, fok122, fok123, fok124, fok125, fok126, fok127, fok128, fok129, fok130, fok131, fok132, fok133, fok134, fok135, fok136, fok137, fok138, fok139, fok140, fok141, fok142, fok143, fok144, fok145, fok146, fok147, fok148, fok149, fok150, fok151, fok152, fok153, fok154, fok155, fok156, fok157, fok158, fok159, fok160, fok161, fok162, fok163, fok164, fok165, fok166, fok167, fok168, fok169, fok170, fok171, fok172, fok173, trivial⟩
def env : Env Tryz.prog := Env.of tys tys_ok fns fns_ok
theorem mixed : Tryz.prog.follows .mixedOrders = true := by kernel_rfl
noncomputable def body3 : Code := Tryz.f3.body.getD .skip
theorem has3 : Tryz.f3.body = some body3 := by kernel_rfl
noncomputable def body4 : Code := Tryz.f4.body.getD .skip
theorem has4 : Tryz.f4.body = some body4 := by kernel_rfl
noncomputable def body5 : Code := Tryz.f5.body.getD .skip
theorem has5 : Tryz.f5.body = some body5 := by kernel_rfl
noncomputable def body6 : Code := Tryz.f6.body.getD .skip
theorem has6 : Tryz.f6.body = some body6 := by kernel_rfl
noncomputable def body7 : Code := Tryz.f7.body.getD .skip
theorem has7 : Tryz.f7.body = some body7 := by kernel_rfl
noncomputable def body8 : Code := Tryz.f8.body.getD .skip
theorem has8 : Tryz.f8.body = some body8 := by kernel_rfl
noncomputable def body9 : Code := Tryz.f9.body.getD .skip
theorem has9 : Tryz.f9.body = some body9 := by kernel_rfl
noncomputable def body10 : Code := Tryz.f10.body.getD .skip
theorem has10 : Tryz.f10.body = some body10 := by kernel_rfl
noncomputable def body11 : Code := Tryz.f11.body.getD .skip
theorem has11 : Tryz.f11.body = some body11 := by kernel_rfl
noncomputable def body12 : Code := Tryz.f12.body.getD .skip
theorem has12 : Tryz.f12.body = some body12 := by kernel_rfl
noncomputable def body13 : Code := Tryz.f13.body.getD .skip
theorem has13 : Tryz.f13.body = some body13 := by kernel_rfl
noncomputable def body14 : Code := Tryz.f14.body.getD .skip
theorem has14 : Tryz.f14.body = some body14 := by kernel_rfl
noncomputable def body15 : Code := Tryz.f15.body.getD .skip
theorem has15 : Tryz.f15.body = some body15 := by kernel_rfl
noncomputable def body16 : Code := Tryz.f16.body.getD .skip
theorem has16 : Tryz.f16.body = some body16 := by kernel_rfl
noncomputable def body17 : Code := Tryz.f17.body.getD .skip
theorem has17 : Tryz.f17.body = some body17 := by kernel_rfl
noncomputable def body18 : Code := Tryz.f18.body.getD .skip
theorem has18 : Tryz.f18.body = some body18 := by kernel_rfl
noncomputable def body19 : Code := Tryz.f19.body.getD .skip
theorem has19 : Tryz.f19.body = some body19 := by kernel_rfl
noncomputable def body20 : Code := Tryz.f20.body.getD .skip
theorem has20 : Tryz.f20.body = some body20 := by kernel_rfl
noncomputable def body21 : Code := Tryz.f21.body.getD .skip
theorem has21 : Tryz.f21.body = some body21 := by kernel_rfl
noncomputable def body22 : Code := Tryz.f22.body.getD .skip
theorem has22 : Tryz.f22.body = some body22 := by kernel_rfl
noncomputable def body23 : Code := Tryz.f23.body.getD .skip
theorem has23 : Tryz.f23.body = some body23 := by kernel_rfl
noncomputable def body24 : Code := Tryz.f24.body.getD .skip
theorem has24 : Tryz.f24.body = some body24 := by kernel_rfl
noncomputable def body25 : Code := Tryz.f25.body.getD .skip
theorem has25 : Tryz.f25.body = some body25 := by kernel_rfl
noncomputable def body26 : Code := Tryz.f26.body.getD .skip
theorem has26 : Tryz.f26.body = some body26 := by kernel_rfl
noncomputable def body27 : Code := Tryz.f27.body.getD .skip
theorem has27 : Tryz.f27.body = some body27 := by kernel_rfl
noncomputable def body28 : Code := Tryz.f28.body.getD .skip
theorem has28 : Tryz.f28.body = some body28 := by kernel_rfl
noncomputable def body29 : Code := Tryz.f29.body.getD .skip
theorem has29 : Tryz.f29.body = some body29 := by kernel_rfl
noncomputable def body30 : Code := Tryz.f30.body.getD .skip
theorem has30 : Tryz.f30.body = some body30 := by kernel_rfl
noncomputable def body31 : Code := Tryz.f31.body.getD .skip
theorem has31 : Tryz.f31.body = some body31 := by kernel_rfl
noncomputable def body32 : Code := Tryz.f32.body.getD .skip
theorem has32 : Tryz.f32.body = some body32 := by kernel_rfl
noncomputable def body33 : Code := Tryz.f33.body.getD .skip
theorem has33 : Tryz.f33.body = some body33 := by kernel_rfl
noncomputable def body34 : Code := Tryz.f34.body.getD .skip
theorem has34 : Tryz.f34.body = some body34 := by kernel_rfl
noncomputable def body35 : Code := Tryz.f35.body.getD .skip
theorem has35 : Tryz.f35.body = some body35 := by kernel_rfl
noncomputable def body36 : Code := Tryz.f36.body.getD .skip
theorem has36 : Tryz.f36.body = some body36 := by kernel_rfl
noncomputable def body37 : Code := Tryz.f37.body.getD .skip
theorem has37 : Tryz.f37.body = some body37 := by kernel_rfl
noncomputable def body38 : Code := Tryz.f38.body.getD .skip
theorem has38 : Tryz.f38.body = some body38 := by kernel_rfl
noncomputable def body39 : Code := Tryz.f39.body.getD .skip
theorem has39 : Tryz.f39.body = some body39 := by kernel_rfl
noncomputable def body40 : Code := Tryz.f40.body.getD .skip
theorem has40 : Tryz.f40.body = some body40 := by kernel_rfl
noncomputable def body41 : Code := Tryz.f41.body.getD .skip
theorem has41 : Tryz.f41.body = some body41 := by kernel_rfl
noncomputable def body42 : Code := Tryz.f42.body.getD .skip
theorem has42 : Tryz.f42.body = some body42 := by kernel_rfl
noncomputable def body43 : Code := Tryz.f43.body.getD .skip
theorem has43 : Tryz.f43.body = some body43 := by kernel_rfl
noncomputable def body44 : Code := Tryz.f44.body.getD .skip
theorem has44 : Tryz.f44.body = some body44 := by kernel_rfl
noncomputable def body45 : Code := Tryz.f45.body.getD .skip
theorem has45 : Tryz.f45.body = some body45 := by kernel_rfl
noncomputable def body46 : Code := Tryz.f46.body.getD .skip
theorem has46 : Tryz.f46.body = some body46 := by kernel_rfl
noncomputable def body47 : Code := Tryz.f47.body.getD .skip
theorem has47 : Tryz.f47.body = some body47 := by kernel_rfl
noncomputable def body48 : Code := Tryz.f48.body.getD .skip
theorem has48 : Tryz.f48.body = some body48 := by kernel_rfl
noncomputable def body49 : Code := Tryz.f49.body.getD .skip
theorem has49 : Tryz.f49.body = some body49 := by kernel_rfl
noncomputable def body50 : Code := Tryz.f50.body.getD .skip
theorem has50 : Tryz.f50.body = some body50 := by kernel_rfl
noncomputable def body51 : Code := Tryz.f51.body.getD .skip
theorem has51 : Tryz.f51.body = some body51 := by kernel_rfl
noncomputable def body52 : Code := Tryz.f52.body.getD .skip
theorem has52 : Tryz.f52.body = some body52 := by kernel_rfl
noncomputable def body53 : Code := Tryz.f53.body.getD .skip
theorem has53 : Tryz.f53.body = some body53 := by kernel_rfl
noncomputable def body54 : Code := Tryz.f54.body.getD .skip
theorem has54 : Tryz.f54.body = some body54 := by kernel_rfl
noncomputable def body55 : Code := Tryz.f55.body.getD .skip
theorem has55 : Tryz.f55.body = some body55 := by kernel_rfl
noncomputable def body56 : Code := Tryz.f56.body.getD .skip
theorem has56 : Tryz.f56.body = some body56 := by kernel_rfl
noncomputable def body57 : Code := Tryz.f57.body.getD .skip
theorem has57 : Tryz.f57.body = some body57 := by kernel_rfl
noncomputable def body58 : Code := Tryz.f58.body.getD .skip
theorem has58 : Tryz.f58.body = some body58 := by kernel_rfl
noncomputable def body59 : Code := Tryz.f59.body.getD .skip
theorem has59 : Tryz.f59.body = some body59 := by kernel_rfl
noncomputable def body60 : Code := Tryz.f60.body.getD .skip
theorem has60 : Tryz.f60.body = some body60 := by kernel_rfl
noncomputable def body61 : Code := Tryz.f61.body.getD .skip
theorem has61 : Tryz.f61.body = some body61 := by kernel_rfl
noncomputable def body62 : Code := Tryz.f62.body.getD .skip
theorem has62 : Tryz.f62.body = some body62 := by kernel_rfl
noncomputable def body63 : Code := Tryz.f63.body.getD .skip
theorem has63 : Tryz.f63.body = some body63 := by kernel_rfl
noncomputable def body64 : Code := Tryz.f64.body.getD .skip
theorem has64 : Tryz.f64.body = some body64 := by kernel_rfl
noncomputable def body65 : Code := Tryz.f65.body.getD .skip
theorem has65 : Tryz.f65.body = some body65 := by kernel_rfl
noncomputable def body66 : Code := Tryz.f66.body.getD .skip
theorem has66 : Tryz.f66.body = some body66 := by kernel_rfl
noncomputable def body67 : Code := Tryz.f67.body.getD .skip
theorem has67 : Tryz.f67.body = some body67 := by kernel_rfl
noncomputable def body68 : Code := Tryz.f68.body.getD .skip
theorem has68 : Tryz.f68.body = some body68 := by kernel_rfl
noncomputable def body69 : Code := Tryz.f69.body.getD .skip
theorem has69 : Tryz.f69.body = some body69 := by kernel_rfl
noncomputable def body70 : Code := Tryz.f70.body.getD .skip
theorem has70 : Tryz.f70.body = some body70 := by kernel_rfl
noncomputable def body71 : Code := Tryz.f71.body.getD .skip
theorem has71 : Tryz.f71.body = some body71 := by kernel_rfl
noncomputable def body72 : Code := Tryz.f72.body.getD .skip
theorem has72 : Tryz.f72.body = some body72 := by kernel_rfl
noncomputable def body73 : Code := Tryz.f73.body.getD .skip
theorem has73 : Tryz.f73.body = some body73 := by kernel_rfl
noncomputable def body74 : Code := Tryz.f74.body.getD .skip
theorem has74 : Tryz.f74.body = some body74 := by kernel_rfl
noncomputable def body75 : Code := Tryz.f75.body.getD .skip
theorem has75 : Tryz.f75.body = some body75 := by kernel_rfl
noncomputable def body76 : Code := Tryz.f76.body.getD .skip
theorem has76 : Tryz.f76.body = some body76 := by kernel_rfl
noncomputable def body77 : Code := Tryz.f77.body.getD .skip
theorem has77 : Tryz.f77.body = some body77 := by kernel_rfl
noncomputable def body78 : Code := Tryz.f78.body.getD .skip
theorem has78 : Tryz.f78.body = some body78 := by kernel_rfl
noncomputable def body79 : Code := Tryz.f79.body.getD .skip
theorem has79 : Tryz.f79.body = some body79 := by kernel_rfl
noncomputable def body80 : Code := Tryz.f80.body.getD .skip
theorem has80 : Tryz.f80.body = some body80 := by kernel_rfl
noncomputable def body81 : Code := Tryz.f81.body.getD .skip
theorem has81 : Tryz.f81.body = some body81 := by kernel_rfl
noncomputable def body82 : Code := Tryz.f82.body.getD .skip
theorem has82 : Tryz.f82.body = some body82 := by kernel_rfl
noncomputable def body83 : Code := Tryz.f83.body.getD .skip
theorem has83 : Tryz.f83.body = some body83 := by kernel_rfl
noncomputable def body84 : Code := Tryz.f84.body.getD .skip
theorem has84 : Tryz.f84.body = some body84 := by kernel_rfl
noncomputable def body85 : Code := Tryz.f85.body.getD .skip
theorem has85 : Tryz.f85.body = some body85 := by kernel_rfl
noncomputable def body86 : Code := Tryz.f86.body.getD .skip
theorem has86 : Tryz.f86.body = some body86 := by kernel_rfl
noncomputable def body87 : Code := Tryz.f87.body.getD .skip
theorem has87 : Tryz.f87.body = some body87 := by kernel_rfl
noncomputable def body88 : Code := Tryz.f88.body.getD .skip
theorem has88 : Tryz.f88.body = some body88 := by kernel_rfl
noncomputable def body89 : Code := Tryz.f89.body.getD .skip
theorem has89 : Tryz.f89.body = some body89 := by kernel_rfl
noncomputable def body90 : Code := Tryz.f90.body.getD .skip
theorem has90 : Tryz.f90.body = some body90 := by kernel_rfl
noncomputable def body91 : Code := Tryz.f91.body.getD .skip
theorem has91 : Tryz.f91.body = some body91 := by kernel_rfl
noncomputable def body92 : Code := Tryz.f92.body.getD .skip
theorem has92 : Tryz.f92.body = some body92 := by kernel_rfl
noncomputable def body93 : Code := Tryz.f93.body.getD .skip
theorem has93 : Tryz.f93.body = some body93 := by kernel_rfl
noncomputable def body94 : Code := Tryz.f94.body.getD .skip
theorem has94 : Tryz.f94.body = some body94 := by kernel_rfl
noncomputable def body95 : Code := Tryz.f95.body.getD .skip
theorem has95 : Tryz.f95.body = some body95 := by kernel_rfl
noncomputable def body96 : Code := Tryz.f96.body.getD .skip
theorem has96 : Tryz.f96.body = some body96 := by kernel_rfl
noncomputable def body97 : Code := Tryz.f97.body.getD .skip
theorem has97 : Tryz.f97.body = some body97 := by kernel_rfl
noncomputable def body98 : Code := Tryz.f98.body.getD .skip
theorem has98 : Tryz.f98.body = some body98 := by kernel_rfl
noncomputable def body99 : Code := Tryz.f99.body.getD .skip
theorem has99 : Tryz.f99.body = some body99 := by kernel_rfl
noncomputable def body100 : Code := Tryz.f100.body.getD .skip
theorem has100 : Tryz.f100.body = some body100 := by kernel_rfl
noncomputable def body101 : Code := Tryz.f101.body.getD .skip
theorem has101 : Tryz.f101.body = some body101 := by kernel_rfl
noncomputable def body102 : Code := Tryz.f102.body.getD .skip
theorem has102 : Tryz.f102.body = some body102 := by kernel_rfl
noncomputable def body103 : Code := Tryz.f103.body.getD .skip
theorem has103 : Tryz.f103.body = some body103 := by kernel_rfl
noncomputable def body104 : Code := Tryz.f104.body.getD .skip
theorem has104 : Tryz.f104.body = some body104 := by kernel_rfl
noncomputable def body105 : Code := Tryz.f105.body.getD .skip
theorem has105 : Tryz.f105.body = some body105 := by kernel_rfl
noncomputable def body106 : Code := Tryz.f106.body.getD .skip
theorem has106 : Tryz.f106.body = some body106 := by kernel_rfl
noncomputable def body107 : Code := Tryz.f107.body.getD .skip
theorem has107 : Tryz.f107.body = some body107 := by kernel_rfl
noncomputable def body108 : Code := Tryz.f108.body.getD .skip
theorem has108 : Tryz.f108.body = some body108 := by kernel_rfl
noncomputable def body109 : Code := Tryz.f109.body.getD .skip
theorem has109 : Tryz.f109.body = some body109 := by kernel_rfl
noncomputable def body110 : Code := Tryz.f110.body.getD .skip
theorem has110 : Tryz.f110.body = some body110 := by kernel_rfl
noncomputable def body111 : Code := Tryz.f111.body.getD .skip
theorem has111 : Tryz.f111.body = some body111 := by kernel_rfl
noncomputable def body112 : Code := Tryz.f112.body.getD .skip
theorem has112 : Tryz.f112.body = some body112 := by kernel_rfl
noncomputable def body113 : Code := Tryz.f113.body.getD .skip
theorem has113 : Tryz.f113.body = some body113 := by kernel_rfl
noncomputable def body114 : Code := Tryz.f114.body.getD .skip
theorem has114 : Tryz.f114.body = some body114 := by kernel_rfl
noncomputable def body115 : Code := Tryz.f115.body.getD .skip
theorem has115 : Tryz.f115.body = some body115 := by kernel_rfl
noncomputable def body116 : Code := Tryz.f116.body.getD .skip
theorem has116 : Tryz.f116.body = some body116 := by kernel_rfl
noncomputable def body117 : Code := Tryz.f117.body.getD .skip
theorem has117 : Tryz.f117.body = some body117 := by kernel_rfl
noncomputable def body118 : Code := Tryz.f118.body.getD .skip
theorem has118 : Tryz.f118.body = some body118 := by kernel_rfl
noncomputable def body119 : Code := Tryz.f119.body.getD .skip
theorem has119 : Tryz.f119.body = some body119 := by kernel_rfl
noncomputable def body120 : Code := Tryz.f120.body.getD .skip
theorem has120 : Tryz.f120.body = some body120 := by kernel_rfl
noncomputable def body121 : Code := Tryz.f121.body.getD .skip
theorem has121 : Tryz.f121.body = some body121 := by kernel_rfl
noncomputable def body122 : Code := Tryz.f122.body.getD .skip
theorem has122 : Tryz.f122.body = some body122 := by kernel_rfl
noncomputable def body123 : Code := Tryz.f123.body.getD .skip
theorem has123 : Tryz.f123.body = some body123 := by kernel_rfl
noncomputable def body124 : Code := Tryz.f124.body.getD .skip
theorem has124 : Tryz.f124.body = some body124 := by kernel_rfl
noncomputable def body125 : Code := Tryz.f125.body.getD .skip
theorem has125 : Tryz.f125.body = some body125 := by kernel_rfl
noncomputable def body126 : Code := Tryz.f126.body.getD .skip
theorem has126 : Tryz.f126.body = some body126 := by kernel_rfl
noncomputable def body127 : Code := Tryz.f127.body.getD .skip
theorem has127 : Tryz.f127.body = some body127 := by kernel_rfl
noncomputable def body128 : Code := Tryz.f128.body.getD .skip
theorem has128 : Tryz.f128.body = some body128 := by kernel_rfl
noncomputable def body129 : Code := Tryz.f129.body.getD .skip
theorem has129 : Tryz.f129.body = some body129 := by kernel_rfl
noncomputable def body130 : Code := Tryz.f130.body.getD .skip
theorem has130 : Tryz.f130.body = some body130 := by kernel_rfl
noncomputable def body131 : Code := Tryz.f131.body.getD .skip
theorem has131 : Tryz.f131.body = some body131 := by kernel_rfl
noncomputable def body132 : Code := Tryz.f132.body.getD .skip
theorem has132 : Tryz.f132.body = some body132 := by kernel_rfl
noncomputable def body133 : Code := Tryz.f133.body.getD .skip
theorem has133 : Tryz.f133.body = some body133 := by kernel_rfl
noncomputable def body134 : Code := Tryz.f134.body.getD .skip
theorem has134 : Tryz.f134.body = some body134 := by kernel_rfl
noncomputable def body135 : Code := Tryz.f135.body.getD .skip
theorem has135 : Tryz.f135.body = some body135 := by kernel_rfl
noncomputable def body136 : Code := Tryz.f136.body.getD .skip
theorem has136 : Tryz.f136.body = some body136 := by kernel_rfl
noncomputable def body137 : Code := Tryz.f137.body.getD .skip
theorem has137 : Tryz.f137.body = some body137 := by kernel_rfl
noncomputable def body138 : Code := Tryz.f138.body.getD .skip
theorem has138 : Tryz.f138.body = some body138 := by kernel_rfl
noncomputable def body139 : Code := Tryz.f139.body.getD .skip
theorem has139 : Tryz.f139.body = some body139 := by kernel_rfl
noncomputable def body140 : Code := Tryz.f140.body.getD .skip
theorem has140 : Tryz.f140.body = some body140 := by kernel_rfl
noncomputable def body141 : Code := Tryz.f141.body.getD .skip
theorem has141 : Tryz.f141.body = some body141 := by kernel_rfl
noncomputable def body142 : Code := Tryz.f142.body.getD .skip
theorem has142 : Tryz.f142.body = some body142 := by kernel_rfl
noncomputable def body143 : Code := Tryz.f143.body.getD .skip
theorem has143 : Tryz.f143.body = some body143 := by kernel_rfl
noncomputable def body144 : Code := Tryz.f144.body.getD .skip
theorem has144 : Tryz.f144.body = some body144 := by kernel_rfl
noncomputable def body145 : Code := Tryz.f145.body.getD .skip
theorem has145 : Tryz.f145.body = some body145 := by kernel_rfl
noncomputable def body146 : Code := Tryz.f146.body.getD .skip
theorem has146 : Tryz.f146.body = some body146 := by kernel_rfl
noncomputable def body147 : Code := Tryz.f147.body.getD .skip
theorem has147 : Tryz.f147.body = some body147 := by kernel_rfl
noncomputable def body148 : Code := Tryz.f148.body.getD .skip
theorem has148 : Tryz.f148.body = some body148 := by kernel_rfl
noncomputable def body149 : Code := Tryz.f149.body.getD .skip
theorem has149 : Tryz.f149.body = some body149 := by kernel_rfl
noncomputable def body150 : Code := Tryz.f150.body.getD .skip
theorem has150 : Tryz.f150.body = some body150 := by kernel_rfl
noncomputable def body151 : Code := Tryz.f151.body.getD .skip
theorem has151 : Tryz.f151.body = some body151 := by kernel_rfl
noncomputable def body152 : Code := Tryz.f152.body.getD .skip
theorem has152 : Tryz.f152.body = some body152 := by kernel_rfl
noncomputable def body153 : Code := Tryz.f153.body.getD .skip
theorem has153 : Tryz.f153.body = some body153 := by kernel_rfl
noncomputable def body154 : Code := Tryz.f154.body.getD .skip
theorem has154 : Tryz.f154.body = some body154 := by kernel_rfl
noncomputable def body155 : Code := Tryz.f155.body.getD .skip
theorem has155 : Tryz.f155.body = some body155 := by kernel_rfl
noncomputable def body156 : Code := Tryz.f156.body.getD .skip
theorem has156 : Tryz.f156.body = some body156 := by kernel_rfl
noncomputable def body157 : Code := Tryz.f157.body.getD .skip
theorem has157 : Tryz.f157.body = some body157 := by kernel_rfl
noncomputable def body158 : Code := Tryz.f158.body.getD .skip
theorem has158 : Tryz.f158.body = some body158 := by kernel_rfl
noncomputable def body159 : Code := Tryz.f159.body.getD .skip
theorem has159 : Tryz.f159.body = some body159 := by kernel_rfl
noncomputable def body160 : Code := Tryz.f160.body.getD .skip
theorem has160 : Tryz.f160.body = some body160 := by kernel_rfl
noncomputable def body161 : Code := Tryz.f161.body.getD .skip
theorem has161 : Tryz.f161.body = some body161 := by kernel_rfl
noncomputable def body162 : Code := Tryz.f162.body.getD .skip
theorem has162 : Tryz.f162.body = some body162 := by kernel_rfl
noncomputable def body163 : Code := Tryz.f163.body.getD .skip
theorem has163 : Tryz.f163.body = some body163 := by kernel_rfl
noncomputable def body164 : Code := Tryz.f164.body.getD .skip
theorem has164 : Tryz.f164.body = some body164 := by kernel_rfl
noncomputable def body165 : Code := Tryz.f165.body.getD .skip
theorem has165 : Tryz.f165.body = some body165 := by kernel_rfl
noncomputable def body166 : Code := Tryz.f166.body.getD .skip
theorem has166 : Tryz.f166.body = some body166 := by kernel_rfl
noncomputable def body167 : Code := Tryz.f167.body.getD .skip
theorem has167 : Tryz.f167.body = some body167 := by kernel_rfl
noncomputable def body168 : Code := Tryz.f168.body.getD .skip
theorem has168 : Tryz.f168.body = some body168 := by kernel_rfl
noncomputable def body169 : Code := Tryz.f169.body.getD .skip
theorem has169 : Tryz.f169.body = some body169 := by kernel_rfl
noncomputable def body170 : Code := Tryz.f170.body.getD .skip
theorem has170 : Tryz.f170.body = some body170 := by kernel_rfl
noncomputable def body171 : Code := Tryz.f171.body.getD .skip
theorem has171 : Tryz.f171.body = some body171 := by kernel_rfl
noncomputable def body172 : Code := Tryz.f172.body.getD .skip
theorem has172 : Tryz.f172.body = some body172 := by kernel_rfl
noncomputable def body173 : Code := Tryz.f173.body.getD .skip
theorem has173 : Tryz.f173.body = some body173 := by kernel_rfl
end Go.Proofs.YtkbfcofifhngfaaGreat
