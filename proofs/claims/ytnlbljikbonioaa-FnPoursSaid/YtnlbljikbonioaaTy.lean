/- The types of this program, as the engine reads them; written by a program. -/
import Derived.Test.YtnlbljikbonioaaEvl
namespace Go.Proofs.Ytnlbljikbonioaa
open Go Go.RowKit

def tys : Tys := fun t => match t with
  | 1 => ⟨.sca, 1, 8, .non⟩
  | 2 => ⟨.int, 1, 8, .int 0⟩
  | 3 => ⟨.int, 1, 8, .int 0⟩
  | 4 => ⟨.bool, 1, 1, .bool false⟩
  | 5 => ⟨.num .u8, 1, 1, .lit (.int .u8 0)⟩
  | 6 => ⟨.num .u8, 1, 1, .lit (.int .u8 0)⟩
  | 7 => ⟨.str [(0, 2), (1, 3), (2, 4), (3, 6)], 4, 24, .stc [.int 0, .int 0, .bool false, .lit (.int .u8 0)]⟩
  | 8 => ⟨.str [(0, 2), (1, 3), (2, 4), (3, 6)], 4, 24, .stc [.int 0, .int 0, .bool false, .lit (.int .u8 0)]⟩
  | 12 => ⟨.num .u64, 1, 8, .lit (.int .u64 0)⟩
  | 13 => ⟨.str [(0, 9), (1, 12)], 2, 24, .non⟩
  | 14 => ⟨.str [(0, 9), (1, 12)], 2, 24, .non⟩
  | 15 => ⟨.sca, 1, 8, .non⟩
  | 16 => ⟨.sca, 1, 8, .non⟩
  | 17 => ⟨.sca, 1, 8, .non⟩
  | 18 => ⟨.str [(0, 17)], 1, 8, .stc [.lit (.pointer none)]⟩
  | 19 => ⟨.str [(0, 17)], 1, 8, .stc [.lit (.pointer none)]⟩
  | 21 => ⟨.num .i32, 1, 4, .lit (.int .i32 0)⟩
  | 22 => ⟨.sl 5, 1, 24, .nils⟩
  | 23 => ⟨.sca, 1, 8, .non⟩
  | 24 => ⟨.arr 4 3, 4, 32, .arr (List.replicate 4 0)⟩
  | 25 => ⟨.arr 6 24, 24, 192, .arr (List.replicate 24 0)⟩
  | 26 => ⟨.str [(0, 25)], 24, 192, .arr (List.replicate 24 0)⟩
  | 27 => ⟨.str [(0, 25)], 24, 192, .arr (List.replicate 24 0)⟩
  | 29 => ⟨.sca, 1, 8, .non⟩
  | 31 => ⟨.sca, 1, 8, .non⟩
  | 33 => ⟨.sca, 1, 8, .non⟩
  | 34 => ⟨.sl 44, 1, 24, .nils⟩
  | 36 => ⟨.sca, 1, 8, .non⟩
  | 37 => ⟨.sca, 1, 8, .non⟩
  | 38 => ⟨.sca, 1, 8, .non⟩
  | 39 => ⟨.sca, 1, 8, .non⟩
  | 40 => ⟨.arr 6 3, 6, 48, .arr (List.replicate 6 0)⟩
  | 42 => ⟨.sca, 1, 8, .non⟩
  | 43 => ⟨.sca, 1, 8, .non⟩
  | 44 => ⟨.arr 2 3, 2, 16, .arr (List.replicate 2 0)⟩
  | 46 => ⟨.sca, 1, 8, .non⟩
  | 48 => ⟨.sca, 1, 8, .non⟩
  | 49 => ⟨.arr 3 3, 3, 24, .arr (List.replicate 3 0)⟩
  | 51 => ⟨.sca, 1, 8, .non⟩
  | 52 => ⟨.sca, 1, 8, .non⟩
  | 53 => ⟨.sl 3, 1, 24, .nils⟩
  | 55 => ⟨.sca, 1, 8, .non⟩
  | 56 => ⟨.sca, 1, 8, .non⟩
  | 57 => ⟨.sca, 1, 8, .non⟩
  | 59 => ⟨.sca, 1, 8, .non⟩
  | 60 => ⟨.sca, 1, 8, .non⟩
  | 62 => ⟨.sca, 1, 8, .non⟩
  | 63 => ⟨.sca, 1, 8, .non⟩
  | 64 => ⟨.sca, 1, 8, .non⟩
  | 65 => ⟨.sca, 1, 8, .non⟩
  | 66 => ⟨.sca, 1, 8, .non⟩
  | 67 => ⟨.sca, 1, 8, .non⟩
  | 69 => ⟨.sca, 1, 8, .non⟩
  | 70 => ⟨.sca, 1, 8, .non⟩
  | 71 => ⟨.sca, 1, 8, .non⟩
  | 72 => ⟨.sca, 1, 8, .non⟩
  | 73 => ⟨.sl 24, 1, 24, .nils⟩
  | 74 => ⟨.sca, 1, 8, .non⟩
  | 75 => ⟨.sca, 1, 8, .non⟩
  | 76 => ⟨.sca, 1, 8, .non⟩
  | 78 => ⟨.sca, 1, 8, .non⟩
  | 79 => ⟨.sca, 1, 8, .non⟩
  | 80 => ⟨.sca, 1, 8, .non⟩
  | 81 => ⟨.sca, 1, 8, .non⟩
  | 82 => ⟨.sca, 1, 8, .non⟩
  | 83 => ⟨.num .u64, 1, 8, .lit (.int .u64 0)⟩
  | 84 => ⟨.str [(0, 22), (1, 3), (2, 83)], 3, 40, .stc [.nils, .int 0, .lit (.int .u64 0)]⟩
  | 85 => ⟨.str [(0, 22), (1, 3), (2, 83)], 3, 40, .stc [.nils, .int 0, .lit (.int .u64 0)]⟩
  | 86 => ⟨.sca, 1, 8, .non⟩
  | 87 => ⟨.sca, 1, 8, .non⟩
  | 88 => ⟨.sca, 1, 8, .non⟩
  | 89 => ⟨.sca, 1, 8, .non⟩
  | 90 => ⟨.sca, 1, 8, .non⟩
  | 91 => ⟨.sl 27, 1, 24, .nils⟩
  | 92 => ⟨.mp 27 4, 1, 8, .non⟩
  | 93 => ⟨.sca, 1, 8, .non⟩
  | 94 => ⟨.sca, 1, 8, .non⟩
  | 95 => ⟨.sca, 1, 8, .non⟩
  | 96 => ⟨.sca, 1, 8, .non⟩
  | 97 => ⟨.sca, 1, 8, .non⟩
  | 99 => ⟨.sca, 1, 8, .non⟩
  | 100 => ⟨.sca, 1, 8, .non⟩
  | 101 => ⟨.sca, 1, 8, .non⟩
  | 102 => ⟨.sca, 1, 8, .non⟩
  | 103 => ⟨.sca, 1, 8, .non⟩
  | 104 => ⟨.sca, 1, 8, .non⟩
  | 105 => ⟨.sca, 1, 8, .non⟩
  | 106 => ⟨.sca, 1, 8, .non⟩
  | 107 => ⟨.sca, 1, 8, .non⟩
  | 108 => ⟨.arr 6 4, 6, 6, .barr (List.replicate 6 false)⟩
  | 109 => ⟨.sca, 1, 8, .non⟩
  | 110 => ⟨.sca, 1, 8, .non⟩
  | 111 => ⟨.sca, 1, 8, .non⟩
  | 112 => ⟨.sca, 1, 8, .non⟩
  | 113 => ⟨.sca, 1, 8, .non⟩
  | 114 => ⟨.num .u64, 1, 8, .lit (.int .u64 0)⟩
  | 115 => ⟨.sca, 1, 8, .non⟩
  | 116 => ⟨.sca, 1, 8, .non⟩
  | 117 => ⟨.sca, 1, 8, .non⟩
  | 118 => ⟨.sca, 1, 8, .non⟩
  | 119 => ⟨.sca, 1, 8, .non⟩
  | 120 => ⟨.int, 1, 8, .int 0⟩
  | 122 => ⟨.sca, 1, 8, .non⟩
  | 123 => ⟨.sca, 1, 8, .non⟩
  | 124 => ⟨.sca, 1, 8, .non⟩
  | 125 => ⟨.sca, 1, 8, .non⟩
  | 126 => ⟨.sca, 1, 8, .non⟩
  | 127 => ⟨.sca, 1, 8, .non⟩
  | 128 => ⟨.num .u32, 1, 4, .lit (.int .u32 0)⟩
  | 129 => ⟨.sca, 1, 8, .non⟩
  | 130 => ⟨.sca, 1, 8, .non⟩
  | 131 => ⟨.num .u64, 1, 8, .lit (.int .u64 0)⟩
  | 132 => ⟨.sca, 1, 8, .non⟩
  | 133 => ⟨.sca, 1, 8, .non⟩
  | 134 => ⟨.sca, 1, 8, .non⟩
  | 135 => ⟨.sca, 1, 8, .non⟩
  | 136 => ⟨.sca, 1, 8, .non⟩
  | 137 => ⟨.sca, 1, 8, .non⟩
  | 138 => ⟨.sca, 1, 8, .non⟩
  | 139 => ⟨.sca, 1, 8, .non⟩
  | 140 => ⟨.str [(0, 17), (1, 17), (2, 17), (3, 9)], 4, 40, .non⟩
  | 141 => ⟨.str [(0, 17), (1, 17), (2, 17), (3, 9)], 4, 40, .non⟩
  | 142 => ⟨.arr 0 16, 0, 0, .non⟩
  | 143 => ⟨.str [(0, 142)], 0, 0, .non⟩
  | 144 => ⟨.str [(0, 142)], 0, 0, .non⟩
  | 145 => ⟨.num .u8, 1, 1, .lit (.int .u8 0)⟩
  | 146 => ⟨.num .u8, 1, 1, .lit (.int .u8 0)⟩
  | 147 => ⟨.sca, 1, 8, .non⟩
  | 148 => ⟨.sca, 1, 8, .non⟩
  | 149 => ⟨.num .i32, 1, 4, .lit (.int .i32 0)⟩
  | 150 => ⟨.num .i32, 1, 4, .lit (.int .i32 0)⟩
  | 151 => ⟨.str [(0, 12), (1, 12), (2, 128), (3, 145), (4, 5), (5, 5), (6, 146), (7, 147), (8, 148), (9, 149), (10, 150)], 11, 48, .non⟩
  | 152 => ⟨.str [(0, 12), (1, 12), (2, 128), (3, 145), (4, 5), (5, 5), (6, 146), (7, 147), (8, 148), (9, 149), (10, 150)], 11, 48, .non⟩
  | _ => ⟨.other, 0, 0, .non⟩
theorem ty_1 : tys 1 = ⟨.sca, 1, 8, .non⟩ := rfl
theorem ty_2 : tys 2 = ⟨.int, 1, 8, .int 0⟩ := rfl
theorem ty_3 : tys 3 = ⟨.int, 1, 8, .int 0⟩ := rfl
theorem ty_4 : tys 4 = ⟨.bool, 1, 1, .bool false⟩ := rfl
theorem ty_5 : tys 5 = ⟨.num .u8, 1, 1, .lit (.int .u8 0)⟩ := rfl
theorem ty_6 : tys 6 = ⟨.num .u8, 1, 1, .lit (.int .u8 0)⟩ := rfl
theorem ty_7 : tys 7 = ⟨.str [(0, 2), (1, 3), (2, 4), (3, 6)], 4, 24, .stc [.int 0, .int 0, .bool false, .lit (.int .u8 0)]⟩ := rfl
theorem ty_8 : tys 8 = ⟨.str [(0, 2), (1, 3), (2, 4), (3, 6)], 4, 24, .stc [.int 0, .int 0, .bool false, .lit (.int .u8 0)]⟩ := rfl
theorem ty_12 : tys 12 = ⟨.num .u64, 1, 8, .lit (.int .u64 0)⟩ := rfl
theorem ty_13 : tys 13 = ⟨.str [(0, 9), (1, 12)], 2, 24, .non⟩ := rfl
theorem ty_14 : tys 14 = ⟨.str [(0, 9), (1, 12)], 2, 24, .non⟩ := rfl
theorem ty_15 : tys 15 = ⟨.sca, 1, 8, .non⟩ := rfl
theorem ty_16 : tys 16 = ⟨.sca, 1, 8, .non⟩ := rfl
theorem ty_17 : tys 17 = ⟨.sca, 1, 8, .non⟩ := rfl
theorem ty_18 : tys 18 = ⟨.str [(0, 17)], 1, 8, .stc [.lit (.pointer none)]⟩ := rfl
theorem ty_19 : tys 19 = ⟨.str [(0, 17)], 1, 8, .stc [.lit (.pointer none)]⟩ := rfl
theorem ty_21 : tys 21 = ⟨.num .i32, 1, 4, .lit (.int .i32 0)⟩ := rfl
theorem ty_22 : tys 22 = ⟨.sl 5, 1, 24, .nils⟩ := rfl
theorem ty_23 : tys 23 = ⟨.sca, 1, 8, .non⟩ := rfl
theorem ty_24 : tys 24 = ⟨.arr 4 3, 4, 32, .arr (List.replicate 4 0)⟩ := rfl
theorem ty_25 : tys 25 = ⟨.arr 6 24, 24, 192, .arr (List.replicate 24 0)⟩ := rfl
theorem ty_26 : tys 26 = ⟨.str [(0, 25)], 24, 192, .arr (List.replicate 24 0)⟩ := rfl
theorem ty_27 : tys 27 = ⟨.str [(0, 25)], 24, 192, .arr (List.replicate 24 0)⟩ := rfl
theorem ty_29 : tys 29 = ⟨.sca, 1, 8, .non⟩ := rfl
theorem ty_31 : tys 31 = ⟨.sca, 1, 8, .non⟩ := rfl
theorem ty_33 : tys 33 = ⟨.sca, 1, 8, .non⟩ := rfl
theorem ty_34 : tys 34 = ⟨.sl 44, 1, 24, .nils⟩ := rfl
theorem ty_36 : tys 36 = ⟨.sca, 1, 8, .non⟩ := rfl
theorem ty_37 : tys 37 = ⟨.sca, 1, 8, .non⟩ := rfl
theorem ty_38 : tys 38 = ⟨.sca, 1, 8, .non⟩ := rfl
theorem ty_39 : tys 39 = ⟨.sca, 1, 8, .non⟩ := rfl
theorem ty_40 : tys 40 = ⟨.arr 6 3, 6, 48, .arr (List.replicate 6 0)⟩ := rfl
theorem ty_42 : tys 42 = ⟨.sca, 1, 8, .non⟩ := rfl
theorem ty_43 : tys 43 = ⟨.sca, 1, 8, .non⟩ := rfl
theorem ty_44 : tys 44 = ⟨.arr 2 3, 2, 16, .arr (List.replicate 2 0)⟩ := rfl
theorem ty_46 : tys 46 = ⟨.sca, 1, 8, .non⟩ := rfl
theorem ty_48 : tys 48 = ⟨.sca, 1, 8, .non⟩ := rfl
theorem ty_49 : tys 49 = ⟨.arr 3 3, 3, 24, .arr (List.replicate 3 0)⟩ := rfl
theorem ty_51 : tys 51 = ⟨.sca, 1, 8, .non⟩ := rfl
theorem ty_52 : tys 52 = ⟨.sca, 1, 8, .non⟩ := rfl
theorem ty_53 : tys 53 = ⟨.sl 3, 1, 24, .nils⟩ := rfl
theorem ty_55 : tys 55 = ⟨.sca, 1, 8, .non⟩ := rfl
theorem ty_56 : tys 56 = ⟨.sca, 1, 8, .non⟩ := rfl
theorem ty_57 : tys 57 = ⟨.sca, 1, 8, .non⟩ := rfl
theorem ty_59 : tys 59 = ⟨.sca, 1, 8, .non⟩ := rfl
theorem ty_60 : tys 60 = ⟨.sca, 1, 8, .non⟩ := rfl
theorem ty_62 : tys 62 = ⟨.sca, 1, 8, .non⟩ := rfl
theorem ty_63 : tys 63 = ⟨.sca, 1, 8, .non⟩ := rfl
theorem ty_64 : tys 64 = ⟨.sca, 1, 8, .non⟩ := rfl
theorem ty_65 : tys 65 = ⟨.sca, 1, 8, .non⟩ := rfl
theorem ty_66 : tys 66 = ⟨.sca, 1, 8, .non⟩ := rfl
theorem ty_67 : tys 67 = ⟨.sca, 1, 8, .non⟩ := rfl
theorem ty_69 : tys 69 = ⟨.sca, 1, 8, .non⟩ := rfl
theorem ty_70 : tys 70 = ⟨.sca, 1, 8, .non⟩ := rfl
theorem ty_71 : tys 71 = ⟨.sca, 1, 8, .non⟩ := rfl
theorem ty_72 : tys 72 = ⟨.sca, 1, 8, .non⟩ := rfl
theorem ty_73 : tys 73 = ⟨.sl 24, 1, 24, .nils⟩ := rfl
theorem ty_74 : tys 74 = ⟨.sca, 1, 8, .non⟩ := rfl
theorem ty_75 : tys 75 = ⟨.sca, 1, 8, .non⟩ := rfl
theorem ty_76 : tys 76 = ⟨.sca, 1, 8, .non⟩ := rfl
theorem ty_78 : tys 78 = ⟨.sca, 1, 8, .non⟩ := rfl
theorem ty_79 : tys 79 = ⟨.sca, 1, 8, .non⟩ := rfl
theorem ty_80 : tys 80 = ⟨.sca, 1, 8, .non⟩ := rfl
theorem ty_81 : tys 81 = ⟨.sca, 1, 8, .non⟩ := rfl
theorem ty_82 : tys 82 = ⟨.sca, 1, 8, .non⟩ := rfl
theorem ty_83 : tys 83 = ⟨.num .u64, 1, 8, .lit (.int .u64 0)⟩ := rfl
theorem ty_84 : tys 84 = ⟨.str [(0, 22), (1, 3), (2, 83)], 3, 40, .stc [.nils, .int 0, .lit (.int .u64 0)]⟩ := rfl
theorem ty_85 : tys 85 = ⟨.str [(0, 22), (1, 3), (2, 83)], 3, 40, .stc [.nils, .int 0, .lit (.int .u64 0)]⟩ := rfl
theorem ty_86 : tys 86 = ⟨.sca, 1, 8, .non⟩ := rfl
theorem ty_87 : tys 87 = ⟨.sca, 1, 8, .non⟩ := rfl
theorem ty_88 : tys 88 = ⟨.sca, 1, 8, .non⟩ := rfl
theorem ty_89 : tys 89 = ⟨.sca, 1, 8, .non⟩ := rfl
theorem ty_90 : tys 90 = ⟨.sca, 1, 8, .non⟩ := rfl
theorem ty_91 : tys 91 = ⟨.sl 27, 1, 24, .nils⟩ := rfl
theorem ty_92 : tys 92 = ⟨.mp 27 4, 1, 8, .non⟩ := rfl
theorem ty_93 : tys 93 = ⟨.sca, 1, 8, .non⟩ := rfl
theorem ty_94 : tys 94 = ⟨.sca, 1, 8, .non⟩ := rfl
theorem ty_95 : tys 95 = ⟨.sca, 1, 8, .non⟩ := rfl
theorem ty_96 : tys 96 = ⟨.sca, 1, 8, .non⟩ := rfl
theorem ty_97 : tys 97 = ⟨.sca, 1, 8, .non⟩ := rfl
theorem ty_99 : tys 99 = ⟨.sca, 1, 8, .non⟩ := rfl
theorem ty_100 : tys 100 = ⟨.sca, 1, 8, .non⟩ := rfl
theorem ty_101 : tys 101 = ⟨.sca, 1, 8, .non⟩ := rfl
theorem ty_102 : tys 102 = ⟨.sca, 1, 8, .non⟩ := rfl
theorem ty_103 : tys 103 = ⟨.sca, 1, 8, .non⟩ := rfl
theorem ty_104 : tys 104 = ⟨.sca, 1, 8, .non⟩ := rfl
theorem ty_105 : tys 105 = ⟨.sca, 1, 8, .non⟩ := rfl
theorem ty_106 : tys 106 = ⟨.sca, 1, 8, .non⟩ := rfl
theorem ty_107 : tys 107 = ⟨.sca, 1, 8, .non⟩ := rfl
theorem ty_108 : tys 108 = ⟨.arr 6 4, 6, 6, .barr (List.replicate 6 false)⟩ := rfl
theorem ty_109 : tys 109 = ⟨.sca, 1, 8, .non⟩ := rfl
theorem ty_110 : tys 110 = ⟨.sca, 1, 8, .non⟩ := rfl
theorem ty_111 : tys 111 = ⟨.sca, 1, 8, .non⟩ := rfl
theorem ty_112 : tys 112 = ⟨.sca, 1, 8, .non⟩ := rfl
theorem ty_113 : tys 113 = ⟨.sca, 1, 8, .non⟩ := rfl
theorem ty_114 : tys 114 = ⟨.num .u64, 1, 8, .lit (.int .u64 0)⟩ := rfl
theorem ty_115 : tys 115 = ⟨.sca, 1, 8, .non⟩ := rfl
theorem ty_116 : tys 116 = ⟨.sca, 1, 8, .non⟩ := rfl
theorem ty_117 : tys 117 = ⟨.sca, 1, 8, .non⟩ := rfl
theorem ty_118 : tys 118 = ⟨.sca, 1, 8, .non⟩ := rfl
theorem ty_119 : tys 119 = ⟨.sca, 1, 8, .non⟩ := rfl
theorem ty_120 : tys 120 = ⟨.int, 1, 8, .int 0⟩ := rfl
theorem ty_122 : tys 122 = ⟨.sca, 1, 8, .non⟩ := rfl
theorem ty_123 : tys 123 = ⟨.sca, 1, 8, .non⟩ := rfl
theorem ty_124 : tys 124 = ⟨.sca, 1, 8, .non⟩ := rfl
theorem ty_125 : tys 125 = ⟨.sca, 1, 8, .non⟩ := rfl
theorem ty_126 : tys 126 = ⟨.sca, 1, 8, .non⟩ := rfl
theorem ty_127 : tys 127 = ⟨.sca, 1, 8, .non⟩ := rfl
theorem ty_128 : tys 128 = ⟨.num .u32, 1, 4, .lit (.int .u32 0)⟩ := rfl
theorem ty_129 : tys 129 = ⟨.sca, 1, 8, .non⟩ := rfl
theorem ty_130 : tys 130 = ⟨.sca, 1, 8, .non⟩ := rfl
theorem ty_131 : tys 131 = ⟨.num .u64, 1, 8, .lit (.int .u64 0)⟩ := rfl
theorem ty_132 : tys 132 = ⟨.sca, 1, 8, .non⟩ := rfl
theorem ty_133 : tys 133 = ⟨.sca, 1, 8, .non⟩ := rfl
theorem ty_134 : tys 134 = ⟨.sca, 1, 8, .non⟩ := rfl
theorem ty_135 : tys 135 = ⟨.sca, 1, 8, .non⟩ := rfl
theorem ty_136 : tys 136 = ⟨.sca, 1, 8, .non⟩ := rfl
theorem ty_137 : tys 137 = ⟨.sca, 1, 8, .non⟩ := rfl
theorem ty_138 : tys 138 = ⟨.sca, 1, 8, .non⟩ := rfl
theorem ty_139 : tys 139 = ⟨.sca, 1, 8, .non⟩ := rfl
theorem ty_140 : tys 140 = ⟨.str [(0, 17), (1, 17), (2, 17), (3, 9)], 4, 40, .non⟩ := rfl
theorem ty_141 : tys 141 = ⟨.str [(0, 17), (1, 17), (2, 17), (3, 9)], 4, 40, .non⟩ := rfl
theorem ty_142 : tys 142 = ⟨.arr 0 16, 0, 0, .non⟩ := rfl
theorem ty_143 : tys 143 = ⟨.str [(0, 142)], 0, 0, .non⟩ := rfl
theorem ty_144 : tys 144 = ⟨.str [(0, 142)], 0, 0, .non⟩ := rfl
theorem ty_145 : tys 145 = ⟨.num .u8, 1, 1, .lit (.int .u8 0)⟩ := rfl
theorem ty_146 : tys 146 = ⟨.num .u8, 1, 1, .lit (.int .u8 0)⟩ := rfl
theorem ty_147 : tys 147 = ⟨.sca, 1, 8, .non⟩ := rfl
theorem ty_148 : tys 148 = ⟨.sca, 1, 8, .non⟩ := rfl
theorem ty_149 : tys 149 = ⟨.num .i32, 1, 4, .lit (.int .i32 0)⟩ := rfl
theorem ty_150 : tys 150 = ⟨.num .i32, 1, 4, .lit (.int .i32 0)⟩ := rfl
theorem ty_151 : tys 151 = ⟨.str [(0, 12), (1, 12), (2, 128), (3, 145), (4, 5), (5, 5), (6, 146), (7, 147), (8, 148), (9, 149), (10, 150)], 11, 48, .non⟩ := rfl
theorem ty_152 : tys 152 = ⟨.str [(0, 12), (1, 12), (2, 128), (3, 145), (4, 5), (5, 5), (6, 146), (7, 147), (8, 148), (9, 149), (10, 150)], 11, 48, .non⟩ := rfl
theorem tyok_1 : TyOK Try.prog 1 (tys 1) := tyOK_mk ⟨_, Try.underlying1, rfl⟩ (.inr ⟨rfl, by kernel_rfl⟩)
theorem tyok_2 : TyOK Try.prog 2 (tys 2) := tyOK_mk Try.underlying2 (.inl (by kernel_rfl))
theorem tyok_3 : TyOK Try.prog 3 (tys 3) := tyOK_mk Try.underlying3 (.inl (by kernel_rfl))
theorem tyok_4 : TyOK Try.prog 4 (tys 4) := tyOK_mk Try.underlying4 (.inl (by kernel_rfl))
theorem tyok_5 : TyOK Try.prog 5 (tys 5) := tyOK_mk Try.underlying5 (.inl (by kernel_rfl))
theorem tyok_6 : TyOK Try.prog 6 (tys 6) := tyOK_mk Try.underlying6 (.inl (by kernel_rfl))
theorem tyok_7 : TyOK Try.prog 7 (tys 7) := tyOK_mk ⟨_, Try.underlying7, rfl⟩ (.inl (by kernel_rfl))
theorem tyok_8 : TyOK Try.prog 8 (tys 8) := tyOK_mk ⟨_, Try.underlying8, rfl⟩ (.inl (by kernel_rfl))
theorem tyok_12 : TyOK Try.prog 12 (tys 12) := tyOK_mk Try.underlying12 (.inl (by kernel_rfl))
theorem tyok_13 : TyOK Try.prog 13 (tys 13) := tyOK_mk ⟨_, Try.underlying13, rfl⟩ (.inr ⟨rfl, by kernel_rfl⟩)
theorem tyok_14 : TyOK Try.prog 14 (tys 14) := tyOK_mk ⟨_, Try.underlying14, rfl⟩ (.inr ⟨rfl, by kernel_rfl⟩)
theorem tyok_15 : TyOK Try.prog 15 (tys 15) := tyOK_mk ⟨_, Try.underlying15, rfl⟩ (.inr ⟨rfl, by kernel_rfl⟩)
theorem tyok_16 : TyOK Try.prog 16 (tys 16) := tyOK_mk ⟨_, Try.underlying16, rfl⟩ (.inr ⟨rfl, by kernel_rfl⟩)
theorem tyok_17 : TyOK Try.prog 17 (tys 17) := tyOK_mk ⟨_, Try.underlying17, rfl⟩ (.inr ⟨rfl, by kernel_rfl⟩)
theorem tyok_18 : TyOK Try.prog 18 (tys 18) := tyOK_mk ⟨_, Try.underlying18, rfl⟩ (.inl (by kernel_rfl))
theorem tyok_19 : TyOK Try.prog 19 (tys 19) := tyOK_mk ⟨_, Try.underlying19, rfl⟩ (.inl (by kernel_rfl))
theorem tyok_21 : TyOK Try.prog 21 (tys 21) := tyOK_mk Try.underlying21 (.inl (by kernel_rfl))
theorem tyok_22 : TyOK Try.prog 22 (tys 22) := tyOK_mk Try.underlying22 (.inl (by kernel_rfl))
theorem tyok_23 : TyOK Try.prog 23 (tys 23) := tyOK_mk ⟨_, Try.underlying23, rfl⟩ (.inr ⟨rfl, by kernel_rfl⟩)
theorem tyok_24 : TyOK Try.prog 24 (tys 24) := tyOK_mk Try.underlying24 (.inl (by kernel_rfl))
theorem tyok_25 : TyOK Try.prog 25 (tys 25) := tyOK_mk Try.underlying25 (.inl (by kernel_rfl))
theorem tyok_26 : TyOK Try.prog 26 (tys 26) := tyOK_mk ⟨_, Try.underlying26, rfl⟩ (.inl (by kernel_rfl))
theorem tyok_27 : TyOK Try.prog 27 (tys 27) := tyOK_mk ⟨_, Try.underlying27, rfl⟩ (.inl (by kernel_rfl))
theorem tyok_29 : TyOK Try.prog 29 (tys 29) := tyOK_mk ⟨_, Try.underlying29, rfl⟩ (.inr ⟨rfl, by kernel_rfl⟩)
theorem tyok_31 : TyOK Try.prog 31 (tys 31) := tyOK_mk ⟨_, Try.underlying31, rfl⟩ (.inr ⟨rfl, by kernel_rfl⟩)
theorem tyok_33 : TyOK Try.prog 33 (tys 33) := tyOK_mk ⟨_, Try.underlying33, rfl⟩ (.inr ⟨rfl, by kernel_rfl⟩)
theorem tyok_34 : TyOK Try.prog 34 (tys 34) := tyOK_mk Try.underlying34 (.inl (by kernel_rfl))
theorem tyok_36 : TyOK Try.prog 36 (tys 36) := tyOK_mk ⟨_, Try.underlying36, rfl⟩ (.inr ⟨rfl, by kernel_rfl⟩)
theorem tyok_37 : TyOK Try.prog 37 (tys 37) := tyOK_mk ⟨_, Try.underlying37, rfl⟩ (.inr ⟨rfl, by kernel_rfl⟩)
theorem tyok_38 : TyOK Try.prog 38 (tys 38) := tyOK_mk ⟨_, Try.underlying38, rfl⟩ (.inr ⟨rfl, by kernel_rfl⟩)
theorem tyok_39 : TyOK Try.prog 39 (tys 39) := tyOK_mk ⟨_, Try.underlying39, rfl⟩ (.inr ⟨rfl, by kernel_rfl⟩)
theorem tyok_40 : TyOK Try.prog 40 (tys 40) := tyOK_mk Try.underlying40 (.inl (by kernel_rfl))
theorem tyok_42 : TyOK Try.prog 42 (tys 42) := tyOK_mk ⟨_, Try.underlying42, rfl⟩ (.inr ⟨rfl, by kernel_rfl⟩)
theorem tyok_43 : TyOK Try.prog 43 (tys 43) := tyOK_mk ⟨_, Try.underlying43, rfl⟩ (.inr ⟨rfl, by kernel_rfl⟩)
theorem tyok_44 : TyOK Try.prog 44 (tys 44) := tyOK_mk Try.underlying44 (.inl (by kernel_rfl))
theorem tyok_46 : TyOK Try.prog 46 (tys 46) := tyOK_mk ⟨_, Try.underlying46, rfl⟩ (.inr ⟨rfl, by kernel_rfl⟩)
theorem tyok_48 : TyOK Try.prog 48 (tys 48) := tyOK_mk ⟨_, Try.underlying48, rfl⟩ (.inr ⟨rfl, by kernel_rfl⟩)
theorem tyok_49 : TyOK Try.prog 49 (tys 49) := tyOK_mk Try.underlying49 (.inl (by kernel_rfl))
theorem tyok_51 : TyOK Try.prog 51 (tys 51) := tyOK_mk ⟨_, Try.underlying51, rfl⟩ (.inr ⟨rfl, by kernel_rfl⟩)
theorem tyok_52 : TyOK Try.prog 52 (tys 52) := tyOK_mk ⟨_, Try.underlying52, rfl⟩ (.inr ⟨rfl, by kernel_rfl⟩)
theorem tyok_53 : TyOK Try.prog 53 (tys 53) := tyOK_mk Try.underlying53 (.inl (by kernel_rfl))
theorem tyok_55 : TyOK Try.prog 55 (tys 55) := tyOK_mk ⟨_, Try.underlying55, rfl⟩ (.inr ⟨rfl, by kernel_rfl⟩)
theorem tyok_56 : TyOK Try.prog 56 (tys 56) := tyOK_mk ⟨_, Try.underlying56, rfl⟩ (.inr ⟨rfl, by kernel_rfl⟩)
theorem tyok_57 : TyOK Try.prog 57 (tys 57) := tyOK_mk ⟨_, Try.underlying57, rfl⟩ (.inr ⟨rfl, by kernel_rfl⟩)
theorem tyok_59 : TyOK Try.prog 59 (tys 59) := tyOK_mk ⟨_, Try.underlying59, rfl⟩ (.inr ⟨rfl, by kernel_rfl⟩)
theorem tyok_60 : TyOK Try.prog 60 (tys 60) := tyOK_mk ⟨_, Try.underlying60, rfl⟩ (.inr ⟨rfl, by kernel_rfl⟩)
theorem tyok_62 : TyOK Try.prog 62 (tys 62) := tyOK_mk ⟨_, Try.underlying62, rfl⟩ (.inr ⟨rfl, by kernel_rfl⟩)
theorem tyok_63 : TyOK Try.prog 63 (tys 63) := tyOK_mk ⟨_, Try.underlying63, rfl⟩ (.inr ⟨rfl, by kernel_rfl⟩)
theorem tyok_64 : TyOK Try.prog 64 (tys 64) := tyOK_mk ⟨_, Try.underlying64, rfl⟩ (.inr ⟨rfl, by kernel_rfl⟩)
theorem tyok_65 : TyOK Try.prog 65 (tys 65) := tyOK_mk ⟨_, Try.underlying65, rfl⟩ (.inr ⟨rfl, by kernel_rfl⟩)
theorem tyok_66 : TyOK Try.prog 66 (tys 66) := tyOK_mk ⟨_, Try.underlying66, rfl⟩ (.inr ⟨rfl, by kernel_rfl⟩)
theorem tyok_67 : TyOK Try.prog 67 (tys 67) := tyOK_mk ⟨_, Try.underlying67, rfl⟩ (.inr ⟨rfl, by kernel_rfl⟩)
theorem tyok_69 : TyOK Try.prog 69 (tys 69) := tyOK_mk ⟨_, Try.underlying69, rfl⟩ (.inr ⟨rfl, by kernel_rfl⟩)
theorem tyok_70 : TyOK Try.prog 70 (tys 70) := tyOK_mk ⟨_, Try.underlying70, rfl⟩ (.inr ⟨rfl, by kernel_rfl⟩)
theorem tyok_71 : TyOK Try.prog 71 (tys 71) := tyOK_mk ⟨_, Try.underlying71, rfl⟩ (.inr ⟨rfl, by kernel_rfl⟩)
theorem tyok_72 : TyOK Try.prog 72 (tys 72) := tyOK_mk ⟨_, Try.underlying72, rfl⟩ (.inr ⟨rfl, by kernel_rfl⟩)
theorem tyok_73 : TyOK Try.prog 73 (tys 73) := tyOK_mk Try.underlying73 (.inl (by kernel_rfl))
theorem tyok_74 : TyOK Try.prog 74 (tys 74) := tyOK_mk ⟨_, Try.underlying74, rfl⟩ (.inr ⟨rfl, by kernel_rfl⟩)
theorem tyok_75 : TyOK Try.prog 75 (tys 75) := tyOK_mk ⟨_, Try.underlying75, rfl⟩ (.inr ⟨rfl, by kernel_rfl⟩)
theorem tyok_76 : TyOK Try.prog 76 (tys 76) := tyOK_mk ⟨_, Try.underlying76, rfl⟩ (.inr ⟨rfl, by kernel_rfl⟩)
theorem tyok_78 : TyOK Try.prog 78 (tys 78) := tyOK_mk ⟨_, Try.underlying78, rfl⟩ (.inr ⟨rfl, by kernel_rfl⟩)
theorem tyok_79 : TyOK Try.prog 79 (tys 79) := tyOK_mk ⟨_, Try.underlying79, rfl⟩ (.inr ⟨rfl, by kernel_rfl⟩)
theorem tyok_80 : TyOK Try.prog 80 (tys 80) := tyOK_mk ⟨_, Try.underlying80, rfl⟩ (.inr ⟨rfl, by kernel_rfl⟩)
theorem tyok_81 : TyOK Try.prog 81 (tys 81) := tyOK_mk ⟨_, Try.underlying81, rfl⟩ (.inr ⟨rfl, by kernel_rfl⟩)
theorem tyok_82 : TyOK Try.prog 82 (tys 82) := tyOK_mk ⟨_, Try.underlying82, rfl⟩ (.inr ⟨rfl, by kernel_rfl⟩)
theorem tyok_83 : TyOK Try.prog 83 (tys 83) := tyOK_mk Try.underlying83 (.inl (by kernel_rfl))
theorem tyok_84 : TyOK Try.prog 84 (tys 84) := tyOK_mk ⟨_, Try.underlying84, rfl⟩ (.inl (by kernel_rfl))
theorem tyok_85 : TyOK Try.prog 85 (tys 85) := tyOK_mk ⟨_, Try.underlying85, rfl⟩ (.inl (by kernel_rfl))
theorem tyok_86 : TyOK Try.prog 86 (tys 86) := tyOK_mk ⟨_, Try.underlying86, rfl⟩ (.inr ⟨rfl, by kernel_rfl⟩)
theorem tyok_87 : TyOK Try.prog 87 (tys 87) := tyOK_mk ⟨_, Try.underlying87, rfl⟩ (.inr ⟨rfl, by kernel_rfl⟩)
theorem tyok_88 : TyOK Try.prog 88 (tys 88) := tyOK_mk ⟨_, Try.underlying88, rfl⟩ (.inr ⟨rfl, by kernel_rfl⟩)
theorem tyok_89 : TyOK Try.prog 89 (tys 89) := tyOK_mk ⟨_, Try.underlying89, rfl⟩ (.inr ⟨rfl, by kernel_rfl⟩)
theorem tyok_90 : TyOK Try.prog 90 (tys 90) := tyOK_mk ⟨_, Try.underlying90, rfl⟩ (.inr ⟨rfl, by kernel_rfl⟩)
theorem tyok_91 : TyOK Try.prog 91 (tys 91) := tyOK_mk Try.underlying91 (.inl (by kernel_rfl))
theorem tyok_92 : TyOK Try.prog 92 (tys 92) := tyOK_mk Try.underlying92 (.inr ⟨rfl, by kernel_rfl⟩)
theorem tyok_93 : TyOK Try.prog 93 (tys 93) := tyOK_mk ⟨_, Try.underlying93, rfl⟩ (.inr ⟨rfl, by kernel_rfl⟩)
theorem tyok_94 : TyOK Try.prog 94 (tys 94) := tyOK_mk ⟨_, Try.underlying94, rfl⟩ (.inr ⟨rfl, by kernel_rfl⟩)
theorem tyok_95 : TyOK Try.prog 95 (tys 95) := tyOK_mk ⟨_, Try.underlying95, rfl⟩ (.inr ⟨rfl, by kernel_rfl⟩)
theorem tyok_96 : TyOK Try.prog 96 (tys 96) := tyOK_mk ⟨_, Try.underlying96, rfl⟩ (.inr ⟨rfl, by kernel_rfl⟩)
theorem tyok_97 : TyOK Try.prog 97 (tys 97) := tyOK_mk ⟨_, Try.underlying97, rfl⟩ (.inr ⟨rfl, by kernel_rfl⟩)
theorem tyok_99 : TyOK Try.prog 99 (tys 99) := tyOK_mk ⟨_, Try.underlying99, rfl⟩ (.inr ⟨rfl, by kernel_rfl⟩)
theorem tyok_100 : TyOK Try.prog 100 (tys 100) := tyOK_mk ⟨_, Try.underlying100, rfl⟩ (.inr ⟨rfl, by kernel_rfl⟩)
theorem tyok_101 : TyOK Try.prog 101 (tys 101) := tyOK_mk ⟨_, Try.underlying101, rfl⟩ (.inr ⟨rfl, by kernel_rfl⟩)
theorem tyok_102 : TyOK Try.prog 102 (tys 102) := tyOK_mk ⟨_, Try.underlying102, rfl⟩ (.inr ⟨rfl, by kernel_rfl⟩)
theorem tyok_103 : TyOK Try.prog 103 (tys 103) := tyOK_mk ⟨_, Try.underlying103, rfl⟩ (.inr ⟨rfl, by kernel_rfl⟩)
theorem tyok_104 : TyOK Try.prog 104 (tys 104) := tyOK_mk ⟨_, Try.underlying104, rfl⟩ (.inr ⟨rfl, by kernel_rfl⟩)
theorem tyok_105 : TyOK Try.prog 105 (tys 105) := tyOK_mk ⟨_, Try.underlying105, rfl⟩ (.inr ⟨rfl, by kernel_rfl⟩)
theorem tyok_106 : TyOK Try.prog 106 (tys 106) := tyOK_mk ⟨_, Try.underlying106, rfl⟩ (.inr ⟨rfl, by kernel_rfl⟩)
theorem tyok_107 : TyOK Try.prog 107 (tys 107) := tyOK_mk ⟨_, Try.underlying107, rfl⟩ (.inr ⟨rfl, by kernel_rfl⟩)
theorem tyok_108 : TyOK Try.prog 108 (tys 108) := tyOK_mk Try.underlying108 (.inl (by kernel_rfl))
theorem tyok_109 : TyOK Try.prog 109 (tys 109) := tyOK_mk ⟨_, Try.underlying109, rfl⟩ (.inr ⟨rfl, by kernel_rfl⟩)
theorem tyok_110 : TyOK Try.prog 110 (tys 110) := tyOK_mk ⟨_, Try.underlying110, rfl⟩ (.inr ⟨rfl, by kernel_rfl⟩)
theorem tyok_111 : TyOK Try.prog 111 (tys 111) := tyOK_mk ⟨_, Try.underlying111, rfl⟩ (.inr ⟨rfl, by kernel_rfl⟩)
theorem tyok_112 : TyOK Try.prog 112 (tys 112) := tyOK_mk ⟨_, Try.underlying112, rfl⟩ (.inr ⟨rfl, by kernel_rfl⟩)
theorem tyok_113 : TyOK Try.prog 113 (tys 113) := tyOK_mk ⟨_, Try.underlying113, rfl⟩ (.inr ⟨rfl, by kernel_rfl⟩)
theorem tyok_114 : TyOK Try.prog 114 (tys 114) := tyOK_mk Try.underlying114 (.inl (by kernel_rfl))
theorem tyok_115 : TyOK Try.prog 115 (tys 115) := tyOK_mk ⟨_, Try.underlying115, rfl⟩ (.inr ⟨rfl, by kernel_rfl⟩)
theorem tyok_116 : TyOK Try.prog 116 (tys 116) := tyOK_mk ⟨_, Try.underlying116, rfl⟩ (.inr ⟨rfl, by kernel_rfl⟩)
theorem tyok_117 : TyOK Try.prog 117 (tys 117) := tyOK_mk ⟨_, Try.underlying117, rfl⟩ (.inr ⟨rfl, by kernel_rfl⟩)
theorem tyok_118 : TyOK Try.prog 118 (tys 118) := tyOK_mk ⟨_, Try.underlying118, rfl⟩ (.inr ⟨rfl, by kernel_rfl⟩)
theorem tyok_119 : TyOK Try.prog 119 (tys 119) := tyOK_mk ⟨_, Try.underlying119, rfl⟩ (.inr ⟨rfl, by kernel_rfl⟩)
theorem tyok_120 : TyOK Try.prog 120 (tys 120) := tyOK_mk Try.underlying120 (.inl (by kernel_rfl))
theorem tyok_122 : TyOK Try.prog 122 (tys 122) := tyOK_mk ⟨_, Try.underlying122, rfl⟩ (.inr ⟨rfl, by kernel_rfl⟩)
theorem tyok_123 : TyOK Try.prog 123 (tys 123) := tyOK_mk ⟨_, Try.underlying123, rfl⟩ (.inr ⟨rfl, by kernel_rfl⟩)
theorem tyok_124 : TyOK Try.prog 124 (tys 124) := tyOK_mk ⟨_, Try.underlying124, rfl⟩ (.inr ⟨rfl, by kernel_rfl⟩)
theorem tyok_125 : TyOK Try.prog 125 (tys 125) := tyOK_mk ⟨_, Try.underlying125, rfl⟩ (.inr ⟨rfl, by kernel_rfl⟩)
theorem tyok_126 : TyOK Try.prog 126 (tys 126) := tyOK_mk ⟨_, Try.underlying126, rfl⟩ (.inr ⟨rfl, by kernel_rfl⟩)
theorem tyok_127 : TyOK Try.prog 127 (tys 127) := tyOK_mk ⟨_, Try.underlying127, rfl⟩ (.inr ⟨rfl, by kernel_rfl⟩)
theorem tyok_128 : TyOK Try.prog 128 (tys 128) := tyOK_mk Try.underlying128 (.inl (by kernel_rfl))
theorem tyok_129 : TyOK Try.prog 129 (tys 129) := tyOK_mk ⟨_, Try.underlying129, rfl⟩ (.inr ⟨rfl, by kernel_rfl⟩)
theorem tyok_130 : TyOK Try.prog 130 (tys 130) := tyOK_mk ⟨_, Try.underlying130, rfl⟩ (.inr ⟨rfl, by kernel_rfl⟩)
theorem tyok_131 : TyOK Try.prog 131 (tys 131) := tyOK_mk Try.underlying131 (.inl (by kernel_rfl))
theorem tyok_132 : TyOK Try.prog 132 (tys 132) := tyOK_mk ⟨_, Try.underlying132, rfl⟩ (.inr ⟨rfl, by kernel_rfl⟩)
theorem tyok_133 : TyOK Try.prog 133 (tys 133) := tyOK_mk ⟨_, Try.underlying133, rfl⟩ (.inr ⟨rfl, by kernel_rfl⟩)
theorem tyok_134 : TyOK Try.prog 134 (tys 134) := tyOK_mk ⟨_, Try.underlying134, rfl⟩ (.inr ⟨rfl, by kernel_rfl⟩)
theorem tyok_135 : TyOK Try.prog 135 (tys 135) := tyOK_mk ⟨_, Try.underlying135, rfl⟩ (.inr ⟨rfl, by kernel_rfl⟩)
theorem tyok_136 : TyOK Try.prog 136 (tys 136) := tyOK_mk ⟨_, Try.underlying136, rfl⟩ (.inr ⟨rfl, by kernel_rfl⟩)
theorem tyok_137 : TyOK Try.prog 137 (tys 137) := tyOK_mk ⟨_, Try.underlying137, rfl⟩ (.inr ⟨rfl, by kernel_rfl⟩)
theorem tyok_138 : TyOK Try.prog 138 (tys 138) := tyOK_mk ⟨_, Try.underlying138, rfl⟩ (.inr ⟨rfl, by kernel_rfl⟩)
theorem tyok_139 : TyOK Try.prog 139 (tys 139) := tyOK_mk ⟨_, Try.underlying139, rfl⟩ (.inr ⟨rfl, by kernel_rfl⟩)
theorem tyok_140 : TyOK Try.prog 140 (tys 140) := tyOK_mk ⟨_, Try.underlying140, rfl⟩ (.inr ⟨rfl, by kernel_rfl⟩)
theorem tyok_141 : TyOK Try.prog 141 (tys 141) := tyOK_mk ⟨_, Try.underlying141, rfl⟩ (.inr ⟨rfl, by kernel_rfl⟩)
theorem tyok_142 : TyOK Try.prog 142 (tys 142) := tyOK_mk Try.underlying142 (.inr ⟨rfl, by kernel_rfl⟩)
theorem tyok_143 : TyOK Try.prog 143 (tys 143) := tyOK_mk ⟨_, Try.underlying143, rfl⟩ (.inr ⟨rfl, by kernel_rfl⟩)
theorem tyok_144 : TyOK Try.prog 144 (tys 144) := tyOK_mk ⟨_, Try.underlying144, rfl⟩ (.inr ⟨rfl, by kernel_rfl⟩)
theorem tyok_145 : TyOK Try.prog 145 (tys 145) := tyOK_mk Try.underlying145 (.inl (by kernel_rfl))
theorem tyok_146 : TyOK Try.prog 146 (tys 146) := tyOK_mk Try.underlying146 (.inl (by kernel_rfl))
theorem tyok_147 : TyOK Try.prog 147 (tys 147) := tyOK_mk ⟨_, Try.underlying147, rfl⟩ (.inr ⟨rfl, by kernel_rfl⟩)
theorem tyok_148 : TyOK Try.prog 148 (tys 148) := tyOK_mk ⟨_, Try.underlying148, rfl⟩ (.inr ⟨rfl, by kernel_rfl⟩)
theorem tyok_149 : TyOK Try.prog 149 (tys 149) := tyOK_mk Try.underlying149 (.inl (by kernel_rfl))
theorem tyok_150 : TyOK Try.prog 150 (tys 150) := tyOK_mk Try.underlying150 (.inl (by kernel_rfl))
theorem tyok_151 : TyOK Try.prog 151 (tys 151) := tyOK_mk ⟨_, Try.underlying151, rfl⟩ (.inr ⟨rfl, by kernel_rfl⟩)
theorem tyok_152 : TyOK Try.prog 152 (tys 152) := tyOK_mk ⟨_, Try.underlying152, rfl⟩ (.inr ⟨rfl, by kernel_rfl⟩)
theorem tyok_other (t : Nat) (h : (tys t).k = .other) : TyOK Try.prog t (tys t) := ⟨by rw [h]; trivial, fun h' => absurd h h'⟩
theorem TYB : type_of% (
  And.intro @ty_1 <|
  And.intro @ty_2 <|
  And.intro @ty_3 <|
  And.intro @ty_4 <|
  And.intro @ty_5 <|
  And.intro @ty_6 <|
  And.intro @ty_7 <|
  And.intro @ty_8 <|
  And.intro @ty_12 <|
  And.intro @ty_13 <|
  And.intro @ty_14 <|
  And.intro @ty_15 <|
  And.intro @ty_16 <|
  And.intro @ty_17 <|
  And.intro @ty_18 <|
  And.intro @ty_19 <|
  And.intro @ty_21 <|
  And.intro @ty_22 <|
  And.intro @ty_23 <|
  And.intro @ty_24 <|
  And.intro @ty_25 <|
  And.intro @ty_26 <|
  And.intro @ty_27 <|
  And.intro @ty_29 <|
  And.intro @ty_31 <|
  And.intro @ty_33 <|
  And.intro @ty_34 <|
  And.intro @ty_36 <|
  And.intro @ty_37 <|
  And.intro @ty_38 <|
  And.intro @ty_39 <|
  And.intro @ty_40 <|
  And.intro @ty_42 <|
  And.intro @ty_43 <|
  And.intro @ty_44 <|
  And.intro @ty_46 <|
  And.intro @ty_48 <|
  And.intro @ty_49 <|
  And.intro @ty_51 <|
  And.intro @ty_52 <|
  And.intro @ty_53 <|
  And.intro @ty_55 <|
  And.intro @ty_56 <|
  And.intro @ty_57 <|
  And.intro @ty_59 <|
  And.intro @ty_60 <|
  And.intro @ty_62 <|
  And.intro @ty_63 <|
  And.intro @ty_64 <|
  And.intro @ty_65 <|
  And.intro @ty_66 <|
  And.intro @ty_67 <|
  And.intro @ty_69 <|
  And.intro @ty_70 <|
  And.intro @ty_71 <|
  And.intro @ty_72 <|
  And.intro @ty_73 <|
  And.intro @ty_74 <|
  And.intro @ty_75 <|
  And.intro @ty_76 <|
  And.intro @ty_78 <|
  And.intro @ty_79 <|
  And.intro @ty_80 <|
  And.intro @ty_81 <|
  And.intro @ty_82 <|
  And.intro @ty_83 <|
  And.intro @ty_84 <|
  And.intro @ty_85 <|
  And.intro @ty_86 <|
  And.intro @ty_87 <|
  And.intro @ty_88 <|
  And.intro @ty_89 <|
  And.intro @ty_90 <|
  And.intro @ty_91 <|
  And.intro @ty_92 <|
  And.intro @ty_93 <|
  And.intro @ty_94 <|
  And.intro @ty_95 <|
  And.intro @ty_96 <|
  And.intro @ty_97 <|
  And.intro @ty_99 <|
  And.intro @ty_100 <|
  And.intro @ty_101 <|
  And.intro @ty_102 <|
  And.intro @ty_103 <|
  And.intro @ty_104 <|
  And.intro @ty_105 <|
  And.intro @ty_106 <|
  And.intro @ty_107 <|
  And.intro @ty_108 <|
  And.intro @ty_109 <|
  And.intro @ty_110 <|
  And.intro @ty_111 <|
  And.intro @ty_112 <|
  And.intro @ty_113 <|
  And.intro @ty_114 <|
  And.intro @ty_115 <|
  And.intro @ty_116 <|
  And.intro @ty_117 <|
  And.intro @ty_118 <|
  And.intro @ty_119 <|
  And.intro @ty_120 <|
  And.intro @ty_122 <|
  And.intro @ty_123 <|
  And.intro @ty_124 <|
  And.intro @ty_125 <|
  And.intro @ty_126 <|
  And.intro @ty_127 <|
  And.intro @ty_128 <|
  And.intro @ty_129 <|
  And.intro @ty_130 <|
  And.intro @ty_131 <|
  And.intro @ty_132 <|
  And.intro @ty_133 <|
  And.intro @ty_134 <|
  And.intro @ty_135 <|
  And.intro @ty_136 <|
  And.intro @ty_137 <|
  And.intro @ty_138 <|
  And.intro @ty_139 <|
  And.intro @ty_140 <|
  And.intro @ty_141 <|
  And.intro @ty_142 <|
  And.intro @ty_143 <|
  And.intro @ty_144 <|
  And.intro @ty_145 <|
  And.intro @ty_146 <|
  And.intro @ty_147 <|
  And.intro @ty_148 <|
  And.intro @ty_149 <|
  And.intro @ty_150 <|
  And.intro @ty_151 <| @ty_152) :=
  And.intro @ty_1 <|
  And.intro @ty_2 <|
  And.intro @ty_3 <|
  And.intro @ty_4 <|
  And.intro @ty_5 <|
  And.intro @ty_6 <|
  And.intro @ty_7 <|
  And.intro @ty_8 <|
  And.intro @ty_12 <|
  And.intro @ty_13 <|
  And.intro @ty_14 <|
  And.intro @ty_15 <|
  And.intro @ty_16 <|
  And.intro @ty_17 <|
  And.intro @ty_18 <|
  And.intro @ty_19 <|
  And.intro @ty_21 <|
  And.intro @ty_22 <|
  And.intro @ty_23 <|
  And.intro @ty_24 <|
  And.intro @ty_25 <|
  And.intro @ty_26 <|
  And.intro @ty_27 <|
  And.intro @ty_29 <|
  And.intro @ty_31 <|
  And.intro @ty_33 <|
  And.intro @ty_34 <|
  And.intro @ty_36 <|
  And.intro @ty_37 <|
  And.intro @ty_38 <|
  And.intro @ty_39 <|
  And.intro @ty_40 <|
  And.intro @ty_42 <|
  And.intro @ty_43 <|
  And.intro @ty_44 <|
  And.intro @ty_46 <|
  And.intro @ty_48 <|
  And.intro @ty_49 <|
  And.intro @ty_51 <|
  And.intro @ty_52 <|
  And.intro @ty_53 <|
  And.intro @ty_55 <|
  And.intro @ty_56 <|
  And.intro @ty_57 <|
  And.intro @ty_59 <|
  And.intro @ty_60 <|
  And.intro @ty_62 <|
  And.intro @ty_63 <|
  And.intro @ty_64 <|
  And.intro @ty_65 <|
  And.intro @ty_66 <|
  And.intro @ty_67 <|
  And.intro @ty_69 <|
  And.intro @ty_70 <|
  And.intro @ty_71 <|
  And.intro @ty_72 <|
  And.intro @ty_73 <|
  And.intro @ty_74 <|
  And.intro @ty_75 <|
  And.intro @ty_76 <|
  And.intro @ty_78 <|
  And.intro @ty_79 <|
  And.intro @ty_80 <|
  And.intro @ty_81 <|
  And.intro @ty_82 <|
  And.intro @ty_83 <|
  And.intro @ty_84 <|
  And.intro @ty_85 <|
  And.intro @ty_86 <|
  And.intro @ty_87 <|
  And.intro @ty_88 <|
  And.intro @ty_89 <|
  And.intro @ty_90 <|
  And.intro @ty_91 <|
  And.intro @ty_92 <|
  And.intro @ty_93 <|
  And.intro @ty_94 <|
  And.intro @ty_95 <|
  And.intro @ty_96 <|
  And.intro @ty_97 <|
  And.intro @ty_99 <|
  And.intro @ty_100 <|
  And.intro @ty_101 <|
  And.intro @ty_102 <|
  And.intro @ty_103 <|
  And.intro @ty_104 <|
  And.intro @ty_105 <|
  And.intro @ty_106 <|
  And.intro @ty_107 <|
  And.intro @ty_108 <|
  And.intro @ty_109 <|
  And.intro @ty_110 <|
  And.intro @ty_111 <|
  And.intro @ty_112 <|
  And.intro @ty_113 <|
  And.intro @ty_114 <|
  And.intro @ty_115 <|
  And.intro @ty_116 <|
  And.intro @ty_117 <|
  And.intro @ty_118 <|
  And.intro @ty_119 <|
  And.intro @ty_120 <|
  And.intro @ty_122 <|
  And.intro @ty_123 <|
  And.intro @ty_124 <|
  And.intro @ty_125 <|
  And.intro @ty_126 <|
  And.intro @ty_127 <|
  And.intro @ty_128 <|
  And.intro @ty_129 <|
  And.intro @ty_130 <|
  And.intro @ty_131 <|
  And.intro @ty_132 <|
  And.intro @ty_133 <|
  And.intro @ty_134 <|
  And.intro @ty_135 <|
  And.intro @ty_136 <|
  And.intro @ty_137 <|
  And.intro @ty_138 <|
  And.intro @ty_139 <|
  And.intro @ty_140 <|
  And.intro @ty_141 <|
  And.intro @ty_142 <|
  And.intro @ty_143 <|
  And.intro @ty_144 <|
  And.intro @ty_145 <|
  And.intro @ty_146 <|
  And.intro @ty_147 <|
  And.intro @ty_148 <|
  And.intro @ty_149 <|
  And.intro @ty_150 <|
  And.intro @ty_151 <| @ty_152
theorem tys_ok : TysOK Try.prog tys := by
  intro t
  match t with
  | 1 => exact tyok_1
  | 2 => exact tyok_2
  | 3 => exact tyok_3
  | 4 => exact tyok_4
  | 5 => exact tyok_5
  | 6 => exact tyok_6
  | 7 => exact tyok_7
  | 8 => exact tyok_8
  | 12 => exact tyok_12
  | 13 => exact tyok_13
  | 14 => exact tyok_14
  | 15 => exact tyok_15
  | 16 => exact tyok_16
  | 17 => exact tyok_17
  | 18 => exact tyok_18
  | 19 => exact tyok_19
  | 21 => exact tyok_21
  | 22 => exact tyok_22
  | 23 => exact tyok_23
  | 24 => exact tyok_24
  | 25 => exact tyok_25
  | 26 => exact tyok_26
  | 27 => exact tyok_27
  | 29 => exact tyok_29
  | 31 => exact tyok_31
  | 33 => exact tyok_33
  | 34 => exact tyok_34
  | 36 => exact tyok_36
  | 37 => exact tyok_37
  | 38 => exact tyok_38
  | 39 => exact tyok_39
  | 40 => exact tyok_40
  | 42 => exact tyok_42
  | 43 => exact tyok_43
  | 44 => exact tyok_44
  | 46 => exact tyok_46
  | 48 => exact tyok_48
  | 49 => exact tyok_49
  | 51 => exact tyok_51
  | 52 => exact tyok_52
  | 53 => exact tyok_53
  | 55 => exact tyok_55
  | 56 => exact tyok_56
  | 57 => exact tyok_57
  | 59 => exact tyok_59
  | 60 => exact tyok_60
  | 62 => exact tyok_62
  | 63 => exact tyok_63
  | 64 => exact tyok_64
  | 65 => exact tyok_65
  | 66 => exact tyok_66
  | 67 => exact tyok_67
  | 69 => exact tyok_69
  | 70 => exact tyok_70
  | 71 => exact tyok_71
  | 72 => exact tyok_72
  | 73 => exact tyok_73
  | 74 => exact tyok_74
  | 75 => exact tyok_75
  | 76 => exact tyok_76
  | 78 => exact tyok_78
  | 79 => exact tyok_79
  | 80 => exact tyok_80
  | 81 => exact tyok_81
  | 82 => exact tyok_82
  | 83 => exact tyok_83
  | 84 => exact tyok_84
  | 85 => exact tyok_85
  | 86 => exact tyok_86
  | 87 => exact tyok_87
  | 88 => exact tyok_88
  | 89 => exact tyok_89
  | 90 => exact tyok_90
  | 91 => exact tyok_91
  | 92 => exact tyok_92
  | 93 => exact tyok_93
  | 94 => exact tyok_94
  | 95 => exact tyok_95
  | 96 => exact tyok_96
  | 97 => exact tyok_97
  | 99 => exact tyok_99
  | 100 => exact tyok_100
  | 101 => exact tyok_101
  | 102 => exact tyok_102
  | 103 => exact tyok_103
  | 104 => exact tyok_104
  | 105 => exact tyok_105
  | 106 => exact tyok_106
  | 107 => exact tyok_107
  | 108 => exact tyok_108
  | 109 => exact tyok_109
  | 110 => exact tyok_110
  | 111 => exact tyok_111
  | 112 => exact tyok_112
  | 113 => exact tyok_113
  | 114 => exact tyok_114
  | 115 => exact tyok_115
  | 116 => exact tyok_116
  | 117 => exact tyok_117
  | 118 => exact tyok_118
  | 119 => exact tyok_119
  | 120 => exact tyok_120
  | 122 => exact tyok_122
  | 123 => exact tyok_123
  | 124 => exact tyok_124
  | 125 => exact tyok_125
  | 126 => exact tyok_126
  | 127 => exact tyok_127
  | 128 => exact tyok_128
  | 129 => exact tyok_129
  | 130 => exact tyok_130
  | 131 => exact tyok_131
  | 132 => exact tyok_132
  | 133 => exact tyok_133
  | 134 => exact tyok_134
  | 135 => exact tyok_135
  | 136 => exact tyok_136
  | 137 => exact tyok_137
  | 138 => exact tyok_138
  | 139 => exact tyok_139
  | 140 => exact tyok_140
  | 141 => exact tyok_141
  | 142 => exact tyok_142
  | 143 => exact tyok_143
  | 144 => exact tyok_144
  | 145 => exact tyok_145
  | 146 => exact tyok_146
  | 147 => exact tyok_147
  | 148 => exact tyok_148
  | 149 => exact tyok_149
  | 150 => exact tyok_150
  | 151 => exact tyok_151
  | 152 => exact tyok_152
  | 0 => exact tyok_other _ rfl
  | 9 => exact tyok_other _ rfl
  | 10 => exact tyok_other _ rfl
  | 11 => exact tyok_other _ rfl
  | 20 => exact tyok_other _ rfl
  | 28 => exact tyok_other _ rfl
  | 30 => exact tyok_other _ rfl
  | 32 => exact tyok_other _ rfl
  | 35 => exact tyok_other _ rfl
  | 41 => exact tyok_other _ rfl
  | 45 => exact tyok_other _ rfl
  | 47 => exact tyok_other _ rfl
  | 50 => exact tyok_other _ rfl
  | 54 => exact tyok_other _ rfl
  | 58 => exact tyok_other _ rfl
  | 61 => exact tyok_other _ rfl
  | 68 => exact tyok_other _ rfl
  | 77 => exact tyok_other _ rfl
  | 98 => exact tyok_other _ rfl
  | 121 => exact tyok_other _ rfl
  | n + 153 => exact tyok_other _ (by simp [tys])
theorem mixed : Try.prog.follows .mixedOrders = true := by kernel_rfl

end Go.Proofs.Ytnlbljikbonioaa
