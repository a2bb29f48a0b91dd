/- The types of this program, as the engine reads them; written by a program. -/
import Derived.Test.YtfdpeenamkpcbaaEvl
namespace Go.Proofs.Ytfdpeenamkpcbaa
open Go Go.RowKit

def tys : Tys := fun t => match t with
  | 1 => ⟨.sca, 1, 8, .non⟩
  | 2 => ⟨.int, 1, 8, .int 0⟩
  | 3 => ⟨.int, 1, 8, .int 0⟩
  | 4 => ⟨.bool, 1, 1, .bool false⟩
  | 7 => ⟨.str [(0, 2), (1, 3), (2, 4), (3, 6)], 4, 24, .non⟩
  | 8 => ⟨.str [(0, 2), (1, 3), (2, 4), (3, 6)], 4, 24, .non⟩
  | 13 => ⟨.str [(0, 9), (1, 12)], 2, 24, .non⟩
  | 14 => ⟨.str [(0, 9), (1, 12)], 2, 24, .non⟩
  | 15 => ⟨.sca, 1, 8, .non⟩
  | 16 => ⟨.sca, 1, 8, .non⟩
  | 17 => ⟨.sca, 1, 8, .non⟩
  | 18 => ⟨.str [(0, 17)], 1, 8, .non⟩
  | 19 => ⟨.str [(0, 17)], 1, 8, .non⟩
  | 22 => ⟨.arr 4 3, 4, 32, .arr (List.replicate 4 0)⟩
  | 23 => ⟨.arr 6 22, 24, 192, .arr (List.replicate 24 0)⟩
  | 24 => ⟨.str [(0, 23)], 24, 192, .arr (List.replicate 24 0)⟩
  | 25 => ⟨.str [(0, 23)], 24, 192, .arr (List.replicate 24 0)⟩
  | 26 => ⟨.sl 50, 1, 24, .nils⟩
  | 27 => ⟨.sca, 1, 8, .non⟩
  | 28 => ⟨.str [(0, 23)], 24, 192, .arr (List.replicate 24 0)⟩
  | 30 => ⟨.sca, 1, 8, .non⟩
  | 31 => ⟨.sca, 1, 8, .non⟩
  | 32 => ⟨.sca, 1, 8, .non⟩
  | 33 => ⟨.sca, 1, 8, .non⟩
  | 34 => ⟨.sca, 1, 8, .non⟩
  | 35 => ⟨.sca, 1, 8, .non⟩
  | 37 => ⟨.sca, 1, 8, .non⟩
  | 38 => ⟨.sca, 1, 8, .non⟩
  | 39 => ⟨.arr 6 3, 6, 48, .arr (List.replicate 6 0)⟩
  | 40 => ⟨.str [(0, 39), (6, 39), (12, 39)], 18, 144, .arr (List.replicate 18 0)⟩
  | 41 => ⟨.str [(0, 39), (6, 39), (12, 39)], 18, 144, .arr (List.replicate 18 0)⟩
  | 43 => ⟨.sca, 1, 8, .non⟩
  | 44 => ⟨.str [(0, 39), (6, 39), (12, 39)], 18, 144, .arr (List.replicate 18 0)⟩
  | 45 => ⟨.sca, 1, 8, .non⟩
  | 46 => ⟨.sca, 1, 8, .non⟩
  | 47 => ⟨.sca, 1, 8, .non⟩
  | 48 => ⟨.sca, 1, 8, .non⟩
  | 49 => ⟨.sca, 1, 8, .non⟩
  | 50 => ⟨.arr 2 3, 2, 16, .arr (List.replicate 2 0)⟩
  | 52 => ⟨.sca, 1, 8, .non⟩
  | 53 => ⟨.sca, 1, 8, .non⟩
  | 54 => ⟨.sl 99, 1, 24, .nils⟩
  | 56 => ⟨.sca, 1, 8, .non⟩
  | 57 => ⟨.sca, 1, 8, .non⟩
  | 58 => ⟨.sca, 1, 8, .non⟩
  | 59 => ⟨.sca, 1, 8, .non⟩
  | 60 => ⟨.sca, 1, 8, .non⟩
  | 61 => ⟨.sca, 1, 8, .non⟩
  | 62 => ⟨.sl 3, 1, 24, .nils⟩
  | 64 => ⟨.sca, 1, 8, .non⟩
  | 65 => ⟨.sca, 1, 8, .non⟩
  | 66 => ⟨.sca, 1, 8, .non⟩
  | 67 => ⟨.sca, 1, 8, .non⟩
  | 68 => ⟨.sca, 1, 8, .non⟩
  | 69 => ⟨.sca, 1, 8, .non⟩
  | 70 => ⟨.sca, 1, 8, .non⟩
  | 71 => ⟨.sca, 1, 8, .non⟩
  | 72 => ⟨.sca, 1, 8, .non⟩
  | 73 => ⟨.sca, 1, 8, .non⟩
  | 75 => ⟨.sca, 1, 8, .non⟩
  | 76 => ⟨.sca, 1, 8, .non⟩
  | 77 => ⟨.sca, 1, 8, .non⟩
  | 78 => ⟨.sca, 1, 8, .non⟩
  | 79 => ⟨.sca, 1, 8, .non⟩
  | 80 => ⟨.sca, 1, 8, .non⟩
  | 81 => ⟨.sca, 1, 8, .non⟩
  | 82 => ⟨.sca, 1, 8, .non⟩
  | 83 => ⟨.sca, 1, 8, .non⟩
  | 84 => ⟨.sca, 1, 8, .non⟩
  | 85 => ⟨.sca, 1, 8, .non⟩
  | 86 => ⟨.sca, 1, 8, .non⟩
  | 87 => ⟨.sca, 1, 8, .non⟩
  | 88 => ⟨.sl 28, 1, 24, .nils⟩
  | 89 => ⟨.sca, 1, 8, .non⟩
  | 90 => ⟨.mp 28 4, 1, 8, .non⟩
  | 91 => ⟨.sca, 1, 8, .non⟩
  | 92 => ⟨.sca, 1, 8, .non⟩
  | 93 => ⟨.sca, 1, 8, .non⟩
  | 94 => ⟨.sca, 1, 8, .non⟩
  | 95 => ⟨.sca, 1, 8, .non⟩
  | 97 => ⟨.sca, 1, 8, .non⟩
  | 98 => ⟨.str [(0, 3), (1, 3), (2, 3)], 3, 24, .arr (List.replicate 3 0)⟩
  | 99 => ⟨.str [(0, 3), (1, 3), (2, 3)], 3, 24, .arr (List.replicate 3 0)⟩
  | 100 => ⟨.sca, 1, 8, .non⟩
  | 101 => ⟨.sca, 1, 8, .non⟩
  | 102 => ⟨.sca, 1, 8, .non⟩
  | 103 => ⟨.sca, 1, 8, .non⟩
  | 104 => ⟨.sca, 1, 8, .non⟩
  | 105 => ⟨.sca, 1, 8, .non⟩
  | 106 => ⟨.sca, 1, 8, .non⟩
  | 107 => ⟨.sca, 1, 8, .non⟩
  | 109 => ⟨.sca, 1, 8, .non⟩
  | 110 => ⟨.sca, 1, 8, .non⟩
  | 111 => ⟨.sca, 1, 8, .non⟩
  | 112 => ⟨.sl 22, 1, 24, .nils⟩
  | 113 => ⟨.sca, 1, 8, .non⟩
  | 114 => ⟨.sca, 1, 8, .non⟩
  | 116 => ⟨.sca, 1, 8, .non⟩
  | 117 => ⟨.sca, 1, 8, .non⟩
  | 118 => ⟨.arr 5 3, 5, 40, .arr (List.replicate 5 0)⟩
  | 120 => ⟨.sca, 1, 8, .non⟩
  | 121 => ⟨.sca, 1, 8, .non⟩
  | 122 => ⟨.sca, 1, 8, .non⟩
  | 123 => ⟨.sca, 1, 8, .non⟩
  | 124 => ⟨.sca, 1, 8, .non⟩
  | 125 => ⟨.sca, 1, 8, .non⟩
  | 126 => ⟨.sca, 1, 8, .non⟩
  | 127 => ⟨.arr 6 4, 6, 6, .barr (List.replicate 6 false)⟩
  | 128 => ⟨.sca, 1, 8, .non⟩
  | 129 => ⟨.sca, 1, 8, .non⟩
  | 130 => ⟨.sca, 1, 8, .non⟩
  | 131 => ⟨.sca, 1, 8, .non⟩
  | 132 => ⟨.sca, 1, 8, .non⟩
  | 133 => ⟨.sca, 1, 8, .non⟩
  | 134 => ⟨.sca, 1, 8, .non⟩
  | 135 => ⟨.str [(0, 17), (1, 17), (2, 17), (3, 9)], 4, 40, .non⟩
  | 136 => ⟨.str [(0, 17), (1, 17), (2, 17), (3, 9)], 4, 40, .non⟩
  | 137 => ⟨.arr 0 16, 0, 0, .non⟩
  | 138 => ⟨.str [(0, 137)], 0, 0, .non⟩
  | 139 => ⟨.str [(0, 137)], 0, 0, .non⟩
  | 140 => ⟨.sca, 1, 8, .non⟩
  | 144 => ⟨.sca, 1, 8, .non⟩
  | 145 => ⟨.sca, 1, 8, .non⟩
  | 148 => ⟨.str [(0, 12), (1, 12), (2, 141), (3, 142), (4, 5), (5, 5), (6, 143), (7, 144), (8, 145), (9, 146), (10, 147)], 11, 48, .non⟩
  | 149 => ⟨.str [(0, 12), (1, 12), (2, 141), (3, 142), (4, 5), (5, 5), (6, 143), (7, 144), (8, 145), (9, 146), (10, 147)], 11, 48, .non⟩
  | _ => ⟨.other, 0, 0, .non⟩
theorem ty_1 : tys 1 = ⟨.sca, 1, 8, .non⟩ := rfl
theorem ty_2 : tys 2 = ⟨.int, 1, 8, .int 0⟩ := rfl
theorem ty_3 : tys 3 = ⟨.int, 1, 8, .int 0⟩ := rfl
theorem ty_4 : tys 4 = ⟨.bool, 1, 1, .bool false⟩ := rfl
theorem ty_7 : tys 7 = ⟨.str [(0, 2), (1, 3), (2, 4), (3, 6)], 4, 24, .non⟩ := rfl
theorem ty_8 : tys 8 = ⟨.str [(0, 2), (1, 3), (2, 4), (3, 6)], 4, 24, .non⟩ := rfl
theorem ty_13 : tys 13 = ⟨.str [(0, 9), (1, 12)], 2, 24, .non⟩ := rfl
theorem ty_14 : tys 14 = ⟨.str [(0, 9), (1, 12)], 2, 24, .non⟩ := rfl
theorem ty_15 : tys 15 = ⟨.sca, 1, 8, .non⟩ := rfl
theorem ty_16 : tys 16 = ⟨.sca, 1, 8, .non⟩ := rfl
theorem ty_17 : tys 17 = ⟨.sca, 1, 8, .non⟩ := rfl
theorem ty_18 : tys 18 = ⟨.str [(0, 17)], 1, 8, .non⟩ := rfl
theorem ty_19 : tys 19 = ⟨.str [(0, 17)], 1, 8, .non⟩ := rfl
theorem ty_22 : tys 22 = ⟨.arr 4 3, 4, 32, .arr (List.replicate 4 0)⟩ := rfl
theorem ty_23 : tys 23 = ⟨.arr 6 22, 24, 192, .arr (List.replicate 24 0)⟩ := rfl
theorem ty_24 : tys 24 = ⟨.str [(0, 23)], 24, 192, .arr (List.replicate 24 0)⟩ := rfl
theorem ty_25 : tys 25 = ⟨.str [(0, 23)], 24, 192, .arr (List.replicate 24 0)⟩ := rfl
theorem ty_26 : tys 26 = ⟨.sl 50, 1, 24, .nils⟩ := rfl
theorem ty_27 : tys 27 = ⟨.sca, 1, 8, .non⟩ := rfl
theorem ty_28 : tys 28 = ⟨.str [(0, 23)], 24, 192, .arr (List.replicate 24 0)⟩ := rfl
theorem ty_30 : tys 30 = ⟨.sca, 1, 8, .non⟩ := rfl
theorem ty_31 : tys 31 = ⟨.sca, 1, 8, .non⟩ := rfl
theorem ty_32 : tys 32 = ⟨.sca, 1, 8, .non⟩ := rfl
theorem ty_33 : tys 33 = ⟨.sca, 1, 8, .non⟩ := rfl
theorem ty_34 : tys 34 = ⟨.sca, 1, 8, .non⟩ := rfl
theorem ty_35 : tys 35 = ⟨.sca, 1, 8, .non⟩ := rfl
theorem ty_37 : tys 37 = ⟨.sca, 1, 8, .non⟩ := rfl
theorem ty_38 : tys 38 = ⟨.sca, 1, 8, .non⟩ := rfl
theorem ty_39 : tys 39 = ⟨.arr 6 3, 6, 48, .arr (List.replicate 6 0)⟩ := rfl
theorem ty_40 : tys 40 = ⟨.str [(0, 39), (6, 39), (12, 39)], 18, 144, .arr (List.replicate 18 0)⟩ := rfl
theorem ty_41 : tys 41 = ⟨.str [(0, 39), (6, 39), (12, 39)], 18, 144, .arr (List.replicate 18 0)⟩ := rfl
theorem ty_43 : tys 43 = ⟨.sca, 1, 8, .non⟩ := rfl
theorem ty_44 : tys 44 = ⟨.str [(0, 39), (6, 39), (12, 39)], 18, 144, .arr (List.replicate 18 0)⟩ := rfl
theorem ty_45 : tys 45 = ⟨.sca, 1, 8, .non⟩ := rfl
theorem ty_46 : tys 46 = ⟨.sca, 1, 8, .non⟩ := rfl
theorem ty_47 : tys 47 = ⟨.sca, 1, 8, .non⟩ := rfl
theorem ty_48 : tys 48 = ⟨.sca, 1, 8, .non⟩ := rfl
theorem ty_49 : tys 49 = ⟨.sca, 1, 8, .non⟩ := rfl
theorem ty_50 : tys 50 = ⟨.arr 2 3, 2, 16, .arr (List.replicate 2 0)⟩ := rfl
theorem ty_52 : tys 52 = ⟨.sca, 1, 8, .non⟩ := rfl
theorem ty_53 : tys 53 = ⟨.sca, 1, 8, .non⟩ := rfl
theorem ty_54 : tys 54 = ⟨.sl 99, 1, 24, .nils⟩ := rfl
theorem ty_56 : tys 56 = ⟨.sca, 1, 8, .non⟩ := rfl
theorem ty_57 : tys 57 = ⟨.sca, 1, 8, .non⟩ := rfl
theorem ty_58 : tys 58 = ⟨.sca, 1, 8, .non⟩ := rfl
theorem ty_59 : tys 59 = ⟨.sca, 1, 8, .non⟩ := rfl
theorem ty_60 : tys 60 = ⟨.sca, 1, 8, .non⟩ := rfl
theorem ty_61 : tys 61 = ⟨.sca, 1, 8, .non⟩ := rfl
theorem ty_62 : tys 62 = ⟨.sl 3, 1, 24, .nils⟩ := rfl
theorem ty_64 : tys 64 = ⟨.sca, 1, 8, .non⟩ := rfl
theorem ty_65 : tys 65 = ⟨.sca, 1, 8, .non⟩ := rfl
theorem ty_66 : tys 66 = ⟨.sca, 1, 8, .non⟩ := rfl
theorem ty_67 : tys 67 = ⟨.sca, 1, 8, .non⟩ := rfl
theorem ty_68 : tys 68 = ⟨.sca, 1, 8, .non⟩ := rfl
theorem ty_69 : tys 69 = ⟨.sca, 1, 8, .non⟩ := rfl
theorem ty_70 : tys 70 = ⟨.sca, 1, 8, .non⟩ := rfl
theorem ty_71 : tys 71 = ⟨.sca, 1, 8, .non⟩ := rfl
theorem ty_72 : tys 72 = ⟨.sca, 1, 8, .non⟩ := rfl
theorem ty_73 : tys 73 = ⟨.sca, 1, 8, .non⟩ := rfl
theorem ty_75 : tys 75 = ⟨.sca, 1, 8, .non⟩ := rfl
theorem ty_76 : tys 76 = ⟨.sca, 1, 8, .non⟩ := rfl
theorem ty_77 : tys 77 = ⟨.sca, 1, 8, .non⟩ := rfl
theorem ty_78 : tys 78 = ⟨.sca, 1, 8, .non⟩ := rfl
theorem ty_79 : tys 79 = ⟨.sca, 1, 8, .non⟩ := rfl
theorem ty_80 : tys 80 = ⟨.sca, 1, 8, .non⟩ := rfl
theorem ty_81 : tys 81 = ⟨.sca, 1, 8, .non⟩ := rfl
theorem ty_82 : tys 82 = ⟨.sca, 1, 8, .non⟩ := rfl
theorem ty_83 : tys 83 = ⟨.sca, 1, 8, .non⟩ := rfl
theorem ty_84 : tys 84 = ⟨.sca, 1, 8, .non⟩ := rfl
theorem ty_85 : tys 85 = ⟨.sca, 1, 8, .non⟩ := rfl
theorem ty_86 : tys 86 = ⟨.sca, 1, 8, .non⟩ := rfl
theorem ty_87 : tys 87 = ⟨.sca, 1, 8, .non⟩ := rfl
theorem ty_88 : tys 88 = ⟨.sl 28, 1, 24, .nils⟩ := rfl
theorem ty_89 : tys 89 = ⟨.sca, 1, 8, .non⟩ := rfl
theorem ty_90 : tys 90 = ⟨.mp 28 4, 1, 8, .non⟩ := rfl
theorem ty_91 : tys 91 = ⟨.sca, 1, 8, .non⟩ := rfl
theorem ty_92 : tys 92 = ⟨.sca, 1, 8, .non⟩ := rfl
theorem ty_93 : tys 93 = ⟨.sca, 1, 8, .non⟩ := rfl
theorem ty_94 : tys 94 = ⟨.sca, 1, 8, .non⟩ := rfl
theorem ty_95 : tys 95 = ⟨.sca, 1, 8, .non⟩ := rfl
theorem ty_97 : tys 97 = ⟨.sca, 1, 8, .non⟩ := rfl
theorem ty_98 : tys 98 = ⟨.str [(0, 3), (1, 3), (2, 3)], 3, 24, .arr (List.replicate 3 0)⟩ := rfl
theorem ty_99 : tys 99 = ⟨.str [(0, 3), (1, 3), (2, 3)], 3, 24, .arr (List.replicate 3 0)⟩ := rfl
theorem ty_100 : tys 100 = ⟨.sca, 1, 8, .non⟩ := rfl
theorem ty_101 : tys 101 = ⟨.sca, 1, 8, .non⟩ := rfl
theorem ty_102 : tys 102 = ⟨.sca, 1, 8, .non⟩ := rfl
theorem ty_103 : tys 103 = ⟨.sca, 1, 8, .non⟩ := rfl
theorem ty_104 : tys 104 = ⟨.sca, 1, 8, .non⟩ := rfl
theorem ty_105 : tys 105 = ⟨.sca, 1, 8, .non⟩ := rfl
theorem ty_106 : tys 106 = ⟨.sca, 1, 8, .non⟩ := rfl
theorem ty_107 : tys 107 = ⟨.sca, 1, 8, .non⟩ := rfl
theorem ty_109 : tys 109 = ⟨.sca, 1, 8, .non⟩ := rfl
theorem ty_110 : tys 110 = ⟨.sca, 1, 8, .non⟩ := rfl
theorem ty_111 : tys 111 = ⟨.sca, 1, 8, .non⟩ := rfl
theorem ty_112 : tys 112 = ⟨.sl 22, 1, 24, .nils⟩ := rfl
theorem ty_113 : tys 113 = ⟨.sca, 1, 8, .non⟩ := rfl
theorem ty_114 : tys 114 = ⟨.sca, 1, 8, .non⟩ := rfl
theorem ty_116 : tys 116 = ⟨.sca, 1, 8, .non⟩ := rfl
theorem ty_117 : tys 117 = ⟨.sca, 1, 8, .non⟩ := rfl
theorem ty_118 : tys 118 = ⟨.arr 5 3, 5, 40, .arr (List.replicate 5 0)⟩ := rfl
theorem ty_120 : tys 120 = ⟨.sca, 1, 8, .non⟩ := rfl
theorem ty_121 : tys 121 = ⟨.sca, 1, 8, .non⟩ := rfl
theorem ty_122 : tys 122 = ⟨.sca, 1, 8, .non⟩ := rfl
theorem ty_123 : tys 123 = ⟨.sca, 1, 8, .non⟩ := rfl
theorem ty_124 : tys 124 = ⟨.sca, 1, 8, .non⟩ := rfl
theorem ty_125 : tys 125 = ⟨.sca, 1, 8, .non⟩ := rfl
theorem ty_126 : tys 126 = ⟨.sca, 1, 8, .non⟩ := rfl
theorem ty_127 : tys 127 = ⟨.arr 6 4, 6, 6, .barr (List.replicate 6 false)⟩ := rfl
theorem ty_128 : tys 128 = ⟨.sca, 1, 8, .non⟩ := rfl
theorem ty_129 : tys 129 = ⟨.sca, 1, 8, .non⟩ := rfl
theorem ty_130 : tys 130 = ⟨.sca, 1, 8, .non⟩ := rfl
theorem ty_131 : tys 131 = ⟨.sca, 1, 8, .non⟩ := rfl
theorem ty_132 : tys 132 = ⟨.sca, 1, 8, .non⟩ := rfl
theorem ty_133 : tys 133 = ⟨.sca, 1, 8, .non⟩ := rfl
theorem ty_134 : tys 134 = ⟨.sca, 1, 8, .non⟩ := rfl
theorem ty_135 : tys 135 = ⟨.str [(0, 17), (1, 17), (2, 17), (3, 9)], 4, 40, .non⟩ := rfl
theorem ty_136 : tys 136 = ⟨.str [(0, 17), (1, 17), (2, 17), (3, 9)], 4, 40, .non⟩ := rfl
theorem ty_137 : tys 137 = ⟨.arr 0 16, 0, 0, .non⟩ := rfl
theorem ty_138 : tys 138 = ⟨.str [(0, 137)], 0, 0, .non⟩ := rfl
theorem ty_139 : tys 139 = ⟨.str [(0, 137)], 0, 0, .non⟩ := rfl
theorem ty_140 : tys 140 = ⟨.sca, 1, 8, .non⟩ := rfl
theorem ty_144 : tys 144 = ⟨.sca, 1, 8, .non⟩ := rfl
theorem ty_145 : tys 145 = ⟨.sca, 1, 8, .non⟩ := rfl
theorem ty_148 : tys 148 = ⟨.str [(0, 12), (1, 12), (2, 141), (3, 142), (4, 5), (5, 5), (6, 143), (7, 144), (8, 145), (9, 146), (10, 147)], 11, 48, .non⟩ := rfl
theorem ty_149 : tys 149 = ⟨.str [(0, 12), (1, 12), (2, 141), (3, 142), (4, 5), (5, 5), (6, 143), (7, 144), (8, 145), (9, 146), (10, 147)], 11, 48, .non⟩ := rfl
theorem tyok_1 : TyOK Try.prog 1 (tys 1) := tyOK_mk ⟨_, Try.underlying1, rfl⟩ (.inr ⟨rfl, by kernel_rfl⟩)
theorem tyok_2 : TyOK Try.prog 2 (tys 2) := tyOK_mk Try.underlying2 (.inl (by kernel_rfl))
theorem tyok_3 : TyOK Try.prog 3 (tys 3) := tyOK_mk Try.underlying3 (.inl (by kernel_rfl))
theorem tyok_4 : TyOK Try.prog 4 (tys 4) := tyOK_mk Try.underlying4 (.inl (by kernel_rfl))
theorem tyok_7 : TyOK Try.prog 7 (tys 7) := tyOK_mk ⟨_, Try.underlying7, rfl⟩ (.inr ⟨rfl, by kernel_rfl⟩)
theorem tyok_8 : TyOK Try.prog 8 (tys 8) := tyOK_mk ⟨_, Try.underlying8, rfl⟩ (.inr ⟨rfl, by kernel_rfl⟩)
theorem tyok_13 : TyOK Try.prog 13 (tys 13) := tyOK_mk ⟨_, Try.underlying13, rfl⟩ (.inr ⟨rfl, by kernel_rfl⟩)
theorem tyok_14 : TyOK Try.prog 14 (tys 14) := tyOK_mk ⟨_, Try.underlying14, rfl⟩ (.inr ⟨rfl, by kernel_rfl⟩)
theorem tyok_15 : TyOK Try.prog 15 (tys 15) := tyOK_mk ⟨_, Try.underlying15, rfl⟩ (.inr ⟨rfl, by kernel_rfl⟩)
theorem tyok_16 : TyOK Try.prog 16 (tys 16) := tyOK_mk ⟨_, Try.underlying16, rfl⟩ (.inr ⟨rfl, by kernel_rfl⟩)
theorem tyok_17 : TyOK Try.prog 17 (tys 17) := tyOK_mk ⟨_, Try.underlying17, rfl⟩ (.inr ⟨rfl, by kernel_rfl⟩)
theorem tyok_18 : TyOK Try.prog 18 (tys 18) := tyOK_mk ⟨_, Try.underlying18, rfl⟩ (.inr ⟨rfl, by kernel_rfl⟩)
theorem tyok_19 : TyOK Try.prog 19 (tys 19) := tyOK_mk ⟨_, Try.underlying19, rfl⟩ (.inr ⟨rfl, by kernel_rfl⟩)
theorem tyok_22 : TyOK Try.prog 22 (tys 22) := tyOK_mk Try.underlying22 (.inl (by kernel_rfl))
theorem tyok_23 : TyOK Try.prog 23 (tys 23) := tyOK_mk Try.underlying23 (.inl (by kernel_rfl))
theorem tyok_24 : TyOK Try.prog 24 (tys 24) := tyOK_mk ⟨_, Try.underlying24, rfl⟩ (.inl (by kernel_rfl))
theorem tyok_25 : TyOK Try.prog 25 (tys 25) := tyOK_mk ⟨_, Try.underlying25, rfl⟩ (.inl (by kernel_rfl))
theorem tyok_26 : TyOK Try.prog 26 (tys 26) := tyOK_mk Try.underlying26 (.inl (by kernel_rfl))
theorem tyok_27 : TyOK Try.prog 27 (tys 27) := tyOK_mk ⟨_, Try.underlying27, rfl⟩ (.inr ⟨rfl, by kernel_rfl⟩)
theorem tyok_28 : TyOK Try.prog 28 (tys 28) := tyOK_mk ⟨_, Try.underlying28, rfl⟩ (.inl (by kernel_rfl))
theorem tyok_30 : TyOK Try.prog 30 (tys 30) := tyOK_mk ⟨_, Try.underlying30, rfl⟩ (.inr ⟨rfl, by kernel_rfl⟩)
theorem tyok_31 : TyOK Try.prog 31 (tys 31) := tyOK_mk ⟨_, Try.underlying31, rfl⟩ (.inr ⟨rfl, by kernel_rfl⟩)
theorem tyok_32 : TyOK Try.prog 32 (tys 32) := tyOK_mk ⟨_, Try.underlying32, rfl⟩ (.inr ⟨rfl, by kernel_rfl⟩)
theorem tyok_33 : TyOK Try.prog 33 (tys 33) := tyOK_mk ⟨_, Try.underlying33, rfl⟩ (.inr ⟨rfl, by kernel_rfl⟩)
theorem tyok_34 : TyOK Try.prog 34 (tys 34) := tyOK_mk ⟨_, Try.underlying34, rfl⟩ (.inr ⟨rfl, by kernel_rfl⟩)
theorem tyok_35 : TyOK Try.prog 35 (tys 35) := tyOK_mk ⟨_, Try.underlying35, rfl⟩ (.inr ⟨rfl, by kernel_rfl⟩)
theorem tyok_37 : TyOK Try.prog 37 (tys 37) := tyOK_mk ⟨_, Try.underlying37, rfl⟩ (.inr ⟨rfl, by kernel_rfl⟩)
theorem tyok_38 : TyOK Try.prog 38 (tys 38) := tyOK_mk ⟨_, Try.underlying38, rfl⟩ (.inr ⟨rfl, by kernel_rfl⟩)
theorem tyok_39 : TyOK Try.prog 39 (tys 39) := tyOK_mk Try.underlying39 (.inl (by kernel_rfl))
theorem tyok_40 : TyOK Try.prog 40 (tys 40) := tyOK_mk ⟨_, Try.underlying40, rfl⟩ (.inl (by kernel_rfl))
theorem tyok_41 : TyOK Try.prog 41 (tys 41) := tyOK_mk ⟨_, Try.underlying41, rfl⟩ (.inl (by kernel_rfl))
theorem tyok_43 : TyOK Try.prog 43 (tys 43) := tyOK_mk ⟨_, Try.underlying43, rfl⟩ (.inr ⟨rfl, by kernel_rfl⟩)
theorem tyok_44 : TyOK Try.prog 44 (tys 44) := tyOK_mk ⟨_, Try.underlying44, rfl⟩ (.inl (by kernel_rfl))
theorem tyok_45 : TyOK Try.prog 45 (tys 45) := tyOK_mk ⟨_, Try.underlying45, rfl⟩ (.inr ⟨rfl, by kernel_rfl⟩)
theorem tyok_46 : TyOK Try.prog 46 (tys 46) := tyOK_mk ⟨_, Try.underlying46, rfl⟩ (.inr ⟨rfl, by kernel_rfl⟩)
theorem tyok_47 : TyOK Try.prog 47 (tys 47) := tyOK_mk ⟨_, Try.underlying47, rfl⟩ (.inr ⟨rfl, by kernel_rfl⟩)
theorem tyok_48 : TyOK Try.prog 48 (tys 48) := tyOK_mk ⟨_, Try.underlying48, rfl⟩ (.inr ⟨rfl, by kernel_rfl⟩)
theorem tyok_49 : TyOK Try.prog 49 (tys 49) := tyOK_mk ⟨_, Try.underlying49, rfl⟩ (.inr ⟨rfl, by kernel_rfl⟩)
theorem tyok_50 : TyOK Try.prog 50 (tys 50) := tyOK_mk Try.underlying50 (.inl (by kernel_rfl))
theorem tyok_52 : TyOK Try.prog 52 (tys 52) := tyOK_mk ⟨_, Try.underlying52, rfl⟩ (.inr ⟨rfl, by kernel_rfl⟩)
theorem tyok_53 : TyOK Try.prog 53 (tys 53) := tyOK_mk ⟨_, Try.underlying53, rfl⟩ (.inr ⟨rfl, by kernel_rfl⟩)
theorem tyok_54 : TyOK Try.prog 54 (tys 54) := tyOK_mk Try.underlying54 (.inl (by kernel_rfl))
theorem tyok_56 : TyOK Try.prog 56 (tys 56) := tyOK_mk ⟨_, Try.underlying56, rfl⟩ (.inr ⟨rfl, by kernel_rfl⟩)
theorem tyok_57 : TyOK Try.prog 57 (tys 57) := tyOK_mk ⟨_, Try.underlying57, rfl⟩ (.inr ⟨rfl, by kernel_rfl⟩)
theorem tyok_58 : TyOK Try.prog 58 (tys 58) := tyOK_mk ⟨_, Try.underlying58, rfl⟩ (.inr ⟨rfl, by kernel_rfl⟩)
theorem tyok_59 : TyOK Try.prog 59 (tys 59) := tyOK_mk ⟨_, Try.underlying59, rfl⟩ (.inr ⟨rfl, by kernel_rfl⟩)
theorem tyok_60 : TyOK Try.prog 60 (tys 60) := tyOK_mk ⟨_, Try.underlying60, rfl⟩ (.inr ⟨rfl, by kernel_rfl⟩)
theorem tyok_61 : TyOK Try.prog 61 (tys 61) := tyOK_mk ⟨_, Try.underlying61, rfl⟩ (.inr ⟨rfl, by kernel_rfl⟩)
theorem tyok_62 : TyOK Try.prog 62 (tys 62) := tyOK_mk Try.underlying62 (.inl (by kernel_rfl))
theorem tyok_64 : TyOK Try.prog 64 (tys 64) := tyOK_mk ⟨_, Try.underlying64, rfl⟩ (.inr ⟨rfl, by kernel_rfl⟩)
theorem tyok_65 : TyOK Try.prog 65 (tys 65) := tyOK_mk ⟨_, Try.underlying65, rfl⟩ (.inr ⟨rfl, by kernel_rfl⟩)
theorem tyok_66 : TyOK Try.prog 66 (tys 66) := tyOK_mk ⟨_, Try.underlying66, rfl⟩ (.inr ⟨rfl, by kernel_rfl⟩)
theorem tyok_67 : TyOK Try.prog 67 (tys 67) := tyOK_mk ⟨_, Try.underlying67, rfl⟩ (.inr ⟨rfl, by kernel_rfl⟩)
theorem tyok_68 : TyOK Try.prog 68 (tys 68) := tyOK_mk ⟨_, Try.underlying68, rfl⟩ (.inr ⟨rfl, by kernel_rfl⟩)
theorem tyok_69 : TyOK Try.prog 69 (tys 69) := tyOK_mk ⟨_, Try.underlying69, rfl⟩ (.inr ⟨rfl, by kernel_rfl⟩)
theorem tyok_70 : TyOK Try.prog 70 (tys 70) := tyOK_mk ⟨_, Try.underlying70, rfl⟩ (.inr ⟨rfl, by kernel_rfl⟩)
theorem tyok_71 : TyOK Try.prog 71 (tys 71) := tyOK_mk ⟨_, Try.underlying71, rfl⟩ (.inr ⟨rfl, by kernel_rfl⟩)
theorem tyok_72 : TyOK Try.prog 72 (tys 72) := tyOK_mk ⟨_, Try.underlying72, rfl⟩ (.inr ⟨rfl, by kernel_rfl⟩)
theorem tyok_73 : TyOK Try.prog 73 (tys 73) := tyOK_mk ⟨_, Try.underlying73, rfl⟩ (.inr ⟨rfl, by kernel_rfl⟩)
theorem tyok_75 : TyOK Try.prog 75 (tys 75) := tyOK_mk ⟨_, Try.underlying75, rfl⟩ (.inr ⟨rfl, by kernel_rfl⟩)
theorem tyok_76 : TyOK Try.prog 76 (tys 76) := tyOK_mk ⟨_, Try.underlying76, rfl⟩ (.inr ⟨rfl, by kernel_rfl⟩)
theorem tyok_77 : TyOK Try.prog 77 (tys 77) := tyOK_mk ⟨_, Try.underlying77, rfl⟩ (.inr ⟨rfl, by kernel_rfl⟩)
theorem tyok_78 : TyOK Try.prog 78 (tys 78) := tyOK_mk ⟨_, Try.underlying78, rfl⟩ (.inr ⟨rfl, by kernel_rfl⟩)
theorem tyok_79 : TyOK Try.prog 79 (tys 79) := tyOK_mk ⟨_, Try.underlying79, rfl⟩ (.inr ⟨rfl, by kernel_rfl⟩)
theorem tyok_80 : TyOK Try.prog 80 (tys 80) := tyOK_mk ⟨_, Try.underlying80, rfl⟩ (.inr ⟨rfl, by kernel_rfl⟩)
theorem tyok_81 : TyOK Try.prog 81 (tys 81) := tyOK_mk ⟨_, Try.underlying81, rfl⟩ (.inr ⟨rfl, by kernel_rfl⟩)
theorem tyok_82 : TyOK Try.prog 82 (tys 82) := tyOK_mk ⟨_, Try.underlying82, rfl⟩ (.inr ⟨rfl, by kernel_rfl⟩)
theorem tyok_83 : TyOK Try.prog 83 (tys 83) := tyOK_mk ⟨_, Try.underlying83, rfl⟩ (.inr ⟨rfl, by kernel_rfl⟩)
theorem tyok_84 : TyOK Try.prog 84 (tys 84) := tyOK_mk ⟨_, Try.underlying84, rfl⟩ (.inr ⟨rfl, by kernel_rfl⟩)
theorem tyok_85 : TyOK Try.prog 85 (tys 85) := tyOK_mk ⟨_, Try.underlying85, rfl⟩ (.inr ⟨rfl, by kernel_rfl⟩)
theorem tyok_86 : TyOK Try.prog 86 (tys 86) := tyOK_mk ⟨_, Try.underlying86, rfl⟩ (.inr ⟨rfl, by kernel_rfl⟩)
theorem tyok_87 : TyOK Try.prog 87 (tys 87) := tyOK_mk ⟨_, Try.underlying87, rfl⟩ (.inr ⟨rfl, by kernel_rfl⟩)
theorem tyok_88 : TyOK Try.prog 88 (tys 88) := tyOK_mk Try.underlying88 (.inl (by kernel_rfl))
theorem tyok_89 : TyOK Try.prog 89 (tys 89) := tyOK_mk ⟨_, Try.underlying89, rfl⟩ (.inr ⟨rfl, by kernel_rfl⟩)
theorem tyok_90 : TyOK Try.prog 90 (tys 90) := tyOK_mk Try.underlying90 (.inr ⟨rfl, by kernel_rfl⟩)
theorem tyok_91 : TyOK Try.prog 91 (tys 91) := tyOK_mk ⟨_, Try.underlying91, rfl⟩ (.inr ⟨rfl, by kernel_rfl⟩)
theorem tyok_92 : TyOK Try.prog 92 (tys 92) := tyOK_mk ⟨_, Try.underlying92, rfl⟩ (.inr ⟨rfl, by kernel_rfl⟩)
theorem tyok_93 : TyOK Try.prog 93 (tys 93) := tyOK_mk ⟨_, Try.underlying93, rfl⟩ (.inr ⟨rfl, by kernel_rfl⟩)
theorem tyok_94 : TyOK Try.prog 94 (tys 94) := tyOK_mk ⟨_, Try.underlying94, rfl⟩ (.inr ⟨rfl, by kernel_rfl⟩)
theorem tyok_95 : TyOK Try.prog 95 (tys 95) := tyOK_mk ⟨_, Try.underlying95, rfl⟩ (.inr ⟨rfl, by kernel_rfl⟩)
theorem tyok_97 : TyOK Try.prog 97 (tys 97) := tyOK_mk ⟨_, Try.underlying97, rfl⟩ (.inr ⟨rfl, by kernel_rfl⟩)
theorem tyok_98 : TyOK Try.prog 98 (tys 98) := tyOK_mk ⟨_, Try.underlying98, rfl⟩ (.inl (by kernel_rfl))
theorem tyok_99 : TyOK Try.prog 99 (tys 99) := tyOK_mk ⟨_, Try.underlying99, rfl⟩ (.inl (by kernel_rfl))
theorem tyok_100 : TyOK Try.prog 100 (tys 100) := tyOK_mk ⟨_, Try.underlying100, rfl⟩ (.inr ⟨rfl, by kernel_rfl⟩)
theorem tyok_101 : TyOK Try.prog 101 (tys 101) := tyOK_mk ⟨_, Try.underlying101, rfl⟩ (.inr ⟨rfl, by kernel_rfl⟩)
theorem tyok_102 : TyOK Try.prog 102 (tys 102) := tyOK_mk ⟨_, Try.underlying102, rfl⟩ (.inr ⟨rfl, by kernel_rfl⟩)
theorem tyok_103 : TyOK Try.prog 103 (tys 103) := tyOK_mk ⟨_, Try.underlying103, rfl⟩ (.inr ⟨rfl, by kernel_rfl⟩)
theorem tyok_104 : TyOK Try.prog 104 (tys 104) := tyOK_mk ⟨_, Try.underlying104, rfl⟩ (.inr ⟨rfl, by kernel_rfl⟩)
theorem tyok_105 : TyOK Try.prog 105 (tys 105) := tyOK_mk ⟨_, Try.underlying105, rfl⟩ (.inr ⟨rfl, by kernel_rfl⟩)
theorem tyok_106 : TyOK Try.prog 106 (tys 106) := tyOK_mk ⟨_, Try.underlying106, rfl⟩ (.inr ⟨rfl, by kernel_rfl⟩)
theorem tyok_107 : TyOK Try.prog 107 (tys 107) := tyOK_mk ⟨_, Try.underlying107, rfl⟩ (.inr ⟨rfl, by kernel_rfl⟩)
theorem tyok_109 : TyOK Try.prog 109 (tys 109) := tyOK_mk ⟨_, Try.underlying109, rfl⟩ (.inr ⟨rfl, by kernel_rfl⟩)
theorem tyok_110 : TyOK Try.prog 110 (tys 110) := tyOK_mk ⟨_, Try.underlying110, rfl⟩ (.inr ⟨rfl, by kernel_rfl⟩)
theorem tyok_111 : TyOK Try.prog 111 (tys 111) := tyOK_mk ⟨_, Try.underlying111, rfl⟩ (.inr ⟨rfl, by kernel_rfl⟩)
theorem tyok_112 : TyOK Try.prog 112 (tys 112) := tyOK_mk Try.underlying112 (.inl (by kernel_rfl))
theorem tyok_113 : TyOK Try.prog 113 (tys 113) := tyOK_mk ⟨_, Try.underlying113, rfl⟩ (.inr ⟨rfl, by kernel_rfl⟩)
theorem tyok_114 : TyOK Try.prog 114 (tys 114) := tyOK_mk ⟨_, Try.underlying114, rfl⟩ (.inr ⟨rfl, by kernel_rfl⟩)
theorem tyok_116 : TyOK Try.prog 116 (tys 116) := tyOK_mk ⟨_, Try.underlying116, rfl⟩ (.inr ⟨rfl, by kernel_rfl⟩)
theorem tyok_117 : TyOK Try.prog 117 (tys 117) := tyOK_mk ⟨_, Try.underlying117, rfl⟩ (.inr ⟨rfl, by kernel_rfl⟩)
theorem tyok_118 : TyOK Try.prog 118 (tys 118) := tyOK_mk Try.underlying118 (.inl (by kernel_rfl))
theorem tyok_120 : TyOK Try.prog 120 (tys 120) := tyOK_mk ⟨_, Try.underlying120, rfl⟩ (.inr ⟨rfl, by kernel_rfl⟩)
theorem tyok_121 : TyOK Try.prog 121 (tys 121) := tyOK_mk ⟨_, Try.underlying121, rfl⟩ (.inr ⟨rfl, by kernel_rfl⟩)
theorem tyok_122 : TyOK Try.prog 122 (tys 122) := tyOK_mk ⟨_, Try.underlying122, rfl⟩ (.inr ⟨rfl, by kernel_rfl⟩)
theorem tyok_123 : TyOK Try.prog 123 (tys 123) := tyOK_mk ⟨_, Try.underlying123, rfl⟩ (.inr ⟨rfl, by kernel_rfl⟩)
theorem tyok_124 : TyOK Try.prog 124 (tys 124) := tyOK_mk ⟨_, Try.underlying124, rfl⟩ (.inr ⟨rfl, by kernel_rfl⟩)
theorem tyok_125 : TyOK Try.prog 125 (tys 125) := tyOK_mk ⟨_, Try.underlying125, rfl⟩ (.inr ⟨rfl, by kernel_rfl⟩)
theorem tyok_126 : TyOK Try.prog 126 (tys 126) := tyOK_mk ⟨_, Try.underlying126, rfl⟩ (.inr ⟨rfl, by kernel_rfl⟩)
theorem tyok_127 : TyOK Try.prog 127 (tys 127) := tyOK_mk Try.underlying127 (.inl (by kernel_rfl))
theorem tyok_128 : TyOK Try.prog 128 (tys 128) := tyOK_mk ⟨_, Try.underlying128, rfl⟩ (.inr ⟨rfl, by kernel_rfl⟩)
theorem tyok_129 : TyOK Try.prog 129 (tys 129) := tyOK_mk ⟨_, Try.underlying129, rfl⟩ (.inr ⟨rfl, by kernel_rfl⟩)
theorem tyok_130 : TyOK Try.prog 130 (tys 130) := tyOK_mk ⟨_, Try.underlying130, rfl⟩ (.inr ⟨rfl, by kernel_rfl⟩)
theorem tyok_131 : TyOK Try.prog 131 (tys 131) := tyOK_mk ⟨_, Try.underlying131, rfl⟩ (.inr ⟨rfl, by kernel_rfl⟩)
theorem tyok_132 : TyOK Try.prog 132 (tys 132) := tyOK_mk ⟨_, Try.underlying132, rfl⟩ (.inr ⟨rfl, by kernel_rfl⟩)
theorem tyok_133 : TyOK Try.prog 133 (tys 133) := tyOK_mk ⟨_, Try.underlying133, rfl⟩ (.inr ⟨rfl, by kernel_rfl⟩)
theorem tyok_134 : TyOK Try.prog 134 (tys 134) := tyOK_mk ⟨_, Try.underlying134, rfl⟩ (.inr ⟨rfl, by kernel_rfl⟩)
theorem tyok_135 : TyOK Try.prog 135 (tys 135) := tyOK_mk ⟨_, Try.underlying135, rfl⟩ (.inr ⟨rfl, by kernel_rfl⟩)
theorem tyok_136 : TyOK Try.prog 136 (tys 136) := tyOK_mk ⟨_, Try.underlying136, rfl⟩ (.inr ⟨rfl, by kernel_rfl⟩)
theorem tyok_137 : TyOK Try.prog 137 (tys 137) := tyOK_mk Try.underlying137 (.inr ⟨rfl, by kernel_rfl⟩)
theorem tyok_138 : TyOK Try.prog 138 (tys 138) := tyOK_mk ⟨_, Try.underlying138, rfl⟩ (.inr ⟨rfl, by kernel_rfl⟩)
theorem tyok_139 : TyOK Try.prog 139 (tys 139) := tyOK_mk ⟨_, Try.underlying139, rfl⟩ (.inr ⟨rfl, by kernel_rfl⟩)
theorem tyok_140 : TyOK Try.prog 140 (tys 140) := tyOK_mk ⟨_, Try.underlying140, rfl⟩ (.inr ⟨rfl, by kernel_rfl⟩)
theorem tyok_144 : TyOK Try.prog 144 (tys 144) := tyOK_mk ⟨_, Try.underlying144, rfl⟩ (.inr ⟨rfl, by kernel_rfl⟩)
theorem tyok_145 : TyOK Try.prog 145 (tys 145) := tyOK_mk ⟨_, Try.underlying145, rfl⟩ (.inr ⟨rfl, by kernel_rfl⟩)
theorem tyok_148 : TyOK Try.prog 148 (tys 148) := tyOK_mk ⟨_, Try.underlying148, rfl⟩ (.inr ⟨rfl, by kernel_rfl⟩)
theorem tyok_149 : TyOK Try.prog 149 (tys 149) := tyOK_mk ⟨_, Try.underlying149, rfl⟩ (.inr ⟨rfl, by kernel_rfl⟩)
theorem tyok_other (t : Nat) (h : (tys t).k = .other) : TyOK Try.prog t (tys t) := ⟨by rw [h]; trivial, fun h' => absurd h h'⟩
theorem TYB : type_of% (
  And.intro @ty_1 <|
  And.intro @ty_2 <|
  And.intro @ty_3 <|
  And.intro @ty_4 <|
  And.intro @ty_7 <|
  And.intro @ty_8 <|
  And.intro @ty_13 <|
  And.intro @ty_14 <|
  And.intro @ty_15 <|
  And.intro @ty_16 <|
  And.intro @ty_17 <|
  And.intro @ty_18 <|
  And.intro @ty_19 <|
  And.intro @ty_22 <|
  And.intro @ty_23 <|
  And.intro @ty_24 <|
  And.intro @ty_25 <|
  And.intro @ty_26 <|
  And.intro @ty_27 <|
  And.intro @ty_28 <|
  And.intro @ty_30 <|
  And.intro @ty_31 <|
  And.intro @ty_32 <|
  And.intro @ty_33 <|
  And.intro @ty_34 <|
  And.intro @ty_35 <|
  And.intro @ty_37 <|
  And.intro @ty_38 <|
  And.intro @ty_39 <|
  And.intro @ty_40 <|
  And.intro @ty_41 <|
  And.intro @ty_43 <|
  And.intro @ty_44 <|
  And.intro @ty_45 <|
  And.intro @ty_46 <|
  And.intro @ty_47 <|
  And.intro @ty_48 <|
  And.intro @ty_49 <|
  And.intro @ty_50 <|
  And.intro @ty_52 <|
  And.intro @ty_53 <|
  And.intro @ty_54 <|
  And.intro @ty_56 <|
  And.intro @ty_57 <|
  And.intro @ty_58 <|
  And.intro @ty_59 <|
  And.intro @ty_60 <|
  And.intro @ty_61 <|
  And.intro @ty_62 <|
  And.intro @ty_64 <|
  And.intro @ty_65 <|
  And.intro @ty_66 <|
  And.intro @ty_67 <|
  And.intro @ty_68 <|
  And.intro @ty_69 <|
  And.intro @ty_70 <|
  And.intro @ty_71 <|
  And.intro @ty_72 <|
  And.intro @ty_73 <|
  And.intro @ty_75 <|
  And.intro @ty_76 <|
  And.intro @ty_77 <|
  And.intro @ty_78 <|
  And.intro @ty_79 <|
  And.intro @ty_80 <|
  And.intro @ty_81 <|
  And.intro @ty_82 <|
  And.intro @ty_83 <|
  And.intro @ty_84 <|
  And.intro @ty_85 <|
  And.intro @ty_86 <|
  And.intro @ty_87 <|
  And.intro @ty_88 <|
  And.intro @ty_89 <|
  And.intro @ty_90 <|
  And.intro @ty_91 <|
  And.intro @ty_92 <|
  And.intro @ty_93 <|
  And.intro @ty_94 <|
  And.intro @ty_95 <|
  And.intro @ty_97 <|
  And.intro @ty_98 <|
  And.intro @ty_99 <|
  And.intro @ty_100 <|
  And.intro @ty_101 <|
  And.intro @ty_102 <|
  And.intro @ty_103 <|
  And.intro @ty_104 <|
  And.intro @ty_105 <|
  And.intro @ty_106 <|
  And.intro @ty_107 <|
  And.intro @ty_109 <|
  And.intro @ty_110 <|
  And.intro @ty_111 <|
  And.intro @ty_112 <|
  And.intro @ty_113 <|
  And.intro @ty_114 <|
  And.intro @ty_116 <|
  And.intro @ty_117 <|
  And.intro @ty_118 <|
  And.intro @ty_120 <|
  And.intro @ty_121 <|
  And.intro @ty_122 <|
  And.intro @ty_123 <|
  And.intro @ty_124 <|
  And.intro @ty_125 <|
  And.intro @ty_126 <|
  And.intro @ty_127 <|
  And.intro @ty_128 <|
  And.intro @ty_129 <|
  And.intro @ty_130 <|
  And.intro @ty_131 <|
  And.intro @ty_132 <|
  And.intro @ty_133 <|
  And.intro @ty_134 <|
  And.intro @ty_135 <|
  And.intro @ty_136 <|
  And.intro @ty_137 <|
  And.intro @ty_138 <|
  And.intro @ty_139 <|
  And.intro @ty_140 <|
  And.intro @ty_144 <|
  And.intro @ty_145 <|
  And.intro @ty_148 <| @ty_149) :=
  And.intro @ty_1 <|
  And.intro @ty_2 <|
  And.intro @ty_3 <|
  And.intro @ty_4 <|
  And.intro @ty_7 <|
  And.intro @ty_8 <|
  And.intro @ty_13 <|
  And.intro @ty_14 <|
  And.intro @ty_15 <|
  And.intro @ty_16 <|
  And.intro @ty_17 <|
  And.intro @ty_18 <|
  And.intro @ty_19 <|
  And.intro @ty_22 <|
  And.intro @ty_23 <|
  And.intro @ty_24 <|
  And.intro @ty_25 <|
  And.intro @ty_26 <|
  And.intro @ty_27 <|
  And.intro @ty_28 <|
  And.intro @ty_30 <|
  And.intro @ty_31 <|
  And.intro @ty_32 <|
  And.intro @ty_33 <|
  And.intro @ty_34 <|
  And.intro @ty_35 <|
  And.intro @ty_37 <|
  And.intro @ty_38 <|
  And.intro @ty_39 <|
  And.intro @ty_40 <|
  And.intro @ty_41 <|
  And.intro @ty_43 <|
  And.intro @ty_44 <|
  And.intro @ty_45 <|
  And.intro @ty_46 <|
  And.intro @ty_47 <|
  And.intro @ty_48 <|
  And.intro @ty_49 <|
  And.intro @ty_50 <|
  And.intro @ty_52 <|
  And.intro @ty_53 <|
  And.intro @ty_54 <|
  And.intro @ty_56 <|
  And.intro @ty_57 <|
  And.intro @ty_58 <|
  And.intro @ty_59 <|
  And.intro @ty_60 <|
  And.intro @ty_61 <|
  And.intro @ty_62 <|
  And.intro @ty_64 <|
  And.intro @ty_65 <|
  And.intro @ty_66 <|
  And.intro @ty_67 <|
  And.intro @ty_68 <|
  And.intro @ty_69 <|
  And.intro @ty_70 <|
  And.intro @ty_71 <|
  And.intro @ty_72 <|
  And.intro @ty_73 <|
  And.intro @ty_75 <|
  And.intro @ty_76 <|
  And.intro @ty_77 <|
  And.intro @ty_78 <|
  And.intro @ty_79 <|
  And.intro @ty_80 <|
  And.intro @ty_81 <|
  And.intro @ty_82 <|
  And.intro @ty_83 <|
  And.intro @ty_84 <|
  And.intro @ty_85 <|
  And.intro @ty_86 <|
  And.intro @ty_87 <|
  And.intro @ty_88 <|
  And.intro @ty_89 <|
  And.intro @ty_90 <|
  And.intro @ty_91 <|
  And.intro @ty_92 <|
  And.intro @ty_93 <|
  And.intro @ty_94 <|
  And.intro @ty_95 <|
  And.intro @ty_97 <|
  And.intro @ty_98 <|
  And.intro @ty_99 <|
  And.intro @ty_100 <|
  And.intro @ty_101 <|
  And.intro @ty_102 <|
  And.intro @ty_103 <|
  And.intro @ty_104 <|
  And.intro @ty_105 <|
  And.intro @ty_106 <|
  And.intro @ty_107 <|
  And.intro @ty_109 <|
  And.intro @ty_110 <|
  And.intro @ty_111 <|
  And.intro @ty_112 <|
  And.intro @ty_113 <|
  And.intro @ty_114 <|
  And.intro @ty_116 <|
  And.intro @ty_117 <|
  And.intro @ty_118 <|
  And.intro @ty_120 <|
  And.intro @ty_121 <|
  And.intro @ty_122 <|
  And.intro @ty_123 <|
  And.intro @ty_124 <|
  And.intro @ty_125 <|
  And.intro @ty_126 <|
  And.intro @ty_127 <|
  And.intro @ty_128 <|
  And.intro @ty_129 <|
  And.intro @ty_130 <|
  And.intro @ty_131 <|
  And.intro @ty_132 <|
  And.intro @ty_133 <|
  And.intro @ty_134 <|
  And.intro @ty_135 <|
  And.intro @ty_136 <|
  And.intro @ty_137 <|
  And.intro @ty_138 <|
  And.intro @ty_139 <|
  And.intro @ty_140 <|
  And.intro @ty_144 <|
  And.intro @ty_145 <|
  And.intro @ty_148 <| @ty_149
theorem tys_ok : TysOK Try.prog tys := by
  intro t
  match t with
  | 1 => exact tyok_1
  | 2 => exact tyok_2
  | 3 => exact tyok_3
  | 4 => exact tyok_4
  | 7 => exact tyok_7
  | 8 => exact tyok_8
  | 13 => exact tyok_13
  | 14 => exact tyok_14
  | 15 => exact tyok_15
  | 16 => exact tyok_16
  | 17 => exact tyok_17
  | 18 => exact tyok_18
  | 19 => exact tyok_19
  | 22 => exact tyok_22
  | 23 => exact tyok_23
  | 24 => exact tyok_24
  | 25 => exact tyok_25
  | 26 => exact tyok_26
  | 27 => exact tyok_27
  | 28 => exact tyok_28
  | 30 => exact tyok_30
  | 31 => exact tyok_31
  | 32 => exact tyok_32
  | 33 => exact tyok_33
  | 34 => exact tyok_34
  | 35 => exact tyok_35
  | 37 => exact tyok_37
  | 38 => exact tyok_38
  | 39 => exact tyok_39
  | 40 => exact tyok_40
  | 41 => exact tyok_41
  | 43 => exact tyok_43
  | 44 => exact tyok_44
  | 45 => exact tyok_45
  | 46 => exact tyok_46
  | 47 => exact tyok_47
  | 48 => exact tyok_48
  | 49 => exact tyok_49
  | 50 => exact tyok_50
  | 52 => exact tyok_52
  | 53 => exact tyok_53
  | 54 => exact tyok_54
  | 56 => exact tyok_56
  | 57 => exact tyok_57
  | 58 => exact tyok_58
  | 59 => exact tyok_59
  | 60 => exact tyok_60
  | 61 => exact tyok_61
  | 62 => exact tyok_62
  | 64 => exact tyok_64
  | 65 => exact tyok_65
  | 66 => exact tyok_66
  | 67 => exact tyok_67
  | 68 => exact tyok_68
  | 69 => exact tyok_69
  | 70 => exact tyok_70
  | 71 => exact tyok_71
  | 72 => exact tyok_72
  | 73 => exact tyok_73
  | 75 => exact tyok_75
  | 76 => exact tyok_76
  | 77 => exact tyok_77
  | 78 => exact tyok_78
  | 79 => exact tyok_79
  | 80 => exact tyok_80
  | 81 => exact tyok_81
  | 82 => exact tyok_82
  | 83 => exact tyok_83
  | 84 => exact tyok_84
  | 85 => exact tyok_85
  | 86 => exact tyok_86
  | 87 => exact tyok_87
  | 88 => exact tyok_88
  | 89 => exact tyok_89
  | 90 => exact tyok_90
  | 91 => exact tyok_91
  | 92 => exact tyok_92
  | 93 => exact tyok_93
  | 94 => exact tyok_94
  | 95 => exact tyok_95
  | 97 => exact tyok_97
  | 98 => exact tyok_98
  | 99 => exact tyok_99
  | 100 => exact tyok_100
  | 101 => exact tyok_101
  | 102 => exact tyok_102
  | 103 => exact tyok_103
  | 104 => exact tyok_104
  | 105 => exact tyok_105
  | 106 => exact tyok_106
  | 107 => exact tyok_107
  | 109 => exact tyok_109
  | 110 => exact tyok_110
  | 111 => exact tyok_111
  | 112 => exact tyok_112
  | 113 => exact tyok_113
  | 114 => exact tyok_114
  | 116 => exact tyok_116
  | 117 => exact tyok_117
  | 118 => exact tyok_118
  | 120 => exact tyok_120
  | 121 => exact tyok_121
  | 122 => exact tyok_122
  | 123 => exact tyok_123
  | 124 => exact tyok_124
  | 125 => exact tyok_125
  | 126 => exact tyok_126
  | 127 => exact tyok_127
  | 128 => exact tyok_128
  | 129 => exact tyok_129
  | 130 => exact tyok_130
  | 131 => exact tyok_131
  | 132 => exact tyok_132
  | 133 => exact tyok_133
  | 134 => exact tyok_134
  | 135 => exact tyok_135
  | 136 => exact tyok_136
  | 137 => exact tyok_137
  | 138 => exact tyok_138
  | 139 => exact tyok_139
  | 140 => exact tyok_140
  | 144 => exact tyok_144
  | 145 => exact tyok_145
  | 148 => exact tyok_148
  | 149 => exact tyok_149
  | 0 => exact tyok_other _ rfl
  | 5 => exact tyok_other _ rfl
  | 6 => exact tyok_other _ rfl
  | 9 => exact tyok_other _ rfl
  | 10 => exact tyok_other _ rfl
  | 11 => exact tyok_other _ rfl
  | 12 => exact tyok_other _ rfl
  | 20 => exact tyok_other _ rfl
  | 21 => exact tyok_other _ rfl
  | 29 => exact tyok_other _ rfl
  | 36 => exact tyok_other _ rfl
  | 42 => exact tyok_other _ rfl
  | 51 => exact tyok_other _ rfl
  | 55 => exact tyok_other _ rfl
  | 63 => exact tyok_other _ rfl
  | 74 => exact tyok_other _ rfl
  | 96 => exact tyok_other _ rfl
  | 108 => exact tyok_other _ rfl
  | 115 => exact tyok_other _ rfl
  | 119 => exact tyok_other _ rfl
  | 141 => exact tyok_other _ rfl
  | 142 => exact tyok_other _ rfl
  | 143 => exact tyok_other _ rfl
  | 146 => exact tyok_other _ rfl
  | 147 => exact tyok_other _ rfl
  | n + 150 => exact tyok_other _ (by simp [tys])
theorem mixed : Try.prog.follows .mixedOrders = true := by kernel_rfl

end Go.Proofs.Ytfdpeenamkpcbaa
