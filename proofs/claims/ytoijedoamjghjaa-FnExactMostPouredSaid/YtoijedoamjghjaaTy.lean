/- The types of this program, as the engine reads them; written by a program. -/
import Derived.Test.YtoijedoamjghjaaEvl
namespace Go.Proofs.Ytoijedoamjghjaa
open Go Go.RowKit

def tys : Tys := fun t => match t with
  | 1 => ⟨.sca, 1, 8, .non⟩
  | 2 => ⟨.int, 1, 8, .int 0⟩
  | 3 => ⟨.int, 1, 8, .int 0⟩
  | 4 => ⟨.bool, 1, 1, .bool false⟩
  | 7 => ⟨.str [(0, 2), (1, 3), (2, 4), (3, 6)], 4, 24, .non⟩
  | 8 => ⟨.str [(0, 2), (1, 3), (2, 4), (3, 6)], 4, 24, .non⟩
  | 13 => ⟨.str [(0, 9), (1, 12)], 2, 24, .non⟩
  | 14 => ⟨.str [(0, 9), (1, 12)], 2, 24, .non⟩
  | 15 => ⟨.sca, 1, 8, .non⟩
  | 16 => ⟨.sca, 1, 8, .non⟩
  | 17 => ⟨.sca, 1, 8, .non⟩
  | 18 => ⟨.str [(0, 17)], 1, 8, .non⟩
  | 19 => ⟨.str [(0, 17)], 1, 8, .non⟩
  | 22 => ⟨.arr 6 3, 6, 48, .arr (List.replicate 6 0)⟩
  | 23 => ⟨.sca, 1, 8, .non⟩
  | 24 => ⟨.sca, 1, 8, .non⟩
  | 26 => ⟨.sca, 1, 8, .non⟩
  | 27 => ⟨.sca, 1, 8, .non⟩
  | 28 => ⟨.arr 2 3, 2, 16, .arr (List.replicate 2 0)⟩
  | 30 => ⟨.sca, 1, 8, .non⟩
  | 31 => ⟨.sca, 1, 8, .non⟩
  | 32 => ⟨.sca, 1, 8, .non⟩
  | 33 => ⟨.arr 4 3, 4, 32, .arr (List.replicate 4 0)⟩
  | 34 => ⟨.arr 6 33, 24, 192, .arr (List.replicate 24 0)⟩
  | 35 => ⟨.str [(0, 34)], 24, 192, .arr (List.replicate 24 0)⟩
  | 36 => ⟨.str [(0, 34)], 24, 192, .arr (List.replicate 24 0)⟩
  | 38 => ⟨.sca, 1, 8, .non⟩
  | 39 => ⟨.str [(0, 34)], 24, 192, .arr (List.replicate 24 0)⟩
  | 40 => ⟨.sca, 1, 8, .non⟩
  | 41 => ⟨.sca, 1, 8, .non⟩
  | 42 => ⟨.sca, 1, 8, .non⟩
  | 44 => ⟨.sca, 1, 8, .non⟩
  | 45 => ⟨.sca, 1, 8, .non⟩
  | 46 => ⟨.sca, 1, 8, .non⟩
  | 47 => ⟨.sl 3, 1, 24, .nils⟩
  | 48 => ⟨.sca, 1, 8, .non⟩
  | 49 => ⟨.sca, 1, 8, .non⟩
  | 50 => ⟨.sca, 1, 8, .non⟩
  | 51 => ⟨.sca, 1, 8, .non⟩
  | 52 => ⟨.sca, 1, 8, .non⟩
  | 54 => ⟨.sca, 1, 8, .non⟩
  | 55 => ⟨.sca, 1, 8, .non⟩
  | 56 => ⟨.sca, 1, 8, .non⟩
  | 57 => ⟨.sca, 1, 8, .non⟩
  | 58 => ⟨.sca, 1, 8, .non⟩
  | 59 => ⟨.sl 28, 1, 24, .nils⟩
  | 60 => ⟨.sca, 1, 8, .non⟩
  | 62 => ⟨.sca, 1, 8, .non⟩
  | 63 => ⟨.sca, 1, 8, .non⟩
  | 64 => ⟨.sca, 1, 8, .non⟩
  | 65 => ⟨.sca, 1, 8, .non⟩
  | 66 => ⟨.sca, 1, 8, .non⟩
  | 67 => ⟨.sl 33, 1, 24, .nils⟩
  | 68 => ⟨.sca, 1, 8, .non⟩
  | 69 => ⟨.sca, 1, 8, .non⟩
  | 70 => ⟨.sca, 1, 8, .non⟩
  | 71 => ⟨.sca, 1, 8, .non⟩
  | 72 => ⟨.sca, 1, 8, .non⟩
  | 73 => ⟨.sca, 1, 8, .non⟩
  | 74 => ⟨.sca, 1, 8, .non⟩
  | 75 => ⟨.sca, 1, 8, .non⟩
  | 76 => ⟨.str [(0, 17), (1, 17), (2, 17), (3, 9)], 4, 40, .non⟩
  | 77 => ⟨.str [(0, 17), (1, 17), (2, 17), (3, 9)], 4, 40, .non⟩
  | 78 => ⟨.arr 0 16, 0, 0, .non⟩
  | 79 => ⟨.str [(0, 78)], 0, 0, .non⟩
  | 80 => ⟨.str [(0, 78)], 0, 0, .non⟩
  | 81 => ⟨.sca, 1, 8, .non⟩
  | 85 => ⟨.sca, 1, 8, .non⟩
  | 86 => ⟨.sca, 1, 8, .non⟩
  | 89 => ⟨.str [(0, 12), (1, 12), (2, 82), (3, 83), (4, 5), (5, 5), (6, 84), (7, 85), (8, 86), (9, 87), (10, 88)], 11, 48, .non⟩
  | 90 => ⟨.str [(0, 12), (1, 12), (2, 82), (3, 83), (4, 5), (5, 5), (6, 84), (7, 85), (8, 86), (9, 87), (10, 88)], 11, 48, .non⟩
  | _ => ⟨.other, 0, 0, .non⟩
theorem ty_1 : tys 1 = ⟨.sca, 1, 8, .non⟩ := rfl
theorem ty_2 : tys 2 = ⟨.int, 1, 8, .int 0⟩ := rfl
theorem ty_3 : tys 3 = ⟨.int, 1, 8, .int 0⟩ := rfl
theorem ty_4 : tys 4 = ⟨.bool, 1, 1, .bool false⟩ := rfl
theorem ty_7 : tys 7 = ⟨.str [(0, 2), (1, 3), (2, 4), (3, 6)], 4, 24, .non⟩ := rfl
theorem ty_8 : tys 8 = ⟨.str [(0, 2), (1, 3), (2, 4), (3, 6)], 4, 24, .non⟩ := rfl
theorem ty_13 : tys 13 = ⟨.str [(0, 9), (1, 12)], 2, 24, .non⟩ := rfl
theorem ty_14 : tys 14 = ⟨.str [(0, 9), (1, 12)], 2, 24, .non⟩ := rfl
theorem ty_15 : tys 15 = ⟨.sca, 1, 8, .non⟩ := rfl
theorem ty_16 : tys 16 = ⟨.sca, 1, 8, .non⟩ := rfl
theorem ty_17 : tys 17 = ⟨.sca, 1, 8, .non⟩ := rfl
theorem ty_18 : tys 18 = ⟨.str [(0, 17)], 1, 8, .non⟩ := rfl
theorem ty_19 : tys 19 = ⟨.str [(0, 17)], 1, 8, .non⟩ := rfl
theorem ty_22 : tys 22 = ⟨.arr 6 3, 6, 48, .arr (List.replicate 6 0)⟩ := rfl
theorem ty_23 : tys 23 = ⟨.sca, 1, 8, .non⟩ := rfl
theorem ty_24 : tys 24 = ⟨.sca, 1, 8, .non⟩ := rfl
theorem ty_26 : tys 26 = ⟨.sca, 1, 8, .non⟩ := rfl
theorem ty_27 : tys 27 = ⟨.sca, 1, 8, .non⟩ := rfl
theorem ty_28 : tys 28 = ⟨.arr 2 3, 2, 16, .arr (List.replicate 2 0)⟩ := rfl
theorem ty_30 : tys 30 = ⟨.sca, 1, 8, .non⟩ := rfl
theorem ty_31 : tys 31 = ⟨.sca, 1, 8, .non⟩ := rfl
theorem ty_32 : tys 32 = ⟨.sca, 1, 8, .non⟩ := rfl
theorem ty_33 : tys 33 = ⟨.arr 4 3, 4, 32, .arr (List.replicate 4 0)⟩ := rfl
theorem ty_34 : tys 34 = ⟨.arr 6 33, 24, 192, .arr (List.replicate 24 0)⟩ := rfl
theorem ty_35 : tys 35 = ⟨.str [(0, 34)], 24, 192, .arr (List.replicate 24 0)⟩ := rfl
theorem ty_36 : tys 36 = ⟨.str [(0, 34)], 24, 192, .arr (List.replicate 24 0)⟩ := rfl
theorem ty_38 : tys 38 = ⟨.sca, 1, 8, .non⟩ := rfl
theorem ty_39 : tys 39 = ⟨.str [(0, 34)], 24, 192, .arr (List.replicate 24 0)⟩ := rfl
theorem ty_40 : tys 40 = ⟨.sca, 1, 8, .non⟩ := rfl
theorem ty_41 : tys 41 = ⟨.sca, 1, 8, .non⟩ := rfl
theorem ty_42 : tys 42 = ⟨.sca, 1, 8, .non⟩ := rfl
theorem ty_44 : tys 44 = ⟨.sca, 1, 8, .non⟩ := rfl
theorem ty_45 : tys 45 = ⟨.sca, 1, 8, .non⟩ := rfl
theorem ty_46 : tys 46 = ⟨.sca, 1, 8, .non⟩ := rfl
theorem ty_47 : tys 47 = ⟨.sl 3, 1, 24, .nils⟩ := rfl
theorem ty_48 : tys 48 = ⟨.sca, 1, 8, .non⟩ := rfl
theorem ty_49 : tys 49 = ⟨.sca, 1, 8, .non⟩ := rfl
theorem ty_50 : tys 50 = ⟨.sca, 1, 8, .non⟩ := rfl
theorem ty_51 : tys 51 = ⟨.sca, 1, 8, .non⟩ := rfl
theorem ty_52 : tys 52 = ⟨.sca, 1, 8, .non⟩ := rfl
theorem ty_54 : tys 54 = ⟨.sca, 1, 8, .non⟩ := rfl
theorem ty_55 : tys 55 = ⟨.sca, 1, 8, .non⟩ := rfl
theorem ty_56 : tys 56 = ⟨.sca, 1, 8, .non⟩ := rfl
theorem ty_57 : tys 57 = ⟨.sca, 1, 8, .non⟩ := rfl
theorem ty_58 : tys 58 = ⟨.sca, 1, 8, .non⟩ := rfl
theorem ty_59 : tys 59 = ⟨.sl 28, 1, 24, .nils⟩ := rfl
theorem ty_60 : tys 60 = ⟨.sca, 1, 8, .non⟩ := rfl
theorem ty_62 : tys 62 = ⟨.sca, 1, 8, .non⟩ := rfl
theorem ty_63 : tys 63 = ⟨.sca, 1, 8, .non⟩ := rfl
theorem ty_64 : tys 64 = ⟨.sca, 1, 8, .non⟩ := rfl
theorem ty_65 : tys 65 = ⟨.sca, 1, 8, .non⟩ := rfl
theorem ty_66 : tys 66 = ⟨.sca, 1, 8, .non⟩ := rfl
theorem ty_67 : tys 67 = ⟨.sl 33, 1, 24, .nils⟩ := rfl
theorem ty_68 : tys 68 = ⟨.sca, 1, 8, .non⟩ := rfl
theorem ty_69 : tys 69 = ⟨.sca, 1, 8, .non⟩ := rfl
theorem ty_70 : tys 70 = ⟨.sca, 1, 8, .non⟩ := rfl
theorem ty_71 : tys 71 = ⟨.sca, 1, 8, .non⟩ := rfl
theorem ty_72 : tys 72 = ⟨.sca, 1, 8, .non⟩ := rfl
theorem ty_73 : tys 73 = ⟨.sca, 1, 8, .non⟩ := rfl
theorem ty_74 : tys 74 = ⟨.sca, 1, 8, .non⟩ := rfl
theorem ty_75 : tys 75 = ⟨.sca, 1, 8, .non⟩ := rfl
theorem ty_76 : tys 76 = ⟨.str [(0, 17), (1, 17), (2, 17), (3, 9)], 4, 40, .non⟩ := rfl
theorem ty_77 : tys 77 = ⟨.str [(0, 17), (1, 17), (2, 17), (3, 9)], 4, 40, .non⟩ := rfl
theorem ty_78 : tys 78 = ⟨.arr 0 16, 0, 0, .non⟩ := rfl
theorem ty_79 : tys 79 = ⟨.str [(0, 78)], 0, 0, .non⟩ := rfl
theorem ty_80 : tys 80 = ⟨.str [(0, 78)], 0, 0, .non⟩ := rfl
theorem ty_81 : tys 81 = ⟨.sca, 1, 8, .non⟩ := rfl
theorem ty_85 : tys 85 = ⟨.sca, 1, 8, .non⟩ := rfl
theorem ty_86 : tys 86 = ⟨.sca, 1, 8, .non⟩ := rfl
theorem ty_89 : tys 89 = ⟨.str [(0, 12), (1, 12), (2, 82), (3, 83), (4, 5), (5, 5), (6, 84), (7, 85), (8, 86), (9, 87), (10, 88)], 11, 48, .non⟩ := rfl
theorem ty_90 : tys 90 = ⟨.str [(0, 12), (1, 12), (2, 82), (3, 83), (4, 5), (5, 5), (6, 84), (7, 85), (8, 86), (9, 87), (10, 88)], 11, 48, .non⟩ := rfl
theorem tyok_1 : TyOK Try.prog 1 (tys 1) := tyOK_mk ⟨_, Try.underlying1, rfl⟩ (.inr ⟨rfl, by kernel_rfl⟩)
theorem tyok_2 : TyOK Try.prog 2 (tys 2) := tyOK_mk Try.underlying2 (.inl (by kernel_rfl))
theorem tyok_3 : TyOK Try.prog 3 (tys 3) := tyOK_mk Try.underlying3 (.inl (by kernel_rfl))
theorem tyok_4 : TyOK Try.prog 4 (tys 4) := tyOK_mk Try.underlying4 (.inl (by kernel_rfl))
theorem tyok_7 : TyOK Try.prog 7 (tys 7) := tyOK_mk ⟨_, Try.underlying7, rfl⟩ (.inr ⟨rfl, by kernel_rfl⟩)
theorem tyok_8 : TyOK Try.prog 8 (tys 8) := tyOK_mk ⟨_, Try.underlying8, rfl⟩ (.inr ⟨rfl, by kernel_rfl⟩)
theorem tyok_13 : TyOK Try.prog 13 (tys 13) := tyOK_mk ⟨_, Try.underlying13, rfl⟩ (.inr ⟨rfl, by kernel_rfl⟩)
theorem tyok_14 : TyOK Try.prog 14 (tys 14) := tyOK_mk ⟨_, Try.underlying14, rfl⟩ (.inr ⟨rfl, by kernel_rfl⟩)
theorem tyok_15 : TyOK Try.prog 15 (tys 15) := tyOK_mk ⟨_, Try.underlying15, rfl⟩ (.inr ⟨rfl, by kernel_rfl⟩)
theorem tyok_16 : TyOK Try.prog 16 (tys 16) := tyOK_mk ⟨_, Try.underlying16, rfl⟩ (.inr ⟨rfl, by kernel_rfl⟩)
theorem tyok_17 : TyOK Try.prog 17 (tys 17) := tyOK_mk ⟨_, Try.underlying17, rfl⟩ (.inr ⟨rfl, by kernel_rfl⟩)
theorem tyok_18 : TyOK Try.prog 18 (tys 18) := tyOK_mk ⟨_, Try.underlying18, rfl⟩ (.inr ⟨rfl, by kernel_rfl⟩)
theorem tyok_19 : TyOK Try.prog 19 (tys 19) := tyOK_mk ⟨_, Try.underlying19, rfl⟩ (.inr ⟨rfl, by kernel_rfl⟩)
theorem tyok_22 : TyOK Try.prog 22 (tys 22) := tyOK_mk Try.underlying22 (.inl (by kernel_rfl))
theorem tyok_23 : TyOK Try.prog 23 (tys 23) := tyOK_mk ⟨_, Try.underlying23, rfl⟩ (.inr ⟨rfl, by kernel_rfl⟩)
theorem tyok_24 : TyOK Try.prog 24 (tys 24) := tyOK_mk ⟨_, Try.underlying24, rfl⟩ (.inr ⟨rfl, by kernel_rfl⟩)
theorem tyok_26 : TyOK Try.prog 26 (tys 26) := tyOK_mk ⟨_, Try.underlying26, rfl⟩ (.inr ⟨rfl, by kernel_rfl⟩)
theorem tyok_27 : TyOK Try.prog 27 (tys 27) := tyOK_mk ⟨_, Try.underlying27, rfl⟩ (.inr ⟨rfl, by kernel_rfl⟩)
theorem tyok_28 : TyOK Try.prog 28 (tys 28) := tyOK_mk Try.underlying28 (.inl (by kernel_rfl))
theorem tyok_30 : TyOK Try.prog 30 (tys 30) := tyOK_mk ⟨_, Try.underlying30, rfl⟩ (.inr ⟨rfl, by kernel_rfl⟩)
theorem tyok_31 : TyOK Try.prog 31 (tys 31) := tyOK_mk ⟨_, Try.underlying31, rfl⟩ (.inr ⟨rfl, by kernel_rfl⟩)
theorem tyok_32 : TyOK Try.prog 32 (tys 32) := tyOK_mk ⟨_, Try.underlying32, rfl⟩ (.inr ⟨rfl, by kernel_rfl⟩)
theorem tyok_33 : TyOK Try.prog 33 (tys 33) := tyOK_mk Try.underlying33 (.inl (by kernel_rfl))
theorem tyok_34 : TyOK Try.prog 34 (tys 34) := tyOK_mk Try.underlying34 (.inl (by kernel_rfl))
theorem tyok_35 : TyOK Try.prog 35 (tys 35) := tyOK_mk ⟨_, Try.underlying35, rfl⟩ (.inl (by kernel_rfl))
theorem tyok_36 : TyOK Try.prog 36 (tys 36) := tyOK_mk ⟨_, Try.underlying36, rfl⟩ (.inl (by kernel_rfl))
theorem tyok_38 : TyOK Try.prog 38 (tys 38) := tyOK_mk ⟨_, Try.underlying38, rfl⟩ (.inr ⟨rfl, by kernel_rfl⟩)
theorem tyok_39 : TyOK Try.prog 39 (tys 39) := tyOK_mk ⟨_, Try.underlying39, rfl⟩ (.inl (by kernel_rfl))
theorem tyok_40 : TyOK Try.prog 40 (tys 40) := tyOK_mk ⟨_, Try.underlying40, rfl⟩ (.inr ⟨rfl, by kernel_rfl⟩)
theorem tyok_41 : TyOK Try.prog 41 (tys 41) := tyOK_mk ⟨_, Try.underlying41, rfl⟩ (.inr ⟨rfl, by kernel_rfl⟩)
theorem tyok_42 : TyOK Try.prog 42 (tys 42) := tyOK_mk ⟨_, Try.underlying42, rfl⟩ (.inr ⟨rfl, by kernel_rfl⟩)
theorem tyok_44 : TyOK Try.prog 44 (tys 44) := tyOK_mk ⟨_, Try.underlying44, rfl⟩ (.inr ⟨rfl, by kernel_rfl⟩)
theorem tyok_45 : TyOK Try.prog 45 (tys 45) := tyOK_mk ⟨_, Try.underlying45, rfl⟩ (.inr ⟨rfl, by kernel_rfl⟩)
theorem tyok_46 : TyOK Try.prog 46 (tys 46) := tyOK_mk ⟨_, Try.underlying46, rfl⟩ (.inr ⟨rfl, by kernel_rfl⟩)
theorem tyok_47 : TyOK Try.prog 47 (tys 47) := tyOK_mk Try.underlying47 (.inl (by kernel_rfl))
theorem tyok_48 : TyOK Try.prog 48 (tys 48) := tyOK_mk ⟨_, Try.underlying48, rfl⟩ (.inr ⟨rfl, by kernel_rfl⟩)
theorem tyok_49 : TyOK Try.prog 49 (tys 49) := tyOK_mk ⟨_, Try.underlying49, rfl⟩ (.inr ⟨rfl, by kernel_rfl⟩)
theorem tyok_50 : TyOK Try.prog 50 (tys 50) := tyOK_mk ⟨_, Try.underlying50, rfl⟩ (.inr ⟨rfl, by kernel_rfl⟩)
theorem tyok_51 : TyOK Try.prog 51 (tys 51) := tyOK_mk ⟨_, Try.underlying51, rfl⟩ (.inr ⟨rfl, by kernel_rfl⟩)
theorem tyok_52 : TyOK Try.prog 52 (tys 52) := tyOK_mk ⟨_, Try.underlying52, rfl⟩ (.inr ⟨rfl, by kernel_rfl⟩)
theorem tyok_54 : TyOK Try.prog 54 (tys 54) := tyOK_mk ⟨_, Try.underlying54, rfl⟩ (.inr ⟨rfl, by kernel_rfl⟩)
theorem tyok_55 : TyOK Try.prog 55 (tys 55) := tyOK_mk ⟨_, Try.underlying55, rfl⟩ (.inr ⟨rfl, by kernel_rfl⟩)
theorem tyok_56 : TyOK Try.prog 56 (tys 56) := tyOK_mk ⟨_, Try.underlying56, rfl⟩ (.inr ⟨rfl, by kernel_rfl⟩)
theorem tyok_57 : TyOK Try.prog 57 (tys 57) := tyOK_mk ⟨_, Try.underlying57, rfl⟩ (.inr ⟨rfl, by kernel_rfl⟩)
theorem tyok_58 : TyOK Try.prog 58 (tys 58) := tyOK_mk ⟨_, Try.underlying58, rfl⟩ (.inr ⟨rfl, by kernel_rfl⟩)
theorem tyok_59 : TyOK Try.prog 59 (tys 59) := tyOK_mk Try.underlying59 (.inl (by kernel_rfl))
theorem tyok_60 : TyOK Try.prog 60 (tys 60) := tyOK_mk ⟨_, Try.underlying60, rfl⟩ (.inr ⟨rfl, by kernel_rfl⟩)
theorem tyok_62 : TyOK Try.prog 62 (tys 62) := tyOK_mk ⟨_, Try.underlying62, rfl⟩ (.inr ⟨rfl, by kernel_rfl⟩)
theorem tyok_63 : TyOK Try.prog 63 (tys 63) := tyOK_mk ⟨_, Try.underlying63, rfl⟩ (.inr ⟨rfl, by kernel_rfl⟩)
theorem tyok_64 : TyOK Try.prog 64 (tys 64) := tyOK_mk ⟨_, Try.underlying64, rfl⟩ (.inr ⟨rfl, by kernel_rfl⟩)
theorem tyok_65 : TyOK Try.prog 65 (tys 65) := tyOK_mk ⟨_, Try.underlying65, rfl⟩ (.inr ⟨rfl, by kernel_rfl⟩)
theorem tyok_66 : TyOK Try.prog 66 (tys 66) := tyOK_mk ⟨_, Try.underlying66, rfl⟩ (.inr ⟨rfl, by kernel_rfl⟩)
theorem tyok_67 : TyOK Try.prog 67 (tys 67) := tyOK_mk Try.underlying67 (.inl (by kernel_rfl))
theorem tyok_68 : TyOK Try.prog 68 (tys 68) := tyOK_mk ⟨_, Try.underlying68, rfl⟩ (.inr ⟨rfl, by kernel_rfl⟩)
theorem tyok_69 : TyOK Try.prog 69 (tys 69) := tyOK_mk ⟨_, Try.underlying69, rfl⟩ (.inr ⟨rfl, by kernel_rfl⟩)
theorem tyok_70 : TyOK Try.prog 70 (tys 70) := tyOK_mk ⟨_, Try.underlying70, rfl⟩ (.inr ⟨rfl, by kernel_rfl⟩)
theorem tyok_71 : TyOK Try.prog 71 (tys 71) := tyOK_mk ⟨_, Try.underlying71, rfl⟩ (.inr ⟨rfl, by kernel_rfl⟩)
theorem tyok_72 : TyOK Try.prog 72 (tys 72) := tyOK_mk ⟨_, Try.underlying72, rfl⟩ (.inr ⟨rfl, by kernel_rfl⟩)
theorem tyok_73 : TyOK Try.prog 73 (tys 73) := tyOK_mk ⟨_, Try.underlying73, rfl⟩ (.inr ⟨rfl, by kernel_rfl⟩)
theorem tyok_74 : TyOK Try.prog 74 (tys 74) := tyOK_mk ⟨_, Try.underlying74, rfl⟩ (.inr ⟨rfl, by kernel_rfl⟩)
theorem tyok_75 : TyOK Try.prog 75 (tys 75) := tyOK_mk ⟨_, Try.underlying75, rfl⟩ (.inr ⟨rfl, by kernel_rfl⟩)
theorem tyok_76 : TyOK Try.prog 76 (tys 76) := tyOK_mk ⟨_, Try.underlying76, rfl⟩ (.inr ⟨rfl, by kernel_rfl⟩)
theorem tyok_77 : TyOK Try.prog 77 (tys 77) := tyOK_mk ⟨_, Try.underlying77, rfl⟩ (.inr ⟨rfl, by kernel_rfl⟩)
theorem tyok_78 : TyOK Try.prog 78 (tys 78) := tyOK_mk Try.underlying78 (.inr ⟨rfl, by kernel_rfl⟩)
theorem tyok_79 : TyOK Try.prog 79 (tys 79) := tyOK_mk ⟨_, Try.underlying79, rfl⟩ (.inr ⟨rfl, by kernel_rfl⟩)
theorem tyok_80 : TyOK Try.prog 80 (tys 80) := tyOK_mk ⟨_, Try.underlying80, rfl⟩ (.inr ⟨rfl, by kernel_rfl⟩)
theorem tyok_81 : TyOK Try.prog 81 (tys 81) := tyOK_mk ⟨_, Try.underlying81, rfl⟩ (.inr ⟨rfl, by kernel_rfl⟩)
theorem tyok_85 : TyOK Try.prog 85 (tys 85) := tyOK_mk ⟨_, Try.underlying85, rfl⟩ (.inr ⟨rfl, by kernel_rfl⟩)
theorem tyok_86 : TyOK Try.prog 86 (tys 86) := tyOK_mk ⟨_, Try.underlying86, rfl⟩ (.inr ⟨rfl, by kernel_rfl⟩)
theorem tyok_89 : TyOK Try.prog 89 (tys 89) := tyOK_mk ⟨_, Try.underlying89, rfl⟩ (.inr ⟨rfl, by kernel_rfl⟩)
theorem tyok_90 : TyOK Try.prog 90 (tys 90) := tyOK_mk ⟨_, Try.underlying90, rfl⟩ (.inr ⟨rfl, by kernel_rfl⟩)
theorem tyok_other (t : Nat) (h : (tys t).k = .other) : TyOK Try.prog t (tys t) := ⟨by rw [h]; trivial, fun h' => absurd h h'⟩
theorem tys_ok : TysOK Try.prog tys := by
  intro t
  match t with
  | 1 => exact tyok_1
  | 2 => exact tyok_2
  | 3 => exact tyok_3
  | 4 => exact tyok_4
  | 7 => exact tyok_7
  | 8 => exact tyok_8
  | 13 => exact tyok_13
  | 14 => exact tyok_14
  | 15 => exact tyok_15
  | 16 => exact tyok_16
  | 17 => exact tyok_17
  | 18 => exact tyok_18
  | 19 => exact tyok_19
  | 22 => exact tyok_22
  | 23 => exact tyok_23
  | 24 => exact tyok_24
  | 26 => exact tyok_26
  | 27 => exact tyok_27
  | 28 => exact tyok_28
  | 30 => exact tyok_30
  | 31 => exact tyok_31
  | 32 => exact tyok_32
  | 33 => exact tyok_33
  | 34 => exact tyok_34
  | 35 => exact tyok_35
  | 36 => exact tyok_36
  | 38 => exact tyok_38
  | 39 => exact tyok_39
  | 40 => exact tyok_40
  | 41 => exact tyok_41
  | 42 => exact tyok_42
  | 44 => exact tyok_44
  | 45 => exact tyok_45
  | 46 => exact tyok_46
  | 47 => exact tyok_47
  | 48 => exact tyok_48
  | 49 => exact tyok_49
  | 50 => exact tyok_50
  | 51 => exact tyok_51
  | 52 => exact tyok_52
  | 54 => exact tyok_54
  | 55 => exact tyok_55
  | 56 => exact tyok_56
  | 57 => exact tyok_57
  | 58 => exact tyok_58
  | 59 => exact tyok_59
  | 60 => exact tyok_60
  | 62 => exact tyok_62
  | 63 => exact tyok_63
  | 64 => exact tyok_64
  | 65 => exact tyok_65
  | 66 => exact tyok_66
  | 67 => exact tyok_67
  | 68 => exact tyok_68
  | 69 => exact tyok_69
  | 70 => exact tyok_70
  | 71 => exact tyok_71
  | 72 => exact tyok_72
  | 73 => exact tyok_73
  | 74 => exact tyok_74
  | 75 => exact tyok_75
  | 76 => exact tyok_76
  | 77 => exact tyok_77
  | 78 => exact tyok_78
  | 79 => exact tyok_79
  | 80 => exact tyok_80
  | 81 => exact tyok_81
  | 85 => exact tyok_85
  | 86 => exact tyok_86
  | 89 => exact tyok_89
  | 90 => exact tyok_90
  | 0 => exact tyok_other _ rfl
  | 5 => exact tyok_other _ rfl
  | 6 => exact tyok_other _ rfl
  | 9 => exact tyok_other _ rfl
  | 10 => exact tyok_other _ rfl
  | 11 => exact tyok_other _ rfl
  | 12 => exact tyok_other _ rfl
  | 20 => exact tyok_other _ rfl
  | 21 => exact tyok_other _ rfl
  | 25 => exact tyok_other _ rfl
  | 29 => exact tyok_other _ rfl
  | 37 => exact tyok_other _ rfl
  | 43 => exact tyok_other _ rfl
  | 53 => exact tyok_other _ rfl
  | 61 => exact tyok_other _ rfl
  | 82 => exact tyok_other _ rfl
  | 83 => exact tyok_other _ rfl
  | 84 => exact tyok_other _ rfl
  | 87 => exact tyok_other _ rfl
  | 88 => exact tyok_other _ rfl
  | n + 91 => exact tyok_other _ (by simp [tys])
theorem mixed : Try.prog.follows .mixedOrders = true := by kernel_rfl

end Go.Proofs.Ytoijedoamjghjaa
