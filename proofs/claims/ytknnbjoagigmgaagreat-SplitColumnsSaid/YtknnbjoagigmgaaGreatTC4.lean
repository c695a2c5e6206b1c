/- What calls tell that closed runs meet. No condition. -/
import Derived.Test.YtknnbjoagigmgaaGreatUC
import Derived.Test.YtknnbjoagigmgaaGreatEB
import Derived.Test.YtknnbjoagigmgaaGreatEZ
set_option linter.unusedSimpArgs false
set_option linter.unusedVariables false
namespace Go.Proofs.YtknnbjoagigmgaaGreat
open Go
set_option maxRecDepth 100000

noncomputable def zTC4_30 : D := (.sl 5 [(.agg [(.bool .true),(.int .i64 9),(.int .i64 0),.nils,.nils]),(.agg [(.bool .true),(.int .i64 1),(.int .i64 0),.nils,.nils])] [] .false)

noncomputable def zTC4_31 : D := (.sl 5 [(.agg [(.bool .true),(.int .i64 8),(.int .i64 0),.nils,.nils]),(.agg [(.bool .true),(.int .i64 0),(.int .i64 0),.nils,.nils])] [] .false)

noncomputable def zTC4_24 : D := (.sl 5 [(.agg [(.bool .true),(.int .i64 15),(.int .i64 0),.nils,.nils]),(.agg [(.bool .true),(.int .i64 7),(.int .i64 0),.nils,.nils])] [] .false)

noncomputable def zTC4_25 : D := (.sl 5 [(.agg [(.bool .true),(.int .i64 11),(.int .i64 0),.nils,.nils]),(.agg [(.bool .true),(.int .i64 3),(.int .i64 0),.nils,.nils])] [] .false)

noncomputable def zTC4_26 : D := (.sl 5 [(.agg [(.bool .true),(.int .i64 13),(.int .i64 0),.nils,.nils]),(.agg [(.bool .true),(.int .i64 5),(.int .i64 0),.nils,.nils])] [] .false)

noncomputable def zTC4_27 : D := (.sl 5 [(.agg [(.bool .true),(.int .i64 14),(.int .i64 0),.nils,.nils]),(.agg [(.bool .true),(.int .i64 6),(.int .i64 0),.nils,.nils])] [] .false)

noncomputable def zTC4_28 : D := (.sl 5 [(.agg [(.bool .true),(.int .i64 10),(.int .i64 0),.nils,.nils]),(.agg [(.bool .true),(.int .i64 2),(.int .i64 0),.nils,.nils])] [] .false)

noncomputable def zTC4_29 : D := (.sl 5 [(.agg [(.bool .true),(.int .i64 12),(.int .i64 0),.nils,.nils]),(.agg [(.bool .true),(.int .i64 4),(.int .i64 0),.nils,.nils])] [] .false)

noncomputable def zTC4_22 : D := (.agg [(.bool .false),(.int .i64 0),(.int .i64 0),(.sl 1 [(.str [121,101,115]),(.str [110,111])] [] .false),zTC4_30])

noncomputable def zTC4_23 : D := (.agg [(.bool .false),(.int .i64 0),(.int .i64 0),(.sl 1 [(.str [121,101,115]),(.str [110,111])] [] .false),zTC4_31])

noncomputable def zTC4_16 : D := (.agg [(.bool .false),(.int .i64 0),(.int .i64 0),(.sl 1 [(.str [121,101,115]),(.str [110,111])] [] .false),zTC4_24])

noncomputable def zTC4_17 : D := (.agg [(.bool .false),(.int .i64 0),(.int .i64 0),(.sl 1 [(.str [121,101,115]),(.str [110,111])] [] .false),zTC4_25])

noncomputable def zTC4_18 : D := (.agg [(.bool .false),(.int .i64 0),(.int .i64 0),(.sl 1 [(.str [121,101,115]),(.str [110,111])] [] .false),zTC4_26])

noncomputable def zTC4_19 : D := (.agg [(.bool .false),(.int .i64 0),(.int .i64 0),(.sl 1 [(.str [121,101,115]),(.str [110,111])] [] .false),zTC4_27])

noncomputable def zTC4_20 : D := (.agg [(.bool .false),(.int .i64 0),(.int .i64 0),(.sl 1 [(.str [121,101,115]),(.str [110,111])] [] .false),zTC4_28])

noncomputable def zTC4_21 : D := (.agg [(.bool .false),(.int .i64 0),(.int .i64 0),(.sl 1 [(.str [121,101,115]),(.str [110,111])] [] .false),zTC4_29])

noncomputable def zTC4_14 : D := (.sl 5 [zTC4_18,zTC4_22] [] .false)

noncomputable def zTC4_15 : D := (.sl 5 [zTC4_21,zTC4_23] [] .false)

noncomputable def zTC4_12 : D := (.sl 5 [zTC4_16,zTC4_17] [] .false)

noncomputable def zTC4_13 : D := (.sl 5 [zTC4_19,zTC4_20] [] .false)

noncomputable def zTC4_10 : D := (.agg [(.bool .false),(.int .i64 0),(.int .i64 0),(.sl 1 [(.str [121,101,115]),(.str [110,111])] [] .false),zTC4_14])

noncomputable def zTC4_11 : D := (.agg [(.bool .false),(.int .i64 0),(.int .i64 0),(.sl 1 [(.str [121,101,115]),(.str [110,111])] [] .false),zTC4_15])

noncomputable def zTC4_8 : D := (.agg [(.bool .false),(.int .i64 0),(.int .i64 0),(.sl 1 [(.str [121,101,115]),(.str [110,111])] [] .false),zTC4_12])

noncomputable def zTC4_9 : D := (.agg [(.bool .false),(.int .i64 0),(.int .i64 0),(.sl 1 [(.str [121,101,115]),(.str [110,111])] [] .false),zTC4_13])

noncomputable def zTC4_6 : D := (.sl 5 [zTC4_8,zTC4_10] [] .false)

noncomputable def zTC4_7 : D := (.sl 5 [zTC4_9,zTC4_11] [] .false)

noncomputable def zTC4_4 : D := (.agg [(.bool .false),(.int .i64 0),(.int .i64 0),(.sl 1 [(.str [121,101,115]),(.str [110,111])] [] .false),zTC4_6])

noncomputable def zTC4_5 : D := (.agg [(.bool .false),(.int .i64 0),(.int .i64 0),(.sl 1 [(.str [121,101,115]),(.str [110,111])] [] .false),zTC4_7])

noncomputable def zTC4_3 : D := (.sl 5 [zTC4_4,zTC4_5] [] .false)

noncomputable def zTC4_2 : D := (.agg [(.bool .false),(.int .i64 0),(.int .i64 0),(.sl 1 [(.str [121,101,115]),(.str [110,111])] [] .false),zTC4_3])

noncomputable def zTC4_1 : Ob := (.row 5 [zTC4_2])

noncomputable def zTC4_0 : Ob := (.row 1 [(.sl 3 [(.agg [(.int .i64 2),(.str [110,111]),.nils]),(.agg [(.int .i64 2),(.str [110,111]),.nils]),(.agg [(.int .i64 2),(.str [110,111]),.nils]),(.agg [(.int .i64 2),(.str [110,111]),.nils])] [] .false),(.sl 3 [(.agg [(.int .i64 2),(.str [121,101,115]),.nils]),(.agg [(.int .i64 2),(.str [110,111]),.nils]),(.agg [(.int .i64 2),(.str [110,111]),.nils]),(.agg [(.int .i64 2),(.str [110,111]),.nils])] [] .false),(.sl 3 [(.agg [(.int .i64 2),(.str [110,111]),.nils]),(.agg [(.int .i64 2),(.str [121,101,115]),.nils]),(.agg [(.int .i64 2),(.str [110,111]),.nils]),(.agg [(.int .i64 2),(.str [110,111]),.nils])] [] .false),(.sl 3 [(.agg [(.int .i64 2),(.str [121,101,115]),.nils]),(.agg [(.int .i64 2),(.str [121,101,115]),.nils]),(.agg [(.int .i64 2),(.str [110,111]),.nils]),(.agg [(.int .i64 2),(.str [110,111]),.nils])] [] .false),(.sl 3 [(.agg [(.int .i64 2),(.str [110,111]),.nils]),(.agg [(.int .i64 2),(.str [110,111]),.nils]),(.agg [(.int .i64 2),(.str [121,101,115]),.nils]),(.agg [(.int .i64 2),(.str [110,111]),.nils])] [] .false),(.sl 3 [(.agg [(.int .i64 2),(.str [121,101,115]),.nils]),(.agg [(.int .i64 2),(.str [110,111]),.nils]),(.agg [(.int .i64 2),(.str [121,101,115]),.nils]),(.agg [(.int .i64 2),(.str [110,111]),.nils])] [] .false),(.sl 3 [(.agg [(.int .i64 2),(.str [110,111]),.nils]),(.agg [(.int .i64 2),(.str [121,101,115]),.nils]),(.agg [(.int .i64 2),(.str [121,101,115]),.nils]),(.agg [(.int .i64 2),(.str [110,111]),.nils])] [] .false),(.sl 3 [(.agg [(.int .i64 2),(.str [121,101,115]),.nils]),(.agg [(.int .i64 2),(.str [121,101,115]),.nils]),(.agg [(.int .i64 2),(.str [121,101,115]),.nils]),(.agg [(.int .i64 2),(.str [110,111]),.nils])] [] .false),(.sl 3 [(.agg [(.int .i64 2),(.str [110,111]),.nils]),(.agg [(.int .i64 2),(.str [110,111]),.nils]),(.agg [(.int .i64 2),(.str [110,111]),.nils]),(.agg [(.int .i64 2),(.str [121,101,115]),.nils])] [] .false),(.sl 3 [(.agg [(.int .i64 2),(.str [121,101,115]),.nils]),(.agg [(.int .i64 2),(.str [110,111]),.nils]),(.agg [(.int .i64 2),(.str [110,111]),.nils]),(.agg [(.int .i64 2),(.str [121,101,115]),.nils])] [] .false),(.sl 3 [(.agg [(.int .i64 2),(.str [110,111]),.nils]),(.agg [(.int .i64 2),(.str [121,101,115]),.nils]),(.agg [(.int .i64 2),(.str [110,111]),.nils]),(.agg [(.int .i64 2),(.str [121,101,115]),.nils])] [] .false),(.sl 3 [(.agg [(.int .i64 2),(.str [121,101,115]),.nils]),(.agg [(.int .i64 2),(.str [121,101,115]),.nils]),(.agg [(.int .i64 2),(.str [110,111]),.nils]),(.agg [(.int .i64 2),(.str [121,101,115]),.nils])] [] .false),(.sl 3 [(.agg [(.int .i64 2),(.str [110,111]),.nils]),(.agg [(.int .i64 2),(.str [110,111]),.nils]),(.agg [(.int .i64 2),(.str [121,101,115]),.nils]),(.agg [(.int .i64 2),(.str [121,101,115]),.nils])] [] .false),(.sl 3 [(.agg [(.int .i64 2),(.str [121,101,115]),.nils]),(.agg [(.int .i64 2),(.str [110,111]),.nils]),(.agg [(.int .i64 2),(.str [121,101,115]),.nils]),(.agg [(.int .i64 2),(.str [121,101,115]),.nils])] [] .false),(.sl 3 [(.agg [(.int .i64 2),(.str [110,111]),.nils]),(.agg [(.int .i64 2),(.str [121,101,115]),.nils]),(.agg [(.int .i64 2),(.str [121,101,115]),.nils]),(.agg [(.int .i64 2),(.str [121,101,115]),.nils])] [] .false),(.sl 3 [(.agg [(.int .i64 2),(.str [121,101,115]),.nils]),(.agg [(.int .i64 2),(.str [121,101,115]),.nils]),(.agg [(.int .i64 2),(.str [121,101,115]),.nils]),(.agg [(.int .i64 2),(.str [121,101,115]),.nils])] [] .false)])

noncomputable def hTC4e0 : Hps := [(344147139494548,zTC4_0),(339749092983149,zEZ_0),(329853488333156,zEZ_1),(325455441822043,zEZ_0),(267181325549878,zEZ_1),(262783279038752,zEZ_2),(252887674388759,zEZ_3),(178120883699937,zEZ_3),(173722837188811,zEZ_4),(163827232538818,zEZ_5),(89060441849996,zEZ_5),(84662395338870,zEZ_6),(74766790688877,zEZ_7),(55,zEZ_7),(32,(.row 1 [(.agg [(.ms 17 339749092983149 0 4 .false)])])),(27,(.row 2 [(.agg [(.ms 17 325455441822043 0 4 .false),(.mp 22)])])),(22,zEZ_8),(21,(.row 1 [(.agg [(.mp 22)])]))]
noncomputable def aTC4e0 : List D := [(.ptr 27 0 0),(.ms 1 344147139494548 0 16 .false)]
noncomputable def rTC4e0 : Rd := (.ok (.tup [zTC4_2,(.int .i64 0)]) 344147139494560 [(22,zEZ_8),(325455441822043,zEZ_0),(27,(.row 2 [(.agg [(.ms 17 325455441822043 0 4 .false),(.mp 22)])])),(344147139494548,zTC4_0),(339749092983149,zEZ_0),(329853488333156,zEZ_1),(267181325549878,zEZ_1),(262783279038752,zEZ_2),(252887674388759,zEZ_3),(178120883699937,zEZ_3),(173722837188811,zEZ_4),(163827232538818,zEZ_5),(89060441849996,zEZ_5),(84662395338870,zEZ_6),(74766790688877,zEZ_7),(55,zEZ_7),(32,(.row 1 [(.agg [(.ms 17 339749092983149 0 4 .false)])])),(21,(.row 1 [(.agg [(.mp 22)])]))])
theorem rTC4e0_run : runH mEB uC 100000 21 344147139494560 hTC4e0 aTC4e0 = rTC4e0 := by kernel_rfl
noncomputable def mTC4e0 : List ME := ⟨21,344147139494560,hTC4e0,aTC4e0,rTC4e0⟩ :: mEB
theorem mTC4e0_ok : MOk (cFk kQ Tryz.prog) mTC4e0 := ⟨runH_ok mEB_ok uC_ok (fun h => by cases h) rTC4e0_run,mEB_ok⟩

noncomputable def hTC4e1 : Hps := [(344147139494564,zTC4_1),(22,zEZ_8),(325455441822043,zEZ_0),(27,(.row 2 [(.agg [(.ms 17 325455441822043 0 4 .false),(.mp 22)])])),(344147139494548,zTC4_0),(339749092983149,zEZ_0),(329853488333156,zEZ_1),(267181325549878,zEZ_1),(262783279038752,zEZ_2),(252887674388759,zEZ_3),(178120883699937,zEZ_3),(173722837188811,zEZ_4),(163827232538818,zEZ_5),(89060441849996,zEZ_5),(84662395338870,zEZ_6),(74766790688877,zEZ_7),(55,zEZ_7),(32,(.row 1 [(.agg [(.ms 17 339749092983149 0 4 .false)])])),(21,(.row 1 [(.agg [(.mp 22)])]))]
noncomputable def aTC4e1 : List D := [(.ptr 27 0 0),(.ms 1 344147139494548 1 15 .false)]
noncomputable def rTC4e1 : Rd := (.ok (.tup [(.agg [(.bool .false),(.int .i64 0),(.int .i64 0),.nils,.nils]),(.int .i64 54)]) 358440790655663 [(22,zEZ_8),(325455441822043,zEZ_0),(27,(.row 2 [(.agg [(.ms 17 325455441822043 0 4 .false),(.mp 22)])])),(344147139494564,zTC4_1),(344147139494548,zTC4_0),(339749092983149,zEZ_0),(329853488333156,zEZ_1),(267181325549878,zEZ_1),(262783279038752,zEZ_2),(252887674388759,zEZ_3),(178120883699937,zEZ_3),(173722837188811,zEZ_4),(163827232538818,zEZ_5),(89060441849996,zEZ_5),(84662395338870,zEZ_6),(74766790688877,zEZ_7),(55,zEZ_7),(32,(.row 1 [(.agg [(.ms 17 339749092983149 0 4 .false)])])),(21,(.row 1 [(.agg [(.mp 22)])]))])
theorem rTC4e1_run : runH mTC4e0 uC 100000 21 358440790655663 hTC4e1 aTC4e1 = rTC4e1 := by kernel_rfl
noncomputable def mTC4e1 : List ME := ⟨21,358440790655663,hTC4e1,aTC4e1,rTC4e1⟩ :: mTC4e0
theorem mTC4e1_ok : MOk (cFk kQ Tryz.prog) mTC4e1 := ⟨runH_ok mTC4e0_ok uC_ok (fun h => by cases h) rTC4e1_run,mTC4e0_ok⟩

noncomputable def mTC4 : List ME := mTC4e1
theorem mTC4_ok : MOk (cFk kQ Tryz.prog) mTC4 := mTC4e1_ok

end Go.Proofs.YtknnbjoagigmgaaGreat
