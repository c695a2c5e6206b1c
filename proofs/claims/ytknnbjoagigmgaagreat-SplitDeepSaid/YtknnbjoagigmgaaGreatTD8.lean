/- What calls tell that closed runs meet. No condition. -/
import Derived.Test.YtknnbjoagigmgaaGreatUD
import Derived.Test.YtknnbjoagigmgaaGreatEB
import Derived.Test.YtknnbjoagigmgaaGreatEZ
set_option linter.unusedSimpArgs false
set_option linter.unusedVariables false
namespace Go.Proofs.YtknnbjoagigmgaaGreat
open Go
set_option maxRecDepth 100000

noncomputable def zTD8_17 : D := (.agg [(.int .i64 2),(.str [115,117,99]),(.sl 3 [(.agg [(.int .i64 2),(.str [115,117,99]),(.sl 3 [(.agg [(.int .i64 2),(.str [122,101,114,111]),.nils])] [] .true)])] [] .true)])

noncomputable def zTD8_16 : Ob := (.row 3 [zTD8_17])

noncomputable def zTD8_15 : D := (.sl 3 [zTD8_17] [] .true)

noncomputable def zTD8_14 : D := (.agg [(.int .i64 2),(.str [115,117,99]),zTD8_15])

noncomputable def zTD8_13 : Ob := (.row 3 [zTD8_14])

noncomputable def zTD8_12 : D := (.sl 3 [zTD8_14] [] .true)

noncomputable def zTD8_11 : D := (.agg [(.int .i64 2),(.str [115,117,99]),zTD8_12])

noncomputable def zTD8_10 : Ob := (.row 3 [zTD8_11])

noncomputable def zTD8_9 : D := (.sl 3 [zTD8_11] [] .true)

noncomputable def zTD8_8 : D := (.agg [(.int .i64 2),(.str [115,117,99]),zTD8_9])

noncomputable def zTD8_7 : Ob := (.row 3 [zTD8_8])

noncomputable def zTD8_6 : D := (.sl 3 [zTD8_8] [] .true)

noncomputable def zTD8_5 : D := (.agg [(.int .i64 2),(.str [115,117,99]),zTD8_6])

noncomputable def zTD8_4 : Ob := (.row 3 [zTD8_5])

noncomputable def zTD8_3 : D := (.sl 3 [zTD8_5] [] .true)

noncomputable def zTD8_2 : D := (.agg [(.int .i64 2),(.str [115,117,99]),zTD8_3])

noncomputable def zTD8_1 : Ob := (.row 3 [zTD8_2])

noncomputable def zTD8_0 : Ob := (.row 1 [(.sl 3 [(.agg [(.int .i64 2),(.str [122,101,114,111]),.nils])] [] .true),(.sl 3 [(.agg [(.int .i64 2),(.str [115,117,99]),(.sl 3 [(.agg [(.int .i64 2),(.str [122,101,114,111]),.nils])] [] .true)])] [] .true),zTD8_15,zTD8_12,zTD8_9,zTD8_6,zTD8_3,(.sl 3 [zTD8_2] [] .true),(.sl 3 [(.agg [(.int .i64 1),(.str []),.nils])] [] .true)])

noncomputable def hTD8e0 : Hps := [(344147139494789,zTD8_0),(344147139494689,zTD8_1),(344147139494603,zTD8_4),(344147139494528,zTD8_7),(344147139494464,zTD8_10),(344147139494411,zTD8_13),(344147139494369,zTD8_16),(344147139494338,(.row 3 [(.agg [(.int .i64 2),(.str [115,117,99]),(.sl 3 [(.agg [(.int .i64 2),(.str [122,101,114,111]),.nils])] [] .true)])])),(344147139494318,(.row 3 [(.agg [(.int .i64 2),(.str [122,101,114,111]),.nils])])),(339749092983149,zEZ_0),(329853488333156,zEZ_1),(325455441822043,zEZ_0),(267181325549878,zEZ_1),(262783279038752,zEZ_2),(252887674388759,zEZ_3),(178120883699937,zEZ_3),(173722837188811,zEZ_4),(163827232538818,zEZ_5),(89060441849996,zEZ_5),(84662395338870,zEZ_6),(74766790688877,zEZ_7),(55,zEZ_7),(32,(.row 1 [(.agg [(.ms 17 339749092983149 0 4 .false)])])),(27,(.row 2 [(.agg [(.ms 17 325455441822043 0 4 .false),(.mp 22)])])),(22,zEZ_8),(21,(.row 1 [(.agg [(.mp 22)])]))]
noncomputable def aTD8e0 : List D := [(.ptr 27 0 0),(.ms 1 344147139494789 0 9 .false)]
noncomputable def rTD8e0 : Rd := (.ok (.tup [(.agg [(.bool .false),(.int .i64 0),(.int .i64 0),(.sl 1 [(.str [122,101,114,111]),(.str [115,117,99])] [] .false),(.sl 5 [(.agg [(.bool .true),(.int .i64 0),(.int .i64 0),.nils,.nils]),(.agg [(.bool .false),(.int .i64 0),(.int .i64 0),(.sl 1 [(.str [122,101,114,111]),(.str [115,117,99])] [] .false),(.sl 5 [(.agg [(.bool .true),(.int .i64 1),(.int .i64 0),.nils,.nils]),(.agg [(.bool .false),(.int .i64 0),(.int .i64 0),(.sl 1 [(.str [122,101,114,111]),(.str [115,117,99])] [] .false),(.sl 5 [(.agg [(.bool .true),(.int .i64 2),(.int .i64 0),.nils,.nils]),(.agg [(.bool .false),(.int .i64 0),(.int .i64 0),(.sl 1 [(.str [122,101,114,111]),(.str [115,117,99])] [] .false),(.sl 5 [(.agg [(.bool .true),(.int .i64 3),(.int .i64 0),.nils,.nils]),(.agg [(.bool .false),(.int .i64 0),(.int .i64 0),(.sl 1 [(.str [122,101,114,111]),(.str [115,117,99])] [] .false),(.sl 5 [(.agg [(.bool .true),(.int .i64 4),(.int .i64 0),.nils,.nils]),(.agg [(.bool .false),(.int .i64 0),(.int .i64 0),(.sl 1 [(.str [122,101,114,111]),(.str [115,117,99])] [] .false),(.sl 5 [(.agg [(.bool .true),(.int .i64 5),(.int .i64 0),.nils,.nils]),(.agg [(.bool .false),(.int .i64 0),(.int .i64 0),(.sl 1 [(.str [122,101,114,111]),(.str [115,117,99])] [] .false),(.sl 5 [(.agg [(.bool .true),(.int .i64 6),(.int .i64 0),.nils,.nils]),(.agg [(.bool .false),(.int .i64 0),(.int .i64 0),(.sl 1 [(.str [122,101,114,111]),(.str [115,117,99])] [] .false),(.sl 5 [(.agg [(.bool .true),(.int .i64 7),(.int .i64 0),.nils,.nils]),(.agg [(.bool .true),(.int .i64 8),(.int .i64 0),.nils,.nils])] [] .false)])] [] .false)])] [] .false)])] [] .false)])] [] .false)])] [] .false)])] [] .false)])] [] .false)]),(.int .i64 0)]) 344147139494794 [(22,zEZ_8),(325455441822043,zEZ_0),(27,(.row 2 [(.agg [(.ms 17 325455441822043 0 4 .false),(.mp 22)])])),(344147139494789,zTD8_0),(344147139494689,zTD8_1),(344147139494603,zTD8_4),(344147139494528,zTD8_7),(344147139494464,zTD8_10),(344147139494411,zTD8_13),(344147139494369,zTD8_16),(344147139494338,(.row 3 [(.agg [(.int .i64 2),(.str [115,117,99]),(.sl 3 [(.agg [(.int .i64 2),(.str [122,101,114,111]),.nils])] [] .true)])])),(344147139494318,(.row 3 [(.agg [(.int .i64 2),(.str [122,101,114,111]),.nils])])),(339749092983149,zEZ_0),(329853488333156,zEZ_1),(267181325549878,zEZ_1),(262783279038752,zEZ_2),(252887674388759,zEZ_3),(178120883699937,zEZ_3),(173722837188811,zEZ_4),(163827232538818,zEZ_5),(89060441849996,zEZ_5),(84662395338870,zEZ_6),(74766790688877,zEZ_7),(55,zEZ_7),(32,(.row 1 [(.agg [(.ms 17 339749092983149 0 4 .false)])])),(21,(.row 1 [(.agg [(.mp 22)])]))])
theorem rTD8e0_run : runH mEB uD 100000 21 344147139494794 hTD8e0 aTD8e0 = rTD8e0 := by kernel_rfl
noncomputable def mTD8e0 : List ME := ⟨21,344147139494794,hTD8e0,aTD8e0,rTD8e0⟩ :: mEB
theorem mTD8e0_ok : MOk (cFk kQ Tryz.prog) mTD8e0 := ⟨runH_ok mEB_ok uD_ok (fun h => by cases h) rTD8e0_run,mEB_ok⟩

noncomputable def mTD8 : List ME := mTD8e0
theorem mTD8_ok : MOk (cFk kQ Tryz.prog) mTD8 := mTD8e0_ok

end Go.Proofs.YtknnbjoagigmgaaGreat
