/- What calls tell that closed runs meet. No condition. -/
import Derived.Test.YtknnbjoagigmgaaGreatUD
import Derived.Test.YtknnbjoagigmgaaGreatEB
import Derived.Test.YtknnbjoagigmgaaGreatEZ
set_option linter.unusedSimpArgs false
set_option linter.unusedVariables false
namespace Go.Proofs.YtknnbjoagigmgaaGreat
open Go
set_option maxRecDepth 100000

noncomputable def zTD9_20 : D := (.agg [(.int .i64 2),(.str [115,117,99]),(.sl 3 [(.agg [(.int .i64 2),(.str [115,117,99]),(.sl 3 [(.agg [(.int .i64 2),(.str [122,101,114,111]),.nils])] [] .true)])] [] .true)])

noncomputable def zTD9_19 : Ob := (.row 3 [zTD9_20])

noncomputable def zTD9_18 : D := (.sl 3 [zTD9_20] [] .true)

noncomputable def zTD9_17 : D := (.agg [(.int .i64 2),(.str [115,117,99]),zTD9_18])

noncomputable def zTD9_16 : Ob := (.row 3 [zTD9_17])

noncomputable def zTD9_15 : D := (.sl 3 [zTD9_17] [] .true)

noncomputable def zTD9_14 : D := (.agg [(.int .i64 2),(.str [115,117,99]),zTD9_15])

noncomputable def zTD9_13 : Ob := (.row 3 [zTD9_14])

noncomputable def zTD9_12 : D := (.sl 3 [zTD9_14] [] .true)

noncomputable def zTD9_11 : D := (.agg [(.int .i64 2),(.str [115,117,99]),zTD9_12])

noncomputable def zTD9_10 : Ob := (.row 3 [zTD9_11])

noncomputable def zTD9_9 : D := (.sl 3 [zTD9_11] [] .true)

noncomputable def zTD9_8 : D := (.agg [(.int .i64 2),(.str [115,117,99]),zTD9_9])

noncomputable def zTD9_7 : Ob := (.row 3 [zTD9_8])

noncomputable def zTD9_6 : D := (.sl 3 [zTD9_8] [] .true)

noncomputable def zTD9_5 : D := (.agg [(.int .i64 2),(.str [115,117,99]),zTD9_6])

noncomputable def zTD9_4 : Ob := (.row 3 [zTD9_5])

noncomputable def zTD9_3 : D := (.sl 3 [zTD9_5] [] .true)

noncomputable def zTD9_2 : D := (.agg [(.int .i64 2),(.str [115,117,99]),zTD9_3])

noncomputable def zTD9_1 : Ob := (.row 3 [zTD9_2])

noncomputable def zTD9_0 : Ob := (.row 1 [(.sl 3 [(.agg [(.int .i64 2),(.str [122,101,114,111]),.nils])] [] .true),(.sl 3 [(.agg [(.int .i64 2),(.str [115,117,99]),(.sl 3 [(.agg [(.int .i64 2),(.str [122,101,114,111]),.nils])] [] .true)])] [] .true),zTD9_18,zTD9_15,zTD9_12,zTD9_9,zTD9_6,zTD9_3,(.sl 3 [zTD9_2] [] .true),(.sl 3 [(.agg [(.int .i64 1),(.str []),.nils])] [] .true)])

noncomputable def hTD9e0 : Hps := [(344147139494897,zTD9_0),(344147139494786,zTD9_1),(344147139494689,zTD9_4),(344147139494603,zTD9_7),(344147139494528,zTD9_10),(344147139494464,zTD9_13),(344147139494411,zTD9_16),(344147139494369,zTD9_19),(344147139494338,(.row 3 [(.agg [(.int .i64 2),(.str [115,117,99]),(.sl 3 [(.agg [(.int .i64 2),(.str [122,101,114,111]),.nils])] [] .true)])])),(344147139494318,(.row 3 [(.agg [(.int .i64 2),(.str [122,101,114,111]),.nils])])),(339749092983149,zEZ_0),(329853488333156,zEZ_1),(325455441822043,zEZ_0),(267181325549878,zEZ_1),(262783279038752,zEZ_2),(252887674388759,zEZ_3),(178120883699937,zEZ_3),(173722837188811,zEZ_4),(163827232538818,zEZ_5),(89060441849996,zEZ_5),(84662395338870,zEZ_6),(74766790688877,zEZ_7),(55,zEZ_7),(32,(.row 1 [(.agg [(.ms 17 339749092983149 0 4 .false)])])),(27,(.row 2 [(.agg [(.ms 17 325455441822043 0 4 .false),(.mp 22)])])),(22,zEZ_8),(21,(.row 1 [(.agg [(.mp 22)])]))]
noncomputable def aTD9e0 : List D := [(.ptr 27 0 0),(.ms 1 344147139494897 0 10 .false)]
noncomputable def rTD9e0 : Rd := (.ok (.tup [(.agg [(.bool .false),(.int .i64 0),(.int .i64 0),(.sl 1 [(.str [122,101,114,111]),(.str [115,117,99])] [] .false),(.sl 5 [(.agg [(.bool .true),(.int .i64 0),(.int .i64 0),.nils,.nils]),(.agg [(.bool .false),(.int .i64 0),(.int .i64 0),(.sl 1 [(.str [122,101,114,111]),(.str [115,117,99])] [] .false),(.sl 5 [(.agg [(.bool .true),(.int .i64 1),(.int .i64 0),.nils,.nils]),(.agg [(.bool .false),(.int .i64 0),(.int .i64 0),(.sl 1 [(.str [122,101,114,111]),(.str [115,117,99])] [] .false),(.sl 5 [(.agg [(.bool .true),(.int .i64 2),(.int .i64 0),.nils,.nils]),(.agg [(.bool .false),(.int .i64 0),(.int .i64 0),(.sl 1 [(.str [122,101,114,111]),(.str [115,117,99])] [] .false),(.sl 5 [(.agg [(.bool .true),(.int .i64 3),(.int .i64 0),.nils,.nils]),(.agg [(.bool .false),(.int .i64 0),(.int .i64 0),(.sl 1 [(.str [122,101,114,111]),(.str [115,117,99])] [] .false),(.sl 5 [(.agg [(.bool .true),(.int .i64 4),(.int .i64 0),.nils,.nils]),(.agg [(.bool .false),(.int .i64 0),(.int .i64 0),(.sl 1 [(.str [122,101,114,111]),(.str [115,117,99])] [] .false),(.sl 5 [(.agg [(.bool .true),(.int .i64 5),(.int .i64 0),.nils,.nils]),(.agg [(.bool .false),(.int .i64 0),(.int .i64 0),(.sl 1 [(.str [122,101,114,111]),(.str [115,117,99])] [] .false),(.sl 5 [(.agg [(.bool .true),(.int .i64 6),(.int .i64 0),.nils,.nils]),(.agg [(.bool .false),(.int .i64 0),(.int .i64 0),(.sl 1 [(.str [122,101,114,111]),(.str [115,117,99])] [] .false),(.sl 5 [(.agg [(.bool .true),(.int .i64 7),(.int .i64 0),.nils,.nils]),(.agg [(.bool .false),(.int .i64 0),(.int .i64 0),(.sl 1 [(.str [122,101,114,111]),(.str [115,117,99])] [] .false),(.sl 5 [(.agg [(.bool .true),(.int .i64 8),(.int .i64 0),.nils,.nils]),(.agg [(.bool .true),(.int .i64 9),(.int .i64 0),.nils,.nils])] [] .false)])] [] .false)])] [] .false)])] [] .false)])] [] .false)])] [] .false)])] [] .false)])] [] .false)])] [] .false)]),(.int .i64 0)]) 344147139494902 [(22,zEZ_8),(325455441822043,zEZ_0),(27,(.row 2 [(.agg [(.ms 17 325455441822043 0 4 .false),(.mp 22)])])),(344147139494897,zTD9_0),(344147139494786,zTD9_1),(344147139494689,zTD9_4),(344147139494603,zTD9_7),(344147139494528,zTD9_10),(344147139494464,zTD9_13),(344147139494411,zTD9_16),(344147139494369,zTD9_19),(344147139494338,(.row 3 [(.agg [(.int .i64 2),(.str [115,117,99]),(.sl 3 [(.agg [(.int .i64 2),(.str [122,101,114,111]),.nils])] [] .true)])])),(344147139494318,(.row 3 [(.agg [(.int .i64 2),(.str [122,101,114,111]),.nils])])),(339749092983149,zEZ_0),(329853488333156,zEZ_1),(267181325549878,zEZ_1),(262783279038752,zEZ_2),(252887674388759,zEZ_3),(178120883699937,zEZ_3),(173722837188811,zEZ_4),(163827232538818,zEZ_5),(89060441849996,zEZ_5),(84662395338870,zEZ_6),(74766790688877,zEZ_7),(55,zEZ_7),(32,(.row 1 [(.agg [(.ms 17 339749092983149 0 4 .false)])])),(21,(.row 1 [(.agg [(.mp 22)])]))])
theorem rTD9e0_run : runH mEB uD 100000 21 344147139494902 hTD9e0 aTD9e0 = rTD9e0 := by kernel_rfl
noncomputable def mTD9e0 : List ME := ⟨21,344147139494902,hTD9e0,aTD9e0,rTD9e0⟩ :: mEB
theorem mTD9e0_ok : MOk (cFk kQ Tryz.prog) mTD9e0 := ⟨runH_ok mEB_ok uD_ok (fun h => by cases h) rTD9e0_run,mEB_ok⟩

noncomputable def mTD9 : List ME := mTD9e0
theorem mTD9_ok : MOk (cFk kQ Tryz.prog) mTD9 := mTD9e0_ok

end Go.Proofs.YtknnbjoagigmgaaGreat
