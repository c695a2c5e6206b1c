/- What calls tell that closed runs meet. No condition. -/
import Derived.Test.YtknnbjoagigmgaaGreatUC
import Derived.Test.YtknnbjoagigmgaaGreatEB
import Derived.Test.YtknnbjoagigmgaaGreatEZ
set_option linter.unusedSimpArgs false
set_option linter.unusedVariables false
namespace Go.Proofs.YtknnbjoagigmgaaGreat
open Go
set_option maxRecDepth 100000

noncomputable def zTC1_2 : Ob := (.row 1 [(.sl 3 [(.agg [(.int .i64 2),(.str [110,111]),.nils])] [] .false),(.sl 3 [(.agg [(.int .i64 2),(.str [121,101,115]),.nils])] [] .false)])

noncomputable def zTC1_3 : D := (.sl 5 [(.agg [(.bool .true),(.int .i64 1),(.int .i64 0),.nils,.nils]),(.agg [(.bool .true),(.int .i64 0),(.int .i64 0),.nils,.nils])] [] .false)

noncomputable def zTC1_1 : D := (.agg [(.bool .false),(.int .i64 0),(.int .i64 0),(.sl 1 [(.str [121,101,115]),(.str [110,111])] [] .false),zTC1_3])

noncomputable def zTC1_0 : Ob := (.row 5 [zTC1_1])

noncomputable def hTC1e0 : Hps := [(344147139494338,zTC1_2),(339749092983149,zEZ_0),(329853488333156,zEZ_1),(325455441822043,zEZ_0),(267181325549878,zEZ_1),(262783279038752,zEZ_2),(252887674388759,zEZ_3),(178120883699937,zEZ_3),(173722837188811,zEZ_4),(163827232538818,zEZ_5),(89060441849996,zEZ_5),(84662395338870,zEZ_6),(74766790688877,zEZ_7),(55,zEZ_7),(32,(.row 1 [(.agg [(.ms 17 339749092983149 0 4 .false)])])),(27,(.row 2 [(.agg [(.ms 17 325455441822043 0 4 .false),(.mp 22)])])),(22,zEZ_8),(21,(.row 1 [(.agg [(.mp 22)])]))]
noncomputable def aTC1e0 : List D := [(.ptr 27 0 0),(.ms 1 344147139494338 0 2 .false)]
noncomputable def rTC1e0 : Rd := (.ok (.tup [zTC1_1,(.int .i64 0)]) 344147139494350 [(22,zEZ_8),(325455441822043,zEZ_0),(27,(.row 2 [(.agg [(.ms 17 325455441822043 0 4 .false),(.mp 22)])])),(344147139494338,zTC1_2),(339749092983149,zEZ_0),(329853488333156,zEZ_1),(267181325549878,zEZ_1),(262783279038752,zEZ_2),(252887674388759,zEZ_3),(178120883699937,zEZ_3),(173722837188811,zEZ_4),(163827232538818,zEZ_5),(89060441849996,zEZ_5),(84662395338870,zEZ_6),(74766790688877,zEZ_7),(55,zEZ_7),(32,(.row 1 [(.agg [(.ms 17 339749092983149 0 4 .false)])])),(21,(.row 1 [(.agg [(.mp 22)])]))])
theorem rTC1e0_run : runH mEB uC 100000 21 344147139494350 hTC1e0 aTC1e0 = rTC1e0 := by kernel_rfl
noncomputable def mTC1e0 : List ME := ⟨21,344147139494350,hTC1e0,aTC1e0,rTC1e0⟩ :: mEB
theorem mTC1e0_ok : MOk (cFk kQ Tryz.prog) mTC1e0 := ⟨runH_ok mEB_ok uC_ok (fun h => by cases h) rTC1e0_run,mEB_ok⟩

noncomputable def hTC1e1 : Hps := [(344147139494354,zTC1_0),(22,zEZ_8),(325455441822043,zEZ_0),(27,(.row 2 [(.agg [(.ms 17 325455441822043 0 4 .false),(.mp 22)])])),(344147139494338,zTC1_2),(339749092983149,zEZ_0),(329853488333156,zEZ_1),(267181325549878,zEZ_1),(262783279038752,zEZ_2),(252887674388759,zEZ_3),(178120883699937,zEZ_3),(173722837188811,zEZ_4),(163827232538818,zEZ_5),(89060441849996,zEZ_5),(84662395338870,zEZ_6),(74766790688877,zEZ_7),(55,zEZ_7),(32,(.row 1 [(.agg [(.ms 17 339749092983149 0 4 .false)])])),(21,(.row 1 [(.agg [(.mp 22)])]))]
noncomputable def aTC1e1 : List D := [(.ptr 27 0 0),(.ms 1 344147139494338 1 1 .false)]
noncomputable def rTC1e1 : Rd := (.ok (.tup [(.agg [(.bool .false),(.int .i64 0),(.int .i64 0),.nils,.nils]),(.int .i64 54)]) 358440790655453 [(22,zEZ_8),(325455441822043,zEZ_0),(27,(.row 2 [(.agg [(.ms 17 325455441822043 0 4 .false),(.mp 22)])])),(344147139494354,zTC1_0),(344147139494338,zTC1_2),(339749092983149,zEZ_0),(329853488333156,zEZ_1),(267181325549878,zEZ_1),(262783279038752,zEZ_2),(252887674388759,zEZ_3),(178120883699937,zEZ_3),(173722837188811,zEZ_4),(163827232538818,zEZ_5),(89060441849996,zEZ_5),(84662395338870,zEZ_6),(74766790688877,zEZ_7),(55,zEZ_7),(32,(.row 1 [(.agg [(.ms 17 339749092983149 0 4 .false)])])),(21,(.row 1 [(.agg [(.mp 22)])]))])
theorem rTC1e1_run : runH mTC1e0 uC 100000 21 358440790655453 hTC1e1 aTC1e1 = rTC1e1 := by kernel_rfl
noncomputable def mTC1e1 : List ME := ⟨21,358440790655453,hTC1e1,aTC1e1,rTC1e1⟩ :: mTC1e0
theorem mTC1e1_ok : MOk (cFk kQ Tryz.prog) mTC1e1 := ⟨runH_ok mTC1e0_ok uC_ok (fun h => by cases h) rTC1e1_run,mTC1e0_ok⟩

noncomputable def mTC1 : List ME := mTC1e1
theorem mTC1_ok : MOk (cFk kQ Tryz.prog) mTC1 := mTC1e1_ok

end Go.Proofs.YtknnbjoagigmgaaGreat
