/- What calls of Parse and Resolve tell, run by themselves. No condition. -/
import Derived.Test.YtpbpmpabndgeeaaGreatDoorEL
set_option linter.unusedSimpArgs false
set_option linter.unusedVariables false
namespace Go.Proofs.YtpbpmpabndgeeaaGreatDoor
open Go
set_option maxRecDepth 100000

theorem rE72_run : runQ [] uA 100000 9 29 [(.str [112,111,115,116,117,108,97,116,101,10,32,32,95,43,95,32,95,42,95,32,95,61,61,95,32,95,94,95,32,33,95,32,95,63,32,105,102,95,116,104,101,110,95,101,108,115,101,95,32,91,95,93,32,58,32,65,10,32,32,97,32,98,32,99,32,58,32,65,10,105,110,102,105,120,108,32,54,32,95,43,95,10,105,110,102,105,120,108,32,55,32,95,42,95,10,105,110,102,105,120,32,52,32,95,61,61,95,10,105,110,102,105,120,114,32,56,32,95,94,95,10,105,110,102,105,120,32,57,32,33,95,10,120,32,61,32,33,32,97,32,63])] = (.ok (.tup [fd99,(.int .i64 0),(.int .i64 0)]) 29 []) := by kernel_rfl

theorem rE73_run : runQ [] uA 100000 10 41 [fd99] = (.ok (.tup [(.sl 26 [fd1,fd14,fd15,fd16,fd17,fd18,(.agg [(.int .i64 2),(.int .i64 0),(.str []),(.str []),.nils,.nils,(.int .i64 5),(.int .i64 0),(.str []),(.bool false),.nils,(.sl 7 [fd60,(.agg [(.int .i64 5),(.int .i64 0),(.str []),(.bool false),.nils,(.sl 7 [(.agg [(.int .i64 2),(.int .i64 0),(.str [95,63]),(.bool false),.nils,.nils,(.int .i64 138)]),fd58] [] false),(.int .i64 138)])] [] false),(.int .i64 136),(.int .i64 2),(.int .i64 0),(.str [120]),(.bool false),.nils,.nils,(.int .i64 132),.nils,(.bool false),.nils,.nils,.nils,(.int .i64 132)])] [] false),(.int .i64 0),(.int .i64 0)]) 41 []) := by kernel_rfl
end Go.Proofs.YtpbpmpabndgeeaaGreatDoor
