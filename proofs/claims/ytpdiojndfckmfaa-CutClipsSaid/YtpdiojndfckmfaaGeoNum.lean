/- In this seat the parts of num stand in the texts Num..; this one only names them. -/
import Derived.Test.YtpdiojndfckmfaaNumK
